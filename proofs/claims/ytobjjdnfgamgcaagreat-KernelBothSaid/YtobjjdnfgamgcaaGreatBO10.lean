/- The composition and every mixture of two kernels leave the posterior invariant, at every input. (part 10 of 13) -/
import Derived.OrdersHeld
import Derived.Below
import Derived.Tactics
import Derived.KernelRfl
import Derived.RangeFuncCalls
import Derived.RangeFuncFrom
import Derived.RangeFuncLeaves
import Derived.OrdersIn
import Derived.Laws.AppendOwn
import Derived.Laws.MakeOwn
import Derived.Laws.CopyRow
import Derived.Laws.Cells
import Derived.Laws.World
import Derived.Laws.Alloc2
import Derived.Laws.NewBlocks
import Derived.Maps.AppendAt
import Derived.Test.YtobjjdnfgamgcaaGreatProg
import Init.Data.List.Lemmas
import Init.Omega
import Derived.WalkKit
import Derived.ProofKit
import Derived.OpenShut
import Derived.ChangeOld
import Derived.SizedLaws
import Derived.ChangeSlices
import Derived.ChangeArms
import Derived.Deep.Slices
import Derived.MapKept
import Derived.Maps.RangeRun
import Derived.Shelf.SlSortCmp.WholeK
import Derived.Lib.QuietBelow
import Derived.Test.YtobjjdnfgamgcaaGreatBO9
set_option linter.unusedVariables false
set_option linter.unusedSimpArgs false
section
namespace Go.Proofs.YtobjjdnfgamgcaaGreat
open Go Go.RowKit
attribute [local irreducible] XWP Spec SpecO XPub XCall seqX clX apX stX ldX iaX slX
def rvE : View → List Value → Rn → Prop := fun V cs r => rnE V cs r ∧ ∃ d t, trE d V ((cs.drop 2).take 3) t
theorem rvE_ok : ElKOk rvE := fun V V' cs r hV ⟨h1, d, t, h2⟩ => ⟨rnE_ok V V' cs r hV h1, d, t, trE_ok d V V' _ t hV h2⟩
theorem SlK.rn {V : View} {v : Value} {l : List Rn} (h : SlK 9 rvE V v l) : SlK 9 rnE V v l := h.imp fun _ _ _ h => h.1
def shortP (l : List Rn) : Prop := l.length ≤ 24 ∧ ∀ r ∈ l, r.ds.length ≤ 8 ∧ (l.length ≤ 14 ∨ r.ds.length ≤ 3) ∧ r.w.nd.length ≤ 4 ∧ r.w.dd.length ≤ 4
set_option maxHeartbeats 2000000 in
theorem short33_c (V : View) (v : Value) (l : List Rn) (h : SlK 9 rvE V v l) : Spec Tryz.prog 7 [v] V fun v' V' => ∃ b, v' = .bool b ∧ (b = true → shortP l) := by
 obtain ⟨A, cL, rfl, hc, hm⟩ := h.form
 refine (Spec.enter Tryz.func7 rfl fun Γ => ?_)
 simp only [Tryz.ntmps7, List.map_cons, List.map_nil, List.length_cons, List.length_nil, Nat.reduceAdd, Nat.reduceSub, List.replicate_succ, List.replicate_zero, List.cons_append, List.nil_append]
 refine Gx.a (by kernel_rfl) fun K hK => ?_
 simp only [XA]
 refine hK _ ?_
 refine XWP.seq ?_
 by_cases h24 : 24 < l.length
 ·have b1 : decide ((24 : Int) < (l.length : Int)) = true := decide_eq_true (by omega)
  refine Gx.a (by kernel_rfl) fun K hK => ?_
  simp only [XU, XA, XB, b1]
  refine hK _ ?_
  refine Gx.t rfl ?_
  refine Gx.a (by kernel_rfl) fun K hK => ?_
  simp only [XA]
  refine hK _ (XWP.ret ?_)
  try simp only [thenX_ret, inBlockX_ret]
  refine ret_go _ rfl ?_
  exact ⟨false, rfl, fun h => by cases h⟩
 have b1 : decide ((24 : Int) < (l.length : Int)) = false := decide_eq_false (by omega)
 refine Gx.a (by kernel_rfl) fun K hK => ?_
 simp only [XU, XA, XB, b1]
 refine hK _ ?_
 refine Gx.f rfl ?_
 refine XWP.skip ?_
 refine XWP.cut (fun s => ∃ (V2 : View), StIs (fun Z => [Z 0,Z 1,Z 2,Z 3,Z 4,Z 5,Z 6,Z 7,Z 8,Z 9,Z 10,Z 11,Z 12,Z 13,Z 14,Z 15,Z 16,Z 17,Z 18,Z 19,Z 20,Z 21,Z 22,Z 23,Z 24,Z 25,Z 26,Z 27,Z 28,Z 29,Z 30,Z 31,Z 32,Z 33,Z 34,Z 35,Z 36,Z 37,Z 38,Z 39,Z 40,Z 41,Z 42,Z 43,Z 44,Z 45,Z 46,Z 47,Z 48,Z 49,Z 50,Z 51,Z 52,Z 53,Z 54,Z 55,Z 56,Z 57,Z 58,Z 59,Z 60,Z 61,Z 62,Z 63]) [] (fun _ => none) V2 s ∧ shortP l) ?_ ?_
 rotate_left
 ·rintro s ⟨V2, hs, hp⟩
  obtain ⟨z, rfl⟩ := hs.out
  try dsimp only
  refine Gx.a (by kernel_rfl) fun K hK => ?_
  simp only [XA]
  refine hK _ (XWP.ret ?_)
  try simp only [thenX_ret, inBlockX_ret]
  refine ret_go _ rfl ?_
  exact ⟨true, rfl, fun _ => hp⟩
 refine Gx.a (by kernel_rfl) fun K hK => ?_
 simp only [XU, XA]
 refine hK _ ?_
 clear hK
 refine XWP.block ?_
 refine XWP.loop (fun q s => ∃ (k : Nat) (V2 : View), StIs (fun Z => [.v (.slice A l.length cL), Z 1,Z 2,Z 3,Z 4,Z 5,Z 6, .v (.slice A l.length cL), .v (.int .i64 (l.length : Int)), .v (.int .i64 (k : Int)), Z 10,Z 11,Z 12,Z 13,Z 14,Z 15,Z 16,Z 17,Z 18,Z 19,Z 20,Z 21,Z 22,Z 23,Z 24,Z 25,Z 26,Z 27,Z 28,Z 29,Z 30,Z 31,Z 32,Z 33,Z 34,Z 35,Z 36,Z 37,Z 38,Z 39,Z 40,Z 41,Z 42,Z 43,Z 44,Z 45,Z 46,Z 47,Z 48,Z 49,Z 50,Z 51,Z 52,Z 53,Z 54,Z 55,Z 56,Z 57,Z 58,Z 59,Z 60,Z 61,Z 62,Z 63]) [] (fun _ => none) V2 s ∧ q + k = l.length ∧ V.le V2 ∧ ∀ r ∈ l.take k, r.ds.length ≤ 8 ∧ (l.length ≤ 14 ∨ r.ds.length ≤ 3) ∧ r.w.nd.length ≤ 4 ∧ r.w.dd.length ≤ 4) l.length ⟨0, V, StIs.of (by exact rfl), by omega, View.le_refl _, fun r hr => by simp at hr⟩ ?_
 rintro q s ⟨k, V2, hs, hq, hV2, hall⟩
 obtain ⟨z, rfl⟩ := hs.out
 try dsimp only
 clear hs
 by_cases hk : k < l.length
 rotate_left
 ·obtain rfl : k = l.length := by omega
  have bt1 : decide (((l.length : Nat) : Int) < ((l.length : Nat) : Int)) = false := decide_eq_false (by omega)
  refine Gx.a (by kernel_rfl) fun K hK => ?_
  simp only [XA, XB, bt1]
  refine hK _ ?_
  refine XWP.seq (Gx.f rfl ?_)
  refine XWP.exit ?_
  rw [List.take_length] at hall
  exact ⟨V2, StIs.of (by exact rfl), by omega, hall⟩
 have bt1 : decide ((k : Int) < (l.length : Int)) = true := decide_eq_true (by omega)
 refine Gx.a (by kernel_rfl) fun K hK => ?_
 simp only [XA, XB, bt1]
 refine hK _ ?_
 refine XWP.seq (Gx.t rfl ?_)
 refine XWP.skip ?_
 obtain ⟨r, hrk⟩ : ∃ r, l[k]? = some r := ⟨_, List.getElem?_eq_getElem hk⟩
 have er : l[k] = r := (List.getElem?_eq_some_iff.1 hrk).2
 have etk : l.take (k + 1) = l.take k ++ [r] := by rw [List.take_add_one, hrk]; rfl
 have h2 := h.mono rvE_ok hV2
 obtain ⟨bL, oL, rfl⟩ := SlK.addr h2 (by omega)
 obtain ⟨cs, hcs, hcell⟩ := SlK.get h2 k hk
 rw [er] at hcs
 obtain ⟨_, hone, ⟨c1, c2, c3, c4, dv, m, c7, c8, rfl, hds, n7, d8, eq, k7, k8⟩, dd, tt, htr⟩ := hcs
 cases eq
 obtain ⟨A1, q1, rfl, _, _⟩ := hds.form
 obtain ⟨A7, q7, rfl, _, _⟩ := k7.form
 obtain ⟨A8, q8, rfl, _, _⟩ := k8.form
 have x5 := fun H => loads1 (H := H) shapeT_45 (hcell H 5 _ rfl)
 have x7 := fun H => loads1 (H := H) shapeT_47 (hcell H 7 _ rfl)
 have x8 := fun H => loads1 (H := H) shapeT_47 (hcell H 8 _ rfl)
 have x2 := fun H => loadsK (H := H) (b := bL) (off := oL + k * 9 + 2) (cs := [c2, c3, c4]) shapeT_42 rfl (fun j u hj => by
  match j, hj with
  | 0, hj => exact hcell H 2 u hj
  | 1, hj => exact hcell H 3 u hj
  | 2, hj => exact hcell H 4 u hj)
 have htr : trE dd V2 [c2, c3, c4] tt := htr
 refine XWP.cut (fun s => ∃ (V3 : View), StIs (fun Z => [.v (.slice (some ⟨bL, oL, none⟩) l.length cL), Z 1,Z 2,Z 3,Z 4,Z 5,Z 6, .v (.slice (some ⟨bL, oL, none⟩) l.length cL), .v (.int .i64 (l.length : Int)), .v (.int .i64 (k : Int)), Z 10,Z 11,Z 12,Z 13,Z 14,Z 15,Z 16,Z 17,Z 18,Z 19,Z 20,Z 21,Z 22,Z 23,Z 24,Z 25,Z 26,Z 27,Z 28,Z 29,Z 30,Z 31,Z 32,Z 33,Z 34,Z 35,Z 36,Z 37,Z 38,Z 39,Z 40,Z 41,Z 42,Z 43,Z 44,Z 45,Z 46,Z 47,Z 48,Z 49,Z 50,Z 51,Z 52,Z 53,Z 54,Z 55,Z 56,Z 57,Z 58,Z 59,Z 60,Z 61,Z 62,Z 63]) [] (fun _ => none) V3 s ∧ V2.le V3 ∧ r.ds.length ≤ 8 ∧ (l.length ≤ 14 ∨ r.ds.length ≤ 3) ∧ r.w.nd.length ≤ 4 ∧ r.w.dd.length ≤ 4) ?_ ?_
 rotate_left
 ·rintro s ⟨V3, hs, hV3, hr⟩
  obtain ⟨z, rfl⟩ := hs.out
  try dsimp only
  clear hs
  refine Gx.c (by kernel_rfl) fun K hK => ?_
  simp only [XA, XB, i64_succ k (by omega)]
  refine hK _ ⟨q - 1, by omega, k + 1, V3, StIs.of (by exact rfl), by omega, View.le_trans hV2 hV3, fun x hx => ?_⟩
  rw [etk] at hx
  rcases List.mem_append.1 hx with hx | hx
  ·exact hall x hx
  ·rw [List.mem_singleton.1 hx]; exact hr
 clear hK
 refine XWP.block ?_
 refine Gx.a (by kernel_rfl) fun K hK => ?_
 simp only [XA]
 refine hK _ ?_
 have hno : ∃ b, Value.bool false = .bool b ∧ (b = true → shortP l) := ⟨false, rfl, fun h => by cases h⟩
 by_cases p1 : 8 < r.ds.length
 ·have t1 : decide ((8 : Int) < (r.ds.length : Int)) = true := decide_eq_true (by omega)
  refine Gx.a (by kernel_rfl) fun K hK => ?_
  simp only [XU, XA]
  refine ⟨by omega, by omega, ld_mem (x5 _) ?_⟩
  simp only [XU, XA, XB, gateX, ↓reduceIte, t1]
  refine hK _ ?_
  refine Gx.t rfl ?_
  refine Gx.a (by kernel_rfl) fun K hK => ?_
  simp only [XA]
  refine hK _ (XWP.ret ?_)
  try simp only [thenX_ret, inBlockX_ret]
  refine ret_go _ rfl ?_
  exact hno
 have t1 : decide ((8 : Int) < (r.ds.length : Int)) = false := decide_eq_false (by omega)
 have key : l.length ≤ 14 ∨ (14 < l.length ∧ r.ds.length ≤ 3) ∨ (14 < l.length ∧ 3 < r.ds.length) := by omega
 rcases key with p2 | ⟨p2, p3⟩ | ⟨p2, p3⟩
 rotate_left 2
 ·have t2 : decide ((14 : Int) < (l.length : Int)) = true := decide_eq_true (by omega)
  have t3 : decide ((3 : Int) < (r.ds.length : Int)) = true := decide_eq_true (by omega)
  refine Gx.a (by kernel_rfl) fun K hK => ?_
  simp only [XU, XA]
  refine ⟨by omega, by omega, ld_mem (x5 _) ?_⟩
  simp only [XU, XA, XB, gateX, ↓reduceIte, beq_self_eq_true, t1, t2]
  refine ⟨by omega, by omega, ld_mem (x5 _) ?_⟩
  simp only [XU, XA, XB, gateX, ↓reduceIte, beq_self_eq_true, t3]
  refine hK _ ?_
  refine Gx.t rfl ?_
  refine Gx.a (by kernel_rfl) fun K hK => ?_
  simp only [XA]
  refine hK _ (XWP.ret ?_)
  try simp only [thenX_ret, inBlockX_ret]
  refine ret_go _ rfl ?_
  exact hno
 ·have t2 : decide ((14 : Int) < (l.length : Int)) = false := decide_eq_false (by omega)
  by_cases p4 : 4 < r.w.nd.length
  ·have t4 : decide ((4 : Int) < (r.w.nd.length : Int)) = true := decide_eq_true (by omega)
   refine Gx.a (by kernel_rfl) fun K hK => ?_
   simp only [XU, XA]
   refine ⟨by omega, by omega, ld_mem (x5 _) ?_⟩
   simp only [XU, XA, XB, gateX, ↓reduceIte, beq_self_eq_true, t1, t2]
   refine ⟨by omega, by omega, ld_mem (x7 _) ?_⟩
   simp only [XA, XB, gateX, ↓reduceIte, beq_self_eq_true, t4]
   refine hK _ ?_
   refine Gx.t rfl ?_
   refine Gx.a (by kernel_rfl) fun K hK => ?_
   simp only [XA]
   refine hK _ (XWP.ret ?_)
   try simp only [thenX_ret, inBlockX_ret]
   refine ret_go _ rfl ?_
   exact hno
  have t4 : decide ((4 : Int) < (r.w.nd.length : Int)) = false := decide_eq_false (by omega)
  by_cases p5 : 4 < r.w.dd.length
  ·have t5 : decide ((4 : Int) < (r.w.dd.length : Int)) = true := decide_eq_true (by omega)
   refine Gx.a (by kernel_rfl) fun K hK => ?_
   simp only [XU, XA]
   refine ⟨by omega, by omega, ld_mem (x5 _) ?_⟩
   simp only [XU, XA, XB, gateX, ↓reduceIte, beq_self_eq_true, t1, t2]
   refine ⟨by omega, by omega, ld_mem (x7 _) ?_⟩
   simp only [XU, XA, XB, gateX, ↓reduceIte, beq_self_eq_true, t4]
   refine ⟨by omega, by omega, ld_mem (x8 _) ?_⟩
   simp only [XA, XB, gateX, ↓reduceIte, beq_self_eq_true, t5]
   refine hK _ ?_
   refine Gx.t rfl ?_
   refine Gx.a (by kernel_rfl) fun K hK => ?_
   simp only [XA]
   refine hK _ (XWP.ret ?_)
   try simp only [thenX_ret, inBlockX_ret]
   refine ret_go _ rfl ?_
   exact hno
  have t5 : decide ((4 : Int) < (r.w.dd.length : Int)) = false := decide_eq_false (by omega)
  refine Gx.a (by kernel_rfl) fun K hK => ?_
  simp only [XU, XA]
  refine ⟨by omega, by omega, ld_mem (x5 _) ?_⟩
  simp only [XU, XA, XB, gateX, ↓reduceIte, beq_self_eq_true, t1, t2]
  refine ⟨by omega, by omega, ld_mem (x7 _) ?_⟩
  simp only [XU, XA, XB, gateX, ↓reduceIte, beq_self_eq_true, t4]
  refine ⟨by omega, by omega, ld_mem (x8 _) ?_⟩
  simp only [XU, XA, XB, gateX, ↓reduceIte, beq_self_eq_true, t5]
  refine ⟨by omega, by omega, ld_mem (x2 _) ?_⟩
  simp only [XA, gateX, ↓reduceIte, beq_self_eq_true]
  refine call_go (by kernel_rfl) rfl (many_c dd _ _ tt htr) fun v3 V3 hV3 h3 => ?_
  subst h3
  cases t6 : decide (50 < manyT dd tt)
  ·simp only [XA, XB, gateX, ↓reduceIte, beq_self_eq_true, t6]
   refine hK _ ?_
   refine Gx.f rfl ?_
   refine XWP.skip ?_
   exact ⟨V3, StIs.of (by exact rfl), hV3, by omega, .inl p2, by omega, by omega⟩
  ·simp only [XA, XB, gateX, ↓reduceIte, beq_self_eq_true, t6]
   refine hK _ ?_
   refine Gx.t rfl ?_
   refine Gx.a (by kernel_rfl) fun K hK => ?_
   simp only [XA]
   refine hK _ (XWP.ret ?_)
   try simp only [thenX_ret, inBlockX_ret]
   refine ret_go _ rfl ?_
   exact hno
 ·have t2 : decide ((14 : Int) < (l.length : Int)) = true := decide_eq_true (by omega)
  have t3 : decide ((3 : Int) < (r.ds.length : Int)) = false := decide_eq_false (by omega)
  by_cases p4 : 4 < r.w.nd.length
  ·have t4 : decide ((4 : Int) < (r.w.nd.length : Int)) = true := decide_eq_true (by omega)
   refine Gx.a (by kernel_rfl) fun K hK => ?_
   simp only [XU, XA]
   refine ⟨by omega, by omega, ld_mem (x5 _) ?_⟩
   simp only [XU, XA, XB, gateX, ↓reduceIte, beq_self_eq_true, t1, t2]
   refine ⟨by omega, by omega, ld_mem (x5 _) ?_⟩
   simp only [XU, XA, XB, gateX, ↓reduceIte, beq_self_eq_true, t3]
   refine ⟨by omega, by omega, ld_mem (x7 _) ?_⟩
   simp only [XA, XB, gateX, ↓reduceIte, beq_self_eq_true, t4]
   refine hK _ ?_
   refine Gx.t rfl ?_
   refine Gx.a (by kernel_rfl) fun K hK => ?_
   simp only [XA]
   refine hK _ (XWP.ret ?_)
   try simp only [thenX_ret, inBlockX_ret]
   refine ret_go _ rfl ?_
   exact hno
  have t4 : decide ((4 : Int) < (r.w.nd.length : Int)) = false := decide_eq_false (by omega)
  by_cases p5 : 4 < r.w.dd.length
  ·have t5 : decide ((4 : Int) < (r.w.dd.length : Int)) = true := decide_eq_true (by omega)
   refine Gx.a (by kernel_rfl) fun K hK => ?_
   simp only [XU, XA]
   refine ⟨by omega, by omega, ld_mem (x5 _) ?_⟩
   simp only [XU, XA, XB, gateX, ↓reduceIte, beq_self_eq_true, t1, t2]
   refine ⟨by omega, by omega, ld_mem (x5 _) ?_⟩
   simp only [XU, XA, XB, gateX, ↓reduceIte, beq_self_eq_true, t3]
   refine ⟨by omega, by omega, ld_mem (x7 _) ?_⟩
   simp only [XU, XA, XB, gateX, ↓reduceIte, beq_self_eq_true, t4]
   refine ⟨by omega, by omega, ld_mem (x8 _) ?_⟩
   simp only [XA, XB, gateX, ↓reduceIte, beq_self_eq_true, t5]
   refine hK _ ?_
   refine Gx.t rfl ?_
   refine Gx.a (by kernel_rfl) fun K hK => ?_
   simp only [XA]
   refine hK _ (XWP.ret ?_)
   try simp only [thenX_ret, inBlockX_ret]
   refine ret_go _ rfl ?_
   exact hno
  have t5 : decide ((4 : Int) < (r.w.dd.length : Int)) = false := decide_eq_false (by omega)
  refine Gx.a (by kernel_rfl) fun K hK => ?_
  simp only [XU, XA]
  refine ⟨by omega, by omega, ld_mem (x5 _) ?_⟩
  simp only [XU, XA, XB, gateX, ↓reduceIte, beq_self_eq_true, t1, t2]
  refine ⟨by omega, by omega, ld_mem (x5 _) ?_⟩
  simp only [XU, XA, XB, gateX, ↓reduceIte, beq_self_eq_true, t3]
  refine ⟨by omega, by omega, ld_mem (x7 _) ?_⟩
  simp only [XU, XA, XB, gateX, ↓reduceIte, beq_self_eq_true, t4]
  refine ⟨by omega, by omega, ld_mem (x8 _) ?_⟩
  simp only [XU, XA, XB, gateX, ↓reduceIte, beq_self_eq_true, t5]
  refine ⟨by omega, by omega, ld_mem (x2 _) ?_⟩
  simp only [XA, gateX, ↓reduceIte, beq_self_eq_true]
  refine call_go (by kernel_rfl) rfl (many_c dd _ _ tt htr) fun v3 V3 hV3 h3 => ?_
  subst h3
  cases t6 : decide (50 < manyT dd tt)
  ·simp only [XA, XB, gateX, ↓reduceIte, beq_self_eq_true, t6]
   refine hK _ ?_
   refine Gx.f rfl ?_
   refine XWP.skip ?_
   exact ⟨V3, StIs.of (by exact rfl), hV3, by omega, .inr p3, by omega, by omega⟩
  ·simp only [XA, XB, gateX, ↓reduceIte, beq_self_eq_true, t6]
   refine hK _ ?_
   refine Gx.t rfl ?_
   refine Gx.a (by kernel_rfl) fun K hK => ?_
   simp only [XA]
   refine hK _ (XWP.ret ?_)
   try simp only [thenX_ret, inBlockX_ret]
   refine ret_go _ rfl ?_
   exact hno
end Go.Proofs.YtobjjdnfgamgcaaGreat
end
section
namespace Go.Proofs.YtobjjdnfgamgcaaGreat
open Go Go.RowKit Go.ChangeShapes
section
variable {H : Type} {enc : TypeId × Value → H} {w : World} {base : Nat} {spare : Nat → Bool} {held : Bool}
theorem open_slk {α : Type} {sz : Nat} {E : View → List Value → α → Prop} {t e fuel : Nat} {v : Value} {x : DataW H × List MemPlace} (ht : elemT Tryz.prog t = some e) (hc : (Tryz.prog).cellsOf e = sz) (h0 : 0 < sz) (h : DataW.trod enc Tryz.prog w base spare held fuel t [v] = some x)
  (hel : ∀ n cs y, n < fuel → DataW.trod enc Tryz.prog w base spare held n e cs = some y → ∃ a, ElK sz E (viewW w) cs a) : ∃ l, SlK sz E (viewW w) v l := by
 rcases DataW.trod_slice (und_elem ht) h with ⟨hcs, _⟩ | ⟨a, len, cap, elems, rest, n, hfu, hcs, _, _, hl, hm, hlen, hx, _, _⟩
 ·cases hcs; exact ⟨[], SlK.nil _⟩
 ·cases hcs
  have key : ∀ i, i < len → ∃ r : α, ∃ cs : List Value, ElK sz E (viewW w) cs r ∧ ∀ j u, cs[j]? = some u → w.cell? (a.add (i * sz + j)) = some u := fun i hi => by
   have h1 := hx i hi
   rw [List.getElem?_eq_getElem (by omega), hc] at h1
   cases hcs : w.cells? base (a.add (i * sz)) sz with
   | none => rw [hcs] at h1; cases h1
   | some cs =>
    rw [hcs] at h1
    obtain ⟨r, hr⟩ := hel n cs _ (by omega) h1
    obtain ⟨_, _, h3⟩ := World.cells?_some hcs
    refine ⟨r, cs, hr, fun j u hj => ?_⟩
    have hjl := (List.getElem?_eq_some_iff.1 hj).1
    have := h3 j (by rw [← hr.1]; exact hjl)
    rw [Go.Deep.add_add] at this
    rw [this, hj]
  obtain ⟨l, hll, hq⟩ := choose_list len key
  refine ⟨l, some a, cap, by rw [hll], by omega, by unfold maxLen at hm; omega, ?_⟩
  rcases Nat.eq_zero_or_pos len with hz | hz
  ·exact .inl (List.length_eq_zero_iff.1 (by omega))
  ·obtain ⟨cs0, ⟨c0, _, _⟩, g0⟩ := hq 0 l[0] (List.getElem?_eq_getElem (by omega))
   have g0 := g0 0 cs0[0] (List.getElem?_eq_getElem (by omega))
   have e0 : a.add (0 * sz + 0) = a := by simp [Addr.add]
   rw [e0] at g0
   obtain ⟨hs, arr, ty, fr, hb, _⟩ := cell_view g0
   refine .inr ⟨a.block, a.off, arr, ty, fr, by rw [← addr_eta a hs], hb, fun i x hi => ?_⟩
   obtain ⟨cs, hx, hg⟩ := hq i x hi
   refine ⟨cs, hx, fun j u hj => ?_⟩
   have hk := hg j u hj
   obtain ⟨_, arr', ty', fr', hb', hv⟩ := cell_view hk
   obtain ⟨e1, e2⟩ := add_off a (i * sz + j)
   rw [e1, hb] at hb'
   cases hb'
   rw [e2, ← Nat.add_assoc] at hv; exact hv
noncomputable def fieldsOf (t : Nat) : Array Field := match (Tryz.prog).underlying t with
 | some (.struct fs) => fs
 | _ => #[]
theorem open_fields {t fuel : Nat} {cs : List Value} {x : DataW H × List MemPlace} {L : List (Nat × Nat)} (hu : (Tryz.prog).underlying t = some (.struct (fieldsOf t))) (hm : (fieldsOf t).toList.map (fun f => (f.type, f.offset)) = L) (h : DataW.trod enc Tryz.prog w base spare held fuel t cs = some x) :
  cs.length = (Tryz.prog).cellsOf t ∧ ∃ n, fuel = n + 1 ∧ ∀ (i ty off : Nat), L[i]? = some (ty, off) → ∃ y, DataW.trod enc Tryz.prog w base spare held n ty ((cs.drop off).take ((Tryz.prog).cellsOf ty)) = some y := by
 obtain ⟨xs, n, hfu, _, hl, hxl, hf⟩ := DataW.trod_struct hu h
 refine ⟨hl, n, hfu, fun i ty off hi => ?_⟩
 rw [← hm, List.getElem?_map] at hi
 cases hfi : (fieldsOf t).toList[i]? with
 | none => rw [hfi] at hi; cases hi
 | some f =>
  rw [hfi] at hi
  have hi : (f.type, f.offset) = (ty, off) := Option.some.inj hi
  cases hi
  have hfa : (fieldsOf t)[i]? = some f := by rw [← Array.getElem?_toList]; exact hfi
  have := hf i f hfa
  have hlt := (List.getElem?_eq_some_iff.1 hfi).1
  rw [List.getElem?_eq_getElem (by rw [hxl]; simpa using hlt)] at this
  exact ⟨_, this⟩
theorem und_intR : (Tryz.prog).underlying 3 = some (.int .i64) := by kernel_rfl
theorem cells_intR : (Tryz.prog).cellsOf 3 = 1 := by kernel_rfl
theorem und_val : (Tryz.prog).underlying 42 = some (.struct (fieldsOf 42)) := by kernel_rfl
theorem fs_val : (fieldsOf 42).toList.map (fun f => (f.type, f.offset)) = [(3, 0), (3, 1), (40, 2)] := by kernel_rfl
theorem cells_val : (Tryz.prog).cellsOf 42 = 3 := by kernel_rfl
theorem cells_vals : (Tryz.prog).cellsOf 40 = 1 := by kernel_rfl
theorem open_tree : ∀ (fuel : Nat) (cs : List Value) (x : DataW H × List MemPlace), DataW.trod enc Tryz.prog w base spare held fuel 42 cs = some x → ∃ t, ElK 3 (trE fuel) (viewW w) cs t := by
 intro fuel
 induction fuel using Nat.strongRecOn with
 | _ fuel ih =>
  intro cs x h
  obtain ⟨hl, n, rfl, hf⟩ := open_fields und_val fs_val h
  rw [cells_val] at hl
  obtain ⟨c0, c1, c2, rfl⟩ := three_of hl
  obtain ⟨y0, h0⟩ := hf 0 _ _ rfl
  obtain ⟨y1, h1⟩ := hf 1 _ _ rfl
  obtain ⟨y2, h2⟩ := hf 2 _ _ rfl
  rw [cells_intR] at h0 h1
  rw [cells_vals] at h2
  obtain ⟨a, E0, _⟩ := DataW.trod_int und_intR h0
  obtain ⟨b, E1, _⟩ := DataW.trod_int und_intR h1
  have e0 : c0 = .int .i64 a := by simpa using E0
  have e1 : c1 = .int .i64 b := by simpa using E1
  have h2 : DataW.trod enc Tryz.prog w base spare held n 40 [c2] = some y2 := h2
  subst e0
  subst e1
  obtain ⟨l, hl⟩ := open_slk (E := trE n) elemT_40 cells_val (by omega) h2 fun m cs y hm hy => by
   obtain ⟨t, ht⟩ := ih m (by omega) cs y hy
   exact ⟨t, ht.1, ht.2.1, trE_mono (by omega) ht.2.2⟩
  have o2 := hl.one
  refine ⟨.mk a b l, rfl, by simp only [List.all_cons, List.all_nil, o2]; rfl, c2, rfl, hl⟩
theorem und_drawn : (Tryz.prog).underlying 66 = some (.struct (fieldsOf 66)) := by kernel_rfl
theorem fs_drawn : (fieldsOf 66).toList.map (fun f => (f.type, f.offset)) = [(3, 0), (3, 1), (3, 2), (3, 3)] := by kernel_rfl
theorem cells_drawn : (Tryz.prog).cellsOf 66 = 4 := by kernel_rfl
theorem open_draw {fuel : Nat} {cs : List Value} {x : DataW H × List MemPlace} (h : DataW.trod enc Tryz.prog w base spare held fuel 66 cs = some x) : ∃ d, ElK 4 drE (viewW w) cs d := by
 obtain ⟨hl, n, rfl, hf⟩ := open_fields und_drawn fs_drawn h
 rw [cells_drawn] at hl
 rcases cs with _ | ⟨c0, _ | ⟨c1, _ | ⟨c2, _ | ⟨c3, _ | ⟨c4, cs⟩⟩⟩⟩⟩ <;> simp at hl
 obtain ⟨y0, h0⟩ := hf 0 _ _ rfl
 obtain ⟨y1, h1⟩ := hf 1 _ _ rfl
 obtain ⟨y2, h2⟩ := hf 2 _ _ rfl
 obtain ⟨y3, h3⟩ := hf 3 _ _ rfl
 rw [cells_intR] at h0 h1 h2 h3
 obtain ⟨a, E0, _⟩ := DataW.trod_int und_intR h0
 obtain ⟨b, E1, _⟩ := DataW.trod_int und_intR h1
 obtain ⟨c, E2, _⟩ := DataW.trod_int und_intR h2
 obtain ⟨d, E3, _⟩ := DataW.trod_int und_intR h3
 have e0 : c0 = .int .i64 a := by simpa using E0
 have e1 : c1 = .int .i64 b := by simpa using E1
 have e2 : c2 = .int .i64 c := by simpa using E2
 have e3 : c3 = .int .i64 d := by simpa using E3
 subst e0 e1 e2 e3
 exact ⟨⟨a, b, c, d⟩, rfl, rfl, rfl⟩
theorem und_out : (Tryz.prog).underlying 44 = some (.struct (fieldsOf 44)) := by kernel_rfl
theorem fs_out : (fieldsOf 44).toList.map (fun f => (f.type, f.offset)) = [(3, 0), (3, 1), (42, 2)] := by kernel_rfl
theorem cells_out : (Tryz.prog).cellsOf 44 = 5 := by kernel_rfl
theorem und_rn : (Tryz.prog).underlying 51 = some (.struct (fieldsOf 51)) := by kernel_rfl
theorem fs_rn : (fieldsOf 51).toList.map (fun f => (f.type, f.offset)) = [(44, 0), (45, 5), (49, 6)] := by kernel_rfl
theorem cells_rn : (Tryz.prog).cellsOf 51 = 9 := by kernel_rfl
theorem cells_drs : (Tryz.prog).cellsOf 45 = 1 := by kernel_rfl
theorem open_run {fuel : Nat} {cs : List Value} {x : DataW H × List MemPlace} (h : DataW.trod enc Tryz.prog w base spare held fuel 51 cs = some x) : ∃ r, ElK 9 rvE (viewW w) cs r := by
 obtain ⟨hl, n, rfl, hf⟩ := open_fields und_rn fs_rn h
 rw [cells_rn] at hl
 rcases cs with _ | ⟨c0, _ | ⟨c1, _ | ⟨c2, _ | ⟨c3, _ | ⟨c4, _ | ⟨c5, _ | ⟨c6, _ | ⟨c7, _ | ⟨c8, _ | ⟨c9, cs⟩⟩⟩⟩⟩⟩⟩⟩⟩⟩ <;> simp at hl
 obtain ⟨y0, h0⟩ := hf 0 _ _ rfl
 obtain ⟨y1, h1⟩ := hf 1 _ _ rfl
 obtain ⟨y2, h2⟩ := hf 2 _ _ rfl
 rw [cells_out] at h0
 rw [cells_drs] at h1
 rw [cells_rat] at h2
 have h0 : DataW.trod enc Tryz.prog w base spare held n 44 [c0, c1, c2, c3, c4] = some y0 := h0
 have h1 : DataW.trod enc Tryz.prog w base spare held n 45 [c5] = some y1 := h1
 have h2 : DataW.trod enc Tryz.prog w base spare held n 49 [c6, c7, c8] = some y2 := h2
 obtain ⟨_, m, rfl, hg⟩ := open_fields und_out fs_out h0
 obtain ⟨z0, g0⟩ := hg 0 _ _ rfl
 obtain ⟨z1, g1⟩ := hg 1 _ _ rfl
 obtain ⟨z2, g2⟩ := hg 2 _ _ rfl
 rw [cells_intR] at g0 g1
 rw [cells_val] at g2
 have g2 : DataW.trod enc Tryz.prog w base spare held m 42 [c2, c3, c4] = some z2 := g2
 obtain ⟨a, E0, _⟩ := DataW.trod_int und_intR g0
 obtain ⟨b, E1, _⟩ := DataW.trod_int und_intR g1
 have e0 : c0 = .int .i64 a := by simpa using E0
 have e1 : c1 = .int .i64 b := by simpa using E1
 subst e0 e1
 obtain ⟨t, ⟨_, ho, ht⟩⟩ := open_tree m _ _ g2
 obtain ⟨ds, hds⟩ := open_slk (E := drE) elemT_45 cells_drawn (by omega) h1 fun k cs y _ hy => open_draw hy
 obtain ⟨r, n', d', e2, k1, k2⟩ := open_rat h2
 cases e2
 have o5 := hds.one
 have o7 := k1.one
 have o8 := k2.one
 have ho : ([c2, c3, c4] : List Value).all isOne = true := ho
 have ht : trE m (viewW w) [c2, c3, c4] t := ht
 simp only [List.all_cons, List.all_nil, Bool.and_true, Bool.and_eq_true] at ho
 obtain ⟨o2, o3, o4⟩ := ho
 refine ⟨⟨a, ds, r⟩, rfl, ?_, ⟨.int .i64 b, c2, c3, c4, c5, .bool r.m, c7, c8, rfl, hds, c7, c8, rfl, k1, k2⟩, m, t, ht⟩
 simp only [List.all_cons, List.all_nil, o2, o3, o4, o5, o7, o8]; rfl
theorem open_runs {t fuel : Nat} {v : Value} {x : DataW H × List MemPlace} (ht : elemT Tryz.prog t = some 51) (h : DataW.trod enc Tryz.prog w base spare held fuel t [v] = some x) : ∃ l, SlK 9 rvE (viewW w) v l :=
 open_slk ht cells_rn (by omega) h fun n cs y _ hy => open_run hy
end
section
variable {H : Type} {enc : TypeId × Value → H} {w : World} {base : Nat} {spare : Nat → Bool} {held : Bool}
theorem cells_int : (Tryz.prog).cellsOf 3 = 1 := by kernel_rfl
theorem und_int : (Tryz.prog).underlying 3 = some (.int .i64) := by kernel_rfl
end
section
variable {H : Type} {enc : TypeId × Value → H} {w : World} {base : Nat} {spare : Nat → Bool} {held : Bool}
theorem okWide_array {P : Program} {w : World} {r : Reach} {base : Nat} {t : TypeId} {v : Value} {n : Nat} {e : TypeId} (ht : P.underlying t = some (.array n e)) (h : Value.okWide P w r base t v) : ∃ cs, v = .agg cs ∧ cs.size = P.cellsOf t := by
 simp only [Value.okWide, ht] at h
 obtain ⟨cs, h1, h2, _⟩ := h
 exact ⟨cs, h1, h2⟩
end
section
variable {H : Type} {enc : TypeId × Value → H} {w : World} {base : Nat} {spare : Nat → Bool} {held : Bool}
theorem und_arri : (Tryz.prog).underlying 53 = some (.array 3 3) := by kernel_rfl
theorem cells_arri : (Tryz.prog).cellsOf 53 = 3 := by kernel_rfl
theorem open_arri {fuel : Nat} {cs : List Value} {x : DataW H × List MemPlace} (h : DataW.trod enc Tryz.prog w base spare held fuel 53 cs = some x) : ∃ a b d : Int, cs = [.int .i64 a, .int .i64 b, .int .i64 d] := by
 obtain ⟨xs, m, _, _, hl, hxl, hf⟩ := DataW.trod_array und_arri h
 rw [cells_arri] at hl
 obtain ⟨v0, v1, v2, rfl⟩ := three_of hl
 have h0 := hf 0 (by omega)
 have h1 := hf 1 (by omega)
 have h2 := hf 2 (by omega)
 rw [cells_int, List.getElem?_eq_getElem (by omega)] at h0 h1 h2
 obtain ⟨a, e0, _⟩ := DataW.trod_int und_int h0
 obtain ⟨b, e1, _⟩ := DataW.trod_int und_int h1
 obtain ⟨d, e2, _⟩ := DataW.trod_int und_int h2
 simp at e0 e1 e2
 exact ⟨a, b, d, by rw [e0, e1, e2]⟩
end
end Go.Proofs.YtobjjdnfgamgcaaGreat
end
section
namespace Go.Proofs.YtobjjdnfgamgcaaGreat
open Go Go.RowKit
attribute [local irreducible] XWP Spec SpecO XPub XCall seqX clX apX stX ldX iaX slX
def srtRen : Go.Shelf.Ren := ⟨fun | 6 => 70 | 15 => 113 | 14 => 112 | 28 => 141 | 29 => 142 | 20 => 133 | 21 => 134 | 22 => 135 | 23 => 136 | 24 => 137 | 25 => 138 | 26 => 139 | 27 => 140 | 46 => 154 | 47 => 155 | 48 => 156 | 49 => 157 | 50 => 158 | 57 => 164 | n => n, fun | 22 => 24 | 24 => 49 | 25 => 68 | 3 => 3 | 39 => 116 | 0 => 0 | 53 => 123 | 55 => 98 | 4 => 4 | 46 => 135 | 45 => 134 | 50 => 139 | 5 => 5 | 9 => 9 | 66 => 150 | 70 => 154 | 76 => 158 | 77 => 159 | n => n, fun n => n⟩
theorem srtLay : Go.Proofs.SlLaysF0.n6 Tryz.prog srtRen where
 mixed := by kernel_rfl
 f6 := ⟨"slices.SortFunc[[]sortilege/api.Ratio,sortilege/api.Ratio]", by decide, Tryz.func70.trans (congrArg some (by kernel_rfl))⟩
 f14 := ⟨"slices.pdqsortCmpFunc[sortilege/api.Ratio]", by decide, Tryz.func112.trans (congrArg some (by kernel_rfl))⟩
 f15 := Tryz.func113.trans (congrArg some (by kernel_rfl))
 f20 := ⟨"slices.insertionSortCmpFunc[sortilege/api.Ratio]", by decide, Tryz.func133.trans (congrArg some (by kernel_rfl))⟩
 f21 := ⟨"slices.heapSortCmpFunc[sortilege/api.Ratio]", by decide, Tryz.func134.trans (congrArg some (by kernel_rfl))⟩
 f22 := ⟨"slices.breakPatternsCmpFunc[sortilege/api.Ratio]", by decide, Tryz.func135.trans (congrArg some (by kernel_rfl))⟩
 f23 := ⟨"slices.choosePivotCmpFunc[sortilege/api.Ratio]", by decide, Tryz.func136.trans (congrArg some (by kernel_rfl))⟩
 f24 := ⟨"slices.reverseRangeCmpFunc[sortilege/api.Ratio]", by decide, Tryz.func137.trans (congrArg some (by kernel_rfl))⟩
 f25 := ⟨"slices.partialInsertionSortCmpFunc[sortilege/api.Ratio]", by decide, Tryz.func138.trans (congrArg some (by kernel_rfl))⟩
 f26 := ⟨"slices.partitionEqualCmpFunc[sortilege/api.Ratio]", by decide, Tryz.func139.trans (congrArg some (by kernel_rfl))⟩
 f27 := ⟨"slices.partitionCmpFunc[sortilege/api.Ratio]", by decide, Tryz.func140.trans (congrArg some (by kernel_rfl))⟩
 f28 := Tryz.func141.trans (congrArg some (by kernel_rfl))
 f29 := Tryz.func142.trans (congrArg some (by kernel_rfl))
 f46 := ⟨"slices.siftDownCmpFunc[sortilege/api.Ratio]", by decide, Tryz.func154.trans (congrArg some (by kernel_rfl))⟩
 f47 := Tryz.func155.trans (congrArg some (by kernel_rfl))
 f48 := Tryz.func156.trans (congrArg some (by kernel_rfl))
 f49 := ⟨"slices.medianAdjacentCmpFunc[sortilege/api.Ratio]", by decide, Tryz.func157.trans (congrArg some (by kernel_rfl))⟩
 f50 := ⟨"slices.medianCmpFunc[sortilege/api.Ratio]", by decide, Tryz.func158.trans (congrArg some (by kernel_rfl))⟩
 f57 := ⟨"slices.order2CmpFunc[sortilege/api.Ratio]", by decide, Tryz.func164.trans (congrArg some (by kernel_rfl))⟩
 t0 := Tryz.underlying0
 a0 := Tryz.isAgg0
 z0 := Tryz.sizeOf0
 v0 := Tryz.zeroValue0
 t3 := Tryz.underlying3
 a3 := Tryz.isAgg3
 z3 := Tryz.sizeOf3
 v3 := Tryz.zeroValue3
 t4 := Tryz.underlying4
 a4 := Tryz.isAgg4
 z4 := Tryz.sizeOf4
 v4 := Tryz.zeroValue4
 t5 := Tryz.underlying5
 a5 := Tryz.isAgg5
 z5 := Tryz.sizeOf5
 v5 := Tryz.zeroValue5
 t9 := Tryz.underlying9
 a9 := Tryz.isAgg9
 z9 := Tryz.sizeOf9
 v9 := Tryz.zeroValue9
 t22 := Tryz.underlying24
 a22 := Tryz.isAgg24
 z22 := Tryz.sizeOf24
 v22 := Tryz.zeroValue24
 t25 := Tryz.underlying68
 a25 := Tryz.isAgg68
 z25 := Tryz.sizeOf68
 v25 := Tryz.zeroValue68
 t39 := Tryz.underlying116
 a39 := Tryz.isAgg116
 z39 := Tryz.sizeOf116
 v39 := Tryz.zeroValue116
 t45 := Tryz.underlying134
 a45 := Tryz.isAgg134
 z45 := Tryz.sizeOf134
 v45 := Tryz.zeroValue134
 t46 := Tryz.underlying135
 a46 := Tryz.isAgg135
 z46 := Tryz.sizeOf135
 v46 := Tryz.zeroValue135
 t50 := Tryz.underlying139
 a50 := Tryz.isAgg139
 z50 := Tryz.sizeOf139
 v50 := Tryz.zeroValue139
 t53 := Tryz.underlying123
 a53 := Tryz.isAgg123
 z53 := Tryz.sizeOf123
 v53 := Tryz.zeroValue123
 t55 := Tryz.underlying98
 a55 := Tryz.isAgg98
 z55 := Tryz.sizeOf98
 v55 := Tryz.zeroValue98
 t66 := Tryz.underlying150
 a66 := Tryz.isAgg150
 z66 := Tryz.sizeOf150
 v66 := Tryz.zeroValue150
 t70 := Tryz.underlying154
 a70 := Tryz.isAgg154
 z70 := Tryz.sizeOf154
 v70 := Tryz.zeroValue154
 t76 := Tryz.underlying158
 a76 := Tryz.isAgg158
 z76 := Tryz.sizeOf158
 v76 := Tryz.zeroValue158
 t77 := Tryz.underlying159
 a77 := Tryz.isAgg159
 z77 := Tryz.sizeOf159
 v77 := Tryz.zeroValue159
def RE (V : View) : Type := {p : List Value × Rat // p.1.length = 3 ∧ (∀ v ∈ p.1, isOne v = true) ∧ RatC V (.agg p.1.toArray) p.2 ∧ QF p.2}
def RE.enc {V : View} (x : RE V) : List Value := x.1.1
def RE.cmp {V : View} (x y : RE V) : Int := sgI (x.1.2 - y.1.2)
theorem sgI_neg_iff (p q : Rat) : sgI (p - q) < 0 ↔ p < q := by
 have hn : ng (p - q) = true ↔ p < q := by
  unfold ng
  rw [decide_eq_true_iff, ← Int.not_le, Rat.num_nonneg]
  constructor
  ·intro h; grind
  ·intro h; grind
 unfold sgI
 by_cases h : p - q = 0
 ·rw [if_pos h]
  constructor
  ·intro h'; omega
  ·intro h'; grind
 rw [if_neg h]
 by_cases h2 : ng (p - q) = true
 ·rw [if_pos h2]
  exact ⟨fun _ => hn.1 h2, fun _ => by omega⟩
 ·rw [if_neg h2]
  exact ⟨fun h' => by omega, fun h' => absurd (hn.2 h') h2⟩
theorem re_lt {V : View} (x y : RE V) : Go.Proofs.ltOf (RE.cmp (V := V)) x y = decide (x.1.2 < y.1.2) := by
 unfold Go.Proofs.ltOf RE.cmp
 rw [decide_eq_decide]; exact sgI_neg_iff _ _
theorem re_swo {V : View} : Go.Sort.SWO (Go.Proofs.ltOf (RE.cmp (V := V))) := ⟨fun x => by
  rw [re_lt]; exact decide_eq_false (by grind),
 fun x y z h1 h2 => by
  rw [re_lt] at h1 h2 ⊢
  have := of_decide_eq_true h1; have := of_decide_eq_true h2
  exact decide_eq_true (by grind),
 fun x y z h1 h2 => by
  rw [re_lt] at h1 h2 ⊢
  have := of_decide_eq_false h1; have := of_decide_eq_false h2
  exact decide_eq_false (by grind)⟩
theorem srt_other {α : Type} [Inhabited α] {enc : α → List Value} {k : Nat} {w : World} {g n : Nat} {d : Array α} {os : Array Obj} {b : Nat} (hb : b < w.heap.size) (hg : b ≠ g) : (Go.Proofs.sortWorldK enc k w g 0 n d os).heap[b]? = w.heap[b]? := by
 show ((w.heap.modify g _) ++ os)[b]? = _
 rw [Array.getElem?_append_left (by rw [Array.size_modify]; exact hb), Array.getElem?_modify, if_neg (fun e => hg e.symm)]
theorem srt_row {α : Type} [Inhabited α] {enc : α → List Value} {k : Nat} {w : World} {g n : Nat} {d : Array α} {os : Array Obj} {cells ex : List Value} {e : TypeId} (h : w.heap[g]? = some (.cells (cells ++ ex).toArray e (0, 0))) (hl : d.size * k = cells.length) :
  (Go.Proofs.sortWorldK enc k w g 0 n d os).heap[g]? = some (.cells ((Go.Sort.flatK enc k d).toList ++ ex).toArray e (0, 0)) := by
 have hb : g < w.heap.size := (Array.getElem?_eq_some_iff.1 h).1
 show ((w.heap.modify g (Go.Sort.onCells (Go.Sort.putCells id 0 (Go.Sort.flatK enc k d)))) ++ os)[g]? = _
 rw [Array.getElem?_append_left (by rw [Array.size_modify]; exact hb), Array.getElem?_modify, if_pos rfl, h]
 simp only [Option.map_some, Go.Sort.onCells]
 congr 2
 have hs : (Go.Sort.flatK enc k d).size = cells.length := by rw [Go.Sort.size_flatK]; exact hl
 apply Array.ext_getElem?
 intro j
 unfold Go.Sort.putCells
 rw [Array.getElem?_mapIdx, List.getElem?_toArray, List.getElem?_toArray]
 by_cases hj : j < cells.length
 ·rw [List.getElem?_append_left hj, List.getElem?_append_left (by rw [Array.length_toList, hs]; exact hj), List.getElem?_eq_getElem hj]
  simp only [Option.map_some, Nat.zero_le, Nat.zero_add, true_and, Nat.sub_zero, id]
  rw [if_pos (by rw [hs]; exact hj), Array.getElem?_toList, Array.getElem?_eq_getElem (by rw [hs]; exact hj), getElem!_pos _ j (by rw [hs]; exact hj)]
 ·rw [List.getElem?_append_right (by omega), List.getElem?_append_right (by rw [Array.length_toList, hs]; omega), show (Go.Sort.flatK enc k d).toList.length = cells.length from hs, hs]
  cases ex[j - cells.length]? with
  | none => rfl
  | some x =>
   simp only [Option.map_some]
   rw [if_neg (by omega)]
theorem blw_drewN {w w' : World} (h : Blw w.heap.size w w') : ∃ q os', w' = Go.Sort.grow (w.drewN q) os' := by
 obtain ⟨p, hp⟩ := regrown_of_below h.toBelow
 have hd := h.drw
 refine ⟨w'.drawn - w.drawn, p.os, ?_⟩
 rw [hp] at hd ⊢
 simp only [Go.Sort.grow, redrawn, World.drewN] at hd ⊢
 congr 1
 omega
theorem sort_row {V : View} (cells : List Value) (l : List Rat) (hr : RowAt ratE V cells l) (hq : ∀ x ∈ l, QF x) [Inhabited (RE V)] : ∃ d : Array (RE V), d.size = l.length ∧ d.toList.map (fun x => x.1.2) = l ∧ (Go.Sort.flatK RE.enc 3 d).toList = cells := by
 have hx : ∀ i, i < l.length → ∃ x : RE V, x.1.2 = l[i]! ∧ ∀ j, j < 3 → (x.1.1)[j]? = cells[i * 3 + j]? := fun i hi => by
  obtain ⟨m, n, d, g1, g2, g3, o1, o2, o3, hE⟩ := hr.2 i l[i] (List.getElem?_eq_getElem hi)
  refine ⟨⟨([m, n, d], l[i]), rfl, fun v hv => ?_, hE, hq _ (List.getElem_mem hi)⟩, by rw [getElem!_pos l i hi], fun j hj => ?_⟩
  ·simp only [List.mem_cons, List.not_mem_nil, or_false] at hv
   rcases hv with rfl | rfl | rfl <;> assumption
  ·dsimp only at g1 g2 g3
   match j, hj with
   | 0, _ => exact g1.symm
   | 1, _ => exact g2.symm
   | 2, _ => exact g3.symm
 refine ⟨Array.ofFn (n := l.length) fun i => Classical.choose (hx i.1 i.2), Array.size_ofFn, ?_, ?_⟩
 ·apply List.ext_getElem?
  intro i
  rw [List.getElem?_map, Array.getElem?_toList]
  by_cases hi : i < l.length
  ·rw [Array.getElem?_eq_getElem (by rw [Array.size_ofFn]; exact hi), Array.getElem_ofFn, List.getElem?_eq_getElem hi]
   simp only [Option.map_some]
   rw [(Classical.choose_spec (hx i hi)).1, getElem!_pos l i hi]
  ·rw [Array.getElem?_eq_none (by rw [Array.size_ofFn]; omega), List.getElem?_eq_none (by omega)]; rfl
 ·have hsz : (Array.ofFn (n := l.length) fun i => Classical.choose (hx i.1 i.2)).size = l.length := Array.size_ofFn
  generalize hd : (Array.ofFn (n := l.length) fun i => Classical.choose (hx i.1 i.2)) = d at hsz
  apply List.ext_getElem?
  intro t
  rw [Array.getElem?_toList]
  by_cases ht : t < l.length * 3
  ·have hs : t < (Go.Sort.flatK RE.enc 3 d).size := by rw [Go.Sort.size_flatK, hsz]; exact ht
   have h3 : t / 3 < l.length := by omega
   rw [Array.getElem?_eq_getElem hs, ← getElem!_pos _ t hs, Go.Sort.get_flatK _ _ _ _ (by rw [hsz]; exact ht), getElem!_pos d (t / 3) (by rw [hsz]; exact h3)]
   have e1 : d[t / 3]'(by rw [hsz]; exact h3) = Classical.choose (hx (t / 3) h3) := by subst hd; rw [Array.getElem_ofFn]
   have h2 := (Classical.choose_spec (hx (t / 3) h3)).2 (t % 3) (by omega)
   rw [e1, show t / 3 * 3 + t % 3 = t by omega] at *
   have hlen := (Classical.choose (hx (t / 3) h3)).2.1
   unfold RE.enc
   rw [getElem!_pos _ (t % 3) (by omega), ← h2, List.getElem?_eq_getElem]
  ·rw [Array.getElem?_eq_none (by rw [Go.Sort.size_flatK, hsz]; omega), List.getElem?_eq_none (by rw [hr.1]; omega)]
theorem row_sort {V : View} [Inhabited (RE V)] (d : Array (RE V)) : RowAt ratE V (Go.Sort.flatK RE.enc 3 d).toList (d.toList.map fun x => x.1.2) := by
 refine ⟨by rw [Array.length_toList, Go.Sort.size_flatK, List.length_map, Array.length_toList], fun i q hi => ?_⟩
 rw [List.getElem?_map, Array.getElem?_toList] at hi
 cases hdi : d[i]? with
 | none => rw [hdi] at hi; cases hi
 | some x =>
  rw [hdi] at hi
  simp only [Option.map_some, Option.some.injEq] at hi
  subst hi
  obtain ⟨hlt, hx⟩ := Array.getElem?_eq_some_iff.1 hdi
  obtain ⟨⟨cs, r⟩, h1, h2, h3, h4⟩ := x
  dsimp only at h1 h2 h3 h4 ⊢
  match cs, h1 with
  | [m, n, e], _ =>
   have get : ∀ (j : Nat) (v : Value), ([m, n, e] : List Value)[j]? = some v → (Go.Sort.flatK RE.enc 3 d).toList[i * 3 + j]? = some v := fun j v hv => by
    have hj := (List.getElem?_eq_some_iff.1 hv).1
    simp only [List.length_cons, List.length_nil] at hj
    have hs : i * 3 + j < (Go.Sort.flatK RE.enc 3 d).size := by rw [Go.Sort.size_flatK]; omega
    rw [Array.getElem?_toList, Array.getElem?_eq_getElem hs, ← getElem!_pos (Go.Sort.flatK RE.enc 3 d) (i * 3 + j) hs, Go.Sort.get_flatK _ _ _ _ (by omega), show (i * 3 + j) / 3 = i by omega, show (i * 3 + j) % 3 = j by omega, getElem!_pos d i hlt, hx, ← hv]
    unfold RE.enc
    exact (congrArg some (getElem!_pos ([m, n, e] : List Value) j hj)).trans (List.getElem?_eq_getElem hj).symm
   exact ⟨m, n, e, get 0 m rfl, get 1 n rfl, get 2 e rfl, h2 m (by simp), h2 n (by simp), h2 e (by simp), h3⟩
set_option maxHeartbeats 1000000 in
theorem csort_m (bx : List (List Value)) (H : Heap) (V : View) (g c : Nat) (cells : List Value) (l : List Rat) (e tot : Nat) (hg : H g = some ⟨e, cells, tot⟩) (hr : RowAt ratE V cells l) (hq : ∀ x ∈ l, QF x) (h0 : 0 < l.length) (hl : l.length ≤ 1000) :
  MSem Tryz.prog 70 [.slice (some ⟨g, 0, none⟩) l.length c, .func (.func 50) #[] #[]] bx H V fun v' H' V' => v' = .tuple #[] ∧ V' = V ∧ ∃ cells' l', H' = upd H g (some ⟨e, cells', tot⟩) ∧ cells'.length = cells.length ∧ RowAt ratE V cells' l' ∧ l'.Perm l ∧ l'.Pairwise (· ≤ ·) := by
 intro Γ bl w hV0 hw hs
 obtain ⟨ex, hrow, htot⟩ := hw.row g _ hg
 dsimp only at hrow htot
 have hblk : g < w.heap.size := (Array.getElem?_eq_some_iff.1 hrow).1
 obtain ⟨hVg, hgΓ⟩ := hs.HV g _ hg
 have hin : Nonempty (RE V) := by
  obtain ⟨m, n, d, g1, g2, g3, o1, o2, o3, hE⟩ := hr.2 0 l[0] (List.getElem?_eq_getElem h0)
  exact ⟨⟨([m, n, d], l[0]), rfl, fun v hv => by
   simp only [List.mem_cons, List.not_mem_nil, or_false] at hv
   rcases hv with rfl | rfl | rfl <;> assumption, hE, hq _ (List.getElem_mem h0)⟩⟩
 have hin2 : Inhabited (RE V) := Classical.inhabited_of_nonempty hin
 obtain ⟨d, hsz, hdl, hfl⟩ := sort_row cells l hr hq
 have hk : ∀ x : RE V, x.enc.length = 3 := fun x => x.2.1
 have hH : Go.Sort.HoldsK RE.enc 3 w g 0 d := fun j hj => by
  have hjl : (Go.Sort.flatK RE.enc 3 d)[j]? = some (Go.Sort.flatK RE.enc 3 d)[j]! := by rw [getElem!_pos _ j hj]; exact Array.getElem?_eq_getElem hj
  have hj2 : cells[j]? = some (Go.Sort.flatK RE.enc 3 d)[j]! := by rw [← hfl, Array.getElem?_toList]; exact hjl
  have hjlt := (List.getElem?_eq_some_iff.1 hj2).1
  rw [Nat.zero_add]
  refine ⟨?_, ?_⟩
  ·simp only [World.cell?, hrow, id]
   rw [List.getElem?_toArray, List.getElem?_append_left hjlt]; exact hj2
  ·simp [World.frozen?, hrow]
 have hsub : ∀ (m : Nat) (os : Array Obj) (dk : Array (RE V)), V.sub (Go.Proofs.sortWorldK RE.enc 3 w g 0 m dk os) := fun m os dk b o hb => by
  have h1 := hw.view b o hb
  rw [srt_other (Array.getElem?_eq_some_iff.1 h1).1 (fun e => by rw [e, hVg] at hb; cases hb)]
  exact h1
 have hcmp : Go.Proofs.CmpLays Tryz.prog 50 #[] (RE.enc (V := V)) 3 RE.cmp g 0 d.size w := fun m os dk _ x y => by
  have hQ : Spec Tryz.prog 50 [.agg x.enc.toArray, .agg y.enc.toArray] V fun v' V' => v' = .int .i64 (sgI (x.1.2 - y.1.2)) := qcmp_c V (.agg x.enc.toArray) (.agg y.enc.toArray) x.1.2 y.1.2 x.2.2.2.1 y.2.2.2.1 x.2.2.2.2 y.2.2.2.2
  unfold Spec at hQ
  refine (hQ _ (hsub m os dk)).mono ?_
  rintro e w' ⟨v, V', rfl, _, _, _, hb, rfl⟩
  exact ⟨rfl, blw_drewN hb⟩
 have eg : ∀ args w, (callFunc 50 args).run Tryz.prog w = .ok (.enter 50 args) w := enters_of Tryz.func50 (by kernel_rfl) rfl
 have hC := Go.Proofs.AnyQ.slices_SortFunc srtLay 3 Tryz.isAgg49 Tryz.sizeOf49 (RE.enc (V := V)) hk (fun x v hv => by rw [isOne_oneCell]; exact x.2.2.1 v hv) RE.cmp re_swo 50 #[] g 0 c d w eg hcmp hH hblk (by omega)
 rw [hsz] at hC
 refine hC.mono ?_
 rintro e' w' ⟨rfl, d', n, os, ⟨hs1, hs2, hs3⟩, hsrt, rfl⟩
 have hd' : d'.size * 3 = cells.length := by rw [hs1, hsz, hr.1]
 have hrow' := srt_row (enc := RE.enc (V := V)) (n := n) (os := os) hrow hd'
 have hlen' : (Go.Sort.flatK RE.enc 3 d').toList.length = cells.length := by rw [Array.length_toList, Go.Sort.size_flatK, hd']
 have hsize : w.heap.size ≤ (Go.Proofs.sortWorldK (RE.enc (V := V)) 3 w g 0 n d' os).heap.size := by
  show _ ≤ ((w.heap.modify g _) ++ os).size
  rw [Array.size_append, Array.size_modify]; omega
 refine ⟨_, upd H g (some ⟨e, (Go.Sort.flatK RE.enc 3 d').toList, tot⟩), V, rfl, ⟨fun i vs hi => ?_, fun b r hb => ?_, hsub n os d', ?_⟩, ⟨hs.inj, fun i hi => ?_, fun b r hb => ?_, hs.V0, hs.frm⟩, ⟨hsize, fun k o hk' ho => ?_⟩, rfl, rfl, _, d'.toList.map fun x => x.1.2, rfl, hlen', row_sort d', ?_, ?_⟩
 ·obtain ⟨ty, hh⟩ := hw.box i vs hi
  have hb := hs.bxH i (List.getElem?_eq_some_iff.1 hi).1
  exact ⟨ty, by rw [srt_other (Array.getElem?_eq_some_iff.1 hh).1 (fun e => by rw [e, hg] at hb; cases hb.1)]; exact hh⟩
 ·unfold upd at hb
  split at hb
  ·rename_i eb; subst eb
   cases hb
   exact ⟨ex, hrow', by dsimp only; rw [List.length_append, hlen', ← List.length_append]; exact htot⟩
  ·rename_i eb
   obtain ⟨ex', h1, h2⟩ := hw.row b r hb
   exact ⟨ex', by rw [srt_other (Array.getElem?_eq_some_iff.1 h1).1 eb]; exact h1, h2⟩
 ·refine ⟨⟨hw.below.os, hw.below.tape, hw.below.output, Nat.le_trans hw.below.size hsize, fun k hk' => ?_⟩, Nat.le_trans hw.below.drw (Nat.le_add_right _ _)⟩
  rw [srt_other (Nat.lt_of_lt_of_le hk' hw.below.size) (by omega)]
  exact hw.below.block k hk'
 ·have hb := hs.bxH i hi
  refine ⟨?_, hb.2⟩
  unfold upd
  split
  ·rename_i e; rw [e, hg] at hb; cases hb.1
  ·exact hb.1
 ·unfold upd at hb
  split at hb
  ·rename_i eb; subst eb; exact ⟨hVg, hgΓ⟩
  ·exact hs.HV b r hb
 ·rw [srt_other (Array.getElem?_eq_some_iff.1 hk').1 (fun e => by rw [e, hrow] at hk'; cases hk'; simp [Obj.isCells] at ho)]
  exact hk'
 ·have e1 : (d'.extract 0 d.size).toList = d'.toList := by rw [← hs1, Array.extract_size]
  have e2 : (d.extract 0 d.size).toList = d.toList := by rw [Array.extract_size]
  rw [hsz] at e1 e2
  rw [e1, e2] at hs3
  rw [← hdl]
  exact hs3.map _
 ·rw [List.pairwise_map]
  rw [List.pairwise_iff_getElem]
  intro i j hi hj hij
  rw [Array.length_toList] at hi hj
  have := hsrt i j (Nat.zero_le _) hij (by omega)
  rw [re_lt, getElem!_pos d' j hj, getElem!_pos d' i hi] at this
  have := of_decide_eq_false this
  simp only [Array.getElem_toList]
  grind
end Go.Proofs.YtobjjdnfgamgcaaGreat
end
section
namespace Go.Proofs.YtobjjdnfgamgcaaGreat
open Go Go.RowKit
def noH : Heap := fun _ => none
def noV : View := fun _ => none
theorem cw_no {Γ : Cx} {bl : Nat → Nat} {bx : List (List Value)} {H : Heap} {V : View} {x : World} (h : CW Γ bl bx H V x) : CW Γ bl [] noH noV x := ⟨fun i vs hi => (by simp at hi), fun b r hb => (by cases hb), fun b o hb => (by cases hb), h.below⟩
theorem zero_list (c : Array Value) : ∀ n, (List.range (n * c.size)).map (fun i => c[i % c.size]!) = (List.replicate n c.toList).flatten
 | 0 => by simp
 | n + 1 => by
  rw [Nat.add_mul, Nat.one_mul, List.range_add, List.map_append, zero_list c n, List.replicate_succ', List.flatten_append, List.map_map]
  congr 1
  rw [List.flatten_singleton]
  apply List.ext_getElem
  ·simp
  ·intro i h1 h2
   simp only [List.length_map, List.length_range] at h1
   simp only [List.getElem_map, List.getElem_range, Function.comp, Array.getElem_toList]
   rw [Nat.mul_comm n, Nat.mul_add_mod, Nat.mod_eq_of_lt h1, getElem!_pos c i h1]
section
variable {Γ : Cx} {P : Program} {ops : Array Oper} {Q : Exit → XS → Prop}
theorem XWP.regO {id : Nat} {s : XS} (k : Nat) {o : Oper} (hΓ : Γ.V0.sub Γ.w0) (hk : ops.toList[k]? = some o) (hg : guardsIn ops s.t.length = true)
  (h : seqX P ops (ops.toList.take k) (fun s1 => MOp Γ P ops noH noV o k (fun s2 => seqX P ops (ops.toList.drop (k + 1)) (fun s' => Q .normal s') s2) s1) s) : XWP Γ P (.region id ops false) Q s := by
 intro bl a w hc
 have hnd : noDefer ops = true := by unfold guardsIn at hg; rw [Bool.and_eq_true] at hg; exact hg.1
 refine wpIn_mono (wpIn_region (wpOps_in onlyN_out hnd _ _ _ ?_)) (onlyN_all (Q := Q))
 obtain ⟨hlt, hke⟩ := List.getElem?_eq_some_iff.1 hk
 have hlen : List.range ops.size = List.range' 0 (ops.toList.take k).length ++ (k :: (List.range' (k + 1) (ops.toList.drop (k + 1)).length ++ [])) := by
  have e1 : (ops.toList.take k).length = k := by rw [List.length_take]; omega
  have e2 : ops.size = k + ((ops.toList.drop (k + 1)).length + 1) := by rw [List.length_drop, ← Array.length_toList]; omega
  rw [e1, e2, List.range_eq_range', ← List.range'_append_1, Nat.zero_add, List.range'_succ, List.append_nil]
 rw [hlen]
 refine seqX_ops _ _ 0 _ (fun i o ho => ?_) bl s a w hc hg h ?_
 ·rw [Nat.zero_add, ← Array.getElem?_toList]
  rw [List.getElem?_take] at ho
  split at ho
  ·exact ho
  ·cases ho
 intro bl1 s1 a1 w1 hc1 hg1 ⟨_, hM⟩
 rw [wpOps_cons]
 refine wpOp_mono ?_ (wpOp_size hc1.len (hM bl1 a1 w1 _ hΓ hc1))
 rintro a' w' ⟨hsz, s', hc', _, hk'⟩
 exact seqX_ops [] _ (k + 1) _ (fun i o ho => by rw [← Array.getElem?_toList]; rw [List.getElem?_drop] at ho; exact ho) bl1 s' a' w' hc' (by rw [← hc'.len, hsz]; exact hg1) hk' fun bl s a w hc _ hq => ⟨bl, s, hc, hq⟩
theorem Gx.oa {id : Nat} {s : XS} {y : Code} (k : Nat) {o : Oper} (hΓ : Γ.Plain) (hk : ops.toList[k]? = some o) (hg : guardsIn ops s.t.length = true)
  (h : ∀ K : XS → Prop, (∀ s', XWP Γ P y Q s' → K s') → seqX P ops (ops.toList.take k) (fun s1 => MOp Γ P ops noH noV o k (fun s2 => seqX P ops (ops.toList.drop (k + 1)) K s2) s1) s) : XWP Γ P (.seq (.region id ops false) y) Q s :=
 XWP.seq (XWP.regO k hΓ.2 hk hg (h _ fun _ h => h))
theorem mopO_call {i : Nat} {K : XS → Prop} {s : XS} {d : Option Tmp} {f : FuncId} {args : List Operand} {ts : Array TypeId} {ty pos af} {R : Value → Heap → View → Prop} (hoi : ops.toList[i]? = some ⟨d, .call ⟨.value (.func f), (List.toArray args : Array Operand), ts⟩, ty, pos, af, none⟩) (hcb : callable P f = true) (hall : (args.map s.ev).all SV.isV = true)
  (hspec : MSem P f ((args.map s.ev).map SV.val) s.bx s.H s.V R) (hK : ∀ v H' V', R v H' V' → K ((⟨s.t, s.bx, H', V'⟩ : XS).put d (.v v))) : MOp Γ P ops noH noV ⟨d, .call ⟨.value (.func f), (List.toArray args : Array Operand), ts⟩, ty, pos, af, none⟩ i K s :=
 mop_call (by rw [← Array.getElem?_toList]; exact hoi) hcb hall hspec fun v H' V' hR => ⟨fun b r hb => (by cases hb), fun b o hb => (by cases hb), hK v H' V' hR⟩
theorem mopO_clear {i : Nat} {K : XS → Prop} {s : XS} {d : Option Tmp} {t : TypeId} {x : Operand} {ty pos af} {g off n c tot sz : Nat} {e : TypeId} {cs z : List Value} {zv : Value} (hoi : ops.toList[i]? = some ⟨d, .call ⟨.builtin .clear, #[x], #[t]⟩, ty, pos, af, none⟩)
  (hx : s.ev x = .v (.slice (some ⟨g, off, none⟩) n c)) (hn : 0 < n) (he : elemT P t = some e) (hz : ∀ w, (zeroValue e).run P w = .ok zv w) (hzc : zv.cells.toList = z) (hz1 : z.all isOne = true) (hzl : z.length = sz) (hg : s.H g = some ⟨e, cs, tot⟩) (hfit : off + n * sz ≤ cs.length)
  (h : K ((⟨s.t, s.bx, upd s.H g (some ⟨e, splice cs off (List.replicate n z).flatten, tot⟩), s.V⟩ : XS).put d (.v (.tuple #[])))) : MOp Γ P ops noH noV ⟨d, .call ⟨.builtin .clear, #[x], #[t]⟩, ty, pos, af, none⟩ i K s := by
 refine ⟨rfl, fun bl a w Q hV0 hcc => ?_⟩
 have hoi : ops[i]? = some ⟨d, .call ⟨.builtin .clear, #[x], #[t]⟩, ty, pos, af, none⟩ := by rw [← Array.getElem?_toList]; exact hoi
 have e1 : a.eval x = .slice (some ⟨g, off, none⟩) n c := by rw [hcc.ev, hx]; rfl
 have hnl : (List.replicate n z).flatten.length = n * sz := by simp [hzl]
 have hones : ∀ u ∈ (List.replicate n z).flatten, u.oneCell' = true := fun u hu => by
  rw [isOne_oneCell]
  obtain ⟨l, h1, h2⟩ := List.mem_flatten.1 hu
  rw [(List.mem_replicate.1 h1).2] at h2
  exact List.all_eq_true.1 hz1 u h2
 obtain ⟨ex, hh, hl⟩ := hcc.cw.row g _ hg
 dsimp only at hh hl
 have hst := run_storeCells_at P g off e (List.replicate n z).flatten 0 (cs ++ ex).toArray w hh (by simp only [List.size_toArray, List.length_append, hnl]; omega) hones
 simp only [Nat.add_zero] at hst
 have hsp : (cs ++ ex).take off ++ (List.replicate n z).flatten ++ (cs ++ ex).drop (off + (List.replicate n z).flatten.length) = splice cs off (List.replicate n z).flatten ++ ex := by
  unfold splice
  rw [List.take_append_of_le_length (by omega), List.drop_append_of_le_length (by omega), ← List.append_assoc]
 rw [hsp] at hst
 have hzz : (Builtin.zeroCells zv.cells n).toList = (List.replicate n z).flatten := by
  rw [← hzc, ← zero_list]
  simp [Builtin.zeroCells]
 have hclr : (Builtin.clear_ #[t] ty #[.slice (some ⟨g, off, none⟩) n c]).run P w = .ok (.tuple #[]) (w.setRow g (splice cs off (List.replicate n z).flatten ++ ex).toArray) := by
  have hn0 : ¬ n = 0 := by omega
  simp [Builtin.clear_, run_und (und_elem he), hz, hzz, hst]
  try rfl
 obtain ⟨k1, k2⟩ := set_row hcc.cw hcc.cs hg (splice cs off (List.replicate n z).flatten) ex (by
  rw [← hl]
  unfold splice
  simp only [List.length_append, List.length_take, List.length_drop]
  omega)
 have hC : Conc Γ bl ⟨s.t, s.bx, upd s.H g (some ⟨e, splice cs off (List.replicate n z).flatten, tot⟩), s.V⟩ a (w.setRow g (splice cs off (List.replicate n z).flatten ++ ex).toArray) := ⟨hcc.tm, hcc.df.keep (others_setRow _ hh), k1, k2, hcc.ok⟩
 unfold wpOp
 simp only [hoi]
 rw [if_pos (by unfold Region.wanted; rfl)]
 refine .inl ?_
 have hrun : (execOp a.eval ⟨d, .call ⟨.builtin .clear, #[x], #[t]⟩, ty, pos, af, none⟩).run P w = .ok (.value (.tuple #[])) (w.setRow g (splice cs off (List.replicate n z).flatten ++ ex).toArray) := by
  simp [execOp, resolve, invoke, builtin, e1, hclr]
 unfold Oper.wp
 rw [hrun]
 exact ⟨_, hC.put d (.v (.tuple #[])) trivial, fun z hz => cw_no hz, h⟩
end
end Go.Proofs.YtobjjdnfgamgcaaGreat
end
section
namespace Go.Proofs.YtobjjdnfgamgcaaGreat
open Go Go.RowKit
attribute [local irreducible] XWP Spec SpecO XPub XCall seqX clX apX stX ldX iaX slX
def ddN (l : List Rat) : Nat → List Rat
 | 0 => []
 | n + 1 => if n ≠ 0 ∧ cf l n = cf l (n - 1) then ddN l n else ddN l n ++ [cf l n]
theorem ddN_dup {l : List Rat} {n : Nat} (h0 : n ≠ 0) (h : cf l n = cf l (n - 1)) : ddN l (n + 1) = ddN l n := by rw [ddN, if_pos ⟨h0, h⟩]
theorem ddN_new {l : List Rat} {n : Nat} (h : n = 0 ∨ cf l n ≠ cf l (n - 1)) : ddN l (n + 1) = ddN l n ++ [cf l n] := by
  rw [ddN, if_neg (fun e => by rcases h with h | h
                               · exact e.1 h
                               · exact h e.2)]
theorem ddN_len (l : List Rat) : ∀ n, (ddN l n).length ≤ n
 | 0 => Nat.le_refl _
 | n + 1 => by
  have := ddN_len l n
  rw [ddN]
  split
  ·omega
  ·rw [List.length_append]; simp only [List.length_cons, List.length_nil]; omega
theorem take_succ_cf {l : List Rat} {k : Nat} (h : k < l.length) : l.take (k + 1) = l.take k ++ [cf l k] := by
 rw [List.take_add_one, List.getElem?_eq_getElem h, ← cf_get h]; rfl
theorem upd_self {H : Heap} {g : Nat} {r : Row} (h : H g = some r) : upd H g (some r) = H := by
 funext b
 unfold upd
 split
 ·rename_i e; subst e; exact h.symm
 ·rfl
theorem upd_upd (H : Heap) (g : Nat) (r r' : Option Row) : upd (upd H g r) g r' = upd H g r' := by
 funext b
 unfold upd
 split <;> rfl
theorem all3K {a b d : Value} (h1 : isOne a = true) (h2 : isOne b = true) (h3 : isOne d = true) : ([a, b, d] : List Value).all isOne = true := by
 simp only [List.all_cons, List.all_nil, h1, h2, h3]; rfl
theorem RowAt.loadV {H : Heap} {V : View} {b e tot : Nat} {cells : List Value} {xs : List Rat} (hr : H b = some ⟨e, cells, tot⟩) (h : RowAt ratE V cells xs) (i : Nat) (hi : i < xs.length) : ∃ m n d, ratE V (.agg #[m, n, d]) xs[i] ∧ isOne m = true ∧ isOne n = true ∧ isOne d = true ∧ ∀ V', Loads Tryz.prog H V' 49 b (i * 3) (.agg #[m, n, d]) := by
 obtain ⟨m, n, d, g1, g2, g3, o1, o2, o3, hE⟩ := h.2 i xs[i] (List.getElem?_eq_getElem hi)
 refine ⟨m, n, d, hE, o1, o2, o3, fun V' => ?_⟩
 have := loads3 (H := H) (V := V') (b := b) (o := 0) (i := i) (m := m) (n := n) (d := d) (.inl ⟨_, hr, by rw [Nat.zero_add]; exact g1⟩) (.inl ⟨_, hr, by rw [Nat.zero_add]; exact g2⟩) (.inl ⟨_, hr, by rw [Nat.zero_add]; exact g3⟩)
 rw [Nat.zero_add] at this
 exact this
theorem RowAt.takeK {α : Type} {E : El α} {V : View} {cells : List Value} {xs : List α} (h : RowAt E V cells xs) {k : Nat} (hk : k ≤ xs.length) : RowAt E V (cells.take (k * 3)) (xs.take k) := by
 have hl := h.1
 refine ⟨by rw [List.length_take, List.length_take]; omega, fun i x hi => ?_⟩
 rw [List.getElem?_take] at hi
 split at hi
 ·rename_i hlt
  obtain ⟨m, n, d, g1, g2, g3, r⟩ := h.2 i x hi
  refine ⟨m, n, d, ?_, ?_, ?_, r⟩
  ·dsimp only; rw [List.getElem?_take, if_pos (by omega)]; exact g1
  ·dsimp only; rw [List.getElem?_take, if_pos (by omega)]; exact g2
  ·dsimp only; rw [List.getElem?_take, if_pos (by omega)]; exact g3
 ·cases hi
theorem take_set_cf {m d : List Rat} {x : Rat} (h : m.take d.length = d) (hl : d.length < m.length) : (m.set d.length x).take (d ++ [x]).length = d ++ [x] := by
 rw [List.length_append, List.length_cons, List.length_nil, take_succ_cf (by rw [List.length_set]; omega), List.take_set_of_le (Nat.le_refl _), h]
 congr 2
 unfold cf
 rw [List.getD_eq_getElem?_getD, List.getElem?_set_self hl]; rfl
set_option maxHeartbeats 4000000 in
set_option maxRecDepth 100000 in
theorem ccompact_m (H : Heap) (V : View) (g c e tot : Nat) (cells : List Value) (l : List Rat) (hg : H g = some ⟨e, cells, tot⟩) (he : e = 49) (hr : RowAt ratE V cells l) (hq : ∀ x ∈ l, QF x) (hc : l.length ≤ c) (hc2 : l.length ≤ 1000000) :
  MSpec Tryz.prog 71 [.slice (some ⟨g, 0, none⟩) l.length c, .func (.func 72) #[] #[]] H V fun v' H' V' => V.le V' ∧ v' = .slice (some ⟨g, 0, none⟩) (ddN l l.length).length c ∧ ∃ cells' rest, H' = upd H g (some ⟨e, cells' ++ rest, tot⟩) ∧ RowAt ratE V' cells' (ddN l l.length) := by
 subst he
 refine (MSpec.enter Tryz.func71 rfl fun Γ hΓ => ?_)
 simp only [Tryz.ntmps71, List.map_cons, List.map_nil, List.length_cons, List.length_nil, Nat.reduceAdd, Nat.reduceSub, List.replicate_succ, List.replicate_zero, List.cons_append, List.nil_append]
 refine Gx.a (by kernel_rfl) fun K hK => ?_
 simp only [XA]
 refine hK _ ?_
 refine XWP.seq ?_
 by_cases h2 : l.length < 2
 ·have b1 : decide ((l.length : Int) < 2) = true := decide_eq_true (by omega)
  refine Gx.a (by kernel_rfl) fun K hK => ?_
  simp only [XA, XB, b1]
  refine hK _ ?_
  refine Gx.t rfl ?_
  refine Gx.a (by kernel_rfl) fun K hK => ?_
  simp only [XA]
  refine hK _ (XWP.ret ?_)
  try simp only [thenX_ret, inBlockX_ret]
  have ed : ddN l l.length = l := by
   match l, h2 with
   | [], _ => rfl
   | [x], _ => rfl
  refine retM_go _ rfl ⟨View.le_refl _, by rw [ed]; rfl, cells, [], by rw [List.append_nil]; exact (upd_self hg).symm, by rw [ed]; exact hr⟩
 have b1 : decide ((l.length : Int) < 2) = false := decide_eq_false (by omega)
 refine Gx.a (by kernel_rfl) fun K hK => ?_
 simp only [XA, XB, b1]
 refine hK _ ?_
 refine Gx.f rfl ?_
 refine XWP.skip ?_
 refine XWP.cut (fun s => ∃ V2, StIs (fun Z => [.v (.slice (some ⟨g, 0, none⟩) l.length c), .v (.func (.func 72) #[] #[]), Z 2,Z 3,Z 4,Z 5,Z 6,Z 7,Z 8,Z 9,Z 10,Z 11,Z 12,Z 13,Z 14,Z 15,Z 16,Z 17,Z 18,Z 19,Z 20,Z 21,Z 22,Z 23,Z 24,Z 25,Z 26,Z 27,Z 28,Z 29,Z 30,Z 31,Z 32,Z 33,Z 34,Z 35,Z 36,Z 37,Z 38,Z 39,Z 40,Z 41,Z 42,Z 43,Z 44,Z 45,Z 46,Z 47,Z 48,Z 49,Z 50,Z 51,Z 52,Z 53,Z 54,Z 55,Z 56,Z 57,Z 58,Z 59,Z 60,Z 61,Z 62,Z 63,Z 64,Z 65]) [] H V2 s ∧ V.le V2 ∧ ddN l l.length = l) ?_ ?_
 rotate_left
 ·rintro s ⟨V2, hs, hV2, hd⟩
  obtain ⟨z, rfl⟩ := hs.out
  try dsimp only
  clear hs
  refine Gx.a (by kernel_rfl) fun K hK => ?_
  simp only [XA]
  refine hK _ (XWP.ret ?_)
  try simp only [thenX_ret, inBlockX_ret]
  refine retM_go _ rfl ⟨hV2, by rw [hd]; rfl, cells, [], by rw [List.append_nil]; exact (upd_self hg).symm, by rw [hd]; exact hr.mono ratE_ok hV2⟩
 refine Gx.a (by kernel_rfl) fun K hK => ?_
 simp only [XA]
 refine hK _ ?_
 clear hK
 refine XWP.block ?_
 refine XWP.loop (fun q s => ∃ (k : Nat) (V2 : View), StIs (fun Z => [.v (.slice (some ⟨g, 0, none⟩) l.length c), .v (.func (.func 72) #[] #[]), Z 2,Z 3,Z 4, .v (.int .i64 (k : Int)), Z 6,Z 7,Z 8,Z 9,Z 10,Z 11,Z 12,Z 13,Z 14,Z 15,Z 16,Z 17,Z 18,Z 19,Z 20,Z 21,Z 22,Z 23,Z 24,Z 25,Z 26,Z 27,Z 28,Z 29,Z 30,Z 31,Z 32,Z 33,Z 34,Z 35,Z 36,Z 37,Z 38,Z 39,Z 40,Z 41,Z 42,Z 43,Z 44,Z 45,Z 46,Z 47,Z 48,Z 49,Z 50,Z 51,Z 52,Z 53,Z 54,Z 55,Z 56,Z 57,Z 58,Z 59,Z 60,Z 61,Z 62,Z 63,Z 64,Z 65]) [] H V2 s ∧ q + k = l.length ∧ 1 ≤ k ∧ V.le V2 ∧ ddN l k = l.take k) (l.length - 1) ⟨1, V, StIs.of (by exact rfl), by omega, by omega, View.le_refl _, by
  rw [ddN_new (.inl rfl), take_succ_cf (by omega)]; rfl⟩ ?_
 rintro q s ⟨k, V2, hs, hq1, hk1, hV2, hd⟩
 obtain ⟨z, rfl⟩ := hs.out
 try dsimp only
 clear hs
 refine XWP.seq ?_
 by_cases hk : k < l.length
 rotate_left
 ·obtain rfl : k = l.length := by omega
  have b2 : decide (((l.length : Nat) : Int) < (l.length : Int)) = false := decide_eq_false (by omega)
  refine Gx.a (by kernel_rfl) fun K hK => ?_
  simp only [XA, XB, b2]
  refine hK _ ?_
  refine Gx.f rfl ?_
  refine XWP.exit ?_
  exact ⟨V2, StIs.of (by exact rfl), hV2, by rw [hd, List.take_length]⟩
 have b2 : decide ((k : Int) < (l.length : Int)) = true := decide_eq_true (by omega)
 refine Gx.a (by kernel_rfl) fun K hK => ?_
 simp only [XA, XB, b2]
 refine hK _ ?_
 refine Gx.t rfl ?_
 refine XWP.skip ?_
 refine XWP.seq ?_
 refine XWP.block ?_
 have hr2 := hr.mono ratE_ok hV2
 obtain ⟨v1, hx1, ⟨m1, n1, d1, rfl, o1, o2, o3⟩, hld1⟩ := RowAt.load (V := V2) hg hr2 k hk
 obtain ⟨v2, hx2, ⟨m2, n2, d2, rfl, o4, o5, o6⟩, hld2⟩ := RowAt.load (V := V2) hg hr2 (k - 1) (by omega)
 rw [cf_get] at hx1 hx2
 (refine XWP.drw [0, 1, 2, 3, 4, 5, 6, 7, 8, 9, 10] (by kernel_rfl) (by kernel_rfl) (by kernel_rfl) fun K hK => ?_) <;> dsimp only [pickOps, List.getElem?_cons_zero, List.getElem?_cons_succ]
 simp only [XA, XB, i64_pred k hk1 (by omega)]
 refine ⟨by omega, by omega, ?_⟩
 try simp only [Nat.zero_add] at *
 refine ld_mem hld1 ?_
 simp only [XA, XB, i64_pred k hk1 (by omega)]
 refine ⟨by omega, by omega, ?_⟩
 try simp only [Nat.zero_add] at *
 refine ld_mem hld2 ?_
 simp only [XA]
 refine call_go (by kernel_rfl) rfl (qsame_c _ _ _ _ _ hx1 hx2 (hq _ (cf_mem hk)) (hq _ (cf_mem (by omega)))) fun v3 V3 hV3 h3 => ?_
 subst h3
 by_cases hdup : cf l k = cf l (k - 1)
 rotate_left
 ·have b3 : decide (cf l k = cf l (k - 1)) = false := decide_eq_false hdup
  simp only [XA, b3]
  refine hK _ ?_
  refine Gx.f rfl ?_
  refine XWP.skip ?_
  refine Gx.c (by kernel_rfl) fun K hK => ?_
  simp only [XA, XB, i64_succ k (by omega)]
  exact hK _ ⟨q - 1, by omega, k + 1, V3, StIs.of (by exact rfl), by omega, by omega, View.le_trans hV2 hV3, by rw [ddN_new (.inr hdup), take_succ_cf hk, hd]⟩
 have b3 : decide (cf l k = cf l (k - 1)) = true := decide_eq_true hdup
 simp only [XA, b3]
 refine hK _ ?_
 refine Gx.t rfl ?_
 have esl : sliceV (some ⟨g, 0, none⟩) c 3 k l.length = .slice (some ⟨g, k * 3, none⟩) (l.length - k) (c - k) := by
  unfold sliceV
  rw [if_neg (by omega)]
  simp [Addr.add]
  omega
 refine Gx.a (by kernel_rfl) fun K hK => ?_
 simp only [XA, XB, esl]
 refine ⟨by omega, by omega, by omega, ?_⟩
 refine hK _ ?_
 clear hK
 refine XWP.cut (fun s => ∃ (V4 : View) (cells' : List Value) (m : List Rat), StIs (fun Z => [.v (.slice (some ⟨g, 0, none⟩) l.length c), .v (.func (.func 72) #[] #[]), Z 2,Z 3,Z 4, .v (.int .i64 ((ddN l l.length).length : Int)), Z 6,Z 7,Z 8,Z 9,Z 10,Z 11,Z 12,Z 13,Z 14,Z 15,Z 16,Z 17,Z 18,Z 19,Z 20,Z 21,Z 22,Z 23,Z 24,Z 25,Z 26,Z 27,Z 28,Z 29,Z 30,Z 31,Z 32,Z 33,Z 34,Z 35,Z 36,Z 37,Z 38,Z 39,Z 40,Z 41,Z 42,Z 43,Z 44,Z 45,Z 46,Z 47,Z 48,Z 49,Z 50,Z 51,Z 52,Z 53,Z 54,Z 55,Z 56,Z 57,Z 58,Z 59,Z 60,Z 61,Z 62,Z 63,Z 64,Z 65]) [] (upd H g (some ⟨49, cells', tot⟩)) V4 s ∧ V.le V4 ∧ RowAt ratE V4 cells' m ∧ m.length = l.length ∧ m.take (ddN l l.length).length = ddN l l.length ∧ (ddN l l.length).length < l.length) ?_ ?_
 rotate_left
 ·rintro s ⟨V4, cells', m, hs, hV4, hm, hml, hmt, hlt⟩
  obtain ⟨z4, rfl⟩ := hs.out
  try dsimp only
  clear hs
  have hd0 := ddN_len l l.length
  generalize hdd : (ddN l l.length).length = dn at *
  refine Gx.oa 3 hΓ rfl (by kernel_rfl) fun K hK => ?_
  simp only [XA, XB, Nat.reduceAdd]
  refine ⟨by omega, by omega, by omega, ?_⟩
  have ecl : sliceV (some ⟨g, 0, none⟩) c 3 dn l.length = .slice (some ⟨g, dn * 3, none⟩) (l.length - dn) (c - dn) := by
   unfold sliceV
   rw [if_neg (by omega)]
   simp [Addr.add]
   omega
  simp only [ecl]
  have hz1 : ([.bool false, .slice none 0 0, .slice none 0 0] : List Value).all isOne = true := rfl
  refine mopO_clear (z := [.bool false, .slice none 0 0, .slice none 0 0]) (sz := 3) rfl rfl (by omega) elemT_24 Tryz.zeroValue49 rfl hz1 rfl (upd_at _ _ _) (by rw [hm.1]; omega) ?_
  simp only [XA]
  refine hK _ ?_
  refine Gx.a (by kernel_rfl) fun K hK => ?_
  simp only [XA, XB]
  refine ⟨by omega, by omega, by omega, ?_⟩
  refine hK _ (XWP.ret ?_)
  try simp only [thenX_ret, inBlockX_ret]
  refine retM_go _ rfl ⟨hV4, by first | rfl | (rw [sliceV_zero]; rfl), cells'.take (dn * 3), _, by rw [upd_upd]; unfold splice; rw [List.append_assoc], ?_⟩
  rw [← hmt]
  exact RowAt.takeK hm (by omega)
 refine Gx.a (by kernel_rfl) fun K hK => ?_
 simp only [XA]
 refine hK _ ?_
 clear hK
 refine XWP.block ?_
 have ed1 : ddN l (k + 1) = l.take k := by rw [ddN_dup (by omega) hdup, hd]
 refine XWP.loop (fun q s => ∃ (t : Nat) (V4 : View) (cells' : List Value) (m : List Rat), StIs (fun Z => [.v (.slice (some ⟨g, 0, none⟩) l.length c), .v (.func (.func 72) #[] #[]), Z 2,Z 3,Z 4, .v (.int .i64 ((ddN l (k + t)).length : Int)), .v (.slice (some ⟨g, k * 3, none⟩) (l.length - k) (c - k)), .v (.int .i64 (t : Int)), Z 8,Z 9,Z 10,Z 11,Z 12,Z 13,Z 14,Z 15,Z 16,Z 17,Z 18,Z 19,Z 20,Z 21,Z 22,Z 23,Z 24,Z 25,Z 26,Z 27,Z 28,Z 29,Z 30,Z 31,Z 32,Z 33,Z 34,Z 35,Z 36,Z 37,Z 38,Z 39,Z 40,Z 41,Z 42,Z 43,Z 44,Z 45,Z 46,Z 47,Z 48,Z 49,Z 50,Z 51,Z 52,Z 53,Z 54,Z 55,Z 56,Z 57,Z 58,Z 59,Z 60,Z 61,Z 62,Z 63,Z 64,Z 65]) [] (upd H g (some ⟨49, cells', tot⟩)) V4 s ∧ q + (k + t) = l.length ∧ 1 ≤ t ∧ V.le V4 ∧ RowAt ratE V4 cells' m ∧ m.length = l.length ∧ m.take (ddN l (k + t)).length = ddN l (k + t) ∧ (ddN l (k + t)).length < k + t ∧ ∀ j, k + t ≤ j + 1 → cf m j = cf l j) (l.length - (k + 1)) ⟨1, V3, cells, l, by
  rw [ed1, List.length_take, Nat.min_eq_left (by omega), upd_self hg]
  exact StIs.of (by exact rfl), by omega, by omega, View.le_trans hV2 hV3, hr2.mono ratE_ok hV3, rfl, by rw [ed1, List.length_take, Nat.min_eq_left (by omega)], by rw [ed1, List.length_take]; omega, fun j _ => rfl⟩ ?_
 rintro q2 s ⟨t, V4, cells', m, hs, hq2, ht1, hV4, hm, hml, hmt, hlt, hmj⟩
 obtain ⟨z4, rfl⟩ := hs.out
 try dsimp only
 clear hs
 refine XWP.seq ?_
 by_cases ht : k + t < l.length
 rotate_left
 ·have et : k + t = l.length := by omega
  have b5 : decide ((t : Int) < ((l.length - k : Nat) : Int)) = false := decide_eq_false (by omega)
  refine Gx.a (by kernel_rfl) fun K hK => ?_
  simp only [XA, XB, b5]
  refine hK _ ?_
  refine Gx.f rfl ?_
  refine XWP.exit ?_
  rw [et] at hmt hlt
  exact ⟨V4, cells', m, StIs.of (by rw [← et]; exact rfl), hV4, hm, hml, hmt, hlt⟩
 have b5 : decide ((t : Int) < ((l.length - k : Nat) : Int)) = true := decide_eq_true (by omega)
 refine Gx.a (by kernel_rfl) fun K hK => ?_
 simp only [XA, XB, b5]
 refine hK _ ?_
 refine Gx.t rfl ?_
 refine XWP.skip ?_
 refine XWP.seq ?_
 refine XWP.block ?_
 obtain ⟨m5, n5, d5, hx5, o7, o8, o9, hld5⟩ := RowAt.loadV (V := V4) (upd_at H g _) hm (k + t) (by omega)
 obtain ⟨m6, n6, d6, hx6, oa, ob, oc, hld6⟩ := RowAt.loadV (V := V4) (upd_at H g _) hm (k + t - 1) (by omega)
 rw [cf_get, hmj _ (by omega)] at hx5 hx6
 rw [show (k + t) * 3 = k * 3 + t * 3 by omega] at hld5
 rw [show (k + t - 1) * 3 = k * 3 + (t - 1) * 3 by omega] at hld6
 (refine XWP.drw [0, 1, 2, 3, 4, 5, 6, 7, 8, 9, 10, 11] (by kernel_rfl) (by kernel_rfl) (by kernel_rfl) fun K hK => ?_) <;> dsimp only [pickOps, List.getElem?_cons_zero, List.getElem?_cons_succ]
 simp only [XA, XB, i64_pred t ht1 (by omega)]
 refine ⟨by omega, by omega, ?_⟩
 refine ld_mem (hld5 _) ?_
 simp only [XA, XB, i64_pred t ht1 (by omega)]
 refine ⟨by omega, by omega, ?_⟩
 refine ld_mem (hld6 _) ?_
 simp only [XA]
 refine call_go (by kernel_rfl) rfl (qsame_c _ _ _ _ _ hx5 hx6 (hq _ (cf_mem ht)) (hq _ (cf_mem (by omega)))) fun v7 V7 hV7 h7 => ?_
 subst h7
 have hm7 := hm.mono ratE_ok hV7
 by_cases hdp : cf l (k + t) = cf l (k + t - 1)
 ·have b6 : decide (cf l (k + t) = cf l (k + t - 1)) = true := decide_eq_true hdp
  simp only [XA, b6]
  refine hK _ ?_
  refine Gx.f rfl ?_
  refine XWP.skip ?_
  refine Gx.c (by kernel_rfl) fun K hK => ?_
  simp only [XA, XB, i64_succ t (by omega)]
  have edd : ddN l (k + (t + 1)) = ddN l (k + t) := ddN_dup (n := k + t) (by omega) hdp
  exact hK _ ⟨q2 - 1, by omega, t + 1, V7, cells', m, by rw [edd]; exact StIs.of (by exact rfl), by omega, by omega, View.le_trans hV4 hV7, hm7, hml, by rw [edd]; exact hmt, by rw [edd]; omega, fun j hj => hmj j (by omega)⟩
 have b6 : decide (cf l (k + t) = cf l (k + t - 1)) = false := decide_eq_false hdp
 have edd : ddN l (k + (t + 1)) = ddN l (k + t) ++ [cf l (k + t)] := ddN_new (.inr hdp)
 simp only [XA, b6]
 refine hK _ ?_
 refine Gx.t rfl ?_
 refine Gx.a (by kernel_rfl) fun K hK => ?_
 simp only [XA, XB]
 refine ⟨by omega, by omega, ?_⟩
 refine ld_mem (hld5 _) ?_
 simp only [XA, XB]
 refine ⟨by omega, by omega, ?_⟩
 have hfit : (ddN l (k + t)).length * 3 + 3 ≤ cells'.length := by rw [hm.1]; omega
 try simp only [Nat.zero_add]
 refine st_rowA shapeT_49 (all3K o7 o8 o9) rfl (upd_at _ _ _) hfit ?_
 simp only [XA]
 refine hK _ ?_
 have hset := hm7.set (ddN l (k + t)).length (by omega) o7 o8 o9 (hx5.mono hV7)
 refine Gx.c (by kernel_rfl) fun K hK => ?_
 simp only [XA, XB, i64_succ (ddN l (k + t)).length (by omega)]
 refine hK _ ?_
 refine Gx.c (by kernel_rfl) fun K hK => ?_
 simp only [XA, XB, i64_succ t (by omega)]
 refine hK _ ⟨q2 - 1, by omega, t + 1, V7, _, _, ?_, by omega, by omega, View.le_trans hV4 hV7, hset, by rw [List.length_set]; exact hml, by rw [edd]; exact take_set_cf hmt (by omega), by rw [edd, List.length_append, List.length_cons, List.length_nil]; omega, fun j hj => ?_⟩
 ·rw [edd, List.length_append, upd_upd]; exact StIs.of (by exact rfl)
 ·rw [← hmj j (by omega)]
  unfold cf
  rw [List.getD_eq_getElem?_getD, List.getD_eq_getElem?_getD, List.getElem?_set_ne (by omega), List.getD_eq_getElem?_getD]
def comN : List Dr → List Dr → Nat
 | d :: ds, e :: es => if d = e then comN ds es + 1 else 0
 | _, _ => 0
theorem comN_le : ∀ a b, comN a b ≤ a.length ∧ comN a b ≤ b.length
 | [], b => by simp [comN]
 | d :: ds, [] => by simp [comN]
 | d :: ds, e :: es => by
  unfold comN
  split
  ·have := comN_le ds es
   simp only [List.length_cons]; omega
  ·simp
theorem comN_stop : ∀ (n : Nat) (a b : List Dr), n ≤ a.length → n ≤ b.length → (∀ i, i < n → a[i]? = b[i]?) → (n = a.length ∨ n = b.length ∨ a[n]? ≠ b[n]?) → comN a b = n
 | 0, [], b, _, _, _, _ => by simp [comN]
 | 0, d :: ds, [], _, _, _, _ => by simp [comN]
 | 0, d :: ds, e :: es, _, _, _, h => by
  unfold comN
  rw [if_neg]
  rcases h with h | h | h
  ·simp at h
  ·simp at h
  ·intro e'
   exact h (by simp [e'])
 | n + 1, [], b, h, _, _, _ => by simp at h
 | n + 1, d :: ds, [], _, h, _, _ => by simp at h
 | n + 1, d :: ds, e :: es, h1, h2, h3, h4 => by
  have h0 := h3 0 (by omega)
  have h0 : d = e := by simpa using h0
  unfold comN
  rw [if_pos h0]
  rw [comN_stop n ds es (by simpa using h1) (by simpa using h2) (fun i hi => by have := h3 (i + 1) (by omega); simpa using this) (by simpa using h4)]
theorem ccommon_c (V : View) (cs1 cs2 : List Value) (r t : Rn) (h1 : ElK 9 rnE V cs1 r) (h2 : ElK 9 rnE V cs2 t) (l1 : r.ds.length ≤ 1000) (l2 : t.ds.length ≤ 1000) : Spec Tryz.prog 108 [.agg cs1.toArray, .agg cs2.toArray] V fun v' V' => v' = .int .i64 (comN r.ds t.ds : Nat) := by
 obtain ⟨u0, u1, u2, u3, u4, dv1, u6, u7, u8, rfl, hd1⟩ := rn_draws h1
 obtain ⟨v0, v1, v2, v3, v4, dv2, v6, v7, v8, rfl, hd2⟩ := rn_draws h2
 obtain ⟨A1, q1, rfl, _, _⟩ := hd1.form
 obtain ⟨A2, q2, rfl, _, _⟩ := hd2.form
 refine (Spec.enter Tryz.func108 rfl fun Γ => ?_)
 simp only [Tryz.ntmps108, List.map_cons, List.map_nil, List.length_cons, List.length_nil, Nat.reduceAdd, Nat.reduceSub, List.replicate_succ, List.replicate_zero, List.cons_append, List.nil_append]
 refine Gx.a (by kernel_rfl) fun K hK => ?_
 simp only [XA]
 refine hK _ ?_
 refine Gx.a (by kernel_rfl) fun K hK => ?_
 simp only [XA]
 refine hK _ ?_
 refine XWP.cut (fun s => ∃ (N : Nat), StIs (fun Z => [Z 0,Z 1, .p 0 0, .p 1 0, Z 4, .v (.int .i64 (N : Int)), Z 6,Z 7,Z 8,Z 9,Z 10,Z 11,Z 12,Z 13,Z 14,Z 15,Z 16,Z 17,Z 18,Z 19,Z 20,Z 21,Z 22,Z 23,Z 24,Z 25,Z 26,Z 27,Z 28,Z 29,Z 30,Z 31,Z 32,Z 33]) [[u0, u1, u2, u3, u4, .slice A1 r.ds.length q1, u6, u7, u8], [v0, v1, v2, v3, v4, .slice A2 t.ds.length q2, v6, v7, v8]] (fun _ => none) V s ∧ comN r.ds t.ds = N) ?_ ?_
 rotate_left
 ·rintro s ⟨N, hs, rfl⟩
  obtain ⟨z, rfl⟩ := hs.out
  try dsimp only
  refine Gx.a (by kernel_rfl) fun K hK => ?_
  simp only [XA]
  refine hK _ (XWP.ret ?_)
  try simp only [thenX_ret, inBlockX_ret]
  refine ret_go _ rfl ?_
  rfl
 refine XWP.block ?_
 refine XWP.loop (fun q s => ∃ (n : Nat), StIs (fun Z => [Z 0,Z 1, .p 0 0, .p 1 0, Z 4, .v (.int .i64 (n : Int)), Z 6,Z 7,Z 8,Z 9,Z 10,Z 11,Z 12,Z 13,Z 14,Z 15,Z 16,Z 17,Z 18,Z 19,Z 20,Z 21,Z 22,Z 23,Z 24,Z 25,Z 26,Z 27,Z 28,Z 29,Z 30,Z 31,Z 32,Z 33]) [[u0, u1, u2, u3, u4, .slice A1 r.ds.length q1, u6, u7, u8], [v0, v1, v2, v3, v4, .slice A2 t.ds.length q2, v6, v7, v8]] (fun _ => none) V s ∧ q + n = r.ds.length ∧ n ≤ t.ds.length ∧ ∀ i, i < n → r.ds[i]? = t.ds[i]?) r.ds.length ⟨0, StIs.of (by exact rfl), by omega, by omega, fun i hi => by omega⟩ ?_
 rintro q s ⟨n, hs, hq, hnt, heq⟩
 obtain ⟨z, rfl⟩ := hs.out
 try dsimp only
 clear hs
 refine XWP.seq ?_
 by_cases c1 : n < r.ds.length
 rotate_left
 ·have t1 : decide ((n : Int) < (r.ds.length : Int)) = false := decide_eq_false (by omega)
  (refine XWP.drw [0, 1, 2, 3, 4, 5, 6, 7, 8, 9, 10, 11, 12, 13, 14, 15, 16, 17, 18, 19, 20, 21, 22, 23, 24] (by kernel_rfl) (by kernel_rfl) (by kernel_rfl) fun K hK => ?_) <;> dsimp only [pickOps, List.getElem?_cons_zero, List.getElem?_cons_succ]
  simp only [XU, XA, XB, gateX, ↓reduceIte, t1]
  refine hK _ ?_
  refine Gx.f rfl ?_
  refine XWP.exit ?_
  exact ⟨n, StIs.of (by exact rfl), comN_stop n r.ds t.ds (by omega) hnt heq (.inl (by omega))⟩
 have t1 : decide ((n : Int) < (r.ds.length : Int)) = true := decide_eq_true (by omega)
 by_cases c2 : n < t.ds.length
 rotate_left
 ·have t2 : decide ((n : Int) < (t.ds.length : Int)) = false := decide_eq_false (by omega)
  (refine XWP.drw [0, 1, 2, 3, 4, 5, 6, 7, 8, 9, 10, 11, 12, 13, 14, 15, 16, 17, 18, 19, 20, 21, 22, 23, 24] (by kernel_rfl) (by kernel_rfl) (by kernel_rfl) fun K hK => ?_) <;> dsimp only [pickOps, List.getElem?_cons_zero, List.getElem?_cons_succ]
  simp only [XU, XA, XB, gateX, ↓reduceIte, beq_self_eq_true, t1, t2]
  refine hK _ ?_
  refine Gx.f rfl ?_
  refine XWP.exit ?_
  exact ⟨n, StIs.of (by exact rfl), comN_stop n r.ds t.ds (by omega) hnt heq (.inr (.inl (by omega)))⟩
 have t2 : decide ((n : Int) < (t.ds.length : Int)) = true := decide_eq_true (by omega)
 obtain ⟨b1, o1, rfl⟩ := SlK.addr hd1 (by omega)
 obtain ⟨b2, o2, rfl⟩ := SlK.addr hd2 (by omega)
 obtain ⟨dc, ⟨d1, _, d3⟩, hcell⟩ := SlK.get hd1 n c1
 obtain ⟨ec, ⟨e1, _, e3⟩, hcell2⟩ := SlK.get hd2 n c2
 have hkd : r.ds[n]? = some r.ds[n] := List.getElem?_eq_getElem c1
 have hke : t.ds[n]? = some t.ds[n] := List.getElem?_eq_getElem c2
 have d3 : dc = r.ds[n].cells := d3
 have e3 : ec = t.ds[n].cells := e3
 generalize r.ds[n] = d at *
 generalize t.ds[n] = e at *
 subst d3
 subst e3
 (refine XWP.drw [0, 1, 2, 3, 4, 5, 6, 7, 8, 9, 10, 11, 12, 13, 14, 15, 16, 17, 18, 19, 20, 21, 22, 23, 24] (by kernel_rfl) (by kernel_rfl) (by kernel_rfl) fun K hK => ?_) <;> dsimp only [pickOps, List.getElem?_cons_zero, List.getElem?_cons_succ]
 simp only [XU, XA, XB, gateX, ↓reduceIte, beq_self_eq_true, t1, t2]
 refine ⟨by omega, by omega, ld_mem (loadsK shapeT_66 d1 (hcell _)) ?_⟩
 simp only [XU, XA, gateX, ↓reduceIte, beq_self_eq_true]
 refine ⟨by omega, by omega, ld_mem (loadsK shapeT_66 e1 (hcell2 _)) ?_⟩
 simp only [XA, gateX, ↓reduceIte, beq_self_eq_true]
 refine bin_own rfl (drawn_eq d e) ?_
 by_cases hde : d = e
 ·have b3 : decide (d = e) = true := decide_eq_true hde
  simp only [XA, ↓reduceIte, b3]
  refine hK _ ?_
  refine Gx.t rfl ?_
  refine XWP.skip ?_
  refine XWP.block ?_
  refine Gx.c (by kernel_rfl) fun K hK => ?_
  simp only [XA, XB, i64_succ n (by omega)]
  refine hK _ ⟨q - 1, by omega, n + 1, StIs.of (by exact rfl), by omega, by omega, fun i hi => ?_⟩
  by_cases ei : i = n
  ·subst ei; rw [hkd, hke, hde]
  ·exact heq i (by omega)
 ·have b3 : decide (d = e) = false := decide_eq_false hde
  simp only [XA, ↓reduceIte, b3]
  refine hK _ ?_
  refine Gx.f rfl ?_
  refine XWP.exit ?_
  exact ⟨n, StIs.of (by exact rfl), comN_stop n r.ds t.ds (by omega) hnt heq (.inr (.inr (by rw [hkd, hke]; exact fun h => hde (Option.some.inj h))))⟩
theorem kpart_c (V : View) (a b : Int) (ha : 0 ≤ a) (hb : 0 < b) (la : a < 4611686018427387904) (lb : b < 4611686018427387904) : Spec Tryz.prog 69 [.int .i64 a, .int .i64 b] V fun v' V' => RatC V' v' (rv false a.toNat b.toNat) := by
 refine (Spec.enter Tryz.func69 rfl fun Γ => ?_)
 simp only [Tryz.ntmps69, List.map_cons, List.map_nil, List.length_cons, List.length_nil, Nat.reduceAdd, Nat.reduceSub, List.replicate_succ, List.replicate_zero, List.cons_append, List.nil_append]
 refine Gx.a (by kernel_rfl) fun K hK => ?_
 simp only [XA, XB]
 refine hK _ ?_
 refine Gx.a (by kernel_rfl) fun K hK => ?_
 simp only [XA]
 refine call_go (by kernel_rfl) rfl (qmake_i _ a b ha hb la lb) fun v1 V1 hV1 h1 => ?_
 obtain ⟨w, rfl, h1⟩ := h1
 obtain ⟨x, y, rfl, p1, p2⟩ := h1.form
 simp only [XA, XB]
 refine st_rat rfl rfl rfl p1 p2 ?_
 simp only [XA]
 refine hK _ ?_
 refine Gx.a (by kernel_rfl) fun K hK => ?_
 simp only [XA, XB, Nat.reduceAdd, Nat.reduceLeDiff, ↓reduceIte]
 refine st_rat rfl rfl rfl p1 p2 ?_
 simp only [XA]
 refine hK _ (XWP.ret ?_)
 try simp only [thenX_ret, inBlockX_ret]
 exact ret_rat1 rfl rfl rfl h1
def dq (l : List Dr) (k : Nat) : Rat := ((l[k]?).map fun d => rv false d.odds.toNat d.whole.toNat).getD 1
def tlQ (l : List Dr) : Nat → Rat
 | 0 => 1
 | k + 1 => tlQ l k * dq l k
theorem dq_QB {l : List Dr} (h : ∀ d ∈ l, d.good) (k : Nat) : QB 16 (dq l k) := by
 unfold dq
 cases hk : l[k]? with
 | none => exact QB_one 16
 | some d =>
  obtain ⟨_, g2, g3, g4⟩ := h d (List.mem_of_getElem? hk)
  exact QB_rv _ (by omega) (by omega)
theorem tlQ_QB {l : List Dr} (h : ∀ d ∈ l, d.good) : ∀ k, QB (16 * k) (tlQ l k)
 | 0 => QB_one _
 | k + 1 => ((tlQ_QB h k).mul (dq_QB h k)).mono (by omega)
def propM (a b : List Dr) : Nat := min (comN a b + 1) (min a.length b.length)
def propF (a b : List Dr) (m : Nat) : Rat := tlQ (b.drop m) (b.length - m) * rv false 1 a.length
def propQ (a b : List Dr) : Rat := Sm (propF a b) (propM a b)
theorem drop_good {l : List Dr} (h : ∀ d ∈ l, d.good) (m : Nat) : ∀ d ∈ l.drop m, d.good := fun d hd => h d (List.mem_of_mem_drop hd)
theorem propF_QB {a b : List Dr} (hb : ∀ d ∈ b, d.good) (la : a.length ≤ 8) (lb : b.length ≤ 8) (m : Nat) : QB 132 (propF a b m) :=
 (((tlQ_QB (drop_good hb m) (b.length - m)).mono (show 16 * (b.length - m) ≤ 128 by omega)).mul (QB_rv (B := 4) false (by omega) (by omega))).mono (by omega)
theorem propS_QB {a b : List Dr} (hb : ∀ d ∈ b, d.good) (la : a.length ≤ 8) (lb : b.length ≤ 8) : ∀ m, QB (m * 133) (Sm (propF a b) m)
 | 0 => QB_zero _
 | m + 1 => ((propS_QB hb la lb m).add (propF_QB hb la lb m)).mono (by omega)
theorem propQ_QB {a b : List Dr} (hb : ∀ d ∈ b, d.good) (la : a.length ≤ 8) (lb : b.length ≤ 8) : QB 1064 (propQ a b) :=
 (propS_QB hb la lb _).mono (by unfold propM; omega)
theorem SlK.drop {α : Type} {sz : Nat} {E : View → List Value → α → Prop} {V : View} {A : Option Addr} {n c : Nat} {xs : List α} (h : SlK sz E V (.slice A n c) xs) {m : Nat} (hm : m ≤ xs.length) : SlK sz E V (sliceV A c sz m n) (xs.drop m) := by
 obtain ⟨A', c', e, h1, h2, h3⟩ := h
 cases e
 unfold sliceV
 by_cases hc : c = m
 ·have : xs.drop m = [] := by rw [List.drop_eq_nil_iff]; omega
  rw [if_pos hc, this]
  exact ⟨A, c - m, by rw [show xs.length - m = 0 by omega]; rfl, by simp, by omega, .inl rfl⟩
 ·rw [if_neg hc]
  refine ⟨_, c - m, by rw [List.length_drop], by rw [List.length_drop]; omega, by omega, ?_⟩
  rcases h3 with rfl | ⟨b, o, arr, ty, fr, e1, e2, h4⟩
  ·exact .inl (by simp)
  ·refine .inr ⟨b, o + m * sz, arr, ty, fr, by rw [e1, Option.map_some, addr_add], e2, fun i x hx => ?_⟩
   rw [List.getElem?_drop] at hx
   obtain ⟨cs, k1, k2⟩ := h4 (m + i) x hx
   refine ⟨cs, k1, fun j u hj => ?_⟩
   have := k2 j u hj
   rw [Nat.add_mul] at this
   rw [show o + m * sz + i * sz + j = o + (m * sz + i * sz) + j by omega]
   exact this
theorem st_draws {V : View} {cs : List Value} {r : Rn} (h : ElK 18 stE V cs r) : ∃ x0 x1 x2 x3 x4 dv x6 x7 x8 x9 x10 x11 x12 x13 x14 x15 x16 x17, cs = [x0, x1, x2, x3, x4, dv, x6, x7, x8, x9, x10, x11, x12, x13, x14, x15, x16, x17] ∧ SlK 4 drE V dv r.ds ∧ ElK 9 rnE V [x0, x1, x2, x3, x4, dv, x6, x7, x8] r := by
 obtain ⟨_, _, v0, v1, v2, v3, v4, v5, v6, v7, v8, m, n, d, q1, q2, q3, s1, s2, s3, rfl, h1, _⟩ := h
 obtain ⟨u0, u1, u2, u3, u4, dv, u6, u7, u8, e, hd⟩ := rn_draws h1
 cases e
 exact ⟨_, _, _, _, _, _, _, _, _, _, _, _, _, _, _, _, _, _, rfl, hd, h1⟩
set_option maxHeartbeats 4000000 in
set_option maxRecDepth 100000 in
theorem cproposed_c (V : View) (cs1 cs2 : List Value) (r t : Rn) (h1 : ElK 18 stE V cs1 r) (h2 : ElK 18 stE V cs2 t) (hr : r.small) (ht : t.small) : Spec Tryz.prog 64 [.agg cs1.toArray, .agg cs2.toArray] V fun v' V' => RatC V' v' (propQ r.ds t.ds) := by
 have l1 := hr.len
 have l2 := ht.len
 obtain ⟨x0, x1, x2, x3, x4, dv1, x6, x7, x8, x9, x10, x11, x12, x13, x14, x15, x16, x17, rfl, hd1, hr1⟩ := st_draws h1
 obtain ⟨y0, y1, y2, y3, y4, dv2, y6, y7, y8, y9, y10, y11, y12, y13, y14, y15, y16, y17, rfl, hd2, hr2⟩ := st_draws h2
 obtain ⟨A1, q1, rfl, _, _⟩ := hd1.form
 obtain ⟨A2, q2, rfl, _, _⟩ := hd2.form
 have hcm := comN_le r.ds t.ds
 refine (Spec.enter Tryz.func64 rfl fun Γ => ?_)
 simp only [Tryz.ntmps64, List.map_cons, List.map_nil, List.length_cons, List.length_nil, Nat.reduceAdd, Nat.reduceSub, List.replicate_succ, List.replicate_zero, List.cons_append, List.nil_append]
 refine Gx.a (by kernel_rfl) fun K hK => ?_
 simp only [XA, XB, Nat.reduceAdd]
 refine hK _ ?_
 refine Gx.a (by kernel_rfl) fun K hK => ?_
 simp only [XA]
 refine call_go (by kernel_rfl) rfl (qzero_c _) fun v3 V3 hV3 h3 => ?_
 obtain ⟨x, y, rfl, o1, o2⟩ := h3.form
 simp only [XA, XB, Nat.reduceAdd]
 refine st_rat rfl rfl rfl o1 o2 ?_
 simp only [XA]
 refine hK _ ?_
 refine Gx.a (by kernel_rfl) fun K hK => ?_
 simp only [XU, XV, XA, Nat.reduceAdd, Nat.reduceLeDiff, ↓reduceIte]
 refine call_go (by kernel_rfl) rfl (ccommon_c _ _ _ r t (hr1.mono rnE_ok hV3) (hr2.mono rnE_ok hV3) (by omega) (by omega)) fun v4 V4 hV4 h4 => ?_
 subst h4
 simp only [XA]
 refine hK _ ?_
 have hV04 := View.le_trans hV3 hV4
 have h3 : RatC V4 (.agg #[.bool (ng 0), x, y]) (Sm (propF r.ds t.ds) 0) := h3.mono hV4
 refine XWP.cutD 4 (fun s => ∃ (V5 : View) (b x y : Value), StIs (fun Z => [Z 0,Z 1, .p 0 0, .p 1 0, .p 2 0, .p 3 0, .v (.int .i64 (comN r.ds t.ds : Nat)), Z 7,Z 8,Z 9,Z 10,Z 11,Z 12,Z 13,Z 14,Z 15,Z 16,Z 17,Z 18,Z 19,Z 20,Z 21,Z 22,Z 23,Z 24,Z 25,Z 26,Z 27,Z 28,Z 29,Z 30,Z 31,Z 32,Z 33,Z 34,Z 35,Z 36,Z 37,Z 38,Z 39,Z 40,Z 41,Z 42,Z 43,Z 44,Z 45,Z 46,Z 47,Z 48,Z 49,Z 50,Z 51,Z 52,Z 53,Z 54,Z 55,Z 56,Z 57,Z 58,Z 59,Z 60,Z 61,Z 62,Z 63,Z 64,Z 65,Z 66]) [[x0, x1, x2, x3, x4, .slice A1 r.ds.length q1, x6, x7, x8, x9, x10, x11, x12, x13, x14, x15, x16, x17], [y0, y1, y2, y3, y4, .slice A2 t.ds.length q2, y6, y7, y8, y9, y10, y11, y12, y13, y14, y15, y16, y17], [.bool false, .slice none 0 0, .slice none 0 0], [b, x, y]] (fun _ => none) V5 s ∧ RatC V5 (.agg #[b, x, y]) (propQ r.ds t.ds)) ?_ ?_
 rotate_left
 ·rintro s ⟨V5, b, x, y, hs, hx⟩
  obtain ⟨z, rfl⟩ := hs.out
  try dsimp only
  clear hs
  obtain ⟨x', y', e, p1, p2⟩ := hx.form
  cases e
  refine Gx.a (by kernel_rfl) fun K hK => ?_
  simp only [XA, XB, Nat.reduceAdd, Nat.reduceLeDiff, ↓reduceIte]
  refine st_rat rfl rfl rfl p1 p2 ?_
  simp only [XA]
  refine hK _ (XWP.ret ?_)
  try simp only [thenX_ret, inBlockX_ret]
  exact ret_rat1 rfl rfl rfl hx
 refine Gx.a (by kernel_rfl) fun K hK => ?_
 simp only [XA]
 refine hK _ ?_
 clear hK
 refine XWP.block ?_
 refine XWP.loopD 4 (fun q s => ∃ (m : Nat) (V5 : View) (b x y : Value), StIs (fun Z => [Z 0,Z 1, .p 0 0, .p 1 0, .p 2 0, .p 3 0, .v (.int .i64 (comN r.ds t.ds : Nat)), .v (.int .i64 (m : Int)), Z 8,Z 9,Z 10,Z 11,Z 12,Z 13,Z 14,Z 15,Z 16,Z 17,Z 18,Z 19,Z 20,Z 21,Z 22,Z 23,Z 24,Z 25,Z 26,Z 27,Z 28,Z 29,Z 30,Z 31,Z 32,Z 33,Z 34,Z 35,Z 36,Z 37,Z 38,Z 39,Z 40,Z 41,Z 42,Z 43,Z 44,Z 45,Z 46,Z 47,Z 48,Z 49,Z 50,Z 51,Z 52,Z 53,Z 54,Z 55,Z 56,Z 57,Z 58,Z 59,Z 60,Z 61,Z 62,Z 63,Z 64,Z 65,Z 66]) [[x0, x1, x2, x3, x4, .slice A1 r.ds.length q1, x6, x7, x8, x9, x10, x11, x12, x13, x14, x15, x16, x17], [y0, y1, y2, y3, y4, .slice A2 t.ds.length q2, y6, y7, y8, y9, y10, y11, y12, y13, y14, y15, y16, y17], [.bool false, .slice none 0 0, .slice none 0 0], [b, x, y]] (fun _ => none) V5 s ∧ q + m = propM r.ds t.ds ∧ V4.le V5 ∧ RatC V5 (.agg #[b, x, y]) (Sm (propF r.ds t.ds) m)) (propM r.ds t.ds) ⟨0, V4, _, x, y, StIs.of (by exact rfl), by omega, View.le_refl _, h3⟩ ?_
 clear h3 o1 o2
 rintro q s ⟨m, V5, b, x, y, hs, hq, hV5, hx⟩
 obtain ⟨z, rfl⟩ := hs.out
 try dsimp only
 clear hs
 refine XWP.seq ?_
 have eM : propM r.ds t.ds = min (comN r.ds t.ds + 1) (min r.ds.length t.ds.length) := rfl
 have hend : m = propM r.ds t.ds → RatC V5 (.agg #[b, x, y]) (propQ r.ds t.ds) := fun e => by unfold propQ; rw [← e]; exact hx
 by_cases c1 : m ≤ comN r.ds t.ds
 rotate_left
 ·have t1 : decide ((m : Int) ≤ ((comN r.ds t.ds : Nat) : Int)) = false := decide_eq_false (by omega)
  refine Gx.a (by kernel_rfl) fun K hK => ?_
  simp only [XA, XB, gateX, ↓reduceIte, t1]
  refine hK _ ?_
  refine Gx.f rfl ?_
  refine XWP.exit ?_
  exact fun f => ⟨V5, b, x, y, StIs.of (by exact rfl), hend (by omega)⟩
 have t1 : decide ((m : Int) ≤ ((comN r.ds t.ds : Nat) : Int)) = true := decide_eq_true (by omega)
 by_cases c2 : m < r.ds.length
 rotate_left
 ·have t2 : decide ((m : Int) < (r.ds.length : Int)) = false := decide_eq_false (by omega)
  refine Gx.a (by kernel_rfl) fun K hK => ?_
  simp only [XU, XV, XA, XB, gateX, ↓reduceIte, beq_self_eq_true, t1, t2]
  refine hK _ ?_
  refine Gx.f rfl ?_
  refine XWP.exit ?_
  exact fun f => ⟨V5, b, x, y, StIs.of (by exact rfl), hend (by omega)⟩
 have t2 : decide ((m : Int) < (r.ds.length : Int)) = true := decide_eq_true (by omega)
 by_cases c3 : m < t.ds.length
 rotate_left
 ·have t3 : decide ((m : Int) < (t.ds.length : Int)) = false := decide_eq_false (by omega)
  refine Gx.a (by kernel_rfl) fun K hK => ?_
  simp only [XU, XV, XA, XB, gateX, ↓reduceIte, beq_self_eq_true, t1, t2, t3]
  refine hK _ ?_
  refine Gx.f rfl ?_
  refine XWP.exit ?_
  exact fun f => ⟨V5, b, x, y, StIs.of (by exact rfl), hend (by omega)⟩
 have t3 : decide ((m : Int) < (t.ds.length : Int)) = true := decide_eq_true (by omega)
 refine Gx.a (by kernel_rfl) fun K hK => ?_
 simp only [XU, XV, XA, XB, gateX, ↓reduceIte, beq_self_eq_true, t1, t2, t3]
 refine hK _ ?_
 refine Gx.t rfl ?_
 refine XWP.skip ?_
 refine XWP.cutD 4 (fun s => ∃ (V6 : View) (b x y : Value), StIs (fun Z => [Z 0,Z 1, .p 0 0, .p 1 0, .p 2 0, .p 3 0, .v (.int .i64 (comN r.ds t.ds : Nat)), .v (.int .i64 (m : Int)), Z 8,Z 9,Z 10,Z 11,Z 12,Z 13,Z 14,Z 15,Z 16,Z 17,Z 18,Z 19,Z 20,Z 21,Z 22,Z 23,Z 24,Z 25,Z 26,Z 27,Z 28,Z 29,Z 30,Z 31,Z 32,Z 33,Z 34,Z 35,Z 36,Z 37,Z 38,Z 39,Z 40,Z 41,Z 42,Z 43,Z 44,Z 45,Z 46,Z 47,Z 48,Z 49,Z 50,Z 51,Z 52,Z 53,Z 54,Z 55,Z 56,Z 57,Z 58,Z 59,Z 60,Z 61,Z 62,Z 63,Z 64,Z 65,Z 66]) [[x0, x1, x2, x3, x4, .slice A1 r.ds.length q1, x6, x7, x8, x9, x10, x11, x12, x13, x14, x15, x16, x17], [y0, y1, y2, y3, y4, .slice A2 t.ds.length q2, y6, y7, y8, y9, y10, y11, y12, y13, y14, y15, y16, y17], [.bool false, .slice none 0 0, .slice none 0 0], [b, x, y]] (fun _ => none) V6 s ∧ V5.le V6 ∧ RatC V6 (.agg #[b, x, y]) (Sm (propF r.ds t.ds) (m + 1))) ?_ ?_
 rotate_left
 ·rintro s ⟨V6, b, x, y, hs, hV6, hx⟩
  obtain ⟨z, rfl⟩ := hs.out
  try dsimp only
  clear hs
  refine Gx.c (by kernel_rfl) fun K hK => ?_
  simp only [XA, XB, i64_succ m (by omega)]
  exact hK _ ⟨q - 1, by omega, fun f => ⟨m + 1, V6, b, x, y, StIs.of (by exact rfl), by omega, View.le_trans hV5 hV6, hx⟩⟩
 clear hK
 refine XWP.block ?_
 refine Gx.a (by kernel_rfl) fun K hK => ?_
 simp only [XA]
 refine call_go (by kernel_rfl) rfl (qone_c _) fun v6 V6 hV6 h6 => ?_
 obtain ⟨x6', y6', rfl, o3, o4⟩ := h6.form
 simp only [XA, XB, Nat.reduceAdd]
 refine st_rat rfl rfl rfl o3 o4 ?_
 simp only [XA]
 refine hK _ ?_
 have hds6 := (hd2.mono drE_ok (View.le_trans hV04 (View.le_trans hV5 hV6))).drop (m := m) (by omega)
 obtain ⟨A3, q3, e3, hq3, hm3⟩ := hds6.form
 have hl3 : (t.ds.drop m).length = t.ds.length - m := List.length_drop
 have hg3 := drop_good ht.good m
 rw [e3] at hds6
 have h6 : RatC V6 (.agg #[.bool (ng 1), x6', y6']) (tlQ (t.ds.drop m) 0) := h6
 have hQ3 : ∀ k, k ≤ 8 → QF (tlQ (t.ds.drop m) k) := fun k hk => (tlQ_QB hg3 k).qf (by omega)
 refine XWP.cutD 5 (fun s => ∃ (V7 : View) (b7 x7' y7' : Value), StIs (fun Z => [Z 0,Z 1, .p 0 0, .p 1 0, .p 2 0, .p 3 0, .v (.int .i64 (comN r.ds t.ds : Nat)), .v (.int .i64 (m : Int)), .p 4 0, Z 9,Z 10,Z 11,Z 12,Z 13,Z 14,Z 15,Z 16,Z 17,Z 18,Z 19,Z 20,Z 21,Z 22,Z 23,Z 24,Z 25,Z 26,Z 27,Z 28,Z 29,Z 30,Z 31,Z 32,Z 33,Z 34,Z 35,Z 36,Z 37,Z 38,Z 39,Z 40,Z 41,Z 42,Z 43,Z 44,Z 45,Z 46,Z 47,Z 48,Z 49,Z 50,Z 51,Z 52,Z 53,Z 54,Z 55,Z 56,Z 57,Z 58,Z 59,Z 60,Z 61,Z 62,Z 63,Z 64,Z 65,Z 66]) [[x0, x1, x2, x3, x4, .slice A1 r.ds.length q1, x6, x7, x8, x9, x10, x11, x12, x13, x14, x15, x16, x17], [y0, y1, y2, y3, y4, .slice A2 t.ds.length q2, y6, y7, y8, y9, y10, y11, y12, y13, y14, y15, y16, y17], [.bool false, .slice none 0 0, .slice none 0 0], [b, x, y], [b7, x7', y7']] (fun _ => none) V7 s ∧ V6.le V7 ∧ RatC V7 (.agg #[b7, x7', y7']) (tlQ (t.ds.drop m) (t.ds.length - m))) ?_ ?_
 ·refine Gx.a (by kernel_rfl) fun K hK => ?_
  simp only [XU, XV, XA]
  refine ⟨by omega, by omega, by omega, ?_⟩
  rw [e3]
  simp only [XA]
  refine hK _ ?_
  clear hK
  refine XWP.block ?_
  refine XWP.loopD 5 (fun n s => ∃ (k : Nat) (V7 : View) (b7 x7' y7' : Value), StIs (fun Z => [Z 0,Z 1, .p 0 0, .p 1 0, .p 2 0, .p 3 0, .v (.int .i64 (comN r.ds t.ds : Nat)), .v (.int .i64 (m : Int)), .p 4 0, Z 9,Z 10,Z 11,Z 12,Z 13,Z 14,Z 15,Z 16,Z 17,Z 18,Z 19,Z 20,Z 21,Z 22,Z 23,Z 24,Z 25,Z 26,Z 27,Z 28,Z 29,Z 30,Z 31,Z 32,Z 33,Z 34,Z 35,Z 36,Z 37,Z 38,Z 39,Z 40,Z 41,Z 42, .v (.slice A3 (t.ds.drop m).length q3), .v (.int .i64 ((t.ds.drop m).length : Int)), .v (.int .i64 (k : Int)), Z 46,Z 47,Z 48,Z 49,Z 50,Z 51,Z 52,Z 53,Z 54,Z 55,Z 56,Z 57,Z 58,Z 59,Z 60,Z 61,Z 62,Z 63,Z 64,Z 65,Z 66]) [[x0, x1, x2, x3, x4, .slice A1 r.ds.length q1, x6, x7, x8, x9, x10, x11, x12, x13, x14, x15, x16, x17], [y0, y1, y2, y3, y4, .slice A2 t.ds.length q2, y6, y7, y8, y9, y10, y11, y12, y13, y14, y15, y16, y17], [.bool false, .slice none 0 0, .slice none 0 0], [b, x, y], [b7, x7', y7']] (fun _ => none) V7 s ∧ n + k = (t.ds.drop m).length ∧ V6.le V7 ∧ RatC V7 (.agg #[b7, x7', y7']) (tlQ (t.ds.drop m) k)) (t.ds.drop m).length ⟨0, V6, _, x6', y6', StIs.of (by exact rfl), by omega, View.le_refl _, h6⟩ ?_
  clear h6 o3 o4
  rintro n s ⟨k, V7, b7, x7', y7', hs, hn, hV7, h7⟩
  obtain ⟨z, rfl⟩ := hs.out
  try dsimp only
  clear hs
  by_cases hk : k < (t.ds.drop m).length
  rotate_left
  ·obtain rfl : k = (t.ds.drop m).length := by omega
   have b8 : decide ((((t.ds.drop m).length : Nat) : Int) < (((t.ds.drop m).length : Nat) : Int)) = false := decide_eq_false (by omega)
   refine Gx.a (by kernel_rfl) fun K hK => ?_
   simp only [XA, XB, b8]
   refine hK _ ?_
   refine XWP.seq (Gx.f rfl ?_)
   refine XWP.exit ?_
   rw [hl3] at h7
   exact fun f => ⟨V7, b7, x7', y7', StIs.of (by exact rfl), hV7, h7⟩
  have b8 : decide ((k : Int) < ((t.ds.drop m).length : Int)) = true := decide_eq_true (by omega)
  refine Gx.a (by kernel_rfl) fun K hK => ?_
  simp only [XA, XB, b8]
  refine hK _ ?_
  refine XWP.seq (Gx.t rfl ?_)
  refine XWP.skip ?_
  have hds7 := hds6.mono drE_ok hV7
  obtain ⟨b3, o3, rfl⟩ := SlK.addr hds7 (by omega)
  obtain ⟨dc, ⟨d1, d2, d3⟩, hcell⟩ := SlK.get hds7 k hk
  have dgd := hg3 _ (List.getElem_mem hk)
  have hkd : (t.ds.drop m)[k]? = some (t.ds.drop m)[k] := List.getElem?_eq_getElem hk
  have d3 : dc = (t.ds.drop m)[k].cells := d3
  have edq : dq (t.ds.drop m) k = rv false ((t.ds.drop m)[k]).odds.toNat ((t.ds.drop m)[k]).whole.toNat := by unfold dq; rw [hkd]; rfl
  generalize (t.ds.drop m)[k] = d at *
  subst d3
  obtain ⟨g1, g2, g3, g4⟩ := dgd
  refine XWP.cutD 5 (fun s => ∃ (V8 : View) (b7 x7' y7' : Value), StIs (fun Z => [Z 0,Z 1, .p 0 0, .p 1 0, .p 2 0, .p 3 0, .v (.int .i64 (comN r.ds t.ds : Nat)), .v (.int .i64 (m : Int)), .p 4 0, Z 9,Z 10,Z 11,Z 12,Z 13,Z 14,Z 15,Z 16,Z 17,Z 18,Z 19,Z 20,Z 21,Z 22,Z 23,Z 24,Z 25,Z 26,Z 27,Z 28,Z 29,Z 30,Z 31,Z 32,Z 33,Z 34,Z 35,Z 36,Z 37,Z 38,Z 39,Z 40,Z 41,Z 42, .v (.slice (some ⟨b3, o3, none⟩) (t.ds.drop m).length q3), .v (.int .i64 ((t.ds.drop m).length : Int)), .v (.int .i64 (k : Int)), Z 46,Z 47,Z 48,Z 49,Z 50,Z 51,Z 52,Z 53,Z 54,Z 55,Z 56,Z 57,Z 58,Z 59,Z 60,Z 61,Z 62,Z 63,Z 64,Z 65,Z 66]) [[x0, x1, x2, x3, x4, .slice A1 r.ds.length q1, x6, x7, x8, x9, x10, x11, x12, x13, x14, x15, x16, x17], [y0, y1, y2, y3, y4, .slice A2 t.ds.length q2, y6, y7, y8, y9, y10, y11, y12, y13, y14, y15, y16, y17], [.bool false, .slice none 0 0, .slice none 0 0], [b, x, y], [b7, x7', y7']] (fun _ => none) V8 s ∧ V7.le V8 ∧ RatC V8 (.agg #[b7, x7', y7']) (tlQ (t.ds.drop m) (k + 1))) ?_ ?_
  rotate_left
  ·rintro s ⟨V8, b7, x7', y7', hs, hV8, h7⟩
   obtain ⟨z, rfl⟩ := hs.out
   try dsimp only
   clear hs
   refine Gx.c (by kernel_rfl) fun K hK => ?_
   simp only [XA, XB, i64_succ k (by omega)]
   exact hK _ ⟨n - 1, by omega, fun f => ⟨k + 1, V8, b7, x7', y7', StIs.of (by exact rfl), by omega, View.le_trans hV7 hV8, h7⟩⟩
  clear hK
  obtain ⟨x9', y9', e9, p3, p4⟩ := h7.form
  cases e9
  refine XWP.block ?_
  refine Gx.a (by kernel_rfl) fun K hK => ?_
  simp only [XU, XA]
  refine ⟨by omega, by omega, ld_mem (loadsK shapeT_66 d1 (hcell _)) ?_⟩
  simp only [XU, XA, Nat.reduceAdd]
  refine st_whole (cs := [.int .i64 d.site, .int .i64 d.index, .int .i64 d.odds, .int .i64 d.whole]) shapeT_66 rfl rfl rfl rfl ?_
  simp only [XA]
  refine hK _ ?_
  have hq9 : QF (rv false d.odds.toNat d.whole.toNat) := (QB_rv (B := 16) _ (by omega) (by omega)).qf (by omega)
  (refine XWP.drw1 [0, 1, 2, 3, 4, 5, 6, 7] (by kernel_rfl) (by kernel_rfl) (by kernel_rfl) fun K hK => ?_) <;> dsimp only [pickOps, List.getElem?_cons_zero, List.getElem?_cons_succ]
  simp only [XU, XA, XB, Nat.reduceAdd, Nat.reduceLeDiff, ↓reduceIte]
  refine call_go (by kernel_rfl) rfl (kpart_c _ d.odds d.whole (by omega) (by omega) (by omega) (by omega)) fun v8 V8 hV8 h8 => ?_
  simp only [XA]
  refine call_go (by kernel_rfl) rfl (qmul_c _ _ _ _ _ (h7.mono hV8) h8 (hQ3 k (by omega)) hq9) fun v9 V9 hV9 h9 => ?_
  rw [← edq] at h9
  have h9 : RatC V9 v9 (tlQ (t.ds.drop m) (k + 1)) := h9
  obtain ⟨x10', y10', rfl, p5, p6⟩ := h9.form
  simp only [XA]
  refine st_rat rfl rfl rfl p5 p6 ?_
  simp only [XA]
  exact hK _ fun f => ⟨V9, _, x10', y10', StIs.of (by exact rfl), View.le_trans hV8 hV9, h9⟩
 rintro s ⟨V7, b7, x7', y7', hs, hV7, h7⟩
 obtain ⟨z, rfl⟩ := hs.out
 try dsimp only
 clear hs
 obtain ⟨x9', y9', e9, p3, p4⟩ := h7.form
 cases e9
 have hqL : QF (rv false 1 r.ds.length) := (QB_rv (B := 4) false (by omega) (by omega)).qf (by omega)
 have hS := propS_QB (a := r.ds) ht.good l1 l2
 (refine XWP.drw1 [0, 1, 2, 3, 4, 5, 6, 7, 8, 9] (by kernel_rfl) (by kernel_rfl) (by kernel_rfl) fun K hK => ?_) <;> dsimp only [pickOps, List.getElem?_cons_zero, List.getElem?_cons_succ]
 simp only [XU, XV, XA, XB, Nat.reduceAdd, Nat.reduceLeDiff, ↓reduceIte]
 refine call_go (by kernel_rfl) rfl (kpart_c _ 1 (r.ds.length : Int) (by omega) (by omega) (by omega) (by omega)) fun v8 V8 hV8 h8 => ?_
 rw [show (1 : Int).toNat = 1 from rfl, Int.toNat_natCast] at h8
 simp only [XA]
 refine call_go (by kernel_rfl) rfl (qmul_c _ _ _ _ _ (h7.mono hV8) h8 (hQ3 _ (by omega)) hqL) fun v9 V9 hV9 h9 => ?_
 have h9 : RatC V9 v9 (propF r.ds t.ds m) := h9
 simp only [XA]
 refine call_go (by kernel_rfl) rfl (qadd_c _ _ _ _ _ (((hx.mono (View.le_trans hV6 hV7)).mono hV8).mono hV9) h9 ((hS m).qf (by omega)) ((propF_QB ht.good l1 l2 m).qf (by omega))) fun v10 V10 hV10 h10 => ?_
 have h10 : RatC V10 v10 (Sm (propF r.ds t.ds) (m + 1)) := h10
 obtain ⟨x10', y10', rfl, p5, p6⟩ := h10.form
 simp only [XA]
 refine st_rat rfl rfl rfl p5 p6 ?_
 simp only [XA]
 exact hK _ fun f => ⟨V10, _, x10', y10', StIs.of (by exact rfl), View.le_trans (View.le_trans hV6 hV7) (View.le_trans hV8 (View.le_trans hV9 hV10)), h10⟩
def dsOf (l : List Rn) (k : Nat) : List Dr := ((l[k]?).map fun r => r.ds).getD []
theorem dsOf_at {l : List Rn} {k : Nat} {r : Rn} (h : l[k]? = some r) : dsOf l k = r.ds := by unfold dsOf; rw [h]; rfl
theorem SlK.st2 {V : View} {b o n c i : Nat} {l : List Rn} {r : Rn} (h : SlK 18 stE V (.slice (some ⟨b, o, none⟩) n c) l) (hi : l[i]? = some r) : ∃ cs : List Value, ElK 18 stE V cs r ∧ ∀ H, Loads Tryz.prog H V 87 b (o + i * 18) (.agg cs.toArray) := by
 have hl := (List.getElem?_eq_some_iff.1 hi).1
 obtain ⟨cs, he, hcell⟩ := SlK.get h i hl
 rw [(List.getElem?_eq_some_iff.1 hi).2] at he
 exact ⟨cs, he, fun H => loadsK shapeT_87 he.1 fun j u hj => hcell H j u hj⟩
def suffQ (l : List Rn) (i k : Nat) : Rat := ltQ (propQ (dsOf l i) (dsOf l k)) (propQ (dsOf l k) (dsOf l i) * (wOf l k / wOf l i))
theorem suffQ_QB {l : List Rn} (hs : ∀ r ∈ l, r.small) {i k : Nat} (hi : i < l.length) (hk : k < l.length) : QB 2400 (suffQ l i k) := by
 obtain ⟨r, hr⟩ : ∃ r, l[i]? = some r := ⟨_, List.getElem?_eq_getElem hi⟩
 obtain ⟨t, ht⟩ : ∃ r, l[k]? = some r := ⟨_, List.getElem?_eq_getElem hk⟩
 have h1 := hs r (List.mem_of_getElem? hr)
 have h2 := hs t (List.mem_of_getElem? ht)
 unfold suffQ
 rw [dsOf_at hr, dsOf_at ht, wOf_at hr, wOf_at ht]
 exact (QB_lt (propQ_QB h2.good h1.len h2.len) ((propQ_QB h1.good h2.len h1.len).mul (h2.qb.div h1.qb))).mono (by omega)
set_option maxHeartbeats 2000000 in
theorem csuff1_c (V : View) (b e i k : Nat) (x : Value) (l : List Rn) (hb : V b = some (.cells ([x] : List Value).toArray e (0, 0))) (hx : SlK 18 stE V x l) (hs : ∀ r ∈ l, r.small) (hi : i < l.length) (hk : k < l.length) :
  Spec Tryz.prog 63 [.int .i64 (i : Int), .int .i64 (k : Int), .pointer (some ⟨b, 0, none⟩)] V fun v' V' => RatC V' v' (suffQ l i k) := by
 obtain ⟨A, c, rfl, _, _⟩ := hx.form
 obtain ⟨bL, oL, rfl⟩ := SlK.addr hx (by omega)
 obtain ⟨r, hr⟩ : ∃ r, l[i]? = some r := ⟨_, List.getElem?_eq_getElem hi⟩
 obtain ⟨t, ht⟩ : ∃ r, l[k]? = some r := ⟨_, List.getElem?_eq_getElem hk⟩
 have h1 := hs r (List.mem_of_getElem? hr)
 have h2 := hs t (List.mem_of_getElem? ht)
 obtain ⟨rc1, w1, q1, s1, e1, ew1, eq1, es1, ld1⟩ := hx.st hr
 obtain ⟨rc2, w2, q2, s2, e2, ew2, eq2, es2, ld2⟩ := hx.st ht
 obtain ⟨cs1, ec1, lc1⟩ := hx.st2 hr
 obtain ⟨cs2, ec2, lc2⟩ := hx.st2 ht
 have hld := ldV1 (off := 0) hb rfl shapeT_83 (fun _ => none)
 refine (Spec.enter Tryz.func63 rfl fun Γ => ?_)
 simp only [Tryz.ntmps63, List.map_cons, List.map_nil, List.length_cons, List.length_nil, Nat.reduceAdd, Nat.reduceSub, List.replicate_succ, List.replicate_zero, List.cons_append, List.nil_append]
 refine Gx.a (by kernel_rfl) fun K hK => ?_
 simp only [XA, XB]
 refine hK _ ?_
 (refine XWP.drw [0, 1, 2, 3, 4, 5, 6, 7, 9, 10, 11, 12, 13, 14, 15, 16, 18, 19, 20, 21, 22, 23, 24, 25, 26, 27, 8, 17, 28, 29, 30, 31] (by kernel_rfl) (by kernel_rfl) (by kernel_rfl) fun K hK => ?_) <;> dsimp only [pickOps, List.getElem?_cons_zero, List.getElem?_cons_succ]
 simp only [XA]
 refine ld_mem hld ?_
 simp only [XV, XA]
 refine ⟨by omega, by omega, ld_mem (lc1 _) ?_⟩
 simp only [XA]
 refine ld_mem hld ?_
 simp only [XV, XA]
 refine ⟨by omega, by omega, ld_mem (lc2 _) ?_⟩
 simp only [XA]
 refine ld_mem hld ?_
 simp only [XV, XA]
 refine ⟨by omega, by omega, ld_mem (lc2 _) ?_⟩
 simp only [XA]
 refine ld_mem hld ?_
 simp only [XV, XA]
 refine ⟨by omega, by omega, ld_mem (lc1 _) ?_⟩
 simp only [XA]
 refine ld_mem hld ?_
 simp only [XV, XA]
 refine ⟨by omega, by omega, ld_mem (ld2 _).2.1 ?_⟩
 simp only [XA]
 refine ld_mem hld ?_
 simp only [XV, XA]
 refine ⟨by omega, by omega, ld_mem (ld1 _).2.1 ?_⟩
 simp only [XA]
 refine call_go (by kernel_rfl) rfl (cproposed_c _ _ _ r t ec1 ec2 h1 h2) fun v3 V3 hV3 h3 => ?_
 simp only [XA]
 refine call_go (by kernel_rfl) rfl (cproposed_c _ _ _ t r (ec2.mono stE_ok hV3) (ec1.mono stE_ok hV3) h2 h1) fun v4 V4 hV4 h4 => ?_
 simp only [XA]
 have hV34 := View.le_trans hV3 hV4
 have n1 : r.w.q ≠ 0 := fun e => by have := h1.pos; rw [e] at this; exact absurd this (by decide)
 refine call_go (by kernel_rfl) rfl (kby_c _ _ _ _ _ (ew2.mono hV34) (ew1.mono hV34) (h2.qb.qf (by omega)) (h1.qb.qf (by omega)) n1) fun v5 V5 hV5 h5 => ?_
 simp only [XA]
 have qb4 := propQ_QB h1.good h2.len h1.len
 have qb5 := h2.qb.div h1.qb
 have qb3 := propQ_QB h2.good h1.len h2.len
 refine call_go (by kernel_rfl) rfl (qmul_c _ _ _ _ _ (h4.mono hV5) h5 (qb4.qf (by omega)) (qb5.qf (by omega))) fun v6 V6 hV6 h6 => ?_
 simp only [XA]
 refine call_go (by kernel_rfl) rfl (qleast_c _ _ _ _ _ (h3.mono (View.le_trans hV4 (View.le_trans hV5 hV6))) h6 (qb3.qf (by omega)) ((qb4.mul qb5).qf (by omega))) fun v7 V7 hV7 h7 => ?_
 obtain ⟨x6, y6, rfl, p1, p2⟩ := h7.form
 simp only [XA]
 refine st_rat rfl rfl rfl p1 p2 ?_
 simp only [XA]
 refine hK _ (XWP.ret ?_)
 try simp only [thenX_ret, inBlockX_ret]
 refine ret_rat1 rfl rfl rfl ?_
 unfold suffQ
 rw [dsOf_at hr, dsOf_at ht, wOf_at hr, wOf_at ht]
 exact h7
theorem csuff_c (V : View) (v : Value) (l : List Rn) (h : SlK 9 rnE V v l) (f : ∀ r ∈ l, r.fits) (fs : ∀ r ∈ l, r.ds.length ≤ 8 ∧ (r.w.ok = true → QB 128 r.w.q)) (ll : l.length ≤ 1000000) : Spec Tryz.prog 23 [v] V fun v' V' => (rightR l = false → v' = .tuple #[.agg #[.int .i64 0, .int .i64 0, .slice none 0 0], .int .i64 1]) ∧ (rightR l = true → ∃ s, v' = .tuple #[.agg #[.int .i64 (l.length : Int), .int .i64 (l.length : Int), s], .int .i64 0] ∧ Rats V' s (flatG (moveG (suffQ l) l.length) l.length l.length)) := by
 obtain ⟨A, cL, rfl, _, _⟩ := h.form
 refine (Spec.enter Tryz.func23 rfl fun Γ => ?_)
 simp only [Tryz.ntmps23, List.map_cons, List.map_nil, List.length_cons, List.length_nil, Nat.reduceAdd, Nat.reduceSub, List.replicate_succ, List.replicate_zero, List.cons_append, List.nil_append]
 refine Gx.a (by kernel_rfl) fun K hK => ?_
 simp only [XM, XA]
 refine hK _ ?_
 refine XWP.seq ?_
 refine Gx.a (by kernel_rfl) fun K hK => ?_
 simp only [XA]
 refine call_go (by kernel_rfl) rfl (kright_c _ _ l h f ll) fun v1 V1 hV1 h1 => ?_
 subst h1
 cases hr : rightR l
 ·simp only [XA]
  refine hK _ ?_
  refine Gx.t rfl ?_
  refine Gx.a (by kernel_rfl) fun K hK => ?_
  simp only []
  refine bd_go (by kernel_rfl) #[] (by simp) bd_mtx0 ?_
  simp only [XA]
  refine st_mat shapeT_26 rfl rfl rfl rfl rfl ?_
  simp only [XA]
  refine hK _ (XWP.ret ?_)
  try simp only [thenX_ret, inBlockX_ret]
  exact ret_mat2C rfl rfl rfl rfl ⟨fun _ => rfl, fun h => absurd h (by rw [hr]; simp)⟩
 obtain ⟨g1, g2, g3⟩ := right_small hr fs
 simp only [XA]
 refine hK _ ?_
 refine Gx.f rfl ?_
 refine XWP.skip ?_
 refine Gx.a (by kernel_rfl) fun K hK => ?_
 simp only [XA]
 refine call_go (by kernel_rfl) rfl (cstates_c _ _ l (h.mono rnE_ok hV1) (by omega) (by omega) (fun r hr => (g3 r hr).fine)) fun v2 V2 hV2 h2 => ?_
 obtain ⟨A2, c2, rfl, _, _⟩ := h2.form
 simp only [XV, XA]
 refine st_one shapeT_83 rfl rfl (by simp) ?_
 simp only [XA]
 refine hK _ ?_
 refine XWP.row1 (bx := [_]) fun b e hb _ => ?_
 simp only [List.map_cons, List.map_nil, rowS_v, rowS_p, List.length_nil, List.length_cons, Nat.reduceAdd, Nat.reduceEqDiff, ↓reduceIte]
 refine XWP.pub b _ (upd_at _ _ _) fun o ho hle => ?_
 have eo := row_obj ho
 subst eo
 have hbv := addV_at V2 b (.cells ([.slice A2 l.length c2] : List Value).toArray e (0, 0))
 have h2 := h2.mono stE_ok hle
 generalize addV V2 b _ = V3 at *
 refine Gx.a (by kernel_rfl) fun K hK => ?_
 simp only [XA]
 refine ld_mem (ldV1 (off := 0) hbv rfl shapeT_83 _) ?_
 simp only [XA]
 refine mkf_go [.pointer (some ⟨b, 0, none⟩)] rfl ?_
 simp only [XA]
 refine call_go (by kernel_rfl) rfl (cmoves_c V3 A2 l.length c2 63 2400 [.pointer (some ⟨b, 0, none⟩)] (suffQ l) g2 (by kernel_rfl) (fun i k hi hk _ => suffQ_QB g3 hi hk) (by omega) fun V' i k hV hi hk _ => csuff1_c V' b e i k _ l (hV _ _ hbv) (h2.mono stE_ok hV) g3 hi hk) fun v4 V4 hV4 h4 => ?_
 obtain ⟨s, rfl, hs⟩ := h4
 obtain ⟨As, cs, rfl, _, _⟩ := hs.form
 simp only [XA]
 refine st_mat shapeT_26 rfl rfl rfl rfl rfl ?_
 simp only [XA]
 refine hK _ (XWP.ret ?_)
 try simp only [thenX_ret, inBlockX_ret]
 exact ret_mat2C rfl rfl rfl rfl ⟨fun h => absurd h (by rw [hr]; simp), fun _ => ⟨_, rfl, hs⟩⟩
end Go.Proofs.YtobjjdnfgamgcaaGreat
end
