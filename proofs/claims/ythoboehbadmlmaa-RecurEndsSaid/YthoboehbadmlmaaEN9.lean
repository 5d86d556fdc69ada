/- The weights that exit a chain step by step are the reference's, errors included. (part 9 of 12) -/
import Derived.OrdersHeld
import Derived.Below
import Derived.Tactics
import Derived.KernelRfl
import Derived.RangeFuncCalls
import Derived.RangeFuncFrom
import Derived.RangeFuncLeaves
import Derived.OrdersIn
import Derived.Laws.AppendOwn
import Derived.Laws.MakeOwn
import Derived.Laws.CopyRow
import Derived.Laws.Cells
import Derived.Laws.World
import Derived.Laws.Alloc2
import Derived.Laws.NewBlocks
import Derived.Maps.AppendAt
import Derived.Test.YthoboehbadmlmaaProg
import Init.Data.List.Lemmas
import Init.Omega
import Derived.WalkKit
import Derived.ProofKit
import Derived.OpenShut
import Derived.ChangeOld
import Derived.SizedLaws
import Derived.ChangeSlices
import Derived.ChangeArms
import Derived.Deep.Slices
import Derived.Test.YthoboehbadmlmaaEN8
section
namespace Go.Proofs.Ythoboehbadmlmaa
open Go Go.RowKit
set_option linter.unusedSimpArgs false
set_option linter.unusedVariables false
attribute [local irreducible] XWP Spec SpecO XPub XCall seqX clX apX stX ldX iaX slX
theorem bs_rat2 {t : Nat} {a b c a' b' c' : Value} (he : elemT Try.prog t = some 34) : BuildsSlice Try.prog t 2 #[(0, .agg #[a, b, c]), (1, .agg #[a', b', c'])] 34 [a, b, c, a', b', c'] := by
  obtain ⟨i, zv, hi, hzv, h1, h2, _⟩ := zero_parts zeroT_34
  have hc : zv.cells = #[.bool false, .slice none 0 0, .slice none 0 0] := Array.toList_inj.1 h1
  refine bs_run (cells := #[a, b, c, a', b', c']) he hi hzv (by omega) (by omega) ?_
  rw [h2, hc]
  have : madeCells #[.bool false, .slice none 0 0, .slice none 0 0] (2 * 3) = #[.bool false, .slice none 0 0, .slice none 0 0, .bool false, .slice none 0 0, .slice none 0 0] := Array.toList_inj.1 (by rw [made_flat _ 3 rfl (by omega)]; rfl)
  rw [this, fill_three (off := 0) rfl (by simp), fill_three (off := 3) rfl (by simp)]; rfl
theorem bs_rat4 {t : Nat} {a b c a' b' c' d e f d' e' f' : Value} (he : elemT Try.prog t = some 34) : BuildsSlice Try.prog t 4 #[(0, .agg #[a, b, c]), (1, .agg #[a', b', c']), (2, .agg #[d, e, f]), (3, .agg #[d', e', f'])] 34 [a, b, c, a', b', c', d, e, f, d', e', f'] := by
  obtain ⟨i, zv, hi, hzv, h1, h2, _⟩ := zero_parts zeroT_34
  have hc : zv.cells = #[.bool false, .slice none 0 0, .slice none 0 0] := Array.toList_inj.1 h1
  refine bs_run (cells := #[a, b, c, a', b', c', d, e, f, d', e', f']) he hi hzv (by omega) (by omega) ?_
  rw [h2, hc]
  have : madeCells #[.bool false, .slice none 0 0, .slice none 0 0] (4 * 3) = #[.bool false, .slice none 0 0, .slice none 0 0, .bool false, .slice none 0 0, .slice none 0 0, .bool false, .slice none 0 0, .slice none 0 0, .bool false, .slice none 0 0, .slice none 0 0] := Array.toList_inj.1 (by rw [made_flat _ 3 rfl (by omega)]; rfl)
  rw [this, fill_three (off := 0) rfl (by simp), fill_three (off := 3) rfl (by simp), fill_three (off := 6) rfl (by simp), fill_three (off := 9) rfl (by simp)]
  simp [Instr.fill]
def fib : List Rat := [1, 1, 1 + 1, 1 + (1 + 1)]
theorem fib_bm : bmOut (bmI fib 4) = [1, 1] ∧ (bmI fib 4).size = 2 := by
  have s1 : bmI fib 1 = ⟨[1, -1], [1], 1, 1, 1⟩ := by
    show bmStep fib ⟨[1], [1], 0, 1, 1⟩ 0 = _
    decide +kernel
  have s2 : bmI fib 2 = ⟨[1, -1], [1], 1, 2, 1⟩ := by rw [bmI, s1]; decide +kernel
  have s3 : bmI fib 3 = ⟨[1, -1, -1], [1, -1], 2, 1, 1⟩ := by rw [bmI, s2]; decide +kernel
  have s4 : bmI fib 4 = ⟨[1, -1, -1], [1, -1], 2, 2, 1⟩ := by rw [bmI, s3]; decide +kernel
  rw [s4]
  decide +kernel
theorem fib_QB : ∀ x ∈ fib, QB 2 x := by
  intro x hx
  have h2 : QB 1 ((1 : Rat) + 1) := (QB_one 0).add (QB_one 0)
  simp only [fib, List.mem_cons, List.not_mem_nil, or_false] at hx
  rcases hx with rfl | rfl | rfl | rfl
  · exact QB_one 2
  · exact QB_one 2
  · exact h2.mono (by omega)
  · exact (QB_one 0).add h2
theorem fib_CB : CB 8 fib := CB_of fib fib_QB
theorem fib_fit (i : Nat) (hi : i < 4) : BMFit fib (bmI fib i) i := bm_fit (e := 2) fib_CB (by simp [fib]) (by simp [bb, fib]) i (by simpa [fib] using hi)
theorem fib_q (i : Nat) : QF (cf (bmI fib 4).q i) := by
  obtain ⟨h1, _, _⟩ := bm_CB (e := 2) fib_CB 4 (by omega) 4 (by omega)
  exact QF.of (h1.at i) (by simp [bb])
theorem fib_len : fib.length = 4 := rfl
theorem fib_eq : [] ++ [1] ++ [1] ++ [1 + 1] ++ [1 + (1 + 1)] = fib := rfl
theorem fib_rec (V : View) (v : Value) (hl : Rats V v fib) : Spec Try.prog 13 [v] V fun v' V' => ∃ w, v' = .tuple #[w, .int .i64 0] ∧ Rats V' w [1, 1] := by
  have eq : qs (fib.map toRaw) = fib := qs_toRaw fib
  have el : (fib.map toRaw).length = 4 := by rw [List.length_map]; exact fib_len
  refine (crec_c V v (fib.map toRaw) (Rats.raws hl) (fitR_toRaw (fun x hx => QF.of (fib_QB x hx) (by omega))) (by omega) (fun _ i hi => ?_) (fun _ x hx => ?_) (fun _ i => ?_)).mono fun v' V' hV h => ?_
  · rw [eq]; exact fib_fit i (by omega)
  · rw [eq] at hx; exact QF.of (fib_QB x hx) (by omega)
  · rw [eq, el]; exact fib_q i
  · have h5 := h.2.2 (okR_toRaw _)
    rw [eq, el, fib_bm.1, fib_bm.2] at h5
    exact h5 (by omega)
attribute [local irreducible] fib
theorem alive_c (V : View) : Spec Try.prog 18 [] V fun v' V' => v' = .bool true := by
  refine (Spec.enter Try.func18 rfl fun Γ => ?_)
  simp only [Try.ntmps18, List.map_cons, List.map_nil, List.length_cons, List.length_nil, Nat.reduceAdd, Nat.reduceSub, List.replicate_succ, List.replicate_zero, List.cons_append, List.nil_append]
  first | refine Gx.a (by kernel_rfl) fun K hK => ?_ | refine Gx.b (by kernel_rfl) fun K hK => ?_ | refine Gx.c (by kernel_rfl) fun K hK => ?_
  simp only [XA, XB, gateX, Nat.reduceAdd, Nat.reduceLeDiff, Nat.reduceSub, Nat.reduceMul, ↓reduceIte, Int.reduceToNat, Int.reduceLE, beq_self_eq_true]
  refine hK _ ?_
  first | refine Gx.a (by kernel_rfl) fun K hK => ?_ | refine Gx.b (by kernel_rfl) fun K hK => ?_ | refine Gx.c (by kernel_rfl) fun K hK => ?_
  simp only [XA, XB, gateX, Nat.reduceAdd, Nat.reduceLeDiff, Nat.reduceSub, Nat.reduceMul, ↓reduceIte, Int.reduceToNat, Int.reduceLE, beq_self_eq_true]
  refine call_go (by kernel_rfl) rfl (pone_c _) fun v1 V1 hV1 h1 => ?_
  obtain ⟨x1, y1, rfl, o1, o2⟩ := h1.form
  simp only [XA, XB, gateX, Nat.reduceAdd, Nat.reduceLeDiff, Nat.reduceSub, Nat.reduceMul, ↓reduceIte, Int.reduceToNat, Int.reduceLE, beq_self_eq_true]
  refine st_rat rfl rfl rfl o1 o2 ?_
  simp only [XA, XB, gateX, Nat.reduceAdd, Nat.reduceLeDiff, Nat.reduceSub, Nat.reduceMul, ↓reduceIte, Int.reduceToNat, Int.reduceLE, beq_self_eq_true]
  refine hK _ ?_
  (first | refine XWP.drw [0, 1, 2, 3, 5, 6, 7, 4, 8, 9, 10, 11, 12, 13, 14, 15, 16] (by kernel_rfl) (by kernel_rfl) (by kernel_rfl) fun K hK => ?_ | refine XWP.seq (XWP.drw [0, 1, 2, 3, 5, 6, 7, 4, 8, 9, 10, 11, 12, 13, 14, 15, 16] (by kernel_rfl) (by kernel_rfl) (by kernel_rfl) fun K hK => ?_) | refine XWP.drw1 [0, 1, 2, 3, 5, 6, 7, 4, 8, 9, 10, 11, 12, 13, 14, 15, 16] (by kernel_rfl) (by kernel_rfl) (by kernel_rfl) fun K hK => ?_) <;> dsimp only [pickOps, List.getElem?_cons_zero, List.getElem?_cons_succ]
  simp only [XA, XB, gateX, Nat.reduceAdd, Nat.reduceLeDiff, Nat.reduceSub, Nat.reduceMul, ↓reduceIte, Int.reduceToNat, Int.reduceLE, beq_self_eq_true]
  refine call_go (by kernel_rfl) rfl (padd_c _ _ _ _ _ (h1.toV QF_one) (h1.toV QF_one) QF_one QF_one) fun v2 V2 hV2 h2 => ?_
  have h1 := h1.mono hV2
  simp only [XA, XB, gateX, Nat.reduceAdd, Nat.reduceLeDiff, Nat.reduceSub, Nat.reduceMul, ↓reduceIte, Int.reduceToNat, Int.reduceLE, beq_self_eq_true]
  refine call_go (by kernel_rfl) rfl (padd_c _ _ _ _ _ (h1.toV QF_one) (h1.toV QF_one) QF_one QF_one) fun v3 V3 hV3 h3 => ?_
  have h1 := h1.mono hV3
  have h2 := h2.mono hV3
  have f2 : QF ((1 : Rat) + 1) := QF.of ((QB_one 0).add (QB_one 0)) (by omega)
  simp only [XA, XB, gateX, Nat.reduceAdd, Nat.reduceLeDiff, Nat.reduceSub, Nat.reduceMul, ↓reduceIte, Int.reduceToNat, Int.reduceLE, beq_self_eq_true]
  refine call_go (by kernel_rfl) rfl (padd_c _ _ _ _ _ (h1.toV QF_one) (h3.toV f2) QF_one f2) fun v4 V4 hV4 h4 => ?_
  have h1 := h1.mono hV4
  have h2 := h2.mono hV4
  obtain ⟨x2, y2, rfl, o3, o4⟩ := h2.form
  obtain ⟨x4, y4, rfl, o5, o6⟩ := h4.form
  simp only [XA, XB, gateX, Nat.reduceAdd, Nat.reduceLeDiff, Nat.reduceSub, Nat.reduceMul, ↓reduceIte, Int.reduceToNat, Int.reduceLE, beq_self_eq_true]
  refine bs_go (by kernel_rfl) #[(0, .agg #[.bool (ng 1), x1, y1]), (1, .agg #[.bool (ng 1), x1, y1]), (2, .agg #[.bool (ng (1 + 1)), x2, y2]), (3, .agg #[.bool (ng (1 + (1 + 1))), x4, y4])] (by simp [ev_tmp, SV.val]) (bs_rat4 elemT_22) fun b hb1 hb2 => ?_
  simp only [XA, XB, gateX, Nat.reduceAdd, Nat.reduceLeDiff, Nat.reduceSub, Nat.reduceMul, ↓reduceIte, Int.reduceToNat, Int.reduceLE, beq_self_eq_true]
  refine call_pub b ⟨34, [.bool (ng 1), x1, y1, .bool (ng 1), x1, y1, .bool (ng (1 + 1)), x2, y2, .bool (ng (1 + (1 + 1))), x4, y4], 12⟩ (by simp only [upd_at]) (fun o ho hle' => ?_) (by kernel_rfl) rfl
  have hrow := ((((RowAt.nil (E := ratE) V4).snoc (x := 1) (show isOne (.bool (ng 1)) = true from rfl) o1 o2 h1).snoc (x := 1) (show isOne (.bool (ng 1)) = true from rfl) o1 o2 h1).snoc (x := 1 + 1) (show isOne (.bool (ng (1 + 1))) = true from rfl) o3 o4 h2).snoc (x := 1 + (1 + 1)) (show isOne (.bool (ng (1 + (1 + 1)))) = true from rfl) o5 o6 h4
  rw [fib_eq] at hrow
  simp only [List.nil_append, List.cons_append] at hrow
  have hl := hrow.pub ratE_ok ho hle' (n := 4) (c := 4) fib_len (Nat.le_refl _) (by omega)
  refine call_go (by kernel_rfl) rfl (fib_rec _ _ hl) fun v5 V5 hV5 h5 => ?_
  obtain ⟨w, rfl, hw⟩ := h5
  simp only [XA, XB, gateX, Nat.reduceAdd, Nat.reduceLeDiff, Nat.reduceSub, Nat.reduceMul, ↓reduceIte, Int.reduceToNat, Int.reduceLE, beq_self_eq_true]
  refine hK _ ?_
  have h1 := (h1.mono hle').mono hV5
  first | refine Gx.a (by kernel_rfl) fun K hK => ?_ | refine Gx.b (by kernel_rfl) fun K hK => ?_ | refine Gx.c (by kernel_rfl) fun K hK => ?_
  simp only [XA, XB, gateX, Nat.reduceAdd, Nat.reduceLeDiff, Nat.reduceSub, Nat.reduceMul, ↓reduceIte, Int.reduceToNat, Int.reduceLE, beq_self_eq_true, decide_true]
  refine bs_go (by kernel_rfl) #[(0, .agg #[.bool (ng 1), x1, y1]), (1, .agg #[.bool (ng 1), x1, y1])] (by simp [ev_tmp, SV.val]) (bs_rat2 elemT_22) fun b3 hb3 hb4 => ?_
  simp only [XA, XB, gateX, Nat.reduceAdd, Nat.reduceLeDiff, Nat.reduceSub, Nat.reduceMul, ↓reduceIte, Int.reduceToNat, Int.reduceLE, beq_self_eq_true]
  refine call_pub b3 ⟨34, [.bool (ng 1), x1, y1, .bool (ng 1), x1, y1], 6⟩ (by simp only [upd_at]) (fun o2' ho2 hle2 => ?_) (by kernel_rfl) rfl
  have hrow2 := (((RowAt.nil (E := ratE) V5).snoc (x := 1) (show isOne (.bool (ng 1)) = true from rfl) o1 o2 h1).snoc (x := 1) (show isOne (.bool (ng 1)) = true from rfl) o1 o2 h1)
  simp only [List.nil_append, List.cons_append] at hrow2
  have q11 : ∀ x ∈ [(1 : Rat), 1], QF x := fun x hx => by
    simp only [List.mem_cons, List.not_mem_nil, or_false, or_self] at hx
    rw [hx]; exact QF_one
  refine call_go (by kernel_rfl) rfl (lsame_c _ _ _ [1, 1] [1, 1] (hw.up hle2) (hrow2.pub ratE_ok ho2 hle2 (n := 2) (c := 2) rfl (Nat.le_refl _) (by omega)) q11 q11) fun v6 V6 hV6 h6 => ?_
  subst h6
  simp only [XA, XB, gateX, Nat.reduceAdd, Nat.reduceLeDiff, Nat.reduceSub, Nat.reduceMul, ↓reduceIte, Int.reduceToNat, Int.reduceLE, beq_self_eq_true]
  refine hK _ (XWP.ret ?_)
  try simp only [thenX_ret, inBlockX_ret]
  refine ret_go _ rfl ?_
  show Value.bool _ = _
  simp
theorem fewR_qf {l : List Raw} (h : fewR l) (hd : digR l) : ∀ x ∈ qs l, QF x := fun x hx => QF.of (fewR_QB h hd x hx) (by omega)
end Go.Proofs.Ythoboehbadmlmaa
end
section
namespace Go.Proofs.Ythoboehbadmlmaa
open Go Go.RowKit
set_option linter.unusedSimpArgs false
set_option linter.unusedVariables false
attribute [local irreducible] XWP Spec SpecO XPub XCall seqX clX apX stX ldX iaX slX
theorem fewR_CB' {P : List Raw} {n : Nat} (h : fewR P) (hd : digR P) (hl : P.length ≤ n) : CB (n * 96) (qs P) := (fewR_CB h hd).mono (Nat.mul_le_mul_right _ hl)
end Go.Proofs.Ythoboehbadmlmaa
end
section
namespace Go.Proofs.Ythoboehbadmlmaa
open Go Go.RowKit Go.ChangeShapes
set_option linter.unusedVariables false
/-- the whole world, as what is published -/
def viewW (w : World) : View := fun k => w.heap[k]?
theorem viewW_sub (w : World) : View.sub (viewW w) w := fun _ _ h => h
theorem cell_view {w : World} {a : Addr} {v : Value} (h : w.cell? a = some v) : a.spot = none ∧ ∃ arr ty fr, viewW w a.block = some (.cells arr ty fr) ∧ arr[a.off]? = some v := by
  unfold World.cell? at h
  split at h
  · rename_i c t f hb
    split at h
    · cases h
    · rename_i hs
      refine ⟨?_, c, t, f, hb, h⟩
      cases hsp : a.spot with
      | none => rfl
      | some x => rw [hsp] at hs; simp at hs
  · cases h
theorem add_off (a : Addr) (n : Nat) : (a.add n).block = a.block ∧ (a.add n).off = a.off + n := by
  unfold Addr.add; split
  · rename_i h; subst h; exact ⟨rfl, rfl⟩
  · exact ⟨rfl, rfl⟩
theorem cells_view {w : World} {a : Addr} {n : Nat} {f : Nat → Value} (hn : 0 < n) (h : ∀ i, i < n → w.cell? (a.add i) = some (f i)) : a.spot = none ∧ ∃ arr ty fr, viewW w a.block = some (.cells arr ty fr) ∧ ∀ i, i < n → arr[a.off + i]? = some (f i) := by
  have h0 := h 0 hn
  have e0 : a.add 0 = a := by simp [Addr.add]
  rw [e0] at h0
  obtain ⟨hs, arr, ty, fr, hb, _⟩ := cell_view h0
  refine ⟨hs, arr, ty, fr, hb, fun i hi => ?_⟩
  obtain ⟨_, arr', ty', fr', hb', hv⟩ := cell_view (h i hi)
  obtain ⟨e1, e2⟩ := add_off a i
  rw [e1, hb] at hb'
  cases hb'
  rw [e2] at hv; exact hv
theorem addr_eta (a : Addr) (h : a.spot = none) : a = ⟨a.block, a.off, none⟩ := by cases a; simp at h; subst h; rfl
section
variable {H : Type} {enc : TypeId × Value → H} {w : World} {base : Nat} {spare : Nat → Bool} {held : Bool}
theorem und_nat : (Try.prog).underlying 32 = some (.slice 129) := und_elem elemT_32
theorem und_u32 : (Try.prog).underlying 129 = some (.int .u32) := by kernel_rfl
theorem cells_u32 : (Try.prog).cellsOf 129 = 1 := by kernel_rfl
theorem cells_rat : (Try.prog).cellsOf 34 = 3 := by kernel_rfl
theorem open_nat {fuel : Nat} {v : Value} {x : DataW H × List MemPlace} (h : DataW.trod enc Try.prog w base spare held fuel 32 [v] = some x) : ∃ ds, NatAt (viewW w) v ds := by
  rcases open_ints und_nat und_u32 cells_u32 h with ⟨hcs, _⟩ | ⟨a, len, cap, zs, hcs, _, hl, hm, hz, _, hcell, hwz⟩
  · cases hcs; exact ⟨[], NatAt.nil _⟩
  · cases hcs
    have hzl : len ≤ zs.length := by rw [hz]; split <;> omega
    have hwf : ∀ z ∈ zs, 0 ≤ z ∧ z < 4294967296 := fun z hz => by
      have := hwz z hz
      simp [Lit.wf, IntKind.min, IntKind.max, IntKind.signed, IntKind.bits] at this
      omega
    refine ⟨(zs.take len).map Int.toNat, some a, cap, by simp [Nat.min_eq_left hzl], by simp; omega, by unfold maxLen at hm; omega, fun d hd => ?_, ?_⟩
    · obtain ⟨z, hz, rfl⟩ := List.mem_map.1 hd
      have := hwf z (List.mem_of_mem_take hz)
      unfold BB; omega
    · rcases Nat.eq_zero_or_pos len with h0 | h0
      · subst h0; exact .inl (by simp)
      · obtain ⟨hs, arr, ty, fr, hb, hv⟩ := cells_view (f := fun i => .int .u32 (zs.getD i 0)) (by omega) hcell
        refine .inr ⟨a.block, a.off, arr, ty, fr, by rw [← addr_eta a hs], hb, fun i d hd => ?_⟩
        rw [List.getElem?_map, List.getElem?_take] at hd
        split at hd
        · rename_i hi
          rw [hv i (by omega)]
          have hiz : i < zs.length := by omega
          rw [List.getElem?_eq_getElem hiz] at hd
          simp at hd
          have := hwf zs[i] (List.getElem_mem hiz)
          simp [hiz]
          omega
        · cases hd
noncomputable def ratFields : Array Field := match (Try.prog).underlying 34 with
  | some (.struct fs) => fs
  | _ => #[]
theorem und_rat : (Try.prog).underlying 34 = some (.struct ratFields) := by kernel_rfl
theorem ratFields_map : ratFields.toList.map (fun f => (f.type, f.offset)) = [(4, 0), (32, 1), (32, 2)] := by kernel_rfl
theorem und_bool : (Try.prog).underlying 4 = some .bool := by kernel_rfl
theorem cells_bool : (Try.prog).cellsOf 4 = 1 := by kernel_rfl
theorem cells_nat : (Try.prog).cellsOf 32 = 1 := by kernel_rfl
theorem ratField (i : Nat) (t o : Nat) (h : [(4, 0), (32, 1), (32, 2)][i]? = some (t, o)) : ∃ f, ratFields[i]? = some f ∧ f.type = t ∧ f.offset = o := by
  rw [← ratFields_map, List.getElem?_map] at h
  cases hf : ratFields.toList[i]? with
  | none => rw [hf] at h; cases h
  | some f =>
    rw [hf] at h
    simp at h
    exact ⟨f, by rw [← Array.getElem?_toList]; exact hf, h.1, h.2⟩
theorem three_of {α : Type} {l : List α} (h : l.length = 3) : ∃ a b c, l = [a, b, c] := by
  rcases l with _ | ⟨a, _ | ⟨b, _ | ⟨c, _ | ⟨d, l⟩⟩⟩⟩ <;> simp at h
  exact ⟨a, b, c, rfl⟩
theorem open_rat {fuel : Nat} {cs : List Value} {x : DataW H × List MemPlace} (h : DataW.trod enc Try.prog w base spare held fuel 34 cs = some x) : ∃ (r : Raw) (n d : Value), cs = [.bool r.m, n, d] ∧ NatAt (viewW w) n r.nd ∧ NatAt (viewW w) d r.dd := by
  obtain ⟨xs, m, _, _, hl, hxl, hf⟩ := DataW.trod_struct und_rat h
  rw [cells_rat] at hl
  have hsz : ratFields.size = 3 := by
    have := congrArg List.length ratFields_map
    simpa using this
  obtain ⟨c0, c1, c2, rfl⟩ := three_of hl
  obtain ⟨f0, a0, t0, o0⟩ := ratField 0 _ _ rfl
  obtain ⟨f1, a1, t1, o1⟩ := ratField 1 _ _ rfl
  obtain ⟨f2, a2, t2, o2⟩ := ratField 2 _ _ rfl
  have h0 := hf 0 f0 a0
  have h1 := hf 1 f1 a1
  have h2 := hf 2 f2 a2
  rw [t0, o0, cells_bool, List.getElem?_eq_getElem (by omega)] at h0
  rw [t1, o1, cells_nat, List.getElem?_eq_getElem (by omega)] at h1
  rw [t2, o2, cells_nat, List.getElem?_eq_getElem (by omega)] at h2
  obtain ⟨b, e, _⟩ := DataW.trod_bool und_bool h0
  have e' : c0 = .bool b := by simpa using e
  subst e'
  obtain ⟨ds, hn⟩ := open_nat h1
  obtain ⟨es, hd⟩ := open_nat h2
  exact ⟨⟨b, ds, es⟩, c1, c2, rfl, hn, hd⟩
theorem choose_list {α : Type} {Q : Nat → α → Prop} : ∀ n, (∀ i, i < n → ∃ x, Q i x) → ∃ xs : List α, xs.length = n ∧ ∀ i x, xs[i]? = some x → Q i x
  | 0, _ => ⟨[], rfl, fun i x h => by simp at h⟩
  | n + 1, h => by
    obtain ⟨xs, hl, hq⟩ := choose_list n fun i hi => h i (by omega)
    obtain ⟨x, hx⟩ := h n (by omega)
    refine ⟨xs ++ [x], by simp [hl], fun i y hi => ?_⟩
    by_cases hlt : i < n
    · rw [List.getElem?_append_left (by omega)] at hi; exact hq i y hi
    · rw [List.getElem?_append_right (by omega)] at hi
      have : i = n := by
        rcases Nat.eq_zero_or_pos (i - xs.length) with h0 | h0
        · omega
        · rw [List.getElem?_eq_none (by simp; omega)] at hi; cases hi
      subst this
      rw [hl, Nat.sub_self] at hi
      simp at hi
      subst hi; exact hx
theorem open_raws {t fuel : Nat} {v : Value} {x : DataW H × List MemPlace} (ht : elemT Try.prog t = some 34) (h : DataW.trod enc Try.prog w base spare held fuel t [v] = some x) : ∃ l, Raws (viewW w) v l := by
  rcases Go.Deep.open_slice (und_elem ht) h with ⟨hcs, _⟩ | ⟨a, len, cap, m, n, D, Pl, hcs, _, hl, hm, hmm, _, hel⟩
  · cases hcs; exact ⟨[], SlAt.nil _⟩
  · cases hcs
    have hlm : len ≤ m := by rw [hmm]; split <;> omega
    have key : ∀ i, i < len → ∃ r : Raw, ∃ n d : Value, w.cell? (a.add (i * 3)) = some (.bool r.m) ∧ w.cell? (a.add (i * 3 + 1)) = some n ∧ w.cell? (a.add (i * 3 + 2)) = some d ∧ NatAt (viewW w) n r.nd ∧ NatAt (viewW w) d r.dd := fun i hi => by
      obtain ⟨cs', h1, h2⟩ := hel i (by omega)
      obtain ⟨r, n', d, rfl, k1, k2⟩ := open_rat h2
      rw [cells_rat] at h1
      obtain ⟨_, _, h3⟩ := World.cells?_some h1
      have g0 := h3 0 (by omega)
      have g1 := h3 1 (by omega)
      have g2 := h3 2 (by omega)
      rw [Go.Deep.add_add] at g0 g1 g2
      exact ⟨r, n', d, g0, g1, g2, k1, k2⟩
    obtain ⟨l, hll, hq⟩ := choose_list len key
    refine ⟨l, some a, cap, by rw [hll], by omega, by unfold maxLen at hm; omega, ?_⟩
    rcases Nat.eq_zero_or_pos len with h0 | h0
    · exact .inl (List.length_eq_zero_iff.1 (by omega))
    · obtain ⟨nn, dd, g0, _⟩ := hq 0 l[0] (List.getElem?_eq_getElem (by omega))
      have e0 : a.add (0 * 3) = a := by simp [Addr.add]
      rw [e0] at g0
      obtain ⟨hs, arr, ty, fr, hb, _⟩ := cell_view g0
      refine .inr ⟨a.block, a.off, arr, ty, fr, by rw [← addr_eta a hs], hb, fun i x hi => ?_⟩
      obtain ⟨n', d, g0, g1, g2, k1, k2⟩ := hq i x hi
      have at_ : ∀ k v, w.cell? (a.add k) = some v → arr[a.off + k]? = some v := fun k v hk => by
        obtain ⟨_, arr', ty', fr', hb', hv⟩ := cell_view hk
        obtain ⟨e1, e2⟩ := add_off a k
        rw [e1, hb] at hb'
        cases hb'
        rw [e2] at hv; exact hv
      exact ⟨.bool x.m, n', d, at_ _ _ g0, at_ _ _ g1, at_ _ _ g2, rfl, k1.one, k2.one, n', d, rfl, k1, k2⟩
end
end Go.Proofs.Ythoboehbadmlmaa
end
section
namespace Go.Proofs.Ythoboehbadmlmaa
open Go Go.RowKit Go.ChangeShapes
set_option linter.unusedVariables false
section
variable {H : Type} {enc : TypeId × Value → H} {w : World} {base : Nat} {spare : Nat → Bool} {held : Bool}
noncomputable def matFields : Array Field := match (Try.prog).underlying 61 with
  | some (.struct fs) => fs
  | _ => #[]
theorem und_mat : (Try.prog).underlying 61 = some (.struct matFields) := by kernel_rfl
theorem matFields_map : matFields.toList.map (fun f => (f.type, f.offset)) = [(3, 0), (3, 1), (22, 2)] := by kernel_rfl
noncomputable def chnFields : Array Field := match (Try.prog).underlying 63 with
  | some (.struct fs) => fs
  | _ => #[]
theorem und_chn : (Try.prog).underlying 63 = some (.struct chnFields) := by kernel_rfl
theorem chnFields_map : chnFields.toList.map (fun f => (f.type, f.offset)) = [(61, 0), (61, 3)] := by kernel_rfl
theorem cells_int : (Try.prog).cellsOf 3 = 1 := by kernel_rfl
theorem cells_rats : (Try.prog).cellsOf 22 = 1 := by kernel_rfl
theorem cells_mat : (Try.prog).cellsOf 61 = 3 := by kernel_rfl
theorem cells_chn : (Try.prog).cellsOf 63 = 6 := by kernel_rfl
theorem und_int : (Try.prog).underlying 3 = some (.int .i64) := by kernel_rfl
theorem fieldOf {fs : Array Field} {m : List (Nat × Nat)} (hm : fs.toList.map (fun f => (f.type, f.offset)) = m) (i : Nat) (t o : Nat) (h : m[i]? = some (t, o)) : ∃ f, fs[i]? = some f ∧ f.type = t ∧ f.offset = o := by
  rw [← hm, List.getElem?_map] at h
  cases hf : fs.toList[i]? with
  | none => rw [hf] at h; cases h
  | some f =>
    rw [hf] at h
    simp at h
    exact ⟨f, by rw [← Array.getElem?_toList]; exact hf, h.1, h.2⟩
theorem open_mat {fuel : Nat} {cs : List Value} {x : DataW H × List MemPlace} (h : DataW.trod enc Try.prog w base spare held fuel 61 cs = some x) : ∃ (r c : Int) (s : Value) (l : List Raw), cs = [.int .i64 r, .int .i64 c, s] ∧ Raws (viewW w) s l := by
  obtain ⟨xs, m, _, _, hl, hxl, hf⟩ := DataW.trod_struct und_mat h
  rw [cells_mat] at hl
  have hsz : matFields.size = 3 := by
    have := congrArg List.length matFields_map
    simpa using this
  obtain ⟨v0, v1, v2, rfl⟩ := three_of hl
  obtain ⟨f0, a0, t0, o0⟩ := fieldOf matFields_map 0 _ _ rfl
  obtain ⟨f1, a1, t1, o1⟩ := fieldOf matFields_map 1 _ _ rfl
  obtain ⟨f2, a2, t2, o2⟩ := fieldOf matFields_map 2 _ _ rfl
  have h0 := hf 0 f0 a0
  have h1 := hf 1 f1 a1
  have h2 := hf 2 f2 a2
  rw [t0, o0, cells_int, List.getElem?_eq_getElem (by omega)] at h0
  rw [t1, o1, cells_int, List.getElem?_eq_getElem (by omega)] at h1
  rw [t2, o2, cells_rats, List.getElem?_eq_getElem (by omega)] at h2
  obtain ⟨r, e0, _⟩ := DataW.trod_int und_int h0
  obtain ⟨c, e1, _⟩ := DataW.trod_int und_int h1
  have e0' : v0 = .int .i64 r := by simpa using e0
  have e1' : v1 = .int .i64 c := by simpa using e1
  subst e0'
  subst e1'
  obtain ⟨l, hl2⟩ := open_raws (v := v2) (by kernel_rfl) h2
  exact ⟨r, c, v2, l, rfl, hl2⟩
theorem open_chain {fuel : Nat} {cs : List Value} {x : DataW H × List MemPlace} (h : DataW.trod enc Try.prog w base spare held fuel 63 cs = some x) : ∃ (r1 c1 : Int) (s1 : Value) (l1 : List Raw) (r2 c2 : Int) (s2 : Value) (l2 : List Raw), cs = [.int .i64 r1, .int .i64 c1, s1, .int .i64 r2, .int .i64 c2, s2] ∧ Raws (viewW w) s1 l1 ∧ Raws (viewW w) s2 l2 := by
  obtain ⟨xs, m, _, _, hl, hxl, hf⟩ := DataW.trod_struct und_chn h
  rw [cells_chn] at hl
  have hsz : chnFields.size = 2 := by
    have := congrArg List.length chnFields_map
    simpa using this
  obtain ⟨f0, a0, t0, o0⟩ := fieldOf chnFields_map 0 _ _ rfl
  obtain ⟨f1, a1, t1, o1⟩ := fieldOf chnFields_map 1 _ _ rfl
  have h0 := hf 0 f0 a0
  have h1 := hf 1 f1 a1
  rw [t0, o0, cells_mat, List.getElem?_eq_getElem (by omega)] at h0
  rw [t1, o1, cells_mat, List.getElem?_eq_getElem (by omega)] at h1
  obtain ⟨r1, c1, s1, l1, e0, k1⟩ := open_mat h0
  obtain ⟨r2, c2, s2, l2, e1, k2⟩ := open_mat h1
  refine ⟨r1, c1, s1, l1, r2, c2, s2, l2, ?_, k1, k2⟩
  have e := List.take_append_drop 3 cs
  rw [show cs.take 3 = [.int .i64 r1, .int .i64 c1, s1] by simpa using e0] at e
  have e3 : cs.drop 3 = [.int .i64 r2, .int .i64 c2, s2] := by
    have : ((cs.drop 3).take 3) = cs.drop 3 := List.take_of_length_le (by rw [List.length_drop]; omega)
    rw [← this]; exact e1
  rw [e3] at e
  exact e.symm
end
end Go.Proofs.Ythoboehbadmlmaa
end
section
namespace Go.Proofs.Ythoboehbadmlmaa
def Sm (f : Nat → Rat) : Nat → Rat
  | 0 => 0
  | n + 1 => Sm f n + f n
theorem Sm_congr {f g : Nat → Rat} : ∀ (n : Nat), (∀ j, j < n → f j = g j) → Sm f n = Sm g n
  | 0, _ => rfl
  | n + 1, h => by
    have := Sm_congr n (fun j hj => h j (by omega))
    simp only [Sm, this, h n (by omega)]
theorem Sm_zero {f : Nat → Rat} (n : Nat) (h : ∀ j, j < n → f j = 0) : Sm f n = 0 := by
  induction n with
  | zero => rfl
  | succ n ih =>
    simp only [Sm, ih fun j hj => h j (by omega), h n (by omega)]
    grind
theorem Sm_one {f : Nat → Rat} {n k : Nat} (hk : k < n) (h : ∀ j, j < n → j ≠ k → f j = 0) : Sm f n = f k := by
  induction n with
  | zero => omega
  | succ n ih =>
    by_cases hn : k = n
    · subst hn
      simp only [Sm, Sm_zero k fun j hj => h j (by omega) (by omega)]; grind
    · simp only [Sm, ih (by omega) fun j hj => h j (by omega), h n (by omega) (by omega)]; grind
/-- the product of two series -/
def cv (f g : Nat → Rat) (n : Nat) : Rat := Sm (fun j => f j * g (n - j)) (n + 1)
def un (i : Nat) : Rat := if i = 0 then 1 else 0
def mon (t : Rat) (k i : Nat) : Rat := if i = k then t else 0
theorem cv_mon (f : Nat → Rat) (t : Rat) (k n : Nat) : cv f (mon t k) n = if k ≤ n then t * f (n - k) else 0 := by
  unfold cv mon
  by_cases h : k ≤ n
  · rw [if_pos h, Sm_one (k := n - k) (by omega) fun j hj hne => by rw [if_neg (by omega)]; grind]
    rw [if_pos (by omega)]; grind
  · rw [if_neg h]
    exact Sm_zero _ fun j hj => by rw [if_neg (by omega)]; grind
theorem cv_un (f : Nat → Rat) : cv f un = f := by
  funext n
  have e : un = mon 1 0 := rfl
  rw [e, cv_mon, if_pos (by omega)]; simp only [Nat.sub_zero]; grind
theorem cv_zero (f : Nat → Rat) : cv f (fun _ => 0) = fun _ => 0 := by
  funext n
  exact Sm_zero _ fun j _ => by grind
end Go.Proofs.Ythoboehbadmlmaa
end
section
namespace Go.Proofs.Ythoboehbadmlmaa
theorem cf_nil : cf [] = fun _ => 0 := by funext i; exact cf_none (by simp)
theorem cf_un : cf [1] = un := by funext i; rw [cf_one]; rfl
def Dv (d p : List Rat) : Prop := ∃ s : List Rat, cf p = cv (cf d) (cf s)
theorem Dv.refl (p : List Rat) : Dv p p := ⟨[1], by rw [cf_un, cv_un]⟩
theorem Dv.nil (p : List Rat) : Dv p [] := ⟨[], by rw [cf_nil, cv_zero]⟩
end Go.Proofs.Ythoboehbadmlmaa
end
section
namespace Go.Proofs.Ythoboehbadmlmaa
end Go.Proofs.Ythoboehbadmlmaa
end
section
namespace Go.Proofs.Ythoboehbadmlmaa
set_option linter.unusedVariables false
set_option linter.unusedSimpArgs false
end Go.Proofs.Ythoboehbadmlmaa
end
section
namespace Go.Proofs.Ythoboehbadmlmaa
set_option linter.unusedVariables false
set_option linter.unusedSimpArgs false
end Go.Proofs.Ythoboehbadmlmaa
end
section
namespace Go.Proofs.Ythoboehbadmlmaa
set_option linter.unusedVariables false
set_option linter.unusedSimpArgs false
end Go.Proofs.Ythoboehbadmlmaa
end
section
namespace Go.Proofs.Ythoboehbadmlmaa
set_option linter.unusedVariables false
set_option linter.unusedSimpArgs false
theorem cf_take (l : List Rat) (k i : Nat) : cf (l.take k) i = if i < k then cf l i else 0 := by
  by_cases hi : i < k
  · rw [if_pos hi]; unfold cf; simp [hi]
  · rw [if_neg hi]; exact cf_none (by simp; omega)
end Go.Proofs.Ythoboehbadmlmaa
end
section
namespace Go.Proofs.Ythoboehbadmlmaa
end Go.Proofs.Ythoboehbadmlmaa
end
section
namespace Go.Proofs.Ythoboehbadmlmaa
/-- none of k numbers is below 0 -/
def nnB (l : List Rat) (off : Nat) : Nat → Bool
  | 0 => true
  | k + 1 => nnB l off k && !ng (cf l (off + k))
/-- a number and k numbers more -/
def rS (l : List Rat) (off : Nat) (b : Rat) : Nat → Rat
  | 0 => b
  | k + 1 => rS l off b k + cf l (off + k)
theorem nnB_le {l : List Rat} {off m : Nat} (h : nnB l off m = true) : ∀ k, k ≤ m → nnB l off k = true := by
  induction m with
  | zero => intro k hk; rw [show k = 0 by omega]; rfl
  | succ m ih =>
    intro k hk
    rw [nnB, Bool.and_eq_true] at h
    rcases Nat.eq_or_lt_of_le hk with e | e
    · rw [e, nnB, Bool.and_eq_true]; exact h
    · exact ih h.1 k (by omega)
theorem nnB_get {l : List Rat} {off m : Nat} (h : nnB l off m = true) (k : Nat) (hk : k < m) : ng (cf l (off + k)) = false := by
  have := nnB_le h (k + 1) (by omega)
  rw [nnB, Bool.and_eq_true] at this
  simpa using this.2
theorem rS_over {A D : Nat} {l : List Rat} (hD : 0 < D) (h : ∀ i, Over D A (cf l i)) (off : Nat) : ∀ k, Over D (A + k) (rS l off 0 k)
  | 0 => Over.zero _ _
  | k + 1 => by
    have := (rS_over hD h off k).add hD ((h (off + k)).mono (show A ≤ A + k by omega))
    exact this
theorem rS_base (l : List Rat) (off : Nat) (b : Rat) (k : Nat) : rS l off b k = b + rS l off 0 k := by
  induction k with
  | zero => simp only [rS]; grind
  | succ k ih => simp only [rS, ih]; grind
theorem rS_QB {A B : Nat} {l : List Rat} {b : Rat} (h : CB A l) (hb : QB B b) (off k : Nat) : QB (B + (A + k) + 1) (rS l off b k) := by
  obtain ⟨D, d1, d2, d3⟩ := h
  rw [rS_base]
  exact hb.add ((rS_over d1 d3 off k).qb (Nat.le_trans d2 (two_mono (by omega))))
def rowB (n m : Nat) (M E : List Rat) (i : Nat) : Bool := nnB M (i * n) n && nnB E (i * m) m && decide (rS E (i * m) (rS M (i * n) 0 n) m = 1)
def rowsB (n m : Nat) (M E : List Rat) : Nat → Bool
  | 0 => true
  | i + 1 => rowsB n m M E i && rowB n m M E i
theorem rowsB_bad {n m : Nat} {M E : List Rat} {i k : Nat} (h : rowB n m M E i = false) (hi : i < k) : rowsB n m M E k = false := by
  induction k with
  | zero => omega
  | succ k ih =>
    rw [rowsB]
    rcases Nat.eq_or_lt_of_le hi with e | e
    · rw [show i = k by omega] at h
      rw [h, Bool.and_false]
    · rw [ih (by omega), Bool.false_and]
theorem rowsB_get {n m : Nat} {M E : List Rat} {k : Nat} (h : rowsB n m M E k = true) (i : Nat) (hi : i < k) : rowB n m M E i = true := by
  cases hb : rowB n m M E i
  · rw [rowsB_bad hb hi] at h; cases h
  · rfl
/-- a row times a matrix of c columns -/
def tS (a M : List Rat) (c k : Nat) : Nat → Rat
  | 0 => 0
  | i + 1 => tS a M c k i + cf a i * cf M (i * c + k)
def thr (a M : List Rat) (c : Nat) : List Rat := mk c fun k => tS a M c k a.length
theorem thr_len (a M : List Rat) (c : Nat) : (thr a M c).length = c := mk_len _ _
theorem tS_over {A B D E : Nat} {a M : List Rat} (hD : 0 < D) (hE : 0 < E) (ha : ∀ i, Over D A (cf a i)) (hM : ∀ i, Over E B (cf M i)) (c k : Nat) : ∀ i, Over (D * E) (A + B + i) (tS a M c k i)
  | 0 => Over.zero _ _
  | i + 1 => by
    have h1 := (ha i).mul (hM (i * c + k))
    have := (tS_over hD hE ha hM c k i).add (Nat.mul_pos hD hE) (h1.mono (show A + B ≤ A + B + i by omega))
    exact this
theorem tS_QB {A B : Nat} {a M : List Rat} (ha : CB A a) (hM : CB B M) (c k i : Nat) : QB (A + B + i) (tS a M c k i) := by
  obtain ⟨D, d1, d2, d3⟩ := ha
  obtain ⟨E, e1, e2, e3⟩ := hM
  exact (tS_over d1 e1 d3 e3 c k i).qb (Nat.le_trans (two_mul_le d2 e2) (two_mono (by omega)))
theorem thr_CB {A B : Nat} {a M : List Rat} (ha : CB A a) (hM : CB B M) (c : Nat) : CB (A + B + a.length) (thr a M c) := by
  obtain ⟨D, d1, d2, d3⟩ := ha
  obtain ⟨E, e1, e2, e3⟩ := hM
  refine ⟨D * E, Nat.mul_pos d1 e1, Nat.le_trans (two_mul_le d2 e2) (two_mono (by omega)), fun i => ?_⟩
  unfold thr
  rw [cf_mk]
  split
  · exact tS_over d1 e1 d3 e3 c i a.length
  · exact Over.zero _ _
/-- numbers not below 0 -/
theorem ng_iff (q : Rat) : ng q = false ↔ 0 ≤ q := by
  unfold ng
  rw [decide_eq_false_iff_not]
  rw [Int.not_lt]; exact Rat.num_nonneg
theorem tS_nn {a M : List Rat} {c : Nat} (k : Nat) : ∀ i, (∀ j, j < i → 0 ≤ cf a j) → (∀ j, j < i → 0 ≤ cf M (j * c + k)) → 0 ≤ tS a M c k i
  | 0, _, _ => Rat.le_refl
  | i + 1, ha, hM => by
    have h1 := tS_nn (a := a) (M := M) (c := c) k i (fun j hj => ha j (by omega)) (fun j hj => hM j (by omega))
    have h2 := Rat.mul_nonneg (ha i (by omega)) (hM i (by omega))
    exact Rat.add_nonneg h1 h2
end Go.Proofs.Ythoboehbadmlmaa
end
section
namespace Go.Proofs.Ythoboehbadmlmaa
theorem XM : type_of% (And.intro (And.intro (And.intro (And.intro (@shapeT_61) (And.intro (@zeroT_61) (@fieldT_61_0))) (And.intro (@fieldT_61_1) (And.intro (@fieldT_61_2) (@shapeT_63)))) (And.intro (And.intro (@zeroT_63) (And.intro (@fieldT_63_0) (@fieldT_63_1))) (And.intro (@shapeT_68) (And.intro (@zeroT_68) (@fieldT_68_0))))) (And.intro (And.intro (And.intro (@fieldT_68_1) (And.intro (@fieldT_68_2) (@shapeT_70))) (And.intro (@zeroT_70) (And.intro (@fieldT_70_0) (@fieldT_70_1)))) (And.intro (And.intro (@elemT_137) (And.intro (@kindT_137) (@shapeT_137))) (And.intro (@elemT_142) (And.intro (@kindT_142) (@shapeT_142)))))) := And.intro (And.intro (And.intro (And.intro (@shapeT_61) (And.intro (@zeroT_61) (@fieldT_61_0))) (And.intro (@fieldT_61_1) (And.intro (@fieldT_61_2) (@shapeT_63)))) (And.intro (And.intro (@zeroT_63) (And.intro (@fieldT_63_0) (@fieldT_63_1))) (And.intro (@shapeT_68) (And.intro (@zeroT_68) (@fieldT_68_0))))) (And.intro (And.intro (And.intro (@fieldT_68_1) (And.intro (@fieldT_68_2) (@shapeT_70))) (And.intro (@zeroT_70) (And.intro (@fieldT_70_0) (@fieldT_70_1)))) (And.intro (And.intro (@elemT_137) (And.intro (@kindT_137) (@shapeT_137))) (And.intro (@elemT_142) (And.intro (@kindT_142) (@shapeT_142)))))
end Go.Proofs.Ythoboehbadmlmaa
end
section
namespace Go.Proofs.Ythoboehbadmlmaa
open Go Go.RowKit
set_option linter.unusedSimpArgs false
set_option linter.unusedVariables false
attribute [local irreducible] XWP Spec SpecO XPub XCall seqX clX apX stX ldX iaX slX
def matR (r c : Int) (L : List Raw) : Bool := decide (0 ≤ r ∧ r ≤ 60 ∧ 0 ≤ c ∧ c ≤ 60 ∧ (L.length : Int) = r * c) && okR L
theorem mul60 {r c : Int} (h1 : 0 ≤ r) (h2 : r ≤ 60) (h3 : 0 ≤ c) (h4 : c ≤ 60) : 0 ≤ r * c ∧ r * c ≤ 3600 :=
  ⟨Int.mul_nonneg h1 h3, Int.le_trans (Int.mul_le_mul h2 h4 h3 (by omega)) (by omega)⟩
theorem matR_bad {r c : Int} {L : List Raw} (h : ¬ (0 ≤ r ∧ r ≤ 60 ∧ 0 ≤ c ∧ c ≤ 60 ∧ (L.length : Int) = r * c)) : matR r c L = false := by unfold matR; rw [decide_eq_false h]; rfl
theorem cmright_c (V : View) (s : Value) (r c : Int) (l : List Raw) (h : Raws V s l) (f : fitR l) (ll : l.length ≤ 1000000) : Spec Try.prog 119 [.agg #[.int .i64 r, .int .i64 c, s]] V fun v' V' => v' = .bool (matR r c l) := by
  obtain ⟨A, cp, rfl, hc, hm⟩ := h.form
  refine (Spec.enter Try.func119 rfl fun Γ => ?_)
  simp only [Try.ntmps119, List.map_cons, List.map_nil, List.length_cons, List.length_nil, Nat.reduceAdd, Nat.reduceSub, List.replicate_succ, List.replicate_zero, List.cons_append, List.nil_append]
  first | refine Gx.a (by kernel_rfl) fun K hK => ?_ | refine Gx.b (by kernel_rfl) fun K hK => ?_ | refine Gx.c (by kernel_rfl) fun K hK => ?_
  simp only [XM, XA, XB, gateX, Nat.reduceAdd, Nat.reduceLeDiff, Nat.reduceSub, Nat.reduceMul, ↓reduceIte, Int.reduceToNat, Int.reduceLE, beq_self_eq_true]
  refine hK _ ?_
  refine XWP.seq ?_
  by_cases d1 : r < 0
  · have b1 : decide (r < 0) = true := decide_eq_true d1
    have e := matR_bad (r := r) (c := c) (L := l) (by omega)
    first | refine Gx.a (by kernel_rfl) fun K hK => ?_ | refine Gx.b (by kernel_rfl) fun K hK => ?_ | refine Gx.c (by kernel_rfl) fun K hK => ?_
    simp only [XM, XA, XB, gateX, Nat.reduceAdd, Nat.reduceLeDiff, Nat.reduceSub, Nat.reduceMul, ↓reduceIte, Int.reduceToNat, Int.reduceLE, beq_self_eq_true, b1]
    refine hK _ ?_
    first | refine Gx.t rfl ?_ | refine XWP.seq (Gx.t rfl ?_)
    first | refine Gx.a (by kernel_rfl) fun K hK => ?_ | refine Gx.b (by kernel_rfl) fun K hK => ?_ | refine Gx.c (by kernel_rfl) fun K hK => ?_
    simp only [XM, XA, XB, gateX, Nat.reduceAdd, Nat.reduceLeDiff, Nat.reduceSub, Nat.reduceMul, ↓reduceIte, Int.reduceToNat, Int.reduceLE, beq_self_eq_true]
    refine hK _ (XWP.ret ?_)
    try simp only [thenX_ret, inBlockX_ret]
    refine ret_go _ rfl ?_
    rw [e]; rfl
  have b1 : decide (r < 0) = false := decide_eq_false d1
  by_cases d2 : 60 < r
  · have b2 : decide (60 < r) = true := decide_eq_true d2
    have e := matR_bad (r := r) (c := c) (L := l) (by omega)
    first | refine Gx.a (by kernel_rfl) fun K hK => ?_ | refine Gx.b (by kernel_rfl) fun K hK => ?_ | refine Gx.c (by kernel_rfl) fun K hK => ?_
    simp only [XM, XA, XB, gateX, Nat.reduceAdd, Nat.reduceLeDiff, Nat.reduceSub, Nat.reduceMul, ↓reduceIte, Int.reduceToNat, Int.reduceLE, beq_self_eq_true, b1, b2]
    refine hK _ ?_
    first | refine Gx.t rfl ?_ | refine XWP.seq (Gx.t rfl ?_)
    first | refine Gx.a (by kernel_rfl) fun K hK => ?_ | refine Gx.b (by kernel_rfl) fun K hK => ?_ | refine Gx.c (by kernel_rfl) fun K hK => ?_
    simp only [XM, XA, XB, gateX, Nat.reduceAdd, Nat.reduceLeDiff, Nat.reduceSub, Nat.reduceMul, ↓reduceIte, Int.reduceToNat, Int.reduceLE, beq_self_eq_true]
    refine hK _ (XWP.ret ?_)
    try simp only [thenX_ret, inBlockX_ret]
    refine ret_go _ rfl ?_
    rw [e]; rfl
  have b2 : decide (60 < r) = false := decide_eq_false d2
  by_cases d3 : c < 0
  · have b3 : decide (c < 0) = true := decide_eq_true d3
    have e := matR_bad (r := r) (c := c) (L := l) (by omega)
    first | refine Gx.a (by kernel_rfl) fun K hK => ?_ | refine Gx.b (by kernel_rfl) fun K hK => ?_ | refine Gx.c (by kernel_rfl) fun K hK => ?_
    simp only [XM, XA, XB, gateX, Nat.reduceAdd, Nat.reduceLeDiff, Nat.reduceSub, Nat.reduceMul, ↓reduceIte, Int.reduceToNat, Int.reduceLE, beq_self_eq_true, b1, b2, b3]
    refine hK _ ?_
    first | refine Gx.t rfl ?_ | refine XWP.seq (Gx.t rfl ?_)
    first | refine Gx.a (by kernel_rfl) fun K hK => ?_ | refine Gx.b (by kernel_rfl) fun K hK => ?_ | refine Gx.c (by kernel_rfl) fun K hK => ?_
    simp only [XM, XA, XB, gateX, Nat.reduceAdd, Nat.reduceLeDiff, Nat.reduceSub, Nat.reduceMul, ↓reduceIte, Int.reduceToNat, Int.reduceLE, beq_self_eq_true]
    refine hK _ (XWP.ret ?_)
    try simp only [thenX_ret, inBlockX_ret]
    refine ret_go _ rfl ?_
    rw [e]; rfl
  have b3 : decide (c < 0) = false := decide_eq_false d3
  by_cases d4 : 60 < c
  · have b4 : decide (60 < c) = true := decide_eq_true d4
    have e := matR_bad (r := r) (c := c) (L := l) (by omega)
    first | refine Gx.a (by kernel_rfl) fun K hK => ?_ | refine Gx.b (by kernel_rfl) fun K hK => ?_ | refine Gx.c (by kernel_rfl) fun K hK => ?_
    simp only [XM, XA, XB, gateX, Nat.reduceAdd, Nat.reduceLeDiff, Nat.reduceSub, Nat.reduceMul, ↓reduceIte, Int.reduceToNat, Int.reduceLE, beq_self_eq_true, b1, b2, b3, b4]
    refine hK _ ?_
    first | refine Gx.t rfl ?_ | refine XWP.seq (Gx.t rfl ?_)
    first | refine Gx.a (by kernel_rfl) fun K hK => ?_ | refine Gx.b (by kernel_rfl) fun K hK => ?_ | refine Gx.c (by kernel_rfl) fun K hK => ?_
    simp only [XM, XA, XB, gateX, Nat.reduceAdd, Nat.reduceLeDiff, Nat.reduceSub, Nat.reduceMul, ↓reduceIte, Int.reduceToNat, Int.reduceLE, beq_self_eq_true]
    refine hK _ (XWP.ret ?_)
    try simp only [thenX_ret, inBlockX_ret]
    refine ret_go _ rfl ?_
    rw [e]; rfl
  have b4 : decide (60 < c) = false := decide_eq_false d4
  have hm60 := mul60 (r := r) (c := c) (by omega) (by omega) (by omega) (by omega)
  have w : IntKind.i64.wrap (r * c) = r * c := wrap_id (by omega) (by omega)
  by_cases d5 : (l.length : Int) = r * c
  rotate_left
  · have b5 : decide ((l.length : Int) = r * c) = false := decide_eq_false d5
    have e := matR_bad (r := r) (c := c) (L := l) (by omega)
    first | refine Gx.a (by kernel_rfl) fun K hK => ?_ | refine Gx.b (by kernel_rfl) fun K hK => ?_ | refine Gx.c (by kernel_rfl) fun K hK => ?_
    simp only [XM, XA, XB, gateX, Nat.reduceAdd, Nat.reduceLeDiff, Nat.reduceSub, Nat.reduceMul, ↓reduceIte, Int.reduceToNat, Int.reduceLE, beq_self_eq_true, b1, b2, b3, b4, w, b5]
    refine hK _ ?_
    first | refine Gx.t rfl ?_ | refine XWP.seq (Gx.t rfl ?_)
    first | refine Gx.a (by kernel_rfl) fun K hK => ?_ | refine Gx.b (by kernel_rfl) fun K hK => ?_ | refine Gx.c (by kernel_rfl) fun K hK => ?_
    simp only [XM, XA, XB, gateX, Nat.reduceAdd, Nat.reduceLeDiff, Nat.reduceSub, Nat.reduceMul, ↓reduceIte, Int.reduceToNat, Int.reduceLE, beq_self_eq_true]
    refine hK _ (XWP.ret ?_)
    try simp only [thenX_ret, inBlockX_ret]
    refine ret_go _ rfl ?_
    rw [e]; rfl
  have b5 : decide ((l.length : Int) = r * c) = true := decide_eq_true d5
  first | refine Gx.a (by kernel_rfl) fun K hK => ?_ | refine Gx.b (by kernel_rfl) fun K hK => ?_ | refine Gx.c (by kernel_rfl) fun K hK => ?_
  simp only [XM, XA, XB, gateX, Nat.reduceAdd, Nat.reduceLeDiff, Nat.reduceSub, Nat.reduceMul, ↓reduceIte, Int.reduceToNat, Int.reduceLE, beq_self_eq_true, b1, b2, b3, b4, w, b5]
  refine hK _ ?_
  first | refine Gx.f rfl ?_ | refine XWP.seq (Gx.f rfl ?_)
  refine XWP.skip ?_
  have eM : matR r c l = okR l := by unfold matR; rw [decide_eq_true ⟨by omega, by omega, by omega, by omega, d5⟩]; rfl
  rw [eM]
  clear eM
  refine XWP.cutD 1 (fun s => ∃ V2, StIs (fun Z => [Z 0,Z 1,Z 2,Z 3,Z 4,Z 5,Z 6,Z 7,Z 8,Z 9,Z 10,Z 11,Z 12,Z 13,Z 14,Z 15,Z 16,Z 17,Z 18,Z 19,Z 20,Z 21,Z 22,Z 23,Z 24,Z 25,Z 26,Z 27,Z 28,Z 29,Z 30,Z 31,Z 32,Z 33,Z 34,Z 35,Z 36,Z 37,Z 38,Z 39,Z 40,Z 41,Z 42,Z 43,Z 44]) [[.int .i64 r, .int .i64 c, .slice A l.length cp]] (fun _ => none) V2 s ∧ okR l = true) ?_ ?_
  · first | refine Gx.a (by kernel_rfl) fun K hK => ?_ | refine Gx.b (by kernel_rfl) fun K hK => ?_ | refine Gx.c (by kernel_rfl) fun K hK => ?_
    simp only [XM, XA, XB, gateX, Nat.reduceAdd, Nat.reduceLeDiff, Nat.reduceSub, Nat.reduceMul, ↓reduceIte, Int.reduceToNat, Int.reduceLE, beq_self_eq_true]
    refine hK _ ?_
    clear hK
    first | refine XWP.block ?_ | refine XWP.seq (XWP.block ?_)
    refine XWP.loopD 1 (fun n s => ∃ (k : Nat) (V2 : View), StIs (fun Z => [Z 0, .p 0 0, Z 2,Z 3,Z 4,Z 5,Z 6,Z 7,Z 8,Z 9,Z 10,Z 11,Z 12,Z 13,Z 14,Z 15,Z 16,Z 17,Z 18,Z 19,Z 20,Z 21,Z 22,Z 23,Z 24,Z 25,Z 26,Z 27,Z 28,Z 29,Z 30,Z 31,Z 32,Z 33,Z 34, .v (.slice A l.length cp), .v (.int .i64 (l.length : Int)), .v (.int .i64 (k : Int)), Z 38,Z 39,Z 40,Z 41,Z 42,Z 43,Z 44]) [[.int .i64 r, .int .i64 c, .slice A l.length cp]] (fun _ => none) V2 s ∧ V.le V2 ∧ n + k = l.length ∧ okR (l.take k) = true) l.length ⟨0, V, StIs.of (by exact rfl), View.le_refl _, rfl, by simp [okR]⟩ ?_
    rintro n s ⟨k, V2, hs, hV2, hn, hk⟩
    obtain ⟨u, rfl⟩ := hs.out
    try dsimp only
    by_cases hlt : k < l.length
    · have b6 : decide ((k : Int) < (l.length : Int)) = true := decide_eq_true (by omega)
      first | refine Gx.a (by kernel_rfl) fun K hK => ?_ | refine Gx.b (by kernel_rfl) fun K hK => ?_ | refine Gx.c (by kernel_rfl) fun K hK => ?_
      simp only [XM, XA, XB, gateX, Nat.reduceAdd, Nat.reduceLeDiff, Nat.reduceSub, Nat.reduceMul, ↓reduceIte, Int.reduceToNat, Int.reduceLE, beq_self_eq_true, b6]
      refine hK _ ?_
      first | refine Gx.t rfl ?_ | refine XWP.seq (Gx.t rfl ?_)
      refine XWP.skip ?_
      refine XWP.seq ?_
      first | refine XWP.block ?_ | refine XWP.seq (XWP.block ?_)
      first | refine Gx.a (by kernel_rfl) fun K hK => ?_ | refine Gx.b (by kernel_rfl) fun K hK => ?_ | refine Gx.c (by kernel_rfl) fun K hK => ?_
      have hv2 := Raws.up h hV2
      obtain ⟨b, o, rfl⟩ := SlAt.addr hv2 (by omega)
      obtain ⟨x, hx, ⟨m3, n3, d3, rfl, p1, p2, p3⟩, hld⟩ := SlAt.load hv2 k hlt
      simp only [XM, XA, XB, gateX, Nat.reduceAdd, Nat.reduceLeDiff, Nat.reduceSub, Nat.reduceMul, ↓reduceIte, Int.reduceToNat, Int.reduceLE, beq_self_eq_true]
      refine ⟨by omega, by omega, ld_mem (hld _) ?_⟩
      simp only [XM, XA, XB, gateX, Nat.reduceAdd, Nat.reduceLeDiff, Nat.reduceSub, Nat.reduceMul, ↓reduceIte, Int.reduceToNat, Int.reduceLE, beq_self_eq_true]
      refine st_rat rfl rfl p1 p2 p3 ?_
      simp only [XM, XA, XB, gateX, Nat.reduceAdd, Nat.reduceLeDiff, Nat.reduceSub, Nat.reduceMul, ↓reduceIte, Int.reduceToNat, Int.reduceLE, beq_self_eq_true]
      refine hK _ ?_
      have ff := f _ (List.getElem_mem hlt)
      first | refine Gx.a (by kernel_rfl) fun K hK => ?_ | refine Gx.b (by kernel_rfl) fun K hK => ?_ | refine Gx.c (by kernel_rfl) fun K hK => ?_
      simp only [XM, XA, XB, gateX, Nat.reduceAdd, Nat.reduceLeDiff, Nat.reduceSub, Nat.reduceMul, ↓reduceIte, Int.reduceToNat, Int.reduceLE, beq_self_eq_true]
      refine call_go (by kernel_rfl) rfl (qright_c _ _ _ _ _ hx ff.1 ff.2) fun v3 V3 hV3 h3 => ?_
      subst h3
      have et : l.take (k + 1) = l.take k ++ [l[k]] := by rw [List.take_succ_eq_append_getElem hlt]
      cases hr : rawOk l[k].m l[k].nd l[k].dd
      · simp only [XM, XA, XB, gateX, Nat.reduceAdd, Nat.reduceLeDiff, Nat.reduceSub, Nat.reduceMul, ↓reduceIte, Int.reduceToNat, Int.reduceLE, beq_self_eq_true]
        refine hK _ ?_
        first | refine Gx.t rfl ?_ | refine XWP.seq (Gx.t rfl ?_)
        first | refine Gx.a (by kernel_rfl) fun K hK => ?_ | refine Gx.b (by kernel_rfl) fun K hK => ?_ | refine Gx.c (by kernel_rfl) fun K hK => ?_
        simp only [XM, XA, XB, gateX, Nat.reduceAdd, Nat.reduceLeDiff, Nat.reduceSub, Nat.reduceMul, ↓reduceIte, Int.reduceToNat, Int.reduceLE, beq_self_eq_true]
        refine hK _ (XWP.ret ?_)
        try simp only [thenX_ret, inBlockX_ret]
        refine ret_go _ rfl ?_
        have : okR l = false := by
          unfold okR
          rw [List.all_eq_false]
          exact ⟨l[k], List.getElem_mem hlt, by unfold Raw.ok; rw [hr]; simp⟩
        rw [this]; rfl
      · simp only [XM, XA, XB, gateX, Nat.reduceAdd, Nat.reduceLeDiff, Nat.reduceSub, Nat.reduceMul, ↓reduceIte, Int.reduceToNat, Int.reduceLE, beq_self_eq_true]
        refine hK _ ?_
        first | refine Gx.f rfl ?_ | refine XWP.seq (Gx.f rfl ?_)
        refine XWP.skip ?_
        first | refine Gx.a (by kernel_rfl) fun K hK => ?_ | refine Gx.b (by kernel_rfl) fun K hK => ?_ | refine Gx.c (by kernel_rfl) fun K hK => ?_
        simp only [XM, XA, XB, gateX, Nat.reduceAdd, Nat.reduceLeDiff, Nat.reduceSub, Nat.reduceMul, ↓reduceIte, Int.reduceToNat, Int.reduceLE, beq_self_eq_true, i64_succ k (by omega)]
        refine hK _ ⟨n - 1, by omega, fun f => ⟨k + 1, V3, StIs.of (by exact rfl), View.le_trans hV2 hV3, by omega, ?_⟩⟩
        unfold okR at hk ⊢
        rw [et, List.all_append, hk]
        simp [Raw.ok, hr]
    · have b6 : decide ((k : Int) < (l.length : Int)) = false := decide_eq_false (by omega)
      first | refine Gx.a (by kernel_rfl) fun K hK => ?_ | refine Gx.b (by kernel_rfl) fun K hK => ?_ | refine Gx.c (by kernel_rfl) fun K hK => ?_
      simp only [XM, XA, XB, gateX, Nat.reduceAdd, Nat.reduceLeDiff, Nat.reduceSub, Nat.reduceMul, ↓reduceIte, Int.reduceToNat, Int.reduceLE, beq_self_eq_true, b6]
      refine hK _ ?_
      first | refine Gx.f rfl ?_ | refine XWP.seq (Gx.f rfl ?_)
      refine XWP.exit ?_
      rw [List.take_of_length_le (by omega)] at hk
      exact fun f => ⟨V2, StIs.of (by exact rfl), hk⟩
  rintro s ⟨V2, hs, hk⟩
  obtain ⟨u, rfl⟩ := hs.out
  try dsimp only
  first | refine Gx.a (by kernel_rfl) fun K hK => ?_ | refine Gx.b (by kernel_rfl) fun K hK => ?_ | refine Gx.c (by kernel_rfl) fun K hK => ?_
  simp only [XM, XA, XB, gateX, Nat.reduceAdd, Nat.reduceLeDiff, Nat.reduceSub, Nat.reduceMul, ↓reduceIte, Int.reduceToNat, Int.reduceLE, beq_self_eq_true]
  refine hK _ (XWP.ret ?_)
  try simp only [thenX_ret, inBlockX_ret]
  refine ret_go _ rfl ?_
  rw [hk]; rfl
theorem dmright_c (V : View) (s : Value) (r c : Int) (l : List Raw) (h : Raws V s l) (f : fitR l) (ll : l.length ≤ 1000000) : Spec Try.prog 125 [.agg #[.int .i64 r, .int .i64 c, s]] V fun v' V' => v' = .bool (matR r c l) := by
  obtain ⟨A, cp, rfl, hc, hm⟩ := h.form
  refine (Spec.enter Try.func125 rfl fun Γ => ?_)
  simp only [Try.ntmps125, List.map_cons, List.map_nil, List.length_cons, List.length_nil, Nat.reduceAdd, Nat.reduceSub, List.replicate_succ, List.replicate_zero, List.cons_append, List.nil_append]
  first | refine Gx.a (by kernel_rfl) fun K hK => ?_ | refine Gx.b (by kernel_rfl) fun K hK => ?_ | refine Gx.c (by kernel_rfl) fun K hK => ?_
  simp only [XM, XA, XB, gateX, Nat.reduceAdd, Nat.reduceLeDiff, Nat.reduceSub, Nat.reduceMul, ↓reduceIte, Int.reduceToNat, Int.reduceLE, beq_self_eq_true]
  refine hK _ ?_
  refine XWP.seq ?_
  by_cases d1 : r < 0
  · have b1 : decide (r < 0) = true := decide_eq_true d1
    have e := matR_bad (r := r) (c := c) (L := l) (by omega)
    first | refine Gx.a (by kernel_rfl) fun K hK => ?_ | refine Gx.b (by kernel_rfl) fun K hK => ?_ | refine Gx.c (by kernel_rfl) fun K hK => ?_
    simp only [XM, XA, XB, gateX, Nat.reduceAdd, Nat.reduceLeDiff, Nat.reduceSub, Nat.reduceMul, ↓reduceIte, Int.reduceToNat, Int.reduceLE, beq_self_eq_true, b1]
    refine hK _ ?_
    first | refine Gx.t rfl ?_ | refine XWP.seq (Gx.t rfl ?_)
    first | refine Gx.a (by kernel_rfl) fun K hK => ?_ | refine Gx.b (by kernel_rfl) fun K hK => ?_ | refine Gx.c (by kernel_rfl) fun K hK => ?_
    simp only [XM, XA, XB, gateX, Nat.reduceAdd, Nat.reduceLeDiff, Nat.reduceSub, Nat.reduceMul, ↓reduceIte, Int.reduceToNat, Int.reduceLE, beq_self_eq_true]
    refine hK _ (XWP.ret ?_)
    try simp only [thenX_ret, inBlockX_ret]
    refine ret_go _ rfl ?_
    rw [e]; rfl
  have b1 : decide (r < 0) = false := decide_eq_false d1
  by_cases d2 : 60 < r
  · have b2 : decide (60 < r) = true := decide_eq_true d2
    have e := matR_bad (r := r) (c := c) (L := l) (by omega)
    first | refine Gx.a (by kernel_rfl) fun K hK => ?_ | refine Gx.b (by kernel_rfl) fun K hK => ?_ | refine Gx.c (by kernel_rfl) fun K hK => ?_
    simp only [XM, XA, XB, gateX, Nat.reduceAdd, Nat.reduceLeDiff, Nat.reduceSub, Nat.reduceMul, ↓reduceIte, Int.reduceToNat, Int.reduceLE, beq_self_eq_true, b1, b2]
    refine hK _ ?_
    first | refine Gx.t rfl ?_ | refine XWP.seq (Gx.t rfl ?_)
    first | refine Gx.a (by kernel_rfl) fun K hK => ?_ | refine Gx.b (by kernel_rfl) fun K hK => ?_ | refine Gx.c (by kernel_rfl) fun K hK => ?_
    simp only [XM, XA, XB, gateX, Nat.reduceAdd, Nat.reduceLeDiff, Nat.reduceSub, Nat.reduceMul, ↓reduceIte, Int.reduceToNat, Int.reduceLE, beq_self_eq_true]
    refine hK _ (XWP.ret ?_)
    try simp only [thenX_ret, inBlockX_ret]
    refine ret_go _ rfl ?_
    rw [e]; rfl
  have b2 : decide (60 < r) = false := decide_eq_false d2
  by_cases d3 : c < 0
  · have b3 : decide (c < 0) = true := decide_eq_true d3
    have e := matR_bad (r := r) (c := c) (L := l) (by omega)
    first | refine Gx.a (by kernel_rfl) fun K hK => ?_ | refine Gx.b (by kernel_rfl) fun K hK => ?_ | refine Gx.c (by kernel_rfl) fun K hK => ?_
    simp only [XM, XA, XB, gateX, Nat.reduceAdd, Nat.reduceLeDiff, Nat.reduceSub, Nat.reduceMul, ↓reduceIte, Int.reduceToNat, Int.reduceLE, beq_self_eq_true, b1, b2, b3]
    refine hK _ ?_
    first | refine Gx.t rfl ?_ | refine XWP.seq (Gx.t rfl ?_)
    first | refine Gx.a (by kernel_rfl) fun K hK => ?_ | refine Gx.b (by kernel_rfl) fun K hK => ?_ | refine Gx.c (by kernel_rfl) fun K hK => ?_
    simp only [XM, XA, XB, gateX, Nat.reduceAdd, Nat.reduceLeDiff, Nat.reduceSub, Nat.reduceMul, ↓reduceIte, Int.reduceToNat, Int.reduceLE, beq_self_eq_true]
    refine hK _ (XWP.ret ?_)
    try simp only [thenX_ret, inBlockX_ret]
    refine ret_go _ rfl ?_
    rw [e]; rfl
  have b3 : decide (c < 0) = false := decide_eq_false d3
  by_cases d4 : 60 < c
  · have b4 : decide (60 < c) = true := decide_eq_true d4
    have e := matR_bad (r := r) (c := c) (L := l) (by omega)
    first | refine Gx.a (by kernel_rfl) fun K hK => ?_ | refine Gx.b (by kernel_rfl) fun K hK => ?_ | refine Gx.c (by kernel_rfl) fun K hK => ?_
    simp only [XM, XA, XB, gateX, Nat.reduceAdd, Nat.reduceLeDiff, Nat.reduceSub, Nat.reduceMul, ↓reduceIte, Int.reduceToNat, Int.reduceLE, beq_self_eq_true, b1, b2, b3, b4]
    refine hK _ ?_
    first | refine Gx.t rfl ?_ | refine XWP.seq (Gx.t rfl ?_)
    first | refine Gx.a (by kernel_rfl) fun K hK => ?_ | refine Gx.b (by kernel_rfl) fun K hK => ?_ | refine Gx.c (by kernel_rfl) fun K hK => ?_
    simp only [XM, XA, XB, gateX, Nat.reduceAdd, Nat.reduceLeDiff, Nat.reduceSub, Nat.reduceMul, ↓reduceIte, Int.reduceToNat, Int.reduceLE, beq_self_eq_true]
    refine hK _ (XWP.ret ?_)
    try simp only [thenX_ret, inBlockX_ret]
    refine ret_go _ rfl ?_
    rw [e]; rfl
  have b4 : decide (60 < c) = false := decide_eq_false d4
  have hm60 := mul60 (r := r) (c := c) (by omega) (by omega) (by omega) (by omega)
  have w : IntKind.i64.wrap (r * c) = r * c := wrap_id (by omega) (by omega)
  by_cases d5 : (l.length : Int) = r * c
  rotate_left
  · have b5 : decide ((l.length : Int) = r * c) = false := decide_eq_false d5
    have e := matR_bad (r := r) (c := c) (L := l) (by omega)
    first | refine Gx.a (by kernel_rfl) fun K hK => ?_ | refine Gx.b (by kernel_rfl) fun K hK => ?_ | refine Gx.c (by kernel_rfl) fun K hK => ?_
    simp only [XM, XA, XB, gateX, Nat.reduceAdd, Nat.reduceLeDiff, Nat.reduceSub, Nat.reduceMul, ↓reduceIte, Int.reduceToNat, Int.reduceLE, beq_self_eq_true, b1, b2, b3, b4, w, b5]
    refine hK _ ?_
    first | refine Gx.t rfl ?_ | refine XWP.seq (Gx.t rfl ?_)
    first | refine Gx.a (by kernel_rfl) fun K hK => ?_ | refine Gx.b (by kernel_rfl) fun K hK => ?_ | refine Gx.c (by kernel_rfl) fun K hK => ?_
    simp only [XM, XA, XB, gateX, Nat.reduceAdd, Nat.reduceLeDiff, Nat.reduceSub, Nat.reduceMul, ↓reduceIte, Int.reduceToNat, Int.reduceLE, beq_self_eq_true]
    refine hK _ (XWP.ret ?_)
    try simp only [thenX_ret, inBlockX_ret]
    refine ret_go _ rfl ?_
    rw [e]; rfl
  have b5 : decide ((l.length : Int) = r * c) = true := decide_eq_true d5
  first | refine Gx.a (by kernel_rfl) fun K hK => ?_ | refine Gx.b (by kernel_rfl) fun K hK => ?_ | refine Gx.c (by kernel_rfl) fun K hK => ?_
  simp only [XM, XA, XB, gateX, Nat.reduceAdd, Nat.reduceLeDiff, Nat.reduceSub, Nat.reduceMul, ↓reduceIte, Int.reduceToNat, Int.reduceLE, beq_self_eq_true, b1, b2, b3, b4, w, b5]
  refine hK _ ?_
  first | refine Gx.f rfl ?_ | refine XWP.seq (Gx.f rfl ?_)
  refine XWP.skip ?_
  have eM : matR r c l = okR l := by unfold matR; rw [decide_eq_true ⟨by omega, by omega, by omega, by omega, d5⟩]; rfl
  rw [eM]
  clear eM
  refine XWP.cutD 1 (fun s => ∃ V2, StIs (fun Z => [Z 0,Z 1,Z 2,Z 3,Z 4,Z 5,Z 6,Z 7,Z 8,Z 9,Z 10,Z 11,Z 12,Z 13,Z 14,Z 15,Z 16,Z 17,Z 18,Z 19,Z 20,Z 21,Z 22,Z 23,Z 24,Z 25,Z 26,Z 27,Z 28,Z 29,Z 30,Z 31,Z 32,Z 33,Z 34,Z 35,Z 36,Z 37,Z 38,Z 39,Z 40,Z 41,Z 42,Z 43,Z 44]) [[.int .i64 r, .int .i64 c, .slice A l.length cp]] (fun _ => none) V2 s ∧ okR l = true) ?_ ?_
  · first | refine Gx.a (by kernel_rfl) fun K hK => ?_ | refine Gx.b (by kernel_rfl) fun K hK => ?_ | refine Gx.c (by kernel_rfl) fun K hK => ?_
    simp only [XM, XA, XB, gateX, Nat.reduceAdd, Nat.reduceLeDiff, Nat.reduceSub, Nat.reduceMul, ↓reduceIte, Int.reduceToNat, Int.reduceLE, beq_self_eq_true]
    refine hK _ ?_
    clear hK
    first | refine XWP.block ?_ | refine XWP.seq (XWP.block ?_)
    refine XWP.loopD 1 (fun n s => ∃ (k : Nat) (V2 : View), StIs (fun Z => [Z 0, .p 0 0, Z 2,Z 3,Z 4,Z 5,Z 6,Z 7,Z 8,Z 9,Z 10,Z 11,Z 12,Z 13,Z 14,Z 15,Z 16,Z 17,Z 18,Z 19,Z 20,Z 21,Z 22,Z 23,Z 24,Z 25,Z 26,Z 27,Z 28,Z 29,Z 30,Z 31,Z 32,Z 33,Z 34, .v (.slice A l.length cp), .v (.int .i64 (l.length : Int)), .v (.int .i64 (k : Int)), Z 38,Z 39,Z 40,Z 41,Z 42,Z 43,Z 44]) [[.int .i64 r, .int .i64 c, .slice A l.length cp]] (fun _ => none) V2 s ∧ V.le V2 ∧ n + k = l.length ∧ okR (l.take k) = true) l.length ⟨0, V, StIs.of (by exact rfl), View.le_refl _, rfl, by simp [okR]⟩ ?_
    rintro n s ⟨k, V2, hs, hV2, hn, hk⟩
    obtain ⟨u, rfl⟩ := hs.out
    try dsimp only
    by_cases hlt : k < l.length
    · have b6 : decide ((k : Int) < (l.length : Int)) = true := decide_eq_true (by omega)
      first | refine Gx.a (by kernel_rfl) fun K hK => ?_ | refine Gx.b (by kernel_rfl) fun K hK => ?_ | refine Gx.c (by kernel_rfl) fun K hK => ?_
      simp only [XM, XA, XB, gateX, Nat.reduceAdd, Nat.reduceLeDiff, Nat.reduceSub, Nat.reduceMul, ↓reduceIte, Int.reduceToNat, Int.reduceLE, beq_self_eq_true, b6]
      refine hK _ ?_
      first | refine Gx.t rfl ?_ | refine XWP.seq (Gx.t rfl ?_)
      refine XWP.skip ?_
      refine XWP.seq ?_
      first | refine XWP.block ?_ | refine XWP.seq (XWP.block ?_)
      first | refine Gx.a (by kernel_rfl) fun K hK => ?_ | refine Gx.b (by kernel_rfl) fun K hK => ?_ | refine Gx.c (by kernel_rfl) fun K hK => ?_
      have hv2 := Raws.up h hV2
      obtain ⟨b, o, rfl⟩ := SlAt.addr hv2 (by omega)
      obtain ⟨x, hx, ⟨m3, n3, d3, rfl, p1, p2, p3⟩, hld⟩ := SlAt.load hv2 k hlt
      simp only [XM, XA, XB, gateX, Nat.reduceAdd, Nat.reduceLeDiff, Nat.reduceSub, Nat.reduceMul, ↓reduceIte, Int.reduceToNat, Int.reduceLE, beq_self_eq_true]
      refine ⟨by omega, by omega, ld_mem (hld _) ?_⟩
      simp only [XM, XA, XB, gateX, Nat.reduceAdd, Nat.reduceLeDiff, Nat.reduceSub, Nat.reduceMul, ↓reduceIte, Int.reduceToNat, Int.reduceLE, beq_self_eq_true]
      refine st_rat rfl rfl p1 p2 p3 ?_
      simp only [XM, XA, XB, gateX, Nat.reduceAdd, Nat.reduceLeDiff, Nat.reduceSub, Nat.reduceMul, ↓reduceIte, Int.reduceToNat, Int.reduceLE, beq_self_eq_true]
      refine hK _ ?_
      have ff := f _ (List.getElem_mem hlt)
      first | refine Gx.a (by kernel_rfl) fun K hK => ?_ | refine Gx.b (by kernel_rfl) fun K hK => ?_ | refine Gx.c (by kernel_rfl) fun K hK => ?_
      simp only [XM, XA, XB, gateX, Nat.reduceAdd, Nat.reduceLeDiff, Nat.reduceSub, Nat.reduceMul, ↓reduceIte, Int.reduceToNat, Int.reduceLE, beq_self_eq_true]
      refine call_go (by kernel_rfl) rfl (pright_c _ _ _ _ _ hx ff.1 ff.2) fun v3 V3 hV3 h3 => ?_
      subst h3
      have et : l.take (k + 1) = l.take k ++ [l[k]] := by rw [List.take_succ_eq_append_getElem hlt]
      cases hr : rawOk l[k].m l[k].nd l[k].dd
      · simp only [XM, XA, XB, gateX, Nat.reduceAdd, Nat.reduceLeDiff, Nat.reduceSub, Nat.reduceMul, ↓reduceIte, Int.reduceToNat, Int.reduceLE, beq_self_eq_true]
        refine hK _ ?_
        first | refine Gx.t rfl ?_ | refine XWP.seq (Gx.t rfl ?_)
        first | refine Gx.a (by kernel_rfl) fun K hK => ?_ | refine Gx.b (by kernel_rfl) fun K hK => ?_ | refine Gx.c (by kernel_rfl) fun K hK => ?_
        simp only [XM, XA, XB, gateX, Nat.reduceAdd, Nat.reduceLeDiff, Nat.reduceSub, Nat.reduceMul, ↓reduceIte, Int.reduceToNat, Int.reduceLE, beq_self_eq_true]
        refine hK _ (XWP.ret ?_)
        try simp only [thenX_ret, inBlockX_ret]
        refine ret_go _ rfl ?_
        have : okR l = false := by
          unfold okR
          rw [List.all_eq_false]
          exact ⟨l[k], List.getElem_mem hlt, by unfold Raw.ok; rw [hr]; simp⟩
        rw [this]; rfl
      · simp only [XM, XA, XB, gateX, Nat.reduceAdd, Nat.reduceLeDiff, Nat.reduceSub, Nat.reduceMul, ↓reduceIte, Int.reduceToNat, Int.reduceLE, beq_self_eq_true]
        refine hK _ ?_
        first | refine Gx.f rfl ?_ | refine XWP.seq (Gx.f rfl ?_)
        refine XWP.skip ?_
        first | refine Gx.a (by kernel_rfl) fun K hK => ?_ | refine Gx.b (by kernel_rfl) fun K hK => ?_ | refine Gx.c (by kernel_rfl) fun K hK => ?_
        simp only [XM, XA, XB, gateX, Nat.reduceAdd, Nat.reduceLeDiff, Nat.reduceSub, Nat.reduceMul, ↓reduceIte, Int.reduceToNat, Int.reduceLE, beq_self_eq_true, i64_succ k (by omega)]
        refine hK _ ⟨n - 1, by omega, fun f => ⟨k + 1, V3, StIs.of (by exact rfl), View.le_trans hV2 hV3, by omega, ?_⟩⟩
        unfold okR at hk ⊢
        rw [et, List.all_append, hk]
        simp [Raw.ok, hr]
    · have b6 : decide ((k : Int) < (l.length : Int)) = false := decide_eq_false (by omega)
      first | refine Gx.a (by kernel_rfl) fun K hK => ?_ | refine Gx.b (by kernel_rfl) fun K hK => ?_ | refine Gx.c (by kernel_rfl) fun K hK => ?_
      simp only [XM, XA, XB, gateX, Nat.reduceAdd, Nat.reduceLeDiff, Nat.reduceSub, Nat.reduceMul, ↓reduceIte, Int.reduceToNat, Int.reduceLE, beq_self_eq_true, b6]
      refine hK _ ?_
      first | refine Gx.f rfl ?_ | refine XWP.seq (Gx.f rfl ?_)
      refine XWP.exit ?_
      rw [List.take_of_length_le (by omega)] at hk
      exact fun f => ⟨V2, StIs.of (by exact rfl), hk⟩
  rintro s ⟨V2, hs, hk⟩
  obtain ⟨u, rfl⟩ := hs.out
  try dsimp only
  first | refine Gx.a (by kernel_rfl) fun K hK => ?_ | refine Gx.b (by kernel_rfl) fun K hK => ?_ | refine Gx.c (by kernel_rfl) fun K hK => ?_
  simp only [XM, XA, XB, gateX, Nat.reduceAdd, Nat.reduceLeDiff, Nat.reduceSub, Nat.reduceMul, ↓reduceIte, Int.reduceToNat, Int.reduceLE, beq_self_eq_true]
  refine hK _ (XWP.ret ?_)
  try simp only [thenX_ret, inBlockX_ret]
  refine ret_go _ rfl ?_
  rw [hk]; rfl
/-- a cell of a matrix that is right -/
theorem ccell_c (V : View) (s : Value) (r : Int) (n i k : Nat) (l : List Rat) (h : Rats V s l) (hk : i * n + k < l.length) (hn : n ≤ 60) (hi : i ≤ 60) (ll : l.length ≤ 1000000) :
    Spec Try.prog 120 [.agg #[.int .i64 r, .int .i64 (n : Int), s], .int .i64 (i : Int), .int .i64 (k : Int)] V fun v' V' => RatC V' v' (cf l (i * n + k)) := by
  obtain ⟨A, cp, rfl, hc, hm⟩ := h.form
  obtain ⟨b, o, rfl⟩ := SlAt.addr h (by omega)
  obtain ⟨m3, n3, d3, hx, ⟨p1, p2, p3⟩, hld⟩ := Rats.get h (i * n + k) hk
  have hin : i * n ≤ 3600 := Nat.le_trans (Nat.mul_le_mul hi hn) (by decide)
  have w1 : IntKind.i64.wrap ((i : Int) * (n : Int)) = ((i * n : Nat) : Int) := by rw [← Int.natCast_mul, wrap_id (by omega) (by omega)]
  have w2 := i64_add (i * n) k (by omega)
  refine (Spec.enter Try.func120 rfl fun Γ => ?_)
  simp only [Try.ntmps120, List.map_cons, List.map_nil, List.length_cons, List.length_nil, Nat.reduceAdd, Nat.reduceSub, List.replicate_succ, List.replicate_zero, List.cons_append, List.nil_append]
  first | refine Gx.a (by kernel_rfl) fun K hK => ?_ | refine Gx.b (by kernel_rfl) fun K hK => ?_ | refine Gx.c (by kernel_rfl) fun K hK => ?_
  simp only [XM, XA, XB, gateX, Nat.reduceAdd, Nat.reduceLeDiff, Nat.reduceSub, Nat.reduceMul, ↓reduceIte, Int.reduceToNat, Int.reduceLE, beq_self_eq_true]
  refine hK _ ?_
  first | refine Gx.a (by kernel_rfl) fun K hK => ?_ | refine Gx.b (by kernel_rfl) fun K hK => ?_ | refine Gx.c (by kernel_rfl) fun K hK => ?_
  simp only [XM, XA, XB, gateX, Nat.reduceAdd, Nat.reduceLeDiff, Nat.reduceSub, Nat.reduceMul, ↓reduceIte, Int.reduceToNat, Int.reduceLE, beq_self_eq_true, w1, w2]
  refine ⟨by omega, by omega, ld_mem (hld _) ?_⟩
  simp only [XM, XA, XB, gateX, Nat.reduceAdd, Nat.reduceLeDiff, Nat.reduceSub, Nat.reduceMul, ↓reduceIte, Int.reduceToNat, Int.reduceLE, beq_self_eq_true]
  refine st_rat rfl rfl p1 p2 p3 ?_
  simp only [XM, XA, XB, gateX, Nat.reduceAdd, Nat.reduceLeDiff, Nat.reduceSub, Nat.reduceMul, ↓reduceIte, Int.reduceToNat, Int.reduceLE, beq_self_eq_true]
  refine hK _ (XWP.ret ?_)
  try simp only [thenX_ret, inBlockX_ret]
  exact ret_rat1 rfl rfl rfl hx
end Go.Proofs.Ythoboehbadmlmaa
end
section
namespace Go.Proofs.Ythoboehbadmlmaa
open Go Go.RowKit
set_option linter.unusedSimpArgs false
set_option linter.unusedVariables false
attribute [local irreducible] XWP Spec SpecO XPub XCall seqX clX apX stX ldX iaX slX
theorem sgI_abs (q : Rat) : (q.num : Int) = sgI q * (q.num.natAbs : Int) := by
  unfold sgI
  have h0 := rat_zero_iff q
  by_cases h : q = 0
  · rw [if_pos h, h]; rfl
  · rw [if_neg h]
    cases hn : ng q
    · have := (ng_iff q).1 hn
      have := Rat.num_nonneg.2 this
      rw [if_neg (by simp)]; omega
    · unfold ng at hn
      have := of_decide_eq_true hn
      rw [if_pos rfl]; omega
theorem sgI_val (q : Rat) : sgI q = 0 ∨ sgI q = 1 ∨ sgI q = -1 := by
  unfold sgI
  split
  · exact .inl rfl
  · split
    · exact .inr (.inr rfl)
    · exact .inr (.inl rfl)
theorem cmp_same {p q : Rat} (h : sgI p = sgI q) : sgI p * cmpI (p.num.natAbs * q.den) (q.num.natAbs * p.den) = 0 ↔ p = q := by
  have hp := sgI_abs p
  have hq := sgI_abs q
  constructor
  · intro hz
    rcases Int.mul_eq_zero.1 hz with h0 | h0
    · have e1 := sgI_zero p
      have e2 := sgI_zero q
      rw [← h, h0] at e2
      rw [h0] at e1
      have e1 : p = 0 := by simpa using e1.symm
      have e2 : q = 0 := by simpa using e2.symm
      rw [e1, e2]
    · have e : p.num.natAbs * q.den = q.num.natAbs * p.den := by
        unfold cmpI at h0
        split at h0
        · cases h0
        · split at h0
          · cases h0
          · omega
      rw [Rat.eq_iff_mul_eq_mul, hp, hq, h, Int.mul_assoc, Int.mul_assoc, ← Int.natCast_mul, ← Int.natCast_mul, e]
  · intro e
    subst e
    have : cmpI (p.num.natAbs * p.den) (p.num.natAbs * p.den) = 0 := by unfold cmpI; rw [if_neg (by omega), if_neg (by omega)]
    rw [this, Int.mul_zero]
theorem cmpI_val (a b : Nat) : cmpI a b = 0 ∨ cmpI a b = 1 ∨ cmpI a b = -1 := by
  unfold cmpI
  split
  · exact .inr (.inr rfl)
  · split
    · exact .inr (.inl rfl)
    · exact .inl rfl
theorem qcompare_c (V : View) (v u : Value) (p q : Rat) (hv : RatC V v p) (hu : RatC V u q) (fp : QF p) (fq : QF q) : Spec Try.prog 137 [v, u] V fun v' V' => ∃ z : Int, v' = .int .i64 z ∧ (z = 0 ↔ p = q) := by
  have hv0 := hv
  have hu0 := hu
  obtain ⟨n1, d1, rfl, hn1, hd1⟩ := hv
  obtain ⟨n2, d2, rfl, hn2, hd2⟩ := hu
  refine (Spec.enter Try.func137 rfl fun Γ => ?_)
  simp only [Try.ntmps137, List.map_cons, List.map_nil, List.length_cons, List.length_nil, Nat.reduceAdd, Nat.reduceSub, List.replicate_succ, List.replicate_zero, List.cons_append, List.nil_append]
  first | refine Gx.a (by kernel_rfl) fun K hK => ?_ | refine Gx.b (by kernel_rfl) fun K hK => ?_ | refine Gx.c (by kernel_rfl) fun K hK => ?_
  simp only [XA, XB, gateX, Nat.reduceAdd, Nat.reduceLeDiff, Nat.reduceSub, Nat.reduceMul, ↓reduceIte, Int.reduceToNat, Int.reduceLE, beq_self_eq_true]
  refine hK _ ?_
  (first | refine XWP.drw [0, 2, 1, 3, 4, 5] (by kernel_rfl) (by kernel_rfl) (by kernel_rfl) fun K hK => ?_ | refine XWP.seq (XWP.drw [0, 2, 1, 3, 4, 5] (by kernel_rfl) (by kernel_rfl) (by kernel_rfl) fun K hK => ?_) | refine XWP.drw1 [0, 2, 1, 3, 4, 5] (by kernel_rfl) (by kernel_rfl) (by kernel_rfl) fun K hK => ?_) <;> dsimp only [pickOps, List.getElem?_cons_zero, List.getElem?_cons_succ]
  simp only [XA, XB, gateX, Nat.reduceAdd, Nat.reduceLeDiff, Nat.reduceSub, Nat.reduceMul, ↓reduceIte, Int.reduceToNat, Int.reduceLE, beq_self_eq_true]
  refine call_go (by kernel_rfl) rfl (qsign_c _ _ _ hv0) fun v1 V1 hV1 h1 => ?_
  subst h1
  simp only [XA, XB, gateX, Nat.reduceAdd, Nat.reduceLeDiff, Nat.reduceSub, Nat.reduceMul, ↓reduceIte, Int.reduceToNat, Int.reduceLE, beq_self_eq_true]
  refine call_go (by kernel_rfl) rfl (qsign_c _ _ _ (hu0.mono hV1)) fun v2 V2 hV2 h2 => ?_
  subst h2
  simp only [XA, XB, gateX, Nat.reduceAdd, Nat.reduceLeDiff, Nat.reduceSub, Nat.reduceMul, ↓reduceIte, Int.reduceToNat, Int.reduceLE, beq_self_eq_true]
  refine hK _ ?_
  have hV := View.le_trans hV1 hV2
  have hne : sgI p ≠ sgI q → ¬ p = q := fun h e => h (by rw [e])
  refine XWP.cut (fun s => StIs (fun Z => [Z 0,Z 1, .p 0 0, .p 1 0, Z 4, .v (.int .i64 (sgI p)), .v (.int .i64 (sgI q)), Z 7,Z 8,Z 9,Z 10,Z 11,Z 12,Z 13,Z 14,Z 15,Z 16,Z 17,Z 18,Z 19,Z 20,Z 21,Z 22,Z 23,Z 24,Z 25,Z 26,Z 27,Z 28,Z 29,Z 30,Z 31]) [[.bool (ng p), n1, d1], [.bool (ng q), n2, d2]] (fun _ => none) V2 s ∧ sgI p = sgI q) ?_ ?_
  · first | refine XWP.block ?_ | refine XWP.seq (XWP.block ?_)
    by_cases k1 : sgI p < sgI q
    · have b1 : decide (sgI p < sgI q) = true := decide_eq_true k1
      first | refine Gx.a (by kernel_rfl) fun K hK => ?_ | refine Gx.b (by kernel_rfl) fun K hK => ?_ | refine Gx.c (by kernel_rfl) fun K hK => ?_
      simp only [XA, XB, gateX, Nat.reduceAdd, Nat.reduceLeDiff, Nat.reduceSub, Nat.reduceMul, ↓reduceIte, Int.reduceToNat, Int.reduceLE, beq_self_eq_true, b1]
      refine hK _ ?_
      first | refine Gx.t rfl ?_ | refine XWP.seq (Gx.t rfl ?_)
      first | refine Gx.a (by kernel_rfl) fun K hK => ?_ | refine Gx.b (by kernel_rfl) fun K hK => ?_ | refine Gx.c (by kernel_rfl) fun K hK => ?_
      simp only [XA, XB, gateX, Nat.reduceAdd, Nat.reduceLeDiff, Nat.reduceSub, Nat.reduceMul, ↓reduceIte, Int.reduceToNat, Int.reduceLE, beq_self_eq_true]
      refine hK _ (XWP.ret ?_)
      try simp only [thenX_ret, inBlockX_ret]
      refine ret_go _ rfl ?_
      exact ⟨-1, rfl, (fun h => by cases h), fun h => absurd h (hne (by omega))⟩
    have b1 : decide (sgI p < sgI q) = false := decide_eq_false k1
    by_cases k2 : sgI q < sgI p
    · have b2 : decide (sgI q < sgI p) = true := decide_eq_true k2
      first | refine Gx.a (by kernel_rfl) fun K hK => ?_ | refine Gx.b (by kernel_rfl) fun K hK => ?_ | refine Gx.c (by kernel_rfl) fun K hK => ?_
      simp only [XA, XB, gateX, Nat.reduceAdd, Nat.reduceLeDiff, Nat.reduceSub, Nat.reduceMul, ↓reduceIte, Int.reduceToNat, Int.reduceLE, beq_self_eq_true, b1]
      refine hK _ ?_
      first | refine Gx.f rfl ?_ | refine XWP.seq (Gx.f rfl ?_)
      first | refine Gx.a (by kernel_rfl) fun K hK => ?_ | refine Gx.b (by kernel_rfl) fun K hK => ?_ | refine Gx.c (by kernel_rfl) fun K hK => ?_
      simp only [XA, XB, gateX, Nat.reduceAdd, Nat.reduceLeDiff, Nat.reduceSub, Nat.reduceMul, ↓reduceIte, Int.reduceToNat, Int.reduceLE, beq_self_eq_true, b2]
      refine hK _ ?_
      first | refine Gx.t rfl ?_ | refine XWP.seq (Gx.t rfl ?_)
      first | refine Gx.a (by kernel_rfl) fun K hK => ?_ | refine Gx.b (by kernel_rfl) fun K hK => ?_ | refine Gx.c (by kernel_rfl) fun K hK => ?_
      simp only [XA, XB, gateX, Nat.reduceAdd, Nat.reduceLeDiff, Nat.reduceSub, Nat.reduceMul, ↓reduceIte, Int.reduceToNat, Int.reduceLE, beq_self_eq_true]
      refine hK _ (XWP.ret ?_)
      try simp only [thenX_ret, inBlockX_ret]
      refine ret_go _ rfl ?_
      exact ⟨1, rfl, (fun h => by cases h), fun h => absurd h (hne (by omega))⟩
    have b2 : decide (sgI q < sgI p) = false := decide_eq_false k2
    first | refine Gx.a (by kernel_rfl) fun K hK => ?_ | refine Gx.b (by kernel_rfl) fun K hK => ?_ | refine Gx.c (by kernel_rfl) fun K hK => ?_
    simp only [XA, XB, gateX, Nat.reduceAdd, Nat.reduceLeDiff, Nat.reduceSub, Nat.reduceMul, ↓reduceIte, Int.reduceToNat, Int.reduceLE, beq_self_eq_true, b1]
    refine hK _ ?_
    first | refine Gx.f rfl ?_ | refine XWP.seq (Gx.f rfl ?_)
    first | refine Gx.a (by kernel_rfl) fun K hK => ?_ | refine Gx.b (by kernel_rfl) fun K hK => ?_ | refine Gx.c (by kernel_rfl) fun K hK => ?_
    simp only [XA, XB, gateX, Nat.reduceAdd, Nat.reduceLeDiff, Nat.reduceSub, Nat.reduceMul, ↓reduceIte, Int.reduceToNat, Int.reduceLE, beq_self_eq_true, b2]
    refine hK _ ?_
    first | refine Gx.f rfl ?_ | refine XWP.seq (Gx.f rfl ?_)
    refine XWP.skip ?_
    exact ⟨StIs.of (by exact rfl), by omega⟩
  rintro s ⟨hs, hsg⟩
  obtain ⟨z, rfl⟩ := hs.out
  try dsimp only
  (first | refine XWP.drw [0, 1, 2, 3, 4, 6, 7, 8, 9, 5, 10, 11, 12, 13] (by kernel_rfl) (by kernel_rfl) (by kernel_rfl) fun K hK => ?_ | refine XWP.seq (XWP.drw [0, 1, 2, 3, 4, 6, 7, 8, 9, 5, 10, 11, 12, 13] (by kernel_rfl) (by kernel_rfl) (by kernel_rfl) fun K hK => ?_) | refine XWP.drw1 [0, 1, 2, 3, 4, 6, 7, 8, 9, 5, 10, 11, 12, 13] (by kernel_rfl) (by kernel_rfl) (by kernel_rfl) fun K hK => ?_) <;> dsimp only [pickOps, List.getElem?_cons_zero, List.getElem?_cons_succ]
  simp only [XA, XB, gateX, Nat.reduceAdd, Nat.reduceLeDiff, Nat.reduceSub, Nat.reduceMul, ↓reduceIte, Int.reduceToNat, Int.reduceLE, beq_self_eq_true]
  refine call_go (by kernel_rfl) rfl (mul_c _ _ _ _ _ (hn1.mono hV) (hd2.mono hV) fp.fits.1 fq.fits.2) fun v3 V3 hV3 h3 => ?_
  simp only [XA, XB, gateX, Nat.reduceAdd, Nat.reduceLeDiff, Nat.reduceSub, Nat.reduceMul, ↓reduceIte, Int.reduceToNat, Int.reduceLE, beq_self_eq_true]
  refine call_go (by kernel_rfl) rfl (mul_c _ _ _ _ _ ((hn2.mono hV).mono hV3) ((hd1.mono hV).mono hV3) fq.fits.1 fp.fits.2) fun v4 V4 hV4 h4 => ?_
  simp only [XA, XB, gateX, Nat.reduceAdd, Nat.reduceLeDiff, Nat.reduceSub, Nat.reduceMul, ↓reduceIte, Int.reduceToNat, Int.reduceLE, beq_self_eq_true]
  refine call_go (by kernel_rfl) rfl (compare_c _ _ _ _ _ (h3.mono hV4) h4) fun v5 V5 hV5 h5 => ?_
  subst h5
  have w : IntKind.i64.wrap (sgI p * cmpI (p.num.natAbs * q.den) (q.num.natAbs * p.den)) = sgI p * cmpI (p.num.natAbs * q.den) (q.num.natAbs * p.den) := by
    rcases sgI_val p with e | e | e <;> rcases cmpI_val (p.num.natAbs * q.den) (q.num.natAbs * p.den) with e' | e' | e' <;> rw [e, e'] <;> exact wrap_id (by omega) (by omega)
  simp only [XA, XB, gateX, Nat.reduceAdd, Nat.reduceLeDiff, Nat.reduceSub, Nat.reduceMul, ↓reduceIte, Int.reduceToNat, Int.reduceLE, beq_self_eq_true, w]
  refine hK _ (XWP.ret ?_)
  try simp only [thenX_ret, inBlockX_ret]
  refine ret_go _ rfl ?_
  exact ⟨_, rfl, cmp_same hsg⟩
theorem qsame_c (V : View) (v u : Value) (p q : Rat) (hv : RatC V v p) (hu : RatC V u q) (fp : QF p) (fq : QF q) : Spec Try.prog 121 [v, u] V fun v' V' => v' = .bool (decide (p = q)) := by
  have hv0 := hv
  have hu0 := hu
  obtain ⟨x1, y1, rfl, o1, o2⟩ := hv.form
  obtain ⟨x2, y2, rfl, o3, o4⟩ := hu.form
  refine (Spec.enter Try.func121 rfl fun Γ => ?_)
  simp only [Try.ntmps121, List.map_cons, List.map_nil, List.length_cons, List.length_nil, Nat.reduceAdd, Nat.reduceSub, List.replicate_succ, List.replicate_zero, List.cons_append, List.nil_append]
  first | refine Gx.a (by kernel_rfl) fun K hK => ?_ | refine Gx.b (by kernel_rfl) fun K hK => ?_ | refine Gx.c (by kernel_rfl) fun K hK => ?_
  simp only [XA, XB, gateX, Nat.reduceAdd, Nat.reduceLeDiff, Nat.reduceSub, Nat.reduceMul, ↓reduceIte, Int.reduceToNat, Int.reduceLE, beq_self_eq_true]
  refine hK _ ?_
  first | refine Gx.a (by kernel_rfl) fun K hK => ?_ | refine Gx.b (by kernel_rfl) fun K hK => ?_ | refine Gx.c (by kernel_rfl) fun K hK => ?_
  simp only [XA, XB, gateX, Nat.reduceAdd, Nat.reduceLeDiff, Nat.reduceSub, Nat.reduceMul, ↓reduceIte, Int.reduceToNat, Int.reduceLE, beq_self_eq_true]
  refine call_go (by kernel_rfl) rfl (qcompare_c _ _ _ _ _ hv0 hu0 fp fq) fun v1 V1 hV1 h1 => ?_
  obtain ⟨z, rfl, hz⟩ := h1
  simp only [XA, XB, gateX, Nat.reduceAdd, Nat.reduceLeDiff, Nat.reduceSub, Nat.reduceMul, ↓reduceIte, Int.reduceToNat, Int.reduceLE, beq_self_eq_true]
  refine hK _ (XWP.ret ?_)
  try simp only [thenX_ret, inBlockX_ret]
  refine ret_go _ rfl ?_
  show Value.bool _ = _
  congr 1
  rw [decide_eq_decide]; exact hz
end Go.Proofs.Ythoboehbadmlmaa
end
section
namespace Go.Proofs.Ythoboehbadmlmaa
open Go Go.RowKit
set_option linter.unusedSimpArgs false
set_option linter.unusedVariables false
attribute [local irreducible] XWP Spec SpecO XPub XCall seqX clX apX stX ldX iaX slX
theorem ld3 {H : Heap} {V : View} {b e tot o t : Nat} {cells : List Value} {x y z : Value} (hs : shapeT Try.prog t = some (true, 3)) (hr : H b = some ⟨e, cells, tot⟩) (h0 : cells[o]? = some x) (h1 : cells[o + 1]? = some y) (h2 : cells[o + 2]? = some z) : Loads Try.prog H V t b o (.agg #[x, y, z]) :=
  ⟨true, 3, hs, .inl ⟨rfl, _, rfl, fun j u hj => .inl ⟨_, hr, by
    match j, hj with
    | 0, hj => cases hj; exact h0
    | 1, hj => cases hj; exact h1
    | 2, hj => cases hj; exact h2
    | j + 3, hj => simp at hj⟩, rfl⟩⟩
theorem bs_mat {t e by_ : Nat} {a b c a' b' c' : Value} (he : elemT Try.prog t = some e) (hz : zeroT Try.prog e = some ([.int .i64 0, .int .i64 0, .slice none 0 0], 3, by_)) : BuildsSlice Try.prog t 2 #[(0, .agg #[a, b, c]), (1, .agg #[a', b', c'])] e [a, b, c, a', b', c'] := by
  obtain ⟨i, zv, hi, hzv, h1, h2, _⟩ := zero_parts hz
  have hc : zv.cells = #[.int .i64 0, .int .i64 0, .slice none 0 0] := Array.toList_inj.1 h1
  refine bs_run (cells := #[a, b, c, a', b', c']) he hi hzv (by omega) (by omega) ?_
  rw [h2, hc]
  have : madeCells #[.int .i64 0, .int .i64 0, .slice none 0 0] (2 * 3) = #[.int .i64 0, .int .i64 0, .slice none 0 0, .int .i64 0, .int .i64 0, .slice none 0 0] := Array.toList_inj.1 (by rw [made_flat _ 3 rfl (by omega)]; rfl)
  rw [this, fill_three (off := 0) rfl (by simp), fill_three (off := 3) rfl (by simp)]; rfl
theorem st_mat {P : Program} {t i : Nat} {s : XS} {ops : Array Oper} {rest : List Oper} {K : XS → Prop} {d : Option Tmp} {m n e : Value} {vs : List Value} (hs : shapeT P t = some (true, 3)) (hb : s.bx[i]? = some vs) (hl : vs.length = 3) (h0 : isOne m = true) (h1 : isOne n = true) (h2 : isOne e = true) (h : seqX P ops rest K (XS.put ⟨s.t, s.bx.set i [m, n, e], s.H, s.V⟩ d (.v undef))) : stX P ops rest K s d t (.p i 0) (.v (.agg #[m, n, e])) := by
  refine st_agg (cs := [m, n, e]) hs hb rfl ⟨rfl, by simp [h0, h1, h2], by omega, ?_⟩
  have : splice vs 0 [m, n, e] = [m, n, e] := by
    unfold splice; simp [hl]
  rw [this]; exact h
def chB (r1 c1 : Int) (L1 : List Raw) (r2 c2 : Int) (L2 : List Raw) : Bool := matR r1 c1 L1 && matR r2 c2 L2 && decide (r1 = c1) && decide (r2 = r1) && rowsB r1.toNat c2.toNat (qs L1) (qs L2) r1.toNat
/-- what a chain that is right in its shape is -/
theorem chB_shape {r1 c1 r2 c2 : Int} {L1 L2 : List Raw} (e1 : matR r1 c1 L1 = true) (e2 : matR r2 c2 L2 = true) (d1 : r1 = c1) (d2 : r2 = r1) :
    ∃ n m : Nat, r1 = n ∧ c1 = n ∧ r2 = n ∧ c2 = m ∧ n ≤ 60 ∧ m ≤ 60 ∧ L1.length = n * n ∧ L2.length = n * m ∧ okR L1 = true ∧ okR L2 = true ∧ chB r1 c1 L1 r2 c2 L2 = rowsB n m (qs L1) (qs L2) n := by
  have f1 := e1
  have f2 := e2
  unfold matR at f1 f2
  rw [Bool.and_eq_true, decide_eq_true_eq] at f1 f2
  obtain ⟨⟨a1, a2, a3, a4, a5⟩, a6⟩ := f1
  obtain ⟨⟨b1, b2, b3, b4, b5⟩, b6⟩ := f2
  obtain ⟨n, rfl⟩ : ∃ n : Nat, r1 = n := ⟨r1.toNat, by omega⟩
  obtain ⟨m, rfl⟩ : ∃ m : Nat, c2 = m := ⟨c2.toNat, by omega⟩
  subst d2
  subst d1
  refine ⟨n, m, rfl, rfl, rfl, rfl, by omega, by omega, ?_, ?_, a6, b6, ?_⟩
  · rw [← Int.natCast_mul] at a5; omega
  · rw [← Int.natCast_mul] at b5; omega
  · unfold chB; rw [e1, e2]; simp
/-- the sum of a row, when j matrices are through -/
def chX (n m : Nat) (p q : List Rat) (i : Nat) : Nat → Rat
  | 0 => 0
  | 1 => rS p (i * n) 0 n
  | _ => rS q (i * m) (rS p (i * n) 0 n) m
def chO (n m : Nat) (p q : List Rat) (i : Nat) : Nat → Bool
  | 0 => true
  | 1 => nnB p (i * n) n
  | _ => nnB p (i * n) n && nnB q (i * m) m
theorem rowB_neg {n m : Nat} {p q : List Rat} {i j : Nat} (h : chO n m p q i j = false) : rowB n m p q i = false := by
  unfold rowB
  match j, h with
  | 0, h => cases h
  | 1, h => rw [show nnB p (i * n) n = false from h]; rfl
  | j + 2, h => rw [show (nnB p (i * n) n && nnB q (i * m) m) = false from h]; rfl
theorem rowB_two (n m : Nat) (p q : List Rat) (i : Nat) (h : chO n m p q i 2 = true) : rowB n m p q i = decide (chX n m p q i 2 = 1) := by
  unfold rowB
  rw [show (nnB p (i * n) n && nnB q (i * m) m) = true from h]; rfl
theorem nnB_bad {l : List Rat} {off k m : Nat} (h : ng (cf l (off + k)) = true) (hk : k < m) : nnB l off m = false := by
  cases hb : nnB l off m
  · rfl
  · have := nnB_get hb k hk
    rw [h] at this; cases this
/-- the j-th matrix of a chain -/
theorem ch_pick {n m A B : Nat} {p q : List Rat} {V : View} {s1 s2 : Value} (h1 : Rats V s1 p) (h2 : Rats V s2 q) (hn : n ≤ 60) (hm : m ≤ 60) (e1 : p.length = n * n) (e2 : q.length = n * m) (hA : CB A p) (hB : CB B q) (i j : Nat) (hj : j < 2) (hi : i < n) :
    ∃ (l : List Rat) (k C : Nat) (s : Value), Rats V s l ∧ k ≤ 60 ∧ l.length = n * k ∧ CB C l ∧ C ≤ A + B ∧ [.int .i64 (n : Int), .int .i64 (n : Int), s1, .int .i64 (n : Int), .int .i64 (m : Int), s2][j * 3]? = some (.int .i64 (n : Int)) ∧
      [Value.int .i64 (n : Int), .int .i64 (n : Int), s1, .int .i64 (n : Int), .int .i64 (m : Int), s2][j * 3 + 1]? = some (.int .i64 (k : Int)) ∧ [Value.int .i64 (n : Int), .int .i64 (n : Int), s1, .int .i64 (n : Int), .int .i64 (m : Int), s2][j * 3 + 2]? = some s ∧
      QB (A + B + 122) (chX n m p q i j) ∧ (∀ k0, QB (A + B + 124 + k0 + (A + B)) (rS l (i * k) (chX n m p q i j) k0)) ∧ rS l (i * k) (chX n m p q i j) k = chX n m p q i (j + 1) ∧ (chO n m p q i j = true → chO n m p q i (j + 1) = nnB l (i * k) k) := by
  match j, hj with
  | 0, _ =>
    refine ⟨p, n, A, s1, h1, hn, e1, hA, by omega, rfl, rfl, rfl, QB_zero _, fun k0 => ?_, rfl, fun _ => rfl⟩
    exact (rS_QB hA (QB_zero 0) (i * n) k0).mono (by omega)
  | 1, _ =>
    have hx := rS_QB hA (QB_zero 0) (i * n) n
    refine ⟨q, m, B, s2, h2, hm, e2, hB, by omega, rfl, rfl, rfl, hx.mono (by omega), fun k0 => ?_, rfl, fun h => ?_⟩
    · exact (rS_QB hB hx (i * m) k0).mono (by omega)
    · show (nnB p (i * n) n && nnB q (i * m) m) = _
      rw [show nnB p (i * n) n = true from h, Bool.true_and]
theorem cchright_c (V : View) (s1 s2 : Value) (r1 c1 r2 c2 : Int) (L1 L2 : List Raw) (h1 : Raws V s1 L1) (h2 : Raws V s2 L2) (f1 : fitR L1) (f2 : fitR L2) (l1 : L1.length ≤ 1000000) (l2 : L2.length ≤ 1000000) (A B : Nat) (hA : okR L1 = true → CB A (qs L1)) (hB : okR L2 = true → CB B (qs L2)) (hfit : 2 * (A + B) + 200 ≤ 17592186044416) :
    Spec Try.prog 85 [.agg #[.int .i64 r1, .int .i64 c1, s1, .int .i64 r2, .int .i64 c2, s2]] V fun v' V' => v' = .bool (chB r1 c1 L1 r2 c2 L2) := by
  obtain ⟨A1, q1, rfl, _, _⟩ := h1.form
  obtain ⟨A2, q2, rfl, _, _⟩ := h2.form
  refine (Spec.enter Try.func85 rfl fun Γ => ?_)
  simp only [Try.ntmps85, List.map_cons, List.map_nil, List.length_cons, List.length_nil, Nat.reduceAdd, Nat.reduceSub, List.replicate_succ, List.replicate_zero, List.cons_append, List.nil_append]
  first | refine Gx.a (by kernel_rfl) fun K hK => ?_ | refine Gx.b (by kernel_rfl) fun K hK => ?_ | refine Gx.c (by kernel_rfl) fun K hK => ?_
  simp only [XM, XA, XB, gateX, Nat.reduceAdd, Nat.reduceLeDiff, Nat.reduceSub, Nat.reduceMul, ↓reduceIte, Int.reduceToNat, Int.reduceLE, beq_self_eq_true]
  refine hK _ ?_
  refine XWP.seq ?_
  first | refine Gx.a (by kernel_rfl) fun K hK => ?_ | refine Gx.b (by kernel_rfl) fun K hK => ?_ | refine Gx.c (by kernel_rfl) fun K hK => ?_
  simp only [XM, XA, XB, gateX, Nat.reduceAdd, Nat.reduceLeDiff, Nat.reduceSub, Nat.reduceMul, ↓reduceIte, Int.reduceToNat, Int.reduceLE, beq_self_eq_true]
  refine call_go (by kernel_rfl) rfl (cmright_c _ _ r1 c1 L1 h1 f1 l1) fun v1 V1 hV1 g1 => ?_
  subst g1
  cases e1 : matR r1 c1 L1
  · have eC : chB r1 c1 L1 r2 c2 L2 = false := by unfold chB; rw [e1]; rfl
    simp only [XM, XA, XB, gateX, Nat.reduceAdd, Nat.reduceLeDiff, Nat.reduceSub, Nat.reduceMul, ↓reduceIte, Int.reduceToNat, Int.reduceLE, beq_self_eq_true]
    refine hK _ ?_
    first | refine Gx.t rfl ?_ | refine XWP.seq (Gx.t rfl ?_)
    first | refine Gx.a (by kernel_rfl) fun K hK => ?_ | refine Gx.b (by kernel_rfl) fun K hK => ?_ | refine Gx.c (by kernel_rfl) fun K hK => ?_
    simp only [XM, XA, XB, gateX, Nat.reduceAdd, Nat.reduceLeDiff, Nat.reduceSub, Nat.reduceMul, ↓reduceIte, Int.reduceToNat, Int.reduceLE, beq_self_eq_true]
    refine hK _ (XWP.ret ?_)
    try simp only [thenX_ret, inBlockX_ret]
    refine ret_go _ rfl ?_
    rw [eC]; rfl
  simp only [XM, XA, XB, gateX, Nat.reduceAdd, Nat.reduceLeDiff, Nat.reduceSub, Nat.reduceMul, ↓reduceIte, Int.reduceToNat, Int.reduceLE, beq_self_eq_true]
  refine call_go (by kernel_rfl) rfl (cmright_c _ _ r2 c2 L2 (h2.up hV1) f2 l2) fun v2 V2 hV2 g2 => ?_
  subst g2
  cases e2 : matR r2 c2 L2
  · have eC : chB r1 c1 L1 r2 c2 L2 = false := by unfold chB; rw [e2, Bool.and_false]; rfl
    simp only [XM, XA, XB, gateX, Nat.reduceAdd, Nat.reduceLeDiff, Nat.reduceSub, Nat.reduceMul, ↓reduceIte, Int.reduceToNat, Int.reduceLE, beq_self_eq_true]
    refine hK _ ?_
    first | refine Gx.t rfl ?_ | refine XWP.seq (Gx.t rfl ?_)
    first | refine Gx.a (by kernel_rfl) fun K hK => ?_ | refine Gx.b (by kernel_rfl) fun K hK => ?_ | refine Gx.c (by kernel_rfl) fun K hK => ?_
    simp only [XM, XA, XB, gateX, Nat.reduceAdd, Nat.reduceLeDiff, Nat.reduceSub, Nat.reduceMul, ↓reduceIte, Int.reduceToNat, Int.reduceLE, beq_self_eq_true]
    refine hK _ (XWP.ret ?_)
    try simp only [thenX_ret, inBlockX_ret]
    refine ret_go _ rfl ?_
    rw [eC]; rfl
  by_cases d1 : r1 = c1
  rotate_left
  · have eC : chB r1 c1 L1 r2 c2 L2 = false := by unfold chB; rw [decide_eq_false d1, Bool.and_false]; rfl
    have b1 : decide (r1 = c1) = false := decide_eq_false d1
    simp only [XM, XA, XB, gateX, Nat.reduceAdd, Nat.reduceLeDiff, Nat.reduceSub, Nat.reduceMul, ↓reduceIte, Int.reduceToNat, Int.reduceLE, beq_self_eq_true, b1]
    refine hK _ ?_
    first | refine Gx.t rfl ?_ | refine XWP.seq (Gx.t rfl ?_)
    first | refine Gx.a (by kernel_rfl) fun K hK => ?_ | refine Gx.b (by kernel_rfl) fun K hK => ?_ | refine Gx.c (by kernel_rfl) fun K hK => ?_
    simp only [XM, XA, XB, gateX, Nat.reduceAdd, Nat.reduceLeDiff, Nat.reduceSub, Nat.reduceMul, ↓reduceIte, Int.reduceToNat, Int.reduceLE, beq_self_eq_true]
    refine hK _ (XWP.ret ?_)
    try simp only [thenX_ret, inBlockX_ret]
    refine ret_go _ rfl ?_
    rw [eC]; rfl
  have b1 : decide (r1 = c1) = true := decide_eq_true d1
  by_cases d2 : r2 = r1
  rotate_left
  · have eC : chB r1 c1 L1 r2 c2 L2 = false := by unfold chB; rw [decide_eq_false d2, Bool.and_false]; rfl
    have b2 : decide (r2 = r1) = false := decide_eq_false d2
    simp only [XM, XA, XB, gateX, Nat.reduceAdd, Nat.reduceLeDiff, Nat.reduceSub, Nat.reduceMul, ↓reduceIte, Int.reduceToNat, Int.reduceLE, beq_self_eq_true, b1, b2]
    refine hK _ ?_
    first | refine Gx.t rfl ?_ | refine XWP.seq (Gx.t rfl ?_)
    first | refine Gx.a (by kernel_rfl) fun K hK => ?_ | refine Gx.b (by kernel_rfl) fun K hK => ?_ | refine Gx.c (by kernel_rfl) fun K hK => ?_
    simp only [XM, XA, XB, gateX, Nat.reduceAdd, Nat.reduceLeDiff, Nat.reduceSub, Nat.reduceMul, ↓reduceIte, Int.reduceToNat, Int.reduceLE, beq_self_eq_true]
    refine hK _ (XWP.ret ?_)
    try simp only [thenX_ret, inBlockX_ret]
    refine ret_go _ rfl ?_
    rw [eC]; rfl
  have b2 : decide (r2 = r1) = true := decide_eq_true d2
  simp only [XM, XA, XB, gateX, Nat.reduceAdd, Nat.reduceLeDiff, Nat.reduceSub, Nat.reduceMul, ↓reduceIte, Int.reduceToNat, Int.reduceLE, beq_self_eq_true, b1, b2]
  refine hK _ ?_
  first | refine Gx.f rfl ?_ | refine XWP.seq (Gx.f rfl ?_)
  refine XWP.skip ?_
  obtain ⟨n, m, rfl, rfl, rfl, rfl, hn, hm, k1, k2, o1, o2, eC⟩ := chB_shape e1 e2 d1 d2
  rw [eC]
  clear eC e1 e2 b1 b2 d1 d2
  have hp := ((Raws.rats h1 o1).up hV1).up hV2
  have hq := ((Raws.rats h2 o2).up hV1).up hV2
  have hA := hA o1
  have hB := hB o2
  have k1 : (qs L1).length = n * n := by rw [qs_len]; exact k1
  have k2 : (qs L2).length = n * m := by rw [qs_len]; exact k2
  generalize qs L1 = p at *
  generalize qs L2 = q at *
  clear h1 h2 f1 f2 o1 o2 l1 l2
  have hp3 : ∀ {V3 : View}, V2.le V3 → Rats V3 _ p := fun h => hp.up h
  have hq3 : ∀ {V3 : View}, V2.le V3 → Rats V3 _ q := fun h => hq.up h
  refine XWP.cutD 1 (fun s => ∃ V3 H3, StIs (fun Z => [Z 0,Z 1,Z 2,Z 3,Z 4,Z 5,Z 6,Z 7,Z 8,Z 9,Z 10,Z 11,Z 12,Z 13,Z 14,Z 15,Z 16,Z 17,Z 18,Z 19,Z 20,Z 21,Z 22,Z 23,Z 24,Z 25,Z 26,Z 27,Z 28,Z 29,Z 30,Z 31,Z 32,Z 33,Z 34,Z 35,Z 36,Z 37,Z 38,Z 39,Z 40,Z 41,Z 42,Z 43,Z 44,Z 45,Z 46,Z 47,Z 48,Z 49,Z 50,Z 51,Z 52,Z 53,Z 54,Z 55,Z 56,Z 57,Z 58,Z 59,Z 60,Z 61,Z 62,Z 63,Z 64,Z 65,Z 66,Z 67,Z 68,Z 69,Z 70,Z 71,Z 72,Z 73,Z 74,Z 75]) [[.int .i64 (n : Int), .int .i64 (n : Int), .slice A1 L1.length q1, .int .i64 (n : Int), .int .i64 (m : Int), .slice A2 L2.length q2]] H3 V3 s ∧ rowsB n m p q n = true) ?_ ?_
  · first | refine Gx.a (by kernel_rfl) fun K hK => ?_ | refine Gx.b (by kernel_rfl) fun K hK => ?_ | refine Gx.c (by kernel_rfl) fun K hK => ?_
    simp only [XM, XA, XB, gateX, Nat.reduceAdd, Nat.reduceLeDiff, Nat.reduceSub, Nat.reduceMul, ↓reduceIte, Int.reduceToNat, Int.reduceLE, beq_self_eq_true]
    refine hK _ ?_
    clear hK
    first | refine XWP.block ?_ | refine XWP.seq (XWP.block ?_)
    refine XWP.loopD 1 (fun r s => ∃ (i : Nat) (V3 : View) (H3 : Heap), StIs (fun Z => [Z 0, .p 0 0, Z 2,Z 3,Z 4,Z 5,Z 6,Z 7,Z 8,Z 9,Z 10,Z 11,Z 12,Z 13,Z 14,Z 15,Z 16,Z 17,Z 18,Z 19,Z 20,Z 21,Z 22,Z 23,Z 24,Z 25,Z 26,Z 27,Z 28,Z 29,Z 30,Z 31,Z 32,Z 33,Z 34,Z 35,Z 36,Z 37, .v (.int .i64 (n : Int)), .v (.int .i64 (i : Int)), Z 40,Z 41,Z 42,Z 43,Z 44,Z 45,Z 46,Z 47,Z 48,Z 49,Z 50,Z 51,Z 52,Z 53,Z 54,Z 55,Z 56,Z 57,Z 58,Z 59,Z 60,Z 61,Z 62,Z 63,Z 64,Z 65,Z 66,Z 67,Z 68,Z 69,Z 70,Z 71,Z 72,Z 73,Z 74,Z 75]) [[.int .i64 (n : Int), .int .i64 (n : Int), .slice A1 L1.length q1, .int .i64 (n : Int), .int .i64 (m : Int), .slice A2 L2.length q2]] H3 V3 s ∧ V2.le V3 ∧ r + i = n ∧ rowsB n m p q i = true) n ⟨0, V2, _, StIs.of (by exact rfl), View.le_refl _, by omega, rfl⟩ ?_
    rintro r s ⟨i, V3, H3, hs, hV3, hr, hrow⟩
    obtain ⟨z, rfl⟩ := hs.out
    try dsimp only
    clear hs
    by_cases hi : i < n
    rotate_left
    · obtain rfl : i = n := by omega
      have b1 : decide ((i : Int) < (i : Int)) = false := decide_eq_false (by omega)
      first | refine Gx.a (by kernel_rfl) fun K hK => ?_ | refine Gx.b (by kernel_rfl) fun K hK => ?_ | refine Gx.c (by kernel_rfl) fun K hK => ?_
      simp only [XM, XA, XB, gateX, Nat.reduceAdd, Nat.reduceLeDiff, Nat.reduceSub, Nat.reduceMul, ↓reduceIte, Int.reduceToNat, Int.reduceLE, beq_self_eq_true, b1]
      refine hK _ ?_
      first | refine Gx.f rfl ?_ | refine XWP.seq (Gx.f rfl ?_)
      refine XWP.exit ?_
      exact fun f => ⟨V3, _, StIs.of (by exact rfl), hrow⟩
    have b1 : decide ((i : Int) < (n : Int)) = true := decide_eq_true (by omega)
    first | refine Gx.a (by kernel_rfl) fun K hK => ?_ | refine Gx.b (by kernel_rfl) fun K hK => ?_ | refine Gx.c (by kernel_rfl) fun K hK => ?_
    simp only [XM, XA, XB, gateX, Nat.reduceAdd, Nat.reduceLeDiff, Nat.reduceSub, Nat.reduceMul, ↓reduceIte, Int.reduceToNat, Int.reduceLE, beq_self_eq_true, b1]
    refine hK _ ?_
    first | refine Gx.t rfl ?_ | refine XWP.seq (Gx.t rfl ?_)
    refine XWP.skip ?_
    refine XWP.seq ?_
    first | refine XWP.block ?_ | refine XWP.seq (XWP.block ?_)
    first | refine Gx.a (by kernel_rfl) fun K hK => ?_ | refine Gx.b (by kernel_rfl) fun K hK => ?_ | refine Gx.c (by kernel_rfl) fun K hK => ?_
    simp only [XM, XA, XB, gateX, Nat.reduceAdd, Nat.reduceLeDiff, Nat.reduceSub, Nat.reduceMul, ↓reduceIte, Int.reduceToNat, Int.reduceLE, beq_self_eq_true]
    refine hK _ ?_
    first | refine Gx.a (by kernel_rfl) fun K hK => ?_ | refine Gx.b (by kernel_rfl) fun K hK => ?_ | refine Gx.c (by kernel_rfl) fun K hK => ?_
    simp only [XM, XA, XB, gateX, Nat.reduceAdd, Nat.reduceLeDiff, Nat.reduceSub, Nat.reduceMul, ↓reduceIte, Int.reduceToNat, Int.reduceLE, beq_self_eq_true]
    refine call_go (by kernel_rfl) rfl (qzero_c _) fun v4 V4 hV4 h4 => ?_
    obtain ⟨x4, y4, rfl, o1, o2⟩ := h4.form
    simp only [XM, XA, XB, gateX, Nat.reduceAdd, Nat.reduceLeDiff, Nat.reduceSub, Nat.reduceMul, ↓reduceIte, Int.reduceToNat, Int.reduceLE, beq_self_eq_true]
    refine st_rat rfl rfl rfl o1 o2 ?_
    simp only [XM, XA, XB, gateX, Nat.reduceAdd, Nat.reduceLeDiff, Nat.reduceSub, Nat.reduceMul, ↓reduceIte, Int.reduceToNat, Int.reduceLE, beq_self_eq_true]
    refine hK _ ?_
    clear hK
    refine XWP.cutD 2 (fun s => ∃ (V5 : View) (H5 : Heap) (x y : Value), StIs (fun Z => [Z 0, .p 0 0, Z 2, .v (.int .i64 (i : Int)), .p 1 0, Z 5,Z 6,Z 7,Z 8,Z 9,Z 10,Z 11,Z 12,Z 13,Z 14,Z 15,Z 16,Z 17,Z 18,Z 19,Z 20,Z 21,Z 22,Z 23,Z 24,Z 25,Z 26,Z 27,Z 28,Z 29,Z 30,Z 31,Z 32,Z 33,Z 34,Z 35,Z 36,Z 37, .v (.int .i64 (n : Int)), .v (.int .i64 (i : Int)), Z 40,Z 41,Z 42,Z 43,Z 44,Z 45,Z 46,Z 47,Z 48,Z 49,Z 50,Z 51,Z 52,Z 53,Z 54,Z 55,Z 56,Z 57,Z 58,Z 59,Z 60,Z 61,Z 62,Z 63,Z 64,Z 65,Z 66,Z 67,Z 68,Z 69,Z 70,Z 71,Z 72,Z 73,Z 74,Z 75]) [[Value.int .i64 (n : Int), .int .i64 (n : Int), .slice A1 L1.length q1, .int .i64 (n : Int), .int .i64 (m : Int), .slice A2 L2.length q2], [.bool (ng (chX n m p q i 2)), x, y]] H5 V5 s ∧ V4.le V5 ∧ RatC V5 (.agg #[.bool (ng (chX n m p q i 2)), x, y]) (chX n m p q i 2) ∧ isOne x = true ∧ isOne y = true ∧ chO n m p q i 2 = true) ?_ ?_
    · first | refine Gx.a (by kernel_rfl) fun K hK => ?_ | refine Gx.b (by kernel_rfl) fun K hK => ?_ | refine Gx.c (by kernel_rfl) fun K hK => ?_
      simp only [XM, XA, XB, gateX, Nat.reduceAdd, Nat.reduceLeDiff, Nat.reduceSub, Nat.reduceMul, ↓reduceIte, Int.reduceToNat, Int.reduceLE, beq_self_eq_true]
      refine bs_go (by kernel_rfl) #[(0, .agg #[.int .i64 (n : Int), .int .i64 (n : Int), .slice A1 L1.length q1]), (1, .agg #[.int .i64 (n : Int), .int .i64 (m : Int), .slice A2 L2.length q2])] (by simp [ev_tmp, SV.val]) (bs_mat elemT_137 zeroT_61) fun b hb1 hb2 => ?_
      simp only [XM, XA, XB, gateX, Nat.reduceAdd, Nat.reduceLeDiff, Nat.reduceSub, Nat.reduceMul, ↓reduceIte, Int.reduceToNat, Int.reduceLE, beq_self_eq_true]
      refine hK _ ?_
      clear hK
      first | refine XWP.block ?_ | refine XWP.seq (XWP.block ?_)
      refine XWP.loopD 2 (fun r2 s => ∃ (j : Nat) (V5 : View) (x y : Value), StIs (fun Z => [Z 0, .p 0 0, Z 2, .v (.int .i64 (i : Int)), .p 1 0, Z 5,Z 6,Z 7,Z 8,Z 9,Z 10,Z 11,Z 12,Z 13,Z 14,Z 15,Z 16,Z 17,Z 18,Z 19,Z 20,Z 21,Z 22,Z 23,Z 24,Z 25,Z 26,Z 27,Z 28,Z 29,Z 30,Z 31,Z 32,Z 33,Z 34,Z 35,Z 36,Z 37, .v (.int .i64 (n : Int)), .v (.int .i64 (i : Int)), Z 40,Z 41,Z 42,Z 43,Z 44,Z 45,Z 46, .v (.slice (some ⟨b, 0, none⟩) 2 2), .v (.int .i64 2), .v (.int .i64 (j : Int)), Z 50,Z 51,Z 52,Z 53,Z 54,Z 55,Z 56,Z 57,Z 58,Z 59,Z 60,Z 61,Z 62,Z 63,Z 64,Z 65,Z 66,Z 67,Z 68,Z 69,Z 70,Z 71,Z 72,Z 73,Z 74,Z 75]) [[Value.int .i64 (n : Int), .int .i64 (n : Int), .slice A1 L1.length q1, .int .i64 (n : Int), .int .i64 (m : Int), .slice A2 L2.length q2], [.bool (ng (chX n m p q i j)), x, y]] (upd H3 b (some ⟨61, [Value.int .i64 (n : Int), .int .i64 (n : Int), .slice A1 L1.length q1, .int .i64 (n : Int), .int .i64 (m : Int), .slice A2 L2.length q2], 6⟩)) V5 s ∧ V4.le V5 ∧ r2 + j = 2 ∧ RatC V5 (.agg #[.bool (ng (chX n m p q i j)), x, y]) (chX n m p q i j) ∧ isOne x = true ∧ isOne y = true ∧ chO n m p q i j = true) 2 ⟨0, V4, x4, y4, StIs.of (by exact rfl), View.le_refl _, by omega, h4, o1, o2, rfl⟩ ?_
      clear h4 o1 o2
      rintro r2 s ⟨j, V5, x, y, hs, hV5, hr2, h5, o1, o2, hO⟩
      obtain ⟨z, rfl⟩ := hs.out
      try dsimp only
      clear hs
      by_cases hj : j < 2
      rotate_left
      · obtain rfl : j = 2 := by omega
        have b2 : decide (((2 : Nat) : Int) < 2) = false := decide_eq_false (by omega)
        first | refine Gx.a (by kernel_rfl) fun K hK => ?_ | refine Gx.b (by kernel_rfl) fun K hK => ?_ | refine Gx.c (by kernel_rfl) fun K hK => ?_
        simp only [XM, XA, XB, gateX, Nat.reduceAdd, Nat.reduceLeDiff, Nat.reduceSub, Nat.reduceMul, ↓reduceIte, Int.reduceToNat, Int.reduceLE, beq_self_eq_true, b2]
        refine hK _ ?_
        first | refine Gx.f rfl ?_ | refine XWP.seq (Gx.f rfl ?_)
        refine XWP.exit ?_
        exact fun f => ⟨V5, _, x, y, StIs.of (by exact rfl), hV5, h5, o1, o2, hO⟩
      have b2 : decide ((j : Int) < 2) = true := decide_eq_true (by omega)
      first | refine Gx.a (by kernel_rfl) fun K hK => ?_ | refine Gx.b (by kernel_rfl) fun K hK => ?_ | refine Gx.c (by kernel_rfl) fun K hK => ?_
      simp only [XM, XA, XB, gateX, Nat.reduceAdd, Nat.reduceLeDiff, Nat.reduceSub, Nat.reduceMul, ↓reduceIte, Int.reduceToNat, Int.reduceLE, beq_self_eq_true, b2]
      refine hK _ ?_
      first | refine Gx.t rfl ?_ | refine XWP.seq (Gx.t rfl ?_)
      refine XWP.skip ?_
      refine XWP.seq ?_
      first | refine XWP.block ?_ | refine XWP.seq (XWP.block ?_)
      obtain ⟨l, k, C, sj, hl, hk60, hlen, cl, hC, t0, t1, t2, qX, qS, hX, hOn⟩ := ch_pick (hp3 (View.le_trans (View.le_trans hV3 hV4) hV5)) (hq3 (View.le_trans (View.le_trans hV3 hV4) hV5)) hn hm k1 k2 hA hB i j hj hi
      have hhb : upd H3 b (some ⟨61, [Value.int .i64 (n : Int), .int .i64 (n : Int), .slice A1 L1.length q1, .int .i64 (n : Int), .int .i64 (m : Int), .slice A2 L2.length q2], 6⟩) b = some ⟨61, [Value.int .i64 (n : Int), .int .i64 (n : Int), .slice A1 L1.length q1, .int .i64 (n : Int), .int .i64 (m : Int), .slice A2 L2.length q2], 6⟩ := upd_at _ _ _
      have osj : isOne sj = true := by obtain ⟨_, _, rfl, _, _⟩ := hl.form; rfl
      generalize upd H3 b (some ⟨61, [Value.int .i64 (n : Int), .int .i64 (n : Int), .slice A1 L1.length q1, .int .i64 (n : Int), .int .i64 (m : Int), .slice A2 L2.length q2], 6⟩) = H5 at *
      have hik : i * k + k ≤ n * k := by
        have := Nat.mul_le_mul_right k (show i + 1 ≤ n by omega)
        rw [Nat.add_mul, Nat.one_mul] at this; exact this
      have hnk : n * k ≤ 3600 := Nat.le_trans (Nat.mul_le_mul hn hk60) (by decide)
      first | refine Gx.a (by kernel_rfl) fun K hK => ?_ | refine Gx.b (by kernel_rfl) fun K hK => ?_ | refine Gx.c (by kernel_rfl) fun K hK => ?_
      simp only [XM, XA, XB, gateX, Nat.reduceAdd, Nat.reduceLeDiff, Nat.reduceSub, Nat.reduceMul, ↓reduceIte, Int.reduceToNat, Int.reduceLE, beq_self_eq_true]
      refine ⟨by omega, by omega, ld_mem (ld3 shapeT_61 hhb (by simpa using t0) (by simpa using t1) (by simpa using t2)) ?_⟩
      simp only [XM, XA, XB, gateX, Nat.reduceAdd, Nat.reduceLeDiff, Nat.reduceSub, Nat.reduceMul, ↓reduceIte, Int.reduceToNat, Int.reduceLE, beq_self_eq_true]
      refine st_mat shapeT_61 rfl rfl rfl rfl osj ?_
      simp only [XM, XA, XB, gateX, Nat.reduceAdd, Nat.reduceLeDiff, Nat.reduceSub, Nat.reduceMul, ↓reduceIte, Int.reduceToNat, Int.reduceLE, beq_self_eq_true]
      refine hK _ ?_
      first | refine Gx.a (by kernel_rfl) fun K hK => ?_ | refine Gx.b (by kernel_rfl) fun K hK => ?_ | refine Gx.c (by kernel_rfl) fun K hK => ?_
      simp only [XM, XA, XB, gateX, Nat.reduceAdd, Nat.reduceLeDiff, Nat.reduceSub, Nat.reduceMul, ↓reduceIte, Int.reduceToNat, Int.reduceLE, beq_self_eq_true]
      refine hK _ ?_
      clear hK
      refine XWP.post (fun s => ∃ (V6 : View) (x y : Value), StIs (fun Z => [Z 0, .p 0 0, Z 2, .v (.int .i64 (i : Int)), .p 1 0, Z 5, .p 2 0, Z 7,Z 8,Z 9,Z 10,Z 11,Z 12,Z 13,Z 14,Z 15,Z 16,Z 17,Z 18,Z 19,Z 20,Z 21,Z 22,Z 23,Z 24,Z 25,Z 26,Z 27,Z 28,Z 29,Z 30,Z 31,Z 32,Z 33,Z 34,Z 35,Z 36,Z 37, .v (.int .i64 (n : Int)), .v (.int .i64 (i : Int)), Z 40,Z 41,Z 42,Z 43,Z 44,Z 45,Z 46, .v (.slice (some ⟨b, 0, none⟩) 2 2), .v (.int .i64 2), .v (.int .i64 (j : Int)), Z 50,Z 51,Z 52,Z 53, .v (.int .i64 (k : Int)), Z 55,Z 56,Z 57,Z 58,Z 59,Z 60,Z 61,Z 62,Z 63,Z 64,Z 65,Z 66,Z 67,Z 68,Z 69,Z 70,Z 71,Z 72,Z 73,Z 74,Z 75]) [[Value.int .i64 (n : Int), .int .i64 (n : Int), .slice A1 L1.length q1, .int .i64 (n : Int), .int .i64 (m : Int), .slice A2 L2.length q2], [.bool (ng (chX n m p q i (j + 1))), x, y], [.int .i64 (n : Int), .int .i64 (k : Int), sj]] H5 V6 s ∧ V5.le V6 ∧ RatC V6 (.agg #[.bool (ng (chX n m p q i (j + 1))), x, y]) (chX n m p q i (j + 1)) ∧ isOne x = true ∧ isOne y = true ∧ nnB l (i * k) k = true) ?_ ?_
      · first | refine XWP.block ?_ | refine XWP.seq (XWP.block ?_)
        refine XWP.loop (fun r3 s => ∃ (k0 : Nat) (V6 : View) (x y : Value), StIs (fun Z => [Z 0, .p 0 0, Z 2, .v (.int .i64 (i : Int)), .p 1 0, Z 5, .p 2 0, Z 7,Z 8,Z 9,Z 10,Z 11,Z 12,Z 13,Z 14,Z 15,Z 16,Z 17,Z 18,Z 19,Z 20,Z 21,Z 22,Z 23,Z 24,Z 25,Z 26,Z 27,Z 28,Z 29,Z 30,Z 31,Z 32,Z 33,Z 34,Z 35,Z 36,Z 37, .v (.int .i64 (n : Int)), .v (.int .i64 (i : Int)), Z 40,Z 41,Z 42,Z 43,Z 44,Z 45,Z 46, .v (.slice (some ⟨b, 0, none⟩) 2 2), .v (.int .i64 2), .v (.int .i64 (j : Int)), Z 50,Z 51,Z 52,Z 53, .v (.int .i64 (k : Int)), .v (.int .i64 (k0 : Int)), Z 56,Z 57,Z 58,Z 59,Z 60,Z 61,Z 62,Z 63,Z 64,Z 65,Z 66,Z 67,Z 68,Z 69,Z 70,Z 71,Z 72,Z 73,Z 74,Z 75]) [[Value.int .i64 (n : Int), .int .i64 (n : Int), .slice A1 L1.length q1, .int .i64 (n : Int), .int .i64 (m : Int), .slice A2 L2.length q2], [.bool (ng (rS l (i * k) (chX n m p q i j) k0)), x, y], [.int .i64 (n : Int), .int .i64 (k : Int), sj]] H5 V6 s ∧ V5.le V6 ∧ r3 + k0 = k ∧ RatC V6 (.agg #[.bool (ng (rS l (i * k) (chX n m p q i j) k0)), x, y]) (rS l (i * k) (chX n m p q i j) k0) ∧ isOne x = true ∧ isOne y = true ∧ nnB l (i * k) k0 = true) k ⟨0, V5, x, y, StIs.of (by exact rfl), View.le_refl _, by omega, h5, o1, o2, rfl⟩ ?_
        clear h5 o1 o2
        rintro r3 s ⟨k0, V6, x, y, hs, hV6, hr3, h6, o1, o2, hnn⟩
        obtain ⟨z, rfl⟩ := hs.out
        try dsimp only
        clear hs
        by_cases hk0 : k0 < k
        rotate_left
        · obtain rfl : k0 = k := by omega
          rw [hX] at h6 ⊢
          have b3 : decide ((k0 : Int) < (k0 : Int)) = false := decide_eq_false (by omega)
          first | refine Gx.a (by kernel_rfl) fun K hK => ?_ | refine Gx.b (by kernel_rfl) fun K hK => ?_ | refine Gx.c (by kernel_rfl) fun K hK => ?_
          simp only [XM, XA, XB, gateX, Nat.reduceAdd, Nat.reduceLeDiff, Nat.reduceSub, Nat.reduceMul, ↓reduceIte, Int.reduceToNat, Int.reduceLE, beq_self_eq_true, b3]
          refine hK _ ?_
          first | refine Gx.f rfl ?_ | refine XWP.seq (Gx.f rfl ?_)
          refine XWP.exit ?_
          exact ⟨V6, x, y, StIs.of (by exact rfl), hV6, h6, o1, o2, hnn⟩
        have b3 : decide ((k0 : Int) < (k : Int)) = true := decide_eq_true (by omega)
        first | refine Gx.a (by kernel_rfl) fun K hK => ?_ | refine Gx.b (by kernel_rfl) fun K hK => ?_ | refine Gx.c (by kernel_rfl) fun K hK => ?_
        simp only [XM, XA, XB, gateX, Nat.reduceAdd, Nat.reduceLeDiff, Nat.reduceSub, Nat.reduceMul, ↓reduceIte, Int.reduceToNat, Int.reduceLE, beq_self_eq_true, b3]
        refine hK _ ?_
        first | refine Gx.t rfl ?_ | refine XWP.seq (Gx.t rfl ?_)
        refine XWP.skip ?_
        refine XWP.seq ?_
        first | refine XWP.block ?_ | refine XWP.seq (XWP.block ?_)
        first | refine Gx.a (by kernel_rfl) fun K hK => ?_ | refine Gx.b (by kernel_rfl) fun K hK => ?_ | refine Gx.c (by kernel_rfl) fun K hK => ?_
        simp only [XM, XA, XB, gateX, Nat.reduceAdd, Nat.reduceLeDiff, Nat.reduceSub, Nat.reduceMul, ↓reduceIte, Int.reduceToNat, Int.reduceLE, beq_self_eq_true]
        refine hK _ ?_
        have hl6 := hl.up hV6
        have hik0 : i * k + k0 < l.length := by omega
        first | refine Gx.a (by kernel_rfl) fun K hK => ?_ | refine Gx.b (by kernel_rfl) fun K hK => ?_ | refine Gx.c (by kernel_rfl) fun K hK => ?_
        simp only [XM, XA, XB, gateX, Nat.reduceAdd, Nat.reduceLeDiff, Nat.reduceSub, Nat.reduceMul, ↓reduceIte, Int.reduceToNat, Int.reduceLE, beq_self_eq_true]
        refine call_go (by kernel_rfl) rfl (ccell_c _ _ _ k i k0 l hl6 hik0 hk60 (by omega) (by omega)) fun v7 V7 hV7 h7 => ?_
        obtain ⟨x7, y7, rfl, o3, o4⟩ := h7.form
        cases hng : ng (cf l (i * k + k0))
        rotate_left
        · simp only [XM, XA, XB, gateX, Nat.reduceAdd, Nat.reduceLeDiff, Nat.reduceSub, Nat.reduceMul, ↓reduceIte, Int.reduceToNat, Int.reduceLE, beq_self_eq_true]
          refine hK _ ?_
          first | refine Gx.t rfl ?_ | refine XWP.seq (Gx.t rfl ?_)
          first | refine Gx.a (by kernel_rfl) fun K hK => ?_ | refine Gx.b (by kernel_rfl) fun K hK => ?_ | refine Gx.c (by kernel_rfl) fun K hK => ?_
          simp only [XM, XA, XB, gateX, Nat.reduceAdd, Nat.reduceLeDiff, Nat.reduceSub, Nat.reduceMul, ↓reduceIte, Int.reduceToNat, Int.reduceLE, beq_self_eq_true]
          refine hK _ (XWP.ret ?_)
          try simp only [thenX_ret, inBlockX_ret]
          refine ret_go _ rfl ?_
          have := nnB_bad hng hk0
          rw [rowsB_bad (rowB_neg (j := j + 1) (by rw [hOn hO]; exact this)) hi]; rfl
        simp only [XM, XA, XB, gateX, Nat.reduceAdd, Nat.reduceLeDiff, Nat.reduceSub, Nat.reduceMul, ↓reduceIte, Int.reduceToNat, Int.reduceLE, beq_self_eq_true]
        refine hK _ ?_
        first | refine Gx.f rfl ?_ | refine XWP.seq (Gx.f rfl ?_)
        refine XWP.skip ?_
        (first | refine XWP.drw [0, 1, 2, 3, 4, 5, 6] (by kernel_rfl) (by kernel_rfl) (by kernel_rfl) fun K hK => ?_ | refine XWP.seq (XWP.drw [0, 1, 2, 3, 4, 5, 6] (by kernel_rfl) (by kernel_rfl) (by kernel_rfl) fun K hK => ?_) | refine XWP.drw1 [0, 1, 2, 3, 4, 5, 6] (by kernel_rfl) (by kernel_rfl) (by kernel_rfl) fun K hK => ?_) <;> dsimp only [pickOps, List.getElem?_cons_zero, List.getElem?_cons_succ]
        simp only [XM, XA, XB, gateX, Nat.reduceAdd, Nat.reduceLeDiff, Nat.reduceSub, Nat.reduceMul, ↓reduceIte, Int.reduceToNat, Int.reduceLE, beq_self_eq_true]
        refine call_go (by kernel_rfl) rfl (ccell_c _ _ _ k i k0 l (hl6.up hV7) hik0 hk60 (by omega) (by omega)) fun v8 V8 hV8 h8 => ?_
        simp only [XM, XA, XB, gateX, Nat.reduceAdd, Nat.reduceLeDiff, Nat.reduceSub, Nat.reduceMul, ↓reduceIte, Int.reduceToNat, Int.reduceLE, beq_self_eq_true]
        refine call_go (by kernel_rfl) rfl (qadd_c _ _ _ _ _ (h6.mono (View.le_trans hV7 hV8)) h8 ((qS k0).qf (by omega)) ((cl.at _).qf (by omega))) fun v9 V9 hV9 h9 => ?_
        obtain ⟨x9, y9, rfl, o5, o6⟩ := h9.form
        simp only [XM, XA, XB, gateX, Nat.reduceAdd, Nat.reduceLeDiff, Nat.reduceSub, Nat.reduceMul, ↓reduceIte, Int.reduceToNat, Int.reduceLE, beq_self_eq_true]
        refine st_rat rfl rfl rfl o5 o6 ?_
        simp only [XM, XA, XB, gateX, Nat.reduceAdd, Nat.reduceLeDiff, Nat.reduceSub, Nat.reduceMul, ↓reduceIte, Int.reduceToNat, Int.reduceLE, beq_self_eq_true]
        refine hK _ ?_
        first | refine Gx.a (by kernel_rfl) fun K hK => ?_ | refine Gx.b (by kernel_rfl) fun K hK => ?_ | refine Gx.c (by kernel_rfl) fun K hK => ?_
        simp only [XM, XA, XB, gateX, Nat.reduceAdd, Nat.reduceLeDiff, Nat.reduceSub, Nat.reduceMul, ↓reduceIte, Int.reduceToNat, Int.reduceLE, beq_self_eq_true, i64_succ k0 (by omega)]
        exact hK _ ⟨r3 - 1, by omega, k0 + 1, V9, x9, y9, StIs.of (by exact rfl), View.le_trans hV6 (View.le_trans hV7 (View.le_trans hV8 hV9)), by omega, h9, o5, o6, by rw [nnB, hnn, hng]; rfl⟩
      rintro s ⟨V6, x6, y6, hs, hV6, h6, o3, o4, hnn⟩
      obtain ⟨z, rfl⟩ := hs.out
      try dsimp only
      clear hs
      first | refine Gx.a (by kernel_rfl) fun K hK => ?_ | refine Gx.b (by kernel_rfl) fun K hK => ?_ | refine Gx.c (by kernel_rfl) fun K hK => ?_
      simp only [XM, XA, XB, gateX, Nat.reduceAdd, Nat.reduceLeDiff, Nat.reduceSub, Nat.reduceMul, ↓reduceIte, Int.reduceToNat, Int.reduceLE, beq_self_eq_true, i64_succ j (by omega)]
      refine hK _ ⟨r2 - 1, by omega, fun f => ⟨j + 1, V6, x6, y6, StIs.of (by exact rfl), View.le_trans hV5 hV6, by omega, h6, o3, o4, by rw [hOn hO]; exact hnn⟩⟩
    rintro s ⟨V5, H5, x, y, hs, hV5, h5, o3, o4, hO⟩
    obtain ⟨z, rfl⟩ := hs.out
    try dsimp only
    clear hs
    have hrw := rowB_two n m p q i hO
    have qX : QF (chX n m p q i 2) := by
      have := rS_QB hB (rS_QB hA (QB_zero 0) (i * n) n) (i * m) m
      exact this.qf (by omega)
    (first | refine XWP.drw [0, 1, 2, 3] (by kernel_rfl) (by kernel_rfl) (by kernel_rfl) fun K hK => ?_ | refine XWP.seq (XWP.drw [0, 1, 2, 3] (by kernel_rfl) (by kernel_rfl) (by kernel_rfl) fun K hK => ?_) | refine XWP.drw1 [0, 1, 2, 3] (by kernel_rfl) (by kernel_rfl) (by kernel_rfl) fun K hK => ?_) <;> dsimp only [pickOps, List.getElem?_cons_zero, List.getElem?_cons_succ]
    simp only [XM, XA, XB, gateX, Nat.reduceAdd, Nat.reduceLeDiff, Nat.reduceSub, Nat.reduceMul, ↓reduceIte, Int.reduceToNat, Int.reduceLE, beq_self_eq_true]
    refine call_go (by kernel_rfl) rfl (qone_c _) fun v6 V6 hV6 h6 => ?_
    simp only [XM, XA, XB, gateX, Nat.reduceAdd, Nat.reduceLeDiff, Nat.reduceSub, Nat.reduceMul, ↓reduceIte, Int.reduceToNat, Int.reduceLE, beq_self_eq_true]
    refine call_go (by kernel_rfl) rfl (qsame_c _ _ _ _ _ (h5.mono hV6) h6 qX QF_one) fun v7 V7 hV7 h7 => ?_
    subst h7
    cases hb : decide (chX n m p q i 2 = 1)
    · simp only [XM, XA, XB, gateX, Nat.reduceAdd, Nat.reduceLeDiff, Nat.reduceSub, Nat.reduceMul, ↓reduceIte, Int.reduceToNat, Int.reduceLE, beq_self_eq_true]
      refine hK _ ?_
      first | refine Gx.t rfl ?_ | refine XWP.seq (Gx.t rfl ?_)
      first | refine Gx.a (by kernel_rfl) fun K hK => ?_ | refine Gx.b (by kernel_rfl) fun K hK => ?_ | refine Gx.c (by kernel_rfl) fun K hK => ?_
      simp only [XM, XA, XB, gateX, Nat.reduceAdd, Nat.reduceLeDiff, Nat.reduceSub, Nat.reduceMul, ↓reduceIte, Int.reduceToNat, Int.reduceLE, beq_self_eq_true]
      refine hK _ (XWP.ret ?_)
      try simp only [thenX_ret, inBlockX_ret]
      refine ret_go _ rfl ?_
      rw [hb] at hrw
      rw [rowsB_bad hrw hi]; rfl
    · simp only [XM, XA, XB, gateX, Nat.reduceAdd, Nat.reduceLeDiff, Nat.reduceSub, Nat.reduceMul, ↓reduceIte, Int.reduceToNat, Int.reduceLE, beq_self_eq_true]
      refine hK _ ?_
      first | refine Gx.f rfl ?_ | refine XWP.seq (Gx.f rfl ?_)
      refine XWP.skip ?_
      first | refine Gx.a (by kernel_rfl) fun K hK => ?_ | refine Gx.b (by kernel_rfl) fun K hK => ?_ | refine Gx.c (by kernel_rfl) fun K hK => ?_
      simp only [XM, XA, XB, gateX, Nat.reduceAdd, Nat.reduceLeDiff, Nat.reduceSub, Nat.reduceMul, ↓reduceIte, Int.reduceToNat, Int.reduceLE, beq_self_eq_true, i64_succ i (by omega)]
      refine hK _ ⟨r - 1, by omega, fun f => ⟨i + 1, V7, _, StIs.of (by exact rfl), View.le_trans hV3 (View.le_trans hV4 (View.le_trans hV5 (View.le_trans hV6 hV7))), by omega, ?_⟩⟩
      rw [rowsB, hrow, hrw, hb]; rfl
  rintro s ⟨V3, H3, hs, hrow⟩
  obtain ⟨z, rfl⟩ := hs.out
  try dsimp only
  first | refine Gx.a (by kernel_rfl) fun K hK => ?_ | refine Gx.b (by kernel_rfl) fun K hK => ?_ | refine Gx.c (by kernel_rfl) fun K hK => ?_
  simp only [XM, XA, XB, gateX, Nat.reduceAdd, Nat.reduceLeDiff, Nat.reduceSub, Nat.reduceMul, ↓reduceIte, Int.reduceToNat, Int.reduceLE, beq_self_eq_true]
  refine hK _ (XWP.ret ?_)
  try simp only [thenX_ret, inBlockX_ret]
  refine ret_go _ rfl ?_
  rw [hrow]; rfl
end Go.Proofs.Ythoboehbadmlmaa
end
section
namespace Go.Proofs.Ythoboehbadmlmaa
open Go Go.RowKit
set_option linter.unusedSimpArgs false
set_option linter.unusedVariables false
attribute [local irreducible] XWP Spec SpecO XPub XCall seqX clX apX stX ldX iaX slX
theorem CB.fitR {A : Nat} {l : List Rat} (h : CB A l) (hA : A ≤ 17592186044416) : fitR (l.map toRaw) := fitR_toRaw (h.qf hA)
end Go.Proofs.Ythoboehbadmlmaa
end
section
namespace Go.Proofs.Ythoboehbadmlmaa
open Go Go.RowKit
set_option linter.unusedSimpArgs false
set_option linter.unusedVariables false
attribute [local irreducible] XWP Spec SpecO XPub XCall seqX clX apX stX ldX iaX slX
end Go.Proofs.Ythoboehbadmlmaa
end
section
namespace Go.Proofs.Ythoboehbadmlmaa
open Go Go.RowKit
set_option linter.unusedSimpArgs false
set_option linter.unusedVariables false
attribute [local irreducible] XWP Spec SpecO XPub XCall seqX clX apX stX ldX iaX slX
theorem rowQ_load {H : Heap} {V : View} {b e tot : Nat} {cells : List Value} {xs : List Rat} (hr : H b = some ⟨e, cells, tot⟩) (h : RowAt ratE V cells xs) (i : Nat) (hi : i < xs.length) : ∃ m n d, RatC V (.agg #[m, n, d]) (cf xs i) ∧ (isOne m = true ∧ isOne n = true ∧ isOne d = true) ∧ Loads Try.prog H V 34 b (i * 3) (.agg #[m, n, d]) := by
  obtain ⟨v, h1, ⟨m, n, d, rfl, o1⟩, h2⟩ := RowAt.load hr h i hi
  rw [cf_get hi] at h1
  exact ⟨m, n, d, h1, o1, h2⟩
theorem RowAt.drop {α : Type} {E : View → Value → α → Prop} {V : View} {cells : List Value} {xs : List α} (h : RowAt E V cells xs) (k : Nat) : RowAt E V (cells.drop (k * 3)) (xs.drop k) := by
  refine ⟨by rw [List.length_drop, List.length_drop, h.1]; omega, fun i x hi => ?_⟩
  rw [List.getElem?_drop] at hi
  obtain ⟨m, n, d, g1, g2, g3, r⟩ := h.2 (k + i) x hi
  refine ⟨m, n, d, ?_, ?_, ?_, r⟩
  · show (cells.drop (k * 3))[i * 3]? = _
    rw [List.getElem?_drop, show k * 3 + i * 3 = (k + i) * 3 by omega]; exact g1
  · show (cells.drop (k * 3))[i * 3 + 1]? = _
    rw [List.getElem?_drop, show k * 3 + (i * 3 + 1) = (k + i) * 3 + 1 by omega]; exact g2
  · show (cells.drop (k * 3))[i * 3 + 2]? = _
    rw [List.getElem?_drop, show k * 3 + (i * 3 + 2) = (k + i) * 3 + 2 by omega]; exact g3
end Go.Proofs.Ythoboehbadmlmaa
end
section
namespace Go.Proofs.Ythoboehbadmlmaa
open Go Go.RowKit
set_option linter.unusedSimpArgs false
set_option linter.unusedVariables false
attribute [local irreducible] XWP Spec SpecO XPub XCall seqX clX apX stX ldX iaX slX
end Go.Proofs.Ythoboehbadmlmaa
end
section
namespace Go.Proofs.Ythoboehbadmlmaa
open Go Go.RowKit
set_option linter.unusedSimpArgs false
set_option linter.unusedVariables false
attribute [local irreducible] XWP Spec SpecO XPub XCall seqX clX apX stX ldX iaX slX
end Go.Proofs.Ythoboehbadmlmaa
end
section
namespace Go.Proofs.Ythoboehbadmlmaa
open Go Go.RowKit
set_option linter.unusedSimpArgs false
set_option linter.unusedVariables false
attribute [local irreducible] XWP Spec SpecO XPub XCall seqX clX apX stX ldX iaX slX
theorem RowAt.append {α : Type} {E : View → Value → α → Prop} {V : View} {c1 c2 : List Value} {l1 l2 : List α} (h1 : RowAt E V c1 l1) (h2 : RowAt E V c2 l2) : RowAt E V (c1 ++ c2) (l1 ++ l2) := by
  have e1 := h1.1
  have e2 := h2.1
  refine ⟨by rw [List.length_append, List.length_append, e1, e2]; omega, fun i x hi => ?_⟩
  by_cases hlt : i < l1.length
  · rw [List.getElem?_append_left hlt] at hi
    obtain ⟨m, n, d, g1, g2, g3, r⟩ := h1.2 i x hi
    refine ⟨m, n, d, ?_, ?_, ?_, r⟩
    · show (c1 ++ c2)[i * 3]? = _
      rw [List.getElem?_append_left (by omega)]; exact g1
    · show (c1 ++ c2)[i * 3 + 1]? = _
      rw [List.getElem?_append_left (by omega)]; exact g2
    · show (c1 ++ c2)[i * 3 + 2]? = _
      rw [List.getElem?_append_left (by omega)]; exact g3
  · rw [List.getElem?_append_right (by omega)] at hi
    obtain ⟨m, n, d, g1, g2, g3, r⟩ := h2.2 (i - l1.length) x hi
    refine ⟨m, n, d, ?_, ?_, ?_, r⟩
    · show (c1 ++ c2)[i * 3]? = _
      rw [List.getElem?_append_right (by omega), show i * 3 - c1.length = (i - l1.length) * 3 by omega]; exact g1
    · show (c1 ++ c2)[i * 3 + 1]? = _
      rw [List.getElem?_append_right (by omega), show i * 3 + 1 - c1.length = (i - l1.length) * 3 + 1 by omega]; exact g2
    · show (c1 ++ c2)[i * 3 + 2]? = _
      rw [List.getElem?_append_right (by omega), show i * 3 + 2 - c1.length = (i - l1.length) * 3 + 2 by omega]; exact g3
end Go.Proofs.Ythoboehbadmlmaa
end
section
namespace Go.Proofs.Ythoboehbadmlmaa
set_option linter.unusedVariables false
abbrev Grid := Nat → Nat → Rat
def SolG (G : Grid) (R n : Nat) (x : Nat → Rat) : Prop := ∀ i, i < R → Sm (fun j => G i j * x j) n = G i n
def wset (wh : Nat → Int) (k : Nat) (x : Int) : Nat → Int := fun c => if c = k then x else wh c
/-- the numbers that are read off -/
def gx (G : Grid) (wh : Nat → Int) (n c : Nat) : Rat := if 0 ≤ wh c then G (wh c).toNat n else 0
end Go.Proofs.Ythoboehbadmlmaa
end
section
namespace Go.Proofs.Ythoboehbadmlmaa
open Go Go.RowKit
set_option linter.unusedSimpArgs false
set_option linter.unusedVariables false
attribute [local irreducible] XWP Spec SpecO XPub XCall seqX clX apX stX ldX iaX slX
theorem upd_off {H : Heap} {b k : Nat} {r : Option Row} (h : k ≠ b) : upd H b r k = H k := by unfold upd; rw [if_neg h]
def GRow (H : Heap) (V : View) (m : Nat) (f : Nat → Rat) (av : List Nat) (v : Value) : Prop :=
  ∃ b c cs, v = .slice (some ⟨b, 0, none⟩) m c ∧ H b = some ⟨34, cs, c * 3⟩ ∧ RowAt ratE V cs (mk m f) ∧ m ≤ c ∧ c ≤ maxLen ∧ b ∉ av
structure GCells (H : Heap) (V : View) (R m : Nat) (G : Grid) (av : List Nat) (cells : List Value) : Prop where
  len : cells.length = R
  row : ∀ (i : Nat) (v : Value), cells[i]? = some v → GRow H V m (G i) av v
  inj : ∀ (i j b c c' : Nat), cells[i]? = some (Value.slice (some ⟨b, 0, none⟩) m c) → cells[j]? = some (Value.slice (some ⟨b, 0, none⟩) m c') → i = j
def GridAt (H : Heap) (V : View) (v : Value) (R m : Nat) (G : Grid) (av : List Nat) : Prop :=
  ∃ cells, Own H 22 1 v R cells ∧ GCells H V R m G av cells
theorem mk_congr {m : Nat} {f g : Nat → Rat} (h : ∀ j, j < m → f j = g j) : mk m f = mk m g := by
  unfold mk
  exact List.map_congr_left fun j hj => h j (List.mem_range.1 hj)
theorem GRow.congr {H : Heap} {V : View} {m : Nat} {f g : Nat → Rat} {av : List Nat} {v : Value} (h : GRow H V m f av v) (e : ∀ j, j < m → f j = g j) : GRow H V m g av v := by
  obtain ⟨b, c, cs, h1, h2, h3, h4⟩ := h
  rw [mk_congr e] at h3
  exact ⟨b, c, cs, h1, h2, h3, h4⟩
theorem GRow.mono {H : Heap} {V V' : View} {m : Nat} {f : Nat → Rat} {av : List Nat} {v : Value} (h : GRow H V m f av v) (hV : V.le V') : GRow H V' m f av v := by
  obtain ⟨b, c, cs, h1, h2, h3, h4⟩ := h
  exact ⟨b, c, cs, h1, h2, h3.mono ratE_ok hV, h4⟩
theorem GridAt.nil (H : Heap) (V : View) (m : Nat) (G : Grid) (av : List Nat) : GridAt H V (.slice none 0 0) 0 m G av :=
  ⟨[], own_nil, ⟨rfl, fun i v h => by simp at h, fun i j b c c' h => by simp at h⟩⟩
theorem GridAt.mono {H : Heap} {V V' : View} {v : Value} {R m : Nat} {G : Grid} {av : List Nat} (h : GridAt H V v R m G av) (hV : V.le V') : GridAt H V' v R m G av := by
  obtain ⟨cells, h1, h2⟩ := h
  exact ⟨cells, h1, h2.len, fun i v hv => (h2.row i v hv).mono hV, h2.inj⟩
theorem GridAt.congr {H : Heap} {V : View} {v : Value} {R m : Nat} {G G' : Grid} {av : List Nat} (h : GridAt H V v R m G av) (e : ∀ i j, i < R → j < m → G i j = G' i j) : GridAt H V v R m G' av := by
  obtain ⟨cells, h1, h2⟩ := h
  refine ⟨cells, h1, h2.len, fun i v hv => (h2.row i v hv).congr fun j hj => e i j ?_ hj, h2.inj⟩
  rw [← h2.len]
  exact (List.getElem?_eq_some_iff.1 hv).1
/-- what else is written, leaves it -/
theorem GridAt.frame {H H' : Heap} {V : View} {v : Value} {R m : Nat} {G : Grid} {av av' : List Nat} (h : GridAt H V v R m G av)
    (h1 : ∀ k cs tot, H k = some ⟨22, cs, tot⟩ → H' k = H k) (h2 : ∀ k cs tot, k ∉ av → H k = some ⟨34, cs, tot⟩ → H' k = H k ∧ k ∉ av') : GridAt H' V v R m G av' := by
  obtain ⟨cells, ho, hc⟩ := h
  refine ⟨cells, ⟨ho.1, ?_⟩, hc.len, fun i v hv => ?_, hc.inj⟩
  · rcases ho.2 with h | ⟨b, cap, e, hb, h3⟩
    · exact .inl h
    · exact .inr ⟨b, cap, e, by rw [h1 b _ _ hb]; exact hb, h3⟩
  · obtain ⟨b, c, cs, e, hb, h3, h4, h5, h6⟩ := hc.row i v hv
    obtain ⟨a1, a2⟩ := h2 b _ _ h6 hb
    exact ⟨b, c, cs, e, by rw [a1]; exact hb, h3, h4, h5, a2⟩
/-- one row: how to read it, how to write it -/
theorem GridAt.at {H : Heap} {V : View} {v : Value} {R m : Nat} {G : Grid} {av : List Nat} (h : GridAt H V v R m G av) {i : Nat} (hi : i < R) :
    ∃ g cap b c cs, v = .slice (some ⟨g, 0, none⟩) R cap ∧ Loads Try.prog H V 22 g i (.slice (some ⟨b, 0, none⟩) m c) ∧ H b = some ⟨34, cs, c * 3⟩ ∧ RowAt ratE V cs (mk m (G i)) ∧ m ≤ c ∧ c ≤ maxLen ∧ b ∉ av ∧
      ∀ V' cs' f, V.le V' → RowAt ratE V' cs' (mk m f) → GridAt (upd H b (some ⟨34, cs', c * 3⟩)) V' v R m (fun i' => if i' = i then f else G i') av := by
  obtain ⟨cells, ho, hc⟩ := h
  rcases own_parts ho with ⟨_, h0, _⟩ | ⟨g, cap, rfl, hg, hle, hcap, hcl⟩
  · omega
  have hlt : i < cells.length := by rw [hc.len]; exact hi
  obtain ⟨b, c, cs, e, hb, h3, h4, h5, h6⟩ := hc.row i cells[i] (List.getElem?_eq_getElem hlt)
  refine ⟨g, cap, b, c, cs, rfl, ⟨false, 1, shapeT_22, .inr ⟨rfl, .inl ⟨_, hg, by rw [List.getElem?_eq_getElem hlt, e]⟩⟩⟩, hb, h3, h4, h5, h6, fun V' cs' f hV hrow => ?_⟩
  have hgb : g ≠ b := fun e => by subst e; rw [hg] at hb; cases hb
  refine ⟨cells, ⟨ho.1, .inr ⟨g, cap, rfl, by unfold upd; rw [if_neg hgb]; exact hg, hle, hcap⟩⟩, hc.len, fun j w hw => ?_, hc.inj⟩
  by_cases hji : j = i
  · subst hji
    rw [List.getElem?_eq_getElem hlt, e] at hw
    cases hw
    exact ⟨b, c, cs', rfl, upd_at _ _ _, by rw [if_pos rfl]; exact hrow, h4, h5, h6⟩
  · obtain ⟨b', c', cs2, e', hb', g3, g4⟩ := hc.row j w hw
    subst e'
    have hne : b' ≠ b := fun hbb => hji (hc.inj j i b' c' c hw (by rw [List.getElem?_eq_getElem hlt, e, hbb]))
    refine ⟨b', c', cs2, rfl, by unfold upd; rw [if_neg hne]; exact hb', ?_, g4⟩
    try dsimp only
    rw [if_neg hji]; exact g3.mono ratE_ok hV
/-- a new row at the end -/
theorem GridAt.snoc {H H' : Heap} {V : View} {v v' w : Value} {R m : Nat} {G : Grid} {xs cells : List Value} {f : Nat → Rat} (ho : Own H 22 1 v R cells) (hc' : GCells H V R m G w.ownBlock.toList cells) (hm : 0 < m) (hown : Own H 34 3 w m xs) (hrow : RowAt ratE V xs (mk m f))
    (hres : AppRes H V 22 1 v (R + 1) (cells ++ [w]) v' H') : GridAt H' V v' (R + 1) m (fun i => if i = R then f else G i) [] := by
  obtain ⟨ho', hk, hg⟩ := hres
  rcases own_parts hown with ⟨_, h0, _⟩ | ⟨bw, cw, rfl, hbw, hcw, hcw2, _⟩
  · omega
  have hsame : ∀ k cs tot, H k = some ⟨34, cs, tot⟩ → H' k = H k := fun k cs tot hr => by
    refine hk k fun e => ?_
    rcases hg k e with h1 | ⟨h1, _⟩
    · rcases own_parts ho with ⟨rfl, _, _⟩ | ⟨b, cap, rfl, hb, _⟩
      · cases h1
      · have : b = k := by simpa [Value.ownBlock] using h1
        subst this
        rw [hb] at hr; cases hr
    · rw [hr] at h1; cases h1
  have hlast : ∀ i w, (cells ++ [Value.slice (some ⟨bw, 0, none⟩) m cw])[i]? = some w → (i < R ∧ cells[i]? = some w) ∨ (i = R ∧ w = .slice (some ⟨bw, 0, none⟩) m cw) := fun i w hw => by
    by_cases hi : i < cells.length
    · rw [List.getElem?_append_left hi] at hw; exact .inl ⟨by rw [← hc'.len]; exact hi, hw⟩
    · rw [List.getElem?_append_right (by omega)] at hw
      have h2 : i - cells.length < 1 := by
        rcases Nat.lt_or_ge (i - cells.length) 1 with h | h
        · exact h
        · rw [List.getElem?_eq_none (by simpa using h)] at hw; cases hw
      have e0 : i - cells.length = 0 := by omega
      rw [e0] at hw
      have := hc'.len
      exact .inr ⟨by omega, by simpa using hw.symm⟩
  have hav : ∀ i b c, cells[i]? = some (Value.slice (some ⟨b, 0, none⟩) m c) → b ≠ bw := fun i b c hi e => by
    obtain ⟨b', c', cs, e', _, _, _, _, h6⟩ := hc'.row i _ hi
    cases e'
    exact h6 (by rw [e]; simp [Value.ownBlock])
  refine ⟨cells ++ [_], ho', by rw [List.length_append, hc'.len]; rfl, fun i w hw => ?_, fun i j b c c' h1 h2 => ?_⟩
  · rcases hlast i w hw with ⟨hi, h⟩ | ⟨hi, h⟩
    · obtain ⟨b, c, cs, e, hb, h3, h4, h5, h6⟩ := hc'.row i w h
      refine ⟨b, c, cs, e, by rw [hsame b _ _ hb]; exact hb, ?_, h4, h5, by simp⟩
      rw [if_neg (by omega)]; exact h3
    · subst h
      refine ⟨bw, cw, xs, rfl, by rw [hsame bw _ _ hbw]; exact hbw, ?_, hcw, hcw2, by simp⟩
      rw [if_pos hi]; exact hrow
  · rcases hlast i _ h1 with ⟨hi, h⟩ | ⟨hi, h⟩ <;> rcases hlast j _ h2 with ⟨hj, h'⟩ | ⟨hj, h'⟩
    · exact hc'.inj i j b c c' h h'
    · cases h'; exact absurd rfl (hav i _ c h)
    · cases h; exact absurd rfl (hav j _ c' h')
    · omega
theorem GridAt.alloc {H : Heap} {V : View} {v : Value} {R m b : Nat} {r : Option Row} {G : Grid} {av : List Nat} (h : GridAt H V v R m G av) (hb : H b = none) : GridAt (upd H b r) V v R m G av := by
  have key : ∀ k q, H k = some q → upd H b r k = H k := fun k q hk => by
    unfold upd
    split
    · rename_i e; rw [e, hb] at hk; cases hk
    · rfl
  exact h.frame (fun k cs tot hk => key k _ hk) fun k cs tot ha hk => ⟨key k _ hk, ha⟩
theorem GridAt.form {H : Heap} {V : View} {v : Value} {R m : Nat} {G : Grid} {av : List Nat} (h : GridAt H V v R m G av) : ∃ A c, v = .slice A R c := by
  obtain ⟨cells, ho, _⟩ := h
  rcases own_parts ho with ⟨rfl, h0, _⟩ | ⟨b, cap, rfl, _⟩
  · exact ⟨none, 0, by rw [h0]⟩
  · exact ⟨_, _, rfl⟩
theorem mk_set1 {m j : Nat} {f : Nat → Rat} {x : Rat} (hj : j < m) : (mk m f).set j x = mk m (fun c => if c = j then x else f c) := by
  apply List.ext_getElem?
  intro i
  by_cases hi : i < m
  · by_cases e : j = i
    · subst e; rw [List.getElem?_set_self (by rw [mk_len]; exact hj)]; simp [mk, hj]
    · rw [List.getElem?_set_ne e]
      have e' : ¬ i = j := fun h => e h.symm
      simp [mk, hi, e']
  · rw [List.getElem?_eq_none (by rw [List.length_set, mk_len]; omega), List.getElem?_eq_none (by rw [mk_len]; omega)]
/-- the memory of an elimination under way -/
structure KMem (H : Heap) (V : View) (w : Value) (R n go gw : Nat) (G : Grid) (wh : Nat → Int) (k : Nat) : Prop where
  grid : GridAt H V w R (n + 1) G [go]
  wr : ∃ cw tot, H gw = some ⟨3, cw, tot⟩ ∧ cw.length = n ∧ ∀ c, c < k → cw[c]? = some (.int .i64 (wh c))
  out : ∃ co tot, H go = some ⟨34, co, tot⟩ ∧ RowAt (optE ratE) V co (List.replicate n none)
theorem KMem.mono {H : Heap} {V V' : View} {w : Value} {R n go gw : Nat} {G : Grid} {wh : Nat → Int} {k : Nat} (h : KMem H V w R n go gw G wh k) (hV : V.le V') : KMem H V' w R n go gw G wh k := by
  obtain ⟨co, tot, h1, h2⟩ := h.out
  exact ⟨h.grid.mono hV, h.wr, co, tot, h1, h2.mono (optE_ok ratE_ok) hV⟩
theorem KMem.congr {H : Heap} {V : View} {w : Value} {R n go gw : Nat} {G G' : Grid} {wh : Nat → Int} {k : Nat} (h : KMem H V w R n go gw G wh k) (e : ∀ i j, i < R → j < n + 1 → G i j = G' i j) : KMem H V w R n go gw G' wh k := ⟨h.grid.congr e, h.wr, h.out⟩
/-- one place of the grid: how to read it, how to write it -/
theorem KMem.at {H : Heap} {V : View} {w : Value} {R n go gw : Nat} {G : Grid} {wh : Nat → Int} {k : Nat} (h : KMem H V w R n go gw G wh k) {i : Nat} (hi : i < R) :
    ∃ g cap b c cs, w = .slice (some ⟨g, 0, none⟩) R cap ∧ Loads Try.prog H V 22 g i (.slice (some ⟨b, 0, none⟩) (n + 1) c) ∧ H b = some ⟨34, cs, c * 3⟩ ∧ cs.length = (n + 1) * 3 ∧ n + 1 ≤ c ∧
      (∀ j, j < n + 1 → ∃ x y z, RatC V (.agg #[x, y, z]) (G i j) ∧ (isOne x = true ∧ isOne y = true ∧ isOne z = true) ∧ Loads Try.prog H V 34 b (j * 3) (.agg #[x, y, z])) ∧
      ∀ V' j q x y z, j < n + 1 → V.le V' → RatC V' (.agg #[x, y, z]) q → isOne x = true → isOne y = true → isOne z = true → KMem (upd H b (some ⟨34, splice cs (j * 3) [x, y, z], c * 3⟩)) V' w R n go gw (fun i' j' => if i' = i ∧ j' = j then q else G i' j') wh k := by
  obtain ⟨g, cap, b, c, cs, e, h1, h2, h3, h4, h5, h6, h7⟩ := h.grid.at hi
  refine ⟨g, cap, b, c, cs, e, h1, h2, by rw [h3.1, mk_len], h4, fun j hj => ?_, fun V' j q x y z hj hV hx o1 o2 o3 => ?_⟩
  · obtain ⟨x, y, z, a1, a2, a3⟩ := rowQ_load h2 h3 j (by rw [mk_len]; exact hj)
    rw [cf_mk, if_pos hj] at a1
    exact ⟨x, y, z, a1, a2, a3⟩
  · have hr := (h3.mono ratE_ok hV).set j (by rw [mk_len]; exact hj) o1 o2 o3 hx
    rw [mk_set1 hj] at hr
    obtain ⟨cw, tot, w1, w2⟩ := h.wr
    obtain ⟨co, tot', u1, u2⟩ := h.out
    have hgb : gw ≠ b := fun e => by subst e; rw [h2] at w1; cases w1
    have hob : go ≠ b := fun e => h6 (by rw [e]; simp)
    refine ⟨(h7 V' _ _ hV hr).congr fun i' j' _ _ => ?_, ⟨cw, tot, by unfold upd; rw [if_neg hgb]; exact w1, w2⟩, ⟨co, tot', by unfold upd; rw [if_neg hob]; exact u1, u2.mono (optE_ok ratE_ok) hV⟩⟩
    by_cases e1 : i' = i
    · by_cases e2 : j' = j
      · simp [e1, e2]
      · simp [e1, e2]
    · simp [e1]
theorem KMem.where {H : Heap} {V : View} {w : Value} {R n go gw : Nat} {G : Grid} {wh : Nat → Int} {k : Nat} (h : KMem H V w R n go gw G wh k) (hk : k < n) (x : Int) :
    ∃ cw tot, H gw = some ⟨3, cw, tot⟩ ∧ k < cw.length ∧ KMem (upd H gw (some ⟨3, cw.set k (.int .i64 x), tot⟩)) V w R n go gw G (wset wh k x) (k + 1) := by
  obtain ⟨cw, tot, w1, w2, w3⟩ := h.wr
  obtain ⟨co, tot', u1, u2⟩ := h.out
  have hne : ∀ b cs t, H b = some ⟨34, cs, t⟩ → upd H gw (some ⟨3, cw.set k (.int .i64 x), tot⟩) b = H b := fun b cs t hb => by
    unfold upd; split
    · rename_i e; subst e; rw [w1] at hb; cases hb
    · rfl
  have hne2 : ∀ b cs t, H b = some ⟨22, cs, t⟩ → upd H gw (some ⟨3, cw.set k (.int .i64 x), tot⟩) b = H b := fun b cs t hb => by
    unfold upd; split
    · rename_i e; subst e; rw [w1] at hb; cases hb
    · rfl
  refine ⟨cw, tot, w1, by omega, h.grid.frame hne2 fun b cs t ha hb => ⟨hne b cs t hb, ha⟩, ⟨_, tot, upd_at _ _ _, by rw [List.length_set]; exact w2, fun c hc => ?_⟩, ⟨co, tot', by rw [hne _ _ _ u1]; exact u1, u2⟩⟩
  unfold wset
  by_cases e : k = c
  · subst e; rw [List.getElem?_set_self (by omega), if_pos rfl]
  · rw [List.getElem?_set_ne e, if_neg (Ne.symm e)]; exact w3 c (by omega)
theorem KMem.again {H : Heap} {V : View} {w : Value} {R n go gw : Nat} {G : Grid} {wh : Nat → Int} {k : Nat} {y : Int} (h : KMem H V w R n go gw G (wset wh k y) (k + 1)) (hk : k < n) (x : Int) :
    ∃ cw tot, H gw = some ⟨3, cw, tot⟩ ∧ k < cw.length ∧ KMem (upd H gw (some ⟨3, cw.set k (.int .i64 x), tot⟩)) V w R n go gw G (wset wh k x) (k + 1) := by
  obtain ⟨cw, tot, w1, w2, w3⟩ := h.wr
  have h0 : KMem H V w R n go gw G wh k := ⟨h.grid, ⟨cw, tot, w1, w2, fun c hc => by
    have := w3 c (by omega)
    unfold wset at this
    rw [if_neg (by omega)] at this; exact this⟩, h.out⟩
  exact h0.where hk x
theorem SolG.congr {G : Grid} {R n : Nat} {x y : Nat → Rat} (h : SolG G R n x) (e : ∀ j, j < n → x j = y j) : SolG G R n y := fun i hi => by
  rw [← h i hi]
  exact Sm_congr _ fun j hj => by rw [e j hj]
end Go.Proofs.Ythoboehbadmlmaa
end
