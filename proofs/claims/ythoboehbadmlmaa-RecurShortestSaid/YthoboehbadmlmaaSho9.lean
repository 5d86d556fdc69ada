/- The law RecurShortest answers true at every input (part 9 of 9) -/
import Derived.OrdersHeld
import Derived.Below
import Derived.Tactics
import Derived.KernelRfl
import Derived.Laws.AppendOwn
import Derived.Laws.MakeOwn
import Derived.Laws.CopyRow
import Derived.Laws.Cells
import Derived.Laws.World
import Derived.Laws.Alloc2
import Derived.Laws.NewBlocks
import Derived.Maps.AppendAt
import Derived.Test.YthoboehbadmlmaaProg
import Init.Data.List.Lemmas
import Init.Omega
import Derived.WalkKit
import Derived.ProofKit
import Derived.OpenShut
import Derived.ChangeOld
import Derived.SizedLaws
import Derived.ChangeSlices
import Derived.ChangeArms
import Derived.Deep.Slices
import Derived.Test.YthoboehbadmlmaaRows
import Derived.ShutString
import Derived.Test.YthoboehbadmlmaaSho8
section
namespace Go.Proofs.Ythoboehbadmlmaa
set_option linter.unusedVariables false
theorem cf_one (i : Nat) : cf [1] i = if i = 0 then 1 else 0 := by
  cases i with
  | zero => rfl
  | succ i => rw [cf_none (by simp)]; rfl
/-! the product -/
/-- the sum of the products that meet at a place -/
def meet (p q : List Rat) (i : Nat) : Nat → Rat
  | 0 => 0
  | k + 1 => meet p q i k + if k ≤ i then cf p k * cf q (i - k) else 0
theorem off_meet (p q : List Rat) (i k : Nat) (hk : k ≤ i + 1) : offS q p i k = meet p q i k := by
  induction k with
  | zero => rfl
  | succ k ih => rw [offS, meet, ih (by omega), if_pos (by omega)]
theorem meet_more (p q : List Rat) (i : Nat) {k m : Nat} (hk : k ≤ m) (h : ∀ j, k ≤ j → j < m → i < j ∨ p.length ≤ j) : meet p q i m = meet p q i k := by
  induction m with
  | zero => have : k = 0 := by omega
            rw [this]
  | succ m ih =>
    rcases Nat.eq_or_lt_of_le hk with e | e
    · rw [e]
    · rw [meet, ih (by omega) fun j h1 h2 => h j h1 (by omega)]
      have : (if m ≤ i then cf p m * cf q (i - m) else 0) = 0 := by
        split
        · rcases h m (by omega) (by omega) with h1 | h1
          · omega
          · rw [cf_none h1, Rat.zero_mul]
        · rfl
      rw [this, Rat.add_zero]
end Go.Proofs.Ythoboehbadmlmaa
end
section
namespace Go.Proofs.Ythoboehbadmlmaa
open Go Go.RowKit
set_option linter.unusedSimpArgs false
set_option linter.unusedVariables false
attribute [local irreducible] XWP Spec SpecO XPub XCall seqX clX apX stX ldX iaX slX
theorem bs_rat2 {t : Nat} {a b c a' b' c' : Value} (he : elemT Try.prog t = some 34) : BuildsSlice Try.prog t 2 #[(0, .agg #[a, b, c]), (1, .agg #[a', b', c'])] 34 [a, b, c, a', b', c'] := by
  obtain ⟨i, zv, hi, hzv, h1, h2, _⟩ := zero_parts zeroT_34
  have hc : zv.cells = #[.bool false, .slice none 0 0, .slice none 0 0] := Array.toList_inj.1 h1
  refine bs_run (cells := #[a, b, c, a', b', c']) he hi hzv (by omega) (by omega) ?_
  rw [h2, hc]
  have : madeCells #[.bool false, .slice none 0 0, .slice none 0 0] (2 * 3) = #[.bool false, .slice none 0 0, .slice none 0 0, .bool false, .slice none 0 0, .slice none 0 0] := Array.toList_inj.1 (by rw [made_flat _ 3 rfl (by omega)]; rfl)
  rw [this, fill_three (off := 0) rfl (by simp), fill_three (off := 3) rfl (by simp)]; rfl
theorem bs_rat4 {t : Nat} {a b c a' b' c' d e f d' e' f' : Value} (he : elemT Try.prog t = some 34) : BuildsSlice Try.prog t 4 #[(0, .agg #[a, b, c]), (1, .agg #[a', b', c']), (2, .agg #[d, e, f]), (3, .agg #[d', e', f'])] 34 [a, b, c, a', b', c', d, e, f, d', e', f'] := by
  obtain ⟨i, zv, hi, hzv, h1, h2, _⟩ := zero_parts zeroT_34
  have hc : zv.cells = #[.bool false, .slice none 0 0, .slice none 0 0] := Array.toList_inj.1 h1
  refine bs_run (cells := #[a, b, c, a', b', c', d, e, f, d', e', f']) he hi hzv (by omega) (by omega) ?_
  rw [h2, hc]
  have : madeCells #[.bool false, .slice none 0 0, .slice none 0 0] (4 * 3) = #[.bool false, .slice none 0 0, .slice none 0 0, .bool false, .slice none 0 0, .slice none 0 0, .bool false, .slice none 0 0, .slice none 0 0, .bool false, .slice none 0 0, .slice none 0 0] := Array.toList_inj.1 (by rw [made_flat _ 3 rfl (by omega)]; rfl)
  rw [this, fill_three (off := 0) rfl (by simp), fill_three (off := 3) rfl (by simp), fill_three (off := 6) rfl (by simp), fill_three (off := 9) rfl (by simp)]
  simp [Instr.fill]
def fib : List Rat := [1, 1, 1 + 1, 1 + (1 + 1)]
theorem fib_bm : bmOut (bmI fib 4) = [1, 1] ∧ (bmI fib 4).size = 2 := by
  have s1 : bmI fib 1 = ⟨[1, -1], [1], 1, 1, 1⟩ := by
    show bmStep fib ⟨[1], [1], 0, 1, 1⟩ 0 = _
    decide +kernel
  have s2 : bmI fib 2 = ⟨[1, -1], [1], 1, 2, 1⟩ := by rw [bmI, s1]; decide +kernel
  have s3 : bmI fib 3 = ⟨[1, -1, -1], [1, -1], 2, 1, 1⟩ := by rw [bmI, s2]; decide +kernel
  have s4 : bmI fib 4 = ⟨[1, -1, -1], [1, -1], 2, 2, 1⟩ := by rw [bmI, s3]; decide +kernel
  rw [s4]
  decide +kernel
theorem fib_QB : ∀ x ∈ fib, QB 2 x := by
  intro x hx
  have h2 : QB 1 ((1 : Rat) + 1) := (QB_one 0).add (QB_one 0)
  simp only [fib, List.mem_cons, List.not_mem_nil, or_false] at hx
  rcases hx with rfl | rfl | rfl | rfl
  · exact QB_one 2
  · exact QB_one 2
  · exact h2.mono (by omega)
  · exact (QB_one 0).add h2
theorem fib_CB : CB 8 fib := CB_of fib fib_QB
theorem fib_fit (i : Nat) (hi : i < 4) : BMFit fib (bmI fib i) i := bm_fit (e := 2) fib_CB (by simp [fib]) (by simp [bb, fib]) i (by simpa [fib] using hi)
theorem fib_q (i : Nat) : QF (cf (bmI fib 4).q i) := by
  obtain ⟨h1, _, _⟩ := bm_CB (e := 2) fib_CB 4 (by omega) 4 (by omega)
  exact QF.of (h1.at i) (by simp [bb])
theorem fib_len : fib.length = 4 := rfl
theorem fib_eq : [] ++ [1] ++ [1] ++ [1 + 1] ++ [1 + (1 + 1)] = fib := rfl
theorem fib_rec (V : View) (v : Value) (hl : Rats V v fib) : Spec Try.prog 13 [v] V fun v' V' => ∃ w, v' = .tuple #[w, .int .i64 0] ∧ Rats V' w [1, 1] := by
  have eq : qs (fib.map toRaw) = fib := qs_toRaw fib
  have el : (fib.map toRaw).length = 4 := by rw [List.length_map]; exact fib_len
  refine (crec_c V v (fib.map toRaw) (Rats.raws hl) (fitR_toRaw (fun x hx => QF.of (fib_QB x hx) (by omega))) (by omega) (fun _ i hi => ?_) (fun _ x hx => ?_) (fun _ i => ?_)).mono fun v' V' hV h => ?_
  · rw [eq]; exact fib_fit i (by omega)
  · rw [eq] at hx; exact QF.of (fib_QB x hx) (by omega)
  · rw [eq, el]; exact fib_q i
  · have h5 := h.2.2 (okR_toRaw _)
    rw [eq, el, fib_bm.1, fib_bm.2] at h5
    exact h5 (by omega)
attribute [local irreducible] fib
theorem alive_c (V : View) : Spec Try.prog 18 [] V fun v' V' => v' = .bool true := by
  refine (Spec.enter Try.func18 rfl fun Γ => ?_)
  simp only [Try.ntmps18, List.map_cons, List.map_nil, List.length_cons, List.length_nil, Nat.reduceAdd, Nat.reduceSub, List.replicate_succ, List.replicate_zero, List.cons_append, List.nil_append]
  first | refine XWP.reg (by kernel_rfl) fun K hK => ?_ | refine XWP.seq (XWP.reg (by kernel_rfl) fun K hK => ?_) | refine XWP.reg1 (by kernel_rfl) fun K hK => ?_
  simp only [XA, XB, gateX, Nat.reduceAdd, Nat.reduceLeDiff, Nat.reduceSub, Nat.reduceMul, ↓reduceIte, Int.reduceToNat, Int.reduceLE, beq_self_eq_true]
  refine hK _ ?_
  first | refine XWP.reg (by kernel_rfl) fun K hK => ?_ | refine XWP.seq (XWP.reg (by kernel_rfl) fun K hK => ?_) | refine XWP.reg1 (by kernel_rfl) fun K hK => ?_
  simp only [XA, XB, gateX, Nat.reduceAdd, Nat.reduceLeDiff, Nat.reduceSub, Nat.reduceMul, ↓reduceIte, Int.reduceToNat, Int.reduceLE, beq_self_eq_true]
  refine call_go (by kernel_rfl) rfl (pone_c _) fun v1 V1 hV1 h1 => ?_
  obtain ⟨x1, y1, rfl, o1, o2⟩ := h1.form
  simp only [XA, XB, gateX, Nat.reduceAdd, Nat.reduceLeDiff, Nat.reduceSub, Nat.reduceMul, ↓reduceIte, Int.reduceToNat, Int.reduceLE, beq_self_eq_true]
  refine st_rat rfl rfl rfl o1 o2 ?_
  simp only [XA, XB, gateX, Nat.reduceAdd, Nat.reduceLeDiff, Nat.reduceSub, Nat.reduceMul, ↓reduceIte, Int.reduceToNat, Int.reduceLE, beq_self_eq_true]
  refine hK _ ?_
  (first | refine XWP.drw [0, 1, 2, 3, 5, 6, 7, 4, 8, 9, 10, 11, 12, 13, 14, 15, 16] (by kernel_rfl) (by kernel_rfl) (by kernel_rfl) fun K hK => ?_ | refine XWP.seq (XWP.drw [0, 1, 2, 3, 5, 6, 7, 4, 8, 9, 10, 11, 12, 13, 14, 15, 16] (by kernel_rfl) (by kernel_rfl) (by kernel_rfl) fun K hK => ?_) | refine XWP.drw1 [0, 1, 2, 3, 5, 6, 7, 4, 8, 9, 10, 11, 12, 13, 14, 15, 16] (by kernel_rfl) (by kernel_rfl) (by kernel_rfl) fun K hK => ?_) <;> dsimp only [pickOps, List.getElem?_cons_zero, List.getElem?_cons_succ]
  simp only [XA, XB, gateX, Nat.reduceAdd, Nat.reduceLeDiff, Nat.reduceSub, Nat.reduceMul, ↓reduceIte, Int.reduceToNat, Int.reduceLE, beq_self_eq_true]
  refine call_go (by kernel_rfl) rfl (padd_c _ _ _ _ _ (h1.toV QF_one) (h1.toV QF_one) QF_one QF_one) fun v2 V2 hV2 h2 => ?_
  have h1 := h1.mono hV2
  simp only [XA, XB, gateX, Nat.reduceAdd, Nat.reduceLeDiff, Nat.reduceSub, Nat.reduceMul, ↓reduceIte, Int.reduceToNat, Int.reduceLE, beq_self_eq_true]
  refine call_go (by kernel_rfl) rfl (padd_c _ _ _ _ _ (h1.toV QF_one) (h1.toV QF_one) QF_one QF_one) fun v3 V3 hV3 h3 => ?_
  have h1 := h1.mono hV3
  have h2 := h2.mono hV3
  have f2 : QF ((1 : Rat) + 1) := QF.of ((QB_one 0).add (QB_one 0)) (by omega)
  simp only [XA, XB, gateX, Nat.reduceAdd, Nat.reduceLeDiff, Nat.reduceSub, Nat.reduceMul, ↓reduceIte, Int.reduceToNat, Int.reduceLE, beq_self_eq_true]
  refine call_go (by kernel_rfl) rfl (padd_c _ _ _ _ _ (h1.toV QF_one) (h3.toV f2) QF_one f2) fun v4 V4 hV4 h4 => ?_
  have h1 := h1.mono hV4
  have h2 := h2.mono hV4
  obtain ⟨x2, y2, rfl, o3, o4⟩ := h2.form
  obtain ⟨x4, y4, rfl, o5, o6⟩ := h4.form
  simp only [XA, XB, gateX, Nat.reduceAdd, Nat.reduceLeDiff, Nat.reduceSub, Nat.reduceMul, ↓reduceIte, Int.reduceToNat, Int.reduceLE, beq_self_eq_true]
  refine bs_go (by kernel_rfl) #[(0, .agg #[.bool (ng 1), x1, y1]), (1, .agg #[.bool (ng 1), x1, y1]), (2, .agg #[.bool (ng (1 + 1)), x2, y2]), (3, .agg #[.bool (ng (1 + (1 + 1))), x4, y4])] (by simp [ev_tmp, SV.val]) (bs_rat4 elemT_22) fun b hb1 hb2 => ?_
  simp only [XA, XB, gateX, Nat.reduceAdd, Nat.reduceLeDiff, Nat.reduceSub, Nat.reduceMul, ↓reduceIte, Int.reduceToNat, Int.reduceLE, beq_self_eq_true]
  refine call_pub b ⟨34, [.bool (ng 1), x1, y1, .bool (ng 1), x1, y1, .bool (ng (1 + 1)), x2, y2, .bool (ng (1 + (1 + 1))), x4, y4], 12⟩ (by simp only [upd_at]) (fun o ho hle' => ?_) (by kernel_rfl) rfl
  have hrow := ((((RowAt.nil (E := ratE) V4).snoc (x := 1) (show isOne (.bool (ng 1)) = true from rfl) o1 o2 h1).snoc (x := 1) (show isOne (.bool (ng 1)) = true from rfl) o1 o2 h1).snoc (x := 1 + 1) (show isOne (.bool (ng (1 + 1))) = true from rfl) o3 o4 h2).snoc (x := 1 + (1 + 1)) (show isOne (.bool (ng (1 + (1 + 1)))) = true from rfl) o5 o6 h4
  rw [fib_eq] at hrow
  simp only [List.nil_append, List.cons_append] at hrow
  have hl := hrow.pub ratE_ok ho hle' (n := 4) (c := 4) fib_len (Nat.le_refl _) (by omega)
  refine call_go (by kernel_rfl) rfl (fib_rec _ _ hl) fun v5 V5 hV5 h5 => ?_
  obtain ⟨w, rfl, hw⟩ := h5
  simp only [XA, XB, gateX, Nat.reduceAdd, Nat.reduceLeDiff, Nat.reduceSub, Nat.reduceMul, ↓reduceIte, Int.reduceToNat, Int.reduceLE, beq_self_eq_true]
  refine hK _ ?_
  have h1 := (h1.mono hle').mono hV5
  first | refine XWP.reg (by kernel_rfl) fun K hK => ?_ | refine XWP.seq (XWP.reg (by kernel_rfl) fun K hK => ?_) | refine XWP.reg1 (by kernel_rfl) fun K hK => ?_
  simp only [XA, XB, gateX, Nat.reduceAdd, Nat.reduceLeDiff, Nat.reduceSub, Nat.reduceMul, ↓reduceIte, Int.reduceToNat, Int.reduceLE, beq_self_eq_true, decide_true]
  refine bs_go (by kernel_rfl) #[(0, .agg #[.bool (ng 1), x1, y1]), (1, .agg #[.bool (ng 1), x1, y1])] (by simp [ev_tmp, SV.val]) (bs_rat2 elemT_22) fun b3 hb3 hb4 => ?_
  simp only [XA, XB, gateX, Nat.reduceAdd, Nat.reduceLeDiff, Nat.reduceSub, Nat.reduceMul, ↓reduceIte, Int.reduceToNat, Int.reduceLE, beq_self_eq_true]
  refine call_pub b3 ⟨34, [.bool (ng 1), x1, y1, .bool (ng 1), x1, y1], 6⟩ (by simp only [upd_at]) (fun o2' ho2 hle2 => ?_) (by kernel_rfl) rfl
  have hrow2 := (((RowAt.nil (E := ratE) V5).snoc (x := 1) (show isOne (.bool (ng 1)) = true from rfl) o1 o2 h1).snoc (x := 1) (show isOne (.bool (ng 1)) = true from rfl) o1 o2 h1)
  simp only [List.nil_append, List.cons_append] at hrow2
  have q11 : ∀ x ∈ [(1 : Rat), 1], QF x := fun x hx => by
    simp only [List.mem_cons, List.not_mem_nil, or_false, or_self] at hx
    rw [hx]; exact QF_one
  refine call_go (by kernel_rfl) rfl (lsame_c _ _ _ [1, 1] [1, 1] (hw.up hle2) (hrow2.pub ratE_ok ho2 hle2 (n := 2) (c := 2) rfl (Nat.le_refl _) (by omega)) q11 q11) fun v6 V6 hV6 h6 => ?_
  subst h6
  simp only [XA, XB, gateX, Nat.reduceAdd, Nat.reduceLeDiff, Nat.reduceSub, Nat.reduceMul, ↓reduceIte, Int.reduceToNat, Int.reduceLE, beq_self_eq_true]
  refine hK _ (XWP.ret ?_)
  try simp only [thenX_ret, inBlockX_ret]
  refine ret_go _ rfl ?_
  show Value.bool _ = _
  simp
end Go.Proofs.Ythoboehbadmlmaa
end
section
namespace Go.Proofs.Ythoboehbadmlmaa
open Go Go.RowKit
set_option linter.unusedSimpArgs false
set_option linter.unusedVariables false
attribute [local irreducible] XWP Spec SpecO XPub XCall seqX clX apX stX ldX iaX slX
theorem fewR_CB' {P : List Raw} {n : Nat} (h : fewR P) (hd : digR P) (hl : P.length ≤ n) : CB (n * 96) (qs P) := (fewR_CB h hd).mono (Nat.mul_le_mul_right _ hl)
end Go.Proofs.Ythoboehbadmlmaa
end
section
namespace Go.Proofs.Ythoboehbadmlmaa
open Go Go.RowKit Go.ChangeShapes
set_option linter.unusedVariables false
/-- the whole world, as what is published -/
def viewW (w : World) : View := fun k => w.heap[k]?
theorem viewW_sub (w : World) : View.sub (viewW w) w := fun _ _ h => h
theorem cell_view {w : World} {a : Addr} {v : Value} (h : w.cell? a = some v) : a.spot = none ∧ ∃ arr ty fr, viewW w a.block = some (.cells arr ty fr) ∧ arr[a.off]? = some v := by
  unfold World.cell? at h
  split at h
  · rename_i c t f hb
    split at h
    · cases h
    · rename_i hs
      refine ⟨?_, c, t, f, hb, h⟩
      cases hsp : a.spot with
      | none => rfl
      | some x => rw [hsp] at hs; simp at hs
  · cases h
theorem add_off (a : Addr) (n : Nat) : (a.add n).block = a.block ∧ (a.add n).off = a.off + n := by
  unfold Addr.add; split
  · rename_i h; subst h; exact ⟨rfl, rfl⟩
  · exact ⟨rfl, rfl⟩
theorem cells_view {w : World} {a : Addr} {n : Nat} {f : Nat → Value} (hn : 0 < n) (h : ∀ i, i < n → w.cell? (a.add i) = some (f i)) : a.spot = none ∧ ∃ arr ty fr, viewW w a.block = some (.cells arr ty fr) ∧ ∀ i, i < n → arr[a.off + i]? = some (f i) := by
  have h0 := h 0 hn
  have e0 : a.add 0 = a := by simp [Addr.add]
  rw [e0] at h0
  obtain ⟨hs, arr, ty, fr, hb, _⟩ := cell_view h0
  refine ⟨hs, arr, ty, fr, hb, fun i hi => ?_⟩
  obtain ⟨_, arr', ty', fr', hb', hv⟩ := cell_view (h i hi)
  obtain ⟨e1, e2⟩ := add_off a i
  rw [e1, hb] at hb'
  cases hb'
  rw [e2] at hv; exact hv
theorem addr_eta (a : Addr) (h : a.spot = none) : a = ⟨a.block, a.off, none⟩ := by cases a; simp at h; subst h; rfl
section
variable {H : Type} {enc : TypeId × Value → H} {w : World} {base : Nat} {spare : Nat → Bool} {held : Bool}
theorem und_nat : (Try.prog).underlying 32 = some (.slice 129) := und_elem elemT_32
theorem und_u32 : (Try.prog).underlying 129 = some (.int .u32) := by kernel_rfl
theorem cells_u32 : (Try.prog).cellsOf 129 = 1 := by kernel_rfl
theorem cells_rat : (Try.prog).cellsOf 34 = 3 := by kernel_rfl
theorem open_nat {fuel : Nat} {v : Value} {x : DataW H × List MemPlace} (h : DataW.trod enc Try.prog w base spare held fuel 32 [v] = some x) : ∃ ds, NatAt (viewW w) v ds := by
  rcases open_ints und_nat und_u32 cells_u32 h with ⟨hcs, _⟩ | ⟨a, len, cap, zs, hcs, _, hl, hm, hz, _, hcell, hwz⟩
  · cases hcs; exact ⟨[], NatAt.nil _⟩
  · cases hcs
    have hzl : len ≤ zs.length := by rw [hz]; split <;> omega
    have hwf : ∀ z ∈ zs, 0 ≤ z ∧ z < 4294967296 := fun z hz => by
      have := hwz z hz
      simp [Lit.wf, IntKind.min, IntKind.max, IntKind.signed, IntKind.bits] at this
      omega
    refine ⟨(zs.take len).map Int.toNat, some a, cap, by simp [Nat.min_eq_left hzl], by simp; omega, by unfold maxLen at hm; omega, fun d hd => ?_, ?_⟩
    · obtain ⟨z, hz, rfl⟩ := List.mem_map.1 hd
      have := hwf z (List.mem_of_mem_take hz)
      unfold BB; omega
    · rcases Nat.eq_zero_or_pos len with h0 | h0
      · subst h0; exact .inl (by simp)
      · obtain ⟨hs, arr, ty, fr, hb, hv⟩ := cells_view (f := fun i => .int .u32 (zs.getD i 0)) (by omega) hcell
        refine .inr ⟨a.block, a.off, arr, ty, fr, by rw [← addr_eta a hs], hb, fun i d hd => ?_⟩
        rw [List.getElem?_map, List.getElem?_take] at hd
        split at hd
        · rename_i hi
          rw [hv i (by omega)]
          have hiz : i < zs.length := by omega
          rw [List.getElem?_eq_getElem hiz] at hd
          simp at hd
          have := hwf zs[i] (List.getElem_mem hiz)
          simp [hiz]
          omega
        · cases hd
noncomputable def ratFields : Array Field := match (Try.prog).underlying 34 with
  | some (.struct fs) => fs
  | _ => #[]
theorem und_rat : (Try.prog).underlying 34 = some (.struct ratFields) := by kernel_rfl
theorem ratFields_map : ratFields.toList.map (fun f => (f.type, f.offset)) = [(4, 0), (32, 1), (32, 2)] := by kernel_rfl
theorem und_bool : (Try.prog).underlying 4 = some .bool := by kernel_rfl
theorem cells_bool : (Try.prog).cellsOf 4 = 1 := by kernel_rfl
theorem cells_nat : (Try.prog).cellsOf 32 = 1 := by kernel_rfl
theorem ratField (i : Nat) (t o : Nat) (h : [(4, 0), (32, 1), (32, 2)][i]? = some (t, o)) : ∃ f, ratFields[i]? = some f ∧ f.type = t ∧ f.offset = o := by
  rw [← ratFields_map, List.getElem?_map] at h
  cases hf : ratFields.toList[i]? with
  | none => rw [hf] at h; cases h
  | some f =>
    rw [hf] at h
    simp at h
    exact ⟨f, by rw [← Array.getElem?_toList]; exact hf, h.1, h.2⟩
theorem three_of {α : Type} {l : List α} (h : l.length = 3) : ∃ a b c, l = [a, b, c] := by
  rcases l with _ | ⟨a, _ | ⟨b, _ | ⟨c, _ | ⟨d, l⟩⟩⟩⟩ <;> simp at h
  exact ⟨a, b, c, rfl⟩
theorem open_rat {fuel : Nat} {cs : List Value} {x : DataW H × List MemPlace} (h : DataW.trod enc Try.prog w base spare held fuel 34 cs = some x) : ∃ (r : Raw) (n d : Value), cs = [.bool r.m, n, d] ∧ NatAt (viewW w) n r.nd ∧ NatAt (viewW w) d r.dd := by
  obtain ⟨xs, m, _, _, hl, hxl, hf⟩ := DataW.trod_struct und_rat h
  rw [cells_rat] at hl
  have hsz : ratFields.size = 3 := by
    have := congrArg List.length ratFields_map
    simpa using this
  obtain ⟨c0, c1, c2, rfl⟩ := three_of hl
  obtain ⟨f0, a0, t0, o0⟩ := ratField 0 _ _ rfl
  obtain ⟨f1, a1, t1, o1⟩ := ratField 1 _ _ rfl
  obtain ⟨f2, a2, t2, o2⟩ := ratField 2 _ _ rfl
  have h0 := hf 0 f0 a0
  have h1 := hf 1 f1 a1
  have h2 := hf 2 f2 a2
  rw [t0, o0, cells_bool, List.getElem?_eq_getElem (by omega)] at h0
  rw [t1, o1, cells_nat, List.getElem?_eq_getElem (by omega)] at h1
  rw [t2, o2, cells_nat, List.getElem?_eq_getElem (by omega)] at h2
  obtain ⟨b, e, _⟩ := DataW.trod_bool und_bool h0
  have e' : c0 = .bool b := by simpa using e
  subst e'
  obtain ⟨ds, hn⟩ := open_nat h1
  obtain ⟨es, hd⟩ := open_nat h2
  exact ⟨⟨b, ds, es⟩, c1, c2, rfl, hn, hd⟩
theorem choose_list {α : Type} {Q : Nat → α → Prop} : ∀ n, (∀ i, i < n → ∃ x, Q i x) → ∃ xs : List α, xs.length = n ∧ ∀ i x, xs[i]? = some x → Q i x
  | 0, _ => ⟨[], rfl, fun i x h => by simp at h⟩
  | n + 1, h => by
    obtain ⟨xs, hl, hq⟩ := choose_list n fun i hi => h i (by omega)
    obtain ⟨x, hx⟩ := h n (by omega)
    refine ⟨xs ++ [x], by simp [hl], fun i y hi => ?_⟩
    by_cases hlt : i < n
    · rw [List.getElem?_append_left (by omega)] at hi; exact hq i y hi
    · rw [List.getElem?_append_right (by omega)] at hi
      have : i = n := by
        rcases Nat.eq_zero_or_pos (i - xs.length) with h0 | h0
        · omega
        · rw [List.getElem?_eq_none (by simp; omega)] at hi; cases hi
      subst this
      rw [hl, Nat.sub_self] at hi
      simp at hi
      subst hi; exact hx
theorem open_raws {t fuel : Nat} {v : Value} {x : DataW H × List MemPlace} (ht : elemT Try.prog t = some 34) (h : DataW.trod enc Try.prog w base spare held fuel t [v] = some x) : ∃ l, Raws (viewW w) v l := by
  rcases Go.Deep.open_slice (und_elem ht) h with ⟨hcs, _⟩ | ⟨a, len, cap, m, n, D, Pl, hcs, _, hl, hm, hmm, _, hel⟩
  · cases hcs; exact ⟨[], SlAt.nil _⟩
  · cases hcs
    have hlm : len ≤ m := by rw [hmm]; split <;> omega
    have key : ∀ i, i < len → ∃ r : Raw, ∃ n d : Value, w.cell? (a.add (i * 3)) = some (.bool r.m) ∧ w.cell? (a.add (i * 3 + 1)) = some n ∧ w.cell? (a.add (i * 3 + 2)) = some d ∧ NatAt (viewW w) n r.nd ∧ NatAt (viewW w) d r.dd := fun i hi => by
      obtain ⟨cs', h1, h2⟩ := hel i (by omega)
      obtain ⟨r, n', d, rfl, k1, k2⟩ := open_rat h2
      rw [cells_rat] at h1
      obtain ⟨_, _, h3⟩ := World.cells?_some h1
      have g0 := h3 0 (by omega)
      have g1 := h3 1 (by omega)
      have g2 := h3 2 (by omega)
      rw [Go.Deep.add_add] at g0 g1 g2
      exact ⟨r, n', d, g0, g1, g2, k1, k2⟩
    obtain ⟨l, hll, hq⟩ := choose_list len key
    refine ⟨l, some a, cap, by rw [hll], by omega, by unfold maxLen at hm; omega, ?_⟩
    rcases Nat.eq_zero_or_pos len with h0 | h0
    · exact .inl (List.length_eq_zero_iff.1 (by omega))
    · obtain ⟨nn, dd, g0, _⟩ := hq 0 l[0] (List.getElem?_eq_getElem (by omega))
      have e0 : a.add (0 * 3) = a := by simp [Addr.add]
      rw [e0] at g0
      obtain ⟨hs, arr, ty, fr, hb, _⟩ := cell_view g0
      refine .inr ⟨a.block, a.off, arr, ty, fr, by rw [← addr_eta a hs], hb, fun i x hi => ?_⟩
      obtain ⟨n', d, g0, g1, g2, k1, k2⟩ := hq i x hi
      have at_ : ∀ k v, w.cell? (a.add k) = some v → arr[a.off + k]? = some v := fun k v hk => by
        obtain ⟨_, arr', ty', fr', hb', hv⟩ := cell_view hk
        obtain ⟨e1, e2⟩ := add_off a k
        rw [e1, hb] at hb'
        cases hb'
        rw [e2] at hv; exact hv
      exact ⟨.bool x.m, n', d, at_ _ _ g0, at_ _ _ g1, at_ _ _ g2, rfl, k1.one, k2.one, n', d, rfl, k1, k2⟩
end
end Go.Proofs.Ythoboehbadmlmaa
end
section
namespace Go.Proofs.Ythoboehbadmlmaa
def Sm (f : Nat → Rat) : Nat → Rat
  | 0 => 0
  | n + 1 => Sm f n + f n
theorem Sm_congr {f g : Nat → Rat} : ∀ (n : Nat), (∀ j, j < n → f j = g j) → Sm f n = Sm g n
  | 0, _ => rfl
  | n + 1, h => by
    have := Sm_congr n (fun j hj => h j (by omega))
    simp only [Sm, this, h n (by omega)]
theorem Sm_zero {f : Nat → Rat} (n : Nat) (h : ∀ j, j < n → f j = 0) : Sm f n = 0 := by
  induction n with
  | zero => rfl
  | succ n ih =>
    simp only [Sm, ih fun j hj => h j (by omega), h n (by omega)]
    grind
theorem Sm_add (f g : Nat → Rat) (n : Nat) : Sm (fun j => f j + g j) n = Sm f n + Sm g n := by
  induction n with
  | zero => simp only [Sm]; grind
  | succ n ih => simp only [Sm, ih]; grind
theorem Sm_mul (c : Rat) (f : Nat → Rat) (n : Nat) : Sm (fun j => c * f j) n = c * Sm f n := by
  induction n with
  | zero => simp only [Sm]; grind
  | succ n ih => simp only [Sm, ih]; grind
theorem Sm_front (f : Nat → Rat) (n : Nat) : Sm f (n + 1) = f 0 + Sm (fun j => f (j + 1)) n := by
  induction n with
  | zero => simp only [Sm]; grind
  | succ n ih =>
    have e : Sm f (n + 1 + 1) = Sm f (n + 1) + f (n + 1) := rfl
    rw [e, ih]; simp only [Sm]; grind
theorem Sm_rev (f : Nat → Rat) (n : Nat) : Sm (fun j => f (n - 1 - j)) n = Sm f n := by
  induction n with
  | zero => rfl
  | succ n ih =>
    rw [Sm_front]
    have h : Sm (fun j => f (n + 1 - 1 - (j + 1))) n = Sm (fun j => f (n - 1 - j)) n := Sm_congr n fun j hj => by congr 1; omega
    rw [h, ih]
    simp only [Sm, Nat.add_sub_cancel, Nat.sub_zero]; grind
theorem Sm_one {f : Nat → Rat} {n k : Nat} (hk : k < n) (h : ∀ j, j < n → j ≠ k → f j = 0) : Sm f n = f k := by
  induction n with
  | zero => omega
  | succ n ih =>
    by_cases hn : k = n
    · subst hn
      simp only [Sm, Sm_zero k fun j hj => h j (by omega) (by omega)]; grind
    · simp only [Sm, ih (by omega) fun j hj => h j (by omega), h n (by omega) (by omega)]; grind
theorem Sm_more {f : Nat → Rat} {n m : Nat} (hn : n ≤ m) (h : ∀ j, n ≤ j → j < m → f j = 0) : Sm f m = Sm f n := by
  induction m with
  | zero => rw [show n = 0 by omega]
  | succ m ih =>
    by_cases hm : n = m + 1
    · rw [hm]
    · simp only [Sm, ih (by omega) fun j h1 h2 => h j h1 (by omega), h m (by omega) (by omega)]; grind
theorem Sm_tri (F : Nat → Nat → Rat) (n : Nat) : Sm (fun i => Sm (F i) (i + 1)) n = Sm (fun j => Sm (fun k => F (j + k) j) (n - j)) n := by
  induction n with
  | zero => rfl
  | succ n ih =>
    have e : Sm (fun i => Sm (F i) (i + 1)) (n + 1) = Sm (fun i => Sm (F i) (i + 1)) n + Sm (F n) (n + 1) := rfl
    have h : Sm (fun j => Sm (fun k => F (j + k) j) (n + 1 - j)) (n + 1) = Sm (fun j => Sm (fun k => F (j + k) j) (n - j) + F n j) (n + 1) := Sm_congr _ fun j hj => by
      have hs : n + 1 - j = (n - j) + 1 := by omega
      have hn : j + (n - j) = n := by omega
      rw [hs]; simp only [Sm, hn]
    have h2 : Sm (fun j => Sm (fun k => F (j + k) j) (n - j)) (n + 1) = Sm (fun j => Sm (fun k => F (j + k) j) (n - j)) n := by
      simp only [Sm, Nat.sub_self]; grind
    rw [e, ih, h, Sm_add, h2]
/-- the product of two series -/
def cv (f g : Nat → Rat) (n : Nat) : Rat := Sm (fun j => f j * g (n - j)) (n + 1)
def un (i : Nat) : Rat := if i = 0 then 1 else 0
def mon (t : Rat) (k i : Nat) : Rat := if i = k then t else 0
theorem cv_comm (f g : Nat → Rat) : cv f g = cv g f := by
  funext n
  unfold cv
  rw [← Sm_rev]
  refine Sm_congr _ fun j hj => ?_
  have h1 : n + 1 - 1 - j = n - j := by omega
  have h2 : n - (n + 1 - 1 - j) = j := by omega
  simp only [h1, show n - (n - j) = j by omega]; grind
theorem cv_assoc (f g h : Nat → Rat) : cv (cv f g) h = cv f (cv g h) := by
  funext n
  unfold cv
  have e1 : Sm (fun i => Sm (fun j => f j * g (i - j)) (i + 1) * h (n - i)) (n + 1) = Sm (fun i => Sm (fun j => f j * g (i - j) * h (n - i)) (i + 1)) (n + 1) := Sm_congr _ fun i _ => by
    rw [show Sm (fun j => f j * g (i - j)) (i + 1) * h (n - i) = h (n - i) * Sm (fun j => f j * g (i - j)) (i + 1) by grind, ← Sm_mul]
    exact Sm_congr _ fun j _ => by grind
  rw [e1, Sm_tri (fun i j => f j * g (i - j) * h (n - i))]
  refine Sm_congr _ fun j hj => ?_
  rw [← Sm_mul, show n + 1 - j = n - j + 1 by omega]
  refine Sm_congr _ fun k hk => ?_
  rw [show j + k - j = k by omega, show n - (j + k) = n - j - k by omega]; grind
theorem cv_add (f g h : Nat → Rat) : cv f (fun i => g i + h i) = fun n => cv f g n + cv f h n := by
  funext n
  unfold cv
  rw [← Sm_add]
  exact Sm_congr _ fun j _ => by grind
theorem cv_mon (f : Nat → Rat) (t : Rat) (k n : Nat) : cv f (mon t k) n = if k ≤ n then t * f (n - k) else 0 := by
  unfold cv mon
  by_cases h : k ≤ n
  · rw [if_pos h, Sm_one (k := n - k) (by omega) fun j hj hne => by rw [if_neg (by omega)]; grind]
    rw [if_pos (by omega)]; grind
  · rw [if_neg h]
    exact Sm_zero _ fun j hj => by rw [if_neg (by omega)]; grind
theorem cv_un (f : Nat → Rat) : cv f un = f := by
  funext n
  have e : un = mon 1 0 := rfl
  rw [e, cv_mon, if_pos (by omega)]; simp only [Nat.sub_zero]; grind
theorem cv_zero (f : Nat → Rat) : cv f (fun _ => 0) = fun _ => 0 := by
  funext n
  exact Sm_zero _ fun j _ => by grind
theorem meet_cv (p q : List Rat) (i : Nat) : meet p q i (i + 1) = cv (cf p) (cf q) i := by
  have key : ∀ k, k ≤ i + 1 → meet p q i k = Sm (fun j => cf p j * cf q (i - j)) k := by
    intro k
    induction k with
    | zero => intro _; rfl
    | succ k ih =>
      intro hk
      simp only [meet, Sm, ih (by omega), if_pos (show k ≤ i by omega)]
  exact key _ (Nat.le_refl _)
end Go.Proofs.Ythoboehbadmlmaa
end
section
namespace Go.Proofs.Ythoboehbadmlmaa
theorem cf_nil : cf [] = fun _ => 0 := by funext i; exact cf_none (by simp)
theorem cf_un : cf [1] = un := by funext i; rw [cf_one]; rfl
theorem pAdd_cv (p q : List Rat) (c : Rat) (up i : Nat) : cf (pAdd p q c up) i = cf p i + cv (cf q) (mon c up) i := by
  rw [cf_pAdd, cv_mon]
  unfold pAt
  split
  · grind
  · rfl
def Dv (d p : List Rat) : Prop := ∃ s : List Rat, cf p = cv (cf d) (cf s)
theorem Dv.refl (p : List Rat) : Dv p p := ⟨[1], by rw [cf_un, cv_un]⟩
theorem Dv.nil (p : List Rat) : Dv p [] := ⟨[], by rw [cf_nil, cv_zero]⟩
end Go.Proofs.Ythoboehbadmlmaa
end
section
namespace Go.Proofs.Ythoboehbadmlmaa
end Go.Proofs.Ythoboehbadmlmaa
end
section
namespace Go.Proofs.Ythoboehbadmlmaa
open Go Go.RowKit
set_option linter.unusedSimpArgs false
set_option linter.unusedVariables false
attribute [local irreducible] XWP Spec SpecO XPub XCall seqX clX apX stX ldX iaX slX
theorem CB.fitR {A : Nat} {l : List Rat} (h : CB A l) (hA : A ≤ 17592186044416) : fitR (l.map toRaw) := fitR_toRaw (h.qf hA)
end Go.Proofs.Ythoboehbadmlmaa
end
section
namespace Go.Proofs.Ythoboehbadmlmaa
theorem off_cv {l q : List Rat} (i : Nat) : off l q i = cv (cf q) (cf l) i := by
  unfold off
  rw [off_meet q l i _ (by omega), ← meet_cv]
  rcases Nat.le_total q.length (i + 1) with h | h
  · rw [Nat.min_eq_left h]
    exact (meet_more q l i h fun j h1 _ => .inr h1).symm
  · rw [Nat.min_eq_right h]
/-- q, of degree at most L, takes the numbers of l from place L up to n to zero -/
def Gen (l : Nat → Rat) (q : Nat → Rat) (L n : Nat) : Prop := q 0 = 1 ∧ (∀ j, L < j → q j = 0) ∧ ∀ k, L ≤ k → k < n → cv q l k = 0
theorem cv_mid (last l : Nat → Rat) (c : Rat) (a k : Nat) : cv (cv last (mon c a)) l k = if a ≤ k then c * cv last l (k - a) else 0 := by
  have e : cv (cv last (mon c a)) l = cv (cv last l) (mon c a) := by
    rw [cv_assoc, cv_comm (mon c a) l, ← cv_assoc]
  rw [e, cv_mon]
theorem cv_addl (f g h : Nat → Rat) : cv (fun i => f i + g i) h = fun n => cv f h n + cv g h n := by
  rw [cv_comm, cv_add, cv_comm h f, cv_comm h g]
/-- what holds of the state behind i numbers -/
def BMInv (l : Nat → Rat) (s : BM) (i : Nat) : Prop :=
  Gen l (cf s.q) s.size i ∧ s.was ≠ 0 ∧
  ((s.size = 0 ∧ s.last = [1] ∧ s.ago = i + 1) ∨
   ∃ m L', m < i ∧ s.ago = i - m ∧ s.size + L' = m + 1 ∧ cf s.last 0 = 1 ∧ (∀ j, L' < j → cf s.last j = 0) ∧ (∀ k, L' ≤ k → k < m → cv (cf s.last) l k = 0) ∧ cv (cf s.last) l m = s.was)
theorem bm_inv (l : List Rat) (i : Nat) : BMInv (cf l) (bmI l i) i := by
  induction i with
  | zero =>
    refine ⟨⟨by rw [show (bmI l 0).q = [1] from rfl, cf_one]; rfl, fun j hj => ?_, fun k _ h => by omega⟩, one_ne, .inl ⟨rfl, rfl, rfl⟩⟩
    rw [show (bmI l 0).q = [1] from rfl, cf_one]
    have : (bmI l 0).size = 0 := rfl
    rw [if_neg (by omega)]
  | succ i ih =>
    obtain ⟨⟨g0, g1, g2⟩, hw, hor⟩ := ih
    rw [bmI]
    generalize bmI l i = s at *
    unfold bmStep
    rw [off_cv]
    split
    · rename_i hd
      refine ⟨⟨g0, g1, fun k h1 h2 => ?_⟩, hw, ?_⟩
      · rcases Nat.eq_or_lt_of_le (Nat.lt_succ_iff.1 h2) with h | h
        · rw [h]; exact hd
        · exact g2 k h1 h
      · rcases hor with ⟨a1, a2, a3⟩ | ⟨m, L', a1, a2, a3, a4⟩
        · exact .inl ⟨a1, a2, by dsimp only; omega⟩
        · exact .inr ⟨m, L', by omega, by dsimp only; omega, a3, a4⟩
    · rename_i hd
      have hq : cf (bmNext l s i) = fun j => cf s.q j + cv (cf s.last) (mon (-(cv (cf s.q) (cf l) i / s.was)) s.ago) j := by
        funext j
        unfold bmNext
        rw [pAdd_cv, off_cv]
      have hz : ∀ k, cv (cf (bmNext l s i)) (cf l) k = cv (cf s.q) (cf l) k + if s.ago ≤ k then -(cv (cf s.q) (cf l) i / s.was) * cv (cf s.last) (cf l) (k - s.ago) else 0 := fun k => by
        rw [hq, cv_addl]
        show _ + cv (cv (cf s.last) (mon _ s.ago)) (cf l) k = _
        rw [cv_mid]
      have hj : ∀ j, cf (bmNext l s i) j = cf s.q j + if s.ago ≤ j then -(cv (cf s.q) (cf l) i / s.was) * cf s.last (j - s.ago) else 0 := fun j => by
        rw [hq]
        show _ + cv (cf s.last) (mon _ s.ago) j = _
        rw [cv_mon]
      rcases hor with ⟨a1, a2, a3⟩ | ⟨m, L', a1, a2, a3, a4, a5, a6, a7⟩
      · rw [if_pos (by omega)]
        refine ⟨⟨?_, fun j h => ?_, fun k h1 h2 => ?_⟩, hd, .inr ⟨i, 0, by omega, by dsimp only; omega, by dsimp only; omega, g0, fun j h => g1 j (by omega), fun k h1 h2 => g2 k (by omega) h2, rfl⟩⟩
        · dsimp only; rw [hj, if_neg (by omega), g0]; grind
        · dsimp only at h ⊢
          rw [hj, g1 j (by omega), a2, cf_one]
          split
          · rw [if_neg (by omega)]; grind
          · grind
        · dsimp only at h1; omega
      · have hlast0 : ∀ L2, (∀ k, L2 ≤ k → s.size ≤ k) → (∀ k, L2 ≤ k → k < i + 1 → s.ago ≤ k → L' ≤ k - s.ago) → ∀ k, L2 ≤ k → k < i + 1 → cv (cf (bmNext l s i)) (cf l) k = 0 := fun L2 hA hB k h1 h2 => by
          rw [hz]
          rcases Nat.eq_or_lt_of_le (Nat.lt_succ_iff.1 h2) with h | h
          · subst h
            rw [if_pos (by omega), show k - s.ago = m by omega, a7]
            have : cv (cf s.q) (cf l) k / s.was * s.was = cv (cf s.q) (cf l) k := Rat.div_mul_cancel hw
            grind
          · rw [g2 k (hA k h1) h]
            split
            · rename_i ha
              rw [a6 (k - s.ago) (hB k h1 h2 ha) (by omega)]; grind
            · grind
        have h0 : cf (bmNext l s i) 0 = 1 := by rw [hj, if_neg (by omega), g0]; grind
        split
        · rename_i h2s
          refine ⟨⟨h0, fun j h => ?_, hlast0 _ (fun k h => by dsimp only at h; omega) (fun k h1 h2 h3 => by dsimp only at h1; omega)⟩, hd, .inr ⟨i, s.size, by omega, by dsimp only; omega, by dsimp only; omega, g0, g1, g2, rfl⟩⟩
          dsimp only at h ⊢
          rw [hj, g1 j (by omega)]
          split
          · rw [a5 _ (by omega)]; grind
          · grind
        · rename_i h2s
          refine ⟨⟨h0, fun j h => ?_, hlast0 _ (fun k h => by dsimp only at h; omega) (fun k h1 h2 h3 => by dsimp only at h1; omega)⟩, hw, .inr ⟨m, L', by omega, by dsimp only; omega, a3, a4, a5, a6, a7⟩⟩
          dsimp only at h ⊢
          rw [hj, g1 j (by omega)]
          split
          · rw [a5 _ (by omega)]; grind
          · grind
theorem bm_gen (l : List Rat) (i : Nat) : Gen (cf l) (cf (bmI l i).q) (bmI l i).size i := (bm_inv l i).1
/-- two that generate a sequence up to i go on alike, if both lengths together are at most i -/
theorem gen_both {l q r : Nat → Rat} {L R i : Nat} (hq : Gen l q L i) (hr : Gen l r R (i + 1)) (h : L + R ≤ i) : cv q l i = 0 := by
  obtain ⟨q0, q1, q2⟩ := hq
  obtain ⟨r0, r1, r2⟩ := hr
  have e1 : cv r (cv q l) i = cv q l i := by
    unfold cv
    rw [Sm_one (k := 0) (by omega) fun j hj hne => ?_]
    · rw [r0]; simp only [Nat.sub_zero]; grind
    · by_cases hjR : j ≤ R
      · have := q2 (i - j) (by omega) (by omega)
        unfold cv at this
        rw [this]; grind
      · rw [r1 j (by omega)]; grind
  have e2 : cv q (cv r l) i = 0 := by
    refine Sm_zero _ fun j hj => ?_
    by_cases hjL : j ≤ L
    · rw [r2 (i - j) (by omega) (by omega)]; grind
    · rw [q1 j (by omega)]; grind
  have e3 : cv r (cv q l) = cv q (cv r l) := by rw [← cv_assoc, cv_comm r q, cv_assoc]
  rw [← e1, e3, e2]
/-- the length is the least -/
theorem bm_least (l : List Rat) {r : Nat → Rat} {R : Nat} (n : Nat) (hr : Gen (cf l) r R n) (i : Nat) (hi : i ≤ n) : (bmI l i).size ≤ R := by
  induction i with
  | zero => exact Nat.zero_le _
  | succ i ih =>
    have ih := ih (by omega)
    have hg := bm_gen l i
    rw [bmI]
    unfold bmStep
    split
    · exact ih
    · rename_i hd
      split
      · dsimp only
        rw [off_cv] at hd
        by_cases h : (bmI l i).size + R ≤ i
        · exact absurd (gen_both hg ⟨hr.1, hr.2.1, fun k h1 h2 => hr.2.2 k h1 (by omega)⟩ h) hd
        · omega
      · exact ih
end Go.Proofs.Ythoboehbadmlmaa
end
section
namespace Go.Proofs.Ythoboehbadmlmaa
open Go Go.RowKit
set_option linter.unusedSimpArgs false
set_option linter.unusedVariables false
attribute [local irreducible] XWP Spec SpecO XPub XCall seqX clX apX stX ldX iaX slX
def listsE (L A : List Raw) (n : Int) : Int :=
  if okR L = false ∨ okR A = false then 1 else if 400 < (L.length : Int) ∨ 400 < (A.length : Int) ∨ 400 < n then 2 else if (L.length : Int) < (A.length : Int) ∨ n < 0 then 1 else 0
theorem lists_c (V : View) (v u : Value) (L A : List Raw) (n : Int) (hv : Raws V v L) (hu : Raws V u A) (fL : fitR L) (fA : fitR A) (lL : L.length ≤ 1000000) (lA : A.length ≤ 1000000) :
    Spec Try.prog 61 [v, u, .int .i64 n] V fun v' V' => v' = .int .i64 (listsE L A n) := by
  obtain ⟨A1, c1, rfl, hc1, hm1⟩ := hv.form
  obtain ⟨A2, c2, rfl, hc2, hm2⟩ := hu.form
  unfold listsE
  refine (Spec.enter Try.func61 rfl fun Γ => ?_)
  simp only [Try.ntmps61, List.map_cons, List.map_nil, List.length_cons, List.length_nil, Nat.reduceAdd, Nat.reduceSub, List.replicate_succ, List.replicate_zero, List.cons_append, List.nil_append]
  first | refine XWP.reg (by kernel_rfl) fun K hK => ?_ | refine XWP.seq (XWP.reg (by kernel_rfl) fun K hK => ?_) | refine XWP.reg1 (by kernel_rfl) fun K hK => ?_
  simp only [XA, XB, gateX, Nat.reduceAdd, Nat.reduceLeDiff, Nat.reduceSub, Nat.reduceMul, ↓reduceIte, Int.reduceToNat, Int.reduceLE, beq_self_eq_true]
  refine hK _ ?_
  refine XWP.seq ?_
  first | refine XWP.block ?_ | refine XWP.seq (XWP.block ?_)
  first | refine XWP.reg (by kernel_rfl) fun K hK => ?_ | refine XWP.seq (XWP.reg (by kernel_rfl) fun K hK => ?_) | refine XWP.reg1 (by kernel_rfl) fun K hK => ?_
  simp only [XA, XB, gateX, Nat.reduceAdd, Nat.reduceLeDiff, Nat.reduceSub, Nat.reduceMul, ↓reduceIte, Int.reduceToNat, Int.reduceLE, beq_self_eq_true]
  refine call_go (by kernel_rfl) rfl (fine_c _ _ _ hv fL lL) fun v1 V1 hV1 h1 => ?_
  subst h1
  cases e1 : okR L
  · simp only [XA, XB, gateX, Nat.reduceAdd, Nat.reduceLeDiff, Nat.reduceSub, Nat.reduceMul, ↓reduceIte, Int.reduceToNat, Int.reduceLE, beq_self_eq_true]
    refine hK _ ?_
    first | refine XWP.cond (t := true) rfl (fun _ => ?_) (fun h => by cases h) | refine XWP.seq (XWP.cond (t := true) rfl (fun _ => ?_) (fun h => by cases h))
    first | refine XWP.reg (by kernel_rfl) fun K hK => ?_ | refine XWP.seq (XWP.reg (by kernel_rfl) fun K hK => ?_) | refine XWP.reg1 (by kernel_rfl) fun K hK => ?_
    simp only [XA, XB, gateX, Nat.reduceAdd, Nat.reduceLeDiff, Nat.reduceSub, Nat.reduceMul, ↓reduceIte, Int.reduceToNat, Int.reduceLE, beq_self_eq_true]
    refine hK _ (XWP.ret ?_)
    try simp only [thenX_ret, inBlockX_ret]
    refine ret_go _ rfl ?_
    rw [if_pos (.inl e1)]; rfl
  simp only [XA, XB, gateX, Nat.reduceAdd, Nat.reduceLeDiff, Nat.reduceSub, Nat.reduceMul, ↓reduceIte, Int.reduceToNat, Int.reduceLE, beq_self_eq_true]
  refine call_go (by kernel_rfl) rfl (fine_c _ _ _ (hu.up hV1) fA lA) fun v2 V2 hV2 h2 => ?_
  subst h2
  cases e2 : okR A
  · simp only [XA, XB, gateX, Nat.reduceAdd, Nat.reduceLeDiff, Nat.reduceSub, Nat.reduceMul, ↓reduceIte, Int.reduceToNat, Int.reduceLE, beq_self_eq_true]
    refine hK _ ?_
    first | refine XWP.cond (t := true) rfl (fun _ => ?_) (fun h => by cases h) | refine XWP.seq (XWP.cond (t := true) rfl (fun _ => ?_) (fun h => by cases h))
    first | refine XWP.reg (by kernel_rfl) fun K hK => ?_ | refine XWP.seq (XWP.reg (by kernel_rfl) fun K hK => ?_) | refine XWP.reg1 (by kernel_rfl) fun K hK => ?_
    simp only [XA, XB, gateX, Nat.reduceAdd, Nat.reduceLeDiff, Nat.reduceSub, Nat.reduceMul, ↓reduceIte, Int.reduceToNat, Int.reduceLE, beq_self_eq_true]
    refine hK _ (XWP.ret ?_)
    try simp only [thenX_ret, inBlockX_ret]
    refine ret_go _ rfl ?_
    rw [if_pos (.inr e2)]; rfl
  simp only [XA, XB, gateX, Nat.reduceAdd, Nat.reduceLeDiff, Nat.reduceSub, Nat.reduceMul, ↓reduceIte, Int.reduceToNat, Int.reduceLE, beq_self_eq_true]
  refine hK _ ?_
  first | refine XWP.cond (t := false) rfl (fun h => by cases h) (fun _ => ?_) | refine XWP.seq (XWP.cond (t := false) rfl (fun h => by cases h) (fun _ => ?_))
  have g0 : ¬(okR L = false ∨ okR A = false) := by rw [e1, e2]; simp
  by_cases g1 : (400 : Int) < (L.length : Int) ∨ 400 < (A.length : Int) ∨ 400 < n
  · by_cases d1 : (400 : Int) < (L.length : Int)
    · have b1 : decide ((400 : Int) < (L.length : Int)) = true := decide_eq_true d1
      first | refine XWP.reg (by kernel_rfl) fun K hK => ?_ | refine XWP.seq (XWP.reg (by kernel_rfl) fun K hK => ?_) | refine XWP.reg1 (by kernel_rfl) fun K hK => ?_
      simp only [XA, XB, gateX, Nat.reduceAdd, Nat.reduceLeDiff, Nat.reduceSub, Nat.reduceMul, ↓reduceIte, Int.reduceToNat, Int.reduceLE, beq_self_eq_true, b1]
      refine hK _ ?_
      first | refine XWP.cond (t := true) rfl (fun _ => ?_) (fun h => by cases h) | refine XWP.seq (XWP.cond (t := true) rfl (fun _ => ?_) (fun h => by cases h))
      first | refine XWP.reg (by kernel_rfl) fun K hK => ?_ | refine XWP.seq (XWP.reg (by kernel_rfl) fun K hK => ?_) | refine XWP.reg1 (by kernel_rfl) fun K hK => ?_
      simp only [XA, XB, gateX, Nat.reduceAdd, Nat.reduceLeDiff, Nat.reduceSub, Nat.reduceMul, ↓reduceIte, Int.reduceToNat, Int.reduceLE, beq_self_eq_true]
      refine hK _ (XWP.ret ?_)
      try simp only [thenX_ret, inBlockX_ret]
      refine ret_go _ rfl ?_
      rw [if_neg g0, if_pos g1]; rfl
    · have b1 : decide ((400 : Int) < (L.length : Int)) = false := decide_eq_false d1
      by_cases d2 : (400 : Int) < (A.length : Int)
      · have b2 : decide ((400 : Int) < (A.length : Int)) = true := decide_eq_true d2
        first | refine XWP.reg (by kernel_rfl) fun K hK => ?_ | refine XWP.seq (XWP.reg (by kernel_rfl) fun K hK => ?_) | refine XWP.reg1 (by kernel_rfl) fun K hK => ?_
        simp only [XA, XB, gateX, Nat.reduceAdd, Nat.reduceLeDiff, Nat.reduceSub, Nat.reduceMul, ↓reduceIte, Int.reduceToNat, Int.reduceLE, beq_self_eq_true, b1, b2]
        refine hK _ ?_
        first | refine XWP.cond (t := true) rfl (fun _ => ?_) (fun h => by cases h) | refine XWP.seq (XWP.cond (t := true) rfl (fun _ => ?_) (fun h => by cases h))
        first | refine XWP.reg (by kernel_rfl) fun K hK => ?_ | refine XWP.seq (XWP.reg (by kernel_rfl) fun K hK => ?_) | refine XWP.reg1 (by kernel_rfl) fun K hK => ?_
        simp only [XA, XB, gateX, Nat.reduceAdd, Nat.reduceLeDiff, Nat.reduceSub, Nat.reduceMul, ↓reduceIte, Int.reduceToNat, Int.reduceLE, beq_self_eq_true]
        refine hK _ (XWP.ret ?_)
        try simp only [thenX_ret, inBlockX_ret]
        refine ret_go _ rfl ?_
        rw [if_neg g0, if_pos g1]; rfl
      · have b2 : decide ((400 : Int) < (A.length : Int)) = false := decide_eq_false d2
        have b3 : decide ((400 : Int) < n) = true := decide_eq_true (by omega)
        first | refine XWP.reg (by kernel_rfl) fun K hK => ?_ | refine XWP.seq (XWP.reg (by kernel_rfl) fun K hK => ?_) | refine XWP.reg1 (by kernel_rfl) fun K hK => ?_
        simp only [XA, XB, gateX, Nat.reduceAdd, Nat.reduceLeDiff, Nat.reduceSub, Nat.reduceMul, ↓reduceIte, Int.reduceToNat, Int.reduceLE, beq_self_eq_true, b1, b2, b3]
        refine hK _ ?_
        first | refine XWP.cond (t := true) rfl (fun _ => ?_) (fun h => by cases h) | refine XWP.seq (XWP.cond (t := true) rfl (fun _ => ?_) (fun h => by cases h))
        first | refine XWP.reg (by kernel_rfl) fun K hK => ?_ | refine XWP.seq (XWP.reg (by kernel_rfl) fun K hK => ?_) | refine XWP.reg1 (by kernel_rfl) fun K hK => ?_
        simp only [XA, XB, gateX, Nat.reduceAdd, Nat.reduceLeDiff, Nat.reduceSub, Nat.reduceMul, ↓reduceIte, Int.reduceToNat, Int.reduceLE, beq_self_eq_true]
        refine hK _ (XWP.ret ?_)
        try simp only [thenX_ret, inBlockX_ret]
        refine ret_go _ rfl ?_
        rw [if_neg g0, if_pos g1]; rfl
  · have b1 : decide ((400 : Int) < (L.length : Int)) = false := decide_eq_false (by omega)
    have b2 : decide ((400 : Int) < (A.length : Int)) = false := decide_eq_false (by omega)
    have b3 : decide ((400 : Int) < n) = false := decide_eq_false (by omega)
    first | refine XWP.reg (by kernel_rfl) fun K hK => ?_ | refine XWP.seq (XWP.reg (by kernel_rfl) fun K hK => ?_) | refine XWP.reg1 (by kernel_rfl) fun K hK => ?_
    simp only [XA, XB, gateX, Nat.reduceAdd, Nat.reduceLeDiff, Nat.reduceSub, Nat.reduceMul, ↓reduceIte, Int.reduceToNat, Int.reduceLE, beq_self_eq_true, b1, b2, b3]
    refine hK _ ?_
    first | refine XWP.cond (t := false) rfl (fun h => by cases h) (fun _ => ?_) | refine XWP.seq (XWP.cond (t := false) rfl (fun h => by cases h) (fun _ => ?_))
    by_cases g2 : (L.length : Int) < (A.length : Int) ∨ n < 0
    · by_cases d1 : (L.length : Int) < (A.length : Int)
      · have b4 : decide ((L.length : Int) < (A.length : Int)) = true := decide_eq_true d1
        first | refine XWP.reg (by kernel_rfl) fun K hK => ?_ | refine XWP.seq (XWP.reg (by kernel_rfl) fun K hK => ?_) | refine XWP.reg1 (by kernel_rfl) fun K hK => ?_
        simp only [XA, XB, gateX, Nat.reduceAdd, Nat.reduceLeDiff, Nat.reduceSub, Nat.reduceMul, ↓reduceIte, Int.reduceToNat, Int.reduceLE, beq_self_eq_true, b4]
        refine hK _ ?_
        first | refine XWP.cond (t := true) rfl (fun _ => ?_) (fun h => by cases h) | refine XWP.seq (XWP.cond (t := true) rfl (fun _ => ?_) (fun h => by cases h))
        first | refine XWP.reg (by kernel_rfl) fun K hK => ?_ | refine XWP.seq (XWP.reg (by kernel_rfl) fun K hK => ?_) | refine XWP.reg1 (by kernel_rfl) fun K hK => ?_
        simp only [XA, XB, gateX, Nat.reduceAdd, Nat.reduceLeDiff, Nat.reduceSub, Nat.reduceMul, ↓reduceIte, Int.reduceToNat, Int.reduceLE, beq_self_eq_true]
        refine hK _ (XWP.ret ?_)
        try simp only [thenX_ret, inBlockX_ret]
        refine ret_go _ rfl ?_
        rw [if_neg g0, if_neg g1, if_pos g2]; rfl
      · have b4 : decide ((L.length : Int) < (A.length : Int)) = false := decide_eq_false d1
        have b5 : decide (n < 0) = true := decide_eq_true (by omega)
        first | refine XWP.reg (by kernel_rfl) fun K hK => ?_ | refine XWP.seq (XWP.reg (by kernel_rfl) fun K hK => ?_) | refine XWP.reg1 (by kernel_rfl) fun K hK => ?_
        simp only [XA, XB, gateX, Nat.reduceAdd, Nat.reduceLeDiff, Nat.reduceSub, Nat.reduceMul, ↓reduceIte, Int.reduceToNat, Int.reduceLE, beq_self_eq_true, b4, b5]
        refine hK _ ?_
        first | refine XWP.cond (t := true) rfl (fun _ => ?_) (fun h => by cases h) | refine XWP.seq (XWP.cond (t := true) rfl (fun _ => ?_) (fun h => by cases h))
        first | refine XWP.reg (by kernel_rfl) fun K hK => ?_ | refine XWP.seq (XWP.reg (by kernel_rfl) fun K hK => ?_) | refine XWP.reg1 (by kernel_rfl) fun K hK => ?_
        simp only [XA, XB, gateX, Nat.reduceAdd, Nat.reduceLeDiff, Nat.reduceSub, Nat.reduceMul, ↓reduceIte, Int.reduceToNat, Int.reduceLE, beq_self_eq_true]
        refine hK _ (XWP.ret ?_)
        try simp only [thenX_ret, inBlockX_ret]
        refine ret_go _ rfl ?_
        rw [if_neg g0, if_neg g1, if_pos g2]; rfl
    · have b4 : decide ((L.length : Int) < (A.length : Int)) = false := decide_eq_false (by omega)
      have b5 : decide (n < 0) = false := decide_eq_false (by omega)
      first | refine XWP.reg (by kernel_rfl) fun K hK => ?_ | refine XWP.seq (XWP.reg (by kernel_rfl) fun K hK => ?_) | refine XWP.reg1 (by kernel_rfl) fun K hK => ?_
      simp only [XA, XB, gateX, Nat.reduceAdd, Nat.reduceLeDiff, Nat.reduceSub, Nat.reduceMul, ↓reduceIte, Int.reduceToNat, Int.reduceLE, beq_self_eq_true, b4, b5]
      refine hK _ ?_
      first | refine XWP.cond (t := false) rfl (fun h => by cases h) (fun _ => ?_) | refine XWP.seq (XWP.cond (t := false) rfl (fun h => by cases h) (fun _ => ?_))
      refine XWP.skip ?_
      first | refine XWP.reg (by kernel_rfl) fun K hK => ?_ | refine XWP.seq (XWP.reg (by kernel_rfl) fun K hK => ?_) | refine XWP.reg1 (by kernel_rfl) fun K hK => ?_
      simp only [XA, XB, gateX, Nat.reduceAdd, Nat.reduceLeDiff, Nat.reduceSub, Nat.reduceMul, ↓reduceIte, Int.reduceToNat, Int.reduceLE, beq_self_eq_true]
      refine hK _ (XWP.ret ?_)
      try simp only [thenX_ret, inBlockX_ret]
      refine ret_go _ rfl ?_
      rw [if_neg g0, if_neg g1, if_neg g2]; rfl
theorem rclone_o (V : View) (v : Value) (l : List Rat) (h : Rats V v l) (hl : l.length ≤ 1000000) :
    SpecO Try.prog 62 [v] V fun v' V' o => (v' = .slice none 0 0 ∧ l = [] ∧ o = none) ∨ ∃ g cells c, v' = .slice (some ⟨g, 0, none⟩) l.length c ∧ o = some (g, ⟨34, cells, c * 3⟩) ∧ RowAt ratE V' cells l ∧ l.length ≤ c ∧ c ≤ maxLen := by
  obtain ⟨A, c, rfl, hc, hm⟩ := h.form
  refine (SpecO.enter Try.func62 rfl fun Γ => ?_)
  simp only [Try.ntmps62, List.map_cons, List.map_nil, List.length_cons, List.length_nil, Nat.reduceAdd, Nat.reduceSub, List.replicate_succ, List.replicate_zero, List.cons_append, List.nil_append]
  first | refine XWP.reg (by kernel_rfl) fun K hK => ?_ | refine XWP.seq (XWP.reg (by kernel_rfl) fun K hK => ?_) | refine XWP.reg1 (by kernel_rfl) fun K hK => ?_
  simp only [XA, XB, gateX, Nat.reduceAdd, Nat.reduceLeDiff, Nat.reduceSub, Nat.reduceMul, ↓reduceIte, Int.reduceToNat, Int.reduceLE, beq_self_eq_true]
  refine hK _ ?_
  refine XWP.seq ?_
  first | refine XWP.reg (by kernel_rfl) fun K hK => ?_ | refine XWP.seq (XWP.reg (by kernel_rfl) fun K hK => ?_) | refine XWP.reg1 (by kernel_rfl) fun K hK => ?_
  simp only [XA, XB, gateX, Nat.reduceAdd, Nat.reduceLeDiff, Nat.reduceSub, Nat.reduceMul, ↓reduceIte, Int.reduceToNat, Int.reduceLE, beq_self_eq_true]
  refine hK _ ?_
  refine (XWP.cond (t := A.isNone) rfl (fun hA => ?_) (fun hA => XWP.skip ?_))
  · first | refine XWP.reg (by kernel_rfl) fun K hK => ?_ | refine XWP.seq (XWP.reg (by kernel_rfl) fun K hK => ?_) | refine XWP.reg1 (by kernel_rfl) fun K hK => ?_
    simp only [XA, XB, gateX, Nat.reduceAdd, Nat.reduceLeDiff, Nat.reduceSub, Nat.reduceMul, ↓reduceIte, Int.reduceToNat, Int.reduceLE, beq_self_eq_true]
    refine hK _ (XWP.ret ?_)
    try simp only [thenX_ret, inBlockX_ret]
    refine ret_own _ none rfl (fun g r e => by cases e) ?_
    cases A with
    | some a => cases hA
    | none =>
      refine .inl ⟨rfl, ?_, rfl⟩
      rcases Nat.eq_zero_or_pos l.length with h0 | h0
      · exact List.length_eq_zero_iff.1 h0
      · obtain ⟨b, o, e⟩ := SlAt.addr h h0; cases e
  · obtain ⟨cells, hrow, hsrc⟩ := SlAt.src h
    first | refine XWP.reg (by kernel_rfl) fun K hK => ?_ | refine XWP.seq (XWP.reg (by kernel_rfl) fun K hK => ?_) | refine XWP.reg1 (by kernel_rfl) fun K hK => ?_
    refine bs_go (by kernel_rfl) #[] (by simp) (bs_zero elemT_22 zeroT_34) fun b hb1 hb2 => ?_
    simp only [XA, XB, gateX, Nat.reduceAdd, Nat.reduceLeDiff, Nat.reduceSub, Nat.reduceMul, ↓reduceIte, Int.reduceToNat, Int.reduceLE, beq_self_eq_true]
    refine ap_go elemT_22 (by kernel_rfl) zeroT_34 rfl (by omega) (n := 0) (xs := []) (own3 (by simp [upd]) rfl (Nat.le_refl _) (by omega)) (hsrc _) (by omega) (by omega) fun v' H' hres => ?_
    simp only [XA, XB, gateX, Nat.reduceAdd, Nat.reduceLeDiff, Nat.reduceSub, Nat.reduceMul, ↓reduceIte, Int.reduceToNat, Int.reduceLE, beq_self_eq_true]
    refine hK _ (XWP.ret ?_)
    try simp only [thenX_ret, inBlockX_ret]
    obtain ⟨hown, _, _⟩ := hres
    simp only [List.nil_append, Nat.zero_add] at hown
    obtain ⟨hl3, ⟨rfl, hn⟩ | ⟨g, cap, rfl, hg, hle, hcap⟩⟩ := hown
    · refine ret_own _ none rfl (fun g r e => by cases e) ?_
      exact .inl ⟨rfl, List.length_eq_zero_iff.1 hn, rfl⟩
    · refine ret_own _ (some (g, _)) rfl (fun g' r e => ?_) (.inr ⟨g, cells, cap, rfl, rfl, hrow, hle, hcap⟩)
      cases e; exact hg
end Go.Proofs.Ythoboehbadmlmaa
end
section
namespace Go.Proofs.Ythoboehbadmlmaa
def nxS (all a : List Rat) : Nat → Rat
  | 0 => 0
  | j + 1 => nxS all a j + cf a j * cf all (all.length - 1 - j)
def nxI (l a : List Rat) : Nat → List Rat
  | 0 => l
  | k + 1 => nxI l a k ++ [nxS (nxI l a k) a a.length]
def nextP (l a : List Rat) (n : Nat) : List Rat := (nxI l a n).drop l.length
theorem nxI_len (l a : List Rat) (n : Nat) : (nxI l a n).length = l.length + n := by
  induction n with
  | zero => rfl
  | succ n ih => rw [nxI, List.length_append, ih]; simp; omega
theorem nextP_len (l a : List Rat) (n : Nat) : (nextP l a n).length = n := by unfold nextP; rw [List.length_drop, nxI_len]; omega
theorem nxI_take (l a : List Rat) {k n : Nat} (h : k ≤ n) : (nxI l a n).take (l.length + k) = nxI l a k := by
  induction n with
  | zero => rw [show k = 0 by omega]; exact List.take_of_length_le (by rw [nxI_len]; omega)
  | succ n ih =>
    rcases Nat.eq_or_lt_of_le h with h1 | h1
    · rw [h1]; exact List.take_of_length_le (by rw [nxI_len]; omega)
    · rw [nxI, List.take_append_of_le_length (by rw [nxI_len]; omega)]
      exact ih (by omega)
theorem nxI_split (l a : List Rat) (n : Nat) : nxI l a n = l ++ nextP l a n := by
  have h := nxI_take l a (Nat.zero_le n)
  rw [Nat.add_zero] at h
  have := List.take_append_drop l.length (nxI l a n)
  rw [h] at this
  exact this.symm
theorem Over.nxs {D E A B : Nat} {all a : List Rat} (hD : 0 < D) (hE : 0 < E) (hl : ∀ i, Over D A (cf all i)) (hq : ∀ i, Over E B (cf a i)) (e : Nat) : ∀ k, k ≤ 2 ^ e → Over (D * E) (A + B + e) (nxS all a k) := by
  have key : ∀ m k, k ≤ 2 ^ m → ∀ s, Over (D * E) (A + B + m) (Sm (fun j => cf a (s + j) * cf all (all.length - 1 - (s + j))) k) := by
    intro m
    induction m with
    | zero =>
      intro k hk s
      have : k = 0 ∨ k = 1 := by omega
      rcases this with rfl | rfl
      · exact Over.zero _ _
      · have h := (hl (all.length - 1 - (s + 0))).mul (hq (s + 0))
        have e1 : Sm (fun j => cf a (s + j) * cf all (all.length - 1 - (s + j))) 1 = cf all (all.length - 1 - (s + 0)) * cf a (s + 0) := by
          simp only [Sm]; grind
        rw [e1]; exact h
    | succ m ih =>
      intro k hk s
      have h1 := ih (min k (2 ^ m)) (Nat.min_le_right _ _) s
      have h2 := ih (k - 2 ^ m) (by rw [Nat.pow_succ] at hk; omega) (s + min k (2 ^ m))
      have h3 := h1.add (Nat.mul_pos hD hE) h2
      have e1 : ∀ (f : Nat → Rat) (x y : Nat), Sm f (x + y) = Sm f x + Sm (fun j => f (x + j)) y := by
        intro f x y
        induction y with
        | zero => simp only [Sm, Nat.add_zero]; grind
        | succ y ih => rw [← Nat.add_assoc]; simp only [Sm, ih]; grind
      have e2 := e1 (fun j => cf a (s + j) * cf all (all.length - 1 - (s + j))) (min k (2 ^ m)) (k - 2 ^ m)
      rw [show min k (2 ^ m) + (k - 2 ^ m) = k by omega] at e2
      have e3 : (fun j => cf a (s + (min k (2 ^ m) + j)) * cf all (all.length - 1 - (s + (min k (2 ^ m) + j)))) = fun j => cf a (s + min k (2 ^ m) + j) * cf all (all.length - 1 - (s + min k (2 ^ m) + j)) := by
        funext j; rw [Nat.add_assoc]
      rw [e3] at e2
      rw [e2]; exact h3
  intro k hk
  have e1 : ∀ k, nxS all a k = Sm (fun j => cf a (0 + j) * cf all (all.length - 1 - (0 + j))) k := by
    intro k
    induction k with
    | zero => rfl
    | succ k ih => simp only [nxS, Sm, ih, Nat.zero_add]
  rw [e1]; exact key e k hk 0
theorem nxS_QB {C B e : Nat} {all a : List Rat} (hl : CB C all) (ha : CB B a) {k : Nat} (hk : k ≤ 2 ^ e) : QB (C + B + e) (nxS all a k) := by
  obtain ⟨D, d1, d2, d3⟩ := hl
  obtain ⟨E, e1, e2, e3⟩ := ha
  exact (Over.nxs d1 e1 d3 e3 e k hk).qb (Nat.le_trans (two_mul_le d2 e2) (two_mono (by omega)))
theorem nx_CB {C B e : Nat} {l a : List Rat} (hl : CB C l) (ha : CB B a) (he : a.length ≤ 2 ^ e) (n : Nat) : CB (C + n * (B + e)) (nxI l a n) := by
  induction n with
  | zero => exact hl.mono (by omega)
  | succ n ih =>
    obtain ⟨D, d1, d2, d3⟩ := ih
    obtain ⟨E, e1, e2, e3⟩ := ha
    have hm : C + n * (B + e) + B + e = C + (n + 1) * (B + e) := by rw [Nat.add_mul]; omega
    refine ⟨D * E, Nat.mul_pos d1 e1, Nat.le_trans (two_mul_le d2 e2) (two_mono (by omega)), fun i => ?_⟩
    rw [nxI, ← hm]
    rcases Nat.lt_or_ge i (nxI l a n).length with h | h
    · rw [cf_append_left h]
      exact ((d3 i).scale e1 e2).mono (by omega)
    · rw [cf_append_right h]
      by_cases h0 : i - (nxI l a n).length = 0
      · rw [h0]
        exact Over.nxs d1 e1 d3 e3 e _ he
      · rw [cf_none (by simp; omega)]; exact Over.zero _ _
end Go.Proofs.Ythoboehbadmlmaa
end
section
namespace Go.Proofs.Ythoboehbadmlmaa
open Go Go.RowKit
set_option linter.unusedSimpArgs false
set_option linter.unusedVariables false
attribute [local irreducible] XWP Spec SpecO XPub XCall seqX clX apX stX ldX iaX slX
theorem rowQ_load {H : Heap} {V : View} {b e tot : Nat} {cells : List Value} {xs : List Rat} (hr : H b = some ⟨e, cells, tot⟩) (h : RowAt ratE V cells xs) (i : Nat) (hi : i < xs.length) : ∃ m n d, RatC V (.agg #[m, n, d]) (cf xs i) ∧ (isOne m = true ∧ isOne n = true ∧ isOne d = true) ∧ Loads Try.prog H V 34 b (i * 3) (.agg #[m, n, d]) := by
  obtain ⟨v, h1, ⟨m, n, d, rfl, o1⟩, h2⟩ := RowAt.load hr h i hi
  rw [cf_get hi] at h1
  exact ⟨m, n, d, h1, o1, h2⟩
/-- nothing there, and a row that is owned -/
theorem own_addRow {V : View} {v : Value} {l : List Rat} {o : Option (Nat × Row)} (h : (v = .slice none 0 0 ∧ l = [] ∧ o = none) ∨ ∃ g cells c, v = .slice (some ⟨g, 0, none⟩) l.length c ∧ o = some (g, ⟨34, cells, c * 3⟩) ∧ RowAt ratE V cells l ∧ l.length ≤ c ∧ c ≤ maxLen) :
    ∃ cells, Own (addRow (fun _ => none) o) 34 3 v l.length cells ∧ RowAt ratE V cells l := by
  rcases h with ⟨rfl, rfl, rfl⟩ | ⟨g, cells, c, rfl, rfl, h1, h2, h3⟩
  · exact ⟨[], ⟨rfl, .inl ⟨rfl, rfl⟩⟩, RowAt.nil _⟩
  · exact ⟨cells, own3 (show upd (fun _ => none) g (some _) g = some _ from upd_at _ _ _) h1.1 h2 (by unfold maxLen at h3; omega), h1⟩
theorem RowAt.drop {α : Type} {E : View → Value → α → Prop} {V : View} {cells : List Value} {xs : List α} (h : RowAt E V cells xs) (k : Nat) : RowAt E V (cells.drop (k * 3)) (xs.drop k) := by
  refine ⟨by rw [List.length_drop, List.length_drop, h.1]; omega, fun i x hi => ?_⟩
  rw [List.getElem?_drop] at hi
  obtain ⟨m, n, d, g1, g2, g3, r⟩ := h.2 (k + i) x hi
  refine ⟨m, n, d, ?_, ?_, ?_, r⟩
  · show (cells.drop (k * 3))[i * 3]? = _
    rw [List.getElem?_drop, show k * 3 + i * 3 = (k + i) * 3 by omega]; exact g1
  · show (cells.drop (k * 3))[i * 3 + 1]? = _
    rw [List.getElem?_drop, show k * 3 + (i * 3 + 1) = (k + i) * 3 + 1 by omega]; exact g2
  · show (cells.drop (k * 3))[i * 3 + 2]? = _
    rw [List.getElem?_drop, show k * 3 + (i * 3 + 2) = (k + i) * 3 + 2 by omega]; exact g3
theorem src_drop {α : Type} {E : View → Value → α → Prop} {H : Heap} {V : View} {b e tot n c k : Nat} {cells : List Value} {xs : List α} (h : RowAt E V cells xs) (hr : H b = some ⟨e, cells, tot⟩) (hn : xs.length = n) (hk : k ≤ n) (hc : n ≤ c) :
    Src H V 3 (sliceV (some ⟨b, 0, none⟩) c 3 k n) (n - k) (cells.drop (k * 3)) := by
  obtain ⟨_, _, _, h1, h2, _⟩ := h.src (c := c) hr hn
  unfold sliceV
  refine ⟨_, c - k, rfl, by rw [List.length_drop, h1]; omega, fun u hu => h2 u (List.mem_of_mem_drop hu), ?_⟩
  by_cases hck : c = k
  · exact .inl (by omega)
  · refine .inr ⟨b, 0 + k * 3, ?_, fun j u hj => .inl ⟨_, hr, ?_⟩⟩
    · rw [if_neg hck, Option.map_some, addr_add]
    · rw [List.getElem?_drop] at hj
      rw [Nat.zero_add]; exact hj
theorem src_nil3 {H : Heap} {V : View} (k : Nat) : Src H V 3 (sliceV none 0 3 k 0) 0 [] :=
  ⟨_, 0 - k, by unfold sliceV; rw [Nat.zero_sub], rfl, fun u hu => (by cases hu), .inl rfl⟩
theorem listsE_zero {L A : List Raw} {N : Int} (h : listsE L A N = 0) : okR L = true ∧ okR A = true ∧ L.length ≤ 400 ∧ A.length ≤ L.length ∧ 0 ≤ N ∧ N ≤ 400 := by
  unfold listsE at h
  split at h
  · cases h
  · rename_i h1
    split at h
    · cases h
    · split at h
      · cases h
      · refine ⟨?_, ?_, by omega, by omega, by omega, by omega⟩
        · cases hk : okR L
          · exact absurd (.inl hk) h1
          · rfl
        · cases hk : okR A
          · exact absurd (.inr hk) h1
          · rfl
theorem cnext_c (V : View) (v u : Value) (L A : List Raw) (N : Int) (hv : Raws V v L) (hu : Raws V u A) (fL : fitR L) (fA : fitR A) (lL : L.length ≤ 1000000) (lA : A.length ≤ 1000000) (C B : Nat)
    (hC : listsE L A N = 0 → CB C (nxI (qs L) (qs A) N.toNat) ∧ CB B (qs A)) (hfit : C + B + 10 ≤ 17592186044416) :
    Spec Try.prog 15 [v, u, .int .i64 N] V fun v' V' => (listsE L A N ≠ 0 → v' = .tuple #[.slice none 0 0, .int .i64 (listsE L A N)]) ∧ (listsE L A N = 0 → ∃ w, v' = .tuple #[w, .int .i64 0] ∧ Rats V' w (nextP (qs L) (qs A) N.toNat)) := by
  obtain ⟨A1, c1, rfl, hc1, hm1⟩ := hv.form
  obtain ⟨A2, c2, rfl, hc2, hm2⟩ := hu.form
  refine (Spec.enter Try.func15 rfl fun Γ => ?_)
  simp only [Try.ntmps15, List.map_cons, List.map_nil, List.length_cons, List.length_nil, Nat.reduceAdd, Nat.reduceSub, List.replicate_succ, List.replicate_zero, List.cons_append, List.nil_append]
  first | refine XWP.reg (by kernel_rfl) fun K hK => ?_ | refine XWP.seq (XWP.reg (by kernel_rfl) fun K hK => ?_) | refine XWP.reg1 (by kernel_rfl) fun K hK => ?_
  simp only [XA, XB, gateX, Nat.reduceAdd, Nat.reduceLeDiff, Nat.reduceSub, Nat.reduceMul, ↓reduceIte, Int.reduceToNat, Int.reduceLE, beq_self_eq_true]
  refine hK _ ?_
  refine XWP.seq ?_
  first | refine XWP.reg (by kernel_rfl) fun K hK => ?_ | refine XWP.seq (XWP.reg (by kernel_rfl) fun K hK => ?_) | refine XWP.reg1 (by kernel_rfl) fun K hK => ?_
  simp only [XA, XB, gateX, Nat.reduceAdd, Nat.reduceLeDiff, Nat.reduceSub, Nat.reduceMul, ↓reduceIte, Int.reduceToNat, Int.reduceLE, beq_self_eq_true]
  refine call_go (by kernel_rfl) rfl (lists_c _ _ _ L A N hv hu fL fA lL lA) fun v1 V1 hV1 h1 => ?_
  subst h1
  simp only [XA, XB, gateX, Nat.reduceAdd, Nat.reduceLeDiff, Nat.reduceSub, Nat.reduceMul, ↓reduceIte, Int.reduceToNat, Int.reduceLE, beq_self_eq_true]
  refine hK _ ?_
  by_cases he : listsE L A N = 0
  rotate_left
  · have b1 : (!decide (listsE L A N = 0)) = true := by rw [decide_eq_false he]; rfl
    first | refine XWP.reg (by kernel_rfl) fun K hK => ?_ | refine XWP.seq (XWP.reg (by kernel_rfl) fun K hK => ?_) | refine XWP.reg1 (by kernel_rfl) fun K hK => ?_
    simp only [XA, XB, gateX, Nat.reduceAdd, Nat.reduceLeDiff, Nat.reduceSub, Nat.reduceMul, ↓reduceIte, Int.reduceToNat, Int.reduceLE, beq_self_eq_true, b1]
    refine hK _ ?_
    first | refine XWP.cond (t := true) rfl (fun _ => ?_) (fun h => by cases h) | refine XWP.seq (XWP.cond (t := true) rfl (fun _ => ?_) (fun h => by cases h))
    first | refine XWP.reg (by kernel_rfl) fun K hK => ?_ | refine XWP.seq (XWP.reg (by kernel_rfl) fun K hK => ?_) | refine XWP.reg1 (by kernel_rfl) fun K hK => ?_
    simp only [XA, XB, gateX, Nat.reduceAdd, Nat.reduceLeDiff, Nat.reduceSub, Nat.reduceMul, ↓reduceIte, Int.reduceToNat, Int.reduceLE, beq_self_eq_true]
    refine hK _ (XWP.ret ?_)
    try simp only [thenX_ret, inBlockX_ret]
    refine ret_go _ rfl ?_
    exact ⟨fun _ => rfl, fun h => absurd h he⟩
  have b1 : (!decide (listsE L A N = 0)) = false := by rw [decide_eq_true he]; rfl
  first | refine XWP.reg (by kernel_rfl) fun K hK => ?_ | refine XWP.seq (XWP.reg (by kernel_rfl) fun K hK => ?_) | refine XWP.reg1 (by kernel_rfl) fun K hK => ?_
  simp only [XA, XB, gateX, Nat.reduceAdd, Nat.reduceLeDiff, Nat.reduceSub, Nat.reduceMul, ↓reduceIte, Int.reduceToNat, Int.reduceLE, beq_self_eq_true, b1]
  refine hK _ ?_
  first | refine XWP.cond (t := false) rfl (fun h => by cases h) (fun _ => ?_) | refine XWP.seq (XWP.cond (t := false) rfl (fun h => by cases h) (fun _ => ?_))
  refine XWP.skip ?_
  have hC := hC he
  obtain ⟨k1, k2, k3, k4, k5, k6⟩ := listsE_zero he
  have hl := (Raws.rats hv k1).up hV1
  have ha := (Raws.rats hu k2).up hV1
  have el := qs_len L
  have ea := qs_len A
  obtain ⟨N, rfl⟩ : ∃ n : Nat, N = n := ⟨N.toNat, by omega⟩
  rw [Int.toNat_natCast] at *
  generalize listsE L A N = E at he
  generalize qs L = l at *
  generalize qs A = a at *
  obtain ⟨hCl, hCa⟩ := hC
  have hCi : ∀ i, i ≤ N → CB C (nxI l a i) := fun i hi => by rw [← nxI_take l a hi]; exact hCl.take _
  refine XWP.cut (fun s => ∃ (V5 : View) (H5 : Heap) (w : Value) (cells : List Value), StIs (fun τ => [.v (.slice A1 L.length c1), .v (.slice A2 A.length c2), .v (.int .i64 (N : Int)), τ 3, τ 4, τ 5, τ 6, τ 7, τ 8, .v w, τ 10, τ 11, τ 12, τ 13, τ 14, τ 15, τ 16, τ 17, τ 18, τ 19, τ 20, τ 21, τ 22, τ 23, τ 24, τ 25, τ 26, τ 27, τ 28, τ 29, τ 30, τ 31, τ 32, τ 33, τ 34, τ 35, τ 36, τ 37, τ 38, τ 39, τ 40, τ 41, τ 42, τ 43, τ 44, τ 45, τ 46, τ 47, τ 48, τ 49, τ 50, τ 51, τ 52, τ 53, τ 54, τ 55, τ 56]) [] H5 V5 s ∧ V1.le V5 ∧ Own H5 34 3 w l.length cells ∧ RowAt ratE V5 cells l) ?_ ?_
  · first | refine XWP.reg (by kernel_rfl) fun K hK => ?_ | refine XWP.seq (XWP.reg (by kernel_rfl) fun K hK => ?_) | refine XWP.reg1 (by kernel_rfl) fun K hK => ?_
    simp only [XA, XB, gateX, Nat.reduceAdd, Nat.reduceLeDiff, Nat.reduceSub, Nat.reduceMul, ↓reduceIte, Int.reduceToNat, Int.reduceLE, beq_self_eq_true]
    refine call_own (by kernel_rfl) rfl (rclone_o _ _ l hl (by omega)) fun v5 V5 o5 hV5 hs5 h5 => ?_
    obtain ⟨cells, h6, h7⟩ := own_addRow h5
    simp only [XA, XB, gateX, Nat.reduceAdd, Nat.reduceLeDiff, Nat.reduceSub, Nat.reduceMul, ↓reduceIte, Int.reduceToNat, Int.reduceLE, beq_self_eq_true]
    exact hK _ ⟨V5, _, v5, cells, StIs.of (by exact rfl), hV5, h6, h7⟩
  rintro s ⟨V5, H5, w, cells, hs, hV5, hown, hrow⟩
  obtain ⟨z, rfl⟩ := hs.out
  try dsimp only
  refine XWP.cutD 0 (fun s => ∃ (V6 : View) (H6 : Heap) (w : Value) (cells : List Value), StIs (fun τ => [.v (.slice A1 L.length c1), .v (.slice A2 A.length c2), .v (.int .i64 (N : Int)), τ 3, τ 4, τ 5, τ 6, τ 7, τ 8, .v w, τ 10, τ 11, τ 12, τ 13, τ 14, τ 15, τ 16, τ 17, τ 18, τ 19, τ 20, τ 21, τ 22, τ 23, τ 24, τ 25, τ 26, τ 27, τ 28, τ 29, τ 30, τ 31, τ 32, τ 33, τ 34, τ 35, τ 36, τ 37, τ 38, τ 39, τ 40, τ 41, τ 42, τ 43, τ 44, τ 45, τ 46, τ 47, τ 48, τ 49, τ 50, τ 51, τ 52, τ 53, τ 54, τ 55, τ 56]) [] H6 V6 s ∧ V1.le V6 ∧ Own H6 34 3 w (l.length + N) cells ∧ RowAt ratE V6 cells (nxI l a N)) ?_ ?_
  · first | refine XWP.reg (by kernel_rfl) fun K hK => ?_ | refine XWP.seq (XWP.reg (by kernel_rfl) fun K hK => ?_) | refine XWP.reg1 (by kernel_rfl) fun K hK => ?_
    simp only [XA, XB, gateX, Nat.reduceAdd, Nat.reduceLeDiff, Nat.reduceSub, Nat.reduceMul, ↓reduceIte, Int.reduceToNat, Int.reduceLE, beq_self_eq_true]
    refine hK _ ?_
    clear hK
    first | refine XWP.block ?_ | refine XWP.seq (XWP.block ?_)
    refine XWP.loopD 0 (fun m s => ∃ (i : Nat) (V6 : View) (H6 : Heap) (w : Value) (cells : List Value), StIs (fun τ => [.v (.slice A1 L.length c1), .v (.slice A2 A.length c2), .v (.int .i64 (N : Int)), τ 3, τ 4, τ 5, τ 6, τ 7, τ 8, .v w, τ 10, τ 11, τ 12, τ 13, τ 14, τ 15, τ 16, τ 17, τ 18, τ 19, τ 20, τ 21, .v (.int .i64 (N : Int)), .v (.int .i64 (i : Int)), τ 24, τ 25, τ 26, τ 27, τ 28, τ 29, τ 30, τ 31, τ 32, τ 33, τ 34, τ 35, τ 36, τ 37, τ 38, τ 39, τ 40, τ 41, τ 42, τ 43, τ 44, τ 45, τ 46, τ 47, τ 48, τ 49, τ 50, τ 51, τ 52, τ 53, τ 54, τ 55, τ 56]) [] H6 V6 s ∧ V1.le V6 ∧ m + i = N ∧ Own H6 34 3 w (l.length + i) cells ∧ RowAt ratE V6 cells (nxI l a i)) N ⟨0, V5, H5, w, cells, StIs.of (by exact rfl), hV5, by omega, hown, hrow⟩ ?_
    clear hs z hown hrow
    rintro m s ⟨i, V6, H6, w, cells, hs, hV6, hm, hown, hrow⟩
    obtain ⟨z, rfl⟩ := hs.out
    try dsimp only
    by_cases hi : i < N
    rotate_left
    · obtain rfl : i = N := by omega
      have b2 : decide ((i : Int) < (i : Int)) = false := decide_eq_false (by omega)
      first | refine XWP.reg (by kernel_rfl) fun K hK => ?_ | refine XWP.seq (XWP.reg (by kernel_rfl) fun K hK => ?_) | refine XWP.reg1 (by kernel_rfl) fun K hK => ?_
      simp only [XA, XB, gateX, Nat.reduceAdd, Nat.reduceLeDiff, Nat.reduceSub, Nat.reduceMul, ↓reduceIte, Int.reduceToNat, Int.reduceLE, beq_self_eq_true, b2]
      refine hK _ ?_
      first | refine XWP.cond (t := false) rfl (fun h => by cases h) (fun _ => ?_) | refine XWP.seq (XWP.cond (t := false) rfl (fun h => by cases h) (fun _ => ?_))
      refine XWP.exit ?_
      exact fun f => ⟨V6, H6, w, cells, StIs.of (by exact rfl), hV6, hown, hrow⟩
    have b2 : decide ((i : Int) < (N : Int)) = true := decide_eq_true (by omega)
    first | refine XWP.reg (by kernel_rfl) fun K hK => ?_ | refine XWP.seq (XWP.reg (by kernel_rfl) fun K hK => ?_) | refine XWP.reg1 (by kernel_rfl) fun K hK => ?_
    simp only [XA, XB, gateX, Nat.reduceAdd, Nat.reduceLeDiff, Nat.reduceSub, Nat.reduceMul, ↓reduceIte, Int.reduceToNat, Int.reduceLE, beq_self_eq_true, b2]
    refine hK _ ?_
    first | refine XWP.cond (t := true) rfl (fun _ => ?_) (fun h => by cases h) | refine XWP.seq (XWP.cond (t := true) rfl (fun _ => ?_) (fun h => by cases h))
    refine XWP.skip ?_
    refine XWP.seq ?_
    first | refine XWP.block ?_ | refine XWP.seq (XWP.block ?_)
    first | refine XWP.reg (by kernel_rfl) fun K hK => ?_ | refine XWP.seq (XWP.reg (by kernel_rfl) fun K hK => ?_) | refine XWP.reg1 (by kernel_rfl) fun K hK => ?_
    simp only [XA, XB, gateX, Nat.reduceAdd, Nat.reduceLeDiff, Nat.reduceSub, Nat.reduceMul, ↓reduceIte, Int.reduceToNat, Int.reduceLE, beq_self_eq_true]
    refine call_go (by kernel_rfl) rfl (qzero_c _) fun v7 V7 hV7 h7 => ?_
    obtain ⟨x7, y7, rfl, o1, o2⟩ := h7.form
    simp only [XA, XB, gateX, Nat.reduceAdd, Nat.reduceLeDiff, Nat.reduceSub, Nat.reduceMul, ↓reduceIte, Int.reduceToNat, Int.reduceLE, beq_self_eq_true]
    refine st_rat rfl rfl rfl o1 o2 ?_
    simp only [XA, XB, gateX, Nat.reduceAdd, Nat.reduceLeDiff, Nat.reduceSub, Nat.reduceMul, ↓reduceIte, Int.reduceToNat, Int.reduceLE, beq_self_eq_true]
    refine hK _ ?_
    clear hK
    have hCi' := hCi i (by omega)
    have hlen := nxI_len l a i
    obtain ⟨all, hall⟩ : ∃ all, all = nxI l a i := ⟨_, rfl⟩
    rw [← hall] at hrow hCi' hlen
    have hS : ∀ k, k ≤ 512 → QF (nxS all a k) := fun k hk => (nxS_QB (e := 9) hCi' hCa hk).qf (by omega)
    have hT : ∀ j, QF (cf a j * cf all (all.length - 1 - j)) := fun j => ((hCa.at j).mul (hCi'.at _)).qf (by omega)
    refine XWP.cutD 1 (fun s => ∃ (V8 : View) (m : Bool) (x y : Value), StIs (fun τ => [.v (.slice A1 L.length c1), .v (.slice A2 A.length c2), .v (.int .i64 (N : Int)), τ 3, τ 4, τ 5, τ 6, τ 7, τ 8, .v w, .p 0 0, τ 11, τ 12, τ 13, τ 14, τ 15, τ 16, τ 17, τ 18, τ 19, τ 20, τ 21, .v (.int .i64 (N : Int)), .v (.int .i64 (i : Int)), τ 24, τ 25, τ 26, τ 27, τ 28, τ 29, τ 30, τ 31, τ 32, τ 33, τ 34, τ 35, τ 36, τ 37, τ 38, τ 39, τ 40, τ 41, τ 42, τ 43, τ 44, τ 45, τ 46, τ 47, τ 48, τ 49, τ 50, τ 51, τ 52, τ 53, τ 54, τ 55, τ 56]) [[.bool m, x, y]] H6 V8 s ∧ V6.le V8 ∧ RatC V8 (.agg #[.bool m, x, y]) (nxS all a A.length) ∧ isOne x = true ∧ isOne y = true) ?_ ?_
    · first | refine XWP.reg (by kernel_rfl) fun K hK => ?_ | refine XWP.seq (XWP.reg (by kernel_rfl) fun K hK => ?_) | refine XWP.reg1 (by kernel_rfl) fun K hK => ?_
      simp only [XA, XB, gateX, Nat.reduceAdd, Nat.reduceLeDiff, Nat.reduceSub, Nat.reduceMul, ↓reduceIte, Int.reduceToNat, Int.reduceLE, beq_self_eq_true]
      refine hK _ ?_
      clear hK
      first | refine XWP.block ?_ | refine XWP.seq (XWP.block ?_)
      refine XWP.loopD 1 (fun r s => ∃ (j : Nat) (V8 : View) (m : Bool) (x y : Value), StIs (fun τ => [.v (.slice A1 L.length c1), .v (.slice A2 A.length c2), .v (.int .i64 (N : Int)), τ 3, τ 4, τ 5, τ 6, τ 7, τ 8, .v w, .p 0 0, τ 11, τ 12, τ 13, τ 14, τ 15, τ 16, τ 17, τ 18, τ 19, τ 20, τ 21, .v (.int .i64 (N : Int)), .v (.int .i64 (i : Int)), τ 24, τ 25, .v (.slice A2 A.length c2), .v (.int .i64 (A.length : Int)), .v (.int .i64 (j : Int)), τ 29, τ 30, τ 31, τ 32, τ 33, τ 34, τ 35, τ 36, τ 37, τ 38, τ 39, τ 40, τ 41, τ 42, τ 43, τ 44, τ 45, τ 46, τ 47, τ 48, τ 49, τ 50, τ 51, τ 52, τ 53, τ 54, τ 55, τ 56]) [[.bool m, x, y]] H6 V8 s ∧ V6.le V8 ∧ r + j = A.length ∧ RatC V8 (.agg #[.bool m, x, y]) (nxS all a j) ∧ isOne x = true ∧ isOne y = true) A.length ⟨0, V7, _, x7, y7, StIs.of (by exact rfl), hV7, by omega, h7, o1, o2⟩ ?_
      clear h7 o1 o2
      rintro r s ⟨j, V8, m', x, y, hs, hV8, hr, h8, o1, o2⟩
      obtain ⟨z, rfl⟩ := hs.out
      try dsimp only
      by_cases hj : j < A.length
      rotate_left
      · obtain rfl : j = A.length := by omega
        have b3 : decide ((A.length : Int) < (A.length : Int)) = false := decide_eq_false (by omega)
        first | refine XWP.reg (by kernel_rfl) fun K hK => ?_ | refine XWP.seq (XWP.reg (by kernel_rfl) fun K hK => ?_) | refine XWP.reg1 (by kernel_rfl) fun K hK => ?_
        simp only [XA, XB, gateX, Nat.reduceAdd, Nat.reduceLeDiff, Nat.reduceSub, Nat.reduceMul, ↓reduceIte, Int.reduceToNat, Int.reduceLE, beq_self_eq_true, b3]
        refine hK _ ?_
        first | refine XWP.cond (t := false) rfl (fun h => by cases h) (fun _ => ?_) | refine XWP.seq (XWP.cond (t := false) rfl (fun h => by cases h) (fun _ => ?_))
        refine XWP.exit ?_
        exact fun f => ⟨V8, m', x, y, StIs.of (by exact rfl), hV8, h8, o1, o2⟩
      have b3 : decide ((j : Int) < (A.length : Int)) = true := decide_eq_true (by omega)
      first | refine XWP.reg (by kernel_rfl) fun K hK => ?_ | refine XWP.seq (XWP.reg (by kernel_rfl) fun K hK => ?_) | refine XWP.reg1 (by kernel_rfl) fun K hK => ?_
      simp only [XA, XB, gateX, Nat.reduceAdd, Nat.reduceLeDiff, Nat.reduceSub, Nat.reduceMul, ↓reduceIte, Int.reduceToNat, Int.reduceLE, beq_self_eq_true, b3]
      refine hK _ ?_
      first | refine XWP.cond (t := true) rfl (fun _ => ?_) (fun h => by cases h) | refine XWP.seq (XWP.cond (t := true) rfl (fun _ => ?_) (fun h => by cases h))
      refine XWP.skip ?_
      refine XWP.seq ?_
      first | refine XWP.block ?_ | refine XWP.seq (XWP.block ?_)
      have ha8 := ha.up (View.le_trans hV6 hV8)
      obtain ⟨b, o, rfl⟩ := SlAt.addr ha8 (by omega)
      obtain ⟨m3, n3, d3, hx3, ⟨p1, p2, p3⟩, hld3⟩ := Rats.get ha8 j (by omega)
      first | refine XWP.reg (by kernel_rfl) fun K hK => ?_ | refine XWP.seq (XWP.reg (by kernel_rfl) fun K hK => ?_) | refine XWP.reg1 (by kernel_rfl) fun K hK => ?_
      simp only [XA, XB, gateX, Nat.reduceAdd, Nat.reduceLeDiff, Nat.reduceSub, Nat.reduceMul, ↓reduceIte, Int.reduceToNat, Int.reduceLE, beq_self_eq_true]
      refine ⟨by omega, by omega, ld_mem (hld3 _) ?_⟩
      simp only [XA, XB, gateX, Nat.reduceAdd, Nat.reduceLeDiff, Nat.reduceSub, Nat.reduceMul, ↓reduceIte, Int.reduceToNat, Int.reduceLE, beq_self_eq_true]
      refine st_rat rfl rfl p1 p2 p3 ?_
      simp only [XA, XB, gateX, Nat.reduceAdd, Nat.reduceLeDiff, Nat.reduceSub, Nat.reduceMul, ↓reduceIte, Int.reduceToNat, Int.reduceLE, beq_self_eq_true]
      refine hK _ ?_
      rcases own_parts hown with ⟨_, h0, _⟩ | ⟨g, cap, rfl, hg, hle, hcap, hcl⟩
      · omega
      have w1 := i64_pred (l.length + i) (by omega) (by omega)
      have w2 := i64_sub (l.length + i - 1) j (by omega) (by omega)
      have hrow8 := hrow.mono ratE_ok hV8
      obtain ⟨m4, n4, d4, hx4, ⟨r1, r2, r3⟩, hld4⟩ := rowQ_load hg hrow8 (l.length + i - 1 - j) (by omega)
      (first | refine XWP.drw [0, 1, 2, 3, 4, 5, 6, 7, 8, 9, 10, 11, 12] (by kernel_rfl) (by kernel_rfl) (by kernel_rfl) fun K hK => ?_ | refine XWP.seq (XWP.drw [0, 1, 2, 3, 4, 5, 6, 7, 8, 9, 10, 11, 12] (by kernel_rfl) (by kernel_rfl) (by kernel_rfl) fun K hK => ?_) | refine XWP.drw1 [0, 1, 2, 3, 4, 5, 6, 7, 8, 9, 10, 11, 12] (by kernel_rfl) (by kernel_rfl) (by kernel_rfl) fun K hK => ?_) <;> dsimp only [pickOps, List.getElem?_cons_zero, List.getElem?_cons_succ]
      simp only [XA, XB, gateX, Nat.reduceAdd, Nat.reduceLeDiff, Nat.reduceSub, Nat.reduceMul, ↓reduceIte, Int.reduceToNat, Int.reduceLE, beq_self_eq_true, w1, w2]
      refine ⟨by omega, by omega, ?_⟩
      refine ld_mem hld4 ?_
      simp only [XA, XB, gateX, Nat.reduceAdd, Nat.reduceLeDiff, Nat.reduceSub, Nat.reduceMul, ↓reduceIte, Int.reduceToNat, Int.reduceLE, beq_self_eq_true]
      refine call_go (by kernel_rfl) rfl (qmul_c _ _ _ _ _ hx3 hx4 ((hCa.at _).qf (by omega)) ((hCi'.at _).qf (by omega))) fun v9 V9 hV9 h9 => ?_
      simp only [XA, XB, gateX, Nat.reduceAdd, Nat.reduceLeDiff, Nat.reduceSub, Nat.reduceMul, ↓reduceIte, Int.reduceToNat, Int.reduceLE, beq_self_eq_true]
      refine call_go (by kernel_rfl) rfl (qadd_c _ _ _ _ _ (h8.mono hV9) h9 (hS j (by omega)) (by have := hT j; rw [hlen] at this; exact this)) fun v10 V10 hV10 h10 => ?_
      obtain ⟨x10, y10, rfl, o6, o7⟩ := h10.form
      simp only [XA, XB, gateX, Nat.reduceAdd, Nat.reduceLeDiff, Nat.reduceSub, Nat.reduceMul, ↓reduceIte, Int.reduceToNat, Int.reduceLE, beq_self_eq_true]
      refine st_rat rfl rfl rfl o6 o7 ?_
      simp only [XA, XB, gateX, Nat.reduceAdd, Nat.reduceLeDiff, Nat.reduceSub, Nat.reduceMul, ↓reduceIte, Int.reduceToNat, Int.reduceLE, beq_self_eq_true]
      refine hK _ ?_
      first | refine XWP.reg (by kernel_rfl) fun K hK => ?_ | refine XWP.seq (XWP.reg (by kernel_rfl) fun K hK => ?_) | refine XWP.reg1 (by kernel_rfl) fun K hK => ?_
      simp only [XA, XB, gateX, Nat.reduceAdd, Nat.reduceLeDiff, Nat.reduceSub, Nat.reduceMul, ↓reduceIte, Int.reduceToNat, Int.reduceLE, beq_self_eq_true, i64_succ j (by omega)]
      exact hK _ ⟨r - 1, by omega, fun f => ⟨j + 1, V10, _, x10, y10, StIs.of (by exact rfl), View.le_trans hV8 (View.le_trans hV9 hV10), by omega, by rw [nxS, hlen]; exact h10, o6, o7⟩⟩
    clear h7 o1 o2
    rintro s ⟨V8, m', x, y, hs, hV8, h8, o1, o2⟩
    obtain ⟨z, rfl⟩ := hs.out
    try dsimp only
    first | refine XWP.reg (by kernel_rfl) fun K hK => ?_ | refine XWP.seq (XWP.reg (by kernel_rfl) fun K hK => ?_) | refine XWP.reg1 (by kernel_rfl) fun K hK => ?_
    simp only [XA, XB, gateX, Nat.reduceAdd, Nat.reduceLeDiff, Nat.reduceSub, Nat.reduceMul, ↓reduceIte, Int.reduceToNat, Int.reduceLE, beq_self_eq_true]
    refine bs_go (by kernel_rfl) #[(0, .agg #[.bool m', x, y])] (by simp [ev_tmp, SV.val]) (bs_rat elemT_22) fun b3 hb3 hb4 => ?_
    simp only [XA, XB, gateX, Nat.reduceAdd, Nat.reduceLeDiff, Nat.reduceSub, Nat.reduceMul, ↓reduceIte, Int.reduceToNat, Int.reduceLE, beq_self_eq_true]
    refine ap_go elemT_22 (by kernel_rfl) zeroT_34 rfl (by omega) (own_upd hown hb3) (src3 (upd_at _ _ _) rfl o1 o2) (by omega) (by omega) fun v' H' hres => ?_
    simp only [XA, XB, gateX, Nat.reduceAdd, Nat.reduceLeDiff, Nat.reduceSub, Nat.reduceMul, ↓reduceIte, Int.reduceToNat, Int.reduceLE, beq_self_eq_true]
    refine hK _ ?_
    first | refine XWP.reg (by kernel_rfl) fun K hK => ?_ | refine XWP.seq (XWP.reg (by kernel_rfl) fun K hK => ?_) | refine XWP.reg1 (by kernel_rfl) fun K hK => ?_
    simp only [XA, XB, gateX, Nat.reduceAdd, Nat.reduceLeDiff, Nat.reduceSub, Nat.reduceMul, ↓reduceIte, Int.reduceToNat, Int.reduceLE, beq_self_eq_true, i64_succ i (by omega)]
    have hrow' := (hrow.mono ratE_ok hV8).snoc (show isOne (.bool m') = true from rfl) o1 o2 h8
    rw [hall, ← ea, show nxI l a i ++ [nxS (nxI l a i) a a.length] = nxI l a (i + 1) from rfl] at hrow'
    exact hK _ ⟨m - 1, by omega, fun f => ⟨i + 1, V8, _, _, _, StIs.of (by exact rfl), View.le_trans hV6 hV8, by omega, hres.1, hrow'⟩⟩
  rintro s ⟨V6, H6, w, cells, hs, hV6, hown, hrow⟩
  obtain ⟨z, rfl⟩ := hs.out
  try dsimp only
  have hlen := nxI_len l a N
  rcases own_parts hown with ⟨rfl, h0, rfl⟩ | ⟨g, cap, rfl, hg, hle, hcap, hcl⟩
  · first | refine XWP.reg (by kernel_rfl) fun K hK => ?_ | refine XWP.seq (XWP.reg (by kernel_rfl) fun K hK => ?_) | refine XWP.reg1 (by kernel_rfl) fun K hK => ?_
    refine bs_go (by kernel_rfl) #[] (by simp) (bs_zero elemT_22 zeroT_34) fun b hb1 hb2 => ?_
    simp only [XA, XB, gateX, Nat.reduceAdd, Nat.reduceLeDiff, Nat.reduceSub, Nat.reduceMul, ↓reduceIte, Int.reduceToNat, Int.reduceLE, beq_self_eq_true]
    refine ⟨by omega, by omega, by omega, ?_⟩
    refine ap_go elemT_22 (by kernel_rfl) zeroT_34 rfl (by omega) (n := 0) (xs := []) (own3 (by simp [upd]) rfl (Nat.le_refl _) (by omega)) (src_nil3 _) (by omega) (by omega) fun v' H' hres => ?_
    simp only [XA, XB, gateX, Nat.reduceAdd, Nat.reduceLeDiff, Nat.reduceSub, Nat.reduceMul, ↓reduceIte, Int.reduceToNat, Int.reduceLE, beq_self_eq_true]
    refine hK _ (XWP.ret ?_)
    try simp only [thenX_ret, inBlockX_ret]
    have hnil : nextP l a N = [] := List.length_eq_zero_iff.1 (by rw [nextP_len]; omega)
    rcases own_parts hres.1 with ⟨rfl, _, _⟩ | ⟨g, cap, rfl, hg, hle, hcap, _⟩
    · exact ret_go _ rfl ⟨fun h => absurd he h, fun _ => ⟨_, rfl, by rw [hnil]; exact SlAt.nil _⟩⟩
    · refine ret_pub g _ hg fun o ho hle' => ret_go _ rfl ⟨fun h => absurd he h, fun _ => ⟨_, rfl, ?_⟩⟩
      rw [hnil]
      exact (RowAt.nil _).pub ratE_ok ho hle' rfl hle (by unfold maxLen at hcap; omega)
  · first | refine XWP.reg (by kernel_rfl) fun K hK => ?_ | refine XWP.seq (XWP.reg (by kernel_rfl) fun K hK => ?_) | refine XWP.reg1 (by kernel_rfl) fun K hK => ?_
    refine bs_go (by kernel_rfl) #[] (by simp) (bs_zero elemT_22 zeroT_34) fun b hb1 hb2 => ?_
    have hb1' : H6 b = none := hb1
    have hgb : g ≠ b := fun e => by subst e; rw [hg] at hb1'; cases hb1'
    simp only [XA, XB, gateX, Nat.reduceAdd, Nat.reduceLeDiff, Nat.reduceSub, Nat.reduceMul, ↓reduceIte, Int.reduceToNat, Int.reduceLE, beq_self_eq_true]
    refine ⟨by omega, by omega, by omega, ?_⟩
    refine ap_go elemT_22 (by kernel_rfl) zeroT_34 rfl (by omega) (n := 0) (xs := []) (own3 (by simp [upd]) rfl (Nat.le_refl _) (by omega)) (src_drop hrow (by simp only [upd, if_neg hgb]; exact hg) hlen (by omega) hle) (by omega) (by omega) fun v' H' hres => ?_
    simp only [XA, XB, gateX, Nat.reduceAdd, Nat.reduceLeDiff, Nat.reduceSub, Nat.reduceMul, ↓reduceIte, Int.reduceToNat, Int.reduceLE, beq_self_eq_true]
    refine hK _ (XWP.ret ?_)
    try simp only [thenX_ret, inBlockX_ret]
    have hrow' := hrow.drop L.length
    have hnx : (nxI l a N).drop L.length = nextP l a N := by unfold nextP; rw [el]
    rw [hnx] at hrow'
    have hln := nextP_len l a N
    rcases own_parts hres.1 with ⟨rfl, h0', _⟩ | ⟨g', cap', rfl, hg', hle', hcap', _⟩
    · refine ret_go _ rfl ⟨fun h => absurd he h, fun _ => ⟨_, rfl, ?_⟩⟩
      rw [List.length_eq_zero_iff.1 (show (nextP l a N).length = 0 by omega)]; exact SlAt.nil _
    · refine ret_pub g' _ hg' fun o ho hle2 => ret_go _ rfl ⟨fun h => absurd he h, fun _ => ⟨_, rfl, ?_⟩⟩
      exact hrow'.pub ratE_ok ho hle2 (by omega) hle' (by unfold maxLen at hcap'; omega)
end Go.Proofs.Ythoboehbadmlmaa
end
section
namespace Go.Proofs.Ythoboehbadmlmaa
def frQ (a : List Rat) : List Rat := [1] ++ a.map fun x => -x
theorem frQ_len (a : List Rat) : (frQ a).length = a.length + 1 := by simp [frQ]
theorem cf_frQ (a : List Rat) (j : Nat) : cf (frQ a) (j + 1) = -(cf a j) := by
  unfold frQ cf
  rw [List.getD_eq_getElem?_getD, List.getD_eq_getElem?_getD, List.singleton_append, List.getElem?_cons_succ, List.getElem?_map]
  cases a[j]? with
  | none => simp
  | some x => rfl
theorem cf_frQ0 (a : List Rat) : cf (frQ a) 0 = 1 := rfl
end Go.Proofs.Ythoboehbadmlmaa
end
section
namespace Go.Proofs.Ythoboehbadmlmaa
open Go Go.RowKit
set_option linter.unusedSimpArgs false
set_option linter.unusedVariables false
attribute [local irreducible] XWP Spec SpecO XPub XCall seqX clX apX stX ldX iaX slX
end Go.Proofs.Ythoboehbadmlmaa
end
section
namespace Go.Proofs.Ythoboehbadmlmaa
theorem nxS_Sm (all a : List Rat) (k : Nat) : nxS all a k = Sm (fun j => cf a j * cf all (all.length - 1 - j)) k := by
  induction k with
  | zero => rfl
  | succ k ih => rw [nxS, ih]; rfl
theorem cf_take (l : List Rat) (k i : Nat) : cf (l.take k) i = if i < k then cf l i else 0 := by
  by_cases hi : i < k
  · rw [if_pos hi]; unfold cf; simp [hi]
  · rw [if_neg hi]; exact cf_none (by simp; omega)
theorem cv_upto {q y z : Nat → Rat} {i : Nat} (h : ∀ j, j ≤ i → y j = z j) : cv q y i = cv q z i :=
  Sm_congr _ fun j _ => by rw [h (i - j) (by omega)]
theorem cv_front (q y : Nat → Rat) (i : Nat) : cv q y i = q 0 * y i + Sm (fun j => q (j + 1) * y (i - (j + 1))) i := by
  unfold cv
  rw [Sm_front]; rfl
/-- the next number is the one that the recurrence takes to zero -/
theorem cv_next (Y a : List Rat) (x : Rat) (hl : a.length ≤ Y.length) : cv (cf (frQ a)) (cf (Y ++ [x])) Y.length = x - nxS Y a a.length := by
  rw [cv_front, cf_frQ0, cf_append_right (Nat.le_refl _), Nat.sub_self]
  have e1 : Sm (fun j => cf (frQ a) (j + 1) * cf (Y ++ [x]) (Y.length - (j + 1))) Y.length = -1 * Sm (fun j => cf a j * cf Y (Y.length - 1 - j)) Y.length := by
    rw [← Sm_mul]
    refine Sm_congr _ fun j hj => ?_
    rw [cf_frQ, cf_append_left (by omega), show Y.length - (j + 1) = Y.length - 1 - j by omega]; grind
  have e2 : Sm (fun j => cf a j * cf Y (Y.length - 1 - j)) Y.length = nxS Y a a.length := by
    rw [nxS_Sm]
    exact Sm_more hl fun j h1 _ => by rw [cf_none h1]; grind
  rw [e1, e2, show cf [x] 0 = x from rfl]; grind
theorem cf_nxI (l a : List Rat) {n i : Nat} (h : i < l.length + n) : ∀ k, n ≤ k → cf (nxI l a k) i = cf (nxI l a n) i := fun k hk => by
  rw [← nxI_take l a hk, cf_take, if_pos h]
theorem Gen.upto {l l' q : Nat → Rat} {L n : Nat} (h : Gen l q L n) (e : ∀ i, i < n → l i = l' i) : Gen l' q L n :=
  ⟨h.1, h.2.1, fun k h1 h2 => by rw [← h.2.2 k h1 h2]; exact (cv_upto fun j hj => e j (by omega)).symm⟩
theorem nx_gen {l a : List Rat} (hl : a.length ≤ l.length) (h : Gen (cf l) (cf (frQ a)) a.length l.length) (n : Nat) : Gen (cf (nxI l a n)) (cf (frQ a)) a.length (l.length + n) := by
  induction n with
  | zero => exact h
  | succ n ih =>
    have hlen := nxI_len l a n
    have h2 : Gen (cf (nxI l a (n + 1))) (cf (frQ a)) a.length (l.length + n) := ih.upto fun i hi => (cf_nxI l a hi _ (by omega)).symm
    refine ⟨h2.1, h2.2.1, fun k h3 h4 => ?_⟩
    rcases Nat.eq_or_lt_of_le (Nat.lt_succ_iff.1 (show k < (l.length + n) + 1 by omega)) with e | e
    · have := cv_next (nxI l a n) a (nxS (nxI l a n) a a.length) (by omega)
      rw [e, ← hlen]
      show cv _ (cf (nxI l a n ++ [_])) _ = 0
      rw [this]; grind
    · exact h2.2.2 k h3 e
theorem frQ_zero (a : List Rat) (j : Nat) (h : a.length < j) : cf (frQ a) j = 0 := cf_none (by rw [frQ_len]; omega)
/-- what is generated from places enough, by a recurrence no longer than the sequence -/
theorem gen_start {l a : List Rat} (h : l.length ≤ a.length) : Gen (cf l) (cf (frQ a)) a.length l.length :=
  ⟨cf_frQ0 a, frQ_zero a, fun k h1 h2 => by omega⟩
theorem bm_frQ (l : List Rat) (i : Nat) : cf (frQ (bmOut (bmI l i))) = cf (bmI l i).q := by
  obtain ⟨h0, h1, _⟩ := bm_gen l i
  funext j
  cases j with
  | zero => rw [cf_frQ0, h0]
  | succ j =>
    rw [cf_frQ]
    unfold bmOut
    rw [cf_mk]
    split
    · grind
    · rw [h1 (j + 1) (by omega)]; grind
theorem bmOut_len (s : BM) : (bmOut s).length = s.size := mk_len _ _
theorem bm_out_gen (l : List Rat) : Gen (cf l) (cf (frQ (bmOut (bmI l l.length)))) (bmOut (bmI l l.length)).length l.length := by
  rw [bm_frQ, bmOut_len]; exact bm_gen l l.length
/-- two recurrences that generate a sequence of enough numbers go on alike -/
theorem nx_same {l a b : List Rat} (ha : Gen (cf l) (cf (frQ a)) a.length l.length) (hb : Gen (cf l) (cf (frQ b)) b.length l.length) (h : a.length + b.length ≤ l.length) (n : Nat) : nxI l a n = nxI l b n := by
  induction n with
  | zero => rfl
  | succ n ih =>
    have hlen := nxI_len l a n
    have ga := nx_gen (by omega) ha (n + 1)
    have gb := nx_gen (by omega) hb n
    rw [← ih] at gb
    have gb' : Gen (cf (nxI l a (n + 1))) (cf (frQ b)) b.length (l.length + n) := gb.upto fun i hi => (cf_nxI l a hi _ (by omega)).symm
    have hz := gen_both gb' ga (by omega)
    have hx := cv_next (nxI l a n) b (nxS (nxI l a n) a a.length) (by omega)
    rw [hlen] at hx
    have hx' : cv (cf (frQ b)) (cf (nxI l a (n + 1))) (l.length + n) = nxS (nxI l a n) a a.length - nxS (nxI l a n) b b.length := hx
    rw [hz] at hx'
    show nxI l a n ++ [_] = nxI l b n ++ [_]
    rw [← ih, show nxS (nxI l a n) a a.length = nxS (nxI l a n) b b.length by grind]
end Go.Proofs.Ythoboehbadmlmaa
end
section
namespace Go.Proofs.Ythoboehbadmlmaa
open Go Go.RowKit
set_option linter.unusedSimpArgs false
set_option linter.unusedVariables false
attribute [local irreducible] XWP Spec SpecO XPub XCall seqX clX apX stX ldX iaX slX
end Go.Proofs.Ythoboehbadmlmaa
end
section
namespace Go.Proofs.Ythoboehbadmlmaa
open Go Go.RowKit
set_option linter.unusedSimpArgs false
set_option linter.unusedVariables false
attribute [local irreducible] XWP Spec SpecO XPub XCall seqX clX apX stX ldX iaX slX
theorem lists_ok {L A : List Raw} {n : Int} (h1 : okR L = true) (h2 : okR A = true) (h3 : L.length ≤ 400) (h4 : A.length ≤ L.length) (h5 : 0 ≤ n) (h6 : n ≤ 400) : listsE L A n = 0 := by
  unfold listsE
  rw [h1, h2, if_neg (by simp), if_neg (by omega), if_neg (by omega)]
theorem bmOut_CB {B : Nat} {s : BM} (h : CB B s.q) : CB B (bmOut s) := by
  obtain ⟨D, d1, d2, d3⟩ := h
  refine ⟨D, d1, d2, fun i => ?_⟩
  unfold bmOut
  rw [cf_mk]
  split
  · exact (d3 (i + 1)).neg
  · exact Over.zero _ _
/-- how great a recurrence's numbers are -/
theorem rec_CB {B e : Nat} {l : List Rat} (hl : CB B l) (he : l.length ≤ 2 ^ e) : CB (bb (B + e) l.length) (bmOut (bmI l l.length)) :=
  bmOut_CB (bm_CB hl l.length he l.length (Nat.le_refl _)).1
def recR (L : List Raw) : Int × List Rat := if okR L = false then (1, []) else if L.length < 2 * (bmI (qs L) L.length).size then (3, []) else (0, bmOut (bmI (qs L) L.length))
theorem crec2_c (V : View) (v : Value) (L : List Raw) (B : Nat) (hv : Raws V v L) (f : fitR L) (ll : L.length ≤ 12) (hB : okR L = true → CB B (qs L)) (hfit : bb (B + 4) 12 + B + 4 + 2 ≤ 17592186044416) :
    Spec Try.prog 13 [v] V fun v' V' => ∃ w, v' = .tuple #[w, .int .i64 (recR L).1] ∧ Rats V' w (recR L).2 := by
  have hm := bb_mono (B + 4) (show L.length ≤ 12 from ll)
  refine (crec_c V v L hv f (by omega) (fun hk i hi => ?_) (fun hk => (hB hk).qf (by omega)) (fun hk i => ?_)).mono fun v' V' _ h => ?_
  · exact bm_fit (e := 4) (hB hk) (by rw [qs_len]; omega) (by rw [qs_len]; omega) i (by rw [qs_len]; omega)
  · exact ((bm_CB (e := 4) (hB hk) L.length (by omega) L.length (Nat.le_refl _)).1.at i).qf (by omega)
  · unfold recR
    obtain ⟨h1, h2, h3⟩ := h
    cases hk : okR L
    · rw [if_pos rfl]; exact ⟨_, h1 hk, SlAt.nil _⟩
    · rw [if_neg (by simp)]
      split
      · rename_i hs; exact ⟨_, h2 hk hs, SlAt.nil _⟩
      · rename_i hs; exact h3 hk (by omega)
theorem recq_c (V : View) (v : Value) (l : List Rat) (B : Nat) (hv : Rats V v l) (ll : l.length ≤ 12) (hB : CB B l) (hs : 2 * (bmI l l.length).size ≤ l.length) (hfit : bb (B + 4) 12 + B + 4 + 2 ≤ 17592186044416) :
    Spec Try.prog 13 [v] V fun v' V' => ∃ w, v' = .tuple #[w, .int .i64 0] ∧ Rats V' w (bmOut (bmI l l.length)) := by
  have e : recR (l.map toRaw) = (0, bmOut (bmI l l.length)) := by
    unfold recR
    rw [okR_toRaw, qs_toRaw, List.length_map, if_neg (by simp), if_neg (by omega)]
  refine (crec2_c V v (l.map toRaw) B (Rats.raws hv) (hB.fitR (by omega)) (by rw [List.length_map]; omega) (fun _ => by rw [qs_toRaw]; exact hB) hfit).mono fun v' V' _ h => ?_
  rw [e] at h; exact h
theorem nextq_c (V : View) (v u : Value) (l a : List Rat) (n : Nat) (C B : Nat) (hv : Rats V v l) (hu : Rats V u a) (h1 : l.length ≤ 400) (h2 : a.length ≤ l.length) (h3 : n ≤ 400) (hC : CB C (nxI l a n)) (hB : CB B a) (hfit : C + B + 10 ≤ 17592186044416) :
    Spec Try.prog 15 [v, u, .int .i64 (n : Int)] V fun v' V' => ∃ w, v' = .tuple #[w, .int .i64 0] ∧ Rats V' w (nextP l a n) := by
  have hl : CB C l := by rw [← List.take_left (l₁ := l) (l₂ := nextP l a n), ← nxI_split]; exact hC.take _
  refine (cnext_c V v u (l.map toRaw) (a.map toRaw) n (Rats.raws hv) (Rats.raws hu) (hl.fitR (by omega)) (hB.fitR (by omega)) (by rw [List.length_map]; omega) (by rw [List.length_map]; omega) C B (fun _ => by rw [qs_toRaw, qs_toRaw, Int.toNat_natCast]; exact ⟨hC, hB⟩) hfit).mono fun v' V' _ h => ?_
  have := h.2 (lists_ok (okR_toRaw _) (okR_toRaw _) (by rw [List.length_map]; omega) (by rw [List.length_map, List.length_map]; omega) (by omega) (by omega))
  rw [qs_toRaw, qs_toRaw, Int.toNat_natCast] at this
  exact this
/-- what is left of a whole number -/
theorem rem_fix (N k : Int) (h : 0 < k) (hk : k ≤ 1000) : IntKind.i64.wrap (N.tmod k + k) = N.tmod k + k ∧ ∃ n : Nat, (n : Int) < k ∧ (N.tmod k + k).tmod k = n := by
  have h1 := Int.tmod_lt_of_pos N h
  have h2 := Int.lt_tmod_of_pos N h
  refine ⟨wrap_id (by omega) (by omega), ((N.tmod k + k).tmod k).toNat, ?_, ?_⟩
  · have h3 := Int.tmod_lt_of_pos (N.tmod k + k) h
    have h4 := Int.tmod_nonneg k (show 0 ≤ N.tmod k + k by omega)
    omega
  · have h4 := Int.tmod_nonneg k (show 0 ≤ N.tmod k + k by omega)
    omega
theorem RowAt.append {α : Type} {E : View → Value → α → Prop} {V : View} {c1 c2 : List Value} {l1 l2 : List α} (h1 : RowAt E V c1 l1) (h2 : RowAt E V c2 l2) : RowAt E V (c1 ++ c2) (l1 ++ l2) := by
  have e1 := h1.1
  have e2 := h2.1
  refine ⟨by rw [List.length_append, List.length_append, e1, e2]; omega, fun i x hi => ?_⟩
  by_cases hlt : i < l1.length
  · rw [List.getElem?_append_left hlt] at hi
    obtain ⟨m, n, d, g1, g2, g3, r⟩ := h1.2 i x hi
    refine ⟨m, n, d, ?_, ?_, ?_, r⟩
    · show (c1 ++ c2)[i * 3]? = _
      rw [List.getElem?_append_left (by omega)]; exact g1
    · show (c1 ++ c2)[i * 3 + 1]? = _
      rw [List.getElem?_append_left (by omega)]; exact g2
    · show (c1 ++ c2)[i * 3 + 2]? = _
      rw [List.getElem?_append_left (by omega)]; exact g3
  · rw [List.getElem?_append_right (by omega)] at hi
    obtain ⟨m, n, d, g1, g2, g3, r⟩ := h2.2 (i - l1.length) x hi
    refine ⟨m, n, d, ?_, ?_, ?_, r⟩
    · show (c1 ++ c2)[i * 3]? = _
      rw [List.getElem?_append_right (by omega), show i * 3 - c1.length = (i - l1.length) * 3 by omega]; exact g1
    · show (c1 ++ c2)[i * 3 + 1]? = _
      rw [List.getElem?_append_right (by omega), show i * 3 + 1 - c1.length = (i - l1.length) * 3 + 1 by omega]; exact g2
    · show (c1 ++ c2)[i * 3 + 2]? = _
      rw [List.getElem?_append_right (by omega), show i * 3 + 2 - c1.length = (i - l1.length) * 3 + 2 by omega]; exact g3
/-- a row of one's own is handed to a call, as a list -/
theorem pub_own {P : Program} {ops : Array Oper} {rest : List Oper} {K : XS → Prop} {d : Option Tmp} {f : FuncId} {args : List SV} {t : List SV} {bx : List (List Value)} {H : Heap} {V : View} {n e : Nat} {v : Value} {cells : List Value} {l : List Rat}
    (hown : Own H e 3 v n cells) (hrow : RowAt ratE V cells l) (hn : l.length = n) (hc : callable P f = true) (hv : args.all SV.isV = true)
    (k : ∀ H' V', V.le V' → Rats V' v l → clX P ops rest K ⟨t, bx, H', V'⟩ d f args) : clX P ops rest K ⟨t, bx, H, V⟩ d f args := by
  rcases own_parts hown with ⟨rfl, h0, rfl⟩ | ⟨g, cap, rfl, hg, hle, hcap, _⟩
  · refine k H V (View.le_refl V) ?_
    rw [List.length_eq_zero_iff.1 (hn.trans h0)]; exact SlAt.nil _
  · exact call_pub g _ hg (fun o ho hle' => k _ _ hle' (hrow.pub ratE_ok ho hle' hn hle (by unfold maxLen at hcap; omega))) hc hv
end Go.Proofs.Ythoboehbadmlmaa
end
section
namespace Go.Proofs.Ythoboehbadmlmaa
open Go Go.RowKit
set_option linter.unusedSimpArgs false
set_option linter.unusedVariables false
attribute [local irreducible] XWP Spec SpecO XPub XCall seqX clX apX stX ldX iaX slX
theorem fewR_CBn {L : List Raw} {n : Nat} (h : fewR L) (hd : digR L) (hl : L.length ≤ n) (M : Nat) (hM : n * 96 = M) : CB M (qs L) := by
  rw [← hM]; exact fewR_CB' h hd hl
end Go.Proofs.Ythoboehbadmlmaa
end
section
namespace Go.Proofs.Ythoboehbadmlmaa
open Go Go.RowKit
set_option linter.unusedSimpArgs false
set_option linter.unusedVariables false
attribute [local irreducible] XWP Spec SpecO XPub XCall seqX clX apX stX ldX iaX slX
theorem okR_append (l m : List Raw) : okR (l ++ m) = (okR l && okR m) := by unfold okR; rw [List.all_append]
theorem bb_num2 : bb (3500 + 4) 12 + 3500 + 4 + 2 ≤ 45000000000 := by decide
theorem nextP_same {l a b : List Rat} {n : Nat} (h : nxI l a n = nxI l b n) : nextP l a n = nextP l b n := by unfold nextP; rw [h]
theorem shortest_c (V : View) (v u : Value) (L0 A0 : List Raw) (N : Int) (hv : Raws V v L0) (hu : Raws V u A0) : Spec Try.prog 4 [v, u, .int .i64 N] V fun v' V' => v' = .bool true := by
  refine (Spec.enter Try.func4 rfl fun Γ => ?_)
  simp only [Try.ntmps4, List.map_cons, List.map_nil, List.length_cons, List.length_nil, Nat.reduceAdd, Nat.reduceSub, List.replicate_succ, List.replicate_zero, List.cons_append, List.nil_append]
  first | refine XWP.reg (by kernel_rfl) fun K hK => ?_ | refine XWP.seq (XWP.reg (by kernel_rfl) fun K hK => ?_) | refine XWP.reg1 (by kernel_rfl) fun K hK => ?_
  simp only [XA, XB, gateX, Nat.reduceAdd, Nat.reduceLeDiff, Nat.reduceSub, Nat.reduceMul, ↓reduceIte, Int.reduceToNat, Int.reduceLE, beq_self_eq_true]
  refine hK _ ?_
  first | refine XWP.reg (by kernel_rfl) fun K hK => ?_ | refine XWP.seq (XWP.reg (by kernel_rfl) fun K hK => ?_) | refine XWP.reg1 (by kernel_rfl) fun K hK => ?_
  simp only [XA, XB, gateX, Nat.reduceAdd, Nat.reduceLeDiff, Nat.reduceSub, Nat.reduceMul, ↓reduceIte, Int.reduceToNat, Int.reduceLE, beq_self_eq_true]
  refine call_go (by kernel_rfl) rfl (lfew_c _ _ A0 4 hu (by omega)) fun v1 V1 hV1 h1 => ?_
  simp only [XA, XB, gateX, Nat.reduceAdd, Nat.reduceLeDiff, Nat.reduceSub, Nat.reduceMul, ↓reduceIte, Int.reduceToNat, Int.reduceLE, beq_self_eq_true]
  refine hK _ ?_
  have fA := fewL_few A0 4
  have lA := fewL_len A0 4
  generalize fewL A0 4 = A at *
  have dA := Raws.dig h1
  obtain ⟨A2, c2, rfl, hc2, hm2⟩ := h1.form
  first | refine XWP.reg (by kernel_rfl) fun K hK => ?_ | refine XWP.seq (XWP.reg (by kernel_rfl) fun K hK => ?_) | refine XWP.reg1 (by kernel_rfl) fun K hK => ?_
  simp only [XA, XB, gateX, Nat.reduceAdd, Nat.reduceLeDiff, Nat.reduceSub, Nat.reduceMul, ↓reduceIte, Int.reduceToNat, Int.reduceLE, beq_self_eq_true]
  refine call_go (by kernel_rfl) rfl (lfew_c _ _ L0 A.length (hv.up hV1) (by omega)) fun v2 V2 hV2 h2 => ?_
  simp only [XA, XB, gateX, Nat.reduceAdd, Nat.reduceLeDiff, Nat.reduceSub, Nat.reduceMul, ↓reduceIte, Int.reduceToNat, Int.reduceLE, beq_self_eq_true]
  refine hK _ ?_
  have fL := fewL_few L0 A.length
  have lL := fewL_len L0 A.length
  generalize fewL L0 A.length = L at *
  have dL := Raws.dig h2
  obtain ⟨A1, c1, rfl, hc1, hm1⟩ := h2.form
  have h1 := h1.up hV2
  obtain ⟨w1, n, hn, w2⟩ := rem_fix N 5 (by omega) (by omega)
  first | refine XWP.reg (by kernel_rfl) fun K hK => ?_ | refine XWP.seq (XWP.reg (by kernel_rfl) fun K hK => ?_) | refine XWP.reg1 (by kernel_rfl) fun K hK => ?_
  simp only [XA, XB, gateX, Nat.reduceAdd, Nat.reduceLeDiff, Nat.reduceSub, Nat.reduceMul, ↓reduceIte, Int.reduceToNat, Int.reduceLE, beq_self_eq_true, bin_rem _ _ N 5 (by decide), bin_rem _ _ (N.tmod 5 + 5) 5 (by decide), w1, w2]
  refine hK _ ?_
  obtain ⟨B, hB⟩ : ∃ B, B = L ++ A := ⟨_, rfl⟩
  have lB : B.length = L.length + A.length := by rw [hB, List.length_append]
  have fB : fewR B := fun r hr => by
    rw [hB] at hr
    rcases List.mem_append.1 hr with h | h
    · exact fL r h
    · exact fA r h
  refine XWP.cutD 0 (fun s => ∃ (V6 : View) (H6 : Heap), StIs (fun τ => [.v (.slice A1 L.length c1), .v (.slice A2 A.length c2), .v (.int .i64 (n : Int)), τ 3, τ 4, τ 5, τ 6, τ 7, τ 8, τ 9, τ 10, τ 11, τ 12, τ 13, τ 14, τ 15, τ 16, τ 17, τ 18, τ 19, τ 20, τ 21, τ 22, τ 23, τ 24, τ 25, τ 26, τ 27, τ 28, τ 29, τ 30, τ 31, τ 32, τ 33, τ 34, τ 35, τ 36, τ 37, τ 38, τ 39, τ 40, τ 41, τ 42, τ 43, τ 44, τ 45, τ 46, τ 47, τ 48, τ 49, τ 50, τ 51, τ 52, τ 53, τ 54, τ 55, τ 56, τ 57, τ 58, τ 59, τ 60, τ 61, τ 62, τ 63, τ 64, τ 65, τ 66, τ 67, τ 68, τ 69, τ 70, τ 71, τ 72, τ 73, τ 74, τ 75, τ 76, τ 77, τ 78, τ 79, τ 80, τ 81, τ 82, τ 83, τ 84, τ 85, τ 86, τ 87, τ 88, τ 89, τ 90, τ 91, τ 92, τ 93, τ 94, τ 95, τ 96, τ 97, τ 98, τ 99, τ 100, τ 101, τ 102, τ 103, τ 104, τ 105, τ 106, τ 107, τ 108, τ 109]) [] H6 V6 s ∧ V2.le V6 ∧ okR B = true) ?_ ?_
  · obtain ⟨cells1, hrow1, hsrc1⟩ := SlAt.src h2
    obtain ⟨cells2, hrow2, hsrc2⟩ := SlAt.src h1
    first | refine XWP.reg (by kernel_rfl) fun K hK => ?_ | refine XWP.seq (XWP.reg (by kernel_rfl) fun K hK => ?_) | refine XWP.reg1 (by kernel_rfl) fun K hK => ?_
    refine bs_go (by kernel_rfl) #[] (by simp) (bs_zero elemT_22 zeroT_34) fun b hb1 hb2 => ?_
    simp only [XA, XB, gateX, Nat.reduceAdd, Nat.reduceLeDiff, Nat.reduceSub, Nat.reduceMul, ↓reduceIte, Int.reduceToNat, Int.reduceLE, beq_self_eq_true]
    refine ap_go elemT_22 (by kernel_rfl) zeroT_34 rfl (by omega) (n := 0) (xs := []) (own3 (by simp [upd]) rfl (Nat.le_refl _) (by omega)) (hsrc1 _) (by omega) (by omega) fun v6 H6 hr6 => ?_
    simp only [XA, XB, gateX, Nat.reduceAdd, Nat.reduceLeDiff, Nat.reduceSub, Nat.reduceMul, ↓reduceIte, Int.reduceToNat, Int.reduceLE, beq_self_eq_true]
    refine ap_go elemT_22 (by kernel_rfl) zeroT_34 rfl (by omega) hr6.1 (hsrc2 _) (by omega) (by omega) fun v7 H7 hr7 => ?_
    have hrow := hrow1.append hrow2
    have hown := hr7.1
    rw [← hB] at hrow
    simp only [Nat.zero_add, List.nil_append] at hown
    clear hr7 hr6 hsrc1 hsrc2 hrow1 hrow2
    generalize cells1 ++ cells2 = cells at *
    obtain ⟨A7, c7, rfl⟩ : ∃ A7 c7, v7 = .slice A7 B.length c7 := by
      rw [lB]
      rcases own_parts hown with ⟨rfl, h0, _⟩ | ⟨g, cap, rfl, _⟩
      · exact ⟨none, 0, by rw [h0]⟩
      · exact ⟨_, _, rfl⟩
    rw [← lB] at hown
    simp only [XA, XB, gateX, Nat.reduceAdd, Nat.reduceLeDiff, Nat.reduceSub, Nat.reduceMul, ↓reduceIte, Int.reduceToNat, Int.reduceLE, beq_self_eq_true]
    refine hK _ ?_
    clear hK
    first | refine XWP.block ?_ | refine XWP.seq (XWP.block ?_)
    refine XWP.loopD 0 (fun m s => ∃ (i : Nat) (V8 : View), StIs (fun τ => [.v (.slice A1 L.length c1), .v (.slice A2 A.length c2), .v (.int .i64 (n : Int)), τ 3, τ 4, τ 5, τ 6, τ 7, τ 8, τ 9, τ 10, τ 11, τ 12, τ 13, τ 14, τ 15, τ 16, τ 17, τ 18, τ 19, τ 20, τ 21, τ 22, τ 23, τ 24, τ 25, τ 26, τ 27, τ 28, τ 29, τ 30, τ 31, .v (.slice A7 B.length c7), .v (.int .i64 (B.length : Int)), .v (.int .i64 (i : Int)), τ 35, τ 36, τ 37, τ 38, τ 39, τ 40, τ 41, τ 42, τ 43, τ 44, τ 45, τ 46, τ 47, τ 48, τ 49, τ 50, τ 51, τ 52, τ 53, τ 54, τ 55, τ 56, τ 57, τ 58, τ 59, τ 60, τ 61, τ 62, τ 63, τ 64, τ 65, τ 66, τ 67, τ 68, τ 69, τ 70, τ 71, τ 72, τ 73, τ 74, τ 75, τ 76, τ 77, τ 78, τ 79, τ 80, τ 81, τ 82, τ 83, τ 84, τ 85, τ 86, τ 87, τ 88, τ 89, τ 90, τ 91, τ 92, τ 93, τ 94, τ 95, τ 96, τ 97, τ 98, τ 99, τ 100, τ 101, τ 102, τ 103, τ 104, τ 105, τ 106, τ 107, τ 108, τ 109]) [] H7 V8 s ∧ V2.le V8 ∧ m + i = B.length ∧ okR (B.take i) = true) B.length ⟨0, V2, StIs.of (by exact rfl), View.le_refl _, by omega, rfl⟩ ?_
    rintro m s ⟨i, V8, hs, hV8, hm, hk⟩
    obtain ⟨z, rfl⟩ := hs.out
    try dsimp only
    by_cases hi : i < B.length
    rotate_left
    · obtain rfl : i = B.length := by omega
      have b2 : decide ((B.length : Int) < (B.length : Int)) = false := decide_eq_false (by omega)
      first | refine XWP.reg (by kernel_rfl) fun K hK => ?_ | refine XWP.seq (XWP.reg (by kernel_rfl) fun K hK => ?_) | refine XWP.reg1 (by kernel_rfl) fun K hK => ?_
      simp only [XA, XB, gateX, Nat.reduceAdd, Nat.reduceLeDiff, Nat.reduceSub, Nat.reduceMul, ↓reduceIte, Int.reduceToNat, Int.reduceLE, beq_self_eq_true, b2]
      refine hK _ ?_
      first | refine XWP.cond (t := false) rfl (fun h => by cases h) (fun _ => ?_) | refine XWP.seq (XWP.cond (t := false) rfl (fun h => by cases h) (fun _ => ?_))
      refine XWP.exit ?_
      rw [List.take_length] at hk
      exact fun f => ⟨V8, H7, StIs.of (by exact rfl), hV8, hk⟩
    have b2 : decide ((i : Int) < (B.length : Int)) = true := decide_eq_true (by omega)
    first | refine XWP.reg (by kernel_rfl) fun K hK => ?_ | refine XWP.seq (XWP.reg (by kernel_rfl) fun K hK => ?_) | refine XWP.reg1 (by kernel_rfl) fun K hK => ?_
    simp only [XA, XB, gateX, Nat.reduceAdd, Nat.reduceLeDiff, Nat.reduceSub, Nat.reduceMul, ↓reduceIte, Int.reduceToNat, Int.reduceLE, beq_self_eq_true, b2]
    refine hK _ ?_
    first | refine XWP.cond (t := true) rfl (fun _ => ?_) (fun h => by cases h) | refine XWP.seq (XWP.cond (t := true) rfl (fun _ => ?_) (fun h => by cases h))
    refine XWP.skip ?_
    refine XWP.seq ?_
    first | refine XWP.block ?_ | refine XWP.seq (XWP.block ?_)
    rcases own_parts hown with ⟨_, h0, _⟩ | ⟨g, cap, e7, hg, hle, hcap, hcl⟩
    · omega
    cases e7
    obtain ⟨v3, hx, ⟨m3, n3, d3, rfl, p1, p2, p3⟩, hld⟩ := RowAt.load hg (hrow.mono rawE_ok hV8) i hi
    first | refine XWP.reg (by kernel_rfl) fun K hK => ?_ | refine XWP.seq (XWP.reg (by kernel_rfl) fun K hK => ?_) | refine XWP.reg1 (by kernel_rfl) fun K hK => ?_
    simp only [XA, XB, gateX, Nat.reduceAdd, Nat.reduceLeDiff, Nat.reduceSub, Nat.reduceMul, ↓reduceIte, Int.reduceToNat, Int.reduceLE, beq_self_eq_true]
    refine ⟨by omega, by omega, ld_mem hld ?_⟩
    simp only [XA, XB, gateX, Nat.reduceAdd, Nat.reduceLeDiff, Nat.reduceSub, Nat.reduceMul, ↓reduceIte, Int.reduceToNat, Int.reduceLE, beq_self_eq_true]
    refine st_rat rfl rfl p1 p2 p3 ?_
    simp only [XA, XB, gateX, Nat.reduceAdd, Nat.reduceLeDiff, Nat.reduceSub, Nat.reduceMul, ↓reduceIte, Int.reduceToNat, Int.reduceLE, beq_self_eq_true]
    refine hK _ ?_
    first | refine XWP.reg (by kernel_rfl) fun K hK => ?_ | refine XWP.seq (XWP.reg (by kernel_rfl) fun K hK => ?_) | refine XWP.reg1 (by kernel_rfl) fun K hK => ?_
    simp only [XA, XB, gateX, Nat.reduceAdd, Nat.reduceLeDiff, Nat.reduceSub, Nat.reduceMul, ↓reduceIte, Int.reduceToNat, Int.reduceLE, beq_self_eq_true]
    refine call_go (by kernel_rfl) rfl (pright_c _ _ _ _ _ hx (fB.fit _ (List.getElem_mem hi)).1 (fB.fit _ (List.getElem_mem hi)).2) fun v9 V9 hV9 h9 => ?_
    subst h9
    have et : B.take (i + 1) = B.take i ++ [B[i]] := by rw [List.take_succ_eq_append_getElem hi]
    cases hr : rawOk B[i].m B[i].nd B[i].dd
    · simp only [XA, XB, gateX, Nat.reduceAdd, Nat.reduceLeDiff, Nat.reduceSub, Nat.reduceMul, ↓reduceIte, Int.reduceToNat, Int.reduceLE, beq_self_eq_true]
      refine hK _ ?_
      first | refine XWP.cond (t := true) rfl (fun _ => ?_) (fun h => by cases h) | refine XWP.seq (XWP.cond (t := true) rfl (fun _ => ?_) (fun h => by cases h))
      first | refine XWP.reg (by kernel_rfl) fun K hK => ?_ | refine XWP.seq (XWP.reg (by kernel_rfl) fun K hK => ?_) | refine XWP.reg1 (by kernel_rfl) fun K hK => ?_
      simp only [XA, XB, gateX, Nat.reduceAdd, Nat.reduceLeDiff, Nat.reduceSub, Nat.reduceMul, ↓reduceIte, Int.reduceToNat, Int.reduceLE, beq_self_eq_true]
      refine call_go (by kernel_rfl) rfl (alive_c _) fun v10 V10 hV10 h10 => ?_
      subst h10
      simp only [XA, XB, gateX, Nat.reduceAdd, Nat.reduceLeDiff, Nat.reduceSub, Nat.reduceMul, ↓reduceIte, Int.reduceToNat, Int.reduceLE, beq_self_eq_true]
      refine hK _ (XWP.ret ?_)
      try simp only [thenX_ret, inBlockX_ret]
      refine ret_go _ rfl ?_
      rfl
    · simp only [XA, XB, gateX, Nat.reduceAdd, Nat.reduceLeDiff, Nat.reduceSub, Nat.reduceMul, ↓reduceIte, Int.reduceToNat, Int.reduceLE, beq_self_eq_true]
      refine hK _ ?_
      first | refine XWP.cond (t := false) rfl (fun h => by cases h) (fun _ => ?_) | refine XWP.seq (XWP.cond (t := false) rfl (fun h => by cases h) (fun _ => ?_))
      refine XWP.skip ?_
      first | refine XWP.reg (by kernel_rfl) fun K hK => ?_ | refine XWP.seq (XWP.reg (by kernel_rfl) fun K hK => ?_) | refine XWP.reg1 (by kernel_rfl) fun K hK => ?_
      simp only [XA, XB, gateX, Nat.reduceAdd, Nat.reduceLeDiff, Nat.reduceSub, Nat.reduceMul, ↓reduceIte, Int.reduceToNat, Int.reduceLE, beq_self_eq_true, i64_succ i (by omega)]
      refine hK _ ⟨m - 1, by omega, fun f => ⟨i + 1, V9, StIs.of (by exact rfl), View.le_trans hV8 hV9, by omega, ?_⟩⟩
      unfold okR at hk ⊢
      rw [et, List.all_append, hk]
      simp [Raw.ok, hr]
  rintro s ⟨V6, H6, hs, hV6, hk⟩
  obtain ⟨z, rfl⟩ := hs.out
  try dsimp only
  rw [hB, okR_append, Bool.and_eq_true] at hk
  clear fB lB hB
  refine XWP.seq ?_
  by_cases hlen : L.length < A.length
  · have b1 : decide ((L.length : Int) < (A.length : Int)) = true := decide_eq_true (by omega)
    first | refine XWP.reg (by kernel_rfl) fun K hK => ?_ | refine XWP.seq (XWP.reg (by kernel_rfl) fun K hK => ?_) | refine XWP.reg1 (by kernel_rfl) fun K hK => ?_
    simp only [XA, XB, gateX, Nat.reduceAdd, Nat.reduceLeDiff, Nat.reduceSub, Nat.reduceMul, ↓reduceIte, Int.reduceToNat, Int.reduceLE, beq_self_eq_true, b1]
    refine hK _ ?_
    first | refine XWP.cond (t := true) rfl (fun _ => ?_) (fun h => by cases h) | refine XWP.seq (XWP.cond (t := true) rfl (fun _ => ?_) (fun h => by cases h))
    first | refine XWP.reg (by kernel_rfl) fun K hK => ?_ | refine XWP.seq (XWP.reg (by kernel_rfl) fun K hK => ?_) | refine XWP.reg1 (by kernel_rfl) fun K hK => ?_
    simp only [XA, XB, gateX, Nat.reduceAdd, Nat.reduceLeDiff, Nat.reduceSub, Nat.reduceMul, ↓reduceIte, Int.reduceToNat, Int.reduceLE, beq_self_eq_true]
    refine call_go (by kernel_rfl) rfl (alive_c _) fun v7 V7 hV7 h7 => ?_
    subst h7
    simp only [XA, XB, gateX, Nat.reduceAdd, Nat.reduceLeDiff, Nat.reduceSub, Nat.reduceMul, ↓reduceIte, Int.reduceToNat, Int.reduceLE, beq_self_eq_true]
    refine hK _ (XWP.ret ?_)
    try simp only [thenX_ret, inBlockX_ret]
    refine ret_go _ rfl ?_
    rfl
  have b1 : decide ((L.length : Int) < (A.length : Int)) = false := decide_eq_false (by omega)
  first | refine XWP.reg (by kernel_rfl) fun K hK => ?_ | refine XWP.seq (XWP.reg (by kernel_rfl) fun K hK => ?_) | refine XWP.reg1 (by kernel_rfl) fun K hK => ?_
  simp only [XA, XB, gateX, Nat.reduceAdd, Nat.reduceLeDiff, Nat.reduceSub, Nat.reduceMul, ↓reduceIte, Int.reduceToNat, Int.reduceLE, beq_self_eq_true, b1]
  refine hK _ ?_
  first | refine XWP.cond (t := false) rfl (fun h => by cases h) (fun _ => ?_) | refine XWP.seq (XWP.cond (t := false) rfl (fun h => by cases h) (fun _ => ?_))
  refine XWP.skip ?_
  have hl := (Raws.rats h2 hk.1).up hV6
  have ha := (Raws.rats h1 hk.2).up hV6
  have aL : CB 384 (qs L) := fewR_CBn fL dL (show L.length ≤ 4 by omega) 384 rfl
  have aA : CB 384 (qs A) := fewR_CBn fA dA lA 384 rfl
  have el := qs_len L
  have ea := qs_len A
  clear h1 h2 fL dL fA dA hk
  generalize qs L = l at *
  generalize qs A = a at *
  have hgen0 : Gen (cf l) (cf (frQ a)) a.length l.length := gen_start (by omega)
  have hgen1 := nx_gen (by omega) hgen0 (A.length + n)
  obtain ⟨all, hall⟩ : ∃ all, all = nxI l a (A.length + n) := ⟨_, rfl⟩
  have lall : all.length = l.length + (A.length + n) := by rw [hall, nxI_len]
  have call : CB 3500 all := by
    rw [hall]
    refine (nx_CB (e := 2) aL aA (by omega) (A.length + n)).mono ?_
    have := Nat.mul_le_mul_right (384 + 2) (show A.length + n ≤ 8 by omega)
    omega
  have w3 : IntKind.i64.wrap ((A.length : Int) + (n : Int)) = ((A.length + n : Nat) : Int) := by rw [wrap_id (by omega) (by omega)]; omega
  first | refine XWP.reg (by kernel_rfl) fun K hK => ?_ | refine XWP.seq (XWP.reg (by kernel_rfl) fun K hK => ?_) | refine XWP.reg1 (by kernel_rfl) fun K hK => ?_
  simp only [XA, XB, gateX, Nat.reduceAdd, Nat.reduceLeDiff, Nat.reduceSub, Nat.reduceMul, ↓reduceIte, Int.reduceToNat, Int.reduceLE, beq_self_eq_true, w3]
  refine call_go (by kernel_rfl) rfl (nextq_c _ _ _ l a (A.length + n) 3500 384 hl ha (by omega) (by omega) (by omega) (by rw [← hall]; exact call) aA (by omega)) fun v7 V7 hV7 h7 => ?_
  obtain ⟨wm, rfl, hm7⟩ := h7
  simp only [XA, XB, gateX, Nat.reduceAdd, Nat.reduceLeDiff, Nat.reduceSub, Nat.reduceMul, ↓reduceIte, Int.reduceToNat, Int.reduceLE, beq_self_eq_true]
  refine hK _ ?_
  have hl7 := hl.up hV7
  obtain ⟨cells1, hrow1, hsrc1⟩ := SlAt.src hl7
  obtain ⟨cells2, hrow2, hsrc2⟩ := SlAt.src hm7
  have lN := nextP_len l a (A.length + n)
  rw [el] at hsrc1
  rw [lN] at hsrc2
  first | refine XWP.reg (by kernel_rfl) fun K hK => ?_ | refine XWP.seq (XWP.reg (by kernel_rfl) fun K hK => ?_) | refine XWP.reg1 (by kernel_rfl) fun K hK => ?_
  refine bs_go (by kernel_rfl) #[] (by simp) (bs_zero elemT_22 zeroT_34) fun b hb1 hb2 => ?_
  simp only [XA, XB, gateX, Nat.reduceAdd, Nat.reduceLeDiff, Nat.reduceSub, Nat.reduceMul, ↓reduceIte, Int.reduceToNat, Int.reduceLE, beq_self_eq_true]
  refine ap_go elemT_22 (by kernel_rfl) zeroT_34 rfl (by omega) (n := 0) (xs := []) (own3 (by simp [upd]) rfl (Nat.le_refl _) (by omega)) (hsrc1 _) (by omega) (by omega) fun v8 H8 hr8 => ?_
  simp only [XA, XB, gateX, Nat.reduceAdd, Nat.reduceLeDiff, Nat.reduceSub, Nat.reduceMul, ↓reduceIte, Int.reduceToNat, Int.reduceLE, beq_self_eq_true]
  refine ap_go elemT_22 (by kernel_rfl) zeroT_34 rfl (by omega) hr8.1 (hsrc2 _) (by omega) (by omega) fun v9 H9 hr9 => ?_
  have hrow := hrow1.append hrow2
  have hown := hr9.1
  rw [← nxI_split, ← hall] at hrow
  rw [← hall] at hgen1
  simp only [XA, XB, gateX, Nat.reduceAdd, Nat.reduceLeDiff, Nat.reduceSub, Nat.reduceMul, ↓reduceIte, Int.reduceToNat, Int.reduceLE, beq_self_eq_true]
  refine hK _ ?_
  first | refine XWP.reg (by kernel_rfl) fun K hK => ?_ | refine XWP.seq (XWP.reg (by kernel_rfl) fun K hK => ?_) | refine XWP.reg1 (by kernel_rfl) fun K hK => ?_
  simp only [XA, XB, gateX, Nat.reduceAdd, Nat.reduceLeDiff, Nat.reduceSub, Nat.reduceMul, ↓reduceIte, Int.reduceToNat, Int.reduceLE, beq_self_eq_true]
  refine pub_own hown hrow (by omega) (by kernel_rfl) rfl fun H10 V10 hV10 hx => ?_
  have hs1 : (bmI all all.length).size ≤ a.length := bm_least all (l.length + (A.length + n)) hgen1 all.length (by omega)
  refine call_go (by kernel_rfl) rfl (recq_c _ _ all 3500 hx (by omega) call (by omega) (Nat.le_trans bb_num2 (by omega))) fun v11 V11 hV11 h11 => ?_
  obtain ⟨wb, rfl, hb⟩ := h11
  simp only [XA, XB, gateX, Nat.reduceAdd, Nat.reduceLeDiff, Nat.reduceSub, Nat.reduceMul, ↓reduceIte, Int.reduceToNat, Int.reduceLE, beq_self_eq_true]
  refine hK _ ?_
  have hx := hx.up hV11
  have ha := ((ha.up hV7).up hV10).up hV11
  have cb : CB 45000000000 (bmOut (bmI all all.length)) := (rec_CB (e := 4) call (by omega)).mono (by
    have := bb_mono (3500 + 4) (show all.length ≤ 12 by omega)
    have := bb_num2
    omega)
  have lb := bmOut_len (bmI all all.length)
  have hgb := bm_out_gen all
  generalize bmOut (bmI all all.length) = b at *
  rw [← lall] at hgen1
  have hsame := nx_same hgen1 hgb (by omega) 6
  have cN : CB 6000 (nxI all a 6) := (nx_CB (e := 2) call aA (by omega) 6).mono (by omega)
  first | refine XWP.reg (by kernel_rfl) fun K hK => ?_ | refine XWP.seq (XWP.reg (by kernel_rfl) fun K hK => ?_) | refine XWP.reg1 (by kernel_rfl) fun K hK => ?_
  simp only [XA, XB, gateX, Nat.reduceAdd, Nat.reduceLeDiff, Nat.reduceSub, Nat.reduceMul, ↓reduceIte, Int.reduceToNat, Int.reduceLE, beq_self_eq_true]
  refine call_go (by kernel_rfl) rfl (nextq_c _ _ _ all a 6 6000 384 hx ha (by omega) (by omega) (by omega) cN aA (by omega)) fun v12 V12 hV12 h12 => ?_
  obtain ⟨wx, rfl, hx12⟩ := h12
  simp only [XA, XB, gateX, Nat.reduceAdd, Nat.reduceLeDiff, Nat.reduceSub, Nat.reduceMul, ↓reduceIte, Int.reduceToNat, Int.reduceLE, beq_self_eq_true]
  refine hK _ ?_
  first | refine XWP.reg (by kernel_rfl) fun K hK => ?_ | refine XWP.seq (XWP.reg (by kernel_rfl) fun K hK => ?_) | refine XWP.reg1 (by kernel_rfl) fun K hK => ?_
  simp only [XA, XB, gateX, Nat.reduceAdd, Nat.reduceLeDiff, Nat.reduceSub, Nat.reduceMul, ↓reduceIte, Int.reduceToNat, Int.reduceLE, beq_self_eq_true]
  refine call_go (by kernel_rfl) rfl (nextq_c _ _ _ all b 6 6000 45000000000 (hx.up hV12) (hb.up hV12) (by omega) (by omega) (by omega) (by rw [← hsame]; exact cN) cb (by omega)) fun v13 V13 hV13 h13 => ?_
  obtain ⟨wy, rfl, hy13⟩ := h13
  simp only [XA, XB, gateX, Nat.reduceAdd, Nat.reduceLeDiff, Nat.reduceSub, Nat.reduceMul, ↓reduceIte, Int.reduceToNat, Int.reduceLE, beq_self_eq_true]
  refine hK _ ?_
  rw [← nextP_same hsame] at hy13
  obtain ⟨A3, c3, rfl, _, _⟩ := hb.form
  have cN' : CB 6000 (nextP all a 6) := by
    obtain ⟨D, d1, d2, d3⟩ := cN
    refine ⟨D, d1, d2, fun i => ?_⟩
    have := d3 (all.length + i)
    rw [nxI_split, cf_append_right (by omega), Nat.add_sub_cancel_left] at this
    exact this
  have b4 : decide ((b.length : Int) ≤ (A.length : Int)) = true := decide_eq_true (by omega)
  first | refine XWP.reg (by kernel_rfl) fun K hK => ?_ | refine XWP.seq (XWP.reg (by kernel_rfl) fun K hK => ?_) | refine XWP.reg1 (by kernel_rfl) fun K hK => ?_
  simp only [XA, XB, gateX, Nat.reduceAdd, Nat.reduceLeDiff, Nat.reduceSub, Nat.reduceMul, ↓reduceIte, Int.reduceToNat, Int.reduceLE, beq_self_eq_true, decide_true, b4]
  refine call_go (by kernel_rfl) rfl (lsame_c _ _ _ (nextP all a 6) (nextP all a 6) (hx12.up hV13) hy13 (cN'.qf (by omega)) (cN'.qf (by omega))) fun v14 V14 hV14 h14 => ?_
  subst h14
  simp only [XA, XB, gateX, Nat.reduceAdd, Nat.reduceLeDiff, Nat.reduceSub, Nat.reduceMul, ↓reduceIte, Int.reduceToNat, Int.reduceLE, beq_self_eq_true, decide_true]
  refine call_go (by kernel_rfl) rfl (alive_c _) fun v15 V15 hV15 h15 => ?_
  subst h15
  simp only [XA, XB, gateX, Nat.reduceAdd, Nat.reduceLeDiff, Nat.reduceSub, Nat.reduceMul, ↓reduceIte, Int.reduceToNat, Int.reduceLE, beq_self_eq_true]
  refine hK _ (XWP.ret ?_)
  try simp only [thenX_ret, inBlockX_ret]
  refine ret_go _ rfl ?_
  rfl
end Go.Proofs.Ythoboehbadmlmaa
end
section
namespace Go.Proofs.Ythoboehbadmlmaa.recurShortest
open Go.ChangeShapes Go.WideShapes Go.ChangeAt Go.RowKit
set_option linter.unusedVariables false
theorem own : ownKnob Try.prog.godebug = none := by kernel_rfl
theorem laidOut : laidOutB Try.prog = true := by kernel_rfl
set_option maxRecDepth 100000 in
theorem lifted (os : Os) (started : os.Started) (H : Type) (enc : TypeId × Value → H) :
    ReturnsInHanded {} Try.checked os 4 .any (Rows.recurShortestSpec.pre6 enc Try.prog Try.f4 Rows.recurShortestRow.domain false) (Rows.recurShortestSpec.post enc Try.prog Try.f4 false true false false) := by
  refine returnsInHanded_of_change_sized (C := Try.checked) own started (by kernel_rfl) Try.func4
    (ChangeSpec.witness6 (enc := enc) (C := Try.checked) false ⟨#[], #[.slice none 0 0, .slice none 0 0, .int .i64 0], []⟩ 8 (by kernel_rfl) (by kernel_rfl) (by kernel_rfl) (by kernel_rfl)) ?_
  intro W base args ds gs before hval0 hW hcnd hsz0 _
  have hval : ∀ (j : Nat) t v, Try.f4.params[j]? = some t → args[j]? = some v → Value.okWide Try.prog W .any base t v := hval0
  have hW' := hW
  obtain ⟨p, q, hA0, hV, rfl, hfz, hnd⟩ := hW
  have hA : DataW.TrodAll enc Try.prog W 0 (fun _ => true) true Try.f4.params.toList args.toList ds p := hA0
  rw [Try.params4] at hA hval
  obtain ⟨v0, vs0, d0, ds0, p0, q0, hargs, rfl, rfl, h0, r0⟩ := trodAll_cons hA
  obtain ⟨v1, vs1, d1, ds1, p1, q1, rfl, rfl, rfl, h1, r1⟩ := trodAll_cons r0
  obtain ⟨v2, vs2, d2, ds2, p2, q2, rfl, rfl, rfl, h2, r2⟩ := trodAll_cons r1
  obtain ⟨rfl, rfl, rfl⟩ := trodAll_nil r2
  obtain rfl : args = #[v0, v1, v2] := by cases args; simp_all
  obtain ⟨rfl, rfl⟩ := trodVars_none hV
  obtain ⟨a0, len0, cap0, rfl⟩ := okWide_slice (und_elem (P := Try.prog) (e := 34) (by kernel_rfl)) (hval 0 22 v0 rfl rfl)
  have k0 := h0
  have lt0 : ∀ x ∈ p0, x.block < W.heap.size := by obtain ⟨m, hm⟩ := k0; exact DataW.trod_lt m _ _ _ hm
  obtain ⟨fuel0, hf0⟩ := h0
  obtain ⟨L0, hL0⟩ := open_raws (by kernel_rfl) hf0
  obtain ⟨a1, len1, cap1, rfl⟩ := okWide_slice (und_elem (P := Try.prog) (e := 34) (by kernel_rfl)) (hval 1 22 v1 rfl rfl)
  have k1 := h1
  have lt1 : ∀ x ∈ p1, x.block < W.heap.size := by obtain ⟨m, hm⟩ := k1; exact DataW.trod_lt m _ _ _ hm
  obtain ⟨fuel1, hf1⟩ := h1
  obtain ⟨L1, hL1⟩ := open_raws (by kernel_rfl) hf1
  obtain ⟨a2, rfl, rfl, rfl, w2⟩ := open_int (k := .i64) (by kernel_rfl) (hval 2 3 v2 rfl rfl) h2
  clear hA0 hval0 hsz0
  refine (shortest_c (viewW W) _ _ L0 L1 a2 hL0 hL1 W (viewW_sub W)).mono fun e W' ⟨v, V', he, _, _, _, bel, hv⟩ => ?_
  subst hv
  subst he
  exact ⟨_, rfl, _, _, _, [], _, [], hW', trodAll_mk1 (shut_bool Try.underlying4 _), (trodAll_cons_mk (Below.trod laidOut (by kernel_rfl) (of_decide_eq_true (by kernel_rfl)) k0 bel lt0) (trodAll_cons_mk (Below.trod laidOut (by kernel_rfl) (of_decide_eq_true (by kernel_rfl)) k1 bel lt1) (trodAll_cons_mk (shut_int (k := .i64) (by kernel_rfl) w2) trodAll_mk0))), rfl, bel.frame _, fun h => by cases h⟩
theorem over : Rows.recurShortestRow.holds Try.pinned (OpenSpec.ofChange Rows.recurShortestSpec) :=
  OpenClaim.holds_of_wide 4 Try.f4 rfl rfl rfl rfl rfl rfl rfl ⟨rfl, rfl, rfl, rfl, rfl⟩ rfl rfl rfl rfl rfl (by kernel_rfl) Try.func4 (by kernel_rfl)
    (of_decide_eq_true (by kernel_rfl)) (by unfold Func.isWrapper; first | (rw [if_pos (by decide +kernel)]; kernel_rfl) | (rw [if_neg (by decide +kernel)]; exact ⟨rfl, rfl⟩))
    (fun os started H enc _ => lifted os started H enc)
theorem proved : Rows.RecurShortestSaid := over
#print axioms proved
end Go.Proofs.Ythoboehbadmlmaa.recurShortest
namespace Go.Proofs.Ythoboehbadmlmaa
/-- The row, under a short name, for the claim. -/
theorem recurShortest_holds : Rows.RecurShortestSaid := recurShortest.proved
end Go.Proofs.Ythoboehbadmlmaa
end
