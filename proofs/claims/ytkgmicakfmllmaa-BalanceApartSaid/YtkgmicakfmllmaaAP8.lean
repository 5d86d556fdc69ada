/- the total variation distance of two distributions (part 8 of 12) -/
import Derived.OrdersHeld
import Derived.Below
import Derived.Tactics
import Derived.KernelRfl
import Derived.RangeFuncCalls
import Derived.RangeFuncFrom
import Derived.RangeFuncLeaves
import Derived.OrdersIn
import Derived.Laws.AppendOwn
import Derived.Laws.MakeOwn
import Derived.Laws.CopyRow
import Derived.Laws.Cells
import Derived.Laws.World
import Derived.Laws.Alloc2
import Derived.Laws.NewBlocks
import Derived.Maps.AppendAt
import Derived.Test.YtkgmicakfmllmaaProg
import Init.Data.List.Lemmas
import Init.Omega
import Derived.WalkKit
import Derived.ProofKit
import Derived.OpenShut
import Derived.ChangeOld
import Derived.SizedLaws
import Derived.ChangeSlices
import Derived.ChangeArms
import Derived.Deep.Slices
import Derived.Test.YtkgmicakfmllmaaAP7
section
namespace Go.Proofs.Ytkgmicakfmllmaa
open Go Go.RowKit Go.ChangeShapes
set_option linter.unusedVariables false
/-- the whole world, as what is published -/
def viewW (w : World) : View := fun k => w.heap[k]?
theorem viewW_sub (w : World) : View.sub (viewW w) w := fun _ _ h => h
theorem cell_view {w : World} {a : Addr} {v : Value} (h : w.cell? a = some v) : a.spot = none ∧ ∃ arr ty fr, viewW w a.block = some (.cells arr ty fr) ∧ arr[a.off]? = some v := by
  unfold World.cell? at h
  split at h
  · rename_i c t f hb
    split at h
    · cases h
    · rename_i hs
      refine ⟨?_, c, t, f, hb, h⟩
      cases hsp : a.spot with
      | none => rfl
      | some x => rw [hsp] at hs; simp at hs
  · cases h
theorem add_off (a : Addr) (n : Nat) : (a.add n).block = a.block ∧ (a.add n).off = a.off + n := by
  unfold Addr.add; split
  · rename_i h; subst h; exact ⟨rfl, rfl⟩
  · exact ⟨rfl, rfl⟩
theorem cells_view {w : World} {a : Addr} {n : Nat} {f : Nat → Value} (hn : 0 < n) (h : ∀ i, i < n → w.cell? (a.add i) = some (f i)) : a.spot = none ∧ ∃ arr ty fr, viewW w a.block = some (.cells arr ty fr) ∧ ∀ i, i < n → arr[a.off + i]? = some (f i) := by
  have h0 := h 0 hn
  have e0 : a.add 0 = a := by simp [Addr.add]
  rw [e0] at h0
  obtain ⟨hs, arr, ty, fr, hb, _⟩ := cell_view h0
  refine ⟨hs, arr, ty, fr, hb, fun i hi => ?_⟩
  obtain ⟨_, arr', ty', fr', hb', hv⟩ := cell_view (h i hi)
  obtain ⟨e1, e2⟩ := add_off a i
  rw [e1, hb] at hb'
  cases hb'
  rw [e2] at hv; exact hv
theorem addr_eta (a : Addr) (h : a.spot = none) : a = ⟨a.block, a.off, none⟩ := by cases a; simp at h; subst h; rfl
section
variable {H : Type} {enc : TypeId × Value → H} {w : World} {base : Nat} {spare : Nat → Bool} {held : Bool}
theorem und_nat : (Try.prog).underlying 25 = some (.slice 116) := und_elem elemT_25
theorem und_u32 : (Try.prog).underlying 116 = some (.int .u32) := by kernel_rfl
theorem cells_u32 : (Try.prog).cellsOf 116 = 1 := by kernel_rfl
theorem cells_rat : (Try.prog).cellsOf 27 = 3 := by kernel_rfl
theorem open_nat {fuel : Nat} {v : Value} {x : DataW H × List MemPlace} (h : DataW.trod enc Try.prog w base spare held fuel 25 [v] = some x) : ∃ ds, NatAt (viewW w) v ds := by
  rcases open_ints und_nat und_u32 cells_u32 h with ⟨hcs, _⟩ | ⟨a, len, cap, zs, hcs, _, hl, hm, hz, _, hcell, hwz⟩
  · cases hcs; exact ⟨[], NatAt.nil _⟩
  · cases hcs
    have hzl : len ≤ zs.length := by rw [hz]; split <;> omega
    have hwf : ∀ z ∈ zs, 0 ≤ z ∧ z < 4294967296 := fun z hz => by
      have := hwz z hz
      simp [Lit.wf, IntKind.min, IntKind.max, IntKind.signed, IntKind.bits] at this
      omega
    refine ⟨(zs.take len).map Int.toNat, some a, cap, by simp [Nat.min_eq_left hzl], by simp; omega, by unfold maxLen at hm; omega, fun d hd => ?_, ?_⟩
    · obtain ⟨z, hz, rfl⟩ := List.mem_map.1 hd
      have := hwf z (List.mem_of_mem_take hz)
      unfold BB; omega
    · rcases Nat.eq_zero_or_pos len with h0 | h0
      · subst h0; exact .inl (by simp)
      · obtain ⟨hs, arr, ty, fr, hb, hv⟩ := cells_view (f := fun i => .int .u32 (zs.getD i 0)) (by omega) hcell
        refine .inr ⟨a.block, a.off, arr, ty, fr, by rw [← addr_eta a hs], hb, fun i d hd => ?_⟩
        rw [List.getElem?_map, List.getElem?_take] at hd
        split at hd
        · rename_i hi
          rw [hv i (by omega)]
          have hiz : i < zs.length := by omega
          rw [List.getElem?_eq_getElem hiz] at hd
          simp at hd
          have := hwf zs[i] (List.getElem_mem hiz)
          simp [hiz]
          omega
        · cases hd
noncomputable def ratFields : Array Field := match (Try.prog).underlying 27 with
  | some (.struct fs) => fs
  | _ => #[]
theorem und_rat : (Try.prog).underlying 27 = some (.struct ratFields) := by kernel_rfl
theorem ratFields_map : ratFields.toList.map (fun f => (f.type, f.offset)) = [(4, 0), (25, 1), (25, 2)] := by kernel_rfl
theorem und_bool : (Try.prog).underlying 4 = some .bool := by kernel_rfl
theorem cells_bool : (Try.prog).cellsOf 4 = 1 := by kernel_rfl
theorem cells_nat : (Try.prog).cellsOf 25 = 1 := by kernel_rfl
theorem ratField (i : Nat) (t o : Nat) (h : [(4, 0), (25, 1), (25, 2)][i]? = some (t, o)) : ∃ f, ratFields[i]? = some f ∧ f.type = t ∧ f.offset = o := by
  rw [← ratFields_map, List.getElem?_map] at h
  cases hf : ratFields.toList[i]? with
  | none => rw [hf] at h; cases h
  | some f =>
    rw [hf] at h
    simp at h
    exact ⟨f, by rw [← Array.getElem?_toList]; exact hf, h.1, h.2⟩
theorem three_of {α : Type} {l : List α} (h : l.length = 3) : ∃ a b c, l = [a, b, c] := by
  rcases l with _ | ⟨a, _ | ⟨b, _ | ⟨c, _ | ⟨d, l⟩⟩⟩⟩ <;> simp at h
  exact ⟨a, b, c, rfl⟩
theorem open_rat {fuel : Nat} {cs : List Value} {x : DataW H × List MemPlace} (h : DataW.trod enc Try.prog w base spare held fuel 27 cs = some x) : ∃ (r : Raw) (n d : Value), cs = [.bool r.m, n, d] ∧ NatAt (viewW w) n r.nd ∧ NatAt (viewW w) d r.dd := by
  obtain ⟨xs, m, _, _, hl, hxl, hf⟩ := DataW.trod_struct und_rat h
  rw [cells_rat] at hl
  have hsz : ratFields.size = 3 := by
    have := congrArg List.length ratFields_map
    simpa using this
  obtain ⟨c0, c1, c2, rfl⟩ := three_of hl
  obtain ⟨f0, a0, t0, o0⟩ := ratField 0 _ _ rfl
  obtain ⟨f1, a1, t1, o1⟩ := ratField 1 _ _ rfl
  obtain ⟨f2, a2, t2, o2⟩ := ratField 2 _ _ rfl
  have h0 := hf 0 f0 a0
  have h1 := hf 1 f1 a1
  have h2 := hf 2 f2 a2
  rw [t0, o0, cells_bool, List.getElem?_eq_getElem (by omega)] at h0
  rw [t1, o1, cells_nat, List.getElem?_eq_getElem (by omega)] at h1
  rw [t2, o2, cells_nat, List.getElem?_eq_getElem (by omega)] at h2
  obtain ⟨b, e, _⟩ := DataW.trod_bool und_bool h0
  have e' : c0 = .bool b := by simpa using e
  subst e'
  obtain ⟨ds, hn⟩ := open_nat h1
  obtain ⟨es, hd⟩ := open_nat h2
  exact ⟨⟨b, ds, es⟩, c1, c2, rfl, hn, hd⟩
theorem choose_list {α : Type} {Q : Nat → α → Prop} : ∀ n, (∀ i, i < n → ∃ x, Q i x) → ∃ xs : List α, xs.length = n ∧ ∀ i x, xs[i]? = some x → Q i x
  | 0, _ => ⟨[], rfl, fun i x h => by simp at h⟩
  | n + 1, h => by
    obtain ⟨xs, hl, hq⟩ := choose_list n fun i hi => h i (by omega)
    obtain ⟨x, hx⟩ := h n (by omega)
    refine ⟨xs ++ [x], by simp [hl], fun i y hi => ?_⟩
    by_cases hlt : i < n
    · rw [List.getElem?_append_left (by omega)] at hi; exact hq i y hi
    · rw [List.getElem?_append_right (by omega)] at hi
      have : i = n := by
        rcases Nat.eq_zero_or_pos (i - xs.length) with h0 | h0
        · omega
        · rw [List.getElem?_eq_none (by simp; omega)] at hi; cases hi
      subst this
      rw [hl, Nat.sub_self] at hi
      simp at hi
      subst hi; exact hx
theorem open_raws {t fuel : Nat} {v : Value} {x : DataW H × List MemPlace} (ht : elemT Try.prog t = some 27) (h : DataW.trod enc Try.prog w base spare held fuel t [v] = some x) : ∃ l, Raws (viewW w) v l := by
  rcases Go.Deep.open_slice (und_elem ht) h with ⟨hcs, _⟩ | ⟨a, len, cap, m, n, D, Pl, hcs, _, hl, hm, hmm, _, hel⟩
  · cases hcs; exact ⟨[], SlAt.nil _⟩
  · cases hcs
    have hlm : len ≤ m := by rw [hmm]; split <;> omega
    have key : ∀ i, i < len → ∃ r : Raw, ∃ n d : Value, w.cell? (a.add (i * 3)) = some (.bool r.m) ∧ w.cell? (a.add (i * 3 + 1)) = some n ∧ w.cell? (a.add (i * 3 + 2)) = some d ∧ NatAt (viewW w) n r.nd ∧ NatAt (viewW w) d r.dd := fun i hi => by
      obtain ⟨cs', h1, h2⟩ := hel i (by omega)
      obtain ⟨r, n', d, rfl, k1, k2⟩ := open_rat h2
      rw [cells_rat] at h1
      obtain ⟨_, _, h3⟩ := World.cells?_some h1
      have g0 := h3 0 (by omega)
      have g1 := h3 1 (by omega)
      have g2 := h3 2 (by omega)
      rw [Go.Deep.add_add] at g0 g1 g2
      exact ⟨r, n', d, g0, g1, g2, k1, k2⟩
    obtain ⟨l, hll, hq⟩ := choose_list len key
    refine ⟨l, some a, cap, by rw [hll], by omega, by unfold maxLen at hm; omega, ?_⟩
    rcases Nat.eq_zero_or_pos len with h0 | h0
    · exact .inl (List.length_eq_zero_iff.1 (by omega))
    · obtain ⟨nn, dd, g0, _⟩ := hq 0 l[0] (List.getElem?_eq_getElem (by omega))
      have e0 : a.add (0 * 3) = a := by simp [Addr.add]
      rw [e0] at g0
      obtain ⟨hs, arr, ty, fr, hb, _⟩ := cell_view g0
      refine .inr ⟨a.block, a.off, arr, ty, fr, by rw [← addr_eta a hs], hb, fun i x hi => ?_⟩
      obtain ⟨n', d, g0, g1, g2, k1, k2⟩ := hq i x hi
      have at_ : ∀ k v, w.cell? (a.add k) = some v → arr[a.off + k]? = some v := fun k v hk => by
        obtain ⟨_, arr', ty', fr', hb', hv⟩ := cell_view hk
        obtain ⟨e1, e2⟩ := add_off a k
        rw [e1, hb] at hb'
        cases hb'
        rw [e2] at hv; exact hv
      exact ⟨.bool x.m, n', d, at_ _ _ g0, at_ _ _ g1, at_ _ _ g2, rfl, k1.one, k2.one, n', d, rfl, k1, k2⟩
end
end Go.Proofs.Ytkgmicakfmllmaa
end
section
namespace Go.Proofs.Ytkgmicakfmllmaa
def Sm (f : Nat → Rat) : Nat → Rat
  | 0 => 0
  | n + 1 => Sm f n + f n
theorem Sm_congr {f g : Nat → Rat} : ∀ (n : Nat), (∀ j, j < n → f j = g j) → Sm f n = Sm g n
  | 0, _ => rfl
  | n + 1, h => by
    have := Sm_congr n (fun j hj => h j (by omega))
    simp only [Sm, this, h n (by omega)]
theorem Sm_zero {f : Nat → Rat} (n : Nat) (h : ∀ j, j < n → f j = 0) : Sm f n = 0 := by
  induction n with
  | zero => rfl
  | succ n ih =>
    simp only [Sm, ih fun j hj => h j (by omega), h n (by omega)]
    grind
theorem Sm_add (f g : Nat → Rat) (n : Nat) : Sm (fun j => f j + g j) n = Sm f n + Sm g n := by
  induction n with
  | zero => simp only [Sm]; grind
  | succ n ih => simp only [Sm, ih]; grind
theorem Sm_mul (c : Rat) (f : Nat → Rat) (n : Nat) : Sm (fun j => c * f j) n = c * Sm f n := by
  induction n with
  | zero => simp only [Sm]; grind
  | succ n ih => simp only [Sm, ih]; grind
theorem Sm_one {f : Nat → Rat} {n k : Nat} (hk : k < n) (h : ∀ j, j < n → j ≠ k → f j = 0) : Sm f n = f k := by
  induction n with
  | zero => omega
  | succ n ih =>
    by_cases hn : k = n
    · subst hn
      simp only [Sm, Sm_zero k fun j hj => h j (by omega) (by omega)]; grind
    · simp only [Sm, ih (by omega) fun j hj => h j (by omega), h n (by omega) (by omega)]; grind
end Go.Proofs.Ytkgmicakfmllmaa
end
section
namespace Go.Proofs.Ytkgmicakfmllmaa
end Go.Proofs.Ytkgmicakfmllmaa
end
section
namespace Go.Proofs.Ytkgmicakfmllmaa
end Go.Proofs.Ytkgmicakfmllmaa
end
section
namespace Go.Proofs.Ytkgmicakfmllmaa
set_option linter.unusedVariables false
set_option linter.unusedSimpArgs false
end Go.Proofs.Ytkgmicakfmllmaa
end
section
namespace Go.Proofs.Ytkgmicakfmllmaa
set_option linter.unusedVariables false
set_option linter.unusedSimpArgs false
end Go.Proofs.Ytkgmicakfmllmaa
end
section
namespace Go.Proofs.Ytkgmicakfmllmaa
set_option linter.unusedVariables false
set_option linter.unusedSimpArgs false
end Go.Proofs.Ytkgmicakfmllmaa
end
section
namespace Go.Proofs.Ytkgmicakfmllmaa
set_option linter.unusedVariables false
set_option linter.unusedSimpArgs false
end Go.Proofs.Ytkgmicakfmllmaa
end
section
namespace Go.Proofs.Ytkgmicakfmllmaa
end Go.Proofs.Ytkgmicakfmllmaa
end
section
namespace Go.Proofs.Ytkgmicakfmllmaa
/-- numbers not below 0 -/
theorem ng_iff (q : Rat) : ng q = false ↔ 0 ≤ q := by
  unfold ng
  rw [decide_eq_false_iff_not]
  rw [Int.not_lt]; exact Rat.num_nonneg
end Go.Proofs.Ytkgmicakfmllmaa
end
section
namespace Go.Proofs.Ytkgmicakfmllmaa
theorem XM : type_of% (And.intro (And.intro (And.intro (@shapeT_37) (@zeroT_37)) (And.intro (@fieldT_37_0) (And.intro (@fieldT_37_1) (@fieldT_37_2)))) (And.intro (And.intro (@shapeT_41) (@zeroT_41)) (And.intro (@fieldT_41_0) (And.intro (@fieldT_41_1) (@fieldT_41_2))))) := And.intro (And.intro (And.intro (@shapeT_37) (@zeroT_37)) (And.intro (@fieldT_37_0) (And.intro (@fieldT_37_1) (@fieldT_37_2)))) (And.intro (And.intro (@shapeT_41) (@zeroT_41)) (And.intro (@fieldT_41_0) (And.intro (@fieldT_41_1) (@fieldT_41_2))))
end Go.Proofs.Ytkgmicakfmllmaa
end
section
namespace Go.Proofs.Ytkgmicakfmllmaa
open Go Go.RowKit
set_option linter.unusedSimpArgs false
set_option linter.unusedVariables false
attribute [local irreducible] XWP Spec SpecO XPub XCall seqX clX apX stX ldX iaX slX
def matR (r c : Int) (L : List Raw) : Bool := decide (0 ≤ r ∧ r ≤ 60 ∧ 0 ≤ c ∧ c ≤ 60 ∧ (L.length : Int) = r * c) && okR L
theorem mul60 {r c : Int} (h1 : 0 ≤ r) (h2 : r ≤ 60) (h3 : 0 ≤ c) (h4 : c ≤ 60) : 0 ≤ r * c ∧ r * c ≤ 3600 :=
  ⟨Int.mul_nonneg h1 h3, Int.le_trans (Int.mul_le_mul h2 h4 h3 (by omega)) (by omega)⟩
theorem matR_bad {r c : Int} {L : List Raw} (h : ¬ (0 ≤ r ∧ r ≤ 60 ∧ 0 ≤ c ∧ c ≤ 60 ∧ (L.length : Int) = r * c)) : matR r c L = false := by unfold matR; rw [decide_eq_false h]; rfl
theorem cmright_c (V : View) (s : Value) (r c : Int) (l : List Raw) (h : Raws V s l) (f : fitR l) (ll : l.length ≤ 1000000) : Spec Try.prog 88 [.agg #[.int .i64 r, .int .i64 c, s]] V fun v' V' => v' = .bool (matR r c l) := by
  obtain ⟨A, cp, rfl, hc, hm⟩ := h.form
  refine (Spec.enter Try.func88 rfl fun Γ => ?_)
  simp only [Try.ntmps88, List.map_cons, List.map_nil, List.length_cons, List.length_nil, Nat.reduceAdd, Nat.reduceSub, List.replicate_succ, List.replicate_zero, List.cons_append, List.nil_append]
  first | refine Gx.a (by kernel_rfl) fun K hK => ?_ | refine Gx.b (by kernel_rfl) fun K hK => ?_ | refine Gx.c (by kernel_rfl) fun K hK => ?_
  simp only [XM, XA, XB, gateX, Nat.reduceAdd, Nat.reduceLeDiff, Nat.reduceSub, Nat.reduceMul, ↓reduceIte, Int.reduceToNat, Int.reduceLE, beq_self_eq_true]
  refine hK _ ?_
  refine XWP.seq ?_
  by_cases d1 : r < 0
  · have b1 : decide (r < 0) = true := decide_eq_true d1
    have e := matR_bad (r := r) (c := c) (L := l) (by omega)
    first | refine Gx.a (by kernel_rfl) fun K hK => ?_ | refine Gx.b (by kernel_rfl) fun K hK => ?_ | refine Gx.c (by kernel_rfl) fun K hK => ?_
    simp only [XM, XA, XB, gateX, Nat.reduceAdd, Nat.reduceLeDiff, Nat.reduceSub, Nat.reduceMul, ↓reduceIte, Int.reduceToNat, Int.reduceLE, beq_self_eq_true, b1]
    refine hK _ ?_
    first | refine Gx.t rfl ?_ | refine XWP.seq (Gx.t rfl ?_)
    first | refine Gx.a (by kernel_rfl) fun K hK => ?_ | refine Gx.b (by kernel_rfl) fun K hK => ?_ | refine Gx.c (by kernel_rfl) fun K hK => ?_
    simp only [XM, XA, XB, gateX, Nat.reduceAdd, Nat.reduceLeDiff, Nat.reduceSub, Nat.reduceMul, ↓reduceIte, Int.reduceToNat, Int.reduceLE, beq_self_eq_true]
    refine hK _ (XWP.ret ?_)
    try simp only [thenX_ret, inBlockX_ret]
    refine ret_go _ rfl ?_
    rw [e]; rfl
  have b1 : decide (r < 0) = false := decide_eq_false d1
  by_cases d2 : 60 < r
  · have b2 : decide (60 < r) = true := decide_eq_true d2
    have e := matR_bad (r := r) (c := c) (L := l) (by omega)
    first | refine Gx.a (by kernel_rfl) fun K hK => ?_ | refine Gx.b (by kernel_rfl) fun K hK => ?_ | refine Gx.c (by kernel_rfl) fun K hK => ?_
    simp only [XM, XA, XB, gateX, Nat.reduceAdd, Nat.reduceLeDiff, Nat.reduceSub, Nat.reduceMul, ↓reduceIte, Int.reduceToNat, Int.reduceLE, beq_self_eq_true, b1, b2]
    refine hK _ ?_
    first | refine Gx.t rfl ?_ | refine XWP.seq (Gx.t rfl ?_)
    first | refine Gx.a (by kernel_rfl) fun K hK => ?_ | refine Gx.b (by kernel_rfl) fun K hK => ?_ | refine Gx.c (by kernel_rfl) fun K hK => ?_
    simp only [XM, XA, XB, gateX, Nat.reduceAdd, Nat.reduceLeDiff, Nat.reduceSub, Nat.reduceMul, ↓reduceIte, Int.reduceToNat, Int.reduceLE, beq_self_eq_true]
    refine hK _ (XWP.ret ?_)
    try simp only [thenX_ret, inBlockX_ret]
    refine ret_go _ rfl ?_
    rw [e]; rfl
  have b2 : decide (60 < r) = false := decide_eq_false d2
  by_cases d3 : c < 0
  · have b3 : decide (c < 0) = true := decide_eq_true d3
    have e := matR_bad (r := r) (c := c) (L := l) (by omega)
    first | refine Gx.a (by kernel_rfl) fun K hK => ?_ | refine Gx.b (by kernel_rfl) fun K hK => ?_ | refine Gx.c (by kernel_rfl) fun K hK => ?_
    simp only [XM, XA, XB, gateX, Nat.reduceAdd, Nat.reduceLeDiff, Nat.reduceSub, Nat.reduceMul, ↓reduceIte, Int.reduceToNat, Int.reduceLE, beq_self_eq_true, b1, b2, b3]
    refine hK _ ?_
    first | refine Gx.t rfl ?_ | refine XWP.seq (Gx.t rfl ?_)
    first | refine Gx.a (by kernel_rfl) fun K hK => ?_ | refine Gx.b (by kernel_rfl) fun K hK => ?_ | refine Gx.c (by kernel_rfl) fun K hK => ?_
    simp only [XM, XA, XB, gateX, Nat.reduceAdd, Nat.reduceLeDiff, Nat.reduceSub, Nat.reduceMul, ↓reduceIte, Int.reduceToNat, Int.reduceLE, beq_self_eq_true]
    refine hK _ (XWP.ret ?_)
    try simp only [thenX_ret, inBlockX_ret]
    refine ret_go _ rfl ?_
    rw [e]; rfl
  have b3 : decide (c < 0) = false := decide_eq_false d3
  by_cases d4 : 60 < c
  · have b4 : decide (60 < c) = true := decide_eq_true d4
    have e := matR_bad (r := r) (c := c) (L := l) (by omega)
    first | refine Gx.a (by kernel_rfl) fun K hK => ?_ | refine Gx.b (by kernel_rfl) fun K hK => ?_ | refine Gx.c (by kernel_rfl) fun K hK => ?_
    simp only [XM, XA, XB, gateX, Nat.reduceAdd, Nat.reduceLeDiff, Nat.reduceSub, Nat.reduceMul, ↓reduceIte, Int.reduceToNat, Int.reduceLE, beq_self_eq_true, b1, b2, b3, b4]
    refine hK _ ?_
    first | refine Gx.t rfl ?_ | refine XWP.seq (Gx.t rfl ?_)
    first | refine Gx.a (by kernel_rfl) fun K hK => ?_ | refine Gx.b (by kernel_rfl) fun K hK => ?_ | refine Gx.c (by kernel_rfl) fun K hK => ?_
    simp only [XM, XA, XB, gateX, Nat.reduceAdd, Nat.reduceLeDiff, Nat.reduceSub, Nat.reduceMul, ↓reduceIte, Int.reduceToNat, Int.reduceLE, beq_self_eq_true]
    refine hK _ (XWP.ret ?_)
    try simp only [thenX_ret, inBlockX_ret]
    refine ret_go _ rfl ?_
    rw [e]; rfl
  have b4 : decide (60 < c) = false := decide_eq_false d4
  have hm60 := mul60 (r := r) (c := c) (by omega) (by omega) (by omega) (by omega)
  have w : IntKind.i64.wrap (r * c) = r * c := wrap_id (by omega) (by omega)
  by_cases d5 : (l.length : Int) = r * c
  rotate_left
  · have b5 : decide ((l.length : Int) = r * c) = false := decide_eq_false d5
    have e := matR_bad (r := r) (c := c) (L := l) (by omega)
    first | refine Gx.a (by kernel_rfl) fun K hK => ?_ | refine Gx.b (by kernel_rfl) fun K hK => ?_ | refine Gx.c (by kernel_rfl) fun K hK => ?_
    simp only [XM, XA, XB, gateX, Nat.reduceAdd, Nat.reduceLeDiff, Nat.reduceSub, Nat.reduceMul, ↓reduceIte, Int.reduceToNat, Int.reduceLE, beq_self_eq_true, b1, b2, b3, b4, w, b5]
    refine hK _ ?_
    first | refine Gx.t rfl ?_ | refine XWP.seq (Gx.t rfl ?_)
    first | refine Gx.a (by kernel_rfl) fun K hK => ?_ | refine Gx.b (by kernel_rfl) fun K hK => ?_ | refine Gx.c (by kernel_rfl) fun K hK => ?_
    simp only [XM, XA, XB, gateX, Nat.reduceAdd, Nat.reduceLeDiff, Nat.reduceSub, Nat.reduceMul, ↓reduceIte, Int.reduceToNat, Int.reduceLE, beq_self_eq_true]
    refine hK _ (XWP.ret ?_)
    try simp only [thenX_ret, inBlockX_ret]
    refine ret_go _ rfl ?_
    rw [e]; rfl
  have b5 : decide ((l.length : Int) = r * c) = true := decide_eq_true d5
  first | refine Gx.a (by kernel_rfl) fun K hK => ?_ | refine Gx.b (by kernel_rfl) fun K hK => ?_ | refine Gx.c (by kernel_rfl) fun K hK => ?_
  simp only [XM, XA, XB, gateX, Nat.reduceAdd, Nat.reduceLeDiff, Nat.reduceSub, Nat.reduceMul, ↓reduceIte, Int.reduceToNat, Int.reduceLE, beq_self_eq_true, b1, b2, b3, b4, w, b5]
  refine hK _ ?_
  first | refine Gx.f rfl ?_ | refine XWP.seq (Gx.f rfl ?_)
  refine XWP.skip ?_
  have eM : matR r c l = okR l := by unfold matR; rw [decide_eq_true ⟨by omega, by omega, by omega, by omega, d5⟩]; rfl
  rw [eM]
  clear eM
  refine XWP.cutD 1 (fun s => ∃ V2, StIs (fun Z => [Z 0,Z 1,Z 2,Z 3,Z 4,Z 5,Z 6,Z 7,Z 8,Z 9,Z 10,Z 11,Z 12,Z 13,Z 14,Z 15,Z 16,Z 17,Z 18,Z 19,Z 20,Z 21,Z 22,Z 23,Z 24,Z 25,Z 26,Z 27,Z 28,Z 29,Z 30,Z 31,Z 32,Z 33,Z 34,Z 35,Z 36,Z 37,Z 38,Z 39,Z 40,Z 41,Z 42,Z 43,Z 44]) [[.int .i64 r, .int .i64 c, .slice A l.length cp]] (fun _ => none) V2 s ∧ okR l = true) ?_ ?_
  · first | refine Gx.a (by kernel_rfl) fun K hK => ?_ | refine Gx.b (by kernel_rfl) fun K hK => ?_ | refine Gx.c (by kernel_rfl) fun K hK => ?_
    simp only [XM, XA, XB, gateX, Nat.reduceAdd, Nat.reduceLeDiff, Nat.reduceSub, Nat.reduceMul, ↓reduceIte, Int.reduceToNat, Int.reduceLE, beq_self_eq_true]
    refine hK _ ?_
    clear hK
    first | refine XWP.block ?_ | refine XWP.seq (XWP.block ?_)
    refine XWP.loopD 1 (fun n s => ∃ (k : Nat) (V2 : View), StIs (fun Z => [Z 0, .p 0 0, Z 2,Z 3,Z 4,Z 5,Z 6,Z 7,Z 8,Z 9,Z 10,Z 11,Z 12,Z 13,Z 14,Z 15,Z 16,Z 17,Z 18,Z 19,Z 20,Z 21,Z 22,Z 23,Z 24,Z 25,Z 26,Z 27,Z 28,Z 29,Z 30,Z 31,Z 32,Z 33,Z 34, .v (.slice A l.length cp), .v (.int .i64 (l.length : Int)), .v (.int .i64 (k : Int)), Z 38,Z 39,Z 40,Z 41,Z 42,Z 43,Z 44]) [[.int .i64 r, .int .i64 c, .slice A l.length cp]] (fun _ => none) V2 s ∧ V.le V2 ∧ n + k = l.length ∧ okR (l.take k) = true) l.length ⟨0, V, StIs.of (by exact rfl), View.le_refl _, rfl, by simp [okR]⟩ ?_
    rintro n s ⟨k, V2, hs, hV2, hn, hk⟩
    obtain ⟨u, rfl⟩ := hs.out
    try dsimp only
    by_cases hlt : k < l.length
    · have b6 : decide ((k : Int) < (l.length : Int)) = true := decide_eq_true (by omega)
      first | refine Gx.a (by kernel_rfl) fun K hK => ?_ | refine Gx.b (by kernel_rfl) fun K hK => ?_ | refine Gx.c (by kernel_rfl) fun K hK => ?_
      simp only [XM, XA, XB, gateX, Nat.reduceAdd, Nat.reduceLeDiff, Nat.reduceSub, Nat.reduceMul, ↓reduceIte, Int.reduceToNat, Int.reduceLE, beq_self_eq_true, b6]
      refine hK _ ?_
      first | refine Gx.t rfl ?_ | refine XWP.seq (Gx.t rfl ?_)
      refine XWP.skip ?_
      refine XWP.seq ?_
      first | refine XWP.block ?_ | refine XWP.seq (XWP.block ?_)
      first | refine Gx.a (by kernel_rfl) fun K hK => ?_ | refine Gx.b (by kernel_rfl) fun K hK => ?_ | refine Gx.c (by kernel_rfl) fun K hK => ?_
      have hv2 := Raws.up h hV2
      obtain ⟨b, o, rfl⟩ := SlAt.addr hv2 (by omega)
      obtain ⟨x, hx, ⟨m3, n3, d3, rfl, p1, p2, p3⟩, hld⟩ := SlAt.load hv2 k hlt
      simp only [XM, XA, XB, gateX, Nat.reduceAdd, Nat.reduceLeDiff, Nat.reduceSub, Nat.reduceMul, ↓reduceIte, Int.reduceToNat, Int.reduceLE, beq_self_eq_true]
      refine ⟨by omega, by omega, ld_mem (hld _) ?_⟩
      simp only [XM, XA, XB, gateX, Nat.reduceAdd, Nat.reduceLeDiff, Nat.reduceSub, Nat.reduceMul, ↓reduceIte, Int.reduceToNat, Int.reduceLE, beq_self_eq_true]
      refine st_rat rfl rfl p1 p2 p3 ?_
      simp only [XM, XA, XB, gateX, Nat.reduceAdd, Nat.reduceLeDiff, Nat.reduceSub, Nat.reduceMul, ↓reduceIte, Int.reduceToNat, Int.reduceLE, beq_self_eq_true]
      refine hK _ ?_
      have ff := f _ (List.getElem_mem hlt)
      first | refine Gx.a (by kernel_rfl) fun K hK => ?_ | refine Gx.b (by kernel_rfl) fun K hK => ?_ | refine Gx.c (by kernel_rfl) fun K hK => ?_
      simp only [XM, XA, XB, gateX, Nat.reduceAdd, Nat.reduceLeDiff, Nat.reduceSub, Nat.reduceMul, ↓reduceIte, Int.reduceToNat, Int.reduceLE, beq_self_eq_true]
      refine call_go (by kernel_rfl) rfl (qright_c _ _ _ _ _ hx ff.1 ff.2) fun v3 V3 hV3 h3 => ?_
      subst h3
      have et : l.take (k + 1) = l.take k ++ [l[k]] := by rw [List.take_succ_eq_append_getElem hlt]
      cases hr : rawOk l[k].m l[k].nd l[k].dd
      · simp only [XM, XA, XB, gateX, Nat.reduceAdd, Nat.reduceLeDiff, Nat.reduceSub, Nat.reduceMul, ↓reduceIte, Int.reduceToNat, Int.reduceLE, beq_self_eq_true]
        refine hK _ ?_
        first | refine Gx.t rfl ?_ | refine XWP.seq (Gx.t rfl ?_)
        first | refine Gx.a (by kernel_rfl) fun K hK => ?_ | refine Gx.b (by kernel_rfl) fun K hK => ?_ | refine Gx.c (by kernel_rfl) fun K hK => ?_
        simp only [XM, XA, XB, gateX, Nat.reduceAdd, Nat.reduceLeDiff, Nat.reduceSub, Nat.reduceMul, ↓reduceIte, Int.reduceToNat, Int.reduceLE, beq_self_eq_true]
        refine hK _ (XWP.ret ?_)
        try simp only [thenX_ret, inBlockX_ret]
        refine ret_go _ rfl ?_
        have : okR l = false := by
          unfold okR
          rw [List.all_eq_false]
          exact ⟨l[k], List.getElem_mem hlt, by unfold Raw.ok; rw [hr]; simp⟩
        rw [this]; rfl
      · simp only [XM, XA, XB, gateX, Nat.reduceAdd, Nat.reduceLeDiff, Nat.reduceSub, Nat.reduceMul, ↓reduceIte, Int.reduceToNat, Int.reduceLE, beq_self_eq_true]
        refine hK _ ?_
        first | refine Gx.f rfl ?_ | refine XWP.seq (Gx.f rfl ?_)
        refine XWP.skip ?_
        first | refine Gx.a (by kernel_rfl) fun K hK => ?_ | refine Gx.b (by kernel_rfl) fun K hK => ?_ | refine Gx.c (by kernel_rfl) fun K hK => ?_
        simp only [XM, XA, XB, gateX, Nat.reduceAdd, Nat.reduceLeDiff, Nat.reduceSub, Nat.reduceMul, ↓reduceIte, Int.reduceToNat, Int.reduceLE, beq_self_eq_true, i64_succ k (by omega)]
        refine hK _ ⟨n - 1, by omega, fun f => ⟨k + 1, V3, StIs.of (by exact rfl), View.le_trans hV2 hV3, by omega, ?_⟩⟩
        unfold okR at hk ⊢
        rw [et, List.all_append, hk]
        simp [Raw.ok, hr]
    · have b6 : decide ((k : Int) < (l.length : Int)) = false := decide_eq_false (by omega)
      first | refine Gx.a (by kernel_rfl) fun K hK => ?_ | refine Gx.b (by kernel_rfl) fun K hK => ?_ | refine Gx.c (by kernel_rfl) fun K hK => ?_
      simp only [XM, XA, XB, gateX, Nat.reduceAdd, Nat.reduceLeDiff, Nat.reduceSub, Nat.reduceMul, ↓reduceIte, Int.reduceToNat, Int.reduceLE, beq_self_eq_true, b6]
      refine hK _ ?_
      first | refine Gx.f rfl ?_ | refine XWP.seq (Gx.f rfl ?_)
      refine XWP.exit ?_
      rw [List.take_of_length_le (by omega)] at hk
      exact fun f => ⟨V2, StIs.of (by exact rfl), hk⟩
  rintro s ⟨V2, hs, hk⟩
  obtain ⟨u, rfl⟩ := hs.out
  try dsimp only
  first | refine Gx.a (by kernel_rfl) fun K hK => ?_ | refine Gx.b (by kernel_rfl) fun K hK => ?_ | refine Gx.c (by kernel_rfl) fun K hK => ?_
  simp only [XM, XA, XB, gateX, Nat.reduceAdd, Nat.reduceLeDiff, Nat.reduceSub, Nat.reduceMul, ↓reduceIte, Int.reduceToNat, Int.reduceLE, beq_self_eq_true]
  refine hK _ (XWP.ret ?_)
  try simp only [thenX_ret, inBlockX_ret]
  refine ret_go _ rfl ?_
  rw [hk]; rfl
/-- a cell of a matrix that is right -/
theorem ccell_c (V : View) (s : Value) (r : Int) (n i k : Nat) (l : List Rat) (h : Rats V s l) (hk : i * n + k < l.length) (hn : n ≤ 60) (hi : i ≤ 60) (ll : l.length ≤ 1000000) :
    Spec Try.prog 129 [.agg #[.int .i64 r, .int .i64 (n : Int), s], .int .i64 (i : Int), .int .i64 (k : Int)] V fun v' V' => RatC V' v' (cf l (i * n + k)) := by
  obtain ⟨A, cp, rfl, hc, hm⟩ := h.form
  obtain ⟨b, o, rfl⟩ := SlAt.addr h (by omega)
  obtain ⟨m3, n3, d3, hx, ⟨p1, p2, p3⟩, hld⟩ := Rats.get h (i * n + k) hk
  have hin : i * n ≤ 3600 := Nat.le_trans (Nat.mul_le_mul hi hn) (by decide)
  have w1 : IntKind.i64.wrap ((i : Int) * (n : Int)) = ((i * n : Nat) : Int) := by rw [← Int.natCast_mul, wrap_id (by omega) (by omega)]
  have w2 := i64_add (i * n) k (by omega)
  refine (Spec.enter Try.func129 rfl fun Γ => ?_)
  simp only [Try.ntmps129, List.map_cons, List.map_nil, List.length_cons, List.length_nil, Nat.reduceAdd, Nat.reduceSub, List.replicate_succ, List.replicate_zero, List.cons_append, List.nil_append]
  first | refine Gx.a (by kernel_rfl) fun K hK => ?_ | refine Gx.b (by kernel_rfl) fun K hK => ?_ | refine Gx.c (by kernel_rfl) fun K hK => ?_
  simp only [XM, XA, XB, gateX, Nat.reduceAdd, Nat.reduceLeDiff, Nat.reduceSub, Nat.reduceMul, ↓reduceIte, Int.reduceToNat, Int.reduceLE, beq_self_eq_true]
  refine hK _ ?_
  first | refine Gx.a (by kernel_rfl) fun K hK => ?_ | refine Gx.b (by kernel_rfl) fun K hK => ?_ | refine Gx.c (by kernel_rfl) fun K hK => ?_
  simp only [XM, XA, XB, gateX, Nat.reduceAdd, Nat.reduceLeDiff, Nat.reduceSub, Nat.reduceMul, ↓reduceIte, Int.reduceToNat, Int.reduceLE, beq_self_eq_true, w1, w2]
  refine ⟨by omega, by omega, ld_mem (hld _) ?_⟩
  simp only [XM, XA, XB, gateX, Nat.reduceAdd, Nat.reduceLeDiff, Nat.reduceSub, Nat.reduceMul, ↓reduceIte, Int.reduceToNat, Int.reduceLE, beq_self_eq_true]
  refine st_rat rfl rfl p1 p2 p3 ?_
  simp only [XM, XA, XB, gateX, Nat.reduceAdd, Nat.reduceLeDiff, Nat.reduceSub, Nat.reduceMul, ↓reduceIte, Int.reduceToNat, Int.reduceLE, beq_self_eq_true]
  refine hK _ (XWP.ret ?_)
  try simp only [thenX_ret, inBlockX_ret]
  exact ret_rat1 rfl rfl rfl hx
end Go.Proofs.Ytkgmicakfmllmaa
end
section
namespace Go.Proofs.Ytkgmicakfmllmaa
open Go Go.RowKit
set_option linter.unusedSimpArgs false
set_option linter.unusedVariables false
attribute [local irreducible] XWP Spec SpecO XPub XCall seqX clX apX stX ldX iaX slX
theorem sgI_abs (q : Rat) : (q.num : Int) = sgI q * (q.num.natAbs : Int) := by
  unfold sgI
  have h0 := rat_zero_iff q
  by_cases h : q = 0
  · rw [if_pos h, h]; rfl
  · rw [if_neg h]
    cases hn : ng q
    · have := (ng_iff q).1 hn
      have := Rat.num_nonneg.2 this
      rw [if_neg (by simp)]; omega
    · unfold ng at hn
      have := of_decide_eq_true hn
      rw [if_pos rfl]; omega
theorem sgI_val (q : Rat) : sgI q = 0 ∨ sgI q = 1 ∨ sgI q = -1 := by
  unfold sgI
  split
  · exact .inl rfl
  · split
    · exact .inr (.inr rfl)
    · exact .inr (.inl rfl)
theorem cmp_same {p q : Rat} (h : sgI p = sgI q) : sgI p * cmpI (p.num.natAbs * q.den) (q.num.natAbs * p.den) = 0 ↔ p = q := by
  have hp := sgI_abs p
  have hq := sgI_abs q
  constructor
  · intro hz
    rcases Int.mul_eq_zero.1 hz with h0 | h0
    · have e1 := sgI_zero p
      have e2 := sgI_zero q
      rw [← h, h0] at e2
      rw [h0] at e1
      have e1 : p = 0 := by simpa using e1.symm
      have e2 : q = 0 := by simpa using e2.symm
      rw [e1, e2]
    · have e : p.num.natAbs * q.den = q.num.natAbs * p.den := by
        unfold cmpI at h0
        split at h0
        · cases h0
        · split at h0
          · cases h0
          · omega
      rw [Rat.eq_iff_mul_eq_mul, hp, hq, h, Int.mul_assoc, Int.mul_assoc, ← Int.natCast_mul, ← Int.natCast_mul, e]
  · intro e
    subst e
    have : cmpI (p.num.natAbs * p.den) (p.num.natAbs * p.den) = 0 := by unfold cmpI; rw [if_neg (by omega), if_neg (by omega)]
    rw [this, Int.mul_zero]
theorem cmpI_val (a b : Nat) : cmpI a b = 0 ∨ cmpI a b = 1 ∨ cmpI a b = -1 := by
  unfold cmpI
  split
  · exact .inr (.inr rfl)
  · split
    · exact .inr (.inl rfl)
    · exact .inl rfl
theorem qcompare_c (V : View) (v u : Value) (p q : Rat) (hv : RatC V v p) (hu : RatC V u q) (fp : QF p) (fq : QF q) : Spec Try.prog 46 [v, u] V fun v' V' => ∃ z : Int, v' = .int .i64 z ∧ (z = 0 ↔ p = q) := by
  have hv0 := hv
  have hu0 := hu
  obtain ⟨n1, d1, rfl, hn1, hd1⟩ := hv
  obtain ⟨n2, d2, rfl, hn2, hd2⟩ := hu
  refine (Spec.enter Try.func46 rfl fun Γ => ?_)
  simp only [Try.ntmps46, List.map_cons, List.map_nil, List.length_cons, List.length_nil, Nat.reduceAdd, Nat.reduceSub, List.replicate_succ, List.replicate_zero, List.cons_append, List.nil_append]
  first | refine Gx.a (by kernel_rfl) fun K hK => ?_ | refine Gx.b (by kernel_rfl) fun K hK => ?_ | refine Gx.c (by kernel_rfl) fun K hK => ?_
  simp only [XA, XB, gateX, Nat.reduceAdd, Nat.reduceLeDiff, Nat.reduceSub, Nat.reduceMul, ↓reduceIte, Int.reduceToNat, Int.reduceLE, beq_self_eq_true]
  refine hK _ ?_
  (first | refine XWP.drw [0, 2, 1, 3, 4, 5] (by kernel_rfl) (by kernel_rfl) (by kernel_rfl) fun K hK => ?_ | refine XWP.seq (XWP.drw [0, 2, 1, 3, 4, 5] (by kernel_rfl) (by kernel_rfl) (by kernel_rfl) fun K hK => ?_) | refine XWP.drw1 [0, 2, 1, 3, 4, 5] (by kernel_rfl) (by kernel_rfl) (by kernel_rfl) fun K hK => ?_) <;> dsimp only [pickOps, List.getElem?_cons_zero, List.getElem?_cons_succ]
  simp only [XA, XB, gateX, Nat.reduceAdd, Nat.reduceLeDiff, Nat.reduceSub, Nat.reduceMul, ↓reduceIte, Int.reduceToNat, Int.reduceLE, beq_self_eq_true]
  refine call_go (by kernel_rfl) rfl (qsign_c _ _ _ hv0) fun v1 V1 hV1 h1 => ?_
  subst h1
  simp only [XA, XB, gateX, Nat.reduceAdd, Nat.reduceLeDiff, Nat.reduceSub, Nat.reduceMul, ↓reduceIte, Int.reduceToNat, Int.reduceLE, beq_self_eq_true]
  refine call_go (by kernel_rfl) rfl (qsign_c _ _ _ (hu0.mono hV1)) fun v2 V2 hV2 h2 => ?_
  subst h2
  simp only [XA, XB, gateX, Nat.reduceAdd, Nat.reduceLeDiff, Nat.reduceSub, Nat.reduceMul, ↓reduceIte, Int.reduceToNat, Int.reduceLE, beq_self_eq_true]
  refine hK _ ?_
  have hV := View.le_trans hV1 hV2
  have hne : sgI p ≠ sgI q → ¬ p = q := fun h e => h (by rw [e])
  refine XWP.cut (fun s => StIs (fun Z => [Z 0,Z 1, .p 0 0, .p 1 0, Z 4, .v (.int .i64 (sgI p)), .v (.int .i64 (sgI q)), Z 7,Z 8,Z 9,Z 10,Z 11,Z 12,Z 13,Z 14,Z 15,Z 16,Z 17,Z 18,Z 19,Z 20,Z 21,Z 22,Z 23,Z 24,Z 25,Z 26,Z 27,Z 28,Z 29,Z 30,Z 31]) [[.bool (ng p), n1, d1], [.bool (ng q), n2, d2]] (fun _ => none) V2 s ∧ sgI p = sgI q) ?_ ?_
  · first | refine XWP.block ?_ | refine XWP.seq (XWP.block ?_)
    by_cases k1 : sgI p < sgI q
    · have b1 : decide (sgI p < sgI q) = true := decide_eq_true k1
      first | refine Gx.a (by kernel_rfl) fun K hK => ?_ | refine Gx.b (by kernel_rfl) fun K hK => ?_ | refine Gx.c (by kernel_rfl) fun K hK => ?_
      simp only [XA, XB, gateX, Nat.reduceAdd, Nat.reduceLeDiff, Nat.reduceSub, Nat.reduceMul, ↓reduceIte, Int.reduceToNat, Int.reduceLE, beq_self_eq_true, b1]
      refine hK _ ?_
      first | refine Gx.t rfl ?_ | refine XWP.seq (Gx.t rfl ?_)
      first | refine Gx.a (by kernel_rfl) fun K hK => ?_ | refine Gx.b (by kernel_rfl) fun K hK => ?_ | refine Gx.c (by kernel_rfl) fun K hK => ?_
      simp only [XA, XB, gateX, Nat.reduceAdd, Nat.reduceLeDiff, Nat.reduceSub, Nat.reduceMul, ↓reduceIte, Int.reduceToNat, Int.reduceLE, beq_self_eq_true]
      refine hK _ (XWP.ret ?_)
      try simp only [thenX_ret, inBlockX_ret]
      refine ret_go _ rfl ?_
      exact ⟨-1, rfl, (fun h => by cases h), fun h => absurd h (hne (by omega))⟩
    have b1 : decide (sgI p < sgI q) = false := decide_eq_false k1
    by_cases k2 : sgI q < sgI p
    · have b2 : decide (sgI q < sgI p) = true := decide_eq_true k2
      first | refine Gx.a (by kernel_rfl) fun K hK => ?_ | refine Gx.b (by kernel_rfl) fun K hK => ?_ | refine Gx.c (by kernel_rfl) fun K hK => ?_
      simp only [XA, XB, gateX, Nat.reduceAdd, Nat.reduceLeDiff, Nat.reduceSub, Nat.reduceMul, ↓reduceIte, Int.reduceToNat, Int.reduceLE, beq_self_eq_true, b1]
      refine hK _ ?_
      first | refine Gx.f rfl ?_ | refine XWP.seq (Gx.f rfl ?_)
      first | refine Gx.a (by kernel_rfl) fun K hK => ?_ | refine Gx.b (by kernel_rfl) fun K hK => ?_ | refine Gx.c (by kernel_rfl) fun K hK => ?_
      simp only [XA, XB, gateX, Nat.reduceAdd, Nat.reduceLeDiff, Nat.reduceSub, Nat.reduceMul, ↓reduceIte, Int.reduceToNat, Int.reduceLE, beq_self_eq_true, b2]
      refine hK _ ?_
      first | refine Gx.t rfl ?_ | refine XWP.seq (Gx.t rfl ?_)
      first | refine Gx.a (by kernel_rfl) fun K hK => ?_ | refine Gx.b (by kernel_rfl) fun K hK => ?_ | refine Gx.c (by kernel_rfl) fun K hK => ?_
      simp only [XA, XB, gateX, Nat.reduceAdd, Nat.reduceLeDiff, Nat.reduceSub, Nat.reduceMul, ↓reduceIte, Int.reduceToNat, Int.reduceLE, beq_self_eq_true]
      refine hK _ (XWP.ret ?_)
      try simp only [thenX_ret, inBlockX_ret]
      refine ret_go _ rfl ?_
      exact ⟨1, rfl, (fun h => by cases h), fun h => absurd h (hne (by omega))⟩
    have b2 : decide (sgI q < sgI p) = false := decide_eq_false k2
    first | refine Gx.a (by kernel_rfl) fun K hK => ?_ | refine Gx.b (by kernel_rfl) fun K hK => ?_ | refine Gx.c (by kernel_rfl) fun K hK => ?_
    simp only [XA, XB, gateX, Nat.reduceAdd, Nat.reduceLeDiff, Nat.reduceSub, Nat.reduceMul, ↓reduceIte, Int.reduceToNat, Int.reduceLE, beq_self_eq_true, b1]
    refine hK _ ?_
    first | refine Gx.f rfl ?_ | refine XWP.seq (Gx.f rfl ?_)
    first | refine Gx.a (by kernel_rfl) fun K hK => ?_ | refine Gx.b (by kernel_rfl) fun K hK => ?_ | refine Gx.c (by kernel_rfl) fun K hK => ?_
    simp only [XA, XB, gateX, Nat.reduceAdd, Nat.reduceLeDiff, Nat.reduceSub, Nat.reduceMul, ↓reduceIte, Int.reduceToNat, Int.reduceLE, beq_self_eq_true, b2]
    refine hK _ ?_
    first | refine Gx.f rfl ?_ | refine XWP.seq (Gx.f rfl ?_)
    refine XWP.skip ?_
    exact ⟨StIs.of (by exact rfl), by omega⟩
  rintro s ⟨hs, hsg⟩
  obtain ⟨z, rfl⟩ := hs.out
  try dsimp only
  (first | refine XWP.drw [0, 1, 2, 3, 4, 6, 7, 8, 9, 5, 10, 11, 12, 13] (by kernel_rfl) (by kernel_rfl) (by kernel_rfl) fun K hK => ?_ | refine XWP.seq (XWP.drw [0, 1, 2, 3, 4, 6, 7, 8, 9, 5, 10, 11, 12, 13] (by kernel_rfl) (by kernel_rfl) (by kernel_rfl) fun K hK => ?_) | refine XWP.drw1 [0, 1, 2, 3, 4, 6, 7, 8, 9, 5, 10, 11, 12, 13] (by kernel_rfl) (by kernel_rfl) (by kernel_rfl) fun K hK => ?_) <;> dsimp only [pickOps, List.getElem?_cons_zero, List.getElem?_cons_succ]
  simp only [XA, XB, gateX, Nat.reduceAdd, Nat.reduceLeDiff, Nat.reduceSub, Nat.reduceMul, ↓reduceIte, Int.reduceToNat, Int.reduceLE, beq_self_eq_true]
  refine call_go (by kernel_rfl) rfl (mul_c _ _ _ _ _ (hn1.mono hV) (hd2.mono hV) fp.fits.1 fq.fits.2) fun v3 V3 hV3 h3 => ?_
  simp only [XA, XB, gateX, Nat.reduceAdd, Nat.reduceLeDiff, Nat.reduceSub, Nat.reduceMul, ↓reduceIte, Int.reduceToNat, Int.reduceLE, beq_self_eq_true]
  refine call_go (by kernel_rfl) rfl (mul_c _ _ _ _ _ ((hn2.mono hV).mono hV3) ((hd1.mono hV).mono hV3) fq.fits.1 fp.fits.2) fun v4 V4 hV4 h4 => ?_
  simp only [XA, XB, gateX, Nat.reduceAdd, Nat.reduceLeDiff, Nat.reduceSub, Nat.reduceMul, ↓reduceIte, Int.reduceToNat, Int.reduceLE, beq_self_eq_true]
  refine call_go (by kernel_rfl) rfl (compare_c _ _ _ _ _ (h3.mono hV4) h4) fun v5 V5 hV5 h5 => ?_
  subst h5
  have w : IntKind.i64.wrap (sgI p * cmpI (p.num.natAbs * q.den) (q.num.natAbs * p.den)) = sgI p * cmpI (p.num.natAbs * q.den) (q.num.natAbs * p.den) := by
    rcases sgI_val p with e | e | e <;> rcases cmpI_val (p.num.natAbs * q.den) (q.num.natAbs * p.den) with e' | e' | e' <;> rw [e, e'] <;> exact wrap_id (by omega) (by omega)
  simp only [XA, XB, gateX, Nat.reduceAdd, Nat.reduceLeDiff, Nat.reduceSub, Nat.reduceMul, ↓reduceIte, Int.reduceToNat, Int.reduceLE, beq_self_eq_true, w]
  refine hK _ (XWP.ret ?_)
  try simp only [thenX_ret, inBlockX_ret]
  refine ret_go _ rfl ?_
  exact ⟨_, rfl, cmp_same hsg⟩
theorem qsame_c (V : View) (v u : Value) (p q : Rat) (hv : RatC V v p) (hu : RatC V u q) (fp : QF p) (fq : QF q) : Spec Try.prog 56 [v, u] V fun v' V' => v' = .bool (decide (p = q)) := by
  have hv0 := hv
  have hu0 := hu
  obtain ⟨x1, y1, rfl, o1, o2⟩ := hv.form
  obtain ⟨x2, y2, rfl, o3, o4⟩ := hu.form
  refine (Spec.enter Try.func56 rfl fun Γ => ?_)
  simp only [Try.ntmps56, List.map_cons, List.map_nil, List.length_cons, List.length_nil, Nat.reduceAdd, Nat.reduceSub, List.replicate_succ, List.replicate_zero, List.cons_append, List.nil_append]
  first | refine Gx.a (by kernel_rfl) fun K hK => ?_ | refine Gx.b (by kernel_rfl) fun K hK => ?_ | refine Gx.c (by kernel_rfl) fun K hK => ?_
  simp only [XA, XB, gateX, Nat.reduceAdd, Nat.reduceLeDiff, Nat.reduceSub, Nat.reduceMul, ↓reduceIte, Int.reduceToNat, Int.reduceLE, beq_self_eq_true]
  refine hK _ ?_
  first | refine Gx.a (by kernel_rfl) fun K hK => ?_ | refine Gx.b (by kernel_rfl) fun K hK => ?_ | refine Gx.c (by kernel_rfl) fun K hK => ?_
  simp only [XA, XB, gateX, Nat.reduceAdd, Nat.reduceLeDiff, Nat.reduceSub, Nat.reduceMul, ↓reduceIte, Int.reduceToNat, Int.reduceLE, beq_self_eq_true]
  refine call_go (by kernel_rfl) rfl (qcompare_c _ _ _ _ _ hv0 hu0 fp fq) fun v1 V1 hV1 h1 => ?_
  obtain ⟨z, rfl, hz⟩ := h1
  simp only [XA, XB, gateX, Nat.reduceAdd, Nat.reduceLeDiff, Nat.reduceSub, Nat.reduceMul, ↓reduceIte, Int.reduceToNat, Int.reduceLE, beq_self_eq_true]
  refine hK _ (XWP.ret ?_)
  try simp only [thenX_ret, inBlockX_ret]
  refine ret_go _ rfl ?_
  show Value.bool _ = _
  congr 1
  rw [decide_eq_decide]; exact hz
end Go.Proofs.Ytkgmicakfmllmaa
end
section
namespace Go.Proofs.Ytkgmicakfmllmaa
open Go Go.RowKit
set_option linter.unusedSimpArgs false
set_option linter.unusedVariables false
attribute [local irreducible] XWP Spec SpecO XPub XCall seqX clX apX stX ldX iaX slX
theorem st_mat {P : Program} {t i : Nat} {s : XS} {ops : Array Oper} {rest : List Oper} {K : XS → Prop} {d : Option Tmp} {m n e : Value} {vs : List Value} (hs : shapeT P t = some (true, 3)) (hb : s.bx[i]? = some vs) (hl : vs.length = 3) (h0 : isOne m = true) (h1 : isOne n = true) (h2 : isOne e = true) (h : seqX P ops rest K (XS.put ⟨s.t, s.bx.set i [m, n, e], s.H, s.V⟩ d (.v undef))) : stX P ops rest K s d t (.p i 0) (.v (.agg #[m, n, e])) := by
  refine st_agg (cs := [m, n, e]) hs hb rfl ⟨rfl, by simp [h0, h1, h2], by omega, ?_⟩
  have : splice vs 0 [m, n, e] = [m, n, e] := by
    unfold splice; simp [hl]
  rw [this]; exact h
end Go.Proofs.Ytkgmicakfmllmaa
end
section
namespace Go.Proofs.Ytkgmicakfmllmaa
open Go Go.RowKit
set_option linter.unusedSimpArgs false
set_option linter.unusedVariables false
attribute [local irreducible] XWP Spec SpecO XPub XCall seqX clX apX stX ldX iaX slX
def fewB (L : List Raw) : Bool := decide (L.length ≤ 70) && L.all fun r => decide (r.nd.length ≤ 3) && decide (r.dd.length ≤ 3)
theorem fewB_few {L : List Raw} (h : fewB L = true) : L.length ≤ 70 ∧ fewR L := by
  unfold fewB at h
  rw [Bool.and_eq_true, decide_eq_true_eq] at h
  refine ⟨h.1, fun r hr => ?_⟩
  have := List.all_eq_true.1 h.2 r hr
  simpa using this
theorem fewB_bad {L : List Raw} {r : Raw} (hr : r ∈ L) (h : ¬ (r.nd.length ≤ 3 ∧ r.dd.length ≤ 3)) : fewB L = false := by
  cases e : fewB L
  · rfl
  · exact absurd ((fewB_few e).2 r hr) h
/-- the fields of a number in a list -/
theorem Raws.fld {V : View} {b o n c : Nat} {l : List Raw} (h : Raws V (.slice (some ⟨b, o, none⟩) n c) l) (i : Nat) (hi : i < l.length) : ∃ n1 c1 A1 n2 c2 A2, (∀ H, Loads Try.prog H V 25 b (o + i * 3 + 1) (.slice A1 n1 c1)) ∧ (∀ H, Loads Try.prog H V 25 b (o + i * 3 + 2) (.slice A2 n2 c2)) ∧ n1 = l[i].nd.length ∧ n2 = l[i].dd.length ∧ n1 ≤ c1 ∧ n2 ≤ c2 ∧ c1 ≤ 9223372036854775807 ∧ c2 ≤ 9223372036854775807 := by
  obtain ⟨A', c', e, _, _, h3⟩ := h
  cases e
  rcases h3 with rfl | ⟨b', o', arr, ty, fr, e1, e2, h4⟩
  · simp at hi
  · cases e1
    obtain ⟨m, n, d, g1, g2, g3, o1, o2, o3, n', d', hE, k1, k2⟩ := h4 i l[i] (List.getElem?_eq_getElem hi)
    cases hE
    obtain ⟨A1, c1, rfl, q1, q2⟩ := k1.form
    obtain ⟨A2, c2, rfl, q3, q4⟩ := k2.form
    exact ⟨_, c1, A1, _, c2, A2, fun H => ⟨false, _, shapeT_25, .inr ⟨rfl, .inr ⟨arr, ty, fr, e2, g2⟩⟩⟩, fun H => ⟨false, _, shapeT_25, .inr ⟨rfl, .inr ⟨arr, ty, fr, e2, g3⟩⟩⟩, rfl, rfl, q1, q3, q2, q4⟩
theorem few34_c (V : View) (v : Value) (L : List Raw) (h : Raws V v L) : Spec Try.prog 6 [v] V fun v' V' => v' = .bool (fewB L) := by
  obtain ⟨A, c, rfl, hc, hm⟩ := h.form
  refine (Spec.enter Try.func6 rfl fun Γ => ?_)
  simp only [Try.ntmps6, List.map_cons, List.map_nil, List.length_cons, List.length_nil, Nat.reduceAdd, Nat.reduceSub, List.replicate_succ, List.replicate_zero, List.cons_append, List.nil_append]
  first | refine Gx.a (by kernel_rfl) fun K hK => ?_ | refine Gx.b (by kernel_rfl) fun K hK => ?_ | refine Gx.c (by kernel_rfl) fun K hK => ?_
  simp only [XM, XA, XB, gateX, Nat.reduceAdd, Nat.reduceLeDiff, Nat.reduceSub, Nat.reduceMul, ↓reduceIte, Int.reduceToNat, Int.reduceLE, beq_self_eq_true]
  refine hK _ ?_
  refine XWP.seq ?_
  by_cases h70 : 70 < L.length
  · have b1 : decide ((70 : Int) < (L.length : Int)) = true := decide_eq_true (by omega)
    first | refine Gx.a (by kernel_rfl) fun K hK => ?_ | refine Gx.b (by kernel_rfl) fun K hK => ?_ | refine Gx.c (by kernel_rfl) fun K hK => ?_
    simp only [XM, XA, XB, gateX, Nat.reduceAdd, Nat.reduceLeDiff, Nat.reduceSub, Nat.reduceMul, ↓reduceIte, Int.reduceToNat, Int.reduceLE, beq_self_eq_true, b1]
    refine hK _ ?_
    first | refine Gx.t rfl ?_ | refine XWP.seq (Gx.t rfl ?_)
    first | refine Gx.a (by kernel_rfl) fun K hK => ?_ | refine Gx.b (by kernel_rfl) fun K hK => ?_ | refine Gx.c (by kernel_rfl) fun K hK => ?_
    simp only [XM, XA, XB, gateX, Nat.reduceAdd, Nat.reduceLeDiff, Nat.reduceSub, Nat.reduceMul, ↓reduceIte, Int.reduceToNat, Int.reduceLE, beq_self_eq_true]
    refine hK _ (XWP.ret ?_)
    try simp only [thenX_ret, inBlockX_ret]
    refine ret_go _ rfl ?_
    unfold fewB; rw [decide_eq_false (by omega)]; rfl
  have b1 : decide ((70 : Int) < (L.length : Int)) = false := decide_eq_false (by omega)
  first | refine Gx.a (by kernel_rfl) fun K hK => ?_ | refine Gx.b (by kernel_rfl) fun K hK => ?_ | refine Gx.c (by kernel_rfl) fun K hK => ?_
  simp only [XM, XA, XB, gateX, Nat.reduceAdd, Nat.reduceLeDiff, Nat.reduceSub, Nat.reduceMul, ↓reduceIte, Int.reduceToNat, Int.reduceLE, beq_self_eq_true, b1]
  refine hK _ ?_
  first | refine Gx.f rfl ?_ | refine XWP.seq (Gx.f rfl ?_)
  refine XWP.skip ?_
  refine XWP.cutD 0 (fun s => ∃ V2, StIs (fun Z => [Z 0,Z 1,Z 2,Z 3,Z 4,Z 5,Z 6,Z 7,Z 8,Z 9,Z 10,Z 11,Z 12,Z 13,Z 14,Z 15,Z 16,Z 17,Z 18,Z 19,Z 20,Z 21,Z 22,Z 23,Z 24,Z 25,Z 26,Z 27,Z 28]) [] (fun _ => none) V2 s ∧ fewB L = true) ?_ ?_
  · first | refine Gx.a (by kernel_rfl) fun K hK => ?_ | refine Gx.b (by kernel_rfl) fun K hK => ?_ | refine Gx.c (by kernel_rfl) fun K hK => ?_
    simp only [XM, XA, XB, gateX, Nat.reduceAdd, Nat.reduceLeDiff, Nat.reduceSub, Nat.reduceMul, ↓reduceIte, Int.reduceToNat, Int.reduceLE, beq_self_eq_true]
    refine hK _ ?_
    clear hK
    first | refine XWP.block ?_ | refine XWP.seq (XWP.block ?_)
    refine XWP.loopD 0 (fun n s => ∃ (k : Nat), StIs (fun Z => [.v (.slice A L.length c), Z 1,Z 2,Z 3,Z 4,Z 5,Z 6,Z 7, .v (.int .i64 (L.length : Int)), .v (.int .i64 (k : Int)), Z 10,Z 11,Z 12,Z 13,Z 14,Z 15,Z 16,Z 17,Z 18,Z 19,Z 20,Z 21,Z 22,Z 23,Z 24,Z 25,Z 26,Z 27,Z 28]) [] (fun _ => none) V s ∧ n + k = L.length ∧ ∀ r ∈ L.take k, r.nd.length ≤ 3 ∧ r.dd.length ≤ 3) L.length ⟨0, StIs.of (by exact rfl), by omega, fun r hr => by simp at hr⟩ ?_
    rintro n s ⟨k, hs, hn, hk⟩
    obtain ⟨z, rfl⟩ := hs.out
    try dsimp only
    clear hs
    by_cases hlt : k < L.length
    rotate_left
    · obtain rfl : k = L.length := by omega
      have b2 : decide ((L.length : Int) < (L.length : Int)) = false := decide_eq_false (by omega)
      first | refine Gx.a (by kernel_rfl) fun K hK => ?_ | refine Gx.b (by kernel_rfl) fun K hK => ?_ | refine Gx.c (by kernel_rfl) fun K hK => ?_
      simp only [XM, XA, XB, gateX, Nat.reduceAdd, Nat.reduceLeDiff, Nat.reduceSub, Nat.reduceMul, ↓reduceIte, Int.reduceToNat, Int.reduceLE, beq_self_eq_true, b2]
      refine hK _ ?_
      first | refine Gx.f rfl ?_ | refine XWP.seq (Gx.f rfl ?_)
      refine XWP.exit ?_
      rw [List.take_length] at hk
      refine fun f => ⟨V, StIs.of (by exact rfl), ?_⟩
      unfold fewB
      rw [decide_eq_true (by omega), Bool.true_and, List.all_eq_true]
      intro r hr
      have := hk r hr
      rw [decide_eq_true this.1, decide_eq_true this.2]; rfl
    have b2 : decide ((k : Int) < (L.length : Int)) = true := decide_eq_true (by omega)
    first | refine Gx.a (by kernel_rfl) fun K hK => ?_ | refine Gx.b (by kernel_rfl) fun K hK => ?_ | refine Gx.c (by kernel_rfl) fun K hK => ?_
    simp only [XM, XA, XB, gateX, Nat.reduceAdd, Nat.reduceLeDiff, Nat.reduceSub, Nat.reduceMul, ↓reduceIte, Int.reduceToNat, Int.reduceLE, beq_self_eq_true, b2]
    refine hK _ ?_
    first | refine Gx.t rfl ?_ | refine XWP.seq (Gx.t rfl ?_)
    refine XWP.skip ?_
    obtain ⟨b, o, rfl⟩ := SlAt.addr h (by omega)
    obtain ⟨n1, c1, A1, n2, c2, A2, l1, l2, e1, e2, q1, q2, q3, q4⟩ := Raws.fld h k hlt
    have hmem : L[k] ∈ L := List.getElem_mem hlt
    have et : L.take (k + 1) = L.take k ++ [L[k]] := by rw [List.take_succ_eq_append_getElem hlt]
    refine XWP.seq ?_
    first | refine XWP.block ?_ | refine XWP.seq (XWP.block ?_)
    first | refine Gx.a (by kernel_rfl) fun K hK => ?_ | refine Gx.b (by kernel_rfl) fun K hK => ?_ | refine Gx.c (by kernel_rfl) fun K hK => ?_
    simp only [XM, XA, XB, gateX, Nat.reduceAdd, Nat.reduceLeDiff, Nat.reduceSub, Nat.reduceMul, ↓reduceIte, Int.reduceToNat, Int.reduceLE, beq_self_eq_true]
    refine hK _ ?_
    first | refine Gx.a (by kernel_rfl) fun K hK => ?_ | refine Gx.b (by kernel_rfl) fun K hK => ?_ | refine Gx.c (by kernel_rfl) fun K hK => ?_
    simp only [XM, XA, XB, gateX, Nat.reduceAdd, Nat.reduceLeDiff, Nat.reduceSub, Nat.reduceMul, ↓reduceIte, Int.reduceToNat, Int.reduceLE, beq_self_eq_true]
    refine ⟨by omega, by omega, ld_mem (l1 _) ?_⟩
    by_cases d1 : 3 < n1
    · have b3 : decide ((3 : Int) < (n1 : Int)) = true := decide_eq_true (by omega)
      simp only [XM, XA, XB, gateX, Nat.reduceAdd, Nat.reduceLeDiff, Nat.reduceSub, Nat.reduceMul, ↓reduceIte, Int.reduceToNat, Int.reduceLE, beq_self_eq_true, b3]
      refine hK _ ?_
      first | refine Gx.t rfl ?_ | refine XWP.seq (Gx.t rfl ?_)
      first | refine Gx.a (by kernel_rfl) fun K hK => ?_ | refine Gx.b (by kernel_rfl) fun K hK => ?_ | refine Gx.c (by kernel_rfl) fun K hK => ?_
      simp only [XM, XA, XB, gateX, Nat.reduceAdd, Nat.reduceLeDiff, Nat.reduceSub, Nat.reduceMul, ↓reduceIte, Int.reduceToNat, Int.reduceLE, beq_self_eq_true]
      refine hK _ (XWP.ret ?_)
      try simp only [thenX_ret, inBlockX_ret]
      refine ret_go _ rfl ?_
      rw [fewB_bad hmem (by omega)]; rfl
    have b3 : decide ((3 : Int) < (n1 : Int)) = false := decide_eq_false (by omega)
    simp only [XM, XA, XB, gateX, Nat.reduceAdd, Nat.reduceLeDiff, Nat.reduceSub, Nat.reduceMul, ↓reduceIte, Int.reduceToNat, Int.reduceLE, beq_self_eq_true, b3]
    refine ⟨by omega, by omega, ld_mem (l2 _) ?_⟩
    by_cases d2 : 3 < n2
    · have b4 : decide ((3 : Int) < (n2 : Int)) = true := decide_eq_true (by omega)
      simp only [XM, XA, XB, gateX, Nat.reduceAdd, Nat.reduceLeDiff, Nat.reduceSub, Nat.reduceMul, ↓reduceIte, Int.reduceToNat, Int.reduceLE, beq_self_eq_true, b4]
      refine hK _ ?_
      first | refine Gx.t rfl ?_ | refine XWP.seq (Gx.t rfl ?_)
      first | refine Gx.a (by kernel_rfl) fun K hK => ?_ | refine Gx.b (by kernel_rfl) fun K hK => ?_ | refine Gx.c (by kernel_rfl) fun K hK => ?_
      simp only [XM, XA, XB, gateX, Nat.reduceAdd, Nat.reduceLeDiff, Nat.reduceSub, Nat.reduceMul, ↓reduceIte, Int.reduceToNat, Int.reduceLE, beq_self_eq_true]
      refine hK _ (XWP.ret ?_)
      try simp only [thenX_ret, inBlockX_ret]
      refine ret_go _ rfl ?_
      rw [fewB_bad hmem (by omega)]; rfl
    have b4 : decide ((3 : Int) < (n2 : Int)) = false := decide_eq_false (by omega)
    simp only [XM, XA, XB, gateX, Nat.reduceAdd, Nat.reduceLeDiff, Nat.reduceSub, Nat.reduceMul, ↓reduceIte, Int.reduceToNat, Int.reduceLE, beq_self_eq_true, b4]
    refine hK _ ?_
    first | refine Gx.f rfl ?_ | refine XWP.seq (Gx.f rfl ?_)
    refine XWP.skip ?_
    first | refine Gx.a (by kernel_rfl) fun K hK => ?_ | refine Gx.b (by kernel_rfl) fun K hK => ?_ | refine Gx.c (by kernel_rfl) fun K hK => ?_
    simp only [XM, XA, XB, gateX, Nat.reduceAdd, Nat.reduceLeDiff, Nat.reduceSub, Nat.reduceMul, ↓reduceIte, Int.reduceToNat, Int.reduceLE, beq_self_eq_true, i64_succ k (by omega)]
    refine hK _ ⟨n - 1, by omega, fun f => ⟨k + 1, StIs.of (by exact rfl), by omega, fun r hr => ?_⟩⟩
    rw [et, List.mem_append] at hr
    rcases hr with hr | hr
    · exact hk r hr
    · rw [List.mem_singleton.1 hr]; omega
  rintro s ⟨V2, hs, hf⟩
  obtain ⟨z, rfl⟩ := hs.out
  try dsimp only
  first | refine Gx.a (by kernel_rfl) fun K hK => ?_ | refine Gx.b (by kernel_rfl) fun K hK => ?_ | refine Gx.c (by kernel_rfl) fun K hK => ?_
  simp only [XM, XA, XB, gateX, Nat.reduceAdd, Nat.reduceLeDiff, Nat.reduceSub, Nat.reduceMul, ↓reduceIte, Int.reduceToNat, Int.reduceLE, beq_self_eq_true]
  refine hK _ (XWP.ret ?_)
  try simp only [thenX_ret, inBlockX_ret]
  refine ret_go _ rfl ?_
  rw [hf]; rfl
end Go.Proofs.Ytkgmicakfmllmaa
end
section
namespace Go.Proofs.Ytkgmicakfmllmaa
open Go Go.RowKit
set_option linter.unusedSimpArgs false
set_option linter.unusedVariables false
attribute [local irreducible] XWP Spec SpecO XPub XCall seqX clX apX stX ldX iaX slX
theorem gindex_c {g : FuncId} {p : Raw → Bool} (hcl : callable Try.prog g = true) (hg : ∀ (V : View) (v : Value) (r : Raw), rawE V v r → r.fit → Spec Try.prog g [v] V fun v' V' => v' = .bool (p r)) (V : View) (v : Value) (l : List Raw) (h : Raws V v l) (f : fitR l) (ll : l.length ≤ 1000000) : Spec Try.prog 99 [v, .func (.func g) #[] #[]] V fun v' V' => ∃ r : Int, v' = .int .i64 r ∧ decide (0 ≤ r) = l.any p := by
  obtain ⟨A, c, rfl, hc, hm⟩ := h.form
  refine (Spec.enter Try.func99 rfl fun Γ => ?_)
  simp only [Try.ntmps99, List.map_cons, List.map_nil, List.length_cons, List.length_nil, Nat.reduceAdd, Nat.reduceSub, List.replicate_succ, List.replicate_zero, List.cons_append, List.nil_append]
  first | refine Gx.a (by kernel_rfl) fun K hK => ?_ | refine Gx.b (by kernel_rfl) fun K hK => ?_ | refine Gx.c (by kernel_rfl) fun K hK => ?_
  simp only [XA, XB, gateX, Nat.reduceAdd, Nat.reduceLeDiff, Nat.reduceSub, Nat.reduceMul, ↓reduceIte, Int.reduceToNat, Int.reduceLE, beq_self_eq_true]
  refine hK _ ?_
  refine XWP.cut (fun s => StIs (fun Z => [Z 0,Z 1,Z 2,Z 3,Z 4,Z 5,Z 6,Z 7,Z 8,Z 9,Z 10,Z 11,Z 12,Z 13,Z 14,Z 15,Z 16,Z 17,Z 18]) [] (fun _ => none) s.V s ∧ l.any p = false) ?_ ?_
  · first | refine Gx.a (by kernel_rfl) fun K hK => ?_ | refine Gx.b (by kernel_rfl) fun K hK => ?_ | refine Gx.c (by kernel_rfl) fun K hK => ?_
    simp only [XA, XB, gateX, Nat.reduceAdd, Nat.reduceLeDiff, Nat.reduceSub, Nat.reduceMul, ↓reduceIte, Int.reduceToNat, Int.reduceLE, beq_self_eq_true]
    refine hK _ ?_
    clear hK
    first | refine XWP.block ?_ | refine XWP.seq (XWP.block ?_)
    refine XWP.loop (fun n s => ∃ (k : Nat) (V2 : View), StIs (fun Z => [.v (.slice A l.length c), .v (.func (.func g) #[] #[]), Z 2,Z 3,Z 4,Z 5,Z 6, .v (.int .i64 (l.length : Int)), .v (.int .i64 (k : Int)), Z 9,Z 10,Z 11,Z 12,Z 13,Z 14,Z 15,Z 16,Z 17,Z 18]) [] (fun _ => none) V2 s ∧ V.le V2 ∧ n + k = l.length ∧ (l.take k).any p = false) l.length ⟨0, V, StIs.of (by exact rfl), View.le_refl _, rfl, by simp⟩ ?_
    rintro n s ⟨k, V2, hs, hV2, hn, hk⟩
    obtain ⟨u, rfl⟩ := hs.out
    try dsimp only
    by_cases hlt : k < l.length
    · have b1 : decide ((k : Int) < (l.length : Int)) = true := decide_eq_true (by omega)
      first | refine Gx.a (by kernel_rfl) fun K hK => ?_ | refine Gx.b (by kernel_rfl) fun K hK => ?_ | refine Gx.c (by kernel_rfl) fun K hK => ?_
      simp only [XA, XB, gateX, Nat.reduceAdd, Nat.reduceLeDiff, Nat.reduceSub, Nat.reduceMul, ↓reduceIte, Int.reduceToNat, Int.reduceLE, beq_self_eq_true, b1]
      refine hK _ ?_
      first | refine Gx.t rfl ?_ | refine XWP.seq (Gx.t rfl ?_)
      refine XWP.skip ?_
      refine XWP.seq ?_
      first | refine XWP.block ?_ | refine XWP.seq (XWP.block ?_)
      first | refine Gx.a (by kernel_rfl) fun K hK => ?_ | refine Gx.b (by kernel_rfl) fun K hK => ?_ | refine Gx.c (by kernel_rfl) fun K hK => ?_
      simp only [XA, XB, gateX, Nat.reduceAdd, Nat.reduceLeDiff, Nat.reduceSub, Nat.reduceMul, ↓reduceIte, Int.reduceToNat, Int.reduceLE, beq_self_eq_true]
      refine hK _ ?_
      first | refine Gx.a (by kernel_rfl) fun K hK => ?_ | refine Gx.b (by kernel_rfl) fun K hK => ?_ | refine Gx.c (by kernel_rfl) fun K hK => ?_
      have hv2 := Raws.up h hV2
      obtain ⟨b, o, rfl⟩ := SlAt.addr hv2 (by omega)
      obtain ⟨x, hx, ⟨m3, n3, d3, rfl, p1, p2, p3⟩, hld⟩ := SlAt.load hv2 k hlt
      simp only [XA, XB, gateX, Nat.reduceAdd, Nat.reduceLeDiff, Nat.reduceSub, Nat.reduceMul, ↓reduceIte, Int.reduceToNat, Int.reduceLE, beq_self_eq_true]
      refine ⟨by omega, by omega, ld_mem (hld _) ?_⟩
      simp only [XA, XB, gateX, Nat.reduceAdd, Nat.reduceLeDiff, Nat.reduceSub, Nat.reduceMul, ↓reduceIte, Int.reduceToNat, Int.reduceLE, beq_self_eq_true]
      refine call_go hcl rfl (hg _ _ _ hx (f _ (List.getElem_mem hlt))) fun v3 V3 hV3 h3 => ?_
      subst h3
      have et : l.take (k + 1) = l.take k ++ [l[k]] := by rw [List.take_succ_eq_append_getElem hlt]
      cases hr : p l[k]
      rotate_left
      · simp only [XA, XB, gateX, Nat.reduceAdd, Nat.reduceLeDiff, Nat.reduceSub, Nat.reduceMul, ↓reduceIte, Int.reduceToNat, Int.reduceLE, beq_self_eq_true]
        refine hK _ ?_
        first | refine Gx.t rfl ?_ | refine XWP.seq (Gx.t rfl ?_)
        first | refine Gx.a (by kernel_rfl) fun K hK => ?_ | refine Gx.b (by kernel_rfl) fun K hK => ?_ | refine Gx.c (by kernel_rfl) fun K hK => ?_
        simp only [XA, XB, gateX, Nat.reduceAdd, Nat.reduceLeDiff, Nat.reduceSub, Nat.reduceMul, ↓reduceIte, Int.reduceToNat, Int.reduceLE, beq_self_eq_true]
        refine hK _ (XWP.ret ?_)
        try simp only [thenX_ret, inBlockX_ret]
        refine ret_go _ rfl ?_
        refine ⟨k, rfl, ?_⟩
        have : l.any p = true := List.any_eq_true.2 ⟨l[k], List.getElem_mem hlt, hr⟩
        rw [this, decide_eq_true (by omega)]
      · simp only [XA, XB, gateX, Nat.reduceAdd, Nat.reduceLeDiff, Nat.reduceSub, Nat.reduceMul, ↓reduceIte, Int.reduceToNat, Int.reduceLE, beq_self_eq_true]
        refine hK _ ?_
        first | refine Gx.f rfl ?_ | refine XWP.seq (Gx.f rfl ?_)
        refine XWP.skip ?_
        first | refine Gx.a (by kernel_rfl) fun K hK => ?_ | refine Gx.b (by kernel_rfl) fun K hK => ?_ | refine Gx.c (by kernel_rfl) fun K hK => ?_
        simp only [XA, XB, gateX, Nat.reduceAdd, Nat.reduceLeDiff, Nat.reduceSub, Nat.reduceMul, ↓reduceIte, Int.reduceToNat, Int.reduceLE, beq_self_eq_true, i64_succ k (by omega)]
        refine hK _ ⟨n - 1, by omega, k + 1, V3, StIs.of (by exact rfl), View.le_trans hV2 hV3, by omega, ?_⟩
        rw [et, List.any_append, hk]
        simp [hr]
    · have b1 : decide ((k : Int) < (l.length : Int)) = false := decide_eq_false (by omega)
      first | refine Gx.a (by kernel_rfl) fun K hK => ?_ | refine Gx.b (by kernel_rfl) fun K hK => ?_ | refine Gx.c (by kernel_rfl) fun K hK => ?_
      simp only [XA, XB, gateX, Nat.reduceAdd, Nat.reduceLeDiff, Nat.reduceSub, Nat.reduceMul, ↓reduceIte, Int.reduceToNat, Int.reduceLE, beq_self_eq_true, b1]
      refine hK _ ?_
      first | refine Gx.f rfl ?_ | refine XWP.seq (Gx.f rfl ?_)
      refine XWP.exit ?_
      rw [List.take_of_length_le (by omega)] at hk
      exact ⟨StIs.of (by exact rfl), hk⟩
  rintro s ⟨hs, hk⟩
  obtain ⟨t, bx, H, V2⟩ := s
  obtain ⟨u, e⟩ := hs.out
  cases e
  try dsimp only
  first | refine Gx.a (by kernel_rfl) fun K hK => ?_ | refine Gx.b (by kernel_rfl) fun K hK => ?_ | refine Gx.c (by kernel_rfl) fun K hK => ?_
  simp only [XA, XB, gateX, Nat.reduceAdd, Nat.reduceLeDiff, Nat.reduceSub, Nat.reduceMul, ↓reduceIte, Int.reduceToNat, Int.reduceLE, beq_self_eq_true]
  refine hK _ (XWP.ret ?_)
  try simp only [thenX_ret, inBlockX_ret]
  refine ret_go _ rfl ?_
  exact ⟨-1, rfl, by rw [hk]; rfl⟩
theorem gcontains_c {g : FuncId} {p : Raw → Bool} (hcl : callable Try.prog g = true) (hg : ∀ (V : View) (v : Value) (r : Raw), rawE V v r → r.fit → Spec Try.prog g [v] V fun v' V' => v' = .bool (p r)) (V : View) (v : Value) (l : List Raw) (h : Raws V v l) (f : fitR l) (ll : l.length ≤ 1000000) : Spec Try.prog 54 [v, .func (.func g) #[] #[]] V fun v' V' => v' = .bool (l.any p) := by
  refine (Spec.enter Try.func54 rfl fun Γ => ?_)
  simp only [Try.ntmps54, List.map_cons, List.map_nil, List.length_cons, List.length_nil, Nat.reduceAdd, Nat.reduceSub, List.replicate_succ, List.replicate_zero, List.cons_append, List.nil_append]
  first | refine Gx.a (by kernel_rfl) fun K hK => ?_ | refine Gx.b (by kernel_rfl) fun K hK => ?_ | refine Gx.c (by kernel_rfl) fun K hK => ?_
  simp only [XA, XB, gateX, Nat.reduceAdd, Nat.reduceLeDiff, Nat.reduceSub, Nat.reduceMul, ↓reduceIte, Int.reduceToNat, Int.reduceLE, beq_self_eq_true]
  refine hK _ ?_
  first | refine Gx.a (by kernel_rfl) fun K hK => ?_ | refine Gx.b (by kernel_rfl) fun K hK => ?_ | refine Gx.c (by kernel_rfl) fun K hK => ?_
  simp only [XA, XB, gateX, Nat.reduceAdd, Nat.reduceLeDiff, Nat.reduceSub, Nat.reduceMul, ↓reduceIte, Int.reduceToNat, Int.reduceLE, beq_self_eq_true]
  refine call_go (by kernel_rfl) rfl (gindex_c hcl hg _ _ _ h f ll) fun v1 V1 hV1 h1 => ?_
  obtain ⟨r, rfl, hr⟩ := h1
  simp only [XA, XB, gateX, Nat.reduceAdd, Nat.reduceLeDiff, Nat.reduceSub, Nat.reduceMul, ↓reduceIte, Int.reduceToNat, Int.reduceLE, beq_self_eq_true, hr]
  refine hK _ (XWP.ret ?_)
  try simp only [thenX_ret, inBlockX_ret]
  refine ret_go _ rfl ?_
  rfl
end Go.Proofs.Ytkgmicakfmllmaa
end
section
namespace Go.Proofs.Ytkgmicakfmllmaa
set_option linter.unusedVariables false
abbrev Grid := Nat → Nat → Rat
def swp (p t i : Nat) : Nat := if i = p then t else if i = t then p else i
def gsw (G : Grid) (p t : Nat) : Grid := fun i j => G (swp p t i) j
theorem swp_swp (p t i : Nat) : swp p t (swp p t i) = i := by unfold swp; split <;> (try split) <;> (try split) <;> omega
theorem swp_lt {p t i R : Nat} (hp : p < R) (ht : t < R) (hi : i < R) : swp p t i < R := by unfold swp; split <;> (try split) <;> omega
theorem Sm_lin (f g x : Nat → Rat) (c : Rat) (n : Nat) : Sm (fun j => (f j - c * g j) * x j) n = Sm (fun j => f j * x j) n - c * Sm (fun j => g j * x j) n := by
  induction n with
  | zero => simp only [Sm]; grind
  | succ n ih => simp only [Sm, ih]; grind
/-- the numbers that are read off -/
def gx (G : Grid) (wh : Nat → Int) (n c : Nat) : Rat := if 0 ≤ wh c then G (wh c).toNat n else 0
end Go.Proofs.Ytkgmicakfmllmaa
end
section
namespace Go.Proofs.Ytkgmicakfmllmaa
set_option linter.unusedVariables false
def LinG (G : Grid) (R n : Nat) (r x : Nat → Rat) : Prop := ∀ i, i < R → Sm (fun j => G i j * x j) n = r i
/-- row i less f times row t -/
def gsub (G : Grid) (i t : Nat) (f : Rat) : Grid := fun i' j => if i' = i then G i j - f * G t j else G i' j
def vsub (r : Nat → Rat) (i t : Nat) (f : Rat) : Nat → Rat := fun i' => if i' = i then r i - f * r t else r i'
theorem lin_sub {G : Grid} {R n i t : Nat} {f : Rat} {r x : Nat → Rat} (hi : i < R) (ht : t < R) (hne : i ≠ t) : LinG (gsub G i t f) R n (vsub r i t f) x ↔ LinG G R n r x := by
  have ei : Sm (fun j => gsub G i t f i j * x j) n = Sm (fun j => G i j * x j) n - f * Sm (fun j => G t j * x j) n := by
    rw [← Sm_lin]; exact Sm_congr _ fun j _ => by simp only [gsub, if_pos]
  have eo : ∀ k, k ≠ i → Sm (fun j => gsub G i t f k j * x j) n = Sm (fun j => G k j * x j) n := fun k hk => Sm_congr _ fun j _ => by simp only [gsub, if_neg hk]
  constructor
  · intro h
    have h1 := h t ht
    rw [eo t (Ne.symm hne)] at h1
    simp only [vsub, if_neg (Ne.symm hne)] at h1
    intro k hk
    by_cases e : k = i
    · subst e
      have h2 := h k hk
      rw [ei, h1] at h2
      simp only [vsub, if_pos] at h2; grind
    · have h2 := h k hk
      rw [eo k e] at h2
      simp only [vsub, if_neg e] at h2; exact h2
  · intro h k hk
    by_cases e : k = i
    · subst e
      rw [ei, h k hk, h t ht]; simp only [vsub, if_pos]
    · rw [eo k e, h k hk]; simp only [vsub, if_neg e]
theorem lin_swap {G : Grid} {R n p t : Nat} {r x : Nat → Rat} (hp : p < R) (ht : t < R) : LinG (gsw G p t) R n (fun i => r (swp p t i)) x ↔ LinG G R n r x := by
  constructor
  · intro h i hi
    have := h (swp p t i) (swp_lt hp ht hi)
    simp only [gsw, swp_swp] at this; exact this
  · intro h i hi; exact h (swp p t i) (swp_lt hp ht hi)
/-- the same solutions, for each right-hand side that stands in the grid, and for none -/
structure REq (G G' : Grid) (R n : Nat) : Prop where
  ker : ∀ x, LinG G' R n (fun _ => 0) x ↔ LinG G R n (fun _ => 0) x
  col : ∀ c x, LinG G' R n (fun i => G' i c) x ↔ LinG G R n (fun i => G i c) x
theorem REq.refl (G : Grid) (R n : Nat) : REq G G R n := ⟨fun _ => Iff.rfl, fun _ _ => Iff.rfl⟩
theorem REq.trans {A B C : Grid} {R n : Nat} (h : REq A B R n) (k : REq B C R n) : REq A C R n := ⟨fun x => (k.ker x).trans (h.ker x), fun c x => (k.col c x).trans (h.col c x)⟩
theorem REq.sub (G : Grid) {R n i t : Nat} (f : Rat) (hi : i < R) (ht : t < R) (hne : i ≠ t) : REq G (gsub G i t f) R n := by
  refine ⟨fun x => ?_, fun c x => ?_⟩
  · have e : (fun _ => (0 : Rat)) = vsub (fun _ => 0) i t f := by
      funext k; unfold vsub; split
      · grind
      · rfl
    rw [← lin_sub (G := G) hi ht hne (f := f) (r := fun _ => 0), ← e]
  · have e : (fun k => gsub G i t f k c) = vsub (fun k => G k c) i t f := by funext k; unfold vsub gsub; rfl
    rw [e, lin_sub hi ht hne]
theorem REq.swap (G : Grid) {R n p t : Nat} (hp : p < R) (ht : t < R) : REq G (gsw G p t) R n :=
  ⟨fun x => lin_swap (r := fun _ => 0) hp ht, fun c x => lin_swap (r := fun i => G i c) hp ht⟩
/-- fewer equations than unknowns -/
theorem few_eqs : ∀ (n R : Nat) (G : Grid), R < n → ∃ x : Nat → Rat, (∃ j, j < n ∧ x j ≠ 0) ∧ LinG G R n (fun _ => 0) x
  | 0, R, G, h => by omega
  | n + 1, R, G, h => by
    by_cases hz : ∀ i, i < R → G i n = 0
    · refine ⟨fun j => if j = n then 1 else 0, ⟨n, by omega, by dsimp only; rw [if_pos rfl]; decide⟩, fun i hi => ?_⟩
      refine Sm_zero _ fun j hj => ?_
      by_cases e : j = n
      · rw [e, hz i hi]; grind
      · dsimp only; rw [if_neg e]; grind
    · obtain ⟨p, hp⟩ := Classical.not_forall.1 hz
      obtain ⟨hpR, hd⟩ := Classical.not_imp.1 hp
      obtain ⟨s, hs⟩ : ∃ s : Nat → Nat, s = fun i => if i < p then i else i + 1 := ⟨_, rfl⟩
      obtain ⟨x, ⟨j0, hj0, hx0⟩, hx⟩ := few_eqs n (R - 1) (fun i j => G (s i) j - (G (s i) n / G p n) * G p j) (by omega)
      obtain ⟨S, hS⟩ : ∃ S, S = Sm (fun j => G p j * x j) n := ⟨_, rfl⟩
      refine ⟨fun j => if j = n then -(S / G p n) else x j, ⟨j0, by omega, by dsimp only; rw [if_neg (by omega)]; exact hx0⟩, fun i hi => ?_⟩
      have hsum : ∀ i, Sm (fun j => G i j * (if j = n then -(S / G p n) else x j)) (n + 1) = Sm (fun j => G i j * x j) n + G i n * -(S / G p n) := fun i => by
        rw [Sm, if_pos rfl]
        congr 1
        exact Sm_congr _ fun j hj => by rw [if_neg (by omega)]
      rw [hsum]
      by_cases e : i = p
      · rw [e, ← hS, Rat.mul_comm, Rat.neg_mul, Rat.div_mul_cancel hd]; grind
      · have hi' : ∃ k, k < R - 1 ∧ s k = i := by
          by_cases h1 : i < p
          · exact ⟨i, by omega, by rw [hs]; dsimp only; rw [if_pos h1]⟩
          · exact ⟨i - 1, by omega, by rw [hs]; dsimp only; rw [if_neg (by omega)]; omega⟩
        obtain ⟨k, hk, rfl⟩ := hi'
        have h1 := hx k hk
        dsimp only at h1
        rw [Sm_lin, ← hS] at h1
        rw [Rat.div_def] at h1 ⊢
        grind
/-- none but 0 solves the equations without a right-hand side -/
def UniG (G : Grid) (R n : Nat) : Prop := ∀ x, LinG G R n (fun _ => 0) x → ∀ j, j < n → x j = 0
theorem UniG.same {G : Grid} {R n : Nat} (h : UniG G R n) {r x y : Nat → Rat} (hx : LinG G R n r x) (hy : LinG G R n r y) : ∀ j, j < n → x j = y j := fun j hj => by
  have := h (fun j => x j - y j) (fun i hi => by
    have e : Sm (fun j => G i j * (x j - y j)) n = Sm (fun j => G i j * x j) n - 1 * Sm (fun j => G i j * y j) n := by
      have h1 : Sm (fun j => G i j * (x j - y j)) n = Sm (fun j => (x j - 1 * y j) * G i j) n := Sm_congr _ fun j _ => by grind
      rw [h1, Sm_lin]
      congr 1
      · exact Sm_congr _ fun j _ => by grind
      · congr 1; exact Sm_congr _ fun j _ => by grind
    rw [e, hx i hi, hy i hi]; grind) j hj
  grind
theorem UniG.req {G G' : Grid} {R n : Nat} (h : REq G G' R n) : UniG G' R n ↔ UniG G R n := ⟨fun k x hx => k x ((h.ker x).2 hx), fun k x hx => k x ((h.ker x).1 hx)⟩
theorem low_not_uni {G : Grid} {R n t : Nat} (ht : t < n) (hz : ∀ i j, t ≤ i → i < R → j < n → G i j = 0) : ¬ UniG G R n := fun h => by
  obtain ⟨x, ⟨j, hj, hx⟩, hs⟩ := few_eqs n t G ht
  refine hx (h x (fun i hi => ?_) j hj)
  by_cases e : i < t
  · exact hs i e
  · exact Sm_zero _ fun k hk => by rw [hz i k (by omega) hi hk]; grind
structure TriG (G : Grid) (n : Nat) : Prop where
  diag : ∀ i, i < n → G i i ≠ 0
  low : ∀ i j, i < n → j < i → G i j = 0
theorem TriG.uni {G : Grid} {n : Nat} (h : TriG G n) : UniG G n n := fun x hx => by
  have key : ∀ d, d ≤ n → ∀ j, n - d ≤ j → j < n → x j = 0 := by
    intro d
    induction d with
    | zero => intro _ j h1 h2; omega
    | succ d ih =>
      intro hd j h1 h2
      by_cases e : n - d ≤ j
      · exact ih (by omega) j e h2
      · have h3 := hx j h2
        rw [Sm_one h2 fun k hk hne => ?_] at h3
        · rcases Rat.mul_eq_zero.1 h3 with h4 | h4
          · exact absurd h4 (h.diag j h2)
          · exact h4
        · rcases Nat.lt_or_ge k j with h4 | h4
          · rw [h.low j k h2 h4]; grind
          · rw [ih (by omega) k (by omega) hk]; grind
  exact fun j hj => key n (Nat.le_refl _) j (by omega) hj
/-- the triangle, with the columns from c on cleared -/
structure DiaG (G : Grid) (n c : Nat) : Prop extends TriG G n where
  up : ∀ i j, i < j → c ≤ j → j < n → G i j = 0
theorem TriG.dia {G : Grid} {n : Nat} (h : TriG G n) : DiaG G n n := ⟨h, fun i j _ h1 h2 => by omega⟩
/-- a diagonal grid is solved by division -/
theorem DiaG.sol {G : Grid} {n : Nat} (h : DiaG G n 0) (r : Nat → Rat) : LinG G n n r (fun i => r i / G i i) := fun i hi => by
  rw [Sm_one hi fun k hk hne => ?_]
  · rw [Rat.mul_comm, Rat.div_mul_cancel (h.diag i hi)]
  · rcases Nat.lt_or_ge k i with h1 | h1
    · rw [h.low i k hi h1]; grind
    · rw [h.up i k (by omega) (by omega) hk]; grind
/-- how far a column of the triangle is cleared: rows below j -/
structure DiaJ (G : Grid) (n c j : Nat) : Prop extends TriG G n where
  up : ∀ i k, i < k → c < k → k < n → G i k = 0
  row : ∀ i, i < j → i < c → G i c = 0
theorem DiaJ.zero {G : Grid} {n c : Nat} (h : DiaG G n (c + 1)) : DiaJ G n c 0 := ⟨h.toTriG, fun i k a b d => h.up i k a (by omega) d, fun i a => by omega⟩
theorem DiaJ.done {G : Grid} {n c : Nat} (h : DiaJ G n c c) : DiaG G n c := ⟨h.toTriG, fun i k a b d => by
  rcases Nat.eq_or_lt_of_le b with e | e
  · subst e; exact h.row i a a
  · exact h.up i k a e d⟩
theorem DiaJ.step {G : Grid} {n c j : Nat} (h : DiaJ G n c j) (hj : j < c) (hc : c < n) : DiaJ (gsub G j c (G j c / G c c)) n c (j + 1) := by
  have hd := h.diag c hc
  refine ⟨⟨fun i hi => ?_, fun i k hi hk => ?_⟩, fun i k a b d => ?_, fun i a b => ?_⟩
  · unfold gsub; split
    · rename_i e; subst e; rw [h.low c i hc (by omega)]
      have := h.diag i hi; grind
    · exact h.diag i hi
  · unfold gsub; split
    · rename_i e; subst e; rw [h.low i k hi hk, h.low c k hc (by omega)]; grind
    · exact h.low i k hi hk
  · unfold gsub; split
    · rename_i e; subst e; rw [h.up i k a b d, h.up c k b b d]; grind
    · exact h.up i k a b d
  · unfold gsub; split
    · rename_i e; subst e; rw [Rat.div_mul_cancel hd]; grind
    · exact h.row i (by omega) b
/-- the steps under way: rank rows are done, the columns below col are -/
structure StepG (G : Grid) (R rank col : Nat) : Prop where
  le : rank ≤ R
  lc : rank ≤ col
  low : ∀ i j, rank ≤ i → i < R → j < col → G i j = 0
  tri : rank = col → (∀ i, i < rank → G i i ≠ 0) ∧ ∀ i j, i < rank → j < i → G i j = 0
theorem StepG.zero (G : Grid) (R : Nat) : StepG G R 0 0 := ⟨by omega, by omega, by omega, fun _ => ⟨by omega, by omega⟩⟩
theorem StepG.free {G : Grid} {R rank col : Nat} (h : StepG G R rank col) (hz : ∀ i, rank ≤ i → i < R → G i col = 0) : StepG G R rank (col + 1) :=
  ⟨h.le, by have := h.lc; omega, fun i j a b d => by
    by_cases e : j = col
    · rw [e]; exact hz i a b
    · exact h.low i j a b (by omega), fun e => by have := h.lc; omega⟩
theorem StepG.swap {G : Grid} {R rank col p : Nat} (h : StepG G R rank col) (h1 : rank ≤ p) (h2 : p < R) : StepG (gsw G p rank) R rank col := by
  have lo : ∀ i, i < rank → swp p rank i = i := fun i hi => by unfold swp; split <;> (try split) <;> omega
  have hi' : ∀ i, rank ≤ i → rank ≤ swp p rank i := fun i hi => by unfold swp; split <;> (try split) <;> omega
  refine ⟨h.le, h.lc, fun i j a b d => h.low _ j (hi' i a) (swp_lt h2 (by omega) b) d, fun e => ⟨fun i hi => ?_, fun i j hi hj => ?_⟩⟩
  · unfold gsw; rw [lo i hi]; exact (h.tri e).1 i hi
  · unfold gsw; rw [lo i hi]; exact (h.tri e).2 i j hi hj
/-- rows below i are cleared in the column -/
structure StepI (G : Grid) (R rank col i : Nat) : Prop extends StepG G R rank col where
  piv : G rank col ≠ 0
  clr : ∀ k, rank < k → k < i → G k col = 0
theorem StepI.step {G : Grid} {R rank col i : Nat} (h : StepI G R rank col i) (hr : rank < i) (hi : i < R) : StepI (gsub G i rank (G i col / G rank col)) R rank col (i + 1) := by
  refine ⟨⟨h.le, h.lc, fun k j a b d => ?_, fun e => ⟨fun k hk => ?_, fun k j hk hj => ?_⟩⟩, ?_, fun k a b => ?_⟩
  · unfold gsub; split
    · rename_i e; subst e; rw [h.low k j a b d, h.low rank j (Nat.le_refl _) (by omega) d]; grind
    · exact h.low k j a b d
  · unfold gsub; rw [if_neg (by omega)]; exact (h.tri e).1 k hk
  · unfold gsub; rw [if_neg (by omega)]; exact (h.tri e).2 k j hk hj
  · unfold gsub; rw [if_neg (by omega)]; exact h.piv
  · unfold gsub; split
    · rename_i e; subst e; rw [Rat.div_mul_cancel h.piv]; grind
    · exact h.clr k a (by omega)
theorem StepI.start {G : Grid} {R rank col : Nat} (h : StepG G R rank col) (hp : G rank col ≠ 0) : StepI G R rank col (rank + 1) := ⟨h, hp, fun k a b => by omega⟩
theorem StepI.done {G : Grid} {R rank col : Nat} (h : StepI G R rank col R) (hr : rank < R) : StepG G R (rank + 1) (col + 1) := by
  refine ⟨hr, by have := h.lc; omega, fun i j a b d => ?_, fun e => ?_⟩
  · by_cases e : j = col
    · rw [e]; exact h.clr i (by omega) b
    · exact h.low i j (by omega) b (by omega)
  · have e' : rank = col := by omega
    obtain ⟨t1, t2⟩ := h.tri e'
    refine ⟨fun i hi => ?_, fun i j hi hj => ?_⟩
    · by_cases h1 : i = rank
      · rw [h1]; rw (occs := .pos [2]) [e']; exact h.piv
      · exact t1 i (by omega)
    · by_cases h1 : i = rank
      · rw [h1]; exact h.low rank j (Nat.le_refl _) hr (by omega)
      · exact t2 i j (by omega) hj
theorem StepG.tri_of {G : Grid} {n col : Nat} (h : StepG G n n col) (hc : col ≤ n) : TriG G n := by
  have e : n = col := by have := h.lc; omega
  exact ⟨(h.tri e).1, (h.tri e).2⟩
end Go.Proofs.Ytkgmicakfmllmaa
end
section
namespace Go.Proofs.Ytkgmicakfmllmaa
set_option linter.unusedVariables false
theorem Sm_nonneg {f : Nat → Rat} (n : Nat) (h : ∀ j, j < n → 0 ≤ f j) : 0 ≤ Sm f n := by
  induction n with
  | zero => exact Rat.le_refl
  | succ n ih => simp only [Sm]; have h1 := ih fun j hj => h j (by omega); have h2 := h n (by omega); grind
theorem Sm_le {f g : Nat → Rat} (n : Nat) (h : ∀ j, j < n → f j ≤ g j) : Sm f n ≤ Sm g n := by
  induction n with
  | zero => exact Rat.le_refl
  | succ n ih => simp only [Sm]; have h1 := ih fun j hj => h j (by omega); have h2 := h n (by omega); grind
theorem Sm_sub (f g : Nat → Rat) (n : Nat) : Sm (fun j => f j - g j) n = Sm f n - Sm g n := by
  induction n with
  | zero => simp only [Sm]; grind
  | succ n ih => simp only [Sm, ih]; grind
theorem Sm_swap (f : Nat → Nat → Rat) (n m : Nat) : Sm (fun i => Sm (f i) m) n = Sm (fun j => Sm (fun i => f i j) n) m := by
  induction n with
  | zero => simp only [Sm]; exact (Sm_zero m fun j _ => rfl).symm
  | succ n ih => simp only [Sm, ih, Sm_add]
/-- parts that are not negative and sum to 0 -/
theorem Sm_none {f : Nat → Rat} (n : Nat) (h : ∀ j, j < n → 0 ≤ f j) (hs : Sm f n = 0) : ∀ j, j < n → f j = 0 := by
  induction n with
  | zero => intro j hj; omega
  | succ n ih =>
    simp only [Sm] at hs
    have h1 := Sm_nonneg n fun j hj => h j (by omega)
    have h2 := h n (by omega)
    have h3 : Sm f n = 0 := by grind
    have h4 : f n = 0 := by grind
    intro j hj
    by_cases e : j = n
    · rw [e]; exact h4
    · exact ih (fun j hj => h j (by omega)) h3 j (by omega)
theorem Sm_part {f : Nat → Rat} (n : Nat) (h : ∀ j, j < n → 0 ≤ f j) {k : Nat} (hk : k < n) : f k ≤ Sm f n := by
  induction n with
  | zero => omega
  | succ n ih =>
    simp only [Sm]
    have h1 := Sm_nonneg n fun j hj => h j (by omega)
    have h2 := h n (by omega)
    by_cases e : k = n
    · rw [e]; grind
    · have := ih (fun j hj => h j (by omega)) (by omega); grind
theorem Sm_pos {f : Nat → Rat} (n : Nat) (h : ∀ j, j < n → 0 < f j) (hn : 0 < n) : 0 < Sm f n := by
  have h1 := Sm_part n (fun j hj => Rat.le_of_lt (h j hj)) hn
  have h2 := h 0 hn
  grind
/-- what one comes to from a state by moves above 0 -/
inductive Rch (E : Nat → Nat → Prop) (n : Nat) (i : Nat) : Nat → Prop
  | refl : i < n → Rch E n i i
  | step {j k : Nat} : Rch E n i j → k < n → E j k → Rch E n i k
theorem Rch.lt {E : Nat → Nat → Prop} {n i k : Nat} (h : Rch E n i k) : i < n ∧ k < n := by
  induction h with
  | refl h => exact ⟨h, h⟩
  | step _ hk _ ih => exact ⟨ih.1, hk⟩
theorem Rch.trans {E : Nat → Nat → Prop} {n i j k : Nat} (h : Rch E n i j) (h2 : Rch E n j k) : Rch E n i k := by
  induction h2 with
  | refl _ => exact h
  | step _ hk he ih => exact .step ih hk he
/-- a set that holds the state and all moves out of it, holds all -/
theorem Rch.sub {E : Nat → Nat → Prop} {n i : Nat} {S : Nat → Prop} (h0 : S i) (hs : ∀ j k, S j → k < n → E j k → S k) {k : Nat} (h : Rch E n i k) : S k := by
  induction h with
  | refl _ => exact h0
  | step _ hk he ih => exact hs _ _ ih hk he
structure StoG (Q : Grid) (n : Nat) : Prop where
  nn : ∀ i k, i < n → k < n → 0 ≤ Q i k
  one : ∀ i, i < n → Sm (Q i) n = 1
def IrrG (Q : Grid) (n : Nat) : Prop := ∀ i k, i < n → k < n → Rch (fun a b => 0 < Q a b) n i k
/-- the equations of a law that stays; the last one is that the parts sum to 1 -/
def lawG (Q : Grid) (n : Nat) : Grid := fun k i => if k + 1 = n then 1 else if i = k then Q i k - 1 else Q i k
theorem lawG_row {Q : Grid} {n k : Nat} (hk : k < n) (h1 : k + 1 ≠ n) (x : Nat → Rat) : Sm (fun i => lawG Q n k i * x i) n = Sm (fun i => x i * Q i k) n - x k := by
  have e : Sm (fun i => lawG Q n k i * x i) n = Sm (fun i => x i * Q i k - (if i = k then x i else 0)) n := Sm_congr _ fun i _ => by
    unfold lawG
    rw [if_neg h1]
    split <;> grind
  rw [e, Sm_sub, Sm_one (f := fun i => if i = k then x i else 0) hk fun j _ hne => if_neg hne, if_pos rfl]
theorem lawG_last {Q : Grid} {n k : Nat} (h1 : k + 1 = n) (x : Nat → Rat) : Sm (fun i => lawG Q n k i * x i) n = Sm x n := Sm_congr _ fun i _ => by
  unfold lawG; rw [if_pos h1]; grind
/-- the equation that was left out holds too -/
theorem stays_all {Q : Grid} {n : Nat} (hQ : StoG Q n) {x : Nat → Rat} (h : ∀ k, k + 1 < n → Sm (fun i => x i * Q i k) n = x k) : ∀ k, k < n → Sm (fun i => x i * Q i k) n = x k := by
  have tot : Sm (fun k => Sm (fun i => x i * Q i k) n) n = Sm x n := by
    rw [← Sm_swap (fun i k => x i * Q i k)]
    refine Sm_congr _ fun i hi => ?_
    rw [Sm_mul, hQ.one i hi]; grind
  intro k hk
  by_cases e : k + 1 = n
  · subst e
    simp only [Sm] at tot ⊢
    rw [Sm_congr k (f := fun k_1 => Sm (fun i => x i * Q i k_1) k + x k * Q k k_1) (g := x) fun j hj => by
      have := h j (by omega)
      simp only [Sm] at this; exact this] at tot
    grind
  · exact h k (by omega)
/-- a vector that stays, above 0 somewhere, is above 0 all over -/
theorem pos_spread {Q : Grid} {n : Nat} (hQ : StoG Q n) (hI : IrrG Q n) {p : Nat → Rat} (hp : ∀ i, i < n → 0 ≤ p i) (hs : ∀ k, k < n → Sm (fun i => p i * Q i k) n = p k) {u : Nat} (hu : u < n) (h0 : 0 < p u) : ∀ k, k < n → 0 < p k := fun k hk => by
  refine Rch.sub (S := fun k => k < n ∧ 0 < p k) ⟨hu, h0⟩ (fun j k hj hk he => ⟨hk, ?_⟩) (hI u k hu hk) |>.2
  have h1 := Sm_part (f := fun i => p i * Q i k) n (fun i hi => Rat.mul_nonneg (hp i hi) (hQ.nn i k hi hk)) hj.1
  rw [hs k hk] at h1
  have h2 := Rat.mul_pos hj.2 he
  try dsimp only at h1
  grind
def posP (x : Rat) : Rat := if 0 ≤ x then x else 0
theorem posP_nn (x : Rat) : 0 ≤ posP x := by unfold posP; split <;> grind
theorem posP_ge (x : Rat) : x ≤ posP x := by unfold posP; split <;> grind
/-- the part above 0 of a vector that stays, stays -/
theorem pos_stays {Q : Grid} {n : Nat} (hQ : StoG Q n) {x : Nat → Rat} (hs : ∀ k, k < n → Sm (fun i => x i * Q i k) n = x k) : ∀ k, k < n → Sm (fun i => posP (x i) * Q i k) n = posP (x k) := by
  have hle : ∀ k, k < n → posP (x k) ≤ Sm (fun i => posP (x i) * Q i k) n := fun k hk => by
    have h1 : Sm (fun i => x i * Q i k) n ≤ Sm (fun i => posP (x i) * Q i k) n := Sm_le n fun i hi => Rat.mul_le_mul_of_nonneg_right (posP_ge _) (hQ.nn i k hi hk)
    have h2 : 0 ≤ Sm (fun i => posP (x i) * Q i k) n := Sm_nonneg n fun i hi => Rat.mul_nonneg (posP_nn _) (hQ.nn i k hi hk)
    rw [hs k hk] at h1
    rw [posP]; split <;> grind
  have tot : Sm (fun k => Sm (fun i => posP (x i) * Q i k) n) n = Sm (fun k => posP (x k)) n := by
    rw [← Sm_swap (fun i k => posP (x i) * Q i k)]
    refine Sm_congr _ fun i hi => ?_
    rw [Sm_mul, hQ.one i hi]; grind
  have h3 := Sm_none (f := fun k => Sm (fun i => posP (x i) * Q i k) n - posP (x k)) n (fun k hk => by have := hle k hk; grind) (by rw [Sm_sub, tot]; grind)
  intro k hk
  have := h3 k hk
  try dsimp only at this
  grind
/-- **An irreducible stochastic grid keeps no vector of sum 0.** -/
theorem law_uni {Q : Grid} {n : Nat} (hQ : StoG Q n) (hI : IrrG Q n) : UniG (lawG Q n) n n := by
  intro x hx
  rcases Nat.eq_zero_or_pos n with hn | hn
  · intro j hj; omega
  have hsum : Sm x n = 0 := by
    have := hx (n - 1) (by omega)
    rw [lawG_last (by omega)] at this; exact this
  have hst : ∀ k, k < n → Sm (fun i => x i * Q i k) n = x k := stays_all hQ fun k hk => by
    have := hx k (by omega)
    rw [lawG_row (by omega) (by omega)] at this; grind
  have hps := pos_stays hQ hst
  have hneg : ∀ i, i < n → x i ≤ 0 := fun i hi => by
    rcases Rat.le_total (a := x i) (b := 0) with h | h
    · exact h
    · by_cases e : x i = 0
      · rw [e]; exact Rat.le_refl
      · exfalso
        have h0 : 0 < posP (x i) := by unfold posP; rw [if_pos h]; grind
        have hall := pos_spread hQ hI (p := fun i => posP (x i)) (fun i _ => posP_nn _) hps hi h0
        have hx0 : ∀ k, k < n → 0 < x k := fun k hk => by
          have := hall k hk
          try dsimp only at this
          unfold posP at this
          split at this
          · exact this
          · grind
        have := Sm_pos n hx0 hn
        grind
  have := Sm_none (f := fun i => -1 * x i) n (fun i hi => by have := hneg i hi; grind) (by rw [Sm_mul, hsum]; grind)
  intro j hj
  have := this j hj
  try dsimp only at this
  grind
/-! ### Subsets of the states, as sorted lists -/
/-- a sum over all states of what is 0 outside a list -/
theorem Sm_list {f : Nat → Rat} : ∀ (n : Nat) (p : Nat → Bool), (∀ k, k < n → p k = false → f k = 0) → Sm f n = Sm (fun v => f (((List.range n).filter p).getD v 0)) ((List.range n).filter p).length
  | 0, p, _ => rfl
  | n + 1, p, h => by
    have ih := Sm_list n p fun k hk hp => h k (by omega) hp
    rw [List.range_succ, List.filter_append]
    simp only [Sm]
    cases hp : p n with
    | false =>
      rw [h n (by omega) hp, ih]
      simp [List.filter, hp]; grind
    | true =>
      have e : List.filter p [n] = [n] := by simp [List.filter, hp]
      rw [e, List.length_append]
      simp only [List.length_cons, List.length_nil, Nat.zero_add, Sm]
      rw [ih]
      congr 1
      · exact Sm_congr _ fun v hv => by
          rw [List.getD_eq_getElem?_getD, List.getD_eq_getElem?_getD, List.getElem?_append_left hv]
      · simp [List.getD_eq_getElem?_getD]
theorem filt_mem {n : Nat} {p : Nat → Bool} {v : Nat} (hv : v < ((List.range n).filter p).length) : ((List.range n).filter p).getD v 0 < n ∧ p (((List.range n).filter p).getD v 0) = true := by
  rw [List.getD_eq_getElem?_getD, List.getElem?_eq_getElem hv]
  have := List.getElem_mem hv
  rw [List.mem_filter, List.mem_range] at this
  simpa using this
theorem filt_get {n : Nat} {p : Nat → Bool} {k : Nat} (hk : k < n) (hp : p k = true) : ∃ v, v < ((List.range n).filter p).length ∧ ((List.range n).filter p).getD v 0 = k := by
  have : k ∈ (List.range n).filter p := by rw [List.mem_filter, List.mem_range]; exact ⟨hk, hp⟩
  obtain ⟨v, hv, e⟩ := List.mem_iff_getElem.1 this
  exact ⟨v, hv, by rw [List.getD_eq_getElem?_getD, List.getElem?_eq_getElem hv]; simpa using e⟩
/-- the moves within a list of states -/
def subG (P : Grid) (C : List Nat) : Grid := fun u v => P (C.getD u 0) (C.getD v 0)
theorem sub_sto {P : Grid} {n : Nat} {p : Nat → Bool} (hP : StoG P n) (hc : ∀ i k, i < n → k < n → p i = true → 0 < P i k → p k = true) : StoG (subG P ((List.range n).filter p)) ((List.range n).filter p).length := by
  refine ⟨fun i k hi hk => hP.nn _ _ (filt_mem hi).1 (filt_mem hk).1, fun i hi => ?_⟩
  obtain ⟨h1, h2⟩ := filt_mem hi
  have := Sm_list (f := P (((List.range n).filter p).getD i 0)) n p fun k hk hp => by
    have h3 := hP.nn _ k h1 hk
    by_cases e : 0 < P (((List.range n).filter p).getD i 0) k
    · rw [hc _ k h1 hk h2 e] at hp; cases hp
    · grind
  rw [hP.one _ h1] at this
  exact this.symm
theorem sub_irr {P : Grid} {n : Nat} {p : Nat → Bool} (hc : ∀ i k, i < n → k < n → p i = true → 0 < P i k → p k = true) (hr : ∀ i k, i < n → k < n → p i = true → p k = true → Rch (fun a b => 0 < P a b) n i k) : IrrG (subG P ((List.range n).filter p)) ((List.range n).filter p).length := by
  intro u v hu hv
  obtain ⟨h1, h2⟩ := filt_mem hu
  obtain ⟨h3, h4⟩ := filt_mem hv
  have key : ∀ k, Rch (fun a b => 0 < P a b) n (((List.range n).filter p).getD u 0) k → p k = true ∧ ∀ w, w < ((List.range n).filter p).length → ((List.range n).filter p).getD w 0 = k → Rch (fun a b => 0 < subG P ((List.range n).filter p) a b) ((List.range n).filter p).length u w := by
    intro k h
    have nod : ((List.range n).filter p).Nodup := List.Pairwise.filter p List.nodup_range
    induction h with
    | refl _ =>
      refine ⟨h2, fun w hw e => ?_⟩
      have : w = u := by
        rw [List.getD_eq_getElem?_getD, List.getD_eq_getElem?_getD, List.getElem?_eq_getElem hw, List.getElem?_eq_getElem hu] at e
        exact (List.getElem_inj nod).1 (by simpa using e)
      rw [this]; exact .refl hu
    | step hr' hk he ih =>
      rename_i j k
      obtain ⟨i1, i2⟩ := ih
      refine ⟨hc j k hr'.lt.2 hk i1 he, fun w hw e => ?_⟩
      obtain ⟨w', hw', e'⟩ := filt_get hr'.lt.2 i1
      refine .step (i2 w' hw' e') hw ?_
      show 0 < P _ _
      rw [e', e]; exact he
  exact (key _ (hr _ _ h1 h3 h2 h4)).2 v hv rfl
end Go.Proofs.Ytkgmicakfmllmaa
end
section
namespace Go.Proofs.Ytkgmicakfmllmaa
set_option linter.unusedVariables false
/-- the sum of what one has more -/
def tvF (a b : Nat → Rat) (n : Nat) : Rat := Sm (fun i => posP (a i - b i)) n
def absQ (x : Rat) : Rat := if x < 0 then -x else x
theorem posP_sub (x : Rat) : posP x - posP (-x) = x := by unfold posP; split <;> split <;> grind
theorem posP_abs (x : Rat) : posP x + posP (-x) = absQ x := by unfold posP absQ; split <;> split <;> split <;> grind
theorem tv_back {a b : Nat → Rat} {n : Nat} (h : Sm a n = Sm b n) : tvF a b n = tvF b a n := by
  have e1 : Sm (fun i => posP (a i - b i) - posP (b i - a i)) n = Sm (fun i => a i - b i) n := Sm_congr _ fun i _ => by
    have := posP_sub (a i - b i)
    rw [show -(a i - b i) = b i - a i by grind] at this; exact this
  rw [Sm_sub, Sm_sub, h] at e1
  unfold tvF; grind
theorem tv_abs {a b : Nat → Rat} {n : Nat} (h : Sm a n = Sm b n) : tvF a b n = Sm (fun i => absQ (a i - b i)) n * (1 / 2) := by
  have e1 : Sm (fun i => absQ (a i - b i)) n = tvF a b n + tvF b a n := by
    unfold tvF
    rw [← Sm_add]
    exact Sm_congr _ fun i _ => by
      have := posP_abs (a i - b i)
      rw [show -(a i - b i) = b i - a i by grind] at this; exact this.symm
  rw [e1, ← tv_back h]
  grind
end Go.Proofs.Ytkgmicakfmllmaa
end
section
namespace Go.Proofs.Ytkgmicakfmllmaa
open Go Go.RowKit
set_option linter.unusedSimpArgs false
set_option linter.unusedVariables false
attribute [local irreducible] XWP Spec SpecO XPub XCall seqX clX apX stX ldX iaX slX
end Go.Proofs.Ytkgmicakfmllmaa
end
section
namespace Go.Proofs.Ytkgmicakfmllmaa
open Go Go.RowKit
set_option linter.unusedSimpArgs false
set_option linter.unusedVariables false
attribute [local irreducible] XWP Spec SpecO XPub XCall seqX clX apX stX ldX iaX slX
end Go.Proofs.Ytkgmicakfmllmaa
end
section
namespace Go.Proofs.Ytkgmicakfmllmaa
open Go Go.RowKit
set_option linter.unusedSimpArgs false
set_option linter.unusedVariables false
attribute [local irreducible] XWP Spec SpecO XPub XCall seqX clX apX stX ldX iaX slX
theorem rowQ_load {H : Heap} {V : View} {b e tot : Nat} {cells : List Value} {xs : List Rat} (hr : H b = some ⟨e, cells, tot⟩) (h : RowAt ratE V cells xs) (i : Nat) (hi : i < xs.length) : ∃ m n d, RatC V (.agg #[m, n, d]) (cf xs i) ∧ (isOne m = true ∧ isOne n = true ∧ isOne d = true) ∧ Loads Try.prog H V 27 b (i * 3) (.agg #[m, n, d]) := by
  obtain ⟨v, h1, ⟨m, n, d, rfl, o1⟩, h2⟩ := RowAt.load hr h i hi
  rw [cf_get hi] at h1
  exact ⟨m, n, d, h1, o1, h2⟩
end Go.Proofs.Ytkgmicakfmllmaa
end
section
namespace Go.Proofs.Ytkgmicakfmllmaa
open Go Go.RowKit
set_option linter.unusedSimpArgs false
set_option linter.unusedVariables false
attribute [local irreducible] XWP Spec SpecO XPub XCall seqX clX apX stX ldX iaX slX
end Go.Proofs.Ytkgmicakfmllmaa
end
section
namespace Go.Proofs.Ytkgmicakfmllmaa
open Go Go.RowKit
set_option linter.unusedSimpArgs false
set_option linter.unusedVariables false
attribute [local irreducible] XWP Spec SpecO XPub XCall seqX clX apX stX ldX iaX slX
end Go.Proofs.Ytkgmicakfmllmaa
end
section
namespace Go.Proofs.Ytkgmicakfmllmaa
open Go Go.RowKit
set_option linter.unusedSimpArgs false
set_option linter.unusedVariables false
attribute [local irreducible] XWP Spec SpecO XPub XCall seqX clX apX stX ldX iaX slX
end Go.Proofs.Ytkgmicakfmllmaa
end
section
namespace Go.Proofs.Ytkgmicakfmllmaa
open Go Go.RowKit
set_option linter.unusedSimpArgs false
set_option linter.unusedVariables false
attribute [local irreducible] XWP Spec SpecO XPub XCall seqX clX apX stX ldX iaX slX
theorem upd_off {H : Heap} {b k : Nat} {r : Option Row} (h : k ≠ b) : upd H b r k = H k := by unfold upd; rw [if_neg h]
theorem src_one {H : Heap} {V : View} {b e tot : Nat} {a : Value} (hr : H b = some ⟨e, [a], tot⟩) (h1 : isOne a = true) : Src H V 1 (.slice (some ⟨b, 0, none⟩) 1 1) 1 [a] :=
  ⟨_, 1, rfl, rfl, fun u hu => by have : u = a := by simpa using hu
                                  rw [this]; exact h1, .inr ⟨b, 0, rfl, fun j u hj => .inl ⟨_, hr, by rw [Nat.zero_add]; exact hj⟩⟩⟩
theorem own_one {H : Heap} {e sz n : Nat} {v : Value} {xs : List Value} (h : Own H e sz v n xs) : isOne v = true := by
  rcases own_parts h with ⟨rfl, _, _⟩ | ⟨b, cap, rfl, _⟩ <;> rfl
def ge (B : Nat) : Nat → Nat
  | 0 => B
  | k + 1 => 4 * ge B k + 2
theorem ge_mono (B : Nat) {i j : Nat} (h : i ≤ j) : ge B i ≤ ge B j := by
  induction j with
  | zero => rw [show i = 0 by omega]; exact Nat.le_refl _
  | succ j ih =>
    rcases Nat.eq_or_lt_of_le h with h1 | h1
    · subst h1; exact Nat.le_refl _
    · have := ih (by omega)
      simp only [ge]; omega
end Go.Proofs.Ytkgmicakfmllmaa
end
section
namespace Go.Proofs.Ytkgmicakfmllmaa
open Go Go.RowKit
set_option linter.unusedSimpArgs false
set_option linter.unusedVariables false
attribute [local irreducible] XWP Spec SpecO XPub XCall seqX clX apX stX ldX iaX slX
def wtR (r : Raw) : Bool := r.ok && !ng r.q
def wtsR (l : List Raw) : Bool := l.all wtR
def wtB (n : Int) (l : List Raw) : Bool := decide ((l.length : Int) = n) && wtsR l
theorem wtsR_ok {l : List Raw} (h : wtsR l = true) : okR l = true ∧ ∀ i, i < l.length → ng (cf (qs l) i) = false := by
  unfold wtsR at h
  rw [List.all_eq_true] at h
  refine ⟨?_, fun i hi => ?_⟩
  · unfold okR
    rw [List.all_eq_true]
    intro r hr
    have := h r hr
    unfold wtR at this
    rw [Bool.and_eq_true] at this
    exact this.1
  · have := h l[i] (List.getElem_mem hi)
    unfold wtR at this
    rw [Bool.and_eq_true] at this
    have e : cf (qs l) i = l[i].q := by
      rw [← cf_get (by rw [qs_len]; exact hi)]
      unfold qs; simp
    rw [e]
    simpa using this.2
theorem RawAt.neg {V : View} {v : Value} {m : Bool} {nd dd : List Nat} (h : RawAt V v m nd dd) (hk : rawOk m nd dd = true) : ng (Go.Proofs.Ytkgmicakfmllmaa.rv m (nv nd) (nv dd)) = m := by
  obtain ⟨x, y, e, _, _⟩ := (RawAt.rat h hk).form
  obtain ⟨n, d, rfl, _, _⟩ := h
  simp only [Value.agg.injEq, Array.mk.injEq, List.cons.injEq, Value.bool.injEq] at e
  exact e.1.symm
end Go.Proofs.Ytkgmicakfmllmaa
end
section
namespace Go.Proofs.Ytkgmicakfmllmaa
open Go Go.RowKit
set_option linter.unusedSimpArgs false
set_option linter.unusedVariables false
attribute [local irreducible] XWP Spec SpecO XPub XCall seqX clX apX stX ldX iaX slX
/-- the sum of a list, from the first on -/
def sumL (l : List Rat) (k : Nat) : Rat := Sm (cf l) k
theorem sumL_QB {l : List Rat} {B : Nat} (h : ∀ x ∈ l, QB B x) : ∀ k, k ≤ l.length → QB (k * (B + 1)) (sumL l k)
  | 0, _ => QB_zero _
  | k + 1, hk => by
    have ih := sumL_QB h k (by omega)
    have h2 := h _ (cf_mem (l := l) (i := k) (by omega))
    exact (ih.add h2).mono (by rw [Nat.add_mul]; omega)
theorem qsum_c (V : View) (v : Value) (l : List Rat) (B : Nat) (h : Rats V v l) (hq : ∀ x ∈ l, QB B x) (ll : l.length ≤ 1000) (hB : 1001 * (B + 1) ≤ 17592186044416) : Spec Try.prog 57 [v] V fun v' V' => RatC V' v' (sumL l l.length) := by
  obtain ⟨A, c, rfl, hc, hm⟩ := h.form
  have hS : ∀ k, k ≤ l.length → QB (1000 * (B + 1)) (sumL l k) := fun k hk => (sumL_QB hq k hk).mono (Nat.mul_le_mul_right _ (by omega))
  have hf : 1000 * (B + 1) ≤ 17592186044416 := by omega
  refine (Spec.enter Try.func57 rfl fun Γ => ?_)
  simp only [Try.ntmps57, List.map_cons, List.map_nil, List.length_cons, List.length_nil, Nat.reduceAdd, Nat.reduceSub, List.replicate_succ, List.replicate_zero, List.cons_append, List.nil_append]
  first | refine Gx.a (by kernel_rfl) fun K hK => ?_ | refine Gx.b (by kernel_rfl) fun K hK => ?_ | refine Gx.c (by kernel_rfl) fun K hK => ?_
  simp only [XM, XA, XB, gateX, Nat.reduceAdd, Nat.reduceLeDiff, Nat.reduceSub, Nat.reduceMul, ↓reduceIte, Int.reduceToNat, Int.reduceLE, beq_self_eq_true]
  refine hK _ ?_
  first | refine Gx.a (by kernel_rfl) fun K hK => ?_ | refine Gx.b (by kernel_rfl) fun K hK => ?_ | refine Gx.c (by kernel_rfl) fun K hK => ?_
  simp only [XM, XA, XB, gateX, Nat.reduceAdd, Nat.reduceLeDiff, Nat.reduceSub, Nat.reduceMul, ↓reduceIte, Int.reduceToNat, Int.reduceLE, beq_self_eq_true]
  refine call_go (by kernel_rfl) rfl (qzero_c _) fun v1 V1 hV1 h1 => ?_
  obtain ⟨x1, y1, rfl, o1, o2⟩ := h1.form
  simp only [XM, XA, XB, gateX, Nat.reduceAdd, Nat.reduceLeDiff, Nat.reduceSub, Nat.reduceMul, ↓reduceIte, Int.reduceToNat, Int.reduceLE, beq_self_eq_true]
  refine st_rat rfl rfl rfl o1 o2 ?_
  simp only [XM, XA, XB, gateX, Nat.reduceAdd, Nat.reduceLeDiff, Nat.reduceSub, Nat.reduceMul, ↓reduceIte, Int.reduceToNat, Int.reduceLE, beq_self_eq_true]
  refine hK _ ?_
  refine XWP.cutD 2 (fun s => ∃ (V2 : View) (m : Bool) (x y : Value), StIs (fun Z => [Z 0,Z 1, .p 0 0, .p 1 0, Z 4,Z 5,Z 6,Z 7,Z 8,Z 9,Z 10,Z 11,Z 12,Z 13,Z 14,Z 15,Z 16,Z 17]) [[.bool false, .slice none 0 0, .slice none 0 0], [.bool m, x, y]] (fun _ => none) V2 s ∧ RatC V2 (.agg #[.bool m, x, y]) (sumL l l.length) ∧ isOne x = true ∧ isOne y = true) ?_ ?_
  · first | refine Gx.a (by kernel_rfl) fun K hK => ?_ | refine Gx.b (by kernel_rfl) fun K hK => ?_ | refine Gx.c (by kernel_rfl) fun K hK => ?_
    simp only [XM, XA, XB, gateX, Nat.reduceAdd, Nat.reduceLeDiff, Nat.reduceSub, Nat.reduceMul, ↓reduceIte, Int.reduceToNat, Int.reduceLE, beq_self_eq_true]
    refine hK _ ?_
    clear hK
    first | refine XWP.block ?_ | refine XWP.seq (XWP.block ?_)
    refine XWP.loopD 2 (fun n s => ∃ (k : Nat) (V2 : View) (m : Bool) (x y : Value), StIs (fun Z => [Z 0,Z 1, .p 0 0, .p 1 0, Z 4,Z 5,Z 6, .v (.slice A l.length c), .v (.int .i64 (l.length : Int)), .v (.int .i64 (k : Int)), Z 10,Z 11,Z 12,Z 13,Z 14,Z 15,Z 16,Z 17]) [[.bool false, .slice none 0 0, .slice none 0 0], [.bool m, x, y]] (fun _ => none) V2 s ∧ n + k = l.length ∧ V.le V2 ∧ RatC V2 (.agg #[.bool m, x, y]) (sumL l k) ∧ isOne x = true ∧ isOne y = true) l.length ⟨0, V1, _, _, _, StIs.of (by exact rfl), by omega, hV1, h1, o1, o2⟩ ?_
    clear h1 o1 o2
    rintro n s ⟨k, V2, m, x, y, hs, hn, hV2, h2, o1, o2⟩
    obtain ⟨z, rfl⟩ := hs.out
    try dsimp only
    clear hs
    by_cases hk : k < l.length
    rotate_left
    · obtain rfl : k = l.length := by omega
      have b1 : decide ((l.length : Int) < (l.length : Int)) = false := decide_eq_false (by omega)
      first | refine Gx.a (by kernel_rfl) fun K hK => ?_ | refine Gx.b (by kernel_rfl) fun K hK => ?_ | refine Gx.c (by kernel_rfl) fun K hK => ?_
      simp only [XM, XA, XB, gateX, Nat.reduceAdd, Nat.reduceLeDiff, Nat.reduceSub, Nat.reduceMul, ↓reduceIte, Int.reduceToNat, Int.reduceLE, beq_self_eq_true, b1]
      refine hK _ ?_
      first | refine Gx.f rfl ?_ | refine XWP.seq (Gx.f rfl ?_)
      refine XWP.exit ?_
      exact fun f => ⟨V2, m, x, y, StIs.of (by exact rfl), h2, o1, o2⟩
    have b1 : decide ((k : Int) < (l.length : Int)) = true := decide_eq_true (by omega)
    have hv2 := h.up hV2
    obtain ⟨b, o, rfl⟩ := SlAt.addr hv2 (by omega)
    obtain ⟨m3, n3, d3, hx, ⟨p1, p2, p3⟩, hld⟩ := Rats.get hv2 k hk
    first | refine Gx.a (by kernel_rfl) fun K hK => ?_ | refine Gx.b (by kernel_rfl) fun K hK => ?_ | refine Gx.c (by kernel_rfl) fun K hK => ?_
    simp only [XM, XA, XB, gateX, Nat.reduceAdd, Nat.reduceLeDiff, Nat.reduceSub, Nat.reduceMul, ↓reduceIte, Int.reduceToNat, Int.reduceLE, beq_self_eq_true, b1]
    refine hK _ ?_
    first | refine Gx.t rfl ?_ | refine XWP.seq (Gx.t rfl ?_)
    refine XWP.skip ?_
    refine XWP.seq ?_
    first | refine XWP.block ?_ | refine XWP.seq (XWP.block ?_)
    first | refine Gx.a (by kernel_rfl) fun K hK => ?_ | refine Gx.b (by kernel_rfl) fun K hK => ?_ | refine Gx.c (by kernel_rfl) fun K hK => ?_
    simp only [XM, XA, XB, gateX, Nat.reduceAdd, Nat.reduceLeDiff, Nat.reduceSub, Nat.reduceMul, ↓reduceIte, Int.reduceToNat, Int.reduceLE, beq_self_eq_true]
    refine ⟨by omega, by omega, ld_mem (hld _) ?_⟩
    simp only [XM, XA, XB, gateX, Nat.reduceAdd, Nat.reduceLeDiff, Nat.reduceSub, Nat.reduceMul, ↓reduceIte, Int.reduceToNat, Int.reduceLE, beq_self_eq_true]
    refine st_rat rfl rfl p1 p2 p3 ?_
    simp only [XM, XA, XB, gateX, Nat.reduceAdd, Nat.reduceLeDiff, Nat.reduceSub, Nat.reduceMul, ↓reduceIte, Int.reduceToNat, Int.reduceLE, beq_self_eq_true]
    refine hK _ ?_
    first | refine Gx.a (by kernel_rfl) fun K hK => ?_ | refine Gx.b (by kernel_rfl) fun K hK => ?_ | refine Gx.c (by kernel_rfl) fun K hK => ?_
    simp only [XM, XA, XB, gateX, Nat.reduceAdd, Nat.reduceLeDiff, Nat.reduceSub, Nat.reduceMul, ↓reduceIte, Int.reduceToNat, Int.reduceLE, beq_self_eq_true]
    refine call_go (by kernel_rfl) rfl (qadd_c _ _ _ _ _ h2 hx ((hS k (by omega)).qf hf) ((hq _ (cf_mem hk)).qf (by omega))) fun v3 V3 hV3 h3 => ?_
    obtain ⟨x3, y3, rfl, o3, o4⟩ := h3.form
    simp only [XM, XA, XB, gateX, Nat.reduceAdd, Nat.reduceLeDiff, Nat.reduceSub, Nat.reduceMul, ↓reduceIte, Int.reduceToNat, Int.reduceLE, beq_self_eq_true]
    refine st_rat rfl rfl rfl o3 o4 ?_
    simp only [XM, XA, XB, gateX, Nat.reduceAdd, Nat.reduceLeDiff, Nat.reduceSub, Nat.reduceMul, ↓reduceIte, Int.reduceToNat, Int.reduceLE, beq_self_eq_true]
    refine hK _ ?_
    first | refine Gx.a (by kernel_rfl) fun K hK => ?_ | refine Gx.b (by kernel_rfl) fun K hK => ?_ | refine Gx.c (by kernel_rfl) fun K hK => ?_
    simp only [XM, XA, XB, gateX, Nat.reduceAdd, Nat.reduceLeDiff, Nat.reduceSub, Nat.reduceMul, ↓reduceIte, Int.reduceToNat, Int.reduceLE, beq_self_eq_true, i64_succ k (by omega)]
    exact hK _ ⟨n - 1, by omega, fun f => ⟨k + 1, V3, _, x3, y3, StIs.of (by exact rfl), by omega, View.le_trans hV2 hV3, h3, o3, o4⟩⟩
  rintro s ⟨V2, m, x, y, hs, h2, o1, o2⟩
  obtain ⟨z, rfl⟩ := hs.out
  try dsimp only
  first | refine Gx.a (by kernel_rfl) fun K hK => ?_ | refine Gx.b (by kernel_rfl) fun K hK => ?_ | refine Gx.c (by kernel_rfl) fun K hK => ?_
  simp only [XM, XA, XB, gateX, Nat.reduceAdd, Nat.reduceLeDiff, Nat.reduceSub, Nat.reduceMul, ↓reduceIte, Int.reduceToNat, Int.reduceLE, beq_self_eq_true]
  refine st_rat rfl rfl rfl o1 o2 ?_
  simp only [XM, XA, XB, gateX, Nat.reduceAdd, Nat.reduceLeDiff, Nat.reduceSub, Nat.reduceMul, ↓reduceIte, Int.reduceToNat, Int.reduceLE, beq_self_eq_true]
  refine hK _ (XWP.ret ?_)
  try simp only [thenX_ret, inBlockX_ret]
  exact ret_rat1 rfl rfl rfl h2
theorem law1_c (V : View) (v : Value) (r : Raw) (h : rawE V v r) (f : r.fit) : Spec Try.prog 55 [v] V fun v' V' => v' = .bool (!wtR r) := by
  have h0 := h
  obtain ⟨n, d, rfl, hn, hd⟩ := h
  refine (Spec.enter Try.func55 rfl fun Γ => ?_)
  simp only [Try.ntmps55, List.map_cons, List.map_nil, List.length_cons, List.length_nil, Nat.reduceAdd, Nat.reduceSub, List.replicate_succ, List.replicate_zero, List.cons_append, List.nil_append]
  first | refine Gx.a (by kernel_rfl) fun K hK => ?_ | refine Gx.b (by kernel_rfl) fun K hK => ?_ | refine Gx.c (by kernel_rfl) fun K hK => ?_
  simp only [XM, XA, XB, gateX, Nat.reduceAdd, Nat.reduceLeDiff, Nat.reduceSub, Nat.reduceMul, ↓reduceIte, Int.reduceToNat, Int.reduceLE, beq_self_eq_true]
  refine hK _ ?_
  first | refine Gx.a (by kernel_rfl) fun K hK => ?_ | refine Gx.b (by kernel_rfl) fun K hK => ?_ | refine Gx.c (by kernel_rfl) fun K hK => ?_
  simp only [XM, XA, XB, gateX, Nat.reduceAdd, Nat.reduceLeDiff, Nat.reduceSub, Nat.reduceMul, ↓reduceIte, Int.reduceToNat, Int.reduceLE, beq_self_eq_true]
  refine call_go (by kernel_rfl) rfl (qright_c _ _ _ _ _ h0 f.1 f.2) fun v1 V1 hV1 h1 => ?_
  subst h1
  cases e : rawOk r.m r.nd r.dd
  · simp only [XM, XA, XB, gateX, Nat.reduceAdd, Nat.reduceLeDiff, Nat.reduceSub, Nat.reduceMul, ↓reduceIte, Int.reduceToNat, Int.reduceLE, beq_self_eq_true]
    refine hK _ (XWP.ret ?_)
    try simp only [thenX_ret, inBlockX_ret]
    refine ret_go _ rfl ?_
    have : wtR r = false := by unfold wtR Raw.ok; rw [e]; rfl
    rw [this]; rfl
  · simp only [XM, XA, XB, gateX, Nat.reduceAdd, Nat.reduceLeDiff, Nat.reduceSub, Nat.reduceMul, ↓reduceIte, Int.reduceToNat, Int.reduceLE, beq_self_eq_true]
    refine hK _ (XWP.ret ?_)
    try simp only [thenX_ret, inBlockX_ret]
    refine ret_go _ rfl ?_
    have h2 : ng r.q = r.m := RawAt.neg h0 e
    have : wtR r = !r.m := by unfold wtR Raw.ok; rw [e, h2]; rfl
    rw [this, Bool.not_not]; rfl
theorem wts_any (l : List Raw) : (l.any fun r => !wtR r) = !wtsR l := by
  unfold wtsR
  induction l with
  | nil => rfl
  | cons r l ih => rw [List.any_cons, List.all_cons, ih, Bool.not_and]
/-- a law: parts that are not negative and sum to 1 -/
def lawB (L : List Raw) : Bool := wtsR L && decide (sumL (qs L) L.length = 1)
theorem blaw_c (V : View) (v : Value) (L : List Raw) (B : Nat) (h : Raws V v L) (f : fitR L) (ll : L.length ≤ 1000) (hq : okR L = true → ∀ x ∈ qs L, QB B x) (hB : 1001 * (B + 1) ≤ 17592186044416) : Spec Try.prog 19 [v] V fun v' V' => v' = .bool (lawB L) := by
  obtain ⟨A, c, rfl, hc, hm⟩ := h.form
  refine (Spec.enter Try.func19 rfl fun Γ => ?_)
  simp only [Try.ntmps19, List.map_cons, List.map_nil, List.length_cons, List.length_nil, Nat.reduceAdd, Nat.reduceSub, List.replicate_succ, List.replicate_zero, List.cons_append, List.nil_append]
  first | refine Gx.a (by kernel_rfl) fun K hK => ?_ | refine Gx.b (by kernel_rfl) fun K hK => ?_ | refine Gx.c (by kernel_rfl) fun K hK => ?_
  simp only [XM, XA, XB, gateX, Nat.reduceAdd, Nat.reduceLeDiff, Nat.reduceSub, Nat.reduceMul, ↓reduceIte, Int.reduceToNat, Int.reduceLE, beq_self_eq_true]
  refine hK _ ?_
  first | refine Gx.a (by kernel_rfl) fun K hK => ?_ | refine Gx.b (by kernel_rfl) fun K hK => ?_ | refine Gx.c (by kernel_rfl) fun K hK => ?_
  simp only [XM, XA, XB, gateX, Nat.reduceAdd, Nat.reduceLeDiff, Nat.reduceSub, Nat.reduceMul, ↓reduceIte, Int.reduceToNat, Int.reduceLE, beq_self_eq_true]
  refine call_go (by kernel_rfl) rfl (gcontains_c (g := 55) (p := fun r => !wtR r) (by kernel_rfl) law1_c _ _ _ h f (by omega)) fun v1 V1 hV1 h1 => ?_
  subst h1
  rw [wts_any]
  cases e : wtsR L
  · simp only [XM, XA, XB, gateX, Nat.reduceAdd, Nat.reduceLeDiff, Nat.reduceSub, Nat.reduceMul, ↓reduceIte, Int.reduceToNat, Int.reduceLE, beq_self_eq_true]
    refine hK _ (XWP.ret ?_)
    try simp only [thenX_ret, inBlockX_ret]
    refine ret_go _ rfl ?_
    unfold lawB
    rw [e]; rfl
  have ok := (wtsR_ok e).1
  have hr := (Raws.rats h ok).up hV1
  have hlen := qs_len L
  simp only [XM, XA, XB, gateX, Nat.reduceAdd, Nat.reduceLeDiff, Nat.reduceSub, Nat.reduceMul, ↓reduceIte, Int.reduceToNat, Int.reduceLE, beq_self_eq_true]
  refine call_go (by kernel_rfl) rfl (qsum_c _ _ _ B hr (hq ok) (by omega) hB) fun v2 V2 hV2 h2 => ?_
  rw [hlen] at h2
  simp only [XM, XA, XB, gateX, Nat.reduceAdd, Nat.reduceLeDiff, Nat.reduceSub, Nat.reduceMul, ↓reduceIte, Int.reduceToNat, Int.reduceLE, beq_self_eq_true]
  refine call_go (by kernel_rfl) rfl (qone_c _) fun v3 V3 hV3 h3 => ?_
  simp only [XM, XA, XB, gateX, Nat.reduceAdd, Nat.reduceLeDiff, Nat.reduceSub, Nat.reduceMul, ↓reduceIte, Int.reduceToNat, Int.reduceLE, beq_self_eq_true]
  have qs2 : QF (sumL (qs L) L.length) := by
    have := sumL_QB (hq ok) L.length (by omega)
    refine this.qf (Nat.le_trans (Nat.mul_le_mul_right _ (show L.length ≤ 1001 by omega)) hB)
  refine call_go (by kernel_rfl) rfl (qsame_c _ _ _ _ _ (h2.mono hV3) h3 qs2 QF_one) fun v4 V4 hV4 h4 => ?_
  subst h4
  simp only [XM, XA, XB, gateX, Nat.reduceAdd, Nat.reduceLeDiff, Nat.reduceSub, Nat.reduceMul, ↓reduceIte, Int.reduceToNat, Int.reduceLE, beq_self_eq_true]
  refine hK _ (XWP.ret ?_)
  try simp only [thenX_ret, inBlockX_ret]
  refine ret_go _ rfl ?_
  unfold lawB
  rw [e]; rfl
end Go.Proofs.Ytkgmicakfmllmaa
end
section
namespace Go.Proofs.Ytkgmicakfmllmaa
open Go Go.RowKit
set_option linter.unusedSimpArgs false
set_option linter.unusedVariables false
attribute [local irreducible] XWP Spec SpecO XPub XCall seqX clX apX stX ldX iaX slX
theorem sgI_neg (q : Rat) : decide (sgI q < 0) = ng q := by
  unfold sgI
  split
  · rename_i h; subst h; rfl
  · cases h : ng q
    · rfl
    · rfl
theorem psum_c (V : View) (v : Value) (l : List Rat) (B : Nat) (h : Rats V v l) (hq : ∀ x ∈ l, QB B x) (ll : l.length ≤ 1000) (hB : 1001 * (B + 1) ≤ 17592186044416) : Spec Try.prog 66 [v] V fun v' V' => RatC V' v' (sumL l l.length) := by
  obtain ⟨A, c, rfl, hc, hm⟩ := h.form
  have hS : ∀ k, k ≤ l.length → QB (1000 * (B + 1)) (sumL l k) := fun k hk => (sumL_QB hq k hk).mono (Nat.mul_le_mul_right _ (by omega))
  have hf : 1000 * (B + 1) ≤ 17592186044416 := by omega
  refine (Spec.enter Try.func66 rfl fun Γ => ?_)
  simp only [Try.ntmps66, List.map_cons, List.map_nil, List.length_cons, List.length_nil, Nat.reduceAdd, Nat.reduceSub, List.replicate_succ, List.replicate_zero, List.cons_append, List.nil_append]
  first | refine Gx.a (by kernel_rfl) fun K hK => ?_ | refine Gx.b (by kernel_rfl) fun K hK => ?_ | refine Gx.c (by kernel_rfl) fun K hK => ?_
  simp only [XM, XA, XB, gateX, Nat.reduceAdd, Nat.reduceLeDiff, Nat.reduceSub, Nat.reduceMul, ↓reduceIte, Int.reduceToNat, Int.reduceLE, beq_self_eq_true]
  refine hK _ ?_
  first | refine Gx.a (by kernel_rfl) fun K hK => ?_ | refine Gx.b (by kernel_rfl) fun K hK => ?_ | refine Gx.c (by kernel_rfl) fun K hK => ?_
  simp only [XM, XA, XB, gateX, Nat.reduceAdd, Nat.reduceLeDiff, Nat.reduceSub, Nat.reduceMul, ↓reduceIte, Int.reduceToNat, Int.reduceLE, beq_self_eq_true]
  refine call_go (by kernel_rfl) rfl (pzero_c _) fun v1 V1 hV1 h1 => ?_
  obtain ⟨x1, y1, rfl, o1, o2⟩ := h1.form
  simp only [XM, XA, XB, gateX, Nat.reduceAdd, Nat.reduceLeDiff, Nat.reduceSub, Nat.reduceMul, ↓reduceIte, Int.reduceToNat, Int.reduceLE, beq_self_eq_true]
  refine st_rat rfl rfl rfl o1 o2 ?_
  simp only [XM, XA, XB, gateX, Nat.reduceAdd, Nat.reduceLeDiff, Nat.reduceSub, Nat.reduceMul, ↓reduceIte, Int.reduceToNat, Int.reduceLE, beq_self_eq_true]
  refine hK _ ?_
  refine XWP.cutD 2 (fun s => ∃ (V2 : View) (m : Bool) (x y : Value), StIs (fun Z => [Z 0,Z 1, .p 0 0, .p 1 0, Z 4,Z 5,Z 6,Z 7,Z 8,Z 9,Z 10,Z 11,Z 12,Z 13,Z 14,Z 15,Z 16,Z 17,Z 18]) [[.bool false, .slice none 0 0, .slice none 0 0], [.bool m, x, y]] (fun _ => none) V2 s ∧ RatC V2 (.agg #[.bool m, x, y]) (sumL l l.length) ∧ isOne x = true ∧ isOne y = true) ?_ ?_
  · first | refine Gx.a (by kernel_rfl) fun K hK => ?_ | refine Gx.b (by kernel_rfl) fun K hK => ?_ | refine Gx.c (by kernel_rfl) fun K hK => ?_
    simp only [XM, XA, XB, gateX, Nat.reduceAdd, Nat.reduceLeDiff, Nat.reduceSub, Nat.reduceMul, ↓reduceIte, Int.reduceToNat, Int.reduceLE, beq_self_eq_true]
    refine hK _ ?_
    clear hK
    first | refine XWP.block ?_ | refine XWP.seq (XWP.block ?_)
    refine XWP.loopD 2 (fun n s => ∃ (k : Nat) (V2 : View) (m : Bool) (x y : Value), StIs (fun Z => [.v (.slice A l.length c), Z 1, .p 0 0, .p 1 0, .v (.int .i64 (k : Int)), Z 5,Z 6,Z 7,Z 8,Z 9,Z 10,Z 11,Z 12,Z 13,Z 14,Z 15,Z 16,Z 17,Z 18]) [[.bool false, .slice none 0 0, .slice none 0 0], [.bool m, x, y]] (fun _ => none) V2 s ∧ n + k = l.length ∧ V.le V2 ∧ RatC V2 (.agg #[.bool m, x, y]) (sumL l k) ∧ isOne x = true ∧ isOne y = true) l.length ⟨0, V1, _, _, _, StIs.of (by exact rfl), by omega, hV1, h1, o1, o2⟩ ?_
    clear h1 o1 o2
    rintro n s ⟨k, V2, m, x, y, hs, hn, hV2, h2, o1, o2⟩
    obtain ⟨z, rfl⟩ := hs.out
    try dsimp only
    clear hs
    by_cases hk : k < l.length
    rotate_left
    · obtain rfl : k = l.length := by omega
      have b1 : decide ((l.length : Int) < (l.length : Int)) = false := decide_eq_false (by omega)
      refine XWP.seq ?_
      first | refine Gx.a (by kernel_rfl) fun K hK => ?_ | refine Gx.b (by kernel_rfl) fun K hK => ?_ | refine Gx.c (by kernel_rfl) fun K hK => ?_
      simp only [XM, XA, XB, gateX, Nat.reduceAdd, Nat.reduceLeDiff, Nat.reduceSub, Nat.reduceMul, ↓reduceIte, Int.reduceToNat, Int.reduceLE, beq_self_eq_true, b1]
      refine hK _ ?_
      first | refine Gx.f rfl ?_ | refine XWP.seq (Gx.f rfl ?_)
      refine XWP.exit ?_
      exact fun f => ⟨V2, m, x, y, StIs.of (by exact rfl), h2, o1, o2⟩
    have b1 : decide ((k : Int) < (l.length : Int)) = true := decide_eq_true (by omega)
    have hv2 := h.up hV2
    obtain ⟨b, o, rfl⟩ := SlAt.addr hv2 (by omega)
    obtain ⟨m3, n3, d3, hx, ⟨p1, p2, p3⟩, hld⟩ := Rats.get hv2 k hk
    refine XWP.seq ?_
    first | refine Gx.a (by kernel_rfl) fun K hK => ?_ | refine Gx.b (by kernel_rfl) fun K hK => ?_ | refine Gx.c (by kernel_rfl) fun K hK => ?_
    simp only [XM, XA, XB, gateX, Nat.reduceAdd, Nat.reduceLeDiff, Nat.reduceSub, Nat.reduceMul, ↓reduceIte, Int.reduceToNat, Int.reduceLE, beq_self_eq_true, b1]
    refine hK _ ?_
    first | refine Gx.t rfl ?_ | refine XWP.seq (Gx.t rfl ?_)
    refine XWP.skip ?_
    refine XWP.seq ?_
    first | refine XWP.block ?_ | refine XWP.seq (XWP.block ?_)
    (first | refine XWP.drw [0, 1, 2, 3, 4, 5, 6] (by kernel_rfl) (by kernel_rfl) (by kernel_rfl) fun K hK => ?_ | refine XWP.seq (XWP.drw [0, 1, 2, 3, 4, 5, 6] (by kernel_rfl) (by kernel_rfl) (by kernel_rfl) fun K hK => ?_) | refine XWP.drw1 [0, 1, 2, 3, 4, 5, 6] (by kernel_rfl) (by kernel_rfl) (by kernel_rfl) fun K hK => ?_) <;> dsimp only [pickOps, List.getElem?_cons_zero, List.getElem?_cons_succ]
    simp only [XM, XA, XB, gateX, Nat.reduceAdd, Nat.reduceLeDiff, Nat.reduceSub, Nat.reduceMul, ↓reduceIte, Int.reduceToNat, Int.reduceLE, beq_self_eq_true]
    refine ⟨by omega, by omega, ld_mem (hld _) ?_⟩
    simp only [XM, XA, XB, gateX, Nat.reduceAdd, Nat.reduceLeDiff, Nat.reduceSub, Nat.reduceMul, ↓reduceIte, Int.reduceToNat, Int.reduceLE, beq_self_eq_true]
    have q1 := (hS k (by omega)).qf hf
    have q2 := (hq _ (cf_mem hk)).qf (by omega)
    refine call_go (by kernel_rfl) rfl (padd_c _ _ _ _ _ (h2.toV q1) (hx.toV q2) q1 q2) fun v3 V3 hV3 h3 => ?_
    obtain ⟨x3, y3, rfl, o3, o4⟩ := h3.form
    simp only [XM, XA, XB, gateX, Nat.reduceAdd, Nat.reduceLeDiff, Nat.reduceSub, Nat.reduceMul, ↓reduceIte, Int.reduceToNat, Int.reduceLE, beq_self_eq_true]
    refine st_rat rfl rfl rfl o3 o4 ?_
    simp only [XM, XA, XB, gateX, Nat.reduceAdd, Nat.reduceLeDiff, Nat.reduceSub, Nat.reduceMul, ↓reduceIte, Int.reduceToNat, Int.reduceLE, beq_self_eq_true]
    refine hK _ ?_
    first | refine Gx.a (by kernel_rfl) fun K hK => ?_ | refine Gx.b (by kernel_rfl) fun K hK => ?_ | refine Gx.c (by kernel_rfl) fun K hK => ?_
    simp only [XM, XA, XB, gateX, Nat.reduceAdd, Nat.reduceLeDiff, Nat.reduceSub, Nat.reduceMul, ↓reduceIte, Int.reduceToNat, Int.reduceLE, beq_self_eq_true, i64_succ k (by omega)]
    exact hK _ ⟨n - 1, by omega, fun f => ⟨k + 1, V3, _, x3, y3, StIs.of (by exact rfl), by omega, View.le_trans hV2 hV3, h3, o3, o4⟩⟩
  rintro s ⟨V2, m, x, y, hs, h2, o1, o2⟩
  obtain ⟨z, rfl⟩ := hs.out
  try dsimp only
  first | refine Gx.a (by kernel_rfl) fun K hK => ?_ | refine Gx.b (by kernel_rfl) fun K hK => ?_ | refine Gx.c (by kernel_rfl) fun K hK => ?_
  simp only [XM, XA, XB, gateX, Nat.reduceAdd, Nat.reduceLeDiff, Nat.reduceSub, Nat.reduceMul, ↓reduceIte, Int.reduceToNat, Int.reduceLE, beq_self_eq_true]
  refine st_rat rfl rfl rfl o1 o2 ?_
  simp only [XM, XA, XB, gateX, Nat.reduceAdd, Nat.reduceLeDiff, Nat.reduceSub, Nat.reduceMul, ↓reduceIte, Int.reduceToNat, Int.reduceLE, beq_self_eq_true]
  refine hK _ (XWP.ret ?_)
  try simp only [thenX_ret, inBlockX_ret]
  exact ret_rat1 rfl rfl rfl h2
theorem dlaw_c (V : View) (v : Value) (L : List Raw) (B : Nat) (h : Raws V v L) (f : fitR L) (ll : L.length ≤ 1000) (hq : ∀ x ∈ qs L, QB B x) (hB : 1001 * (B + 1) ≤ 17592186044416) : Spec Try.prog 23 [v] V fun v' V' => v' = .bool (lawB L) := by
  obtain ⟨A, c, rfl, hc, hm⟩ := h.form
  refine (Spec.enter Try.func23 rfl fun Γ => ?_)
  simp only [Try.ntmps23, List.map_cons, List.map_nil, List.length_cons, List.length_nil, Nat.reduceAdd, Nat.reduceSub, List.replicate_succ, List.replicate_zero, List.cons_append, List.nil_append]
  first | refine Gx.a (by kernel_rfl) fun K hK => ?_ | refine Gx.b (by kernel_rfl) fun K hK => ?_ | refine Gx.c (by kernel_rfl) fun K hK => ?_
  simp only [XM, XA, XB, gateX, Nat.reduceAdd, Nat.reduceLeDiff, Nat.reduceSub, Nat.reduceMul, ↓reduceIte, Int.reduceToNat, Int.reduceLE, beq_self_eq_true]
  refine hK _ ?_
  refine XWP.cutD 0 (fun s => ∃ (V2 : View), StIs (fun Z => [.v (.slice A L.length c), Z 1,Z 2,Z 3,Z 4,Z 5,Z 6,Z 7,Z 8,Z 9,Z 10,Z 11,Z 12,Z 13,Z 14,Z 15,Z 16,Z 17,Z 18,Z 19,Z 20,Z 21,Z 22,Z 23]) [] (fun _ => none) V2 s ∧ V.le V2 ∧ wtsR L = true) ?_ ?_
  · first | refine Gx.a (by kernel_rfl) fun K hK => ?_ | refine Gx.b (by kernel_rfl) fun K hK => ?_ | refine Gx.c (by kernel_rfl) fun K hK => ?_
    simp only [XM, XA, XB, gateX, Nat.reduceAdd, Nat.reduceLeDiff, Nat.reduceSub, Nat.reduceMul, ↓reduceIte, Int.reduceToNat, Int.reduceLE, beq_self_eq_true]
    refine hK _ ?_
    clear hK
    first | refine XWP.block ?_ | refine XWP.seq (XWP.block ?_)
    refine XWP.loopD 0 (fun n s => ∃ (k : Nat) (V2 : View), StIs (fun Z => [.v (.slice A L.length c), Z 1,Z 2,Z 3,Z 4, .v (.slice A L.length c), .v (.int .i64 (L.length : Int)), .v (.int .i64 (k : Int)), Z 8,Z 9,Z 10,Z 11,Z 12,Z 13,Z 14,Z 15,Z 16,Z 17,Z 18,Z 19,Z 20,Z 21,Z 22,Z 23]) [] (fun _ => none) V2 s ∧ n + k = L.length ∧ V.le V2 ∧ wtsR (L.take k) = true) L.length ⟨0, V, StIs.of (by exact rfl), by omega, View.le_refl _, rfl⟩ ?_
    rintro n s ⟨k, V2, hs, hn, hV2, hk⟩
    obtain ⟨z, rfl⟩ := hs.out
    try dsimp only
    clear hs
    by_cases hlt : k < L.length
    rotate_left
    · obtain rfl : k = L.length := by omega
      have b1 : decide ((L.length : Int) < (L.length : Int)) = false := decide_eq_false (by omega)
      first | refine Gx.a (by kernel_rfl) fun K hK => ?_ | refine Gx.b (by kernel_rfl) fun K hK => ?_ | refine Gx.c (by kernel_rfl) fun K hK => ?_
      simp only [XM, XA, XB, gateX, Nat.reduceAdd, Nat.reduceLeDiff, Nat.reduceSub, Nat.reduceMul, ↓reduceIte, Int.reduceToNat, Int.reduceLE, beq_self_eq_true, b1]
      refine hK _ ?_
      first | refine Gx.f rfl ?_ | refine XWP.seq (Gx.f rfl ?_)
      refine XWP.exit ?_
      rw [List.take_length] at hk
      exact fun f => ⟨V2, StIs.of (by exact rfl), hV2, hk⟩
    have b1 : decide ((k : Int) < (L.length : Int)) = true := decide_eq_true (by omega)
    first | refine Gx.a (by kernel_rfl) fun K hK => ?_ | refine Gx.b (by kernel_rfl) fun K hK => ?_ | refine Gx.c (by kernel_rfl) fun K hK => ?_
    simp only [XM, XA, XB, gateX, Nat.reduceAdd, Nat.reduceLeDiff, Nat.reduceSub, Nat.reduceMul, ↓reduceIte, Int.reduceToNat, Int.reduceLE, beq_self_eq_true, b1]
    refine hK _ ?_
    first | refine Gx.t rfl ?_ | refine XWP.seq (Gx.t rfl ?_)
    refine XWP.skip ?_
    have hv2 := Raws.up h hV2
    obtain ⟨b, o, rfl⟩ := SlAt.addr hv2 (by omega)
    obtain ⟨x, hx, ⟨m3, n3, d3, rfl, p1, p2, p3⟩, hld⟩ := SlAt.load hv2 k hlt
    have hmem : L[k] ∈ L := List.getElem_mem hlt
    obtain ⟨r, hr⟩ : ∃ r, r = L[k] := ⟨_, rfl⟩
    rw [← hr] at hx hmem
    have bad : wtR r = false → wtsR L = false := fun e => by
      cases e2 : wtsR L
      · rfl
      · unfold wtsR at e2
        rw [List.all_eq_true.1 e2 r hmem] at e; cases e
    have et : L.take (k + 1) = L.take k ++ [r] := by rw [List.take_succ_eq_append_getElem hlt, hr]
    have hqr : QB B r.q := hq _ (List.mem_map.2 ⟨r, hmem, rfl⟩)
    refine XWP.seq ?_
    first | refine XWP.block ?_ | refine XWP.seq (XWP.block ?_)
    first | refine Gx.a (by kernel_rfl) fun K hK => ?_ | refine Gx.b (by kernel_rfl) fun K hK => ?_ | refine Gx.c (by kernel_rfl) fun K hK => ?_
    simp only [XM, XA, XB, gateX, Nat.reduceAdd, Nat.reduceLeDiff, Nat.reduceSub, Nat.reduceMul, ↓reduceIte, Int.reduceToNat, Int.reduceLE, beq_self_eq_true]
    refine ⟨by omega, by omega, ld_mem (hld _) ?_⟩
    simp only [XM, XA, XB, gateX, Nat.reduceAdd, Nat.reduceLeDiff, Nat.reduceSub, Nat.reduceMul, ↓reduceIte, Int.reduceToNat, Int.reduceLE, beq_self_eq_true]
    refine st_rat rfl rfl p1 p2 p3 ?_
    simp only [XM, XA, XB, gateX, Nat.reduceAdd, Nat.reduceLeDiff, Nat.reduceSub, Nat.reduceMul, ↓reduceIte, Int.reduceToNat, Int.reduceLE, beq_self_eq_true]
    refine hK _ ?_
    first | refine Gx.a (by kernel_rfl) fun K hK => ?_ | refine Gx.b (by kernel_rfl) fun K hK => ?_ | refine Gx.c (by kernel_rfl) fun K hK => ?_
    simp only [XM, XA, XB, gateX, Nat.reduceAdd, Nat.reduceLeDiff, Nat.reduceSub, Nat.reduceMul, ↓reduceIte, Int.reduceToNat, Int.reduceLE, beq_self_eq_true]
    refine call_go (by kernel_rfl) rfl (pright_c _ _ _ _ _ hx (f _ hmem).1 (f _ hmem).2) fun v3 V3 hV3 h3 => ?_
    subst h3
    cases e1 : rawOk r.m r.nd r.dd
    · simp only [XM, XA, XB, gateX, Nat.reduceAdd, Nat.reduceLeDiff, Nat.reduceSub, Nat.reduceMul, ↓reduceIte, Int.reduceToNat, Int.reduceLE, beq_self_eq_true]
      refine hK _ ?_
      first | refine Gx.t rfl ?_ | refine XWP.seq (Gx.t rfl ?_)
      first | refine Gx.a (by kernel_rfl) fun K hK => ?_ | refine Gx.b (by kernel_rfl) fun K hK => ?_ | refine Gx.c (by kernel_rfl) fun K hK => ?_
      simp only [XM, XA, XB, gateX, Nat.reduceAdd, Nat.reduceLeDiff, Nat.reduceSub, Nat.reduceMul, ↓reduceIte, Int.reduceToNat, Int.reduceLE, beq_self_eq_true]
      refine hK _ (XWP.ret ?_)
      try simp only [thenX_ret, inBlockX_ret]
      refine ret_go _ rfl ?_
      have : lawB L = false := by unfold lawB; rw [bad (by unfold wtR Raw.ok; rw [e1]; rfl)]; rfl
      rw [this]; rfl
    simp only [XM, XA, XB, gateX, Nat.reduceAdd, Nat.reduceLeDiff, Nat.reduceSub, Nat.reduceMul, ↓reduceIte, Int.reduceToNat, Int.reduceLE, beq_self_eq_true]
    have hx3 : RatC V3 (.agg #[m3, n3, d3]) r.q := (RawAt.rat hx e1).mono hV3
    refine call_go (by kernel_rfl) rfl (psign_c _ _ _ (hx3.toV (hqr.qf (by omega)))) fun v4 V4 hV4 h4 => ?_
    subst h4
    have e2 := sgI_neg r.q
    cases e3 : ng r.q
    rotate_left
    · rw [e3] at e2
      simp only [XM, XA, XB, gateX, Nat.reduceAdd, Nat.reduceLeDiff, Nat.reduceSub, Nat.reduceMul, ↓reduceIte, Int.reduceToNat, Int.reduceLE, beq_self_eq_true, e2]
      refine hK _ ?_
      first | refine Gx.t rfl ?_ | refine XWP.seq (Gx.t rfl ?_)
      first | refine Gx.a (by kernel_rfl) fun K hK => ?_ | refine Gx.b (by kernel_rfl) fun K hK => ?_ | refine Gx.c (by kernel_rfl) fun K hK => ?_
      simp only [XM, XA, XB, gateX, Nat.reduceAdd, Nat.reduceLeDiff, Nat.reduceSub, Nat.reduceMul, ↓reduceIte, Int.reduceToNat, Int.reduceLE, beq_self_eq_true]
      refine hK _ (XWP.ret ?_)
      try simp only [thenX_ret, inBlockX_ret]
      refine ret_go _ rfl ?_
      have : lawB L = false := by unfold lawB; rw [bad (by unfold wtR; rw [e3, Bool.not_true, Bool.and_false])]; rfl
      rw [this]; rfl
    rw [e3] at e2
    simp only [XM, XA, XB, gateX, Nat.reduceAdd, Nat.reduceLeDiff, Nat.reduceSub, Nat.reduceMul, ↓reduceIte, Int.reduceToNat, Int.reduceLE, beq_self_eq_true, e2]
    refine hK _ ?_
    first | refine Gx.f rfl ?_ | refine XWP.seq (Gx.f rfl ?_)
    refine XWP.skip ?_
    first | refine Gx.a (by kernel_rfl) fun K hK => ?_ | refine Gx.b (by kernel_rfl) fun K hK => ?_ | refine Gx.c (by kernel_rfl) fun K hK => ?_
    simp only [XM, XA, XB, gateX, Nat.reduceAdd, Nat.reduceLeDiff, Nat.reduceSub, Nat.reduceMul, ↓reduceIte, Int.reduceToNat, Int.reduceLE, beq_self_eq_true, i64_succ k (by omega)]
    refine hK _ ⟨n - 1, by omega, fun f => ⟨k + 1, V4, StIs.of (by exact rfl), by omega, View.le_trans hV2 (View.le_trans hV3 hV4), ?_⟩⟩
    unfold wtsR at hk ⊢
    rw [et, List.all_append, hk]
    simp only [List.all_cons, List.all_nil, Bool.and_true, Bool.true_and]
    unfold wtR Raw.ok
    rw [e1, e3]; rfl
  rintro s ⟨V2, hs, hV2, hw⟩
  obtain ⟨z, rfl⟩ := hs.out
  try dsimp only
  have ok := (wtsR_ok hw).1
  have hr := (Raws.rats h ok).up hV2
  have hlen := qs_len L
  have qs2 : QF (sumL (qs L) L.length) := by
    have := sumL_QB hq L.length (by omega)
    refine this.qf (Nat.le_trans (Nat.mul_le_mul_right _ (show L.length ≤ 1001 by omega)) hB)
  first | refine Gx.a (by kernel_rfl) fun K hK => ?_ | refine Gx.b (by kernel_rfl) fun K hK => ?_ | refine Gx.c (by kernel_rfl) fun K hK => ?_
  simp only [XM, XA, XB, gateX, Nat.reduceAdd, Nat.reduceLeDiff, Nat.reduceSub, Nat.reduceMul, ↓reduceIte, Int.reduceToNat, Int.reduceLE, beq_self_eq_true]
  refine call_go (by kernel_rfl) rfl (psum_c _ _ _ B hr hq (by omega) hB) fun v3 V3 hV3 h3 => ?_
  rw [hlen] at h3
  simp only [XM, XA, XB, gateX, Nat.reduceAdd, Nat.reduceLeDiff, Nat.reduceSub, Nat.reduceMul, ↓reduceIte, Int.reduceToNat, Int.reduceLE, beq_self_eq_true]
  refine call_go (by kernel_rfl) rfl (pone_c _) fun v4 V4 hV4 h4 => ?_
  simp only [XM, XA, XB, gateX, Nat.reduceAdd, Nat.reduceLeDiff, Nat.reduceSub, Nat.reduceMul, ↓reduceIte, Int.reduceToNat, Int.reduceLE, beq_self_eq_true]
  refine call_go (by kernel_rfl) rfl (psame_c _ _ _ _ _ ((h3.mono hV4).toV qs2) (h4.toV QF_one) qs2 QF_one) fun v5 V5 hV5 h5 => ?_
  subst h5
  simp only [XM, XA, XB, gateX, Nat.reduceAdd, Nat.reduceLeDiff, Nat.reduceSub, Nat.reduceMul, ↓reduceIte, Int.reduceToNat, Int.reduceLE, beq_self_eq_true]
  refine hK _ (XWP.ret ?_)
  try simp only [thenX_ret, inBlockX_ret]
  refine ret_go _ rfl ?_
  unfold lawB
  rw [hw]; rfl
end Go.Proofs.Ytkgmicakfmllmaa
end
