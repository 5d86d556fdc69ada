/- the exits of a chain step by step satisfy a recurrence no longer than its states, whose generating function at 1 is the chance of the exit (part 9 of 13) -/
import Derived.OrdersHeld
import Derived.Below
import Derived.Tactics
import Derived.KernelRfl
import Derived.RangeFuncCalls
import Derived.RangeFuncFrom
import Derived.RangeFuncLeaves
import Derived.OrdersIn
import Derived.Laws.AppendOwn
import Derived.Laws.MakeOwn
import Derived.Laws.CopyRow
import Derived.Laws.Cells
import Derived.Laws.World
import Derived.Laws.Alloc2
import Derived.Laws.NewBlocks
import Derived.Maps.AppendAt
import Derived.Test.YthoboehbadmlmaaGreatProg
import Init.Data.List.Lemmas
import Init.Omega
import Derived.WalkKit
import Derived.ProofKit
import Derived.OpenShut
import Derived.ChangeOld
import Derived.SizedLaws
import Derived.ChangeSlices
import Derived.ChangeArms
import Derived.Deep.Slices
import Derived.Test.YthoboehbadmlmaaGreatCH8
set_option linter.unusedVariables false
set_option linter.unusedSimpArgs false
section
namespace Go.Proofs.YthoboehbadmlmaaGreat
open Go Go.RowKit
attribute [local irreducible] XWP Spec SpecO XPub XCall seqX clX apX stX ldX iaX slX
def wtR (r : Raw) : Bool := r.ok && !ng r.q
def wtsR (l : List Raw) : Bool := l.all wtR
def wtB (n : Int) (l : List Raw) : Bool := decide ((l.length : Int) = n) && wtsR l
theorem wtsR_ok {l : List Raw} (h : wtsR l = true) : okR l = true ∧ ∀ i, i < l.length → ng (cf (qs l) i) = false := by
 unfold wtsR at h
 rw [List.all_eq_true] at h
 refine ⟨?_, fun i hi => ?_⟩
 ·unfold okR
  rw [List.all_eq_true]
  intro r hr
  have := h r hr
  unfold wtR at this
  rw [Bool.and_eq_true] at this
  exact this.1
 ·have := h l[i] (List.getElem_mem hi)
  unfold wtR at this
  rw [Bool.and_eq_true] at this
  have e : cf (qs l) i = l[i].q := by
   rw [← cf_get (by rw [qs_len]; exact hi)]
   unfold qs; simp
  rw [e]
  simpa using this.2
theorem RawAt.neg {V : View} {v : Value} {m : Bool} {nd dd : List Nat} (h : RawAt V v m nd dd) (hk : rawOk m nd dd = true) : ng (Go.Proofs.YthoboehbadmlmaaGreat.rv m (nv nd) (nv dd)) = m := by
 obtain ⟨x, y, e, _, _⟩ := (RawAt.rat h hk).form
 obtain ⟨n, d, rfl, _, _⟩ := h
 simp only [Value.agg.injEq, Array.mk.injEq, List.cons.injEq, Value.bool.injEq] at e
 exact e.1.symm
theorem weight1_c (V : View) (v : Value) (r : Raw) (h : rawE V v r) (f : r.fit) : Spec Tryz.prog 126 [v] V fun v' V' => v' = .bool (!wtR r) := by
 have h0 := h
 obtain ⟨n, d, rfl, hn, hd⟩ := h
 refine (Spec.enter Tryz.func126 rfl fun Γ => ?_)
 simp only [Tryz.ntmps126, List.map_cons, List.map_nil, List.length_cons, List.length_nil, Nat.reduceAdd, Nat.reduceSub, List.replicate_succ, List.replicate_zero, List.cons_append, List.nil_append]
 refine Gx.a (by kernel_rfl) fun K hK => ?_
 simp only [XA]
 refine hK _ ?_
 refine Gx.a (by kernel_rfl) fun K hK => ?_
 simp only [XA, XB, Nat.reduceAdd, Nat.reduceLeDiff, ↓reduceIte]
 refine call_go (by kernel_rfl) rfl (qright_c _ _ _ _ _ h0 f.1 f.2) fun v1 V1 hV1 h1 => ?_
 subst h1
 cases e : rawOk r.m r.nd r.dd
 ·simp only [XA, gateX, ↓reduceIte]
  refine hK _ (XWP.ret ?_)
  try simp only [thenX_ret, inBlockX_ret]
  refine ret_go _ rfl ?_
  have : wtR r = false := by unfold wtR Raw.ok; rw [e]; rfl
  rw [this]; rfl
 ·simp only [XA, XB, gateX, ↓reduceIte, beq_self_eq_true]
  refine hK _ (XWP.ret ?_)
  try simp only [thenX_ret, inBlockX_ret]
  refine ret_go _ rfl ?_
  have h2 : ng r.q = r.m := RawAt.neg h0 e
  have : wtR r = !r.m := by unfold wtR Raw.ok; rw [e, h2]; rfl
  rw [this, Bool.not_not]; rfl
theorem windex_c (V : View) (v : Value) (l : List Raw) (h : Raws V v l) (f : fitR l) (ll : l.length ≤ 1000000) : Spec Tryz.prog 151 [v, .func (.func 126) #[] #[]] V fun v' V' => ∃ r : Int, v' = .int .i64 r ∧ decide (0 ≤ r) = !wtsR l := by
 obtain ⟨A, c, rfl, hc, hm⟩ := h.form
 refine (Spec.enter Tryz.func151 rfl fun Γ => ?_)
 simp only [Tryz.ntmps151, List.map_cons, List.map_nil, List.length_cons, List.length_nil, Nat.reduceAdd, Nat.reduceSub, List.replicate_succ, List.replicate_zero, List.cons_append, List.nil_append]
 refine Gx.a (by kernel_rfl) fun K hK => ?_
 simp only [XA]
 refine hK _ ?_
 refine XWP.cut (fun s => StIs (fun Z => [Z 0,Z 1,Z 2,Z 3,Z 4,Z 5,Z 6,Z 7,Z 8,Z 9,Z 10,Z 11,Z 12,Z 13,Z 14,Z 15,Z 16,Z 17,Z 18]) [] (fun _ => none) s.V s ∧ wtsR l = true) ?_ ?_
 ·refine Gx.a (by kernel_rfl) fun K hK => ?_
  simp only [XA, XB]
  refine hK _ ?_
  clear hK
  refine XWP.block ?_
  refine XWP.loop (fun n s => ∃ (k : Nat) (V2 : View), StIs (fun Z => [.v (.slice A l.length c), .v (.func (.func 126) #[] #[]), Z 2,Z 3,Z 4,Z 5,Z 6, .v (.int .i64 (l.length : Int)), .v (.int .i64 (k : Int)), Z 9,Z 10,Z 11,Z 12,Z 13,Z 14,Z 15,Z 16,Z 17,Z 18]) [] (fun _ => none) V2 s ∧ V.le V2 ∧ n + k = l.length ∧ wtsR (l.take k) = true) l.length ⟨0, V, StIs.of (by exact rfl), View.le_refl _, rfl, by simp [wtsR]⟩ ?_
  rintro n s ⟨k, V2, hs, hV2, hn, hk⟩
  obtain ⟨u, rfl⟩ := hs.out
  try dsimp only
  by_cases hlt : k < l.length
  ·have b1 : decide ((k : Int) < (l.length : Int)) = true := decide_eq_true (by omega)
   refine Gx.a (by kernel_rfl) fun K hK => ?_
   simp only [XA, XB, b1]
   refine hK _ ?_
   refine XWP.seq (Gx.t rfl ?_)
   refine XWP.skip ?_
   refine XWP.seq ?_
   refine XWP.block ?_
   refine Gx.a (by kernel_rfl) fun K hK => ?_
   simp only [XA]
   refine hK _ ?_
   refine Gx.a (by kernel_rfl) fun K hK => ?_
   have hv2 := Raws.up h hV2
   obtain ⟨b, o, rfl⟩ := SlAt.addr hv2 (by omega)
   obtain ⟨x, hx, ⟨m3, n3, d3, rfl, p1, p2, p3⟩, hld⟩ := SlAt.load hv2 k hlt
   simp only [XA, XB]
   refine ⟨by omega, by omega, ld_mem (hld _) ?_⟩
   simp only [XA]
   refine call_go (by kernel_rfl) rfl (weight1_c _ _ _ hx (f _ (List.getElem_mem hlt))) fun v3 V3 hV3 h3 => ?_
   subst h3
   have et : l.take (k + 1) = l.take k ++ [l[k]] := by rw [List.take_succ_eq_append_getElem hlt]
   cases hr : wtR l[k]
   ·simp only [XA]
    refine hK _ ?_
    refine Gx.t rfl ?_
    refine Gx.a (by kernel_rfl) fun K hK => ?_
    simp only [XA]
    refine hK _ (XWP.ret ?_)
    try simp only [thenX_ret, inBlockX_ret]
    refine ret_go _ rfl ?_
    refine ⟨k, rfl, ?_⟩
    have : wtsR l = false := by
     unfold wtsR
     rw [List.all_eq_false]
     exact ⟨l[k], List.getElem_mem hlt, by rw [hr]; simp⟩
    rw [this, decide_eq_true (by omega)]; rfl
   ·simp only [XA]
    refine hK _ ?_
    refine Gx.f rfl ?_
    refine XWP.skip ?_
    refine Gx.c (by kernel_rfl) fun K hK => ?_
    simp only [XA, XB, i64_succ k (by omega)]
    refine hK _ ⟨n - 1, by omega, k + 1, V3, StIs.of (by exact rfl), View.le_trans hV2 hV3, by omega, ?_⟩
    unfold wtsR at hk ⊢
    rw [et, List.all_append, hk]
    simp [hr]
  ·have b1 : decide ((k : Int) < (l.length : Int)) = false := decide_eq_false (by omega)
   refine Gx.a (by kernel_rfl) fun K hK => ?_
   simp only [XA, XB, b1]
   refine hK _ ?_
   refine XWP.seq (Gx.f rfl ?_)
   refine XWP.exit ?_
   rw [List.take_of_length_le (by omega)] at hk
   exact ⟨StIs.of (by exact rfl), hk⟩
 rintro s ⟨hs, hk⟩
 obtain ⟨t, bx, H, V2⟩ := s
 obtain ⟨u, e⟩ := hs.out
 cases e
 try dsimp only
 refine Gx.a (by kernel_rfl) fun K hK => ?_
 simp only [XA]
 refine hK _ (XWP.ret ?_)
 try simp only [thenX_ret, inBlockX_ret]
 refine ret_go _ rfl ?_
 exact ⟨-1, rfl, by rw [hk]; rfl⟩
theorem wcontains_c (V : View) (v : Value) (l : List Raw) (h : Raws V v l) (f : fitR l) (ll : l.length ≤ 1000000) : Spec Tryz.prog 125 [v, .func (.func 126) #[] #[]] V fun v' V' => v' = .bool (!wtsR l) := by
 refine (Spec.enter Tryz.func125 rfl fun Γ => ?_)
 simp only [Tryz.ntmps125, List.map_cons, List.map_nil, List.length_cons, List.length_nil, Nat.reduceAdd, Nat.reduceSub, List.replicate_succ, List.replicate_zero, List.cons_append, List.nil_append]
 refine Gx.a (by kernel_rfl) fun K hK => ?_
 simp only [XA]
 refine hK _ ?_
 refine Gx.a (by kernel_rfl) fun K hK => ?_
 simp only [XA]
 refine call_go (by kernel_rfl) rfl (windex_c _ _ _ h f ll) fun v1 V1 hV1 h1 => ?_
 obtain ⟨r, rfl, hr⟩ := h1
 simp only [XA, XB, hr]
 refine hK _ (XWP.ret ?_)
 try simp only [thenX_ret, inBlockX_ret]
 refine ret_go _ rfl ?_
 rfl
theorem cweights_c (V : View) (s1 s2 v : Value) (r1 c1 r2 c2 : Int) (L : List Raw) (o1 : isOne s1 = true) (o2 : isOne s2 = true) (h : Raws V v L) (f : fitR L) (ll : L.length ≤ 1000000) :
  Spec Tryz.prog 64 [.agg #[.int .i64 r1, .int .i64 c1, s1, .int .i64 r2, .int .i64 c2, s2], v] V fun v' V' => v' = .bool (wtB r1 L) := by
 obtain ⟨A, c, rfl, hc, hm⟩ := h.form
 refine (Spec.enter Tryz.func64 rfl fun Γ => ?_)
 simp only [Tryz.ntmps64, List.map_cons, List.map_nil, List.length_cons, List.length_nil, Nat.reduceAdd, Nat.reduceSub, List.replicate_succ, List.replicate_zero, List.cons_append, List.nil_append]
 refine Gx.a (by kernel_rfl) fun K hK => ?_
 simp only [XA]
 refine hK _ ?_
 refine Gx.a (by kernel_rfl) fun K hK => ?_
 by_cases d : (L.length : Int) = r1
 ·have b : decide ((L.length : Int) = r1) = true := decide_eq_true d
  simp only [XM, XA, XB, gateX, ↓reduceIte, beq_self_eq_true, b]
  refine call_go (by kernel_rfl) rfl (wcontains_c _ _ _ h f ll) fun v1 V1 hV1 h1 => ?_
  subst h1
  simp only [XA, gateX, ↓reduceIte, beq_self_eq_true]
  refine hK _ (XWP.ret ?_)
  try simp only [thenX_ret, inBlockX_ret]
  refine ret_go _ rfl ?_
  show Value.bool _ = _
  unfold wtB
  rw [b, Bool.not_not, Bool.true_and]
 ·have b : decide ((L.length : Int) = r1) = false := decide_eq_false d
  simp only [XM, XA, XB, gateX, ↓reduceIte, b]
  refine hK _ (XWP.ret ?_)
  try simp only [thenX_ret, inBlockX_ret]
  refine ret_go _ rfl ?_
  unfold wtB
  rw [b]; rfl
theorem czeros_o (V : View) (n : Nat) (hn : n ≤ 1000) : SpecO Tryz.prog 127 [.int .i64 (n : Int)] V fun v' V' o => ∃ g cells, v' = .slice (some ⟨g, 0, none⟩) n n ∧ o = some (g, ⟨48, cells, n * 3⟩) ∧ RowAt ratE V' cells (mk n fun _ => 0) := by
 refine (SpecO.enter Tryz.func127 rfl fun Γ => ?_)
 simp only [Tryz.ntmps127, List.map_cons, List.map_nil, List.length_cons, List.length_nil, Nat.reduceAdd, Nat.reduceSub, List.replicate_succ, List.replicate_zero, List.cons_append, List.nil_append]
 refine Gx.a (by kernel_rfl) fun K hK => ?_
 simp only [XA]
 refine hK _ ?_
 refine Gx.a (by kernel_rfl) fun K hK => ?_
 simp only [XA]
 refine mk_go rfl rfl elemT_22 zeroT_48 (by omega) (by omega) (by omega) (by omega) rfl (by omega) fun g hg1 hg2 => ?_
 simp only [XA]
 refine hK _ ?_
 clear hK
 refine XWP.cut (fun s => ∃ (V2 : View) (H5 : Heap) (cells : List Value), StIs (fun Z => [Z 0,Z 1,Z 2, .v (.slice (some ⟨g, 0, none⟩) n n), Z 4,Z 5,Z 6,Z 7,Z 8,Z 9,Z 10,Z 11,Z 12,Z 13,Z 14,Z 15,Z 16,Z 17]) [] H5 V2 s ∧ H5 g = some ⟨48, cells, n * 3⟩ ∧ RowAt ratE V2 cells (mk n fun _ => 0)) ?_ ?_
 ·refine Gx.a (by kernel_rfl) fun K hK => ?_
  simp only [XA, XB]
  refine hK _ ?_
  clear hK
  refine XWP.block ?_
  refine XWP.loop (fun r s => ∃ (k : Nat) (V2 : View) (H5 : Heap) (cells : List Value), StIs (fun Z => [Z 0,Z 1,Z 2, .v (.slice (some ⟨g, 0, none⟩) n n), Z 4,Z 5,Z 6,Z 7, .v (.int .i64 (n : Int)), .v (.int .i64 (k : Int)), Z 10,Z 11,Z 12,Z 13,Z 14,Z 15,Z 16,Z 17]) [] H5 V2 s ∧ r + k = n ∧ H5 g = some ⟨48, cells, n * 3⟩ ∧ RowAt (optE ratE) V2 cells (part n (fun _ => 0) k)) n ⟨0, V, _, _, StIs.of (by exact rfl), by omega, upd_at _ _ _, by rw [part_zero]; exact RowAt.new _ _⟩ ?_
  rintro r s ⟨k, V2, H5, cells, hs, hr, hH, hrow⟩
  obtain ⟨z, rfl⟩ := hs.out
  try dsimp only
  clear hs
  by_cases hk : k < n
  rotate_left
  ·obtain rfl : k = n := by omega
   have b1 : decide ((k : Int) < (k : Int)) = false := decide_eq_false (by omega)
   refine Gx.a (by kernel_rfl) fun K hK => ?_
   simp only [XA, XB, b1]
   refine hK _ ?_
   refine XWP.seq (Gx.f rfl ?_)
   refine XWP.exit ?_
   rw [part_all] at hrow
   exact ⟨V2, H5, cells, StIs.of (by exact rfl), hH, hrow.all⟩
  have b1 : decide ((k : Int) < (n : Int)) = true := decide_eq_true (by omega)
  refine Gx.a (by kernel_rfl) fun K hK => ?_
  simp only [XA, XB, b1]
  refine hK _ ?_
  refine XWP.seq (Gx.t rfl ?_)
  refine XWP.skip ?_
  refine XWP.seq ?_
  refine XWP.block ?_
  refine Gx.a (by kernel_rfl) fun K hK => ?_
  simp only [XA]
  refine hK _ ?_
  refine Gx.c (by kernel_rfl) fun K hK => ?_
  simp only [XA]
  refine call_go (by kernel_rfl) rfl (qzero_c _) fun v3 V3 hV3 h3 => ?_
  obtain ⟨x3, y3, rfl, o1, o2⟩ := h3.form
  have hrow := hrow.mono (optE_ok ratE_ok) hV3
  have hl := hrow.1
  rw [part_len] at hl
  simp only [XA, XB]
  refine ⟨by omega, by omega, ?_⟩
  refine st_rowA shapeT_48 (all3 rfl o1 o2) rfl hH (by dsimp only; omega) ?_
  simp only [XA]
  refine hK _ ?_
  have hrow2 := hrow.set k (by rw [part_len]; omega) (x := some 0) (show isOne (.bool (ng 0)) = true from rfl) o1 o2 h3
  rw [part_step n (fun _ => 0) k] at hrow2
  refine Gx.c (by kernel_rfl) fun K hK => ?_
  simp only [XA, XB, i64_succ k (by omega)]
  exact hK _ ⟨r - 1, by omega, k + 1, V3, _, _, StIs.of (by exact rfl), by omega, upd_at _ _ _, hrow2⟩
 rintro s ⟨V2, H5, cells, hs, hH, hrow⟩
 obtain ⟨z, rfl⟩ := hs.out
 try dsimp only
 refine Gx.a (by kernel_rfl) fun K hK => ?_
 simp only [XA]
 refine hK _ (XWP.ret ?_)
 try simp only [thenX_ret, inBlockX_ret]
 refine ret_own _ (some (g, _)) rfl (fun g' r e => ?_) ⟨g, cells, rfl, rfl, hrow⟩
 cases e; exact hH
def rowf (a M : List Rat) (c i k0 : Nat) : Nat → Rat := fun k => if k < k0 then tS a M c k (i + 1) else tS a M c k i
theorem rowf_set {a M : List Rat} {c i k0 : Nat} (hk : k0 < c) : (mk c (rowf a M c i k0)).set k0 (tS a M c k0 (i + 1)) = mk c (rowf a M c i (k0 + 1)) := by
 rw [mk_set1 hk]
 refine mk_congr fun j _ => ?_
 unfold rowf
 by_cases e : j = k0
 ·rw [if_pos e, if_pos (by omega), e]
 ·rw [if_neg e]
  by_cases h : j < k0
  ·rw [if_pos h, if_pos (by omega)]
  ·rw [if_neg h, if_neg (by omega)]
theorem rowf_skip {a M : List Rat} {c i k0 : Nat} (hk : k0 < c) (h : tS a M c k0 (i + 1) = tS a M c k0 i) : mk c (rowf a M c i k0) = mk c (rowf a M c i (k0 + 1)) := by
 refine mk_congr fun j _ => ?_
 unfold rowf
 by_cases e : j = k0
 ·rw [if_neg (by omega), if_pos (by omega), e, h]
 ·by_cases h : j < k0
  ·rw [if_pos h, if_pos (by omega)]
  ·rw [if_neg h, if_neg (by omega)]
theorem rowf_zero (a M : List Rat) (c i : Nat) : mk c (rowf a M c i 0) = mk c fun k => tS a M c k i := mk_congr fun j _ => by unfold rowf; rw [if_neg (by omega)]
theorem rowf_all (a M : List Rat) (c i : Nat) : mk c (rowf a M c i c) = mk c fun k => tS a M c k (i + 1) := mk_congr fun j hj => by unfold rowf; rw [if_pos hj]
theorem cf_mk_lt {c k : Nat} {f : Nat → Rat} (h : k < c) : cf (mk c f) k = f k := by rw [cf_mk, if_pos h]
theorem RatC.num {V : View} {m n d : Value} {q : Rat} (h : RatC V (.agg #[m, n, d]) q) : ∃ A c, n = .slice A (dg q.num.natAbs).length c := by
 obtain ⟨n', d', e, hn, _⟩ := h
 simp only [Value.agg.injEq, Array.mk.injEq, List.cons.injEq] at e
 obtain ⟨A, c, e2, _, _⟩ := NatAt.form hn
 exact ⟨A, c, by rw [e.2.1, e2]⟩
theorem num_zero (q : Rat) : decide (((dg q.num.natAbs).length : Int) = 0) = decide (q = 0) := by
 rw [len_zero, decide_eq_decide]
 exact (rat_zero_iff q).symm
theorem num_pos (q : Rat) : decide ((0 : Int) < ((dg q.num.natAbs).length : Int)) = !decide (q = 0) := by
 rw [← num_zero]
 by_cases h : (dg q.num.natAbs).length = 0
 ·rw [decide_eq_false (by omega), decide_eq_true (by omega)]; rfl
 ·rw [decide_eq_true (by omega), decide_eq_false (by omega)]; rfl
theorem cthrough_c (V : View) (v sM : Value) (a M : List Rat) (r : Int) (c A B : Nat) (hv : Rats V v a) (hM : Rats V sM M) (hl : M.length = a.length * c) (la : a.length ≤ 60) (lc : c ≤ 60) (hA : CB A a) (hB : CB B M) (hfit : A + B + 100 ≤ 17592186044416) :
  Spec Tryz.prog 80 [v, .agg #[.int .i64 r, .int .i64 (c : Int), sM]] V fun v' V' => Rats V' v' (thr a M c) := by
 obtain ⟨A1, c1, rfl, _, _⟩ := hv.form
 obtain ⟨A2, c2, rfl, _, _⟩ := hM.form
 have hac : a.length * c ≤ 3600 := Nat.le_trans (Nat.mul_le_mul la lc) (by decide)
 refine (Spec.enter Tryz.func80 rfl fun Γ => ?_)
 simp only [Tryz.ntmps80, List.map_cons, List.map_nil, List.length_cons, List.length_nil, Nat.reduceAdd, Nat.reduceSub, List.replicate_succ, List.replicate_zero, List.cons_append, List.nil_append]
 refine Gx.a (by kernel_rfl) fun K hK => ?_
 simp only [XA]
 refine hK _ ?_
 refine Gx.a (by kernel_rfl) fun K hK => ?_
 simp only [XM, XA, XB]
 refine call_own (by kernel_rfl) rfl (czeros_o _ c (by omega)) fun v1 V1 o1 hV1 hs1 h1 => ?_
 obtain ⟨g, cells1, rfl, rfl, hrow1⟩ := h1
 have hg1 : addRow (fun _ => none) (some (g, (⟨48, cells1, c * 3⟩ : Row))) g = some ⟨48, cells1, c * 3⟩ := show upd (fun _ => none) g (some _) g = some _ from upd_at _ _ _
 simp only [XA]
 refine hK _ ?_
 clear hK
 generalize addRow (fun _ => none) (some (g, (⟨48, cells1, c * 3⟩ : Row))) = H1 at *
 refine XWP.cutD 1 (fun s => ∃ (V2 : View) (H5 : Heap) (cells : List Value), StIs (fun Z => [Z 0,Z 1,Z 2,Z 3,Z 4, .v (.slice (some ⟨g, 0, none⟩) c c), Z 6,Z 7,Z 8,Z 9,Z 10,Z 11,Z 12,Z 13,Z 14,Z 15,Z 16,Z 17,Z 18,Z 19,Z 20,Z 21,Z 22,Z 23,Z 24,Z 25,Z 26,Z 27,Z 28,Z 29,Z 30,Z 31,Z 32,Z 33,Z 34,Z 35,Z 36,Z 37,Z 38,Z 39,Z 40,Z 41,Z 42,Z 43,Z 44,Z 45,Z 46,Z 47,Z 48,Z 49,Z 50]) [[.int .i64 r, .int .i64 (c : Int), .slice A2 M.length c2]] H5 V2 s ∧ H5 g = some ⟨48, cells, c * 3⟩ ∧ RowAt ratE V2 cells (thr a M c)) ?_ ?_
 ·refine Gx.a (by kernel_rfl) fun K hK => ?_
  simp only [XA, XB]
  refine hK _ ?_
  clear hK
  refine XWP.block ?_
  refine XWP.loopD 1 (fun n s => ∃ (i : Nat) (V2 : View) (H5 : Heap) (cells : List Value), StIs (fun Z => [Z 0,Z 1,Z 2, .p 0 0, Z 4, .v (.slice (some ⟨g, 0, none⟩) c c), Z 6,Z 7,Z 8,Z 9,Z 10,Z 11,Z 12, .v (.slice A1 a.length c1), .v (.int .i64 (a.length : Int)), .v (.int .i64 (i : Int)), Z 16,Z 17,Z 18,Z 19,Z 20,Z 21,Z 22,Z 23,Z 24,Z 25,Z 26,Z 27,Z 28,Z 29,Z 30,Z 31,Z 32,Z 33,Z 34,Z 35,Z 36,Z 37,Z 38,Z 39,Z 40,Z 41,Z 42,Z 43,Z 44,Z 45,Z 46,Z 47,Z 48,Z 49,Z 50]) [[.int .i64 r, .int .i64 (c : Int), .slice A2 M.length c2]] H5 V2 s ∧ V.le V2 ∧ n + i = a.length ∧ H5 g = some ⟨48, cells, c * 3⟩ ∧ RowAt ratE V2 cells (mk c fun k => tS a M c k i)) a.length ⟨0, V1, H1, cells1, StIs.of (by exact rfl), hV1, by omega, hg1, hrow1⟩ ?_
  clear hg1 hrow1 hs1
  rintro n s ⟨i, V2, H5, cells, hs, hV2, hn, hH, hrow⟩
  obtain ⟨z, rfl⟩ := hs.out
  try dsimp only
  clear hs
  by_cases hi : i < a.length
  rotate_left
  ·obtain rfl : i = a.length := by omega
   have b1 : decide ((a.length : Int) < (a.length : Int)) = false := decide_eq_false (by omega)
   refine Gx.a (by kernel_rfl) fun K hK => ?_
   simp only [XA, XB, b1]
   refine hK _ ?_
   refine XWP.seq (Gx.f rfl ?_)
   refine XWP.exit ?_
   exact fun f => ⟨V2, H5, cells, StIs.of (by exact rfl), hH, hrow⟩
  have b1 : decide ((i : Int) < (a.length : Int)) = true := decide_eq_true (by omega)
  refine Gx.a (by kernel_rfl) fun K hK => ?_
  simp only [XA, XB, b1]
  refine hK _ ?_
  refine XWP.seq (Gx.t rfl ?_)
  refine XWP.skip ?_
  refine XWP.seq ?_
  refine XWP.block ?_
  have hv2 := hv.up hV2
  obtain ⟨b, o, rfl⟩ := SlAt.addr hv2 (by omega)
  obtain ⟨m3, n3, d3, hx3, ⟨p1, p2, p3⟩, hld3⟩ := Rats.get hv2 i hi
  obtain ⟨A3, c3, rfl⟩ := hx3.num
  refine Gx.a (by kernel_rfl) fun K hK => ?_
  simp only [XA, XB]
  refine ⟨by omega, by omega, ld_mem (hld3 _) ?_⟩
  simp only [XA, XB]
  refine st_rat rfl rfl p1 p2 p3 ?_
  simp only [XA]
  refine hK _ ?_
  refine XWP.seq ?_
  by_cases hz : cf a i = 0
  ·have b2 : decide (cf a i = 0) = true := decide_eq_true hz
   refine Gx.a (by kernel_rfl) fun K hK => ?_
   simp only [XA, XB, num_zero, b2]
   refine hK _ ?_
   refine Gx.t rfl ?_
   refine XWP.exit ?_
   refine Gx.c (by kernel_rfl) fun K hK => ?_
   simp only [XA, XB, i64_succ i (by omega)]
   refine hK _ ⟨n - 1, by omega, fun f => ⟨i + 1, V2, H5, cells, StIs.of (by exact rfl), hV2, by omega, hH, ?_⟩⟩
   have e : (mk c fun k => tS a M c k i) = mk c fun k => tS a M c k (i + 1) := mk_congr fun j _ => by
    show _ = tS a M c j i + _
    rw [hz, Rat.zero_mul, Rat.add_zero]
   rw [← e]; exact hrow
  have b2 : decide (cf a i = 0) = false := decide_eq_false hz
  refine Gx.a (by kernel_rfl) fun K hK => ?_
  simp only [XA, XB, num_zero, b2]
  refine hK _ ?_
  refine Gx.f rfl ?_
  refine XWP.skip ?_
  refine Gx.a (by kernel_rfl) fun K hK => ?_
  simp only [XA, XB]
  refine hK _ ?_
  clear hK
  refine XWP.post (fun s => ∃ (V3 : View) (H6 : Heap) (cells6 : List Value), StIs (fun Z => [Z 0,Z 1,Z 2, .p 0 0, Z 4, .v (.slice (some ⟨g, 0, none⟩) c c), .v (.int .i64 (i : Int)), .p 1 0, Z 8,Z 9,Z 10,Z 11,Z 12, .v (.slice (some ⟨b, o, none⟩) a.length c1), .v (.int .i64 (a.length : Int)), .v (.int .i64 (i : Int)), Z 16,Z 17,Z 18,Z 19,Z 20,Z 21,Z 22,Z 23,Z 24,Z 25,Z 26,Z 27,Z 28,Z 29,Z 30,Z 31,Z 32,Z 33,Z 34,Z 35,Z 36,Z 37,Z 38,Z 39,Z 40,Z 41,Z 42,Z 43,Z 44,Z 45,Z 46,Z 47,Z 48,Z 49,Z 50]) [[.int .i64 r, .int .i64 (c : Int), .slice A2 M.length c2], [m3, .slice A3 (dg (cf a i).num.natAbs).length c3, d3]] H6 V3 s ∧ V2.le V3 ∧ H6 g = some ⟨48, cells6, c * 3⟩ ∧ RowAt ratE V3 cells6 (mk c fun k => tS a M c k (i + 1))) ?_ ?_
  ·refine XWP.block ?_
   refine XWP.loopD 2 (fun r2 s => ∃ (k : Nat) (V3 : View) (H6 : Heap) (cells6 : List Value), StIs (fun Z => [Z 0,Z 1,Z 2, .p 0 0, Z 4, .v (.slice (some ⟨g, 0, none⟩) c c), .v (.int .i64 (i : Int)), .p 1 0, Z 8,Z 9,Z 10,Z 11,Z 12, .v (.slice (some ⟨b, o, none⟩) a.length c1), .v (.int .i64 (a.length : Int)), .v (.int .i64 (i : Int)), Z 16,Z 17,Z 18,Z 19,Z 20,Z 21,Z 22,Z 23, .v (.slice (some ⟨g, 0, none⟩) c c), .v (.int .i64 (c : Int)), .v (.int .i64 (k : Int)), Z 27,Z 28,Z 29,Z 30,Z 31,Z 32,Z 33,Z 34,Z 35,Z 36,Z 37,Z 38,Z 39,Z 40,Z 41,Z 42,Z 43,Z 44,Z 45,Z 46,Z 47,Z 48,Z 49,Z 50]) [[.int .i64 r, .int .i64 (c : Int), .slice A2 M.length c2], [m3, .slice A3 (dg (cf a i).num.natAbs).length c3, d3]] H6 V3 s ∧ V2.le V3 ∧ r2 + k = c ∧ H6 g = some ⟨48, cells6, c * 3⟩ ∧ RowAt ratE V3 cells6 (mk c (rowf a M c i k))) c ⟨0, V2, H5, cells, StIs.of (by exact rfl), View.le_refl _, by omega, hH, by rw [rowf_zero]; exact hrow⟩ ?_
   clear hH hrow
   rintro r2 s ⟨k, V3, H6, cells6, hs, hV3, hr2, hH, hrow⟩
   obtain ⟨z, rfl⟩ := hs.out
   try dsimp only
   clear hs
   by_cases hk : k < c
   rotate_left
   ·obtain rfl : k = c := by omega
    have b3 : decide ((k : Int) < (k : Int)) = false := decide_eq_false (by omega)
    refine Gx.a (by kernel_rfl) fun K hK => ?_
    simp only [XA, XB, b3]
    refine hK _ ?_
    refine XWP.seq (Gx.f rfl ?_)
    refine XWP.exit ?_
    rw [rowf_all] at hrow
    exact ⟨V3, H6, cells6, StIs.of (by exact rfl), hV3, hH, hrow⟩
   have b3 : decide ((k : Int) < (c : Int)) = true := decide_eq_true (by omega)
   refine Gx.a (by kernel_rfl) fun K hK => ?_
   simp only [XA, XB, b3]
   refine hK _ ?_
   refine XWP.seq (Gx.t rfl ?_)
   refine XWP.skip ?_
   refine XWP.seq ?_
   refine XWP.block ?_
   refine Gx.a (by kernel_rfl) fun K hK => ?_
   simp only [XA]
   refine hK _ ?_
   have hik : i * c + k < M.length := by
    have := Nat.mul_le_mul_right c (show i + 1 ≤ a.length by omega)
    rw [Nat.add_mul, Nat.one_mul] at this
    omega
   refine Gx.a (by kernel_rfl) fun K hK => ?_
   simp only [XM, XA, Nat.reduceAdd, Nat.reduceLeDiff, ↓reduceIte]
   refine call_go (by kernel_rfl) rfl (ccell_c _ _ r c i k M (hM.up (View.le_trans hV2 hV3)) hik lc (by omega) (by omega)) fun v7 V7 hV7 h7 => ?_
   obtain ⟨x7, y7, rfl, o3, o4⟩ := h7.form
   obtain ⟨A7, c7, rfl⟩ := h7.num
   simp only [XA, XB, Nat.reduceAdd]
   refine st_rat rfl rfl rfl o3 o4 ?_
   simp only [XA]
   refine hK _ ?_
   have hrow7 := hrow.mono ratE_ok hV7
   by_cases hz2 : cf M (i * c + k) = 0
   ·have b4 : decide (cf M (i * c + k) = 0) = true := decide_eq_true hz2
    refine Gx.a (by kernel_rfl) fun K hK => ?_
    simp only [XA, XB, num_pos, b4]
    refine hK _ ?_
    refine Gx.f rfl ?_
    refine XWP.skip ?_
    refine Gx.c (by kernel_rfl) fun K hK => ?_
    simp only [XA, XB, i64_succ k (by omega)]
    rw [rowf_skip hk (by show tS a M c k i + _ = _; rw [hz2, Rat.mul_zero, Rat.add_zero])] at hrow7
    exact hK _ ⟨r2 - 1, by omega, fun f => ⟨k + 1, V7, H6, cells6, StIs.of (by exact rfl), View.le_trans hV3 hV7, by omega, hH, hrow7⟩⟩
   have b4 : decide (cf M (i * c + k) = 0) = false := decide_eq_false hz2
   refine Gx.a (by kernel_rfl) fun K hK => ?_
   simp only [XA, XB, num_pos, b4]
   refine hK _ ?_
   refine Gx.t rfl ?_
   obtain ⟨m8, n8, d8, hx8, ⟨s1, s2, s3⟩, hld8⟩ := rowQ_load hH hrow7 k (by rw [mk_len]; exact hk)
   rw [cf_mk_lt hk, show rowf a M c i k k = tS a M c k i from if_neg (by omega)] at hx8
   have qa : QF (cf a i) := (hA.at i).qf (by omega)
   have qm : QF (cf M (i * c + k)) := (hB.at _).qf (by omega)
   have qt : QF (tS a M c k i) := (tS_QB hA hB c k i).qf (by omega)
   have qp : QF (cf a i * cf M (i * c + k)) := ((hA.at i).mul (hB.at _)).qf (by omega)
   (refine XWP.drw1 [0, 1, 2, 3, 4, 5, 6, 7, 8, 9, 10, 11] (by kernel_rfl) (by kernel_rfl) (by kernel_rfl) fun K hK => ?_) <;> dsimp only [pickOps, List.getElem?_cons_zero, List.getElem?_cons_succ]
   simp only [XA, XB]
   refine ⟨by omega, by omega, ld_mem hld8 ?_⟩
   simp only [XA, XB, Nat.reduceAdd, Nat.reduceLeDiff, ↓reduceIte]
   refine call_go (by kernel_rfl) rfl (qmul_c _ _ _ _ _ (hx3.mono (View.le_trans hV3 hV7)) h7 qa qm) fun v9 V9 hV9 h9 => ?_
   simp only [XA]
   refine call_go (by kernel_rfl) rfl (qadd_c _ _ _ _ _ (hx8.mono hV9) h9 qt qp) fun v10 V10 hV10 h10 => ?_
   obtain ⟨x10, y10, rfl, o5, o6⟩ := h10.form
   have hrow10 := (hrow7.mono ratE_ok hV9).mono ratE_ok hV10
   have hl10 := hrow10.1
   rw [mk_len] at hl10
   simp only [XA, XB]
   refine ⟨by omega, by omega, ?_⟩
   refine st_rowA shapeT_48 (all3 rfl o5 o6) rfl hH (by dsimp only; omega) ?_
   simp only [XA]
   refine hK _ ?_
   have hrow11 := hrow10.set k (by rw [mk_len]; exact hk) (show isOne (.bool (ng (tS a M c k i + cf a i * cf M (i * c + k)))) = true from rfl) o5 o6 h10
   rw [show tS a M c k i + cf a i * cf M (i * c + k) = tS a M c k (i + 1) from rfl, rowf_set hk] at hrow11
   refine Gx.c (by kernel_rfl) fun K hK => ?_
   simp only [XA, XB, i64_succ k (by omega)]
   exact hK _ ⟨r2 - 1, by omega, fun f => ⟨k + 1, V10, _, _, StIs.of (by exact rfl), View.le_trans hV3 (View.le_trans hV7 (View.le_trans hV9 hV10)), by omega, upd_at _ _ _, hrow11⟩⟩
  rintro s ⟨V3, H6, cells6, hs, hV3, hH6, hrow6⟩
  obtain ⟨z, rfl⟩ := hs.out
  try dsimp only
  clear hs
  refine Gx.c (by kernel_rfl) fun K hK => ?_
  simp only [XA, XB, i64_succ i (by omega)]
  exact hK _ ⟨n - 1, by omega, fun f => ⟨i + 1, V3, H6, cells6, StIs.of (by exact rfl), View.le_trans hV2 hV3, by omega, hH6, hrow6⟩⟩
 rintro s ⟨V2, H5, cells, hs, hH, hrow⟩
 obtain ⟨z, rfl⟩ := hs.out
 try dsimp only
 refine Gx.a (by kernel_rfl) fun K hK => ?_
 simp only [XA]
 refine hK _ (XWP.ret ?_)
 try simp only [thenX_ret, inBlockX_ret]
 refine ret_pub g _ hH fun o ho hle' => ret_go _ rfl ?_
 exact hrow.pub ratE_ok ho hle' (thr_len a M c) (Nat.le_refl _) (by omega)
theorem chB_inv {r1 c1 r2 c2 : Int} {L1 L2 : List Raw} (h : chB r1 c1 L1 r2 c2 L2 = true) :
  ∃ n m : Nat, r1 = n ∧ c1 = n ∧ r2 = n ∧ c2 = m ∧ n ≤ 60 ∧ m ≤ 60 ∧ L1.length = n * n ∧ L2.length = n * m ∧ okR L1 = true ∧ okR L2 = true ∧ rowsB n m (qs L1) (qs L2) n = true := by
 have h0 := h
 unfold chB at h
 rw [Bool.and_eq_true, Bool.and_eq_true, Bool.and_eq_true, Bool.and_eq_true, decide_eq_true_eq, decide_eq_true_eq] at h
 obtain ⟨⟨⟨⟨e1, e2⟩, e3⟩, e4⟩, _⟩ := h
 obtain ⟨n, m, g1, g2, g3, g4, g5, g6, g7, g8, g9, g10, g11⟩ := chB_shape e1 e2 e3 e4
 exact ⟨n, m, g1, g2, g3, g4, g5, g6, g7, g8, g9, g10, by rw [← g11]; exact h0⟩
theorem mk_self (a : List Rat) : mk a.length (cf a) = a := by
 refine List.ext_getElem? fun i => ?_
 unfold mk
 by_cases hi : i < a.length
 ·rw [List.getElem?_map, List.getElem?_range hi, List.getElem?_eq_getElem hi, Option.map_some, cf_get hi]
 ·rw [List.getElem?_eq_none (by simp; omega), List.getElem?_eq_none (by omega)]
def fillf (a : List Rat) (i : Nat) : Nat → Rat := fun j => if j < i then cf a j else 0
theorem fillf_set {a : List Rat} {c i : Nat} (hi : i < c) : (mk c (fillf a i)).set i (cf a i) = mk c (fillf a (i + 1)) := by
 rw [mk_set1 hi]
 refine mk_congr fun j _ => ?_
 unfold fillf
 by_cases e : j = i
 ·rw [if_pos e, if_pos (by omega), e]
 ·rw [if_neg e]
  by_cases h : j < i
  ·rw [if_pos h, if_pos (by omega)]
  ·rw [if_neg h, if_neg (by omega)]
theorem fillf_all {a : List Rat} {c : Nat} (h : a.length = c) : mk c (fillf a c) = a := by
 subst h
 have : mk a.length (fillf a a.length) = mk a.length (cf a) := mk_congr fun j hj => by unfold fillf; rw [if_pos hj]
 rw [this, mk_self]
theorem fillf_zero (a : List Rat) (c : Nat) : mk c (fillf a 0) = mk c fun _ => 0 := mk_congr fun j _ => by unfold fillf; rw [if_neg (by omega)]
theorem cafter_c (V : View) (s1 s2 v : Value) (n m : Nat) (L1 L2 S : List Raw) (h1 : Raws V s1 L1) (h2 : Raws V s2 L2) (hv : Raws V v S) (f1 : fitR L1) (f2 : fitR L2) (f3 : fitR S) (hC : chB n n L1 n m L2 = true) (hW : wtB n S = true) (A B C : Nat) (hA : CB A (qs L1)) (hB : CB B (qs L2)) (hS : CB C (qs S)) (hfit : 2 * (A + B) + C + 300 ≤ 17592186044416) :
  Spec Tryz.prog 65 [.agg #[.int .i64 (n : Int), .int .i64 (n : Int), s1, .int .i64 (n : Int), .int .i64 (m : Int), s2], v, .int .i64 1] V fun v' V' => ∃ w u, v' = .tuple #[w, u, .int .i64 0] ∧ Rats V' w (thr (qs S) (qs L1) n) ∧ Rats V' u (thr (qs S) (qs L2) m) := by
 obtain ⟨n', m', e1, _, _, e2, hn, hm, k1, k2, o1, o2, _⟩ := chB_inv hC
 obtain rfl : n = n' := by omega
 obtain rfl : m = m' := by omega
 clear e1 e2
 have hn2 : n * n ≤ 3600 := Nat.le_trans (Nat.mul_le_mul hn hn) (by decide)
 have hnm : n * m ≤ 3600 := Nat.le_trans (Nat.mul_le_mul hn hm) (by decide)
 have hW' := hW
 unfold wtB at hW'
 rw [Bool.and_eq_true, decide_eq_true_eq] at hW'
 have lS : S.length = n := by omega
 obtain ⟨o3, _⟩ := wtsR_ok hW'.2
 obtain ⟨A1, q1, rfl, _, _⟩ := h1.form
 obtain ⟨A2, q2, rfl, _, _⟩ := h2.form
 obtain ⟨A3, q3, rfl, _, _⟩ := hv.form
 refine (Spec.enter Tryz.func65 rfl fun Γ => ?_)
 simp only [Tryz.ntmps65, List.map_cons, List.map_nil, List.length_cons, List.length_nil, Nat.reduceAdd, Nat.reduceSub, List.replicate_succ, List.replicate_zero, List.cons_append, List.nil_append]
 refine Gx.a (by kernel_rfl) fun K hK => ?_
 simp only [XA]
 refine hK _ ?_
 refine XWP.cut (fun s => ∃ (V2 : View), StIs (fun Z => [Z 0, .v (.slice A3 S.length q3), .v (.int .i64 1), .p 0 0, Z 4,Z 5,Z 6,Z 7,Z 8,Z 9,Z 10,Z 11,Z 12,Z 13,Z 14,Z 15,Z 16,Z 17,Z 18,Z 19,Z 20,Z 21,Z 22,Z 23,Z 24,Z 25,Z 26,Z 27,Z 28,Z 29,Z 30,Z 31,Z 32,Z 33,Z 34,Z 35,Z 36,Z 37,Z 38,Z 39,Z 40,Z 41,Z 42,Z 43,Z 44,Z 45,Z 46,Z 47,Z 48,Z 49,Z 50,Z 51,Z 52,Z 53,Z 54,Z 55,Z 56,Z 57,Z 58,Z 59,Z 60,Z 61,Z 62,Z 63,Z 64,Z 65,Z 66,Z 67,Z 68,Z 69,Z 70,Z 71,Z 72,Z 73,Z 74,Z 75,Z 76,Z 77,Z 78,Z 79,Z 80,Z 81,Z 82,Z 83,Z 84,Z 85,Z 86]) [[.int .i64 (n : Int), .int .i64 (n : Int), .slice A1 L1.length q1, .int .i64 (n : Int), .int .i64 (m : Int), .slice A2 L2.length q2]] (fun _ => none) V2 s ∧ V.le V2) ?_ ?_
 ·refine XWP.block ?_
  refine XWP.seq ?_
  refine Gx.c (by kernel_rfl) fun K hK => ?_
  simp only [XM, XA, Nat.reduceAdd, Nat.reduceLeDiff, ↓reduceIte]
  refine call_go (by kernel_rfl) rfl (cchright_c _ _ _ _ _ _ _ L1 L2 h1 h2 f1 f2 (by omega) (by omega) A B (fun _ => hA) (fun _ => hB) (by omega)) fun v1 V1 hV1 g1 => ?_
  rw [hC] at g1
  subst g1
  simp only [XM, XA, gateX, Nat.reduceAdd, Nat.reduceLeDiff, ↓reduceIte, beq_self_eq_true]
  refine call_go (by kernel_rfl) rfl (cweights_c _ _ _ _ _ _ _ _ S rfl rfl (hv.up hV1) f3 (by omega)) fun v2 V2 hV2 g2 => ?_
  rw [hW] at g2
  subst g2
  simp only [XA, XB, gateX, ↓reduceIte, beq_self_eq_true]
  refine hK _ ?_
  refine Gx.f rfl ?_
  refine Gx.a (by kernel_rfl) fun K hK => ?_
  simp only [XA, XB]
  refine hK _ ?_
  refine Gx.f rfl ?_
  refine XWP.skip ?_
  exact ⟨V2, StIs.of (by exact rfl), View.le_trans hV1 hV2⟩
 rintro s ⟨V2, hs, hV2⟩
 obtain ⟨z, rfl⟩ := hs.out
 try dsimp only
 clear hs
 have hp := (Raws.rats h1 o1).up hV2
 have hq := (Raws.rats h2 o2).up hV2
 have ha := (Raws.rats hv o3).up hV2
 have ep := qs_len L1
 have eq := qs_len L2
 have ea := qs_len S
 generalize qs L1 = p at *
 generalize qs L2 = q at *
 generalize qs S = a at *
 clear h1 h2 hv f1 f2 f3 o1 o2 o3 hC hW hW'
 have w01 : IntKind.i64.wrap (0 + 1) = 1 := by rw [wrap_id (by omega) (by omega)]; rfl
 have b01 : decide ((0 : Int) < 1) = true := by decide
 have b11 : decide ((1 : Int) < 1) = false := by decide
 have mW : (thr a q m).length = m := thr_len a q m
 have cW : CB (C + B + n) (thr a q m) := by
  have := thr_CB hS hB m
  rw [ea, lS] at this; exact this
 have lp : p.length = a.length * n := by rw [ep, ea, lS]; exact k1
 have lq : q.length = a.length * m := by rw [eq, ea, lS]; exact k2
 (refine XWP.drw [0, 1, 2, 4, 5, 6, 3, 7, 8, 9] (by kernel_rfl) (by kernel_rfl) (by kernel_rfl) fun K hK => ?_) <;> dsimp only [pickOps, List.getElem?_cons_zero, List.getElem?_cons_succ]
 simp only [XM, XA, XB, Nat.reduceAdd]
 refine call_own (by kernel_rfl) rfl (czeros_o _ n (by omega)) fun v3 V3 o3 hV3 hs3 h3 => ?_
 obtain ⟨g1, cells1, rfl, rfl, hrow1⟩ := h3
 simp only [XA]
 refine call_own (by kernel_rfl) rfl (czeros_o _ m (by omega)) fun v4 V4 o4 hV4 hs4 h4 => ?_
 obtain ⟨g2, cells2, rfl, rfl, hrow2⟩ := h4
 have hn4 : addRow (fun _ => none) (some (g1, (⟨48, cells1, n * 3⟩ : Row))) g2 = none := (hs4 g2 _ rfl).1
 have hne : g2 ≠ g1 := fun e => by
  rw [e] at hn4
  rw [show addRow (fun _ => none) (some (g1, (⟨48, cells1, n * 3⟩ : Row))) g1 = some ⟨48, cells1, n * 3⟩ from (show upd (fun _ => none) g1 (some _) g1 = some _ from upd_at _ _ _)] at hn4
  cases hn4
 have hg1 : addRow (addRow (fun _ => none) (some (g1, (⟨48, cells1, n * 3⟩ : Row)))) (some (g2, (⟨48, cells2, m * 3⟩ : Row))) g1 = some ⟨48, cells1, n * 3⟩ := show upd (upd (fun _ => none) g1 (some _)) g2 (some _) g1 = some _ from (upd_off hne.symm).trans (upd_at _ _ _)
 have hg2 : addRow (addRow (fun _ => none) (some (g1, (⟨48, cells1, n * 3⟩ : Row)))) (some (g2, (⟨48, cells2, m * 3⟩ : Row))) g2 = some ⟨48, cells2, m * 3⟩ := show upd (upd (fun _ => none) g1 (some _)) g2 (some _) g2 = some _ from upd_at _ _ _
 simp only [XA]
 refine hK _ ?_
 clear hK hn4 hs3 hs4
 generalize addRow (addRow (fun _ => none) (some (g1, (⟨48, cells1, n * 3⟩ : Row)))) (some (g2, (⟨48, cells2, m * 3⟩ : Row))) = H4 at *
 have hrow1 := hrow1.mono ratE_ok hV4
 have hV4 := View.le_trans hV3 hV4
 refine XWP.cutD 1 (fun s => ∃ (V5 : View) (H5 : Heap) (cells1 : List Value), StIs (fun Z => [Z 0, .v (.slice A3 S.length q3), .v (.int .i64 1), .p 0 0, Z 4,Z 5,Z 6,Z 7,Z 8, .v (.slice (some ⟨g1, 0, none⟩) n n), .v (.slice (some ⟨g2, 0, none⟩) m m), Z 11,Z 12,Z 13,Z 14,Z 15,Z 16,Z 17,Z 18,Z 19,Z 20,Z 21,Z 22,Z 23,Z 24,Z 25,Z 26,Z 27,Z 28,Z 29,Z 30,Z 31,Z 32,Z 33,Z 34,Z 35,Z 36,Z 37,Z 38,Z 39,Z 40,Z 41,Z 42,Z 43,Z 44,Z 45,Z 46,Z 47,Z 48,Z 49,Z 50,Z 51,Z 52,Z 53,Z 54,Z 55,Z 56,Z 57,Z 58,Z 59,Z 60,Z 61,Z 62,Z 63,Z 64,Z 65,Z 66,Z 67,Z 68,Z 69,Z 70,Z 71,Z 72,Z 73,Z 74,Z 75,Z 76,Z 77,Z 78,Z 79,Z 80,Z 81,Z 82,Z 83,Z 84,Z 85,Z 86]) [[.int .i64 (n : Int), .int .i64 (n : Int), .slice A1 L1.length q1, .int .i64 (n : Int), .int .i64 (m : Int), .slice A2 L2.length q2]] H5 V5 s ∧ V4.le V5 ∧ H5 g1 = some ⟨48, cells1, n * 3⟩ ∧ RowAt ratE V5 cells1 a ∧ H5 g2 = some ⟨48, cells2, m * 3⟩) ?_ ?_
 ·refine Gx.a (by kernel_rfl) fun K hK => ?_
  simp only [XA, XB]
  refine hK _ ?_
  clear hK
  refine XWP.block ?_
  refine XWP.loopD 1 (fun r s => ∃ (i : Nat) (V5 : View) (H5 : Heap) (cells1 : List Value), StIs (fun Z => [Z 0, .v (.slice A3 S.length q3), .v (.int .i64 1), .p 0 0, Z 4,Z 5,Z 6,Z 7,Z 8, .v (.slice (some ⟨g1, 0, none⟩) n n), .v (.slice (some ⟨g2, 0, none⟩) m m), Z 11,Z 12,Z 13,Z 14,Z 15,Z 16,Z 17,Z 18,Z 19,Z 20,Z 21,Z 22,Z 23,Z 24,Z 25,Z 26,Z 27,Z 28,Z 29,Z 30,Z 31,Z 32,Z 33,Z 34,Z 35,Z 36,Z 37,Z 38,Z 39, .v (.slice A3 S.length q3), .v (.int .i64 (S.length : Int)), .v (.int .i64 (i : Int)), Z 43,Z 44,Z 45,Z 46,Z 47,Z 48,Z 49,Z 50,Z 51,Z 52,Z 53,Z 54,Z 55,Z 56,Z 57,Z 58,Z 59,Z 60,Z 61,Z 62,Z 63,Z 64,Z 65,Z 66,Z 67,Z 68,Z 69,Z 70,Z 71,Z 72,Z 73,Z 74,Z 75,Z 76,Z 77,Z 78,Z 79,Z 80,Z 81,Z 82,Z 83,Z 84,Z 85,Z 86]) [[.int .i64 (n : Int), .int .i64 (n : Int), .slice A1 L1.length q1, .int .i64 (n : Int), .int .i64 (m : Int), .slice A2 L2.length q2]] H5 V5 s ∧ V4.le V5 ∧ r + i = n ∧ H5 g1 = some ⟨48, cells1, n * 3⟩ ∧ RowAt ratE V5 cells1 (mk n (fillf a i)) ∧ H5 g2 = some ⟨48, cells2, m * 3⟩) n ⟨0, V4, H4, cells1, StIs.of (by exact rfl), View.le_refl _, by omega, hg1, by rw [fillf_zero]; exact hrow1, hg2⟩ ?_
  clear hrow1 hg1 hg2
  rintro r s ⟨i, V5, H5, cells1, hs, hV5, hr, hg1, hrow1, hg2⟩
  obtain ⟨z, rfl⟩ := hs.out
  try dsimp only
  clear hs
  by_cases hi : i < n
  rotate_left
  ·obtain rfl : i = n := by omega
   have b1 : decide ((i : Int) < (S.length : Int)) = false := decide_eq_false (by omega)
   refine Gx.a (by kernel_rfl) fun K hK => ?_
   simp only [XA, XB, b1]
   refine hK _ ?_
   refine XWP.seq (Gx.f rfl ?_)
   refine XWP.exit ?_
   rw [fillf_all (by omega)] at hrow1
   exact fun f => ⟨V5, H5, cells1, StIs.of (by exact rfl), hV5, hg1, hrow1, hg2⟩
  have b1 : decide ((i : Int) < (S.length : Int)) = true := decide_eq_true (by omega)
  refine Gx.a (by kernel_rfl) fun K hK => ?_
  simp only [XA, XB, b1]
  refine hK _ ?_
  refine XWP.seq (Gx.t rfl ?_)
  refine XWP.skip ?_
  refine XWP.seq ?_
  refine XWP.block ?_
  have ha5 := ha.up (View.le_trans hV4 hV5)
  obtain ⟨b, o, rfl⟩ := SlAt.addr ha5 (by omega)
  obtain ⟨m3, n3, d3, hx3, ⟨p1, p2, p3⟩, hld3⟩ := Rats.get ha5 i (by omega)
  refine Gx.a (by kernel_rfl) fun K hK => ?_
  simp only [XA, XB]
  refine ⟨by omega, by omega, ld_mem (hld3 _) ?_⟩
  simp only [XA, XB]
  refine st_rat rfl rfl p1 p2 p3 ?_
  simp only [XA]
  refine hK _ ?_
  obtain ⟨m8, n8, d8, hx8, ⟨t1, t2, t3⟩, hld8⟩ := rowQ_load hg1 hrow1 i (by rw [mk_len]; exact hi)
  rw [cf_mk_lt hi, show fillf a i i = 0 from if_neg (by omega)] at hx8
  (refine XWP.drw1 [0, 1, 2, 3, 4, 5, 6, 7, 8, 9] (by kernel_rfl) (by kernel_rfl) (by kernel_rfl) fun K hK => ?_) <;> dsimp only [pickOps, List.getElem?_cons_zero, List.getElem?_cons_succ]
  simp only [XA, XB]
  refine ⟨by omega, by omega, ld_mem hld8 ?_⟩
  simp only [XA, XB, Nat.reduceAdd, Nat.reduceLeDiff, ↓reduceIte]
  refine call_go (by kernel_rfl) rfl (qadd_c _ _ _ _ _ hx8 hx3 QF_zero ((hS.at _).qf (by omega))) fun v6 V6 hV6 h6 => ?_
  rw [Rat.zero_add] at h6
  obtain ⟨x6, y6, rfl, o5, o6⟩ := h6.form
  have hrow6 := hrow1.mono ratE_ok hV6
  have hl6 := hrow6.1
  rw [mk_len] at hl6
  simp only [XA, XB]
  refine ⟨by omega, by omega, ?_⟩
  refine st_rowA shapeT_48 (all3 rfl o5 o6) rfl hg1 (by dsimp only; omega) ?_
  simp only [XA]
  refine hK _ ?_
  have hrow7 := hrow6.set i (by rw [mk_len]; exact hi) (show isOne (.bool (ng (cf a i))) = true from rfl) o5 o6 h6
  rw [fillf_set hi] at hrow7
  refine Gx.c (by kernel_rfl) fun K hK => ?_
  simp only [XA, XB, i64_succ i (by omega)]
  exact hK _ ⟨r - 1, by omega, fun f => ⟨i + 1, V6, _, _, StIs.of (by exact rfl), View.le_trans hV5 hV6, by omega, upd_at _ _ _, hrow7, (upd_off hne).trans hg2⟩⟩
 clear hrow1 hg1 hg2
 rintro s ⟨V5, H5, cells1, hs, hV5, hg1, hrow1, hg2⟩
 obtain ⟨z, rfl⟩ := hs.out
 try dsimp only
 clear hs
 have hrow2 := hrow2.mono ratE_ok hV5
 have hp := hp.up (View.le_trans hV4 hV5)
 have hq := hq.up (View.le_trans hV4 hV5)
 refine XWP.cutD 1 (fun s => ∃ (V6 : View) (H6 : Heap) (w : Value) (cs : List Value), StIs (fun Z => [Z 0, .v (.slice A3 S.length q3), .v (.int .i64 1), .p 0 0, Z 4,Z 5,Z 6,Z 7,Z 8, .v w, .v (.slice (some ⟨g2, 0, none⟩) m m), Z 11,Z 12,Z 13,Z 14,Z 15,Z 16,Z 17,Z 18,Z 19,Z 20,Z 21,Z 22,Z 23,Z 24,Z 25,Z 26,Z 27,Z 28,Z 29,Z 30,Z 31,Z 32,Z 33,Z 34,Z 35,Z 36,Z 37,Z 38,Z 39,Z 40,Z 41,Z 42,Z 43,Z 44,Z 45,Z 46,Z 47,Z 48,Z 49,Z 50,Z 51,Z 52,Z 53,Z 54,Z 55,Z 56,Z 57,Z 58,Z 59,Z 60,Z 61,Z 62,Z 63,Z 64,Z 65,Z 66,Z 67,Z 68,Z 69,Z 70,Z 71,Z 72,Z 73,Z 74,Z 75,Z 76,Z 77,Z 78,Z 79,Z 80,Z 81,Z 82,Z 83,Z 84,Z 85,Z 86]) [[.int .i64 (n : Int), .int .i64 (n : Int), .slice A1 L1.length q1, .int .i64 (n : Int), .int .i64 (m : Int), .slice A2 L2.length q2]] H6 V6 s ∧ Rats V6 w (thr a p n) ∧ H6 g2 = some ⟨48, cs, m * 3⟩ ∧ RowAt ratE V6 cs (thr a q m)) ?_ ?_
 ·refine Gx.a (by kernel_rfl) fun K hK => ?_
  simp only [XA]
  refine hK _ ?_
  clear hK
  refine XWP.block ?_
  refine XWP.loopD 1 (fun r s => (r = 1 ∧ StIs (fun Z => [Z 0, .v (.slice A3 S.length q3), .v (.int .i64 1), .p 0 0, Z 4,Z 5,Z 6,Z 7,Z 8, .v (.slice (some ⟨g1, 0, none⟩) n n), .v (.slice (some ⟨g2, 0, none⟩) m m), Z 11,Z 12,Z 13,Z 14,Z 15,Z 16,Z 17,Z 18,Z 19,Z 20,Z 21,Z 22,Z 23,Z 24,Z 25,Z 26,Z 27,Z 28,Z 29,Z 30,Z 31,Z 32,Z 33,Z 34,Z 35,Z 36,Z 37,Z 38,Z 39,Z 40,Z 41,Z 42,Z 43,Z 44,Z 45,Z 46,Z 47,Z 48,Z 49,Z 50,Z 51,Z 52,Z 53,Z 54,Z 55,Z 56, .v (.int .i64 1), .v (.int .i64 0), Z 59,Z 60,Z 61,Z 62,Z 63,Z 64,Z 65,Z 66,Z 67,Z 68,Z 69,Z 70,Z 71,Z 72,Z 73,Z 74,Z 75,Z 76,Z 77,Z 78,Z 79,Z 80,Z 81,Z 82,Z 83,Z 84,Z 85,Z 86]) [[.int .i64 (n : Int), .int .i64 (n : Int), .slice A1 L1.length q1, .int .i64 (n : Int), .int .i64 (m : Int), .slice A2 L2.length q2]] H5 V5 s) ∨ (r = 0 ∧ ∃ (V6 : View) (H6 : Heap) (w : Value) (cs : List Value), StIs (fun Z => [Z 0, .v (.slice A3 S.length q3), .v (.int .i64 1), .p 0 0, Z 4,Z 5,Z 6,Z 7,Z 8, .v w, .v (.slice (some ⟨g2, 0, none⟩) m m), Z 11,Z 12,Z 13,Z 14,Z 15,Z 16,Z 17,Z 18,Z 19,Z 20,Z 21,Z 22,Z 23,Z 24,Z 25,Z 26,Z 27,Z 28,Z 29,Z 30,Z 31,Z 32,Z 33,Z 34,Z 35,Z 36,Z 37,Z 38,Z 39,Z 40,Z 41,Z 42,Z 43,Z 44,Z 45,Z 46,Z 47,Z 48,Z 49,Z 50,Z 51,Z 52,Z 53,Z 54,Z 55,Z 56, .v (.int .i64 1), .v (.int .i64 1), Z 59,Z 60,Z 61,Z 62,Z 63,Z 64,Z 65,Z 66,Z 67,Z 68,Z 69,Z 70,Z 71,Z 72,Z 73,Z 74,Z 75,Z 76,Z 77,Z 78,Z 79,Z 80,Z 81,Z 82,Z 83,Z 84,Z 85,Z 86]) [[.int .i64 (n : Int), .int .i64 (n : Int), .slice A1 L1.length q1, .int .i64 (n : Int), .int .i64 (m : Int), .slice A2 L2.length q2]] H6 V6 s ∧ Rats V6 w (thr a p n) ∧ H6 g2 = some ⟨48, cs, m * 3⟩ ∧ RowAt ratE V6 cs (thr a q m))) 1 (.inl ⟨rfl, StIs.of (by exact rfl)⟩) ?_
  rintro r s (⟨rfl, hs⟩ | ⟨rfl, V6, H6, w, cs, hs, hw, hg, hrow⟩)
  rotate_left
  ·obtain ⟨z, rfl⟩ := hs.out
   try dsimp only
   refine Gx.a (by kernel_rfl) fun K hK => ?_
   simp only [XA, XB, b11]
   refine hK _ ?_
   refine XWP.seq (Gx.f rfl ?_)
   refine XWP.exit ?_
   exact fun f => ⟨V6, H6, w, cs, StIs.of (by exact rfl), hw, hg, hrow⟩
  obtain ⟨z, rfl⟩ := hs.out
  try dsimp only
  clear hs
  refine Gx.a (by kernel_rfl) fun K hK => ?_
  simp only [XA, XB, b01]
  refine hK _ ?_
  refine XWP.seq (Gx.t rfl ?_)
  refine XWP.skip ?_
  refine XWP.seq ?_
  refine XWP.block ?_
  clear hK
  refine XWP.cutD 1 (fun s => ∃ (V8 : View) (H8 : Heap) (cs : List Value), StIs (fun Z => [Z 0, .v (.slice A3 S.length q3), .v (.int .i64 1), .p 0 0, Z 4,Z 5,Z 6,Z 7,Z 8, .v (.slice (some ⟨g1, 0, none⟩) n n), .v (.slice (some ⟨g2, 0, none⟩) m m), Z 11,Z 12,Z 13,Z 14,Z 15,Z 16,Z 17,Z 18,Z 19,Z 20,Z 21,Z 22,Z 23,Z 24,Z 25,Z 26,Z 27,Z 28,Z 29,Z 30,Z 31,Z 32,Z 33,Z 34,Z 35,Z 36,Z 37,Z 38,Z 39,Z 40,Z 41,Z 42,Z 43,Z 44,Z 45,Z 46,Z 47,Z 48,Z 49,Z 50,Z 51,Z 52,Z 53,Z 54,Z 55,Z 56, .v (.int .i64 1), .v (.int .i64 0), Z 59,Z 60,Z 61,Z 62,Z 63,Z 64,Z 65,Z 66,Z 67,Z 68,Z 69,Z 70,Z 71,Z 72,Z 73,Z 74,Z 75,Z 76,Z 77,Z 78,Z 79,Z 80,Z 81,Z 82,Z 83,Z 84,Z 85,Z 86]) [[.int .i64 (n : Int), .int .i64 (n : Int), .slice A1 L1.length q1, .int .i64 (n : Int), .int .i64 (m : Int), .slice A2 L2.length q2]] H8 V8 s ∧ V5.le V8 ∧ Rats V8 (.slice (some ⟨g1, 0, none⟩) n n) a ∧ H8 g2 = some ⟨48, cs, m * 3⟩ ∧ RowAt ratE V8 cs (thr a q m)) ?_ ?_
  ·refine Gx.a (by kernel_rfl) fun K hK => ?_
   simp only [XM, XA, Nat.reduceAdd, Nat.reduceLeDiff, ↓reduceIte]
   refine call_pub g1 ⟨48, cells1, n * 3⟩ hg1 (fun ob hob hle => ?_) (by kernel_rfl) rfl
   have hat : Rats _ _ a := hrow1.pub ratE_ok hob hle (n := n) (c := n) (by omega) (Nat.le_refl _) (by omega)
   refine call_go (by kernel_rfl) rfl (cthrough_c _ _ _ a q n m C B hat (hq.up hle) lq (by omega) hm hS hB (by omega)) fun v7 V7 hV7 h7 => ?_
   have hg2' := (upd_off (r := none) hne).trans hg2
   generalize upd H5 g1 none = H7 at *
   have hat := hat.up hV7
   have h57 := View.le_trans hle hV7
   have hrow2 := hrow2.mono ratE_ok h57
   obtain ⟨A7, c7, rfl, _, _⟩ := h7.form
   simp only [XA, XB]
   refine hK _ ?_
   clear hK
   refine XWP.block ?_
   refine XWP.loopD 1 (fun r s => ∃ (k : Nat) (V8 : View) (H8 : Heap) (cs : List Value), StIs (fun Z => [Z 0, .v (.slice A3 S.length q3), .v (.int .i64 1), .p 0 0, Z 4,Z 5,Z 6,Z 7,Z 8, .v (.slice (some ⟨g1, 0, none⟩) n n), .v (.slice (some ⟨g2, 0, none⟩) m m), Z 11,Z 12,Z 13,Z 14,Z 15,Z 16,Z 17,Z 18,Z 19,Z 20,Z 21,Z 22,Z 23,Z 24,Z 25,Z 26,Z 27,Z 28,Z 29,Z 30,Z 31,Z 32,Z 33,Z 34,Z 35,Z 36,Z 37,Z 38,Z 39,Z 40,Z 41,Z 42,Z 43,Z 44,Z 45,Z 46,Z 47,Z 48,Z 49,Z 50,Z 51,Z 52,Z 53,Z 54,Z 55,Z 56, .v (.int .i64 1), .v (.int .i64 0), Z 59,Z 60,Z 61,Z 62, .v (.slice A7 (thr a q m).length c7), .v (.int .i64 ((thr a q m).length : Int)), .v (.int .i64 (k : Int)), Z 66,Z 67,Z 68,Z 69,Z 70,Z 71,Z 72,Z 73,Z 74,Z 75,Z 76,Z 77,Z 78,Z 79,Z 80,Z 81,Z 82,Z 83,Z 84,Z 85,Z 86]) [[.int .i64 (n : Int), .int .i64 (n : Int), .slice A1 L1.length q1, .int .i64 (n : Int), .int .i64 (m : Int), .slice A2 L2.length q2]] H8 V8 s ∧ V7.le V8 ∧ r + k = m ∧ H8 g2 = some ⟨48, cs, m * 3⟩ ∧ RowAt ratE V8 cs (mk m (fillf (thr a q m) k))) m ⟨0, V7, H7, cells2, StIs.of (by exact rfl), View.le_refl _, by omega, hg2', by rw [fillf_zero]; exact hrow2⟩ ?_
   clear hg2' hrow2
   rintro r s ⟨k, V8, H8, cs, hs, hV8, hr, hg, hrow⟩
   obtain ⟨z, rfl⟩ := hs.out
   try dsimp only
   clear hs
   by_cases hk : k < m
   rotate_left
   ·obtain rfl : k = m := by omega
    have b1 : decide ((k : Int) < ((thr a q k).length : Int)) = false := decide_eq_false (by omega)
    refine Gx.a (by kernel_rfl) fun K hK => ?_
    simp only [XA, XB, b1]
    refine hK _ ?_
    refine XWP.seq (Gx.f rfl ?_)
    refine XWP.exit ?_
    rw [fillf_all mW] at hrow
    exact fun f => ⟨V8, H8, cs, StIs.of (by exact rfl), View.le_trans h57 hV8, hat.up hV8, hg, hrow⟩
   have b1 : decide ((k : Int) < ((thr a q m).length : Int)) = true := decide_eq_true (by omega)
   refine Gx.a (by kernel_rfl) fun K hK => ?_
   simp only [XA, XB, b1]
   refine hK _ ?_
   refine XWP.seq (Gx.t rfl ?_)
   refine XWP.skip ?_
   refine XWP.seq ?_
   refine XWP.block ?_
   have hw8 := h7.up hV8
   obtain ⟨b, o, rfl⟩ := SlAt.addr hw8 (by omega)
   obtain ⟨m3, n3, d3, hx3, ⟨p1, p2, p3⟩, hld3⟩ := Rats.get hw8 k (by omega)
   refine Gx.a (by kernel_rfl) fun K hK => ?_
   simp only [XA, XB]
   refine ⟨by omega, by omega, ld_mem (hld3 _) ?_⟩
   simp only [XA, XB]
   refine st_rat rfl rfl p1 p2 p3 ?_
   simp only [XA]
   refine hK _ ?_
   obtain ⟨m8, n8, d8, hx8, ⟨t1, t2, t3⟩, hld8⟩ := rowQ_load hg hrow k (by rw [mk_len]; exact hk)
   rw [cf_mk_lt hk, show fillf (thr a q m) k k = 0 from if_neg (by omega)] at hx8
   (refine XWP.drw1 [0, 1, 2, 3, 4, 5, 6, 7, 8, 9] (by kernel_rfl) (by kernel_rfl) (by kernel_rfl) fun K hK => ?_) <;> dsimp only [pickOps, List.getElem?_cons_zero, List.getElem?_cons_succ]
   simp only [XA, XB]
   refine ⟨by omega, by omega, ld_mem hld8 ?_⟩
   simp only [XA, XB, Nat.reduceAdd, Nat.reduceLeDiff, ↓reduceIte]
   refine call_go (by kernel_rfl) rfl (qadd_c _ _ _ _ _ hx8 hx3 QF_zero ((cW.at _).qf (by omega))) fun v9 V9 hV9 h9 => ?_
   rw [Rat.zero_add] at h9
   obtain ⟨x9, y9, rfl, o5, o6⟩ := h9.form
   have hrow9 := hrow.mono ratE_ok hV9
   have hl9 := hrow9.1
   rw [mk_len] at hl9
   simp only [XA, XB]
   refine ⟨by omega, by omega, ?_⟩
   refine st_rowA shapeT_48 (all3 rfl o5 o6) rfl hg (by dsimp only; omega) ?_
   simp only [XA]
   refine hK _ ?_
   have hrow10 := hrow9.set k (by rw [mk_len]; exact hk) (show isOne (.bool (ng (cf (thr a q m) k))) = true from rfl) o5 o6 h9
   rw [fillf_set hk] at hrow10
   refine Gx.c (by kernel_rfl) fun K hK => ?_
   simp only [XA, XB, i64_succ k (by omega)]
   exact hK _ ⟨r - 1, by omega, fun f => ⟨k + 1, V9, _, _, StIs.of (by exact rfl), View.le_trans hV8 hV9, by omega, upd_at _ _ _, hrow10⟩⟩
  rintro s ⟨V8, H8, cs, hs, hV8, hat, hg, hrow⟩
  obtain ⟨z, rfl⟩ := hs.out
  try dsimp only
  clear hs
  refine Gx.c (by kernel_rfl) fun K hK => ?_
  simp only [XM, XA, Nat.reduceAdd, Nat.reduceLeDiff, ↓reduceIte]
  refine call_go (by kernel_rfl) rfl (cthrough_c _ _ _ a p n n C A hat (hp.up hV8) lp (by omega) hn hS hA (by omega)) fun v9 V9 hV9 h9 => ?_
  simp only [XA]
  refine hK _ ?_
  refine Gx.c (by kernel_rfl) fun K hK => ?_
  simp only [XA, XB, w01]
  exact hK _ ⟨0, by omega, fun f => .inr ⟨rfl, V9, H8, v9, cs, StIs.of (by exact rfl), h9, hg, hrow.mono ratE_ok hV9⟩⟩
 rintro s ⟨V6, H6, w, cs, hs, hw, hg, hrow⟩
 obtain ⟨z, rfl⟩ := hs.out
 try dsimp only
 refine Gx.a (by kernel_rfl) fun K hK => ?_
 simp only [XA]
 refine hK _ (XWP.ret ?_)
 try simp only [thenX_ret, inBlockX_ret]
 refine ret_pub g2 _ hg fun o ho hle' => ret_go _ rfl ⟨_, _, rfl, hw.up hle', ?_⟩
 exact hrow.pub ratE_ok ho hle' mW (Nat.le_refl _) (by omega)
end Go.Proofs.YthoboehbadmlmaaGreat
end
section
namespace Go.Proofs.YthoboehbadmlmaaGreat
def stepv (a p : List Rat) (n : Nat) : Nat → List Rat
 | 0 => a
 | k + 1 => thr (stepv a p n k) p n
def endsL (a p q : List Rat) (n m x N : Nat) : List Rat := mk N fun k => cf (thr (stepv a p n k) q m) x
theorem stepv_len {a p : List Rat} {n : Nat} (h : a.length = n) : ∀ k, (stepv a p n k).length = n
 | 0 => h
 | _ + 1 => thr_len _ _ _
theorem stepv_CB {a p : List Rat} {n A C : Nat} (h : a.length = n) (hp : CB A p) (ha : CB C a) : ∀ k, CB (C + k * (A + n)) (stepv a p n k)
 | 0 => ha.mono (by omega)
 | k + 1 => by
  have := thr_CB (stepv_CB h hp ha k) hp n
  rw [stepv_len h] at this
  refine CB.mono this ?_
  rw [Nat.add_mul]; omega
theorem rowsB_nn {n m : Nat} {p q : List Rat} (h : rowsB n m p q n = true) : (∀ i k, i < n → k < n → 0 ≤ cf p (i * n + k)) ∧ (∀ i k, i < n → k < m → 0 ≤ cf q (i * m + k)) := by
 refine ⟨fun i k hi hk => ?_, fun i k hi hk => ?_⟩
 ·have := rowsB_get h i hi
  unfold rowB at this
  rw [Bool.and_eq_true, Bool.and_eq_true] at this
  exact (ng_iff _).1 (nnB_get this.1.1 k hk)
 ·have := rowsB_get h i hi
  unfold rowB at this
  rw [Bool.and_eq_true, Bool.and_eq_true] at this
  exact (ng_iff _).1 (nnB_get this.1.2 k hk)
theorem thr_nn {a M : List Rat} {c n : Nat} (hn : a.length = n) (ha : ∀ j, j < n → 0 ≤ cf a j) (hM : ∀ i k, i < n → k < c → 0 ≤ cf M (i * c + k)) : ∀ k, k < c → 0 ≤ cf (thr a M c) k := fun k hk => by
 unfold thr
 rw [cf_mk, if_pos hk]
 exact tS_nn k _ (fun j hj => ha j (by omega)) fun j hj => hM j k (by omega) hk
theorem stepv_nn {a p : List Rat} {n : Nat} (h : a.length = n) (ha : ∀ j, j < n → 0 ≤ cf a j) (hp : ∀ i k, i < n → k < n → 0 ≤ cf p (i * n + k)) : ∀ k j, j < n → 0 ≤ cf (stepv a p n k) j
 | 0, j, hj => ha j hj
 | k + 1, j, hj => thr_nn (stepv_len h k) (stepv_nn h ha hp k) hp j hj
theorem endsL_len (a p q : List Rat) (n m x N : Nat) : (endsL a p q n m x N).length = N := mk_len _ _
theorem endsL_succ (a p q : List Rat) (n m x N : Nat) : endsL a p q n m x (N + 1) = endsL a p q n m x N ++ [cf (thr (stepv a p n N) q m) x] := by
 unfold endsL mk
 rw [List.range_succ, List.map_append]; rfl
end Go.Proofs.YthoboehbadmlmaaGreat
end
section
namespace Go.Proofs.YthoboehbadmlmaaGreat
open Go Go.RowKit
attribute [local irreducible] XWP Spec SpecO XPub XCall seqX clX apX stX ldX iaX slX
def endsE (r1 c1 : Int) (L1 : List Raw) (r2 c2 : Int) (L2 S : List Raw) (x N : Int) : Int :=
 if chB r1 c1 L1 r2 c2 L2 = false ∨ wtB r1 S = false ∨ x < 0 ∨ c2 ≤ x ∨ N < 0 then 1 else if 400 < N then 2 else 0
theorem endsE_zero {r1 c1 r2 c2 : Int} {L1 L2 S : List Raw} {x N : Int} (h : endsE r1 c1 L1 r2 c2 L2 S x N = 0) : chB r1 c1 L1 r2 c2 L2 = true ∧ wtB r1 S = true ∧ 0 ≤ x ∧ x < c2 ∧ 0 ≤ N ∧ N ≤ 400 := by
 unfold endsE at h
 split at h
 ·cases h
 ·rename_i h1
  split at h
  ·cases h
  ·refine ⟨?_, ?_, by omega, by omega, by omega, by omega⟩
   ·cases hk : chB r1 c1 L1 r2 c2 L2
    ·exact absurd (.inl hk) h1
    ·rfl
   ·cases hk : wtB r1 S
    ·exact absurd (.inr (.inl hk)) h1
    ·rfl
theorem wtB_parts {n : Nat} {S : List Raw} (h : wtB n S = true) : (qs S).length = n ∧ okR S = true ∧ ∀ j, j < n → 0 ≤ cf (qs S) j := by
 unfold wtB at h
 rw [Bool.and_eq_true, decide_eq_true_eq] at h
 obtain ⟨h1, h2⟩ := wtsR_ok h.2
 exact ⟨by rw [qs_len]; omega, h1, fun j hj => (ng_iff _).1 (h2 j (by omega))⟩
theorem wtB_raw {n : Nat} {l : List Rat} (h : l.length = n) (hn : ∀ j, j < n → 0 ≤ cf l j) : wtB n (l.map toRaw) = true := by
 unfold wtB wtsR
 rw [List.length_map, decide_eq_true (by omega), Bool.true_and, List.all_eq_true]
 intro r hr
 obtain ⟨y, hy, rfl⟩ := List.mem_map.1 hr
 obtain ⟨i, hi, rfl⟩ := List.mem_iff_getElem.1 hy
 unfold wtR
 rw [toRaw_ok, toRaw_q, cf_get hi, (ng_iff _).2 (hn i (by omega))]; rfl
theorem cends_c (V : View) (s1 s2 v : Value) (r1 c1 r2 c2 : Int) (L1 L2 S : List Raw) (x N : Int) (h1 : Raws V s1 L1) (h2 : Raws V s2 L2) (hv : Raws V v S) (f1 : fitR L1) (f2 : fitR L2) (f3 : fitR S) (l1 : L1.length ≤ 1000000) (l2 : L2.length ≤ 1000000) (l3 : S.length ≤ 1000000) (A B M : Nat)
    (hA : okR L1 = true → CB A (qs L1)) (hB : okR L2 = true → CB B (qs L2)) (hS : endsE r1 c1 L1 r2 c2 L2 S x N = 0 → ∀ k, k ≤ N.toNat → CB M (stepv (qs S) (qs L1) r1.toNat k)) (hfit : 2 * (A + B) + M + 400 ≤ 17592186044416) :
    Spec Tryz.prog 27 [.agg #[.int .i64 r1, .int .i64 c1, s1, .int .i64 r2, .int .i64 c2, s2], v, .int .i64 x, .int .i64 N] V fun v' V' => (endsE r1 c1 L1 r2 c2 L2 S x N ≠ 0 → v' = .tuple #[.slice none 0 0, .int .i64 (endsE r1 c1 L1 r2 c2 L2 S x N)]) ∧ (endsE r1 c1 L1 r2 c2 L2 S x N = 0 → ∃ w, v' = .tuple #[w, .int .i64 0] ∧ Rats V' w (endsL (qs S) (qs L1) (qs L2) r1.toNat c2.toNat x.toNat N.toNat)) := by
  obtain ⟨A1, q1, rfl, _, _⟩ := h1.form
  obtain ⟨A2, q2, rfl, _, _⟩ := h2.form
  obtain ⟨A3, q3, rfl, _, _⟩ := hv.form
  refine (Spec.enter Tryz.func27 rfl fun Γ => ?_)
  simp only [Tryz.ntmps27, List.map_cons, List.map_nil, List.length_cons, List.length_nil, Nat.reduceAdd, Nat.reduceSub, List.replicate_succ, List.replicate_zero, List.cons_append, List.nil_append]
  refine Gx.a (by kernel_rfl) fun K hK => ?_
  simp only [XA]
  refine hK _ ?_
  refine XWP.cut (fun s => ∃ (V1 : View), StIs (fun Z => [Z 0, .v (.slice A3 S.length q3), .v (.int .i64 x), .v (.int .i64 N), .p 0 0, Z 5,Z 6,Z 7,Z 8,Z 9,Z 10,Z 11,Z 12,Z 13,Z 14,Z 15,Z 16,Z 17,Z 18,Z 19,Z 20,Z 21,Z 22,Z 23,Z 24,Z 25,Z 26,Z 27,Z 28,Z 29,Z 30,Z 31,Z 32,Z 33,Z 34,Z 35,Z 36,Z 37,Z 38,Z 39,Z 40,Z 41,Z 42,Z 43,Z 44,Z 45,Z 46,Z 47,Z 48,Z 49,Z 50,Z 51,Z 52,Z 53,Z 54,Z 55,Z 56,Z 57,Z 58,Z 59,Z 60,Z 61,Z 62,Z 63,Z 64]) [[.int .i64 r1, .int .i64 c1, .slice A1 L1.length q1, .int .i64 r2, .int .i64 c2, .slice A2 L2.length q2]] (fun _ => none) V1 s ∧ V.le V1 ∧ endsE r1 c1 L1 r2 c2 L2 S x N = 0) ?_ ?_
  · refine XWP.block ?_
    refine XWP.seq ?_
    refine Gx.c (by kernel_rfl) fun K hK => ?_
    simp only [XM, XA, Nat.reduceAdd, Nat.reduceLeDiff, ↓reduceIte]
    refine call_go (by kernel_rfl) rfl (cchright_c _ _ _ r1 c1 r2 c2 L1 L2 h1 h2 f1 f2 l1 l2 A B hA hB (by omega)) fun v1 V1 hV1 g1 => ?_
    subst g1
    by_cases g0 : chB r1 c1 L1 r2 c2 L2 = false ∨ wtB r1 S = false ∨ x < 0 ∨ c2 ≤ x ∨ N < 0
    · have eE : endsE r1 c1 L1 r2 c2 L2 S x N = 1 := by unfold endsE; rw [if_pos g0]
      cases e1 : chB r1 c1 L1 r2 c2 L2
      · simp only [XA, gateX, ↓reduceIte]
        refine hK _ ?_
        refine Gx.t rfl ?_
        refine Gx.a (by kernel_rfl) fun K hK => ?_
        simp only [XA]
        refine hK _ (XWP.ret ?_)
        try simp only [thenX_ret, inBlockX_ret]
        refine ret_go _ rfl ?_
        exact ⟨fun _ => by rw [eE]; rfl, fun h => by rw [eE] at h; cases h⟩
      simp only [XM, XA, gateX, Nat.reduceAdd, Nat.reduceLeDiff, ↓reduceIte, beq_self_eq_true]
      refine call_go (by kernel_rfl) rfl (cweights_c _ _ _ _ r1 c1 r2 c2 S rfl rfl (hv.up hV1) f3 l3) fun v2 V2 hV2 g2 => ?_
      subst g2
      cases e2 : wtB r1 S
      · simp only [XA, gateX, ↓reduceIte, beq_self_eq_true]
        refine hK _ ?_
        refine Gx.t rfl ?_
        refine Gx.a (by kernel_rfl) fun K hK => ?_
        simp only [XA]
        refine hK _ (XWP.ret ?_)
        try simp only [thenX_ret, inBlockX_ret]
        refine ret_go _ rfl ?_
        exact ⟨fun _ => by rw [eE]; rfl, fun h => by rw [eE] at h; cases h⟩
      by_cases d1 : x < 0
      · have b1 : decide (x < 0) = true := decide_eq_true d1
        simp only [XA, XB, gateX, ↓reduceIte, beq_self_eq_true, b1]
        refine hK _ ?_
        refine Gx.t rfl ?_
        refine Gx.a (by kernel_rfl) fun K hK => ?_
        simp only [XA]
        refine hK _ (XWP.ret ?_)
        try simp only [thenX_ret, inBlockX_ret]
        refine ret_go _ rfl ?_
        exact ⟨fun _ => by rw [eE]; rfl, fun h => by rw [eE] at h; cases h⟩
      have b1 : decide (x < 0) = false := decide_eq_false d1
      by_cases d2 : c2 ≤ x
      · have b2 : decide (c2 ≤ x) = true := decide_eq_true d2
        simp only [XM, XA, XB, gateX, Nat.reduceAdd, ↓reduceIte, beq_self_eq_true, b1, b2]
        refine hK _ ?_
        refine Gx.t rfl ?_
        refine Gx.a (by kernel_rfl) fun K hK => ?_
        simp only [XA]
        refine hK _ (XWP.ret ?_)
        try simp only [thenX_ret, inBlockX_ret]
        refine ret_go _ rfl ?_
        exact ⟨fun _ => by rw [eE]; rfl, fun h => by rw [eE] at h; cases h⟩
      have b2 : decide (c2 ≤ x) = false := decide_eq_false d2
      have b3 : decide (N < 0) = true := decide_eq_true (by rcases g0 with h | h | h | h | h; · rw [e1] at h; cases h
                                                            · rw [e2] at h; cases h
                                                            · exact absurd h d1
                                                            · exact absurd h d2
                                                            · exact h)
      simp only [XM, XA, XB, gateX, Nat.reduceAdd, ↓reduceIte, beq_self_eq_true, b1, b2, b3]
      refine hK _ ?_
      refine Gx.t rfl ?_
      refine Gx.a (by kernel_rfl) fun K hK => ?_
      simp only [XA]
      refine hK _ (XWP.ret ?_)
      try simp only [thenX_ret, inBlockX_ret]
      refine ret_go _ rfl ?_
      exact ⟨fun _ => by rw [eE]; rfl, fun h => by rw [eE] at h; cases h⟩
    have e1 : chB r1 c1 L1 r2 c2 L2 = true := by
      cases hk : chB r1 c1 L1 r2 c2 L2
      · exact absurd (.inl hk) g0
      · rfl
    have e2 : wtB r1 S = true := by
      cases hk : wtB r1 S
      · exact absurd (.inr (.inl hk)) g0
      · rfl
    have b1 : decide (x < 0) = false := decide_eq_false (by omega)
    have b2 : decide (c2 ≤ x) = false := decide_eq_false (by omega)
    have b3 : decide (N < 0) = false := decide_eq_false (by omega)
    rw [e1]
    simp only [XM, XA, gateX, Nat.reduceAdd, Nat.reduceLeDiff, ↓reduceIte, beq_self_eq_true]
    refine call_go (by kernel_rfl) rfl (cweights_c _ _ _ _ r1 c1 r2 c2 S rfl rfl (hv.up hV1) f3 l3) fun v2 V2 hV2 g2 => ?_
    subst g2
    rw [e2]
    simp only [XM, XA, XB, gateX, Nat.reduceAdd, ↓reduceIte, beq_self_eq_true, b1, b2, b3]
    refine hK _ ?_
    refine Gx.f rfl ?_
    by_cases g1 : 400 < N
    · have eE : endsE r1 c1 L1 r2 c2 L2 S x N = 2 := by unfold endsE; rw [if_neg g0, if_pos g1]
      have b4 : decide (400 < N) = true := decide_eq_true g1
      refine Gx.a (by kernel_rfl) fun K hK => ?_
      simp only [XA, XB, b4]
      refine hK _ ?_
      refine Gx.t rfl ?_
      refine Gx.a (by kernel_rfl) fun K hK => ?_
      simp only [XA]
      refine hK _ (XWP.ret ?_)
      try simp only [thenX_ret, inBlockX_ret]
      refine ret_go _ rfl ?_
      exact ⟨fun _ => by rw [eE]; rfl, fun h => by rw [eE] at h; cases h⟩
    have b4 : decide (400 < N) = false := decide_eq_false g1
    refine Gx.a (by kernel_rfl) fun K hK => ?_
    simp only [XA, XB, b4]
    refine hK _ ?_
    refine Gx.f rfl ?_
    refine XWP.skip ?_
    exact ⟨V2, StIs.of (by exact rfl), View.le_trans hV1 hV2, by unfold endsE; rw [if_neg g0, if_neg g1]⟩
  rintro s ⟨V1, hs, hV1, he⟩
  obtain ⟨z, rfl⟩ := hs.out
  try dsimp only
  clear hs
  obtain ⟨hC, hW, x0, x1, n0, n1⟩ := endsE_zero he
  have hst := hS he
  obtain ⟨n, m, rfl, rfl, rfl, rfl, hn, hm, k1, k2, o1, o2, hR⟩ := chB_inv hC
  obtain ⟨N, rfl⟩ : ∃ k : Nat, N = k := ⟨N.toNat, by omega⟩
  obtain ⟨x, rfl⟩ : ∃ k : Nat, x = k := ⟨x.toNat, by omega⟩
  obtain ⟨ea, o3, ha⟩ := wtB_parts hW
  obtain ⟨hpn, hqn⟩ := rowsB_nn hR
  have hA := hA o1
  have hB := hB o2
  simp only [Int.toNat_natCast] at hst ⊢
  have h1 := h1.up hV1
  have h2 := h2.up hV1
  have hv := hv.up hV1
  generalize endsE n n L1 n m L2 S x N = E at he ⊢
  refine Gx.a (by kernel_rfl) fun K hK => ?_
  refine bs_go (by kernel_rfl) #[] (by simp) (bs_zero elemT_22 zeroT_48) fun b hb1 hb2 => ?_
  simp only [XA]
  refine hK _ ?_
  refine Gx.a (by kernel_rfl) fun K hK => ?_
  simp only [XA]
  refine hK _ ?_
  refine XWP.cutD 1 (fun s => ∃ (V6 : View) (H6 : Heap) (w : Value) (cells : List Value), StIs (fun Z => [Z 0,Z 1,Z 2,Z 3,Z 4,Z 5,Z 6,Z 7,Z 8,Z 9, .v w, Z 11,Z 12,Z 13,Z 14,Z 15,Z 16,Z 17,Z 18,Z 19,Z 20,Z 21,Z 22,Z 23,Z 24,Z 25,Z 26,Z 27,Z 28,Z 29,Z 30,Z 31,Z 32,Z 33,Z 34,Z 35,Z 36,Z 37,Z 38,Z 39,Z 40,Z 41,Z 42,Z 43,Z 44,Z 45,Z 46,Z 47,Z 48,Z 49,Z 50,Z 51,Z 52,Z 53,Z 54,Z 55,Z 56,Z 57,Z 58,Z 59,Z 60,Z 61,Z 62,Z 63,Z 64]) [[.int .i64 (n : Int), .int .i64 (n : Int), .slice A1 L1.length q1, .int .i64 (n : Int), .int .i64 (m : Int), .slice A2 L2.length q2]] H6 V6 s ∧ Own H6 48 3 w N cells ∧ RowAt ratE V6 cells (endsL (qs S) (qs L1) (qs L2) n m x N)) ?_ ?_
  · refine Gx.a (by kernel_rfl) fun K hK => ?_
    simp only [XA]
    refine hK _ ?_
    clear hK
    refine XWP.block ?_
    refine XWP.loopD 1 (fun r s => ∃ (i : Nat) (V6 : View) (H6 : Heap) (w u : Value) (cells : List Value), StIs (fun Z => [Z 0, Z 1, .v (.int .i64 (x : Int)), Z 3, .p 0 0, Z 5,Z 6,Z 7,Z 8,Z 9, .v w, .v u, Z 12,Z 13,Z 14,Z 15,Z 16,Z 17,Z 18,Z 19,Z 20,Z 21,Z 22,Z 23,Z 24,Z 25,Z 26,Z 27,Z 28,Z 29,Z 30,Z 31,Z 32,Z 33,Z 34,Z 35,Z 36,Z 37,Z 38,Z 39,Z 40,Z 41,Z 42,Z 43,Z 44, .v (.int .i64 (N : Int)), .v (.int .i64 (i : Int)), Z 47,Z 48,Z 49,Z 50,Z 51,Z 52,Z 53,Z 54,Z 55,Z 56,Z 57,Z 58,Z 59,Z 60,Z 61,Z 62,Z 63,Z 64]) [[.int .i64 (n : Int), .int .i64 (n : Int), .slice A1 L1.length q1, .int .i64 (n : Int), .int .i64 (m : Int), .slice A2 L2.length q2]] H6 V6 s ∧ V1.le V6 ∧ r + i = N ∧ Rats V6 u (stepv (qs S) (qs L1) n i) ∧ Own H6 48 3 w i cells ∧ RowAt ratE V6 cells (endsL (qs S) (qs L1) (qs L2) n m x i)) N ⟨0, V1, _, _, _, [], StIs.of (by exact rfl), View.le_refl _, by omega, Raws.rats hv o3, own3 (by simp [upd]) rfl (Nat.le_refl _) (by omega), RowAt.nil _⟩ ?_
    rintro r s ⟨i, V6, H6, w, u, cells, hs, hV6, hr, hu, hown, hrow⟩
    obtain ⟨z, rfl⟩ := hs.out
    try dsimp only
    clear hs
    by_cases hi : i < N
    rotate_left
    · obtain rfl : i = N := by omega
      have b2 : decide ((i : Int) < (i : Int)) = false := decide_eq_false (by omega)
      refine Gx.a (by kernel_rfl) fun K hK => ?_
      simp only [XA, XB, b2]
      refine hK _ ?_
      refine XWP.seq (Gx.f rfl ?_)
      refine XWP.exit ?_
      exact fun f => ⟨V6, H6, w, cells, StIs.of (by exact rfl), hown, hrow⟩
    have b2 : decide ((i : Int) < (N : Int)) = true := decide_eq_true (by omega)
    refine Gx.a (by kernel_rfl) fun K hK => ?_
    simp only [XA, XB, b2]
    refine hK _ ?_
    refine XWP.seq (Gx.t rfl ?_)
    refine XWP.skip ?_
    refine XWP.seq ?_
    refine XWP.block ?_
    have hsl := stepv_len (p := qs L1) ea i
    have hcs := hst i (by omega)
    have hW6 : wtB n ((stepv (qs S) (qs L1) n i).map toRaw) = true := wtB_raw hsl (stepv_nn ea ha hpn i)
    have hcf : fitR ((stepv (qs S) (qs L1) n i).map toRaw) := hcs.fitR (by omega)
    have hcq : CB M (qs ((stepv (qs S) (qs L1) n i).map toRaw)) := by rw [qs_toRaw]; exact hcs
    refine Gx.a (by kernel_rfl) fun K hK => ?_
    simp only [XM, XA, Nat.reduceAdd, Nat.reduceLeDiff, ↓reduceIte]
    refine call_go (by kernel_rfl) rfl (cafter_c _ _ _ _ n m L1 L2 _ (h1.up hV6) (h2.up hV6) (Rats.raws hu) f1 f2 hcf hC hW6 A B M hA hB hcq (by omega)) fun v7 V7 hV7 h7 => ?_
    obtain ⟨w7, u7, rfl, hw7, hu7⟩ := h7
    rw [qs_toRaw] at hw7 hu7
    simp only [XA]
    refine hK _ ?_
    have lt := thr_len (stepv (qs S) (qs L1) n i) (qs L2) m
    obtain ⟨A7, c7, rfl, _, _⟩ := hu7.form
    obtain ⟨b', o', rfl⟩ := SlAt.addr hu7 (by omega)
    obtain ⟨m3, n3, d3, hx3, ⟨p1, p2, p3⟩, hld3⟩ := Rats.get hu7 x (by omega)
    refine Gx.c (by kernel_rfl) fun K hK => ?_
    simp only [XA, XB]
    refine ⟨by omega, by omega, ld_mem (hld3 _) ?_⟩
    simp only [XA]
    refine bs_go (by kernel_rfl) #[(0, .agg #[m3, n3, d3])] (by simp [ev_tmp, SV.val]) (bs_rat elemT_22) fun b3 hb3 hb4 => ?_
    simp only [XA, Nat.reduceAdd]
    refine ap_go elemT_22 (by kernel_rfl) zeroT_48 rfl (by omega) (own_upd hown hb3) (src3 (upd_at _ _ _) p1 p2 p3) (by omega) (by omega) fun v' H' hres => ?_
    simp only [XA]
    refine hK _ ?_
    refine Gx.c (by kernel_rfl) fun K hK => ?_
    simp only [XA, XB, i64_succ i (by omega)]
    have hrow' := (hrow.mono ratE_ok hV7).snoc p1 p2 p3 hx3
    rw [← endsL_succ] at hrow'
    exact hK _ ⟨r - 1, by omega, fun f => ⟨i + 1, V7, _, _, _, _, StIs.of (by exact rfl), View.le_trans hV6 hV7, by omega, hw7, hres.1, hrow'⟩⟩
  rintro s ⟨V6, H6, w, cells, hs, hown, hrow⟩
  obtain ⟨z, rfl⟩ := hs.out
  try dsimp only
  have ll := endsL_len (qs S) (qs L1) (qs L2) n m x N
  refine Gx.a (by kernel_rfl) fun K hK => ?_
  simp only [XA]
  refine hK _ (XWP.ret ?_)
  try simp only [thenX_ret, inBlockX_ret]
  rcases own_parts hown with ⟨rfl, hn0, rfl⟩ | ⟨g, cap, rfl, hg, hle, hcap, _⟩
  · refine ret_go _ rfl ⟨fun h => absurd he h, fun _ => ⟨_, rfl, ?_⟩⟩
    rw [List.length_eq_zero_iff.1 (ll.trans hn0)]; exact SlAt.nil _
  · refine ret_pub g _ hg fun o ho hle' => ret_go _ rfl ⟨fun h => absurd he h, fun _ => ⟨_, rfl, ?_⟩⟩
    exact hrow.pub ratE_ok ho hle' ll hle (by unfold maxLen at hcap; omega)
end Go.Proofs.YthoboehbadmlmaaGreat
end
section
namespace Go.Proofs.YthoboehbadmlmaaGreat
theorem mk_eq {m : Nat} {f g : Nat → Rat} (h : ∀ j, j < m → f j = g j) : mk m f = mk m g := by
 unfold mk
 exact List.map_congr_left fun j hj => h j (List.mem_range.1 hj)
theorem mk_put {m j : Nat} {f : Nat → Rat} {x : Rat} (hj : j < m) : (mk m f).set j x = mk m (fun c => if c = j then x else f c) := by
 unfold mk
 refine List.ext_getElem? fun i => ?_
 by_cases hi : i < m
 ·by_cases e : j = i
  ·subst e
   rw [List.getElem?_set_self (by simpa using hi)]
   simp [hi]
  ·rw [List.getElem?_set_ne e]
   simp only [List.getElem?_map, List.getElem?_range hi, Option.map_some]
   rw [if_neg (fun e' => e e'.symm)]
 ·rw [List.getElem?_eq_none (by simp; omega), List.getElem?_eq_none (by simp; omega)]
end Go.Proofs.YthoboehbadmlmaaGreat
end
section
namespace Go.Proofs.YthoboehbadmlmaaGreat
open Go Go.RowKit
attribute [local irreducible] XWP Spec SpecO XPub XCall seqX clX apX stX ldX iaX slX
theorem st_one {P : Program} {t i off : Nat} {s : XS} {ops : Array Oper} {rest : List Oper} {K : XS → Prop} {d : Option Tmp} {v : Value} {vs : List Value} (hs : shapeT P t = some (false, 1)) (hb : s.bx[i]? = some vs) (h1 : isOne v = true) (hl : off < vs.length) (h : seqX P ops rest K (XS.put ⟨s.t, s.bx.set i (vs.set off v), s.H, s.V⟩ d (.v undef))) : stX P ops rest K s d t (.p i off) (.v v) := by
 unfold stX loudX
 have e0 : XS.ev ⟨[.p i off, .v v], s.bx, s.H, s.V⟩ (.tmp 0) = .p i off := rfl
 have e1 : XS.ev ⟨[.p i off, .v v], s.bx, s.H, s.V⟩ (.tmp 1) = .v v := rfl
 simp only [e0, e1, hs, hb]
 have ec : v.cells = #[v] := by cases v <;> first | rfl | cases h1
 refine ⟨by rw [ec]; rfl, by rw [ec]; simp [h1], by omega, ?_⟩
 have : splice vs off v.cells.toList = vs.set off v := by
  rw [ec]
  unfold splice
  rw [List.set_eq_take_append_cons_drop, if_pos hl]
  simp
 rw [this]; exact h
theorem placesT_24 : placesT Tryz.prog 24 = some [(0, 1), (1, 1), (2, 1)] := by kernel_rfl
theorem bd_mtx2 {x y : Value} (hx : isOne x = true) (hy : isOne y = true) : BuildsTo Tryz.prog 24 #[(0, x), (1, y)] (.agg #[x, y, .slice none 0 0]) := by
 refine bd_run placesT_24 zeroT_24 ?_
 show Instr.fill _ _ [(0, x), (1, y)] = _
 rw [fill_one (off := 0) rfl hx (by simp), fill_one (off := 1) rfl hy (by simp)]; rfl
theorem bd_mtx0 : BuildsTo Tryz.prog 24 #[] (.agg #[.int .i64 0, .int .i64 0, .slice none 0 0]) := by
 refine bd_run placesT_24 zeroT_24 ?_
 rfl
theorem own_isOne {H : Heap} {e sz n : Nat} {v : Value} {xs : List Value} (h : Own H e sz v n xs) : isOne v = true := by
 obtain ⟨_, ⟨rfl, _⟩ | ⟨g, cap, rfl, _⟩⟩ := h <;> rfl
theorem nat_mul (a b : Nat) (h : a * b ≤ 1000000) : IntKind.i64.wrap ((a : Int) * (b : Int)) = ((a * b : Nat) : Int) := by rw [← Int.natCast_mul, wrap_id (by omega) (by omega)]
theorem sgI_neg (q : Rat) : decide (sgI q < 0) = ng q := by
 unfold sgI
 by_cases h : q = 0
 ·rw [if_pos h, h]; rfl
 ·rw [if_neg h]
  cases hn : ng q
  ·rw [if_neg (by simp)]; rfl
  ·rw [if_pos rfl]; rfl
theorem dweights_c (V : View) (v : Value) (L : List Raw) (n : Int) (h : Raws V v L) (f : fitR L) (ll : L.length ≤ 1000000) (hq : ∀ x ∈ qs L, QF x) : Spec Tryz.prog 26 [v, .int .i64 n] V fun v' V' => v' = .bool (wtB n L) := by
 obtain ⟨A, c, rfl, hc, hm⟩ := h.form
 refine (Spec.enter Tryz.func26 rfl fun Γ => ?_)
 simp only [Tryz.ntmps26, List.map_cons, List.map_nil, List.length_cons, List.length_nil, Nat.reduceAdd, Nat.reduceSub, List.replicate_succ, List.replicate_zero, List.cons_append, List.nil_append]
 refine Gx.a (by kernel_rfl) fun K hK => ?_
 simp only [XA]
 refine hK _ ?_
 refine XWP.seq ?_
 by_cases d : (L.length : Int) = n
 rotate_left
 ·have b : decide ((L.length : Int) = n) = false := decide_eq_false d
  refine Gx.a (by kernel_rfl) fun K hK => ?_
  simp only [XA, XB, b]
  refine hK _ ?_
  refine Gx.t rfl ?_
  refine Gx.a (by kernel_rfl) fun K hK => ?_
  simp only [XA]
  refine hK _ (XWP.ret ?_)
  try simp only [thenX_ret, inBlockX_ret]
  refine ret_go _ rfl ?_
  unfold wtB
  rw [b]; rfl
 have b : decide ((L.length : Int) = n) = true := decide_eq_true d
 refine Gx.a (by kernel_rfl) fun K hK => ?_
 simp only [XA, XB, b]
 refine hK _ ?_
 refine Gx.f rfl ?_
 refine XWP.skip ?_
 have eW : wtB n L = wtsR L := by unfold wtB; rw [b]; rfl
 rw [eW]
 clear eW b d
 refine XWP.cutD 0 (fun s => ∃ V2, StIs (fun Z => [Z 0,Z 1,Z 2,Z 3,Z 4,Z 5,Z 6,Z 7,Z 8,Z 9,Z 10,Z 11,Z 12,Z 13,Z 14,Z 15,Z 16,Z 17,Z 18,Z 19,Z 20,Z 21,Z 22,Z 23,Z 24,Z 25]) [] (fun _ => none) V2 s ∧ wtsR L = true) ?_ ?_
 ·refine Gx.a (by kernel_rfl) fun K hK => ?_
  simp only [XA, XB]
  refine hK _ ?_
  clear hK
  refine XWP.block ?_
  refine XWP.loopD 0 (fun r s => ∃ (k : Nat) (V2 : View), StIs (fun Z => [Z 0,Z 1,Z 2,Z 3,Z 4,Z 5,Z 6,Z 7,Z 8,Z 9,Z 10, .v (.slice A L.length c), .v (.int .i64 (L.length : Int)), .v (.int .i64 (k : Int)), Z 14,Z 15,Z 16,Z 17,Z 18,Z 19,Z 20,Z 21,Z 22,Z 23,Z 24,Z 25]) [] (fun _ => none) V2 s ∧ V.le V2 ∧ r + k = L.length ∧ wtsR (L.take k) = true) L.length ⟨0, V, StIs.of (by exact rfl), View.le_refl _, by omega, by simp [wtsR]⟩ ?_
  rintro r s ⟨k, V2, hs, hV2, hr, hk⟩
  obtain ⟨z, rfl⟩ := hs.out
  try dsimp only
  clear hs
  by_cases hlt : k < L.length
  rotate_left
  ·have b1 : decide ((k : Int) < (L.length : Int)) = false := decide_eq_false (by omega)
   refine Gx.a (by kernel_rfl) fun K hK => ?_
   simp only [XA, XB, b1]
   refine hK _ ?_
   refine XWP.seq (Gx.f rfl ?_)
   refine XWP.exit ?_
   rw [List.take_of_length_le (by omega)] at hk
   exact fun f => ⟨V2, StIs.of (by exact rfl), hk⟩
  have b1 : decide ((k : Int) < (L.length : Int)) = true := decide_eq_true (by omega)
  refine Gx.a (by kernel_rfl) fun K hK => ?_
  simp only [XA, XB, b1]
  refine hK _ ?_
  refine XWP.seq (Gx.t rfl ?_)
  refine XWP.skip ?_
  refine XWP.seq ?_
  refine XWP.block ?_
  have hv2 := Raws.up h hV2
  obtain ⟨b, o, rfl⟩ := SlAt.addr hv2 (by omega)
  obtain ⟨x, hx, ⟨m3, n3, d3, rfl, p1, p2, p3⟩, hld⟩ := SlAt.load hv2 k hlt
  refine Gx.a (by kernel_rfl) fun K hK => ?_
  simp only [XA, XB]
  refine ⟨by omega, by omega, ld_mem (hld _) ?_⟩
  simp only [XA, XB]
  refine st_rat rfl rfl p1 p2 p3 ?_
  simp only [XA]
  refine hK _ ?_
  have ff := f _ (List.getElem_mem hlt)
  have et : L.take (k + 1) = L.take k ++ [L[k]] := by rw [List.take_succ_eq_append_getElem hlt]
  have hbad : wtR L[k] = false → wtsR L = false := fun e => by
   unfold wtsR
   rw [List.all_eq_false]
   exact ⟨L[k], List.getElem_mem hlt, by rw [e]; simp⟩
  refine Gx.a (by kernel_rfl) fun K hK => ?_
  simp only [XA, XB, Nat.reduceAdd, Nat.reduceLeDiff, ↓reduceIte]
  refine call_go (by kernel_rfl) rfl (pright_c _ _ _ _ _ hx ff.1 ff.2) fun v3 V3 hV3 h3 => ?_
  subst h3
  cases hr1 : rawOk L[k].m L[k].nd L[k].dd
  ·simp only [XA, gateX, ↓reduceIte]
   refine hK _ ?_
   refine Gx.t rfl ?_
   refine Gx.a (by kernel_rfl) fun K hK => ?_
   simp only [XA]
   refine hK _ (XWP.ret ?_)
   try simp only [thenX_ret, inBlockX_ret]
   refine ret_go _ rfl ?_
   rw [hbad (by unfold wtR Raw.ok; rw [hr1]; rfl)]; rfl
  have hq3 : RatC V2 _ L[k].q := RawAt.rat hx hr1
  simp only [XA, XB, gateX, Nat.reduceAdd, Nat.reduceLeDiff, ↓reduceIte, beq_self_eq_true]
  refine call_go (by kernel_rfl) rfl (psign_c _ _ _ ((hq3.mono hV3).toV (hq _ (List.mem_map_of_mem (List.getElem_mem hlt))))) fun v4 V4 hV4 h4 => ?_
  subst h4
  cases hng : ng L[k].q
  ·have b2 : decide (sgI L[k].q < 0) = false := by rw [sgI_neg, hng]
   simp only [XA, XB, gateX, ↓reduceIte, beq_self_eq_true, b2]
   refine hK _ ?_
   refine Gx.f rfl ?_
   refine XWP.skip ?_
   refine Gx.c (by kernel_rfl) fun K hK => ?_
   simp only [XA, XB, i64_succ k (by omega)]
   refine hK _ ⟨r - 1, by omega, fun f => ⟨k + 1, V4, StIs.of (by exact rfl), View.le_trans hV2 (View.le_trans hV3 hV4), by omega, ?_⟩⟩
   unfold wtsR at hk ⊢
   rw [et, List.all_append, hk]
   simp [wtR, Raw.ok, hr1, hng]
  ·have b2 : decide (sgI L[k].q < 0) = true := by rw [sgI_neg, hng]
   simp only [XA, XB, gateX, ↓reduceIte, beq_self_eq_true, b2]
   refine hK _ ?_
   refine Gx.t rfl ?_
   refine Gx.a (by kernel_rfl) fun K hK => ?_
   simp only [XA]
   refine hK _ (XWP.ret ?_)
   try simp only [thenX_ret, inBlockX_ret]
   refine ret_go _ rfl ?_
   rw [hbad (by unfold wtR; rw [hng]; simp)]; rfl
 rintro s ⟨V2, hs, hk⟩
 obtain ⟨u, rfl⟩ := hs.out
 try dsimp only
 refine Gx.a (by kernel_rfl) fun K hK => ?_
 simp only [XA]
 refine hK _ (XWP.ret ?_)
 try simp only [thenX_ret, inBlockX_ret]
 refine ret_go _ rfl ?_
 rw [hk]; rfl
theorem cf_drop (l : List Rat) (k i : Nat) : cf (l.drop k) i = cf l (k + i) := by
 unfold cf; simp only [List.getD_eq_getElem?_getD, List.getElem?_drop]
theorem dchright_c (V : View) (s1 s2 : Value) (r1 c1 r2 c2 : Int) (L1 L2 : List Raw) (h1 : Raws V s1 L1) (h2 : Raws V s2 L2) (f1 : fitR L1) (f2 : fitR L2) (l1 : L1.length ≤ 1000000) (l2 : L2.length ≤ 1000000) (A B : Nat) (hA : okR L1 = true → CB A (qs L1)) (hB : okR L2 = true → CB B (qs L2)) (hfit : 2 * (A + B) + 200 ≤ 17592186044416) :
  Spec Tryz.prog 24 [.agg #[.int .i64 r1, .int .i64 c1, s1, .int .i64 r2, .int .i64 c2, s2]] V fun v' V' => v' = .bool (chB r1 c1 L1 r2 c2 L2) := by
 obtain ⟨A1, q1, rfl, _, _⟩ := h1.form
 obtain ⟨A2, q2, rfl, _, _⟩ := h2.form
 refine (Spec.enter Tryz.func24 rfl fun Γ => ?_)
 simp only [Tryz.ntmps24, List.map_cons, List.map_nil, List.length_cons, List.length_nil, Nat.reduceAdd, Nat.reduceSub, List.replicate_succ, List.replicate_zero, List.cons_append, List.nil_append]
 refine Gx.a (by kernel_rfl) fun K hK => ?_
 simp only [XA]
 refine hK _ ?_
 refine XWP.seq ?_
 refine Gx.a (by kernel_rfl) fun K hK => ?_
 simp only [XM, XA, Nat.reduceAdd, Nat.reduceLeDiff, ↓reduceIte]
 refine call_go (by kernel_rfl) rfl (dmright_c _ _ r1 c1 L1 h1 f1 l1) fun v1 V1 hV1 g1 => ?_
 subst g1
 cases e1 : matR r1 c1 L1
 ·have eC : chB r1 c1 L1 r2 c2 L2 = false := by unfold chB; rw [e1]; rfl
  simp only [XA, gateX, ↓reduceIte]
  refine hK _ ?_
  refine Gx.t rfl ?_
  refine Gx.a (by kernel_rfl) fun K hK => ?_
  simp only [XA]
  refine hK _ (XWP.ret ?_)
  try simp only [thenX_ret, inBlockX_ret]
  refine ret_go _ rfl ?_
  rw [eC]; rfl
 simp only [XM, XA, gateX, Nat.reduceAdd, Nat.reduceLeDiff, ↓reduceIte, beq_self_eq_true]
 refine call_go (by kernel_rfl) rfl (dmright_c _ _ r2 c2 L2 (h2.up hV1) f2 l2) fun v2 V2 hV2 g2 => ?_
 subst g2
 cases e2 : matR r2 c2 L2
 ·have eC : chB r1 c1 L1 r2 c2 L2 = false := by unfold chB; rw [e2, Bool.and_false]; rfl
  simp only [XA, gateX, ↓reduceIte, beq_self_eq_true]
  refine hK _ ?_
  refine Gx.t rfl ?_
  refine Gx.a (by kernel_rfl) fun K hK => ?_
  simp only [XA]
  refine hK _ (XWP.ret ?_)
  try simp only [thenX_ret, inBlockX_ret]
  refine ret_go _ rfl ?_
  rw [eC]; rfl
 by_cases d1 : r1 = c1
 rotate_left
 ·have eC : chB r1 c1 L1 r2 c2 L2 = false := by unfold chB; rw [decide_eq_false d1, Bool.and_false]; rfl
  have b1 : decide (r1 = c1) = false := decide_eq_false d1
  simp only [XM, XA, XB, gateX, ↓reduceIte, beq_self_eq_true, b1]
  refine hK _ ?_
  refine Gx.t rfl ?_
  refine Gx.a (by kernel_rfl) fun K hK => ?_
  simp only [XA]
  refine hK _ (XWP.ret ?_)
  try simp only [thenX_ret, inBlockX_ret]
  refine ret_go _ rfl ?_
  rw [eC]; rfl
 have b1 : decide (r1 = c1) = true := decide_eq_true d1
 by_cases d2 : r2 = r1
 rotate_left
 ·have eC : chB r1 c1 L1 r2 c2 L2 = false := by unfold chB; rw [decide_eq_false d2, Bool.and_false]; rfl
  have b2 : decide (r2 = r1) = false := decide_eq_false d2
  simp only [XM, XA, XB, gateX, ↓reduceIte, beq_self_eq_true, b1, b2]
  refine hK _ ?_
  refine Gx.t rfl ?_
  refine Gx.a (by kernel_rfl) fun K hK => ?_
  simp only [XA]
  refine hK _ (XWP.ret ?_)
  try simp only [thenX_ret, inBlockX_ret]
  refine ret_go _ rfl ?_
  rw [eC]; rfl
 have b2 : decide (r2 = r1) = true := decide_eq_true d2
 simp only [XM, XA, XB, gateX, ↓reduceIte, beq_self_eq_true, b1, b2]
 refine hK _ ?_
 refine Gx.f rfl ?_
 refine XWP.skip ?_
 obtain ⟨n, m, rfl, rfl, rfl, rfl, hn, hm, k1, k2, o1, o2, eC⟩ := chB_shape e1 e2 d1 d2
 rw [eC]
 clear eC e1 e2 b1 b2 d1 d2
 have hp := ((Raws.rats h1 o1).up hV1).up hV2
 have hq := ((Raws.rats h2 o2).up hV1).up hV2
 have hA := hA o1
 have hB := hB o2
 have k1 : (qs L1).length = n * n := by rw [qs_len]; exact k1
 have k2 : (qs L2).length = n * m := by rw [qs_len]; exact k2
 generalize qs L1 = p at *
 generalize qs L2 = q at *
 clear h1 h2 f1 f2 o1 o2 l1 l2
 have hp3 : ∀ {V3 : View}, V2.le V3 → Rats V3 _ p := fun h => hp.up h
 have hq3 : ∀ {V3 : View}, V2.le V3 → Rats V3 _ q := fun h => hq.up h
 refine XWP.cutD 1 (fun s => ∃ V3 H3, StIs (fun Z => [Z 0,Z 1,Z 2,Z 3,Z 4,Z 5,Z 6,Z 7,Z 8,Z 9,Z 10,Z 11,Z 12,Z 13,Z 14,Z 15,Z 16,Z 17,Z 18,Z 19,Z 20,Z 21,Z 22,Z 23,Z 24,Z 25,Z 26,Z 27,Z 28,Z 29,Z 30,Z 31,Z 32,Z 33,Z 34,Z 35,Z 36,Z 37,Z 38,Z 39,Z 40,Z 41,Z 42,Z 43,Z 44,Z 45,Z 46,Z 47,Z 48,Z 49,Z 50,Z 51,Z 52,Z 53,Z 54,Z 55,Z 56,Z 57,Z 58,Z 59,Z 60,Z 61,Z 62,Z 63,Z 64,Z 65,Z 66,Z 67,Z 68,Z 69,Z 70,Z 71,Z 72,Z 73,Z 74,Z 75,Z 76,Z 77,Z 78,Z 79,Z 80,Z 81,Z 82,Z 83]) [[.int .i64 (n : Int), .int .i64 (n : Int), .slice A1 L1.length q1, .int .i64 (n : Int), .int .i64 (m : Int), .slice A2 L2.length q2]] H3 V3 s ∧ rowsB n m p q n = true) ?_ ?_
 ·refine Gx.a (by kernel_rfl) fun K hK => ?_
  simp only [XA]
  refine hK _ ?_
  clear hK
  refine XWP.block ?_
  refine XWP.loopD 1 (fun r s => ∃ (i : Nat) (V3 : View) (H3 : Heap), StIs (fun Z => [Z 0, .p 0 0, Z 2, .v (.int .i64 (i : Int)), Z 4,Z 5,Z 6,Z 7,Z 8,Z 9,Z 10,Z 11,Z 12,Z 13,Z 14,Z 15,Z 16,Z 17,Z 18,Z 19,Z 20,Z 21,Z 22,Z 23,Z 24,Z 25,Z 26,Z 27,Z 28,Z 29,Z 30,Z 31,Z 32,Z 33,Z 34,Z 35,Z 36,Z 37,Z 38,Z 39,Z 40,Z 41,Z 42,Z 43,Z 44,Z 45,Z 46,Z 47,Z 48,Z 49,Z 50,Z 51,Z 52,Z 53,Z 54,Z 55,Z 56,Z 57,Z 58,Z 59,Z 60,Z 61,Z 62,Z 63,Z 64,Z 65,Z 66,Z 67,Z 68,Z 69,Z 70,Z 71,Z 72,Z 73,Z 74,Z 75,Z 76,Z 77,Z 78,Z 79,Z 80,Z 81,Z 82,Z 83]) [[.int .i64 (n : Int), .int .i64 (n : Int), .slice A1 L1.length q1, .int .i64 (n : Int), .int .i64 (m : Int), .slice A2 L2.length q2]] H3 V3 s ∧ V2.le V3 ∧ r + i = n ∧ rowsB n m p q i = true) n ⟨0, V2, _, StIs.of (by exact rfl), View.le_refl _, by omega, rfl⟩ ?_
  rintro r s ⟨i, V3, H3, hs, hV3, hr, hrow⟩
  obtain ⟨z, rfl⟩ := hs.out
  try dsimp only
  clear hs
  refine XWP.seq ?_
  by_cases hi : i < n
  rotate_left
  ·obtain rfl : i = n := by omega
   have b1 : decide ((i : Int) < (i : Int)) = false := decide_eq_false (by omega)
   refine Gx.a (by kernel_rfl) fun K hK => ?_
   simp only [XM, XA, XB, b1]
   refine hK _ ?_
   refine Gx.f rfl ?_
   refine XWP.exit ?_
   exact fun f => ⟨V3, _, StIs.of (by exact rfl), hrow⟩
  have b1 : decide ((i : Int) < (n : Int)) = true := decide_eq_true (by omega)
  refine Gx.a (by kernel_rfl) fun K hK => ?_
  simp only [XM, XA, XB, b1]
  refine hK _ ?_
  refine Gx.t rfl ?_
  refine XWP.skip ?_
  refine XWP.seq ?_
  refine XWP.block ?_
  refine Gx.a (by kernel_rfl) fun K hK => ?_
  simp only [XA]
  refine call_go (by kernel_rfl) rfl (pzero_c _) fun v4 V4 hV4 h4 => ?_
  obtain ⟨x4, y4, rfl, o1, o2⟩ := h4.form
  simp only [XA, XB]
  refine st_rat rfl rfl rfl o1 o2 ?_
  simp only [XA]
  refine hK _ ?_
  clear hK
  refine XWP.cutD 2 (fun s => ∃ (V5 : View) (H5 : Heap) (x y : Value), StIs (fun Z => [Z 0, .p 0 0, Z 2, .v (.int .i64 (i : Int)), .p 1 0, Z 5,Z 6,Z 7,Z 8,Z 9,Z 10,Z 11,Z 12,Z 13,Z 14,Z 15,Z 16,Z 17,Z 18,Z 19,Z 20,Z 21,Z 22,Z 23,Z 24,Z 25,Z 26,Z 27,Z 28,Z 29,Z 30,Z 31,Z 32,Z 33,Z 34,Z 35,Z 36,Z 37,Z 38,Z 39,Z 40,Z 41,Z 42,Z 43,Z 44,Z 45,Z 46,Z 47,Z 48,Z 49,Z 50,Z 51,Z 52,Z 53,Z 54,Z 55,Z 56,Z 57,Z 58,Z 59,Z 60,Z 61,Z 62,Z 63,Z 64,Z 65,Z 66,Z 67,Z 68,Z 69,Z 70,Z 71,Z 72,Z 73,Z 74,Z 75,Z 76,Z 77,Z 78,Z 79,Z 80,Z 81,Z 82,Z 83]) [[Value.int .i64 (n : Int), .int .i64 (n : Int), .slice A1 L1.length q1, .int .i64 (n : Int), .int .i64 (m : Int), .slice A2 L2.length q2], [.bool (ng (chX n m p q i 2)), x, y]] H5 V5 s ∧ V4.le V5 ∧ RatC V5 (.agg #[.bool (ng (chX n m p q i 2)), x, y]) (chX n m p q i 2) ∧ isOne x = true ∧ isOne y = true ∧ chO n m p q i 2 = true) ?_ ?_
  ·refine Gx.a (by kernel_rfl) fun K hK => ?_
   simp only [XM, XA, Nat.reduceAdd, Nat.reduceLeDiff, ↓reduceIte]
   refine bs_go (by kernel_rfl) #[(0, .agg #[.int .i64 (n : Int), .int .i64 (n : Int), .slice A1 L1.length q1]), (1, .agg #[.int .i64 (n : Int), .int .i64 (m : Int), .slice A2 L2.length q2])] (by simp [ev_tmp, SV.val]) (bs_mat elemT_103 zeroT_34) fun b hb1 hb2 => ?_
   simp only [XM, XA, Nat.reduceAdd]
   refine hK _ ?_
   clear hK
   refine XWP.block ?_
   refine XWP.loopD 2 (fun r2 s => ∃ (j : Nat) (V5 : View) (x y : Value), StIs (fun Z => [Z 0, .p 0 0, Z 2, .v (.int .i64 (i : Int)), .p 1 0, Z 5,Z 6,Z 7,Z 8,Z 9,Z 10,Z 11,Z 12,Z 13,Z 14,Z 15,Z 16,Z 17,Z 18,Z 19,Z 20,Z 21,Z 22,Z 23,Z 24,Z 25,Z 26,Z 27,Z 28,Z 29,Z 30,Z 31,Z 32,Z 33,Z 34,Z 35,Z 36,Z 37,Z 38,Z 39,Z 40,Z 41,Z 42,Z 43,Z 44,Z 45,Z 46,Z 47,Z 48, .v (.slice (some ⟨b, 0, none⟩) 2 2), .v (.int .i64 2), .v (.int .i64 (j : Int)), Z 52,Z 53,Z 54,Z 55,Z 56,Z 57,Z 58,Z 59,Z 60,Z 61,Z 62,Z 63,Z 64,Z 65,Z 66,Z 67,Z 68,Z 69,Z 70,Z 71,Z 72,Z 73,Z 74,Z 75,Z 76,Z 77,Z 78,Z 79,Z 80,Z 81,Z 82,Z 83]) [[Value.int .i64 (n : Int), .int .i64 (n : Int), .slice A1 L1.length q1, .int .i64 (n : Int), .int .i64 (m : Int), .slice A2 L2.length q2], [.bool (ng (chX n m p q i j)), x, y]] (upd H3 b (some ⟨34, [Value.int .i64 (n : Int), .int .i64 (n : Int), .slice A1 L1.length q1, .int .i64 (n : Int), .int .i64 (m : Int), .slice A2 L2.length q2], 6⟩)) V5 s ∧ V4.le V5 ∧ r2 + j = 2 ∧ RatC V5 (.agg #[.bool (ng (chX n m p q i j)), x, y]) (chX n m p q i j) ∧ isOne x = true ∧ isOne y = true ∧ chO n m p q i j = true) 2 ⟨0, V4, x4, y4, StIs.of (by exact rfl), View.le_refl _, by omega, h4, o1, o2, rfl⟩ ?_
   clear h4 o1 o2
   rintro r2 s ⟨j, V5, x, y, hs, hV5, hr2, h5, o1, o2, hO⟩
   obtain ⟨z, rfl⟩ := hs.out
   try dsimp only
   clear hs
   by_cases hj : j < 2
   rotate_left
   ·obtain rfl : j = 2 := by omega
    have b2 : decide (((2 : Nat) : Int) < 2) = false := decide_eq_false (by omega)
    refine Gx.a (by kernel_rfl) fun K hK => ?_
    simp only [XA, XB, b2]
    refine hK _ ?_
    refine XWP.seq (Gx.f rfl ?_)
    refine XWP.exit ?_
    exact fun f => ⟨V5, _, x, y, StIs.of (by exact rfl), hV5, h5, o1, o2, hO⟩
   have b2 : decide ((j : Int) < 2) = true := decide_eq_true (by omega)
   refine Gx.a (by kernel_rfl) fun K hK => ?_
   simp only [XA, XB, b2]
   refine hK _ ?_
   refine XWP.seq (Gx.t rfl ?_)
   refine XWP.skip ?_
   refine XWP.seq ?_
   refine XWP.block ?_
   obtain ⟨l, k, C, sj, hl, hk60, hlen, cl, hC, t0, t1, t2, qX, qS, hX, hOn⟩ := ch_pick (hp3 (View.le_trans (View.le_trans hV3 hV4) hV5)) (hq3 (View.le_trans (View.le_trans hV3 hV4) hV5)) hn hm k1 k2 hA hB i j hj hi
   have hhb : upd H3 b (some ⟨34, [Value.int .i64 (n : Int), .int .i64 (n : Int), .slice A1 L1.length q1, .int .i64 (n : Int), .int .i64 (m : Int), .slice A2 L2.length q2], 6⟩) b = some ⟨34, [Value.int .i64 (n : Int), .int .i64 (n : Int), .slice A1 L1.length q1, .int .i64 (n : Int), .int .i64 (m : Int), .slice A2 L2.length q2], 6⟩ := upd_at _ _ _
   have osj : isOne sj = true := by obtain ⟨_, _, rfl, _, _⟩ := hl.form; rfl
   generalize upd H3 b (some ⟨34, [Value.int .i64 (n : Int), .int .i64 (n : Int), .slice A1 L1.length q1, .int .i64 (n : Int), .int .i64 (m : Int), .slice A2 L2.length q2], 6⟩) = H5 at *
   have hik : i * k + k ≤ n * k := by
    have := Nat.mul_le_mul_right k (show i + 1 ≤ n by omega)
    rw [Nat.add_mul, Nat.one_mul] at this; exact this
   have hnk : n * k ≤ 3600 := Nat.le_trans (Nat.mul_le_mul hn hk60) (by decide)
   refine Gx.a (by kernel_rfl) fun K hK => ?_
   simp only [XM, XA]
   refine ⟨by omega, by omega, ld_mem (ld3 shapeT_34 hhb (by simpa using t0) (by simpa using t1) (by simpa using t2)) ?_⟩
   simp only [XM, XA, Nat.reduceAdd]
   refine st_mat shapeT_34 rfl rfl rfl rfl osj ?_
   simp only [XA]
   refine hK _ ?_
   have w1 := nat_mul i k (by omega)
   have w2 := i64_succ i (by omega)
   have hi1 : (i + 1) * k = i * k + k := by rw [Nat.add_mul, Nat.one_mul]
   have w3 := nat_mul (i + 1) k (by omega)
   obtain ⟨Aj, cj, rfl, hcj, _⟩ := hl.form
   have hrl := SlAt.drop (SlAt.take hl (k := (i + 1) * k) (by omega)) (k := i * k) (by rw [List.length_take]; omega)
   have hrlen : ((l.take ((i + 1) * k)).drop (i * k)).length = k := by rw [List.length_drop, List.length_take]; omega
   have hrcf : ∀ x, x < k → cf ((l.take ((i + 1) * k)).drop (i * k)) x = cf l (i * k + x) := fun x hx => by
    rw [cf_drop, cf_take, if_pos (by omega)]
   obtain ⟨Ar, cr, er, _, _⟩ := hrl.form
   rw [er, hrlen] at hrl
   have hrl : Rats V5 (.slice Ar k cr) ((l.take ((i + 1) * k)).drop (i * k)) := hrl
   rw [hrlen] at er
   refine Gx.a (by kernel_rfl) fun K hK => ?_
   simp only [XM, XA, XB, w1, w2, w3]
   refine ⟨by omega, by omega, by omega, ?_⟩
   rw [er]
   simp only [XA]
   refine hK _ ?_
   clear hK
   refine XWP.post (fun s => ∃ (V6 : View) (x y : Value), StIs (fun Z => [Z 0, .p 0 0, Z 2, .v (.int .i64 (i : Int)), .p 1 0, Z 5, .p 2 0, Z 7,Z 8,Z 9,Z 10,Z 11,Z 12,Z 13,Z 14,Z 15,Z 16,Z 17,Z 18,Z 19,Z 20,Z 21,Z 22,Z 23,Z 24,Z 25,Z 26,Z 27,Z 28,Z 29,Z 30,Z 31,Z 32,Z 33,Z 34,Z 35,Z 36,Z 37,Z 38,Z 39,Z 40,Z 41,Z 42,Z 43,Z 44,Z 45,Z 46,Z 47,Z 48, .v (.slice (some ⟨b, 0, none⟩) 2 2), .v (.int .i64 2), .v (.int .i64 (j : Int)), Z 52,Z 53,Z 54,Z 55,Z 56,Z 57,Z 58,Z 59,Z 60,Z 61,Z 62,Z 63,Z 64,Z 65, .v (.slice Ar k cr), .v (.int .i64 (k : Int)), Z 68,Z 69,Z 70,Z 71,Z 72,Z 73,Z 74,Z 75,Z 76,Z 77,Z 78,Z 79,Z 80,Z 81,Z 82,Z 83]) [[Value.int .i64 (n : Int), .int .i64 (n : Int), .slice A1 L1.length q1, .int .i64 (n : Int), .int .i64 (m : Int), .slice A2 L2.length q2], [.bool (ng (chX n m p q i (j + 1))), x, y], [.int .i64 (n : Int), .int .i64 (k : Int), .slice Aj l.length cj]] H5 V6 s ∧ V5.le V6 ∧ RatC V6 (.agg #[.bool (ng (chX n m p q i (j + 1))), x, y]) (chX n m p q i (j + 1)) ∧ isOne x = true ∧ isOne y = true ∧ nnB l (i * k) k = true) ?_ ?_
   ·refine XWP.block ?_
    refine XWP.loopD 3 (fun r3 s => ∃ (k0 : Nat) (V6 : View) (x y : Value), StIs (fun Z => [Z 0, .p 0 0, Z 2, .v (.int .i64 (i : Int)), .p 1 0, Z 5, .p 2 0, Z 7,Z 8,Z 9,Z 10,Z 11,Z 12,Z 13,Z 14,Z 15,Z 16,Z 17,Z 18,Z 19,Z 20,Z 21,Z 22,Z 23,Z 24,Z 25,Z 26,Z 27,Z 28,Z 29,Z 30,Z 31,Z 32,Z 33,Z 34,Z 35,Z 36,Z 37,Z 38,Z 39,Z 40,Z 41,Z 42,Z 43,Z 44,Z 45,Z 46,Z 47,Z 48, .v (.slice (some ⟨b, 0, none⟩) 2 2), .v (.int .i64 2), .v (.int .i64 (j : Int)), Z 52,Z 53,Z 54,Z 55,Z 56,Z 57,Z 58,Z 59,Z 60,Z 61,Z 62,Z 63,Z 64,Z 65, .v (.slice Ar k cr), .v (.int .i64 (k : Int)), .v (.int .i64 (k0 : Int)), Z 69,Z 70,Z 71,Z 72,Z 73,Z 74,Z 75,Z 76,Z 77,Z 78,Z 79,Z 80,Z 81,Z 82,Z 83]) [[Value.int .i64 (n : Int), .int .i64 (n : Int), .slice A1 L1.length q1, .int .i64 (n : Int), .int .i64 (m : Int), .slice A2 L2.length q2], [.bool (ng (rS l (i * k) (chX n m p q i j) k0)), x, y], [.int .i64 (n : Int), .int .i64 (k : Int), .slice Aj l.length cj]] H5 V6 s ∧ V5.le V6 ∧ r3 + k0 = k ∧ RatC V6 (.agg #[.bool (ng (rS l (i * k) (chX n m p q i j) k0)), x, y]) (rS l (i * k) (chX n m p q i j) k0) ∧ isOne x = true ∧ isOne y = true ∧ nnB l (i * k) k0 = true) k ⟨0, V5, x, y, StIs.of (by exact rfl), View.le_refl _, by omega, h5, o1, o2, rfl⟩ ?_
    clear h5 o1 o2
    rintro r3 s ⟨k0, V6, x, y, hs, hV6, hr3, h6, o1, o2, hnn⟩
    obtain ⟨z, rfl⟩ := hs.out
    try dsimp only
    clear hs
    by_cases hk0 : k0 < k
    rotate_left
    ·obtain rfl : k0 = k := by omega
     rw [hX] at h6 ⊢
     have b3 : decide ((k0 : Int) < (k0 : Int)) = false := decide_eq_false (by omega)
     refine Gx.a (by kernel_rfl) fun K hK => ?_
     simp only [XA, XB, b3]
     refine hK _ ?_
     refine XWP.seq (Gx.f rfl ?_)
     refine XWP.exit ?_
     exact ⟨V6, x, y, StIs.of (by exact rfl), hV6, h6, o1, o2, hnn⟩
    have b3 : decide ((k0 : Int) < (k : Int)) = true := decide_eq_true (by omega)
    refine Gx.a (by kernel_rfl) fun K hK => ?_
    simp only [XA, XB, b3]
    refine hK _ ?_
    refine XWP.seq (Gx.t rfl ?_)
    refine XWP.skip ?_
    refine XWP.seq ?_
    refine XWP.block ?_
    have hl6 := hrl.up hV6
    obtain ⟨br, or', rfl⟩ := SlAt.addr hl6 (by omega)
    obtain ⟨m7, n7, d7, hx7, ⟨p1, p2, p3⟩, hld7⟩ := Rats.get hl6 k0 (by omega)
    rw [hrcf k0 hk0] at hx7
    have qe : QF (cf l (i * k + k0)) := (cl.at _).qf (by omega)
    refine Gx.a (by kernel_rfl) fun K hK => ?_
    simp only [XA, XB]
    refine ⟨by omega, by omega, ld_mem (hld7 _) ?_⟩
    simp only [XA, XB, Nat.reduceAdd]
    refine st_rat rfl rfl p1 p2 p3 ?_
    simp only [XA]
    refine hK _ ?_
    refine Gx.b (by kernel_rfl) fun K hK => ?_
    simp only [XA, XB, Nat.reduceAdd, Nat.reduceLeDiff, ↓reduceIte]
    refine call_go (by kernel_rfl) rfl (psign_c _ _ _ (hx7.toV qe)) fun v7 V7 hV7 h7 => ?_
    subst h7
    cases hng : ng (cf l (i * k + k0))
    rotate_left
    ·have b4 : decide (sgI (cf l (i * k + k0)) < 0) = true := by rw [sgI_neg, hng]
     simp only [XA, XB, b4]
     refine hK _ ?_
     refine Gx.t rfl ?_
     refine Gx.a (by kernel_rfl) fun K hK => ?_
     simp only [XA]
     refine hK _ (XWP.ret ?_)
     try simp only [thenX_ret, inBlockX_ret]
     refine ret_go _ rfl ?_
     have := nnB_bad hng hk0
     rw [rowsB_bad (rowB_neg (j := j + 1) (by rw [hOn hO]; exact this)) hi]; rfl
    have b4 : decide (sgI (cf l (i * k + k0)) < 0) = false := by rw [sgI_neg, hng]
    simp only [XA, XB, b4]
    refine hK _ ?_
    refine Gx.f rfl ?_
    refine XWP.skip ?_
    have q6 : QF (rS l (i * k) (chX n m p q i j) k0) := (qS k0).qf (by omega)
    refine Gx.c (by kernel_rfl) fun K hK => ?_
    simp only [XA, XB, Nat.reduceAdd, Nat.reduceLeDiff, ↓reduceIte]
    refine call_go (by kernel_rfl) rfl (padd_c _ _ _ _ _ ((h6.mono hV7).toV q6) ((hx7.mono hV7).toV qe) q6 qe) fun v9 V9 hV9 h9 => ?_
    obtain ⟨x9, y9, rfl, o5, o6⟩ := h9.form
    simp only [XA]
    refine st_rat rfl rfl rfl o5 o6 ?_
    simp only [XA]
    refine hK _ ?_
    refine Gx.c (by kernel_rfl) fun K hK => ?_
    simp only [XA, XB, i64_succ k0 (by omega)]
    exact hK _ ⟨r3 - 1, by omega, fun f => ⟨k0 + 1, V9, x9, y9, StIs.of (by exact rfl), View.le_trans hV6 (View.le_trans hV7 hV9), by omega, h9, o5, o6, by rw [nnB, hnn, hng]; rfl⟩⟩
   rintro s ⟨V6, x6, y6, hs, hV6, h6, o3, o4, hnn⟩
   obtain ⟨z, rfl⟩ := hs.out
   try dsimp only
   clear hs
   refine Gx.c (by kernel_rfl) fun K hK => ?_
   simp only [XA, XB, i64_succ j (by omega)]
   refine hK _ ⟨r2 - 1, by omega, fun f => ⟨j + 1, V6, x6, y6, StIs.of (by exact rfl), View.le_trans hV5 hV6, by omega, h6, o3, o4, by rw [hOn hO]; exact hnn⟩⟩
  rintro s ⟨V5, H5, x, y, hs, hV5, h5, o3, o4, hO⟩
  obtain ⟨z, rfl⟩ := hs.out
  try dsimp only
  clear hs
  have hrw := rowB_two n m p q i hO
  have qX : QF (chX n m p q i 2) := by
   have := rS_QB hB (rS_QB hA (QB_zero 0) (i * n) n) (i * m) m
   exact this.qf (by omega)
  (refine XWP.drw [0, 1, 2, 3] (by kernel_rfl) (by kernel_rfl) (by kernel_rfl) fun K hK => ?_) <;> dsimp only [pickOps, List.getElem?_cons_zero, List.getElem?_cons_succ]
  simp only [XA, XB, Nat.reduceAdd, Nat.reduceLeDiff, ↓reduceIte]
  refine call_go (by kernel_rfl) rfl (pone_c _) fun v6 V6 hV6 h6 => ?_
  simp only [XA]
  refine call_go (by kernel_rfl) rfl (psame_c _ _ _ _ _ ((h5.mono hV6).toV qX) (h6.toV QF_one) qX QF_one) fun v7 V7 hV7 h7 => ?_
  subst h7
  cases hb : decide (chX n m p q i 2 = 1)
  ·simp only [XA]
   refine hK _ ?_
   refine Gx.t rfl ?_
   refine Gx.a (by kernel_rfl) fun K hK => ?_
   simp only [XA]
   refine hK _ (XWP.ret ?_)
   try simp only [thenX_ret, inBlockX_ret]
   refine ret_go _ rfl ?_
   rw [hb] at hrw
   rw [rowsB_bad hrw hi]; rfl
  ·simp only [XA]
   refine hK _ ?_
   refine Gx.f rfl ?_
   refine XWP.skip ?_
   refine Gx.c (by kernel_rfl) fun K hK => ?_
   simp only [XA, XB, i64_succ i (by omega)]
   refine hK _ ⟨r - 1, by omega, fun f => ⟨i + 1, V7, _, StIs.of (by exact rfl), View.le_trans hV3 (View.le_trans hV4 (View.le_trans hV5 (View.le_trans hV6 hV7))), by omega, ?_⟩⟩
   rw [rowsB, hrow, hrw, hb]; rfl
 rintro s ⟨V3, H3, hs, hrow⟩
 obtain ⟨z, rfl⟩ := hs.out
 try dsimp only
 refine Gx.a (by kernel_rfl) fun K hK => ?_
 simp only [XA]
 refine hK _ (XWP.ret ?_)
 try simp only [thenX_ret, inBlockX_ret]
 refine ret_go _ rfl ?_
 rw [hrow]; rfl


theorem fewR_CBn {L : List Raw} {n : Nat} (h : fewR L) (hd : digR L) (hl : L.length ≤ n) (M : Nat) (hM : n * 96 = M) : CB M (qs L) := by
 rw [← hM]; exact fewR_CB' h hd hl





end Go.Proofs.YthoboehbadmlmaaGreat
end
section
namespace Go.Proofs.YthoboehbadmlmaaGreat
open Go Go.RowKit
def rowS (m b : Nat) : SV → SV
 | .v x => .v x
 | .p j o => if j = m then .v (.pointer (some ⟨b, o, none⟩)) else .p j o
theorem rowS_v (m b : Nat) (x : Value) : rowS m b (.v x) = .v x := rfl
theorem rowS_p (m b j o : Nat) : rowS m b (.p j o) = if j = m then .v (.pointer (some ⟨b, o, none⟩)) else .p j o := rfl
theorem XWP.row1 {Γ : Cx} {P : Program} {c : Code} {Q : Exit → XS → Prop} {t : List SV} {bx : List (List Value)} {vs : List Value} {H : Heap} {V : View}
  (h : ∀ b e, H b = none → V b = none → XWP Γ P c Q ⟨t.map (rowS bx.length b), bx, upd H b (some ⟨e, vs, vs.length⟩), V⟩) : XWP Γ P c Q ⟨t, bx ++ [vs], H, V⟩ := by
 intro bl a w hc
 have hlt : bx.length < (bx ++ [vs]).length := by simp
 obtain ⟨ty, hh⟩ := hc.cw.box bx.length vs (by simp)
 obtain ⟨b1, b2, b3⟩ := hc.cs.bxH bx.length hlt
 refine h (bl bx.length) ty b1 b2 bl a w ⟨?_, hc.df, ⟨fun i us hi => hc.cw.box i us ?_, fun b r hb => ?_, hc.cw.view, hc.cw.below⟩, ⟨fun i j hi hj => hc.cs.inj i j (by dsimp only at hi ⊢; rw [List.length_append]; omega) (by dsimp only at hj ⊢; rw [List.length_append]; omega), fun i hi => ?_, fun b r hb => ?_, hc.cs.V0, hc.cs.frm⟩, fun x hx => ?_⟩
 ·rw [hc.tm, List.map_map]
  congr 1
  refine List.map_congr_left fun x _ => ?_
  cases x with
  | v x => rfl
  | p j o =>
   simp only [Function.comp_apply, rowS]
   split
   ·rename_i e; subst e; rfl
   ·rfl
 ·dsimp only at hi ⊢
  have hl : i < bx.length := (List.getElem?_eq_some_iff.1 hi).1
  rw [List.getElem?_append_left hl]; exact hi
 ·dsimp only at hb
  unfold upd at hb
  split at hb
  ·rename_i e; subst e; cases hb
   exact ⟨[], by simpa using hh, by simp⟩
  ·exact hc.cw.row b r hb
 ·dsimp only at hi
  have hl : i < (bx ++ [vs]).length := by rw [List.length_append]; omega
  have := hc.cs.bxH i hl
  refine ⟨?_, this.2⟩
  dsimp only
  unfold upd
  rw [if_neg (fun e => by have := hc.cs.inj i bx.length hl hlt e; omega)]; exact this.1
 ·dsimp only at hb
  unfold upd at hb
  split at hb
  ·rename_i e; subst e; exact ⟨b2, b3⟩
  ·exact hc.cs.HV b r hb
 ·obtain ⟨y, hy, rfl⟩ := List.mem_map.1 hx
  have := hc.ok y hy
  cases y with
  | v x => trivial
  | p j o =>
   have hj : j < (bx ++ [vs]).length := this
   show SV.ok _ (if j = bx.length then SV.v _ else .p j o)
   split
   ·trivial
   ·rename_i hne
    show j < bx.length
    rw [List.length_append] at hj
    simp only [List.length_cons, List.length_nil] at hj
    omega
def IterX (P : Program) (gf : Nat) (lb : Array Value) (V : View) (L : List (Array Value)) : Prop :=
 ∀ (l : Nat) (J : Nat → World → Prop) (Jx : World → Prop) (W : World), J 0 W → (∀ r W1, J r W1 → V.sub W1) → (∀ W1, Jx W1 → V.sub W1) →
  (∀ r W1 args, L[r]? = some args → J r W1 → YieldAt Fence.wide 0 P l args W1 fun e W' => (e = .returned (.bool true) ∧ J (r + 1) W') ∨ (e = .returned (.bool false) ∧ Jx W')) →
  CallsIn Fence.wide 0 P gf (#[.func (.yield l) #[] #[]] ++ lb) W fun e W' => (∃ v, e = .returned v) ∧ (J L.length W' ∨ Jx W')
def setPs : List Tmp → List Value → List SV → List SV
 | p :: ps, v :: vs, t => setPs ps vs (t.set p (.v v))
 | _, _, t => t
theorem setPs_conc {bl : Nat → Nat} : ∀ (ps : List Tmp) (vs : List Value) (t : List SV), (ps.zip vs).foldl (fun (t : Array Value) (q : Tmp × Value) => t.setIfInBounds q.1 q.2) (t.map (SV.conc bl)).toArray = ((setPs ps vs t).map (SV.conc bl)).toArray
 | [], _, t => by simp [setPs]
 | _ :: _, [], t => by simp [setPs]
 | p :: ps, v :: vs, t => by
  simp only [List.zip_cons_cons, List.foldl_cons, setPs]
  rw [← setPs_conc ps vs (t.set p (.v v))]
  congr 1
  simp [List.map_set, SV.conc]
theorem setPs_ok {n : Nat} : ∀ (ps : List Tmp) (vs : List Value) (t : List SV), (∀ x ∈ t, x.ok n) → ∀ x ∈ setPs ps vs t, x.ok n
 | [], _, t, h => by simpa [setPs] using h
 | _ :: _, [], t, h => by simpa [setPs] using h
 | p :: ps, v :: vs, t, h => by
  simp only [setPs]
  refine setPs_ok ps vs _ fun x hx => ?_
  rcases List.mem_or_eq_of_mem_set hx with h1 | rfl
  ·exact h x h1
  ·trivial
def roundQ (I : Heap → View → Prop) (Ix : Heap → View → Prop) : Exit → XS → Prop
 | .normal, s => I s.H s.V
 | .ret, s => Ix s.H s.V
 | _, _ => False
theorem CW.nobox {Γ : Cx} {bl bl' : Nat → Nat} {bx : List (List Value)} {H : Heap} {V : View} {w : World} (h : CW Γ bl bx H V w) : CW Γ bl' [] H V w := ⟨fun i vs hi => by simp at hi, h.row, h.view, h.below⟩
theorem CS.nobox {Γ : Cx} {bl bl' : Nat → Nat} {bx : List (List Value)} {H : Heap} {V : View} (h : CS Γ bl bx H V) : CS Γ bl' [] H V := ⟨fun i j hi => by simp at hi, fun i hi => by simp at hi, h.HV, h.V0, h.frm⟩
theorem CW.cx {Γ Γ' : Cx} {bl : Nat → Nat} {bx : List (List Value)} {H : Heap} {V : View} {w : World} (h : CW Γ bl bx H V w) (e : Γ'.w0 = Γ.w0) : CW Γ' bl bx H V w := ⟨h.box, h.row, h.view, by rw [e]; exact h.below⟩
theorem CS.cx {Γ Γ' : Cx} {bl : Nat → Nat} {bx : List (List Value)} {H : Heap} {V : View} (h : CS Γ bl bx H V) (e : Γ'.w0 = Γ.w0) (e' : Γ'.V0 = Γ.V0) : CS Γ' bl bx H V := ⟨h.inj, fun i hi => by rw [e]; exact h.bxH i hi, fun b r hb => by rw [e]; exact h.HV b r hb, by rw [e']; exact h.V0, by rw [e, e']; exact h.frm⟩
theorem wpIn_any {Γ : Cx} {P : Program} {c : Code} {Q : Exit → Act → World → Prop} {a : Act} {w : World} {n m : Nat} (h : c.wpIn Γ.F n P Q a w) : c.wpIn Γ.F m P Q a w := fun b k cs hro hb _ => h b k cs hro hb (Γ.room _)
theorem others_put {w w1 : World} {l : Nat} (h : KeepsOthers w1 w) (hl : w1.heap.size ≤ l) (o : Obj) : KeepsOthers w1 (w.putObj l o) :=
 ⟨by rw [World.putObj_size]; exact h.size, fun k ob hk ho => by
  have := (Array.getElem?_eq_some_iff.1 hk).1
  rw [World.putObj_heap_other (by omega)]; exact h.same k ob hk ho⟩
theorem CW.allocO {Γ : Cx} {bl : Nat → Nat} {H : Heap} {V : View} {w : World} (h : CW Γ bl [] H V w) (o : Obj) : CW Γ bl [] H V (w.alloc o) :=
 ⟨fun i vs hi => by simp at hi, fun b r hb => by
  obtain ⟨ex, hh, hl⟩ := h.row b r hb
  exact ⟨ex, by rw [Below.heap_alloc w _ _ (h.lt_row hb)]; exact hh, hl⟩, view_alloc h.view _, h.below.alloc h.below.size _⟩
theorem mk_turn {Γ Γ' : Cx} {a : Act} {w : World} {l : Nat} {o o' : Obj} (h : Mk Γ a w) (hl : w.heap[l]? = some o) (ho : ∀ d, o ≠ .deferred d) (e0 : Γ'.w0 = Γ.w0) (e1 : Γ'.w1 = w.putObj l o') (e2 : ∃ r, Γ'.rd = some r) : Mk Γ' a (w.putObj l o') := by
 obtain ⟨⟨ms, h1, h2, h3⟩, _⟩ := h
 obtain ⟨r2, e2⟩ := e2
 refine ⟨⟨ms, h1, h2, fun D hD => ⟨by unfold Cx.base; rw [e2]; dsimp only; rw [e0]; exact Nat.le_trans (Cx.base_ge _) (h3 D hD).1, ?_⟩⟩, by rw [e1]; exact KeepsOthers.refl _⟩
 refine (World.putObj_heap_other (fun e => ?_)).trans (h3 D hD).2
 have := (h3 D hD).2
 rw [e, hl] at this
 cases this; exact ho _ rfl
theorem XWP.range {Γ : Cx} {P : Program} (hΓ : Γ.Plain) {g : Operand} {ps : Array Tmp} {assign body : Code} {Q : Exit → XS → Prop} {t : List SV} {H : Heap} {V : View} {gf : Nat} {lb : Array Value} {L : List (Array Value)} {I : Nat → Heap → View → Prop} {Ix : Heap → View → Prop}
  (hg : (⟨t, [], H, V⟩ : XS).ev g = .v (.func (.func gf) #[] lb)) (hcall : callable P gf = true) (hps : ∀ args ∈ L, args.size = ps.size) (it : IterX P gf lb V L) (h0 : I 0 H V) (hle : ∀ r H' V', I r H' V' → V.le V') (hleX : ∀ H' V', Ix H' V' → V.le V')
  (hr : ∀ (Γ' : Cx) (r : Nat) (args : Array Value) (H' : Heap) (V' : View), L[r]? = some args → I r H' V' → XWP Γ' P assign (fun e s1 => match e with | .normal => ∀ Γ'' : Cx, XWP Γ'' P body (roundQ (I (r + 1)) Ix) s1 | _ => False) ⟨setPs ps.toList args.toList t, [], H', V'⟩)
  (hdone : ∀ H' V', I L.length H' V' → Q .normal ⟨t, [], H', V'⟩) (hstop : ∀ H' V', Ix H' V' → Q .ret ⟨t, [], H', V'⟩) : XWP Γ P (.rangeFunc g ps assign body) Q ⟨t, [], H, V⟩ := by
 intro bl a w hC
 obtain ⟨⟨ms, m1, m2, m3⟩, m4⟩ := hC.df
 have eF : Γ.F = Fence.wide := by unfold Cx.F; rw [hΓ.1]; rfl
 have hev : a.eval g = .func (.func gf) #[] lb := by rw [hC.ev, hg]; rfl
 have hok : ∀ x ∈ t, x.ok 0 := hC.ok
 have htm : a.tmps = (t.map (SV.conc bl)).toArray := hC.tm
 refine wpIn_any (n := 1) (wpIn_rangeFunc fun fn _ => ?_)
 obtain ⟨rec, hrec⟩ : ∃ rec : LoopState → Option Code → Loop, rec = fun st pe => { state := st, pending := pe, fn, tmps := a.tmps, params := ps, assign, body, defers := w.heap.size } := ⟨_, rfl⟩
 obtain ⟨W1, hW1⟩ : ∃ W1, (w.alloc (.deferred (some []))).alloc (.loop (rec .ready none)) = W1 := ⟨_, rfl⟩
 have hL1 : W1.heap[w.heap.size + 1]? = some (.loop (rec .ready none)) := by
  rw [← hW1]; have := World.alloc_heap_new (w.alloc (.deferred (some []))) (.loop (rec .ready none)); rwa [World.size_alloc] at this
 have hK1 : W1.heap[w.heap.size]? = some (.deferred (some [])) := by
  rw [← hW1]; exact (Below.heap_alloc _ _ _ (by simp)).trans (World.alloc_heap_new w _)
 have hcw1 : CW Γ bl [] H V W1 := by rw [← hW1]; exact (CW.allocO hC.cw _).allocO _
 have hko1 : KeepsOthers w W1 := by rw [← hW1]; exact (KeepsOthers.alloc _ _).trans (KeepsOthers.alloc _ _)
 have hws : Γ.w0.heap.size ≤ w.heap.size := hC.cw.below.size
 have hw1s : Γ.w1.heap.size ≤ w.heap.size := m4.size
 have hmlt : ∀ E ∈ ms, E < w.heap.size := fun E hE => (Array.getElem?_eq_some_iff.1 (m3 E hE).2).1
 refine ⟨w.heap.size + 1, [{ target := .collected w.heap.size, args := #[] }], W1, { target := .fn (.func gf) lb, args := #[.func (.yield (w.heap.size + 1)) #[] #[]] }, W1, gf, #[.func (.yield (w.heap.size + 1)) #[] #[]] ++ lb, W1, ?_, ?_, fun _ _ => trivial, ?_, fun _ => Nat.le_refl _, ?_⟩
 ·show (Instr.enterLoop fn a.tmps ps assign body Γ.rd).run P w = _
  rw [hΓ.1, ← hW1, hrec]; exact run_enterLoop_outer _ _ _ _ _
 ·simp only [resolve, hev]
  simp [go_sem]
 ·unfold callable at hcall
  cases hf : P.funcs[gf]? with
  | none => simp [hf] at hcall
  | some fn =>
   simp [hf] at hcall
   have hb : fn.body ≠ none := fun hn => by simp [hn] at hcall
   simp [invoke, callFunc, hf, hcall.1, hb]
 rw [eF]
 have keepE : ∀ {A B : World}, (∀ E ∈ ms, A.heap[E]? = some (.deferred (some []))) → KeepsOthers A B → ∀ E ∈ ms, B.heap[E]? = some (.deferred (some [])) := fun h k E hE => k.same E _ (h E hE) rfl
 have putE : ∀ {A : World} (o : Obj), (∀ E ∈ ms, A.heap[E]? = some (.deferred (some []))) → ∀ E ∈ ms, (A.putObj (w.heap.size + 1) o).heap[E]? = some (.deferred (some [])) := fun o h E hE =>
  (World.putObj_heap_other (by have := hmlt E hE; omega)).trans (h E hE)
 have fini : ∀ (A : World) (H' : Heap) (V' : View), CW Γ bl [] H' V' A → CS Γ bl [] H' V' → (∀ E ∈ ms, A.heap[E]? = some (.deferred (some []))) → KeepsOthers Γ.w1 A → A.heap[w.heap.size]? = some (.deferred (some [])) →
   Conc Γ bl ⟨t, [], H', V'⟩ { a with defers := { target := .collected w.heap.size, args := #[] } :: a.defers } A := fun A H' V' c1 c2 c3 c4 c5 =>
  ⟨htm, ⟨⟨w.heap.size :: ms, by simp [m1], List.nodup_cons.2 ⟨fun h => by have := hmlt _ h; omega, m2⟩, fun D hD => by
   rcases List.mem_cons.1 hD with rfl | h
   ·exact ⟨Cx.base_le _ hws hw1s, c5⟩
   ·exact ⟨(m3 D h).1, c3 D h⟩⟩, c4⟩, c1, c2, hok⟩
 refine (it (w.heap.size + 1)
  (fun r W => ∃ H' V', I r H' V' ∧ CW Γ bl [] H' V' W ∧ CS Γ bl [] H' V' ∧ (∀ E ∈ ms, W.heap[E]? = some (.deferred (some []))) ∧ KeepsOthers Γ.w1 W ∧ W.heap[w.heap.size + 1]? = some (.loop (rec .ready none)) ∧ W.heap[w.heap.size]? = some (.deferred (some [])))
  (fun W => ∃ H' V', Ix H' V' ∧ CW Γ bl [] H' V' W ∧ CS Γ bl [] H' V' ∧ (∀ E ∈ ms, W.heap[E]? = some (.deferred (some []))) ∧ KeepsOthers Γ.w1 W ∧ W.heap[w.heap.size + 1]? = some (.loop (rec .done (some .ret))) ∧ W.heap[w.heap.size]? = some (.deferred (some [])))
  W1 ⟨H, V, h0, hcw1, hC.cs.nobox, keepE (fun E hE => (m3 E hE).2) hko1, m4.trans hko1, hL1, hK1⟩ (fun r W ⟨H', V', hI, cw, _⟩ k o hk => cw.view k o (hle r H' V' hI k o hk)) (fun W ⟨H', V', hI, cw, _⟩ k o hk => cw.view k o (hleX H' V' hI k o hk)) ?_).mono ?_
 ·rintro r W args hLr ⟨H', V', hI, cw, cs, me, ko, hl, hk⟩
  have hsz : args.size = ps.size := hps args (List.mem_of_getElem? hLr)
  have hy := run_yield (P := P) (args := args) hl (by rw [hrec]; exact hsz)
  refine ⟨fn, _, assign, body, by rw [hy, hrec], roundIn_of_wpIn trivial ?_⟩
  have hx := hr ⟨Γ.w0, Γ.V0, W, some (w.heap.size + 1)⟩ r args H' V' hLr hI bl { tmps := (ps.zip args).foldl (fun tmps (t, a) => tmps.setIfInBounds t a) a.tmps, defers := [] } W
   ⟨by rw [htm, ← setPs_conc, ← Array.foldl_toList, Array.toList_zip], ⟨⟨[], rfl, List.nodup_nil, fun D hD => by simp at hD⟩, KeepsOthers.refl _⟩, cw.cx rfl, cs.cx rfl rfl, setPs_ok _ _ _ hok⟩
  refine wpIn_mono hx ?_
  rintro e a1 Wa ⟨bl1, s1, hC1, hq⟩
  cases e with
  | normal =>
   have hla := hC1.df.2.same _ _ hl rfl
   have hka := hC1.df.2.same _ _ hk rfl
   have hlt : w.heap.size + 1 < Wa.heap.size := (Array.getElem?_eq_some_iff.1 hla).1
   refine ⟨_, run_beginRound hla (by rw [hrec]), ?_⟩
   obtain ⟨W2, hW2⟩ : ∃ W2, W2 = Wa.putObj (w.heap.size + 1) (.loop { rec .ready none with state := .busy }) := ⟨_, rfl⟩
   rw [← hW2]
   have hl2 : W2.heap[w.heap.size + 1]? = some (.loop { rec .ready none with state := .busy }) := by rw [hW2]; exact World.putObj_heap_same hlt
   have hk2 : W2.heap[w.heap.size]? = some (.deferred (some [])) := by rw [hW2]; exact (World.putObj_heap_other (by omega)).trans hka
   have hb := hq ⟨Γ.w0, Γ.V0, W2, some (w.heap.size + 1)⟩ bl1 a1 W2 ⟨hC1.tm, by
    rw [hW2]; exact mk_turn hC1.df hla (fun d h => by cases h) rfl rfl ⟨_, rfl⟩, by
    rw [hW2]; exact (CW.turn (Γ := ⟨Γ.w0, Γ.V0, W, some (w.heap.size + 1)⟩) hΓ.2 hC1.cw hC1.cs hla rfl (Nat.le_trans hws (Nat.le_succ _)) _).cx rfl, hC1.cs.cx rfl rfl, hC1.ok⟩
   refine wpIn_mono hb ?_
   rintro e a3 W3 ⟨bl3, s3, hC3, hq3⟩
   have hl3 := hC3.df.2.same _ _ hl2 rfl
   have hk3 := hC3.df.2.same _ _ hk2 rfl
   have hlt3 : w.heap.size + 1 < W3.heap.size := (Array.getElem?_eq_some_iff.1 hl3).1
   have hend := fun jump : Option Code => run_endRound (P := P) jump hl3
   have me3 : ∀ E ∈ ms, W3.heap[E]? = some (.deferred (some [])) := keepE (by rw [hW2]; exact putE _ (keepE me hC1.df.2)) hC3.df.2
   have ko3 : KeepsOthers Γ.w1 W3 := KeepsOthers.trans (by rw [hW2]; exact others_put (ko.trans hC1.df.2) (by omega) _) hC3.df.2
   have fin4 : ∀ o : Obj, CW Γ bl [] s3.H s3.V (W3.putObj (w.heap.size + 1) o) ∧ CS Γ bl [] s3.H s3.V ∧ (∀ E ∈ ms, (W3.putObj (w.heap.size + 1) o).heap[E]? = some (.deferred (some []))) ∧ KeepsOthers Γ.w1 (W3.putObj (w.heap.size + 1) o) ∧ (W3.putObj (w.heap.size + 1) o).heap[w.heap.size + 1]? = some o ∧ (W3.putObj (w.heap.size + 1) o).heap[w.heap.size]? = some (.deferred (some [])) := fun o => by
    have c0 : CS Γ bl [] s3.H s3.V := (hC3.cs.cx (Γ' := Γ) rfl rfl).nobox
    exact ⟨((hC3.cw.cx (Γ' := Γ) rfl).nobox).turn hΓ.2 c0 hl3 rfl (by omega) o, c0, putE o me3, others_put ko3 (by omega) o, World.putObj_heap_same hlt3, (World.putObj_heap_other (by omega)).trans hk3⟩
   cases e with
   | normal =>
    obtain ⟨f1, f2, f3, f4, f5, f6⟩ := fin4 (.loop (rec .ready none))
    refine ⟨_, _, hend none, .inl ⟨rfl, s3.H, s3.V, hq3, ?_⟩⟩
    rw [hrec] at f1 f3 f4 f5 f6 ⊢
    exact ⟨f1, f2, f3, f4, f5, f6⟩
   | ret =>
    obtain ⟨f1, f2, f3, f4, f5, f6⟩ := fin4 (.loop (rec .done (some .ret)))
    refine ⟨_, _, hend (some .ret), .inr ⟨rfl, s3.H, s3.V, hq3, ?_⟩⟩
    rw [hrec] at f1 f3 f4 f5 f6 ⊢
    exact ⟨f1, f2, f3, f4, f5, f6⟩
   | _ => exact hq3.elim
  | _ => exact hq.elim
 ·rintro e W2 ⟨⟨v, rfl⟩, (⟨H', V', hI, cw, cs, me, ko, hl, hk⟩ | ⟨H', V', hI, cw, cs, me, ko, hl, hk⟩)⟩
  ·have he := run_endLoop (P := P) hl (by rw [hrec]; simp)
   rw [hrec] at he
   refine ⟨none, _, he, ?_⟩
   exact ⟨bl, _, fini _ H' V' (cw.turn hΓ.2 cs hl rfl (by omega) _) cs (putE _ me) (others_put ko (by omega) _) ((World.putObj_heap_other (by omega)).trans hk), hdone H' V' hI⟩
  ·have he := run_endLoop (P := P) hl (by rw [hrec]; simp)
   rw [hrec] at he
   refine ⟨some .ret, _, he, ?_⟩
   exact wpIn_ret ⟨bl, _, fini _ H' V' (cw.turn hΓ.2 cs hl rfl (by omega) _) cs (putE _ me) (others_put ko (by omega) _) ((World.putObj_heap_other (by omega)).trans hk), hstop H' V' hI⟩
end Go.Proofs.YthoboehbadmlmaaGreat
end
