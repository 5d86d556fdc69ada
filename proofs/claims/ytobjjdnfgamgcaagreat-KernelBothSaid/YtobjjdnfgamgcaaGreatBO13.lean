/- The composition and every mixture of two kernels leave the posterior invariant, at every input. (part 13 of 13) -/
import Derived.OrdersHeld
import Derived.Below
import Derived.Tactics
import Derived.KernelRfl
import Derived.RangeFuncCalls
import Derived.RangeFuncFrom
import Derived.RangeFuncLeaves
import Derived.OrdersIn
import Derived.Laws.AppendOwn
import Derived.Laws.MakeOwn
import Derived.Laws.CopyRow
import Derived.Laws.Cells
import Derived.Laws.World
import Derived.Laws.Alloc2
import Derived.Laws.NewBlocks
import Derived.Maps.AppendAt
import Derived.Test.YtobjjdnfgamgcaaGreatProg
import Init.Data.List.Lemmas
import Init.Omega
import Derived.WalkKit
import Derived.ProofKit
import Derived.OpenShut
import Derived.ChangeOld
import Derived.SizedLaws
import Derived.ChangeSlices
import Derived.ChangeArms
import Derived.Deep.Slices
import Derived.MapKept
import Derived.Maps.RangeRun
import Derived.Shelf.SlSortCmp.WholeK
import Derived.Lib.QuietBelow
import Derived.Test.YtobjjdnfgamgcaaGreatRows
import Derived.ShutString
import Derived.Test.YtobjjdnfgamgcaaGreatBO12
set_option linter.unusedVariables false
set_option linter.unusedSimpArgs false
section
namespace Go.Proofs.YtobjjdnfgamgcaaGreat
open Go Go.RowKit
attribute [local irreducible] XWP Spec SpecO XPub XCall seqX clX apX stX ldX iaX slX
structure SqM (V : View) (s : Value) (n B : Nat) (G : Grid) : Prop where
 hv : Rats V s (flatG G n n)
 hn : n ≤ 60
 hq : ∀ i k, i < n → k < n → QB B (G i k)
theorem SqM.up {V V' : View} {s : Value} {n B : Nat} {G : Grid} (h : SqM V s n B G) (hV : V.le V') : SqM V' s n B G := ⟨h.hv.up hV, h.hn, h.hq⟩
theorem flatG_mem {G : Grid} {R C : Nat} {x : Rat} (h : x ∈ flatG G R C) : ∃ i k, i < R ∧ k < C ∧ x = G i k := by
 unfold flatG mk at h
 obtain ⟨p, hp, rfl⟩ := List.mem_map.1 h
 have hp := List.mem_range.1 hp
 have hC : 0 < C := by
  rcases Nat.eq_zero_or_pos C with e | e
  ·rw [e, Nat.mul_zero] at hp; omega
  ·exact e
 exact ⟨p / C, p % C, by rw [Nat.div_lt_iff_lt_mul hC]; exact hp, Nat.mod_lt _ hC, rfl⟩
theorem SqM.mem {V : View} {s : Value} {n B : Nat} {G : Grid} (h : SqM V s n B G) : ∀ x ∈ flatG G n n, QB B x := fun x hx => by
 obtain ⟨i, k, hi, hk, rfl⟩ := flatG_mem hx
 exact h.hq i k hi hk
theorem sq_le {n : Nat} (h : n ≤ 60) : n * n ≤ 3600 := Nat.le_trans (Nat.mul_le_mul h h) (by decide)
theorem SqM.right {V : View} {s : Value} {n B : Nat} {G : Grid} (h : SqM V s n B G) : matR (n : Int) (n : Int) ((flatG G n n).map toRaw) = true := by
 unfold matR
 have := h.hn
 rw [okR_toRaw, Bool.and_true, decide_eq_true_eq, List.length_map, flatG_len]
 exact ⟨by omega, by omega, by omega, by omega, Int.natCast_mul n n⟩
theorem cmr_c {V : View} {s : Value} {n B : Nat} {G : Grid} (h : SqM V s n B G) (hB : B ≤ 17592186044416) : Spec Tryz.prog 55 [.agg #[.int .i64 (n : Int), .int .i64 (n : Int), s]] V fun v' V' => v' = .bool true := by
 have := cmright_c V s (n : Int) (n : Int) ((flatG G n n).map toRaw) (Rats.raws h.hv) (fitR_toRaw fun x hx => (h.mem x hx).qf hB) (by rw [List.length_map, flatG_len]; have := sq_le h.hn; omega)
 rwa [h.right] at this
theorem cmadd1_c (V : View) (b2 b3 e2 e3 n i k B C : Nat) (G H : Grid) (s1 s2 : Value) (h2 : V b2 = some (.cells ([.int .i64 (n : Int), .int .i64 (n : Int), s1] : List Value).toArray e2 (0, 0))) (h3 : V b3 = some (.cells ([.int .i64 (n : Int), .int .i64 (n : Int), s2] : List Value).toArray e3 (0, 0))) (ha : SqM V s1 n B G) (hb : SqM V s2 n C H) (hi : i < n) (hk : k < n) (hB : B ≤ 17592186044416) (hC : C ≤ 17592186044416) :
  Spec Tryz.prog 102 [.int .i64 (i : Int), .int .i64 (k : Int), .pointer (some ⟨b2, 0, none⟩), .pointer (some ⟨b3, 0, none⟩)] V fun v' V' => RatC V' v' (G i k + H i k) := by
 have hn := ha.hn
 have hnn := sq_le hn
 have hp := pos_lt hi hk
 have w1 := wr_mul (i := i) (C := n) (by omega) (by omega)
 have w2 := wr_add (p := i * n) (k := k) (by omega) (by omega)
 have g1 := flatG_at G hi hk
 have g2 := flatG_at H hi hk
 have la := flatG_len G n n
 have lb := flatG_len H n n
 have hva := ha.hv
 have hvb := hb.hv
 obtain ⟨A1, c1, rfl, hc1, hm1⟩ := hva.form
 obtain ⟨A2, c2, rfl, hc2, hm2⟩ := hvb.form
 obtain ⟨b, o, rfl⟩ := SlAt.addr hva (by omega)
 obtain ⟨b', o', rfl⟩ := SlAt.addr hvb (by omega)
 obtain ⟨x, y, z, hx, ⟨o1, o2, o3⟩, hld⟩ := Rats.get hva (i * n + k) (by omega)
 obtain ⟨x', y', z', hx', ⟨o1', o2', o3'⟩, hld'⟩ := Rats.get hvb (i * n + k) (by omega)
 rw [g1] at hx
 rw [g2] at hx'
 refine (Spec.enter Tryz.func102 rfl fun Γ => ?_)
 simp only [Tryz.ntmps102, List.map_cons, List.map_nil, List.length_cons, List.length_nil, Nat.reduceAdd, Nat.reduceSub, List.replicate_succ, List.replicate_zero, List.cons_append, List.nil_append]
 refine Gx.a (by kernel_rfl) fun K hK => ?_
 simp only [XA, XB]
 refine hK _ ?_
 (refine XWP.drw [0, 1, 2, 3, 4, 5, 6, 7, 8, 9, 10, 11, 12, 13, 14, 15, 16, 17, 18, 19, 20, 21] (by kernel_rfl) (by kernel_rfl) (by kernel_rfl) fun K hK => ?_) <;> dsimp only [pickOps, List.getElem?_cons_zero, List.getElem?_cons_succ]
 simp only [XM, XA]
 refine ld_mem (ldV1 h2 (off := 2) rfl shapeT_24 _) ?_
 simp only [XM, XA]
 refine ld_mem (ldV1 h2 (off := 1) rfl shapeT_3 _) ?_
 simp only [XA, XB, w1, w2]
 refine ⟨by omega, by omega, ?_⟩
 refine ld_mem (hld _) ?_
 simp only [XM, XA]
 refine ld_mem (ldV1 h3 (off := 2) rfl shapeT_24 _) ?_
 simp only [XM, XA]
 refine ld_mem (ldV1 h2 (off := 1) rfl shapeT_3 _) ?_
 simp only [XA, XB, w1, w2]
 refine ⟨by omega, by omega, ?_⟩
 refine ld_mem (hld' _) ?_
 simp only [XA]
 refine call_go (by kernel_rfl) rfl (qadd_c _ _ _ _ _ hx hx' ((ha.hq i k hi hk).qf hB) ((hb.hq i k hi hk).qf hC)) fun v1 V1 hV1 h1 => ?_
 obtain ⟨x1, y1, rfl, p1, p2⟩ := h1.form
 simp only [XA]
 refine st_rat rfl rfl rfl p1 p2 ?_
 simp only [XA]
 refine hK _ (XWP.ret ?_)
 try simp only [thenX_ret, inBlockX_ret]
 exact ret_rat1 rfl rfl rfl h1
theorem cmadd_c (V : View) (s1 s2 : Value) (n B C : Nat) (G H : Grid) (ha : SqM V s1 n B G) (hb : SqM V s2 n C H) (hB : B ≤ 17592186044416) (hC : C ≤ 17592186044416) :
  Spec Tryz.prog 54 [.agg #[.int .i64 (n : Int), .int .i64 (n : Int), s1], .agg #[.int .i64 (n : Int), .int .i64 (n : Int), s2]] V fun v' V' => ∃ w, v' = .tuple #[.agg #[.int .i64 (n : Int), .int .i64 (n : Int), w], .int .i64 0] ∧ Rats V' w (flatG (fun i k => G i k + H i k) n n) := by
 obtain ⟨A1, c1, rfl, hc1, hm1⟩ := ha.hv.form
 obtain ⟨A2, c2, rfl, hc2, hm2⟩ := hb.hv.form
 have hn := ha.hn
 refine (Spec.enter Tryz.func54 rfl fun Γ => ?_)
 simp only [Tryz.ntmps54, List.map_cons, List.map_nil, List.length_cons, List.length_nil, Nat.reduceAdd, Nat.reduceSub, List.replicate_succ, List.replicate_zero, List.cons_append, List.nil_append]
 refine Gx.a (by kernel_rfl) fun K hK => ?_
 simp only [XM, XA, Nat.reduceAdd]
 refine hK _ ?_
 refine XWP.row1 (bx := [_, _]) fun b4 e4 hb4 _ => ?_
 simp only [List.map_cons, List.map_nil, rowS_v, rowS_p, List.length_nil, List.length_cons, Nat.reduceAdd, Nat.reduceEqDiff, ↓reduceIte]
 have f4 : upd (fun _ => none) b4 (some ⟨e4, [.int .i64 0, .int .i64 0, .slice none 0 0], 3⟩) b4 = some ⟨e4, [.int .i64 0, .int .i64 0, .slice none 0 0], 3⟩ := upd_at _ _ _
 generalize upd (fun _ => none) b4 (some ⟨e4, [.int .i64 0, .int .i64 0, .slice none 0 0], 3⟩) = H2 at *
 refine XWP.row1 (bx := [_]) fun b3 e3 hb3 _ => ?_
 simp only [List.map_cons, List.map_nil, rowS_v, rowS_p, List.length_nil, List.length_cons, Nat.reduceAdd, Nat.reduceEqDiff, ↓reduceIte]
 refine XWP.pub b3 _ (upd_at _ _ _) fun o3 ho3 hle3 => ?_
 have eo3 := row_obj ho3
 subst eo3
 have n43 := new_ne hb3 f4
 have f4 : upd (upd H2 b3 (some ⟨e3, [.int .i64 (n : Int), .int .i64 (n : Int), .slice A2 (flatG H n n).length c2], 3⟩)) b3 none b4 = some ⟨e4, [.int .i64 0, .int .i64 0, .slice none 0 0], 3⟩ := (upd_off n43).trans ((upd_off n43).trans f4)
 have h3 := addV_at V b3 (.cells ([.int .i64 (n : Int), .int .i64 (n : Int), .slice A2 (flatG H n n).length c2] : List Value).toArray e3 (0, 0))
 generalize upd (upd H2 b3 _) b3 none = H3 at *
 generalize addV V b3 _ = V3 at *
 refine XWP.row1 (bx := []) fun b2 e2 hb2 _ => ?_
 simp only [List.map_cons, List.map_nil, rowS_v, rowS_p, List.length_nil, List.length_cons, Nat.reduceAdd, ↓reduceIte]
 refine XWP.pub b2 _ (upd_at _ _ _) fun o2 ho2 hle2 => ?_
 have eo2 := row_obj ho2
 subst eo2
 have n42 := new_ne hb2 f4
 have f4 : upd (upd H3 b2 (some ⟨e2, [.int .i64 (n : Int), .int .i64 (n : Int), .slice A1 (flatG G n n).length c1], 3⟩)) b2 none b4 = some ⟨e4, [.int .i64 0, .int .i64 0, .slice none 0 0], 3⟩ := (upd_off n42).trans ((upd_off n42).trans f4)
 have h2 := addV_at V3 b2 (.cells ([.int .i64 (n : Int), .int .i64 (n : Int), .slice A1 (flatG G n n).length c1] : List Value).toArray e2 (0, 0))
 generalize upd (upd H3 b2 _) b2 none = H4 at *
 generalize addV V3 b2 _ = V4 at *
 have h3 := hle2 _ _ h3
 have hle := View.le_trans hle3 hle2
 have ha := ha.up hle
 have hb := hb.up hle
 refine XWP.seq ?_
 refine Gx.a (by kernel_rfl) fun K hK => ?_
 simp only [XA]
 refine ld_mem (ldV3 h2 shapeT_26 _) ?_
 simp only [XA]
 refine call_go (by kernel_rfl) rfl (cmr_c ha hB) fun v5 V5 hV5 h5 => ?_
 subst h5
 simp only [XA, gateX, ↓reduceIte, beq_self_eq_true]
 refine ld_mem (ldV3 (hV5 _ _ h3) shapeT_26 _) ?_
 simp only [XA, gateX, ↓reduceIte, beq_self_eq_true]
 refine call_go (by kernel_rfl) rfl (cmr_c (hb.up hV5) hC) fun v6 V6 hV6 h6 => ?_
 subst h6
 simp only [XA, gateX, ↓reduceIte, beq_self_eq_true]
 refine hK _ ?_
 refine Gx.f rfl ?_
 refine XWP.skip ?_
 have hle := View.le_trans hV5 hV6
 have h2 := hle _ _ h2
 have h3 := hle _ _ h3
 have ha := ha.up hle
 have hb := hb.up hle
 refine XWP.seq ?_
 refine Gx.a (by kernel_rfl) fun K hK => ?_
 simp only [XM, XA]
 refine ld_mem (ldV1 h2 (off := 0) rfl shapeT_3 _) ?_
 simp only [XM, XA]
 refine ld_mem (ldV1 h3 (off := 0) rfl shapeT_3 _) ?_
 simp only [XM, XA, XB, gateX, ↓reduceIte, beq_self_eq_true, decide_true]
 refine ld_mem (ldV1 h2 (off := 1) rfl shapeT_3 _) ?_
 simp only [XM, XA, gateX, ↓reduceIte, beq_self_eq_true]
 refine ld_mem (ldV1 h3 (off := 1) rfl shapeT_3 _) ?_
 simp only [XA, XB, gateX, ↓reduceIte, beq_self_eq_true, decide_true]
 refine hK _ ?_
 refine Gx.f rfl ?_
 refine XWP.skip ?_
 refine Gx.a (by kernel_rfl) fun K hK => ?_
 simp only [XM, XA]
 refine ld_mem (ldV1 h2 (off := 0) rfl shapeT_3 _) ?_
 simp only [XM, XA]
 refine ld_mem (ldV1 h2 (off := 1) rfl shapeT_3 _) ?_
 simp only [XA]
 refine mkf_go [.pointer (some ⟨b2, 0, none⟩), .pointer (some ⟨b3, 0, none⟩)] rfl ?_
 simp only [XA]
 refine call_own (by kernel_rfl) rfl (filled_o V6 (lb := [.pointer (some ⟨b2, 0, none⟩), .pointer (some ⟨b3, 0, none⟩)]) n n (fun i k => G i k + H i k) (by kernel_rfl) (by omega) (by omega) fun V' i k hV hi hk => cmadd1_c V' b2 b3 e2 e3 n i k B C G H _ _ (hV _ _ h2) (hV _ _ h3) (ha.up hV) (hb.up hV) hi hk hB hC) fun v12 V12 o12 hV12 hs12 hR12 => ?_
 obtain ⟨sl, cells, rfl, hown, hrow⟩ := hR12
 have f12 := addRow_off f4 fun g' q e => (hs12 g' q e).1
 have hown2 := own_any (H := H4) hown
 have osl := own_isOne hown2
 have hne : sl.ownBlock ≠ some b4 := fun e => by
  rcases own_parts hown with ⟨rfl, _, _⟩ | ⟨g2, cap2, rfl, hg2, _⟩
  ·cases e
  ·have : g2 = b4 := by simpa [Value.ownBlock] using e
   exact new_ne (hs12 g2 _ (addRow_only hg2)).1 f4 this.symm
 generalize addRow H4 o12 = H12 at *
 simp only [XA]
 refine st_rowA shapeT_26 (all3 rfl rfl osl) rfl f12 (by simp) ?_
 simp only [XA]
 refine hK _ ?_
 have hown3 : Own (upd H12 b4 (some ⟨e4, splice [.int .i64 0, .int .i64 0, .slice none 0 0] 0 [.int .i64 (n : Int), .int .i64 (n : Int), sl], 3⟩)) 49 3 sl (n * n) cells := by
  refine ⟨hown2.1, ?_⟩
  rcases hown2.2 with h | ⟨g2, cap2, rfl, hg2, h⟩
  ·exact .inl h
  ·exact .inr ⟨g2, cap2, rfl, by rw [upd_off fun e => hne (by rw [e]; rfl)]; exact hg2, h⟩
 refine XWP.pubR ratE_ok hown3 hrow fun H13 V13 hV13 hRw hk13 => ?_
 have f13 := (hk13 b4 hne).trans (upd_at _ _ _)
 refine XWP.ret ?_
 try simp only [thenX_ret, inBlockX_ret]
 exact ret_go _ (by simp [resAll, resV, cellsV, shapeT_26, f13, splice_all]; rfl) ⟨sl, rfl, hRw⟩
end Go.Proofs.YtobjjdnfgamgcaaGreat
end
section
namespace Go.Proofs.YtobjjdnfgamgcaaGreat
theorem Sm_QB {a : Nat} {f : Nat → Rat} : ∀ n, (∀ i, i < n → QB a (f i)) → QB (n * (a + 1)) (Sm f n)
 | 0, _ => QB_zero _
 | n + 1, h => by
  have h1 := Sm_QB n fun i hi => h i (by omega)
  refine (h1.add (h n (by omega))).mono ?_
  rw [Nat.add_mul]; omega
def fb : Nat → Nat × Nat
 | 0 => (0, 0)
 | k + 1 =>
  let a := 5 * (97 + ((fb k).1 + (fb k).2 + 1) + 1)
  (a, 5 * (a + 1) + 3)
def hb (C : Nat) : Nat → Nat
 | 0 => 0
 | r + 1 => 5 * (97 + hb C r + 1) + C + 1
end Go.Proofs.YtobjjdnfgamgcaaGreat
end
section
namespace Go.Proofs.YtobjjdnfgamgcaaGreat
open Go Go.RowKit
attribute [local irreducible] XWP Spec SpecO XPub XCall seqX clX apX stX ldX iaX slX

end Go.Proofs.YtobjjdnfgamgcaaGreat
end
section
namespace Go.Proofs.YtobjjdnfgamgcaaGreat
def nb : Nat → Nat × Nat
 | 0 => (1, 0)
 | i + 1 => (6 * ((nb i).1 + 6 + 1), (nb i).2 + (nb i).1 + (2200000 + 6 * ((nb i).2 + 22) + 1 + 6 * ((nb i).1 + 22)) + 1)
end Go.Proofs.YtobjjdnfgamgcaaGreat
end
section
namespace Go.Proofs.YtobjjdnfgamgcaaGreat
open Go Go.RowKit
attribute [local irreducible] XWP Spec SpecO XPub XCall seqX clX apX stX ldX iaX slX
theorem RatC.rawAt {V : View} {v : Value} {q : Rat} (h : RatC V v q) : RawAt V v (ng q) (dg q.num.natAbs) (dg q.den) := by
 obtain ⟨n, d, e, h1, h2⟩ := h
 exact ⟨n, d, e, h1, h2⟩
theorem cqr_c {V : View} {v : Value} {q : Rat} (h : RatC V v q) (hq : QF q) : Spec Tryz.prog 49 [v] V fun v' V' => v' = .bool true := by
 have f := fitR_toRaw (l := [q]) (fun x hx => by rw [List.mem_singleton.1 hx]; exact hq) (toRaw q) (by simp)
 have := qright_c V v _ _ _ h.rawAt f.1 f.2
 have e : rawOk (ng q) (dg q.num.natAbs) (dg q.den) = true := toRaw_ok q
 rwa [e] at this
theorem cscale1_c (V : View) (b2 b3 e2 e3 n i k B C : Nat) (G : Grid) (q : Rat) (s1 x y : Value) (h2 : V b2 = some (.cells ([.int .i64 (n : Int), .int .i64 (n : Int), s1] : List Value).toArray e2 (0, 0))) (h3 : V b3 = some (.cells ([.bool (ng q), x, y] : List Value).toArray e3 (0, 0))) (ha : SqM V s1 n B G) (hb : RatC V (.agg #[.bool (ng q), x, y]) q) (hi : i < n) (hk : k < n) (hB : B ≤ 17592186044416) (hC : QB C q) (hC2 : C ≤ 17592186044416) :
  Spec Tryz.prog 100 [.int .i64 (i : Int), .int .i64 (k : Int), .pointer (some ⟨b2, 0, none⟩), .pointer (some ⟨b3, 0, none⟩)] V fun v' V' => RatC V' v' (G i k * q) := by
 have hn := ha.hn
 have hnn := sq_le hn
 have hp := pos_lt hi hk
 have w1 := wr_mul (i := i) (C := n) (by omega) (by omega)
 have w2 := wr_add (p := i * n) (k := k) (by omega) (by omega)
 have g1 := flatG_at G hi hk
 have la := flatG_len G n n
 have hva := ha.hv
 obtain ⟨A1, c1, rfl, hc1, hm1⟩ := hva.form
 obtain ⟨b, o, rfl⟩ := SlAt.addr hva (by omega)
 obtain ⟨x0, y0, z0, hx, ⟨o1, o2, o3⟩, hld⟩ := Rats.get hva (i * n + k) (by omega)
 rw [g1] at hx
 refine (Spec.enter Tryz.func100 rfl fun Γ => ?_)
 simp only [Tryz.ntmps100, List.map_cons, List.map_nil, List.length_cons, List.length_nil, Nat.reduceAdd, Nat.reduceSub, List.replicate_succ, List.replicate_zero, List.cons_append, List.nil_append]
 refine Gx.a (by kernel_rfl) fun K hK => ?_
 simp only [XA, XB]
 refine hK _ ?_
 (refine XWP.drw [0, 1, 2, 3, 4, 5, 6, 7, 8, 9, 10, 11, 12] (by kernel_rfl) (by kernel_rfl) (by kernel_rfl) fun K hK => ?_) <;> dsimp only [pickOps, List.getElem?_cons_zero, List.getElem?_cons_succ]
 simp only [XM, XA]
 refine ld_mem (ldV1 h2 (off := 2) rfl shapeT_24 _) ?_
 simp only [XM, XA]
 refine ld_mem (ldV1 h2 (off := 1) rfl shapeT_3 _) ?_
 simp only [XA, XB, w1, w2]
 refine ⟨by omega, by omega, ?_⟩
 refine ld_mem (hld _) ?_
 simp only [XA]
 refine ld_mem (ldV3 h3 shapeT_49 _) ?_
 simp only [XA]
 refine call_go (by kernel_rfl) rfl (qmul_c _ _ _ _ _ hx hb ((ha.hq i k hi hk).qf hB) (hC.qf hC2)) fun v1 V1 hV1 h1 => ?_
 obtain ⟨x1, y1, rfl, p1, p2⟩ := h1.form
 simp only [XA]
 refine st_rat rfl rfl rfl p1 p2 ?_
 simp only [XA]
 refine hK _ (XWP.ret ?_)
 try simp only [thenX_ret, inBlockX_ret]
 exact ret_rat1 rfl rfl rfl h1
theorem cscale_c (V : View) (s1 r : Value) (n B C : Nat) (G : Grid) (q : Rat) (ha : SqM V s1 n B G) (hb : RatC V r q) (hB : B ≤ 17592186044416) (hC : QB C q) (hC2 : C ≤ 17592186044416) :
  Spec Tryz.prog 52 [.agg #[.int .i64 (n : Int), .int .i64 (n : Int), s1], r] V fun v' V' => ∃ w, v' = .tuple #[.agg #[.int .i64 (n : Int), .int .i64 (n : Int), w], .int .i64 0] ∧ Rats V' w (flatG (fun i k => G i k * q) n n) := by
 obtain ⟨A1, c1, rfl, hc1, hm1⟩ := ha.hv.form
 obtain ⟨x, y, rfl, ox, oy⟩ := hb.form
 have hn := ha.hn
 refine (Spec.enter Tryz.func52 rfl fun Γ => ?_)
 simp only [Tryz.ntmps52, List.map_cons, List.map_nil, List.length_cons, List.length_nil, Nat.reduceAdd, Nat.reduceSub, List.replicate_succ, List.replicate_zero, List.cons_append, List.nil_append]
 refine Gx.a (by kernel_rfl) fun K hK => ?_
 simp only [XM, XA, Nat.reduceAdd]
 refine hK _ ?_
 refine XWP.row1 (bx := [_, _]) fun b4 e4 hb4 _ => ?_
 simp only [List.map_cons, List.map_nil, rowS_v, rowS_p, List.length_nil, List.length_cons, Nat.reduceAdd, Nat.reduceEqDiff, ↓reduceIte]
 have f4 : upd (fun _ => none) b4 (some ⟨e4, [.int .i64 0, .int .i64 0, .slice none 0 0], 3⟩) b4 = some ⟨e4, [.int .i64 0, .int .i64 0, .slice none 0 0], 3⟩ := upd_at _ _ _
 generalize upd (fun _ => none) b4 (some ⟨e4, [.int .i64 0, .int .i64 0, .slice none 0 0], 3⟩) = H2 at *
 refine XWP.row1 (bx := [_]) fun b3 e3 hb3 _ => ?_
 simp only [List.map_cons, List.map_nil, rowS_v, rowS_p, List.length_nil, List.length_cons, Nat.reduceAdd, Nat.reduceEqDiff, ↓reduceIte]
 refine XWP.pub b3 _ (upd_at _ _ _) fun o3 ho3 hle3 => ?_
 have eo3 := row_obj ho3
 subst eo3
 have n43 := new_ne hb3 f4
 have f4 : upd (upd H2 b3 (some ⟨e3, [.bool (ng q), x, y], 3⟩)) b3 none b4 = some ⟨e4, [.int .i64 0, .int .i64 0, .slice none 0 0], 3⟩ := (upd_off n43).trans ((upd_off n43).trans f4)
 have h3 := addV_at V b3 (.cells ([.bool (ng q), x, y] : List Value).toArray e3 (0, 0))
 generalize upd (upd H2 b3 _) b3 none = H3 at *
 generalize addV V b3 _ = V3 at *
 refine XWP.row1 (bx := []) fun b2 e2 hb2 _ => ?_
 simp only [List.map_cons, List.map_nil, rowS_v, rowS_p, List.length_nil, List.length_cons, Nat.reduceAdd, ↓reduceIte]
 refine XWP.pub b2 _ (upd_at _ _ _) fun o2 ho2 hle2 => ?_
 have eo2 := row_obj ho2
 subst eo2
 have n42 := new_ne hb2 f4
 have f4 : upd (upd H3 b2 (some ⟨e2, [.int .i64 (n : Int), .int .i64 (n : Int), .slice A1 (flatG G n n).length c1], 3⟩)) b2 none b4 = some ⟨e4, [.int .i64 0, .int .i64 0, .slice none 0 0], 3⟩ := (upd_off n42).trans ((upd_off n42).trans f4)
 have h2 := addV_at V3 b2 (.cells ([.int .i64 (n : Int), .int .i64 (n : Int), .slice A1 (flatG G n n).length c1] : List Value).toArray e2 (0, 0))
 generalize upd (upd H3 b2 _) b2 none = H4 at *
 generalize addV V3 b2 _ = V4 at *
 have h3 := hle2 _ _ h3
 have hle := View.le_trans hle3 hle2
 have ha := ha.up hle
 have hb := hb.mono hle
 refine XWP.seq ?_
 refine Gx.a (by kernel_rfl) fun K hK => ?_
 simp only [XA]
 refine ld_mem (ldV3 h2 shapeT_26 _) ?_
 simp only [XA]
 refine call_go (by kernel_rfl) rfl (cmr_c ha hB) fun v5 V5 hV5 h5 => ?_
 subst h5
 simp only [XA, gateX, ↓reduceIte, beq_self_eq_true]
 refine ld_mem (ldV3 (hV5 _ _ h3) shapeT_49 _) ?_
 simp only [XA, gateX, ↓reduceIte, beq_self_eq_true]
 refine call_go (by kernel_rfl) rfl (cqr_c (hb.mono hV5) (hC.qf hC2)) fun v6 V6 hV6 h6 => ?_
 subst h6
 simp only [XA, gateX, ↓reduceIte, beq_self_eq_true]
 refine hK _ ?_
 refine Gx.f rfl ?_
 refine XWP.skip ?_
 have hle := View.le_trans hV5 hV6
 have h2 := hle _ _ h2
 have h3 := hle _ _ h3
 have ha := ha.up hle
 have hb := hb.mono hle
 refine Gx.a (by kernel_rfl) fun K hK => ?_
 simp only [XM, XA]
 refine ld_mem (ldV1 h2 (off := 0) rfl shapeT_3 _) ?_
 simp only [XM, XA]
 refine ld_mem (ldV1 h2 (off := 1) rfl shapeT_3 _) ?_
 simp only [XA]
 refine mkf_go [.pointer (some ⟨b2, 0, none⟩), .pointer (some ⟨b3, 0, none⟩)] rfl ?_
 simp only [XA]
 refine call_own (by kernel_rfl) rfl (filled_o V6 (lb := [.pointer (some ⟨b2, 0, none⟩), .pointer (some ⟨b3, 0, none⟩)]) n n (fun i k => G i k * q) (by kernel_rfl) (by omega) (by omega) fun V' i k hV hi hk => cscale1_c V' b2 b3 e2 e3 n i k B C G q _ x y (hV _ _ h2) (hV _ _ h3) (ha.up hV) (hb.mono hV) hi hk hB hC hC2) fun v12 V12 o12 hV12 hs12 hR12 => ?_
 obtain ⟨sl, cells, rfl, hown, hrow⟩ := hR12
 have f12 := addRow_off f4 fun g' q e => (hs12 g' q e).1
 have hown2 := own_any (H := H4) hown
 have osl := own_isOne hown2
 have hne : sl.ownBlock ≠ some b4 := fun e => by
  rcases own_parts hown with ⟨rfl, _, _⟩ | ⟨g2, cap2, rfl, hg2, _⟩
  ·cases e
  ·have : g2 = b4 := by simpa [Value.ownBlock] using e
   exact new_ne (hs12 g2 _ (addRow_only hg2)).1 f4 this.symm
 generalize addRow H4 o12 = H12 at *
 simp only [XA]
 refine st_rowA shapeT_26 (all3 rfl rfl osl) rfl f12 (by simp) ?_
 simp only [XA]
 refine hK _ ?_
 have hown3 : Own (upd H12 b4 (some ⟨e4, splice [.int .i64 0, .int .i64 0, .slice none 0 0] 0 [.int .i64 (n : Int), .int .i64 (n : Int), sl], 3⟩)) 49 3 sl (n * n) cells := by
  refine ⟨hown2.1, ?_⟩
  rcases hown2.2 with h | ⟨g2, cap2, rfl, hg2, h⟩
  ·exact .inl h
  ·exact .inr ⟨g2, cap2, rfl, by rw [upd_off fun e => hne (by rw [e]; rfl)]; exact hg2, h⟩
 refine XWP.pubR ratE_ok hown3 hrow fun H13 V13 hV13 hRw hk13 => ?_
 have f13 := (hk13 b4 hne).trans (upd_at _ _ _)
 refine XWP.ret ?_
 try simp only [thenX_ret, inBlockX_ret]
 exact ret_go _ (by simp [resAll, resV, cellsV, shapeT_26, f13, splice_all]; rfl) ⟨sl, rfl, hRw⟩
def mixE (r1 c1 r2 c2 : Int) (L1 L2 : List Raw) (W : Raw) : Int :=
 if stoB r1 c1 L1 = false ∨ stoB r2 c2 L2 = false ∨ W.ok = false ∨ ng W.q = true ∨ 0 < sgI (W.q - 1) then 1 else if r1 = r2 then 0 else 30
def mixL (n : Nat) (L1 L2 : List Raw) (q : Rat) : List Rat := flatG (fun i k => gridL (qs L1) n i k * q + gridL (qs L2) n i k * (1 - q)) n n
theorem mixE_bad {r1 c1 r2 c2 : Int} {L1 L2 : List Raw} {W : Raw} (h : stoB r1 c1 L1 = false ∨ stoB r2 c2 L2 = false ∨ W.ok = false ∨ ng W.q = true ∨ 0 < sgI (W.q - 1)) : mixE r1 c1 r2 c2 L1 L2 W = 1 := if_pos h
theorem SqM.raw {V : View} {s : Value} {n : Nat} {L : List Raw} {B : Nat} (h : Raws V s L) (ok : okR L = true) (hl : L.length = n * n) (hn : n ≤ 60) (hq : ∀ x ∈ qs L, QB B x) : SqM V s n B (gridL (qs L) n) := by
 have hl' : (qs L).length = n * n := by rw [qs_len]; exact hl
 refine ⟨by rw [flatG_gridL hl']; exact h.rats ok, hn, fun i k hi hk => ?_⟩
 have hp := pos_lt hi hk
 exact hq _ (cf_mem (l := qs L) (i := i * n + k) (by omega))
set_option maxHeartbeats 4000000 in
set_option maxRecDepth 100000 in
theorem kmix_c (V : View) (s1 s2 u : Value) (r1 c1 r2 c2 : Int) (L1 L2 : List Raw) (W : Raw) {B : Nat} (h1 : Raws V s1 L1) (h2 : Raws V s2 L2) (hu : rawE V u W) (f1 : fitR L1) (f2 : fitR L2) (fw : W.fit) (l1 : L1.length ≤ 100000) (l2 : L2.length ≤ 100000) (q1 : okR L1 = true → ∀ x ∈ qs L1, QB B x) (q2 : okR L2 = true → ∀ x ∈ qs L2, QB B x) (qw : W.ok = true → QB B W.q) (hB : 1001 * (2 * B + 4) ≤ 17592186044416 := by omega) :
  Spec Tryz.prog 19 [.agg #[.int .i64 r1, .int .i64 c1, s1], .agg #[.int .i64 r2, .int .i64 c2, s2], u] V fun v' V' =>
   (mixE r1 c1 r2 c2 L1 L2 W ≠ 0 → v' = .tuple #[.agg #[.int .i64 0, .int .i64 0, .slice none 0 0], .int .i64 (mixE r1 c1 r2 c2 L1 L2 W)]) ∧
   (mixE r1 c1 r2 c2 L1 L2 W = 0 → ∃ w, v' = .tuple #[.agg #[.int .i64 r1, .int .i64 r1, w], .int .i64 0] ∧ Rats V' w (mixL r1.toNat L1 L2 W.q)) := by
 have hu0 : RawAt V u W.m W.nd W.dd := hu
 obtain ⟨A1, k1, rfl, _, _⟩ := h1.form
 obtain ⟨A2, k2, rfl, _, _⟩ := h2.form
 obtain ⟨n0, d0, rfl, kn, kd⟩ := hu
 have on := kn.one
 have od := kd.one
 refine (Spec.enter Tryz.func19 rfl fun Γ => ?_)
 simp only [Tryz.ntmps19, List.map_cons, List.map_nil, List.length_cons, List.length_nil, Nat.reduceAdd, Nat.reduceSub, List.replicate_succ, List.replicate_zero, List.cons_append, List.nil_append]
 refine Gx.a (by kernel_rfl) fun K hK => ?_
 simp only [XM, XA, Nat.reduceAdd]
 refine hK _ ?_
 have hbad : ∀ {e : Int}, e = 1 → mixE r1 c1 r2 c2 L1 L2 W = 1 → ∀ V', ((mixE r1 c1 r2 c2 L1 L2 W ≠ 0 → (Value.tuple #[.agg #[.int .i64 0, .int .i64 0, .slice none 0 0], .int .i64 e] : Value) = .tuple #[.agg #[.int .i64 0, .int .i64 0, .slice none 0 0], .int .i64 (mixE r1 c1 r2 c2 L1 L2 W)]) ∧
   (mixE r1 c1 r2 c2 L1 L2 W = 0 → ∃ w, (Value.tuple #[.agg #[.int .i64 0, .int .i64 0, .slice none 0 0], .int .i64 e] : Value) = .tuple #[.agg #[.int .i64 r1, .int .i64 r1, w], .int .i64 0] ∧ Rats V' w (mixL r1.toNat L1 L2 W.q))) := fun he h V' => ⟨fun _ => by rw [h, he], fun h' => by rw [h] at h'; exact absurd h' (by decide)⟩
 refine XWP.cut (fun s => ∃ (V2 : View), StIs (fun Z => [Z 0,Z 1,Z 2, .p 0 0, .p 1 0, .p 2 0, .p 3 0, Z 7,Z 8,Z 9,Z 10,Z 11,Z 12,Z 13,Z 14,Z 15,Z 16,Z 17,Z 18,Z 19,Z 20,Z 21,Z 22,Z 23,Z 24,Z 25,Z 26,Z 27,Z 28,Z 29,Z 30,Z 31,Z 32,Z 33,Z 34,Z 35,Z 36,Z 37,Z 38,Z 39,Z 40,Z 41,Z 42,Z 43,Z 44,Z 45,Z 46,Z 47,Z 48,Z 49,Z 50,Z 51,Z 52,Z 53,Z 54,Z 55,Z 56,Z 57,Z 58,Z 59,Z 60]) [[.int .i64 r1, .int .i64 c1, .slice A1 L1.length k1], [.int .i64 r2, .int .i64 c2, .slice A2 L2.length k2], [.bool W.m, n0, d0], [.int .i64 0, .int .i64 0, .slice none 0 0]] (fun _ => none) V2 s ∧ V.le V2 ∧ stoB r1 c1 L1 = true ∧ stoB r2 c2 L2 = true ∧ W.ok = true ∧ ng W.q = false ∧ ¬ 0 < sgI (W.q - 1)) ?_ ?_
 ·(refine XWP.drw [0, 1, 2, 3, 4, 5, 6, 7, 8, 9, 10, 11, 12, 13, 14, 15, 16, 17, 18, 19, 20, 21, 22] (by kernel_rfl) (by kernel_rfl) (by kernel_rfl) fun K hK => ?_) <;> dsimp only [pickOps, List.getElem?_cons_zero, List.getElem?_cons_succ]
  simp only [XM, XA, Nat.reduceAdd, Nat.reduceLeDiff, ↓reduceIte]
  refine call_go (by kernel_rfl) rfl (csto_c _ _ r1 c1 L1 B h1 f1 l1 q1 (by omega)) fun v1 V1 hV1 g1 => ?_
  subst g1
  cases e1 : stoB r1 c1 L1
  ·simp only [XA, gateX, ↓reduceIte]
   refine hK _ ?_
   refine Gx.t rfl ?_
   refine Gx.a (by kernel_rfl) fun K hK => ?_
   simp only []
   refine bd_go (by kernel_rfl) #[] (by simp) bd_mtx0 ?_
   simp only [XA]
   refine st_mat shapeT_26 rfl rfl rfl rfl rfl ?_
   simp only [XA]
   refine hK _ (XWP.ret ?_)
   try simp only [thenX_ret, inBlockX_ret]
   exact ret_mat2C rfl rfl rfl rfl (hbad rfl (mixE_bad (.inl e1)) _)
  simp only [XM, XA, gateX, Nat.reduceAdd, Nat.reduceLeDiff, ↓reduceIte, beq_self_eq_true]
  refine call_go (by kernel_rfl) rfl (csto_c _ _ r2 c2 L2 B (h2.up hV1) f2 l2 q2 (by omega)) fun v2 V2 hV2 g2 => ?_
  subst g2
  cases e2 : stoB r2 c2 L2
  ·simp only [XA, gateX, ↓reduceIte, beq_self_eq_true]
   refine hK _ ?_
   refine Gx.t rfl ?_
   refine Gx.a (by kernel_rfl) fun K hK => ?_
   simp only []
   refine bd_go (by kernel_rfl) #[] (by simp) bd_mtx0 ?_
   simp only [XA]
   refine st_mat shapeT_26 rfl rfl rfl rfl rfl ?_
   simp only [XA]
   refine hK _ (XWP.ret ?_)
   try simp only [thenX_ret, inBlockX_ret]
   exact ret_mat2C rfl rfl rfl rfl (hbad rfl (mixE_bad (.inr (.inl e2))) _)
  simp only [XA, XB, gateX, Nat.reduceAdd, Nat.reduceLeDiff, ↓reduceIte, beq_self_eq_true]
  have hV12 := View.le_trans hV1 hV2
  refine call_go (by kernel_rfl) rfl (qright_c _ _ W.m W.nd W.dd (RawAt.mono hu0 hV12) fw.1 fw.2) fun v3 V3 hV3 g3 => ?_
  have g3 : v3 = .bool W.ok := g3
  subst g3
  cases e3 : W.ok
  ·simp only [XA, gateX, ↓reduceIte, beq_self_eq_true]
   refine hK _ ?_
   refine Gx.t rfl ?_
   refine Gx.a (by kernel_rfl) fun K hK => ?_
   simp only []
   refine bd_go (by kernel_rfl) #[] (by simp) bd_mtx0 ?_
   simp only [XA]
   refine st_mat shapeT_26 rfl rfl rfl rfl rfl ?_
   simp only [XA]
   refine hK _ (XWP.ret ?_)
   try simp only [thenX_ret, inBlockX_ret]
   exact ret_mat2C rfl rfl rfl rfl (hbad rfl (mixE_bad (.inr (.inr (.inl e3)))) _)
  have hV13 := View.le_trans hV12 hV3
  have hwc : RatC V (.agg #[.bool W.m, n0, d0]) W.q := RawAt.rat hu0 e3
  have em : W.m = ng W.q := by
   obtain ⟨x, y, e, _, _⟩ := hwc.form
   simp at e
   exact e.1
  cases e4 : ng W.q
  rotate_left
  ·rw [e4] at em
   simp only [XA, XB, gateX, ↓reduceIte, beq_self_eq_true, em]
   refine hK _ ?_
   refine Gx.t rfl ?_
   refine Gx.a (by kernel_rfl) fun K hK => ?_
   simp only []
   refine bd_go (by kernel_rfl) #[] (by simp) bd_mtx0 ?_
   simp only [XA]
   refine st_mat shapeT_26 rfl rfl rfl rfl rfl ?_
   simp only [XA]
   refine hK _ (XWP.ret ?_)
   try simp only [thenX_ret, inBlockX_ret]
   exact ret_mat2C rfl rfl rfl rfl (hbad rfl (mixE_bad (.inr (.inr (.inr (.inl e4))))) _)
  rw [e4] at em
  simp only [XA, XB, gateX, Nat.reduceAdd, Nat.reduceLeDiff, ↓reduceIte, beq_self_eq_true, em]
  refine call_go (by kernel_rfl) rfl (qone_c _) fun v4 V4 hV4 g4 => ?_
  simp only [XA, gateX, ↓reduceIte, beq_self_eq_true]
  have hwc4 := hwc.mono (View.le_trans hV13 hV4)
  rw [em] at hwc4
  refine call_go (by kernel_rfl) rfl (qcmp_c _ _ _ _ _ hwc4 g4 ((qw e3).qf (by omega)) ((QB_one 0).qf (by omega))) fun v5 V5 hV5 g5 => ?_
  subst g5
  by_cases e5 : 0 < sgI (W.q - 1)
  ·have b5 : decide (0 < sgI (W.q - 1)) = true := decide_eq_true e5
   simp only [XA, XB, gateX, ↓reduceIte, beq_self_eq_true, b5]
   refine hK _ ?_
   refine Gx.t rfl ?_
   refine Gx.a (by kernel_rfl) fun K hK => ?_
   simp only []
   refine bd_go (by kernel_rfl) #[] (by simp) bd_mtx0 ?_
   simp only [XA]
   refine st_mat shapeT_26 rfl rfl rfl rfl rfl ?_
   simp only [XA]
   refine hK _ (XWP.ret ?_)
   try simp only [thenX_ret, inBlockX_ret]
   exact ret_mat2C rfl rfl rfl rfl (hbad rfl (mixE_bad (.inr (.inr (.inr (.inr e5))))) _)
  ·have b5 : decide (0 < sgI (W.q - 1)) = false := decide_eq_false e5
   simp only [XA, XB, gateX, ↓reduceIte, beq_self_eq_true, b5]
   refine hK _ ?_
   refine Gx.f rfl ?_
   refine XWP.skip ?_
   rw [em]
   exact ⟨V5, StIs.of (by exact rfl), View.le_trans hV13 (View.le_trans hV4 hV5), by first | exact e1 | rfl, by first | exact e2 | rfl, by first | exact e3 | rfl, e4, e5⟩
 rintro s ⟨V2, hs, hV2, e1, e2, e3, e4, e5⟩
 obtain ⟨z, rfl⟩ := hs.out
 try dsimp only
 clear hs
 have hgood : mixE r1 c1 r2 c2 L1 L2 W = if r1 = r2 then 0 else 30 := if_neg (by rw [e1, e2, e3, e4]; simp; omega)
 have hwc : RatC V (.agg #[.bool W.m, n0, d0]) W.q := RawAt.rat hu0 e3
 have em : W.m = ng W.q := by
  obtain ⟨x, y, e, _, _⟩ := hwc.form
  simp at e
  exact e.1
 refine XWP.seq ?_
 by_cases er : r1 = r2
 rotate_left
 ·have b6 : (!decide (r1 = r2)) = true := by rw [decide_eq_false er]; rfl
  rw [if_neg er] at hgood
  refine Gx.a (by kernel_rfl) fun K hK => ?_
  simp only [XM, XA, XB, b6]
  refine hK _ ?_
  refine Gx.t rfl ?_
  refine Gx.a (by kernel_rfl) fun K hK => ?_
  simp only []
  refine bd_go (by kernel_rfl) #[] (by simp) bd_mtx0 ?_
  simp only [XA]
  refine st_mat shapeT_26 rfl rfl rfl rfl rfl ?_
  simp only [XA]
  refine hK _ (XWP.ret ?_)
  try simp only [thenX_ret, inBlockX_ret]
  exact ret_mat2C rfl rfl rfl rfl ⟨fun _ => by rw [hgood], fun h => by rw [hgood] at h; exact absurd h (by decide)⟩
 have b6 : (!decide (r1 = r2)) = false := by rw [decide_eq_true er]; rfl
 rw [if_pos er] at hgood
 refine Gx.a (by kernel_rfl) fun K hK => ?_
 simp only [XM, XA, XB, b6]
 refine hK _ ?_
 refine Gx.f rfl ?_
 refine XWP.skip ?_
 subst er
 obtain ⟨n, er, rfl, hn, ll1, ok1, _⟩ := stoB_parts e1
 subst er
 obtain ⟨n', er', rfl, _, ll2, ok2, _⟩ := stoB_parts e2
 have en : n' = n := by omega
 subst en
 have m1 := SqM.raw (h1.up hV2) ok1 ll1 hn (q1 ok1)
 have m2 := SqM.raw (h2.up hV2) ok2 ll2 hn (q2 ok2)
 have hw2 := hwc.mono hV2
 have qw1 : QB (B + 2) (1 - W.q) := ((QB_one 0).sub (qw e3)).mono (by omega)
 refine Gx.a (by kernel_rfl) fun K hK => ?_
 simp only [XM, XA, XB, Nat.reduceAdd, Nat.reduceLeDiff, ↓reduceIte]
 refine call_go (by kernel_rfl) rfl (cscale_c _ _ _ n' B B _ W.q m1 hw2 (by omega) (qw e3) (by omega)) fun v3 V3 hV3 g3 => ?_
 obtain ⟨w3, rfl, g3⟩ := g3
 obtain ⟨A3, k3, rfl, _, _⟩ := g3.form
 simp only [XM, XA, Nat.reduceAdd]
 refine st_mat shapeT_26 rfl rfl rfl rfl rfl ?_
 simp only [XA]
 refine hK _ ?_
 rw [em] at *
 refine XWP.cut (fun s => ∃ (V6 : View) (w6 : Value), StIs (fun Z => [Z 0,Z 1,Z 2, .p 0 0, .p 1 0, .p 2 0, .p 3 0, Z 7, .p 4 0, Z 9, .p 5 0, Z 11,Z 12,Z 13,Z 14,Z 15,Z 16,Z 17,Z 18,Z 19,Z 20,Z 21,Z 22,Z 23,Z 24,Z 25,Z 26,Z 27,Z 28,Z 29,Z 30,Z 31,Z 32,Z 33,Z 34,Z 35,Z 36,Z 37,Z 38,Z 39,Z 40,Z 41,Z 42,Z 43,Z 44,Z 45,Z 46,Z 47,Z 48,Z 49,Z 50,Z 51,Z 52,Z 53,Z 54,Z 55,Z 56,Z 57,Z 58,Z 59,Z 60]) [[.int .i64 (n' : Int), .int .i64 (n' : Int), .slice A1 L1.length k1], [.int .i64 (n' : Int), .int .i64 (n' : Int), .slice A2 L2.length k2], [.bool (ng W.q), n0, d0], [.int .i64 0, .int .i64 0, .slice none 0 0], [.int .i64 (n' : Int), .int .i64 (n' : Int), .slice A3 (flatG (fun i k => gridL (qs L1) n' i k * W.q) n' n').length k3], [.int .i64 (n' : Int), .int .i64 (n' : Int), w6]] (fun _ => none) V6 s ∧ V3.le V6 ∧ Rats V6 w6 (flatG (fun i k => gridL (qs L2) n' i k * (1 - W.q)) n' n')) ?_ ?_
 ·(refine XWP.drwT1 (.lin [0, 2] (.two (.lin [1] (.two (.lin [3] (.two (.lin [4, 5, 6, 7, 8, 9, 10] .nil) (.lin [8, 4, 5, 6, 7, 9, 10] .nil))) (.lin [8, 3, 4, 5, 6, 7, 9, 10] .nil))) (.lin [8, 1, 3, 4, 5, 6, 7, 9, 10] .nil))) (by kernel_rfl) (by kernel_rfl) (by kernel_rfl) fun K hK => ?_)
  simp only [XM, XA, XB, Nat.reduceAdd, Nat.reduceLeDiff, ↓reduceIte]
  repeat' first
   | refine And.intro ?_ ?_
   | refine call_go (by kernel_rfl) rfl (qone_c _) fun v4 V4 hV4 g4 => ?_
   | (refine call_go (by kernel_rfl) rfl (qsub_c _ _ _ _ _ g4 ((hw2.mono hV3).mono hV4) ((QB_one 0).qf (by omega)) ((qw e3).qf (by omega))) fun v5 V5 hV5 g5 => ?_)
   | (refine call_go (by kernel_rfl) rfl (cscale_c _ _ _ n' B (B + 2) _ (1 - W.q) (((m2.up hV3).up hV4).up hV5) g5 (by omega) qw1 (by omega)) fun v6 V6 hV6 g6 => ?_; obtain ⟨w6, rfl, g6⟩ := g6; obtain ⟨A6, k6, rfl, _, _⟩ := g6.form)
   | refine st_mat shapeT_26 rfl rfl rfl rfl rfl ?_
   | exact hK _ ⟨V6, _, StIs.of (by exact rfl), View.le_trans hV4 (View.le_trans hV5 hV6), g6⟩
   | simp only [XM, XA, Nat.reduceAdd]
 rintro s ⟨V6, w6, hs, hV6, g6⟩
 obtain ⟨z, rfl⟩ := hs.out
 try dsimp only
 clear hs
 have n1 : SqM V6 (.slice A3 (flatG (fun i k => gridL (qs L1) n' i k * W.q) n' n').length k3) n' (2 * B) (fun i k => gridL (qs L1) n' i k * W.q) := ⟨g3.up hV6, hn, fun i k hi hk => ((m1.hq i k hi hk).mul (qw e3)).mono (by omega)⟩
 have n2 : SqM V6 w6 n' (2 * B + 2) (fun i k => gridL (qs L2) n' i k * (1 - W.q)) := ⟨g6, hn, fun i k hi hk => ((m2.hq i k hi hk).mul qw1).mono (by omega)⟩
 refine Gx.a (by kernel_rfl) fun K hK => ?_
 simp only [XM, XA, Nat.reduceAdd, Nat.reduceLeDiff, ↓reduceIte]
 refine call_go (by kernel_rfl) rfl (cmadd_c _ _ _ n' (2 * B) (2 * B + 2) _ _ n1 n2 (by omega) (by omega)) fun v7 V7 hV7 g7 => ?_
 obtain ⟨w7, rfl, g7⟩ := g7
 obtain ⟨A7, k7, rfl, _, _⟩ := g7.form
 simp only [XA]
 refine st_mat shapeT_26 rfl rfl rfl rfl rfl ?_
 simp only [XA]
 refine hK _ (XWP.ret ?_)
 try simp only [thenX_ret, inBlockX_ret]
 exact ret_mat2C rfl rfl rfl rfl ⟨fun h => absurd hgood h, fun _ => ⟨_, rfl, g7⟩⟩
theorem rat_len {q : Rat} (h : q ≠ 0) : decide ((0 : Int) < ((dg q.num.natAbs).length : Int)) = true := by
 have hlen : 0 < (dg q.num.natAbs).length := by
  rcases Nat.eq_zero_or_pos (dg q.num.natAbs).length with e | e
  ·exact absurd ((rat_zero_iff _).2 (dg_nil e)) h
  ·exact e
 exact decide_eq_true (by omega)
theorem RatC.form2 {V : View} {v : Value} {q : Rat} (h : RatC V v q) : ∃ A c e, v = .agg #[.bool (ng q), .slice A (dg q.num.natAbs).length c, e] ∧ isOne e = true := by
 obtain ⟨n, d, e, h1, h2⟩ := h
 obtain ⟨A, c, rfl, _, _⟩ := NatAt.form h1
 exact ⟨A, c, d, e, h2.one⟩
set_option maxRecDepth 100000 in
set_option maxHeartbeats 8000000 in
theorem ctimes1_c (V : View) (b2 b3 e2 e3 n i k B C : Nat) (G H : Grid) (s1 s2 : Value) (h2 : V b2 = some (.cells ([.int .i64 (n : Int), .int .i64 (n : Int), s1] : List Value).toArray e2 (0, 0))) (h3 : V b3 = some (.cells ([.int .i64 (n : Int), .int .i64 (n : Int), s2] : List Value).toArray e3 (0, 0))) (ha : SqM V s1 n B G) (hb : SqM V s2 n C H) (hi : i < n) (hk : k < n) {N : Nat} (hn5 : n ≤ N) (hfit : N * (B + C + 1) ≤ 17592186044416) :
  Spec Tryz.prog 103 [.int .i64 (i : Int), .int .i64 (k : Int), .pointer (some ⟨b2, 0, none⟩), .pointer (some ⟨b3, 0, none⟩)] V fun v' V' => RatC V' v' (gmul G H n i k) := by
 have hn := ha.hn
 have hnn := sq_le hn
 have la := flatG_len G n n
 have lb := flatG_len H n n
 have hva := ha.hv
 have hvb := hb.hv
 obtain ⟨A1, c1, rfl, hc1, hm1⟩ := hva.form
 obtain ⟨A2, c2, rfl, hc2, hm2⟩ := hvb.form
 have hpos := pos_lt hi hk
 obtain ⟨b, o, rfl⟩ := SlAt.addr hva (by omega)
 obtain ⟨b', o', rfl⟩ := SlAt.addr hvb (by omega)
 have hBC : B + C + 1 ≤ 17592186044416 := Nat.le_trans (Nat.le_mul_of_pos_left (B + C + 1) (show 0 < N by omega)) hfit
 have hq1 : ∀ j, j ≤ n → QF (Sm (fun t => G i t * H t k) j) := fun j hj => (Sm_QB j fun t ht => (ha.hq i t hi (by omega)).mul (hb.hq t k (by omega) hk)).qf (Nat.le_trans (Nat.mul_le_mul_right _ (show j ≤ N by omega)) hfit)
 refine (Spec.enter Tryz.func103 rfl fun Γ => ?_)
 simp only [Tryz.ntmps103, List.map_cons, List.map_nil, List.length_cons, List.length_nil, Nat.reduceAdd, Nat.reduceSub, List.replicate_succ, List.replicate_zero, List.cons_append, List.nil_append]
 refine Gx.a (by kernel_rfl) fun K hK => ?_
 simp only [XA, XB]
 refine hK _ ?_
 refine Gx.a (by kernel_rfl) fun K hK => ?_
 simp only [XA]
 refine call_go (by kernel_rfl) rfl (qzero_c _) fun v1 V1 hV1 h1 => ?_
 obtain ⟨zx, zy, rfl, p1, p2⟩ := h1.form
 simp only [XA, XB]
 refine st_rat rfl rfl rfl p1 p2 ?_
 simp only [XA]
 refine hK _ ?_
 refine XWP.cutD 2 (fun s => ∃ (V5 : View) (m : Bool) (x y : Value), StIs (fun Z => [.v (.int .i64 (i : Int)), .v (.int .i64 (k : Int)), .v (.pointer (some ⟨b2, 0, none⟩)), .v (.pointer (some ⟨b3, 0, none⟩)), Z 4,Z 5, .p 0 0, .p 1 0, Z 8,Z 9,Z 10,Z 11,Z 12,Z 13,Z 14,Z 15,Z 16,Z 17,Z 18,Z 19,Z 20,Z 21,Z 22,Z 23,Z 24,Z 25,Z 26,Z 27,Z 28,Z 29,Z 30,Z 31,Z 32,Z 33,Z 34,Z 35,Z 36,Z 37,Z 38,Z 39,Z 40,Z 41,Z 42,Z 43,Z 44,Z 45,Z 46,Z 47,Z 48,Z 49,Z 50,Z 51,Z 52,Z 53]) [[.bool false, .slice none 0 0, .slice none 0 0], [.bool m, x, y]] (fun _ => none) V5 s ∧ RatC V5 (.agg #[.bool m, x, y]) (gmul G H n i k) ∧ isOne x = true ∧ isOne y = true) ?_ ?_
 ·refine Gx.a (by kernel_rfl) fun K hK => ?_
  simp only [XM, XA]
  refine ld_mem (ldV1 (hV1 _ _ h2) (off := 1) rfl shapeT_3 _) ?_
  simp only [XA]
  refine hK _ ?_
  clear hK
  refine XWP.block ?_
  refine XWP.loopD 2 (fun q s => ∃ (j : Nat) (V5 : View) (m : Bool) (x y : Value), StIs (fun Z => [.v (.int .i64 (i : Int)), .v (.int .i64 (k : Int)), .v (.pointer (some ⟨b2, 0, none⟩)), .v (.pointer (some ⟨b3, 0, none⟩)), Z 4,Z 5, .p 0 0, .p 1 0, Z 8,Z 9,Z 10,Z 11,Z 12, .v (.int .i64 (n : Int)), .v (.int .i64 (j : Int)), Z 15,Z 16,Z 17,Z 18,Z 19,Z 20,Z 21,Z 22,Z 23,Z 24,Z 25,Z 26,Z 27,Z 28,Z 29,Z 30,Z 31,Z 32,Z 33,Z 34,Z 35,Z 36,Z 37,Z 38,Z 39,Z 40,Z 41,Z 42,Z 43,Z 44,Z 45,Z 46,Z 47,Z 48,Z 49,Z 50,Z 51,Z 52,Z 53]) [[.bool false, .slice none 0 0, .slice none 0 0], [.bool m, x, y]] (fun _ => none) V5 s ∧ q + j = n ∧ V.le V5 ∧ RatC V5 (.agg #[.bool m, x, y]) (Sm (fun t => G i t * H t k) j) ∧ isOne x = true ∧ isOne y = true) n ⟨0, V1, _, zx, zy, StIs.of (by exact rfl), by omega, hV1, h1, p1, p2⟩ ?_
  rintro q s ⟨j, V5, m, x, y, hs, hq, hV5, hx5, o1, o2⟩
  obtain ⟨z, rfl⟩ := hs.out
  try dsimp only
  clear hs h1 p1 p2
  by_cases hj : j < n
  rotate_left
  ·obtain rfl : j = n := by omega
   have b1 : decide ((j : Int) < (j : Int)) = false := decide_eq_false (by omega)
   refine Gx.a (by kernel_rfl) fun K hK => ?_
   simp only [XA, XB, b1]
   refine hK _ ?_
   refine XWP.seq (Gx.f rfl ?_)
   refine XWP.exit ?_
   exact fun f => ⟨V5, m, x, y, StIs.of (by exact rfl), hx5, o1, o2⟩
  have b1 : decide ((j : Int) < (n : Int)) = true := decide_eq_true (by omega)
  refine Gx.a (by kernel_rfl) fun K hK => ?_
  simp only [XA, XB, b1]
  refine hK _ ?_
  refine XWP.seq (Gx.t rfl ?_)
  refine XWP.skip ?_
  have h2 := hV5 _ _ h2
  have h3 := hV5 _ _ h3
  have hva := hva.up hV5
  have hvb := hvb.up hV5
  have w1 := wr_mul (i := i) (C := n) (by omega) (by omega)
  have w2 := wr_add (p := i * n) (k := j) (by have := pos_lt hi hj; omega) (by omega)
  have w3 := wr_mul (i := j) (C := n) (by omega) (by omega)
  have w4 := wr_add (p := j * n) (k := k) (by have := pos_lt hj hk; omega) (by omega)
  have q1 := pos_lt hi hj
  have q2 := pos_lt hj hk
  obtain ⟨x1, y1, z1, hx1, ⟨r1, r2, r3⟩, hld1⟩ := Rats.get hva (i * n + j) (by omega)
  obtain ⟨x2, y2, z2, hx2, ⟨r4, r5, r6⟩, hld2⟩ := Rats.get hvb (j * n + k) (by omega)
  rw [flatG_at G hi hj] at hx1
  rw [flatG_at H hj hk] at hx2
  obtain ⟨A5, c5, e5, ev5, _⟩ := hx1.form2
  cases ev5
  obtain ⟨A6, c6, e6, ev6, _⟩ := hx2.form2
  cases ev6
  refine XWP.cutD 2 (fun s => ∃ (V6 : View) (m : Bool) (x y : Value), StIs (fun Z => [.v (.int .i64 (i : Int)), .v (.int .i64 (k : Int)), .v (.pointer (some ⟨b2, 0, none⟩)), .v (.pointer (some ⟨b3, 0, none⟩)), Z 4,Z 5, .p 0 0, .p 1 0, Z 8,Z 9,Z 10,Z 11,Z 12, .v (.int .i64 (n : Int)), .v (.int .i64 (j : Int)), Z 15,Z 16,Z 17,Z 18,Z 19,Z 20,Z 21,Z 22,Z 23,Z 24,Z 25,Z 26,Z 27,Z 28,Z 29,Z 30,Z 31,Z 32,Z 33,Z 34,Z 35,Z 36,Z 37,Z 38,Z 39,Z 40,Z 41,Z 42,Z 43,Z 44,Z 45,Z 46,Z 47,Z 48,Z 49,Z 50,Z 51,Z 52,Z 53]) [[.bool false, .slice none 0 0, .slice none 0 0], [.bool m, x, y]] (fun _ => none) V6 s ∧ V5.le V6 ∧ RatC V6 (.agg #[.bool m, x, y]) (Sm (fun t => G i t * H t k) (j + 1)) ∧ isOne x = true ∧ isOne y = true) ?_ ?_
  ·clear hK
   refine XWP.block ?_
   refine Gx.a (by kernel_rfl) fun K hK => ?_
   simp only [XA]
   refine hK _ ?_
   refine XWP.cut (fun s => StIs (fun Z => [.v (.int .i64 (i : Int)), .v (.int .i64 (k : Int)), .v (.pointer (some ⟨b2, 0, none⟩)), .v (.pointer (some ⟨b3, 0, none⟩)), Z 4,Z 5, .p 0 0, .p 1 0, Z 8, .p 2 0, .p 3 0, Z 11,Z 12, .v (.int .i64 (n : Int)), .v (.int .i64 (j : Int)), Z 15,Z 16,Z 17,Z 18,Z 19,Z 20,Z 21,Z 22,Z 23,Z 24,Z 25,Z 26,Z 27,Z 28,Z 29,Z 30,Z 31,Z 32,Z 33,Z 34,Z 35,Z 36,Z 37,Z 38,Z 39,Z 40,Z 41,Z 42,Z 43,Z 44,Z 45,Z 46,Z 47,Z 48,Z 49,Z 50,Z 51,Z 52,Z 53]) [[.bool false, .slice none 0 0, .slice none 0 0], [.bool m, x, y], [.bool (ng (G i j)), .slice A5 (dg (G i j).num.natAbs).length c5, z1], [.bool (ng (H j k)), .slice A6 (dg (H j k).num.natAbs).length c6, z2]] (fun _ => none) V5 s ∨ StIs (fun Z => [.v (.int .i64 (i : Int)), .v (.int .i64 (k : Int)), .v (.pointer (some ⟨b2, 0, none⟩)), .v (.pointer (some ⟨b3, 0, none⟩)), Z 4,Z 5, .p 0 0, .p 1 0, Z 8, .p 3 0, .p 2 0, Z 11,Z 12, .v (.int .i64 (n : Int)), .v (.int .i64 (j : Int)), Z 15,Z 16,Z 17,Z 18,Z 19,Z 20,Z 21,Z 22,Z 23,Z 24,Z 25,Z 26,Z 27,Z 28,Z 29,Z 30,Z 31,Z 32,Z 33,Z 34,Z 35,Z 36,Z 37,Z 38,Z 39,Z 40,Z 41,Z 42,Z 43,Z 44,Z 45,Z 46,Z 47,Z 48,Z 49,Z 50,Z 51,Z 52,Z 53]) [[.bool false, .slice none 0 0, .slice none 0 0], [.bool m, x, y], [.bool (ng (H j k)), .slice A6 (dg (H j k).num.natAbs).length c6, z2], [.bool (ng (G i j)), .slice A5 (dg (G i j).num.natAbs).length c5, z1]] (fun _ => none) V5 s) ?_ ?_
   ·(refine XWP.drwT1 (.lin [0, 1, 2, 3, 4, 5, 6, 7, 8, 9, 10, 12, 13, 16] (.two (.lin [11] (.two (.lin [14, 15, 17, 18] (.two (.lin [19] (.two (.lin [20, 21, 22, 23] .nil) (.lin [21, 20, 22, 23] .nil))) (.two (.lin [20] (.two (.lin [19, 21, 22, 23] .nil) (.lin [21] (.two (.lin [19, 22, 23] .nil) (.lin [22, 19, 23] .nil))))) (.lin [21] (.two (.lin [19, 20, 22, 23] .nil) (.lin [20] (.two (.lin [19, 22, 23] .nil) (.lin [22, 19, 23] .nil)))))))) (.two (.lin [20] (.two (.lin [14, 15, 17, 18] (.two (.lin [19, 21, 22, 23] .nil) (.lin [21] (.two (.lin [19, 22, 23] .nil) (.lin [22, 19, 23] .nil))))) (.lin [21] (.two (.lin [14, 15, 17, 18] (.two (.lin [19, 22, 23] .nil) (.lin [22, 19, 23] .nil))) (.lin [22, 14, 15, 17, 18, 19, 23] .nil))))) (.lin [21] (.two (.lin [14, 15, 17, 18] (.two (.lin [19, 20, 22, 23] .nil) (.lin [20] (.two (.lin [19, 22, 23] .nil) (.lin [22, 19, 23] .nil))))) (.lin [20] (.two (.lin [14, 15, 17, 18] (.two (.lin [19, 22, 23] .nil) (.lin [22, 19, 23] .nil))) (.lin [22, 14, 15, 17, 18, 19, 23] .nil)))))))) (.two (.lin [14, 15, 17] (.two (.lin [11, 18] (.two (.lin [19] (.two (.lin [20, 21, 22, 23] .nil) (.lin [21, 20, 22, 23] .nil))) (.two (.lin [20] (.two (.lin [19, 21, 22, 23] .nil) (.lin [21] (.two (.lin [19, 22, 23] .nil) (.lin [22, 19, 23] .nil))))) (.lin [21] (.two (.lin [19, 20, 22, 23] .nil) (.lin [20] (.two (.lin [19, 22, 23] .nil) (.lin [22, 19, 23] .nil)))))))) (.two (.lin [20] (.two (.lin [11, 18] (.two (.lin [19, 21, 22, 23] .nil) (.lin [21] (.two (.lin [19, 22, 23] .nil) (.lin [22, 19, 23] .nil))))) (.lin [21] (.two (.lin [11, 18] (.two (.lin [19, 22, 23] .nil) (.lin [22, 19, 23] .nil))) (.lin [22, 11, 18, 19, 23] .nil))))) (.lin [21] (.two (.lin [11, 18] (.two (.lin [19, 20, 22, 23] .nil) (.lin [20] (.two (.lin [19, 22, 23] .nil) (.lin [22, 19, 23] .nil))))) (.lin [20] (.two (.lin [11, 18] (.two (.lin [19, 22, 23] .nil) (.lin [22, 19, 23] .nil))) (.lin [22, 11, 18, 19, 23] .nil)))))))) (.two (.lin [20] (.two (.lin [11] (.two (.lin [14, 15, 17, 18] (.two (.lin [19, 21, 22, 23] .nil) (.lin [21] (.two (.lin [19, 22, 23] .nil) (.lin [22, 19, 23] .nil))))) (.lin [21] (.two (.lin [14, 15, 17, 18] (.two (.lin [19, 22, 23] .nil) (.lin [22, 19, 23] .nil))) (.lin [22, 14, 15, 17, 18, 19, 23] .nil))))) (.two (.lin [14, 15, 17] (.two (.lin [11, 18] (.two (.lin [19, 21, 22, 23] .nil) (.lin [21] (.two (.lin [19, 22, 23] .nil) (.lin [22, 19, 23] .nil))))) (.lin [21] (.two (.lin [11, 18] (.two (.lin [19, 22, 23] .nil) (.lin [22, 19, 23] .nil))) (.lin [22, 11, 18, 19, 23] .nil))))) (.lin [21] (.two (.lin [11] (.two (.lin [14, 15, 17, 18] (.two (.lin [19, 22, 23] .nil) (.lin [22, 19, 23] .nil))) (.lin [22, 14, 15, 17, 18, 19, 23] .nil))) (.two (.lin [14, 15, 17] (.two (.lin [11, 18] (.two (.lin [19, 22, 23] .nil) (.lin [22, 19, 23] .nil))) (.lin [22, 11, 18, 19, 23] .nil))) (.lin [22, 11, 14, 15, 17, 18, 19, 23] .nil))))))) (.lin [21] (.two (.lin [11] (.two (.lin [14, 15, 17, 18] (.two (.lin [19, 20, 22, 23] .nil) (.lin [20] (.two (.lin [19, 22, 23] .nil) (.lin [22, 19, 23] .nil))))) (.lin [20] (.two (.lin [14, 15, 17, 18] (.two (.lin [19, 22, 23] .nil) (.lin [22, 19, 23] .nil))) (.lin [22, 14, 15, 17, 18, 19, 23] .nil))))) (.two (.lin [14, 15, 17] (.two (.lin [11, 18] (.two (.lin [19, 20, 22, 23] .nil) (.lin [20] (.two (.lin [19, 22, 23] .nil) (.lin [22, 19, 23] .nil))))) (.lin [20] (.two (.lin [11, 18] (.two (.lin [19, 22, 23] .nil) (.lin [22, 19, 23] .nil))) (.lin [22, 11, 18, 19, 23] .nil))))) (.lin [20] (.two (.lin [11] (.two (.lin [14, 15, 17, 18] (.two (.lin [19, 22, 23] .nil) (.lin [22, 19, 23] .nil))) (.lin [22, 14, 15, 17, 18, 19, 23] .nil))) (.two (.lin [14, 15, 17] (.two (.lin [11, 18] (.two (.lin [19, 22, 23] .nil) (.lin [22, 19, 23] .nil))) (.lin [22, 11, 18, 19, 23] .nil))) (.lin [22, 11, 14, 15, 17, 18, 19, 23] .nil))))))))))) (by kernel_rfl) (by kernel_rfl) (by kernel_rfl) fun K hK => ?_)
    simp only [XM, XA]
    repeat' first
     | refine And.intro ?_ ?_
     | refine ld_mem (ldV1 h2 (off := 2) rfl shapeT_24 _) ?_
     | refine ld_mem (ldV1 h2 (off := 1) rfl shapeT_3 _) ?_
     | refine ld_mem (ldV1 h3 (off := 2) rfl shapeT_24 _) ?_
     | refine ld_mem (ldV1 h3 (off := 1) rfl shapeT_3 _) ?_
     | refine ld_mem (hld1 _) ?_
     | refine ld_mem (hld2 _) ?_
     | refine st_rat rfl rfl r1 r2 r3 ?_
     | refine st_rat rfl rfl r4 r5 r6 ?_
     | exact hK _ (.inl (StIs.of (by exact rfl)))
     | exact hK _ (.inr (StIs.of (by exact rfl)))
     | omega
     | simp only [XM, XA, XB, Nat.reduceAdd, w1, w2, w3, w4]
   have e0 : G i j * H j k = 0 → Sm (fun t => G i t * H t k) (j + 1) = Sm (fun t => G i t * H t k) j := fun h => by
    show Sm (fun t => G i t * H t k) j + G i j * H j k = _
    rw [h]; grind
   rintro s (hs | hs)
   ·obtain ⟨z, rfl⟩ := hs.out
    try dsimp only
    clear hs
    by_cases hz1 : G i j = 0
    ·have b3 := dg_of_zero hz1
     refine Gx.a (by kernel_rfl) fun K hK => ?_
     simp only [XA, XB, gateX, ↓reduceIte, b3]
     refine hK _ ?_
     refine Gx.f rfl ?_
     refine XWP.skip ?_
     exact fun f => ⟨V5, m, x, y, StIs.of (by exact rfl), View.le_refl _, by rw [e0 (by rw [hz1]; grind)]; exact hx5, o1, o2⟩
    have b3 := rat_len hz1
    by_cases hz2 : H j k = 0
    ·have b4 := dg_of_zero hz2
     refine Gx.a (by kernel_rfl) fun K hK => ?_
     simp only [XA, XB, gateX, ↓reduceIte, beq_self_eq_true, b3, b4]
     refine hK _ ?_
     refine Gx.f rfl ?_
     refine XWP.skip ?_
     exact fun f => ⟨V5, m, x, y, StIs.of (by exact rfl), View.le_refl _, by rw [e0 (by rw [hz2]; grind)]; exact hx5, o1, o2⟩
    have b4 := rat_len hz2
    refine Gx.a (by kernel_rfl) fun K hK => ?_
    simp only [XA, XB, gateX, ↓reduceIte, beq_self_eq_true, b3, b4]
    refine hK _ ?_
    refine Gx.t rfl ?_
    (refine XWP.drw1 [0, 1, 2, 3, 4, 5] (by kernel_rfl) (by kernel_rfl) (by kernel_rfl) fun K hK => ?_) <;> dsimp only [pickOps, List.getElem?_cons_zero, List.getElem?_cons_succ]
    simp only [XA, XB, Nat.reduceAdd, Nat.reduceLeDiff, ↓reduceIte]
    refine call_go (by kernel_rfl) rfl (qmul_c _ _ _ _ _ hx1 hx2 ((ha.hq i j hi hj).qf (by omega)) ((hb.hq j k hj hk).qf (by omega))) fun v7 V7 hV7 h7 => ?_
    simp only [XA]
    refine call_go (by kernel_rfl) rfl (qadd_c _ _ _ _ _ (hx5.mono hV7) h7 (hq1 j (by omega)) (((ha.hq i j hi hj).mul (hb.hq j k hj hk)).qf (by omega))) fun v8 V8 hV8 h8 => ?_
    obtain ⟨x8, y8, rfl, o5, o6⟩ := h8.form
    simp only [XA]
    refine st_rat rfl rfl rfl o5 o6 ?_
    simp only [XA]
    exact hK _ fun f => ⟨V8, _, x8, y8, StIs.of (by exact rfl), View.le_trans hV7 hV8, h8, o5, o6⟩
   ·obtain ⟨z, rfl⟩ := hs.out
    try dsimp only
    clear hs
    by_cases hz1 : G i j = 0
    ·have b3 := dg_of_zero hz1
     refine Gx.a (by kernel_rfl) fun K hK => ?_
     simp only [XA, XB, gateX, ↓reduceIte, b3]
     refine hK _ ?_
     refine Gx.f rfl ?_
     refine XWP.skip ?_
     exact fun f => ⟨V5, m, x, y, StIs.of (by exact rfl), View.le_refl _, by rw [e0 (by rw [hz1]; grind)]; exact hx5, o1, o2⟩
    have b3 := rat_len hz1
    by_cases hz2 : H j k = 0
    ·have b4 := dg_of_zero hz2
     refine Gx.a (by kernel_rfl) fun K hK => ?_
     simp only [XA, XB, gateX, ↓reduceIte, beq_self_eq_true, b3, b4]
     refine hK _ ?_
     refine Gx.f rfl ?_
     refine XWP.skip ?_
     exact fun f => ⟨V5, m, x, y, StIs.of (by exact rfl), View.le_refl _, by rw [e0 (by rw [hz2]; grind)]; exact hx5, o1, o2⟩
    have b4 := rat_len hz2
    refine Gx.a (by kernel_rfl) fun K hK => ?_
    simp only [XA, XB, gateX, ↓reduceIte, beq_self_eq_true, b3, b4]
    refine hK _ ?_
    refine Gx.t rfl ?_
    (refine XWP.drw1 [0, 1, 2, 3, 4, 5] (by kernel_rfl) (by kernel_rfl) (by kernel_rfl) fun K hK => ?_) <;> dsimp only [pickOps, List.getElem?_cons_zero, List.getElem?_cons_succ]
    simp only [XA, XB, Nat.reduceAdd, Nat.reduceLeDiff, ↓reduceIte]
    refine call_go (by kernel_rfl) rfl (qmul_c _ _ _ _ _ hx1 hx2 ((ha.hq i j hi hj).qf (by omega)) ((hb.hq j k hj hk).qf (by omega))) fun v7 V7 hV7 h7 => ?_
    simp only [XA]
    refine call_go (by kernel_rfl) rfl (qadd_c _ _ _ _ _ (hx5.mono hV7) h7 (hq1 j (by omega)) (((ha.hq i j hi hj).mul (hb.hq j k hj hk)).qf (by omega))) fun v8 V8 hV8 h8 => ?_
    obtain ⟨x8, y8, rfl, o5, o6⟩ := h8.form
    simp only [XA]
    refine st_rat rfl rfl rfl o5 o6 ?_
    simp only [XA]
    exact hK _ fun f => ⟨V8, _, x8, y8, StIs.of (by exact rfl), View.le_trans hV7 hV8, h8, o5, o6⟩
  rintro s ⟨V6, m', x', y', hs, hV6, hx6, o5, o6⟩
  obtain ⟨z, rfl⟩ := hs.out
  try dsimp only
  clear hs
  refine Gx.c (by kernel_rfl) fun K hK => ?_
  simp only [XA, XB, i64_succ j (by omega)]
  exact hK _ ⟨q - 1, by omega, fun f => ⟨j + 1, V6, m', x', y', StIs.of (by exact rfl), by omega, View.le_trans hV5 hV6, hx6, o5, o6⟩⟩
 rintro s ⟨V5, m, x, y, hs, hx5, o1, o2⟩
 obtain ⟨z, rfl⟩ := hs.out
 try dsimp only
 refine Gx.a (by kernel_rfl) fun K hK => ?_
 simp only [XA, XB, Nat.reduceAdd, Nat.reduceLeDiff, ↓reduceIte]
 refine st_rat rfl rfl rfl o1 o2 ?_
 simp only [XA]
 refine hK _ (XWP.ret ?_)
 try simp only [thenX_ret, inBlockX_ret]
 exact ret_rat1 rfl rfl rfl hx5
theorem ctimes_c (V : View) (s1 s2 : Value) (n B C : Nat) (G H : Grid) (ha : SqM V s1 n B G) (hb : SqM V s2 n C H) {N : Nat} (hn5 : n ≤ N) (hfit : N * (B + C + 1) ≤ 17592186044416) :
  Spec Tryz.prog 56 [.agg #[.int .i64 (n : Int), .int .i64 (n : Int), s1], .agg #[.int .i64 (n : Int), .int .i64 (n : Int), s2]] V fun v' V' => ∃ w, v' = .agg #[.int .i64 (n : Int), .int .i64 (n : Int), w] ∧ Rats V' w (flatG (gmul G H n) n n) := by
 obtain ⟨A1, c1, rfl, hc1, hm1⟩ := ha.hv.form
 obtain ⟨A2, c2, rfl, hc2, hm2⟩ := hb.hv.form
 have hn := ha.hn
 refine (Spec.enter Tryz.func56 rfl fun Γ => ?_)
 simp only [Tryz.ntmps56, List.map_cons, List.map_nil, List.length_cons, List.length_nil, Nat.reduceAdd, Nat.reduceSub, List.replicate_succ, List.replicate_zero, List.cons_append, List.nil_append]
 refine Gx.a (by kernel_rfl) fun K hK => ?_
 simp only [XM, XA, Nat.reduceAdd]
 refine hK _ ?_
 refine XWP.row1 (bx := [_, _]) fun b4 e4 hb4 _ => ?_
 simp only [List.map_cons, List.map_nil, rowS_v, rowS_p, List.length_nil, List.length_cons, Nat.reduceAdd, Nat.reduceEqDiff, ↓reduceIte]
 have f4 : upd (fun _ => none) b4 (some ⟨e4, [.int .i64 0, .int .i64 0, .slice none 0 0], 3⟩) b4 = some ⟨e4, [.int .i64 0, .int .i64 0, .slice none 0 0], 3⟩ := upd_at _ _ _
 generalize upd (fun _ => none) b4 (some ⟨e4, [.int .i64 0, .int .i64 0, .slice none 0 0], 3⟩) = H2 at *
 refine XWP.row1 (bx := [_]) fun b3 e3 hb3 _ => ?_
 simp only [List.map_cons, List.map_nil, rowS_v, rowS_p, List.length_nil, List.length_cons, Nat.reduceAdd, Nat.reduceEqDiff, ↓reduceIte]
 refine XWP.pub b3 _ (upd_at _ _ _) fun o3 ho3 hle3 => ?_
 have eo3 := row_obj ho3
 subst eo3
 have n43 := new_ne hb3 f4
 have f4 : upd (upd H2 b3 (some ⟨e3, [.int .i64 (n : Int), .int .i64 (n : Int), .slice A2 (flatG H n n).length c2], 3⟩)) b3 none b4 = some ⟨e4, [.int .i64 0, .int .i64 0, .slice none 0 0], 3⟩ := (upd_off n43).trans ((upd_off n43).trans f4)
 have h3 := addV_at V b3 (.cells ([.int .i64 (n : Int), .int .i64 (n : Int), .slice A2 (flatG H n n).length c2] : List Value).toArray e3 (0, 0))
 generalize upd (upd H2 b3 _) b3 none = H3 at *
 generalize addV V b3 _ = V3 at *
 refine XWP.row1 (bx := []) fun b2 e2 hb2 _ => ?_
 simp only [List.map_cons, List.map_nil, rowS_v, rowS_p, List.length_nil, List.length_cons, Nat.reduceAdd, ↓reduceIte]
 refine XWP.pub b2 _ (upd_at _ _ _) fun o2 ho2 hle2 => ?_
 have eo2 := row_obj ho2
 subst eo2
 have n42 := new_ne hb2 f4
 have f4 : upd (upd H3 b2 (some ⟨e2, [.int .i64 (n : Int), .int .i64 (n : Int), .slice A1 (flatG G n n).length c1], 3⟩)) b2 none b4 = some ⟨e4, [.int .i64 0, .int .i64 0, .slice none 0 0], 3⟩ := (upd_off n42).trans ((upd_off n42).trans f4)
 have h2 := addV_at V3 b2 (.cells ([.int .i64 (n : Int), .int .i64 (n : Int), .slice A1 (flatG G n n).length c1] : List Value).toArray e2 (0, 0))
 generalize upd (upd H3 b2 _) b2 none = H4 at *
 generalize addV V3 b2 _ = V4 at *
 have h3 := hle2 _ _ h3
 have hle := View.le_trans hle3 hle2
 have ha := ha.up hle
 have hb := hb.up hle
 refine Gx.a (by kernel_rfl) fun K hK => ?_
 simp only [XM, XA]
 refine ld_mem (ldV1 h2 (off := 0) rfl shapeT_3 _) ?_
 simp only [XM, XA]
 refine ld_mem (ldV1 h3 (off := 1) rfl shapeT_3 _) ?_
 simp only [XA]
 refine mkf_go [.pointer (some ⟨b2, 0, none⟩), .pointer (some ⟨b3, 0, none⟩)] rfl ?_
 simp only [XA]
 refine call_own (by kernel_rfl) rfl (filled_o V4 (lb := [.pointer (some ⟨b2, 0, none⟩), .pointer (some ⟨b3, 0, none⟩)]) n n (gmul G H n) (by kernel_rfl) (by omega) (by omega) fun V' i k hV hi hk => ctimes1_c V' b2 b3 e2 e3 n i k B C G H _ _ (hV _ _ h2) (hV _ _ h3) (ha.up hV) (hb.up hV) hi hk hn5 hfit) fun v12 V12 o12 hV12 hs12 hR12 => ?_
 obtain ⟨sl, cells, rfl, hown, hrow⟩ := hR12
 have f12 := addRow_off f4 fun g' q e => (hs12 g' q e).1
 have hown2 := own_any (H := H4) hown
 have osl := own_isOne hown2
 have hne : sl.ownBlock ≠ some b4 := fun e => by
  rcases own_parts hown with ⟨rfl, _, _⟩ | ⟨g2, cap2, rfl, hg2, _⟩
  ·cases e
  ·have : g2 = b4 := by simpa [Value.ownBlock] using e
   exact new_ne (hs12 g2 _ (addRow_only hg2)).1 f4 this.symm
 generalize addRow H4 o12 = H12 at *
 simp only [XA]
 refine st_rowA shapeT_26 (all3 rfl rfl osl) rfl f12 (by simp) ?_
 simp only [XA]
 refine hK _ ?_
 have hown3 : Own (upd H12 b4 (some ⟨e4, splice [.int .i64 0, .int .i64 0, .slice none 0 0] 0 [.int .i64 (n : Int), .int .i64 (n : Int), sl], 3⟩)) 49 3 sl (n * n) cells := by
  refine ⟨hown2.1, ?_⟩
  rcases hown2.2 with h | ⟨g2, cap2, rfl, hg2, h⟩
  ·exact .inl h
  ·exact .inr ⟨g2, cap2, rfl, by rw [upd_off fun e => hne (by rw [e]; rfl)]; exact hg2, h⟩
 refine XWP.pubR ratE_ok hown3 hrow fun H13 V13 hV13 hRw hk13 => ?_
 have f13 := (hk13 b4 hne).trans (upd_at _ _ _)
 refine XWP.ret ?_
 try simp only [thenX_ret, inBlockX_ret]
 exact ret_go _ (by simp [resAll, resV, cellsV, shapeT_26, f13, splice_all]; rfl) ⟨sl, rfl, hRw⟩
theorem cmMul_c (V : View) (s1 s2 : Value) (n B C : Nat) (G H : Grid) (ha : SqM V s1 n B G) (hb : SqM V s2 n C H) {N : Nat} (hn5 : n ≤ N) (hfit : N * (B + C + 1) ≤ 17592186044416) (hN : 0 < N := by omega) :
  Spec Tryz.prog 20 [.agg #[.int .i64 (n : Int), .int .i64 (n : Int), s1], .agg #[.int .i64 (n : Int), .int .i64 (n : Int), s2]] V fun v' V' => ∃ w, v' = .tuple #[.agg #[.int .i64 (n : Int), .int .i64 (n : Int), w], .int .i64 0] ∧ Rats V' w (flatG (gmul G H n) n n) := by
 have hBC : B + C + 1 ≤ 17592186044416 := Nat.le_trans (Nat.le_mul_of_pos_left (B + C + 1) hN) hfit
 have o1 := SlAt.one ha.hv
 have o2 := SlAt.one hb.hv
 refine (Spec.enter Tryz.func20 rfl fun Γ => ?_)
 simp only [Tryz.ntmps20, List.map_cons, List.map_nil, List.length_cons, List.length_nil, Nat.reduceAdd, Nat.reduceSub, List.replicate_succ, List.replicate_zero, List.cons_append, List.nil_append]
 refine Gx.a (by kernel_rfl) fun K hK => ?_
 simp only [XM, XA, Nat.reduceAdd]
 refine hK _ ?_
 refine XWP.seq ?_
 refine Gx.a (by kernel_rfl) fun K hK => ?_
 simp only [XM, XA, Nat.reduceAdd, Nat.reduceLeDiff, ↓reduceIte]
 refine call_go (by kernel_rfl) rfl (cmr_c ha (by omega)) fun v5 V5 hV5 h5 => ?_
 subst h5
 simp only [XM, XA, gateX, Nat.reduceAdd, Nat.reduceLeDiff, ↓reduceIte, beq_self_eq_true]
 refine call_go (by kernel_rfl) rfl (cmr_c (hb.up hV5) (by omega)) fun v6 V6 hV6 h6 => ?_
 subst h6
 simp only [XA, gateX, ↓reduceIte, beq_self_eq_true]
 refine hK _ ?_
 refine Gx.f rfl ?_
 refine XWP.skip ?_
 have hle := View.le_trans hV5 hV6
 refine XWP.seq ?_
 refine Gx.a (by kernel_rfl) fun K hK => ?_
 simp only [XM, XA, XB, decide_true]
 refine hK _ ?_
 refine Gx.f rfl ?_
 refine XWP.skip ?_
 refine Gx.a (by kernel_rfl) fun K hK => ?_
 simp only [XM, XA, Nat.reduceAdd, Nat.reduceLeDiff, ↓reduceIte]
 refine call_go (by kernel_rfl) rfl (ctimes_c _ _ _ n B C G H (ha.up hle) (hb.up hle) hn5 hfit) fun v7 V7 hV7 h7 => ?_
 obtain ⟨w, rfl, h7⟩ := h7
 have ow := SlAt.one h7
 simp only [XA]
 refine st_mat shapeT_26 rfl rfl rfl rfl ow ?_
 simp only [XA]
 refine hK _ (XWP.ret ?_)
 try simp only [thenX_ret, inBlockX_ret]
 exact ret_go _ (by simp [resAll, resV, cellsV, shapeT_26]; rfl) ⟨w, rfl, h7⟩
theorem and7K (a : Int) : ∃ x : Nat, x ≤ 7 ∧ andI .i64 a 7 = x := by
 have h : (BitVec.ofInt IntKind.i64.bits a &&& BitVec.ofInt IntKind.i64.bits 7).toNat ≤ 7 := by
  rw [BitVec.toNat_and]; exact Nat.le_trans Nat.and_le_right (by decide)
 refine ⟨_, h, ?_⟩
 unfold andI
 exact wrap_id (by omega) (by omega)
theorem mix_ok {l : List Rn} {c1 c2 : Int} {od1 od2 : Nat → Nat → Rat} (h1 : OfR l c1 od1) (h2 : OfR l c2 od2) (hr : rightR l = true) (hl : ∀ r ∈ l, r.small) (ll : l.length ≤ 60) {n : Nat} (hn : n ≤ 7) :
  mixE (l.length : Int) (l.length : Int) (l.length : Int) (l.length : Int) ((flatG (moveG od1 l.length) l.length l.length).map toRaw) ((flatG (moveG od2 l.length) l.length l.length).map toRaw) (toRaw (rv false n 7)) = 0 := by
 obtain ⟨s1, s2, _⟩ := sev_ok hn
 unfold mixE
 rw [if_neg, if_pos rfl]
 rintro (e | e | e | e | e)
 ·rw [h1.sto hr hl ll] at e; cases e
 ·rw [h2.sto hr hl ll] at e; cases e
 ·rw [toRaw_ok] at e; cases e
 ·rw [toRaw_q, s1] at e; cases e
 ·rw [toRaw_q] at e; exact s2 e
theorem mix_flat (G H : Grid) (n : Nat) (q : Rat) : mixL ((n : Nat) : Int).toNat ((flatG G n n).map toRaw) ((flatG H n n).map toRaw) q = flatG (fun i k => G i k * q + H i k * (1 - q)) n n := by
 unfold mixL
 rw [Int.toNat_natCast, qs_toRaw, qs_toRaw]
 refine flatG_congr fun i k hi hk => ?_
 rw [show gridL (flatG G n n) n i k = G i k from flatG_at G hi hk, show gridL (flatG H n n) n i k = H i k from flatG_at H hi hk]
set_option maxHeartbeats 4000000 in
set_option maxRecDepth 100000 in
theorem kboth_c (V : View) (v : Value) (l : List Rn) (za zb zp : Int) (h : SlK 9 rvE V v l) : Spec Tryz.prog 6 [v, .agg #[.int .i64 za, .int .i64 zb, .int .i64 zp]] V fun v' V' => v' = .bool true := by
 obtain ⟨A, cL, rfl, hc, hm⟩ := h.form
 have hr := h.rn
 obtain ⟨xp, hxp, exp⟩ := and7K zp
 refine (Spec.enter Tryz.func6 rfl fun Γ => ?_)
 simp only [Tryz.ntmps6, List.map_cons, List.map_nil, List.length_cons, List.length_nil, Nat.reduceAdd, Nat.reduceSub, List.replicate_succ, List.replicate_zero, List.cons_append, List.nil_append]
 refine Gx.a (by kernel_rfl) fun K hK => ?_
 simp only [XA]
 refine hK _ ?_
 have ha3 : arrO Tryz.prog 53 = some (3, 1) := by kernel_rfl
 have hs3 : shapeO Tryz.prog (elemT Tryz.prog 53) = none := by kernel_rfl
 (refine XWP.drw [0, 1, 2, 3, 4, 5, 6, 7, 8] (by kernel_rfl) (by kernel_rfl) (by kernel_rfl) fun K hK => ?_) <;> dsimp only [pickOps, List.getElem?_cons_zero, List.getElem?_cons_succ]
 simp only [XA, XB, Int.reduceToNat, Int.reduceLE, ha3, hs3, ia_arr]
 refine ⟨by omega, by omega, by omega, ?_⟩
 refine hK _ ?_
 refine XWP.seq ?_
 refine Gx.a (by kernel_rfl) fun K hK => ?_
 simp only [XA]
 refine call_go (by kernel_rfl) rfl (short33_c _ _ l h) fun v1 V1 hV1 h1 => ?_
 obtain ⟨b, rfl, hb⟩ := h1
 cases b
 ·simp only [XA, gateX, ↓reduceIte]
  refine hK _ ?_
  refine Gx.t rfl ?_
  refine Gx.a (by kernel_rfl) fun K hK => ?_
  simp only [XA]
  refine hK _ (XWP.ret ?_)
  try simp only [thenX_ret, inBlockX_ret]
  refine ret_go _ rfl ?_
  rfl
 obtain ⟨f1, f2, f3⟩ := short_fits hr (hb rfl)
 by_cases h8 : 8 < l.length
 ·have b8 : decide ((8 : Int) < (l.length : Int)) = true := decide_eq_true (by omega)
  simp only [XU, XA, XB, gateX, ↓reduceIte, beq_self_eq_true, b8]
  refine hK _ ?_
  refine Gx.t rfl ?_
  refine Gx.a (by kernel_rfl) fun K hK => ?_
  simp only [XA]
  refine hK _ (XWP.ret ?_)
  try simp only [thenX_ret, inBlockX_ret]
  refine ret_go _ rfl ?_
  rfl
 have b8 : decide ((8 : Int) < (l.length : Int)) = false := decide_eq_false (by omega)
 simp only [XU, XA, XB, gateX, ↓reduceIte, beq_self_eq_true, b8]
 refine call_go (by kernel_rfl) rfl (kref_right_c _ _ l (hr.mono rnE_ok hV1) f1 f3) fun v2 V2 hV2 h2 => ?_
 subst h2
 have hV02 := View.le_trans hV1 hV2
 cases hrr : rightR l
 ·simp only [XA, gateX, ↓reduceIte, beq_self_eq_true]
  refine hK _ ?_
  refine Gx.t rfl ?_
  refine Gx.a (by kernel_rfl) fun K hK => ?_
  simp only [XA]
  refine hK _ (XWP.ret ?_)
  try simp only [thenX_ret, inBlockX_ret]
  refine ret_go _ rfl ?_
  rfl
 obtain ⟨g1, g2, g3⟩ := right_small hrr f2
 simp only [XA, gateX, ↓reduceIte, beq_self_eq_true]
 refine hK _ ?_
 refine Gx.f rfl ?_
 refine XWP.skip ?_
 refine Gx.a (by kernel_rfl) fun K hK => ?_
 simp only [XA]
 refine call_go (by kernel_rfl) rfl (cof_c _ _ za l (hr.mono rnE_ok hV02) f1 f2 f3) fun v3 V3 hV3 h3 => ?_
 obtain ⟨od1, sv1, hod1, rfl, hM1⟩ := h3.2 hrr
 obtain ⟨As1, cs1, rfl, _, _⟩ := hM1.form
 have hV03 := View.le_trans hV02 hV3
 simp only [XM, XA]
 refine st_mat shapeT_26 rfl rfl rfl rfl rfl ?_
 simp only [XA]
 refine hK _ ?_
 refine Gx.a (by kernel_rfl) fun K hK => ?_
 simp only [XA]
 refine call_go (by kernel_rfl) rfl (cof_c _ _ zb l (hr.mono rnE_ok hV03) f1 f2 f3) fun v4 V4 hV4 h4 => ?_
 obtain ⟨od2, sv2, hod2, rfl, hM2⟩ := h4.2 hrr
 obtain ⟨As2, cs2, rfl, _, _⟩ := hM2.form
 have hV04 := View.le_trans hV03 hV4
 simp only [XM, XA, Nat.reduceAdd]
 refine st_mat shapeT_26 rfl rfl rfl rfl rfl ?_
 simp only [XA]
 refine hK _ ?_
 refine Gx.a (by kernel_rfl) fun K hK => ?_
 simp only [XA, XB, exp]
 refine call_go (by kernel_rfl) rfl (make7_c _ xp hxp) fun v5 V5 hV5 h5 => ?_
 obtain ⟨w5, rfl, h5⟩ := h5
 obtain ⟨x5, y5, rfl, o1, o2⟩ := h5.form
 have hV05 := View.le_trans hV04 hV5
 simp only [XA, XB, Nat.reduceAdd]
 refine st_rat rfl rfl rfl o1 o2 ?_
 simp only [XA]
 refine hK _ ?_
 have hq1 : ∀ x ∈ flatG (moveG od1 l.length) l.length l.length, QB 40000000 x := fun x hx => by
  obtain ⟨i, k, hi, hk, rfl⟩ := flatG_memK hx
  exact hod1.qbG g3 g2 hi hk
 have hq2 : ∀ x ∈ flatG (moveG od2 l.length) l.length l.length, QB 40000000 x := fun x hx => by
  obtain ⟨i, k, hi, hk, rfl⟩ := flatG_memK hx
  exact hod2.qbG g3 g2 hi hk
 have hnn : l.length * l.length ≤ 3600 := Nat.le_trans (Nat.mul_le_mul g2 g2) (by decide)
 have hs7 := (sev_ok hxp).2.2
 have hM1' := hM1.up (View.le_trans hV4 hV5)
 have hM2' := hM2.up hV5
 have hraw : rawE V5 (.agg #[.bool (ng (rv false xp 7)), x5, y5]) (toRaw (rv false xp 7)) := h5
 have hwf : (toRaw (rv false xp 7)).fit := ⟨(hs7.qf (by omega)).fits.1, (hs7.qf (by omega)).fits.2⟩
 refine Gx.a (by kernel_rfl) fun K hK => ?_
 simp only [XM, XA, XB, Nat.reduceAdd, Nat.reduceLeDiff, ↓reduceIte]
 refine call_go (by kernel_rfl) rfl (kmix_c _ _ _ _ (l.length : Int) (l.length : Int) (l.length : Int) (l.length : Int) _ _ _ (B := 40000000) hM1'.raws hM2'.raws hraw (fitR_toRaw (hod1.qf g3 g2)) (fitR_toRaw (hod2.qf g3 g2)) hwf (by rw [List.length_map, flatG_len]; omega) (by rw [List.length_map, flatG_len]; omega) (fun _ => by rw [qs_toRaw]; exact hq1) (fun _ => by rw [qs_toRaw]; exact hq2) (fun _ => by rw [toRaw_q]; exact hs7.mono (by omega)) (by omega)) fun v6 V6 hV6 h6 => ?_
 obtain ⟨w6, rfl, m6⟩ := h6.2 (mix_ok hod1 hod2 hrr g3 g2 hxp)
 rw [toRaw_q, mix_flat] at m6
 obtain ⟨As6, cs6, rfl, _, _⟩ := m6.form
 simp only [XM, XA, Nat.reduceAdd]
 refine st_mat shapeT_26 rfl rfl rfl rfl rfl ?_
 simp only [XA]
 refine hK _ ?_
 have s1 : SqM V6 (.slice As1 (flatG (moveG od1 l.length) l.length l.length).length cs1) l.length 40000000 (moveG od1 l.length) := ⟨hM1'.up hV6, g2, fun i k hi hk => hod1.qbG g3 g2 hi hk⟩
 have s2 : SqM V6 (.slice As2 (flatG (moveG od2 l.length) l.length l.length).length cs2) l.length 40000000 (moveG od2 l.length) := ⟨hM2'.up hV6, g2, fun i k hi hk => hod2.qbG g3 g2 hi hk⟩
 refine Gx.a (by kernel_rfl) fun K hK => ?_
 simp only [XM, XA, Nat.reduceAdd, Nat.reduceLeDiff, ↓reduceIte]
 refine call_go (by kernel_rfl) rfl (cmMul_c _ _ _ l.length 40000000 40000000 _ _ s1 s2 (N := 8) (by omega) (by omega)) fun v7 V7 hV7 h7 => ?_
 obtain ⟨w7, rfl, m7⟩ := h7
 obtain ⟨As7, cs7, rfl, _, _⟩ := m7.form
 simp only [XM, XA, Nat.reduceAdd]
 refine st_mat shapeT_26 rfl rfl rfl rfl rfl ?_
 simp only [XA]
 refine hK _ ?_
 have hV07 := View.le_trans hV05 (View.le_trans hV6 hV7)
 refine Gx.a (by kernel_rfl) fun K hK => ?_
 simp only [XA]
 refine call_go (by kernel_rfl) rfl (cpost_c _ _ l (hr.mono rnE_ok hV07) g3 g1 g2) fun v8 V8 hV8 h8 => ?_
 simp only [XA]
 refine hK _ ?_
 have k1 : keepsG (posL l) (moveG od1 l.length) l.length := hod1.stP g3
 have k2 : keepsG (posL l) (moveG od2 l.length) l.length := hod2.stP g3
 have qm : ∀ i k, i < l.length → k < l.length → QB 90000000 (moveG od1 l.length i k * rv false xp 7 + moveG od2 l.length i k * (1 - rv false xp 7)) := fun i k hi hk =>
  (((hod1.qbG g3 g2 hi hk).mul hs7).add ((hod2.qbG g3 g2 hi hk).mul ((QB_one 0).sub hs7))).mono (by omega)
 have qb : ∀ i k, i < l.length → k < l.length → QB 700000000 (gmul (moveG od1 l.length) (moveG od2 l.length) l.length i k) := fun i k hi hk => by
  have h1 := Sm_QB (a := 40000000 + 40000000) l.length (fun t ht => (hod1.qbG g3 g2 hi ht).mul (hod2.qbG g3 g2 ht hk))
  have h2 : l.length * (40000000 + 40000000 + 1) ≤ 8 * (40000000 + 40000000 + 1) := Nat.mul_le_mul_right _ (by omega)
  exact h1.mono (by omega)
 refine Gx.a (by kernel_rfl) fun K hK => ?_
 simp only [XM, XA, XB, gateX, Nat.reduceAdd, Nat.reduceLeDiff, ↓reduceIte]
 refine call_go (by kernel_rfl) rfl (cstays_c _ _ _ (posL l) _ l.length 7868 90000000 h8 (m6.up (View.le_trans hV7 hV8)) (mk_len _ _) g1 g2 (posL_QB g3 g2) qm (by omega) (keeps_mix _ k1 k2)) fun v9 V9 hV9 h9 => ?_
 subst h9
 simp only [XM, XA, gateX, Nat.reduceAdd, Nat.reduceLeDiff, ↓reduceIte]
 refine call_go (by kernel_rfl) rfl (cstays_c _ _ _ (posL l) _ l.length 7868 700000000 (h8.up hV9) (m7.up (View.le_trans hV8 hV9)) (mk_len _ _) g1 g2 (posL_QB g3 g2) qb (by omega) (keeps_mul k1 k2)) fun vA VA hVA hA => ?_
 subst hA
 simp only [XA, gateX]
 refine call_go (by kernel_rfl) rfl (alive33_c _) fun vB VB hVB hB => ?_
 subst hB
 simp only [XA]
 refine hK _ (XWP.ret ?_)
 try simp only [thenX_ret, inBlockX_ret]
 refine ret_go _ rfl ?_
 rfl
end Go.Proofs.YtobjjdnfgamgcaaGreat
end
section
namespace Go.Proofs.YtobjjdnfgamgcaaGreat.kernelBoth
open Go.ChangeShapes Go.WideShapes Go.ChangeAt Go.RowKit
set_option linter.unusedVariables false
theorem own : ownKnob Tryz.prog.godebug = none := by kernel_rfl
theorem laidOut : laidOutB Tryz.prog = true := by kernel_rfl
set_option maxHeartbeats 4000000 in
set_option maxRecDepth 100000 in
theorem lifted (os : Os) (started : os.Started) (H : Type) (enc : TypeId × Value → H) :
  ReturnsInHanded {} Tryz.checked os 6 .any (Rows.kernelBothSpec.pre6 enc Tryz.prog Tryz.f6 Rows.kernelBothRow.domain false) (Rows.kernelBothSpec.post enc Tryz.prog Tryz.f6 false true false false) := by
 refine returnsInHanded_of_change_sized (C := Tryz.checked) own started (by kernel_rfl) Tryz.func6
  (ChangeSpec.witness6 (enc := enc) (C := Tryz.checked) false ⟨#[], #[.slice none 0 0, .agg #[.int .i64 0, .int .i64 0, .int .i64 0]], []⟩ 8 (by kernel_rfl) (by kernel_rfl) (by kernel_rfl) (by kernel_rfl)) ?_
 intro W base args ds gs before hval0 hW hcnd hsz0 _
 have hval : ∀ (j : Nat) t v, Tryz.f6.params[j]? = some t → args[j]? = some v → Value.okWide Tryz.prog W .any base t v := hval0
 have hW' := hW
 obtain ⟨p, q, hA0, hV, rfl, hfz, hnd⟩ := hW
 have hA : DataW.TrodAll enc Tryz.prog W 0 (fun _ => true) true Tryz.f6.params.toList args.toList ds p := hA0
 rw [Tryz.params6] at hA hval
 obtain ⟨v0, vs0, d0, ds0, p0, q0, hargs, rfl, rfl, h0, r0⟩ := trodAll_cons hA
 obtain ⟨v1, vs1, d1, ds1, p1, q1, rfl, rfl, rfl, h1, r1⟩ := trodAll_cons r0
 obtain ⟨rfl, rfl, rfl⟩ := trodAll_nil r1
 obtain rfl : args = #[v0, v1] := by cases args; simp_all
 obtain ⟨rfl, rfl⟩ := trodVars_none hV
 obtain ⟨a0, len0, cap0, rfl⟩ := okWide_slice (und_elem (P := Tryz.prog) (e := 51) (by kernel_rfl)) (hval 0 22 v0 rfl rfl)
 have k0 := h0
 have lt0 : ∀ x ∈ p0, x.block < W.heap.size := by obtain ⟨m, hm⟩ := k0; exact DataW.trod_lt m _ _ _ hm
 obtain ⟨fuel0, hf0⟩ := h0
 obtain ⟨L0, hL0⟩ := open_runs (by kernel_rfl) hf0
 obtain ⟨c1, rfl, _⟩ := okWide_array und_arri (hval 1 53 v1 rfl rfl)
 have k1 := h1
 have lt1 : ∀ x ∈ p1, x.block < W.heap.size := by obtain ⟨m, hm⟩ := k1; exact DataW.trod_lt m _ _ _ hm
 obtain ⟨fuel1, hf1⟩ := h1
 obtain ⟨a1a, a1b, a1c, j1⟩ := open_arri hf1
 obtain rfl : c1 = #[.int .i64 a1a, .int .i64 a1b, .int .i64 a1c] := by cases c1; simpa [Value.cells] using j1
 clear hA0 hval0 hsz0
 refine (kboth_c (viewW W) _ L0 a1a a1b a1c hL0 W (viewW_sub W)).mono fun e W' ⟨v, V', he, _, _, _, bel, hv⟩ => ?_
 subst hv
 subst he
 exact ⟨_, rfl, _, _, _, [], _, [], hW', trodAll_mk1 (shut_bool Tryz.underlying4 _), (trodAll_cons_mk (Below.trod laidOut (by kernel_rfl) (of_decide_eq_true (by kernel_rfl)) k0 bel.toBelow lt0) (trodAll_cons_mk (Below.trod laidOut (by kernel_rfl) (of_decide_eq_true (by kernel_rfl)) k1 bel.toBelow lt1) trodAll_mk0)), rfl, bel.frame _, fun h => by cases h⟩
theorem over : Rows.kernelBothRow.holds Tryz.pinned (OpenSpec.ofChange Rows.kernelBothSpec) :=
 OpenClaim.holds_of_wide 6 Tryz.f6 rfl rfl rfl rfl rfl rfl rfl ⟨rfl, rfl, rfl, rfl, rfl⟩ rfl rfl rfl rfl rfl (by kernel_rfl) Tryz.func6 (by kernel_rfl)
  (of_decide_eq_true (by kernel_rfl)) (by unfold Func.isWrapper; first | (rw [if_pos (by decide +kernel)]; kernel_rfl) | (rw [if_neg (by decide +kernel)]; exact ⟨rfl, rfl⟩))
  (fun os started H enc _ => lifted os started H enc)
theorem proved : Rows.KernelBothSaid := over
#print axioms proved
end Go.Proofs.YtobjjdnfgamgcaaGreat.kernelBoth
namespace Go.Proofs.YtobjjdnfgamgcaaGreat
theorem kernelBoth_holds : Rows.KernelBothSaid := kernelBoth.proved
end Go.Proofs.YtobjjdnfgamgcaaGreat
end
