/- The composition and every mixture of two kernels leave the posterior invariant, at every input. (part 12 of 13) -/
import Derived.OrdersHeld
import Derived.Below
import Derived.Tactics
import Derived.KernelRfl
import Derived.RangeFuncCalls
import Derived.RangeFuncFrom
import Derived.RangeFuncLeaves
import Derived.OrdersIn
import Derived.Laws.AppendOwn
import Derived.Laws.MakeOwn
import Derived.Laws.CopyRow
import Derived.Laws.Cells
import Derived.Laws.World
import Derived.Laws.Alloc2
import Derived.Laws.NewBlocks
import Derived.Maps.AppendAt
import Derived.Test.YtobjjdnfgamgcaaGreatProg
import Init.Data.List.Lemmas
import Init.Omega
import Derived.WalkKit
import Derived.ProofKit
import Derived.OpenShut
import Derived.ChangeOld
import Derived.SizedLaws
import Derived.ChangeSlices
import Derived.ChangeArms
import Derived.Deep.Slices
import Derived.MapKept
import Derived.Maps.RangeRun
import Derived.Shelf.SlSortCmp.WholeK
import Derived.Lib.QuietBelow
import Derived.Test.YtobjjdnfgamgcaaGreatBO11
set_option linter.unusedVariables false
set_option linter.unusedSimpArgs false
section
namespace Go.Proofs.YtobjjdnfgamgcaaGreat
open Go Go.RowKit
attribute [local irreducible] XWP Spec SpecO XPub XCall seqX clX apX stX ldX iaX slX
theorem w_qs {l : List Rn} (hs : ∀ r ∈ l, r.small) {i : Nat} (hi : i < l.length) : wOf l i = qOf l i * sOf l i := by
 obtain ⟨r, hr⟩ : ∃ r, l[i]? = some r := ⟨_, List.getElem?_eq_getElem hi⟩
 have hp := (qOf_small hs hi).2
 have h0 : qOf l i ≠ 0 := fun e => by rw [e] at hp; exact absurd hp (by decide)
 rw [wOf_at hr, sOf_at hr, qOf_at hr] at *
 rw [Rat.div_def, Rat.mul_comm r.w.q, ← Rat.mul_assoc, Rat.mul_inv_cancel _ h0, Rat.one_mul]
theorem ltQ_comm (p q : Rat) : ltQ p q = ltQ q p := by
 unfold ltQ
 split <;> split <;> grind
theorem ltQ_mul {c p q : Rat} (hc : 0 < c) : c * ltQ p q = ltQ (c * p) (c * q) := by
 unfold ltQ
 have h : q < p ↔ c * q < c * p := ⟨fun h => Rat.mul_lt_mul_of_pos_left h hc, fun h => Rat.not_le.1 fun h2 => Rat.not_le.2 h (Rat.mul_le_mul_of_nonneg_left h2 (Rat.le_of_lt hc))⟩
 by_cases hq : q < p
 ·rw [if_pos hq, if_pos (h.1 hq)]
 ·rw [if_neg hq, if_neg (fun e => hq (h.2 e))]
theorem anew_bal {l : List Rn} (hs : ∀ r ∈ l, r.small) {i k : Nat} (hi : i < l.length) (hk : k < l.length) : wOf l i * anewQ l i k = wOf l k * anewQ l k i := by
 have key : ∀ {i k : Nat}, i < l.length → k < l.length → wOf l i * anewQ l i k = qOf l i * qOf l k * ltQ (sOf l i) (sOf l k) := fun {i k} hi hk => by
  have hp := (sOf_small hs hi).2
  have h0 : sOf l i ≠ 0 := fun e => by rw [e] at hp; exact absurd hp (by decide)
  have e := ltQ_mul (p := 1) (q := sOf l k / sOf l i) hp
  have e2 : sOf l i * (sOf l k / sOf l i) = sOf l k := by rw [Rat.div_def, Rat.mul_comm (sOf l k), ← Rat.mul_assoc, Rat.mul_inv_cancel _ h0, Rat.one_mul]
  rw [Rat.mul_one, e2] at e
  unfold anewQ
  rw [w_qs hs hi, ← e]
  grind
 rw [key hi hk, key hk hi, ltQ_comm (sOf l k)]
 grind
theorem suff_bal {l : List Rn} (hs : ∀ r ∈ l, r.small) {i k : Nat} (hi : i < l.length) (hk : k < l.length) : wOf l i * suffQ l i k = wOf l k * suffQ l k i := by
 have key : ∀ {i k : Nat}, i < l.length → k < l.length → wOf l i * suffQ l i k = ltQ (wOf l i * propQ (dsOf l i) (dsOf l k)) (wOf l k * propQ (dsOf l k) (dsOf l i)) := fun {i k} hi hk => by
  have hp := (wOf_small hs hi).2
  have h0 : wOf l i ≠ 0 := fun e => by rw [e] at hp; exact absurd hp (by decide)
  unfold suffQ
  rw [ltQ_mul hp]
  congr 1
  rw [Rat.div_def]
  have := Rat.mul_inv_cancel _ h0
  grind
 rw [key hi hk, key hk hi, ltQ_comm]
theorem besB_iff {a b : List Dr} {m : Nat} : besB a b m = true ↔ a.length = b.length ∧ ∀ i d e, a[i]? = some d → b[i]? = some e → besD m i d e = true := by
 unfold besB
 rw [Bool.and_eq_true, decide_eq_true_iff, List.all_eq_true]
 constructor
 ·rintro ⟨h1, h2⟩
  refine ⟨h1, fun i d e hd he => ?_⟩
  have := h2 i (List.mem_range.2 (List.getElem?_eq_some_iff.1 hd).1)
  rw [besAt_at hd he] at this
  exact this
 ·rintro ⟨h1, h2⟩
  refine ⟨h1, fun i hi => ?_⟩
  have hi := List.mem_range.1 hi
  have hd := List.getElem?_eq_getElem hi
  have he := List.getElem?_eq_getElem (show i < b.length by omega)
  rw [besAt_at hd he]
  exact h2 i _ _ hd he
theorem besD_iff {m i : Nat} {d e : Dr} : besD m i d e = true ↔ d.site = e.site ∧ d.whole = e.whole ∧ (i = m ∨ (d.index = e.index ∧ d.odds = e.odds)) := by
 unfold besD
 simp only [Bool.and_eq_true, Bool.or_eq_true, decide_eq_true_eq]
 constructor
 ·rintro ⟨⟨a, b⟩, c⟩; exact ⟨a, b, c⟩
 ·rintro ⟨a, b, c⟩; exact ⟨⟨a, b⟩, c⟩
theorem besB_symm {a b : List Dr} {m : Nat} (h : besB a b m = true) : besB b a m = true := by
 obtain ⟨h1, h2⟩ := besB_iff.1 h
 refine besB_iff.2 ⟨h1.symm, fun i d e hd he => ?_⟩
 obtain ⟨x, y, z⟩ := besD_iff.1 (h2 i e d he hd)
 refine besD_iff.2 ⟨x.symm, y.symm, ?_⟩
 rcases z with z | ⟨z, w⟩
 ·exact .inl z
 ·exact .inr ⟨z.symm, w.symm⟩
theorem besB_trans {a b c : List Dr} {m : Nat} (h : besB a b m = true) (g : besB b c m = true) : besB a c m = true := by
 obtain ⟨h1, h2⟩ := besB_iff.1 h
 obtain ⟨g1, g2⟩ := besB_iff.1 g
 refine besB_iff.2 ⟨h1.trans g1, fun i d f hd hf => ?_⟩
 have he := List.getElem?_eq_getElem (show i < b.length by have := (List.getElem?_eq_some_iff.1 hd).1; omega)
 obtain ⟨x, y, z⟩ := besD_iff.1 (h2 i d _ hd he)
 obtain ⟨x', y', z'⟩ := besD_iff.1 (g2 i _ f he hf)
 refine besD_iff.2 ⟨x.trans x', y.trans y', ?_⟩
 rcases z with z | ⟨z, w⟩
 ·exact .inl z
 ·rcases z' with z' | ⟨z', w'⟩
  ·exact .inl z'
  ·exact .inr ⟨z.trans z', w.trans w'⟩
theorem besS_eq {l : List Rn} {a b : List Dr} {m : Nat} (h : besB a b m = true) : besS l a m = besS l b m := by
 unfold besS
 refine Sm_congr _ fun j _ => ?_
 unfold besF
 by_cases hc : besB a (dsOf l j) m = true
 ·rw [if_pos hc, if_pos (besB_trans (besB_symm h) hc)]
 ·rw [if_neg hc, if_neg (fun e => hc (besB_trans h e))]
theorem site_bal {l : List Rn} (i k : Nat) : wOf l i * siteQ l i k = wOf l k * siteQ l k i := by
 unfold siteQ
 by_cases hlen : (dsOf l i).length = (dsOf l k).length
 ·rw [← Sm_mul, ← Sm_mul, hlen]
  refine Sm_congr _ fun m _ => ?_
  unfold siteF
  by_cases hb : besB (dsOf l i) (dsOf l k) m = true
  ·rw [if_pos hb, if_pos (besB_symm hb), besS_eq hb, hlen, Rat.div_def, Rat.div_def]; grind
  ·rw [if_neg hb, if_neg (fun e => hb (besB_symm e))]; grind
 ·rw [Sm_zero _ fun m _ => by
   unfold siteF
   rw [if_neg (fun e => hlen (besB_iff.1 e).1)], Sm_zero _ fun m _ => by
   unfold siteF
   rw [if_neg (fun e => hlen (besB_iff.1 e).1.symm)]]
  grind
theorem sli_bal {l : List Rn} {hs : List Rat} (hl : ∀ r ∈ l, r.small) {i k : Nat} (hi : i < l.length) (hk : k < l.length) : wOf l i * sliQ l hs i k = wOf l k * sliQ l hs k i := by
 unfold sliQ
 rw [← Sm_mul, ← Sm_mul]
 refine Sm_congr _ fun h _ => ?_
 have key : ∀ {i k : Nat}, i < l.length → k < l.length → wOf l i * sliT l hs i k h = (cf hs h - cf hs (h - 1)) * (heiS l (cf hs h))⁻¹ * (qOf l i * qOf l k) := fun {i k} hi hk => by
  have hp := (sOf_small hl hi).2
  have h0 : sOf l i ≠ 0 := fun e => by rw [e] at hp; exact absurd hp (by decide)
  unfold sliT
  rw [w_qs hl hi, Rat.div_def, Rat.div_def]
  have := Rat.mul_inv_cancel _ h0
  grind
 unfold sliF
 by_cases hc : h ≠ 0 ∧ cf hs h ≤ sOf l i ∧ cf hs h ≤ sOf l k
 ·rw [if_pos hc, if_pos ⟨hc.1, hc.2.2, hc.2.1⟩, key hi hk, key hk hi]; grind
 ·rw [if_neg hc, if_neg (fun e => hc ⟨e.1, e.2.2, e.2.1⟩)]; grind
theorem OfR.bal {l : List Rn} {c : Int} {od : Nat → Nat → Rat} (h : OfR l c od) (hl : ∀ r ∈ l, r.small) {i k : Nat} (hi : i < l.length) (hk : k < l.length) : wOf l i * od i k = wOf l k * od k i := by
 rcases h with ⟨_, rfl⟩ | ⟨_, rfl⟩ | ⟨_, rfl⟩ | ⟨_, hs, hh, rfl⟩
 ·exact anew_bal hl hi hk
 ·exact suff_bal hl hi hk
 ·exact site_bal i k
 ·exact sli_bal hl hi hk
theorem OfR.balG {l : List Rn} {c : Int} {od : Nat → Nat → Rat} (h : OfR l c od) (hl : ∀ r ∈ l, r.small) {i k : Nat} (hi : i < l.length) (hk : k < l.length) : wOf l i * moveG od l.length i k = wOf l k * moveG od l.length k i := by
 by_cases e : k = i
 ·rw [e]
 ·unfold moveG
  rw [if_neg e, if_neg (fun e2 => e e2.symm)]
  exact h.bal hl hi hk
theorem row_one (od : Nat → Nat → Rat) {n i : Nat} (hi : i < n) : Sm (fun k => moveG od n i k) n = 1 := by
 have e : ∀ k, k < n → moveG od n i k = (if k = i then 1 - offQ od i n else 0) + (if k = i then 0 else od i k) := fun k _ => by
  unfold moveG
  by_cases h : k = i
  ·rw [if_pos h, if_pos h, if_pos h, Rat.add_zero]
  ·rw [if_neg h, if_neg h, if_neg h, Rat.zero_add]
 rw [Sm_congr _ e, Sm_add, Sm_one hi (fun j _ hj => if_neg hj), if_pos rfl]
 show 1 - offQ od i n + offQ od i n = 1
 grind
theorem OfR.stays {l : List Rn} {c : Int} {od : Nat → Nat → Rat} (h : OfR l c od) (hl : ∀ r ∈ l, r.small) {k : Nat} (hk : k < l.length) : Sm (fun i => wOf l i * moveG od l.length i k) l.length = wOf l k := by
 rw [Sm_congr _ fun i hi => h.balG hl hi hk, Sm_mul, row_one od hk, Rat.mul_one]
theorem OfR.ge {l : List Rn} {c : Int} {od : Nat → Nat → Rat} (h : OfR l c od) (hr : rightR l = true) (hl : ∀ r ∈ l, r.small) {i k : Nat} (hi : i < l.length) (hk : k < l.length) : 0 ≤ moveG od l.length i k := by
 unfold moveG
 split
 ·have := h.row hr hl hi
  grind
 ·exact h.nn hr hl i k hi hk
theorem begB_short {p : List Dr} {r : Rn} (h : r.ds.length < p.length) : begB p r = false := by
 unfold begB
 exact decide_eq_false fun e => by omega
theorem begB_all {p : List Dr} {r : Rn} (hl : p.length ≤ r.ds.length) (h : ∀ i, i < p.length → r.ds[i]? = p[i]?) : begB p r = true := by
 refine begB_iff.2 ⟨hl, List.ext_getElem? fun i => ?_⟩
 rw [List.getElem?_take]
 split
 ·rename_i hi; exact h i hi
 ·rename_i hi; rw [List.getElem?_eq_none (by omega)]
theorem begB_not {p : List Dr} {r : Rn} {i : Nat} (hi : i < p.length) (h : r.ds[i]? ≠ p[i]?) : begB p r = false := by
 cases e : begB p r
 ·rfl
 ·exact absurd (begB_get e hi) h
theorem rbegins_c (V : View) (cs : List Value) (r : Rn) (u : Value) (p : List Dr) (hcs : ElK 9 rnE V cs r) (hp : SlK 4 drE V u p) (hl : r.ds.length ≤ 1000) : Spec Tryz.prog 84 [.agg cs.toArray, u] V fun v' V' => v' = .bool (begB p r) := by
 obtain ⟨_, hone, c1, c2, c3, c4, dv, m, c7, c8, rfl, hds, hw⟩ := hcs
 obtain ⟨A, c, rfl, hc, hm⟩ := hds.form
 obtain ⟨A2, c2', rfl, hc2, hm2⟩ := hp.form
 refine (Spec.enter Tryz.func84 rfl fun Γ => ?_)
 simp only [Tryz.ntmps84, List.map_cons, List.map_nil, List.length_cons, List.length_nil, Nat.reduceAdd, Nat.reduceSub, List.replicate_succ, List.replicate_zero, List.cons_append, List.nil_append]
 refine Gx.a (by kernel_rfl) fun K hK => ?_
 simp only [XA]
 refine hK _ ?_
 refine XWP.seq ?_
 by_cases hlen : r.ds.length < p.length
 ·have b1 : decide ((r.ds.length : Int) < (p.length : Int)) = true := decide_eq_true (by omega)
  refine Gx.a (by kernel_rfl) fun K hK => ?_
  simp only [XU, XA, XB, b1]
  refine hK _ ?_
  refine Gx.t rfl ?_
  refine Gx.a (by kernel_rfl) fun K hK => ?_
  simp only [XA]
  refine hK _ (XWP.ret ?_)
  try simp only [thenX_ret, inBlockX_ret]
  refine ret_go _ rfl ?_
  rw [begB_short hlen]; rfl
 have b1 : decide ((r.ds.length : Int) < (p.length : Int)) = false := decide_eq_false (by omega)
 refine Gx.a (by kernel_rfl) fun K hK => ?_
 simp only [XU, XA, XB, b1]
 refine hK _ ?_
 refine Gx.f rfl ?_
 refine XWP.skip ?_
 refine XWP.cutD 1 (fun s => StIs (fun Z => [Z 0, Z 1, .p 0 0, Z 3,Z 4,Z 5,Z 6,Z 7,Z 8,Z 9,Z 10,Z 11,Z 12,Z 13,Z 14,Z 15,Z 16,Z 17,Z 18,Z 19,Z 20,Z 21,Z 22,Z 23,Z 24,Z 25,Z 26,Z 27]) [[.int .i64 r.kind, c1, c2, c3, c4, .slice A r.ds.length c, m, c7, c8]] (fun _ => none) V s ∧ begB p r = true) ?_ ?_
 ·refine Gx.a (by kernel_rfl) fun K hK => ?_
  simp only [XU, XA]
  refine hK _ ?_
  clear hK
  refine XWP.block ?_
  refine XWP.loopD 1 (fun q s => ∃ (k : Nat), StIs (fun Z => [Z 0, Z 1, .p 0 0, Z 3,Z 4,Z 5,Z 6,Z 7,Z 8,Z 9,Z 10,Z 11,Z 12, .v (.slice A2 p.length c2'), .v (.int .i64 (p.length : Int)), .v (.int .i64 (k : Int)), Z 16,Z 17,Z 18,Z 19,Z 20,Z 21,Z 22,Z 23,Z 24,Z 25,Z 26,Z 27]) [[.int .i64 r.kind, c1, c2, c3, c4, .slice A r.ds.length c, m, c7, c8]] (fun _ => none) V s ∧ q + k = p.length ∧ ∀ i, i < k → r.ds[i]? = p[i]?) p.length ⟨0, StIs.of (by exact rfl), by omega, fun i hi => by omega⟩ ?_
  rintro q s ⟨k, hs, hq, heq⟩
  obtain ⟨z, rfl⟩ := hs.out
  try dsimp only
  clear hs
  by_cases hk : k < p.length
  rotate_left
  ·obtain rfl : k = p.length := by omega
   have b2 : decide (((p.length : Nat) : Int) < ((p.length : Nat) : Int)) = false := decide_eq_false (by omega)
   refine Gx.a (by kernel_rfl) fun K hK => ?_
   simp only [XA, XB, b2]
   refine hK _ ?_
   refine XWP.seq (Gx.f rfl ?_)
   refine XWP.exit ?_
   exact fun f => ⟨StIs.of (by exact rfl), begB_all (by omega) heq⟩
  have b2 : decide ((k : Int) < (p.length : Int)) = true := decide_eq_true (by omega)
  refine Gx.a (by kernel_rfl) fun K hK => ?_
  simp only [XA, XB, b2]
  refine hK _ ?_
  refine XWP.seq (Gx.t rfl ?_)
  refine XWP.skip ?_
  obtain ⟨b, o, rfl⟩ := SlK.addr hds (by omega)
  obtain ⟨bp, op, rfl⟩ := SlK.addr hp (by omega)
  obtain ⟨dc, ⟨d1, d2, d3⟩, hcell⟩ := SlK.get hds k (by omega)
  obtain ⟨ec, ⟨e1, e2, e3⟩, hcell2⟩ := SlK.get hp k hk
  have hkd : r.ds[k]? = some r.ds[k] := List.getElem?_eq_getElem (by omega)
  have hkp : p[k]? = some p[k] := List.getElem?_eq_getElem hk
  have d3 : dc = r.ds[k].cells := d3
  have e3 : ec = p[k].cells := e3
  generalize r.ds[k] = d at *
  generalize p[k] = e at *
  subst d3
  subst e3
  refine XWP.cutD 1 (fun s => StIs (fun Z => [Z 0, Z 1, .p 0 0, Z 3,Z 4,Z 5,Z 6,Z 7,Z 8,Z 9,Z 10,Z 11,Z 12, .v (.slice (some ⟨bp, op, none⟩) p.length c2'), .v (.int .i64 (p.length : Int)), .v (.int .i64 (k : Int)), Z 16,Z 17,Z 18,Z 19,Z 20,Z 21,Z 22,Z 23,Z 24,Z 25,Z 26,Z 27]) [[.int .i64 r.kind, c1, c2, c3, c4, .slice (some ⟨b, o, none⟩) r.ds.length c, m, c7, c8]] (fun _ => none) V s ∧ d = e) ?_ ?_
  rotate_left
  ·rintro s ⟨hs, hde⟩
   obtain ⟨z, rfl⟩ := hs.out
   try dsimp only
   clear hs
   refine Gx.c (by kernel_rfl) fun K hK => ?_
   simp only [XA, XB, i64_succ k (by omega)]
   exact hK _ ⟨q - 1, by omega, fun f => ⟨k + 1, StIs.of (by exact rfl), by omega, fun i hi => by
    by_cases ei : i = k
    ·subst ei; rw [hkd, hkp, hde]
    ·exact heq i (by omega)⟩⟩
  clear hK
  refine XWP.block ?_
  refine Gx.a (by kernel_rfl) fun K hK => ?_
  simp only [XU, XA]
  refine ⟨by omega, by omega, ld_mem (loadsK shapeT_66 e1 (hcell2 _)) ?_⟩
  simp only [XU, XA]
  refine st_whole (cs := [.int .i64 e.site, .int .i64 e.index, .int .i64 e.odds, .int .i64 e.whole]) shapeT_66 rfl rfl rfl rfl ?_
  simp only [XA]
  refine hK _ ?_
  (refine XWP.drw [0, 1, 2, 3, 4, 5, 6] (by kernel_rfl) (by kernel_rfl) (by kernel_rfl) fun K hK => ?_) <;> dsimp only [pickOps, List.getElem?_cons_zero, List.getElem?_cons_succ]
  simp only [XU, XA]
  refine ⟨by omega, by omega, ld_mem (loadsK shapeT_66 d1 (hcell _)) ?_⟩
  simp only [XU, XA, Nat.reduceAdd, Nat.reduceLeDiff, ↓reduceIte]
  refine bin_own rfl (drawn_ne d e) ?_
  by_cases hde : d = e
  ·have b3 : decide (d ≠ e) = false := decide_eq_false (fun h => h hde)
   simp only [XA, b3]
   refine hK _ ?_
   refine Gx.f rfl ?_
   refine XWP.skip ?_
   exact fun f => ⟨StIs.of (by exact rfl), hde⟩
  ·have b3 : decide (d ≠ e) = true := decide_eq_true hde
   simp only [XA, b3]
   refine hK _ ?_
   refine Gx.t rfl ?_
   refine Gx.a (by kernel_rfl) fun K hK => ?_
   simp only [XA]
   refine hK _ (XWP.ret ?_)
   try simp only [thenX_ret, inBlockX_ret]
   refine ret_go _ rfl ?_
   rw [begB_not hk (by rw [hkd, hkp]; exact fun h => hde (Option.some.inj h))]; rfl
 rintro s ⟨hs, hb⟩
 obtain ⟨z, rfl⟩ := hs.out
 try dsimp only
 refine Gx.a (by kernel_rfl) fun K hK => ?_
 simp only [XA]
 refine hK _ (XWP.ret ?_)
 try simp only [thenX_ret, inBlockX_ret]
 refine ret_go _ rfl ?_
 rw [hb]; rfl
theorem metI_none {W : List Rn} {n k : Nat} (h : metI W n k = none) : ∀ m, k ≤ m → metI W n m = none := by
  intro m hm
  induction m with
  | zero => have : k = 0 := by omega
            subst this; exact h
  | succ m ih =>
    by_cases e : k = m + 1
    · subst e; exact h
    · unfold metI; rw [ih (by omega)]; rfl
theorem metI_succ {W : List Rn} {n k : Nat} {st : List Dr × Int} {r : Rn} (h : metI W n k = some st) (hr : W[k]? = some r) : metI W n (k + 1) = metStep n st r := by unfold metI; rw [h, hr]; rfl
theorem partsW_none {W : List Rn} {n k : Nat} (hk : k < W.length) (h1 : ¬ (W.length = 1 ∧ (W[0]?).map (·.ds.length) = some n)) (h : metI W n (k + 1) = none) : partsW W n = false := by
 unfold partsW
 rw [if_neg h1, metI_none h W.length (by omega)]
def metMem (H : Heap) (V : View) (mv : Value) (met : List Dr) : Prop := ∃ cells, Own H 66 4 mv met.length cells ∧ RowK 4 drE V cells met
theorem metMem.nil (H : Heap) (V : View) : metMem H V (.slice none 0 0) [] := ⟨[], own_nil, RowK.nil V⟩
theorem metMem.form {H : Heap} {V : View} {mv : Value} {met : List Dr} (h : metMem H V mv met) : ∃ A c, mv = .slice A met.length c := by
 obtain ⟨cells, ho, _⟩ := h
 rcases own_parts ho with ⟨rfl, h0, _⟩ | ⟨g, cap, rfl, _⟩
 ·exact ⟨none, 0, by rw [h0]⟩
 ·exact ⟨_, cap, rfl⟩
theorem metMem.get {H : Heap} {V : View} {b o n c : Nat} {met : List Dr} (h : metMem H V (.slice (some ⟨b, o, none⟩) n c) met) {j : Nat} {x : Dr} (hx : met[j]? = some x) : ∀ V' i u, x.cells[i]? = some u → CellAt H V' b (o + j * 4 + i) u := by
 obtain ⟨cells, ho, hr⟩ := h
 rcases own_parts ho with ⟨e, _⟩ | ⟨g, cap, e, hg, _⟩
 ·cases e
 ·cases e
  intro V' i u hu
  obtain ⟨cs, ⟨_, _, e3⟩, hc⟩ := hr.2 j x hx
  have e3 : cs = x.cells := e3
  subst e3
  exact .inl ⟨_, hg, by rw [Nat.zero_add]; exact hc i u hu⟩
theorem metMem.addr {H : Heap} {V : View} {A : Option Addr} {n c : Nat} {met : List Dr} (h : metMem H V (.slice A n c) met) (h0 : 0 < met.length) : ∃ b o, A = some ⟨b, o, none⟩ := by
 obtain ⟨cells, ho, _⟩ := h
 rcases own_parts ho with ⟨e, h1, _⟩ | ⟨g, cap, e, _⟩
 ·omega
 ·cases e; exact ⟨g, 0, rfl⟩
set_option maxHeartbeats 8000000 in
set_option maxRecDepth 100000 in
theorem rparts_c (V : View) (v u : Value) (L : List Rn) (p : List Dr) (h : SlK 9 rnE V v L) (hp : SlK 4 drE V u p) (hl : L.length ≤ 100) (hds : ∀ r ∈ L, r.ds.length ≤ 1000) (hg : ∀ r ∈ L, ∀ d ∈ r.ds, d.good) (h0 : 0 < (withL L p).length) : Spec Tryz.prog 36 [v, u] V fun v' V' => v' = .bool (partsB L p) := by
 have hL0 : 0 < L.length := Nat.lt_of_lt_of_le h0 (List.length_filter_le _ _)
 obtain ⟨A, cL, rfl, _, _⟩ := h.form
 obtain ⟨bL, oL, rfl⟩ := SlK.addr h hL0
 obtain ⟨A2, c2, rfl, _, _⟩ := hp.form
 refine (Spec.enter Tryz.func36 rfl fun Γ => ?_)
 simp only [Tryz.ntmps36, List.map_cons, List.map_nil, List.length_cons, List.length_nil, Nat.reduceAdd, Nat.reduceSub, List.replicate_succ, List.replicate_zero, List.cons_append, List.nil_append]
 refine Gx.a (by kernel_rfl) fun K hK => ?_
 simp only [XA]
 refine hK _ ?_
 refine Gx.a (by kernel_rfl) fun K hK => ?_
 simp only [XA]
 refine hK _ ?_
 refine XWP.cutD 0 (fun s => ∃ (V2 : View) (H2 : Heap) (sv : Value) (cells : List Value), StIs (fun Z => [.v (.slice (some ⟨bL, oL, none⟩) L.length cL), .v (.slice A2 p.length c2), Z 2,Z 3,Z 4, .v sv, Z 6,Z 7,Z 8,Z 9,Z 10,Z 11,Z 12,Z 13,Z 14,Z 15,Z 16,Z 17,Z 18,Z 19,Z 20,Z 21,Z 22,Z 23,Z 24,Z 25,Z 26,Z 27,Z 28,Z 29,Z 30,Z 31,Z 32,Z 33,Z 34,Z 35,Z 36,Z 37,Z 38,Z 39,Z 40,Z 41,Z 42,Z 43,Z 44,Z 45,Z 46,Z 47,Z 48,Z 49,Z 50,Z 51,Z 52,Z 53,Z 54,Z 55,Z 56,Z 57,Z 58,Z 59,Z 60,Z 61,Z 62,Z 63,Z 64,Z 65,Z 66,Z 67,Z 68,Z 69,Z 70,Z 71,Z 72,Z 73,Z 74,Z 75,Z 76,Z 77,Z 78,Z 79,Z 80,Z 81,Z 82,Z 83,Z 84,Z 85,Z 86,Z 87,Z 88,Z 89,Z 90,Z 91,Z 92,Z 93,Z 94,Z 95,Z 96,Z 97,Z 98,Z 99,Z 100,Z 101,Z 102,Z 103,Z 104,Z 105,Z 106,Z 107,Z 108,Z 109,Z 110,Z 111,Z 112,Z 113,Z 114,Z 115,Z 116,Z 117,Z 118,Z 119,Z 120,Z 121,Z 122]) [] H2 V2 s ∧ V.le V2 ∧ Own H2 51 9 sv (withL L p).length cells ∧ RowK 9 rnE V2 cells (withL L p)) ?_ ?_
 ·refine Gx.a (by kernel_rfl) fun K hK => ?_
  simp only [XU, XA]
  refine hK _ ?_
  clear hK
  refine XWP.block ?_
  refine XWP.loopD 0 (fun q s => ∃ (k : Nat) (V2 : View) (H2 : Heap) (sv : Value) (cells : List Value), StIs (fun Z => [.v (.slice (some ⟨bL, oL, none⟩) L.length cL), .v (.slice A2 p.length c2), Z 2,Z 3,Z 4, .v sv, Z 6,Z 7,Z 8,Z 9,Z 10,Z 11,Z 12,Z 13,Z 14,Z 15,Z 16, .v (.slice (some ⟨bL, oL, none⟩) L.length cL), .v (.int .i64 (L.length : Int)), .v (.int .i64 (k : Int)), Z 20,Z 21,Z 22,Z 23,Z 24,Z 25,Z 26,Z 27,Z 28,Z 29,Z 30,Z 31,Z 32,Z 33,Z 34,Z 35,Z 36,Z 37,Z 38,Z 39,Z 40,Z 41,Z 42,Z 43,Z 44,Z 45,Z 46,Z 47,Z 48,Z 49,Z 50,Z 51,Z 52,Z 53,Z 54,Z 55,Z 56,Z 57,Z 58,Z 59,Z 60,Z 61,Z 62,Z 63,Z 64,Z 65,Z 66,Z 67,Z 68,Z 69,Z 70,Z 71,Z 72,Z 73,Z 74,Z 75,Z 76,Z 77,Z 78,Z 79,Z 80,Z 81,Z 82,Z 83,Z 84,Z 85,Z 86,Z 87,Z 88,Z 89,Z 90,Z 91,Z 92,Z 93,Z 94,Z 95,Z 96,Z 97,Z 98,Z 99,Z 100,Z 101,Z 102,Z 103,Z 104,Z 105,Z 106,Z 107,Z 108,Z 109,Z 110,Z 111,Z 112,Z 113,Z 114,Z 115,Z 116,Z 117,Z 118,Z 119,Z 120,Z 121,Z 122]) [] H2 V2 s ∧ q + k = L.length ∧ V.le V2 ∧ Own H2 51 9 sv (withL (L.take k) p).length cells ∧ RowK 9 rnE V2 cells (withL (L.take k) p)) L.length ⟨0, V, _, _, [], StIs.of (by exact rfl), by omega, View.le_refl _, own_nil, RowK.nil V⟩ ?_
  rintro q s ⟨k, V2, H2, sv, cells, hs, hq, hV2, ho, hr⟩
  obtain ⟨z, rfl⟩ := hs.out
  try dsimp only
  clear hs
  by_cases hk : k < L.length
  rotate_left
  ·obtain rfl : k = L.length := by omega
   have bt1 : decide (((L.length : Nat) : Int) < ((L.length : Nat) : Int)) = false := decide_eq_false (by omega)
   refine Gx.a (by kernel_rfl) fun K hK => ?_
   simp only [XA, XB, bt1]
   refine hK _ ?_
   refine XWP.seq (Gx.f rfl ?_)
   refine XWP.exit ?_
   rw [List.take_length] at ho hr
   exact fun f => ⟨V2, H2, sv, cells, StIs.of (by exact rfl), hV2, ho, hr⟩
  have bt1 : decide ((k : Int) < (L.length : Int)) = true := decide_eq_true (by omega)
  refine Gx.a (by kernel_rfl) fun K hK => ?_
  simp only [XA, XB, bt1]
  refine hK _ ?_
  refine XWP.seq (Gx.t rfl ?_)
  refine XWP.skip ?_
  obtain ⟨r, hrk⟩ : ∃ r, L[k]? = some r := ⟨_, List.getElem?_eq_getElem hk⟩
  have er : L[k] = r := (List.getElem?_eq_some_iff.1 hrk).2
  have hrL : r ∈ L := List.mem_of_getElem? hrk
  have h2 := h.mono rnE_ok hV2
  obtain ⟨cs, hcs, hcell⟩ := SlK.get h2 k hk
  rw [er] at hcs
  have hcsE := hcs
  obtain ⟨v0, v1, v2, v3, v4, dv, v6, v7, v8, rfl, hdsr⟩ := rn_draws hcs
  obtain ⟨A1, q1, rfl, _, _⟩ := hdsr.form
  have hWk : (withL (L.take k) p).length ≤ 100 := by
   have := List.length_filter_le (begB p) (L.take k)
   rw [List.length_take] at this
   unfold withL
   omega
  have etk : withL (L.take (k + 1)) p = withL (L.take k) p ++ if begB p r = true then [r] else [] := by
   unfold withL
   rw [List.take_add_one, hrk, Option.toList_some, List.filter_append]
   cases hb : begB p r <;> simp [hb]
  refine XWP.cutD 0 (fun s => ∃ (V3 : View) (H3 : Heap) (sv : Value) (cells : List Value), StIs (fun Z => [.v (.slice (some ⟨bL, oL, none⟩) L.length cL), .v (.slice A2 p.length c2), Z 2,Z 3,Z 4, .v sv, Z 6,Z 7,Z 8,Z 9,Z 10,Z 11,Z 12,Z 13,Z 14,Z 15,Z 16, .v (.slice (some ⟨bL, oL, none⟩) L.length cL), .v (.int .i64 (L.length : Int)), .v (.int .i64 (k : Int)), Z 20,Z 21,Z 22,Z 23,Z 24,Z 25,Z 26,Z 27,Z 28,Z 29,Z 30,Z 31,Z 32,Z 33,Z 34,Z 35,Z 36,Z 37,Z 38,Z 39,Z 40,Z 41,Z 42,Z 43,Z 44,Z 45,Z 46,Z 47,Z 48,Z 49,Z 50,Z 51,Z 52,Z 53,Z 54,Z 55,Z 56,Z 57,Z 58,Z 59,Z 60,Z 61,Z 62,Z 63,Z 64,Z 65,Z 66,Z 67,Z 68,Z 69,Z 70,Z 71,Z 72,Z 73,Z 74,Z 75,Z 76,Z 77,Z 78,Z 79,Z 80,Z 81,Z 82,Z 83,Z 84,Z 85,Z 86,Z 87,Z 88,Z 89,Z 90,Z 91,Z 92,Z 93,Z 94,Z 95,Z 96,Z 97,Z 98,Z 99,Z 100,Z 101,Z 102,Z 103,Z 104,Z 105,Z 106,Z 107,Z 108,Z 109,Z 110,Z 111,Z 112,Z 113,Z 114,Z 115,Z 116,Z 117,Z 118,Z 119,Z 120,Z 121,Z 122]) [] H3 V3 s ∧ V.le V3 ∧ Own H3 51 9 sv (withL (L.take (k + 1)) p).length cells ∧ RowK 9 rnE V3 cells (withL (L.take (k + 1)) p)) ?_ ?_
  rotate_left
  ·rintro s ⟨V3, H3, sv, cells, hs, hV3, ho, hr⟩
   obtain ⟨z, rfl⟩ := hs.out
   try dsimp only
   clear hs
   refine Gx.c (by kernel_rfl) fun K hK => ?_
   simp only [XA, XB, i64_succ k (by omega)]
   exact hK _ ⟨q - 1, by omega, fun f => ⟨k + 1, V3, H3, sv, cells, StIs.of (by exact rfl), by omega, hV3, ho, hr⟩⟩
  clear hK
  refine XWP.block ?_
  refine Gx.a (by kernel_rfl) fun K hK => ?_
  simp only [XU, XA]
  refine ⟨by omega, by omega, ld_mem (loadsK shapeT_51 rfl fun j u hj => hcell _ j u hj) ?_⟩
  simp only [XU, XA]
  refine st_whole (cs := [v0, v1, v2, v3, v4, .slice A1 r.ds.length q1, v6, v7, v8]) shapeT_51 rfl rfl rfl hcsE.2.1 ?_
  simp only [XA]
  refine hK _ ?_
  refine Gx.a (by kernel_rfl) fun K hK => ?_
  simp only [XU, XA, Nat.reduceAdd, Nat.reduceLeDiff, ↓reduceIte]
  refine call_go (by kernel_rfl) rfl (rbegins_c _ _ r _ p hcsE (hp.mono drE_ok hV2) (hds r hrL)) fun v3 V3 hV3 h3 => ?_
  subst h3
  cases hb : begB p r
  ·simp only [XA]
   refine hK _ ?_
   refine Gx.f rfl ?_
   refine XWP.skip ?_
   rw [etk, hb]
   simp only [Bool.false_eq_true, if_false, List.append_nil]
   exact fun f => ⟨V3, H2, sv, cells, StIs.of (by exact rfl), View.le_trans hV2 hV3, ho, hr.mono rnE_ok hV3⟩
  ·simp only [XA]
   refine hK _ ?_
   refine Gx.t rfl ?_
   refine Gx.c (by kernel_rfl) fun K hK => ?_
   simp only [XU, XA, Nat.reduceAdd, Nat.reduceLeDiff, ↓reduceIte]
   refine bs_go (by kernel_rfl) #[(0, .agg ([v0, v1, v2, v3, v4, .slice A1 r.ds.length q1, v6, v7, v8] : List Value).toArray)] (by simp [ev_tmp, SV.val]) (bs_agg elemT_22 zeroT_51 rfl (by omega) (by omega) rfl) fun bq hbq1 hbq2 => ?_
   simp only [XA, Nat.reduceAdd]
   refine ap_go elemT_22 (by kernel_rfl) zeroT_51 rfl (by omega) (own_upd ho hbq1) (srcK (upd_at _ _ _) hcsE.2.1) (by omega) (by omega) fun v' H' hres => ?_
   simp only [XA]
   rw [hb, if_pos rfl] at etk
   refine hK _ fun f => ⟨V3, H', v', _, StIs.of (by exact rfl), View.le_trans hV2 hV3, ?_, by rw [etk]; exact (hr.mono rnE_ok hV3).snoc (hcsE.mono rnE_ok hV3)⟩
   rw [etk, List.length_append, List.length_singleton]
   exact hres.1
 rintro s ⟨V2, H2, sv, cells, hs, hV2, ho, hr⟩
 obtain ⟨z, rfl⟩ := hs.out
 try dsimp only
 clear hs
 have hWL : ∀ r ∈ withL L p, r ∈ L ∧ p.length ≤ r.ds.length := fun r hr => by
  unfold withL at hr
  rw [List.mem_filter] at hr
  exact ⟨hr.1, (begB_iff.1 hr.2).1⟩
 have hWl : (withL L p).length ≤ 100 := by
  have := List.length_filter_le (begB p) L
  unfold withL
  omega
 have ePB : partsB L p = partsW (withL L p) p.length := rfl
 rw [ePB]
 generalize withL L p = W at *
 refine XWP.pubK rnE_ok (by omega) ho hr fun H3 V3 hV3 hW _ => ?_
 have hV03 := View.le_trans hV2 hV3
 clear ho hr
 obtain ⟨AW, cW, rfl, _, _⟩ := hW.form
 obtain ⟨bW, oW, rfl⟩ := SlK.addr hW h0
 obtain ⟨r0, hr0⟩ : ∃ r, W[0]? = some r := ⟨_, List.getElem?_eq_getElem h0⟩
 have e0 : W[0] = r0 := (List.getElem?_eq_some_iff.1 hr0).2
 obtain ⟨cs0, hcs0, hcell0⟩ := SlK.get hW 0 h0
 rw [e0] at hcs0
 obtain ⟨u0, u1, u2, u3, u4, dv0, u6, u7, u8, rfl, hds0⟩ := rn_draws hcs0
 obtain ⟨A0, q0, rfl, _, _⟩ := hds0.form
 have hd0cell : ∀ H, CellAt H V3 bW (oW + 5) (.slice A0 r0.ds.length q0) := fun H => by
  have := hcell0 H 5 _ rfl
  rw [Nat.zero_mul, Nat.add_zero] at this
  exact this
 have y0 := fun H => loads1 (H := H) shapeT_45 (hd0cell H)
 refine Gx.a (by kernel_rfl) fun K hK => ?_
 simp only [XU, XA]
 refine hK _ ?_
 refine XWP.cut (fun s => StIs (fun Z => [.v (.slice (some ⟨bL, oL, none⟩) L.length cL), .v (.slice A2 p.length c2), Z 2,Z 3,Z 4, .v (.slice (some ⟨bW, oW, none⟩) W.length cW), Z 6,Z 7, .v (.int .i64 (p.length : Int)), Z 9,Z 10,Z 11,Z 12,Z 13,Z 14,Z 15,Z 16,Z 17,Z 18,Z 19,Z 20,Z 21,Z 22,Z 23,Z 24,Z 25,Z 26,Z 27,Z 28,Z 29,Z 30,Z 31,Z 32,Z 33,Z 34,Z 35,Z 36,Z 37,Z 38,Z 39,Z 40,Z 41,Z 42,Z 43,Z 44,Z 45,Z 46,Z 47,Z 48,Z 49,Z 50,Z 51,Z 52,Z 53,Z 54,Z 55,Z 56,Z 57,Z 58,Z 59,Z 60,Z 61,Z 62,Z 63,Z 64,Z 65,Z 66,Z 67,Z 68,Z 69,Z 70,Z 71,Z 72,Z 73,Z 74,Z 75,Z 76,Z 77,Z 78,Z 79,Z 80,Z 81,Z 82,Z 83,Z 84,Z 85,Z 86,Z 87,Z 88,Z 89,Z 90,Z 91,Z 92,Z 93,Z 94,Z 95,Z 96,Z 97,Z 98,Z 99,Z 100,Z 101,Z 102,Z 103,Z 104,Z 105,Z 106,Z 107,Z 108,Z 109,Z 110,Z 111,Z 112,Z 113,Z 114,Z 115,Z 116,Z 117,Z 118,Z 119,Z 120,Z 121,Z 122]) [] H3 V3 s ∧ ¬ (W.length = 1 ∧ (W[0]?).map (·.ds.length) = some p.length)) ?_ ?_
 ·by_cases h1 : W.length = 1
  ·have b1 : decide ((W.length : Int) = 1) = true := decide_eq_true (by omega)
   by_cases h2 : r0.ds.length = p.length
   ·have b2 : decide ((r0.ds.length : Int) = (p.length : Int)) = true := decide_eq_true (by omega)
    refine Gx.a (by kernel_rfl) fun K hK => ?_
    simp only [XU, XA, XB, gateX, Nat.reduceMul, ↓reduceIte, Int.reduceLE, beq_self_eq_true, b1]
    refine ⟨by omega, ld_mem (y0 _) ?_⟩
    simp only [XU, XA, XB, gateX, ↓reduceIte, beq_self_eq_true, b2]
    refine hK _ ?_
    refine Gx.t rfl ?_
    refine Gx.a (by kernel_rfl) fun K hK => ?_
    simp only [XA]
    refine hK _ (XWP.ret ?_)
    try simp only [thenX_ret, inBlockX_ret]
    refine ret_go _ rfl ?_
    unfold partsW
    rw [if_pos ⟨h1, by rw [hr0, ← h2]; rfl⟩]; rfl
   ·have b2 : decide ((r0.ds.length : Int) = (p.length : Int)) = false := decide_eq_false (by omega)
    refine Gx.a (by kernel_rfl) fun K hK => ?_
    simp only [XU, XA, XB, gateX, Nat.reduceMul, ↓reduceIte, Int.reduceLE, beq_self_eq_true, b1]
    refine ⟨by omega, ld_mem (y0 _) ?_⟩
    simp only [XU, XA, XB, gateX, ↓reduceIte, beq_self_eq_true, b2]
    refine hK _ ?_
    refine Gx.f rfl ?_
    refine XWP.skip ?_
    exact ⟨StIs.of (by exact rfl), fun e => h2 (by have := e.2; rw [hr0] at this; simpa using this)⟩
  ·have b1 : decide ((W.length : Int) = 1) = false := decide_eq_false (by omega)
   refine Gx.a (by kernel_rfl) fun K hK => ?_
   simp only [XU, XA, XB, gateX, ↓reduceIte, b1]
   refine hK _ ?_
   refine Gx.f rfl ?_
   refine XWP.skip ?_
   exact ⟨StIs.of (by exact rfl), fun e => h1 e.1⟩
 rintro s ⟨hs, hn1⟩
 obtain ⟨z, rfl⟩ := hs.out
 try dsimp only
 clear hs
 refine Gx.a (by kernel_rfl) fun K hK => ?_
 simp only [XA]
 refine hK _ ?_
 refine Gx.a (by kernel_rfl) fun K hK => ?_
 simp only [XA]
 refine hK _ ?_
 refine XWP.cutD 0 (fun s => ∃ (met : List Dr) (odds : Int) (H4 : Heap), StIs (fun Z => [.v (.slice (some ⟨bL, oL, none⟩) L.length cL), .v (.slice A2 p.length c2), Z 2,Z 3,Z 4, .v (.slice (some ⟨bW, oW, none⟩) W.length cW), Z 6,Z 7, .v (.int .i64 (p.length : Int)), Z 9, .v (.int .i64 odds), Z 11,Z 12,Z 13,Z 14,Z 15,Z 16,Z 17,Z 18,Z 19,Z 20,Z 21,Z 22,Z 23,Z 24,Z 25,Z 26,Z 27,Z 28,Z 29,Z 30,Z 31,Z 32,Z 33,Z 34,Z 35,Z 36,Z 37,Z 38,Z 39,Z 40,Z 41,Z 42,Z 43,Z 44,Z 45,Z 46,Z 47,Z 48,Z 49,Z 50,Z 51,Z 52,Z 53,Z 54,Z 55,Z 56,Z 57,Z 58,Z 59,Z 60,Z 61,Z 62,Z 63,Z 64,Z 65,Z 66,Z 67,Z 68,Z 69,Z 70,Z 71,Z 72,Z 73,Z 74,Z 75,Z 76,Z 77,Z 78,Z 79,Z 80,Z 81,Z 82,Z 83,Z 84,Z 85,Z 86,Z 87,Z 88,Z 89,Z 90,Z 91,Z 92,Z 93,Z 94,Z 95,Z 96,Z 97,Z 98,Z 99,Z 100,Z 101,Z 102,Z 103,Z 104,Z 105,Z 106,Z 107,Z 108,Z 109,Z 110,Z 111,Z 112,Z 113,Z 114,Z 115,Z 116,Z 117,Z 118,Z 119,Z 120,Z 121,Z 122]) [] H4 V3 s ∧ metI W p.length W.length = some (met, odds)) ?_ ?_
 ·refine Gx.a (by kernel_rfl) fun K hK => ?_
  simp only [XU, XA]
  refine hK _ ?_
  clear hK
  refine XWP.block ?_
  refine XWP.loopD 0 (fun q s => ∃ (k : Nat) (met : List Dr) (odds : Int) (mv : Value) (H4 : Heap), StIs (fun Z => [.v (.slice (some ⟨bL, oL, none⟩) L.length cL), .v (.slice A2 p.length c2), Z 2,Z 3,Z 4, .v (.slice (some ⟨bW, oW, none⟩) W.length cW), Z 6,Z 7, .v (.int .i64 (p.length : Int)), .v mv, .v (.int .i64 odds), Z 11,Z 12,Z 13,Z 14,Z 15,Z 16,Z 17,Z 18,Z 19,Z 20,Z 21,Z 22,Z 23,Z 24,Z 25,Z 26,Z 27,Z 28,Z 29,Z 30,Z 31,Z 32,Z 33,Z 34,Z 35,Z 36,Z 37,Z 38,Z 39,Z 40,Z 41,Z 42,Z 43,Z 44, .v (.slice (some ⟨bW, oW, none⟩) W.length cW), .v (.int .i64 (W.length : Int)), .v (.int .i64 (k : Int)), Z 48,Z 49,Z 50,Z 51,Z 52,Z 53,Z 54,Z 55,Z 56,Z 57,Z 58,Z 59,Z 60,Z 61,Z 62,Z 63,Z 64,Z 65,Z 66,Z 67,Z 68,Z 69,Z 70,Z 71,Z 72,Z 73,Z 74,Z 75,Z 76,Z 77,Z 78,Z 79,Z 80,Z 81,Z 82,Z 83,Z 84,Z 85,Z 86,Z 87,Z 88,Z 89,Z 90,Z 91,Z 92,Z 93,Z 94,Z 95,Z 96,Z 97,Z 98,Z 99,Z 100,Z 101,Z 102,Z 103,Z 104,Z 105,Z 106,Z 107,Z 108,Z 109,Z 110,Z 111,Z 112,Z 113,Z 114,Z 115,Z 116,Z 117,Z 118,Z 119,Z 120,Z 121,Z 122]) [] H4 V3 s ∧ q + k = W.length ∧ metI W p.length k = some (met, odds) ∧ metMem H4 V3 mv met ∧ met.length ≤ k ∧ 0 ≤ odds ∧ odds ≤ 64000 * k) W.length ⟨0, [], 0, _, _, StIs.of (by exact rfl), by omega, rfl, metMem.nil _ _, by simp, by omega, by omega⟩ ?_
  rintro q s ⟨k, met, odds, mv, H4, hs, hq, hmet, hmm, hml, ho1, ho2⟩
  obtain ⟨z, rfl⟩ := hs.out
  try dsimp only
  clear hs
  by_cases hk : k < W.length
  rotate_left
  ·obtain rfl : k = W.length := by omega
   have bt1 : decide (((W.length : Nat) : Int) < ((W.length : Nat) : Int)) = false := decide_eq_false (by omega)
   refine Gx.a (by kernel_rfl) fun K hK => ?_
   simp only [XA, XB, bt1]
   refine hK _ ?_
   refine XWP.seq (Gx.f rfl ?_)
   refine XWP.exit ?_
   exact fun f => ⟨met, odds, H4, StIs.of (by exact rfl), hmet⟩
  have bt1 : decide ((k : Int) < (W.length : Int)) = true := decide_eq_true (by omega)
  refine Gx.a (by kernel_rfl) fun K hK => ?_
  simp only [XA, XB, bt1]
  refine hK _ ?_
  refine XWP.seq (Gx.t rfl ?_)
  refine XWP.skip ?_
  obtain ⟨r, hrk⟩ : ∃ r, W[k]? = some r := ⟨_, List.getElem?_eq_getElem hk⟩
  have er : W[k] = r := (List.getElem?_eq_some_iff.1 hrk).2
  have hrW := hWL r (List.mem_of_getElem? hrk)
  have hgr := hg r hrW.1
  have hlr := hds r hrW.1
  obtain ⟨cs, hcs, hcell⟩ := SlK.get hW k hk
  rw [er] at hcs
  have hcsE := hcs
  obtain ⟨v0, v1, v2, v3, v4, dv, v6, v7, v8, rfl, hdsr⟩ := rn_draws hcs
  obtain ⟨A1, q1, rfl, _, _⟩ := hdsr.form
  have hstep := metI_succ hmet hrk
  refine XWP.cutD 0 (fun s => ∃ (met : List Dr) (odds : Int) (mv : Value) (H4 : Heap), StIs (fun Z => [.v (.slice (some ⟨bL, oL, none⟩) L.length cL), .v (.slice A2 p.length c2), Z 2,Z 3,Z 4, .v (.slice (some ⟨bW, oW, none⟩) W.length cW), Z 6,Z 7, .v (.int .i64 (p.length : Int)), .v mv, .v (.int .i64 odds), Z 11,Z 12,Z 13,Z 14,Z 15,Z 16,Z 17,Z 18,Z 19,Z 20,Z 21,Z 22,Z 23,Z 24,Z 25,Z 26,Z 27,Z 28,Z 29,Z 30,Z 31,Z 32,Z 33,Z 34,Z 35,Z 36,Z 37,Z 38,Z 39,Z 40,Z 41,Z 42,Z 43,Z 44, .v (.slice (some ⟨bW, oW, none⟩) W.length cW), .v (.int .i64 (W.length : Int)), .v (.int .i64 (k : Int)), Z 48,Z 49,Z 50,Z 51,Z 52,Z 53,Z 54,Z 55,Z 56,Z 57,Z 58,Z 59,Z 60,Z 61,Z 62,Z 63,Z 64,Z 65,Z 66,Z 67,Z 68,Z 69,Z 70,Z 71,Z 72,Z 73,Z 74,Z 75,Z 76,Z 77,Z 78,Z 79,Z 80,Z 81,Z 82,Z 83,Z 84,Z 85,Z 86,Z 87,Z 88,Z 89,Z 90,Z 91,Z 92,Z 93,Z 94,Z 95,Z 96,Z 97,Z 98,Z 99,Z 100,Z 101,Z 102,Z 103,Z 104,Z 105,Z 106,Z 107,Z 108,Z 109,Z 110,Z 111,Z 112,Z 113,Z 114,Z 115,Z 116,Z 117,Z 118,Z 119,Z 120,Z 121,Z 122]) [] H4 V3 s ∧ metI W p.length (k + 1) = some (met, odds) ∧ metMem H4 V3 mv met ∧ met.length ≤ k + 1 ∧ 0 ≤ odds ∧ odds ≤ 64000 * (k + 1 : Nat)) ?_ ?_
  rotate_left
  ·rintro s ⟨met, odds, mv, H4, hs, hmet, hmm, hml, ho1, ho2⟩
   obtain ⟨z, rfl⟩ := hs.out
   try dsimp only
   clear hs
   refine Gx.c (by kernel_rfl) fun K hK => ?_
   simp only [XA, XB, i64_succ k (by omega)]
   exact hK _ ⟨q - 1, by omega, fun f => ⟨k + 1, met, odds, mv, H4, StIs.of (by exact rfl), by omega, hmet, hmm, hml, ho1, ho2⟩⟩
  clear hK
  refine XWP.block ?_
  refine Gx.a (by kernel_rfl) fun K hK => ?_
  simp only [XU, XA]
  refine ⟨by omega, by omega, ld_mem (loadsK shapeT_51 rfl fun j u hj => hcell _ j u hj) ?_⟩
  simp only [XU, XA]
  refine st_whole (cs := [v0, v1, v2, v3, v4, .slice A1 r.ds.length q1, v6, v7, v8]) shapeT_51 rfl rfl rfl hcsE.2.1 ?_
  simp only [XA]
  refine hK _ ?_
  refine XWP.seq ?_
  by_cases hlen : r.ds.length = p.length
  ·have b3 : decide ((r.ds.length : Int) = (p.length : Int)) = true := decide_eq_true (by omega)
   refine Gx.a (by kernel_rfl) fun K hK => ?_
   simp only [XU, XA, XB, b3]
   refine hK _ ?_
   refine Gx.t rfl ?_
   refine Gx.a (by kernel_rfl) fun K hK => ?_
   simp only [XA]
   refine hK _ (XWP.ret ?_)
   try simp only [thenX_ret, inBlockX_ret]
   refine ret_go _ rfl ?_
   have : metI W p.length (k + 1) = none := by
    rw [hstep]
    unfold metStep
    rw [List.getElem?_eq_none (by omega)]
   rw [partsW_none hk hn1 this]; rfl
  have b3 : decide ((r.ds.length : Int) = (p.length : Int)) = false := decide_eq_false (by omega)
  refine Gx.a (by kernel_rfl) fun K hK => ?_
  simp only [XU, XA, XB, b3]
  refine hK _ ?_
  refine Gx.f rfl ?_
  refine XWP.skip ?_
  obtain ⟨d, hd⟩ : ∃ d, r.ds[p.length]? = some d := ⟨_, List.getElem?_eq_getElem (by omega)⟩
  obtain ⟨b1, o1, c1, eq1, hdc⟩ := dr_get hdsr hd
  cases eq1
  have hstep2 : metI W p.length (k + 1) = if met.any (metBad d) then none else if met.any (fun x => decide (x.index = d.index)) then some (met, odds) else some (met ++ [d], odds + d.odds) := by
   rw [hstep]
   unfold metStep
   rw [hd]
  have hgd := hgr d (List.mem_of_getElem? hd)
  refine Gx.a (by kernel_rfl) fun K hK => ?_
  simp only [XU, XA]
  refine ⟨by omega, by omega, ld_mem (loadsK (cs := d.cells) shapeT_66 rfl fun j u hj => ?_) ?_⟩
  ·match j, hj with
   | 0, hj => cases hj; exact (hdc _).1
   | 1, hj => cases hj; exact (hdc _).2.1
   | 2, hj => cases hj; exact (hdc _).2.2.1
   | 3, hj => cases hj; exact (hdc _).2.2.2
  simp only [XU, XA]
  refine st_whole (cs := [.int .i64 d.site, .int .i64 d.index, .int .i64 d.odds, .int .i64 d.whole]) shapeT_66 rfl rfl rfl rfl ?_
  simp only [XA]
  refine hK _ ?_
  refine Gx.a (by kernel_rfl) fun K hK => ?_
  simp only [XA]
  refine hK _ ?_
  obtain ⟨AM, cM, rfl⟩ := hmm.form
  refine XWP.cutD 2 (fun s => StIs (fun Z => [.v (.slice (some ⟨bL, oL, none⟩) L.length cL), .v (.slice A2 p.length c2), Z 2,Z 3,Z 4, .v (.slice (some ⟨bW, oW, none⟩) W.length cW), Z 6,Z 7, .v (.int .i64 (p.length : Int)), .v (.slice AM met.length cM), .v (.int .i64 odds), Z 11, .p 0 0, .p 1 0, .v (.bool (met.any fun x => decide (x.index = d.index))), Z 15,Z 16,Z 17,Z 18,Z 19,Z 20,Z 21,Z 22,Z 23,Z 24,Z 25,Z 26,Z 27,Z 28,Z 29,Z 30,Z 31,Z 32,Z 33,Z 34,Z 35,Z 36,Z 37,Z 38,Z 39,Z 40,Z 41,Z 42,Z 43,Z 44, .v (.slice (some ⟨bW, oW, none⟩) W.length cW), .v (.int .i64 (W.length : Int)), .v (.int .i64 (k : Int)), Z 48,Z 49,Z 50,Z 51,Z 52,Z 53,Z 54,Z 55,Z 56,Z 57,Z 58,Z 59,Z 60,Z 61,Z 62,Z 63,Z 64,Z 65,Z 66,Z 67,Z 68,Z 69,Z 70,Z 71,Z 72,Z 73,Z 74,Z 75,Z 76,Z 77,Z 78,Z 79,Z 80,Z 81,Z 82,Z 83,Z 84,Z 85,Z 86,Z 87,Z 88,Z 89,Z 90,Z 91,Z 92,Z 93,Z 94,Z 95,Z 96,Z 97,Z 98,Z 99,Z 100,Z 101,Z 102,Z 103,Z 104,Z 105,Z 106,Z 107,Z 108,Z 109,Z 110,Z 111,Z 112,Z 113,Z 114,Z 115,Z 116,Z 117,Z 118,Z 119,Z 120,Z 121,Z 122]) [[v0, v1, v2, v3, v4, .slice (some ⟨b1, o1, none⟩) r.ds.length q1, v6, v7, v8], [.int .i64 d.site, .int .i64 d.index, .int .i64 d.odds, .int .i64 d.whole]] H4 V3 s ∧ met.any (metBad d) = false) ?_ ?_
  ·refine Gx.a (by kernel_rfl) fun K hK => ?_
   simp only [XU, XA]
   refine hK _ ?_
   clear hK
   refine XWP.block ?_
   refine XWP.loopD 2 (fun n s => ∃ (j : Nat), StIs (fun Z => [.v (.slice (some ⟨bL, oL, none⟩) L.length cL), .v (.slice A2 p.length c2), Z 2,Z 3,Z 4, .v (.slice (some ⟨bW, oW, none⟩) W.length cW), Z 6,Z 7, .v (.int .i64 (p.length : Int)), .v (.slice AM met.length cM), .v (.int .i64 odds), Z 11, .p 0 0, .p 1 0, .v (.bool ((met.take j).any fun x => decide (x.index = d.index))), Z 15,Z 16,Z 17,Z 18,Z 19,Z 20,Z 21,Z 22,Z 23,Z 24,Z 25,Z 26,Z 27,Z 28,Z 29,Z 30,Z 31,Z 32,Z 33,Z 34,Z 35,Z 36,Z 37,Z 38,Z 39,Z 40,Z 41,Z 42,Z 43,Z 44, .v (.slice (some ⟨bW, oW, none⟩) W.length cW), .v (.int .i64 (W.length : Int)), .v (.int .i64 (k : Int)), Z 48,Z 49,Z 50,Z 51,Z 52,Z 53,Z 54,Z 55,Z 56,Z 57,Z 58,Z 59,Z 60, .v (.slice AM met.length cM), .v (.int .i64 (met.length : Int)), .v (.int .i64 (j : Int)), Z 64,Z 65,Z 66,Z 67,Z 68,Z 69,Z 70,Z 71,Z 72,Z 73,Z 74,Z 75,Z 76,Z 77,Z 78,Z 79,Z 80,Z 81,Z 82,Z 83,Z 84,Z 85,Z 86,Z 87,Z 88,Z 89,Z 90,Z 91,Z 92,Z 93,Z 94,Z 95,Z 96,Z 97,Z 98,Z 99,Z 100,Z 101,Z 102,Z 103,Z 104,Z 105,Z 106,Z 107,Z 108,Z 109,Z 110,Z 111,Z 112,Z 113,Z 114,Z 115,Z 116,Z 117,Z 118,Z 119,Z 120,Z 121,Z 122]) [[v0, v1, v2, v3, v4, .slice (some ⟨b1, o1, none⟩) r.ds.length q1, v6, v7, v8], [.int .i64 d.site, .int .i64 d.index, .int .i64 d.odds, .int .i64 d.whole]] H4 V3 s ∧ n + j = met.length ∧ (met.take j).any (metBad d) = false) met.length ⟨0, StIs.of (by exact rfl), by omega, by simp⟩ ?_
   rintro n s ⟨j, hs, hn, hbad⟩
   obtain ⟨y, rfl⟩ := hs.out
   try dsimp only
   clear hs
   by_cases hj : j < met.length
   rotate_left
   ·obtain rfl : j = met.length := by omega
    have bt2 : decide (((met.length : Nat) : Int) < ((met.length : Nat) : Int)) = false := decide_eq_false (by omega)
    refine Gx.a (by kernel_rfl) fun K hK => ?_
    simp only [XA, XB, bt2]
    refine hK _ ?_
    refine XWP.seq (Gx.f rfl ?_)
    refine XWP.exit ?_
    rw [List.take_length] at hbad ⊢
    exact fun f => ⟨StIs.of (by exact rfl), hbad⟩
   have bt2 : decide ((j : Int) < (met.length : Int)) = true := decide_eq_true (by omega)
   refine Gx.a (by kernel_rfl) fun K hK => ?_
   simp only [XA, XB, bt2]
   refine hK _ ?_
   refine XWP.seq (Gx.t rfl ?_)
   refine XWP.skip ?_
   obtain ⟨x, hx⟩ : ∃ x, met[j]? = some x := ⟨_, List.getElem?_eq_getElem hj⟩
   have etj : met.take (j + 1) = met.take j ++ [x] := by rw [List.take_add_one, hx]; rfl
   obtain ⟨bM, oM, rfl⟩ := hmm.addr (by omega)
   have hxc := hmm.get hx V3
   refine XWP.cutD 2 (fun s => StIs (fun Z => [.v (.slice (some ⟨bL, oL, none⟩) L.length cL), .v (.slice A2 p.length c2), Z 2,Z 3,Z 4, .v (.slice (some ⟨bW, oW, none⟩) W.length cW), Z 6,Z 7, .v (.int .i64 (p.length : Int)), .v (.slice (some ⟨bM, oM, none⟩) met.length cM), .v (.int .i64 odds), Z 11, .p 0 0, .p 1 0, .v (.bool ((met.take (j + 1)).any fun x => decide (x.index = d.index))), Z 15,Z 16,Z 17,Z 18,Z 19,Z 20,Z 21,Z 22,Z 23,Z 24,Z 25,Z 26,Z 27,Z 28,Z 29,Z 30,Z 31,Z 32,Z 33,Z 34,Z 35,Z 36,Z 37,Z 38,Z 39,Z 40,Z 41,Z 42,Z 43,Z 44, .v (.slice (some ⟨bW, oW, none⟩) W.length cW), .v (.int .i64 (W.length : Int)), .v (.int .i64 (k : Int)), Z 48,Z 49,Z 50,Z 51,Z 52,Z 53,Z 54,Z 55,Z 56,Z 57,Z 58,Z 59,Z 60, .v (.slice (some ⟨bM, oM, none⟩) met.length cM), .v (.int .i64 (met.length : Int)), .v (.int .i64 (j : Int)), Z 64,Z 65,Z 66,Z 67,Z 68,Z 69,Z 70,Z 71,Z 72,Z 73,Z 74,Z 75,Z 76,Z 77,Z 78,Z 79,Z 80,Z 81,Z 82,Z 83,Z 84,Z 85,Z 86,Z 87,Z 88,Z 89,Z 90,Z 91,Z 92,Z 93,Z 94,Z 95,Z 96,Z 97,Z 98,Z 99,Z 100,Z 101,Z 102,Z 103,Z 104,Z 105,Z 106,Z 107,Z 108,Z 109,Z 110,Z 111,Z 112,Z 113,Z 114,Z 115,Z 116,Z 117,Z 118,Z 119,Z 120,Z 121,Z 122]) [[v0, v1, v2, v3, v4, .slice (some ⟨b1, o1, none⟩) r.ds.length q1, v6, v7, v8], [.int .i64 d.site, .int .i64 d.index, .int .i64 d.odds, .int .i64 d.whole]] H4 V3 s ∧ (met.take (j + 1)).any (metBad d) = false) ?_ ?_
   rotate_left
   ·rintro s ⟨hs, hbad⟩
    obtain ⟨y, rfl⟩ := hs.out
    try dsimp only
    clear hs
    refine Gx.c (by kernel_rfl) fun K hK => ?_
    simp only [XA, XB, i64_succ j (by omega)]
    exact hK _ ⟨n - 1, by omega, fun f => ⟨j + 1, StIs.of (by exact rfl), by omega, hbad⟩⟩
   clear hK
   refine XWP.block ?_
   refine Gx.a (by kernel_rfl) fun K hK => ?_
   simp only [XU, XA]
   refine ⟨by omega, by omega, ld_mem (loadsK (cs := x.cells) shapeT_66 rfl hxc) ?_⟩
   simp only [XU, XA, Nat.reduceAdd]
   refine st_whole (cs := [.int .i64 x.site, .int .i64 x.index, .int .i64 x.odds, .int .i64 x.whole]) shapeT_66 rfl rfl rfl rfl ?_
   simp only [XA]
   refine hK _ ?_
   have hfin : metBad d x = true → partsW W p.length = false := fun hb => by
    refine partsW_none hk hn1 ?_
    rw [hstep2, if_pos]
    rw [List.any_eq_true]
    exact ⟨x, List.mem_of_getElem? hx, hb⟩
   have hbS : (met.take (j + 1)).any (metBad d) = metBad d x := by
    rw [etj, List.any_append, hbad]; simp
   have hkS : (met.take (j + 1)).any (fun x => decide (x.index = d.index)) = ((met.take j).any (fun x => decide (x.index = d.index)) || decide (x.index = d.index)) := by
    rw [etj, List.any_append]; simp
   rw [hbS, hkS]
   have eBad : metBad d x = (!decide (x.site = d.site) || !decide (x.whole = d.whole) || (decide (x.index = d.index) && !decide (x.odds = d.odds))) := by
    unfold metBad
    simp only [ne_eq, decide_not]
   refine XWP.cut (fun s => StIs (fun Z => [.v (.slice (some ⟨bL, oL, none⟩) L.length cL), .v (.slice A2 p.length c2), Z 2,Z 3,Z 4, .v (.slice (some ⟨bW, oW, none⟩) W.length cW), Z 6,Z 7, .v (.int .i64 (p.length : Int)), .v (.slice (some ⟨bM, oM, none⟩) met.length cM), .v (.int .i64 odds), Z 11, .p 0 0, .p 1 0, .v (.bool ((met.take j).any fun x => decide (x.index = d.index))), Z 15, .p 2 0, Z 17,Z 18,Z 19,Z 20,Z 21,Z 22,Z 23,Z 24,Z 25,Z 26,Z 27,Z 28,Z 29,Z 30,Z 31,Z 32,Z 33,Z 34,Z 35,Z 36,Z 37,Z 38,Z 39,Z 40,Z 41,Z 42,Z 43,Z 44, .v (.slice (some ⟨bW, oW, none⟩) W.length cW), .v (.int .i64 (W.length : Int)), .v (.int .i64 (k : Int)), Z 48,Z 49,Z 50,Z 51,Z 52,Z 53,Z 54,Z 55,Z 56,Z 57,Z 58,Z 59,Z 60, .v (.slice (some ⟨bM, oM, none⟩) met.length cM), .v (.int .i64 (met.length : Int)), .v (.int .i64 (j : Int)), Z 64,Z 65,Z 66,Z 67,Z 68,Z 69,Z 70,Z 71,Z 72,Z 73,Z 74,Z 75,Z 76,Z 77,Z 78,Z 79,Z 80,Z 81,Z 82,Z 83,Z 84,Z 85,Z 86,Z 87,Z 88,Z 89,Z 90,Z 91,Z 92,Z 93,Z 94,Z 95,Z 96,Z 97,Z 98,Z 99,Z 100,Z 101,Z 102,Z 103,Z 104,Z 105,Z 106,Z 107,Z 108,Z 109,Z 110,Z 111,Z 112,Z 113,Z 114,Z 115,Z 116,Z 117,Z 118,Z 119,Z 120,Z 121,Z 122]) [[v0, v1, v2, v3, v4, .slice (some ⟨b1, o1, none⟩) r.ds.length q1, v6, v7, v8], [.int .i64 d.site, .int .i64 d.index, .int .i64 d.odds, .int .i64 d.whole], [.int .i64 x.site, .int .i64 x.index, .int .i64 x.odds, .int .i64 x.whole]] H4 V3 s ∧ metBad d x = false) ?_ ?_
   ·cases s1 : decide (x.site = d.site)
    ·have e := hfin (by rw [eBad, s1]; rfl)
     refine Gx.a (by kernel_rfl) fun K hK => ?_
     simp only [XU, XA, XB, gateX, ↓reduceIte, s1]
     refine hK _ ?_
     refine Gx.t rfl ?_
     refine Gx.a (by kernel_rfl) fun K hK => ?_
     simp only [XA]
     refine hK _ (XWP.ret ?_)
     try simp only [thenX_ret, inBlockX_ret]
     refine ret_go _ rfl ?_
     rw [e]; rfl
    cases s2 : decide (x.whole = d.whole)
    ·have e := hfin (by rw [eBad, s1, s2]; rfl)
     refine Gx.a (by kernel_rfl) fun K hK => ?_
     simp only [XU, XA, XB, gateX, ↓reduceIte, beq_self_eq_true, s1, s2]
     refine hK _ ?_
     refine Gx.t rfl ?_
     refine Gx.a (by kernel_rfl) fun K hK => ?_
     simp only [XA]
     refine hK _ (XWP.ret ?_)
     try simp only [thenX_ret, inBlockX_ret]
     refine ret_go _ rfl ?_
     rw [e]; rfl
    cases s3 : decide (x.index = d.index)
    ·refine Gx.a (by kernel_rfl) fun K hK => ?_
     simp only [XU, XA, XB, gateX, ↓reduceIte, beq_self_eq_true, s1, s2, s3]
     refine hK _ ?_
     refine Gx.f rfl ?_
     refine XWP.skip ?_
     exact ⟨StIs.of (by exact rfl), by rw [eBad, s1, s2, s3]; rfl⟩
    cases s4 : decide (x.odds = d.odds)
    ·have e := hfin (by rw [eBad, s1, s2, s3, s4]; rfl)
     refine Gx.a (by kernel_rfl) fun K hK => ?_
     simp only [XU, XA, XB, gateX, ↓reduceIte, beq_self_eq_true, s1, s2, s3, s4]
     refine hK _ ?_
     refine Gx.t rfl ?_
     refine Gx.a (by kernel_rfl) fun K hK => ?_
     simp only [XA]
     refine hK _ (XWP.ret ?_)
     try simp only [thenX_ret, inBlockX_ret]
     refine ret_go _ rfl ?_
     rw [e]; rfl
    ·refine Gx.a (by kernel_rfl) fun K hK => ?_
     simp only [XU, XA, XB, gateX, ↓reduceIte, beq_self_eq_true, s1, s2, s3, s4]
     refine hK _ ?_
     refine Gx.f rfl ?_
     refine XWP.skip ?_
     exact ⟨StIs.of (by exact rfl), by rw [eBad, s1, s2, s3, s4]; rfl⟩
   rintro s ⟨hs, hbx⟩
   obtain ⟨y, rfl⟩ := hs.out
   try dsimp only
   clear hs
   cases hkn : (met.take j).any (fun x => decide (x.index = d.index))
   ·refine Gx.c (by kernel_rfl) fun K hK => ?_
    simp only [XU, XA, XB, gateX, ↓reduceIte, beq_self_eq_true]
    refine hK _ fun f => ⟨StIs.of (by simp only [Bool.false_or]; exact rfl), hbx⟩
   ·refine Gx.c (by kernel_rfl) fun K hK => ?_
    simp only [XA, gateX, ↓reduceIte]
    exact hK _ fun f => ⟨StIs.of (by simp only [Bool.true_or]; exact rfl), hbx⟩
  rintro s ⟨hs, hbad⟩
  obtain ⟨y, rfl⟩ := hs.out
  try dsimp only
  clear hs
  rw [hbad, if_neg (by simp)] at hstep2
  cases hkn : met.any (fun x => decide (x.index = d.index))
  ·rw [hkn, if_neg (by simp)] at hstep2
   refine Gx.a (by kernel_rfl) fun K hK => ?_
   simp only [XA]
   refine hK _ ?_
   refine Gx.t rfl ?_
   refine Gx.a (by kernel_rfl) fun K hK => ?_
   simp only [XU, XA, Nat.reduceAdd, Nat.reduceLeDiff, ↓reduceIte]
   obtain ⟨mcells, hmo, hmr⟩ := hmm
   refine bs_go (by kernel_rfl) #[(0, .agg ([.int .i64 d.site, .int .i64 d.index, .int .i64 d.odds, .int .i64 d.whole] : List Value).toArray)] (by simp [ev_tmp, SV.val]) (bs_agg elemT_45 zeroT_66 rfl (by omega) (by omega) rfl) fun bq hbq1 hbq2 => ?_
   simp only [XA, Nat.reduceAdd]
   refine ap_go elemT_45 (by kernel_rfl) zeroT_66 rfl (by omega) (own_upd hmo hbq1) (srcK (upd_at _ _ _) rfl) (by omega) (by omega) fun v' H' hres => ?_
   simp only [XA]
   refine hK _ ?_
   obtain ⟨g1, g2, g3, g4⟩ := hgd
   have wo : IntKind.i64.wrap (odds + d.odds) = odds + d.odds := wrap_id (by omega) (by omega)
   refine Gx.c (by kernel_rfl) fun K hK => ?_
   simp only [XU, XA, XB, wo]
   refine hK _ fun f => ⟨met ++ [d], odds + d.odds, v', H', StIs.of (by exact rfl), hstep2, ⟨_, ?_, hmr.snoc ⟨rfl, rfl, rfl⟩⟩, by simp; omega, by omega, by omega⟩
   rw [List.length_append, List.length_singleton]
   exact hres.1
  ·rw [hkn, if_pos rfl] at hstep2
   refine Gx.a (by kernel_rfl) fun K hK => ?_
   simp only [XA]
   refine hK _ ?_
   refine Gx.f rfl ?_
   refine XWP.skip ?_
   exact fun f => ⟨met, odds, _, H4, StIs.of (by exact rfl), hstep2, hmm, by omega, by omega, by omega⟩
 rintro s ⟨met, odds, H4, hs, hmet⟩
 obtain ⟨z, rfl⟩ := hs.out
 try dsimp only
 clear hs
 have hlt : p.length < r0.ds.length := by
  refine Classical.byContradiction fun hn => ?_
  have : metI W p.length 1 = none := by
   rw [metI_succ (st := ([], 0)) rfl hr0]
   unfold metStep
   rw [List.getElem?_eq_none (by omega)]
  rw [metI_none this W.length (by omega)] at hmet
  cases hmet
 obtain ⟨d0, hd0⟩ : ∃ d, r0.ds[p.length]? = some d := ⟨_, List.getElem?_eq_getElem hlt⟩
 obtain ⟨b0, o0, c0, eq0, hdc0⟩ := dr_get hds0 hd0
 cases eq0
 have y4 := fun H => loads1 (H := H) shapeT_3 (hdc0 H).2.2.2
 refine Gx.a (by kernel_rfl) fun K hK => ?_
 simp only [XU, XA, Nat.reduceMul, Int.reduceLE]
 refine ⟨by omega, ld_mem (y0 _) ?_⟩
 simp only [XU, XA]
 refine ⟨by omega, by omega, ld_mem (y4 _) ?_⟩
 simp only [XA, XB]
 refine hK _ (XWP.ret ?_)
 try simp only [thenX_ret, inBlockX_ret]
 refine ret_go _ rfl ?_
 unfold partsW
 rw [if_neg hn1, hmet, draw0_at hr0 hd0]; rfl
theorem SlK.take {α : Type} {sz : Nat} {E : View → List Value → α → Prop} {V : View} {A : Option Addr} {m c : Nat} {xs : List α} (h : SlK sz E V (.slice A m c) xs) {n : Nat} (hn : n ≤ xs.length) : SlK sz E V (.slice A n c) (xs.take n) := by
 obtain ⟨A', c', e, h1, h2, h3⟩ := h
 cases e
 refine ⟨A, c, by rw [List.length_take, Nat.min_eq_left hn], by rw [List.length_take]; omega, h2, ?_⟩
 rcases h3 with rfl | ⟨b, o, arr, ty, fr, e1, e2, h4⟩
 ·exact .inl (by simp)
 ·refine .inr ⟨b, o, arr, ty, fr, e1, e2, fun i x hx => h4 i x ?_⟩
  rw [List.getElem?_take] at hx
  split at hx
  ·exact hx
  ·cases hx
theorem withL_self {L : List Rn} {r : Rn} {n : Nat} (hr : r ∈ L) (hn : n ≤ r.ds.length) : 0 < (withL L (r.ds.take n)).length := by
 refine List.length_pos_of_mem (a := r) ?_
 unfold withL
 rw [List.mem_filter]
 exact ⟨hr, begB_take hn⟩
def downB (l : List Rn) : Bool := l.all fun r => (List.range (r.ds.length + 1)).all fun n => partsB l (r.ds.take n)
theorem right_down {l : List Rn} (h1 : 1 ≤ l.length) (hd : l.all drawsB = true) (hl : ∀ r ∈ l, r.ds.length ≤ 100) : forkB 102 l 0 = downB l := by
 have hgood : ∀ r ∈ l, ∀ d ∈ r.ds, d.good := fun r hr d hd' => by
  have h1 := List.all_eq_true.1 hd r hr
  unfold drawsB at h1
  simp only [Bool.and_eq_true] at h1
  exact (Dr.goodB_iff d).1 (List.all_eq_true.1 h1.1.2 d hd')
 have key := fork_parts 102 l 0 [] rfl (by omega) (fun r _ => by rw [begB_iff]; exact ⟨Nat.zero_le _, rfl⟩) hgood (fun r hr => by have := hl r hr; omega)
 have : downB l = true ↔ ∀ r ∈ l, ∀ n, 0 ≤ n → n ≤ r.ds.length → partsB l (r.ds.take n) = true := by
  unfold downB
  rw [List.all_eq_true]
  constructor
  ·intro h r hr n _ hn
   exact List.all_eq_true.1 (h r hr) n (List.mem_range.2 (by omega))
  ·intro h r hr
   rw [List.all_eq_true]
   intro n hn
   exact h r hr n (Nat.zero_le _) (by have := List.mem_range.1 hn; omega)
 cases e : forkB 102 l 0 <;> cases e' : downB l
 ·rfl
 ·rw [key.2 (this.1 e')] at e; cases e
 ·rw [this.2 (key.1 e)] at e'; cases e'
 ·rfl
theorem rightR_def {l : List Rn} (hl : ∀ r ∈ l, r.ds.length ≤ 100) : rightR l = (decide (1 ≤ l.length) && decide (l.length ≤ 60) && l.all drawsB && downB l) := by
 unfold rightR
 by_cases h1 : 1 ≤ l.length
 ·cases hd : l.all drawsB
  ·simp
  ·rw [right_down h1 hd hl]
 ·rw [decide_eq_false h1]; simp
theorem rightR_bad {l : List Rn} {r : Rn} (hr : r ∈ l) (hb : drawsB r = false) : rightR l = false := by
 unfold rightR
 have : l.all drawsB = false := by
  rw [List.all_eq_false]
  exact ⟨r, hr, by rw [hb]; simp⟩
 rw [this]; simp
set_option maxHeartbeats 8000000 in
set_option maxRecDepth 100000 in
theorem kref_right_c (V : View) (v : Value) (l : List Rn) (h : SlK 9 rnE V v l) (f : ∀ r ∈ l, r.fits) (ll : l.length ≤ 1000000) : Spec Tryz.prog 12 [v] V fun v' V' => v' = .bool (rightR l) := by
 have hlen : ∀ r ∈ l, r.ds.length ≤ 100 := fun r hr => (f r hr).1
 obtain ⟨AL, cL, rfl, _, _⟩ := h.form
 refine (Spec.enter Tryz.func12 rfl fun Γ => ?_)
 simp only [Tryz.ntmps12, List.map_cons, List.map_nil, List.length_cons, List.length_nil, Nat.reduceAdd, Nat.reduceSub, List.replicate_succ, List.replicate_zero, List.cons_append, List.nil_append]
 refine Gx.a (by kernel_rfl) fun K hK => ?_
 simp only [XA]
 refine hK _ ?_
 refine XWP.seq ?_
 by_cases h1 : 1 ≤ l.length
 rotate_left
 ·have b1 : decide ((l.length : Int) < 1) = true := decide_eq_true (by omega)
  refine Gx.a (by kernel_rfl) fun K hK => ?_
  simp only [XU, XA, XB, gateX, ↓reduceIte, b1]
  refine hK _ ?_
  refine Gx.t rfl ?_
  refine Gx.a (by kernel_rfl) fun K hK => ?_
  simp only [XA]
  refine hK _ (XWP.ret ?_)
  try simp only [thenX_ret, inBlockX_ret]
  refine ret_go _ rfl ?_
  rw [rightR_def hlen, decide_eq_false h1]; rfl
 have b1 : decide ((l.length : Int) < 1) = false := decide_eq_false (by omega)
 by_cases h2 : l.length ≤ 60
 rotate_left
 ·have b2 : decide ((60 : Int) < (l.length : Int)) = true := decide_eq_true (by omega)
  refine Gx.a (by kernel_rfl) fun K hK => ?_
  simp only [XU, XA, XB, gateX, ↓reduceIte, beq_self_eq_true, b1, b2]
  refine hK _ ?_
  refine Gx.t rfl ?_
  refine Gx.a (by kernel_rfl) fun K hK => ?_
  simp only [XA]
  refine hK _ (XWP.ret ?_)
  try simp only [thenX_ret, inBlockX_ret]
  refine ret_go _ rfl ?_
  rw [rightR_def hlen, decide_eq_false h2]; simp
  rfl
 have b2 : decide ((60 : Int) < (l.length : Int)) = false := decide_eq_false (by omega)
 refine Gx.a (by kernel_rfl) fun K hK => ?_
 simp only [XU, XA, XB, gateX, ↓reduceIte, beq_self_eq_true, b1, b2]
 refine hK _ ?_
 refine Gx.f rfl ?_
 refine XWP.skip ?_
 obtain ⟨bL, oL, rfl⟩ := SlK.addr h (by omega)
 refine XWP.cutD 0 (fun s => ∃ (V2 : View), StIs (fun Z => [.v (.slice (some ⟨bL, oL, none⟩) l.length cL), Z 1,Z 2,Z 3,Z 4,Z 5,Z 6,Z 7,Z 8,Z 9,Z 10,Z 11,Z 12,Z 13,Z 14,Z 15,Z 16,Z 17,Z 18,Z 19,Z 20,Z 21,Z 22,Z 23,Z 24,Z 25,Z 26,Z 27,Z 28,Z 29,Z 30,Z 31,Z 32,Z 33,Z 34,Z 35,Z 36,Z 37,Z 38,Z 39,Z 40,Z 41,Z 42,Z 43,Z 44,Z 45,Z 46,Z 47,Z 48,Z 49,Z 50,Z 51,Z 52,Z 53,Z 54,Z 55,Z 56,Z 57,Z 58,Z 59,Z 60,Z 61,Z 62,Z 63,Z 64,Z 65,Z 66,Z 67,Z 68,Z 69,Z 70,Z 71,Z 72,Z 73,Z 74,Z 75,Z 76,Z 77,Z 78,Z 79,Z 80,Z 81,Z 82,Z 83,Z 84,Z 85,Z 86,Z 87,Z 88,Z 89,Z 90,Z 91,Z 92,Z 93,Z 94,Z 95,Z 96,Z 97,Z 98,Z 99,Z 100,Z 101,Z 102,Z 103,Z 104,Z 105]) [] (fun _ => none) V2 s ∧ V.le V2 ∧ l.all drawsB = true) ?_ ?_
 ·refine Gx.a (by kernel_rfl) fun K hK => ?_
  simp only [XU, XA]
  refine hK _ ?_
  clear hK
  refine XWP.block ?_
  refine XWP.loopD 0 (fun q s => ∃ (k : Nat) (V2 : View), StIs (fun Z => [.v (.slice (some ⟨bL, oL, none⟩) l.length cL), Z 1,Z 2,Z 3,Z 4,Z 5,Z 6,Z 7,Z 8,Z 9,Z 10,Z 11,Z 12,Z 13,Z 14,Z 15,Z 16,Z 17,Z 18,Z 19, .v (.slice (some ⟨bL, oL, none⟩) l.length cL), .v (.int .i64 (l.length : Int)), .v (.int .i64 (k : Int)), Z 23,Z 24,Z 25,Z 26,Z 27,Z 28,Z 29,Z 30,Z 31,Z 32,Z 33,Z 34,Z 35,Z 36,Z 37,Z 38,Z 39,Z 40,Z 41,Z 42,Z 43,Z 44,Z 45,Z 46,Z 47,Z 48,Z 49,Z 50,Z 51,Z 52,Z 53,Z 54,Z 55,Z 56,Z 57,Z 58,Z 59,Z 60,Z 61,Z 62,Z 63,Z 64,Z 65,Z 66,Z 67,Z 68,Z 69,Z 70,Z 71,Z 72,Z 73,Z 74,Z 75,Z 76,Z 77,Z 78,Z 79,Z 80,Z 81,Z 82,Z 83,Z 84,Z 85,Z 86,Z 87,Z 88,Z 89,Z 90,Z 91,Z 92,Z 93,Z 94,Z 95,Z 96,Z 97,Z 98,Z 99,Z 100,Z 101,Z 102,Z 103,Z 104,Z 105]) [] (fun _ => none) V2 s ∧ q + k = l.length ∧ V.le V2 ∧ (l.take k).all drawsB = true) l.length ⟨0, V, StIs.of (by exact rfl), by omega, View.le_refl _, by simp⟩ ?_
  rintro q s ⟨k, V2, hs, hq, hV2, hall⟩
  obtain ⟨z, rfl⟩ := hs.out
  try dsimp only
  clear hs
  by_cases hk : k < l.length
  rotate_left
  ·obtain rfl : k = l.length := by omega
   have bt1 : decide (((l.length : Nat) : Int) < ((l.length : Nat) : Int)) = false := decide_eq_false (by omega)
   refine Gx.a (by kernel_rfl) fun K hK => ?_
   simp only [XA, XB, bt1]
   refine hK _ ?_
   refine XWP.seq (Gx.f rfl ?_)
   refine XWP.exit ?_
   rw [List.take_length] at hall
   exact fun f => ⟨V2, StIs.of (by exact rfl), hV2, hall⟩
  have bt1 : decide ((k : Int) < (l.length : Int)) = true := decide_eq_true (by omega)
  refine Gx.a (by kernel_rfl) fun K hK => ?_
  simp only [XA, XB, bt1]
  refine hK _ ?_
  refine XWP.seq (Gx.t rfl ?_)
  refine XWP.skip ?_
  obtain ⟨r, hrk⟩ : ∃ r, l[k]? = some r := ⟨_, List.getElem?_eq_getElem hk⟩
  have er : l[k] = r := (List.getElem?_eq_some_iff.1 hrk).2
  have hrL : r ∈ l := List.mem_of_getElem? hrk
  obtain ⟨hrl, hrf, hrq⟩ := f r hrL
  have h2' := h.mono rnE_ok hV2
  obtain ⟨cs, hcs, hcell⟩ := SlK.get h2' k hk
  rw [er] at hcs
  have hcsE := hcs
  obtain ⟨_, hone, c1, c2, c3, c4, dv, m, c7, c8, rfl, hds, hwr⟩ := hcs
  obtain ⟨A, c, rfl, hc, hm⟩ := hds.form
  have hwr0 : RawAt V2 (.agg #[m, c7, c8]) r.w.m r.w.nd r.w.dd := hwr
  have etk : l.take (k + 1) = l.take k ++ [r] := by rw [List.take_add_one, hrk]; rfl
  refine XWP.cutD 0 (fun s => ∃ (V3 : View), StIs (fun Z => [.v (.slice (some ⟨bL, oL, none⟩) l.length cL), Z 1,Z 2,Z 3,Z 4,Z 5,Z 6,Z 7,Z 8,Z 9,Z 10,Z 11,Z 12,Z 13,Z 14,Z 15,Z 16,Z 17,Z 18,Z 19, .v (.slice (some ⟨bL, oL, none⟩) l.length cL), .v (.int .i64 (l.length : Int)), .v (.int .i64 (k : Int)), Z 23,Z 24,Z 25,Z 26,Z 27,Z 28,Z 29,Z 30,Z 31,Z 32,Z 33,Z 34,Z 35,Z 36,Z 37,Z 38,Z 39,Z 40,Z 41,Z 42,Z 43,Z 44,Z 45,Z 46,Z 47,Z 48,Z 49,Z 50,Z 51,Z 52,Z 53,Z 54,Z 55,Z 56,Z 57,Z 58,Z 59,Z 60,Z 61,Z 62,Z 63,Z 64,Z 65,Z 66,Z 67,Z 68,Z 69,Z 70,Z 71,Z 72,Z 73,Z 74,Z 75,Z 76,Z 77,Z 78,Z 79,Z 80,Z 81,Z 82,Z 83,Z 84,Z 85,Z 86,Z 87,Z 88,Z 89,Z 90,Z 91,Z 92,Z 93,Z 94,Z 95,Z 96,Z 97,Z 98,Z 99,Z 100,Z 101,Z 102,Z 103,Z 104,Z 105]) [] (fun _ => none) V3 s ∧ V.le V3 ∧ drawsB r = true) ?_ ?_
  rotate_left
  ·rintro s ⟨V3, hs, hV3, hdr⟩
   obtain ⟨z, rfl⟩ := hs.out
   try dsimp only
   clear hs
   refine Gx.c (by kernel_rfl) fun K hK => ?_
   simp only [XA, XB, i64_succ k (by omega)]
   exact hK _ ⟨q - 1, by omega, fun f => ⟨k + 1, V3, StIs.of (by exact rfl), by omega, hV3, by rw [etk, List.all_append, hall]; simp [hdr]⟩⟩
  clear hK
  refine XWP.block ?_
  refine Gx.a (by kernel_rfl) fun K hK => ?_
  simp only [XU, XA]
  refine ⟨by omega, by omega, ld_mem (loadsK shapeT_51 rfl fun j u hj => hcell _ j u hj) ?_⟩
  simp only [XU, XA]
  refine st_whole (cs := [.int .i64 r.kind, c1, c2, c3, c4, .slice A r.ds.length c, m, c7, c8]) shapeT_51 rfl rfl rfl hcsE.2.1 ?_
  simp only [XA]
  refine hK _ ?_
  refine XWP.cutD 1 (fun s => ∃ (V3 : View), StIs (fun Z => [.v (.slice (some ⟨bL, oL, none⟩) l.length cL), Z 1,Z 2,Z 3, .p 0 0, Z 5,Z 6,Z 7,Z 8,Z 9,Z 10,Z 11,Z 12,Z 13,Z 14,Z 15,Z 16,Z 17,Z 18,Z 19, .v (.slice (some ⟨bL, oL, none⟩) l.length cL), .v (.int .i64 (l.length : Int)), .v (.int .i64 (k : Int)), Z 23,Z 24,Z 25,Z 26,Z 27,Z 28,Z 29,Z 30,Z 31,Z 32,Z 33,Z 34,Z 35,Z 36,Z 37,Z 38,Z 39,Z 40,Z 41,Z 42,Z 43,Z 44,Z 45,Z 46,Z 47,Z 48,Z 49,Z 50,Z 51,Z 52,Z 53,Z 54,Z 55,Z 56,Z 57,Z 58,Z 59,Z 60,Z 61,Z 62,Z 63,Z 64,Z 65,Z 66,Z 67,Z 68,Z 69,Z 70,Z 71,Z 72,Z 73,Z 74,Z 75,Z 76,Z 77,Z 78,Z 79,Z 80,Z 81,Z 82,Z 83,Z 84,Z 85,Z 86,Z 87,Z 88,Z 89,Z 90,Z 91,Z 92,Z 93,Z 94,Z 95,Z 96,Z 97,Z 98,Z 99,Z 100,Z 101,Z 102,Z 103,Z 104,Z 105]) [[.int .i64 r.kind, c1, c2, c3, c4, .slice A r.ds.length c, m, c7, c8]] (fun _ => none) V3 s ∧ V2.le V3 ∧ r.kind = 0 ∧ r.w.ok = true ∧ decide (0 < sgI r.w.q) = true) ?_ ?_
  ·by_cases k0 : r.kind = 0
   rotate_left
   ·have b1 : (!decide (r.kind = 0)) = true := by rw [decide_eq_false k0]; rfl
    refine Gx.a (by kernel_rfl) fun K hK => ?_
    simp only [XU, XA, XB, gateX, ↓reduceIte, b1]
    refine hK _ ?_
    refine Gx.t rfl ?_
    refine Gx.a (by kernel_rfl) fun K hK => ?_
    simp only [XA]
    refine hK _ (XWP.ret ?_)
    try simp only [thenX_ret, inBlockX_ret]
    refine ret_go _ rfl ?_
    rw [rightR_bad hrL (by unfold drawsB; rw [decide_eq_false k0]; rfl)]; rfl
   have b1 : (!decide (r.kind = 0)) = false := by rw [decide_eq_true k0]; rfl
   refine Gx.a (by kernel_rfl) fun K hK => ?_
   simp only [XU, XA, XB, gateX, Nat.reduceAdd, Nat.reduceLeDiff, ↓reduceIte, beq_self_eq_true, b1]
   refine call_go (by kernel_rfl) rfl (pright_c _ _ r.w.m r.w.nd r.w.dd hwr0 hrf.1 hrf.2) fun v1 V1 hV1 h1 => ?_
   have h1 : v1 = .bool r.w.ok := h1
   subst h1
   cases hok : r.w.ok
   ·simp only [XA, gateX, ↓reduceIte, beq_self_eq_true]
    refine hK _ ?_
    refine Gx.t rfl ?_
    refine Gx.a (by kernel_rfl) fun K hK => ?_
    simp only [XA]
    refine hK _ (XWP.ret ?_)
    try simp only [thenX_ret, inBlockX_ret]
    refine ret_go _ rfl ?_
    rw [rightR_bad hrL (by unfold drawsB; rw [hok]; simp)]; rfl
   have hwc : RatC V2 (.agg #[m, c7, c8]) r.w.q := RawAt.rat hwr hok
   simp only [XU, XA, XB, gateX, Nat.reduceAdd, Nat.reduceLeDiff, ↓reduceIte, beq_self_eq_true]
   refine call_go (by kernel_rfl) rfl (psign_c _ _ _ ((hwc.mono hV1).toV (hrq hok))) fun v2 V3 hV3 h2 => ?_
   subst h2
   by_cases hs : 0 < sgI r.w.q
   ·have b2 : decide (sgI r.w.q ≤ 0) = false := decide_eq_false (by omega)
    simp only [XA, XB, gateX, ↓reduceIte, beq_self_eq_true, b2]
    refine hK _ ?_
    refine Gx.f rfl ?_
    refine XWP.skip ?_
    exact fun f => ⟨V3, StIs.of (by exact rfl), View.le_trans hV1 hV3, k0, hok, decide_eq_true hs⟩
   ·have b2 : decide (sgI r.w.q ≤ 0) = true := decide_eq_true (by omega)
    simp only [XA, XB, gateX, ↓reduceIte, beq_self_eq_true, b2]
    refine hK _ ?_
    refine Gx.t rfl ?_
    refine Gx.a (by kernel_rfl) fun K hK => ?_
    simp only [XA]
    refine hK _ (XWP.ret ?_)
    try simp only [thenX_ret, inBlockX_ret]
    refine ret_go _ rfl ?_
    rw [rightR_bad hrL (by unfold drawsB; rw [decide_eq_false hs]; simp)]; rfl
  rintro s ⟨V3, hs, hV3, k0, hok, hs0⟩
  obtain ⟨z, rfl⟩ := hs.out
  try dsimp only
  clear hs
  have hds3 := hds.mono drE_ok hV3
  refine XWP.cutD 1 (fun s => StIs (fun Z => [.v (.slice (some ⟨bL, oL, none⟩) l.length cL), Z 1,Z 2,Z 3, .p 0 0, Z 5,Z 6,Z 7,Z 8,Z 9,Z 10,Z 11,Z 12,Z 13,Z 14,Z 15,Z 16,Z 17,Z 18,Z 19, .v (.slice (some ⟨bL, oL, none⟩) l.length cL), .v (.int .i64 (l.length : Int)), .v (.int .i64 (k : Int)), Z 23,Z 24,Z 25,Z 26,Z 27,Z 28,Z 29,Z 30,Z 31,Z 32,Z 33,Z 34,Z 35,Z 36,Z 37,Z 38,Z 39,Z 40,Z 41,Z 42,Z 43,Z 44,Z 45,Z 46,Z 47,Z 48,Z 49,Z 50,Z 51,Z 52,Z 53,Z 54,Z 55,Z 56,Z 57,Z 58,Z 59,Z 60,Z 61,Z 62,Z 63,Z 64,Z 65,Z 66,Z 67,Z 68,Z 69,Z 70,Z 71,Z 72,Z 73,Z 74,Z 75,Z 76,Z 77,Z 78,Z 79,Z 80,Z 81,Z 82,Z 83,Z 84,Z 85,Z 86,Z 87,Z 88,Z 89,Z 90,Z 91,Z 92,Z 93,Z 94,Z 95,Z 96,Z 97,Z 98,Z 99,Z 100,Z 101,Z 102,Z 103,Z 104,Z 105]) [[.int .i64 r.kind, c1, c2, c3, c4, .slice A r.ds.length c, m, c7, c8]] (fun _ => none) V3 s ∧ ∀ d ∈ r.ds, d.good) ?_ ?_
  ·refine Gx.a (by kernel_rfl) fun K hK => ?_
   simp only [XU, XA]
   refine hK _ ?_
   clear hK
   refine XWP.block ?_
   refine XWP.loopD 1 (fun n s => ∃ (j : Nat), StIs (fun Z => [.v (.slice (some ⟨bL, oL, none⟩) l.length cL), Z 1,Z 2,Z 3, .p 0 0, Z 5,Z 6,Z 7,Z 8,Z 9,Z 10,Z 11,Z 12,Z 13,Z 14,Z 15,Z 16,Z 17,Z 18,Z 19, .v (.slice (some ⟨bL, oL, none⟩) l.length cL), .v (.int .i64 (l.length : Int)), .v (.int .i64 (k : Int)), Z 23,Z 24,Z 25,Z 26,Z 27,Z 28,Z 29,Z 30,Z 31,Z 32,Z 33,Z 34,Z 35,Z 36,Z 37,Z 38,Z 39,Z 40,Z 41,Z 42, .v (.slice A r.ds.length c), .v (.int .i64 (r.ds.length : Int)), .v (.int .i64 (j : Int)), Z 46,Z 47,Z 48,Z 49,Z 50,Z 51,Z 52,Z 53,Z 54,Z 55,Z 56,Z 57,Z 58,Z 59,Z 60,Z 61,Z 62,Z 63,Z 64,Z 65,Z 66,Z 67,Z 68,Z 69,Z 70,Z 71,Z 72,Z 73,Z 74,Z 75,Z 76,Z 77,Z 78,Z 79,Z 80,Z 81,Z 82,Z 83,Z 84,Z 85,Z 86,Z 87,Z 88,Z 89,Z 90,Z 91,Z 92,Z 93,Z 94,Z 95,Z 96,Z 97,Z 98,Z 99,Z 100,Z 101,Z 102,Z 103,Z 104,Z 105]) [[.int .i64 r.kind, c1, c2, c3, c4, .slice A r.ds.length c, m, c7, c8]] (fun _ => none) V3 s ∧ n + j = r.ds.length ∧ ∀ (i : Nat) (d : Dr), r.ds[i]? = some d → i < j → d.good) r.ds.length ⟨0, StIs.of (by exact rfl), by omega, fun j d _ h => by omega⟩ ?_
   rintro n s ⟨j, hs, hn, hg⟩
   obtain ⟨y, rfl⟩ := hs.out
   try dsimp only
   clear hs
   by_cases hj : j < r.ds.length
   rotate_left
   ·obtain rfl : j = r.ds.length := by omega
    have b1 : decide (((r.ds.length : Nat) : Int) < ((r.ds.length : Nat) : Int)) = false := decide_eq_false (by omega)
    refine Gx.a (by kernel_rfl) fun K hK => ?_
    simp only [XA, XB, b1]
    refine hK _ ?_
    refine XWP.seq (Gx.f rfl ?_)
    refine XWP.exit ?_
    refine fun f => ⟨StIs.of (by exact rfl), fun d hd => ?_⟩
    obtain ⟨i, hi⟩ := List.getElem?_of_mem hd
    exact hg i d hi (List.getElem?_eq_some_iff.1 hi).1
   have b1 : decide ((j : Int) < (r.ds.length : Int)) = true := decide_eq_true (by omega)
   refine Gx.a (by kernel_rfl) fun K hK => ?_
   simp only [XA, XB, b1]
   refine hK _ ?_
   refine XWP.seq (Gx.t rfl ?_)
   refine XWP.skip ?_
   obtain ⟨b, o, rfl⟩ := SlK.addr hds3 (by omega)
   obtain ⟨dc, ⟨d1, d2, d3⟩, hcellD⟩ := SlK.get hds3 j hj
   have hmem := List.getElem_mem hj
   have hkd : r.ds[j]? = some r.ds[j] := List.getElem?_eq_getElem hj
   have d3 : dc = r.ds[j].cells := d3
   generalize r.ds[j] = d at *
   subst d3
   refine XWP.cutD 1 (fun s => StIs (fun Z => [.v (.slice (some ⟨bL, oL, none⟩) l.length cL), Z 1,Z 2,Z 3, .p 0 0, Z 5,Z 6,Z 7,Z 8,Z 9,Z 10,Z 11,Z 12,Z 13,Z 14,Z 15,Z 16,Z 17,Z 18,Z 19, .v (.slice (some ⟨bL, oL, none⟩) l.length cL), .v (.int .i64 (l.length : Int)), .v (.int .i64 (k : Int)), Z 23,Z 24,Z 25,Z 26,Z 27,Z 28,Z 29,Z 30,Z 31,Z 32,Z 33,Z 34,Z 35,Z 36,Z 37,Z 38,Z 39,Z 40,Z 41,Z 42, .v (.slice (some ⟨b, o, none⟩) r.ds.length c), .v (.int .i64 (r.ds.length : Int)), .v (.int .i64 (j : Int)), Z 46,Z 47,Z 48,Z 49,Z 50,Z 51,Z 52,Z 53,Z 54,Z 55,Z 56,Z 57,Z 58,Z 59,Z 60,Z 61,Z 62,Z 63,Z 64,Z 65,Z 66,Z 67,Z 68,Z 69,Z 70,Z 71,Z 72,Z 73,Z 74,Z 75,Z 76,Z 77,Z 78,Z 79,Z 80,Z 81,Z 82,Z 83,Z 84,Z 85,Z 86,Z 87,Z 88,Z 89,Z 90,Z 91,Z 92,Z 93,Z 94,Z 95,Z 96,Z 97,Z 98,Z 99,Z 100,Z 101,Z 102,Z 103,Z 104,Z 105]) [[.int .i64 r.kind, c1, c2, c3, c4, .slice (some ⟨b, o, none⟩) r.ds.length c, m, c7, c8]] (fun _ => none) V3 s ∧ d.good) ?_ ?_
   rotate_left
   ·rintro s ⟨hs, hgd⟩
    obtain ⟨y, rfl⟩ := hs.out
    try dsimp only
    clear hs
    refine Gx.c (by kernel_rfl) fun K hK => ?_
    simp only [XA, XB, i64_succ j (by omega)]
    refine hK _ ⟨n - 1, by omega, fun f => ⟨j + 1, StIs.of (by exact rfl), by omega, fun i e hi hlt => ?_⟩⟩
    by_cases ej : i = j
    ·subst ej
     rw [hkd] at hi
     cases hi
     exact hgd
    ·exact hg i e hi (by omega)
   clear hK
   refine XWP.block ?_
   refine Gx.a (by kernel_rfl) fun K hK => ?_
   simp only [XU, XA]
   refine ⟨by omega, by omega, ld_mem (loadsK shapeT_66 d1 (hcellD _)) ?_⟩
   simp only [XU, XA]
   refine st_whole (cs := [.int .i64 d.site, .int .i64 d.index, .int .i64 d.odds, .int .i64 d.whole]) shapeT_66 rfl rfl rfl rfl ?_
   simp only [XA]
   refine hK _ ?_
   by_cases y1 : d.index < 0
   ·have t1 : decide (d.index < 0) = true := decide_eq_true y1
    refine Gx.a (by kernel_rfl) fun K hK => ?_
    simp only [XU, XA, XB, gateX, ↓reduceIte, t1]
    refine hK _ ?_
    refine Gx.t rfl ?_
    refine Gx.a (by kernel_rfl) fun K hK => ?_
    simp only [XA]
    refine hK _ (XWP.ret ?_)
    try simp only [thenX_ret, inBlockX_ret]
    refine ret_go _ rfl ?_
    rw [rightR_bad hrL (drawsB_bad hmem fun g => by have := g.1; omega)]; rfl
   have t1 : decide (d.index < 0) = false := decide_eq_false y1
   by_cases y2 : d.odds < 1
   ·have t2 : decide (d.odds < 1) = true := decide_eq_true y2
    refine Gx.a (by kernel_rfl) fun K hK => ?_
    simp only [XU, XA, XB, gateX, ↓reduceIte, beq_self_eq_true, t1, t2]
    refine hK _ ?_
    refine Gx.t rfl ?_
    refine Gx.a (by kernel_rfl) fun K hK => ?_
    simp only [XA]
    refine hK _ (XWP.ret ?_)
    try simp only [thenX_ret, inBlockX_ret]
    refine ret_go _ rfl ?_
    rw [rightR_bad hrL (drawsB_bad hmem fun g => by have := g.2.1; omega)]; rfl
   have t2 : decide (d.odds < 1) = false := decide_eq_false y2
   by_cases y3 : d.whole < d.odds
   ·have t3 : decide (d.whole < d.odds) = true := decide_eq_true y3
    refine Gx.a (by kernel_rfl) fun K hK => ?_
    simp only [XU, XA, XB, gateX, ↓reduceIte, beq_self_eq_true, t1, t2, t3]
    refine hK _ ?_
    refine Gx.t rfl ?_
    refine Gx.a (by kernel_rfl) fun K hK => ?_
    simp only [XA]
    refine hK _ (XWP.ret ?_)
    try simp only [thenX_ret, inBlockX_ret]
    refine ret_go _ rfl ?_
    rw [rightR_bad hrL (drawsB_bad hmem fun g => by have := g.2.2.1; omega)]; rfl
   have t3 : decide (d.whole < d.odds) = false := decide_eq_false y3
   by_cases y4 : 64000 < d.whole
   ·have t4 : decide (64000 < d.whole) = true := decide_eq_true y4
    refine Gx.a (by kernel_rfl) fun K hK => ?_
    simp only [XU, XA, XB, gateX, ↓reduceIte, beq_self_eq_true, t1, t2, t3, t4]
    refine hK _ ?_
    refine Gx.t rfl ?_
    refine Gx.a (by kernel_rfl) fun K hK => ?_
    simp only [XA]
    refine hK _ (XWP.ret ?_)
    try simp only [thenX_ret, inBlockX_ret]
    refine ret_go _ rfl ?_
    rw [rightR_bad hrL (drawsB_bad hmem fun g => by have := g.2.2.2; omega)]; rfl
   have t4 : decide (64000 < d.whole) = false := decide_eq_false y4
   refine Gx.a (by kernel_rfl) fun K hK => ?_
   simp only [XU, XA, XB, gateX, ↓reduceIte, beq_self_eq_true, t1, t2, t3, t4]
   refine hK _ ?_
   refine Gx.f rfl ?_
   refine XWP.skip ?_
   exact fun f => ⟨StIs.of (by exact rfl), by omega, by omega, by omega, by omega⟩
  rintro s ⟨hs, hg⟩
  obtain ⟨z, rfl⟩ := hs.out
  try dsimp only
  clear hs
  have hcs3 : ElK 9 rnE V3 [.int .i64 r.kind, c1, c2, c3, c4, .slice A r.ds.length c, m, c7, c8] r := hcsE.mono rnE_ok hV3
  have hwc : RatC V3 (.agg #[m, c7, c8]) r.w.q := (RawAt.rat hwr hok).mono hV3
  refine Gx.a (by kernel_rfl) fun K hK => ?_
  simp only [XU, XA, Nat.reduceAdd, Nat.reduceLeDiff, ↓reduceIte]
  refine call_go (by kernel_rfl) rfl (rprior_c _ _ r hcs3 hrl hg) fun v4 V4 hV4 h4 => ?_
  obtain ⟨w4, rfl, h4⟩ := h4
  obtain ⟨x4, y4, rfl, p1, p2⟩ := h4.form
  simp only [XA, XB]
  refine st_rat rfl rfl rfl p1 p2 ?_
  simp only [XA]
  refine hK _ ?_
  have hqp := (priorQ_QB hg).qf (by omega)
  have eD : drawsB r = decide (sgI (r.w.q - priorQ r.ds) ≤ 0) := by
   unfold drawsB
   rw [decide_eq_true k0, hok, hs0]
   have : r.ds.all Dr.goodB = true := List.all_eq_true.2 fun d hd => (Dr.goodB_iff d).2 (hg d hd)
   rw [this]; simp
  refine Gx.a (by kernel_rfl) fun K hK => ?_
  simp only [XU, XA, XB, gateX, Nat.reduceAdd, Nat.reduceLeDiff, ↓reduceIte, beq_self_eq_true, decide_true]
  refine call_go (by kernel_rfl) rfl (pcompare_c _ _ _ _ _ ((hwc.mono hV4).toV (hrq hok)) (h4.toV hqp) (hrq hok) hqp) fun v5 V5 hV5 h5 => ?_
  subst h5
  by_cases hcmp : 0 < sgI (r.w.q - priorQ r.ds)
  ·have b5 : decide (0 < sgI (r.w.q - priorQ r.ds)) = true := decide_eq_true hcmp
   simp only [XA, XB, gateX, ↓reduceIte, beq_self_eq_true, b5]
   refine hK _ ?_
   refine Gx.t rfl ?_
   refine Gx.a (by kernel_rfl) fun K hK => ?_
   simp only [XA]
   refine hK _ (XWP.ret ?_)
   try simp only [thenX_ret, inBlockX_ret]
   refine ret_go _ rfl ?_
   rw [rightR_bad hrL (by rw [eD]; exact decide_eq_false (by omega))]; rfl
  ·have b5 : decide (0 < sgI (r.w.q - priorQ r.ds)) = false := decide_eq_false hcmp
   simp only [XA, XB, gateX, ↓reduceIte, beq_self_eq_true, b5]
   refine hK _ ?_
   refine Gx.f rfl ?_
   refine XWP.skip ?_
   exact fun f => ⟨V5, StIs.of (by exact rfl), View.le_trans hV2 (View.le_trans hV3 (View.le_trans hV4 hV5)), by rw [eD]; exact decide_eq_true (by omega)⟩
 rintro s ⟨V2, hs, hV2, hall⟩
 obtain ⟨z, rfl⟩ := hs.out
 try dsimp only
 clear hs
 have hgood : ∀ r ∈ l, ∀ d ∈ r.ds, d.good := fun r hr d hd' => by
  have h1 := List.all_eq_true.1 hall r hr
  unfold drawsB at h1
  simp only [Bool.and_eq_true] at h1
  exact (Dr.goodB_iff d).1 (List.all_eq_true.1 h1.1.2 d hd')
 have eR : rightR l = downB l := by
  rw [rightR_def hlen, decide_eq_true h1, decide_eq_true h2, hall]; simp
 rw [eR]
 have hL2 := h.mono rnE_ok hV2
 refine XWP.cutD 0 (fun s => ∃ (V3 : View), StIs (fun Z => [Z 0,Z 1,Z 2,Z 3,Z 4,Z 5,Z 6,Z 7,Z 8,Z 9,Z 10,Z 11,Z 12,Z 13,Z 14,Z 15,Z 16,Z 17,Z 18,Z 19,Z 20,Z 21,Z 22,Z 23,Z 24,Z 25,Z 26,Z 27,Z 28,Z 29,Z 30,Z 31,Z 32,Z 33,Z 34,Z 35,Z 36,Z 37,Z 38,Z 39,Z 40,Z 41,Z 42,Z 43,Z 44,Z 45,Z 46,Z 47,Z 48,Z 49,Z 50,Z 51,Z 52,Z 53,Z 54,Z 55,Z 56,Z 57,Z 58,Z 59,Z 60,Z 61,Z 62,Z 63,Z 64,Z 65,Z 66,Z 67,Z 68,Z 69,Z 70,Z 71,Z 72,Z 73,Z 74,Z 75,Z 76,Z 77,Z 78,Z 79,Z 80,Z 81,Z 82,Z 83,Z 84,Z 85,Z 86,Z 87,Z 88,Z 89,Z 90,Z 91,Z 92,Z 93,Z 94,Z 95,Z 96,Z 97,Z 98,Z 99,Z 100,Z 101,Z 102,Z 103,Z 104,Z 105]) [] (fun _ => none) V3 s ∧ downB l = true) ?_ ?_
 ·refine Gx.a (by kernel_rfl) fun K hK => ?_
  simp only [XU, XA]
  refine hK _ ?_
  clear hK
  refine XWP.block ?_
  refine XWP.loopD 0 (fun q s => ∃ (k : Nat) (V3 : View), StIs (fun Z => [.v (.slice (some ⟨bL, oL, none⟩) l.length cL), Z 1,Z 2,Z 3,Z 4,Z 5,Z 6,Z 7,Z 8,Z 9,Z 10,Z 11,Z 12,Z 13,Z 14,Z 15,Z 16,Z 17,Z 18,Z 19,Z 20,Z 21,Z 22,Z 23,Z 24,Z 25,Z 26,Z 27,Z 28,Z 29,Z 30,Z 31,Z 32,Z 33,Z 34,Z 35,Z 36,Z 37,Z 38,Z 39,Z 40,Z 41,Z 42,Z 43,Z 44,Z 45,Z 46,Z 47,Z 48,Z 49,Z 50,Z 51,Z 52,Z 53,Z 54,Z 55,Z 56,Z 57,Z 58,Z 59,Z 60,Z 61,Z 62,Z 63,Z 64,Z 65,Z 66,Z 67,Z 68,Z 69,Z 70,Z 71,Z 72,Z 73,Z 74,Z 75,Z 76,Z 77,Z 78,Z 79,Z 80,Z 81,Z 82,Z 83,Z 84, .v (.slice (some ⟨bL, oL, none⟩) l.length cL), .v (.int .i64 (l.length : Int)), .v (.int .i64 (k : Int)), Z 88,Z 89,Z 90,Z 91,Z 92,Z 93,Z 94,Z 95,Z 96,Z 97,Z 98,Z 99,Z 100,Z 101,Z 102,Z 103,Z 104,Z 105]) [] (fun _ => none) V3 s ∧ q + k = l.length ∧ V2.le V3 ∧ (l.take k).all (fun r => (List.range (r.ds.length + 1)).all fun n => partsB l (r.ds.take n)) = true) l.length ⟨0, V2, StIs.of (by exact rfl), by omega, View.le_refl _, by simp⟩ ?_
  rintro q s ⟨k, V3, hs, hq, hV3, hdn⟩
  obtain ⟨z, rfl⟩ := hs.out
  try dsimp only
  clear hs
  by_cases hk : k < l.length
  rotate_left
  ·obtain rfl : k = l.length := by omega
   have bt1 : decide (((l.length : Nat) : Int) < ((l.length : Nat) : Int)) = false := decide_eq_false (by omega)
   refine Gx.a (by kernel_rfl) fun K hK => ?_
   simp only [XA, XB, bt1]
   refine hK _ ?_
   refine XWP.seq (Gx.f rfl ?_)
   refine XWP.exit ?_
   rw [List.take_length] at hdn
   exact fun f => ⟨V3, StIs.of (by exact rfl), hdn⟩
  have bt1 : decide ((k : Int) < (l.length : Int)) = true := decide_eq_true (by omega)
  refine Gx.a (by kernel_rfl) fun K hK => ?_
  simp only [XA, XB, bt1]
  refine hK _ ?_
  refine XWP.seq (Gx.t rfl ?_)
  refine XWP.skip ?_
  obtain ⟨r, hrk⟩ : ∃ r, l[k]? = some r := ⟨_, List.getElem?_eq_getElem hk⟩
  have er : l[k] = r := (List.getElem?_eq_some_iff.1 hrk).2
  have hrL : r ∈ l := List.mem_of_getElem? hrk
  have hrl := hlen r hrL
  have h3' := hL2.mono rnE_ok hV3
  obtain ⟨cs, hcs, hcell⟩ := SlK.get h3' k hk
  rw [er] at hcs
  have hcsE := hcs
  obtain ⟨_, hone, c1, c2, c3, c4, dv, m, c7, c8, rfl, hds, hwr⟩ := hcs
  obtain ⟨A, c, rfl, hc, hm⟩ := hds.form
  have etk : l.take (k + 1) = l.take k ++ [r] := by rw [List.take_add_one, hrk]; rfl
  refine XWP.cutD 0 (fun s => ∃ (V4 : View), StIs (fun Z => [.v (.slice (some ⟨bL, oL, none⟩) l.length cL), Z 1,Z 2,Z 3,Z 4,Z 5,Z 6,Z 7,Z 8,Z 9,Z 10,Z 11,Z 12,Z 13,Z 14,Z 15,Z 16,Z 17,Z 18,Z 19,Z 20,Z 21,Z 22,Z 23,Z 24,Z 25,Z 26,Z 27,Z 28,Z 29,Z 30,Z 31,Z 32,Z 33,Z 34,Z 35,Z 36,Z 37,Z 38,Z 39,Z 40,Z 41,Z 42,Z 43,Z 44,Z 45,Z 46,Z 47,Z 48,Z 49,Z 50,Z 51,Z 52,Z 53,Z 54,Z 55,Z 56,Z 57,Z 58,Z 59,Z 60,Z 61,Z 62,Z 63,Z 64,Z 65,Z 66,Z 67,Z 68,Z 69,Z 70,Z 71,Z 72,Z 73,Z 74,Z 75,Z 76,Z 77,Z 78,Z 79,Z 80,Z 81,Z 82,Z 83,Z 84, .v (.slice (some ⟨bL, oL, none⟩) l.length cL), .v (.int .i64 (l.length : Int)), .v (.int .i64 (k : Int)), Z 88,Z 89,Z 90,Z 91,Z 92,Z 93,Z 94,Z 95,Z 96,Z 97,Z 98,Z 99,Z 100,Z 101,Z 102,Z 103,Z 104,Z 105]) [] (fun _ => none) V4 s ∧ V2.le V4 ∧ ((List.range (r.ds.length + 1)).all fun n => partsB l (r.ds.take n)) = true) ?_ ?_
  rotate_left
  ·rintro s ⟨V4, hs, hV4, hdr⟩
   obtain ⟨z, rfl⟩ := hs.out
   try dsimp only
   clear hs
   refine Gx.c (by kernel_rfl) fun K hK => ?_
   simp only [XA, XB, i64_succ k (by omega)]
   exact hK _ ⟨q - 1, by omega, fun f => ⟨k + 1, V4, StIs.of (by exact rfl), by omega, hV4, by rw [etk, List.all_append, hdn, List.all_cons, List.all_nil, hdr]; rfl⟩⟩
  clear hK
  refine XWP.block ?_
  refine Gx.a (by kernel_rfl) fun K hK => ?_
  simp only [XU, XA]
  refine ⟨by omega, by omega, ld_mem (loadsK shapeT_51 rfl fun j u hj => hcell _ j u hj) ?_⟩
  simp only [XU, XA]
  refine st_whole (cs := [.int .i64 r.kind, c1, c2, c3, c4, .slice A r.ds.length c, m, c7, c8]) shapeT_51 rfl rfl rfl hcsE.2.1 ?_
  simp only [XA]
  refine hK _ ?_
  refine Gx.a (by kernel_rfl) fun K hK => ?_
  simp only [XA]
  refine hK _ ?_
  refine XWP.block ?_
  refine XWP.loop (fun n s => ∃ (j : Nat) (V4 : View), StIs (fun Z => [.v (.slice (some ⟨bL, oL, none⟩) l.length cL), Z 1,Z 2,Z 3,Z 4,Z 5,Z 6,Z 7,Z 8,Z 9, .p 0 0, .v (.int .i64 (j : Int)), Z 12,Z 13,Z 14,Z 15,Z 16,Z 17,Z 18,Z 19,Z 20,Z 21,Z 22,Z 23,Z 24,Z 25,Z 26,Z 27,Z 28,Z 29,Z 30,Z 31,Z 32,Z 33,Z 34,Z 35,Z 36,Z 37,Z 38,Z 39,Z 40,Z 41,Z 42,Z 43,Z 44,Z 45,Z 46,Z 47,Z 48,Z 49,Z 50,Z 51,Z 52,Z 53,Z 54,Z 55,Z 56,Z 57,Z 58,Z 59,Z 60,Z 61,Z 62,Z 63,Z 64,Z 65,Z 66,Z 67,Z 68,Z 69,Z 70,Z 71,Z 72,Z 73,Z 74,Z 75,Z 76,Z 77,Z 78,Z 79,Z 80,Z 81,Z 82,Z 83,Z 84, .v (.slice (some ⟨bL, oL, none⟩) l.length cL), .v (.int .i64 (l.length : Int)), .v (.int .i64 (k : Int)), Z 88,Z 89,Z 90,Z 91,Z 92,Z 93,Z 94,Z 95,Z 96,Z 97,Z 98,Z 99,Z 100,Z 101,Z 102,Z 103,Z 104,Z 105]) [[.int .i64 r.kind, c1, c2, c3, c4, .slice A r.ds.length c, m, c7, c8]] (fun _ => none) V4 s ∧ n + j = r.ds.length + 1 ∧ V3.le V4 ∧ ∀ i, i < j → partsB l (r.ds.take i) = true) (r.ds.length + 1) ⟨0, V3, StIs.of (by exact rfl), by omega, View.le_refl _, fun i hi => by omega⟩ ?_
  rintro n s ⟨j, V4, hs, hn, hV4, hpb⟩
  obtain ⟨y, rfl⟩ := hs.out
  try dsimp only
  clear hs
  refine XWP.seq ?_
  by_cases hj : j ≤ r.ds.length
  rotate_left
  ·have b1 : decide ((j : Int) ≤ (r.ds.length : Int)) = false := decide_eq_false (by omega)
   refine Gx.a (by kernel_rfl) fun K hK => ?_
   simp only [XU, XA, XB, b1]
   refine hK _ ?_
   refine Gx.f rfl ?_
   refine XWP.exit ?_
   refine fun f => ⟨V4, StIs.of (by exact rfl), View.le_trans hV3 hV4, ?_⟩
   rw [List.all_eq_true]
   intro i hi
   exact hpb i (by have := List.mem_range.1 hi; omega)
  have b1 : decide ((j : Int) ≤ (r.ds.length : Int)) = true := decide_eq_true (by omega)
  refine Gx.a (by kernel_rfl) fun K hK => ?_
  simp only [XU, XA, XB, b1]
  refine hK _ ?_
  refine Gx.t rfl ?_
  refine XWP.skip ?_
  have hds4 := (hds.mono drE_ok hV4).take hj
  refine XWP.cut (fun s => ∃ (V5 : View), StIs (fun Z => [.v (.slice (some ⟨bL, oL, none⟩) l.length cL), Z 1,Z 2,Z 3,Z 4,Z 5,Z 6,Z 7,Z 8,Z 9, .p 0 0, .v (.int .i64 (j : Int)), Z 12,Z 13,Z 14,Z 15,Z 16,Z 17,Z 18,Z 19,Z 20,Z 21,Z 22,Z 23,Z 24,Z 25,Z 26,Z 27,Z 28,Z 29,Z 30,Z 31,Z 32,Z 33,Z 34,Z 35,Z 36,Z 37,Z 38,Z 39,Z 40,Z 41,Z 42,Z 43,Z 44,Z 45,Z 46,Z 47,Z 48,Z 49,Z 50,Z 51,Z 52,Z 53,Z 54,Z 55,Z 56,Z 57,Z 58,Z 59,Z 60,Z 61,Z 62,Z 63,Z 64,Z 65,Z 66,Z 67,Z 68,Z 69,Z 70,Z 71,Z 72,Z 73,Z 74,Z 75,Z 76,Z 77,Z 78,Z 79,Z 80,Z 81,Z 82,Z 83,Z 84, .v (.slice (some ⟨bL, oL, none⟩) l.length cL), .v (.int .i64 (l.length : Int)), .v (.int .i64 (k : Int)), Z 88,Z 89,Z 90,Z 91,Z 92,Z 93,Z 94,Z 95,Z 96,Z 97,Z 98,Z 99,Z 100,Z 101,Z 102,Z 103,Z 104,Z 105]) [[.int .i64 r.kind, c1, c2, c3, c4, .slice A r.ds.length c, m, c7, c8]] (fun _ => none) V5 s ∧ V4.le V5 ∧ partsB l (r.ds.take j) = true) ?_ ?_
  rotate_left
  ·rintro s ⟨V5, hs, hV5, hdr⟩
   obtain ⟨y, rfl⟩ := hs.out
   try dsimp only
   clear hs
   refine Gx.c (by kernel_rfl) fun K hK => ?_
   simp only [XA, XB, i64_succ j (by omega)]
   exact hK _ ⟨n - 1, by omega, j + 1, V5, StIs.of (by exact rfl), by omega, View.le_trans hV4 hV5, fun i hi => by
    by_cases ei : i = j
    ·subst ei; exact hdr
    ·exact hpb i (by omega)⟩
  clear hK
  refine XWP.block ?_
  refine Gx.a (by kernel_rfl) fun K hK => ?_
  simp only [XU, XA]
  refine ⟨by omega, by omega, by omega, ?_⟩
  refine call_go (by kernel_rfl) rfl (rparts_c _ _ _ l (r.ds.take j) (h3'.mono rnE_ok hV4) hds4 (by omega) (fun x hx => by have := hlen x hx; omega) hgood (withL_self hrL hj)) fun v5 V5 hV5 h5 => ?_
  subst h5
  cases hpj : partsB l (r.ds.take j)
  ·simp only [XA]
   refine hK _ ?_
   refine Gx.t rfl ?_
   refine Gx.a (by kernel_rfl) fun K hK => ?_
   simp only [XA]
   refine hK _ (XWP.ret ?_)
   try simp only [thenX_ret, inBlockX_ret]
   refine ret_go _ rfl ?_
   have : downB l = false := by
    unfold downB
    rw [List.all_eq_false]
    refine ⟨r, hrL, ?_⟩
    rw [Bool.not_eq_true, List.all_eq_false]
    exact ⟨j, List.mem_range.2 (by omega), by rw [hpj]; simp⟩
   rw [this]; rfl
  ·simp only [XA]
   refine hK _ ?_
   refine Gx.f rfl ?_
   refine XWP.skip ?_
   exact ⟨V5, StIs.of (by exact rfl), hV5, hpj⟩
 rintro s ⟨V3, hs, hdn⟩
 obtain ⟨z, rfl⟩ := hs.out
 try dsimp only
 refine Gx.a (by kernel_rfl) fun K hK => ?_
 simp only [XA]
 refine hK _ (XWP.ret ?_)
 try simp only [thenX_ret, inBlockX_ret]
 refine ret_go _ rfl ?_
 rw [hdn]; rfl
theorem dig4 {ds : List Nat} (h : Dig ds) (hl : ds.length ≤ 4) : nv ds ≤ 2 ^ 128 := by
 have h1 := nv_lt h
 have h2 : BB ^ ds.length ≤ BB ^ 4 := Nat.pow_le_pow_right (by unfold BB; omega) hl
 have h3 : BB ^ 4 = 2 ^ 128 := by rw [show BB = 2 ^ 32 from rfl, ← Nat.pow_mul]
 omega
theorem SlK.dig {V : View} {v : Value} {l : List Rn} (h : SlK 9 rnE V v l) : ∀ r ∈ l, Dig r.w.nd ∧ Dig r.w.dd := fun r hr => by
 obtain ⟨A, c, rfl, h1, h2, h3⟩ := h
 rcases h3 with rfl | ⟨b, o, arr, ty, fr, e1, e2, h4⟩
 ·cases hr
 ·obtain ⟨i, hi⟩ := List.getElem?_of_mem hr
  obtain ⟨cs, ⟨_, _, _, _, _, _, _, _, _, _, _, _, _, _, _, k1, k2⟩, _⟩ := h4 i r hi
  exact ⟨k1.dig, k2.dig⟩
theorem short_fits {V : View} {v : Value} {l : List Rn} (h : SlK 9 rnE V v l) (hs : shortP l) : (∀ r ∈ l, r.fits) ∧ (∀ r ∈ l, r.ds.length ≤ 8 ∧ (r.w.ok = true → QB 128 r.w.q)) ∧ l.length ≤ 1000000 := by
 have hq : ∀ r ∈ l, QB 128 r.w.q := fun r hr => by
  obtain ⟨_, _, g3, g4⟩ := hs.2 r hr
  obtain ⟨d1, d2⟩ := h.dig r hr
  exact QB_rv _ (dig4 d1 g3) (dig4 d2 g4)
 refine ⟨fun r hr => ?_, fun r hr => ⟨(hs.2 r hr).1, fun _ => hq r hr⟩, by have := hs.1; omega⟩
 obtain ⟨g1, _, g3, g4⟩ := hs.2 r hr
 exact ⟨by omega, ⟨by omega, by omega⟩, fun _ => (hq r hr).qf (by omega)⟩
def totQ (l : List Rn) : Rat := Sm (wOf l) l.length
theorem totS_QB {l : List Rn} (hs : ∀ r ∈ l, r.small) : ∀ j, j ≤ l.length → QB (j * 129) (Sm (wOf l) j)
 | 0, _ => QB_zero _
 | j + 1, hj => ((totS_QB hs j (by omega)).add (wOf_small hs (show j < l.length by omega)).1).mono (by omega)
theorem tot_pos {l : List Rn} (hs : ∀ r ∈ l, r.small) (h0 : 0 < l.length) : 0 < totQ l := Sm_posK (i := 0) (fun j hj => Rat.le_of_lt (wOf_small hs hj).2) h0 (wOf_small hs h0).2
def posL (l : List Rn) : List Rat := mk l.length fun i => wOf l i / totQ l
theorem posL_QB {l : List Rn} (hs : ∀ r ∈ l, r.small) (ll : l.length ≤ 60) : ∀ x ∈ posL l, QB 7868 x := fun x hx => by
 unfold posL mk at hx
 obtain ⟨i, hi, rfl⟩ := List.mem_map.1 hx
 have hi := List.mem_range.1 hi
 exact ((wOf_small hs hi).1.div ((totS_QB hs l.length (Nat.le_refl _)).mono (show l.length * 129 ≤ 7740 by omega))).mono (by omega)
theorem mk_snoc (n : Nat) (f : Nat → Rat) : mk (n + 1) f = mk n f ++ [f n] := by
 unfold mk
 rw [List.range_succ, List.map_append]; rfl
set_option maxHeartbeats 4000000 in
set_option maxRecDepth 100000 in
theorem cpost_c (V : View) (x : Value) (l : List Rn) (hx : SlK 9 rnE V x l) (hs : ∀ r ∈ l, r.small) (l0 : 0 < l.length) (ll : l.length ≤ 60) : Spec Tryz.prog 13 [x] V fun v' V' => Rats V' v' (posL l) := by
 obtain ⟨A, cL, rfl, _, _⟩ := hx.form
 obtain ⟨bL, oL, rfl⟩ := SlK.addr hx (by omega)
 have hqt : QB 7740 (totQ l) := (totS_QB hs l.length (Nat.le_refl _)).mono (by omega)
 have htp := tot_pos hs l0
 have ht0 : totQ l ≠ 0 := fun e => by rw [e] at htp; exact absurd htp (by decide)
 refine (Spec.enter Tryz.func13 rfl fun Γ => ?_)
 simp only [Tryz.ntmps13, List.map_cons, List.map_nil, List.length_cons, List.length_nil, Nat.reduceAdd, Nat.reduceSub, List.replicate_succ, List.replicate_zero, List.cons_append, List.nil_append]
 refine Gx.a (by kernel_rfl) fun K hK => ?_
 simp only [XA]
 refine hK _ ?_
 refine Gx.a (by kernel_rfl) fun K hK => ?_
 simp only [XA]
 refine call_go (by kernel_rfl) rfl (pzero_c _) fun v1 V1 hV1 h1 => ?_
 obtain ⟨x1, y1, rfl, o1, o2⟩ := h1.form
 simp only [XA, XB]
 refine st_rat rfl rfl rfl o1 o2 ?_
 simp only [XA]
 refine hK _ ?_
 have h1 : RatC V1 (.agg #[.bool (ng 0), x1, y1]) (Sm (wOf l) 0) := h1
 refine XWP.cutD 1 (fun s => ∃ (V2 : View) (bb x y : Value), StIs (fun Z => [.v (.slice (some ⟨bL, oL, none⟩) l.length cL), Z 1,Z 2, .p 0 0, Z 4,Z 5,Z 6,Z 7,Z 8,Z 9,Z 10,Z 11,Z 12,Z 13,Z 14,Z 15,Z 16,Z 17,Z 18,Z 19,Z 20,Z 21,Z 22,Z 23,Z 24,Z 25,Z 26,Z 27,Z 28,Z 29,Z 30,Z 31,Z 32,Z 33,Z 34,Z 35,Z 36,Z 37,Z 38,Z 39,Z 40,Z 41,Z 42,Z 43]) [[bb, x, y]] (fun _ => none) V2 s ∧ V1.le V2 ∧ RatC V2 (.agg #[bb, x, y]) (totQ l)) ?_ ?_
 ·refine Gx.a (by kernel_rfl) fun K hK => ?_
  simp only [XU, XA]
  refine hK _ ?_
  clear hK
  refine XWP.block ?_
  refine XWP.loopD 1 (fun q s => ∃ (j : Nat) (V2 : View) (bb x y : Value), StIs (fun Z => [.v (.slice (some ⟨bL, oL, none⟩) l.length cL), Z 1,Z 2, .p 0 0, Z 4,Z 5,Z 6,Z 7,Z 8,Z 9,Z 10, .v (.int .i64 (l.length : Int)), .v (.int .i64 (j : Int)), Z 13,Z 14,Z 15,Z 16,Z 17,Z 18,Z 19,Z 20,Z 21,Z 22,Z 23,Z 24,Z 25,Z 26,Z 27,Z 28,Z 29,Z 30,Z 31,Z 32,Z 33,Z 34,Z 35,Z 36,Z 37,Z 38,Z 39,Z 40,Z 41,Z 42,Z 43]) [[bb, x, y]] (fun _ => none) V2 s ∧ q + j = l.length ∧ V1.le V2 ∧ RatC V2 (.agg #[bb, x, y]) (Sm (wOf l) j)) l.length ⟨0, V1, _, x1, y1, StIs.of (by exact rfl), by omega, View.le_refl _, h1⟩ ?_
  clear h1 o1 o2
  rintro q s ⟨j, V2, bb, x, y, hs', hq, hV2, h2⟩
  obtain ⟨z, rfl⟩ := hs'.out
  try dsimp only
  clear hs'
  by_cases hj : j < l.length
  rotate_left
  ·obtain rfl : j = l.length := by omega
   have bj : decide (((l.length : Nat) : Int) < ((l.length : Nat) : Int)) = false := decide_eq_false (by omega)
   refine Gx.a (by kernel_rfl) fun K hK => ?_
   simp only [XA, XB, bj]
   refine hK _ ?_
   refine XWP.seq (Gx.f rfl ?_)
   refine XWP.exit ?_
   exact fun f => ⟨V2, bb, x, y, StIs.of (by exact rfl), hV2, h2⟩
  have bj : decide ((j : Int) < (l.length : Int)) = true := decide_eq_true (by omega)
  refine Gx.a (by kernel_rfl) fun K hK => ?_
  simp only [XA, XB, bj]
  refine hK _ ?_
  refine XWP.seq (Gx.t rfl ?_)
  refine XWP.skip ?_
  have hV02 := View.le_trans hV1 hV2
  obtain ⟨r, hr⟩ : ∃ r, l[j]? = some r := ⟨_, List.getElem?_eq_getElem hj⟩
  have hrs := hs r (List.mem_of_getElem? hr)
  obtain ⟨u0, u1, u2, u3, u4, dv1, m1, x', y', e1, _, ew1, la1, _, lc1⟩ := hx.rnAt hr hrs.ok
  have ewj := wOf_at hr
  rw [← ewj] at ew1
  have hwq := wOf_small hs hj
  have hqs := totS_QB hs j (by omega)
  refine XWP.seq ?_
  refine XWP.block ?_
  refine Gx.a (by kernel_rfl) fun K hK => ?_
  simp only [XA]
  refine hK _ ?_
  (refine XWP.drw1 [0, 1, 2, 3, 4, 5, 6, 7] (by kernel_rfl) (by kernel_rfl) (by kernel_rfl) fun K hK => ?_) <;> dsimp only [pickOps, List.getElem?_cons_zero, List.getElem?_cons_succ]
  simp only [XU, XA, XB, Nat.reduceAdd, Nat.reduceLeDiff, ↓reduceIte]
  refine ⟨by omega, by omega, ld_mem (Loads.up lc1 hV02 _) ?_⟩
  simp only [XA]
  refine call_go (by kernel_rfl) rfl (padd_c _ _ _ _ _ (RatC.toV h2 (hqs.qf (by omega))) (RatC.toV (ew1.mono hV02) (hwq.1.qf (by omega))) (hqs.qf (by omega)) (hwq.1.qf (by omega))) fun v3 V3 hV3 h3 => ?_
  obtain ⟨x3, y3, rfl, p5, p6⟩ := h3.form
  simp only [XA]
  refine st_rat rfl rfl rfl p5 p6 ?_
  simp only [XA]
  refine hK _ ?_
  refine Gx.c (by kernel_rfl) fun K hK => ?_
  simp only [XA, XB, i64_succ j (by omega)]
  exact hK _ ⟨q - 1, by omega, fun f => ⟨j + 1, V3, _, x3, y3, StIs.of (by exact rfl), by omega, View.le_trans hV2 hV3, h3⟩⟩
 clear h1 o1 o2
 rintro s ⟨V2, bb, x, y, hs', hV2, h2⟩
 obtain ⟨z, rfl⟩ := hs'.out
 try dsimp only
 clear hs'
 have hV02 := View.le_trans hV1 hV2
 refine Gx.a (by kernel_rfl) fun K hK => ?_
 simp only [XA]
 refine hK _ ?_
 refine XWP.cutD 1 (fun s => ∃ (V4 : View) (H4 : Heap) (sv : Value) (cells : List Value), StIs (fun Z => [Z 0,Z 1,Z 2, .p 0 0, Z 4, .v sv, Z 6,Z 7,Z 8,Z 9,Z 10,Z 11,Z 12,Z 13,Z 14,Z 15,Z 16,Z 17,Z 18,Z 19,Z 20,Z 21,Z 22,Z 23,Z 24,Z 25,Z 26,Z 27,Z 28,Z 29,Z 30,Z 31,Z 32,Z 33,Z 34,Z 35,Z 36,Z 37,Z 38,Z 39,Z 40,Z 41,Z 42,Z 43]) [[bb, x, y]] H4 V4 s ∧ Own H4 49 3 sv l.length cells ∧ RowAt ratE V4 cells (posL l)) ?_ ?_
 ·refine Gx.a (by kernel_rfl) fun K hK => ?_
  simp only [XU, XA]
  refine hK _ ?_
  clear hK
  refine XWP.block ?_
  refine XWP.loopD 1 (fun q s => ∃ (j : Nat) (V4 : View) (H4 : Heap) (sv : Value) (cells : List Value), StIs (fun Z => [.v (.slice (some ⟨bL, oL, none⟩) l.length cL), Z 1,Z 2, .p 0 0, Z 4, .v sv, Z 6,Z 7,Z 8,Z 9,Z 10,Z 11,Z 12,Z 13,Z 14,Z 15,Z 16,Z 17,Z 18,Z 19,Z 20,Z 21,Z 22,Z 23, .v (.int .i64 (l.length : Int)), .v (.int .i64 (j : Int)), Z 26,Z 27,Z 28,Z 29,Z 30,Z 31,Z 32,Z 33,Z 34,Z 35,Z 36,Z 37,Z 38,Z 39,Z 40,Z 41,Z 42,Z 43]) [[bb, x, y]] H4 V4 s ∧ q + j = l.length ∧ V2.le V4 ∧ Own H4 49 3 sv j cells ∧ RowAt ratE V4 cells (mk j fun i => wOf l i / totQ l)) l.length ⟨0, V2, fun _ => none, .slice none 0 0, [], StIs.of (by exact rfl), by omega, View.le_refl _, own_nil, RowAt.nil _⟩ ?_
  rintro q s ⟨j, V4, H4, sv, cells, hs', hq, hV4, hown, hrow⟩
  obtain ⟨z, rfl⟩ := hs'.out
  try dsimp only
  clear hs'
  by_cases hj : j < l.length
  rotate_left
  ·obtain rfl : j = l.length := by omega
   have bj : decide (((l.length : Nat) : Int) < ((l.length : Nat) : Int)) = false := decide_eq_false (by omega)
   refine Gx.a (by kernel_rfl) fun K hK => ?_
   simp only [XA, XB, bj]
   refine hK _ ?_
   refine XWP.seq (Gx.f rfl ?_)
   refine XWP.exit ?_
   exact fun f => ⟨V4, H4, sv, cells, StIs.of (by exact rfl), hown, hrow⟩
  have bj : decide ((j : Int) < (l.length : Int)) = true := decide_eq_true (by omega)
  refine Gx.a (by kernel_rfl) fun K hK => ?_
  simp only [XA, XB, bj]
  refine hK _ ?_
  refine XWP.seq (Gx.t rfl ?_)
  refine XWP.skip ?_
  have hV04 := View.le_trans hV02 hV4
  obtain ⟨r, hr⟩ : ∃ r, l[j]? = some r := ⟨_, List.getElem?_eq_getElem hj⟩
  have hrs := hs r (List.mem_of_getElem? hr)
  obtain ⟨u0, u1, u2, u3, u4, dv1, m1, x', y', e1, _, ew1, la1, _, lc1⟩ := hx.rnAt hr hrs.ok
  have ewj := wOf_at hr
  rw [← ewj] at ew1
  have hwq := wOf_small hs hj
  have h4 := h2.mono hV4
  have hpd := pdiv_c V4 _ _ _ _ (RatC.toV (ew1.mono hV04) (hwq.1.qf (by omega))) (RatC.toV h4 (hqt.qf (by omega))) (hwq.1.qf (by omega)) (hqt.qf (by omega))
  refine XWP.seq ?_
  refine XWP.block ?_
  refine Gx.a (by kernel_rfl) fun K hK => ?_
  simp only [XA]
  refine hK _ ?_
  refine XWP.cutD 2 (fun s => ∃ (V5 : View) (b5 x5 y5 : Value), StIs (fun Z => [.v (.slice (some ⟨bL, oL, none⟩) l.length cL), Z 1,Z 2, .p 0 0, Z 4, .v sv, Z 6, .p 1 0, Z 8,Z 9,Z 10,Z 11,Z 12,Z 13,Z 14,Z 15,Z 16,Z 17,Z 18,Z 19,Z 20,Z 21,Z 22,Z 23, .v (.int .i64 (l.length : Int)), .v (.int .i64 (j : Int)), Z 26,Z 27,Z 28,Z 29,Z 30,Z 31,Z 32,Z 33,Z 34,Z 35,Z 36,Z 37,Z 38,Z 39,Z 40,Z 41,Z 42,Z 43]) [[bb, x, y], [b5, x5, y5]] H4 V5 s ∧ V4.le V5 ∧ RatC V5 (.agg #[b5, x5, y5]) (wOf l j / totQ l)) ?_ ?_
  ·(refine XWP.drwT1 (.lin [0, 1, 2, 3, 4, 5] (.two (.lin [6, 7, 8, 9, 10, 11, 12] .nil) (.lin [10, 6, 7, 8, 9, 11, 12] .nil))) (by kernel_rfl) (by kernel_rfl) (by kernel_rfl) fun K hK => ?_)
   simp only [XU, XA]
   refine ⟨by omega, by omega, ld_mem (Loads.up lc1 hV04 _) ?_⟩
   simp only [XA, XB, Nat.reduceAdd, Nat.reduceLeDiff, ↓reduceIte]
   refine And.intro ?_ ?_
   ·refine call_go (by kernel_rfl) rfl hpd fun v5 V5 hV5 g5 => ?_
    obtain ⟨w5, rfl, k5⟩ := g5.2 ht0
    obtain ⟨x5, y5, rfl, p5, p6⟩ := k5.form
    simp only [XA, XB]
    refine st_rat rfl rfl rfl p5 p6 ?_
    simp only [XA]
    exact hK _ fun f => ⟨V5, _, x5, y5, StIs.of (by exact rfl), hV5, k5⟩
   ·refine call_go (by kernel_rfl) rfl hpd fun v5 V5 hV5 g5 => ?_
    obtain ⟨w5, rfl, k5⟩ := g5.2 ht0
    obtain ⟨x5, y5, rfl, p5, p6⟩ := k5.form
    simp only [XA]
    refine st_rat rfl rfl rfl p5 p6 ?_
    simp only [XA]
    exact hK _ fun f => ⟨V5, _, x5, y5, StIs.of (by exact rfl), hV5, k5⟩
  rintro s ⟨V5, b5, x5, y5, hs', hV5, h5⟩
  obtain ⟨z, rfl⟩ := hs'.out
  try dsimp only
  clear hs'
  obtain ⟨x6, y6, e6, p5, p6⟩ := h5.form
  cases e6
  refine Gx.c (by kernel_rfl) fun K hK => ?_
  simp only [XA, XB, Nat.reduceAdd, Nat.reduceLeDiff, ↓reduceIte]
  refine bs_go (by kernel_rfl) #[(0, .agg #[.bool (ng (wOf l j / totQ l)), x5, y5])] (by simp [ev_tmp, SV.val]) (bs_rat elemT_24) fun bq hbq1 hbq2 => ?_
  simp only [XA, Nat.reduceAdd]
  refine ap_go elemT_24 (by kernel_rfl) zeroT_49 rfl (by omega) (own_upd hown hbq1) (src3 (upd_at _ _ _) rfl p5 p6) (by omega) (by omega) fun v' H' hres => ?_
  simp only [XA]
  refine hK _ ?_
  refine Gx.c (by kernel_rfl) fun K hK => ?_
  simp only [XA, XB, i64_succ j (by omega)]
  exact hK _ ⟨q - 1, by omega, fun f => ⟨j + 1, V5, H', v', _, StIs.of (by exact rfl), by omega, View.le_trans hV4 hV5, hres.1, by rw [mk_snoc]; exact (hrow.mono ratE_ok hV5).snoc rfl p5 p6 h5⟩⟩
 rintro s ⟨V4, H4, sv, cells, hs', hown, hrow⟩
 obtain ⟨z, rfl⟩ := hs'.out
 try dsimp only
 clear hs'
 refine Gx.a (by kernel_rfl) fun K hK => ?_
 simp only [XA]
 refine hK _ (XWP.ret ?_)
 try simp only [thenX_ret, inBlockX_ret]
 rcases own_parts hown with ⟨_, h0, _⟩ | ⟨g, cap, rfl, hg, hle, hcap, hcl⟩
 ·omega
 ·refine ret_pub g _ hg fun o ho hle' => ret_go _ rfl ?_
  exact RowAt.pub ratE_ok hrow ho hle' (mk_len _ _) hle (by unfold maxLen at hcap; omega)
set_option maxHeartbeats 4000000 in
set_option maxRecDepth 100000 in
theorem cstays_c (V : View) (v s : Value) (L : List Rat) (G : Grid) (n B C : Nat) (hL : Rats V v L) (hM : Rats V s (flatG G n n)) (hl : L.length = n) (h0 : 0 < n) (hn : n ≤ 60) (qL : ∀ x ∈ L, QB B x) (qG : ∀ i k, i < n → k < n → QB C (G i k)) (hB : 61 * (B + C + 1) ≤ 17592186044416) (hst : ∀ k, k < n → Sm (fun i => cf L i * G i k) n = cf L k) :
  Spec Tryz.prog 15 [v, .agg #[.int .i64 (n : Int), .int .i64 (n : Int), s]] V fun v' V' => v' = .bool true := by
 obtain ⟨AV, cV, rfl, _, _⟩ := hL.form
 obtain ⟨AM, cM, rfl, _, _⟩ := hM.form
 have hnn : n * n ≤ 3600 := Nat.le_trans (Nat.mul_le_mul hn hn) (by decide)
 have hfl := flatG_len G n n
 obtain ⟨bV, oV, rfl⟩ := SlAt.addr hL (by omega)
 obtain ⟨bM, oM, rfl⟩ := SlAt.addr hM (by rw [hfl]; exact Nat.mul_pos h0 h0)
 have hqL : ∀ i, i < n → QB B (cf L i) := fun i hi => qL _ (cf_mem (by omega))
 have hqS : ∀ k, k < n → ∀ j, j ≤ n → QB (j * (B + C + 1)) (Sm (fun i => cf L i * G i k) j) := fun k hk => by
  intro j
  induction j with
  | zero => intro _; exact QB_zero _
  | succ j ih =>
   intro hj
   exact ((ih (by omega)).add ((hqL j (by omega)).mul (qG j k (by omega) hk))).mono (by rw [Nat.add_mul]; omega)
 have hqf : ∀ k, k < n → ∀ j, j ≤ n → QF (Sm (fun i => cf L i * G i k) j) := fun k hk j hj => (hqS k hk j hj).qf (by
  have := Nat.mul_le_mul_right (B + C + 1) (show j ≤ 61 by omega)
  omega)
 have hBC : B + C ≤ 17592186044416 := by omega
 refine (Spec.enter Tryz.func15 rfl fun Γ => ?_)
 simp only [Tryz.ntmps15, List.map_cons, List.map_nil, List.length_cons, List.length_nil, Nat.reduceAdd, Nat.reduceSub, List.replicate_succ, List.replicate_zero, List.cons_append, List.nil_append]
 refine Gx.a (by kernel_rfl) fun K hK => ?_
 simp only [XA]
 refine hK _ ?_
 refine Gx.a (by kernel_rfl) fun K hK => ?_
 simp only [XA, XB]
 refine hK _ ?_
 rw [hl]
 refine XWP.seq ?_
 have w0 : IntKind.i64.wrap ((n : Int) * (n : Int)) = ((n * n : Nat) : Int) := wr_mul (i := n) (C := n) (by omega) (by omega)
 have bn : decide ((n : Int) = (n : Int)) = true := decide_eq_true (by omega)
 have bm : decide (((flatG G n n).length : Int) = ((n * n : Nat) : Int)) = true := by rw [hfl]; exact decide_eq_true rfl
 refine Gx.a (by kernel_rfl) fun K hK => ?_
 simp only [XM, XA, XB, gateX, w0, bm]
 refine hK _ ?_
 refine Gx.f rfl ?_
 refine XWP.skip ?_
 refine XWP.cutD 1 (fun s => ∃ (V2 : View), StIs (fun Z => [Z 0,Z 1,Z 2,Z 3,Z 4,Z 5,Z 6,Z 7,Z 8,Z 9,Z 10,Z 11,Z 12,Z 13,Z 14,Z 15,Z 16,Z 17,Z 18,Z 19,Z 20,Z 21,Z 22,Z 23,Z 24,Z 25,Z 26,Z 27,Z 28,Z 29,Z 30,Z 31,Z 32,Z 33,Z 34,Z 35,Z 36,Z 37,Z 38,Z 39,Z 40,Z 41,Z 42,Z 43,Z 44,Z 45,Z 46,Z 47,Z 48,Z 49,Z 50,Z 51,Z 52,Z 53,Z 54,Z 55,Z 56,Z 57,Z 58,Z 59,Z 60,Z 61,Z 62,Z 63]) [[.int .i64 (n : Int), .int .i64 (n : Int), .slice (some ⟨bM, oM, none⟩) (flatG G n n).length cM]] (fun _ => none) V2 s) ?_ ?_
 rotate_left
 ·rintro s ⟨V2, hs'⟩
  obtain ⟨z, rfl⟩ := hs'.out
  try dsimp only
  refine Gx.a (by kernel_rfl) fun K hK => ?_
  simp only [XA]
  refine hK _ (XWP.ret ?_)
  try simp only [thenX_ret, inBlockX_ret]
  refine ret_go _ rfl ?_
  rfl
 refine Gx.a (by kernel_rfl) fun K hK => ?_
 simp only [XA]
 refine hK _ ?_
 clear hK
 refine XWP.block ?_
 refine XWP.loopD 1 (fun q s => ∃ (k : Nat) (V2 : View), StIs (fun Z => [.v (.slice (some ⟨bV, oV, none⟩) n cV), Z 1,Z 2, .p 0 0, Z 4, .v (.int .i64 (n : Int)), .v (.int .i64 (k : Int)), Z 7,Z 8,Z 9,Z 10,Z 11,Z 12,Z 13,Z 14,Z 15,Z 16,Z 17,Z 18,Z 19,Z 20,Z 21,Z 22,Z 23,Z 24,Z 25,Z 26,Z 27,Z 28,Z 29,Z 30,Z 31,Z 32,Z 33,Z 34,Z 35,Z 36,Z 37,Z 38,Z 39,Z 40,Z 41,Z 42,Z 43,Z 44,Z 45,Z 46,Z 47,Z 48,Z 49,Z 50,Z 51,Z 52,Z 53,Z 54,Z 55,Z 56,Z 57,Z 58,Z 59,Z 60,Z 61,Z 62,Z 63]) [[.int .i64 (n : Int), .int .i64 (n : Int), .slice (some ⟨bM, oM, none⟩) (flatG G n n).length cM]] (fun _ => none) V2 s ∧ q + k = n ∧ V.le V2) n ⟨0, V, StIs.of (by exact rfl), by omega, View.le_refl _⟩ ?_
 rintro q s ⟨k, V2, hs', hq, hV2⟩
 obtain ⟨z, rfl⟩ := hs'.out
 try dsimp only
 clear hs'
 refine XWP.seq ?_
 by_cases hk : k < n
 rotate_left
 ·obtain rfl : k = n := by omega
  have b2 : decide (((k : Nat) : Int) < ((k : Nat) : Int)) = false := decide_eq_false (by omega)
  refine Gx.a (by kernel_rfl) fun K hK => ?_
  simp only [XA, XB, b2]
  refine hK _ ?_
  refine Gx.f rfl ?_
  refine XWP.exit ?_
  exact fun f => ⟨V2, StIs.of (by exact rfl)⟩
 have b2 : decide ((k : Int) < (n : Int)) = true := decide_eq_true (by omega)
 refine Gx.a (by kernel_rfl) fun K hK => ?_
 simp only [XA, XB, b2]
 refine hK _ ?_
 refine Gx.t rfl ?_
 refine XWP.skip ?_
 refine XWP.cutD 1 (fun s => ∃ (V3 : View), StIs (fun Z => [.v (.slice (some ⟨bV, oV, none⟩) n cV), Z 1,Z 2, .p 0 0, Z 4, .v (.int .i64 (n : Int)), .v (.int .i64 (k : Int)), Z 7,Z 8,Z 9,Z 10,Z 11,Z 12,Z 13,Z 14,Z 15,Z 16,Z 17,Z 18,Z 19,Z 20,Z 21,Z 22,Z 23,Z 24,Z 25,Z 26,Z 27,Z 28,Z 29,Z 30,Z 31,Z 32,Z 33,Z 34,Z 35,Z 36,Z 37,Z 38,Z 39,Z 40,Z 41,Z 42,Z 43,Z 44,Z 45,Z 46,Z 47,Z 48,Z 49,Z 50,Z 51,Z 52,Z 53,Z 54,Z 55,Z 56,Z 57,Z 58,Z 59,Z 60,Z 61,Z 62,Z 63]) [[.int .i64 (n : Int), .int .i64 (n : Int), .slice (some ⟨bM, oM, none⟩) (flatG G n n).length cM]] (fun _ => none) V3 s ∧ V2.le V3) ?_ ?_
 rotate_left
 ·rintro s ⟨V3, hs', hV3⟩
  obtain ⟨z, rfl⟩ := hs'.out
  try dsimp only
  clear hs'
  refine Gx.c (by kernel_rfl) fun K hK => ?_
  simp only [XA, XB, i64_succ k (by omega)]
  exact hK _ ⟨q - 1, by omega, fun f => ⟨k + 1, V3, StIs.of (by exact rfl), by omega, View.le_trans hV2 hV3⟩⟩
 clear hK
 refine XWP.block ?_
 refine Gx.a (by kernel_rfl) fun K hK => ?_
 simp only [XA]
 refine call_go (by kernel_rfl) rfl (pzero_c _) fun v3 V3 hV3 h3 => ?_
 obtain ⟨x3, y3, rfl, o1, o2⟩ := h3.form
 simp only [XA, XB]
 refine st_rat rfl rfl rfl o1 o2 ?_
 simp only [XA]
 refine hK _ ?_
 have h3 : RatC V3 (.agg #[.bool (ng 0), x3, y3]) (Sm (fun i => cf L i * G i k) 0) := h3
 refine XWP.cutD 2 (fun s => ∃ (V4 : View) (bb x y : Value), StIs (fun Z => [.v (.slice (some ⟨bV, oV, none⟩) n cV), Z 1,Z 2, .p 0 0, Z 4, .v (.int .i64 (n : Int)), .v (.int .i64 (k : Int)), .p 1 0, Z 8,Z 9,Z 10,Z 11,Z 12,Z 13,Z 14,Z 15,Z 16,Z 17,Z 18,Z 19,Z 20,Z 21,Z 22,Z 23,Z 24,Z 25,Z 26,Z 27,Z 28,Z 29,Z 30,Z 31,Z 32,Z 33,Z 34,Z 35,Z 36,Z 37,Z 38,Z 39,Z 40,Z 41,Z 42,Z 43,Z 44,Z 45,Z 46,Z 47,Z 48,Z 49,Z 50,Z 51,Z 52,Z 53,Z 54,Z 55,Z 56,Z 57,Z 58,Z 59,Z 60,Z 61,Z 62,Z 63]) [[.int .i64 (n : Int), .int .i64 (n : Int), .slice (some ⟨bM, oM, none⟩) (flatG G n n).length cM], [bb, x, y]] (fun _ => none) V4 s ∧ V3.le V4 ∧ RatC V4 (.agg #[bb, x, y]) (Sm (fun i => cf L i * G i k) n)) ?_ ?_
 ·refine Gx.a (by kernel_rfl) fun K hK => ?_
  simp only [XA]
  refine hK _ ?_
  clear hK
  refine XWP.block ?_
  refine XWP.loopD 2 (fun p s => ∃ (j : Nat) (V4 : View) (bb x y : Value), StIs (fun Z => [.v (.slice (some ⟨bV, oV, none⟩) n cV), Z 1,Z 2, .p 0 0, Z 4, .v (.int .i64 (n : Int)), .v (.int .i64 (k : Int)), .p 1 0, .v (.int .i64 (j : Int)), Z 9,Z 10,Z 11,Z 12,Z 13,Z 14,Z 15,Z 16,Z 17,Z 18,Z 19,Z 20,Z 21,Z 22,Z 23,Z 24,Z 25,Z 26,Z 27,Z 28,Z 29,Z 30,Z 31,Z 32,Z 33,Z 34,Z 35,Z 36,Z 37,Z 38,Z 39,Z 40,Z 41,Z 42,Z 43,Z 44,Z 45,Z 46,Z 47,Z 48,Z 49,Z 50,Z 51,Z 52,Z 53,Z 54,Z 55,Z 56,Z 57,Z 58,Z 59,Z 60,Z 61,Z 62,Z 63]) [[.int .i64 (n : Int), .int .i64 (n : Int), .slice (some ⟨bM, oM, none⟩) (flatG G n n).length cM], [bb, x, y]] (fun _ => none) V4 s ∧ p + j = n ∧ V3.le V4 ∧ RatC V4 (.agg #[bb, x, y]) (Sm (fun i => cf L i * G i k) j)) n ⟨0, V3, _, x3, y3, StIs.of (by exact rfl), by omega, View.le_refl _, h3⟩ ?_
  clear h3 o1 o2
  rintro p s ⟨j, V4, bb, x, y, hs', hp, hV4, h4⟩
  obtain ⟨z, rfl⟩ := hs'.out
  try dsimp only
  clear hs'
  refine XWP.seq ?_
  by_cases hj : j < n
  rotate_left
  ·obtain rfl : j = n := by omega
   have b3 : decide (((j : Nat) : Int) < ((j : Nat) : Int)) = false := decide_eq_false (by omega)
   refine Gx.a (by kernel_rfl) fun K hK => ?_
   simp only [XA, XB, b3]
   refine hK _ ?_
   refine Gx.f rfl ?_
   refine XWP.exit ?_
   exact fun f => ⟨V4, bb, x, y, StIs.of (by exact rfl), hV4, h4⟩
  have b3 : decide ((j : Int) < (n : Int)) = true := decide_eq_true (by omega)
  refine Gx.a (by kernel_rfl) fun K hK => ?_
  simp only [XA, XB, b3]
  refine hK _ ?_
  refine Gx.t rfl ?_
  refine XWP.skip ?_
  have hV04 := View.le_trans hV2 (View.le_trans hV3 hV4)
  have hplt := pos_lt hj hk
  have w1 := wr_mul (i := j) (C := n) (by omega) (by omega)
  have w2 := wr_add (p := j * n) (k := k) (by omega) (by omega)
  obtain ⟨m5, n5, d5, hx5, _, hld5⟩ := Rats.get (hL.up hV04) j (by omega)
  obtain ⟨m7, n7, d7, hx7, _, hld7⟩ := Rats.get (hM.up hV04) (j * n + k) (by rw [hfl]; exact hplt)
  rw [flatG_at _ hj hk] at hx7
  have q5 := hqL j hj
  have q7 := qG j k hj hk
  refine XWP.seq ?_
  refine XWP.block ?_
  (refine XWP.drw1 [0, 1, 2, 3, 4, 5, 6, 7, 8, 9, 10, 11, 12, 13, 14, 15, 16] (by kernel_rfl) (by kernel_rfl) (by kernel_rfl) fun K hK => ?_) <;> dsimp only [pickOps, List.getElem?_cons_zero, List.getElem?_cons_succ]
  simp only [XA, XB, Nat.reduceAdd, Nat.reduceLeDiff, ↓reduceIte]
  refine ⟨by omega, by omega, ld_mem (hld5 _) ?_⟩
  simp only [XM, XA, XB, w1, w2]
  refine ⟨by omega, by rw [hfl]; omega, ld_mem (hld7 _) ?_⟩
  simp only [XA]
  refine call_go (by kernel_rfl) rfl (pmul_c _ _ _ _ _ (RatC.toV hx5 (q5.qf (by omega))) (RatC.toV hx7 (q7.qf (by omega))) (q5.qf (by omega)) (q7.qf (by omega))) fun v8 V8 hV8 h8 => ?_
  simp only [XA]
  refine call_go (by kernel_rfl) rfl (padd_c _ _ _ _ _ (RatC.toV (h4.mono hV8) (hqf k hk j (by omega))) (RatC.toV h8 ((q5.mul q7).qf (by omega))) (hqf k hk j (by omega)) ((q5.mul q7).qf (by omega))) fun v9 V9 hV9 h9 => ?_
  obtain ⟨x9, y9, rfl, p5, p6⟩ := h9.form
  simp only [XA]
  refine st_rat rfl rfl rfl p5 p6 ?_
  simp only [XA]
  refine hK _ ?_
  refine Gx.c (by kernel_rfl) fun K hK => ?_
  simp only [XA, XB, i64_succ j (by omega)]
  exact hK _ ⟨p - 1, by omega, fun f => ⟨j + 1, V9, _, x9, y9, StIs.of (by exact rfl), by omega, View.le_trans hV4 (View.le_trans hV8 hV9), h9⟩⟩
 clear h3 o1 o2
 rintro s ⟨V4, bb, x, y, hs', hV4, h4⟩
 obtain ⟨z, rfl⟩ := hs'.out
 try dsimp only
 clear hs'
 have hV24 := View.le_trans hV3 hV4
 have hV04 := View.le_trans hV2 hV24
 obtain ⟨m5, n5, d5, hx5, _, hld5⟩ := Rats.get (hL.up hV04) k (by omega)
 have q5 := hqL k hk
 (refine XWP.drw [0, 1, 2, 3, 4, 5, 6] (by kernel_rfl) (by kernel_rfl) (by kernel_rfl) fun K hK => ?_) <;> dsimp only [pickOps, List.getElem?_cons_zero, List.getElem?_cons_succ]
 simp only [XA, XB, Nat.reduceAdd, Nat.reduceLeDiff, ↓reduceIte]
 refine ⟨by omega, by omega, ld_mem (hld5 _) ?_⟩
 simp only [XA]
 refine call_go (by kernel_rfl) rfl (psame_c _ _ _ _ _ (RatC.toV h4 (hqf k hk n (Nat.le_refl _))) (RatC.toV hx5 (q5.qf (by omega))) (hqf k hk n (Nat.le_refl _)) (q5.qf (by omega))) fun v8 V8 hV8 h8 => ?_
 subst h8
 have bs : decide (Sm (fun i => cf L i * G i k) n = cf L k) = true := decide_eq_true (hst k hk)
 simp only [XA, bs]
 refine hK _ ?_
 refine Gx.f rfl ?_
 refine XWP.skip ?_
 exact fun f => ⟨V8, StIs.of (by exact rfl), View.le_trans hV24 hV8⟩









theorem flatG_memK {G : Grid} {n : Nat} {x : Rat} (h : x ∈ flatG G n n) : ∃ i k, i < n ∧ k < n ∧ x = G i k := by
 unfold flatG mk at h
 obtain ⟨j, hj, rfl⟩ := List.mem_map.1 h
 have hj := List.mem_range.1 hj
 have hn : 0 < n := by
  rcases Nat.eq_zero_or_pos n with e | e
  ·rw [e] at hj; omega
  ·exact e
 exact ⟨j / n, j % n, Nat.div_lt_of_lt_mul hj, Nat.mod_lt _ hn, rfl⟩
theorem OfR.qf {l : List Rn} {c : Int} {od : Nat → Nat → Rat} (h : OfR l c od) (hl : ∀ r ∈ l, r.small) (ll : l.length ≤ 60) : ∀ x ∈ flatG (moveG od l.length) l.length l.length, QF x := fun x hx => by
 have hqb := h.qb hl ll
 obtain ⟨i, k, hi, hk, rfl⟩ := flatG_memK hx
 unfold moveG
 split
 ·have h1 := offQ_QB (od := od) (B := 600000) (n := l.length) (i := i) (fun k hk _ => hqb i k hi hk) l.length (Nat.le_refl _)
  have h2 : l.length * (600000 + 1) ≤ 60 * 600001 := Nat.mul_le_mul_right _ ll
  exact ((QB_one 0).sub h1).qf (by omega)
 ·exact (hqb i k hi hk).qf (by omega)


theorem stoB_parts {r c : Int} {L : List Raw} (h : stoB r c L = true) : ∃ n : Nat, r = n ∧ c = n ∧ n ≤ 60 ∧ L.length = n * n ∧ okR L = true ∧ StoG (gridL (qs L) n) n := by
 unfold stoB at h
 rw [Bool.and_eq_true, Bool.and_eq_true, decide_eq_true_eq] at h
 obtain ⟨⟨h1, rfl⟩, h2⟩ := h
 unfold matR at h1
 rw [Bool.and_eq_true, decide_eq_true_eq] at h1
 obtain ⟨⟨k1, k2, _, _, k5⟩, ok⟩ := h1
 obtain ⟨n, rfl⟩ : ∃ n : Nat, r = n := ⟨r.toNat, by omega⟩
 have kl : L.length = n * n := by rw [← Int.natCast_mul] at k5; omega
 rw [Int.toNat_natCast] at h2
 have hrow : ∀ i, i < n → (∀ k, k < n → 0 ≤ cf (qs L) (i * n + k)) ∧ Sm (fun k => cf (qs L) (i * n + k)) n = 1 := fun i hi => by
  have := List.all_eq_true.1 h2 i (List.mem_range.2 hi)
  unfold rowOk at this
  rw [Bool.and_eq_true, decide_eq_true_eq] at this
  refine ⟨fun k hk => ?_, this.2⟩
  have h3 := List.all_eq_true.1 this.1 k (List.mem_range.2 hk)
  rw [Bool.not_eq_true'] at h3
  exact (ng_iff _).1 h3
 exact ⟨n, rfl, rfl, by omega, kl, ok, ⟨fun i k hi hk => (hrow i hi).1 k hk, fun i hi => (hrow i hi).2⟩⟩







theorem OfR.qbG {l : List Rn} {c : Int} {od : Nat → Nat → Rat} (h : OfR l c od) (hl : ∀ r ∈ l, r.small) (ll : l.length ≤ 60) {i k : Nat} (hi : i < l.length) (hk : k < l.length) : QB 40000000 (moveG od l.length i k) := by
 have hqb := h.qb hl ll
 unfold moveG
 split
 ·have h1 := offQ_QB (od := od) (B := 600000) (n := l.length) (i := i) (fun k hk _ => hqb i k hi hk) l.length (Nat.le_refl _)
  have h2 : l.length * (600000 + 1) ≤ 60 * 600001 := Nat.mul_le_mul_right _ ll
  exact ((QB_one 0).sub h1).mono (by omega)
 ·exact (hqb i k hi hk).mono (by omega)
theorem OfR.sto {l : List Rn} {c : Int} {od : Nat → Nat → Rat} (h : OfR l c od) (hr : rightR l = true) (hl : ∀ r ∈ l, r.small) (ll : l.length ≤ 60) : stoB (l.length : Int) (l.length : Int) ((flatG (moveG od l.length) l.length l.length).map toRaw) = true := by
 have hm : matR (l.length : Int) (l.length : Int) ((flatG (moveG od l.length) l.length l.length).map toRaw) = true := by
  unfold matR
  rw [Bool.and_eq_true, okR_toRaw, List.length_map, flatG_len]
  refine ⟨decide_eq_true ⟨by omega, by omega, by omega, by omega, ?_⟩, rfl⟩
  exact Int.natCast_mul _ _
 unfold stoB
 rw [hm, decide_eq_true rfl, Int.toNat_natCast, qs_toRaw, Bool.true_and, Bool.true_and, List.all_eq_true]
 intro i hi
 have hi := List.mem_range.1 hi
 unfold rowOk
 rw [Bool.and_eq_true, List.all_eq_true]
 refine ⟨fun k hk => ?_, decide_eq_true ?_⟩
 ·have hk := List.mem_range.1 hk
  rw [flatG_at _ hi hk]
  have := h.ge hr hl hi hk
  have h2 : ng (moveG od l.length i k) = false := by
   unfold ng
   exact decide_eq_false (Int.not_lt.2 (Rat.num_nonneg.2 this))
  rw [h2]; rfl
 ·rw [Sm_congr _ fun k hk => flatG_at (moveG od l.length) hi hk]
  exact row_one od hi
theorem OfR.stP {l : List Rn} {c : Int} {od : Nat → Nat → Rat} (h : OfR l c od) (hl : ∀ r ∈ l, r.small) : ∀ k, k < l.length → Sm (fun i => cf (posL l) i * moveG od l.length i k) l.length = cf (posL l) k := fun k hk => by
 have e : ∀ i, i < l.length → cf (posL l) i * moveG od l.length i k = (totQ l)⁻¹ * (wOf l i * moveG od l.length i k) := fun i hi => by
  unfold posL
  rw [cf_mk, if_pos hi, Rat.div_def]; grind
 rw [Sm_congr _ e, Sm_mul, h.stays hl hk]
 unfold posL
 rw [cf_mk, if_pos hk, Rat.div_def, Rat.mul_comm]
end Go.Proofs.YtobjjdnfgamgcaaGreat
end
section
namespace Go.Proofs.YtobjjdnfgamgcaaGreat
def s2 (j k b : Nat) : Nat := if b < min j k then b else if b + 1 < max j k then b + 1 else b + 2
def hv (a : Nat → Rat) (c : Rat) : Nat → Nat → Rat
 | 0, _ => 0
 | t + 1, m => a m + c * hv a c t (m + 1)
def dv (x : Rat) : Nat → Rat
 | 0 => 0
 | k + 1 => x * dv x k + x ^ k


def gmul (A B : Grid) (n : Nat) : Grid := fun i k => Sm (fun t => A i t * B t k) n
end Go.Proofs.YtobjjdnfgamgcaaGreat
end
section
namespace Go.Proofs.YtobjjdnfgamgcaaGreat
open Go Go.RowKit
attribute [local irreducible] XWP Spec SpecO XPub XCall seqX clX apX stX ldX iaX slX
theorem make7_c (V : View) (n : Nat) (hn : n ≤ 7) : Spec Tryz.prog 18 [.int .i64 (n : Int), .int .i64 7] V fun v' V' => ∃ w, v' = .tuple #[w, .int .i64 0] ∧ RatC V' w (rv false n 7) := by
 refine (Spec.enter Tryz.func18 rfl fun Γ => ?_)
 simp only [Tryz.ntmps18, List.map_cons, List.map_nil, List.length_cons, List.length_nil, Nat.reduceAdd, Nat.reduceSub, List.replicate_succ, List.replicate_zero, List.cons_append, List.nil_append]
 refine Gx.a (by kernel_rfl) fun K hK => ?_
 simp only [XA, XB]
 refine hK _ ?_
 refine Gx.a (by kernel_rfl) fun K hK => ?_
 simp only [XA]
 refine call_go (by kernel_rfl) rfl (dsize_c _ n (by omega)) fun v1 V1 hV1 h1 => ?_
 obtain ⟨w1, rfl, h1⟩ := h1
 simp only [XA]
 refine hK _ ?_
 refine Gx.a (by kernel_rfl) fun K hK => ?_
 simp only [XA]
 refine call_go (by kernel_rfl) rfl (dsize_c _ 7 (by omega)) fun v2 V2 hV2 h2 => ?_
 obtain ⟨w2, rfl, h2⟩ := h2
 simp only [XA]
 refine hK _ ?_
 have hn16 : n ≤ 2 ^ 4 := by omega
 refine Gx.a (by kernel_rfl) fun K hK => ?_
 simp only [XA, XB, beq_self_eq_true]
 refine call_go (by kernel_rfl) rfl (pof_c _ _ _ _ n 7 (h1.mono hV2) h2 (Fit1.of_two (B := 4) hn16 (by omega)) (Fit1.of_two (B := 4) (by decide) (by omega))) fun v3 V3 hV3 h3 => ?_
 obtain ⟨w3, rfl, r3⟩ := h3.2 (by omega)
 clear h3
 obtain ⟨x3, y3, rfl, o1, o2⟩ := r3.form
 simp only [XA]
 refine st_rat rfl rfl rfl o1 o2 ?_
 simp only [XA]
 refine hK _ (XWP.ret ?_)
 try simp only [thenX_ret, inBlockX_ret]
 exact ret_rat2 rfl rfl rfl rfl ⟨_, rfl, r3⟩
def keepsG (L : List Rat) (G : Grid) (n : Nat) : Prop := ∀ k, k < n → Sm (fun i => cf L i * G i k) n = cf L k
theorem keeps_mix {L : List Rat} {G H : Grid} {n : Nat} (w : Rat) (hG : keepsG L G n) (hH : keepsG L H n) : keepsG L (fun i k => G i k * w + H i k * (1 - w)) n := fun k hk => by
 have e : ∀ i, i < n → cf L i * (G i k * w + H i k * (1 - w)) = w * (cf L i * G i k) + (1 - w) * (cf L i * H i k) := fun i _ => by grind
 rw [Sm_congr _ e, Sm_add, Sm_mul, Sm_mul, hG k hk, hH k hk]
 grind
theorem keeps_mul {L : List Rat} {G H : Grid} {n : Nat} (hG : keepsG L G n) (hH : keepsG L H n) : keepsG L (gmul G H n) n := fun k hk => by
 unfold gmul
 have e : ∀ i, i < n → cf L i * Sm (fun t => G i t * H t k) n = Sm (fun t => cf L i * G i t * H t k) n := fun i _ => by
  rw [← Sm_mul]
  exact Sm_congr _ fun t _ => by grind
 rw [Sm_congr _ e, Sm_swap]
 have e2 : ∀ t, t < n → Sm (fun i => cf L i * G i t * H t k) n = cf L t * H t k := fun t ht => by
  rw [Sm_congr _ fun i _ => (show cf L i * G i t * H t k = H t k * (cf L i * G i t) by grind), Sm_mul, hG t ht]
  grind
 rw [Sm_congr _ e2, hH k hk]
theorem sev_ok {n : Nat} (hn : n ≤ 7) : ng (rv false n 7) = false ∧ ¬ 0 < sgI (rv false n 7 - 1) ∧ QB 8 (rv false n 7) := by
 have hp := natCast_pos (show 0 < 7 by omega)
 have h0 : 0 ≤ rv false n 7 := by
  rw [rv_quo, Rat.div_def]
  refine Rat.mul_nonneg ?_ (Rat.le_of_lt (Rat.inv_pos.2 hp))
  exact (show ((0 : Nat) : Rat) ≤ (n : Rat) from Rat.natCast_le_natCast.2 (Nat.zero_le _))
 have h1 : rv false n 7 ≤ 1 := by
  rw [rv_quo, Rat.div_def]
  have h2 : ((n : Nat) : Rat) ≤ ((7 : Nat) : Rat) := Rat.natCast_le_natCast.2 hn
  have h3 := Rat.mul_le_mul_of_nonneg_right h2 (Rat.le_of_lt (Rat.inv_pos.2 hp))
  rw [Rat.mul_inv_cancel _ (fun e => by rw [e] at hp; exact absurd hp (by decide))] at h3
  exact h3
 refine ⟨?_, fun e => Rat.not_lt.2 h1 ((sgI_pos_iff _ _).1 e), QB_rv _ (by omega) (by omega)⟩
 unfold ng
 exact decide_eq_false (Int.not_lt.2 (Rat.num_nonneg.2 h0))
end Go.Proofs.YtobjjdnfgamgcaaGreat
end
