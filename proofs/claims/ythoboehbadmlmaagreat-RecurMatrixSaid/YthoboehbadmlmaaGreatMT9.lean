/- The law RecurMatrix answers true at every input: the characteristic polynomial and a polynomial of a matrix agree with the reference, errors included. (part 9 of 12) -/
import Derived.OrdersHeld
import Derived.Below
import Derived.Tactics
import Derived.KernelRfl
import Derived.RangeFuncCalls
import Derived.RangeFuncFrom
import Derived.RangeFuncLeaves
import Derived.OrdersIn
import Derived.Laws.AppendOwn
import Derived.Laws.MakeOwn
import Derived.Laws.CopyRow
import Derived.Laws.Cells
import Derived.Laws.World
import Derived.Laws.Alloc2
import Derived.Laws.NewBlocks
import Derived.Maps.AppendAt
import Derived.Test.YthoboehbadmlmaaGreatProg
import Init.Data.List.Lemmas
import Init.Omega
import Derived.WalkKit
import Derived.ProofKit
import Derived.OpenShut
import Derived.ChangeOld
import Derived.SizedLaws
import Derived.ChangeSlices
import Derived.ChangeArms
import Derived.Deep.Slices
import Derived.Test.YthoboehbadmlmaaGreatMT8
section
namespace Go.Proofs.YthoboehbadmlmaaGreat
open Go Go.RowKit
set_option linter.unusedVariables false
/-- a row is published, anywhere -/
theorem XWP.pub {Γ : Cx} {P : Program} {c : Code} {Q : Exit → XS → Prop} {t : List SV} {bx : List (List Value)} {H : Heap} {V : View} (b : Nat) (r : Row) (hr : H b = some r)
    (h : ∀ o, RowObj r o → V.le (addV V b o) → XWP Γ P c Q ⟨t, bx, upd H b none, addV V b o⟩) : XWP Γ P c Q ⟨t, bx, H, V⟩ := by
  intro bl a w hc
  obtain ⟨o, ho, h3, h4, _, h6⟩ := pub_row hc.cw hc.cs hr
  exact h o ho h6 bl a w ⟨hc.tm, hc.df, h3, h4, hc.ok⟩
/-- a row made new is none that is there -/
theorem new_ne {H : Heap} {b g : Nat} {r : Row} (hb : H b = none) (hg : H g = some r) : g ≠ b := fun e => by rw [e, hb] at hg; cases hg
def MPost (P : Program) (rs : List ResultVar) (R : Value → Heap → View → Prop) : Exit → XS → Prop
  | .normal, s | .ret, s => XPub (fun s' => ∃ vs, resAll P s' rs = some vs ∧ R (oneOf vs) s'.H s'.V) s
  | _, _ => False
/-- A contract over the caller's own rows: from (H, V) to a result and (H', V'). -/
def MSpec (P : Program) (f : FuncId) (args : List Value) (H : Heap) (V : View) (R : Value → Heap → View → Prop) : Prop :=
  ∃ fn c, P.funcs[f]? = some fn ∧ fn.body = some c ∧ ∀ Γ : Cx, Γ.Plain → XWP Γ P c (MPost P fn.results.toList R) ⟨args.map .v ++ List.replicate (fn.ntmps - args.length) (.v undef), [], H, V⟩
theorem MPost_ret {P : Program} {rs : List ResultVar} {R : Value → Heap → View → Prop} {s : XS} : MPost P rs R .ret s = XPub (fun s' => ∃ vs, resAll P s' rs = some vs ∧ R (oneOf vs) s'.H s'.V) s := rfl
theorem MPost_normal {P : Program} {rs : List ResultVar} {R : Value → Heap → View → Prop} {s : XS} : MPost P rs R .normal s = XPub (fun s' => ∃ vs, resAll P s' rs = some vs ∧ R (oneOf vs) s'.H s'.V) s := rfl
theorem MPost.mono {P : Program} {rs : List ResultVar} {R R' : Value → Heap → View → Prop} (hr : ∀ v H V, R v H V → R' v H V) {e : Exit} {s : XS} (h : MPost P rs R e s) : MPost P rs R' e s := by
  cases e with
  | normal => rw [MPost_normal] at h ⊢; exact XPub.mono h fun s' ⟨vs, h1, h2⟩ => ⟨vs, h1, hr _ _ _ h2⟩
  | ret => rw [MPost_ret] at h ⊢; exact XPub.mono h fun s' ⟨vs, h1, h2⟩ => ⟨vs, h1, hr _ _ _ h2⟩
  | _ => exact h
theorem MSpec.mono {P : Program} {f : FuncId} {args : List Value} {H : Heap} {V : View} {R R' : Value → Heap → View → Prop} (h : MSpec P f args H V R) (hr : ∀ v H V, R v H V → R' v H V) : MSpec P f args H V R' := by
  obtain ⟨fn, c, h1, h2, h3⟩ := h
  exact ⟨fn, c, h1, h2, fun Γ hΓ => (h3 Γ hΓ).mono fun e s h => h.mono hr⟩
theorem MSpec.enter {P : Program} {f : FuncId} {fn : Func} {c : Code} {args : List Value} {H : Heap} {V : View} {R : Value → Heap → View → Prop} (hf : P.funcs[f]? = some fn) (hb : fn.body = some c)
    (h : ∀ Γ : Cx, Γ.Plain → XWP Γ P c (MPost P fn.results.toList R) ⟨args.map .v ++ List.replicate (fn.ntmps - args.length) (.v undef), [], H, V⟩) : MSpec P f args H V R := ⟨fn, c, hf, hb, h⟩
theorem retM_go {P : Program} {rs : List ResultVar} {R : Value → Heap → View → Prop} {s : XS} (vs : List Value) (h : resAll P s rs = some vs) (hR : R (oneOf vs) s.H s.V) : MPost P rs R .ret s := by rw [MPost_ret]; exact XPub.now ⟨vs, h, hR⟩
theorem leave_marksK {Γ : Cx} {P : Program} {bl : Nat → Nat} {bx : List (List Value)} {H : Heap} {V : View} (hV0 : Γ.V0.sub Γ.w0) (W0 : World) {fn : Func} {R : Ending → World → Prop} {tmps : Array Value} (hs : CS Γ bl bx H V) : ∀ (ms : List Nat) (w : World), CW Γ bl bx H V w → KeepsOthers W0 w → ms.Nodup → (∀ D ∈ ms, (Γ.w0.heap.size ≤ D ∧ W0.heap.size ≤ D) ∧ w.heap[D]? = some (.deferred (some []))) →
    (∀ w', CW Γ bl bx H V w' → KeepsOthers W0 w' → ∃ v, (results fn tmps).run P w' = .ok v w' ∧ R (.returned v) w') → LeavesInM Fence.wide 0 P fn tmps R (ms.map fun D => { target := .collected D, args := #[] }) .returning w
  | [], w, h, ho, _, _, k => k w h ho
  | D :: ms, w, h, ho, hn, hD, k => by
    obtain ⟨⟨h1, h1'⟩, h2⟩ := hD D (by simp)
    obtain ⟨n1, n2⟩ := List.nodup_cons.1 hn
    refine ⟨by simp, .inl ⟨D, _, rfl, run_takeDeferred h2, leave_marksK hV0 W0 hs ms _ (h.turn hV0 hs h2 rfl h1 _) (others_put ho h1' _) n2 (fun E hE => ?_) k⟩⟩
    obtain ⟨h3, h4⟩ := hD E (by simp [hE])
    exact ⟨h3, (World.putObj_heap_other (fun e => n1 (by rw [← e]; exact hE))).trans h4⟩
/-- The call, in the world. -/
theorem MSpec.calls {P : Program} {f : FuncId} {args : List Value} {H : Heap} {V : View} {R : Value → Heap → View → Prop} (h : MSpec P f args H V R) {Γ : Cx} (hV0 : Γ.V0.sub Γ.w0) {bl : Nat → Nat} {w : World} (hw : CW Γ bl [] H V w) (hs : CS Γ bl [] H V) :
    Calls P f args.toArray w fun e w' => ∃ v H' V', e = .returned v ∧ CW Γ bl [] H' V' w' ∧ CS Γ bl [] H' V' ∧ KeepsOthers w w' ∧ R v H' V' := by
  obtain ⟨fn, c, hf, hb, h⟩ := h
  refine (callsIn_wide (n := 0)).1 (callsIn_of_wp_marks hf hb trivial ?_)
  have hc : Conc ⟨Γ.w0, Γ.V0, w, none⟩ bl ⟨args.map .v ++ List.replicate (fn.ntmps - args.length) (.v undef), [], H, V⟩ { tmps := args.toArray ++ Array.replicate (fn.ntmps - args.toArray.size) undef, defers := [] } w := by
    refine ⟨?_, ⟨⟨[], rfl, List.nodup_nil, fun D hD => by simp at hD⟩, KeepsOthers.refl _⟩, hw.cx rfl, hs.cx rfl rfl, fun x hx => ?_⟩
    · have e1 : (SV.conc bl) ∘ SV.v = id := rfl
      have e2 : (SV.conc bl (SV.v undef)) = undef := rfl
      simp [List.map_append, List.map_map, List.map_replicate, e1, e2]
    · simp only [List.mem_append, List.mem_map, List.mem_replicate] at hx
      rcases hx with ⟨_, _, rfl⟩ | ⟨_, rfl⟩ <;> trivial
  refine wpIn_mono (h ⟨Γ.w0, Γ.V0, w, none⟩ ⟨rfl, hV0⟩ bl _ w hc) ?_
  have fin : ∀ bl1 s a w', Conc ⟨Γ.w0, Γ.V0, w, none⟩ bl1 s a w' → MPost P fn.results.toList R .ret s → LeavesInM Fence.wide 0 P fn a.tmps (fun e w' => ∃ v H' V', e = .returned v ∧ CW Γ bl [] H' V' w' ∧ CS Γ bl [] H' V' ∧ KeepsOthers w w' ∧ R v H' V') a.defers .returning w' := by
    intro bl1 s a w' hC hR
    obtain ⟨H', V', h1, h2, _, _, vs, hvs, hR⟩ := hR ⟨Γ.w0, Γ.V0, w, none⟩ bl1 w' hC.cw hC.cs
    obtain ⟨⟨ms, e1, e2, e3⟩, e4⟩ := hC.df
    rw [e1]
    refine leave_marksK (Γ := ⟨Γ.w0, Γ.V0, w, none⟩) hV0 w h2 ms w' h1 e4 e2 (fun D hD => ⟨⟨Nat.le_trans (Cx.base_ge _) (e3 D hD).1, Nat.le_trans (Cx.base_w1 ⟨Γ.w0, Γ.V0, w, none⟩ rfl) (e3 D hD).1⟩, (e3 D hD).2⟩) fun w'' h3 h4 => ⟨_, ?_, _, H', V', rfl, (h3.cx (Γ' := Γ) rfl).nobox, (h2.cx (Γ' := Γ) rfl rfl).nobox, h4, hR⟩
    exact results_run (Γ := ⟨Γ.w0, Γ.V0, w, none⟩) (a := { tmps := a.tmps, defers := [] }) (s := ⟨s.t, s.bx, H', V'⟩) ⟨hC.tm, ⟨⟨[], rfl, List.nodup_nil, fun D hD => by simp at hD⟩, h4⟩, h3, h2, hC.ok⟩ vs hvs
  rintro e a w' ⟨bl1, s, hC, hq⟩
  cases e with
  | normal => exact fin bl1 s a w' hC hq
  | ret => exact fin bl1 s a w' hC hq
  | _ => exact hq.elim

section
variable {Γ : Cx} {P : Program} {ops : Array Oper} {Q : Exit → XS → Prop}
end
end Go.Proofs.YthoboehbadmlmaaGreat
end
section
namespace Go.Proofs.YthoboehbadmlmaaGreat
open Go Go.RowKit
set_option linter.unusedSimpArgs false
set_option linter.unusedVariables false
attribute [local irreducible] XWP Spec SpecO XPub XCall seqX clX apX stX ldX iaX slX
section
variable {α : Type} {E : El α}
end
theorem flat_one {n : Nat} (u : Value) : (List.replicate n [u]).flatten = List.replicate n u := by
  induction n with
  | zero => rfl
  | succ n ih => rw [List.replicate_succ, List.flatten_cons, ih, List.replicate_succ]; rfl
end Go.Proofs.YthoboehbadmlmaaGreat
end
section
namespace Go.Proofs.YthoboehbadmlmaaGreat
set_option linter.unusedVariables false
def LinG (G : Grid) (R n : Nat) (r x : Nat → Rat) : Prop := ∀ i, i < R → Sm (fun j => G i j * x j) n = r i
/-- fewer equations than unknowns -/
theorem few_eqs : ∀ (n R : Nat) (G : Grid), R < n → ∃ x : Nat → Rat, (∃ j, j < n ∧ x j ≠ 0) ∧ LinG G R n (fun _ => 0) x
  | 0, R, G, h => by omega
  | n + 1, R, G, h => by
    by_cases hz : ∀ i, i < R → G i n = 0
    · refine ⟨fun j => if j = n then 1 else 0, ⟨n, by omega, by dsimp only; rw [if_pos rfl]; decide⟩, fun i hi => ?_⟩
      refine Sm_zero _ fun j hj => ?_
      by_cases e : j = n
      · rw [e, hz i hi]; grind
      · dsimp only; rw [if_neg e]; grind
    · obtain ⟨p, hp⟩ := Classical.not_forall.1 hz
      obtain ⟨hpR, hd⟩ := Classical.not_imp.1 hp
      obtain ⟨s, hs⟩ : ∃ s : Nat → Nat, s = fun i => if i < p then i else i + 1 := ⟨_, rfl⟩
      obtain ⟨x, ⟨j0, hj0, hx0⟩, hx⟩ := few_eqs n (R - 1) (fun i j => G (s i) j - (G (s i) n / G p n) * G p j) (by omega)
      obtain ⟨S, hS⟩ : ∃ S, S = Sm (fun j => G p j * x j) n := ⟨_, rfl⟩
      refine ⟨fun j => if j = n then -(S / G p n) else x j, ⟨j0, by omega, by dsimp only; rw [if_neg (by omega)]; exact hx0⟩, fun i hi => ?_⟩
      have hsum : ∀ i, Sm (fun j => G i j * (if j = n then -(S / G p n) else x j)) (n + 1) = Sm (fun j => G i j * x j) n + G i n * -(S / G p n) := fun i => by
        rw [Sm, if_pos rfl]
        congr 1
        exact Sm_congr _ fun j hj => by rw [if_neg (by omega)]
      rw [hsum]
      by_cases e : i = p
      · rw [e, ← hS, Rat.mul_comm, Rat.neg_mul, Rat.div_mul_cancel hd]; grind
      · have hi' : ∃ k, k < R - 1 ∧ s k = i := by
          by_cases h1 : i < p
          · exact ⟨i, by omega, by rw [hs]; dsimp only; rw [if_pos h1]⟩
          · exact ⟨i - 1, by omega, by rw [hs]; dsimp only; rw [if_neg (by omega)]; omega⟩
        obtain ⟨k, hk, rfl⟩ := hi'
        have h1 := hx k hk
        dsimp only at h1
        rw [Sm_lin, ← hS] at h1
        rw [Rat.div_def] at h1 ⊢
        grind
end Go.Proofs.YthoboehbadmlmaaGreat
end
section
namespace Go.Proofs.YthoboehbadmlmaaGreat
set_option linter.unusedVariables false
theorem Sm_sub (f g : Nat → Rat) (n : Nat) : Sm (fun j => f j - g j) n = Sm f n - Sm g n := by
  induction n with
  | zero => simp only [Sm]; grind
  | succ n ih => simp only [Sm, ih]; grind
theorem Sm_swap (f : Nat → Nat → Rat) (n m : Nat) : Sm (fun i => Sm (f i) m) n = Sm (fun j => Sm (fun i => f i j) n) m := by
  induction n with
  | zero => simp only [Sm]; exact (Sm_zero m fun j _ => rfl).symm
  | succ n ih => simp only [Sm, ih, Sm_add]
end Go.Proofs.YthoboehbadmlmaaGreat
end
section
namespace Go.Proofs.YthoboehbadmlmaaGreat
set_option linter.unusedVariables false
end Go.Proofs.YthoboehbadmlmaaGreat
end
section
namespace Go.Proofs.YthoboehbadmlmaaGreat
open Go Go.RowKit
set_option linter.unusedSimpArgs false
set_option linter.unusedVariables false
attribute [local irreducible] XWP Spec SpecO XPub XCall seqX clX apX stX ldX iaX slX
/-- a grid, row by row -/
def flatF (G : Grid) (C : Nat) (p : Nat) : Rat := G (p / C) (p % C)
def flatG (G : Grid) (R C : Nat) : List Rat := mk (R * C) (flatF G C)
theorem flatF_at (G : Grid) {C i k : Nat} (hk : k < C) : flatF G C (i * C + k) = G i k := by
  unfold flatF
  have e1 : (i * C + k) / C = i := by rw [Nat.mul_comm, Nat.mul_add_div (by omega), Nat.div_eq_of_lt hk, Nat.add_zero]
  have e2 : (i * C + k) % C = k := by rw [Nat.mul_comm, Nat.mul_add_mod, Nat.mod_eq_of_lt hk]
  rw [e1, e2]
theorem flatG_len (G : Grid) (R C : Nat) : (flatG G R C).length = R * C := mk_len _ _
theorem pos_lt {R C i k : Nat} (hi : i < R) (hk : k < C) : i * C + k < R * C := by
  have := Nat.mul_le_mul_right C (show i + 1 ≤ R by omega)
  rw [Nat.add_mul, Nat.one_mul] at this; omega
theorem flatG_at (G : Grid) {R C i k : Nat} (hi : i < R) (hk : k < C) : cf (flatG G R C) (i * C + k) = G i k := by
  unfold flatG
  rw [cf_mk, if_pos (pos_lt hi hk), flatF_at G hk]
theorem flatG_congr {G G' : Grid} {R C : Nat} (h : ∀ i k, i < R → k < C → G i k = G' i k) : flatG G R C = flatG G' R C := by
  unfold flatG
  refine mk_eq fun p hp => ?_
  have hC : 0 < C := by
    rcases Nat.eq_zero_or_pos C with e | e
    · rw [e, Nat.mul_zero] at hp; omega
    · exact e
  exact h _ _ (by rw [Nat.div_lt_iff_lt_mul hC]; exact hp) (Nat.mod_lt _ hC)
/-- a list, read as a grid -/
def gridL (l : List Rat) (C : Nat) : Grid := fun i k => cf l (i * C + k)
theorem flatG_gridL {l : List Rat} {R C : Nat} (h : l.length = R * C) : flatG (gridL l C) R C = l := by
  refine List.ext_getElem (by rw [flatG_len, h]) fun p h1 h2 => ?_
  rw [cf_get h1, cf_get h2]
  have hC : 0 < C := by
    rcases Nat.eq_zero_or_pos C with e | e
    · rw [e, Nat.mul_zero] at h; omega
    · exact e
  unfold flatG
  rw [cf_mk, if_pos (by omega)]
  unfold flatF gridL
  rw [Nat.mul_comm, Nat.div_add_mod]
section
variable {Γ : Cx} {P : Program} {Q : Exit → XS → Prop} {t : List SV} {bx : List (List Value)} {H : Heap} {V : View}
/-- an own list of digits is published -/
theorem XWP.pubN {c : Code} {e n : Nat} {v : Value} {ds : List Nat} (hown : Own H e 1 v n (u32s ds)) (hd : Dig ds) (h : ∀ H' V', V.le V' → NatAt V' v ds → (∀ k, v.ownBlock ≠ some k → H' k = H k) → XWP Γ P c Q ⟨t, bx, H', V'⟩) : XWP Γ P c Q ⟨t, bx, H, V⟩ := by
  have hl : ds.length = n := by have := hown.1; simpa [u32s] using this
  rcases own_parts hown with ⟨rfl, h0, _⟩ | ⟨g, cap, rfl, hg, hle, hcap, _⟩
  · refine h H V (View.le_refl _) ?_ fun _ _ => rfl
    rw [List.length_eq_zero_iff.1 (show ds.length = 0 by omega)]; exact NatAt.nil V
  · refine XWP.pub g _ hg fun o ho hle' => h _ _ hle' (NatAt.pub ho hd hl hle (by unfold maxLen at hcap; omega)) fun k hk => ?_
    unfold upd
    rw [if_neg fun e => hk (by rw [e]; rfl)]
/-- an own list of fractions is published -/
theorem XWP.pubR {α : Type} {E : El α} (hE : ElOk E) {c : Code} {e n : Nat} {v : Value} {cells : List Value} {l : List α} (hown : Own H e 3 v n cells) (hrow : RowAt E V cells l) (h : ∀ H' V', V.le V' → SlAt E V' v l → (∀ k, v.ownBlock ≠ some k → H' k = H k) → XWP Γ P c Q ⟨t, bx, H', V'⟩) : XWP Γ P c Q ⟨t, bx, H, V⟩ := by
  have h1 := hown.1
  have h2 := hrow.1
  have hl : l.length = n := by omega
  rcases own_parts hown with ⟨rfl, h0, _⟩ | ⟨g, cap, rfl, hg, hle, hcap, _⟩
  · refine h H V (View.le_refl _) ?_ fun _ _ => rfl
    rw [List.length_eq_zero_iff.1 (show l.length = 0 by omega)]; exact SlAt.nil V
  · refine XWP.pub g _ hg fun o ho hle' => h _ _ hle' (hrow.pub hE ho hle' hl hle (by unfold maxLen at hcap; omega)) fun k hk => ?_
    unfold upd
    rw [if_neg fun e => hk (by rw [e]; rfl)]
variable {ops : Array Oper} {rest : List Oper} {K : XS → Prop} {s : XS} {d : Option Tmp}
/-- a call of a function value with captures -/
theorem call_gob {f : FuncId} {ys lb : List Value} {R : Value → View → Prop} (hc : callable P f = true) (hs : Spec P f (ys ++ lb) s.V R)
    (h : ∀ v V', s.V.le V' → R v V' → seqX P ops rest K (XS.put ⟨s.t, s.bx, s.H, V'⟩ d (.v v))) : clX P ops rest K s d f (ys.map .v ++ lb.map .v) := by
  have e1 : ((ys.map SV.v ++ lb.map SV.v).all SV.isV) = true := by
    rw [← List.map_append, List.all_map]; exact List.all_eq_true.2 fun _ _ => rfl
  have e2 : (ys.map SV.v ++ lb.map SV.v).map SV.val = ys ++ lb := by
    rw [← List.map_append, List.map_map]; exact List.map_id' _
  exact call_go hc e1 (by rw [e2]; exact hs) h
end
theorem copied_c (V : View) (v : Value) (q : Rat) (h : RatC V v q) (f : QF q) : Spec Tryz.prog 162 [v] V fun v' V' => RatC V' v' q := by
  obtain ⟨n, d, rfl, hn, hd⟩ := h
  obtain ⟨A1, c1, rfl, hc1, hm1⟩ := NatAt.form hn
  obtain ⟨A2, c2, rfl, hc2, hm2⟩ := NatAt.form hd
  have l1 := f.fits.1.len
  have l2 := f.fits.2.len
  refine (Spec.enter Tryz.func162 rfl fun Γ => ?_)
  simp only [Tryz.ntmps162, List.map_cons, List.map_nil, List.length_cons, List.length_nil, Nat.reduceAdd, Nat.reduceSub, List.replicate_succ, List.replicate_zero, List.cons_append, List.nil_append]
  refine Gx.a (by kernel_rfl) fun K hK => ?_
  simp only [XA, XB]
  refine hK _ ?_
  (refine XWP.drw [0, 1, 2, 3, 5, 6, 4, 7, 8, 9] (by kernel_rfl) (by kernel_rfl) (by kernel_rfl) fun K hK => ?_) <;> dsimp only [pickOps, List.getElem?_cons_zero, List.getElem?_cons_succ]
  simp only [XA, XB]
  refine ap_go elemT_46 (by kernel_rfl) zeroT_147 rfl (by omega) (n := 0) (xs := []) own_nil (src_nat hn _) (by omega) (by omega) fun v1 H1 r1 => ?_
  simp only [XA]
  refine ap_go elemT_46 (by kernel_rfl) zeroT_147 rfl (by omega) (n := 0) (xs := []) own_nil (src_nat hd _) (by omega) (by omega) fun v2 H2 r2 => ?_
  obtain ⟨o1, k1, f1⟩ := r1
  obtain ⟨o2, k2, f2⟩ := r2
  simp only [List.nil_append, Nat.zero_add] at o1 o2
  try dsimp only at k1 f1 k2 f2
  have i1 := own_one o1
  have i2 := own_one o2
  have o1' : Own H2 147 1 v1 (dg q.num.natAbs).length (u32s (dg q.num.natAbs)) := by
    refine ⟨o1.1, ?_⟩
    rcases o1.2 with h | ⟨b, cap, rfl, hb, h3⟩
    · exact .inl h
    · refine .inr ⟨b, cap, rfl, ?_, h3⟩
      rw [k2 b fun e => ?_]
      · exact hb
      · rcases f2 b e with h | ⟨h, _⟩
        · cases h
        · rw [hb] at h; cases h
  have dj : ∀ k, v1.ownBlock = some k → v2.ownBlock ≠ some k := fun k e1 e2 => by
    rcases f2 k e2 with h | ⟨h, _⟩
    · cases h
    · rcases o1.2 with ⟨rfl, _⟩ | ⟨b, cap, rfl, hb, _⟩
      · cases e1
      · have : b = k := by simpa [Value.ownBlock] using e1
        subst this; rw [hb] at h; cases h
  simp only [XA]
  refine bd_go (by kernel_rfl) #[(0, .bool (ng q)), (1, v1), (2, v2)] (by simp [ev_tmp, SV.val]) (bd_rat3 rfl i1 i2) ?_
  simp only [XA]
  refine st_rat rfl rfl rfl i1 i2 ?_
  simp only [XA]
  refine hK _ ?_
  refine XWP.pubN o1' (Dig_dg _) fun H3 V3 hV3 g1 hk3 => ?_
  have o2' : Own H3 147 1 v2 (dg q.den).length (u32s (dg q.den)) := by
    refine ⟨o2.1, ?_⟩
    rcases o2.2 with h | ⟨b, cap, rfl, hb, h3⟩
    · exact .inl h
    · exact .inr ⟨b, cap, rfl, by rw [hk3 b fun e => dj b e rfl]; exact hb, h3⟩
  refine XWP.pubN o2' (Dig_dg _) fun H4 V4 hV4 g2 hk4 => ?_
  refine XWP.ret ?_
  try simp only [thenX_ret, inBlockX_ret]
  exact ret_rat1 rfl rfl rfl ⟨_, _, rfl, NatAt.mono g1 hV4, g2⟩
/-- a filled matrix: its row is the caller's -/
theorem filled_o (V : View) {g : FuncId} {lb : List Value} (R C : Nat) (G : Grid) (hcl : callable Tryz.prog g = true) (hR : R ≤ 1000) (hC : C ≤ 1000)
    (hf : ∀ V' i k, V.le V' → i < R → k < C → Spec Tryz.prog g ([.int .i64 (i : Int), .int .i64 (k : Int)] ++ lb) V' fun v' V'' => RatC V'' v' (G i k)) :
    SpecO Tryz.prog 87 [.int .i64 (R : Int), .int .i64 (C : Int), .func (.func g) #[] lb.toArray] V fun v' V' o => ∃ sl cells, v' = .agg #[.int .i64 (R : Int), .int .i64 (C : Int), sl] ∧ Own (addRow (fun _ => none) o) 48 3 sl (R * C) cells ∧ RowAt ratE V' cells (flatG G R C) := by
  have hRC : R * C ≤ 1000000 := Nat.le_trans (Nat.mul_le_mul hR hC) (by decide)
  refine (SpecO.enter Tryz.func87 rfl fun Γ => ?_)
  simp only [Tryz.ntmps87, List.map_cons, List.map_nil, List.length_cons, List.length_nil, Nat.reduceAdd, Nat.reduceSub, List.replicate_succ, List.replicate_zero, List.cons_append, List.nil_append]
  refine Gx.a (by kernel_rfl) fun K hK => ?_
  simp only [XM, XA]
  refine hK _ ?_
  refine Gx.a (by kernel_rfl) fun K hK => ?_
  simp only [XA]
  refine bd_go (by kernel_rfl) #[(0, .int .i64 (R : Int)), (1, .int .i64 (C : Int))] (by simp [ev_tmp, SV.val]) (bd_mtx2 rfl rfl) ?_
  simp only [XM, XA]
  refine st_mat shapeT_24 rfl rfl rfl rfl rfl ?_
  simp only [XA]
  refine hK _ ?_
  clear hK
  refine XWP.cut (fun s => ∃ (V2 : View) (H5 : Heap) (sl : Value) (cells : List Value), StIs (fun Z => [Z 0,Z 1,Z 2,Z 3,Z 4,Z 5, .p 0 0, .p 1 0, Z 8,Z 9,Z 10,Z 11,Z 12,Z 13,Z 14,Z 15,Z 16,Z 17,Z 18,Z 19,Z 20,Z 21,Z 22,Z 23,Z 24,Z 25,Z 26,Z 27,Z 28,Z 29,Z 30,Z 31,Z 32]) [[.int .i64 0, .int .i64 0, .slice none 0 0], [.int .i64 (R : Int), .int .i64 (C : Int), sl]] H5 V2 s ∧ Own H5 48 3 sl (R * C) cells ∧ RowAt ratE V2 cells (flatG G R C)) ?_ ?_
  · refine Gx.a (by kernel_rfl) fun K hK => ?_
    simp only [XA]
    refine hK _ ?_
    clear hK
    refine XWP.block ?_
    refine XWP.loop (fun q s => ∃ (i : Nat) (V2 : View) (H5 : Heap) (sl : Value) (cells : List Value), StIs (fun Z => [.v (.int .i64 (R : Int)), .v (.int .i64 (C : Int)), .v (.func (.func g) #[] lb.toArray), Z 3,Z 4,Z 5, .p 0 0, .p 1 0, Z 8,Z 9,Z 10,Z 11,Z 12, .v (.int .i64 (R : Int)), .v (.int .i64 (i : Int)), Z 15,Z 16,Z 17,Z 18,Z 19,Z 20,Z 21,Z 22,Z 23,Z 24,Z 25,Z 26,Z 27,Z 28,Z 29,Z 30,Z 31,Z 32]) [[.int .i64 0, .int .i64 0, .slice none 0 0], [.int .i64 (R : Int), .int .i64 (C : Int), sl]] H5 V2 s ∧ q + i = R ∧ V.le V2 ∧ Own H5 48 3 sl (i * C) cells ∧ RowAt ratE V2 cells (mk (i * C) (flatF G C))) R ⟨0, V, _, _, [], StIs.of (by exact rfl), by omega, View.le_refl _, by rw [Nat.zero_mul]; exact own_nil, by rw [Nat.zero_mul]; exact RowAt.nil _⟩ ?_
    rintro q s ⟨i, V2, H5, sl, cells, hs, hq, hV2, hown, hrow⟩
    obtain ⟨z, rfl⟩ := hs.out
    try dsimp only
    clear hs
    by_cases hi : i < R
    rotate_left
    · obtain rfl : i = R := by omega
      have b1 : decide ((i : Int) < (i : Int)) = false := decide_eq_false (by omega)
      refine Gx.a (by kernel_rfl) fun K hK => ?_
      simp only [XA, XB, b1]
      refine hK _ ?_
      refine XWP.seq (Gx.f rfl ?_)
      refine XWP.exit ?_
      exact ⟨V2, H5, sl, cells, StIs.of (by exact rfl), hown, hrow⟩
    have b1 : decide ((i : Int) < (R : Int)) = true := decide_eq_true (by omega)
    refine Gx.a (by kernel_rfl) fun K hK => ?_
    simp only [XA, XB, b1]
    refine hK _ ?_
    refine XWP.seq (Gx.t rfl ?_)
    refine XWP.skip ?_
    refine XWP.cut (fun s => ∃ (V3 : View) (H6 : Heap) (sl : Value) (cells : List Value), StIs (fun Z => [.v (.int .i64 (R : Int)), .v (.int .i64 (C : Int)), .v (.func (.func g) #[] lb.toArray), Z 3,Z 4,Z 5, .p 0 0, .p 1 0, Z 8,Z 9,Z 10,Z 11,Z 12, .v (.int .i64 (R : Int)), .v (.int .i64 (i : Int)), Z 15,Z 16,Z 17,Z 18,Z 19,Z 20,Z 21,Z 22,Z 23,Z 24,Z 25,Z 26,Z 27,Z 28,Z 29,Z 30,Z 31,Z 32]) [[.int .i64 0, .int .i64 0, .slice none 0 0], [.int .i64 (R : Int), .int .i64 (C : Int), sl]] H6 V3 s ∧ V2.le V3 ∧ Own H6 48 3 sl ((i + 1) * C) cells ∧ RowAt ratE V3 cells (mk ((i + 1) * C) (flatF G C))) ?_ ?_
    · refine XWP.block ?_
      refine Gx.a (by kernel_rfl) fun K hK => ?_
      simp only [XA]
      refine hK _ ?_
      refine Gx.a (by kernel_rfl) fun K hK => ?_
      simp only [XA]
      refine hK _ ?_
      clear hK
      refine XWP.block ?_
      refine XWP.loop (fun r s => ∃ (k : Nat) (V3 : View) (H6 : Heap) (sl : Value) (cells : List Value), StIs (fun Z => [.v (.int .i64 (R : Int)), .v (.int .i64 (C : Int)), .v (.func (.func g) #[] lb.toArray), Z 3,Z 4,Z 5, .p 0 0, .p 1 0, .v (.int .i64 (i : Int)), Z 9,Z 10,Z 11,Z 12, .v (.int .i64 (R : Int)), .v (.int .i64 (i : Int)), Z 15,Z 16, .v (.int .i64 (C : Int)), .v (.int .i64 (k : Int)), Z 19,Z 20,Z 21,Z 22,Z 23,Z 24,Z 25,Z 26,Z 27,Z 28,Z 29,Z 30,Z 31,Z 32]) [[.int .i64 0, .int .i64 0, .slice none 0 0], [.int .i64 (R : Int), .int .i64 (C : Int), sl]] H6 V3 s ∧ r + k = C ∧ V2.le V3 ∧ Own H6 48 3 sl (i * C + k) cells ∧ RowAt ratE V3 cells (mk (i * C + k) (flatF G C))) C ⟨0, V2, _, _, _, StIs.of (by exact rfl), by omega, View.le_refl _, hown, hrow⟩ ?_
      clear hown hrow
      rintro r s ⟨k, V3, H6, sl, cells, hs, hr, hV3, hown, hrow⟩
      obtain ⟨z, rfl⟩ := hs.out
      try dsimp only
      clear hs
      by_cases hk : k < C
      rotate_left
      · obtain rfl : k = C := by omega
        have b2 : decide ((k : Int) < (k : Int)) = false := decide_eq_false (by omega)
        refine Gx.a (by kernel_rfl) fun K hK => ?_
        simp only [XA, XB, b2]
        refine hK _ ?_
        refine XWP.seq (Gx.f rfl ?_)
        refine XWP.exit ?_
        have e : (i + 1) * k = i * k + k := by rw [Nat.add_mul, Nat.one_mul]
        exact ⟨V3, H6, sl, cells, StIs.of (by exact rfl), hV3, by rw [e]; exact hown, by rw [e]; exact hrow⟩
      have b2 : decide ((k : Int) < (C : Int)) = true := decide_eq_true (by omega)
      have hp := pos_lt hi hk
      refine Gx.a (by kernel_rfl) fun K hK => ?_
      simp only [XA, XB, b2]
      refine hK _ ?_
      refine XWP.seq (Gx.t rfl ?_)
      refine XWP.skip ?_
      refine XWP.seq ?_
      refine XWP.block ?_
      refine Gx.a (by kernel_rfl) fun K hK => ?_
      simp only [XA]
      refine hK _ ?_
      (refine XWP.drw1 [0, 1, 2, 3, 4, 5, 6, 7, 8, 9] (by kernel_rfl) (by kernel_rfl) (by kernel_rfl) fun K hK => ?_) <;> dsimp only [pickOps, List.getElem?_cons_zero, List.getElem?_cons_succ]
      simp only [XM, XA, XB, cv_gob]
      refine call_gob (ys := [.int .i64 (i : Int), .int .i64 (k : Int)]) hcl (hf _ i k (View.le_trans hV2 hV3) hi hk) fun v4 V4 hV4 h4 => ?_
      obtain ⟨x4, y4, rfl, o1, o2⟩ := h4.form
      simp only [XA]
      refine bs_go (by kernel_rfl) #[(0, .agg #[.bool (ng (G i k)), x4, y4])] (by simp [ev_tmp, SV.val]) (bs_rat elemT_22) fun b3 hb3 hb4 => ?_
      simp only [XA, Nat.reduceAdd]
      refine ap_go elemT_22 (by kernel_rfl) zeroT_48 rfl (by omega) (own_upd hown hb3) (src3 (upd_at _ _ _) rfl o1 o2) (by omega) (by omega) fun v' H' hres => ?_
      simp only [XM, XA]
      refine st_one shapeT_22 rfl (own_isOne hres.1) (by simp) ?_
      simp only [XA]
      refine hK _ ?_
      have hrow' := (hrow.mono ratE_ok hV4).snoc (show isOne (.bool (ng (G i k))) = true from rfl) o1 o2 h4
      rw [← flatF_at G hk, ← mk_succ (i * C + k) (flatF G C)] at hrow'
      rw [← flatF_at G hk] at hres
      refine Gx.c (by kernel_rfl) fun K hK => ?_
      simp only [XA, XB, i64_succ k (by omega)]
      exact hK _ ⟨r - 1, by omega, k + 1, V4, _, _, _, StIs.of (by exact rfl), by omega, View.le_trans hV3 hV4, by rw [← Nat.add_assoc]; exact hres.1, by rw [← Nat.add_assoc]; exact hrow'⟩
    clear hown hrow
    rintro s ⟨V3, H6, sl, cells, hs, hV3, hown, hrow⟩
    obtain ⟨z, rfl⟩ := hs.out
    try dsimp only
    refine Gx.c (by kernel_rfl) fun K hK => ?_
    simp only [XA, XB, i64_succ i (by omega)]
    exact hK _ ⟨q - 1, by omega, i + 1, V3, _, _, _, StIs.of (by exact rfl), by omega, View.le_trans hV2 hV3, hown, hrow⟩
  rintro s ⟨V2, H5, sl, cells, hs, hown, hrow⟩
  obtain ⟨z, rfl⟩ := hs.out
  try dsimp only
  have osl := own_isOne hown
  refine Gx.a (by kernel_rfl) fun K hK => ?_
  simp only [XM, XA, Nat.reduceAdd, Nat.reduceLeDiff, ↓reduceIte]
  refine st_mat shapeT_24 rfl rfl rfl rfl osl ?_
  simp only [XA]
  refine hK _ (XWP.ret ?_)
  try simp only [thenX_ret, inBlockX_ret]
  rcases own_parts hown with ⟨rfl, h0, rfl⟩ | ⟨g, cap, rfl, hg, hle, hcap, hcl⟩
  · refine ret_own _ none (by simp [resAll, resV, cellsV, shapeT_24]; rfl) (fun g' q e => by cases e) ⟨_, [], rfl, ⟨by rw [h0]; rfl, .inl ⟨rfl, h0⟩⟩, hrow⟩
  · refine ret_own _ (some (g, _)) (by simp [resAll, resV, cellsV, shapeT_24]; rfl) (fun g' q e => by cases e; exact hg) ⟨_, cells, rfl, own3 (show upd (fun _ => none) g (some _) g = some _ from upd_at _ _ _) hcl hle (by unfold maxLen at hcap; omega), hrow⟩
end Go.Proofs.YthoboehbadmlmaaGreat
end
section
namespace Go.Proofs.YthoboehbadmlmaaGreat
open Go Go.RowKit
set_option linter.unusedSimpArgs false
set_option linter.unusedVariables false
attribute [local irreducible] XWP Spec SpecO XPub XCall seqX clX apX stX ldX iaX slX
theorem dg_nil {a : Nat} (h : (dg a).length = 0) : a = 0 := by
  have := len_zero a
  rw [decide_eq_true (by omega)] at this
  exact of_decide_eq_true this.symm
theorem dg_of_zero {q : Rat} (h : q = 0) : decide ((0 : Int) < ((dg q.num.natAbs).length : Int)) = false := by
  subst h
  show decide ((0 : Int) < ((dg 0).length : Int)) = false
  rw [dg_zero]; rfl
theorem wr_mul {i C : Nat} (hi : i ≤ 1000) (hC : C ≤ 1000) : IntKind.i64.wrap ((i : Int) * (C : Int)) = ((i * C : Nat) : Int) := by
  have := Nat.mul_le_mul hi hC
  rw [← Int.natCast_mul, wrap_id (by omega) (by omega)]
theorem wr_add {p k : Nat} (hp : p ≤ 1000000) (hk : k ≤ 1000000) : IntKind.i64.wrap ((p : Int) + (k : Int)) = ((p + k : Nat) : Int) := by rw [wrap_id (by omega) (by omega)]; omega
end Go.Proofs.YthoboehbadmlmaaGreat
end
section
namespace Go.Proofs.YthoboehbadmlmaaGreat
open Go Go.RowKit
set_option linter.unusedSimpArgs false
set_option linter.unusedVariables false
attribute [local irreducible] XWP Spec SpecO XPub XCall seqX clX apX stX ldX iaX slX
end Go.Proofs.YthoboehbadmlmaaGreat
end
section
namespace Go.Proofs.YthoboehbadmlmaaGreat
open Go Go.RowKit
set_option linter.unusedSimpArgs false
set_option linter.unusedVariables false
attribute [local irreducible] XWP Spec SpecO XPub XCall seqX clX apX stX ldX iaX slX
theorem row_obj {e : TypeId} {vs : List Value} {o : Obj} (h : RowObj ⟨e, vs, vs.length⟩ o) : o = .cells vs.toArray e (0, 0) := by
  obtain ⟨ex, rfl, hl⟩ := h
  have : ex = [] := List.length_eq_zero_iff.1 (by simpa using hl)
  rw [this, List.append_nil]
theorem ldV1 {V : View} {b e : Nat} {vs : List Value} {fr} (h : V b = some (.cells vs.toArray e fr)) {off t m : Nat} {u : Value} (hu : vs[off]? = some u) (ht : shapeT Tryz.prog t = some (false, m)) (H : Heap) : Loads Tryz.prog H V t b off u :=
  ⟨false, m, ht, .inr ⟨rfl, .inr ⟨_, e, fr, h, by rw [List.getElem?_toArray]; exact hu⟩⟩⟩
theorem ldV3 {V : View} {b e : Nat} {x y z : Value} {fr} (h : V b = some (.cells [x, y, z].toArray e fr)) {t : Nat} (ht : shapeT Tryz.prog t = some (true, 3)) (H : Heap) : Loads Tryz.prog H V t b 0 (.agg #[x, y, z]) := by
  refine ⟨true, 3, ht, .inl ⟨rfl, [x, y, z], rfl, fun j u hj => ?_, rfl⟩⟩
  exact .inr ⟨_, e, fr, h, by rw [List.getElem?_toArray, Nat.zero_add]; exact hj⟩
theorem addV_at (V : View) (b : Nat) (o : Obj) : addV V b o b = some o := by unfold addV; rw [if_pos rfl]
end Go.Proofs.YthoboehbadmlmaaGreat
end
section
namespace Go.Proofs.YthoboehbadmlmaaGreat
open Go Go.RowKit
set_option linter.unusedSimpArgs false
set_option linter.unusedVariables false
attribute [local irreducible] XWP Spec SpecO XPub XCall seqX clX apX stX ldX iaX slX
end Go.Proofs.YthoboehbadmlmaaGreat
end
section
namespace Go.Proofs.YthoboehbadmlmaaGreat
open Go Go.RowKit
set_option linter.unusedSimpArgs false
set_option linter.unusedVariables false
attribute [local irreducible] XWP Spec SpecO XPub XCall seqX clX apX stX ldX iaX slX
/-- rows in memory, each with a block of its own; those before k are made -/
structure RowsK (H : Heap) (V : View) (R k : Nat) (mm : Nat → Nat) (G : Grid) (cells : List Value) : Prop where
  len : cells.length = R
  row : ∀ i, i < k → ∃ b c cs, cells[i]? = some (.slice (some ⟨b, 0, none⟩) (mm i) c) ∧ H b = some ⟨48, cs, c * 3⟩ ∧ RowAt ratE V cs (mk (mm i) (G i)) ∧ mm i ≤ c ∧ c ≤ maxLen
  inj : ∀ (i j b m c m' c' : Nat), i < k → j < k → cells[i]? = some (Value.slice (some ⟨b, 0, none⟩) m c) → cells[j]? = some (Value.slice (some ⟨b, 0, none⟩) m' c') → i = j
/-- a row is put in place -/
theorem RowsK.put {H H' : Heap} {V : View} {R k i : Nat} {mm : Nat → Nat} {G : Grid} {cells cs : List Value} {b c : Nat} {m : Nat} {f : Nat → Rat} (h : RowsK H V R k mm G cells) (hi : i < R) (hik : i ≤ k)
    (hb : H' b = some ⟨48, cs, c * 3⟩) (hr : RowAt ratE V cs (Go.Proofs.YthoboehbadmlmaaGreat.mk m f)) (hc : m ≤ c) (hm : c ≤ maxLen)
    (keep : ∀ j b' m' c', j < k → j ≠ i → cells[j]? = some (Value.slice (some ⟨b', 0, none⟩) m' c') → b' ≠ b ∧ H' b' = H b') :
    RowsK H' V R (if i = k then k + 1 else k) (fun j => if j = i then m else mm j) (fun j => if j = i then f else G j) (cells.set i (.slice (some ⟨b, 0, none⟩) m c)) := by
  have hlt : i < cells.length := by rw [h.len]; exact hi
  have lim : ∀ j, j < (if i = k then k + 1 else k) → j = i ∨ (j < k ∧ j ≠ i) := fun j hj => by
    split at hj <;> omega
  refine ⟨by rw [List.length_set]; exact h.len, fun j hj => ?_, fun j j' b1 m1 c1 m2 c2 hj hj' h1 h2 => ?_⟩
  · rcases lim j hj with rfl | ⟨h1, h2⟩
    · refine ⟨b, c, cs, ?_, hb, ?_, ?_, hm⟩
      · rw [List.getElem?_set_self hlt, if_pos rfl]
      · rw [if_pos rfl, if_pos rfl]; exact hr
      · rw [if_pos rfl]; exact hc
    · obtain ⟨b', c', cs', a1, a2, a3, a4, a5⟩ := h.row j h1
      obtain ⟨k1, k2⟩ := keep j b' _ c' h1 h2 a1
      refine ⟨b', c', cs', ?_, by rw [k2]; exact a2, ?_, ?_, a5⟩
      · rw [List.getElem?_set_ne (Ne.symm h2), if_neg h2]; exact a1
      · rw [if_neg h2, if_neg h2]; exact a3
      · rw [if_neg h2]; exact a4
  · rcases lim j hj with rfl | ⟨g1, g2⟩ <;> rcases lim j' hj' with rfl | ⟨g3, g4⟩
    · rfl
    · rw [List.getElem?_set_self hlt] at h1
      rw [List.getElem?_set_ne (Ne.symm g4)] at h2
      cases h1
      exact absurd rfl (keep j' _ _ _ g3 g4 h2).1
    · rw [List.getElem?_set_self hlt] at h2
      rw [List.getElem?_set_ne (Ne.symm g2)] at h1
      cases h2
      exact absurd rfl (keep j _ _ _ g1 g2 h1).1
    · rw [List.getElem?_set_ne (Ne.symm g2)] at h1
      rw [List.getElem?_set_ne (Ne.symm g4)] at h2
      exact h.inj j j' b1 m1 c1 m2 c2 g1 g3 h1 h2
theorem RowsK.congr {H : Heap} {V : View} {R k : Nat} {mm mm' : Nat → Nat} {G G' : Grid} {cells : List Value} (h : RowsK H V R k mm G cells) (em : ∀ i, i < k → mm i = mm' i) (e : ∀ i j, i < k → j < mm i → G i j = G' i j) : RowsK H V R k mm' G' cells :=
  ⟨h.len, fun i hi => by
    obtain ⟨b, c, cs, a1, a2, a3, a4, a5⟩ := h.row i hi
    refine ⟨b, c, cs, by rw [← em i hi]; exact a1, a2, ?_, by rw [← em i hi]; exact a4, a5⟩
    rw [← em i hi, ← mk_congr (e i · hi)]; exact a3, h.inj⟩
/-- all rows of one length: a grid -/
theorem RowsK.grid {H : Heap} {V : View} {R m g cap : Nat} {G : Grid} {cells : List Value} {av : List Nat} (h : RowsK H V R R (fun _ => m) G cells) (hg : H g = some ⟨22, cells, cap * 1⟩) (hc : R ≤ cap) (hm : cap ≤ maxLen) (hav : ∀ (i b m' c' : Nat), i < R → cells[i]? = some (Value.slice (some ⟨b, 0, none⟩) m' c') → b ∉ av) : GridAt H V (.slice (some ⟨g, 0, none⟩) R cap) R m G av := by
  refine ⟨cells, ⟨by rw [h.len, Nat.mul_one], .inr ⟨g, cap, rfl, hg, hc, hm⟩⟩, h.len, fun i v hv => ?_, fun i j b c c' h1 h2 => ?_⟩
  · have hi : i < R := by rw [← h.len]; exact (List.getElem?_eq_some_iff.1 hv).1
    obtain ⟨b, c, cs, a1, a2, a3, a4, a5⟩ := h.row i hi
    have hn := hav i b _ _ hi a1
    rw [hv] at a1
    cases a1
    exact ⟨b, c, cs, rfl, a2, a3, a4, a5, hn⟩
  · have hi : i < R := by rw [← h.len]; exact (List.getElem?_eq_some_iff.1 h1).1
    have hj : j < R := by rw [← h.len]; exact (List.getElem?_eq_some_iff.1 h2).1
    exact h.inj i j b m c m c' hi hj h1 h2
theorem cf_row {l : List Rat} {R C i k : Nat} (hl : l.length = R * C) (hi : i < R) (hk : k < C) : cf ((l.take ((i + 1) * C)).drop (i * C)) k = cf l (i * C + k) := by
  have h1 := pos_lt hi hk
  have h2 : i * C + k < (i + 1) * C := by rw [Nat.add_mul, Nat.one_mul]; omega
  have h3 : (i + 1) * C ≤ l.length := by rw [hl]; exact Nat.mul_le_mul_right C (by omega)
  have e1 : k < ((l.take ((i + 1) * C)).drop (i * C)).length := by rw [List.length_drop, List.length_take]; omega
  rw [← cf_get e1, ← cf_get (show i * C + k < l.length by omega)]
  simp
theorem row_len {l : List Rat} {R C i : Nat} (hl : l.length = R * C) (hi : i < R) : ((l.take ((i + 1) * C)).drop (i * C)).length = C := by
  have h3 : (i + 1) * C ≤ l.length := by rw [hl]; exact Nat.mul_le_mul_right C (by omega)
  rw [List.length_drop, List.length_take, Nat.min_eq_left h3, Nat.add_mul, Nat.one_mul]; omega
theorem row_nat {H : Heap} {V : View} {e c n : Nat} {v' : Value} {xs : List Value} (h : Own H e 3 v' n xs) (hn : 1 ≤ n) : ∃ b cap, v' = .slice (some ⟨b, 0, none⟩) n cap ∧ H b = some ⟨e, xs, cap * 3⟩ ∧ n ≤ cap ∧ cap ≤ maxLen := by
  rcases own_parts h with ⟨_, h0, _⟩ | ⟨b, cap, e1, e2, e3, e4, _⟩
  · omega
  · exact ⟨b, cap, e1, e2, e3, e4⟩
set_option maxHeartbeats 4000000 in
theorem drows_m (H0 : Heap) (V : View) (s : Value) (n c : Nat) (l : List Rat) (h : Rats V s l) (ll : l.length = n * c) (hn : n ≤ 60) (hc1 : 0 < n → 1 ≤ c) (hc : c ≤ 60) :
    MSpec Tryz.prog 57 [.agg #[.int .i64 (n : Int), .int .i64 (c : Int), s]] H0 V fun v' H' V' => V' = V ∧ (∀ k r, H0 k = some r → H' k = some r) ∧ ∃ g cells, v' = .slice (some ⟨g, 0, none⟩) n n ∧ H0 g = none ∧ H' g = some ⟨22, cells, n⟩ ∧
      RowsK H' V n n (fun _ => c) (gridL l c) cells ∧ ∀ i, i < n → ∀ b m' c', cells[i]? = some (Value.slice (some ⟨b, 0, none⟩) m' c') → H0 b = none := by
  obtain ⟨A, cp, rfl, hcp, hm⟩ := h.form
  have hnc : n * c ≤ 3600 := Nat.le_trans (Nat.mul_le_mul hn hc) (by decide)
  refine (MSpec.enter Tryz.func57 rfl fun Γ hΓ => ?_)
  simp only [Tryz.ntmps57, List.map_cons, List.map_nil, List.length_cons, List.length_nil, Nat.reduceAdd, Nat.reduceSub, List.replicate_succ, List.replicate_zero, List.cons_append, List.nil_append]
  refine Gx.a (by kernel_rfl) fun K hK => ?_
  simp only [XA]
  refine hK _ ?_
  refine Gx.a (by kernel_rfl) fun K hK => ?_
  simp only [XM, XA, XB]
  refine mk_go rfl rfl elemT_97 zeroT_22 (by omega) (by omega) (by omega) (by omega) rfl (by omega) fun g hg1 hg2 => ?_
  have hg1 : H0 g = none := hg1
  simp only [XA, flat_one]
  refine hK _ ?_
  refine XWP.cut (fun s => ∃ (H2 : Heap) (outs : List Value), StIs (fun Z => [Z 0,Z 1,Z 2, .v (.slice (some ⟨g, 0, none⟩) n n), Z 4,Z 5,Z 6,Z 7,Z 8,Z 9,Z 10,Z 11,Z 12,Z 13,Z 14,Z 15,Z 16,Z 17,Z 18,Z 19,Z 20,Z 21,Z 22,Z 23,Z 24,Z 25,Z 26,Z 27,Z 28,Z 29,Z 30,Z 31]) [[.int .i64 (n : Int), .int .i64 (c : Int), .slice A l.length cp]] H2 V s ∧ (∀ k r, H0 k = some r → H2 k = some r) ∧ H2 g = some ⟨22, outs, n⟩ ∧ RowsK H2 V n n (fun _ => c) (gridL l c) outs ∧ ∀ i, i < n → ∀ b m' c', outs[i]? = some (Value.slice (some ⟨b, 0, none⟩) m' c') → H0 b = none) ?_ ?_
  · refine Gx.a (by kernel_rfl) fun K hK => ?_
    simp only [XN, XA]
    refine hK _ ?_
    clear hK
    refine XWP.block ?_
    refine XWP.loop (fun q s => ∃ (i : Nat) (H2 : Heap) (outs : List Value), StIs (fun Z => [Z 0, .p 0 0, Z 2, .v (.slice (some ⟨g, 0, none⟩) n n), Z 4,Z 5,Z 6,Z 7,Z 8, .v (.int .i64 (n : Int)), .v (.int .i64 (i : Int)), Z 11,Z 12,Z 13,Z 14,Z 15,Z 16,Z 17,Z 18,Z 19,Z 20,Z 21,Z 22,Z 23,Z 24,Z 25,Z 26,Z 27,Z 28,Z 29,Z 30,Z 31]) [[.int .i64 (n : Int), .int .i64 (c : Int), .slice A l.length cp]] H2 V s ∧ q + i = n ∧ (∀ k r, H0 k = some r → H2 k = some r) ∧ H2 g = some ⟨22, outs, n⟩ ∧ RowsK H2 V n i (fun _ => c) (gridL l c) outs ∧ ∀ j, j < i → ∀ b m' c', outs[j]? = some (Value.slice (some ⟨b, 0, none⟩) m' c') → H0 b = none) n ⟨0, _, _, StIs.of (by exact rfl), by omega, fun k r hk => (upd_off (new_ne hg1 hk)).trans hk, upd_at _ _ _, ⟨List.length_replicate, fun i hi => by omega, fun i j _ _ _ _ _ hi => by omega⟩, fun j hj => by omega⟩ ?_
    rintro q s ⟨i, H2, outs, hs, hq, hkeep, hg, hrows, hfr⟩
    obtain ⟨z, rfl⟩ := hs.out
    try dsimp only
    clear hs
    by_cases hi : i < n
    rotate_left
    · obtain rfl : i = n := by omega
      have b1 : decide ((i : Int) < (i : Int)) = false := decide_eq_false (by omega)
      refine Gx.a (by kernel_rfl) fun K hK => ?_
      simp only [XA, XB, b1]
      refine hK _ ?_
      refine XWP.seq (Gx.f rfl ?_)
      refine XWP.exit ?_
      exact ⟨H2, outs, StIs.of (by exact rfl), hkeep, hg, hrows, hfr⟩
    have hc1 := hc1 (by omega)
    have b1 : decide ((i : Int) < (n : Int)) = true := decide_eq_true (by omega)
    refine Gx.a (by kernel_rfl) fun K hK => ?_
    simp only [XA, XB, b1]
    refine hK _ ?_
    refine XWP.seq (Gx.t rfl ?_)
    refine XWP.skip ?_
    have w1 := wr_mul (i := i) (C := c) (by omega) (by omega)
    have w2 := wr_mul (i := i + 1) (C := c) (by omega) (by omega)
    have w3 := i64_succ i (by omega)
    have hle : i * c ≤ (i + 1) * c := Nat.mul_le_mul_right c (by omega)
    have hle2 : (i + 1) * c ≤ l.length := by rw [ll]; exact Nat.mul_le_mul_right c (by omega)
    have hrow : Rats V (sliceV A cp 3 (i * c) ((i + 1) * c)) ((l.take ((i + 1) * c)).drop (i * c)) := SlAt.drop (SlAt.take h hle2) (by rw [List.length_take, Nat.min_eq_left hle2]; exact hle)
    have hrl := row_len ll hi
    have hcf : ∀ k, k < c → cf ((l.take ((i + 1) * c)).drop (i * c)) k = gridL l c i k := fun k hk => cf_row ll hi hk
    generalize (l.take ((i + 1) * c)).drop (i * c) = R at *
    obtain ⟨cs, hcs, hsrc⟩ := hrow.src
    have eR : R = mk c (gridL l c i) := List.ext_getElem (by rw [mk_len, hrl]) fun k a b => by rw [cf_get a, cf_get b, cf_mk, if_pos (by omega)]; exact hcf k (by omega)
    rw [eR] at hcs
    rw [hrl] at hsrc
    refine XWP.seq ?_
    refine XWP.block ?_
    refine Gx.a (by kernel_rfl) fun K hK => ?_
    simp only [XA]
    refine hK _ ?_
    refine Gx.c (by kernel_rfl) fun K hK => ?_
    simp only [XA]
    refine bs_go (by kernel_rfl) #[] (by simp) (bs_zero elemT_22 zeroT_48) fun b0 hb0 hb0' => ?_
    simp only [XM, XA, XB, w1, w2, w3]
    refine ⟨by omega, by omega, by omega, ?_⟩
    try simp only [XM, XN, XA, XB, gateX, Nat.reduceAdd, Nat.reduceLeDiff, Nat.reduceSub, Nat.reduceMul, ↓reduceIte, Int.reduceToNat, Int.reduceLE, beq_self_eq_true]
    have own0 : Own (upd H2 b0 (some ⟨48, [], 0⟩)) 48 3 (.slice (some ⟨b0, 0, none⟩) 0 0) 0 [] := ⟨rfl, .inr ⟨b0, 0, rfl, upd_at _ _ _, Nat.le_refl _, by unfold maxLen; omega⟩⟩
    refine ap_go elemT_22 (by kernel_rfl) zeroT_48 rfl (by omega) own0 (hsrc _) (by omega) (by omega) fun v' H3 hres => ?_
    obtain ⟨ho, hk3, hg3⟩ := hres
    rw [Nat.zero_add, List.nil_append] at ho
    obtain ⟨b, cap, rfl, hb, hcap, hmax⟩ := row_nat (V := V) (c := c) ho hc1
    have hbn : H2 b = none := by
      rcases hg3 b rfl with e | ⟨e, _⟩
      · have : b0 = b := by simpa [Value.ownBlock] using e
        rw [← this]; exact hb0
      · have e' : upd H2 b0 (some ⟨48, [], 0⟩) b = none := e
        by_cases e2 : b = b0
        · rw [e2]; exact hb0
        · rwa [upd_off e2] at e'
    have hk4 : ∀ k r, H2 k = some r → k ≠ b ∧ H3 k = some r := fun k r hk => by
      have n1 : k ≠ b := new_ne hbn hk
      have n2 : k ≠ b0 := new_ne hb0 hk
      exact ⟨n1, (hk3 k (fun e => n1 (by simpa [Value.ownBlock] using e.symm))).trans ((upd_off n2).trans hk)⟩
    have hgb := (hk4 g _ hg).2
    have ngb := (hk4 g _ hg).1
    simp only [XN, XA, XB]
    refine ⟨by omega, by omega, ?_⟩
    refine st_row shapeT_22 rfl rfl hgb (by have := hrows.len; dsimp only; omega) ?_
    simp only [XA]
    refine hK _ ?_
    refine Gx.c (by kernel_rfl) fun K hK => ?_
    simp only [XA, XB, w3]
    have hput := hrows.put (H' := upd H3 g (some ⟨22, outs.set i (.slice (some ⟨b, 0, none⟩) c cap), n⟩)) (i := i) (f := gridL l c i) hi (Nat.le_refl _) ((upd_off (Ne.symm ngb)).trans hb) hcs hcap hmax fun j b' m' c' hj hne hjc => by
      obtain ⟨b2, c2, cs2, a1, a2, _⟩ := hrows.row j hj
      rw [hjc] at a1
      cases a1
      obtain ⟨n1, n2⟩ := hk4 b' _ a2
      exact ⟨n1, by rw [upd_off (fun e => by rw [e, hg] at a2; cases a2), n2, a2]⟩
    rw [if_pos rfl] at hput
    refine hK _ ⟨q - 1, by omega, i + 1, _, _, StIs.of (by exact rfl), by omega, fun k r hk => ?_, upd_at _ _ _, hput.congr (fun j _ => by split <;> rfl) (fun j k _ _ => by split <;> simp_all), fun j hj b' m' c' hjc => ?_⟩
    · by_cases e : k = g
      · rw [e, hg1] at hk; cases hk
      · rw [upd_off e]; exact (hk4 k r (hkeep k r hk)).2
    · by_cases e : j = i
      · rw [e, List.getElem?_set_self (by rw [hrows.len]; exact hi)] at hjc
        cases hjc
        cases e2 : H0 b
        · rfl
        · rw [hkeep b _ e2] at hbn; cases hbn
      · rw [List.getElem?_set_ne (Ne.symm e)] at hjc
        exact hfr j (by omega) b' m' c' hjc
  rintro s ⟨H2, outs, hs, hkeep, hg, hrows, hfr⟩
  obtain ⟨z, rfl⟩ := hs.out
  try dsimp only
  refine Gx.a (by kernel_rfl) fun K hK => ?_
  simp only [XA]
  refine hK _ (XWP.ret ?_)
  try simp only [thenX_ret, inBlockX_ret]
  exact retM_go _ rfl ⟨rfl, hkeep, g, outs, rfl, hg1, hg, hrows, hfr⟩
end Go.Proofs.YthoboehbadmlmaaGreat
end
section
namespace Go.Proofs.YthoboehbadmlmaaGreat
set_option linter.unusedVariables false
def sg1 (k : Nat) : Rat := if k % 2 = 0 then 1 else -1
def sk (j k : Nat) : Nat := if k < j then k else k + 1
def minor (G : Grid) (j : Nat) : Grid := fun i k => G (i + 1) (sk j k)
def detL : Nat → Grid → Rat
  | 0, _ => 1
  | n + 1, G => Sm (fun j => sg1 j * (G 0 j * detL n (minor G j))) (n + 1)
theorem sg1_succ (k : Nat) : sg1 (k + 1) = - sg1 k := by
  unfold sg1
  split <;> split <;> first | omega | grind
theorem sk_lt {n j k : Nat} (hk : k < n) : sk j k < n + 1 := by unfold sk; split <;> omega
theorem detL_congr : ∀ (n : Nat) {G H : Grid}, (∀ i k, i < n → k < n → G i k = H i k) → detL n G = detL n H
  | 0, _, _, _ => rfl
  | n + 1, G, H, h => by
    unfold detL
    refine Sm_congr _ fun j hj => ?_
    have e := detL_congr n (G := minor G j) (H := minor H j) fun i k hi hk => h (i + 1) (sk j k) (by omega) (sk_lt hk)
    rw [h 0 j (by omega) hj, e]
def setR (G : Grid) (r : Nat) (v : Nat → Rat) : Grid := fun i k => if i = r then v k else G i k
theorem setR_at (G : Grid) (r : Nat) (v : Nat → Rat) (k : Nat) : setR G r v r k = v k := by unfold setR; rw [if_pos rfl]
theorem setR_off {G : Grid} {r i : Nat} (v : Nat → Rat) (k : Nat) (h : i ≠ r) : setR G r v i k = G i k := by unfold setR; rw [if_neg h]
theorem minor_set0 (G : Grid) (v : Nat → Rat) (j : Nat) : minor (setR G 0 v) j = minor G j := by
  funext i k; unfold minor; exact setR_off v _ (by omega)
theorem minor_setS (G : Grid) (r : Nat) (v : Nat → Rat) (j : Nat) : minor (setR G (r + 1) v) j = setR (minor G j) r (fun k => v (sk j k)) := by
  funext i k; unfold minor setR
  by_cases e : i = r
  · rw [if_pos (by omega), if_pos e]
  · rw [if_neg (by omega), if_neg e]
/-- linear in each row -/
theorem detL_lin (a b : Rat) : ∀ (n : Nat) (G : Grid) (r : Nat) (v w : Nat → Rat), r < n → detL n (setR G r fun k => a * v k + b * w k) = a * detL n (setR G r v) + b * detL n (setR G r w)
  | 0, _, _, _, _, h => by omega
  | n + 1, G, 0, v, w, _ => by
    unfold detL
    simp only [minor_set0, setR_at]
    rw [← Sm_mul, ← Sm_mul, ← Sm_add]
    exact Sm_congr _ fun j _ => by grind
  | n + 1, G, r + 1, v, w, h => by
    unfold detL
    simp only [minor_setS]
    rw [← Sm_mul, ← Sm_mul, ← Sm_add]
    refine Sm_congr _ fun j hj => ?_
    rw [detL_lin a b n (minor G j) r (fun k => v (sk j k)) (fun k => w (sk j k)) (by omega), setR_off _ _ (by omega), setR_off _ _ (by omega), setR_off _ _ (by omega)]
    grind
theorem detL_scale (a : Rat) {n : Nat} {G : Grid} {r : Nat} (v : Nat → Rat) (hr : r < n) : detL n (setR G r fun k => a * v k) = a * detL n (setR G r v) := by
  have := detL_lin a 0 n G r v v hr
  rw [show (fun k => a * v k + 0 * v k) = fun k => a * v k by funext k; grind] at this
  rw [this]; grind
theorem detL_zrow {n : Nat} {G : Grid} {r : Nat} (hr : r < n) (h : ∀ k, k < n → G r k = 0) : detL n G = 0 := by
  have e : detL n G = detL n (setR G r fun k => 0 * G r k) := detL_congr n fun i k hi hk => by
    by_cases ei : i = r
    · subst ei; rw [setR_at, h k hk]; grind
    · rw [setR_off _ _ ei]
  rw [e, detL_scale 0 _ hr]; grind
theorem Sm_skip (g : Nat → Rat) : ∀ (n j : Nat), j ≤ n → Sm g (n + 1) = g j + Sm (fun k => g (sk j k)) n
  | 0, j, h => by
    have : j = 0 := by omega
    subst this
    simp only [Sm]; grind
  | n + 1, j, h => by
    by_cases e : j = n + 1
    · subst e
      have : Sm (fun k => g (sk (n + 1) k)) (n + 1) = Sm g (n + 1) := Sm_congr _ fun k hk => by unfold sk; rw [if_pos hk]
      rw [this]
      show Sm g (n + 1) + g (n + 1) = _
      grind
    · have ih := Sm_skip g n j (by omega)
      show Sm g (n + 1) + g (n + 1) = g j + (Sm (fun k => g (sk j k)) n + g (sk j n))
      rw [ih]
      have : sk j n = n + 1 := by unfold sk; rw [if_neg (by omega)]
      rw [this]; grind
/-- both columns left out -/
def s2 (j k b : Nat) : Nat := if b < min j k then b else if b + 1 < max j k then b + 1 else b + 2
theorem s2_comm (j k b : Nat) : s2 j k b = s2 k j b := by unfold s2; rw [Nat.min_comm, Nat.max_comm]
theorem sk_sk (j k b : Nat) : sk j (sk k b) = s2 j (sk j k) b := by
  unfold s2 sk
  by_cases h1 : k < j <;> by_cases h2 : b < k <;> by_cases h3 : b < j <;> by_cases h4 : b + 1 < j <;> simp only [h1, h2, h3, h4, ↓reduceIte] <;> (try split) <;> (try split) <;> (try split) <;> omega
def eps (j k : Nat) : Rat := if j = k then 0 else if k < j then 1 else -1
theorem eps_anti (j k : Nat) : eps k j = - eps j k := by
  unfold eps
  by_cases e : j = k
  · rw [if_pos e, if_pos e.symm]; grind
  · rw [if_neg e, if_neg (Ne.symm e)]
    by_cases h : k < j
    · rw [if_pos h, if_neg (by omega)]
    · rw [if_neg h, if_pos (by omega)]; grind
theorem eps_sk (j k : Nat) : eps j (sk j k) * sg1 (sk j k) = sg1 k := by
  unfold eps sk
  by_cases h : k < j
  · rw [if_pos h, if_neg (by omega), if_pos h]; grind
  · rw [if_neg h, if_neg (by omega), if_neg (by omega), sg1_succ]; grind
theorem detL_two (n : Nat) (G : Grid) : detL (n + 2) G = Sm (fun j => Sm (fun k => eps j k * (sg1 j * sg1 k * (G 0 j * G 1 k * detL n (fun i b => G (i + 2) (s2 j k b))))) (n + 2)) (n + 2) := by
  rw [detL]
  refine Sm_congr _ fun j hj => ?_
  rw [Sm_skip _ (n + 1) j (by omega)]
  have e0 : eps j j = 0 := by unfold eps; rw [if_pos rfl]
  rw [e0, detL, ← Sm_mul, ← Sm_mul]
  have : ∀ x : Rat, 0 * x = 0 := fun x => by grind
  rw [this, Rat.zero_add]
  refine Sm_congr _ fun k hk => ?_
  have e1 : detL n (minor (minor G j) k) = detL n (fun i b => G (i + 2) (s2 j (sk j k) b)) := by
    congr 1; funext i b; unfold minor; rw [sk_sk]
  have e2 : minor G j 0 k = G 1 (sk j k) := rfl
  have e3 := eps_sk j k
  rw [e1, e2, ← e3]
  grind
theorem detL_adj0 {n : Nat} {G : Grid} (h : ∀ k, k < n + 2 → G 0 k = G 1 k) : detL (n + 2) G = 0 := by
  obtain ⟨F, hF⟩ : ∃ F : Nat → Nat → Rat, F = fun j k => eps j k * (sg1 j * sg1 k * (G 0 j * G 1 k * detL n (fun i b => G (i + 2) (s2 j k b)))) := ⟨_, rfl⟩
  have e1 : detL (n + 2) G = Sm (fun j => Sm (F j) (n + 2)) (n + 2) := by rw [hF]; exact detL_two n G
  have e2 : detL (n + 2) G = Sm (fun k => Sm (fun j => F j k) (n + 2)) (n + 2) := by rw [e1, Sm_swap]
  have e3 : Sm (fun k => Sm (fun j => F j k) (n + 2)) (n + 2) = -1 * Sm (fun k => Sm (F k) (n + 2)) (n + 2) := by
    rw [← Sm_mul]
    refine Sm_congr _ fun k hk => ?_
    rw [← Sm_mul]
    refine Sm_congr _ fun j hj => ?_
    rw [hF]
    show eps j k * (sg1 j * sg1 k * (G 0 j * G 1 k * detL n (fun i b => G (i + 2) (s2 j k b)))) = -1 * (eps k j * (sg1 k * sg1 j * (G 0 k * G 1 j * detL n (fun i b => G (i + 2) (s2 k j b)))))
    have : (fun i b => G (i + 2) (s2 k j b)) = fun i b => G (i + 2) (s2 j k b) := by funext i b; rw [s2_comm]
    rw [this, eps_anti j k, h j hj, h k hk]
    grind
  rw [e3, ← e1] at e2
  grind
theorem detL_adj : ∀ (n r : Nat) {G : Grid}, r + 1 < n → (∀ k, k < n → G r k = G (r + 1) k) → detL n G = 0
  | 0, _, _, h, _ => by omega
  | 1, _, _, h, _ => by omega
  | n + 2, 0, G, _, h => detL_adj0 h
  | n + 2, r + 1, G, hr, h => by
    rw [detL]
    refine Sm_zero _ fun j hj => ?_
    rw [detL_adj (n + 1) r (G := minor G j) (by omega) fun k hk => h (sk j k) (sk_lt hk)]
    grind
def set2 (G : Grid) (r s : Nat) (v w : Nat → Rat) : Grid := setR (setR G r v) s w
theorem set2_comm {G : Grid} {r s : Nat} (h : r ≠ s) (v w : Nat → Rat) : set2 G r s v w = setR (setR G s w) r v := by
  funext i k; unfold set2 setR
  by_cases e : i = s
  · rw [if_pos e, if_neg (by omega), if_pos e]
  · rw [if_neg e]
    by_cases e2 : i = r
    · rw [if_pos e2, if_pos e2]
    · rw [if_neg e2, if_neg e2, if_neg e]
theorem detL_polar {n : Nat} {G : Grid} {r s : Nat} (hr : r < n) (hs : s < n) (hne : r ≠ s) (H : ∀ v, detL n (set2 G r s v v) = 0) (v w : Nat → Rat) : detL n (set2 G r s v w) = - detL n (set2 G r s w v) := by
  have h1 := H fun k => 1 * v k + 1 * w k
  have h2 : detL n (set2 G r s (fun k => 1 * v k + 1 * w k) fun k => 1 * v k + 1 * w k) = 1 * detL n (set2 G r s (fun k => 1 * v k + 1 * w k) v) + 1 * detL n (set2 G r s (fun k => 1 * v k + 1 * w k) w) := detL_lin 1 1 n _ s v w hs
  have h3 : ∀ u, detL n (set2 G r s (fun k => 1 * v k + 1 * w k) u) = 1 * detL n (set2 G r s v u) + 1 * detL n (set2 G r s w u) := fun u => by
    rw [set2_comm hne, set2_comm hne, set2_comm hne]; exact detL_lin 1 1 n _ r v w hr
  rw [h1, h3, h3, H v, H w] at h2
  grind
theorem set2_self {G : Grid} {r s : Nat} (v w : Nat → Rat) (hv : ∀ k, v k = G r k) (hw : ∀ k, w k = G s k) : set2 G r s v w = G := by
  funext i k; unfold set2 setR
  by_cases e : i = s
  · rw [if_pos e, hw, e]
  · rw [if_neg e]
    by_cases e2 : i = r
    · rw [if_pos e2, hv, e2]
    · rw [if_neg e2]
/-- two rows that are the same -/
theorem detL_alt {n : Nat} : ∀ (d i : Nat) {G : Grid}, i + d + 1 < n → (∀ k, G i k = G (i + d + 1) k) → detL n G = 0
  | 0, i, G, h, e => detL_adj n i h fun k _ => e k
  | d + 1, i, G, h, e => by
    have H : ∀ v, detL n (set2 G (i + d + 1) (i + d + 2) v v) = 0 := fun v => by
      have h1 : i + d + 1 + 1 < n := by omega
      refine detL_adj n (i + d + 1) h1 fun k _ => ?_
      show setR (setR G (i + d + 1) v) (i + d + 2) v (i + d + 1) k = setR (setR G (i + d + 1) v) (i + d + 2) v (i + d + 2) k
      rw [setR_off (r := i + d + 2) (i := i + d + 1) _ _ (by omega), setR_at, setR_at]
    have hp := detL_polar (n := n) (G := G) (r := i + d + 1) (s := i + d + 2) (by omega) (by omega) (by omega) H (G (i + d + 1)) (G (i + d + 2))
    rw [set2_self _ _ (fun _ => rfl) (fun _ => rfl)] at hp
    have ih := detL_alt (n := n) d i (G := set2 G (i + d + 1) (i + d + 2) (G (i + d + 2)) (G (i + d + 1))) (by omega) fun k => by
      show setR (setR G (i + d + 1) (G (i + d + 2))) (i + d + 2) (G (i + d + 1)) i k = setR (setR G (i + d + 1) (G (i + d + 2))) (i + d + 2) (G (i + d + 1)) (i + d + 1) k
      rw [setR_off (r := i + d + 2) (i := i) _ _ (by omega), setR_off (r := i + d + 1) (i := i) _ _ (by omega), setR_off (r := i + d + 2) (i := i + d + 1) _ _ (by omega), setR_at]
      exact e k
    rw [hp, ih]; grind
theorem detL_same {n i j : Nat} {G : Grid} (hi : i < n) (hj : j < n) (hne : i ≠ j) (e : ∀ k, G i k = G j k) : detL n G = 0 := by
  rcases Nat.lt_or_ge i j with h | h
  · have ej : i + (j - i - 1) + 1 = j := by omega
    exact detL_alt (j - i - 1) i (by omega) fun k => by rw [ej]; exact e k
  · have ej : j + (i - j - 1) + 1 = i := by omega
    exact detL_alt (i - j - 1) j (by omega) fun k => by rw [ej]; exact (e k).symm
theorem detL_set_same {n i j : Nat} {G : Grid} (hi : i < n) (hj : j < n) (hne : i ≠ j) : detL n (setR G i (G j)) = 0 :=
  detL_same hi hj hne fun k => by rw [setR_at, setR_off _ _ (Ne.symm hne)]
theorem setR_self (G : Grid) (r : Nat) : setR G r (G r) = G := by
  funext i k; unfold setR
  split
  · rename_i e; rw [e]
  · rfl
/-- the steps of an elimination -/
theorem detL_sub {n i t : Nat} {G : Grid} (f : Rat) (hi : i < n) (ht : t < n) (hne : i ≠ t) : detL n (setR G i fun k => G i k - f * G t k) = detL n G := by
  have := detL_lin 1 (-f) n G i (G i) (G t) hi
  rw [setR_self, detL_set_same hi ht hne] at this
  rw [show (fun k => G i k - f * G t k) = fun k => 1 * G i k + -f * G t k by funext k; grind, this]
  grind
theorem detL_swap {n p t : Nat} {G : Grid} (hp : p < n) (ht : t < n) (hne : p ≠ t) : detL n (gsw G p t) = - detL n G := by
  have hp2 := detL_polar (n := n) (G := G) hp ht hne (fun v => detL_same hp ht hne fun k => by unfold set2; rw [setR_off _ _ hne, setR_at, setR_at]) (G t) (G p)
  rw [set2_self (G := G) (r := p) (s := t) (G p) (G t) (fun _ => rfl) (fun _ => rfl)] at hp2
  rw [← hp2]
  congr 1
  funext i k
  unfold gsw swp set2 setR
  by_cases e : i = t
  · subst e; simp [Ne.symm hne]
  · by_cases e2 : i = p
    · subst e2; simp [e]
    · simp [e, e2]
def gid : Grid := fun i k => if i = k then 1 else 0
theorem detL_id : ∀ n, detL n gid = 1
  | 0 => rfl
  | n + 1 => by
    rw [detL, Sm_one (k := 0) (by omega) fun j hj hne => by
      have : gid 0 j = 0 := by unfold gid; rw [if_neg (Ne.symm hne)]
      rw [this]; grind]
    have e1 : minor gid 0 = gid := by
      funext i k; unfold minor gid sk
      simp
    rw [e1, detL_id n]
    unfold sg1 gid
    rw [if_pos rfl, if_pos (by rfl)]
    grind
/-- the adjugate -/
def adjG (n : Nat) (G : Grid) : Grid := fun i j => detL n (setR G j (gid i))
theorem detL_row {n j : Nat} (G : Grid) (v : Nat → Rat) (hj : j < n) : detL n (setR G j v) = Sm (fun i => v i * adjG n G i j) n := by
  have key : ∀ m, m ≤ n → detL n (setR G j fun k => if k < m then v k else 0) = Sm (fun i => v i * adjG n G i j) m := by
    intro m
    induction m with
    | zero => intro _; exact detL_zrow hj fun k _ => by rw [setR_at, if_neg (by omega)]
    | succ m ih =>
      intro hm
      have e : detL n (setR G j fun k => if k < m + 1 then v k else 0) = detL n (setR G j fun k => 1 * (if k < m then v k else 0) + v m * gid m k) := by
        congr 1; congr 1; funext k
        unfold gid
        by_cases h1 : k < m
        · rw [if_pos (by omega), if_pos h1, if_neg (by omega)]; grind
        · rw [if_neg h1]
          by_cases h2 : m = k
          · subst h2; rw [if_pos (by omega), if_pos rfl]; grind
          · rw [if_neg (by omega), if_neg h2]; grind
      rw [e, detL_lin 1 (v m) n G j _ _ hj, ih (by omega)]
      show _ = Sm (fun i => v i * adjG n G i j) m + v m * adjG n G m j
      unfold adjG
      grind
  rw [← key n (Nat.le_refl _)]
  exact detL_congr n fun i k hi hk => by
    by_cases e : i = j
    · subst e; rw [setR_at, setR_at, if_pos hk]
    · rw [setR_off _ _ e, setR_off _ _ e]
theorem adj_mul {n k j : Nat} (G : Grid) (hk : k < n) (hj : j < n) : Sm (fun i => G k i * adjG n G i j) n = if k = j then detL n G else 0 := by
  rw [← detL_row G (G k) hj]
  by_cases e : k = j
  · subst e; rw [setR_self, if_pos rfl]
  · rw [if_neg e, detL_set_same hj hk (Ne.symm e)]
end Go.Proofs.YthoboehbadmlmaaGreat
end
section
namespace Go.Proofs.YthoboehbadmlmaaGreat
set_option linter.unusedVariables false
def pv (a : Nat → Rat) (d : Nat) (x : Rat) : Rat := Sm (fun k => a k * x ^ k) (d + 1)
/-- what the numbers from one on are worth -/
def hv (a : Nat → Rat) (c : Rat) : Nat → Nat → Rat
  | 0, _ => 0
  | t + 1, m => a m + c * hv a c t (m + 1)
theorem rpow_succ (x : Rat) (k : Nat) : x ^ (k + 1) = x ^ k * x := Rat.pow_succ x k
theorem rpow_zero (x : Rat) : x ^ 0 = 1 := Rat.pow_zero x
theorem hv_split (a : Nat → Rat) (c x : Rat) (T : Nat) : ∀ m, m ≤ T → Sm (fun k => a k * x ^ k) m = hv a c T 0 + (x - c) * Sm (fun k => hv a c (T - (k + 1)) (k + 1) * x ^ k) m - hv a c (T - m) m * x ^ m
  | 0, _ => by
    simp only [Sm, Nat.sub_zero, rpow_zero]; grind
  | m + 1, h => by
    have ih := hv_split a c x T m (by omega)
    show Sm (fun k => a k * x ^ k) m + a m * x ^ m = hv a c T 0 + (x - c) * (Sm (fun k => hv a c (T - (k + 1)) (k + 1) * x ^ k) m + hv a c (T - (m + 1)) (m + 1) * x ^ m) - hv a c (T - (m + 1)) (m + 1) * x ^ (m + 1)
    obtain ⟨t, ht⟩ : ∃ t, T - m = t + 1 := ⟨T - m - 1, by omega⟩
    have e1 : T - (m + 1) = t := by omega
    rw [ih, ht, e1, rpow_succ, hv]
    grind
/-- a polynomial that is 0 at more places than its degree -/
theorem poly_zero : ∀ (d : Nat) (a p : Nat → Rat), (∀ i j, i ≤ d → j ≤ d → p i = p j → i = j) → (∀ i, i ≤ d → pv a d (p i) = 0) → ∀ k, k ≤ d → a k = 0
  | 0, a, p, _, h, k, hk => by
    have := h 0 (Nat.le_refl _)
    unfold pv at this
    simp only [Sm, rpow_zero] at this
    have : k = 0 := by omega
    subst this
    grind
  | d + 1, a, p, hp, h, k, hk => by
    have hs := fun x => hv_split a (p (d + 1)) x (d + 2) (d + 2) (Nat.le_refl _)
    have e0 : ∀ x, hv a (p (d + 1)) (d + 2 - (d + 2)) (d + 2) * x ^ (d + 2) = 0 := fun x => by rw [Nat.sub_self, hv]; grind
    have hH : hv a (p (d + 1)) (d + 2) 0 = 0 := by
      have h1 := h (d + 1) (Nat.le_refl _)
      have h2 := hs (p (d + 1))
      unfold pv at h1
      rw [h1, e0] at h2
      grind
    have hq : ∀ i, i ≤ d → pv (fun k => hv a (p (d + 1)) (d + 2 - (k + 1)) (k + 1)) d (p i) = 0 := fun i hi => by
      have h1 := h i (by omega)
      have h2 := hs (p i)
      unfold pv at h1 ⊢
      rw [h1, e0, hH] at h2
      have h3 : Sm (fun k => hv a (p (d + 1)) (d + 2 - (k + 1)) (k + 1) * p i ^ k) (d + 2) = Sm (fun k => hv a (p (d + 1)) (d + 2 - (k + 1)) (k + 1) * p i ^ k) (d + 1) := by
        show Sm _ (d + 1) + hv a (p (d + 1)) (d + 2 - (d + 1 + 1)) (d + 1 + 1) * p i ^ (d + 1) = _
        rw [show d + 2 - (d + 1 + 1) = 0 by omega, hv]; grind
      rw [h3] at h2
      have hne : p i - p (d + 1) ≠ 0 := fun e => by
        have := hp i (d + 1) (by omega) (Nat.le_refl _) (by grind)
        omega
      have h4 : (p i - p (d + 1)) * Sm (fun k => hv a (p (d + 1)) (d + 2 - (k + 1)) (k + 1) * p i ^ k) (d + 1) = 0 := by grind
      rcases Rat.mul_eq_zero.1 h4 with e | e
      · exact absurd e hne
      · exact e
    have hz := poly_zero d _ p (fun i j hi hj => hp i j (by omega) (by omega)) hq
    have ha : ∀ m, m ≤ d + 2 → hv a (p (d + 1)) (d + 2 - m) m = 0 := fun m hm => by
      rcases Nat.eq_zero_or_pos m with e | e
      · subst e; exact hH
      · by_cases e2 : m = d + 2
        · subst e2; rw [Nat.sub_self, hv]
        · have := hz (m - 1) (by omega)
          simp only [show m - 1 + 1 = m by omega] at this
          exact this
    have h1 := ha k (by omega)
    obtain ⟨t, ht⟩ : ∃ t, d + 2 - k = t + 1 := ⟨d + 1 - k, by omega⟩
    have h2 := ha (k + 1) (by omega)
    rw [ht, hv] at h1
    rw [show d + 2 - (k + 1) = t by omega] at h2
    rw [h2] at h1
    grind
theorem poly_all {d : Nat} {a b : Nat → Rat} (h : ∀ x, pv a d x = pv b d x) : ∀ k, k ≤ d → a k = b k := fun k hk => by
  have := poly_zero d (fun k => a k - b k) (fun i => (i : Rat)) (fun i j _ _ e => Rat.natCast_inj.1 e) (fun i _ => by
    have := h i
    unfold pv at this ⊢
    have e : (fun k => (a k - b k) * (i : Rat) ^ k) = fun k => a k * (i : Rat) ^ k - b k * (i : Rat) ^ k := by funext k; grind
    rw [e, Sm_sub, this]; grind) k hk
  grind
def PolyF (d : Nat) (f : Rat → Rat) : Prop := ∃ a : Nat → Rat, ∀ x, f x = pv a d x
theorem pv_more {a : Nat → Rat} {d e : Nat} (h : d ≤ e) (x : Rat) : pv (fun k => if k ≤ d then a k else 0) e x = pv a d x := by
  unfold pv
  rw [Sm_more (show d + 1 ≤ e + 1 by omega) fun j h1 h2 => by
    show (if j ≤ d then a j else 0) * x ^ j = 0
    rw [if_neg (by omega)]; grind]
  exact Sm_congr _ fun j hj => by
    show (if j ≤ d then a j else 0) * x ^ j = a j * x ^ j
    rw [if_pos (by omega)]
theorem PolyF.mono {d e : Nat} {f : Rat → Rat} (h : PolyF d f) (hd : d ≤ e) : PolyF e f := by
  obtain ⟨a, ha⟩ := h
  exact ⟨_, fun x => by rw [ha, ← pv_more hd]⟩
theorem PolyF.lin {d : Nat} {f g : Rat → Rat} (u v : Rat) (h : PolyF d f) (h2 : PolyF d g) : PolyF d (fun x => u * f x + v * g x) := by
  obtain ⟨a, ha⟩ := h
  obtain ⟨b, hb⟩ := h2
  refine ⟨fun k => u * a k + v * b k, fun x => ?_⟩
  simp only [ha, hb]
  unfold pv
  rw [← Sm_mul, ← Sm_mul, ← Sm_add]
  exact Sm_congr _ fun k _ => by grind
theorem PolyF.const (c : Rat) (d : Nat) : PolyF d (fun _ => c) := by
  have : PolyF 0 (fun _ => c) := ⟨fun _ => c, fun x => by unfold pv; simp only [Sm, rpow_zero]; grind⟩
  exact this.mono (Nat.zero_le d)
/-- the numbers of (u + v x) times a polynomial -/
def affC (u v : Rat) (a : Nat → Rat) (d k : Nat) : Rat := u * (if k ≤ d then a k else 0) + v * (if 1 ≤ k then a (k - 1) else 0)
theorem affC_pv (u v : Rat) (a : Nat → Rat) (d : Nat) (x : Rat) : pv (affC u v a d) (d + 1) x = (u + x * v) * pv a d x := by
  have e : pv (affC u v a d) (d + 1) x = u * pv (fun k => if k ≤ d then a k else 0) (d + 1) x + v * Sm (fun k => (if 1 ≤ k then a (k - 1) else 0) * x ^ k) (d + 2) := by
    unfold pv affC
    rw [← Sm_mul, ← Sm_mul, ← Sm_add]
    exact Sm_congr _ fun k _ => by grind
  rw [e, pv_more (by omega), Sm_front]
  have e2 : Sm (fun j => (if 1 ≤ j + 1 then a (j + 1 - 1) else 0) * x ^ (j + 1)) (d + 1) = x * pv a d x := by
    unfold pv
    rw [← Sm_mul]
    exact Sm_congr _ fun k _ => by rw [if_pos (by omega), Nat.add_sub_cancel, rpow_succ]; grind
  rw [e2, if_neg (by omega)]
  grind
theorem PolyF.aff {d : Nat} {f : Rat → Rat} (u v : Rat) (h : PolyF d f) : PolyF (d + 1) (fun x => (u + x * v) * f x) := by
  obtain ⟨a, ha⟩ := h
  exact ⟨affC u v a d, fun x => by
    show (u + x * v) * f x = _
    rw [affC_pv, ha]⟩
/-- the determinant of a matrix whose cells go up and down with x -/
theorem det_poly : ∀ (n : Nat) (A B : Grid), ∃ a : Nat → Rat, (∀ x, detL n (fun i k => A i k + x * B i k) = pv a n x) ∧ a n = detL n B
  | 0, A, B => ⟨fun _ => 1, fun x => by unfold pv; simp only [Sm, rpow_zero, detL]; grind, rfl⟩
  | n + 1, A, B => by
    obtain ⟨α, hα⟩ := Classical.axiomOfChoice fun j => det_poly n (minor A j) (minor B j)
    refine ⟨fun k => Sm (fun j => sg1 j * affC (A 0 j) (B 0 j) (α j) n k) (n + 1), fun x => ?_, ?_⟩
    · unfold pv
      have e : (fun k => Sm (fun j => sg1 j * affC (A 0 j) (B 0 j) (α j) n k) (n + 1) * x ^ k) = fun k => Sm (fun j => sg1 j * (affC (A 0 j) (B 0 j) (α j) n k * x ^ k)) (n + 1) := by
        funext k
        rw [show Sm (fun j => sg1 j * affC (A 0 j) (B 0 j) (α j) n k) (n + 1) * x ^ k = x ^ k * Sm (fun j => sg1 j * affC (A 0 j) (B 0 j) (α j) n k) (n + 1) by grind, ← Sm_mul]
        exact Sm_congr _ fun j _ => by grind
      rw [e, Sm_swap (fun k j => sg1 j * (affC (A 0 j) (B 0 j) (α j) n k * x ^ k)), detL]
      refine Sm_congr _ fun j _ => ?_
      rw [Sm_mul]
      have := affC_pv (A 0 j) (B 0 j) (α j) n x
      unfold pv at this
      rw [this]
      have h2 := (hα j).1 x
      unfold pv at h2
      rw [← h2]
      rfl
    · rw [detL]
      refine Sm_congr _ fun j _ => ?_
      unfold affC
      rw [if_neg (by omega), if_pos (by omega), Nat.add_sub_cancel, (hα j).2]
      grind
/-- what stands of a polynomial at 0, and its slope there -/
def F1 (f : Rat → Rat) (a b : Rat) : Prop := ∃ d g, PolyF d g ∧ ∀ h, f h = a + h * b + h * h * g h
theorem F1.const (c : Rat) : F1 (fun _ => c) c 0 := ⟨0, fun _ => 0, PolyF.const 0 0, fun h => by grind⟩
theorem F1.add {f g : Rat → Rat} {a b a' b' : Rat} (h1 : F1 f a b) (h2 : F1 g a' b') : F1 (fun h => f h + g h) (a + a') (b + b') := by
  obtain ⟨d, u, hu, e⟩ := h1
  obtain ⟨d', u', hu', e'⟩ := h2
  refine ⟨d + d', _, (hu.mono (Nat.le_add_right d d')).lin 1 1 (hu'.mono (Nat.le_add_left d' d)), fun h => ?_⟩
  simp only [e, e']; grind
theorem F1.smul {f : Rat → Rat} {a b : Rat} (c : Rat) (h1 : F1 f a b) : F1 (fun h => c * f h) (c * a) (c * b) := by
  obtain ⟨d, u, hu, e⟩ := h1
  exact ⟨d, _, hu.lin c 0 hu, fun h => by simp only [e]; grind⟩
theorem F1.shift {f : Rat → Rat} {a b : Rat} (x : Rat) (h1 : F1 f a b) : F1 (fun h => (x + h) * f h) (x * a) (x * b + a) := by
  obtain ⟨d, u, hu, e⟩ := h1
  refine ⟨d + 1, _, (hu.aff x 1).lin 1 1 (PolyF.const b (d + 1)), fun h => ?_⟩
  simp only [e]; grind
theorem PolyF.low {d : Nat} {f : Rat → Rat} (h : PolyF d f) : ∃ d g, PolyF d g ∧ ∀ x, f x = f 0 + x * g x := by
  obtain ⟨a, ha⟩ := h
  have e0 : f 0 = a 0 := by
    rw [ha, pv, Sm_front, Sm_zero _ fun j _ => by rw [rpow_succ]; grind]
    rw [rpow_zero]; grind
  cases d with
  | zero => exact ⟨0, fun _ => 0, PolyF.const 0 0, fun x => by rw [e0, ha]; unfold pv; simp only [Sm, rpow_zero]; grind⟩
  | succ d =>
    refine ⟨d, fun x => pv (fun k => a (k + 1)) d x, ⟨_, fun x => rfl⟩, fun x => ?_⟩
    show f x = f 0 + x * Sm (fun k => a (k + 1) * x ^ k) (d + 1)
    rw [e0, ha, pv, Sm_front, ← Sm_mul, rpow_zero]
    have : Sm (fun j => a (j + 1) * x ^ (j + 1)) (d + 1) = Sm (fun j => x * (a (j + 1) * x ^ j)) (d + 1) := Sm_congr _ fun j _ => by rw [rpow_succ]; grind
    rw [this]; grind
theorem F1.addh {f f2 : Rat → Rat} {a b : Rat} {d : Nat} (h1 : F1 f a b) (h2 : PolyF d f2) : F1 (fun h => f h + h * f2 h) a (b + f2 0) := by
  obtain ⟨d1, u, hu, e⟩ := h1
  obtain ⟨d2, g, hg, e2⟩ := h2.low
  refine ⟨d1 + d2, _, (hu.mono (Nat.le_add_right d1 d2)).lin 1 1 (hg.mono (Nat.le_add_left d2 d1)), fun h => ?_⟩
  show f h + h * f2 h = _
  rw [e h, e2 h]; grind
theorem F1.uniq {f : Rat → Rat} {a b a' b' : Rat} (h1 : F1 f a b) (h2 : F1 f a' b') : b = b' := by
  obtain ⟨d, u, hu, e⟩ := h1
  obtain ⟨d', u', hu', e'⟩ := h2
  obtain ⟨p, hp⟩ := (hu.mono (Nat.le_add_right d d')).lin 1 (-1) (hu'.mono (Nat.le_add_left d' d))
  have hz : ∀ x, pv (fun k => if k = 0 then a - a' else if k = 1 then b - b' else p (k - 2)) (d + d' + 2) x = pv (fun _ => 0) (d + d' + 2) x := fun x => by
    have h0 : pv (fun _ => 0) (d + d' + 2) x = 0 := Sm_zero _ fun j _ => by grind
    rw [h0, pv, Sm_front, Sm_front]
    have h3 : Sm (fun j => (if j + 1 + 1 = 0 then a - a' else if j + 1 + 1 = 1 then b - b' else p (j + 1 + 1 - 2)) * x ^ (j + 1 + 1)) (d + d' + 1) = x * x * pv p (d + d') x := by
      rw [pv, ← Sm_mul]
      exact Sm_congr _ fun j _ => by rw [if_neg (by omega), if_neg (by omega), show j + 1 + 1 - 2 = j by omega, rpow_succ, rpow_succ]; grind
    rw [h3, ← hp]
    have e1 := e x
    rw [e'] at e1
    simp only [if_pos, if_neg (show ¬ (0 + 1 = 0) by omega), rpow_zero, rpow_succ]
    grind
  have := poly_all hz 1 (by omega)
  simp only [if_neg (show ¬ (1 = 0) by omega), if_pos] at this
  grind
def dv (x : Rat) : Nat → Rat
  | 0 => 0
  | k + 1 => x * dv x k + x ^ k
theorem dv_eq (x : Rat) : ∀ k, dv x (k + 1) = ((k : Rat) + 1) * x ^ k
  | 0 => by simp only [dv, rpow_zero]; grind
  | k + 1 => by
    rw [dv, dv_eq x k, rpow_succ, Rat.natCast_add]
    grind
theorem F1.pow (x : Rat) : ∀ k, F1 (fun h => (x + h) ^ k) (x ^ k) (dv x k)
  | 0 => by
    simp only [rpow_zero, dv]
    exact F1.const 1
  | k + 1 => by
    have := (F1.pow x k).shift x
    have e : (fun h => (x + h) ^ (k + 1)) = fun h => (x + h) * (x + h) ^ k := by funext h; rw [rpow_succ]; grind
    have e2 : x ^ (k + 1) = x * x ^ k := by rw [rpow_succ]; grind
    rw [e, e2, dv]
    exact this
theorem F1.pv (c : Nat → Rat) (x : Rat) : ∀ m, F1 (fun h => Sm (fun k => c k * (x + h) ^ k) m) (Sm (fun k => c k * x ^ k) m) (Sm (fun k => c k * dv x k) m)
  | 0 => F1.const 0
  | m + 1 => (F1.pv c x m).add ((F1.pow x m).smul (c m))
theorem F1.det {n : Nat} (A : Grid) : ∀ m, m ≤ n → F1 (fun h => detL n (fun i k => A i k + h * (if i < m then gid i k else 0))) (detL n A) (Sm (fun j => adjG n A j j) m)
  | 0, _ => by
    have e : (fun h : Rat => detL n (fun i k => A i k + h * (if i < 0 then gid i k else 0))) = fun _ => detL n A := by
      funext h; congr 1; funext i k; rw [if_neg (by omega)]; grind
    rw [e]; exact F1.const _
  | m + 1, hm => by
    have ih := F1.det (n := n) A m (by omega)
    obtain ⟨a, ha, _⟩ := det_poly n (setR A m (gid m)) (fun i k => if i < m then gid i k else 0)
    have := ih.addh ⟨a, ha⟩
    have e : (fun h : Rat => detL n (fun i k => A i k + h * (if i < m + 1 then gid i k else 0))) = fun h => detL n (fun i k => A i k + h * (if i < m then gid i k else 0)) + h * detL n (fun i k => setR A m (gid m) i k + h * (if i < m then gid i k else 0)) := by
      funext h
      have hl := detL_lin 1 h n (fun i k => A i k + h * (if i < m then gid i k else 0)) m (fun k => A m k + h * (if m < m then gid m k else 0)) (gid m) (by omega)
      rw [setR_self (fun i k => A i k + h * (if i < m then gid i k else 0)) m] at hl
      have e1 : (setR (fun i k => A i k + h * (if i < m then gid i k else 0)) m fun k => 1 * (A m k + h * (if m < m then gid m k else 0)) + h * gid m k) = fun i k => A i k + h * (if i < m + 1 then gid i k else 0) := by
        funext i k; unfold setR
        by_cases ei : i = m
        · subst ei; simp; grind
        · have e3 : (i < m + 1) = (i < m) := by apply propext; omega
          simp only [if_neg ei, e3]
      have e2 : setR (fun i k => A i k + h * (if i < m then gid i k else 0)) m (gid m) = fun i k => setR A m (gid m) i k + h * (if i < m then gid i k else 0) := by
        funext i k; unfold setR
        by_cases ei : i = m
        · subst ei; simp; grind
        · simp only [if_neg ei]
      rw [e1, e2] at hl
      rw [hl]; grind
    rw [e]
    have e0 : detL n (fun i k => setR A m (gid m) i k + 0 * (if i < m then gid i k else 0)) = adjG n A m m := by
      unfold adjG; congr 1; funext i k; grind
    rw [e0] at this
    exact this
end Go.Proofs.YthoboehbadmlmaaGreat
end
section
namespace Go.Proofs.YthoboehbadmlmaaGreat
set_option linter.unusedVariables false
/-- what is known of a matrix's characteristic polynomial and of the adjugate's -/
structure ChrP (M : Grid) (n : Nat) (c : Nat → Rat) (β : Nat → Nat → Nat → Rat) : Prop where
  chi : ∀ x, detL n (fun i k => -M i k + x * gid i k) = pv c n x
  top : c n = 1
  bn : ∀ i j, j < n → β i j n = 0
  rel : ∀ k j m, k < n → j < n → m ≤ n → (if 1 ≤ m then β k j (m - 1) else 0) - Sm (fun i => M k i * β i j m) n = if k = j then c m else 0
  tr : ∀ m, m < n → Sm (fun j => β j j m) n = ((m : Rat) + 1) * c (m + 1)
theorem pv_cut {a : Nat → Rat} {n : Nat} (h : a n = 0) (x : Rat) : pv a n x = Sm (fun k => a k * x ^ k) n := by
  show Sm (fun k => a k * x ^ k) n + a n * x ^ n = _
  rw [h]; grind
theorem chr_of (M : Grid) (n : Nat) : ∃ c β, ChrP M n c β := by
  obtain ⟨c, hc, hcn⟩ := det_poly n (fun i k => -M i k) gid
  rw [detL_id] at hcn
  obtain ⟨β, hβ⟩ := Classical.axiomOfChoice fun p : Nat × Nat => det_poly n (setR (fun i k => -M i k) p.2 (gid p.1)) (setR gid p.2 fun _ => 0)
  have hb0 : ∀ i j, j < n → β (i, j) n = 0 := fun i j hj => by
    rw [(hβ (i, j)).2]; exact detL_zrow hj fun k _ => setR_at _ _ _ _
  have hadj : ∀ x i j, adjG n (fun i k => -M i k + x * gid i k) i j = pv (β (i, j)) n x := fun x i j => by
    rw [← (hβ (i, j)).1]
    unfold adjG
    congr 1
    funext a k
    unfold setR
    by_cases e : a = j
    · simp only [if_pos e]; grind
    · simp only [if_neg e]
  refine ⟨c, fun i j => β (i, j), hc, hcn, hb0, fun k j m hk hj hm => ?_, fun m hm => ?_⟩
  · have key : ∀ x, pv (fun m => (if 1 ≤ m then β (k, j) (m - 1) else 0) - Sm (fun i => M k i * β (i, j) m) n - (if k = j then c m else 0)) n x = pv (fun _ => 0) n x := fun x => by
      have h0 : pv (fun _ => 0) n x = 0 := Sm_zero _ fun j _ => by grind
      have e1 : pv (fun m => (if 1 ≤ m then β (k, j) (m - 1) else 0) - Sm (fun i => M k i * β (i, j) m) n - (if k = j then c m else 0)) n x = Sm (fun m => (if 1 ≤ m then β (k, j) (m - 1) else 0) * x ^ m) (n + 1) - Sm (fun m => Sm (fun i => M k i * (β (i, j) m * x ^ m)) n) (n + 1) - (if k = j then pv c n x else 0) := by
        have e2 : (if k = j then pv c n x else 0) = Sm (fun m => (if k = j then c m else 0) * x ^ m) (n + 1) := by
          split
          · rfl
          · exact (Sm_zero _ fun j _ => by grind).symm
        rw [e2, ← Sm_sub, ← Sm_sub]
        refine Sm_congr _ fun m _ => ?_
        have e3 : Sm (fun i => M k i * (β (i, j) m * x ^ m)) n = x ^ m * Sm (fun i => M k i * β (i, j) m) n := by
          rw [← Sm_mul]; exact Sm_congr _ fun i _ => by grind
        show ((if 1 ≤ m then β (k, j) (m - 1) else 0) - Sm (fun i => M k i * β (i, j) m) n - (if k = j then c m else 0)) * x ^ m = _
        rw [e3]; grind
      have e4 : Sm (fun m => (if 1 ≤ m then β (k, j) (m - 1) else 0) * x ^ m) (n + 1) = x * pv (β (k, j)) n x := by
        rw [Sm_front, pv_cut (hb0 k j hj), ← Sm_mul]
        have : (if 1 ≤ 0 then β (k, j) (0 - 1) else 0) * x ^ 0 = 0 := by rw [if_neg (by omega)]; grind
        rw [this, Rat.zero_add]
        exact Sm_congr _ fun m _ => by rw [if_pos (by omega), Nat.add_sub_cancel, rpow_succ]; grind
      have e5 : Sm (fun m => Sm (fun i => M k i * (β (i, j) m * x ^ m)) n) (n + 1) = Sm (fun i => M k i * pv (β (i, j)) n x) n := by
        rw [Sm_swap (fun m i => M k i * (β (i, j) m * x ^ m))]
        exact Sm_congr _ fun i _ => by rw [Sm_mul]; rfl
      have e6 := adj_mul (fun i k => -M i k + x * gid i k) hk hj
      simp only [hadj] at e6
      rw [hc] at e6
      have e7 : Sm (fun i => (-M k i + x * gid k i) * pv (β (i, j)) n x) n = x * pv (β (k, j)) n x - Sm (fun i => M k i * pv (β (i, j)) n x) n := by
        have e8 : Sm (fun i => x * (gid k i * pv (β (i, j)) n x)) n = x * pv (β (k, j)) n x := by
          rw [Sm_mul, Sm_one hk fun i _ hne => by
            have : gid k i = 0 := by unfold gid; rw [if_neg (Ne.symm hne)]
            rw [this]; grind]
          have : gid k k = 1 := by unfold gid; rw [if_pos rfl]
          rw [this]; grind
        rw [← e8, ← Sm_sub]
        exact Sm_congr _ fun i _ => by grind
      rw [e7] at e6
      rw [e1, e4, e5, e6, h0]
      split <;> grind
    have := poly_all key m hm
    grind
  · have key : ∀ x, pv (fun m => Sm (fun j => β (j, j) m) n) n x = pv (fun m => if m < n then ((m : Rat) + 1) * c (m + 1) else 0) n x := fun x => by
      have f1 := F1.det (n := n) (fun i k => -M i k + x * gid i k) n (Nat.le_refl _)
      have f2 := F1.pv c x (n + 1)
      have e1 : (fun h : Rat => detL n (fun i k => -M i k + x * gid i k + h * (if i < n then gid i k else 0))) = fun h => Sm (fun k => c k * (x + h) ^ k) (n + 1) := by
        funext h
        have := hc (x + h)
        unfold pv at this
        rw [← this]
        exact detL_congr n fun i k hi _ => by rw [if_pos hi]; grind
      rw [e1] at f1
      have e2 := f1.uniq f2
      simp only [hadj] at e2
      have e3 : pv (fun m => Sm (fun j => β (j, j) m) n) n x = Sm (fun j => pv (β (j, j)) n x) n := by
        unfold pv
        rw [Sm_swap (fun j m => β (j, j) m * x ^ m)]
        refine Sm_congr _ fun m _ => ?_
        rw [show Sm (fun j => β (j, j) m) n * x ^ m = x ^ m * Sm (fun j => β (j, j) m) n by grind, ← Sm_mul]
        exact Sm_congr _ fun j _ => by grind
      rw [e3, e2, Sm_front, pv_cut (by rw [if_neg (by omega)])]
      have : c 0 * dv x 0 = 0 := by rw [dv]; grind
      rw [this, Rat.zero_add]
      exact Sm_congr _ fun m hm => by rw [if_pos hm, dv_eq]; grind
    have := poly_all key m (by omega)
    simp only [if_pos hm] at this
    exact this
/-- the numbers that the traces tell are those of the characteristic polynomial; the matrix is a root of it -/
theorem ChrP.traces {M : Grid} {n : Nat} {c : Nat → Rat} {β : Nat → Nat → Nat → Rat} (h : ChrP M n c β) (A : Nat → Grid) (r : Nat → Rat) (h0 : r 0 = 1) (hA0 : ∀ i j, i < n → j < n → A 0 i j = 0)
    (hA : ∀ k, k < n → ∀ i j, i < n → j < n → A (k + 1) i j = Sm (fun t => M i t * (A k t j + r k * gid t j)) n) (hr : ∀ k, k < n → r (k + 1) = Sm (fun i => A (k + 1) i i) n * (-1 / ((k : Rat) + 1))) :
    ∀ k, k ≤ n → r k = c (n - k) ∧ ∀ i j, i < n → j < n → A k i j + r k * gid i j = if k < n then β i j (n - 1 - k) else 0
  | 0, _ => by
    refine ⟨by rw [h0, Nat.sub_zero, h.top], fun i j hi hj => ?_⟩
    have := h.rel i j n hi hj (Nat.le_refl _)
    rw [Sm_zero _ fun t _ => by rw [h.bn t j hj]; grind, if_pos (by omega), h.top] at this
    rw [if_pos (by omega), hA0 i j hi hj, h0, Nat.sub_zero]
    unfold gid
    grind
  | k + 1, hk => by
    obtain ⟨_, ih⟩ := h.traces A r h0 hA0 hA hr k (by omega)
    obtain ⟨m, hm⟩ : ∃ m, m = n - 1 - k := ⟨_, rfl⟩
    have hAk : ∀ i j, i < n → j < n → A (k + 1) i j = Sm (fun t => M i t * β t j m) n := fun i j hi hj => by
      rw [hA k (by omega) i j hi hj]
      exact Sm_congr _ fun t ht => by rw [ih t j ht hj, if_pos (by omega), hm]
    have hrel : ∀ i j, i < n → j < n → (if 1 ≤ m then β i j (m - 1) else 0) - A (k + 1) i j = if i = j then c m else 0 := fun i j hi hj => by
      rw [hAk i j hi hj]; exact h.rel i j m hi hj (by omega)
    have htr : Sm (fun i => A (k + 1) i i) n = -((k : Rat) + 1) * c m := by
      have e1 : Sm (fun i => A (k + 1) i i) n = Sm (fun i => if 1 ≤ m then β i i (m - 1) else 0) n - Sm (fun _ => c m) n := by
        rw [← Sm_sub]
        exact Sm_congr _ fun i hi => by
          have := hrel i i hi hi
          rw [if_pos (show i = i from rfl)] at this
          grind
      have e2 : ∀ q : Nat, Sm (fun _ => c m) q = (q : Rat) * c m := by
        intro q
        induction q with
        | zero => simp only [Sm]; grind
        | succ q ihq =>
          show Sm (fun _ => c m) q + c m = _
          rw [ihq, Rat.natCast_add]; grind
      have e3 : Sm (fun i => if 1 ≤ m then β i i (m - 1) else 0) n = (m : Rat) * c m := by
        rcases Nat.eq_zero_or_pos m with z | z
        · rw [Sm_zero _ fun i _ => by rw [if_neg (by omega)], z]; grind
        · have := h.tr (m - 1) (by omega)
          have hm1 : m - 1 + 1 = m := by omega
          have hc1 : ((m - 1 : Nat) : Rat) + 1 = (m : Rat) := by
            have := Rat.natCast_add (m - 1) 1
            rw [hm1] at this
            rw [this]; grind
          rw [hm1, hc1] at this
          rw [← this]
          exact Sm_congr _ fun i _ => by rw [if_pos (by omega)]
      have e4 : (n : Rat) = (m : Rat) + ((k : Rat) + 1) := by
        have : n = m + (k + 1) := by omega
        rw [this, Rat.natCast_add, Rat.natCast_add]; grind
      rw [e1, e2, e3, e4]; grind
    have hrk : r (k + 1) = c m := by
      rw [hr k (by omega), htr]
      have : (k : Rat) + 1 ≠ 0 := by
        have h1 : ((k + 1 : Nat) : Rat) ≠ 0 := fun e => by
          have := Rat.natCast_inj.1 (e.trans (show (0 : Rat) = ((0 : Nat) : Rat) from rfl))
          omega
        rw [Rat.natCast_add] at h1
        exact h1
      grind
    refine ⟨by rw [hrk, hm]; congr 1; omega, fun i j hi hj => ?_⟩
    have hh := hrel i j hi hj
    have hgc : c m * gid i j = if i = j then c m else 0 := by unfold gid; split <;> grind
    rw [hrk, hgc, ← hh]
    clear hrel hAk ih hA hr hA0 hh hgc htr
    by_cases hm0 : 1 ≤ m
    · rw [if_pos hm0, if_pos (by omega), show n - 1 - (k + 1) = m - 1 by omega]; grind
    · rw [if_neg hm0, if_neg (by omega)]; grind
end Go.Proofs.YthoboehbadmlmaaGreat
end
section
namespace Go.Proofs.YthoboehbadmlmaaGreat
set_option linter.unusedVariables false
theorem detL_comb {n r : Nat} (G : Grid) (y : Nat → Rat) (hr : r < n) : detL n (setR G r fun k => Sm (fun i => y i * G i k) n) = y r * detL n G := by
  rw [detL_row G _ hr]
  have e : Sm (fun i => Sm (fun t => y t * G t i) n * adjG n G i r) n = Sm (fun t => y t * Sm (fun i => G t i * adjG n G i r) n) n := by
    have e1 : Sm (fun i => Sm (fun t => y t * G t i) n * adjG n G i r) n = Sm (fun i => Sm (fun t => y t * (G t i * adjG n G i r)) n) n := Sm_congr _ fun i _ => by
      rw [show Sm (fun t => y t * G t i) n * adjG n G i r = adjG n G i r * Sm (fun t => y t * G t i) n by grind, ← Sm_mul]
      exact Sm_congr _ fun t _ => by grind
    rw [e1, Sm_swap (fun i t => y t * (G t i * adjG n G i r))]
    exact Sm_congr _ fun t _ => Sm_mul _ _ _
  rw [e, Sm_one hr fun t ht hne => by rw [adj_mul G ht hr, if_neg hne]; grind, adj_mul G hr hr, if_pos rfl]
/-- rows that are few columns wide depend on one another -/
theorem detL_low {n k : Nat} {G : Grid} (hk : k < n) (h : ∀ i c, k ≤ i → i < n → c ≤ k → G i c = 0) : detL n G = 0 := by
  obtain ⟨y, ⟨j, hj, hy⟩, hl⟩ := few_eqs (n - k) (n - k - 1) (fun i j => G (k + j) (k + 1 + i)) (by omega)
  have hs : ∀ (f : Nat → Rat), (∀ i, i < k → f i = 0) → Sm f n = Sm (fun j => f (k + j)) (n - k) := fun f hf => by
    have key : ∀ m, k ≤ m → Sm f m = Sm (fun j => f (k + j)) (m - k) := by
      intro m hm
      induction m with
      | zero =>
        have : k = 0 := by omega
        subst this; rfl
      | succ m ih =>
        by_cases e : k = m + 1
        · subst e; rw [Nat.sub_self]; exact Sm_zero _ hf
        · rw [show m + 1 - k = (m - k) + 1 by omega]
          show Sm f m + f m = Sm (fun j => f (k + j)) (m - k) + f (k + (m - k))
          rw [ih (by omega), show k + (m - k) = m by omega]
    exact key n (by omega)
  have hrow : ∀ c, c < n → Sm (fun i => (if k ≤ i then y (i - k) else 0) * G i c) n = 0 := fun c hc => by
    rw [hs _ fun i hi => by rw [if_neg (by omega)]; grind]
    rcases Nat.lt_or_ge k c with g | g
    · have := hl (c - k - 1) (by omega)
      simp only [show k + 1 + (c - k - 1) = c by omega] at this
      rw [← this]
      exact Sm_congr _ fun j _ => by rw [if_pos (by omega), Nat.add_sub_cancel_left]; grind
    · exact Sm_zero _ fun j hj => by rw [h (k + j) c (by omega) (by omega) g]; grind
  have hd := detL_comb (n := n) (r := k + j) G (fun i => if k ≤ i then y (i - k) else 0) (by omega)
  have hz : detL n (setR G (k + j) fun c => Sm (fun i => (if k ≤ i then y (i - k) else 0) * G i c) n) = 0 := detL_zrow (r := k + j) (by omega) fun c hc => by rw [setR_at]; exact hrow c hc
  rw [hz] at hd
  have e : (if k ≤ k + j then y (k + j - k) else 0) = y j := by rw [if_pos (by omega), Nat.add_sub_cancel_left]
  rw [e] at hd
  rcases Rat.mul_eq_zero.1 hd.symm with g | g
  · exact absurd g hy
  · exact g
theorem detL_gcol {n t k : Nat} {G : Grid} (ht : t < n) (hd : G t k ≠ 0) : detL n (gcol G t k) * G t k = detL n G := by
  have h1 : detL n (setR G t fun j => 1 / G t k * G t j) * G t k = detL n G := by
    rw [detL_scale _ _ ht, setR_self]; grind
  rw [← h1]
  congr 1
  have key : ∀ m, m ≤ n → detL n (fun i j => if i = t then G t j / G t k else if i < m then G i j - G i k * (G t j / G t k) else G i j) = detL n (setR G t fun j => 1 / G t k * G t j) := by
    intro m
    induction m with
    | zero =>
      intro _
      refine detL_congr n fun i j _ _ => ?_
      unfold setR
      by_cases e : i = t
      · rw [if_pos e, if_pos e]; grind
      · rw [if_neg e, if_neg e, if_neg (by omega)]
    | succ m ih =>
      intro hm
      rw [← ih (by omega)]
      by_cases e : m = t
      · refine detL_congr n fun i j _ _ => ?_
        by_cases e1 : i = t
        · rw [if_pos e1, if_pos e1]
        · have : (i < m + 1) = (i < m) := by apply propext; omega
          rw [if_neg e1, if_neg e1]
          simp only [this]
      · have hs := detL_sub (n := n) (G := fun i j => if i = t then G t j / G t k else if i < m then G i j - G i k * (G t j / G t k) else G i j) (G m k) (show m < n by omega) ht e
        rw [← hs]
        refine detL_congr n fun i j _ _ => ?_
        unfold setR
        by_cases e2 : i = m
        · subst e2
          simp [e]
        · rw [if_neg e2]
          have : (i < m + 1) = (i < m) := by apply propext; omega
          simp only [this]
  rw [← key n (Nat.le_refl _)]
  refine detL_congr n fun i j hi _ => ?_
  unfold gcol
  rw [if_pos hi]
/-- an elimination with its determinant, under way -/
structure DetI (G0 : Grid) (n : Nat) (G : Grid) (k top : Nat) (D : Rat) : Prop where
  le : top ≤ k
  st : (top = k ∧ D * detL n G = detL n G0 ∧ ∀ c, c < k → ∀ i, i < n → G i c = if i = c then 1 else 0) ∨ (top < k ∧ D = 0 ∧ detL n G0 = 0)
theorem DetI.start (G : Grid) (n : Nat) : DetI G n G 0 0 1 := ⟨Nat.le_refl _, .inl ⟨rfl, by grind, fun c hc => by omega⟩⟩
theorem DetI.skip {G0 G : Grid} {n k top : Nat} {D : Rat} (h : DetI G0 n G k top D) (hk : k < n) (hz : ∀ i, top ≤ i → i < n → G i k = 0) : DetI G0 n G (k + 1) top 0 := by
  refine ⟨by have := h.le; omega, .inr ⟨by have := h.le; omega, rfl, ?_⟩⟩
  rcases h.st with ⟨rfl, h1, h2⟩ | ⟨_, _, h2⟩
  · rw [← h1, detL_low hk fun i c hi hin hc => by
      rcases Nat.lt_or_ge c top with g | g
      · rw [h2 c g i hin, if_neg (by omega)]
      · have : c = top := by omega
        subst this
        exact hz i hi hin]
    grind
  · exact h2
theorem DetI.piv {G0 G : Grid} {n k top p : Nat} {D : Rat} (h : DetI G0 n G k top D) (hk : k < n) (h1 : top ≤ p) (h2 : p < n) (hd : G p k ≠ 0) : DetI G0 n (gcol (gsw G p top) top k) (k + 1) (top + 1) ((if p = top then D else -D) * G p k) := by
  have htn : top < n := by have := h.le; omega
  have hsw : gsw G p top top k = G p k := by unfold gsw swp; by_cases e : top = p
                                             · rw [if_pos e, e]
                                             · rw [if_neg e, if_pos rfl]
  refine ⟨by have := h.le; omega, ?_⟩
  rcases h.st with ⟨rfl, g1, g2⟩ | ⟨g0, g1, g2⟩
  · refine .inl ⟨rfl, ?_, fun c hc i hi => ?_⟩
    · have e1 := detL_gcol (n := n) (G := gsw G p top) (t := top) (k := top) htn (by rw [hsw]; exact hd)
      rw [hsw] at e1
      by_cases e : p = top
      · subst e
        have e2 : gsw G p p = G := by funext i j; unfold gsw swp; by_cases q : i = p
                                      · rw [if_pos q, q]
                                      · rw [if_neg q, if_neg q]
        rw [e2] at e1 ⊢
        rw [if_pos rfl, ← g1, ← e1]; grind
      · rw [detL_swap h2 htn e] at e1
        rw [if_neg e, ← g1]; grind
    · by_cases ec : c = top
      · subst ec
        unfold gcol
        rw [hsw]
        by_cases e : i = c
        · rw [if_pos e, if_pos e]; grind
        · rw [if_neg e, if_neg e]; grind
      · have hct : c < top := by omega
        have hz : ∀ i, top ≤ i → i < n → G i c = 0 := fun i hi hin => by rw [g2 c hct i hin, if_neg (by omega)]
        have e2 : gsw G p top top c = 0 := by
          unfold gsw swp
          by_cases e : top = p
          · rw [if_pos e]; exact hz _ (Nat.le_refl _) htn
          · rw [if_neg e, if_pos rfl]; exact hz p h1 h2
        unfold gcol
        rw [e2]
        by_cases e : i = top
        · rw [if_pos e, if_neg (by omega)]; grind
        · rw [if_neg e]
          have e3 : gsw G p top i c = if i = c then 1 else 0 := by
            unfold gsw swp
            by_cases e4 : i = p
            · rw [if_pos e4, hz top (Nat.le_refl _) htn, if_neg (by omega)]
            · rw [if_neg e4, if_neg e]; exact g2 c hct i hi
          rw [e3]; grind
  · refine .inr ⟨by omega, ?_, g2⟩
    rw [g1]; split <;> grind
theorem DetI.done {G0 G : Grid} {n top : Nat} {D : Rat} (h : DetI G0 n G n top D) : D = detL n G0 := by
  rcases h.st with ⟨_, h1, h2⟩ | ⟨_, h1, h2⟩
  · have : detL n G = 1 := by
      rw [← detL_id n]
      refine detL_congr n fun i k hi hk => ?_
      rw [h2 k hk i hi]; rfl
    rw [← h1, this]; grind
  · rw [h1, h2]
end Go.Proofs.YthoboehbadmlmaaGreat
end
section
namespace Go.Proofs.YthoboehbadmlmaaGreat
set_option linter.unusedVariables false
theorem pv_ext {a b : Nat → Rat} {d : Nat} (h : ∀ k, k ≤ d → a k = b k) (x : Rat) : pv a d x = pv b d x := by
  unfold pv; exact Sm_congr _ fun k hk => by rw [h k (by omega)]
theorem pv_wide {a : Nat → Rat} {d e : Nat} (hd : d ≤ e) (h : ∀ k, d < k → a k = 0) (x : Rat) : pv a e x = pv a d x := by
  unfold pv
  exact Sm_more (by omega) fun j h1 _ => by rw [h j (by omega)]; grind
/-- an interpolation under way: i places are done -/
structure NewI (f : Nat → Rat) (i : Nat) (out base : List Rat) : Prop where
  b0 : ∀ j, i < j → cf base j = 0
  b1 : cf base i = 1
  bp : PolQ base
  bz : ∀ j : Nat, j < i → pv (cf base) i j = 0
  bn : ∀ j : Nat, i ≤ j → pv (cf base) i j ≠ 0
  o0 : ∀ j, i ≤ j → cf out j = 0
  op : PolQ out
  ov : ∀ j : Nat, j < i → pv (cf out) i j = f j
theorem NewI.start (f : Nat → Rat) : NewI f 0 [] [1] := by
  refine ⟨fun j hj => cf_none (by simp; omega), rfl, fun _ => by show cf [1] 0 ≠ 0; simp [cf], fun j hj => by omega, fun j _ => ?_, fun j _ => cf_none (by simp), fun h => by simp at h, fun j hj => by omega⟩
  unfold pv
  simp only [Sm, rpow_zero]
  have : cf [1] 0 = 1 := rfl
  rw [this]; grind
theorem NewI.lens {f : Nat → Rat} {i : Nat} {out base : List Rat} (h : NewI f i out base) : out.length ≤ i ∧ base.length = i + 1 := by
  refine ⟨?_, ?_⟩
  · rcases Nat.lt_or_ge i out.length with g | g
    · exact absurd (h.o0 (out.length - 1) (by omega)) (h.op (by omega))
    · exact g
  · rcases Nat.lt_or_ge i base.length with g | g
    · rcases Nat.lt_or_ge (i + 1) base.length with g2 | g2
      · exact absurd (h.b0 (base.length - 1) (by omega)) (h.bp (by omega))
      · omega
    · have := h.b1
      rw [cf_none g] at this
      exact absurd this (by decide)
theorem cf_nat_inj {a b : Nat} (h : (a : Rat) = (b : Rat)) : a = b := Rat.natCast_inj.1 h
theorem NewI.step {f : Nat → Rat} {i : Nat} {out base : List Rat} (h : NewI f i out base) : NewI f (i + 1) (pAdd out base ((f i - pv (cf out) i i) / pv (cf base) i i) 0) (prodP base [-(i : Rat), 1]) := by
  obtain ⟨by_, hby⟩ : ∃ y, y = (f i - pv (cf out) i i) / pv (cf base) i i := ⟨_, rfl⟩
  rw [← hby]
  have hb : ∀ k, cf (prodP base [-(i : Rat), 1]) k = affC (-(i : Rat)) 1 (cf base) i k := fun k => by
    rw [← mul_prod, mulP_cv]
    have e : cv (cf base) (cf [-(i : Rat), 1]) k = cf base k * -(i : Rat) + (if 1 ≤ k then cf base (k - 1) else 0) := by
      unfold cv
      have q0 : cf [-(i : Rat), 1] 0 = -(i : Rat) := rfl
      have q1 : cf [-(i : Rat), 1] 1 = 1 := rfl
      cases k with
      | zero => simp only [Sm, Nat.sub_self, q0]; rw [if_neg (by omega)]; grind
      | succ k =>
        show Sm (fun j => cf base j * cf [-(i : Rat), 1] (k + 1 - j)) (k + 1) + cf base (k + 1) * cf [-(i : Rat), 1] (k + 1 - (k + 1)) = _
        rw [Nat.sub_self, q0, if_pos (by omega), Nat.add_sub_cancel]
        have : Sm (fun j => cf base j * cf [-(i : Rat), 1] (k + 1 - j)) (k + 1) = cf base k := by
          rw [Sm_one (k := k) (by omega) fun j hj hne => by rw [cf_none (l := [-(i : Rat), 1]) (show ([-(i : Rat), 1] : List Rat).length ≤ k + 1 - j by simp; omega)]; grind, show k + 1 - k = 1 by omega, q1]
          grind
        rw [this]; grind
    rw [e]
    unfold affC
    by_cases hk : k ≤ i
    · rw [if_pos hk]; grind
    · rw [if_neg hk, h.b0 k (by omega)]; grind
  have ho : ∀ k, cf (pAdd out base by_ 0) k = cf out k + cf base k * by_ := fun k => by
    rw [cf_pAdd]; unfold pAt; rw [if_pos (by omega), Nat.sub_zero]
  have hb0 : ∀ j, i + 1 < j → cf (prodP base [-(i : Rat), 1]) j = 0 := fun j hj => by
    rw [hb]; unfold affC
    rw [if_neg (by omega), if_pos (by omega), h.b0 (j - 1) (by omega)]; grind
  have hpv : ∀ x, pv (cf (prodP base [-(i : Rat), 1])) (i + 1) x = (-(i : Rat) + x * 1) * pv (cf base) i x := fun x => by
    rw [← affC_pv]; exact pv_ext (fun k _ => hb k) x
  have hov : ∀ x, pv (cf (pAdd out base by_ 0)) (i + 1) x = pv (cf out) i x + pv (cf base) i x * by_ := fun x => by
    have e1 : pv (cf (pAdd out base by_ 0)) (i + 1) x = pv (cf (pAdd out base by_ 0)) i x := pv_wide (by omega) (fun k hk => by rw [ho, h.o0 k (by omega), h.b0 k hk]; grind) x
    rw [e1]
    unfold pv
    rw [show Sm (fun k => cf base k * x ^ k) (i + 1) * by_ = by_ * Sm (fun k => cf base k * x ^ k) (i + 1) by grind, ← Sm_mul, ← Sm_add]
    exact Sm_congr _ fun k _ => by rw [ho]; grind
  refine ⟨hb0, ?_, ?_, fun j hj => ?_, fun j hj => ?_, fun j hj => ?_, ?_, fun j hj => ?_⟩
  · rw [hb]; unfold affC
    rw [if_neg (by omega), if_pos (by omega), Nat.add_sub_cancel, h.b1]; grind
  · unfold prodP; exact trimQ_pol _
  · rw [hpv]
    by_cases e : j = i
    · subst e; grind
    · rw [h.bz j (by omega)]; grind
  · rw [hpv]
    have h1 := h.bn j (by omega)
    have h2 : -(i : Rat) + (j : Rat) * 1 ≠ 0 := fun e => by
      have : (j : Rat) = (i : Rat) := by grind
      have := cf_nat_inj this
      omega
    intro e
    rcases Rat.mul_eq_zero.1 e with g | g
    · exact h2 g
    · exact h1 g
  · rw [ho, h.o0 j (by omega), h.b0 j (by omega)]; grind
  · unfold pAdd; exact trimQ_pol _
  · rw [hov]
    by_cases e : j = i
    · subst e
      have := h.bn j (Nat.le_refl _)
      rw [hby]; grind
    · rw [h.ov j (by omega), h.bz j (by omega)]; grind
theorem NewI.done {f : Nat → Rat} {n : Nat} {out base : List Rat} {c : Nat → Rat} (h : NewI f (n + 1) out base) (hc : ∀ j : Nat, j ≤ n → f j = pv c n j) (h1 : c n = 1) : out = Go.Proofs.YthoboehbadmlmaaGreat.mk (n + 1) c := by
  have hz := poly_zero n (fun k => cf out k - c k) (fun i => (i : Rat)) (fun i j _ _ e => cf_nat_inj e) fun i hi => by
    have h2 := h.ov i (by omega)
    rw [pv_wide (d := n) (by omega) fun k hk => h.o0 k (by omega), hc i hi] at h2
    unfold pv at h2 ⊢
    have e : (fun k => (cf out k - c k) * (i : Rat) ^ k) = fun k => cf out k * (i : Rat) ^ k - c k * (i : Rat) ^ k := by funext k; grind
    rw [e, Sm_sub, h2]; grind
  refine PolQ.ext h.op (fun _ => ?_) fun k => ?_
  · rw [mk_len, Nat.add_sub_cancel, cf_mk, if_pos (by omega), h1]; decide
  · rw [cf_mk]
    split
    · have := hz k (by omega); grind
    · exact h.o0 k (by omega)
/-! ### The value at a matrix -/
def gmul (A B : Grid) (n : Nat) : Grid := fun i k => Sm (fun t => A i t * B t k) n
def horG (M : Grid) (p : List Rat) (n : Nat) : Nat → Grid
  | 0 => fun _ _ => 0
  | r + 1 => fun i k => gmul M (horG M p n r) n i k + cf p (p.length - 1 - r) * gid i k
def powG (M : Grid) (n : Nat) : Nat → Grid
  | 0 => gid
  | t + 1 => gmul (powG M n t) M n
def valG (M : Grid) (p : List Rat) (n : Nat) : Nat → Grid
  | 0 => fun _ _ => 0
  | t + 1 => fun i k => valG M p n t i k + powG M n t i k * cf p t
theorem horG_succ (M : Grid) (p : List Rat) (n r i k : Nat) : horG M p n (r + 1) i k = gmul M (horG M p n r) n i k + cf p (p.length - 1 - r) * gid i k := rfl
theorem valG_succ (M : Grid) (p : List Rat) (n t i k : Nat) : valG M p n (t + 1) i k = valG M p n t i k + powG M n t i k * cf p t := rfl
theorem gmul_congr {A A' B B' : Grid} {n : Nat} (ha : ∀ i k, i < n → k < n → A i k = A' i k) (hb : ∀ i k, i < n → k < n → B i k = B' i k) {i k : Nat} (hi : i < n) (hk : k < n) : gmul A B n i k = gmul A' B' n i k :=
  Sm_congr _ fun t ht => by rw [ha i t hi ht, hb t k ht hk]
theorem gmul_assoc (A B C : Grid) (n i k : Nat) : gmul (gmul A B n) C n i k = gmul A (gmul B C n) n i k := by
  unfold gmul
  have e1 : Sm (fun t => Sm (fun s => A i s * B s t) n * C t k) n = Sm (fun t => Sm (fun s => A i s * (B s t * C t k)) n) n := Sm_congr _ fun t _ => by
    rw [show Sm (fun s => A i s * B s t) n * C t k = C t k * Sm (fun s => A i s * B s t) n by grind, ← Sm_mul]
    exact Sm_congr _ fun s _ => by grind
  rw [e1, Sm_swap (fun t s => A i s * (B s t * C t k))]
  exact Sm_congr _ fun s _ => Sm_mul _ _ _
theorem gmul_id (A : Grid) {n i k : Nat} (hk : k < n) : gmul A gid n i k = A i k := by
  unfold gmul
  rw [Sm_one hk fun t _ hne => by
    have : gid t k = 0 := by unfold gid; rw [if_neg hne]
    rw [this]; grind]
  have : gid k k = 1 := by unfold gid; rw [if_pos rfl]
  rw [this]; grind
theorem id_gmul (A : Grid) {n i k : Nat} (hi : i < n) : gmul gid A n i k = A i k := by
  unfold gmul
  rw [Sm_one hi fun t _ hne => by
    have : gid i t = 0 := by unfold gid; rw [if_neg (Ne.symm hne)]
    rw [this]; grind]
  have : gid i i = 1 := by unfold gid; rw [if_pos rfl]
  rw [this]; grind
theorem powG_front (M : Grid) (n : Nat) : ∀ t i k, i < n → k < n → gmul M (powG M n t) n i k = powG M n (t + 1) i k
  | 0, i, k, hi, hk => by
    show gmul M gid n i k = gmul gid M n i k
    rw [gmul_id M hk, id_gmul M hi]
  | t + 1, i, k, hi, hk => by
    have : gmul M (powG M n (t + 1)) n i k = gmul (gmul M (powG M n t) n) M n i k := by
      rw [gmul_assoc]; rfl
    rw [this, gmul_congr (fun i k hi hk => powG_front M n t i k hi hk) (fun _ _ _ _ => rfl) hi hk]
    rfl
theorem valG_Sm (M : Grid) (p : List Rat) (n i k : Nat) : ∀ t, valG M p n t i k = Sm (fun j => powG M n j i k * cf p j) t
  | 0 => rfl
  | t + 1 => by rw [valG_succ, valG_Sm M p n i k t]; rfl
theorem horG_val (M : Grid) (p : List Rat) (n : Nat) {i k : Nat} (hi : i < n) (hk : k < n) : horG M p n p.length i k = valG M p n p.length i k := by
  have key : ∀ r, r ≤ p.length → ∀ i k, i < n → k < n → horG M p n r i k = Sm (fun t => powG M n t i k * cf p (p.length - r + t)) r := by
    intro r
    induction r with
    | zero => intro _ i k _ _; rfl
    | succ r ih =>
      intro hr i k hi hk
      rw [horG_succ, Sm_front]
      have e1 : gmul M (horG M p n r) n i k = Sm (fun t => powG M n (t + 1) i k * cf p (p.length - (r + 1) + (t + 1))) r := by
        rw [gmul_congr (fun _ _ _ _ => rfl) (fun i k hi hk => ih (by omega) i k hi hk) hi hk]
        unfold gmul
        have e2 : (fun t => M i t * Sm (fun s => powG M n s t k * cf p (p.length - r + s)) r) = fun t => Sm (fun s => cf p (p.length - r + s) * (M i t * powG M n s t k)) r := by
          funext t
          rw [← Sm_mul]
          exact Sm_congr _ fun s _ => by grind
        rw [e2, Sm_swap (fun t s => cf p (p.length - r + s) * (M i t * powG M n s t k))]
        refine Sm_congr _ fun s _ => ?_
        rw [Sm_mul, show p.length - (r + 1) + (s + 1) = p.length - r + s by omega]
        have := powG_front M n s i k hi hk
        unfold gmul at this
        rw [this]; grind
      rw [e1, Nat.add_zero, show p.length - (r + 1) = p.length - 1 - r by omega]
      show _ + cf p (p.length - 1 - r) * gid i k = gid i k * cf p (p.length - 1 - r) + _
      grind
  rw [key _ (Nat.le_refl _) i k hi hk, valG_Sm, Nat.sub_self]
  exact Sm_congr _ fun t _ => by rw [Nat.zero_add]
/-! ### As the program reckons -/
def flP (M : Grid) (n : Nat) : Nat → Grid × Rat
  | 0 => (fun _ _ => 0, 1)
  | k + 1 =>
    let A : Grid := gmul M (fun i j => (flP M n k).1 i j + (flP M n k).2 * gid i j) n
    (A, Sm (fun i => A i i) n * (-1 / ((k : Rat) + 1)))
theorem flP_traces {M : Grid} {n : Nat} {c : Nat → Rat} {β : Nat → Nat → Nat → Rat} (h : ChrP M n c β) {k : Nat} (hk : k ≤ n) :
    (flP M n k).2 = c (n - k) ∧ ∀ i j, i < n → j < n → (flP M n k).1 i j + (flP M n k).2 * gid i j = if k < n then β i j (n - 1 - k) else 0 :=
  h.traces (fun k => (flP M n k).1) (fun k => (flP M n k).2) rfl (fun _ _ _ _ => rfl) (fun k hk i j hi hj => rfl) (fun k hk => rfl) k hk
/-- the matrix is a root of its characteristic polynomial -/
theorem root_own {M : Grid} {n : Nat} {c : Nat → Rat} {β : Nat → Nat → Nat → Rat} (h : ChrP M n c β) {i j : Nat} (hi : i < n) (hj : j < n) : horG M (mk (n + 1) c) n (n + 1) i j = 0 := by
  have key : ∀ r, r ≤ n → ∀ i j, i < n → j < n → horG M (mk (n + 1) c) n (r + 1) i j = (flP M n r).1 i j + (flP M n r).2 * gid i j := by
    intro r
    induction r with
    | zero =>
      intro _ i j _ _
      rw [horG_succ, mk_len, show n + 1 - 1 - 0 = n by omega, cf_mk, if_pos (by omega), h.top]
      have : gmul M (horG M (mk (n + 1) c) n 0) n i j = 0 := Sm_zero _ fun t _ => by
        show M i t * 0 = 0
        grind
      rw [this]; rfl
    | succ r ih =>
      intro hr i j hi hj
      rw [horG_succ, mk_len, cf_mk, if_pos (by omega), gmul_congr (fun _ _ _ _ => rfl) (fun i k hi hk => ih (by omega) i k hi hk) hi hj]
      have := (flP_traces h (k := r + 1) hr).1
      rw [this, show n + 1 - 1 - (r + 1) = n - (r + 1) by omega]
      rfl
  rw [key n (Nat.le_refl _) i j hi hj, (flP_traces h (Nat.le_refl n)).2 i j hi hj, if_neg (by omega)]
theorem detL_neg : ∀ (n : Nat) (G : Grid), detL n (fun i k => -G i k) = sg1 n * detL n G
  | 0, _ => by simp only [detL]; unfold sg1; rw [if_pos rfl]; grind
  | n + 1, G => by
    rw [detL, detL, ← Sm_mul, sg1_succ]
    refine Sm_congr _ fun j _ => ?_
    have : minor (fun i k => -G i k) j = fun i k => -minor G j i k := rfl
    rw [this, detL_neg n (minor G j)]
    grind
theorem ChrP.low {M : Grid} {n : Nat} {c : Nat → Rat} {β : Nat → Nat → Nat → Rat} (h : ChrP M n c β) : c 0 = sg1 n * detL n M := by
  have h1 := h.chi 0
  have e : detL n (fun i k => -M i k + 0 * gid i k) = detL n (fun i k => -M i k) := detL_congr n fun i k _ _ => by grind
  rw [e, detL_neg, pv, Sm_front, Sm_zero _ fun j _ => by rw [rpow_succ]; grind, rpow_zero] at h1
  grind
end Go.Proofs.YthoboehbadmlmaaGreat
end
section
namespace Go.Proofs.YthoboehbadmlmaaGreat
set_option linter.unusedVariables false
theorem Sm_QB {a : Nat} {f : Nat → Rat} : ∀ n, (∀ i, i < n → QB a (f i)) → QB (n * (a + 1)) (Sm f n)
  | 0, _ => QB_zero _
  | n + 1, h => by
    have h1 := Sm_QB n fun i hi => h i (by omega)
    refine (h1.add (h n (by omega))).mono ?_
    rw [Nat.add_mul]; omega
theorem Sm_QBk {a n : Nat} {f : Nat → Rat} (hn : n ≤ 5) (h : ∀ i, i < n → QB a (f i)) (k : Nat) (hk : k ≤ n) : QB (5 * (a + 1)) (Sm f k) :=
  (Sm_QB k fun i hi => h i (by omega)).mono (Nat.mul_le_mul_right _ (by omega))
theorem gid_QB (i k : Nat) : QB 0 (gid i k) := by
  unfold gid; split
  · exact QB_one 0
  · exact QB_zero 0
theorem gmul_QB {A B : Grid} {n a b : Nat} (hn : n ≤ 5) (ha : ∀ i k, i < n → k < n → QB a (A i k)) (hb : ∀ i k, i < n → k < n → QB b (B i k)) {i k : Nat} (hi : i < n) (hk : k < n) : QB (5 * (a + b + 1)) (gmul A B n i k) :=
  Sm_QBk hn (fun t ht => (ha i t hi ht).mul (hb t k ht hk)) n (Nat.le_refl _)
theorem rv_smal {n : Nat} (hn : n ≤ 8) : rv false n 1 = (n : Rat) := by
  have : n = 0 ∨ n = 1 ∨ n = 2 ∨ n = 3 ∨ n = 4 ∨ n = 5 ∨ n = 6 ∨ n = 7 ∨ n = 8 := by omega
  rcases this with rfl | rfl | rfl | rfl | rfl | rfl | rfl | rfl | rfl <;> decide +kernel
theorem smal_QB {n : Nat} (hn : n ≤ 8) : QB 3 (n : Rat) := by
  have : n = 0 ∨ n = 1 ∨ n = 2 ∨ n = 3 ∨ n = 4 ∨ n = 5 ∨ n = 6 ∨ n = 7 ∨ n = 8 := by omega
  rcases this with rfl | rfl | rfl | rfl | rfl | rfl | rfl | rfl | rfl <;> exact ⟨by decide, by decide⟩
theorem rv_part {n : Nat} (hn : n ≤ 7) : rv true 1 (n + 1) = -1 / ((n : Rat) + 1) := by
  have : n = 0 ∨ n = 1 ∨ n = 2 ∨ n = 3 ∨ n = 4 ∨ n = 5 ∨ n = 6 ∨ n = 7 := by omega
  rcases this with rfl | rfl | rfl | rfl | rfl | rfl | rfl | rfl <;> decide +kernel
theorem part_QB {n : Nat} (hn : n ≤ 7) : QB 3 (-1 / ((n : Rat) + 1)) := by
  rw [← rv_part hn]; exact QB_rv _ (by omega) (by omega)
/-- bounds of the numbers under way -/
def fb : Nat → Nat × Nat
  | 0 => (0, 0)
  | k + 1 =>
    let a := 5 * (97 + ((fb k).1 + (fb k).2 + 1) + 1)
    (a, 5 * (a + 1) + 3)
theorem flP_fb {M : Grid} {n : Nat} (hn : n ≤ 5) (hM : ∀ i k, i < n → k < n → QB 97 (M i k)) : ∀ k, k ≤ 7 → (∀ i j, i < n → j < n → QB (fb k).1 ((flP M n k).1 i j)) ∧ QB (fb k).2 (flP M n k).2
  | 0, _ => ⟨fun _ _ _ _ => QB_zero _, QB_one _⟩
  | k + 1, hk => by
    obtain ⟨h1, h2⟩ := flP_fb hn hM k (by omega)
    have ha : ∀ i j, i < n → j < n → QB (fb (k + 1)).1 ((flP M n (k + 1)).1 i j) := fun i j hi hj =>
      gmul_QB hn hM (fun i j hi hj => (h1 i j hi hj).add (h2.mul (gid_QB i j))) hi hj
    exact ⟨ha, (Sm_QBk hn (fun i hi => ha i i hi hi) n (Nat.le_refl _)).mul (part_QB (by omega))⟩
theorem fb_le {k : Nat} (hk : k ≤ 5) : (fb k).1 ≤ 500000000 ∧ (fb k).2 ≤ 2500000000 := by
  have : k = 0 ∨ k = 1 ∨ k = 2 ∨ k = 3 ∨ k = 4 ∨ k = 5 := by omega
  rcases this with rfl | rfl | rfl | rfl | rfl | rfl <;> decide
theorem flP_QB {M : Grid} {n : Nat} (hn : n ≤ 5) (hM : ∀ i k, i < n → k < n → QB 97 (M i k)) {k : Nat} (hk : k ≤ 5) : (∀ i j, i < n → j < n → QB 500000000 ((flP M n k).1 i j)) ∧ QB 2500000000 (flP M n k).2 :=
  ⟨fun i j hi hj => ((flP_fb hn hM k (by omega)).1 i j hi hj).mono (fb_le hk).1, (flP_fb hn hM k (by omega)).2.mono (fb_le hk).2⟩
/-- bounds of the values on the way up -/
def hb (C : Nat) : Nat → Nat
  | 0 => 0
  | r + 1 => 5 * (97 + hb C r + 1) + C + 1
theorem horG_hb {M : Grid} {n C : Nat} {p : List Rat} (hn : n ≤ 5) (hM : ∀ i k, i < n → k < n → QB 97 (M i k)) (hp : ∀ i, QB C (cf p i)) : ∀ r i k, i < n → k < n → QB (hb C r) (horG M p n r i k)
  | 0, _, _, _, _ => QB_zero _
  | r + 1, i, k, hi, hk => by
    rw [horG_succ]
    exact (gmul_QB hn hM (horG_hb hn hM hp r) hi hk).add ((hp _).mul (gid_QB i k))
theorem hb_mono (C : Nat) : ∀ {r s : Nat}, r ≤ s → hb C r ≤ hb C s := by
  intro r s h
  induction h with
  | refl => exact Nat.le_refl _
  | step h ih => rename_i m; refine Nat.le_trans ih ?_; show hb C m ≤ 5 * (97 + hb C m + 1) + C + 1; omega
theorem hb_top {C r : Nat} (hC : C ≤ 2500000000) (hr : r ≤ 6) : hb C r ≤ 10000000000000 := by
  have h := hb_mono C hr
  simp only [hb] at h
  omega
/-- the numbers from the end on are written -/
def bpart (N : Nat) (f : Nat → Rat) (k : Nat) : List (Option Rat) := (List.range N).map fun i => if N ≤ i + k then some (f i) else none
theorem bpart_len (N : Nat) (f : Nat → Rat) (k : Nat) : (bpart N f k).length = N := by simp [bpart]
theorem bpart_zero (N : Nat) (f : Nat → Rat) : bpart N f 0 = List.replicate N none := by
  unfold bpart
  refine List.ext_getElem? fun i => ?_
  by_cases hi : i < N
  · simp [hi]
  · rw [List.getElem?_eq_none (by simp; omega), List.getElem?_eq_none (by simp; omega)]
theorem bpart_step {N : Nat} (f : Nat → Rat) {k : Nat} (hk : k < N) : (bpart N f k).set (N - 1 - k) (some (f (N - 1 - k))) = bpart N f (k + 1) := by
  unfold bpart
  rw [mk_set]
  refine List.map_congr_left fun i hi => ?_
  have hi := List.mem_range.1 hi
  by_cases e : i = N - 1 - k
  · subst e; rw [if_pos rfl, if_pos (by omega)]
  · rw [if_neg e]
    by_cases h : N ≤ i + k
    · rw [if_pos h, if_pos (by omega)]
    · rw [if_neg h, if_neg (by omega)]
theorem bpart_all (N : Nat) (f : Nat → Rat) : bpart N f N = (Go.Proofs.YthoboehbadmlmaaGreat.mk N f).map some := by
  unfold bpart Go.Proofs.YthoboehbadmlmaaGreat.mk
  rw [List.map_map]
  refine List.map_congr_left fun i hi => ?_
  rw [if_pos (by omega)]; rfl
theorem bpart_at {N : Nat} {f : Nat → Rat} {k i : Nat} (hi : i < N) (h : N ≤ i + k) : (bpart N f k)[i]? = some (some (f i)) := by
  simp [bpart, hi, h]
end Go.Proofs.YthoboehbadmlmaaGreat
end
