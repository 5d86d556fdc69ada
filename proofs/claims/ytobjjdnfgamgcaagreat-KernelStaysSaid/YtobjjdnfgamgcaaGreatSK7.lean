/- The transition matrix of each of the four kernels is stochastic, leaves the posterior invariant and satisfies detailed balance, at every input. (part 7 of 13) -/
import Derived.OrdersHeld
import Derived.Below
import Derived.Tactics
import Derived.KernelRfl
import Derived.RangeFuncCalls
import Derived.RangeFuncFrom
import Derived.RangeFuncLeaves
import Derived.OrdersIn
import Derived.Laws.AppendOwn
import Derived.Laws.MakeOwn
import Derived.Laws.CopyRow
import Derived.Laws.Cells
import Derived.Laws.World
import Derived.Laws.Alloc2
import Derived.Laws.NewBlocks
import Derived.Maps.AppendAt
import Derived.Test.YtobjjdnfgamgcaaGreatProg
import Init.Data.List.Lemmas
import Init.Omega
import Derived.WalkKit
import Derived.ProofKit
import Derived.OpenShut
import Derived.ChangeOld
import Derived.SizedLaws
import Derived.ChangeSlices
import Derived.ChangeArms
import Derived.Deep.Slices
import Derived.Test.YtobjjdnfgamgcaaGreatSK6
section
namespace Go.Proofs.YtobjjdnfgamgcaaGreat
open Go Go.RowKit
set_option linter.unusedSimpArgs false
set_option linter.unusedVariables false
attribute [local irreducible] XWP Spec SpecO XPub XCall seqX clX apX stX ldX iaX slX
theorem st_one {P : Program} {t i off : Nat} {s : XS} {ops : Array Oper} {rest : List Oper} {K : XS → Prop} {d : Option Tmp} {v : Value} {vs : List Value} (hs : shapeT P t = some (false, 1)) (hb : s.bx[i]? = some vs) (h1 : isOne v = true) (hl : off < vs.length) (h : seqX P ops rest K (XS.put ⟨s.t, s.bx.set i (vs.set off v), s.H, s.V⟩ d (.v undef))) : stX P ops rest K s d t (.p i off) (.v v) := by
  unfold stX loudX
  have e0 : XS.ev ⟨[.p i off, .v v], s.bx, s.H, s.V⟩ (.tmp 0) = .p i off := rfl
  have e1 : XS.ev ⟨[.p i off, .v v], s.bx, s.H, s.V⟩ (.tmp 1) = .v v := rfl
  simp only [e0, e1, hs, hb]
  have ec : v.cells = #[v] := by cases v <;> first | rfl | cases h1
  refine ⟨by rw [ec]; rfl, by rw [ec]; simp [h1], by omega, ?_⟩
  have : splice vs off v.cells.toList = vs.set off v := by
    rw [ec]
    unfold splice
    rw [List.set_eq_take_append_cons_drop, if_pos hl]
    simp
  rw [this]; exact h
theorem placesT_26 : placesT Tryz.prog 26 = some [(0, 1), (1, 1), (2, 1)] := by kernel_rfl
theorem bd_mtx2 {x y : Value} (hx : isOne x = true) (hy : isOne y = true) : BuildsTo Tryz.prog 26 #[(0, x), (1, y)] (.agg #[x, y, .slice none 0 0]) := by
  refine bd_run placesT_26 zeroT_26 ?_
  show Instr.fill _ _ [(0, x), (1, y)] = _
  rw [fill_one (off := 0) rfl hx (by simp), fill_one (off := 1) rfl hy (by simp)]; rfl
theorem bd_mtx0 : BuildsTo Tryz.prog 26 #[] (.agg #[.int .i64 0, .int .i64 0, .slice none 0 0]) := by
  refine bd_run placesT_26 zeroT_26 ?_
  rfl
theorem own_isOne {H : Heap} {e sz n : Nat} {v : Value} {xs : List Value} (h : Own H e sz v n xs) : isOne v = true := by
  obtain ⟨_, ⟨rfl, _⟩ | ⟨g, cap, rfl, _⟩⟩ := h <;> rfl
end Go.Proofs.YtobjjdnfgamgcaaGreat
end
section
namespace Go.Proofs.YtobjjdnfgamgcaaGreat
open Go Go.RowKit
/-! ### The last box becomes a row -/
def rowS (m b : Nat) : SV → SV
  | .v x => .v x
  | .p j o => if j = m then .v (.pointer (some ⟨b, o, none⟩)) else .p j o
theorem rowS_v (m b : Nat) (x : Value) : rowS m b (.v x) = .v x := rfl
theorem rowS_p (m b j o : Nat) : rowS m b (.p j o) = if j = m then .v (.pointer (some ⟨b, o, none⟩)) else .p j o := rfl
theorem XWP.row1 {Γ : Cx} {P : Program} {c : Code} {Q : Exit → XS → Prop} {t : List SV} {bx : List (List Value)} {vs : List Value} {H : Heap} {V : View}
    (h : ∀ b e, H b = none → V b = none → XWP Γ P c Q ⟨t.map (rowS bx.length b), bx, upd H b (some ⟨e, vs, vs.length⟩), V⟩) : XWP Γ P c Q ⟨t, bx ++ [vs], H, V⟩ := by
  intro bl a w hc
  have hlt : bx.length < (bx ++ [vs]).length := by simp
  obtain ⟨ty, hh⟩ := hc.cw.box bx.length vs (by simp)
  obtain ⟨b1, b2, b3⟩ := hc.cs.bxH bx.length hlt
  refine h (bl bx.length) ty b1 b2 bl a w ⟨?_, hc.df, ⟨fun i us hi => hc.cw.box i us ?_, fun b r hb => ?_, hc.cw.view, hc.cw.below⟩, ⟨fun i j hi hj => hc.cs.inj i j (by dsimp only at hi ⊢; rw [List.length_append]; omega) (by dsimp only at hj ⊢; rw [List.length_append]; omega), fun i hi => ?_, fun b r hb => ?_, hc.cs.V0, hc.cs.frm⟩, fun x hx => ?_⟩
  · rw [hc.tm, List.map_map]
    congr 1
    refine List.map_congr_left fun x _ => ?_
    cases x with
    | v x => rfl
    | p j o =>
      simp only [Function.comp_apply, rowS]
      split
      · rename_i e; subst e; rfl
      · rfl
  · dsimp only at hi ⊢
    have hl : i < bx.length := (List.getElem?_eq_some_iff.1 hi).1
    rw [List.getElem?_append_left hl]; exact hi
  · dsimp only at hb
    unfold upd at hb
    split at hb
    · rename_i e; subst e; cases hb
      exact ⟨[], by simpa using hh, by simp⟩
    · exact hc.cw.row b r hb
  · dsimp only at hi
    have hl : i < (bx ++ [vs]).length := by rw [List.length_append]; omega
    have := hc.cs.bxH i hl
    refine ⟨?_, this.2⟩
    dsimp only
    unfold upd
    rw [if_neg (fun e => by have := hc.cs.inj i bx.length hl hlt e; omega)]; exact this.1
  · dsimp only at hb
    unfold upd at hb
    split at hb
    · rename_i e; subst e; exact ⟨b2, b3⟩
    · exact hc.cs.HV b r hb
  · obtain ⟨y, hy, rfl⟩ := List.mem_map.1 hx
    have := hc.ok y hy
    cases y with
    | v x => trivial
    | p j o =>
      have hj : j < (bx ++ [vs]).length := this
      show SV.ok _ (if j = bx.length then SV.v _ else .p j o)
      split
      · trivial
      · rename_i hne
        show j < bx.length
        rw [List.length_append] at hj
        simp only [List.length_cons, List.length_nil] at hj
        omega

theorem CW.nobox {Γ : Cx} {bl bl' : Nat → Nat} {bx : List (List Value)} {H : Heap} {V : View} {w : World} (h : CW Γ bl bx H V w) : CW Γ bl' [] H V w := ⟨fun i vs hi => by simp at hi, h.row, h.view, h.below⟩
theorem CS.nobox {Γ : Cx} {bl bl' : Nat → Nat} {bx : List (List Value)} {H : Heap} {V : View} (h : CS Γ bl bx H V) : CS Γ bl' [] H V := ⟨fun i j hi => by simp at hi, fun i hi => by simp at hi, h.HV, h.V0, h.frm⟩
theorem CW.cx {Γ Γ' : Cx} {bl : Nat → Nat} {bx : List (List Value)} {H : Heap} {V : View} {w : World} (h : CW Γ bl bx H V w) (e : Γ'.w0 = Γ.w0) : CW Γ' bl bx H V w := ⟨h.box, h.row, h.view, by rw [e]; exact h.below⟩
theorem CS.cx {Γ Γ' : Cx} {bl : Nat → Nat} {bx : List (List Value)} {H : Heap} {V : View} (h : CS Γ bl bx H V) (e : Γ'.w0 = Γ.w0) (e' : Γ'.V0 = Γ.V0) : CS Γ' bl bx H V := ⟨h.inj, fun i hi => by rw [e]; exact h.bxH i hi, fun b r hb => by rw [e]; exact h.HV b r hb, by rw [e']; exact h.V0, by rw [e, e']; exact h.frm⟩
theorem others_put {w w1 : World} {l : Nat} (h : KeepsOthers w1 w) (hl : w1.heap.size ≤ l) (o : Obj) : KeepsOthers w1 (w.putObj l o) :=
  ⟨by rw [World.putObj_size]; exact h.size, fun k ob hk ho => by
    have := (Array.getElem?_eq_some_iff.1 hk).1
    rw [World.putObj_heap_other (by omega)]; exact h.same k ob hk ho⟩
end Go.Proofs.YtobjjdnfgamgcaaGreat
end
section
namespace Go.Proofs.YtobjjdnfgamgcaaGreat
open Go Go.RowKit
set_option linter.unusedVariables false
/-- a row is published, anywhere -/
theorem XWP.pub {Γ : Cx} {P : Program} {c : Code} {Q : Exit → XS → Prop} {t : List SV} {bx : List (List Value)} {H : Heap} {V : View} (b : Nat) (r : Row) (hr : H b = some r)
    (h : ∀ o, RowObj r o → V.le (addV V b o) → XWP Γ P c Q ⟨t, bx, upd H b none, addV V b o⟩) : XWP Γ P c Q ⟨t, bx, H, V⟩ := by
  intro bl a w hc
  obtain ⟨o, ho, h3, h4, _, h6⟩ := pub_row hc.cw hc.cs hr
  exact h o ho h6 bl a w ⟨hc.tm, hc.df, h3, h4, hc.ok⟩
/-- a row made new is none that is there -/
theorem new_ne {H : Heap} {b g : Nat} {r : Row} (hb : H b = none) (hg : H g = some r) : g ≠ b := fun e => by rw [e, hb] at hg; cases hg
def MPost (P : Program) (rs : List ResultVar) (R : Value → Heap → View → Prop) : Exit → XS → Prop
  | .normal, s | .ret, s => XPub (fun s' => ∃ vs, resAll P s' rs = some vs ∧ R (oneOf vs) s'.H s'.V) s
  | _, _ => False
/-- A contract over the caller's own rows: from (H, V) to a result and (H', V'). -/
def MSpec (P : Program) (f : FuncId) (args : List Value) (H : Heap) (V : View) (R : Value → Heap → View → Prop) : Prop :=
  ∃ fn c, P.funcs[f]? = some fn ∧ fn.body = some c ∧ ∀ Γ : Cx, Γ.Plain → XWP Γ P c (MPost P fn.results.toList R) ⟨args.map .v ++ List.replicate (fn.ntmps - args.length) (.v undef), [], H, V⟩
theorem MPost_ret {P : Program} {rs : List ResultVar} {R : Value → Heap → View → Prop} {s : XS} : MPost P rs R .ret s = XPub (fun s' => ∃ vs, resAll P s' rs = some vs ∧ R (oneOf vs) s'.H s'.V) s := rfl
theorem MPost_normal {P : Program} {rs : List ResultVar} {R : Value → Heap → View → Prop} {s : XS} : MPost P rs R .normal s = XPub (fun s' => ∃ vs, resAll P s' rs = some vs ∧ R (oneOf vs) s'.H s'.V) s := rfl
theorem MPost.mono {P : Program} {rs : List ResultVar} {R R' : Value → Heap → View → Prop} (hr : ∀ v H V, R v H V → R' v H V) {e : Exit} {s : XS} (h : MPost P rs R e s) : MPost P rs R' e s := by
  cases e with
  | normal => rw [MPost_normal] at h ⊢; exact XPub.mono h fun s' ⟨vs, h1, h2⟩ => ⟨vs, h1, hr _ _ _ h2⟩
  | ret => rw [MPost_ret] at h ⊢; exact XPub.mono h fun s' ⟨vs, h1, h2⟩ => ⟨vs, h1, hr _ _ _ h2⟩
  | _ => exact h
theorem MSpec.mono {P : Program} {f : FuncId} {args : List Value} {H : Heap} {V : View} {R R' : Value → Heap → View → Prop} (h : MSpec P f args H V R) (hr : ∀ v H V, R v H V → R' v H V) : MSpec P f args H V R' := by
  obtain ⟨fn, c, h1, h2, h3⟩ := h
  exact ⟨fn, c, h1, h2, fun Γ hΓ => (h3 Γ hΓ).mono fun e s h => h.mono hr⟩
theorem MSpec.enter {P : Program} {f : FuncId} {fn : Func} {c : Code} {args : List Value} {H : Heap} {V : View} {R : Value → Heap → View → Prop} (hf : P.funcs[f]? = some fn) (hb : fn.body = some c)
    (h : ∀ Γ : Cx, Γ.Plain → XWP Γ P c (MPost P fn.results.toList R) ⟨args.map .v ++ List.replicate (fn.ntmps - args.length) (.v undef), [], H, V⟩) : MSpec P f args H V R := ⟨fn, c, hf, hb, h⟩
theorem retM_go {P : Program} {rs : List ResultVar} {R : Value → Heap → View → Prop} {s : XS} (vs : List Value) (h : resAll P s rs = some vs) (hR : R (oneOf vs) s.H s.V) : MPost P rs R .ret s := by rw [MPost_ret]; exact XPub.now ⟨vs, h, hR⟩
theorem leave_marksK {Γ : Cx} {P : Program} {bl : Nat → Nat} {bx : List (List Value)} {H : Heap} {V : View} (hV0 : Γ.V0.sub Γ.w0) (W0 : World) {fn : Func} {R : Ending → World → Prop} {tmps : Array Value} (hs : CS Γ bl bx H V) : ∀ (ms : List Nat) (w : World), CW Γ bl bx H V w → KeepsOthers W0 w → ms.Nodup → (∀ D ∈ ms, (Γ.w0.heap.size ≤ D ∧ W0.heap.size ≤ D) ∧ w.heap[D]? = some (.deferred (some []))) →
    (∀ w', CW Γ bl bx H V w' → KeepsOthers W0 w' → ∃ v, (results fn tmps).run P w' = .ok v w' ∧ R (.returned v) w') → LeavesInM Fence.wide 0 P fn tmps R (ms.map fun D => { target := .collected D, args := #[] }) .returning w
  | [], w, h, ho, _, _, k => k w h ho
  | D :: ms, w, h, ho, hn, hD, k => by
    obtain ⟨⟨h1, h1'⟩, h2⟩ := hD D (by simp)
    obtain ⟨n1, n2⟩ := List.nodup_cons.1 hn
    refine ⟨by simp, .inl ⟨D, _, rfl, run_takeDeferred h2, leave_marksK hV0 W0 hs ms _ (h.turn hV0 hs h2 rfl h1 _) (others_put ho h1' _) n2 (fun E hE => ?_) k⟩⟩
    obtain ⟨h3, h4⟩ := hD E (by simp [hE])
    exact ⟨h3, (World.putObj_heap_other (fun e => n1 (by rw [← e]; exact hE))).trans h4⟩
/-- The call, in the world. -/
theorem MSpec.calls {P : Program} {f : FuncId} {args : List Value} {H : Heap} {V : View} {R : Value → Heap → View → Prop} (h : MSpec P f args H V R) {Γ : Cx} (hV0 : Γ.V0.sub Γ.w0) {bl : Nat → Nat} {w : World} (hw : CW Γ bl [] H V w) (hs : CS Γ bl [] H V) :
    Calls P f args.toArray w fun e w' => ∃ v H' V', e = .returned v ∧ CW Γ bl [] H' V' w' ∧ CS Γ bl [] H' V' ∧ KeepsOthers w w' ∧ R v H' V' := by
  obtain ⟨fn, c, hf, hb, h⟩ := h
  refine (callsIn_wide (n := 0)).1 (callsIn_of_wp_marks hf hb trivial ?_)
  have hc : Conc ⟨Γ.w0, Γ.V0, w, none⟩ bl ⟨args.map .v ++ List.replicate (fn.ntmps - args.length) (.v undef), [], H, V⟩ { tmps := args.toArray ++ Array.replicate (fn.ntmps - args.toArray.size) undef, defers := [] } w := by
    refine ⟨?_, ⟨⟨[], rfl, List.nodup_nil, fun D hD => by simp at hD⟩, KeepsOthers.refl _⟩, hw.cx rfl, hs.cx rfl rfl, fun x hx => ?_⟩
    · have e1 : (SV.conc bl) ∘ SV.v = id := rfl
      have e2 : (SV.conc bl (SV.v undef)) = undef := rfl
      simp [List.map_append, List.map_map, List.map_replicate, e1, e2]
    · simp only [List.mem_append, List.mem_map, List.mem_replicate] at hx
      rcases hx with ⟨_, _, rfl⟩ | ⟨_, rfl⟩ <;> trivial
  refine wpIn_mono (h ⟨Γ.w0, Γ.V0, w, none⟩ ⟨rfl, hV0⟩ bl _ w hc) ?_
  have fin : ∀ bl1 s a w', Conc ⟨Γ.w0, Γ.V0, w, none⟩ bl1 s a w' → MPost P fn.results.toList R .ret s → LeavesInM Fence.wide 0 P fn a.tmps (fun e w' => ∃ v H' V', e = .returned v ∧ CW Γ bl [] H' V' w' ∧ CS Γ bl [] H' V' ∧ KeepsOthers w w' ∧ R v H' V') a.defers .returning w' := by
    intro bl1 s a w' hC hR
    obtain ⟨H', V', h1, h2, _, _, vs, hvs, hR⟩ := hR ⟨Γ.w0, Γ.V0, w, none⟩ bl1 w' hC.cw hC.cs
    obtain ⟨⟨ms, e1, e2, e3⟩, e4⟩ := hC.df
    rw [e1]
    refine leave_marksK (Γ := ⟨Γ.w0, Γ.V0, w, none⟩) hV0 w h2 ms w' h1 e4 e2 (fun D hD => ⟨⟨Nat.le_trans (Cx.base_ge _) (e3 D hD).1, Nat.le_trans (Cx.base_w1 ⟨Γ.w0, Γ.V0, w, none⟩ rfl) (e3 D hD).1⟩, (e3 D hD).2⟩) fun w'' h3 h4 => ⟨_, ?_, _, H', V', rfl, (h3.cx (Γ' := Γ) rfl).nobox, (h2.cx (Γ' := Γ) rfl rfl).nobox, h4, hR⟩
    exact results_run (Γ := ⟨Γ.w0, Γ.V0, w, none⟩) (a := { tmps := a.tmps, defers := [] }) (s := ⟨s.t, s.bx, H', V'⟩) ⟨hC.tm, ⟨⟨[], rfl, List.nodup_nil, fun D hD => by simp at hD⟩, h4⟩, h3, h2, hC.ok⟩ vs hvs
  rintro e a w' ⟨bl1, s, hC, hq⟩
  cases e with
  | normal => exact fin bl1 s a w' hC hq
  | ret => exact fin bl1 s a w' hC hq
  | _ => exact hq.elim

section
variable {Γ : Cx} {P : Program} {ops : Array Oper} {Q : Exit → XS → Prop}
/-- operations in the order of the text, then what follows -/
theorem seqX_ops (rest : List Nat) : ∀ (l : List Oper) (k : Nat) (K : XS → Prop), (∀ i o, l[i]? = some o → ops[k + i]? = some o) → ∀ bl s a w, Conc Γ bl s a w → guardsIn ops s.t.length = true → seqX P ops l K s →
    (∀ bl s a w, Conc Γ bl s a w → guardsIn ops s.t.length = true → K s → wpOps P ops (XQ Γ (onlyN Q)) rest a w) → wpOps P ops (XQ Γ (onlyN Q)) (List.range' k l.length ++ rest) a w
  | [], k, K, _, bl, s, a, w, hc, hg, h, hk => by simpa using hk bl s a w hc hg h
  | o :: l, k, K, hi, bl, s, a, w, hc, hg, h, hk => by
    have ho : ops[k]? = some o := by simpa using hi 0 o (by simp)
    simp only [List.length_cons, List.range'_succ, List.cons_append]
    rw [wpOps_cons]
    refine wpOp_mono ?_ (wpOp_size hc.len (stepX_wp ho (guardsIn_spec hg ho) hc h (XQ Γ (onlyN Q))))
    rintro a' w' ⟨hsz, bl', s', hc', _, hk'⟩
    refine seqX_ops rest l (k + 1) K (fun i o' h' => ?_) bl' s' a' w' hc' (by rw [← hc'.len, hsz]; exact hg) hk' hk
    have := hi (i + 1) o' (by simpa using h')
    rw [show k + 1 + i = k + (i + 1) by omega]; exact this
end
end Go.Proofs.YtobjjdnfgamgcaaGreat
end
section
namespace Go.Proofs.YtobjjdnfgamgcaaGreat
open Go Go.RowKit
set_option linter.unusedSimpArgs false
set_option linter.unusedVariables false
attribute [local irreducible] XWP Spec SpecO XPub XCall seqX clX apX stX ldX iaX slX
/-- the slice v reads as xs, a cell each -/
def Sl1 {α : Type} (E : El α) (V : View) (v : Value) (xs : List α) : Prop := ∃ A c, v = .slice A xs.length c ∧ xs.length ≤ c ∧ c ≤ 9223372036854775807 ∧ (xs = [] ∨ ∃ b o arr ty fr, A = some ⟨b, o, none⟩ ∧ V b = some (.cells arr ty fr) ∧ ∀ (i : Nat) (x : α), xs[i]? = some x → ∃ u, arr[o + i]? = some u ∧ isOne u = true ∧ E V u x)
/-- the cells of a private row read as xs -/
def R1At {α : Type} (E : El α) (V : View) (cells : List Value) (xs : List α) : Prop := cells.length = xs.length ∧ ∀ (i : Nat) (x : α), xs[i]? = some x → ∃ u, cells[i]? = some u ∧ isOne u = true ∧ E V u x
section
variable {α : Type} {E : El α}
theorem Sl1.mono (hE : ElOk E) {V V' : View} {v : Value} {xs : List α} (h : Sl1 E V v xs) (hV : V.le V') : Sl1 E V' v xs := by
  obtain ⟨A, c, e, h1, h2, h3⟩ := h
  refine ⟨A, c, e, h1, h2, ?_⟩
  rcases h3 with h3 | ⟨b, o, arr, ty, fr, e1, e2, h4⟩
  · exact .inl h3
  · exact .inr ⟨b, o, arr, ty, fr, e1, hV _ _ e2, fun i x hi => by obtain ⟨u, a, b, d⟩ := h4 i x hi; exact ⟨u, a, b, hE _ _ _ _ hV d⟩⟩
theorem Sl1.form {V : View} {v : Value} {xs : List α} (h : Sl1 E V v xs) : ∃ A c, v = .slice A xs.length c ∧ xs.length ≤ c ∧ c ≤ 9223372036854775807 := by
  obtain ⟨A, c, e, h1, h2, _⟩ := h; exact ⟨A, c, e, h1, h2⟩
theorem Sl1.addr {V : View} {A : Option Addr} {n c : Nat} {xs : List α} (h : Sl1 E V (.slice A n c) xs) (hk : 0 < xs.length) : ∃ b o, A = some ⟨b, o, none⟩ := by
  obtain ⟨A', c', e, _, _, h3⟩ := h
  cases e
  rcases h3 with rfl | ⟨b, o, _, _, _, e1, _⟩
  · simp at hk
  · exact ⟨b, o, e1⟩
theorem Sl1.load {V : View} {b o n c : Nat} {xs : List α} (h : Sl1 E V (.slice (some ⟨b, o, none⟩) n c) xs) (i : Nat) (hi : i < xs.length) : ∃ u, E V u xs[i] ∧ isOne u = true ∧ ∀ H (t m : Nat), shapeT Tryz.prog t = some (false, m) → Loads Tryz.prog H V t b (o + i) u := by
  obtain ⟨A', c', e, _, _, h3⟩ := h
  cases e
  rcases h3 with rfl | ⟨b', o', arr, ty, fr, e1, e2, h4⟩
  · simp at hi
  · cases e1
    obtain ⟨u, g1, g2, g3⟩ := h4 i xs[i] (List.getElem?_eq_getElem hi)
    exact ⟨u, g3, g2, fun H t m ht => ⟨false, m, ht, .inr ⟨rfl, .inr ⟨arr, ty, fr, e2, g1⟩⟩⟩⟩
theorem R1At.mono (hE : ElOk E) {V V' : View} {cells : List Value} {xs : List α} (h : R1At E V cells xs) (hV : V.le V') : R1At E V' cells xs := ⟨h.1, fun i x hi => by obtain ⟨u, a, b, d⟩ := h.2 i x hi; exact ⟨u, a, b, hE _ _ _ _ hV d⟩⟩
theorem R1At.pub (hE : ElOk E) {V : View} {b n c tot e : Nat} {o : Obj} {cells : List Value} {xs : List α} (h : R1At E V cells xs) (ho : RowObj ⟨e, cells, tot⟩ o) (hle : V.le (addV V b o)) (hn : xs.length = n) (hc : n ≤ c) (hm : c ≤ 9223372036854775807) : Sl1 E (addV V b o) (.slice (some ⟨b, 0, none⟩) n c) xs := by
  obtain ⟨ex, rfl, _⟩ := ho
  refine ⟨some ⟨b, 0, none⟩, c, by rw [hn], by omega, hm, .inr ⟨b, 0, _, e, (0, 0), rfl, by simp [addV]; rfl, fun i x hi => ?_⟩⟩
  obtain ⟨u, g1, g2, g3⟩ := h.2 i x hi
  have hlt : i < xs.length := by
    rcases Nat.lt_or_ge i xs.length with h1 | h1
    · exact h1
    · rw [List.getElem?_eq_none h1] at hi; cases hi
  refine ⟨u, ?_, g2, hE _ _ _ _ hle g3⟩
  simp only [Nat.zero_add, List.getElem?_toArray]; rw [List.getElem?_append_left (by have := h.1; omega)]; exact g1
theorem R1At.set {V : View} {cells : List Value} {xs : List α} (h : R1At E V cells xs) (i : Nat) (hi : i < xs.length) {u : Value} {x : α} (h1 : isOne u = true) (hx : E V u x) : R1At E V (cells.set i u) (xs.set i x) := by
  refine ⟨by rw [List.length_set, List.length_set]; exact h.1, fun j y hj => ?_⟩
  by_cases e : i = j
  · subst e
    rw [List.getElem?_set_self hi] at hj
    cases hj
    exact ⟨u, by rw [List.getElem?_set_self (by rw [h.1]; exact hi)], h1, hx⟩
  · rw [List.getElem?_set_ne e] at hj ⊢
    exact h.2 j y hj
theorem R1At.rep {V : View} {u : Value} {x : α} (n : Nat) (h1 : isOne u = true) (hx : E V u x) : R1At E V (List.replicate n u) (List.replicate n x) :=
  ⟨by simp, fun i y hi => by
    have hlt : i < n := by
      rcases Nat.lt_or_ge i n with h | h
      · exact h
      · rw [List.getElem?_eq_none (by simpa using h)] at hi; cases hi
    rw [List.getElem?_replicate, if_pos hlt] at hi
    cases hi
    exact ⟨u, by rw [List.getElem?_replicate, if_pos hlt], h1, hx⟩⟩
end
theorem flat_one {n : Nat} (u : Value) : (List.replicate n [u]).flatten = List.replicate n u := by
  induction n with
  | zero => rfl
  | succ n ih => rw [List.replicate_succ, List.flatten_cons, ih, List.replicate_succ]; rfl
end Go.Proofs.YtobjjdnfgamgcaaGreat
end
section
namespace Go.Proofs.YtobjjdnfgamgcaaGreat
set_option linter.unusedVariables false
end Go.Proofs.YtobjjdnfgamgcaaGreat
end
section
namespace Go.Proofs.YtobjjdnfgamgcaaGreat
set_option linter.unusedVariables false
theorem Sm_nonneg {f : Nat → Rat} (n : Nat) (h : ∀ j, j < n → 0 ≤ f j) : 0 ≤ Sm f n := by
  induction n with
  | zero => exact Rat.le_refl
  | succ n ih => simp only [Sm]; have h1 := ih fun j hj => h j (by omega); have h2 := h n (by omega); grind
theorem Sm_le {f g : Nat → Rat} (n : Nat) (h : ∀ j, j < n → f j ≤ g j) : Sm f n ≤ Sm g n := by
  induction n with
  | zero => exact Rat.le_refl
  | succ n ih => simp only [Sm]; have h1 := ih fun j hj => h j (by omega); have h2 := h n (by omega); grind
theorem Sm_swap (f : Nat → Nat → Rat) (n m : Nat) : Sm (fun i => Sm (f i) m) n = Sm (fun j => Sm (fun i => f i j) n) m := by
  induction n with
  | zero => simp only [Sm]; exact (Sm_zero m fun j _ => rfl).symm
  | succ n ih => simp only [Sm, ih, Sm_add]
end Go.Proofs.YtobjjdnfgamgcaaGreat
end
section
namespace Go.Proofs.YtobjjdnfgamgcaaGreat
set_option linter.unusedVariables false
end Go.Proofs.YtobjjdnfgamgcaaGreat
end
section
namespace Go.Proofs.YtobjjdnfgamgcaaGreat
open Go Go.RowKit
set_option linter.unusedSimpArgs false
set_option linter.unusedVariables false
attribute [local irreducible] XWP Spec SpecO XPub XCall seqX clX apX stX ldX iaX slX
/-- a grid, row by row -/
def flatF (G : Grid) (C : Nat) (p : Nat) : Rat := G (p / C) (p % C)
def flatG (G : Grid) (R C : Nat) : List Rat := mk (R * C) (flatF G C)
theorem flatF_at (G : Grid) {C i k : Nat} (hk : k < C) : flatF G C (i * C + k) = G i k := by
  unfold flatF
  have e1 : (i * C + k) / C = i := by rw [Nat.mul_comm, Nat.mul_add_div (by omega), Nat.div_eq_of_lt hk, Nat.add_zero]
  have e2 : (i * C + k) % C = k := by rw [Nat.mul_comm, Nat.mul_add_mod, Nat.mod_eq_of_lt hk]
  rw [e1, e2]
theorem flatG_len (G : Grid) (R C : Nat) : (flatG G R C).length = R * C := mk_len _ _
theorem pos_lt {R C i k : Nat} (hi : i < R) (hk : k < C) : i * C + k < R * C := by
  have := Nat.mul_le_mul_right C (show i + 1 ≤ R by omega)
  rw [Nat.add_mul, Nat.one_mul] at this; omega
theorem flatG_at (G : Grid) {R C i k : Nat} (hi : i < R) (hk : k < C) : cf (flatG G R C) (i * C + k) = G i k := by
  unfold flatG
  rw [cf_mk, if_pos (pos_lt hi hk), flatF_at G hk]
section
variable {Γ : Cx} {P : Program} {Q : Exit → XS → Prop} {t : List SV} {bx : List (List Value)} {H : Heap} {V : View}
/-- an own list of fractions is published -/
theorem XWP.pubR {α : Type} {E : El α} (hE : ElOk E) {c : Code} {e n : Nat} {v : Value} {cells : List Value} {l : List α} (hown : Own H e 3 v n cells) (hrow : RowAt E V cells l) (h : ∀ H' V', V.le V' → SlAt E V' v l → (∀ k, v.ownBlock ≠ some k → H' k = H k) → XWP Γ P c Q ⟨t, bx, H', V'⟩) : XWP Γ P c Q ⟨t, bx, H, V⟩ := by
  have h1 := hown.1
  have h2 := hrow.1
  have hl : l.length = n := by omega
  rcases own_parts hown with ⟨rfl, h0, _⟩ | ⟨g, cap, rfl, hg, hle, hcap, _⟩
  · refine h H V (View.le_refl _) ?_ fun _ _ => rfl
    rw [List.length_eq_zero_iff.1 (show l.length = 0 by omega)]; exact SlAt.nil V
  · refine XWP.pub g _ hg fun o ho hle' => h _ _ hle' (hrow.pub hE ho hle' hl hle (by unfold maxLen at hcap; omega)) fun k hk => ?_
    unfold upd
    rw [if_neg fun e => hk (by rw [e]; rfl)]
variable {ops : Array Oper} {rest : List Oper} {K : XS → Prop} {s : XS} {d : Option Tmp}
/-- a call of a function value with captures -/
theorem call_gob {f : FuncId} {ys lb : List Value} {R : Value → View → Prop} (hc : callable P f = true) (hs : Spec P f (ys ++ lb) s.V R)
    (h : ∀ v V', s.V.le V' → R v V' → seqX P ops rest K (XS.put ⟨s.t, s.bx, s.H, V'⟩ d (.v v))) : clX P ops rest K s d f (ys.map .v ++ lb.map .v) := by
  have e1 : ((ys.map SV.v ++ lb.map SV.v).all SV.isV) = true := by
    rw [← List.map_append, List.all_map]; exact List.all_eq_true.2 fun _ _ => rfl
  have e2 : (ys.map SV.v ++ lb.map SV.v).map SV.val = ys ++ lb := by
    rw [← List.map_append, List.map_map]; exact List.map_id' _
  exact call_go hc e1 (by rw [e2]; exact hs) h
end
end Go.Proofs.YtobjjdnfgamgcaaGreat
end
section
namespace Go.Proofs.YtobjjdnfgamgcaaGreat
open Go Go.RowKit
set_option linter.unusedSimpArgs false
set_option linter.unusedVariables false
attribute [local irreducible] XWP Spec SpecO XPub XCall seqX clX apX stX ldX iaX slX
theorem wr_mul {i C : Nat} (hi : i ≤ 1000) (hC : C ≤ 1000) : IntKind.i64.wrap ((i : Int) * (C : Int)) = ((i * C : Nat) : Int) := by
  have := Nat.mul_le_mul hi hC
  rw [← Int.natCast_mul, wrap_id (by omega) (by omega)]
theorem wr_add {p k : Nat} (hp : p ≤ 1000000) (hk : k ≤ 1000000) : IntKind.i64.wrap ((p : Int) + (k : Int)) = ((p + k : Nat) : Int) := by rw [wrap_id (by omega) (by omega)]; omega
end Go.Proofs.YtobjjdnfgamgcaaGreat
end
section
namespace Go.Proofs.YtobjjdnfgamgcaaGreat
open Go Go.RowKit
set_option linter.unusedSimpArgs false
set_option linter.unusedVariables false
attribute [local irreducible] XWP Spec SpecO XPub XCall seqX clX apX stX ldX iaX slX
end Go.Proofs.YtobjjdnfgamgcaaGreat
end
section
namespace Go.Proofs.YtobjjdnfgamgcaaGreat
open Go Go.RowKit
set_option linter.unusedSimpArgs false
set_option linter.unusedVariables false
attribute [local irreducible] XWP Spec SpecO XPub XCall seqX clX apX stX ldX iaX slX
theorem row_obj {e : TypeId} {vs : List Value} {o : Obj} (h : RowObj ⟨e, vs, vs.length⟩ o) : o = .cells vs.toArray e (0, 0) := by
  obtain ⟨ex, rfl, hl⟩ := h
  have : ex = [] := List.length_eq_zero_iff.1 (by simpa using hl)
  rw [this, List.append_nil]
theorem ldV1 {V : View} {b e : Nat} {vs : List Value} {fr} (h : V b = some (.cells vs.toArray e fr)) {off t m : Nat} {u : Value} (hu : vs[off]? = some u) (ht : shapeT Tryz.prog t = some (false, m)) (H : Heap) : Loads Tryz.prog H V t b off u :=
  ⟨false, m, ht, .inr ⟨rfl, .inr ⟨_, e, fr, h, by rw [List.getElem?_toArray]; exact hu⟩⟩⟩
theorem addV_at (V : View) (b : Nat) (o : Obj) : addV V b o b = some o := by unfold addV; rw [if_pos rfl]
end Go.Proofs.YtobjjdnfgamgcaaGreat
end
section
namespace Go.Proofs.YtobjjdnfgamgcaaGreat
open Go Go.RowKit
set_option linter.unusedSimpArgs false
set_option linter.unusedVariables false
attribute [local irreducible] XWP Spec SpecO XPub XCall seqX clX apX stX ldX iaX slX
end Go.Proofs.YtobjjdnfgamgcaaGreat
end
section
namespace Go.Proofs.YtobjjdnfgamgcaaGreat
open Go Go.RowKit
set_option linter.unusedSimpArgs false
set_option linter.unusedVariables false
attribute [local irreducible] XWP Spec SpecO XPub XCall seqX clX apX stX ldX iaX slX
/-- the sum of a list, from the first on -/
def sumL (l : List Rat) (k : Nat) : Rat := Sm (cf l) k
theorem sumL_QB {l : List Rat} {B : Nat} (h : ∀ x ∈ l, QB B x) : ∀ k, k ≤ l.length → QB (k * (B + 1)) (sumL l k)
  | 0, _ => QB_zero _
  | k + 1, hk => by
    have ih := sumL_QB h k (by omega)
    have h2 := h _ (cf_mem (l := l) (i := k) (by omega))
    exact (ih.add h2).mono (by rw [Nat.add_mul]; omega)
end Go.Proofs.YtobjjdnfgamgcaaGreat
end
section
namespace Go.Proofs.YtobjjdnfgamgcaaGreat
open Go Go.RowKit
abbrev conc0 (t : List SV) : Array Value := (t.map (SV.conc fun _ => 0)).toArray
def YQ (Q : Exit → List SV → World → Prop) : Exit → Act → World → Prop := fun e a W => ∃ t, a.tmps = conc0 t ∧ a.defers = [] ∧ Q e t W
def YW (P : Program) (c : Code) (Q : Exit → List SV → World → Prop) (t : List SV) (W : World) : Prop :=
  ∀ a : Act, a.tmps = conc0 t → a.defers = [] → c.wpIn Fence.wide 0 P (YQ Q) a W
section
variable {P : Program} {Q : Exit → List SV → World → Prop} {t : List SV} {W : World}
end
end Go.Proofs.YtobjjdnfgamgcaaGreat
end
section
namespace Go.Proofs.YtobjjdnfgamgcaaGreat
open Go Go.RowKit
set_option linter.unusedSimpArgs false
set_option linter.unusedVariables false
attribute [local irreducible] XWP Spec SpecO XPub XCall seqX clX apX stX ldX iaX slX
end Go.Proofs.YtobjjdnfgamgcaaGreat
end
section
namespace Go.Proofs.YtobjjdnfgamgcaaGreat
open Go Go.RowKit
set_option linter.unusedSimpArgs false
set_option linter.unusedVariables false
attribute [local irreducible] XWP Spec SpecO XPub XCall seqX clX apX stX ldX iaX slX
end Go.Proofs.YtobjjdnfgamgcaaGreat
end
section
namespace Go.Proofs.YtobjjdnfgamgcaaGreat
open Go Go.RowKit
set_option linter.unusedSimpArgs false
set_option linter.unusedVariables false
attribute [local irreducible] XWP Spec SpecO XPub XCall seqX clX apX stX ldX iaX slX
attribute [local irreducible] YW
/-- the program's way: from the highest power down -/
def hor (l : List Rat) (x : Rat) : Nat → Rat
  | 0 => 0
  | r + 1 => hor l x r * x + cf l (l.length - 1 - r)
end Go.Proofs.YtobjjdnfgamgcaaGreat
end
section
namespace Go.Proofs.YtobjjdnfgamgcaaGreat
open Go Go.RowKit
set_option linter.unusedSimpArgs false
set_option linter.unusedVariables false
attribute [local irreducible] XWP Spec SpecO XPub XCall seqX clX apX stX ldX iaX slX
attribute [local irreducible] YW
/-- a row of a stochastic matrix -/
def rowOk (l : List Rat) (C i : Nat) : Bool := ((List.range C).all fun k => !ng (cf l (i * C + k))) && decide (Sm (fun k => cf l (i * C + k)) C = 1)
def stoB (r c : Int) (L : List Raw) : Bool := (matR r c L && decide (r = c)) && (List.range r.toNat).all (rowOk (qs L) c.toNat)
theorem cf_row {l : List Rat} {R C i k : Nat} (hl : l.length = R * C) (hi : i < R) (hk : k < C) : cf ((l.take ((i + 1) * C)).drop (i * C)) k = cf l (i * C + k) := by
  have h1 := pos_lt hi hk
  have h2 : i * C + k < (i + 1) * C := by rw [Nat.add_mul, Nat.one_mul]; omega
  have h3 : (i + 1) * C ≤ l.length := by rw [hl]; exact Nat.mul_le_mul_right C (by omega)
  have e1 : k < ((l.take ((i + 1) * C)).drop (i * C)).length := by rw [List.length_drop, List.length_take]; omega
  rw [← cf_get e1, ← cf_get (show i * C + k < l.length by omega)]
  simp
theorem row_len {l : List Rat} {R C i : Nat} (hl : l.length = R * C) (hi : i < R) : ((l.take ((i + 1) * C)).drop (i * C)).length = C := by
  have h3 : (i + 1) * C ≤ l.length := by rw [hl]; exact Nat.mul_le_mul_right C (by omega)
  rw [List.length_drop, List.length_take, Nat.min_eq_left h3, Nat.add_mul, Nat.one_mul]; omega
end Go.Proofs.YtobjjdnfgamgcaaGreat
end
section
namespace Go.Proofs.YtobjjdnfgamgcaaGreat
set_option linter.unusedVariables false
end Go.Proofs.YtobjjdnfgamgcaaGreat
end
section
namespace Go.Proofs.YtobjjdnfgamgcaaGreat
open Go Go.RowKit
set_option linter.unusedVariables false
section
variable {P : Program} {b : Frame} {a : Act} {k : List Item} {cs : List Frame} {w : World}
end
end Go.Proofs.YtobjjdnfgamgcaaGreat
end
section
namespace Go.Proofs.YtobjjdnfgamgcaaGreat
theorem XN : type_of% (And.intro (And.intro (And.intro (@elemT_39) (@kindT_39)) (And.intro (@shapeT_39) (@zeroT_39))) (And.intro (And.intro (@elemT_73) (@kindT_73)) (And.intro (@shapeT_73) (@zeroT_73)))) := And.intro (And.intro (And.intro (@elemT_39) (@kindT_39)) (And.intro (@shapeT_39) (@zeroT_39))) (And.intro (And.intro (@elemT_73) (@kindT_73)) (And.intro (@shapeT_73) (@zeroT_73)))
end Go.Proofs.YtobjjdnfgamgcaaGreat
end
section
namespace Go.Proofs.YtobjjdnfgamgcaaGreat
open Go Go.RowKit
set_option linter.unusedSimpArgs false
set_option linter.unusedVariables false
attribute [local irreducible] XWP Spec SpecO XPub XCall seqX clX apX stX ldX iaX slX
end Go.Proofs.YtobjjdnfgamgcaaGreat
end
section
namespace Go.Proofs.YtobjjdnfgamgcaaGreat
open Go Go.RowKit
set_option linter.unusedSimpArgs false
set_option linter.unusedVariables false
attribute [local irreducible] XWP Spec SpecO XPub XCall seqX clX apX stX ldX iaX slX
end Go.Proofs.YtobjjdnfgamgcaaGreat
end
section
namespace Go.Proofs.YtobjjdnfgamgcaaGreat
open Go Go.RowKit
set_option linter.unusedSimpArgs false
set_option linter.unusedVariables false
attribute [local irreducible] XWP Spec SpecO XPub XCall seqX clX apX stX ldX iaX slX
def eM (l : List Rat) (n : Nat) : Nat → Nat → Bool := fun a b => decide (cf l (a * n + b) ≠ 0)
theorem ldH1 {H : Heap} {V : View} {b e tot : Nat} {cells : List Value} (h : H b = some ⟨e, cells, tot⟩) {i t m : Nat} {u : Value} (hu : cells[i]? = some u) (ht : shapeT Tryz.prog t = some (false, m)) : Loads Tryz.prog H V t b i u :=
  ⟨false, m, ht, .inr ⟨rfl, .inl ⟨_, h, hu⟩⟩⟩
theorem app_keep {H H' : Heap} {V : View} {e sz n : Nat} {v v' : Value} {xs : List Value} (h : AppRes H V e sz v n xs v' H') {b : Nat} {r : Row} (hb : H b = some r) (hv : v.ownBlock ≠ some b) : H' b = some r ∧ v'.ownBlock ≠ some b := by
  obtain ⟨_, h2, h3⟩ := h
  have : v'.ownBlock ≠ some b := fun e => by
    rcases h3 b e with h4 | ⟨h4, _⟩
    · exact hv h4
    · rw [hb] at h4; cases h4
  exact ⟨by rw [h2 b this]; exact hb, this⟩
theorem own_form {H : Heap} {e sz n : Nat} {v : Value} {xs : List Value} (h : Own H e sz v n xs) : ∃ A c, v = .slice A n c := by
  rcases own_parts h with ⟨rfl, rfl, _⟩ | ⟨b, cap, rfl, _⟩
  · exact ⟨none, 0, rfl⟩
  · exact ⟨_, _, rfl⟩
end Go.Proofs.YtobjjdnfgamgcaaGreat
end
section
namespace Go.Proofs.YtobjjdnfgamgcaaGreat
open Go Go.RowKit
set_option linter.unusedSimpArgs false
set_option linter.unusedVariables false
attribute [local irreducible] XWP Spec SpecO XPub XCall seqX clX apX stX ldX iaX slX
end Go.Proofs.YtobjjdnfgamgcaaGreat
end
section
namespace Go.Proofs.YtobjjdnfgamgcaaGreat
open Go Go.RowKit
set_option linter.unusedSimpArgs false
set_option linter.unusedVariables false
attribute [local irreducible] XWP Spec SpecO XPub XCall seqX clX apX stX ldX iaX slX
section
variable {α : Type} {sz : Nat} {E : View → List Value → α → Prop}
/-- an element's meaning stays when the view grows -/
def ElKOk (E : View → List Value → α → Prop) : Prop := ∀ V V' cs x, V.le V' → E V cs x → E V' cs x
/-- one element, sz cells -/
def ElK (sz : Nat) (E : View → List Value → α → Prop) (V : View) (cs : List Value) (x : α) : Prop := cs.length = sz ∧ cs.all isOne = true ∧ E V cs x
def SlK (sz : Nat) (E : View → List Value → α → Prop) (V : View) (v : Value) (xs : List α) : Prop :=
  ∃ A c, v = .slice A xs.length c ∧ xs.length ≤ c ∧ c ≤ 9223372036854775807 ∧ (xs = [] ∨ ∃ b o arr ty fr, A = some ⟨b, o, none⟩ ∧ V b = some (.cells arr ty fr) ∧ ∀ i x, xs[i]? = some x → ∃ cs, ElK sz E V cs x ∧ ∀ j u, cs[j]? = some u → arr[o + i * sz + j]? = some u)
def RowK (sz : Nat) (E : View → List Value → α → Prop) (V : View) (cells : List Value) (xs : List α) : Prop :=
  cells.length = xs.length * sz ∧ ∀ i x, xs[i]? = some x → ∃ cs, ElK sz E V cs x ∧ ∀ j u, cs[j]? = some u → cells[i * sz + j]? = some u
theorem ElK.mono (hE : ElKOk E) {V V' : View} {cs : List Value} {x : α} (h : ElK sz E V cs x) (hV : V.le V') : ElK sz E V' cs x := ⟨h.1, h.2.1, hE V V' cs x hV h.2.2⟩
theorem SlK.nil (V : View) : SlK sz E V (.slice none 0 0) [] := ⟨none, 0, rfl, Nat.le_refl _, by omega, .inl rfl⟩
theorem SlK.mono (hE : ElKOk E) {V V' : View} {v : Value} {xs : List α} (h : SlK sz E V v xs) (hV : V.le V') : SlK sz E V' v xs := by
  obtain ⟨A, c, e, h1, h2, h3⟩ := h
  refine ⟨A, c, e, h1, h2, h3.imp id ?_⟩
  rintro ⟨b, o, arr, ty, fr, e1, e2, h4⟩
  refine ⟨b, o, arr, ty, fr, e1, hV _ _ e2, fun i x hx => ?_⟩
  obtain ⟨cs, k1, k2⟩ := h4 i x hx
  exact ⟨cs, k1.mono hE hV, k2⟩
theorem SlK.form {V : View} {v : Value} {xs : List α} (h : SlK sz E V v xs) : ∃ A c, v = .slice A xs.length c ∧ xs.length ≤ c ∧ c ≤ 9223372036854775807 := by
  obtain ⟨A, c, e, h1, h2, _⟩ := h
  exact ⟨A, c, e, h1, h2⟩
theorem SlK.one {V : View} {v : Value} {xs : List α} (h : SlK sz E V v xs) : isOne v = true := by
  obtain ⟨A, c, rfl, _⟩ := h.form; rfl
theorem SlK.addr {V : View} {A : Option Addr} {n c : Nat} {xs : List α} (h : SlK sz E V (.slice A n c) xs) (h0 : 0 < xs.length) : ∃ b o, A = some ⟨b, o, none⟩ := by
  obtain ⟨A', c', e, _, _, h3⟩ := h
  cases e
  rcases h3 with rfl | ⟨b, o, arr, ty, fr, e1, _⟩
  · simp at h0
  · exact ⟨b, o, e1⟩
/-- one element: its cells, and how they are read -/
theorem SlK.get {V : View} {b o n c : Nat} {xs : List α} (h : SlK sz E V (.slice (some ⟨b, o, none⟩) n c) xs) (i : Nat) (hi : i < xs.length) : ∃ cs, ElK sz E V cs xs[i] ∧ ∀ H j u, cs[j]? = some u → CellAt H V b (o + i * sz + j) u := by
  obtain ⟨A', c', e, _, _, h3⟩ := h
  cases e
  rcases h3 with rfl | ⟨b', o', arr, ty, fr, e1, e2, h4⟩
  · simp at hi
  · cases e1
    obtain ⟨cs, k1, k2⟩ := h4 i xs[i] (List.getElem?_eq_getElem hi)
    exact ⟨cs, k1, fun H j u hj => .inr ⟨_, _, _, e2, k2 j u hj⟩⟩
theorem RowK.nil (V : View) : RowK sz E V [] ([] : List α) := ⟨by simp, fun i x h => by simp at h⟩
theorem RowK.mono (hE : ElKOk E) {V V' : View} {cells : List Value} {xs : List α} (h : RowK sz E V cells xs) (hV : V.le V') : RowK sz E V' cells xs :=
  ⟨h.1, fun i x hx => by obtain ⟨cs, k1, k2⟩ := h.2 i x hx; exact ⟨cs, k1.mono hE hV, k2⟩⟩
theorem RowK.snoc {V : View} {cells cs : List Value} {xs : List α} {x : α} (h : RowK sz E V cells xs) (hc : ElK sz E V cs x) : RowK sz E V (cells ++ cs) (xs ++ [x]) := by
  have hl := h.1
  refine ⟨by rw [List.length_append, List.length_append, hl, hc.1, List.length_singleton, Nat.add_mul, Nat.one_mul], fun i y hy => ?_⟩
  by_cases hi : i < xs.length
  · rw [List.getElem?_append_left hi] at hy
    obtain ⟨ds, k1, k2⟩ := h.2 i y hy
    refine ⟨ds, k1, fun j u hj => ?_⟩
    have := (List.getElem?_eq_some_iff.1 (k2 j u hj)).1
    rw [List.getElem?_append_left this]; exact k2 j u hj
  · have hlt := (List.getElem?_eq_some_iff.1 hy).1
    rw [List.length_append, List.length_singleton] at hlt
    have e : i = xs.length := by omega
    subst e
    rw [List.getElem?_append_right (Nat.le_refl _), Nat.sub_self] at hy
    have e : x = y := by simpa using hy
    subst e
    refine ⟨cs, hc, fun j u hj => ?_⟩
    rw [List.getElem?_append_right (by omega), hl, Nat.add_sub_cancel_left]; exact hj
theorem RowK.pub (hE : ElKOk E) {V : View} {b n e c : Nat} {o : Obj} {cells : List Value} {xs : List α} (h : RowK sz E V cells xs) (ho : RowObj ⟨e, cells, c * sz⟩ o) (hle : V.le (addV V b o)) (hn : xs.length = n) (hc : n ≤ c) (hm : c ≤ 9223372036854775807) : SlK sz E (addV V b o) (.slice (some ⟨b, 0, none⟩) n c) xs := by
  obtain ⟨ex, rfl, _⟩ := ho
  refine ⟨some ⟨b, 0, none⟩, c, by rw [hn], by omega, hm, .inr ⟨b, 0, _, _, _, rfl, addV_at V b _, fun i x hx => ?_⟩⟩
  obtain ⟨cs, k1, k2⟩ := h.2 i x hx
  refine ⟨cs, k1.mono hE hle, fun j u hj => ?_⟩
  have h1 := k2 j u hj
  have := (List.getElem?_eq_some_iff.1 h1).1
  rw [Nat.zero_add, List.getElem?_toArray, List.getElem?_append_left this]; exact h1
theorem XWP.pubK {Γ : Cx} {P : Program} {Q : Exit → XS → Prop} {t : List SV} {bx : List (List Value)} {H : Heap} {V : View} (hE : ElKOk E) (hsz : 0 < sz) {c : Code} {e n : Nat} {v : Value} {cells : List Value} {l : List α} (hown : Own H e sz v n cells) (hrow : RowK sz E V cells l) (h : ∀ H' V', V.le V' → SlK sz E V' v l → (∀ k, v.ownBlock ≠ some k → H' k = H k) → XWP Γ P c Q ⟨t, bx, H', V'⟩) : XWP Γ P c Q ⟨t, bx, H, V⟩ := by
  have h1 := hown.1
  have h2 := hrow.1
  have hl : l.length = n := Nat.eq_of_mul_eq_mul_right hsz (by omega)
  rcases own_parts hown with ⟨rfl, h0, _⟩ | ⟨g, cap, rfl, hg, hle, hcap, _⟩
  · refine h H V (View.le_refl _) ?_ fun _ _ => rfl
    rw [List.length_eq_zero_iff.1 (show l.length = 0 by omega)]; exact SlK.nil V
  · refine XWP.pub g _ hg fun o ho hle' => h _ _ hle' (hrow.pub hE ho hle' hl hle (by unfold maxLen at hcap; omega)) fun k hk => ?_
    exact upd_off fun e => hk (by rw [e]; rfl)
end
/-- a row of one element, as the source of an append -/
theorem srcK {H : Heap} {V : View} {b e tot : Nat} {cs : List Value} (hr : H b = some ⟨e, cs, tot⟩) (h1 : cs.all isOne = true) : Src H V cs.length (.slice (some ⟨b, 0, none⟩) 1 1) 1 cs :=
  ⟨_, _, rfl, by omega, fun u hu => List.all_eq_true.1 h1 u hu, .inr ⟨b, 0, rfl, fun j u hj => .inl ⟨_, hr, by rw [Nat.zero_add]; exact hj⟩⟩⟩
theorem loadsK {H : Heap} {V : View} {b off n t : Nat} {cs : List Value} (ht : shapeT Tryz.prog t = some (true, n)) (hl : cs.length = n) (h : ∀ j u, cs[j]? = some u → CellAt H V b (off + j) u) : Loads Tryz.prog H V t b off (.agg cs.toArray) := ⟨true, n, ht, .inl ⟨rfl, cs, hl, h, rfl⟩⟩
theorem loads1 {H : Heap} {V : View} {b off t m : Nat} {u : Value} (ht : shapeT Tryz.prog t = some (false, m)) (h : CellAt H V b off u) : Loads Tryz.prog H V t b off u := ⟨false, m, ht, .inr ⟨rfl, h⟩⟩
theorem fold_set : ∀ (l : List Value) (n : Nat) (acc : Array Value), n + l.length = acc.size → ((l.zipIdx n).foldl (fun (a : Array Value) (p : Value × Nat) => a.setIfInBounds (0 + p.2) p.1) acc).toList = acc.toList.take n ++ l
  | [], n, acc, h => by
    have : acc.toList.length = n := by simp at h ⊢; omega
    simp [List.take_of_length_le (show acc.toList.length ≤ n by omega)]
  | x :: l, n, acc, h => by
    rw [List.zipIdx_cons, List.foldl_cons, fold_set l (n + 1) _ (by simp at h ⊢; omega)]
    have hn : n < acc.toList.length := by simp at h ⊢; omega
    rw [Nat.zero_add, Array.toList_setIfInBounds]
    rw [List.take_add_one, List.take_set_of_le (Nat.le_refl _), List.getElem?_set_self hn]
    simp
theorem fill_whole {place : Nat → Option (Nat × Nat)} {cells : Array Value} {i : Nat} {cs : List Value} {rest : List (Nat × Value)} (hp : place i = some (0, cs.length)) (hs : cells.size = cs.length) : Instr.fill place cells ((i, .agg cs.toArray) :: rest) = Instr.fill place cs.toArray rest := by
  have h1 : (Value.agg cs.toArray).cells = cs.toArray := rfl
  have h2 : cs.toArray.zipIdx.foldl (fun (a : Array Value) (p : Value × Nat) => a.setIfInBounds (0 + p.2) p.1) cells = cs.toArray := by
    refine Array.toList_inj.1 ?_
    rw [← Array.foldl_toList, Array.toList_zipIdx]
    have := fold_set cs 0 cells (by omega)
    simpa using this
  conv => lhs; rw [Instr.fill]
  simp only [hp, h1]
  rw [if_neg (by simp; omega)]
  exact congrArg (fun a => Instr.fill place a rest) h2
/-- a slice of one element -/
theorem bs_agg {t e n by_ : Nat} {z cs : List Value} (he : elemT Tryz.prog t = some e) (hz : zeroT Tryz.prog e = some (z, n, by_)) (hn : z.length = n) (h0 : 0 < n) (h1 : n ≤ 16777216) (hl : cs.length = n) : BuildsSlice Tryz.prog t 1 #[(0, .agg cs.toArray)] e cs := by
  obtain ⟨i, zv, hi, hzv, e1, e2, _⟩ := zero_parts hz
  have hsz : zv.cells.size = n := by rw [← Array.length_toList, e1, hn]
  refine bs_run (cells := cs.toArray) he hi hzv (by omega) (by omega) ?_
  rw [e2]
  have hm : (madeCells zv.cells (1 * n)).size = cs.length := by
    rw [← Array.length_toList, made_flat _ n hsz h0]; simp [e1, hn, hl]
  rw [show ([(0, Value.agg cs.toArray)] : List (Nat × Value)) = (0, .agg cs.toArray) :: [] from rfl]
  exact (fill_whole (by simp [hl]) hm).trans rfl
end Go.Proofs.YtobjjdnfgamgcaaGreat
end
section
namespace Go.Proofs.YtobjjdnfgamgcaaGreat
open Go Go.RowKit
set_option linter.unusedSimpArgs false
set_option linter.unusedVariables false
attribute [local irreducible] XWP Spec SpecO XPub XCall seqX clX apX stX ldX iaX slX
theorem sgI_pos {q : Rat} (h : 0 < q) : sgI q = 1 := by
  unfold sgI
  rw [if_neg (fun e => by rw [e] at h; exact absurd h (by decide)), if_neg]
  intro hn
  have := of_decide_eq_true hn
  have h2 := Rat.num_nonneg.2 (Rat.le_of_lt h)
  omega
theorem sgI_neg' {q : Rat} (h : q < 0) : sgI q = -1 := by
  unfold sgI
  rw [if_neg (fun e => by rw [e] at h; exact absurd h (by decide)), if_pos]
  refine decide_eq_true ?_
  have : ¬ 0 ≤ q.num := fun h' => absurd (Rat.num_nonneg.1 h') (Rat.not_le.2 h)
  omega
theorem sgI_sub (p q : Rat) : sgI (p - q) = if p < q then -1 else if q < p then 1 else 0 := by
  split
  · exact sgI_neg' (by grind)
  · split
    · exact sgI_pos (by grind)
    · have : p - q = 0 := by grind
      unfold sgI; rw [if_pos this]
theorem cmp_sign {p q : Rat} (h : sgI p = sgI q) : sgI p * cmpI (p.num.natAbs * q.den) (q.num.natAbs * p.den) = sgI (p - q) := by
  have hp := sgI_abs p
  have hq := sgI_abs q
  have l1 : p < q ↔ p.num * (q.den : Int) < q.num * (p.den : Int) := Rat.lt_iff p q
  have l2 : q < p ↔ q.num * (p.den : Int) < p.num * (q.den : Int) := Rat.lt_iff q p
  rw [hp, hq, ← h, Int.mul_assoc, Int.mul_assoc, ← Int.natCast_mul, ← Int.natCast_mul] at l1 l2
  rw [sgI_sub]
  generalize p.num.natAbs * q.den = x at *
  generalize q.num.natAbs * p.den = y at *
  unfold cmpI
  rcases sgI_val p with e | e | e <;> rw [e] at l1 l2 ⊢
  · rw [Int.zero_mul, if_neg (fun h => by have := l1.1 h; omega), if_neg (fun h => by have := l2.1 h; omega)]
  · by_cases c1 : x < y
    · rw [if_pos c1, if_pos (l1.2 (by omega))]; rfl
    · by_cases c2 : y < x
      · rw [if_neg c1, if_pos c2, if_neg (fun h => by have := l1.1 h; omega), if_pos (l2.2 (by omega))]; rfl
      · rw [if_neg c1, if_neg c2, if_neg (fun h => by have := l1.1 h; omega), if_neg (fun h => by have := l2.1 h; omega)]; rfl
  · by_cases c1 : x < y
    · rw [if_pos c1, if_neg (fun h => by have := l1.1 h; omega), if_pos (l2.2 (by omega))]; rfl
    · by_cases c2 : y < x
      · rw [if_neg c1, if_pos c2, if_pos (l1.2 (by omega))]; rfl
      · rw [if_neg c1, if_neg c2, if_neg (fun h => by have := l1.1 h; omega), if_neg (fun h => by have := l2.1 h; omega)]; rfl
theorem sgI_lt_sub {p q : Rat} (h : sgI p < sgI q) : sgI (p - q) = -1 := by
  rw [sgI_sub, if_pos]
  refine Classical.byContradiction fun hn => ?_
  have hle : q ≤ p := Rat.not_lt.1 hn
  by_cases h1 : 0 < p
  · rw [sgI_pos h1] at h; rcases sgI_val q with e | e | e <;> omega
  · by_cases h2 : q < 0
    · rw [sgI_neg' h2] at h; rcases sgI_val p with e | e | e <;> omega
    · have e1 : p = 0 := by grind
      have e2 : q = 0 := by grind
      rw [e1, e2] at h; omega
theorem sgI_gt_sub {p q : Rat} (h : sgI q < sgI p) : sgI (p - q) = 1 := by
  have h1 := sgI_lt_sub h
  rw [sgI_sub] at h1 ⊢
  split at h1
  · rename_i hlt
    rw [if_neg (by grind), if_pos hlt]
  · split at h1 <;> cases h1
theorem qcmp_c (V : View) (v u : Value) (p q : Rat) (hv : RatC V v p) (hu : RatC V u q) (fp : QF p) (fq : QF q) : Spec Tryz.prog 50 [v, u] V fun v' V' => v' = .int .i64 (sgI (p - q)) := by
  have hv0 := hv
  have hu0 := hu
  obtain ⟨n1, d1, rfl, hn1, hd1⟩ := hv
  obtain ⟨n2, d2, rfl, hn2, hd2⟩ := hu
  refine (Spec.enter Tryz.func50 rfl fun Γ => ?_)
  simp only [Tryz.ntmps50, List.map_cons, List.map_nil, List.length_cons, List.length_nil, Nat.reduceAdd, Nat.reduceSub, List.replicate_succ, List.replicate_zero, List.cons_append, List.nil_append]
  refine Gx.a (by kernel_rfl) fun K hK => ?_
  simp only [XA]
  refine hK _ ?_
  (refine XWP.drw [0, 2, 1, 3, 4, 5] (by kernel_rfl) (by kernel_rfl) (by kernel_rfl) fun K hK => ?_) <;> dsimp only [pickOps, List.getElem?_cons_zero, List.getElem?_cons_succ]
  simp only [XA, XB, Nat.reduceAdd, Nat.reduceLeDiff, ↓reduceIte]
  refine call_go (by kernel_rfl) rfl (qsign_c _ _ _ hv0) fun v1 V1 hV1 h1 => ?_
  subst h1
  simp only [XA]
  refine call_go (by kernel_rfl) rfl (qsign_c _ _ _ (hu0.mono hV1)) fun v2 V2 hV2 h2 => ?_
  subst h2
  simp only [XA]
  refine hK _ ?_
  have hV := View.le_trans hV1 hV2
  refine XWP.cut (fun s => StIs (fun Z => [Z 0,Z 1, .p 0 0, .p 1 0, Z 4, .v (.int .i64 (sgI p)), .v (.int .i64 (sgI q)), Z 7,Z 8,Z 9,Z 10,Z 11,Z 12,Z 13,Z 14,Z 15,Z 16,Z 17,Z 18,Z 19,Z 20,Z 21,Z 22,Z 23,Z 24,Z 25,Z 26,Z 27,Z 28,Z 29,Z 30,Z 31]) [[.bool (ng p), n1, d1], [.bool (ng q), n2, d2]] (fun _ => none) V2 s ∧ sgI p = sgI q) ?_ ?_
  · refine XWP.block ?_
    by_cases k1 : sgI p < sgI q
    · have b1 : decide (sgI p < sgI q) = true := decide_eq_true k1
      refine Gx.a (by kernel_rfl) fun K hK => ?_
      simp only [XA, XB, b1]
      refine hK _ ?_
      refine Gx.t rfl ?_
      refine Gx.a (by kernel_rfl) fun K hK => ?_
      simp only [XA]
      refine hK _ (XWP.ret ?_)
      try simp only [thenX_ret, inBlockX_ret]
      refine ret_go _ rfl ?_
      rw [sgI_lt_sub k1]; rfl
    have b1 : decide (sgI p < sgI q) = false := decide_eq_false k1
    by_cases k2 : sgI q < sgI p
    · have b2 : decide (sgI q < sgI p) = true := decide_eq_true k2
      refine Gx.a (by kernel_rfl) fun K hK => ?_
      simp only [XA, XB, b1]
      refine hK _ ?_
      refine Gx.f rfl ?_
      refine Gx.a (by kernel_rfl) fun K hK => ?_
      simp only [XA, XB, b2]
      refine hK _ ?_
      refine Gx.t rfl ?_
      refine Gx.a (by kernel_rfl) fun K hK => ?_
      simp only [XA]
      refine hK _ (XWP.ret ?_)
      try simp only [thenX_ret, inBlockX_ret]
      refine ret_go _ rfl ?_
      rw [sgI_gt_sub k2]; rfl
    have b2 : decide (sgI q < sgI p) = false := decide_eq_false k2
    refine Gx.a (by kernel_rfl) fun K hK => ?_
    simp only [XA, XB, b1]
    refine hK _ ?_
    refine Gx.f rfl ?_
    refine Gx.a (by kernel_rfl) fun K hK => ?_
    simp only [XA, XB, b2]
    refine hK _ ?_
    refine Gx.f rfl ?_
    refine XWP.skip ?_
    exact ⟨StIs.of (by exact rfl), by omega⟩
  rintro s ⟨hs, hsg⟩
  obtain ⟨z, rfl⟩ := hs.out
  try dsimp only
  (refine XWP.drw [0, 1, 2, 3, 4, 6, 7, 8, 9, 5, 10, 11, 12, 13] (by kernel_rfl) (by kernel_rfl) (by kernel_rfl) fun K hK => ?_) <;> dsimp only [pickOps, List.getElem?_cons_zero, List.getElem?_cons_succ]
  simp only [XA, XB]
  refine call_go (by kernel_rfl) rfl (mul_c _ _ _ _ _ (hn1.mono hV) (hd2.mono hV) fp.fits.1 fq.fits.2) fun v3 V3 hV3 h3 => ?_
  simp only [XA]
  refine call_go (by kernel_rfl) rfl (mul_c _ _ _ _ _ ((hn2.mono hV).mono hV3) ((hd1.mono hV).mono hV3) fq.fits.1 fp.fits.2) fun v4 V4 hV4 h4 => ?_
  simp only [XA]
  refine call_go (by kernel_rfl) rfl (compare_c _ _ _ _ _ (h3.mono hV4) h4) fun v5 V5 hV5 h5 => ?_
  subst h5
  have w : IntKind.i64.wrap (sgI p * cmpI (p.num.natAbs * q.den) (q.num.natAbs * p.den)) = sgI p * cmpI (p.num.natAbs * q.den) (q.num.natAbs * p.den) := by
    rcases sgI_val p with e | e | e <;> rcases cmpI_val (p.num.natAbs * q.den) (q.num.natAbs * p.den) with e' | e' | e' <;> rw [e, e'] <;> exact wrap_id (by omega) (by omega)
  simp only [XA, XB, w]
  refine hK _ (XWP.ret ?_)
  try simp only [thenX_ret, inBlockX_ret]
  refine ret_go _ rfl ?_
  rw [cmp_sign hsg]; rfl
/-- the lesser of two -/
def ltQ (p q : Rat) : Rat := if q < p then q else p
theorem qleast_c (V : View) (v u : Value) (p q : Rat) (hv : RatC V v p) (hu : RatC V u q) (fp : QF p) (fq : QF q) : Spec Tryz.prog 61 [v, u] V fun v' V' => RatC V' v' (ltQ p q) := by
  have hv0 := hv
  have hu0 := hu
  obtain ⟨n1, d1, rfl, hn1, hd1⟩ := hv
  obtain ⟨n2, d2, rfl, hn2, hd2⟩ := hu
  refine (Spec.enter Tryz.func61 rfl fun Γ => ?_)
  simp only [Tryz.ntmps61, List.map_cons, List.map_nil, List.length_cons, List.length_nil, Nat.reduceAdd, Nat.reduceSub, List.replicate_succ, List.replicate_zero, List.cons_append, List.nil_append]
  refine Gx.a (by kernel_rfl) fun K hK => ?_
  simp only [XA, XB, Nat.reduceAdd]
  refine hK _ ?_
  refine XWP.cut (fun s => ∃ (V1 : View) (n d : Value), StIs (fun Z => [Z 0,Z 1, .p 0 0, .p 1 0, .p 2 0, Z 5,Z 6,Z 7,Z 8,Z 9,Z 10,Z 11,Z 12,Z 13,Z 14,Z 15,Z 16]) [[.bool (ng (ltQ p q)), n, d], [.bool (ng q), n2, d2], [.bool false, .slice none 0 0, .slice none 0 0]] (fun _ => none) V1 s ∧ NatC V1 n (ltQ p q).num.natAbs ∧ NatC V1 d (ltQ p q).den ∧ QF (ltQ p q)) ?_ ?_
  · by_cases hlt : q < p
    · have b1 : decide (sgI (q - p) < 0) = true := by rw [sgI_sub, if_pos hlt]; rfl
      rw [show ltQ p q = q from if_pos hlt]
      refine Gx.a (by kernel_rfl) fun K hK => ?_
      simp only [XA, XB, Nat.reduceAdd, Nat.reduceLeDiff, ↓reduceIte]
      refine call_go (by kernel_rfl) rfl (qcmp_c _ _ _ _ _ hu0 hv0 fq fp) fun v1 V1 hV1 h1 => ?_
      subst h1
      simp only [XA, XB, b1]
      refine hK _ ?_
      refine Gx.t rfl ?_
      refine Gx.c (by kernel_rfl) fun K hK => ?_
      simp only [XA, XB, Nat.reduceAdd, Nat.reduceLeDiff, ↓reduceIte]
      refine st_rat rfl rfl rfl hn2.one hd2.one ?_
      simp only [XA]
      exact hK _ ⟨V1, n2, d2, StIs.of (by exact rfl), hn2.mono hV1, hd2.mono hV1, fq⟩
    · have b1 : decide (sgI (q - p) < 0) = false := by
        rw [sgI_sub, if_neg hlt]
        split <;> rfl
      rw [show ltQ p q = p from if_neg hlt]
      refine Gx.a (by kernel_rfl) fun K hK => ?_
      simp only [XA, XB, Nat.reduceAdd, Nat.reduceLeDiff, ↓reduceIte]
      refine call_go (by kernel_rfl) rfl (qcmp_c _ _ _ _ _ hu0 hv0 fq fp) fun v1 V1 hV1 h1 => ?_
      subst h1
      simp only [XA, XB, b1]
      refine hK _ ?_
      refine Gx.f rfl ?_
      refine XWP.skip ?_
      exact ⟨V1, n1, d1, StIs.of (by exact rfl), hn1.mono hV1, hd1.mono hV1, fp⟩
  rintro s ⟨V1, n, d, hs, hn, hd, hf⟩
  obtain ⟨z, rfl⟩ := hs.out
  try dsimp only
  refine Gx.a (by kernel_rfl) fun K hK => ?_
  simp only [XA, XB]
  refine call_go (by kernel_rfl) rfl (qmade_c _ _ _ _ _ _ hn hd hf.fits.1 hf.fits.2) fun v2 V2 hV2 h2 => ?_
  rw [rv_self] at h2
  obtain ⟨x, y, rfl, p1, p2⟩ := h2.form
  simp only [XA]
  refine st_rat rfl rfl rfl p1 p2 ?_
  simp only [XA]
  refine hK _ (XWP.ret ?_)
  try simp only [thenX_ret, inBlockX_ret]
  exact ret_rat1 rfl rfl rfl h2
theorem kby_c (V : View) (v u : Value) (p q : Rat) (hv : RatC V v p) (hu : RatC V u q) (fp : QF p) (fq : QF q) (hq : q ≠ 0) : Spec Tryz.prog 62 [v, u] V fun v' V' => RatC V' v' (p / q) := by
  have hv0 := hv
  have hu0 := hu
  obtain ⟨x1, y1, rfl, o1, o2⟩ := hv.form
  obtain ⟨x2, y2, rfl, o3, o4⟩ := hu.form
  refine (Spec.enter Tryz.func62 rfl fun Γ => ?_)
  simp only [Tryz.ntmps62, List.map_cons, List.map_nil, List.length_cons, List.length_nil, Nat.reduceAdd, Nat.reduceSub, List.replicate_succ, List.replicate_zero, List.cons_append, List.nil_append]
  refine Gx.a (by kernel_rfl) fun K hK => ?_
  simp only [XA, XB, Nat.reduceAdd]
  refine hK _ ?_
  refine Gx.a (by kernel_rfl) fun K hK => ?_
  simp only [XA, XB, Nat.reduceAdd, Nat.reduceLeDiff, ↓reduceIte]
  refine call_go (by kernel_rfl) rfl (qdiv_c _ _ _ _ _ hv0 hu0 fp fq) fun v1 V1 hV1 h1 => ?_
  obtain ⟨w, rfl, h1q⟩ := h1.2 hq
  have h1 : RatC V1 w (p / q) := h1q
  obtain ⟨x, y, rfl, p1, p2⟩ := h1.form
  simp only [XA, XB, Nat.reduceAdd]
  refine st_rat rfl rfl rfl p1 p2 ?_
  simp only [XA]
  refine hK _ ?_
  refine Gx.a (by kernel_rfl) fun K hK => ?_
  simp only [XA, XB, Nat.reduceAdd, Nat.reduceLeDiff, ↓reduceIte]
  refine st_rat rfl rfl rfl p1 p2 ?_
  simp only [XA]
  refine hK _ (XWP.ret ?_)
  try simp only [thenX_ret, inBlockX_ret]
  exact ret_rat1 rfl rfl rfl h1
end Go.Proofs.YtobjjdnfgamgcaaGreat
end
section
namespace Go.Proofs.YtobjjdnfgamgcaaGreat
theorem XU : type_of% (And.intro (And.intro (And.intro (And.intro (@shapeT_66) (And.intro (@fieldT_66_0) (@fieldT_66_1))) (And.intro (@fieldT_66_2) (And.intro (@fieldT_66_3) (@elemT_45)))) (And.intro (And.intro (@kindT_45) (And.intro (@shapeT_45) (@shapeT_51))) (And.intro (@fieldT_51_0) (And.intro (@fieldT_51_1) (@fieldT_51_2))))) (And.intro (And.intro (And.intro (@elemT_22) (And.intro (@kindT_22) (@shapeT_22))) (And.intro (@shapeT_44) (And.intro (@fieldT_44_0) (@fieldT_44_1)))) (And.intro (And.intro (@fieldT_44_2) (And.intro (@shapeT_42) (@fieldT_42_0))) (And.intro (And.intro (@fieldT_42_1) (@fieldT_42_2)) (And.intro (@zeroT_66) (@zeroT_51)))))) := And.intro (And.intro (And.intro (And.intro (@shapeT_66) (And.intro (@fieldT_66_0) (@fieldT_66_1))) (And.intro (@fieldT_66_2) (And.intro (@fieldT_66_3) (@elemT_45)))) (And.intro (And.intro (@kindT_45) (And.intro (@shapeT_45) (@shapeT_51))) (And.intro (@fieldT_51_0) (And.intro (@fieldT_51_1) (@fieldT_51_2))))) (And.intro (And.intro (And.intro (@elemT_22) (And.intro (@kindT_22) (@shapeT_22))) (And.intro (@shapeT_44) (And.intro (@fieldT_44_0) (@fieldT_44_1)))) (And.intro (And.intro (@fieldT_44_2) (And.intro (@shapeT_42) (@fieldT_42_0))) (And.intro (And.intro (@fieldT_42_1) (@fieldT_42_2)) (And.intro (@zeroT_66) (@zeroT_51)))))
end Go.Proofs.YtobjjdnfgamgcaaGreat
end
section
namespace Go.Proofs.YtobjjdnfgamgcaaGreat
open Go Go.RowKit
set_option linter.unusedSimpArgs false
set_option linter.unusedVariables false
attribute [local irreducible] XWP Spec SpecO XPub XCall seqX clX apX stX ldX iaX slX
/-- a draw -/
structure Dr where
  site : Int
  index : Int
  odds : Int
  whole : Int
  deriving DecidableEq
def Dr.cells (d : Dr) : List Value := [.int .i64 d.site, .int .i64 d.index, .int .i64 d.odds, .int .i64 d.whole]
def drE : View → List Value → Dr → Prop := fun _ cs d => cs = d.cells
theorem drE_ok : ElKOk drE := fun _ _ _ _ _ h => h
/-- an execution: how it ended, its draws, its weight -/
structure Rn where
  kind : Int
  ds : List Dr
  w : Raw
def rnE : View → List Value → Rn → Prop := fun V cs r => ∃ c1 c2 c3 c4 dv m c7 c8, cs = [.int .i64 r.kind, c1, c2, c3, c4, dv, m, c7, c8] ∧ SlK 4 drE V dv r.ds ∧ rawE V (.agg #[m, c7, c8]) r.w
theorem rnE_ok : ElKOk rnE := fun V V' cs r hV ⟨c1, c2, c3, c4, dv, m, c7, c8, e, h1, h2⟩ => ⟨c1, c2, c3, c4, dv, m, c7, c8, e, h1.mono drE_ok hV, rawE_ok _ _ _ _ hV h2⟩
theorem st_whole {P : Program} {t i n : Nat} {s : XS} {ops : Array Oper} {rest : List Oper} {K : XS → Prop} {d : Option Tmp} {cs vs : List Value} (hs : shapeT P t = some (true, n)) (hb : s.bx[i]? = some vs) (hl : vs.length = n) (hc : cs.length = n) (h1 : cs.all isOne = true) (h : seqX P ops rest K (XS.put ⟨s.t, s.bx.set i cs, s.H, s.V⟩ d (.v undef))) : stX P ops rest K s d t (.p i 0) (.v (.agg cs.toArray)) := by
  refine st_agg (cs := cs) hs hb rfl ⟨hc, h1, by omega, ?_⟩
  have : splice vs 0 cs = cs := by
    unfold splice
    simp [show vs.length ≤ cs.length by omega]
  rw [this]; exact h
/-- a draw that may be -/
def Dr.good (d : Dr) : Prop := 0 ≤ d.index ∧ 1 ≤ d.odds ∧ d.odds ≤ d.whole ∧ d.whole ≤ 64000
def pnum (ds : List Dr) : Nat → Nat
  | 0 => 1
  | k + 1 => pnum ds k * ((ds[k]?).map fun d => d.odds.toNat).getD 1
def pden (ds : List Dr) : Nat → Nat
  | 0 => 1
  | k + 1 => pden ds k * ((ds[k]?).map fun d => d.whole.toNat).getD 1
def priorQ (ds : List Dr) : Rat := rv false (pnum ds ds.length) (pden ds ds.length)
theorem prior_sz {ds : List Dr} (h : ∀ d ∈ ds, d.good) : ∀ k, 1 ≤ pnum ds k ∧ pnum ds k ≤ pden ds k ∧ pden ds k ≤ 2 ^ (16 * k)
  | 0 => ⟨Nat.le_refl _, Nat.le_refl _, by simp [pden]⟩
  | k + 1 => by
    obtain ⟨h1, h2, h3⟩ := prior_sz h k
    unfold pnum pden
    cases hk : ds[k]? with
    | none =>
      simp only [Option.map_none, Option.getD_none, Nat.mul_one]
      exact ⟨h1, h2, Nat.le_trans h3 (two_mono (by omega))⟩
    | some d =>
      obtain ⟨g1, g2, g3, g4⟩ := h d (List.mem_of_getElem? hk)
      simp only [Option.map_some, Option.getD_some]
      have e1 : 1 ≤ d.odds.toNat := by omega
      have e2 : d.odds.toNat ≤ d.whole.toNat := by omega
      have e3 : d.whole.toNat ≤ 2 ^ 16 := by omega
      refine ⟨Nat.mul_pos h1 e1, Nat.mul_le_mul h2 e2, ?_⟩
      rw [Nat.mul_add, Nat.mul_one, Nat.pow_add]
      exact Nat.mul_le_mul h3 e3
theorem priorQ_QB {ds : List Dr} (h : ∀ d ∈ ds, d.good) : QB (16 * ds.length) (priorQ ds) := by
  obtain ⟨h1, h2, h3⟩ := prior_sz h ds.length
  exact QB_rv _ (Nat.le_trans h2 h3) h3
set_option maxHeartbeats 1000000 in
set_option maxRecDepth 100000 in
theorem cprior_c (V : View) (cs : List Value) (r : Rn) (hcs : ElK 9 rnE V cs r) (hl : r.ds.length ≤ 100) (hg : ∀ d ∈ r.ds, d.good) : Spec Tryz.prog 104 [.agg cs.toArray] V fun v' V' => ∃ w, v' = .tuple #[w, .int .i64 0] ∧ RatC V' w (priorQ r.ds) := by
  obtain ⟨_, hone, c1, c2, c3, c4, dv, m, c7, c8, rfl, hds, hw⟩ := hcs
  obtain ⟨A, c, rfl, hc, hm⟩ := hds.form
  have hsz := prior_sz hg
  have hfd : ∀ k, k ≤ r.ds.length → Fit (pden r.ds k) := fun k hk => Fit.of_two (hsz k).2.2 (by omega)
  have hfn : ∀ k, k ≤ r.ds.length → Fit (pnum r.ds k) := fun k hk => Fit.of_two (Nat.le_trans (hsz k).2.1 (hsz k).2.2) (by omega)
  refine (Spec.enter Tryz.func104 rfl fun Γ => ?_)
  simp only [Tryz.ntmps104, List.map_cons, List.map_nil, List.length_cons, List.length_nil, Nat.reduceAdd, Nat.reduceSub, List.replicate_succ, List.replicate_zero, List.cons_append, List.nil_append]
  refine Gx.a (by kernel_rfl) fun K hK => ?_
  simp only [XA, XB]
  refine hK _ ?_
  refine Gx.a (by kernel_rfl) fun K hK => ?_
  simp only [XA]
  refine call_go (by kernel_rfl) rfl (of_c _ 1 (by omega)) fun v1 V1 hV1 h1 => ?_
  simp only [XA]
  refine call_go (by kernel_rfl) rfl (of_c _ 1 (by omega)) fun v2 V2 hV2 h2 => ?_
  simp only [XA]
  refine hK _ ?_
  have hds := hds.mono drE_ok (View.le_trans hV1 hV2)
  refine XWP.cutD 2 (fun s => ∃ (V3 : View) (x y : Value), StIs (fun Z => [Z 0, .p 0 0, .p 1 0, Z 3, .v x, .v y, Z 6,Z 7,Z 8,Z 9,Z 10,Z 11,Z 12,Z 13,Z 14,Z 15,Z 16,Z 17,Z 18,Z 19,Z 20,Z 21,Z 22,Z 23,Z 24,Z 25,Z 26,Z 27,Z 28,Z 29,Z 30,Z 31,Z 32,Z 33,Z 34,Z 35,Z 36,Z 37,Z 38,Z 39,Z 40,Z 41,Z 42,Z 43,Z 44,Z 45]) [[.int .i64 r.kind, c1, c2, c3, c4, .slice A r.ds.length c, m, c7, c8], [.bool false, .slice none 0 0, .slice none 0 0]] (fun _ => none) V3 s ∧ NatC V3 x (pnum r.ds r.ds.length) ∧ NatC V3 y (pden r.ds r.ds.length)) ?_ ?_
  · refine Gx.a (by kernel_rfl) fun K hK => ?_
    simp only [XU, XA]
    refine hK _ ?_
    clear hK
    refine XWP.block ?_
    refine XWP.loopD 2 (fun q s => ∃ (k : Nat) (V3 : View) (x y : Value), StIs (fun Z => [Z 0, .p 0 0, .p 1 0, Z 3, .v x, .v y, Z 6,Z 7,Z 8,Z 9,Z 10, .v (.slice A r.ds.length c), .v (.int .i64 (r.ds.length : Int)), .v (.int .i64 (k : Int)), Z 14,Z 15,Z 16,Z 17,Z 18,Z 19,Z 20,Z 21,Z 22,Z 23,Z 24,Z 25,Z 26,Z 27,Z 28,Z 29,Z 30,Z 31,Z 32,Z 33,Z 34,Z 35,Z 36,Z 37,Z 38,Z 39,Z 40,Z 41,Z 42,Z 43,Z 44,Z 45]) [[.int .i64 r.kind, c1, c2, c3, c4, .slice A r.ds.length c, m, c7, c8], [.bool false, .slice none 0 0, .slice none 0 0]] (fun _ => none) V3 s ∧ q + k = r.ds.length ∧ V2.le V3 ∧ NatC V3 x (pnum r.ds k) ∧ NatC V3 y (pden r.ds k)) r.ds.length ⟨0, V2, _, _, StIs.of (by exact rfl), by omega, View.le_refl _, h1.mono hV2, h2⟩ ?_
    rintro q s ⟨k, V3, x, y, hs, hq, hV3, hx, hy⟩
    obtain ⟨z, rfl⟩ := hs.out
    try dsimp only
    clear hs
    by_cases hk : k < r.ds.length
    rotate_left
    · obtain rfl : k = r.ds.length := by omega
      have b1 : decide (((r.ds.length : Nat) : Int) < ((r.ds.length : Nat) : Int)) = false := decide_eq_false (by omega)
      refine Gx.a (by kernel_rfl) fun K hK => ?_
      simp only [XA, XB, b1]
      refine hK _ ?_
      refine XWP.seq (Gx.f rfl ?_)
      refine XWP.exit ?_
      exact fun f => ⟨V3, x, y, StIs.of (by exact rfl), hx, hy⟩
    have b1 : decide ((k : Int) < (r.ds.length : Int)) = true := decide_eq_true (by omega)
    refine Gx.a (by kernel_rfl) fun K hK => ?_
    simp only [XA, XB, b1]
    refine hK _ ?_
    refine XWP.seq (Gx.t rfl ?_)
    refine XWP.skip ?_
    have hds3 := hds.mono drE_ok hV3
    obtain ⟨b, o, rfl⟩ := SlK.addr hds3 (by omega)
    obtain ⟨dc, ⟨d1, d2, d3⟩, hcell⟩ := SlK.get hds3 k hk
    have dgd := hg _ (List.getElem_mem hk)
    have hkd : r.ds[k]? = some r.ds[k] := List.getElem?_eq_getElem hk
    have d3 : dc = r.ds[k].cells := d3
    generalize r.ds[k] = d at *
    subst d3
    obtain ⟨g1, g2, g3, g4⟩ := dgd
    have eN : pnum r.ds (k + 1) = pnum r.ds k * d.odds.toNat := by show pnum r.ds k * _ = _; rw [hkd]; rfl
    have eD : pden r.ds (k + 1) = pden r.ds k * d.whole.toNat := by show pden r.ds k * _ = _; rw [hkd]; rfl
    have u1 : decide (d.odds < 1) = false := decide_eq_false (by omega)
    have u2 : decide (d.whole < d.odds) = false := decide_eq_false (by omega)
    have w1 : IntKind.u64.wrap d.odds = (d.odds.toNat : Int) := by rw [w64_id (by omega) (by omega)]; omega
    have w2 : IntKind.u64.wrap d.whole = (d.whole.toNat : Int) := by rw [w64_id (by omega) (by omega)]; omega
    refine XWP.cutD 2 (fun s => ∃ (V4 : View) (x y : Value), StIs (fun Z => [Z 0, .p 0 0, .p 1 0, Z 3, .v x, .v y, Z 6,Z 7,Z 8,Z 9,Z 10, .v (.slice (some ⟨b, o, none⟩) r.ds.length c), .v (.int .i64 (r.ds.length : Int)), .v (.int .i64 (k : Int)), Z 14,Z 15,Z 16,Z 17,Z 18,Z 19,Z 20,Z 21,Z 22,Z 23,Z 24,Z 25,Z 26,Z 27,Z 28,Z 29,Z 30,Z 31,Z 32,Z 33,Z 34,Z 35,Z 36,Z 37,Z 38,Z 39,Z 40,Z 41,Z 42,Z 43,Z 44,Z 45]) [[.int .i64 r.kind, c1, c2, c3, c4, .slice (some ⟨b, o, none⟩) r.ds.length c, m, c7, c8], [.bool false, .slice none 0 0, .slice none 0 0]] (fun _ => none) V4 s ∧ V3.le V4 ∧ NatC V4 x (pnum r.ds (k + 1)) ∧ NatC V4 y (pden r.ds (k + 1))) ?_ ?_
    rotate_left
    · rintro s ⟨V4, x, y, hs, hV4, hx, hy⟩
      obtain ⟨z, rfl⟩ := hs.out
      try dsimp only
      clear hs
      refine Gx.c (by kernel_rfl) fun K hK => ?_
      simp only [XA, XB, i64_succ k (by omega)]
      exact hK _ ⟨q - 1, by omega, fun f => ⟨k + 1, V4, x, y, StIs.of (by exact rfl), by omega, View.le_trans hV3 hV4, hx, hy⟩⟩
    clear hK
    refine XWP.block ?_
    refine Gx.a (by kernel_rfl) fun K hK => ?_
    simp only [XU, XA]
    refine ⟨by omega, by omega, ld_mem (loadsK shapeT_66 d1 (hcell _)) ?_⟩
    simp only [XU, XA, Nat.reduceAdd]
    refine st_whole (cs := [.int .i64 d.site, .int .i64 d.index, .int .i64 d.odds, .int .i64 d.whole]) shapeT_66 rfl rfl rfl rfl ?_
    simp only [XA]
    refine hK _ ?_
    refine Gx.b (by kernel_rfl) fun K hK => ?_
    simp only [XU, XA, XB, gateX, ↓reduceIte, beq_self_eq_true, u1, u2]
    refine hK _ ?_
    refine Gx.f rfl ?_
    refine XWP.skip ?_
    (refine XWP.drw1 [0, 1, 2, 3, 6, 7, 8, 9, 4, 5, 10, 11, 12, 13] (by kernel_rfl) (by kernel_rfl) (by kernel_rfl) fun K hK => ?_) <;> dsimp only [pickOps, List.getElem?_cons_zero, List.getElem?_cons_succ]
    simp only [XU, XA, XB, w1, w2]
    refine call_go (by kernel_rfl) rfl (of_c _ d.odds.toNat (by omega)) fun v4 V4 hV4 h4 => ?_
    simp only [XA]
    refine call_go (by kernel_rfl) rfl (mul_c _ _ _ _ _ (hx.mono hV4) h4 (hfn k (by omega)) (Fit.of_two (B := 64) (Nat.le_of_lt (by omega)) (by omega))) fun v5 V5 hV5 h5 => ?_
    simp only [XA]
    refine call_go (by kernel_rfl) rfl (of_c _ d.whole.toNat (by omega)) fun v6 V6 hV6 h6 => ?_
    simp only [XA]
    refine call_go (by kernel_rfl) rfl (mul_c _ _ _ _ _ (((hy.mono hV4).mono hV5).mono hV6) h6 (hfd k (by omega)) (Fit.of_two (B := 64) (Nat.le_of_lt (by omega)) (by omega))) fun v7 V7 hV7 h7 => ?_
    simp only [XA]
    rw [← eN] at h5
    rw [← eD] at h7
    exact hK _ fun f => ⟨V7, v5, v7, StIs.of (by exact rfl), View.le_trans hV4 (View.le_trans hV5 (View.le_trans hV6 hV7)), (h5.mono hV6).mono hV7, h7⟩
  rintro s ⟨V3, x, y, hs, hx, hy⟩
  obtain ⟨z, rfl⟩ := hs.out
  try dsimp only
  refine Gx.a (by kernel_rfl) fun K hK => ?_
  simp only [XA]
  refine call_go (by kernel_rfl) rfl (qof_c _ false _ _ _ _ hx hy (hfn _ (Nat.le_refl _)) (hfd _ (Nat.le_refl _))) fun v4 V4 hV4 h4 => ?_
  have hpos : pden r.ds r.ds.length ≠ 0 := by have := hsz r.ds.length; omega
  obtain ⟨w, rfl, h4q⟩ := h4.2 hpos
  have h4 : RatC V4 w (priorQ r.ds) := h4q
  obtain ⟨xx, yy, rfl, p1, p2⟩ := h4.form
  simp only [XA]
  refine st_rat rfl rfl rfl p1 p2 ?_
  simp only [XA]
  refine hK _ (XWP.ret ?_)
  try simp only [thenX_ret, inBlockX_ret]
  exact ret_rat2 rfl rfl rfl rfl ⟨_, rfl, h4⟩
theorem rv_quo (a b : Nat) : rv false a b = (a : Rat) / (b : Rat) := by
  unfold rv sg
  simp [Rat.mkRat_eq_div, Rat.intCast_natCast]
theorem natCast_pos {k : Nat} (h : 0 < k) : (0 : Rat) < (k : Rat) := by
  have : ((0 : Nat) : Rat) < (k : Rat) := Rat.natCast_lt_natCast.2 h
  exact this
theorem priorQ_pos {ds : List Dr} (h : ∀ d ∈ ds, d.good) : 0 < priorQ ds := by
  obtain ⟨h1, h2, _⟩ := prior_sz h ds.length
  unfold priorQ
  rw [rv_quo]
  have a := natCast_pos (show 0 < pnum ds ds.length by omega)
  have b := natCast_pos (show 0 < pden ds ds.length by omega)
  rw [Rat.div_def]
  exact Rat.mul_pos a (Rat.inv_pos.2 b)
theorem cscores_c (V : View) (cs : List Value) (r : Rn) (hcs : ElK 9 rnE V cs r) (hl : r.ds.length ≤ 100) (hg : ∀ d ∈ r.ds, d.good) (hw : r.w.ok = true) (hq : QF r.w.q) : Spec Tryz.prog 105 [.agg cs.toArray] V fun v' V' => ∃ w, v' = .tuple #[w, .int .i64 0] ∧ RatC V' w (r.w.q / priorQ r.ds) := by
  have hcs0 := hcs
  obtain ⟨_, hone, c1, c2, c3, c4, dv, m, c7, c8, rfl, hds, hwr⟩ := hcs
  have hwc := RawAt.rat hwr hw
  obtain ⟨A, c, rfl, hc, hm⟩ := hds.form
  have hp0 : priorQ r.ds ≠ 0 := fun e => by have := priorQ_pos hg; rw [e] at this; exact absurd this (by decide)
  refine (Spec.enter Tryz.func105 rfl fun Γ => ?_)
  simp only [Tryz.ntmps105, List.map_cons, List.map_nil, List.length_cons, List.length_nil, Nat.reduceAdd, Nat.reduceSub, List.replicate_succ, List.replicate_zero, List.cons_append, List.nil_append]
  refine Gx.a (by kernel_rfl) fun K hK => ?_
  simp only [XA, XB]
  refine hK _ ?_
  refine Gx.a (by kernel_rfl) fun K hK => ?_
  simp only [XU, XA, Nat.reduceAdd, Nat.reduceLeDiff, ↓reduceIte]
  refine call_go (by kernel_rfl) rfl (cprior_c _ _ r hcs0 hl hg) fun v1 V1 hV1 h1 => ?_
  obtain ⟨w1, rfl, h1⟩ := h1
  obtain ⟨x1, y1, rfl, p1, p2⟩ := h1.form
  simp only [XA, XB, Nat.reduceAdd]
  refine st_rat rfl rfl rfl p1 p2 ?_
  simp only [XA]
  refine hK _ ?_
  refine XWP.seq ?_
  refine Gx.a (by kernel_rfl) fun K hK => ?_
  simp only [XA, XB, decide_true]
  refine hK _ ?_
  refine Gx.f rfl ?_
  refine XWP.skip ?_
  refine Gx.a (by kernel_rfl) fun K hK => ?_
  simp only [XU, XA, XB, Nat.reduceAdd, Nat.reduceLeDiff, ↓reduceIte]
  refine call_go (by kernel_rfl) rfl (qdiv_c _ _ _ _ _ (hwc.mono hV1) h1 hq ((priorQ_QB hg).qf (by omega))) fun v2 V2 hV2 h2 => ?_
  obtain ⟨w2, rfl, h2q⟩ := h2.2 hp0
  have h2 : RatC V2 w2 (r.w.q / priorQ r.ds) := h2q
  obtain ⟨x2, y2, rfl, p3, p4⟩ := h2.form
  simp only [XA]
  refine st_rat rfl rfl rfl p3 p4 ?_
  simp only [XA]
  refine hK _ (XWP.ret ?_)
  try simp only [thenX_ret, inBlockX_ret]
  exact ret_rat2 rfl rfl rfl rfl ⟨_, rfl, h2⟩
end Go.Proofs.YtobjjdnfgamgcaaGreat
end
section
namespace Go.Proofs.YtobjjdnfgamgcaaGreat
set_option linter.unusedVariables false
def hf : Rat := 1 / 2
def pw : Nat → Rat
  | 0 => 1
  | k + 1 => pw k * hf
theorem hf_mk : hf = mkRat 1 2 := by decide +kernel
theorem pw_mk (k : Nat) : pw k = mkRat 1 (2 ^ k) := by
  induction k with
  | zero => decide +kernel
  | succ k ih => rw [pw, ih, hf_mk, Rat.mkRat_mul_mkRat, Nat.pow_succ]; rfl
theorem pw_over {n k : Nat} (h : k ≤ n) : Over (2 ^ n) n (pw k) := by
  refine ⟨((2 ^ (n - k) : Nat) : Int), ?_, ?_⟩
  · rw [Int.natAbs_natCast]; exact two_mono (by omega)
  · have e : 2 ^ n = 2 ^ k * 2 ^ (n - k) := by rw [← Nat.pow_add]; congr 1; omega
    have h2 : 2 ^ (n - k) ≠ 0 := by have := two_pos (n - k); omega
    rw [pw_mk, e]
    have := Rat.mkRat_mul_right (n := 1) (d := 2 ^ k) h2
    rw [Int.one_mul] at this
    exact this.symm
theorem pw_CB1 (n : Nat) : CB n [pw n] := by
  refine ⟨2 ^ n, two_pos n, Nat.le_refl _, fun i => ?_⟩
  cases i with
  | zero => exact pw_over (Nat.le_refl _)
  | succ i => rw [cf_none (by simp)]; exact Over.zero _ _
theorem hf_QB : QB 1 hf := by
  have := (pw_CB1 1).at 0
  have e : cf [pw 1] 0 = hf := by decide +kernel
  rw [e] at this; exact this
end Go.Proofs.YtobjjdnfgamgcaaGreat
end
section
namespace Go.Proofs.YtobjjdnfgamgcaaGreat
open Go Go.RowKit
set_option linter.unusedSimpArgs false
set_option linter.unusedVariables false
attribute [local irreducible] XWP Spec SpecO XPub XCall seqX clX apX stX ldX iaX slX
theorem dsize_c (V : View) (n : Nat) (hn : n < 4611686018427387904) : Spec Tryz.prog 46 [.int .i64 (n : Int)] V fun v' V' => ∃ w, v' = .tuple #[w, .bool false] ∧ NatC V' w n := by
  have b1 : decide ((n : Int) < 0) = false := decide_eq_false (by omega)
  have w1 : IntKind.u64.wrap (n : Int) = (n : Int) := w64_id (by omega) (by omega)
  refine (Spec.enter Tryz.func46 rfl fun Γ => ?_)
  simp only [Tryz.ntmps46, List.map_cons, List.map_nil, List.length_cons, List.length_nil, Nat.reduceAdd, Nat.reduceSub, List.replicate_succ, List.replicate_zero, List.cons_append, List.nil_append]
  refine Gx.a (by kernel_rfl) fun K hK => ?_
  simp only [XA]
  refine hK _ ?_
  refine XWP.seq ?_
  refine Gx.a (by kernel_rfl) fun K hK => ?_
  simp only [XA, XB, b1]
  refine hK _ ?_
  refine Gx.f rfl ?_
  refine XWP.skip ?_
  refine Gx.a (by kernel_rfl) fun K hK => ?_
  simp only [XA, XB, w1]
  refine call_go (by kernel_rfl) rfl (rof_c _ n (by omega)) fun v1 V1 hV1 h1 => ?_
  simp only [XA]
  refine hK _ (XWP.ret ?_)
  try simp only [thenX_ret, inBlockX_ret]
  refine ret_go _ rfl ?_
  exact ⟨_, rfl, h1⟩
theorem dmake_c (V : View) : Spec Tryz.prog 18 [.int .i64 1, .int .i64 2] V fun v' V' => ∃ w, v' = .tuple #[w, .int .i64 0] ∧ RatC V' w hf := by
  refine (Spec.enter Tryz.func18 rfl fun Γ => ?_)
  simp only [Tryz.ntmps18, List.map_cons, List.map_nil, List.length_cons, List.length_nil, Nat.reduceAdd, Nat.reduceSub, List.replicate_succ, List.replicate_zero, List.cons_append, List.nil_append]
  refine Gx.a (by kernel_rfl) fun K hK => ?_
  simp only [XA, XB]
  refine hK _ ?_
  refine Gx.a (by kernel_rfl) fun K hK => ?_
  simp only [XA]
  refine call_go (by kernel_rfl) rfl (dsize_c _ 1 (by omega)) fun v1 V1 hV1 h1 => ?_
  obtain ⟨w1, rfl, h1⟩ := h1
  simp only [XA]
  refine hK _ ?_
  refine Gx.a (by kernel_rfl) fun K hK => ?_
  simp only [XA]
  refine call_go (by kernel_rfl) rfl (dsize_c _ 2 (by omega)) fun v2 V2 hV2 h2 => ?_
  obtain ⟨w2, rfl, h2⟩ := h2
  simp only [XA]
  refine hK _ ?_
  refine Gx.a (by kernel_rfl) fun K hK => ?_
  simp only [XA, XB, beq_self_eq_true]
  refine call_go (by kernel_rfl) rfl (pof_c _ _ _ _ 1 2 (h1.mono hV2) h2 (Fit1.of_two (B := 1) (by decide) (by omega)) (Fit1.of_two (B := 1) (by decide) (by omega))) fun v3 V3 hV3 h3 => ?_
  obtain ⟨w3, rfl, r3⟩ := h3.2 (by omega)
  clear h3
  obtain ⟨x3, y3, rfl, o1, o2⟩ := r3.form
  simp only [XA]
  refine st_rat rfl rfl rfl o1 o2 ?_
  simp only [XA]
  refine hK _ (XWP.ret ?_)
  try simp only [thenX_ret, inBlockX_ret]
  refine ret_rat2 rfl rfl rfl rfl ⟨_, rfl, ?_⟩
  rw [show hf = rv false 1 2 by decide +kernel]
  exact r3
end Go.Proofs.YtobjjdnfgamgcaaGreat
end
section
namespace Go.Proofs.YtobjjdnfgamgcaaGreat
open Go Go.RowKit
set_option linter.unusedSimpArgs false
set_option linter.unusedVariables false
attribute [local irreducible] XWP Spec SpecO XPub XCall seqX clX apX stX ldX iaX slX
theorem pmake_c (V : View) (a b : Nat) (ha : a < 4611686018427387904) (hb : b < 4611686018427387904) (h0 : b ≠ 0) : Spec Tryz.prog 18 [.int .i64 (a : Int), .int .i64 (b : Int)] V fun v' V' => ∃ w, v' = .tuple #[w, .int .i64 0] ∧ RatC V' w (rv false a b) := by
  refine (Spec.enter Tryz.func18 rfl fun Γ => ?_)
  simp only [Tryz.ntmps18, List.map_cons, List.map_nil, List.length_cons, List.length_nil, Nat.reduceAdd, Nat.reduceSub, List.replicate_succ, List.replicate_zero, List.cons_append, List.nil_append]
  refine Gx.a (by kernel_rfl) fun K hK => ?_
  simp only [XA, XB]
  refine hK _ ?_
  refine Gx.a (by kernel_rfl) fun K hK => ?_
  simp only [XA]
  refine call_go (by kernel_rfl) rfl (dsize_c _ a ha) fun v1 V1 hV1 h1 => ?_
  obtain ⟨w1, rfl, h1⟩ := h1
  simp only [XA]
  refine hK _ ?_
  refine Gx.a (by kernel_rfl) fun K hK => ?_
  simp only [XA]
  refine call_go (by kernel_rfl) rfl (dsize_c _ b hb) fun v2 V2 hV2 h2 => ?_
  obtain ⟨w2, rfl, h2⟩ := h2
  simp only [XA]
  refine hK _ ?_
  refine Gx.a (by kernel_rfl) fun K hK => ?_
  simp only [XA, XB, beq_self_eq_true]
  refine call_go (by kernel_rfl) rfl (pof_c _ _ _ _ a b (h1.mono hV2) h2 (Fit1.of_two (B := 62) (by omega) (by omega)) (Fit1.of_two (B := 62) (by omega) (by omega))) fun v3 V3 hV3 h3 => ?_
  obtain ⟨w3, rfl, r3⟩ := h3.2 h0
  clear h3
  obtain ⟨x3, y3, rfl, o1, o2⟩ := r3.form
  simp only [XA]
  refine st_rat rfl rfl rfl o1 o2 ?_
  simp only [XA]
  refine hK _ (XWP.ret ?_)
  try simp only [thenX_ret, inBlockX_ret]
  exact ret_rat2 rfl rfl rfl rfl ⟨_, rfl, r3⟩
theorem qsize_c (V : View) (n : Nat) (hn : n < 4611686018427387904) : Spec Tryz.prog 132 [.int .i64 (n : Int)] V fun v' V' => NatC V' v' n := by
  have b1 : decide ((n : Int) < 0) = false := decide_eq_false (by omega)
  have w1 : IntKind.u64.wrap (n : Int) = (n : Int) := w64_id (by omega) (by omega)
  refine (Spec.enter Tryz.func132 rfl fun Γ => ?_)
  simp only [Tryz.ntmps132, List.map_cons, List.map_nil, List.length_cons, List.length_nil, Nat.reduceAdd, Nat.reduceSub, List.replicate_succ, List.replicate_zero, List.cons_append, List.nil_append]
  refine Gx.a (by kernel_rfl) fun K hK => ?_
  simp only [XA]
  refine hK _ ?_
  refine XWP.seq ?_
  refine Gx.a (by kernel_rfl) fun K hK => ?_
  simp only [XA, XB, b1]
  refine hK _ ?_
  refine Gx.f rfl ?_
  refine XWP.skip ?_
  refine Gx.a (by kernel_rfl) fun K hK => ?_
  simp only [XA, XB, w1]
  refine call_go (by kernel_rfl) rfl (of_c _ n (by omega)) fun v1 V1 hV1 h1 => ?_
  simp only [XA]
  refine hK _ (XWP.ret ?_)
  try simp only [thenX_ret, inBlockX_ret]
  refine ret_go _ rfl ?_
  exact h1
theorem qmake_c (V : View) (a b : Nat) (ha : a < 4611686018427387904) (hb : b < 4611686018427387904) (h0 : b ≠ 0) : Spec Tryz.prog 111 [.int .i64 (a : Int), .int .i64 (b : Int)] V fun v' V' => ∃ w, v' = .tuple #[w, .int .i64 0] ∧ RatC V' w (rv false a b) := by
  have b1 : decide ((a : Int) < 0) = false := decide_eq_false (by omega)
  have b2 : decide ((b : Int) < 0) = false := decide_eq_false (by omega)
  refine (Spec.enter Tryz.func111 rfl fun Γ => ?_)
  simp only [Tryz.ntmps111, List.map_cons, List.map_nil, List.length_cons, List.length_nil, Nat.reduceAdd, Nat.reduceSub, List.replicate_succ, List.replicate_zero, List.cons_append, List.nil_append]
  refine Gx.a (by kernel_rfl) fun K hK => ?_
  simp only [XA, XB]
  refine hK _ ?_
  refine Gx.a (by kernel_rfl) fun K hK => ?_
  simp only [XA, XB, beq_self_eq_true, b1, b2]
  refine call_go (by kernel_rfl) rfl (qsize_c _ a ha) fun v1 V1 hV1 h1 => ?_
  simp only [XA]
  refine call_go (by kernel_rfl) rfl (qsize_c _ b hb) fun v2 V2 hV2 h2 => ?_
  simp only [XA]
  refine call_go (by kernel_rfl) rfl (qof_c _ _ _ _ a b (h1.mono hV2) h2 (Fit.of_two (B := 62) (by omega) (by omega)) (Fit.of_two (B := 62) (by omega) (by omega))) fun v3 V3 hV3 h3 => ?_
  obtain ⟨w3, rfl, r3⟩ := h3.2 h0
  clear h3
  obtain ⟨x3, y3, rfl, o1, o2⟩ := r3.form
  simp only [XA]
  refine st_rat rfl rfl rfl o1 o2 ?_
  simp only [XA]
  refine hK _ (XWP.ret ?_)
  try simp only [thenX_ret, inBlockX_ret]
  exact ret_rat2 rfl rfl rfl rfl ⟨_, rfl, r3⟩
theorem pmake_i (V : View) (a b : Int) (ha : 0 ≤ a) (hb : 0 < b) (la : a < 4611686018427387904) (lb : b < 4611686018427387904) : Spec Tryz.prog 18 [.int .i64 a, .int .i64 b] V fun v' V' => ∃ w, v' = .tuple #[w, .int .i64 0] ∧ RatC V' w (rv false a.toNat b.toNat) := by
  have h := pmake_c V a.toNat b.toNat (by omega) (by omega) (by omega)
  rwa [Int.toNat_of_nonneg ha, Int.toNat_of_nonneg (by omega)] at h
theorem qmake_i (V : View) (a b : Int) (ha : 0 ≤ a) (hb : 0 < b) (la : a < 4611686018427387904) (lb : b < 4611686018427387904) : Spec Tryz.prog 111 [.int .i64 a, .int .i64 b] V fun v' V' => ∃ w, v' = .tuple #[w, .int .i64 0] ∧ RatC V' w (rv false a.toNat b.toNat) := by
  have h := qmake_c V a.toNat b.toNat (by omega) (by omega) (by omega)
  rwa [Int.toNat_of_nonneg ha, Int.toNat_of_nonneg (by omega)] at h
theorem rprior_c (V : View) (cs : List Value) (r : Rn) (hcs : ElK 9 rnE V cs r) (hl : r.ds.length ≤ 100) (hg : ∀ d ∈ r.ds, d.good) : Spec Tryz.prog 34 [.agg cs.toArray] V fun v' V' => ∃ w, v' = .tuple #[w, .int .i64 0] ∧ RatC V' w (priorQ r.ds) := by
  obtain ⟨_, hone, c1, c2, c3, c4, dv, m, c7, c8, rfl, hds, hw⟩ := hcs
  obtain ⟨A, c, rfl, hc, hm⟩ := hds.form
  have hsz := prior_sz hg
  have hqf : ∀ k, k ≤ r.ds.length → QF (rv false (pnum r.ds k) (pden r.ds k)) := fun k hk => (QB_rv (B := 16 * k) _ (Nat.le_trans (hsz k).2.1 (hsz k).2.2) (hsz k).2.2).qf (by omega)
  refine (Spec.enter Tryz.func34 rfl fun Γ => ?_)
  simp only [Tryz.ntmps34, List.map_cons, List.map_nil, List.length_cons, List.length_nil, Nat.reduceAdd, Nat.reduceSub, List.replicate_succ, List.replicate_zero, List.cons_append, List.nil_append]
  refine Gx.a (by kernel_rfl) fun K hK => ?_
  simp only [XA, XB]
  refine hK _ ?_
  refine Gx.a (by kernel_rfl) fun K hK => ?_
  simp only [XA]
  refine call_go (by kernel_rfl) rfl (pone_c _) fun v1 V1 hV1 h1 => ?_
  obtain ⟨x1, y1, rfl, p1, p2⟩ := h1.form
  simp only [XA, XB, Nat.reduceAdd]
  refine st_rat rfl rfl rfl p1 p2 ?_
  simp only [XA]
  refine hK _ ?_
  have h1 : RatC V1 (.agg #[.bool (ng 1), x1, y1]) (rv false (pnum r.ds 0) (pden r.ds 0)) := by
    have e : rv false (pnum r.ds 0) (pden r.ds 0) = 1 := by show rv false 1 1 = 1; decide +kernel
    rw [e]; exact h1
  have hds := hds.mono drE_ok hV1
  refine XWP.cutD 3 (fun s => ∃ (V3 : View) (b x y : Value), StIs (fun Z => [Z 0, .p 0 0, .p 1 0, Z 3, .p 2 0, Z 5,Z 6,Z 7,Z 8,Z 9,Z 10,Z 11,Z 12,Z 13,Z 14,Z 15,Z 16,Z 17,Z 18,Z 19,Z 20,Z 21,Z 22,Z 23,Z 24,Z 25,Z 26,Z 27,Z 28,Z 29,Z 30,Z 31,Z 32,Z 33,Z 34,Z 35,Z 36,Z 37,Z 38,Z 39,Z 40,Z 41,Z 42,Z 43,Z 44]) [[.int .i64 r.kind, c1, c2, c3, c4, .slice A r.ds.length c, m, c7, c8], [.bool false, .slice none 0 0, .slice none 0 0], [b, x, y]] (fun _ => none) V3 s ∧ RatC V3 (.agg #[b, x, y]) (rv false (pnum r.ds r.ds.length) (pden r.ds r.ds.length))) ?_ ?_
  · refine Gx.a (by kernel_rfl) fun K hK => ?_
    simp only [XA]
    refine hK _ ?_
    clear hK
    refine XWP.block ?_
    refine XWP.loopD 3 (fun q s => ∃ (k : Nat) (V3 : View) (b x y : Value), StIs (fun Z => [Z 0, .p 0 0, .p 1 0, Z 3, .p 2 0, .v (.int .i64 (k : Int)), Z 6,Z 7,Z 8,Z 9,Z 10,Z 11,Z 12,Z 13,Z 14,Z 15,Z 16,Z 17,Z 18,Z 19,Z 20,Z 21,Z 22,Z 23,Z 24,Z 25,Z 26,Z 27,Z 28,Z 29,Z 30,Z 31,Z 32,Z 33,Z 34,Z 35,Z 36,Z 37,Z 38,Z 39,Z 40,Z 41,Z 42,Z 43,Z 44]) [[.int .i64 r.kind, c1, c2, c3, c4, .slice A r.ds.length c, m, c7, c8], [.bool false, .slice none 0 0, .slice none 0 0], [b, x, y]] (fun _ => none) V3 s ∧ q + k = r.ds.length ∧ V1.le V3 ∧ RatC V3 (.agg #[b, x, y]) (rv false (pnum r.ds k) (pden r.ds k))) r.ds.length ⟨0, V1, _, _, _, StIs.of (by exact rfl), by omega, View.le_refl _, h1⟩ ?_
    rintro q s ⟨k, V3, b0, x, y, hs, hq, hV3, hx⟩
    obtain ⟨z, rfl⟩ := hs.out
    try dsimp only
    clear hs
    by_cases hk : k < r.ds.length
    rotate_left
    · obtain rfl : k = r.ds.length := by omega
      have b1 : decide (((r.ds.length : Nat) : Int) < ((r.ds.length : Nat) : Int)) = false := decide_eq_false (by omega)
      refine XWP.seq ?_
      refine Gx.a (by kernel_rfl) fun K hK => ?_
      simp only [XU, XA, XB, b1]
      refine hK _ ?_
      refine Gx.f rfl ?_
      refine XWP.exit ?_
      exact fun f => ⟨V3, b0, x, y, StIs.of (by exact rfl), hx⟩
    have b1 : decide ((k : Int) < (r.ds.length : Int)) = true := decide_eq_true (by omega)
    refine XWP.seq ?_
    refine Gx.a (by kernel_rfl) fun K hK => ?_
    simp only [XU, XA, XB, b1]
    refine hK _ ?_
    refine Gx.t rfl ?_
    refine XWP.skip ?_
    have hds3 := hds.mono drE_ok hV3
    obtain ⟨b, o, rfl⟩ := SlK.addr hds3 (by omega)
    obtain ⟨dc, ⟨d1, d2, d3⟩, hcell⟩ := SlK.get hds3 k hk
    have dgd := hg _ (List.getElem_mem hk)
    have hkd : r.ds[k]? = some r.ds[k] := List.getElem?_eq_getElem hk
    have d3 : dc = r.ds[k].cells := d3
    generalize r.ds[k] = d at *
    subst d3
    obtain ⟨g1, g2, g3, g4⟩ := dgd
    have eN : pnum r.ds (k + 1) = pnum r.ds k * d.odds.toNat := by show pnum r.ds k * _ = _; rw [hkd]; rfl
    have eD : pden r.ds (k + 1) = pden r.ds k * d.whole.toNat := by show pden r.ds k * _ = _; rw [hkd]; rfl
    have u1 : decide (d.odds < 1) = false := decide_eq_false (by omega)
    have u2 : decide (d.whole < d.odds) = false := decide_eq_false (by omega)
    refine XWP.cutD 3 (fun s => ∃ (V4 : View) (b' x y : Value), StIs (fun Z => [Z 0, .p 0 0, .p 1 0, Z 3, .p 2 0, .v (.int .i64 (k : Int)), Z 6,Z 7,Z 8,Z 9,Z 10,Z 11,Z 12,Z 13,Z 14,Z 15,Z 16,Z 17,Z 18,Z 19,Z 20,Z 21,Z 22,Z 23,Z 24,Z 25,Z 26,Z 27,Z 28,Z 29,Z 30,Z 31,Z 32,Z 33,Z 34,Z 35,Z 36,Z 37,Z 38,Z 39,Z 40,Z 41,Z 42,Z 43,Z 44]) [[.int .i64 r.kind, c1, c2, c3, c4, .slice (some ⟨b, o, none⟩) r.ds.length c, m, c7, c8], [.bool false, .slice none 0 0, .slice none 0 0], [b', x, y]] (fun _ => none) V4 s ∧ V3.le V4 ∧ RatC V4 (.agg #[b', x, y]) (rv false (pnum r.ds (k + 1)) (pden r.ds (k + 1)))) ?_ ?_
    rotate_left
    · rintro s ⟨V4, b', x, y, hs, hV4, hx⟩
      obtain ⟨z, rfl⟩ := hs.out
      try dsimp only
      clear hs
      refine Gx.c (by kernel_rfl) fun K hK => ?_
      simp only [XA, XB, i64_succ k (by omega)]
      exact hK _ ⟨q - 1, by omega, fun f => ⟨k + 1, V4, b', x, y, StIs.of (by exact rfl), by omega, View.le_trans hV3 hV4, hx⟩⟩
    clear hK
    refine XWP.block ?_
    refine Gx.a (by kernel_rfl) fun K hK => ?_
    simp only [XU, XA]
    refine ⟨by omega, by omega, ld_mem (loadsK shapeT_66 d1 (hcell _)) ?_⟩
    simp only [XU, XA, Nat.reduceAdd]
    refine st_whole (cs := [.int .i64 d.site, .int .i64 d.index, .int .i64 d.odds, .int .i64 d.whole]) shapeT_66 rfl rfl rfl rfl ?_
    simp only [XA]
    refine hK _ ?_
    refine XWP.seq ?_
    refine Gx.a (by kernel_rfl) fun K hK => ?_
    simp only [XU, XA, XB, gateX, ↓reduceIte, beq_self_eq_true, u1, u2]
    refine hK _ ?_
    refine Gx.f rfl ?_
    refine XWP.skip ?_
    refine Gx.a (by kernel_rfl) fun K hK => ?_
    simp only [XU, XA, XB]
    refine call_go (by kernel_rfl) rfl (pmake_i _ d.odds d.whole (by omega) (by omega) (by omega) (by omega)) fun v4 V4 hV4 h4 => ?_
    obtain ⟨w4, rfl, h4⟩ := h4
    obtain ⟨x4, y4, rfl, q1, q2⟩ := h4.form
    simp only [XA, XB, Nat.reduceAdd]
    refine st_rat rfl rfl rfl q1 q2 ?_
    simp only [XA]
    refine hK _ ?_
    obtain ⟨x5, y5, e5, q3, q4⟩ := hx.form
    cases e5
    have hq4 : QF (rv false d.odds.toNat d.whole.toNat) := (QB_rv (B := 16) _ (by omega) (by omega)).qf (by omega)
    refine Gx.c (by kernel_rfl) fun K hK => ?_
    simp only [XA, XB, Nat.reduceAdd, Nat.reduceLeDiff, ↓reduceIte]
    refine call_go (by kernel_rfl) rfl (pmul_c _ _ _ _ _ ((hx.mono hV4).toV (hqf k (by omega))) (h4.toV hq4) (hqf k (by omega)) hq4) fun v5 V5 hV5 h5 => ?_
    rw [rv_mul, ← eN, ← eD] at h5
    have h5 : RatC V5 v5 (rv false (pnum r.ds (k + 1)) (pden r.ds (k + 1))) := h5
    obtain ⟨x6, y6, rfl, q5, q6⟩ := h5.form
    simp only [XA]
    refine st_rat rfl rfl rfl q5 q6 ?_
    simp only [XA]
    exact hK _ fun f => ⟨V5, _, x6, y6, StIs.of (by exact rfl), View.le_trans hV4 hV5, h5⟩
  rintro s ⟨V3, b0, x, y, hs, hx⟩
  obtain ⟨z, rfl⟩ := hs.out
  try dsimp only
  obtain ⟨x5, y5, e5, q3, q4⟩ := hx.form
  cases e5
  refine Gx.a (by kernel_rfl) fun K hK => ?_
  simp only [XA, XB, Nat.reduceAdd, Nat.reduceLeDiff, ↓reduceIte]
  refine st_rat rfl rfl rfl q3 q4 ?_
  simp only [XA]
  refine hK _ (XWP.ret ?_)
  try simp only [thenX_ret, inBlockX_ret]
  exact ret_rat2 rfl rfl rfl rfl ⟨_, rfl, hx⟩
end Go.Proofs.YtobjjdnfgamgcaaGreat
end
section
namespace Go.Proofs.YtobjjdnfgamgcaaGreat
theorem XV : type_of% (And.intro (And.intro (And.intro (@shapeT_87) (And.intro (@fieldT_87_0) (@fieldT_87_1))) (And.intro (@fieldT_87_2) (And.intro (@fieldT_87_3) (@elemT_83)))) (And.intro (And.intro (@kindT_83) (And.intro (@shapeT_83) (@zeroT_87))) (And.intro (And.intro (@zeroT_83) (@elemT_40)) (And.intro (@kindT_40) (@shapeT_40))))) := And.intro (And.intro (And.intro (@shapeT_87) (And.intro (@fieldT_87_0) (@fieldT_87_1))) (And.intro (@fieldT_87_2) (And.intro (@fieldT_87_3) (@elemT_83)))) (And.intro (And.intro (@kindT_83) (And.intro (@shapeT_83) (@zeroT_87))) (And.intro (And.intro (@zeroT_83) (@elemT_40)) (And.intro (@kindT_40) (@shapeT_40))))
end Go.Proofs.YtobjjdnfgamgcaaGreat
end
section
namespace Go.Proofs.YtobjjdnfgamgcaaGreat
open Go Go.RowKit
set_option linter.unusedSimpArgs false
set_option linter.unusedVariables false
attribute [local irreducible] XWP Spec SpecO XPub XCall seqX clX apX stX ldX iaX slX
/-- a state in memory: the execution, its weight, its prior, its scores -/
def stE : View → List Value → Rn → Prop := fun V cs r => ∃ v0 v1 v2 v3 v4 v5 v6 v7 v8 m n d q1 q2 q3 s1 s2 s3, cs = [v0, v1, v2, v3, v4, v5, v6, v7, v8, m, n, d, q1, q2, q3, s1, s2, s3] ∧ ElK 9 rnE V [v0, v1, v2, v3, v4, v5, v6, v7, v8] r ∧ RatC V (.agg #[m, n, d]) r.w.q ∧ RatC V (.agg #[q1, q2, q3]) (priorQ r.ds) ∧ RatC V (.agg #[s1, s2, s3]) (r.w.q / priorQ r.ds)
theorem stE_ok : ElKOk stE := fun V V' cs r hV ⟨v0, v1, v2, v3, v4, v5, v6, v7, v8, m, n, d, q1, q2, q3, s1, s2, s3, e, h1, h2, h3, h4⟩ => ⟨v0, v1, v2, v3, v4, v5, v6, v7, v8, m, n, d, q1, q2, q3, s1, s2, s3, e, h1.mono rnE_ok hV, h2.mono hV, h3.mono hV, h4.mono hV⟩
theorem placesT_87 : placesT Tryz.prog 87 = some [(0, 9), (9, 3), (12, 3), (15, 3)] := by kernel_rfl
theorem bd_state {v0 v1 v2 v3 v4 v5 v6 v7 v8 m n d : Value} : BuildsTo Tryz.prog 87 #[(0, .agg #[v0, v1, v2, v3, v4, v5, v6, v7, v8]), (1, .agg #[m, n, d])] (.agg #[v0, v1, v2, v3, v4, v5, v6, v7, v8, m, n, d, .bool false, .slice none 0 0, .slice none 0 0, .bool false, .slice none 0 0, .slice none 0 0]) := by
  refine bd_run placesT_87 zeroT_87 ?_
  kernel_rfl
theorem st_part {P : Program} {t i n off : Nat} {s : XS} {ops : Array Oper} {rest : List Oper} {K : XS → Prop} {d : Option Tmp} {cs vs us : List Value} (hs : shapeT P t = some (true, n)) (hb : s.bx[i]? = some vs) (hc : cs.length = n) (h1 : cs.all isOne = true) (ho : off + n ≤ vs.length) (hu : splice vs off cs = us) (h : seqX P ops rest K (XS.put ⟨s.t, s.bx.set i us, s.H, s.V⟩ d (.v undef))) : stX P ops rest K s d t (.p i off) (.v (.agg cs.toArray)) :=
  st_agg (cs := cs) hs hb rfl ⟨hc, h1, ho, by rw [hu]; exact h⟩
theorem one3 {b : Bool} {x y : Value} (h1 : isOne x = true) (h2 : isOne y = true) : ([.bool b, x, y] : List Value).all isOne = true := by
  simp only [List.all_cons, List.all_nil, h1, h2]; rfl
/-- an execution that may be, not too great -/
structure Rn.fine (r : Rn) : Prop where
  len : r.ds.length ≤ 100
  good : ∀ d ∈ r.ds, d.good
  ok : r.w.ok = true
  qf : QF r.w.q
  pos : 0 < r.w.q
set_option maxHeartbeats 2000000 in
set_option maxRecDepth 100000 in
theorem cstates_c (V : View) (v : Value) (l : List Rn) (h : SlK 9 rnE V v l) (h0 : 0 < l.length) (hl : l.length ≤ 100) (hf : ∀ r ∈ l, r.fine) : Spec Tryz.prog 57 [v] V fun v' V' => SlK 18 stE V' v' l := by
  obtain ⟨AL, cL, rfl, _, _⟩ := h.form
  obtain ⟨bL, oL, rfl⟩ := SlK.addr h h0
  refine (Spec.enter Tryz.func57 rfl fun Γ => ?_)
  simp only [Tryz.ntmps57, List.map_cons, List.map_nil, List.length_cons, List.length_nil, Nat.reduceAdd, Nat.reduceSub, List.replicate_succ, List.replicate_zero, List.cons_append, List.nil_append]
  refine Gx.a (by kernel_rfl) fun K hK => ?_
  simp only [XA]
  refine hK _ ?_
  refine Gx.a (by kernel_rfl) fun K hK => ?_
  simp only [XA]
  refine hK _ ?_
  refine XWP.cutD 0 (fun s => ∃ (V2 : View) (H2 : Heap) (sv : Value) (cells : List Value), StIs (fun Z => [Z 0,Z 1,Z 2, .v sv, Z 4,Z 5,Z 6,Z 7,Z 8,Z 9,Z 10,Z 11,Z 12,Z 13,Z 14,Z 15,Z 16,Z 17,Z 18,Z 19,Z 20,Z 21,Z 22,Z 23,Z 24,Z 25,Z 26,Z 27,Z 28,Z 29,Z 30,Z 31,Z 32,Z 33,Z 34]) [] H2 V2 s ∧ Own H2 87 18 sv l.length cells ∧ RowK 18 stE V2 cells l) ?_ ?_
  · refine Gx.a (by kernel_rfl) fun K hK => ?_
    simp only [XU, XA]
    refine hK _ ?_
    clear hK
    refine XWP.block ?_
    refine XWP.loopD 0 (fun q s => ∃ (k : Nat) (V2 : View) (H2 : Heap) (sv : Value) (cells : List Value), StIs (fun Z => [Z 0,Z 1,Z 2, .v sv, Z 4,Z 5,Z 6, .v (.slice (some ⟨bL, oL, none⟩) l.length cL), .v (.int .i64 (l.length : Int)), .v (.int .i64 (k : Int)), Z 10,Z 11,Z 12,Z 13,Z 14,Z 15,Z 16,Z 17,Z 18,Z 19,Z 20,Z 21,Z 22,Z 23,Z 24,Z 25,Z 26,Z 27,Z 28,Z 29,Z 30,Z 31,Z 32,Z 33,Z 34]) [] H2 V2 s ∧ q + k = l.length ∧ V.le V2 ∧ Own H2 87 18 sv k cells ∧ RowK 18 stE V2 cells (l.take k)) l.length ⟨0, V, _, _, [], StIs.of (by exact rfl), by omega, View.le_refl _, own_nil, RowK.nil V⟩ ?_
    rintro q s ⟨k, V2, H2, sv, cells, hs, hq, hV2, ho, hr⟩
    obtain ⟨z, rfl⟩ := hs.out
    try dsimp only
    clear hs
    by_cases hk : k < l.length
    rotate_left
    · obtain rfl : k = l.length := by omega
      have bt1 : decide (((l.length : Nat) : Int) < ((l.length : Nat) : Int)) = false := decide_eq_false (by omega)
      refine Gx.a (by kernel_rfl) fun K hK => ?_
      simp only [XA, XB, bt1]
      refine hK _ ?_
      refine XWP.seq (Gx.f rfl ?_)
      refine XWP.exit ?_
      rw [List.take_length] at hr
      exact fun f => ⟨V2, H2, sv, cells, StIs.of (by exact rfl), ho, hr⟩
    have bt1 : decide ((k : Int) < (l.length : Int)) = true := decide_eq_true (by omega)
    refine Gx.a (by kernel_rfl) fun K hK => ?_
    simp only [XA, XB, bt1]
    refine hK _ ?_
    refine XWP.seq (Gx.t rfl ?_)
    refine XWP.skip ?_
    obtain ⟨r, hrk⟩ : ∃ r, l[k]? = some r := ⟨_, List.getElem?_eq_getElem hk⟩
    have er : l[k] = r := (List.getElem?_eq_some_iff.1 hrk).2
    have hrL : r ∈ l := List.mem_of_getElem? hrk
    have hfr := hf r hrL
    have h2 := h.mono rnE_ok hV2
    obtain ⟨cs, hcs, hcell⟩ := SlK.get h2 k hk
    rw [er] at hcs
    have hcsE := hcs
    obtain ⟨_, hone, c1, c2, c3, c4, dv, m, c7, c8, rfl, hds, hwr⟩ := hcs
    have hwc : RatC V2 (.agg #[m, c7, c8]) r.w.q := RawAt.rat hwr hfr.ok
    have etk : l.take (k + 1) = l.take k ++ [r] := by rw [List.take_add_one, hrk]; rfl
    refine XWP.seq (XWP.block ?_)
    refine Gx.a (by kernel_rfl) fun K hK => ?_
    simp only [XU, XA]
    refine ⟨by omega, by omega, ld_mem (loadsK shapeT_51 rfl fun j u hj => hcell _ j u hj) ?_⟩
    simp only [XU, XA]
    refine st_whole (cs := [.int .i64 r.kind, c1, c2, c3, c4, dv, m, c7, c8]) shapeT_51 rfl rfl rfl hone ?_
    simp only [XA]
    refine hK _ ?_
    refine Gx.a (by kernel_rfl) fun K hK => ?_
    simp only [XU, XA, XB, Nat.reduceAdd, Nat.reduceLeDiff, ↓reduceIte]
    refine bd_go (by kernel_rfl) #[(0, .agg #[.int .i64 r.kind, c1, c2, c3, c4, dv, m, c7, c8]), (1, .agg #[m, c7, c8])] (by simp [ev_tmp, SV.val]) bd_state ?_
    simp only [XV, XA]
    have hone2 : ([.int .i64 r.kind, c1, c2, c3, c4, dv, m, c7, c8, m, c7, c8, .bool false, .slice none 0 0, .slice none 0 0, .bool false, .slice none 0 0, .slice none 0 0] : List Value).all isOne = true := by
      simp only [List.all_cons, List.all_nil, Bool.and_true, Bool.and_eq_true] at hone ⊢
      obtain ⟨a0, a1, a2, a3, a4, a5, a6, a7, a8⟩ := hone
      exact ⟨a0, a1, a2, a3, a4, a5, a6, a7, a8, a6, a7, a8, rfl, rfl, rfl, rfl, rfl, rfl⟩
    refine st_whole (cs := [.int .i64 r.kind, c1, c2, c3, c4, dv, m, c7, c8, m, c7, c8, .bool false, .slice none 0 0, .slice none 0 0, .bool false, .slice none 0 0, .slice none 0 0]) shapeT_87 rfl rfl rfl hone2 ?_
    simp only [XA]
    refine hK _ ?_
    refine Gx.a (by kernel_rfl) fun K hK => ?_
    simp only [XU, XA, Nat.reduceAdd, Nat.reduceLeDiff, ↓reduceIte]
    refine call_go (by kernel_rfl) rfl (cprior_c _ _ r hcsE hfr.len hfr.good) fun v3 V3 hV3 h3 => ?_
    obtain ⟨w3, rfl, h3⟩ := h3
    obtain ⟨x3, y3, rfl, p1, p2⟩ := h3.form
    simp only [XV, XA]
    refine st_part (us := [.int .i64 r.kind, c1, c2, c3, c4, dv, m, c7, c8, m, c7, c8, .bool (ng (priorQ r.ds)), x3, y3, .bool false, .slice none 0 0, .slice none 0 0]) (cs := [.bool (ng (priorQ r.ds)), x3, y3]) shapeT_49 rfl rfl (one3 p1 p2) (by simp) (by exact rfl) ?_
    simp only [XA]
    refine hK _ ?_
    refine Gx.a (by kernel_rfl) fun K hK => ?_
    simp only [XU, XA, Nat.reduceAdd, Nat.reduceLeDiff, ↓reduceIte]
    refine call_go (by kernel_rfl) rfl (cscores_c _ _ r (hcsE.mono rnE_ok hV3) hfr.len hfr.good hfr.ok hfr.qf) fun v4 V4 hV4 h4 => ?_
    obtain ⟨w4, rfl, h4⟩ := h4
    obtain ⟨x4, y4, rfl, p3, p4⟩ := h4.form
    simp only [XV, XA]
    refine st_part (us := [.int .i64 r.kind, c1, c2, c3, c4, dv, m, c7, c8, m, c7, c8, .bool (ng (priorQ r.ds)), x3, y3, .bool (ng (r.w.q / priorQ r.ds)), x4, y4]) (cs := [.bool (ng (r.w.q / priorQ r.ds)), x4, y4]) shapeT_49 rfl rfl (one3 p3 p4) (by simp) (by exact rfl) ?_
    simp only [XA]
    refine hK _ ?_
    refine Gx.c (by kernel_rfl) fun K hK => ?_
    simp only [XV, XA, Nat.reduceAdd, Nat.reduceLeDiff, ↓reduceIte]
    have honeF : ([.int .i64 r.kind, c1, c2, c3, c4, dv, m, c7, c8, m, c7, c8, .bool (ng (priorQ r.ds)), x3, y3, .bool (ng (r.w.q / priorQ r.ds)), x4, y4] : List Value).all isOne = true := by
      simp only [List.all_cons, List.all_nil, Bool.and_true, Bool.and_eq_true] at hone ⊢
      obtain ⟨a0, a1, a2, a3, a4, a5, a6, a7, a8⟩ := hone
      exact ⟨a0, a1, a2, a3, a4, a5, a6, a7, a8, a6, a7, a8, rfl, p1, p2, rfl, p3, p4⟩
    refine bs_go (by kernel_rfl) #[(0, .agg ([.int .i64 r.kind, c1, c2, c3, c4, dv, m, c7, c8, m, c7, c8, .bool (ng (priorQ r.ds)), x3, y3, .bool (ng (r.w.q / priorQ r.ds)), x4, y4] : List Value).toArray)] (by simp [ev_tmp, SV.val]) (bs_agg elemT_83 zeroT_87 rfl (by omega) (by omega) rfl) fun bq hbq1 hbq2 => ?_
    simp only [XA, Nat.reduceAdd]
    refine ap_go elemT_83 (by kernel_rfl) zeroT_87 rfl (by omega) (own_upd ho hbq1) (srcK (upd_at _ _ _) honeF) (by omega) (by omega) fun v' H' hres => ?_
    simp only [XA]
    have hV34 := View.le_trans hV3 hV4
    have hel : ElK 18 stE V4 [.int .i64 r.kind, c1, c2, c3, c4, dv, m, c7, c8, m, c7, c8, .bool (ng (priorQ r.ds)), x3, y3, .bool (ng (r.w.q / priorQ r.ds)), x4, y4] r := ⟨rfl, honeF, _, _, _, _, _, _, _, _, _, _, _, _, _, _, _, _, _, _, rfl, hcsE.mono rnE_ok hV34, hwc.mono hV34, h3.mono hV4, h4⟩
    refine hK _ ?_
    refine Gx.c (by kernel_rfl) fun K hK => ?_
    simp only [XA, XB, i64_succ k (by omega)]
    exact hK _ ⟨q - 1, by omega, fun f => ⟨k + 1, V4, H', v', _, StIs.of (by exact rfl), by omega, View.le_trans hV2 hV34, hres.1, by rw [etk]; exact (hr.mono stE_ok hV34).snoc hel⟩⟩
  rintro s ⟨V2, H2, sv, cells, hs, ho, hr⟩
  obtain ⟨z, rfl⟩ := hs.out
  try dsimp only
  refine XWP.pubK stE_ok (by omega) ho hr fun H3 V3 hV3 hW _ => ?_
  refine Gx.a (by kernel_rfl) fun K hK => ?_
  simp only [XA]
  refine hK _ (XWP.ret ?_)
  try simp only [thenX_ret, inBlockX_ret]
  refine ret_go _ rfl ?_
  exact hW
end Go.Proofs.YtobjjdnfgamgcaaGreat
end
section
namespace Go.Proofs.YtobjjdnfgamgcaaGreat
open Go Go.RowKit
set_option linter.unusedSimpArgs false
set_option linter.unusedVariables false
attribute [local irreducible] XWP Spec SpecO XPub XCall seqX clX apX stX ldX iaX slX
theorem RowAt.cat {α : Type} {E : View → Value → α → Prop} {V : View} {c1 c2 : List Value} {l1 l2 : List α} (h1 : RowAt E V c1 l1) (h2 : RowAt E V c2 l2) : RowAt E V (c1 ++ c2) (l1 ++ l2) := by
  have e1 := h1.1
  have e2 := h2.1
  refine ⟨by rw [List.length_append, List.length_append, e1, e2]; omega, fun i x hi => ?_⟩
  by_cases hlt : i < l1.length
  · rw [List.getElem?_append_left hlt] at hi
    obtain ⟨m, n, d, g1, g2, g3, r⟩ := h1.2 i x hi
    refine ⟨m, n, d, ?_, ?_, ?_, r⟩
    · show (c1 ++ c2)[i * 3]? = _
      rw [List.getElem?_append_left (by omega)]; exact g1
    · show (c1 ++ c2)[i * 3 + 1]? = _
      rw [List.getElem?_append_left (by omega)]; exact g2
    · show (c1 ++ c2)[i * 3 + 2]? = _
      rw [List.getElem?_append_left (by omega)]; exact g3
  · rw [List.getElem?_append_right (by omega)] at hi
    obtain ⟨m, n, d, g1, g2, g3, r⟩ := h2.2 (i - l1.length) x hi
    refine ⟨m, n, d, ?_, ?_, ?_, r⟩
    · show (c1 ++ c2)[i * 3]? = _
      rw [List.getElem?_append_right (by omega), show i * 3 - c1.length = (i - l1.length) * 3 by omega]; exact g1
    · show (c1 ++ c2)[i * 3 + 1]? = _
      rw [List.getElem?_append_right (by omega), show i * 3 + 1 - c1.length = (i - l1.length) * 3 + 1 by omega]; exact g2
    · show (c1 ++ c2)[i * 3 + 2]? = _
      rw [List.getElem?_append_right (by omega), show i * 3 + 2 - c1.length = (i - l1.length) * 3 + 2 by omega]; exact g3
theorem own_offK {H : Heap} {e sz n b : Nat} {v : Value} {xs : List Value} {r : Option Row} (h : Own H e sz v n xs) (hb : v.ownBlock ≠ some b) : Own (upd H b r) e sz v n xs := by
  refine ⟨h.1, ?_⟩
  rcases h.2 with h1 | ⟨g, cap, rfl, hg, h2⟩
  · exact .inl h1
  · exact .inr ⟨g, cap, rfl, (upd_off fun e => hb (by rw [← e]; rfl)).trans hg, h2⟩
theorem own_newK {H : Heap} {e sz n b : Nat} {v : Value} {xs : List Value} (h : Own H e sz v n xs) (hb : H b = none) : v.ownBlock ≠ some b := by
  rcases h.2 with ⟨rfl, _⟩ | ⟨g, cap, rfl, hg, _⟩
  · intro e; cases e
  · intro e
    have : g = b := by simpa [Value.ownBlock] using e
    subst this
    rw [hb] at hg; cases hg
theorem ret_matC {t i : Nat} {s : XS} {R : Value → View → Prop} {vs : List Value} (ht : s.t[t]? = some (.p i 0)) (hb : s.bx[i]? = some vs) (hl : vs.length = 3) (hR : R (.agg vs.toArray) s.V) : XPost Tryz.prog [.cell t 26] R .ret s := by
  refine ret_go [.agg vs.toArray] ?_ hR
  simp [resAll, resV, cellsV, ht, hb, shapeT_26, hl]
/-- the rest of a row stays -/
def offQ (od : Nat → Nat → Rat) (i : Nat) : Nat → Rat := Sm fun k => if k = i then 0 else od i k
def moveG (od : Nat → Nat → Rat) (n : Nat) : Grid := fun i k => if k = i then 1 - offQ od i n else od i k
def rowO (od : Nat → Nat → Rat) (n i k : Nat) : List (Option Rat) := (List.range n).map fun j => if j < k ∧ j ≠ i then some (od i j) else none
theorem rowO_len (od : Nat → Nat → Rat) (n i k : Nat) : (rowO od n i k).length = n := by simp [rowO]
theorem rowO_zero (od : Nat → Nat → Rat) (n i : Nat) : rowO od n i 0 = List.replicate n none := by
  refine List.ext_getElem? fun j => ?_
  unfold rowO
  rw [List.getElem?_map, List.getElem?_replicate]
  by_cases hj : j < n
  · rw [List.getElem?_range hj, if_pos hj]; simp
  · rw [if_neg hj, List.getElem?_eq_none (by simp; omega)]; rfl
theorem rowO_get (od : Nat → Nat → Rat) {n i k j : Nat} (hj : j < n) : (rowO od n i k)[j]? = some (if j < k ∧ j ≠ i then some (od i j) else none) := by
  unfold rowO
  rw [List.getElem?_map, List.getElem?_range hj]; rfl
theorem rowO_set (od : Nat → Nat → Rat) {n i k : Nat} (hk : k < n) (hne : k ≠ i) : (rowO od n i k).set k (some (od i k)) = rowO od n i (k + 1) := by
  refine List.ext_getElem? fun j => ?_
  by_cases hj : j < n
  · rw [rowO_get od hj, List.getElem?_set]
    by_cases e : k = j
    · subst e
      rw [if_pos rfl, rowO_len, if_pos hj, if_pos ⟨by omega, hne⟩]
    · rw [if_neg e, rowO_get od hj]
      congr 1
      by_cases h1 : j < k ∧ j ≠ i
      · rw [if_pos h1, if_pos ⟨by omega, h1.2⟩]
      · rw [if_neg h1, if_neg (fun h => h1 ⟨by omega, h.2⟩)]
  · rw [List.getElem?_eq_none (by rw [List.length_set, rowO_len]; omega), List.getElem?_eq_none (by rw [rowO_len]; omega)]
theorem rowO_skip (od : Nat → Nat → Rat) (n i : Nat) : rowO od n i (i + 1) = rowO od n i i := by
  unfold rowO
  refine List.map_congr_left fun j _ => ?_
  by_cases h1 : j < i ∧ j ≠ i
  · rw [if_pos h1, if_pos ⟨by omega, h1.2⟩]
  · rw [if_neg h1, if_neg (fun h => h1 ⟨by omega, h.2⟩)]
theorem rowO_end (od : Nat → Nat → Rat) {n i : Nat} (hi : i < n) : (rowO od n i n).set i (some (1 - offQ od i n)) = (mk n (moveG od n i)).map some := by
  refine List.ext_getElem? fun j => ?_
  by_cases hj : j < n
  · unfold mk
    rw [List.map_map, List.getElem?_map, List.getElem?_range hj, List.getElem?_set]
    show _ = some (some (moveG od n i j))
    unfold moveG
    by_cases e : i = j
    · subst e
      rw [if_pos rfl, rowO_len, if_pos hj, if_pos rfl]
    · rw [if_neg e, rowO_get od hj, if_pos ⟨hj, fun h => e h.symm⟩, if_neg (fun h => e h.symm)]
  · rw [List.getElem?_eq_none (by rw [List.length_set, rowO_len]; omega), List.getElem?_eq_none (by simp [mk]; omega)]
theorem mk_row (G : Grid) (n i : Nat) : mk (i * n) (flatF G n) ++ mk n (G i) = mk ((i + 1) * n) (flatF G n) := by
  unfold mk
  rw [Nat.add_mul, Nat.one_mul, List.range_add, List.map_append, List.map_map]
  congr 1
  refine List.map_congr_left fun k hk => ?_
  exact (flatF_at G (List.mem_range.1 hk)).symm
theorem offQ_QB {od : Nat → Nat → Rat} {B n i : Nat} (h : ∀ k, k < n → k ≠ i → QB B (od i k)) : ∀ k, k ≤ n → QB (k * (B + 1)) (offQ od i k)
  | 0, _ => QB_zero _
  | k + 1, hk => by
    have ih := offQ_QB h k (by omega)
    have h1 : QB B (if k = i then 0 else od i k) := by
      split
      · exact QB_zero _
      · rename_i e; exact h k (by omega) e
    exact (ih.add h1).mono (by rw [Nat.add_mul]; omega)
set_option maxHeartbeats 4000000 in
set_option maxRecDepth 100000 in
theorem cmoves_c (V : View) (A : Option Addr) (n c f B : Nat) (caps : List Value) (od : Nat → Nat → Rat) (hn : n ≤ 60) (hcall : callable Tryz.prog f = true) (hod : ∀ i k, i < n → k < n → k ≠ i → QB B (od i k)) (hB : 62 * (B + 1) ≤ 17592186044416)
    (hspec : ∀ V' (i k : Nat), V.le V' → i < n → k < n → k ≠ i → Spec Tryz.prog f ([.int .i64 (i : Int), .int .i64 (k : Int)] ++ caps) V' fun v' V'' => RatC V'' v' (od i k)) :
    Spec Tryz.prog 58 [.slice A n c, .func (.func f) #[] caps.toArray] V fun v' V' => ∃ s, v' = .agg #[.int .i64 (n : Int), .int .i64 (n : Int), s] ∧ Rats V' s (flatG (moveG od n) n n) := by
  have hnn : n * n ≤ 3600 := Nat.le_trans (Nat.mul_le_mul hn hn) (by decide)
  have hS : ∀ i k, i < n → k ≤ n → QF (offQ od i k) := fun i k hi hk => (offQ_QB (fun k hk hne => hod i k hi hk hne) k hk).qf (Nat.le_trans (Nat.mul_le_mul_right _ (show k ≤ 62 by omega)) hB)
  refine (Spec.enter Tryz.func58 rfl fun Γ => ?_)
  simp only [Tryz.ntmps58, List.map_cons, List.map_nil, List.length_cons, List.length_nil, Nat.reduceAdd, Nat.reduceSub, List.replicate_succ, List.replicate_zero, List.cons_append, List.nil_append]
  refine Gx.a (by kernel_rfl) fun K hK => ?_
  simp only [XM, XA]
  refine hK _ ?_
  refine Gx.a (by kernel_rfl) fun K hK => ?_
  simp only [XV, XA]
  refine bd_go (by kernel_rfl) #[(0, .int .i64 (n : Int)), (1, .int .i64 (n : Int))] (by simp [ev_tmp, SV.val]) (bd_mtx2 rfl rfl) ?_
  simp only [XM, XA]
  refine st_mat shapeT_26 rfl rfl rfl rfl rfl ?_
  simp only [XA]
  refine hK _ ?_
  clear hK
  refine XWP.cutD 2 (fun s => ∃ (V2 : View) (H2 : Heap) (sa : Value) (ca : List Value), StIs (fun Z => [Z 0,Z 1,Z 2,Z 3, .p 0 0, .p 1 0, Z 6,Z 7,Z 8,Z 9,Z 10,Z 11,Z 12,Z 13,Z 14,Z 15,Z 16,Z 17,Z 18,Z 19,Z 20,Z 21,Z 22,Z 23,Z 24,Z 25,Z 26,Z 27,Z 28,Z 29,Z 30,Z 31,Z 32,Z 33,Z 34,Z 35,Z 36,Z 37,Z 38,Z 39,Z 40,Z 41,Z 42,Z 43,Z 44,Z 45,Z 46,Z 47,Z 48,Z 49,Z 50,Z 51,Z 52,Z 53,Z 54,Z 55,Z 56,Z 57,Z 58]) [[.int .i64 0, .int .i64 0, .slice none 0 0], [.int .i64 (n : Int), .int .i64 (n : Int), sa]] H2 V2 s ∧ Own H2 49 3 sa (n * n) ca ∧ RowAt ratE V2 ca (flatG (moveG od n) n n)) ?_ ?_
  · refine Gx.a (by kernel_rfl) fun K hK => ?_
    simp only [XV, XA]
    refine hK _ ?_
    clear hK
    refine XWP.block ?_
    refine XWP.loopD 2 (fun q s => ∃ (i : Nat) (V2 : View) (H2 : Heap) (sa : Value) (ca : List Value), StIs (fun Z => [.v (.slice A n c), .v (.func (.func f) #[] caps.toArray), Z 2,Z 3, .p 0 0, .p 1 0, Z 6,Z 7,Z 8,Z 9,Z 10,Z 11,Z 12,Z 13,Z 14, .v (.slice A n c), .v (.int .i64 (n : Int)), .v (.int .i64 (i : Int)), Z 18,Z 19,Z 20,Z 21,Z 22,Z 23,Z 24,Z 25,Z 26,Z 27,Z 28,Z 29,Z 30,Z 31,Z 32,Z 33,Z 34,Z 35,Z 36,Z 37,Z 38,Z 39,Z 40,Z 41,Z 42,Z 43,Z 44,Z 45,Z 46,Z 47,Z 48,Z 49,Z 50,Z 51,Z 52,Z 53,Z 54,Z 55,Z 56,Z 57,Z 58]) [[.int .i64 0, .int .i64 0, .slice none 0 0], [.int .i64 (n : Int), .int .i64 (n : Int), sa]] H2 V2 s ∧ q + i = n ∧ V.le V2 ∧ Own H2 49 3 sa (i * n) ca ∧ RowAt ratE V2 ca (mk (i * n) (flatF (moveG od n) n))) n ⟨0, V, _, _, [], StIs.of (by exact rfl), by omega, View.le_refl _, by rw [Nat.zero_mul]; exact own_nil, by rw [Nat.zero_mul]; exact RowAt.nil V⟩ ?_
    rintro q s ⟨i, V2, H2, sa, ca, hs, hq, hV2, hown, hrow⟩
    obtain ⟨z, rfl⟩ := hs.out
    try dsimp only
    clear hs
    by_cases hi : i < n
    rotate_left
    · obtain rfl : i = n := by omega
      have b1 : decide ((i : Int) < (i : Int)) = false := decide_eq_false (by omega)
      refine Gx.a (by kernel_rfl) fun K hK => ?_
      simp only [XA, XB, b1]
      refine hK _ ?_
      refine XWP.seq (Gx.f rfl ?_)
      refine XWP.exit ?_
      exact fun f => ⟨V2, H2, sa, ca, StIs.of (by exact rfl), hown, hrow⟩
    have b1 : decide ((i : Int) < (n : Int)) = true := decide_eq_true (by omega)
    refine Gx.a (by kernel_rfl) fun K hK => ?_
    simp only [XA, XB, b1]
    refine hK _ ?_
    refine XWP.seq (Gx.t rfl ?_)
    refine XWP.skip ?_
    have hin : i * n ≤ 3600 := Nat.le_trans (Nat.mul_le_mul (show i ≤ 60 by omega) hn) (by decide)
    refine XWP.cutD 2 (fun s => ∃ (V3 : View) (H3 : Heap) (sa : Value) (ca : List Value), StIs (fun Z => [.v (.slice A n c), .v (.func (.func f) #[] caps.toArray), Z 2,Z 3, .p 0 0, .p 1 0, Z 6,Z 7,Z 8,Z 9,Z 10,Z 11,Z 12,Z 13,Z 14, .v (.slice A n c), .v (.int .i64 (n : Int)), .v (.int .i64 (i : Int)), Z 18,Z 19,Z 20,Z 21,Z 22,Z 23,Z 24,Z 25,Z 26,Z 27,Z 28,Z 29,Z 30,Z 31,Z 32,Z 33,Z 34,Z 35,Z 36,Z 37,Z 38,Z 39,Z 40,Z 41,Z 42,Z 43,Z 44,Z 45,Z 46,Z 47,Z 48,Z 49,Z 50,Z 51,Z 52,Z 53,Z 54,Z 55,Z 56,Z 57,Z 58]) [[.int .i64 0, .int .i64 0, .slice none 0 0], [.int .i64 (n : Int), .int .i64 (n : Int), sa]] H3 V3 s ∧ V2.le V3 ∧ Own H3 49 3 sa ((i + 1) * n) ca ∧ RowAt ratE V3 ca (mk ((i + 1) * n) (flatF (moveG od n) n))) ?_ ?_
    rotate_left
    · rintro s ⟨V3, H3, sa, ca, hs, hV3, hown, hrow⟩
      obtain ⟨z, rfl⟩ := hs.out
      try dsimp only
      clear hs
      refine Gx.c (by kernel_rfl) fun K hK => ?_
      simp only [XA, XB, i64_succ i (by omega)]
      exact hK _ ⟨q - 1, by omega, fun f => ⟨i + 1, V3, H3, sa, ca, StIs.of (by exact rfl), by omega, View.le_trans hV2 hV3, hown, hrow⟩⟩
    clear hK
    refine XWP.block ?_
    refine Gx.a (by kernel_rfl) fun K hK => ?_
    simp only [XA]
    refine hK _ ?_
    have hsb : ∀ b, H2 b = none → sa.ownBlock ≠ some b := fun b hb => own_newK hown hb
    refine XWP.cut (fun s => ∃ (V3 : View) (H3 : Heap) (b : Nat) (x y : Value), StIs (fun Z => [.v (.slice A n c), .v (.func (.func f) #[] caps.toArray), Z 2,Z 3, .p 0 0, .p 1 0, .v (.int .i64 (i : Int)), .v (.slice (some ⟨b, 0, none⟩) n n), .p 2 0, Z 9,Z 10,Z 11,Z 12,Z 13,Z 14, .v (.slice A n c), .v (.int .i64 (n : Int)), .v (.int .i64 (i : Int)), Z 18,Z 19,Z 20,Z 21,Z 22,Z 23,Z 24,Z 25,Z 26,Z 27,Z 28,Z 29,Z 30,Z 31,Z 32,Z 33,Z 34,Z 35,Z 36,Z 37,Z 38,Z 39,Z 40,Z 41,Z 42,Z 43,Z 44,Z 45,Z 46,Z 47,Z 48,Z 49,Z 50,Z 51,Z 52,Z 53,Z 54,Z 55,Z 56,Z 57,Z 58]) [[.int .i64 0, .int .i64 0, .slice none 0 0], [.int .i64 (n : Int), .int .i64 (n : Int), sa], [.bool (ng 0), x, y]] H3 V3 s ∧ V2.le V3 ∧ H3 b = some ⟨49, (List.replicate n [Value.bool false, .slice none 0 0, .slice none 0 0]).flatten, n * 3⟩ ∧ sa.ownBlock ≠ some b ∧ Own H3 49 3 sa (i * n) ca ∧ RatC V3 (.agg #[.bool (ng 0), x, y]) 0 ∧ isOne x = true ∧ isOne y = true) ?_ ?_
    · (refine XWP.drwT1 (.lin [0, 1] (.two (.lin [2] (.two (.lin [3, 4, 5, 6] .nil) (.lin [4, 3, 5, 6] .nil))) (.two (.lin [3] (.two (.lin [2, 4, 5, 6] .nil) (.lin [4, 2, 5, 6] .nil))) (.lin [4] (.two (.lin [2, 3, 5, 6] .nil) (.lin [3, 2, 5, 6] .nil)))))) (by kernel_rfl) (by kernel_rfl) (by kernel_rfl) fun K hK => ?_)
      simp only [XV, XA, XB, Nat.reduceAdd]
      repeat' first
        | refine And.intro ?_ ?_
        | refine mk_go rfl rfl elemT_24 zeroT_49 (by omega) (by omega) (by omega) (by omega) rfl (by omega) fun b hb1 hb2 => ?_
        | (refine call_go (by kernel_rfl) rfl (qzero_c _) fun v4 V4 hV4 h4 => ?_; obtain ⟨x4, y4, rfl, o1, o2⟩ := h4.form)
        | refine st_rat rfl rfl rfl o1 o2 ?_
        | exact hK _ ⟨V4, _, b, x4, y4, StIs.of (by exact rfl), hV4, upd_at _ _ _, hsb b hb1, own_upd hown hb1, h4, o1, o2⟩
        | simp only [XA, XB, Nat.reduceAdd]
    clear hown
    rintro s ⟨V3, H3, b, x, y, hs, hV3, hH, hne, hown, h3, o1, o2⟩
    obtain ⟨z, rfl⟩ := hs.out
    try dsimp only
    clear hs
    have hrow0 : RowAt (optE ratE) V3 (List.replicate n [Value.bool false, .slice none 0 0, .slice none 0 0]).flatten (rowO od n i 0) := by rw [rowO_zero]; exact RowAt.new _ n
    refine XWP.cut (fun s => ∃ (V4 : View) (H4 : Heap) (co : List Value) (b' x y : Value), StIs (fun Z => [.v (.slice A n c), .v (.func (.func f) #[] caps.toArray), Z 2,Z 3, .p 0 0, .p 1 0, .v (.int .i64 (i : Int)), .v (.slice (some ⟨b, 0, none⟩) n n), .p 2 0, Z 9,Z 10,Z 11,Z 12,Z 13,Z 14, .v (.slice A n c), .v (.int .i64 (n : Int)), .v (.int .i64 (i : Int)), Z 18,Z 19,Z 20,Z 21,Z 22,Z 23,Z 24,Z 25,Z 26,Z 27,Z 28,Z 29,Z 30,Z 31,Z 32,Z 33,Z 34,Z 35,Z 36,Z 37,Z 38,Z 39,Z 40,Z 41,Z 42,Z 43,Z 44,Z 45,Z 46,Z 47,Z 48,Z 49,Z 50,Z 51,Z 52,Z 53,Z 54,Z 55,Z 56,Z 57,Z 58]) [[.int .i64 0, .int .i64 0, .slice none 0 0], [.int .i64 (n : Int), .int .i64 (n : Int), sa], [b', x, y]] H4 V4 s ∧ V3.le V4 ∧ H4 b = some ⟨49, co, n * 3⟩ ∧ RowAt (optE ratE) V4 co (rowO od n i n) ∧ Own H4 49 3 sa (i * n) ca ∧ RatC V4 (.agg #[b', x, y]) (offQ od i n)) ?_ ?_
    · refine Gx.a (by kernel_rfl) fun K hK => ?_
      simp only [XV, XA]
      refine hK _ ?_
      clear hK
      refine XWP.block ?_
      refine XWP.loop (fun p s => ∃ (k : Nat) (V4 : View) (H4 : Heap) (co : List Value) (b' x y : Value), StIs (fun Z => [.v (.slice A n c), .v (.func (.func f) #[] caps.toArray), Z 2,Z 3, .p 0 0, .p 1 0, .v (.int .i64 (i : Int)), .v (.slice (some ⟨b, 0, none⟩) n n), .p 2 0, Z 9,Z 10,Z 11,Z 12,Z 13,Z 14, .v (.slice A n c), .v (.int .i64 (n : Int)), .v (.int .i64 (i : Int)), Z 18,Z 19,Z 20,Z 21,Z 22,Z 23, .v (.slice A n c), .v (.int .i64 (n : Int)), .v (.int .i64 (k : Int)), Z 27,Z 28,Z 29,Z 30,Z 31,Z 32,Z 33,Z 34,Z 35,Z 36,Z 37,Z 38,Z 39,Z 40,Z 41,Z 42,Z 43,Z 44,Z 45,Z 46,Z 47,Z 48,Z 49,Z 50,Z 51,Z 52,Z 53,Z 54,Z 55,Z 56,Z 57,Z 58]) [[.int .i64 0, .int .i64 0, .slice none 0 0], [.int .i64 (n : Int), .int .i64 (n : Int), sa], [b', x, y]] H4 V4 s ∧ p + k = n ∧ V3.le V4 ∧ H4 b = some ⟨49, co, n * 3⟩ ∧ RowAt (optE ratE) V4 co (rowO od n i k) ∧ Own H4 49 3 sa (i * n) ca ∧ RatC V4 (.agg #[b', x, y]) (offQ od i k)) n ⟨0, V3, H3, _, _, x, y, StIs.of (by exact rfl), by omega, View.le_refl _, hH, hrow0, hown, h3⟩ ?_
      clear hH hrow0 hown h3 o1 o2
      rintro p s ⟨k, V4, H4, co, b', x, y, hs, hp, hV4, hH, hrw, hown, h4⟩
      obtain ⟨z, rfl⟩ := hs.out
      try dsimp only
      clear hs
      by_cases hk : k < n
      rotate_left
      · obtain rfl : k = n := by omega
        have b2 : decide ((k : Int) < (k : Int)) = false := decide_eq_false (by omega)
        refine Gx.a (by kernel_rfl) fun K hK => ?_
        simp only [XA, XB, b2]
        refine hK _ ?_
        refine XWP.seq (Gx.f rfl ?_)
        refine XWP.exit ?_
        exact ⟨V4, H4, co, b', x, y, StIs.of (by exact rfl), hV4, hH, hrw, hown, h4⟩
      have b2 : decide ((k : Int) < (n : Int)) = true := decide_eq_true (by omega)
      refine Gx.a (by kernel_rfl) fun K hK => ?_
      simp only [XA, XB, b2]
      refine hK _ ?_
      refine XWP.seq (Gx.t rfl ?_)
      refine XWP.skip ?_
      refine XWP.cut (fun s => ∃ (V5 : View) (H5 : Heap) (co : List Value) (b' x y : Value), StIs (fun Z => [.v (.slice A n c), .v (.func (.func f) #[] caps.toArray), Z 2,Z 3, .p 0 0, .p 1 0, .v (.int .i64 (i : Int)), .v (.slice (some ⟨b, 0, none⟩) n n), .p 2 0, Z 9,Z 10,Z 11,Z 12,Z 13,Z 14, .v (.slice A n c), .v (.int .i64 (n : Int)), .v (.int .i64 (i : Int)), Z 18,Z 19,Z 20,Z 21,Z 22,Z 23, .v (.slice A n c), .v (.int .i64 (n : Int)), .v (.int .i64 (k : Int)), Z 27,Z 28,Z 29,Z 30,Z 31,Z 32,Z 33,Z 34,Z 35,Z 36,Z 37,Z 38,Z 39,Z 40,Z 41,Z 42,Z 43,Z 44,Z 45,Z 46,Z 47,Z 48,Z 49,Z 50,Z 51,Z 52,Z 53,Z 54,Z 55,Z 56,Z 57,Z 58]) [[.int .i64 0, .int .i64 0, .slice none 0 0], [.int .i64 (n : Int), .int .i64 (n : Int), sa], [b', x, y]] H5 V5 s ∧ V4.le V5 ∧ H5 b = some ⟨49, co, n * 3⟩ ∧ RowAt (optE ratE) V5 co (rowO od n i (k + 1)) ∧ Own H5 49 3 sa (i * n) ca ∧ RatC V5 (.agg #[b', x, y]) (offQ od i (k + 1))) ?_ ?_
      rotate_left
      · rintro s ⟨V5, H5, co, b', x, y, hs, hV5, hH, hrw, hown, h4⟩
        obtain ⟨z, rfl⟩ := hs.out
        try dsimp only
        clear hs
        refine Gx.c (by kernel_rfl) fun K hK => ?_
        simp only [XA, XB, i64_succ k (by omega)]
        exact hK _ ⟨p - 1, by omega, k + 1, V5, H5, co, b', x, y, StIs.of (by exact rfl), by omega, View.le_trans hV4 hV5, hH, hrw, hown, h4⟩
      clear hK
      refine XWP.block ?_
      refine Gx.a (by kernel_rfl) fun K hK => ?_
      simp only [XA]
      refine hK _ ?_
      by_cases hki : k = i
      · subst hki
        have b3 : (!decide ((k : Int) = (k : Int))) = false := by simp
        refine Gx.a (by kernel_rfl) fun K hK => ?_
        simp only [XA, XB]
        refine hK _ ?_
        refine Gx.f rfl ?_
        refine XWP.skip ?_
        refine ⟨V4, H4, co, b', x, y, StIs.of (by exact rfl), View.le_refl _, hH, by rw [rowO_skip]; exact hrw, hown, ?_⟩
        have : offQ od k (k + 1) = offQ od k k := by
          show offQ od k k + (if k = k then 0 else od k k) = _
          rw [if_pos rfl]; grind
        rw [this]; exact h4
      have b3 : (!decide ((k : Int) = (i : Int))) = true := by rw [decide_eq_false (by omega)]; rfl
      refine Gx.a (by kernel_rfl) fun K hK => ?_
      simp only [XA, XB, b3]
      refine hK _ ?_
      refine Gx.t rfl ?_
      have hle4 := View.le_trans hV2 (View.le_trans hV3 hV4)
      refine Gx.a (by kernel_rfl) fun K hK => ?_
      simp only [XA, cv_gob]
      refine call_gob (ys := [.int .i64 (i : Int), .int .i64 (k : Int)]) hcall (hspec _ i k hle4 hi hk hki) fun v5 V5 hV5 h5 => ?_
      obtain ⟨x5, y5, rfl, p1, p2⟩ := h5.form
      have hrw5 := hrw.mono (optE_ok ratE_ok) hV5
      have hlr := hrw5.1
      rw [rowO_len] at hlr
      simp only [XA, XB]
      refine ⟨by omega, by omega, ?_⟩
      refine st_rowA shapeT_49 (all3 rfl p1 p2) rfl hH (by dsimp only; omega) ?_
      simp only [XA]
      refine hK _ ?_
      have hrw6 := hrw5.set k (by rw [rowO_len]; exact hk) (x := some (od i k)) (show isOne (.bool (ng (od i k))) = true from rfl) p1 p2 h5
      rw [rowO_set od hk hki] at hrw6
      have hown6 := own_offK (r := some ⟨49, splice co (k * 3) [.bool (ng (od i k)), x5, y5], n * 3⟩) hown hne
      have hH6 := upd_at H4 b (some ⟨49, splice co (k * 3) [.bool (ng (od i k)), x5, y5], n * 3⟩)
      generalize upd H4 b _ = H6 at *
      obtain ⟨v8, hx8, ⟨m8, n8, d8, rfl, s1, s2, s3⟩, hld8⟩ := RowAt.load hH6 hrw6 k (by rw [rowO_len]; exact hk)
      have e8 : (rowO od n i (k + 1))[k]'(by rw [rowO_len]; exact hk) = some (od i k) := by
        have := rowO_get od (i := i) (k := k + 1) hk
        rw [if_pos ⟨by omega, hki⟩] at this
        exact (List.getElem?_eq_some_iff.1 this).2
      rw [e8] at hx8
      have hx8 : RatC V5 (.agg #[m8, n8, d8]) (od i k) := hx8
      (refine XWP.drw1 [0, 1, 2, 3, 4, 5, 6] (by kernel_rfl) (by kernel_rfl) (by kernel_rfl) fun K hK => ?_) <;> dsimp only [pickOps, List.getElem?_cons_zero, List.getElem?_cons_succ]
      simp only [XA, XB, Nat.reduceAdd, Nat.reduceLeDiff, ↓reduceIte]
      refine ⟨by omega, by omega, ld_mem hld8 ?_⟩
      simp only [XA]
      refine call_go (by kernel_rfl) rfl (qadd_c _ _ _ _ _ (h4.mono hV5) hx8 (hS i k hi (by omega)) ((hod i k hi hk hki).qf (by omega))) fun v9 V9 hV9 h9 => ?_
      obtain ⟨x9, y9, rfl, p5, p6⟩ := h9.form
      simp only [XA]
      refine st_rat rfl rfl rfl p5 p6 ?_
      simp only [XA]
      refine hK _ ⟨V9, H6, _, _, x9, y9, StIs.of (by exact rfl), View.le_trans hV5 hV9, hH6, hrw6.mono (optE_ok ratE_ok) hV9, hown6, ?_⟩
      have : offQ od i (k + 1) = offQ od i k + od i k := by
        show offQ od i k + (if k = i then 0 else od i k) = _
        rw [if_neg hki]
      rw [this]; exact h9
    clear hH hrow0 hown h3 o1 o2
    rintro s ⟨V4, H4, co, b', x, y, hs, hV4, hH, hrw, hown, h4⟩
    obtain ⟨z, rfl⟩ := hs.out
    try dsimp only
    clear hs
    (refine XWP.drw [0, 1, 3, 2, 4, 5, 6] (by kernel_rfl) (by kernel_rfl) (by kernel_rfl) fun K hK => ?_) <;> dsimp only [pickOps, List.getElem?_cons_zero, List.getElem?_cons_succ]
    simp only [XA, XB, Nat.reduceAdd, Nat.reduceLeDiff, ↓reduceIte]
    refine call_go (by kernel_rfl) rfl (qone_c _) fun v5 V5 hV5 h5 => ?_
    simp only [XA]
    refine call_go (by kernel_rfl) rfl (qsub_c _ _ _ _ _ h5 (h4.mono hV5) (QB_one 0 |>.qf (by omega)) (hS i n hi (Nat.le_refl _))) fun v6 V6 hV6 h6 => ?_
    obtain ⟨x6, y6, rfl, p1, p2⟩ := h6.form
    have hV56 := View.le_trans hV5 hV6
    have hrw6 := hrw.mono (optE_ok ratE_ok) hV56
    have hlr := hrw6.1
    rw [rowO_len] at hlr
    simp only [XA, XB]
    refine ⟨by omega, by omega, ?_⟩
    refine st_rowA shapeT_49 (all3 rfl p1 p2) rfl hH (by dsimp only; omega) ?_
    simp only [XA]
    refine hK _ ?_
    have hrw7 := hrw6.set i (by rw [rowO_len]; exact hi) (x := some (1 - offQ od i n)) (show isOne (.bool (ng (1 - offQ od i n))) = true from rfl) p1 p2 h6
    rw [rowO_end od hi] at hrw7
    have hrw7 := hrw7.all
    have hown7 := own_offK (r := some ⟨49, splice co (i * 3) [.bool (ng (1 - offQ od i n)), x6, y6], n * 3⟩) hown hne
    have hH7 := upd_at H4 b (some ⟨49, splice co (i * 3) [.bool (ng (1 - offQ od i n)), x6, y6], n * 3⟩)
    generalize upd H4 b _ = H7 at *
    refine Gx.c (by kernel_rfl) fun K hK => ?_
    simp only [XM, XA, XB]
    refine ap_go elemT_24 (by kernel_rfl) zeroT_49 rfl (by omega) hown7 (RowAt.src hrw7 hH7 (mk_len _ _)) (by omega) (by omega) fun v' H' hres => ?_
    simp only [XM, XA]
    refine st_one shapeT_24 rfl (own_isOne hres.1) (by simp) ?_
    simp only [XA]
    refine hK _ fun f => ⟨V6, H', v', _, StIs.of (by exact rfl), View.le_trans hV3 (View.le_trans hV4 hV56), by rw [Nat.add_mul, Nat.one_mul]; exact hres.1, ?_⟩
    rw [← mk_row]
    exact (hrow.mono ratE_ok (View.le_trans hV3 (View.le_trans hV4 hV56))).cat hrw7
  rintro s ⟨V2, H2, sa, ca, hs, hown, hrow⟩
  obtain ⟨z, rfl⟩ := hs.out
  try dsimp only
  have osl := own_isOne hown
  refine XWP.pubR ratE_ok hown hrow fun H3 V3 hV3 ra _ => ?_
  refine Gx.a (by kernel_rfl) fun K hK => ?_
  simp only [XM, XA, Nat.reduceAdd, Nat.reduceLeDiff, ↓reduceIte]
  refine st_mat shapeT_26 rfl rfl rfl rfl osl ?_
  simp only [XA]
  refine hK _ (XWP.ret ?_)
  try simp only [thenX_ret, inBlockX_ret]
  exact ret_matC rfl rfl rfl ⟨sa, rfl, ra⟩
end Go.Proofs.YtobjjdnfgamgcaaGreat
end
