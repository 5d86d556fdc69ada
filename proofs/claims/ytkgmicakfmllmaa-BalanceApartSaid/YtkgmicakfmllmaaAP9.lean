/- the total variation distance of two distributions (part 9 of 12) -/
import Derived.OrdersHeld
import Derived.Below
import Derived.Tactics
import Derived.KernelRfl
import Derived.RangeFuncCalls
import Derived.RangeFuncFrom
import Derived.RangeFuncLeaves
import Derived.OrdersIn
import Derived.Laws.AppendOwn
import Derived.Laws.MakeOwn
import Derived.Laws.CopyRow
import Derived.Laws.Cells
import Derived.Laws.World
import Derived.Laws.Alloc2
import Derived.Laws.NewBlocks
import Derived.Maps.AppendAt
import Derived.Test.YtkgmicakfmllmaaProg
import Init.Data.List.Lemmas
import Init.Omega
import Derived.WalkKit
import Derived.ProofKit
import Derived.OpenShut
import Derived.ChangeOld
import Derived.SizedLaws
import Derived.ChangeSlices
import Derived.ChangeArms
import Derived.Deep.Slices
import Derived.Test.YtkgmicakfmllmaaAP8
section
namespace Go.Proofs.Ytkgmicakfmllmaa
open Go Go.RowKit
/-! ### The last box becomes a row -/
def rowS (m b : Nat) : SV → SV
  | .v x => .v x
  | .p j o => if j = m then .v (.pointer (some ⟨b, o, none⟩)) else .p j o
theorem rowS_v (m b : Nat) (x : Value) : rowS m b (.v x) = .v x := rfl
theorem rowS_p (m b j o : Nat) : rowS m b (.p j o) = if j = m then .v (.pointer (some ⟨b, o, none⟩)) else .p j o := rfl
theorem XWP.row1 {Γ : Cx} {P : Program} {c : Code} {Q : Exit → XS → Prop} {t : List SV} {bx : List (List Value)} {vs : List Value} {H : Heap} {V : View}
    (h : ∀ b e, H b = none → V b = none → XWP Γ P c Q ⟨t.map (rowS bx.length b), bx, upd H b (some ⟨e, vs, vs.length⟩), V⟩) : XWP Γ P c Q ⟨t, bx ++ [vs], H, V⟩ := by
  intro bl a w hc
  have hlt : bx.length < (bx ++ [vs]).length := by simp
  obtain ⟨ty, hh⟩ := hc.cw.box bx.length vs (by simp)
  obtain ⟨b1, b2, b3⟩ := hc.cs.bxH bx.length hlt
  refine h (bl bx.length) ty b1 b2 bl a w ⟨?_, hc.df, ⟨fun i us hi => hc.cw.box i us ?_, fun b r hb => ?_, hc.cw.view, hc.cw.below⟩, ⟨fun i j hi hj => hc.cs.inj i j (by dsimp only at hi ⊢; rw [List.length_append]; omega) (by dsimp only at hj ⊢; rw [List.length_append]; omega), fun i hi => ?_, fun b r hb => ?_, hc.cs.V0, hc.cs.frm⟩, fun x hx => ?_⟩
  · rw [hc.tm, List.map_map]
    congr 1
    refine List.map_congr_left fun x _ => ?_
    cases x with
    | v x => rfl
    | p j o =>
      simp only [Function.comp_apply, rowS]
      split
      · rename_i e; subst e; rfl
      · rfl
  · dsimp only at hi ⊢
    have hl : i < bx.length := (List.getElem?_eq_some_iff.1 hi).1
    rw [List.getElem?_append_left hl]; exact hi
  · dsimp only at hb
    unfold upd at hb
    split at hb
    · rename_i e; subst e; cases hb
      exact ⟨[], by simpa using hh, by simp⟩
    · exact hc.cw.row b r hb
  · dsimp only at hi
    have hl : i < (bx ++ [vs]).length := by rw [List.length_append]; omega
    have := hc.cs.bxH i hl
    refine ⟨?_, this.2⟩
    dsimp only
    unfold upd
    rw [if_neg (fun e => by have := hc.cs.inj i bx.length hl hlt e; omega)]; exact this.1
  · dsimp only at hb
    unfold upd at hb
    split at hb
    · rename_i e; subst e; exact ⟨b2, b3⟩
    · exact hc.cs.HV b r hb
  · obtain ⟨y, hy, rfl⟩ := List.mem_map.1 hx
    have := hc.ok y hy
    cases y with
    | v x => trivial
    | p j o =>
      have hj : j < (bx ++ [vs]).length := this
      show SV.ok _ (if j = bx.length then SV.v _ else .p j o)
      split
      · trivial
      · rename_i hne
        show j < bx.length
        rw [List.length_append] at hj
        simp only [List.length_cons, List.length_nil] at hj
        omega

/-! ### What an iterator promises: it yields these, in order, as long as yield answers true -/
def IterX (P : Program) (gf : Nat) (lb : Array Value) (V : View) (L : List (Array Value)) : Prop :=
  ∀ (l : Nat) (J : Nat → World → Prop) (Jx : World → Prop) (W : World), J 0 W → (∀ r W1, J r W1 → V.sub W1) → (∀ W1, Jx W1 → V.sub W1) →
    (∀ r W1 args, L[r]? = some args → J r W1 → YieldAt Fence.wide 0 P l args W1 fun e W' => (e = .returned (.bool true) ∧ J (r + 1) W') ∨ (e = .returned (.bool false) ∧ Jx W')) →
    CallsIn Fence.wide 0 P gf (#[.func (.yield l) #[] #[]] ++ lb) W fun e W' => (∃ v, e = .returned v) ∧ (J L.length W' ∨ Jx W')
def setPs : List Tmp → List Value → List SV → List SV
  | p :: ps, v :: vs, t => setPs ps vs (t.set p (.v v))
  | _, _, t => t
theorem setPs_conc {bl : Nat → Nat} : ∀ (ps : List Tmp) (vs : List Value) (t : List SV), (ps.zip vs).foldl (fun (t : Array Value) (q : Tmp × Value) => t.setIfInBounds q.1 q.2) (t.map (SV.conc bl)).toArray = ((setPs ps vs t).map (SV.conc bl)).toArray
  | [], _, t => by simp [setPs]
  | _ :: _, [], t => by simp [setPs]
  | p :: ps, v :: vs, t => by
    simp only [List.zip_cons_cons, List.foldl_cons, setPs]
    rw [← setPs_conc ps vs (t.set p (.v v))]
    congr 1
    simp [List.map_set, SV.conc]
theorem setPs_ok {n : Nat} : ∀ (ps : List Tmp) (vs : List Value) (t : List SV), (∀ x ∈ t, x.ok n) → ∀ x ∈ setPs ps vs t, x.ok n
  | [], _, t, h => by simpa [setPs] using h
  | _ :: _, [], t, h => by simpa [setPs] using h
  | p :: ps, v :: vs, t, h => by
    simp only [setPs]
    refine setPs_ok ps vs _ fun x hx => ?_
    rcases List.mem_or_eq_of_mem_set hx with h1 | rfl
    · exact h x h1
    · trivial
/-- how a round's body may be left -/
def roundQ (I : Heap → View → Prop) (Ix : Heap → View → Prop) : Exit → XS → Prop
  | .normal, s => I s.H s.V
  | .ret, s => Ix s.H s.V
  | _, _ => False
theorem CW.nobox {Γ : Cx} {bl bl' : Nat → Nat} {bx : List (List Value)} {H : Heap} {V : View} {w : World} (h : CW Γ bl bx H V w) : CW Γ bl' [] H V w := ⟨fun i vs hi => by simp at hi, h.row, h.view, h.below⟩
theorem CS.nobox {Γ : Cx} {bl bl' : Nat → Nat} {bx : List (List Value)} {H : Heap} {V : View} (h : CS Γ bl bx H V) : CS Γ bl' [] H V := ⟨fun i j hi => by simp at hi, fun i hi => by simp at hi, h.HV, h.V0, h.frm⟩
theorem CW.cx {Γ Γ' : Cx} {bl : Nat → Nat} {bx : List (List Value)} {H : Heap} {V : View} {w : World} (h : CW Γ bl bx H V w) (e : Γ'.w0 = Γ.w0) : CW Γ' bl bx H V w := ⟨h.box, h.row, h.view, by rw [e]; exact h.below⟩
theorem CS.cx {Γ Γ' : Cx} {bl : Nat → Nat} {bx : List (List Value)} {H : Heap} {V : View} (h : CS Γ bl bx H V) (e : Γ'.w0 = Γ.w0) (e' : Γ'.V0 = Γ.V0) : CS Γ' bl bx H V := ⟨h.inj, fun i hi => by rw [e]; exact h.bxH i hi, fun b r hb => by rw [e]; exact h.HV b r hb, by rw [e']; exact h.V0, by rw [e, e']; exact h.frm⟩
theorem wpIn_any {Γ : Cx} {P : Program} {c : Code} {Q : Exit → Act → World → Prop} {a : Act} {w : World} {n m : Nat} (h : c.wpIn Γ.F n P Q a w) : c.wpIn Γ.F m P Q a w := fun b k cs hro hb _ => h b k cs hro hb (Γ.room _)
theorem others_put {w w1 : World} {l : Nat} (h : KeepsOthers w1 w) (hl : w1.heap.size ≤ l) (o : Obj) : KeepsOthers w1 (w.putObj l o) :=
  ⟨by rw [World.putObj_size]; exact h.size, fun k ob hk ho => by
    have := (Array.getElem?_eq_some_iff.1 hk).1
    rw [World.putObj_heap_other (by omega)]; exact h.same k ob hk ho⟩
theorem CW.allocO {Γ : Cx} {bl : Nat → Nat} {H : Heap} {V : View} {w : World} (h : CW Γ bl [] H V w) (o : Obj) : CW Γ bl [] H V (w.alloc o) :=
  ⟨fun i vs hi => by simp at hi, fun b r hb => by
    obtain ⟨ex, hh, hl⟩ := h.row b r hb
    exact ⟨ex, by rw [Below.heap_alloc w _ _ (h.lt_row hb)]; exact hh, hl⟩, view_alloc h.view _, h.below.alloc h.below.size _⟩
theorem mk_turn {Γ Γ' : Cx} {a : Act} {w : World} {l : Nat} {o o' : Obj} (h : Mk Γ a w) (hl : w.heap[l]? = some o) (ho : ∀ d, o ≠ .deferred d) (e0 : Γ'.w0 = Γ.w0) (e1 : Γ'.w1 = w.putObj l o') (e2 : ∃ r, Γ'.rd = some r) : Mk Γ' a (w.putObj l o') := by
  obtain ⟨⟨ms, h1, h2, h3⟩, _⟩ := h
  obtain ⟨r2, e2⟩ := e2
  refine ⟨⟨ms, h1, h2, fun D hD => ⟨by unfold Cx.base; rw [e2]; dsimp only; rw [e0]; exact Nat.le_trans (Cx.base_ge _) (h3 D hD).1, ?_⟩⟩, by rw [e1]; exact KeepsOthers.refl _⟩
  refine (World.putObj_heap_other (fun e => ?_)).trans (h3 D hD).2
  have := (h3 D hD).2
  rw [e, hl] at this
  cases this; exact ho _ rfl
/-- **A range over a function.** -/
theorem XWP.range {Γ : Cx} {P : Program} (hΓ : Γ.Plain) {g : Operand} {ps : Array Tmp} {assign body : Code} {Q : Exit → XS → Prop} {t : List SV} {H : Heap} {V : View} {gf : Nat} {lb : Array Value} {L : List (Array Value)} {I : Nat → Heap → View → Prop} {Ix : Heap → View → Prop}
    (hg : (⟨t, [], H, V⟩ : XS).ev g = .v (.func (.func gf) #[] lb)) (hcall : callable P gf = true) (hps : ∀ args ∈ L, args.size = ps.size) (it : IterX P gf lb V L) (h0 : I 0 H V) (hle : ∀ r H' V', I r H' V' → V.le V') (hleX : ∀ H' V', Ix H' V' → V.le V')
    (hr : ∀ (Γ' : Cx) (r : Nat) (args : Array Value) (H' : Heap) (V' : View), L[r]? = some args → I r H' V' → XWP Γ' P assign (fun e s1 => match e with | .normal => ∀ Γ'' : Cx, XWP Γ'' P body (roundQ (I (r + 1)) Ix) s1 | _ => False) ⟨setPs ps.toList args.toList t, [], H', V'⟩)
    (hdone : ∀ H' V', I L.length H' V' → Q .normal ⟨t, [], H', V'⟩) (hstop : ∀ H' V', Ix H' V' → Q .ret ⟨t, [], H', V'⟩) : XWP Γ P (.rangeFunc g ps assign body) Q ⟨t, [], H, V⟩ := by
  intro bl a w hC
  obtain ⟨⟨ms, m1, m2, m3⟩, m4⟩ := hC.df
  have eF : Γ.F = Fence.wide := by unfold Cx.F; rw [hΓ.1]; rfl
  have hev : a.eval g = .func (.func gf) #[] lb := by rw [hC.ev, hg]; rfl
  have hok : ∀ x ∈ t, x.ok 0 := hC.ok
  have htm : a.tmps = (t.map (SV.conc bl)).toArray := hC.tm
  refine wpIn_any (n := 1) (wpIn_rangeFunc fun fn _ => ?_)
  obtain ⟨rec, hrec⟩ : ∃ rec : LoopState → Option Code → Loop, rec = fun st pe => { state := st, pending := pe, fn, tmps := a.tmps, params := ps, assign, body, defers := w.heap.size } := ⟨_, rfl⟩
  obtain ⟨W1, hW1⟩ : ∃ W1, (w.alloc (.deferred (some []))).alloc (.loop (rec .ready none)) = W1 := ⟨_, rfl⟩
  have hL1 : W1.heap[w.heap.size + 1]? = some (.loop (rec .ready none)) := by
    rw [← hW1]; have := World.alloc_heap_new (w.alloc (.deferred (some []))) (.loop (rec .ready none)); rwa [World.size_alloc] at this
  have hK1 : W1.heap[w.heap.size]? = some (.deferred (some [])) := by
    rw [← hW1]; exact (Below.heap_alloc _ _ _ (by simp)).trans (World.alloc_heap_new w _)
  have hcw1 : CW Γ bl [] H V W1 := by rw [← hW1]; exact (CW.allocO hC.cw _).allocO _
  have hko1 : KeepsOthers w W1 := by rw [← hW1]; exact (KeepsOthers.alloc _ _).trans (KeepsOthers.alloc _ _)
  have hws : Γ.w0.heap.size ≤ w.heap.size := hC.cw.below.size
  have hw1s : Γ.w1.heap.size ≤ w.heap.size := m4.size
  have hmlt : ∀ E ∈ ms, E < w.heap.size := fun E hE => (Array.getElem?_eq_some_iff.1 (m3 E hE).2).1
  refine ⟨w.heap.size + 1, [{ target := .collected w.heap.size, args := #[] }], W1, { target := .fn (.func gf) lb, args := #[.func (.yield (w.heap.size + 1)) #[] #[]] }, W1, gf, #[.func (.yield (w.heap.size + 1)) #[] #[]] ++ lb, W1, ?_, ?_, fun _ _ => trivial, ?_, fun _ => Nat.le_refl _, ?_⟩
  · show (Instr.enterLoop fn a.tmps ps assign body Γ.rd).run P w = _
    rw [hΓ.1, ← hW1, hrec]; exact run_enterLoop_outer _ _ _ _ _
  · simp only [resolve, hev]
    simp [go_sem]
  · unfold callable at hcall
    cases hf : P.funcs[gf]? with
    | none => simp [hf] at hcall
    | some fn =>
      simp [hf] at hcall
      have hb : fn.body ≠ none := fun hn => by simp [hn] at hcall
      simp [invoke, callFunc, hf, hcall.1, hb]
  rw [eF]
  have keepE : ∀ {A B : World}, (∀ E ∈ ms, A.heap[E]? = some (.deferred (some []))) → KeepsOthers A B → ∀ E ∈ ms, B.heap[E]? = some (.deferred (some [])) := fun h k E hE => k.same E _ (h E hE) rfl
  have putE : ∀ {A : World} (o : Obj), (∀ E ∈ ms, A.heap[E]? = some (.deferred (some []))) → ∀ E ∈ ms, (A.putObj (w.heap.size + 1) o).heap[E]? = some (.deferred (some [])) := fun o h E hE =>
    (World.putObj_heap_other (by have := hmlt E hE; omega)).trans (h E hE)
  have fini : ∀ (A : World) (H' : Heap) (V' : View), CW Γ bl [] H' V' A → CS Γ bl [] H' V' → (∀ E ∈ ms, A.heap[E]? = some (.deferred (some []))) → KeepsOthers Γ.w1 A → A.heap[w.heap.size]? = some (.deferred (some [])) →
      Conc Γ bl ⟨t, [], H', V'⟩ { a with defers := { target := .collected w.heap.size, args := #[] } :: a.defers } A := fun A H' V' c1 c2 c3 c4 c5 =>
    ⟨htm, ⟨⟨w.heap.size :: ms, by simp [m1], List.nodup_cons.2 ⟨fun h => by have := hmlt _ h; omega, m2⟩, fun D hD => by
      rcases List.mem_cons.1 hD with rfl | h
      · exact ⟨Cx.base_le _ hws hw1s, c5⟩
      · exact ⟨(m3 D h).1, c3 D h⟩⟩, c4⟩, c1, c2, hok⟩
  refine (it (w.heap.size + 1)
    (fun r W => ∃ H' V', I r H' V' ∧ CW Γ bl [] H' V' W ∧ CS Γ bl [] H' V' ∧ (∀ E ∈ ms, W.heap[E]? = some (.deferred (some []))) ∧ KeepsOthers Γ.w1 W ∧ W.heap[w.heap.size + 1]? = some (.loop (rec .ready none)) ∧ W.heap[w.heap.size]? = some (.deferred (some [])))
    (fun W => ∃ H' V', Ix H' V' ∧ CW Γ bl [] H' V' W ∧ CS Γ bl [] H' V' ∧ (∀ E ∈ ms, W.heap[E]? = some (.deferred (some []))) ∧ KeepsOthers Γ.w1 W ∧ W.heap[w.heap.size + 1]? = some (.loop (rec .done (some .ret))) ∧ W.heap[w.heap.size]? = some (.deferred (some [])))
    W1 ⟨H, V, h0, hcw1, hC.cs.nobox, keepE (fun E hE => (m3 E hE).2) hko1, m4.trans hko1, hL1, hK1⟩ (fun r W ⟨H', V', hI, cw, _⟩ k o hk => cw.view k o (hle r H' V' hI k o hk)) (fun W ⟨H', V', hI, cw, _⟩ k o hk => cw.view k o (hleX H' V' hI k o hk)) ?_).mono ?_
  · rintro r W args hLr ⟨H', V', hI, cw, cs, me, ko, hl, hk⟩
    have hsz : args.size = ps.size := hps args (List.mem_of_getElem? hLr)
    have hy := run_yield (P := P) (args := args) hl (by rw [hrec]; exact hsz)
    refine ⟨fn, _, assign, body, by rw [hy, hrec], roundIn_of_wpIn trivial ?_⟩
    have hx := hr ⟨Γ.w0, Γ.V0, W, some (w.heap.size + 1)⟩ r args H' V' hLr hI bl { tmps := (ps.zip args).foldl (fun tmps (t, a) => tmps.setIfInBounds t a) a.tmps, defers := [] } W
      ⟨by rw [htm, ← setPs_conc, ← Array.foldl_toList, Array.toList_zip], ⟨⟨[], rfl, List.nodup_nil, fun D hD => by simp at hD⟩, KeepsOthers.refl _⟩, cw.cx rfl, cs.cx rfl rfl, setPs_ok _ _ _ hok⟩
    refine wpIn_mono hx ?_
    rintro e a1 Wa ⟨bl1, s1, hC1, hq⟩
    cases e with
    | normal =>
      have hla := hC1.df.2.same _ _ hl rfl
      have hka := hC1.df.2.same _ _ hk rfl
      have hlt : w.heap.size + 1 < Wa.heap.size := (Array.getElem?_eq_some_iff.1 hla).1
      refine ⟨_, run_beginRound hla (by rw [hrec]), ?_⟩
      obtain ⟨W2, hW2⟩ : ∃ W2, W2 = Wa.putObj (w.heap.size + 1) (.loop { rec .ready none with state := .busy }) := ⟨_, rfl⟩
      rw [← hW2]
      have hl2 : W2.heap[w.heap.size + 1]? = some (.loop { rec .ready none with state := .busy }) := by rw [hW2]; exact World.putObj_heap_same hlt
      have hk2 : W2.heap[w.heap.size]? = some (.deferred (some [])) := by rw [hW2]; exact (World.putObj_heap_other (by omega)).trans hka
      have hb := hq ⟨Γ.w0, Γ.V0, W2, some (w.heap.size + 1)⟩ bl1 a1 W2 ⟨hC1.tm, by
        rw [hW2]; exact mk_turn hC1.df hla (fun d h => by cases h) rfl rfl ⟨_, rfl⟩, by
        rw [hW2]; exact (CW.turn (Γ := ⟨Γ.w0, Γ.V0, W, some (w.heap.size + 1)⟩) hΓ.2 hC1.cw hC1.cs hla rfl (Nat.le_trans hws (Nat.le_succ _)) _).cx rfl, hC1.cs.cx rfl rfl, hC1.ok⟩
      refine wpIn_mono hb ?_
      rintro e a3 W3 ⟨bl3, s3, hC3, hq3⟩
      have hl3 := hC3.df.2.same _ _ hl2 rfl
      have hk3 := hC3.df.2.same _ _ hk2 rfl
      have hlt3 : w.heap.size + 1 < W3.heap.size := (Array.getElem?_eq_some_iff.1 hl3).1
      have hend := fun jump : Option Code => run_endRound (P := P) jump hl3
      have me3 : ∀ E ∈ ms, W3.heap[E]? = some (.deferred (some [])) := keepE (by rw [hW2]; exact putE _ (keepE me hC1.df.2)) hC3.df.2
      have ko3 : KeepsOthers Γ.w1 W3 := KeepsOthers.trans (by rw [hW2]; exact others_put (ko.trans hC1.df.2) (by omega) _) hC3.df.2
      have fin4 : ∀ o : Obj, CW Γ bl [] s3.H s3.V (W3.putObj (w.heap.size + 1) o) ∧ CS Γ bl [] s3.H s3.V ∧ (∀ E ∈ ms, (W3.putObj (w.heap.size + 1) o).heap[E]? = some (.deferred (some []))) ∧ KeepsOthers Γ.w1 (W3.putObj (w.heap.size + 1) o) ∧ (W3.putObj (w.heap.size + 1) o).heap[w.heap.size + 1]? = some o ∧ (W3.putObj (w.heap.size + 1) o).heap[w.heap.size]? = some (.deferred (some [])) := fun o => by
        have c0 : CS Γ bl [] s3.H s3.V := (hC3.cs.cx (Γ' := Γ) rfl rfl).nobox
        exact ⟨((hC3.cw.cx (Γ' := Γ) rfl).nobox).turn hΓ.2 c0 hl3 rfl (by omega) o, c0, putE o me3, others_put ko3 (by omega) o, World.putObj_heap_same hlt3, (World.putObj_heap_other (by omega)).trans hk3⟩
      cases e with
      | normal =>
        obtain ⟨f1, f2, f3, f4, f5, f6⟩ := fin4 (.loop (rec .ready none))
        refine ⟨_, _, hend none, .inl ⟨rfl, s3.H, s3.V, hq3, ?_⟩⟩
        rw [hrec] at f1 f3 f4 f5 f6 ⊢
        exact ⟨f1, f2, f3, f4, f5, f6⟩
      | ret =>
        obtain ⟨f1, f2, f3, f4, f5, f6⟩ := fin4 (.loop (rec .done (some .ret)))
        refine ⟨_, _, hend (some .ret), .inr ⟨rfl, s3.H, s3.V, hq3, ?_⟩⟩
        rw [hrec] at f1 f3 f4 f5 f6 ⊢
        exact ⟨f1, f2, f3, f4, f5, f6⟩
      | _ => exact hq3.elim
    | _ => exact hq.elim
  · rintro e W2 ⟨⟨v, rfl⟩, (⟨H', V', hI, cw, cs, me, ko, hl, hk⟩ | ⟨H', V', hI, cw, cs, me, ko, hl, hk⟩)⟩
    · have he := run_endLoop (P := P) hl (by rw [hrec]; simp)
      rw [hrec] at he
      refine ⟨none, _, he, ?_⟩
      exact ⟨bl, _, fini _ H' V' (cw.turn hΓ.2 cs hl rfl (by omega) _) cs (putE _ me) (others_put ko (by omega) _) ((World.putObj_heap_other (by omega)).trans hk), hdone H' V' hI⟩
    · have he := run_endLoop (P := P) hl (by rw [hrec]; simp)
      rw [hrec] at he
      refine ⟨some .ret, _, he, ?_⟩
      exact wpIn_ret ⟨bl, _, fini _ H' V' (cw.turn hΓ.2 cs hl rfl (by omega) _) cs (putE _ me) (others_put ko (by omega) _) ((World.putObj_heap_other (by omega)).trans hk), hstop H' V' hI⟩
end Go.Proofs.Ytkgmicakfmllmaa
end
section
namespace Go.Proofs.Ytkgmicakfmllmaa
open Go Go.RowKit
abbrev conc0 (t : List SV) : Array Value := (t.map (SV.conc fun _ => 0)).toArray
def YQ (Q : Exit → List SV → World → Prop) : Exit → Act → World → Prop := fun e a W => ∃ t, a.tmps = conc0 t ∧ a.defers = [] ∧ Q e t W
def YW (P : Program) (c : Code) (Q : Exit → List SV → World → Prop) (t : List SV) (W : World) : Prop :=
  ∀ a : Act, a.tmps = conc0 t → a.defers = [] → c.wpIn Fence.wide 0 P (YQ Q) a W
def thenY (K : List SV → World → Prop) (Q : Exit → List SV → World → Prop) : Exit → List SV → World → Prop
  | .normal, t, W => K t W
  | e, t, W => Q e t W
def inBlockY (id : Nat) (Q : Exit → List SV → World → Prop) : Exit → List SV → World → Prop
  | .exit id', t, W => if id' = id then Q .normal t W else Q (.exit id') t W
  | e, t, W => Q e t W
section
variable {P : Program} {Q : Exit → List SV → World → Prop} {t : List SV} {W : World}
theorem YW.apply {c : Code} {t : List SV} {a : Act} (h : YW P c Q t W) (h1 : a.tmps = conc0 t) (h2 : a.defers = []) : c.wpIn Fence.wide 0 P (YQ Q) a W := h a h1 h2
theorem YW.seq {x y : Code} (h : YW P x (thenY (YW P y Q) Q) t W) : YW P (.seq x y) Q t W := fun a h1 h2 =>
  wpIn_seq (wpIn_mono (h a h1 h2) fun e a w hq => by
    obtain ⟨t', h1', h2', q⟩ := hq
    cases e <;> first
      | exact q a h1' h2'
      | exact ⟨t', h1', h2', q⟩)
theorem YW.skip (h : Q .normal t W) : YW P .skip Q t W := fun _ h1 h2 => wpIn_skip ⟨t, h1, h2, h⟩
theorem YW.ret (h : Q .ret t W) : YW P .ret Q t W := fun _ h1 h2 => wpIn_ret ⟨t, h1, h2, h⟩
theorem YW.exit {i : Nat} (h : Q (.exit i) t W) : YW P (.exit i) Q t W := fun _ h1 h2 => wpIn_exit ⟨t, h1, h2, h⟩
theorem YW.block {i : Nat} {c : Code} (h : YW P c (inBlockY i Q) t W) : YW P (.block i c) Q t W := fun a h1 h2 =>
  wpIn_block (wpIn_mono (h a h1 h2) fun e a w hq => by
    obtain ⟨t', h1', h2', q⟩ := hq
    cases e with
    | exit j =>
      simp only [inBlockY] at q
      simp only [Exit.inBlock]
      split <;> rename_i hj
      · exact ⟨t', h1', h2', by simpa [hj] using q⟩
      · exact ⟨t', h1', h2', by simpa [hj] using q⟩
    | _ => exact ⟨t', h1', h2', q⟩)
theorem ev0 {a : Act} (h : a.tmps = conc0 t) (x : Operand) (H : Heap) (V : View) : a.eval x = ((⟨t, [], H, V⟩ : XS).ev x).conc fun _ => 0 := ev_conc (s := ⟨t, [], H, V⟩) h x
theorem YW.cond {c : Operand} {x y : Code} {b : Bool} {V : View} (hc : (⟨t, [], fun _ => none, V⟩ : XS).ev c = .v (.bool b)) (h1 : b = true → YW P x Q t W) (h2 : b = false → YW P y Q t W) : YW P (.cond c x y) Q t W := fun a e1 e2 =>
  wpIn_cond_split (t := b) (by rw [ev0 e1 c (fun _ => none) V, hc]; rfl) (fun e => h1 e a e1 e2) (fun e => h2 e a e1 e2)
theorem YW.loop {c : Code} (I : Nat → List SV → World → Prop) (n : Nat) (h0 : I n t W) (hr : ∀ n t W, I n t W → YW P c (thenY (fun t' W' => ∃ m, m < n ∧ I m t' W') Q) t W) : YW P (.loop c) Q t W := by
  intro a e1 e2
  have key : ∀ n t W a, I n t W → a.tmps = conc0 t → a.defers = [] → ∀ (b : Frame) (k : List Item) (cs : List Frame), b.roundOf = none →
      ∃ e a' w', YQ Q e a' w' ∧ ArrivesIn (Machine.fenced P Fence.wide) P (lone (b.atR a (.code c :: .inLoop c :: k)) cs W) b k cs e a' w' := by
    intro n
    induction n using Nat.strongRecOn with
    | _ n ih =>
      intro t W a hI e1 e2 b k cs hro
      obtain ⟨e, a₁, w₁, ⟨t1, h1, h2, hq⟩, harr⟩ := hr n t W hI a e1 e2 b (.inLoop c :: k) cs hro trivial (room_wide _)
      cases e with
      | normal =>
        obtain ⟨m, hm, hI1⟩ := hq
        obtain ⟨e₂, a₂, w₂, hq₂, harr₂⟩ := ih m hm t1 w₁ a₁ hI1 h1 h2 b k cs hro
        exact ⟨e₂, a₂, w₂, hq₂, .of_steps (StepsIn.trans harr (.one (fenced_calm (F := Fence.wide) (n := 0) (fr := b.atR a₁ (.inLoop c :: k)) trivial (room_wide _) rfl) stepR_inLoop)) harr₂⟩
      | exit id => exact ⟨_, a₁, w₁, ⟨t1, h1, h2, hq⟩, .pass (x := .inLoop c) rfl (fun _ _ => .inl (by simp)) harr⟩
      | goto l => exact ⟨_, a₁, w₁, ⟨t1, h1, h2, hq⟩, .pass (x := .inLoop c) rfl (fun _ _ => .inl (by simp)) harr⟩
      | ret => exact ⟨_, a₁, w₁, ⟨t1, h1, h2, hq⟩, .pass (x := .inLoop c) rfl (fun _ _ => .inl (by simp)) harr⟩
      | panic ch => exact ⟨_, a₁, w₁, ⟨t1, h1, h2, hq⟩, .pass (x := .inLoop c) rfl (fun _ _ => .inl (by simp)) harr⟩
      | outgrown => exact ⟨_, a₁, w₁, ⟨t1, h1, h2, hq⟩, .pass (x := .inLoop c) rfl (fun _ _ => .inl (by simp)) harr⟩
  intro b k cs hro _ _
  obtain ⟨e, a', w', hq, harr⟩ := key n t W a h0 e1 e2 b k cs hro
  exact ⟨e, a', w', hq, .of_steps (.one (fenced_calm (F := Fence.wide) (n := 0) (fr := b.atR a (.code (.loop c) :: k)) trivial (room_wide _) rfl) stepR_loop) harr⟩
/-- operations that read alone -/
theorem reads_in {ops : Array Oper} {V : View} {Q' : Exit → Act → World → Prop} (hV : V.sub W) (rest : List Nat) : ∀ (l : List Oper) (k : Nat) (K : XS → Prop) (t : List SV) (a : Act), (∀ i o, l[i]? = some o → ops[k + i]? = some o) → (l.all fun o => isRead o.op && o.guard.isNone) = true →
    a.tmps = conc0 t → a.defers = [] → (∀ x ∈ t, x.ok 0) → seqX P ops l K ⟨t, [], fun _ => none, V⟩ → (∀ t' a', a'.tmps = conc0 t' → a'.defers = [] → (∀ x ∈ t', x.ok 0) → K ⟨t', [], fun _ => none, V⟩ → wpOpsIn Fence.wide 0 P ops Q' rest a' W) →
    wpOpsIn Fence.wide 0 P ops Q' (List.range' k l.length ++ rest) a W
  | [], k, K, t, a, _, _, e1, e2, hok, h, hk => by simpa using hk t a e1 e2 hok h
  | o :: l, k, K, t, a, hi, hall, e1, e2, hok, h, hk => by
    simp only [List.all_cons, Bool.and_eq_true] at hall
    obtain ⟨⟨hrd, hgd⟩, hall⟩ := hall
    have ho : ops[k]? = some o := by simpa using hi 0 o (by simp)
    have hg : o.guard = none := by cases hx : o.guard <;> simp_all
    simp only [List.length_cons, List.range'_succ, List.cons_append]
    rw [wpOpsIn_cons]
    unfold wpOpIn
    simp only [ho]
    have hw : Region.wanted o (yielded ops a.tmps) = true := by unfold Region.wanted; rw [hg]
    rw [if_pos hw]
    unfold seqX stepX at h
    rw [hg] at h
    dsimp only at h
    unfold opX at h
    rw [if_pos hrd] at h
    obtain ⟨sv, ⟨hsv, hrun⟩, h⟩ := readX_sound (s := ⟨t, [], fun _ => none, V⟩) hok h
    have hr := hrun ⟨W, V, W, none⟩ (fun _ => 0) a W e1 ⟨fun i vs hi => by simp at hi, fun b r hb => (by cases hb), hV, Below.refl _ _⟩
    refine ⟨fun _ _ => trivial, ?_⟩
    have hd : ∀ c, o.op ≠ .defer c := fun c e => by rw [e] at hrd; cases hrd
    rw [Oper.semAt_eq _ _ _ hd, hr]
    have hconc : Conc ⟨W, V, W, none⟩ (fun _ => 0) ⟨t, [], fun _ => none, V⟩ a W := ⟨e1, ⟨⟨[], by rw [e2]; rfl, List.nodup_nil, fun D hD => by simp at hD⟩, KeepsOthers.refl _⟩, ⟨fun i vs hi => by simp at hi, fun b r hb => (by cases hb), hV, Below.refl _ _⟩, ⟨fun i j hi => by simp at hi, fun i hi => by simp at hi, fun b r hb => (by cases hb), View.le_refl _, View.from_refl _ _⟩, hok⟩
    have hput := hconc.put o.dst sv hsv
    have et : (XS.put ⟨t, [], fun _ => none, V⟩ o.dst sv) = ⟨(XS.put ⟨t, [], fun _ => none, V⟩ o.dst sv).t, [], fun _ => none, V⟩ := by cases o.dst <;> rfl
    rw [et] at h
    have hok2 : ∀ x ∈ (XS.put ⟨t, [], fun _ => none, V⟩ o.dst sv).t, x.ok 0 := by
      have := put_ok (s := ⟨t, [], fun _ => none, V⟩) hok o.dst hsv
      rw [XS.put_bx] at this; exact this
    refine reads_in hV rest l (k + 1) K _ _ (fun i o' h' => ?_) hall hput.tm ?_ hok2 h hk
    · have := hi (i + 1) o' (by simpa using h')
      rw [show k + 1 + i = k + (i + 1) by omega]; exact this
    · cases o.dst <;> exact e2
theorem YW.reads {id : Nat} {ops : Array Oper} {V : View} (hV : V.sub W) (hok : ∀ x ∈ t, x.ok 0) (hall : (ops.toList.all fun o => isRead o.op && o.guard.isNone) = true) (h : seqX P ops ops.toList (fun s => (∀ x ∈ s.t, x.ok 0) → Q .normal s.t W) ⟨t, [], fun _ => none, V⟩) : YW P (.region id ops false) Q t W := fun a e1 e2 => by
  refine wpIn_region ?_
  have := reads_in (Q' := YQ Q) hV [] ops.toList 0 _ t a (fun i o h => by simpa using h) hall e1 e2 hok h fun t' a' e1' e2' hok' hk => ⟨t', e1', e2', hk hok'⟩
  rwa [List.append_nil, Array.length_toList, ← List.range_eq_range'] at this
/-- reads, a call of yield, reads -/
theorem YW.yield {id : Nat} {ops : Array Oper} {V : View} {pre post : List Oper} {d : Option Tmp} {x : Tmp} {xs : List Operand} {ts : Array TypeId} {ty pos af} (hops : ops.toList = pre ++ ⟨d, .call ⟨.value (.tmp x), xs.toArray, ts⟩, ty, pos, af, none⟩ :: post) (hV : V.sub W) (hok : ∀ x ∈ t, x.ok 0)
    (hpre : (pre.all fun o => isRead o.op && o.guard.isNone) = true) (hpost : (post.all fun o => isRead o.op && o.guard.isNone) = true)
    (h : seqX P ops pre (fun s => ∃ (l : Nat) (args : List Value) (R : Ending → World → Prop), s.ev (.tmp x) = .v (.func (.yield l) #[] #[]) ∧ xs.map s.ev = args.map .v ∧ YieldAt Fence.wide 0 P l args.toArray W R ∧
      ∀ e W', R e W' → ∃ b, e = .returned (.bool b) ∧ V.sub W' ∧ seqX P ops post (fun s' => (∀ x ∈ s'.t, x.ok 0) → Q .normal s'.t W') (s.put d (.v (.bool b)))) ⟨t, [], fun _ => none, V⟩) : YW P (.region id ops false) Q t W := fun a e1 e2 => by
  refine wpIn_region ?_
  have hlen : List.range ops.size = List.range' 0 pre.length ++ (pre.length :: List.range' (pre.length + 1) post.length) := by
    have : ops.size = pre.length + (post.length + 1) := by rw [← Array.length_toList, hops]; simp
    rw [this, List.range_eq_range', ← List.range'_append_1, Nat.zero_add, List.range'_succ]
  rw [hlen]
  have hget : ∀ i : Nat, ops[i]? = (pre ++ ⟨d, .call ⟨.value (.tmp x), xs.toArray, ts⟩, ty, pos, af, none⟩ :: post)[i]? := fun i => by rw [← hops]; simp
  refine reads_in hV _ pre 0 _ t a (fun i o h => by
    rw [hget, Nat.zero_add, List.getElem?_append_left (List.getElem?_eq_some_iff.1 h).1]; exact h) hpre e1 e2 hok h fun t' a' e1' e2' hok' hk => ?_
  obtain ⟨l, args, R, hx, hxs, ⟨fn, tmps, assign, body, hrun, hround⟩, hR⟩ := hk
  rw [wpOpsIn_cons]
  unfold wpOpIn
  have ho : ops[pre.length]? = some ⟨d, .call ⟨.value (.tmp x), xs.toArray, ts⟩, ty, pos, af, none⟩ := by rw [hget, List.getElem?_append_right (Nat.le_refl _), Nat.sub_self]; rfl
  simp only [ho]
  rw [if_pos (by unfold Region.wanted; rfl)]
  refine ⟨fun _ _ => trivial, ?_⟩
  rw [Oper.semAt_eq _ _ _ (fun c e => by cases e)]
  have hev : a'.eval (.tmp x) = .func (.yield l) #[] #[] := by rw [ev0 e1' _ (fun _ => none) V, hx]; rfl
  have hargs : xs.toArray.map a'.eval = args.toArray := by
    apply Array.ext'
    simp only [Array.toList_map]
    have h2 : xs.map a'.eval = (xs.map (⟨t', [], fun _ => none, V⟩ : XS).ev).map (SV.conc fun _ => 0) := by
      rw [List.map_map]
      exact List.map_congr_left fun q _ => ev0 e1' q (fun _ => none) V
    rw [h2, hxs, List.map_map]
    have : (SV.conc fun _ => 0) ∘ SV.v = fun x => x := rfl
    rw [this, List.map_id']
  have hcall : (execOp a'.eval ⟨d, .call ⟨.value (.tmp x), xs.toArray, ts⟩, ty, pos, af, none⟩).run P W = .ok (.round l fn tmps assign body) W := by
    simp [execOp, resolve, hev, Deferred.ofValue, invoke, callFunc, hargs, hrun]
  rw [hcall]
  refine ⟨fun h => by simp [Fence.wide] at h, hround.mono fun e W' hre => ?_⟩
  obtain ⟨b, rfl, hV', hpo⟩ := hR e W' hre
  dsimp only
  have hokp : ∀ y ∈ (XS.put ⟨t', [], fun _ => none, V⟩ d (.v (.bool b))).t, y.ok 0 := by
    have := put_ok (s := ⟨t', [], fun _ => none, V⟩) hok' d (x := .v (.bool b)) trivial
    rw [XS.put_bx] at this; exact this
  have et : (XS.put ⟨t', [], fun _ => none, V⟩ d (.v (.bool b))) = ⟨(XS.put ⟨t', [], fun _ => none, V⟩ d (.v (.bool b))).t, [], fun _ => none, V⟩ := by cases d <;> rfl
  rw [et] at hpo
  have := reads_in (Q' := YQ Q) hV' [] post (pre.length + 1) _ _ (a'.put d (.bool b)) (fun i o h => by
    rw [hget, List.getElem?_append_right (by omega), show pre.length + 1 + i - pre.length = i + 1 by omega]; simpa using h) hpost (conc_put (s := ⟨t', [], fun _ => none, V⟩) e1' d (.v (.bool b))) (by cases d <;> exact e2') hokp hpo fun t2 a2 e3 e4 hok2 hk => ⟨t2, e3, e4, hk hok2⟩
  rwa [List.append_nil] at this
theorem YW.yieldAt {id : Nat} {ops : Array Oper} {V : View} (k : Nat) {d : Option Tmp} {x : Tmp} {xs : List Operand} {ts : Array TypeId} {ty pos af} (hk : ops.toList[k]? = some ⟨d, .call ⟨.value (.tmp x), xs.toArray, ts⟩, ty, pos, af, none⟩) (hV : V.sub W) (hok : ∀ x ∈ t, x.ok 0)
    (hpre : ((ops.toList.take k).all fun o => isRead o.op && o.guard.isNone) = true) (hpost : ((ops.toList.drop (k + 1)).all fun o => isRead o.op && o.guard.isNone) = true)
    (h : seqX P ops (ops.toList.take k) (fun s => ∃ (l : Nat) (args : List Value) (R : Ending → World → Prop), s.ev (.tmp x) = .v (.func (.yield l) #[] #[]) ∧ xs.map s.ev = args.map .v ∧ YieldAt Fence.wide 0 P l args.toArray W R ∧
      ∀ e W', R e W' → ∃ b, e = .returned (.bool b) ∧ V.sub W' ∧ seqX P ops (ops.toList.drop (k + 1)) (fun s' => (∀ x ∈ s'.t, x.ok 0) → Q .normal s'.t W') (s.put d (.v (.bool b)))) ⟨t, [], fun _ => none, V⟩) : YW P (.region id ops false) Q t W :=
  YW.yield (pre := ops.toList.take k) (post := ops.toList.drop (k + 1)) (d := d) (x := x) (xs := xs) (ts := ts) (ty := ty) (pos := pos) (af := af) (by
    obtain ⟨hlt, he⟩ := List.getElem?_eq_some_iff.1 hk
    rw [← he, List.getElem_cons_drop, List.take_append_drop]) hV hok hpre hpost h
end
end Go.Proofs.Ytkgmicakfmllmaa
end
section
namespace Go.Proofs.Ytkgmicakfmllmaa
open Go Go.RowKit
set_option linter.unusedSimpArgs false
set_option linter.unusedVariables false
attribute [local irreducible] XWP Spec SpecO XPub XCall seqX clX apX stX ldX iaX slX
/-- what Apart gives -/
def ApartR (L M : List Raw) (v' : Value) (V' : View) : Prop :=
  ((lawB L && lawB M) = false → v' = .tuple #[.agg #[.bool false, .slice none 0 0, .slice none 0 0], .int .i64 1]) ∧
  ((lawB L && lawB M) = true → L.length ≠ M.length → v' = .tuple #[.agg #[.bool false, .slice none 0 0, .slice none 0 0], .int .i64 30]) ∧
  ((lawB L && lawB M) = true → L.length = M.length → ∃ w, v' = .tuple #[w, .int .i64 0] ∧ RatC V' w (tvF (cf (qs L)) (cf (qs M)) L.length))
theorem ApartR.bad {L M : List Raw} {V' : View} (h : (lawB L && lawB M) = false) : ApartR L M (.tuple #[.agg #[.bool false, .slice none 0 0, .slice none 0 0], .int .i64 1]) V' := ⟨fun _ => rfl, fun g => by (rw [h] at g; cases g), fun g => by (rw [h] at g; cases g)⟩
theorem lawB_ok {L : List Raw} (h : lawB L = true) : okR L = true ∧ (∀ i, i < L.length → 0 ≤ cf (qs L) i) ∧ sumL (qs L) L.length = 1 := by
  unfold lawB at h
  rw [Bool.and_eq_true, decide_eq_true_eq] at h
  have := wtsR_ok h.1
  exact ⟨this.1, fun i hi => (ng_iff _).1 (this.2 i hi), h.2⟩
theorem posP_QB {B : Nat} {x : Rat} (h : QB B x) : QB B (posP x) := by
  unfold posP; split
  · exact h
  · exact QB_zero _
theorem tv_QB {a b : List Rat} {B : Nat} {n : Nat} (ha : ∀ x ∈ a, QB B x) (hb : ∀ x ∈ b, QB B x) (la : n ≤ a.length) (lb : n ≤ b.length) : ∀ k, k ≤ n → QB (k * (2 * B + 2)) (tvF (cf a) (cf b) k)
  | 0, _ => QB_zero _
  | k + 1, hk => by
    have ih := tv_QB ha hb la lb k (by omega)
    have h1 := posP_QB ((ha _ (cf_mem (l := a) (i := k) (by omega))).sub (hb _ (cf_mem (l := b) (i := k) (by omega))))
    exact (ih.add h1).mono (by rw [Nat.add_mul]; omega)
set_option maxHeartbeats 4000000 in
theorem bapart_c (V : View) (v u : Value) (L M : List Raw) (B : Nat) (hv : Raws V v L) (hu : Raws V u M) (fL : fitR L) (fM : fitR M) (lL : L.length ≤ 1000) (lM : M.length ≤ 1000) (qL : ∀ x ∈ qs L, QB B x) (qM : ∀ x ∈ qs M, QB B x) (hB : 1001 * (2 * B + 2) ≤ 17592186044416) :
    Spec Try.prog 7 [v, u] V fun v' V' => ApartR L M v' V' := by
  obtain ⟨A1, c1, rfl, hc1, hm1⟩ := hv.form
  obtain ⟨A2, c2, rfl, hc2, hm2⟩ := hu.form
  refine (Spec.enter Try.func7 rfl fun Γ => ?_)
  simp only [Try.ntmps7, List.map_cons, List.map_nil, List.length_cons, List.length_nil, Nat.reduceAdd, Nat.reduceSub, List.replicate_succ, List.replicate_zero, List.cons_append, List.nil_append]
  first | refine Gx.a (by kernel_rfl) fun K hK => ?_ | refine Gx.b (by kernel_rfl) fun K hK => ?_ | refine Gx.c (by kernel_rfl) fun K hK => ?_
  simp only [XM, XA, XB, gateX, Nat.reduceAdd, Nat.reduceLeDiff, Nat.reduceSub, Nat.reduceMul, ↓reduceIte, Int.reduceToNat, Int.reduceLE, beq_self_eq_true]
  refine hK _ ?_
  refine XWP.seq ?_
  first | refine Gx.a (by kernel_rfl) fun K hK => ?_ | refine Gx.b (by kernel_rfl) fun K hK => ?_ | refine Gx.c (by kernel_rfl) fun K hK => ?_
  simp only [XM, XA, XB, gateX, Nat.reduceAdd, Nat.reduceLeDiff, Nat.reduceSub, Nat.reduceMul, ↓reduceIte, Int.reduceToNat, Int.reduceLE, beq_self_eq_true]
  refine call_go (by kernel_rfl) rfl (blaw_c _ _ L B hv fL lL (fun _ => qL) (by omega)) fun v1 V1 hV1 h1 => ?_
  subst h1
  cases e1 : lawB L
  · simp only [XM, XA, XB, gateX, Nat.reduceAdd, Nat.reduceLeDiff, Nat.reduceSub, Nat.reduceMul, ↓reduceIte, Int.reduceToNat, Int.reduceLE, beq_self_eq_true]
    refine hK _ ?_
    first | refine Gx.t rfl ?_ | refine XWP.seq (Gx.t rfl ?_)
    first | refine Gx.a (by kernel_rfl) fun K hK => ?_ | refine Gx.b (by kernel_rfl) fun K hK => ?_ | refine Gx.c (by kernel_rfl) fun K hK => ?_
    simp only [XM, XA, XB, gateX, Nat.reduceAdd, Nat.reduceLeDiff, Nat.reduceSub, Nat.reduceMul, ↓reduceIte, Int.reduceToNat, Int.reduceLE, beq_self_eq_true]
    refine bd_go (by kernel_rfl) #[] (by simp) bd_rat0 ?_
    simp only [XM, XA, XB, gateX, Nat.reduceAdd, Nat.reduceLeDiff, Nat.reduceSub, Nat.reduceMul, ↓reduceIte, Int.reduceToNat, Int.reduceLE, beq_self_eq_true]
    refine st_rat rfl rfl rfl rfl rfl ?_
    simp only [XM, XA, XB, gateX, Nat.reduceAdd, Nat.reduceLeDiff, Nat.reduceSub, Nat.reduceMul, ↓reduceIte, Int.reduceToNat, Int.reduceLE, beq_self_eq_true]
    refine hK _ (XWP.ret ?_)
    try simp only [thenX_ret, inBlockX_ret]
    exact ret_rat2 rfl rfl rfl rfl (ApartR.bad (by rw [e1]; rfl))
  simp only [XM, XA, XB, gateX, Nat.reduceAdd, Nat.reduceLeDiff, Nat.reduceSub, Nat.reduceMul, ↓reduceIte, Int.reduceToNat, Int.reduceLE, beq_self_eq_true]
  refine call_go (by kernel_rfl) rfl (blaw_c _ _ M B (hu.up hV1) fM lM (fun _ => qM) (by omega)) fun v2 V2 hV2 h2 => ?_
  subst h2
  cases e2 : lawB M
  · simp only [XM, XA, XB, gateX, Nat.reduceAdd, Nat.reduceLeDiff, Nat.reduceSub, Nat.reduceMul, ↓reduceIte, Int.reduceToNat, Int.reduceLE, beq_self_eq_true]
    refine hK _ ?_
    first | refine Gx.t rfl ?_ | refine XWP.seq (Gx.t rfl ?_)
    first | refine Gx.a (by kernel_rfl) fun K hK => ?_ | refine Gx.b (by kernel_rfl) fun K hK => ?_ | refine Gx.c (by kernel_rfl) fun K hK => ?_
    simp only [XM, XA, XB, gateX, Nat.reduceAdd, Nat.reduceLeDiff, Nat.reduceSub, Nat.reduceMul, ↓reduceIte, Int.reduceToNat, Int.reduceLE, beq_self_eq_true]
    refine bd_go (by kernel_rfl) #[] (by simp) bd_rat0 ?_
    simp only [XM, XA, XB, gateX, Nat.reduceAdd, Nat.reduceLeDiff, Nat.reduceSub, Nat.reduceMul, ↓reduceIte, Int.reduceToNat, Int.reduceLE, beq_self_eq_true]
    refine st_rat rfl rfl rfl rfl rfl ?_
    simp only [XM, XA, XB, gateX, Nat.reduceAdd, Nat.reduceLeDiff, Nat.reduceSub, Nat.reduceMul, ↓reduceIte, Int.reduceToNat, Int.reduceLE, beq_self_eq_true]
    refine hK _ (XWP.ret ?_)
    try simp only [thenX_ret, inBlockX_ret]
    exact ret_rat2 rfl rfl rfl rfl (ApartR.bad (by rw [e1, e2]; rfl))
  have eb : (lawB L && lawB M) = true := by rw [e1, e2]; rfl
  simp only [XM, XA, XB, gateX, Nat.reduceAdd, Nat.reduceLeDiff, Nat.reduceSub, Nat.reduceMul, ↓reduceIte, Int.reduceToNat, Int.reduceLE, beq_self_eq_true]
  refine hK _ ?_
  first | refine Gx.f rfl ?_ | refine XWP.seq (Gx.f rfl ?_)
  refine XWP.skip ?_
  refine XWP.seq ?_
  by_cases hl : L.length = M.length
  rotate_left
  · have b1 : decide ((L.length : Int) = (M.length : Int)) = false := decide_eq_false (by omega)
    first | refine Gx.a (by kernel_rfl) fun K hK => ?_ | refine Gx.b (by kernel_rfl) fun K hK => ?_ | refine Gx.c (by kernel_rfl) fun K hK => ?_
    simp only [XM, XA, XB, gateX, Nat.reduceAdd, Nat.reduceLeDiff, Nat.reduceSub, Nat.reduceMul, ↓reduceIte, Int.reduceToNat, Int.reduceLE, beq_self_eq_true, b1]
    refine hK _ ?_
    first | refine Gx.t rfl ?_ | refine XWP.seq (Gx.t rfl ?_)
    first | refine Gx.a (by kernel_rfl) fun K hK => ?_ | refine Gx.b (by kernel_rfl) fun K hK => ?_ | refine Gx.c (by kernel_rfl) fun K hK => ?_
    simp only [XM, XA, XB, gateX, Nat.reduceAdd, Nat.reduceLeDiff, Nat.reduceSub, Nat.reduceMul, ↓reduceIte, Int.reduceToNat, Int.reduceLE, beq_self_eq_true]
    refine bd_go (by kernel_rfl) #[] (by simp) bd_rat0 ?_
    simp only [XM, XA, XB, gateX, Nat.reduceAdd, Nat.reduceLeDiff, Nat.reduceSub, Nat.reduceMul, ↓reduceIte, Int.reduceToNat, Int.reduceLE, beq_self_eq_true]
    refine st_rat rfl rfl rfl rfl rfl ?_
    simp only [XM, XA, XB, gateX, Nat.reduceAdd, Nat.reduceLeDiff, Nat.reduceSub, Nat.reduceMul, ↓reduceIte, Int.reduceToNat, Int.reduceLE, beq_self_eq_true]
    refine hK _ (XWP.ret ?_)
    try simp only [thenX_ret, inBlockX_ret]
    exact ret_rat2 rfl rfl rfl rfl ⟨fun g => by (rw [eb] at g; cases g), fun _ _ => rfl, fun _ g => absurd g hl⟩
  have b1 : decide ((L.length : Int) = (M.length : Int)) = true := decide_eq_true (by omega)
  first | refine Gx.a (by kernel_rfl) fun K hK => ?_ | refine Gx.b (by kernel_rfl) fun K hK => ?_ | refine Gx.c (by kernel_rfl) fun K hK => ?_
  simp only [XM, XA, XB, gateX, Nat.reduceAdd, Nat.reduceLeDiff, Nat.reduceSub, Nat.reduceMul, ↓reduceIte, Int.reduceToNat, Int.reduceLE, beq_self_eq_true, b1]
  refine hK _ ?_
  first | refine Gx.f rfl ?_ | refine XWP.seq (Gx.f rfl ?_)
  refine XWP.skip ?_
  obtain ⟨n, hn⟩ : ∃ n, n = L.length := ⟨_, rfl⟩
  have hle12 := View.le_trans hV1 hV2
  have hrL := (Raws.rats hv (lawB_ok e1).1).up hle12
  have hrM := (Raws.rats hu (lawB_ok e2).1).up hle12
  have lqL := qs_len L
  have lqM := qs_len M
  have hS : ∀ k, k ≤ n → QB (1000 * (2 * B + 2)) (tvF (cf (qs L)) (cf (qs M)) k) := fun k hk => (tv_QB (n := n) qL qM (by omega) (by omega) k hk).mono (Nat.mul_le_mul_right _ (by omega))
  rw [← hl, ← hn] at hrM
  rw [← hn] at hrL
  first | refine Gx.a (by kernel_rfl) fun K hK => ?_ | refine Gx.b (by kernel_rfl) fun K hK => ?_ | refine Gx.c (by kernel_rfl) fun K hK => ?_
  simp only [XM, XA, XB, gateX, Nat.reduceAdd, Nat.reduceLeDiff, Nat.reduceSub, Nat.reduceMul, ↓reduceIte, Int.reduceToNat, Int.reduceLE, beq_self_eq_true]
  refine call_go (by kernel_rfl) rfl (qzero_c _) fun v3 V3 hV3 h3 => ?_
  obtain ⟨x3, y3, rfl, o1, o2⟩ := h3.form
  simp only [XM, XA, XB, gateX, Nat.reduceAdd, Nat.reduceLeDiff, Nat.reduceSub, Nat.reduceMul, ↓reduceIte, Int.reduceToNat, Int.reduceLE, beq_self_eq_true]
  refine st_rat rfl rfl rfl o1 o2 ?_
  simp only [XM, XA, XB, gateX, Nat.reduceAdd, Nat.reduceLeDiff, Nat.reduceSub, Nat.reduceMul, ↓reduceIte, Int.reduceToNat, Int.reduceLE, beq_self_eq_true]
  refine hK _ ?_
  rw [← hl, ← hn]
  refine XWP.cutD 2 (fun s => ∃ (V4 : View) (m : Bool) (x y : Value), StIs (fun Z => [Z 0,Z 1,Z 2,Z 3, .p 0 0, Z 5, .p 1 0, Z 7,Z 8,Z 9,Z 10,Z 11,Z 12,Z 13,Z 14,Z 15,Z 16,Z 17,Z 18,Z 19,Z 20,Z 21,Z 22,Z 23,Z 24,Z 25,Z 26,Z 27,Z 28,Z 29,Z 30,Z 31,Z 32,Z 33,Z 34,Z 35,Z 36,Z 37,Z 38,Z 39,Z 40,Z 41,Z 42,Z 43,Z 44,Z 45,Z 46]) [[.bool false, .slice none 0 0, .slice none 0 0], [.bool m, x, y]] (fun _ => none) V4 s ∧ RatC V4 (.agg #[.bool m, x, y]) (tvF (cf (qs L)) (cf (qs M)) n) ∧ isOne x = true ∧ isOne y = true) ?_ ?_
  · first | refine Gx.a (by kernel_rfl) fun K hK => ?_ | refine Gx.b (by kernel_rfl) fun K hK => ?_ | refine Gx.c (by kernel_rfl) fun K hK => ?_
    simp only [XM, XA, XB, gateX, Nat.reduceAdd, Nat.reduceLeDiff, Nat.reduceSub, Nat.reduceMul, ↓reduceIte, Int.reduceToNat, Int.reduceLE, beq_self_eq_true]
    refine hK _ ?_
    clear hK
    first | refine XWP.block ?_ | refine XWP.seq (XWP.block ?_)
    refine XWP.loopD 2 (fun q s => ∃ (k : Nat) (V4 : View) (m : Bool) (x y : Value), StIs (fun Z => [.v (.slice A1 n c1), .v (.slice A2 n c2), Z 2,Z 3, .p 0 0, Z 5, .p 1 0, Z 7,Z 8,Z 9,Z 10,Z 11,Z 12,Z 13,Z 14,Z 15,Z 16,Z 17,Z 18,Z 19,Z 20,Z 21,Z 22,Z 23,Z 24,Z 25, .v (.int .i64 (n : Int)), .v (.int .i64 (k : Int)), Z 28,Z 29,Z 30,Z 31,Z 32,Z 33,Z 34,Z 35,Z 36,Z 37,Z 38,Z 39,Z 40,Z 41,Z 42,Z 43,Z 44,Z 45,Z 46]) [[.bool false, .slice none 0 0, .slice none 0 0], [.bool m, x, y]] (fun _ => none) V4 s ∧ q + k = n ∧ V2.le V4 ∧ RatC V4 (.agg #[.bool m, x, y]) (tvF (cf (qs L)) (cf (qs M)) k) ∧ isOne x = true ∧ isOne y = true) n ⟨0, V3, _, _, _, StIs.of (by exact rfl), by omega, hV3, h3, o1, o2⟩ ?_
    clear h3 o1 o2
    rintro q s ⟨k, V4, m, x, y, hs, hq, hV4, h4, o1, o2⟩
    obtain ⟨z, rfl⟩ := hs.out
    try dsimp only
    clear hs
    by_cases hk : k < n
    rotate_left
    · obtain rfl : k = n := by omega
      have b2 : decide ((k : Int) < (k : Int)) = false := decide_eq_false (by omega)
      first | refine Gx.a (by kernel_rfl) fun K hK => ?_ | refine Gx.b (by kernel_rfl) fun K hK => ?_ | refine Gx.c (by kernel_rfl) fun K hK => ?_
      simp only [XM, XA, XB, gateX, Nat.reduceAdd, Nat.reduceLeDiff, Nat.reduceSub, Nat.reduceMul, ↓reduceIte, Int.reduceToNat, Int.reduceLE, beq_self_eq_true, b2]
      refine hK _ ?_
      first | refine Gx.f rfl ?_ | refine XWP.seq (Gx.f rfl ?_)
      refine XWP.exit ?_
      exact fun f => ⟨V4, m, x, y, StIs.of (by exact rfl), h4, o1, o2⟩
    have b2 : decide ((k : Int) < (n : Int)) = true := decide_eq_true (by omega)
    first | refine Gx.a (by kernel_rfl) fun K hK => ?_ | refine Gx.b (by kernel_rfl) fun K hK => ?_ | refine Gx.c (by kernel_rfl) fun K hK => ?_
    simp only [XM, XA, XB, gateX, Nat.reduceAdd, Nat.reduceLeDiff, Nat.reduceSub, Nat.reduceMul, ↓reduceIte, Int.reduceToNat, Int.reduceLE, beq_self_eq_true, b2]
    refine hK _ ?_
    first | refine Gx.t rfl ?_ | refine XWP.seq (Gx.t rfl ?_)
    refine XWP.skip ?_
    have hv4 := hrL.up hV4
    have hu4 := hrM.up hV4
    obtain ⟨b, o, rfl⟩ := SlAt.addr hv4 (by omega)
    obtain ⟨b', o', rfl⟩ := SlAt.addr hu4 (by omega)
    obtain ⟨m5, n5, d5, hx5, ⟨p1, p2, p3⟩, hld5⟩ := Rats.get hv4 k (by omega)
    obtain ⟨m6, n6, d6, hx6, ⟨r1, r2, r3⟩, hld6⟩ := Rats.get hu4 k (by omega)
    have q5 := qL _ (cf_mem (l := qs L) (i := k) (by omega))
    have q6 := qM _ (cf_mem (l := qs M) (i := k) (by omega))
    refine XWP.cutD 2 (fun s => ∃ (V7 : View) (m : Bool) (x y : Value), StIs (fun Z => [.v (.slice (some ⟨b, o, none⟩) n c1), .v (.slice (some ⟨b', o', none⟩) n c2), Z 2,Z 3, .p 0 0, Z 5, .p 1 0, Z 7,Z 8,Z 9,Z 10,Z 11,Z 12,Z 13,Z 14,Z 15,Z 16,Z 17,Z 18,Z 19,Z 20,Z 21,Z 22,Z 23,Z 24,Z 25, .v (.int .i64 (n : Int)), .v (.int .i64 (k : Int)), Z 28,Z 29,Z 30,Z 31,Z 32,Z 33,Z 34,Z 35,Z 36,Z 37,Z 38,Z 39,Z 40,Z 41,Z 42,Z 43,Z 44,Z 45,Z 46]) [[.bool false, .slice none 0 0, .slice none 0 0], [.bool m, x, y]] (fun _ => none) V7 s ∧ V4.le V7 ∧ RatC V7 (.agg #[.bool m, x, y]) (tvF (cf (qs L)) (cf (qs M)) (k + 1)) ∧ isOne x = true ∧ isOne y = true) ?_ ?_
    · first | refine XWP.block ?_ | refine XWP.seq (XWP.block ?_)
      first | refine Gx.a (by kernel_rfl) fun K hK => ?_ | refine Gx.b (by kernel_rfl) fun K hK => ?_ | refine Gx.c (by kernel_rfl) fun K hK => ?_
      simp only [XM, XA, XB, gateX, Nat.reduceAdd, Nat.reduceLeDiff, Nat.reduceSub, Nat.reduceMul, ↓reduceIte, Int.reduceToNat, Int.reduceLE, beq_self_eq_true]
      refine hK _ ?_
      refine XWP.cutD 3 (fun s => ∃ (V7 : View) (xd yd : Value), StIs (fun Z => [.v (.slice (some ⟨b, o, none⟩) n c1), .v (.slice (some ⟨b', o', none⟩) n c2), Z 2,Z 3, .p 0 0, Z 5, .p 1 0, Z 7, .p 2 0, Z 9,Z 10,Z 11,Z 12,Z 13,Z 14,Z 15,Z 16,Z 17,Z 18,Z 19,Z 20,Z 21,Z 22,Z 23,Z 24,Z 25, .v (.int .i64 (n : Int)), .v (.int .i64 (k : Int)), Z 28,Z 29,Z 30,Z 31,Z 32,Z 33,Z 34,Z 35,Z 36,Z 37,Z 38,Z 39,Z 40,Z 41,Z 42,Z 43,Z 44,Z 45,Z 46]) [[.bool false, .slice none 0 0, .slice none 0 0], [.bool m, x, y], [.bool (ng (cf (qs L) k - cf (qs M) k)), xd, yd]] (fun _ => none) V7 s ∧ V4.le V7 ∧ RatC V7 (.agg #[.bool (ng (cf (qs L) k - cf (qs M) k)), xd, yd]) (cf (qs L) k - cf (qs M) k) ∧ isOne xd = true ∧ isOne yd = true) ?_ ?_
      · (first | refine XWP.drwT (.lin [0, 1, 2, 3, 4, 5, 6, 7] (.two (.lin [8, 9, 10] .nil) (.lin [9, 8, 10] .nil))) (by kernel_rfl) (by kernel_rfl) (by kernel_rfl) fun K hK => ?_ | refine XWP.seq (XWP.drwT (.lin [0, 1, 2, 3, 4, 5, 6, 7] (.two (.lin [8, 9, 10] .nil) (.lin [9, 8, 10] .nil))) (by kernel_rfl) (by kernel_rfl) (by kernel_rfl) fun K hK => ?_) | refine XWP.drwT1 (.lin [0, 1, 2, 3, 4, 5, 6, 7] (.two (.lin [8, 9, 10] .nil) (.lin [9, 8, 10] .nil))) (by kernel_rfl) (by kernel_rfl) (by kernel_rfl) fun K hK => ?_)
        simp only [XM, XA, XB, gateX, Nat.reduceAdd, Nat.reduceLeDiff, Nat.reduceSub, Nat.reduceMul, ↓reduceIte, Int.reduceToNat, Int.reduceLE, beq_self_eq_true]
        refine ⟨by omega, by omega, ld_mem (hld5 _) ?_⟩
        simp only [XM, XA, XB, gateX, Nat.reduceAdd, Nat.reduceLeDiff, Nat.reduceSub, Nat.reduceMul, ↓reduceIte, Int.reduceToNat, Int.reduceLE, beq_self_eq_true]
        refine ⟨by omega, by omega, ld_mem (hld6 _) ?_⟩
        simp only [XM, XA, XB, gateX, Nat.reduceAdd, Nat.reduceLeDiff, Nat.reduceSub, Nat.reduceMul, ↓reduceIte, Int.reduceToNat, Int.reduceLE, beq_self_eq_true]
        refine And.intro ?_ ?_
        · refine call_go (by kernel_rfl) rfl (qsub_c _ _ _ _ _ hx5 hx6 (q5.qf (by omega)) (q6.qf (by omega))) fun v7 V7 hV7 h7 => ?_
          obtain ⟨x7, y7, rfl, g1, g2⟩ := h7.form
          simp only [XM, XA, XB, gateX, Nat.reduceAdd, Nat.reduceLeDiff, Nat.reduceSub, Nat.reduceMul, ↓reduceIte, Int.reduceToNat, Int.reduceLE, beq_self_eq_true]
          refine st_rat rfl rfl rfl g1 g2 ?_
          simp only [XM, XA, XB, gateX, Nat.reduceAdd, Nat.reduceLeDiff, Nat.reduceSub, Nat.reduceMul, ↓reduceIte, Int.reduceToNat, Int.reduceLE, beq_self_eq_true]
          exact hK _ fun f => ⟨V7, x7, y7, StIs.of (by exact rfl), hV7, h7, g1, g2⟩
        · refine call_go (by kernel_rfl) rfl (qsub_c _ _ _ _ _ hx5 hx6 (q5.qf (by omega)) (q6.qf (by omega))) fun v7 V7 hV7 h7 => ?_
          obtain ⟨x7, y7, rfl, g1, g2⟩ := h7.form
          simp only [XM, XA, XB, gateX, Nat.reduceAdd, Nat.reduceLeDiff, Nat.reduceSub, Nat.reduceMul, ↓reduceIte, Int.reduceToNat, Int.reduceLE, beq_self_eq_true]
          refine st_rat rfl rfl rfl g1 g2 ?_
          simp only [XM, XA, XB, gateX, Nat.reduceAdd, Nat.reduceLeDiff, Nat.reduceSub, Nat.reduceMul, ↓reduceIte, Int.reduceToNat, Int.reduceLE, beq_self_eq_true]
          exact hK _ fun f => ⟨V7, x7, y7, StIs.of (by exact rfl), hV7, h7, g1, g2⟩
      rintro s ⟨V7, xd, yd, hs, hV7, h7, g1, g2⟩
      obtain ⟨z, rfl⟩ := hs.out
      try dsimp only
      clear hs
      have qd : QB (2 * B + 1) (cf (qs L) k - cf (qs M) k) := (q5.sub q6).mono (by omega)
      cases hng : ng (cf (qs L) k - cf (qs M) k)
      rotate_left
      · rw [hng] at h7
        first | refine Gx.a (by kernel_rfl) fun K hK => ?_ | refine Gx.b (by kernel_rfl) fun K hK => ?_ | refine Gx.c (by kernel_rfl) fun K hK => ?_
        simp only [XM, XA, XB, gateX, Nat.reduceAdd, Nat.reduceLeDiff, Nat.reduceSub, Nat.reduceMul, ↓reduceIte, Int.reduceToNat, Int.reduceLE, beq_self_eq_true]
        refine hK _ ?_
        first | refine Gx.f rfl ?_ | refine XWP.seq (Gx.f rfl ?_)
        refine XWP.skip ?_
        have e : tvF (cf (qs L)) (cf (qs M)) (k + 1) = tvF (cf (qs L)) (cf (qs M)) k := by
          unfold tvF
          simp only [Sm]
          have : ¬ 0 ≤ cf (qs L) k - cf (qs M) k := fun h => by rw [(ng_iff _).2 h] at hng; cases hng
          unfold posP; rw [if_neg this]; exact Rat.add_zero _
        exact fun f => ⟨V7, m, x, y, StIs.of (by exact rfl), hV7, by rw [e]; exact h4.mono hV7, o1, o2⟩
      rw [hng] at h7
      have e : tvF (cf (qs L)) (cf (qs M)) k + (cf (qs L) k - cf (qs M) k) = tvF (cf (qs L)) (cf (qs M)) (k + 1) := by
        unfold tvF
        simp only [Sm]
        rw [show posP (cf (qs L) k - cf (qs M) k) = cf (qs L) k - cf (qs M) k from by unfold posP; rw [if_pos ((ng_iff _).1 hng)]]
      first | refine Gx.a (by kernel_rfl) fun K hK => ?_ | refine Gx.b (by kernel_rfl) fun K hK => ?_ | refine Gx.c (by kernel_rfl) fun K hK => ?_
      simp only [XM, XA, XB, gateX, Nat.reduceAdd, Nat.reduceLeDiff, Nat.reduceSub, Nat.reduceMul, ↓reduceIte, Int.reduceToNat, Int.reduceLE, beq_self_eq_true]
      refine hK _ ?_
      first | refine Gx.t rfl ?_ | refine XWP.seq (Gx.t rfl ?_)
      first | refine Gx.a (by kernel_rfl) fun K hK => ?_ | refine Gx.b (by kernel_rfl) fun K hK => ?_ | refine Gx.c (by kernel_rfl) fun K hK => ?_
      simp only [XM, XA, XB, gateX, Nat.reduceAdd, Nat.reduceLeDiff, Nat.reduceSub, Nat.reduceMul, ↓reduceIte, Int.reduceToNat, Int.reduceLE, beq_self_eq_true]
      refine call_go (by kernel_rfl) rfl (qadd_c _ _ _ _ _ (h4.mono hV7) h7 ((hS k (by omega)).qf (by omega)) (qd.qf (by omega))) fun v8 V8 hV8 h8 => ?_
      rw [e] at h8
      obtain ⟨x8, y8, rfl, i1, i2⟩ := h8.form
      simp only [XM, XA, XB, gateX, Nat.reduceAdd, Nat.reduceLeDiff, Nat.reduceSub, Nat.reduceMul, ↓reduceIte, Int.reduceToNat, Int.reduceLE, beq_self_eq_true]
      refine st_rat rfl rfl rfl i1 i2 ?_
      simp only [XM, XA, XB, gateX, Nat.reduceAdd, Nat.reduceLeDiff, Nat.reduceSub, Nat.reduceMul, ↓reduceIte, Int.reduceToNat, Int.reduceLE, beq_self_eq_true]
      exact hK _ fun f => ⟨V8, _, x8, y8, StIs.of (by exact rfl), View.le_trans hV7 hV8, h8, i1, i2⟩
    clear h4 o1 o2
    rintro s ⟨V7, m, x, y, hs, hV7, h4, o1, o2⟩
    obtain ⟨z, rfl⟩ := hs.out
    try dsimp only
    first | refine Gx.a (by kernel_rfl) fun K hK => ?_ | refine Gx.b (by kernel_rfl) fun K hK => ?_ | refine Gx.c (by kernel_rfl) fun K hK => ?_
    simp only [XM, XA, XB, gateX, Nat.reduceAdd, Nat.reduceLeDiff, Nat.reduceSub, Nat.reduceMul, ↓reduceIte, Int.reduceToNat, Int.reduceLE, beq_self_eq_true, i64_succ k (by omega)]
    exact hK _ ⟨q - 1, by omega, fun f => ⟨k + 1, V7, m, x, y, StIs.of (by exact rfl), by omega, View.le_trans hV4 hV7, h4, o1, o2⟩⟩
  rintro s ⟨V4, m, x, y, hs, h4, o1, o2⟩
  obtain ⟨z, rfl⟩ := hs.out
  try dsimp only
  first | refine Gx.a (by kernel_rfl) fun K hK => ?_ | refine Gx.b (by kernel_rfl) fun K hK => ?_ | refine Gx.c (by kernel_rfl) fun K hK => ?_
  simp only [XM, XA, XB, gateX, Nat.reduceAdd, Nat.reduceLeDiff, Nat.reduceSub, Nat.reduceMul, ↓reduceIte, Int.reduceToNat, Int.reduceLE, beq_self_eq_true]
  refine st_rat rfl rfl rfl o1 o2 ?_
  simp only [XM, XA, XB, gateX, Nat.reduceAdd, Nat.reduceLeDiff, Nat.reduceSub, Nat.reduceMul, ↓reduceIte, Int.reduceToNat, Int.reduceLE, beq_self_eq_true]
  refine hK _ (XWP.ret ?_)
  try simp only [thenX_ret, inBlockX_ret]
  exact ret_rat2 rfl rfl rfl rfl ⟨fun g => by (rw [eb] at g; cases g), fun _ g => absurd hl g, fun _ _ => ⟨_, rfl, by rw [← hn]; exact h4⟩⟩
end Go.Proofs.Ytkgmicakfmllmaa
end
section
namespace Go.Proofs.Ytkgmicakfmllmaa
end Go.Proofs.Ytkgmicakfmllmaa
end
section
namespace Go.Proofs.Ytkgmicakfmllmaa
def hf : Rat := 1 / 2
def pw : Nat → Rat
  | 0 => 1
  | k + 1 => pw k * hf
theorem hf_mk : hf = mkRat 1 2 := by decide +kernel
theorem pw_mk (k : Nat) : pw k = mkRat 1 (2 ^ k) := by
  induction k with
  | zero => decide +kernel
  | succ k ih => rw [pw, ih, hf_mk, Rat.mkRat_mul_mkRat, Nat.pow_succ]; rfl
theorem pw_over {n k : Nat} (h : k ≤ n) : Over (2 ^ n) n (pw k) := by
  refine ⟨((2 ^ (n - k) : Nat) : Int), ?_, ?_⟩
  · rw [Int.natAbs_natCast]; exact two_mono (by omega)
  · have e : 2 ^ n = 2 ^ k * 2 ^ (n - k) := by rw [← Nat.pow_add]; congr 1; omega
    have h2 : 2 ^ (n - k) ≠ 0 := by have := two_pos (n - k); omega
    rw [pw_mk, e]
    have := Rat.mkRat_mul_right (n := 1) (d := 2 ^ k) h2
    rw [Int.one_mul] at this
    exact this.symm
theorem pw_CB1 (n : Nat) : CB n [pw n] := by
  refine ⟨2 ^ n, two_pos n, Nat.le_refl _, fun i => ?_⟩
  cases i with
  | zero => exact pw_over (Nat.le_refl _)
  | succ i => rw [cf_none (by simp)]; exact Over.zero _ _
theorem hf_QB : QB 1 hf := by
  have := (pw_CB1 1).at 0
  have e : cf [pw 1] 0 = hf := by decide +kernel
  rw [e] at this; exact this
end Go.Proofs.Ytkgmicakfmllmaa
end
section
namespace Go.Proofs.Ytkgmicakfmllmaa
open Go Go.RowKit
set_option linter.unusedSimpArgs false
set_option linter.unusedVariables false
attribute [local irreducible] XWP Spec SpecO XPub XCall seqX clX apX stX ldX iaX slX
theorem dsize_c (V : View) (n : Nat) (hn : n < 4611686018427387904) : Spec Try.prog 74 [.int .i64 (n : Int)] V fun v' V' => ∃ w, v' = .tuple #[w, .bool false] ∧ NatC V' w n := by
  have b1 : decide ((n : Int) < 0) = false := decide_eq_false (by omega)
  have w1 : IntKind.u64.wrap (n : Int) = (n : Int) := w64_id (by omega) (by omega)
  refine (Spec.enter Try.func74 rfl fun Γ => ?_)
  simp only [Try.ntmps74, List.map_cons, List.map_nil, List.length_cons, List.length_nil, Nat.reduceAdd, Nat.reduceSub, List.replicate_succ, List.replicate_zero, List.cons_append, List.nil_append]
  first | refine Gx.a (by kernel_rfl) fun K hK => ?_ | refine Gx.b (by kernel_rfl) fun K hK => ?_ | refine Gx.c (by kernel_rfl) fun K hK => ?_
  simp only [XA, XB, gateX, Nat.reduceAdd, Nat.reduceLeDiff, Nat.reduceSub, Nat.reduceMul, ↓reduceIte, Int.reduceToNat, Int.reduceLE, beq_self_eq_true]
  refine hK _ ?_
  refine XWP.seq ?_
  first | refine Gx.a (by kernel_rfl) fun K hK => ?_ | refine Gx.b (by kernel_rfl) fun K hK => ?_ | refine Gx.c (by kernel_rfl) fun K hK => ?_
  simp only [XA, XB, gateX, Nat.reduceAdd, Nat.reduceLeDiff, Nat.reduceSub, Nat.reduceMul, ↓reduceIte, Int.reduceToNat, Int.reduceLE, beq_self_eq_true, b1]
  refine hK _ ?_
  first | refine Gx.f rfl ?_ | refine XWP.seq (Gx.f rfl ?_)
  refine XWP.skip ?_
  first | refine Gx.a (by kernel_rfl) fun K hK => ?_ | refine Gx.b (by kernel_rfl) fun K hK => ?_ | refine Gx.c (by kernel_rfl) fun K hK => ?_
  simp only [XA, XB, gateX, Nat.reduceAdd, Nat.reduceLeDiff, Nat.reduceSub, Nat.reduceMul, ↓reduceIte, Int.reduceToNat, Int.reduceLE, beq_self_eq_true, w1]
  refine call_go (by kernel_rfl) rfl (rof_c _ n (by omega)) fun v1 V1 hV1 h1 => ?_
  simp only [XA, XB, gateX, Nat.reduceAdd, Nat.reduceLeDiff, Nat.reduceSub, Nat.reduceMul, ↓reduceIte, Int.reduceToNat, Int.reduceLE, beq_self_eq_true]
  refine hK _ (XWP.ret ?_)
  try simp only [thenX_ret, inBlockX_ret]
  refine ret_go _ rfl ?_
  exact ⟨_, rfl, h1⟩
theorem dmake_c (V : View) : Spec Try.prog 29 [.int .i64 1, .int .i64 2] V fun v' V' => ∃ w, v' = .tuple #[w, .int .i64 0] ∧ RatC V' w hf := by
  refine (Spec.enter Try.func29 rfl fun Γ => ?_)
  simp only [Try.ntmps29, List.map_cons, List.map_nil, List.length_cons, List.length_nil, Nat.reduceAdd, Nat.reduceSub, List.replicate_succ, List.replicate_zero, List.cons_append, List.nil_append]
  first | refine Gx.a (by kernel_rfl) fun K hK => ?_ | refine Gx.b (by kernel_rfl) fun K hK => ?_ | refine Gx.c (by kernel_rfl) fun K hK => ?_
  simp only [XA, XB, gateX, Nat.reduceAdd, Nat.reduceLeDiff, Nat.reduceSub, Nat.reduceMul, ↓reduceIte, Int.reduceToNat, Int.reduceLE, beq_self_eq_true]
  refine hK _ ?_
  first | refine Gx.a (by kernel_rfl) fun K hK => ?_ | refine Gx.b (by kernel_rfl) fun K hK => ?_ | refine Gx.c (by kernel_rfl) fun K hK => ?_
  simp only [XA, XB, gateX, Nat.reduceAdd, Nat.reduceLeDiff, Nat.reduceSub, Nat.reduceMul, ↓reduceIte, Int.reduceToNat, Int.reduceLE, beq_self_eq_true]
  refine call_go (by kernel_rfl) rfl (dsize_c _ 1 (by omega)) fun v1 V1 hV1 h1 => ?_
  obtain ⟨w1, rfl, h1⟩ := h1
  simp only [XA, XB, gateX, Nat.reduceAdd, Nat.reduceLeDiff, Nat.reduceSub, Nat.reduceMul, ↓reduceIte, Int.reduceToNat, Int.reduceLE, beq_self_eq_true]
  refine hK _ ?_
  first | refine Gx.a (by kernel_rfl) fun K hK => ?_ | refine Gx.b (by kernel_rfl) fun K hK => ?_ | refine Gx.c (by kernel_rfl) fun K hK => ?_
  simp only [XA, XB, gateX, Nat.reduceAdd, Nat.reduceLeDiff, Nat.reduceSub, Nat.reduceMul, ↓reduceIte, Int.reduceToNat, Int.reduceLE, beq_self_eq_true]
  refine call_go (by kernel_rfl) rfl (dsize_c _ 2 (by omega)) fun v2 V2 hV2 h2 => ?_
  obtain ⟨w2, rfl, h2⟩ := h2
  simp only [XA, XB, gateX, Nat.reduceAdd, Nat.reduceLeDiff, Nat.reduceSub, Nat.reduceMul, ↓reduceIte, Int.reduceToNat, Int.reduceLE, beq_self_eq_true]
  refine hK _ ?_
  first | refine Gx.a (by kernel_rfl) fun K hK => ?_ | refine Gx.b (by kernel_rfl) fun K hK => ?_ | refine Gx.c (by kernel_rfl) fun K hK => ?_
  simp only [XA, XB, gateX, Nat.reduceAdd, Nat.reduceLeDiff, Nat.reduceSub, Nat.reduceMul, ↓reduceIte, Int.reduceToNat, Int.reduceLE, beq_self_eq_true]
  refine call_go (by kernel_rfl) rfl (pof_c _ _ _ _ 1 2 (h1.mono hV2) h2 (Fit1.of_two (B := 1) (by decide) (by omega)) (Fit1.of_two (B := 1) (by decide) (by omega))) fun v3 V3 hV3 h3 => ?_
  obtain ⟨w3, rfl, r3⟩ := h3.2 (by omega)
  clear h3
  obtain ⟨x3, y3, rfl, o1, o2⟩ := r3.form
  simp only [XA, XB, gateX, Nat.reduceAdd, Nat.reduceLeDiff, Nat.reduceSub, Nat.reduceMul, ↓reduceIte, Int.reduceToNat, Int.reduceLE, beq_self_eq_true]
  refine st_rat rfl rfl rfl o1 o2 ?_
  simp only [XA, XB, gateX, Nat.reduceAdd, Nat.reduceLeDiff, Nat.reduceSub, Nat.reduceMul, ↓reduceIte, Int.reduceToNat, Int.reduceLE, beq_self_eq_true]
  refine hK _ (XWP.ret ?_)
  try simp only [thenX_ret, inBlockX_ret]
  refine ret_rat2 rfl rfl rfl rfl ⟨_, rfl, ?_⟩
  rw [show hf = rv false 1 2 by decide +kernel]
  exact r3
end Go.Proofs.Ytkgmicakfmllmaa
end
section
namespace Go.Proofs.Ytkgmicakfmllmaa
open Go Go.RowKit
set_option linter.unusedSimpArgs false
set_option linter.unusedVariables false
attribute [local irreducible] XWP Spec SpecO XPub XCall seqX clX apX stX ldX iaX slX
def absS (a b : List Rat) (k : Nat) : Rat := Sm (fun i => absQ (cf a i - cf b i)) k
theorem QB_neg {B : Nat} {x : Rat} (h : QB B x) : QB B (-x) := by
  have e : (0 : Rat) - x = -x := by grind
  have := QB_zero (B := 0)
  obtain ⟨h1, h2⟩ := h
  exact ⟨by simpa using h1, by simpa using h2⟩
theorem absQ_QB {B : Nat} {x : Rat} (h : QB B x) : QB B (absQ x) := by
  unfold absQ; split
  · exact QB_neg h
  · exact h
theorem absS_QB {a b : List Rat} {B : Nat} {n : Nat} (ha : ∀ x ∈ a, QB B x) (hb : ∀ x ∈ b, QB B x) (la : n ≤ a.length) (lb : n ≤ b.length) : ∀ k, k ≤ n → QB (k * (2 * B + 2)) (absS a b k)
  | 0, _ => QB_zero _
  | k + 1, hk => by
    have ih := absS_QB ha hb la lb k (by omega)
    have h1 := absQ_QB ((ha _ (cf_mem (l := a) (i := k) (by omega))).sub (hb _ (cf_mem (l := b) (i := k) (by omega))))
    exact (ih.add h1).mono (by rw [Nat.add_mul]; omega)
set_option maxHeartbeats 4000000 in
theorem dapart_c (V : View) (v u : Value) (L M : List Raw) (B : Nat) (hv : Raws V v L) (hu : Raws V u M) (fL : fitR L) (fM : fitR M) (lL : L.length ≤ 1000) (lM : M.length ≤ 1000) (qL : ∀ x ∈ qs L, QB B x) (qM : ∀ x ∈ qs M, QB B x) (hB : 1001 * (2 * B + 2) ≤ 17592186044416) :
    Spec Try.prog 8 [v, u] V fun v' V' => ApartR L M v' V' := by
  obtain ⟨A1, c1, rfl, hc1, hm1⟩ := hv.form
  obtain ⟨A2, c2, rfl, hc2, hm2⟩ := hu.form
  refine (Spec.enter Try.func8 rfl fun Γ => ?_)
  simp only [Try.ntmps8, List.map_cons, List.map_nil, List.length_cons, List.length_nil, Nat.reduceAdd, Nat.reduceSub, List.replicate_succ, List.replicate_zero, List.cons_append, List.nil_append]
  first | refine Gx.a (by kernel_rfl) fun K hK => ?_ | refine Gx.b (by kernel_rfl) fun K hK => ?_ | refine Gx.c (by kernel_rfl) fun K hK => ?_
  simp only [XM, XA, XB, gateX, Nat.reduceAdd, Nat.reduceLeDiff, Nat.reduceSub, Nat.reduceMul, ↓reduceIte, Int.reduceToNat, Int.reduceLE, beq_self_eq_true]
  refine hK _ ?_
  refine XWP.cut (fun s => ∃ (V2 : View), StIs (fun Z => [.v (.slice A1 L.length c1), .v (.slice A2 M.length c2), Z 2,Z 3, .p 0 0, Z 5,Z 6,Z 7,Z 8,Z 9,Z 10,Z 11,Z 12,Z 13,Z 14,Z 15,Z 16,Z 17,Z 18,Z 19,Z 20,Z 21,Z 22,Z 23,Z 24,Z 25,Z 26,Z 27,Z 28,Z 29,Z 30,Z 31,Z 32,Z 33,Z 34,Z 35,Z 36,Z 37,Z 38,Z 39,Z 40,Z 41,Z 42,Z 43,Z 44,Z 45,Z 46,Z 47,Z 48,Z 49,Z 50,Z 51,Z 52,Z 53,Z 54,Z 55,Z 56,Z 57,Z 58]) [[.bool false, .slice none 0 0, .slice none 0 0]] (fun _ => none) V2 s ∧ V.le V2 ∧ lawB L = true ∧ lawB M = true ∧ L.length = M.length) ?_ ?_
  · first | refine XWP.block ?_ | refine XWP.seq (XWP.block ?_)
    refine XWP.seq ?_
    first | refine Gx.a (by kernel_rfl) fun K hK => ?_ | refine Gx.b (by kernel_rfl) fun K hK => ?_ | refine Gx.c (by kernel_rfl) fun K hK => ?_
    simp only [XM, XA, XB, gateX, Nat.reduceAdd, Nat.reduceLeDiff, Nat.reduceSub, Nat.reduceMul, ↓reduceIte, Int.reduceToNat, Int.reduceLE, beq_self_eq_true]
    refine call_go (by kernel_rfl) rfl (dlaw_c _ _ L B hv fL lL qL (by omega)) fun v1 V1 hV1 h1 => ?_
    subst h1
    cases e1 : lawB L
    · simp only [XM, XA, XB, gateX, Nat.reduceAdd, Nat.reduceLeDiff, Nat.reduceSub, Nat.reduceMul, ↓reduceIte, Int.reduceToNat, Int.reduceLE, beq_self_eq_true]
      refine hK _ ?_
      first | refine Gx.t rfl ?_ | refine XWP.seq (Gx.t rfl ?_)
      first | refine Gx.a (by kernel_rfl) fun K hK => ?_ | refine Gx.b (by kernel_rfl) fun K hK => ?_ | refine Gx.c (by kernel_rfl) fun K hK => ?_
      simp only [XM, XA, XB, gateX, Nat.reduceAdd, Nat.reduceLeDiff, Nat.reduceSub, Nat.reduceMul, ↓reduceIte, Int.reduceToNat, Int.reduceLE, beq_self_eq_true]
      refine bd_go (by kernel_rfl) #[] (by simp) bd_rat0 ?_
      simp only [XM, XA, XB, gateX, Nat.reduceAdd, Nat.reduceLeDiff, Nat.reduceSub, Nat.reduceMul, ↓reduceIte, Int.reduceToNat, Int.reduceLE, beq_self_eq_true]
      refine st_rat rfl rfl rfl rfl rfl ?_
      simp only [XM, XA, XB, gateX, Nat.reduceAdd, Nat.reduceLeDiff, Nat.reduceSub, Nat.reduceMul, ↓reduceIte, Int.reduceToNat, Int.reduceLE, beq_self_eq_true]
      refine hK _ (XWP.ret ?_)
      try simp only [thenX_ret, inBlockX_ret]
      exact ret_rat2 rfl rfl rfl rfl (ApartR.bad (by rw [e1]; rfl))
    simp only [XM, XA, XB, gateX, Nat.reduceAdd, Nat.reduceLeDiff, Nat.reduceSub, Nat.reduceMul, ↓reduceIte, Int.reduceToNat, Int.reduceLE, beq_self_eq_true]
    refine call_go (by kernel_rfl) rfl (dlaw_c _ _ M B (hu.up hV1) fM lM qM (by omega)) fun v2 V2 hV2 h2 => ?_
    subst h2
    cases e2 : lawB M
    · simp only [XM, XA, XB, gateX, Nat.reduceAdd, Nat.reduceLeDiff, Nat.reduceSub, Nat.reduceMul, ↓reduceIte, Int.reduceToNat, Int.reduceLE, beq_self_eq_true]
      refine hK _ ?_
      first | refine Gx.t rfl ?_ | refine XWP.seq (Gx.t rfl ?_)
      first | refine Gx.a (by kernel_rfl) fun K hK => ?_ | refine Gx.b (by kernel_rfl) fun K hK => ?_ | refine Gx.c (by kernel_rfl) fun K hK => ?_
      simp only [XM, XA, XB, gateX, Nat.reduceAdd, Nat.reduceLeDiff, Nat.reduceSub, Nat.reduceMul, ↓reduceIte, Int.reduceToNat, Int.reduceLE, beq_self_eq_true]
      refine bd_go (by kernel_rfl) #[] (by simp) bd_rat0 ?_
      simp only [XM, XA, XB, gateX, Nat.reduceAdd, Nat.reduceLeDiff, Nat.reduceSub, Nat.reduceMul, ↓reduceIte, Int.reduceToNat, Int.reduceLE, beq_self_eq_true]
      refine st_rat rfl rfl rfl rfl rfl ?_
      simp only [XM, XA, XB, gateX, Nat.reduceAdd, Nat.reduceLeDiff, Nat.reduceSub, Nat.reduceMul, ↓reduceIte, Int.reduceToNat, Int.reduceLE, beq_self_eq_true]
      refine hK _ (XWP.ret ?_)
      try simp only [thenX_ret, inBlockX_ret]
      exact ret_rat2 rfl rfl rfl rfl (ApartR.bad (by rw [e1, e2]; rfl))
    have eb : (lawB L && lawB M) = true := by rw [e1, e2]; rfl
    simp only [XM, XA, XB, gateX, Nat.reduceAdd, Nat.reduceLeDiff, Nat.reduceSub, Nat.reduceMul, ↓reduceIte, Int.reduceToNat, Int.reduceLE, beq_self_eq_true]
    refine hK _ ?_
    first | refine Gx.f rfl ?_ | refine XWP.seq (Gx.f rfl ?_)
    by_cases hl : L.length = M.length
    rotate_left
    · have b1 : decide ((L.length : Int) = (M.length : Int)) = false := decide_eq_false (by omega)
      first | refine Gx.a (by kernel_rfl) fun K hK => ?_ | refine Gx.b (by kernel_rfl) fun K hK => ?_ | refine Gx.c (by kernel_rfl) fun K hK => ?_
      simp only [XM, XA, XB, gateX, Nat.reduceAdd, Nat.reduceLeDiff, Nat.reduceSub, Nat.reduceMul, ↓reduceIte, Int.reduceToNat, Int.reduceLE, beq_self_eq_true, b1]
      refine hK _ ?_
      first | refine Gx.t rfl ?_ | refine XWP.seq (Gx.t rfl ?_)
      first | refine Gx.a (by kernel_rfl) fun K hK => ?_ | refine Gx.b (by kernel_rfl) fun K hK => ?_ | refine Gx.c (by kernel_rfl) fun K hK => ?_
      simp only [XM, XA, XB, gateX, Nat.reduceAdd, Nat.reduceLeDiff, Nat.reduceSub, Nat.reduceMul, ↓reduceIte, Int.reduceToNat, Int.reduceLE, beq_self_eq_true]
      refine bd_go (by kernel_rfl) #[] (by simp) bd_rat0 ?_
      simp only [XM, XA, XB, gateX, Nat.reduceAdd, Nat.reduceLeDiff, Nat.reduceSub, Nat.reduceMul, ↓reduceIte, Int.reduceToNat, Int.reduceLE, beq_self_eq_true]
      refine st_rat rfl rfl rfl rfl rfl ?_
      simp only [XM, XA, XB, gateX, Nat.reduceAdd, Nat.reduceLeDiff, Nat.reduceSub, Nat.reduceMul, ↓reduceIte, Int.reduceToNat, Int.reduceLE, beq_self_eq_true]
      refine hK _ (XWP.ret ?_)
      try simp only [thenX_ret, inBlockX_ret]
      exact ret_rat2 rfl rfl rfl rfl ⟨fun g => by (rw [eb] at g; cases g), fun _ _ => rfl, fun _ g => absurd g hl⟩
    have b1 : decide ((L.length : Int) = (M.length : Int)) = true := decide_eq_true (by omega)
    first | refine Gx.a (by kernel_rfl) fun K hK => ?_ | refine Gx.b (by kernel_rfl) fun K hK => ?_ | refine Gx.c (by kernel_rfl) fun K hK => ?_
    simp only [XM, XA, XB, gateX, Nat.reduceAdd, Nat.reduceLeDiff, Nat.reduceSub, Nat.reduceMul, ↓reduceIte, Int.reduceToNat, Int.reduceLE, beq_self_eq_true, b1]
    refine hK _ ?_
    first | refine Gx.f rfl ?_ | refine XWP.seq (Gx.f rfl ?_)
    refine XWP.skip ?_
    exact ⟨V2, StIs.of (by exact rfl), View.le_trans hV1 hV2, e1, e2, hl⟩
  rintro s ⟨V2, hs, hle12, e1, e2, hl⟩
  obtain ⟨z, rfl⟩ := hs.out
  try dsimp only
  clear hs
  have eb : (lawB L && lawB M) = true := by rw [e1, e2]; rfl
  obtain ⟨n, hn⟩ : ∃ n, n = L.length := ⟨_, rfl⟩
  have hrL := (Raws.rats hv (lawB_ok e1).1).up hle12
  have hrM := (Raws.rats hu (lawB_ok e2).1).up hle12
  have lqL := qs_len L
  have lqM := qs_len M
  have hS : ∀ k, k ≤ n → QB (1000 * (2 * B + 2)) (absS (qs L) (qs M) k) := fun k hk => (absS_QB (n := n) qL qM (by omega) (by omega) k hk).mono (Nat.mul_le_mul_right _ (by omega))
  rw [← hl, ← hn] at hrM
  rw [← hn] at hrL
  first | refine Gx.a (by kernel_rfl) fun K hK => ?_ | refine Gx.b (by kernel_rfl) fun K hK => ?_ | refine Gx.c (by kernel_rfl) fun K hK => ?_
  simp only [XM, XA, XB, gateX, Nat.reduceAdd, Nat.reduceLeDiff, Nat.reduceSub, Nat.reduceMul, ↓reduceIte, Int.reduceToNat, Int.reduceLE, beq_self_eq_true]
  refine call_go (by kernel_rfl) rfl (pzero_c _) fun v3 V3 hV3 h3 => ?_
  obtain ⟨x3, y3, rfl, o1, o2⟩ := h3.form
  simp only [XM, XA, XB, gateX, Nat.reduceAdd, Nat.reduceLeDiff, Nat.reduceSub, Nat.reduceMul, ↓reduceIte, Int.reduceToNat, Int.reduceLE, beq_self_eq_true]
  refine st_rat rfl rfl rfl o1 o2 ?_
  simp only [XM, XA, XB, gateX, Nat.reduceAdd, Nat.reduceLeDiff, Nat.reduceSub, Nat.reduceMul, ↓reduceIte, Int.reduceToNat, Int.reduceLE, beq_self_eq_true]
  refine hK _ ?_
  rw [← hl, ← hn]
  refine XWP.cutD 2 (fun s => ∃ (V4 : View) (m : Bool) (x y : Value), StIs (fun Z => [Z 0,Z 1,Z 2,Z 3, .p 0 0, Z 5, .p 1 0, Z 7,Z 8,Z 9,Z 10,Z 11,Z 12,Z 13,Z 14,Z 15,Z 16,Z 17,Z 18,Z 19,Z 20,Z 21,Z 22,Z 23,Z 24,Z 25,Z 26,Z 27,Z 28,Z 29,Z 30,Z 31,Z 32,Z 33,Z 34,Z 35,Z 36,Z 37,Z 38,Z 39,Z 40,Z 41,Z 42,Z 43,Z 44,Z 45,Z 46,Z 47,Z 48,Z 49,Z 50,Z 51,Z 52,Z 53,Z 54,Z 55,Z 56,Z 57,Z 58]) [[.bool false, .slice none 0 0, .slice none 0 0], [.bool m, x, y]] (fun _ => none) V4 s ∧ RatC V4 (.agg #[.bool m, x, y]) (absS (qs L) (qs M) n) ∧ isOne x = true ∧ isOne y = true) ?_ ?_
  · first | refine Gx.a (by kernel_rfl) fun K hK => ?_ | refine Gx.b (by kernel_rfl) fun K hK => ?_ | refine Gx.c (by kernel_rfl) fun K hK => ?_
    simp only [XM, XA, XB, gateX, Nat.reduceAdd, Nat.reduceLeDiff, Nat.reduceSub, Nat.reduceMul, ↓reduceIte, Int.reduceToNat, Int.reduceLE, beq_self_eq_true]
    refine hK _ ?_
    clear hK
    first | refine XWP.block ?_ | refine XWP.seq (XWP.block ?_)
    refine XWP.loopD 2 (fun q s => ∃ (k : Nat) (V4 : View) (m : Bool) (x y : Value), StIs (fun Z => [.v (.slice A1 n c1), .v (.slice A2 n c2), Z 2,Z 3, .p 0 0, Z 5, .p 1 0, Z 7,Z 8,Z 9,Z 10,Z 11,Z 12,Z 13,Z 14,Z 15,Z 16,Z 17,Z 18,Z 19,Z 20,Z 21,Z 22,Z 23,Z 24,Z 25,Z 26,Z 27,Z 28,Z 29, .v (.int .i64 (n : Int)), .v (.int .i64 (k : Int)), Z 32,Z 33,Z 34,Z 35,Z 36,Z 37,Z 38,Z 39,Z 40,Z 41,Z 42,Z 43,Z 44,Z 45,Z 46,Z 47,Z 48,Z 49,Z 50,Z 51,Z 52,Z 53,Z 54,Z 55,Z 56,Z 57,Z 58]) [[.bool false, .slice none 0 0, .slice none 0 0], [.bool m, x, y]] (fun _ => none) V4 s ∧ q + k = n ∧ V2.le V4 ∧ RatC V4 (.agg #[.bool m, x, y]) (absS (qs L) (qs M) k) ∧ isOne x = true ∧ isOne y = true) n ⟨0, V3, _, _, _, StIs.of (by exact rfl), by omega, hV3, h3, o1, o2⟩ ?_
    clear h3 o1 o2
    rintro q s ⟨k, V4, m, x, y, hs, hq, hV4, h4, o1, o2⟩
    obtain ⟨z, rfl⟩ := hs.out
    try dsimp only
    clear hs
    by_cases hk : k < n
    rotate_left
    · obtain rfl : k = n := by omega
      have b2 : decide ((k : Int) < (k : Int)) = false := decide_eq_false (by omega)
      first | refine Gx.a (by kernel_rfl) fun K hK => ?_ | refine Gx.b (by kernel_rfl) fun K hK => ?_ | refine Gx.c (by kernel_rfl) fun K hK => ?_
      simp only [XM, XA, XB, gateX, Nat.reduceAdd, Nat.reduceLeDiff, Nat.reduceSub, Nat.reduceMul, ↓reduceIte, Int.reduceToNat, Int.reduceLE, beq_self_eq_true, b2]
      refine hK _ ?_
      first | refine Gx.f rfl ?_ | refine XWP.seq (Gx.f rfl ?_)
      refine XWP.exit ?_
      exact fun f => ⟨V4, m, x, y, StIs.of (by exact rfl), h4, o1, o2⟩
    have b2 : decide ((k : Int) < (n : Int)) = true := decide_eq_true (by omega)
    first | refine Gx.a (by kernel_rfl) fun K hK => ?_ | refine Gx.b (by kernel_rfl) fun K hK => ?_ | refine Gx.c (by kernel_rfl) fun K hK => ?_
    simp only [XM, XA, XB, gateX, Nat.reduceAdd, Nat.reduceLeDiff, Nat.reduceSub, Nat.reduceMul, ↓reduceIte, Int.reduceToNat, Int.reduceLE, beq_self_eq_true, b2]
    refine hK _ ?_
    first | refine Gx.t rfl ?_ | refine XWP.seq (Gx.t rfl ?_)
    refine XWP.skip ?_
    have hv4 := hrL.up hV4
    have hu4 := hrM.up hV4
    obtain ⟨b, o, rfl⟩ := SlAt.addr hv4 (by omega)
    obtain ⟨b', o', rfl⟩ := SlAt.addr hu4 (by omega)
    obtain ⟨m5, n5, d5, hx5, ⟨p1, p2, p3⟩, hld5⟩ := Rats.get hv4 k (by omega)
    obtain ⟨m6, n6, d6, hx6, ⟨r1, r2, r3⟩, hld6⟩ := Rats.get hu4 k (by omega)
    have q5 := qL _ (cf_mem (l := qs L) (i := k) (by omega))
    have q6 := qM _ (cf_mem (l := qs M) (i := k) (by omega))
    have qd : QB (2 * B + 1) (cf (qs L) k - cf (qs M) k) := (q5.sub q6).mono (by omega)
    refine XWP.cutD 2 (fun s => ∃ (V7 : View) (m : Bool) (x y : Value), StIs (fun Z => [.v (.slice (some ⟨b, o, none⟩) n c1), .v (.slice (some ⟨b', o', none⟩) n c2), Z 2,Z 3, .p 0 0, Z 5, .p 1 0, Z 7,Z 8,Z 9,Z 10,Z 11,Z 12,Z 13,Z 14,Z 15,Z 16,Z 17,Z 18,Z 19,Z 20,Z 21,Z 22,Z 23,Z 24,Z 25,Z 26,Z 27,Z 28,Z 29, .v (.int .i64 (n : Int)), .v (.int .i64 (k : Int)), Z 32,Z 33,Z 34,Z 35,Z 36,Z 37,Z 38,Z 39,Z 40,Z 41,Z 42,Z 43,Z 44,Z 45,Z 46,Z 47,Z 48,Z 49,Z 50,Z 51,Z 52,Z 53,Z 54,Z 55,Z 56,Z 57,Z 58]) [[.bool false, .slice none 0 0, .slice none 0 0], [.bool m, x, y]] (fun _ => none) V7 s ∧ V4.le V7 ∧ RatC V7 (.agg #[.bool m, x, y]) (absS (qs L) (qs M) (k + 1)) ∧ isOne x = true ∧ isOne y = true) ?_ ?_
    · first | refine XWP.block ?_ | refine XWP.seq (XWP.block ?_)
      first | refine Gx.a (by kernel_rfl) fun K hK => ?_ | refine Gx.b (by kernel_rfl) fun K hK => ?_ | refine Gx.c (by kernel_rfl) fun K hK => ?_
      simp only [XM, XA, XB, gateX, Nat.reduceAdd, Nat.reduceLeDiff, Nat.reduceSub, Nat.reduceMul, ↓reduceIte, Int.reduceToNat, Int.reduceLE, beq_self_eq_true]
      refine hK _ ?_
      refine XWP.cutD 3 (fun s => ∃ (V7 : View) (md : Bool) (xd yd : Value), StIs (fun Z => [.v (.slice (some ⟨b, o, none⟩) n c1), .v (.slice (some ⟨b', o', none⟩) n c2), Z 2,Z 3, .p 0 0, Z 5, .p 1 0, Z 7, .p 2 0, Z 9,Z 10,Z 11,Z 12,Z 13,Z 14,Z 15,Z 16,Z 17,Z 18,Z 19,Z 20,Z 21,Z 22,Z 23,Z 24,Z 25,Z 26,Z 27,Z 28,Z 29, .v (.int .i64 (n : Int)), .v (.int .i64 (k : Int)), Z 32,Z 33,Z 34,Z 35,Z 36,Z 37,Z 38,Z 39,Z 40,Z 41,Z 42,Z 43,Z 44,Z 45,Z 46,Z 47,Z 48,Z 49,Z 50,Z 51,Z 52,Z 53,Z 54,Z 55,Z 56,Z 57,Z 58]) [[.bool false, .slice none 0 0, .slice none 0 0], [.bool m, x, y], [.bool md, xd, yd]] (fun _ => none) V7 s ∧ V4.le V7 ∧ RatC V7 (.agg #[.bool md, xd, yd]) (cf (qs L) k - cf (qs M) k) ∧ isOne xd = true ∧ isOne yd = true) ?_ ?_
      · (first | refine XWP.drwT (.lin [0, 1, 2, 3, 4, 5, 6, 7] (.two (.lin [8, 9, 10] .nil) (.lin [9, 8, 10] .nil))) (by kernel_rfl) (by kernel_rfl) (by kernel_rfl) fun K hK => ?_ | refine XWP.seq (XWP.drwT (.lin [0, 1, 2, 3, 4, 5, 6, 7] (.two (.lin [8, 9, 10] .nil) (.lin [9, 8, 10] .nil))) (by kernel_rfl) (by kernel_rfl) (by kernel_rfl) fun K hK => ?_) | refine XWP.drwT1 (.lin [0, 1, 2, 3, 4, 5, 6, 7] (.two (.lin [8, 9, 10] .nil) (.lin [9, 8, 10] .nil))) (by kernel_rfl) (by kernel_rfl) (by kernel_rfl) fun K hK => ?_)
        simp only [XM, XA, XB, gateX, Nat.reduceAdd, Nat.reduceLeDiff, Nat.reduceSub, Nat.reduceMul, ↓reduceIte, Int.reduceToNat, Int.reduceLE, beq_self_eq_true]
        refine ⟨by omega, by omega, ld_mem (hld5 _) ?_⟩
        simp only [XM, XA, XB, gateX, Nat.reduceAdd, Nat.reduceLeDiff, Nat.reduceSub, Nat.reduceMul, ↓reduceIte, Int.reduceToNat, Int.reduceLE, beq_self_eq_true]
        refine ⟨by omega, by omega, ld_mem (hld6 _) ?_⟩
        simp only [XM, XA, XB, gateX, Nat.reduceAdd, Nat.reduceLeDiff, Nat.reduceSub, Nat.reduceMul, ↓reduceIte, Int.reduceToNat, Int.reduceLE, beq_self_eq_true]
        refine And.intro ?_ ?_
        · refine call_go (by kernel_rfl) rfl (psub_c _ _ _ _ _ (hx5.toV (q5.qf (by omega))) (hx6.toV (q6.qf (by omega))) (q5.qf (by omega)) (q6.qf (by omega))) fun v7 V7 hV7 h7 => ?_
          obtain ⟨x7, y7, rfl, g1, g2⟩ := h7.form
          simp only [XM, XA, XB, gateX, Nat.reduceAdd, Nat.reduceLeDiff, Nat.reduceSub, Nat.reduceMul, ↓reduceIte, Int.reduceToNat, Int.reduceLE, beq_self_eq_true]
          refine st_rat rfl rfl rfl g1 g2 ?_
          simp only [XM, XA, XB, gateX, Nat.reduceAdd, Nat.reduceLeDiff, Nat.reduceSub, Nat.reduceMul, ↓reduceIte, Int.reduceToNat, Int.reduceLE, beq_self_eq_true]
          exact hK _ fun f => ⟨V7, _, x7, y7, StIs.of (by exact rfl), hV7, h7, g1, g2⟩
        · refine call_go (by kernel_rfl) rfl (psub_c _ _ _ _ _ (hx5.toV (q5.qf (by omega))) (hx6.toV (q6.qf (by omega))) (q5.qf (by omega)) (q6.qf (by omega))) fun v7 V7 hV7 h7 => ?_
          obtain ⟨x7, y7, rfl, g1, g2⟩ := h7.form
          simp only [XM, XA, XB, gateX, Nat.reduceAdd, Nat.reduceLeDiff, Nat.reduceSub, Nat.reduceMul, ↓reduceIte, Int.reduceToNat, Int.reduceLE, beq_self_eq_true]
          refine st_rat rfl rfl rfl g1 g2 ?_
          simp only [XM, XA, XB, gateX, Nat.reduceAdd, Nat.reduceLeDiff, Nat.reduceSub, Nat.reduceMul, ↓reduceIte, Int.reduceToNat, Int.reduceLE, beq_self_eq_true]
          exact hK _ fun f => ⟨V7, _, x7, y7, StIs.of (by exact rfl), hV7, h7, g1, g2⟩
      rintro s ⟨V7, md, xd, yd, hs, hV7, h7, g1, g2⟩
      obtain ⟨z, rfl⟩ := hs.out
      try dsimp only
      clear hs
      refine XWP.cutD 3 (fun s => ∃ (V8 : View) (md : Bool) (xd yd : Value), StIs (fun Z => [.v (.slice (some ⟨b, o, none⟩) n c1), .v (.slice (some ⟨b', o', none⟩) n c2), Z 2,Z 3, .p 0 0, Z 5, .p 1 0, Z 7, .p 2 0, Z 9,Z 10,Z 11,Z 12,Z 13,Z 14,Z 15,Z 16,Z 17,Z 18,Z 19,Z 20,Z 21,Z 22,Z 23,Z 24,Z 25,Z 26,Z 27,Z 28,Z 29, .v (.int .i64 (n : Int)), .v (.int .i64 (k : Int)), Z 32,Z 33,Z 34,Z 35,Z 36,Z 37,Z 38,Z 39,Z 40,Z 41,Z 42,Z 43,Z 44,Z 45,Z 46,Z 47,Z 48,Z 49,Z 50,Z 51,Z 52,Z 53,Z 54,Z 55,Z 56,Z 57,Z 58]) [[.bool false, .slice none 0 0, .slice none 0 0], [.bool m, x, y], [.bool md, xd, yd]] (fun _ => none) V8 s ∧ V7.le V8 ∧ RatC V8 (.agg #[.bool md, xd, yd]) (absQ (cf (qs L) k - cf (qs M) k)) ∧ isOne xd = true ∧ isOne yd = true) ?_ ?_
      · have en := sgI_neg (cf (qs L) k - cf (qs M) k)
        first | refine Gx.a (by kernel_rfl) fun K hK => ?_ | refine Gx.b (by kernel_rfl) fun K hK => ?_ | refine Gx.c (by kernel_rfl) fun K hK => ?_
        simp only [XM, XA, XB, gateX, Nat.reduceAdd, Nat.reduceLeDiff, Nat.reduceSub, Nat.reduceMul, ↓reduceIte, Int.reduceToNat, Int.reduceLE, beq_self_eq_true]
        refine call_go (by kernel_rfl) rfl (psign_c _ _ _ (h7.toV (qd.qf (by omega)))) fun v8 V8 hV8 h8 => ?_
        subst h8
        cases hng : ng (cf (qs L) k - cf (qs M) k)
        · rw [hng] at en
          have ea : absQ (cf (qs L) k - cf (qs M) k) = cf (qs L) k - cf (qs M) k := by
            have := (ng_iff _).1 hng
            unfold absQ; split
            · rename_i h; grind
            · rfl
          simp only [XM, XA, XB, gateX, Nat.reduceAdd, Nat.reduceLeDiff, Nat.reduceSub, Nat.reduceMul, ↓reduceIte, Int.reduceToNat, Int.reduceLE, beq_self_eq_true, en]
          refine hK _ ?_
          first | refine Gx.f rfl ?_ | refine XWP.seq (Gx.f rfl ?_)
          refine XWP.skip ?_
          exact fun f => ⟨V8, _, xd, yd, StIs.of (by exact rfl), hV8, by rw [ea]; exact h7.mono hV8, g1, g2⟩
        · rw [hng] at en
          have ea : absQ (cf (qs L) k - cf (qs M) k) = -(cf (qs L) k - cf (qs M) k) := by
            have : ¬ 0 ≤ cf (qs L) k - cf (qs M) k := fun h => by rw [(ng_iff _).2 h] at hng; cases hng
            unfold absQ; split
            · rfl
            · rename_i h; grind
          simp only [XM, XA, XB, gateX, Nat.reduceAdd, Nat.reduceLeDiff, Nat.reduceSub, Nat.reduceMul, ↓reduceIte, Int.reduceToNat, Int.reduceLE, beq_self_eq_true, en]
          refine hK _ ?_
          first | refine Gx.t rfl ?_ | refine XWP.seq (Gx.t rfl ?_)
          first | refine Gx.a (by kernel_rfl) fun K hK => ?_ | refine Gx.b (by kernel_rfl) fun K hK => ?_ | refine Gx.c (by kernel_rfl) fun K hK => ?_
          simp only [XM, XA, XB, gateX, Nat.reduceAdd, Nat.reduceLeDiff, Nat.reduceSub, Nat.reduceMul, ↓reduceIte, Int.reduceToNat, Int.reduceLE, beq_self_eq_true]
          refine call_go (by kernel_rfl) rfl (pneg_c _ _ _ ((h7.mono hV8).toV (qd.qf (by omega)))) fun v9 V9 hV9 h9 => ?_
          rw [← ea] at h9
          obtain ⟨x9, y9, rfl, i1, i2⟩ := h9.form
          simp only [XM, XA, XB, gateX, Nat.reduceAdd, Nat.reduceLeDiff, Nat.reduceSub, Nat.reduceMul, ↓reduceIte, Int.reduceToNat, Int.reduceLE, beq_self_eq_true]
          refine st_rat rfl rfl rfl i1 i2 ?_
          simp only [XM, XA, XB, gateX, Nat.reduceAdd, Nat.reduceLeDiff, Nat.reduceSub, Nat.reduceMul, ↓reduceIte, Int.reduceToNat, Int.reduceLE, beq_self_eq_true]
          exact hK _ fun f => ⟨V9, _, x9, y9, StIs.of (by exact rfl), View.le_trans hV8 hV9, h9, i1, i2⟩
      clear h7 g1 g2
      rintro s ⟨V8, md, xd, yd, hs, hV8, h7, g1, g2⟩
      obtain ⟨z, rfl⟩ := hs.out
      try dsimp only
      clear hs
      have qa : QF (absQ (cf (qs L) k - cf (qs M) k)) := (absQ_QB qd).qf (by omega)
      have qs1 := (hS k (by omega)).qf (show 1000 * (2 * B + 2) ≤ 17592186044416 by omega)
      first | refine Gx.a (by kernel_rfl) fun K hK => ?_ | refine Gx.b (by kernel_rfl) fun K hK => ?_ | refine Gx.c (by kernel_rfl) fun K hK => ?_
      simp only [XM, XA, XB, gateX, Nat.reduceAdd, Nat.reduceLeDiff, Nat.reduceSub, Nat.reduceMul, ↓reduceIte, Int.reduceToNat, Int.reduceLE, beq_self_eq_true]
      refine call_go (by kernel_rfl) rfl (padd_c _ _ _ _ _ ((h4.mono (View.le_trans hV7 hV8)).toV qs1) (h7.toV qa) qs1 qa) fun v9 V9 hV9 h9 => ?_
      obtain ⟨x9, y9, rfl, i1, i2⟩ := h9.form
      simp only [XM, XA, XB, gateX, Nat.reduceAdd, Nat.reduceLeDiff, Nat.reduceSub, Nat.reduceMul, ↓reduceIte, Int.reduceToNat, Int.reduceLE, beq_self_eq_true]
      refine st_rat rfl rfl rfl i1 i2 ?_
      simp only [XM, XA, XB, gateX, Nat.reduceAdd, Nat.reduceLeDiff, Nat.reduceSub, Nat.reduceMul, ↓reduceIte, Int.reduceToNat, Int.reduceLE, beq_self_eq_true]
      exact hK _ fun f => ⟨V9, _, x9, y9, StIs.of (by exact rfl), View.le_trans hV7 (View.le_trans hV8 hV9), h9, i1, i2⟩
    clear h4 o1 o2
    rintro s ⟨V7, m, x, y, hs, hV7, h4, o1, o2⟩
    obtain ⟨z, rfl⟩ := hs.out
    try dsimp only
    first | refine Gx.a (by kernel_rfl) fun K hK => ?_ | refine Gx.b (by kernel_rfl) fun K hK => ?_ | refine Gx.c (by kernel_rfl) fun K hK => ?_
    simp only [XM, XA, XB, gateX, Nat.reduceAdd, Nat.reduceLeDiff, Nat.reduceSub, Nat.reduceMul, ↓reduceIte, Int.reduceToNat, Int.reduceLE, beq_self_eq_true, i64_succ k (by omega)]
    exact hK _ ⟨q - 1, by omega, fun f => ⟨k + 1, V7, m, x, y, StIs.of (by exact rfl), by omega, View.le_trans hV4 hV7, h4, o1, o2⟩⟩
  rintro s ⟨V4, m, x, y, hs, h4, o1, o2⟩
  obtain ⟨z, rfl⟩ := hs.out
  try dsimp only
  clear hs
  have qh : QF hf := hf_QB.qf (by omega)
  have qs1 := (hS n (by omega)).qf (show 1000 * (2 * B + 2) ≤ 17592186044416 by omega)
  first | refine Gx.a (by kernel_rfl) fun K hK => ?_ | refine Gx.b (by kernel_rfl) fun K hK => ?_ | refine Gx.c (by kernel_rfl) fun K hK => ?_
  simp only [XM, XA, XB, gateX, Nat.reduceAdd, Nat.reduceLeDiff, Nat.reduceSub, Nat.reduceMul, ↓reduceIte, Int.reduceToNat, Int.reduceLE, beq_self_eq_true]
  refine call_go (by kernel_rfl) rfl (dmake_c _) fun v5 V5 hV5 h5 => ?_
  obtain ⟨w5, rfl, h5⟩ := h5
  obtain ⟨x5, y5, rfl, p1, p2⟩ := h5.form
  simp only [XM, XA, XB, gateX, Nat.reduceAdd, Nat.reduceLeDiff, Nat.reduceSub, Nat.reduceMul, ↓reduceIte, Int.reduceToNat, Int.reduceLE, beq_self_eq_true]
  refine st_rat rfl rfl rfl p1 p2 ?_
  simp only [XM, XA, XB, gateX, Nat.reduceAdd, Nat.reduceLeDiff, Nat.reduceSub, Nat.reduceMul, ↓reduceIte, Int.reduceToNat, Int.reduceLE, beq_self_eq_true]
  refine hK _ ?_
  first | refine Gx.a (by kernel_rfl) fun K hK => ?_ | refine Gx.b (by kernel_rfl) fun K hK => ?_ | refine Gx.c (by kernel_rfl) fun K hK => ?_
  simp only [XM, XA, XB, gateX, Nat.reduceAdd, Nat.reduceLeDiff, Nat.reduceSub, Nat.reduceMul, ↓reduceIte, Int.reduceToNat, Int.reduceLE, beq_self_eq_true]
  refine call_go (by kernel_rfl) rfl (pmul_c _ _ _ _ _ ((h4.mono hV5).toV qs1) (h5.toV qh) qs1 qh) fun v6 V6 hV6 h6 => ?_
  have et : absS (qs L) (qs M) n * hf = tvF (cf (qs L)) (cf (qs M)) n := by
    rw [tv_abs (by rw [hn]; have a1 := (lawB_ok e1).2.2; have a2 := (lawB_ok e2).2.2; unfold sumL at a1 a2; rw [← hl] at a2; rw [a1, a2])]; rfl
  rw [et] at h6
  obtain ⟨x6, y6, rfl, q1, q2⟩ := h6.form
  simp only [XM, XA, XB, gateX, Nat.reduceAdd, Nat.reduceLeDiff, Nat.reduceSub, Nat.reduceMul, ↓reduceIte, Int.reduceToNat, Int.reduceLE, beq_self_eq_true]
  refine st_rat rfl rfl rfl q1 q2 ?_
  simp only [XM, XA, XB, gateX, Nat.reduceAdd, Nat.reduceLeDiff, Nat.reduceSub, Nat.reduceMul, ↓reduceIte, Int.reduceToNat, Int.reduceLE, beq_self_eq_true]
  refine hK _ (XWP.ret ?_)
  try simp only [thenX_ret, inBlockX_ret]
  exact ret_rat2 rfl rfl rfl rfl ⟨fun g => by (rw [eb] at g; cases g), fun _ g => absurd hl g, fun _ _ => ⟨_, rfl, by rw [← hn]; exact h6⟩⟩
end Go.Proofs.Ytkgmicakfmllmaa
end
section
namespace Go.Proofs.Ytkgmicakfmllmaa
open Go Go.RowKit
set_option linter.unusedSimpArgs false
set_option linter.unusedVariables false
attribute [local irreducible] XWP Spec SpecO XPub XCall seqX clX apX stX ldX iaX slX
end Go.Proofs.Ytkgmicakfmllmaa
end
section
namespace Go.Proofs.Ytkgmicakfmllmaa
open Go Go.RowKit
set_option linter.unusedSimpArgs false
set_option linter.unusedVariables false
attribute [local irreducible] XWP Spec SpecO XPub XCall seqX clX apX stX ldX iaX slX
end Go.Proofs.Ytkgmicakfmllmaa
end
section
namespace Go.Proofs.Ytkgmicakfmllmaa
open Go Go.RowKit
set_option linter.unusedSimpArgs false
set_option linter.unusedVariables false
attribute [local irreducible] XWP Spec SpecO XPub XCall seqX clX apX stX ldX iaX slX
theorem wtB_raw {n : Nat} {l : List Rat} (h : l.length = n) (hn : ∀ j, j < n → 0 ≤ cf l j) : wtB n (l.map toRaw) = true := by
  unfold wtB wtsR
  rw [List.length_map, decide_eq_true (by omega), Bool.true_and, List.all_eq_true]
  intro r hr
  obtain ⟨y, hy, rfl⟩ := List.mem_map.1 hr
  obtain ⟨i, hi, rfl⟩ := List.mem_iff_getElem.1 hy
  unfold wtR
  rw [toRaw_ok, toRaw_q, cf_get hi, (ng_iff _).2 (hn i (by omega))]; rfl
end Go.Proofs.Ytkgmicakfmllmaa
end
section
namespace Go.Proofs.Ytkgmicakfmllmaa
theorem mk_eq {m : Nat} {f g : Nat → Rat} (h : ∀ j, j < m → f j = g j) : mk m f = mk m g := by
  unfold mk
  exact List.map_congr_left fun j hj => h j (List.mem_range.1 hj)
theorem mk_put {m j : Nat} {f : Nat → Rat} {x : Rat} (hj : j < m) : (mk m f).set j x = mk m (fun c => if c = j then x else f c) := by
  unfold mk
  refine List.ext_getElem? fun i => ?_
  by_cases hi : i < m
  · by_cases e : j = i
    · subst e
      rw [List.getElem?_set_self (by simpa using hi)]
      simp [hi]
    · rw [List.getElem?_set_ne e]
      simp only [List.getElem?_map, List.getElem?_range hi, Option.map_some]
      rw [if_neg (fun e' => e e'.symm)]
  · rw [List.getElem?_eq_none (by simp; omega), List.getElem?_eq_none (by simp; omega)]
end Go.Proofs.Ytkgmicakfmllmaa
end
section
namespace Go.Proofs.Ytkgmicakfmllmaa
open Go Go.RowKit
set_option linter.unusedSimpArgs false
set_option linter.unusedVariables false
attribute [local irreducible] XWP Spec SpecO XPub XCall seqX clX apX stX ldX iaX slX
theorem st_one {P : Program} {t i off : Nat} {s : XS} {ops : Array Oper} {rest : List Oper} {K : XS → Prop} {d : Option Tmp} {v : Value} {vs : List Value} (hs : shapeT P t = some (false, 1)) (hb : s.bx[i]? = some vs) (h1 : isOne v = true) (hl : off < vs.length) (h : seqX P ops rest K (XS.put ⟨s.t, s.bx.set i (vs.set off v), s.H, s.V⟩ d (.v undef))) : stX P ops rest K s d t (.p i off) (.v v) := by
  unfold stX loudX
  have e0 : XS.ev ⟨[.p i off, .v v], s.bx, s.H, s.V⟩ (.tmp 0) = .p i off := rfl
  have e1 : XS.ev ⟨[.p i off, .v v], s.bx, s.H, s.V⟩ (.tmp 1) = .v v := rfl
  simp only [e0, e1, hs, hb]
  have ec : v.cells = #[v] := by cases v <;> first | rfl | cases h1
  refine ⟨by rw [ec]; rfl, by rw [ec]; simp [h1], by omega, ?_⟩
  have : splice vs off v.cells.toList = vs.set off v := by
    rw [ec]
    unfold splice
    rw [List.set_eq_take_append_cons_drop, if_pos hl]
    simp
  rw [this]; exact h
theorem placesT_37 : placesT Try.prog 37 = some [(0, 1), (1, 1), (2, 1)] := by kernel_rfl
theorem bd_mtx3 {x y z : Value} (hx : isOne x = true) (hy : isOne y = true) (hz : isOne z = true) : BuildsTo Try.prog 37 #[(0, x), (1, y), (2, z)] (.agg #[x, y, z]) := by
  refine bd_run placesT_37 zeroT_37 ?_
  show Instr.fill _ _ [(0, x), (1, y), (2, z)] = _
  rw [fill_one (off := 0) rfl hx (by simp), fill_one (off := 1) rfl hy (by simp), fill_one (off := 2) rfl hz (by simp)]; rfl
theorem bd_mtx2 {x y : Value} (hx : isOne x = true) (hy : isOne y = true) : BuildsTo Try.prog 37 #[(0, x), (1, y)] (.agg #[x, y, .slice none 0 0]) := by
  refine bd_run placesT_37 zeroT_37 ?_
  show Instr.fill _ _ [(0, x), (1, y)] = _
  rw [fill_one (off := 0) rfl hx (by simp), fill_one (off := 1) rfl hy (by simp)]; rfl
theorem bd_mtx0 : BuildsTo Try.prog 37 #[] (.agg #[.int .i64 0, .int .i64 0, .slice none 0 0]) := by
  refine bd_run placesT_37 zeroT_37 ?_
  rfl
theorem own_isOne {H : Heap} {e sz n : Nat} {v : Value} {xs : List Value} (h : Own H e sz v n xs) : isOne v = true := by
  obtain ⟨_, ⟨rfl, _⟩ | ⟨g, cap, rfl, _⟩⟩ := h <;> rfl
end Go.Proofs.Ytkgmicakfmllmaa
end
section
namespace Go.Proofs.Ytkgmicakfmllmaa
open Go Go.RowKit
set_option linter.unusedVariables false
/-- a row is published, anywhere -/
theorem XWP.pub {Γ : Cx} {P : Program} {c : Code} {Q : Exit → XS → Prop} {t : List SV} {bx : List (List Value)} {H : Heap} {V : View} (b : Nat) (r : Row) (hr : H b = some r)
    (h : ∀ o, RowObj r o → V.le (addV V b o) → XWP Γ P c Q ⟨t, bx, upd H b none, addV V b o⟩) : XWP Γ P c Q ⟨t, bx, H, V⟩ := by
  intro bl a w hc
  obtain ⟨o, ho, h3, h4, _, h6⟩ := pub_row hc.cw hc.cs hr
  exact h o ho h6 bl a w ⟨hc.tm, hc.df, h3, h4, hc.ok⟩
/-- a row made new is none that is there -/
theorem new_ne {H : Heap} {b g : Nat} {r : Row} (hb : H b = none) (hg : H g = some r) : g ≠ b := fun e => by rw [e, hb] at hg; cases hg
theorem XWP.label {Γ : Cx} {P : Program} {Q : Exit → XS → Prop} {s : XS} {l : Nat} (h : Q .normal s) : XWP Γ P (.label l) Q s := fun bl _ _ hc => wpIn_label ⟨bl, s, hc, h⟩
def MPost (P : Program) (rs : List ResultVar) (R : Value → Heap → View → Prop) : Exit → XS → Prop
  | .normal, s | .ret, s => XPub (fun s' => ∃ vs, resAll P s' rs = some vs ∧ R (oneOf vs) s'.H s'.V) s
  | _, _ => False
/-- A contract over the caller's own rows: from (H, V) to a result and (H', V'). -/
def MSpec (P : Program) (f : FuncId) (args : List Value) (H : Heap) (V : View) (R : Value → Heap → View → Prop) : Prop :=
  ∃ fn c, P.funcs[f]? = some fn ∧ fn.body = some c ∧ ∀ Γ : Cx, Γ.Plain → XWP Γ P c (MPost P fn.results.toList R) ⟨args.map .v ++ List.replicate (fn.ntmps - args.length) (.v undef), [], H, V⟩
theorem MPost_ret {P : Program} {rs : List ResultVar} {R : Value → Heap → View → Prop} {s : XS} : MPost P rs R .ret s = XPub (fun s' => ∃ vs, resAll P s' rs = some vs ∧ R (oneOf vs) s'.H s'.V) s := rfl
theorem MPost_normal {P : Program} {rs : List ResultVar} {R : Value → Heap → View → Prop} {s : XS} : MPost P rs R .normal s = XPub (fun s' => ∃ vs, resAll P s' rs = some vs ∧ R (oneOf vs) s'.H s'.V) s := rfl
theorem MSpec.enter {P : Program} {f : FuncId} {fn : Func} {c : Code} {args : List Value} {H : Heap} {V : View} {R : Value → Heap → View → Prop} (hf : P.funcs[f]? = some fn) (hb : fn.body = some c)
    (h : ∀ Γ : Cx, Γ.Plain → XWP Γ P c (MPost P fn.results.toList R) ⟨args.map .v ++ List.replicate (fn.ntmps - args.length) (.v undef), [], H, V⟩) : MSpec P f args H V R := ⟨fn, c, hf, hb, h⟩
theorem retM_go {P : Program} {rs : List ResultVar} {R : Value → Heap → View → Prop} {s : XS} (vs : List Value) (h : resAll P s rs = some vs) (hR : R (oneOf vs) s.H s.V) : MPost P rs R .ret s := by rw [MPost_ret]; exact XPub.now ⟨vs, h, hR⟩
theorem endM_go {P : Program} {rs : List ResultVar} {R : Value → Heap → View → Prop} {s : XS} (vs : List Value) (h : resAll P s rs = some vs) (hR : R (oneOf vs) s.H s.V) : MPost P rs R .normal s := by rw [MPost_normal]; exact XPub.now ⟨vs, h, hR⟩

theorem leave_marksK {Γ : Cx} {P : Program} {bl : Nat → Nat} {bx : List (List Value)} {H : Heap} {V : View} (hV0 : Γ.V0.sub Γ.w0) (W0 : World) {fn : Func} {R : Ending → World → Prop} {tmps : Array Value} (hs : CS Γ bl bx H V) : ∀ (ms : List Nat) (w : World), CW Γ bl bx H V w → KeepsOthers W0 w → ms.Nodup → (∀ D ∈ ms, (Γ.w0.heap.size ≤ D ∧ W0.heap.size ≤ D) ∧ w.heap[D]? = some (.deferred (some []))) →
    (∀ w', CW Γ bl bx H V w' → KeepsOthers W0 w' → ∃ v, (results fn tmps).run P w' = .ok v w' ∧ R (.returned v) w') → LeavesInM Fence.wide 0 P fn tmps R (ms.map fun D => { target := .collected D, args := #[] }) .returning w
  | [], w, h, ho, _, _, k => k w h ho
  | D :: ms, w, h, ho, hn, hD, k => by
    obtain ⟨⟨h1, h1'⟩, h2⟩ := hD D (by simp)
    obtain ⟨n1, n2⟩ := List.nodup_cons.1 hn
    refine ⟨by simp, .inl ⟨D, _, rfl, run_takeDeferred h2, leave_marksK hV0 W0 hs ms _ (h.turn hV0 hs h2 rfl h1 _) (others_put ho h1' _) n2 (fun E hE => ?_) k⟩⟩
    obtain ⟨h3, h4⟩ := hD E (by simp [hE])
    exact ⟨h3, (World.putObj_heap_other (fun e => n1 (by rw [← e]; exact hE))).trans h4⟩
/-- The call, in the world. -/
theorem MSpec.calls {P : Program} {f : FuncId} {args : List Value} {H : Heap} {V : View} {R : Value → Heap → View → Prop} (h : MSpec P f args H V R) {Γ : Cx} (hV0 : Γ.V0.sub Γ.w0) {bl : Nat → Nat} {w : World} (hw : CW Γ bl [] H V w) (hs : CS Γ bl [] H V) :
    Calls P f args.toArray w fun e w' => ∃ v H' V', e = .returned v ∧ CW Γ bl [] H' V' w' ∧ CS Γ bl [] H' V' ∧ KeepsOthers w w' ∧ R v H' V' := by
  obtain ⟨fn, c, hf, hb, h⟩ := h
  refine (callsIn_wide (n := 0)).1 (callsIn_of_wp_marks hf hb trivial ?_)
  have hc : Conc ⟨Γ.w0, Γ.V0, w, none⟩ bl ⟨args.map .v ++ List.replicate (fn.ntmps - args.length) (.v undef), [], H, V⟩ { tmps := args.toArray ++ Array.replicate (fn.ntmps - args.toArray.size) undef, defers := [] } w := by
    refine ⟨?_, ⟨⟨[], rfl, List.nodup_nil, fun D hD => by simp at hD⟩, KeepsOthers.refl _⟩, hw.cx rfl, hs.cx rfl rfl, fun x hx => ?_⟩
    · have e1 : (SV.conc bl) ∘ SV.v = id := rfl
      have e2 : (SV.conc bl (SV.v undef)) = undef := rfl
      simp [List.map_append, List.map_map, List.map_replicate, e1, e2]
    · simp only [List.mem_append, List.mem_map, List.mem_replicate] at hx
      rcases hx with ⟨_, _, rfl⟩ | ⟨_, rfl⟩ <;> trivial
  refine wpIn_mono (h ⟨Γ.w0, Γ.V0, w, none⟩ ⟨rfl, hV0⟩ bl _ w hc) ?_
  have fin : ∀ bl1 s a w', Conc ⟨Γ.w0, Γ.V0, w, none⟩ bl1 s a w' → MPost P fn.results.toList R .ret s → LeavesInM Fence.wide 0 P fn a.tmps (fun e w' => ∃ v H' V', e = .returned v ∧ CW Γ bl [] H' V' w' ∧ CS Γ bl [] H' V' ∧ KeepsOthers w w' ∧ R v H' V') a.defers .returning w' := by
    intro bl1 s a w' hC hR
    obtain ⟨H', V', h1, h2, _, _, vs, hvs, hR⟩ := hR ⟨Γ.w0, Γ.V0, w, none⟩ bl1 w' hC.cw hC.cs
    obtain ⟨⟨ms, e1, e2, e3⟩, e4⟩ := hC.df
    rw [e1]
    refine leave_marksK (Γ := ⟨Γ.w0, Γ.V0, w, none⟩) hV0 w h2 ms w' h1 e4 e2 (fun D hD => ⟨⟨Nat.le_trans (Cx.base_ge _) (e3 D hD).1, Nat.le_trans (Cx.base_w1 ⟨Γ.w0, Γ.V0, w, none⟩ rfl) (e3 D hD).1⟩, (e3 D hD).2⟩) fun w'' h3 h4 => ⟨_, ?_, _, H', V', rfl, (h3.cx (Γ' := Γ) rfl).nobox, (h2.cx (Γ' := Γ) rfl rfl).nobox, h4, hR⟩
    exact results_run (Γ := ⟨Γ.w0, Γ.V0, w, none⟩) (a := { tmps := a.tmps, defers := [] }) (s := ⟨s.t, s.bx, H', V'⟩) ⟨hC.tm, ⟨⟨[], rfl, List.nodup_nil, fun D hD => by simp at hD⟩, h4⟩, h3, h2, hC.ok⟩ vs hvs
  rintro e a w' ⟨bl1, s, hC, hq⟩
  cases e with
  | normal => exact fin bl1 s a w' hC hq
  | ret => exact fin bl1 s a w' hC hq
  | _ => exact hq.elim

section
variable {Γ : Cx} {P : Program} {ops : Array Oper} {Q : Exit → XS → Prop}
/-- operations in the order of the text, then what follows -/
theorem seqX_ops (rest : List Nat) : ∀ (l : List Oper) (k : Nat) (K : XS → Prop), (∀ i o, l[i]? = some o → ops[k + i]? = some o) → ∀ bl s a w, Conc Γ bl s a w → guardsIn ops s.t.length = true → seqX P ops l K s →
    (∀ bl s a w, Conc Γ bl s a w → guardsIn ops s.t.length = true → K s → wpOps P ops (XQ Γ (onlyN Q)) rest a w) → wpOps P ops (XQ Γ (onlyN Q)) (List.range' k l.length ++ rest) a w
  | [], k, K, _, bl, s, a, w, hc, hg, h, hk => by simpa using hk bl s a w hc hg h
  | o :: l, k, K, hi, bl, s, a, w, hc, hg, h, hk => by
    have ho : ops[k]? = some o := by simpa using hi 0 o (by simp)
    simp only [List.length_cons, List.range'_succ, List.cons_append]
    rw [wpOps_cons]
    refine wpOp_mono ?_ (wpOp_size hc.len (stepX_wp ho (guardsIn_spec hg ho) hc h (XQ Γ (onlyN Q))))
    rintro a' w' ⟨hsz, bl', s', hc', _, hk'⟩
    refine seqX_ops rest l (k + 1) K (fun i o' h' => ?_) bl' s' a' w' hc' (by rw [← hc'.len, hsz]; exact hg) hk' hk
    have := hi (i + 1) o' (by simpa using h')
    rw [show k + 1 + i = k + (i + 1) by omega]; exact this
def MCall (P : Program) (f : FuncId) (args : List SV) (s : XS) (K : Value → XS → Prop) : Prop :=
  s.bx = [] ∧ args.all SV.isV = true ∧ ∃ R, MSpec P f (args.map SV.val) s.H s.V R ∧ ∀ v H V, R v H V → K v ⟨s.t, [], H, V⟩
/-- A region in the order of its text, one of its operations a call over the caller's rows. -/
theorem XWP.regM {id : Nat} {s : XS} (k : Nat) {d : Option Tmp} {f : FuncId} {args : List Operand} {ts : Array TypeId} {ty pos af} (hΓ : Γ.V0.sub Γ.w0) (hk : ops.toList[k]? = some ⟨d, .call ⟨.value (.func f), args.toArray, ts⟩, ty, pos, af, none⟩) (hcl : callable P f = true) (hg : guardsIn ops s.t.length = true)
    (h : seqX P ops (ops.toList.take k) (fun s1 => MCall P f (args.map s1.ev) s1 fun v s2 => seqX P ops (ops.toList.drop (k + 1)) (fun s' => Q .normal s') (s2.put d (.v v))) s) : XWP Γ P (.region id ops false) Q s := by
  intro bl a w hc
  have hnd : noDefer ops = true := by unfold guardsIn at hg; rw [Bool.and_eq_true] at hg; exact hg.1
  refine wpIn_mono (wpIn_region (wpOps_in onlyN_out hnd _ _ _ ?_)) (onlyN_all (Q := Q))
  obtain ⟨hlt, hke⟩ := List.getElem?_eq_some_iff.1 hk
  have hlen : List.range ops.size = List.range' 0 (ops.toList.take k).length ++ (k :: (List.range' (k + 1) (ops.toList.drop (k + 1)).length ++ [])) := by
    have e1 : (ops.toList.take k).length = k := by rw [List.length_take]; omega
    have e2 : ops.size = k + ((ops.toList.drop (k + 1)).length + 1) := by rw [List.length_drop, ← Array.length_toList]; omega
    rw [e1, e2, List.range_eq_range', ← List.range'_append_1, Nat.zero_add, List.range'_succ, List.append_nil]
  rw [hlen]
  refine seqX_ops _ _ 0 _ (fun i o ho => ?_) bl s a w hc hg h ?_
  · rw [Nat.zero_add, ← Array.getElem?_toList]
    rw [List.getElem?_take] at ho
    split at ho
    · exact ho
    · cases ho
  intro bl1 s1 a1 w1 hc1 hg1 ⟨hbx, hall, R, hspec, hK⟩
  obtain ⟨t1, bx1, H1, V1⟩ := s1
  dsimp only at hbx hg1 hspec hK
  subst hbx
  have hok : ops[k]? = some ⟨d, .call ⟨.value (.func f), args.toArray, ts⟩, ty, pos, af, none⟩ := by rw [← Array.getElem?_toList]; exact hk
  rw [wpOps_cons]
  unfold wpOp
  simp only [hok]
  rw [if_pos (by unfold Region.wanted; rfl)]
  refine .inl ?_
  have eargs : ((args.map (⟨t1, [], H1, V1⟩ : XS).ev).map SV.val).toArray = args.toArray.map a1.eval := by
    apply Array.ext'
    simp only [Array.toList_map, List.map_map]
    refine List.map_congr_left fun q hq => ?_
    rw [hc1.ev]
    exact (val_conc (List.all_eq_true.1 hall _ (List.mem_map_of_mem hq))).symm
  have hrun : (execOp a1.eval ⟨d, .call ⟨.value (.func f), args.toArray, ts⟩, ty, pos, af, none⟩).run P w1 = .ok (.enter f (args.toArray.map a1.eval)) w1 := by
    have ef : a1.eval (.func f) = .func (.func f) #[] #[] := rfl
    unfold callable at hcl
    cases hf : P.funcs[f]? with
    | none => simp [hf] at hcl
    | some fn =>
      simp [hf] at hcl
      have hb : fn.body ≠ none := fun hn => by simp [hn] at hcl
      simp [execOp, resolve, ef, Deferred.ofValue, invoke, callFunc, hf, hcl.1, hb]
  unfold Oper.wp
  rw [hrun]
  show Calls P f (args.toArray.map a1.eval) w1 _
  rw [← eargs]
  refine (hspec.calls hΓ hc1.cw hc1.cs).mono ?_
  rintro e w' ⟨v, H', V', rfl, cw, cs, ko, hR⟩
  dsimp only
  have hput := Conc.put (Γ := Γ) (bl := bl1) (s := ⟨t1, [], H', V'⟩) (a := a1) (w := w') ⟨hc1.tm, hc1.df.keep ko, cw, cs, hc1.ok⟩ d (.v v) trivial
  exact seqX_ops [] _ (k + 1) _ (fun i o ho => by rw [← Array.getElem?_toList]; rw [List.getElem?_drop] at ho; exact ho) bl1 _ _ _ hput (by rw [put_len]; exact hg1) (hK v H' V' hR) fun bl s a w hc _ hq => ⟨bl, s, hc, hq⟩
theorem Gx.ma {id : Nat} {s : XS} {y : Code} (k : Nat) {d : Option Tmp} {f : FuncId} {args : List Operand} {ts : Array TypeId} {ty pos af} (hΓ : Γ.Plain) (hk : ops.toList[k]? = some ⟨d, .call ⟨.value (.func f), args.toArray, ts⟩, ty, pos, af, none⟩) (hcl : callable P f = true) (hg : guardsIn ops s.t.length = true)
    (h : ∀ K : XS → Prop, (∀ s', XWP Γ P y Q s' → K s') → seqX P ops (ops.toList.take k) (fun s1 => MCall P f (args.map s1.ev) s1 fun v s2 => seqX P ops (ops.toList.drop (k + 1)) K (s2.put d (.v v))) s) : XWP Γ P (.seq (.region id ops false) y) Q s :=
  XWP.seq (XWP.regM k hΓ.2 hk hcl hg (h _ fun _ h => h))
theorem Gx.mc {id : Nat} {s : XS} (k : Nat) {d : Option Tmp} {f : FuncId} {args : List Operand} {ts : Array TypeId} {ty pos af} (hΓ : Γ.Plain) (hk : ops.toList[k]? = some ⟨d, .call ⟨.value (.func f), args.toArray, ts⟩, ty, pos, af, none⟩) (hcl : callable P f = true) (hg : guardsIn ops s.t.length = true)
    (h : ∀ K : XS → Prop, (∀ s', Q .normal s' → K s') → seqX P ops (ops.toList.take k) (fun s1 => MCall P f (args.map s1.ev) s1 fun v s2 => seqX P ops (ops.toList.drop (k + 1)) K (s2.put d (.v v))) s) : XWP Γ P (.region id ops false) Q s :=
  XWP.regM k hΓ.2 hk hcl hg (h _ fun _ h => h)
end
/-- the call itself -/
theorem mcall_go {P : Program} {f : FuncId} {args : List SV} {s : XS} {K : Value → XS → Prop} {R : Value → Heap → View → Prop} (hb : s.bx = []) (hv : args.all SV.isV = true) (hs : MSpec P f (args.map SV.val) s.H s.V R) (h : ∀ v H V, R v H V → K v ⟨s.t, [], H, V⟩) : MCall P f args s K := ⟨hb, hv, R, hs, h⟩
end Go.Proofs.Ytkgmicakfmllmaa
end
section
namespace Go.Proofs.Ytkgmicakfmllmaa
open Go Go.RowKit
set_option linter.unusedSimpArgs false
set_option linter.unusedVariables false
attribute [local irreducible] XWP Spec SpecO XPub XCall seqX clX apX stX ldX iaX slX
/-- the slice v reads as xs, a cell each -/
def Sl1 {α : Type} (E : El α) (V : View) (v : Value) (xs : List α) : Prop := ∃ A c, v = .slice A xs.length c ∧ xs.length ≤ c ∧ c ≤ 9223372036854775807 ∧ (xs = [] ∨ ∃ b o arr ty fr, A = some ⟨b, o, none⟩ ∧ V b = some (.cells arr ty fr) ∧ ∀ (i : Nat) (x : α), xs[i]? = some x → ∃ u, arr[o + i]? = some u ∧ isOne u = true ∧ E V u x)
/-- the cells of a private row read as xs -/
def R1At {α : Type} (E : El α) (V : View) (cells : List Value) (xs : List α) : Prop := cells.length = xs.length ∧ ∀ (i : Nat) (x : α), xs[i]? = some x → ∃ u, cells[i]? = some u ∧ isOne u = true ∧ E V u x
def booE : El Bool := fun _ u x => u = .bool x
theorem booE_ok : ElOk booE := fun _ _ _ _ _ h => h
section
variable {α : Type} {E : El α}
theorem Sl1.mono (hE : ElOk E) {V V' : View} {v : Value} {xs : List α} (h : Sl1 E V v xs) (hV : V.le V') : Sl1 E V' v xs := by
  obtain ⟨A, c, e, h1, h2, h3⟩ := h
  refine ⟨A, c, e, h1, h2, ?_⟩
  rcases h3 with h3 | ⟨b, o, arr, ty, fr, e1, e2, h4⟩
  · exact .inl h3
  · exact .inr ⟨b, o, arr, ty, fr, e1, hV _ _ e2, fun i x hi => by obtain ⟨u, a, b, d⟩ := h4 i x hi; exact ⟨u, a, b, hE _ _ _ _ hV d⟩⟩
theorem Sl1_ok (hE : ElOk E) : ElOk (Sl1 E) := fun _ _ _ _ hV h => h.mono hE hV
theorem Sl1.form {V : View} {v : Value} {xs : List α} (h : Sl1 E V v xs) : ∃ A c, v = .slice A xs.length c ∧ xs.length ≤ c ∧ c ≤ 9223372036854775807 := by
  obtain ⟨A, c, e, h1, h2, _⟩ := h; exact ⟨A, c, e, h1, h2⟩
theorem Sl1.one {V : View} {v : Value} {xs : List α} (h : Sl1 E V v xs) : isOne v = true := by obtain ⟨A, c, rfl, _⟩ := h.form; rfl
theorem Sl1.nil (V : View) : Sl1 E V (.slice none 0 0) ([] : List α) := ⟨none, 0, rfl, Nat.le_refl _, by omega, .inl rfl⟩
theorem Sl1.addr {V : View} {A : Option Addr} {n c : Nat} {xs : List α} (h : Sl1 E V (.slice A n c) xs) (hk : 0 < xs.length) : ∃ b o, A = some ⟨b, o, none⟩ := by
  obtain ⟨A', c', e, _, _, h3⟩ := h
  cases e
  rcases h3 with rfl | ⟨b, o, _, _, _, e1, _⟩
  · simp at hk
  · exact ⟨b, o, e1⟩
theorem Sl1.load {V : View} {b o n c : Nat} {xs : List α} (h : Sl1 E V (.slice (some ⟨b, o, none⟩) n c) xs) (i : Nat) (hi : i < xs.length) : ∃ u, E V u xs[i] ∧ isOne u = true ∧ ∀ H (t m : Nat), shapeT Try.prog t = some (false, m) → Loads Try.prog H V t b (o + i) u := by
  obtain ⟨A', c', e, _, _, h3⟩ := h
  cases e
  rcases h3 with rfl | ⟨b', o', arr, ty, fr, e1, e2, h4⟩
  · simp at hi
  · cases e1
    obtain ⟨u, g1, g2, g3⟩ := h4 i xs[i] (List.getElem?_eq_getElem hi)
    exact ⟨u, g3, g2, fun H t m ht => ⟨false, m, ht, .inr ⟨rfl, .inr ⟨arr, ty, fr, e2, g1⟩⟩⟩⟩
theorem R1At.mono (hE : ElOk E) {V V' : View} {cells : List Value} {xs : List α} (h : R1At E V cells xs) (hV : V.le V') : R1At E V' cells xs := ⟨h.1, fun i x hi => by obtain ⟨u, a, b, d⟩ := h.2 i x hi; exact ⟨u, a, b, hE _ _ _ _ hV d⟩⟩
theorem R1At.nil (V : View) : R1At E V [] ([] : List α) := ⟨rfl, fun i x hi => by simp at hi⟩
theorem R1At.pub (hE : ElOk E) {V : View} {b n c tot e : Nat} {o : Obj} {cells : List Value} {xs : List α} (h : R1At E V cells xs) (ho : RowObj ⟨e, cells, tot⟩ o) (hle : V.le (addV V b o)) (hn : xs.length = n) (hc : n ≤ c) (hm : c ≤ 9223372036854775807) : Sl1 E (addV V b o) (.slice (some ⟨b, 0, none⟩) n c) xs := by
  obtain ⟨ex, rfl, _⟩ := ho
  refine ⟨some ⟨b, 0, none⟩, c, by rw [hn], by omega, hm, .inr ⟨b, 0, _, e, (0, 0), rfl, by simp [addV]; rfl, fun i x hi => ?_⟩⟩
  obtain ⟨u, g1, g2, g3⟩ := h.2 i x hi
  have hlt : i < xs.length := by
    rcases Nat.lt_or_ge i xs.length with h1 | h1
    · exact h1
    · rw [List.getElem?_eq_none h1] at hi; cases hi
  refine ⟨u, ?_, g2, hE _ _ _ _ hle g3⟩
  simp only [Nat.zero_add, List.getElem?_toArray]; rw [List.getElem?_append_left (by have := h.1; omega)]; exact g1
theorem R1At.snoc {V : View} {cells : List Value} {xs : List α} (h : R1At E V cells xs) {u : Value} {x : α} (h1 : isOne u = true) (hx : E V u x) : R1At E V (cells ++ [u]) (xs ++ [x]) := by
  have hl := h.1
  refine ⟨by simp [hl], fun i y hi => ?_⟩
  by_cases hlt : i < xs.length
  · rw [List.getElem?_append_left hlt] at hi
    rw [List.getElem?_append_left (by omega)]; exact h.2 i y hi
  · rw [List.getElem?_append_right (by omega)] at hi
    have e : i = xs.length := by
      rcases Nat.lt_or_ge (i - xs.length) 1 with h2 | h2
      · omega
      · rw [List.getElem?_eq_none (by simpa using h2)] at hi; cases hi
    subst e
    rw [Nat.sub_self] at hi
    cases hi
    exact ⟨u, by rw [← hl]; simp, h1, hx⟩
end
theorem flat_one {n : Nat} (u : Value) : (List.replicate n [u]).flatten = List.replicate n u := by
  induction n with
  | zero => rfl
  | succ n ih => rw [List.replicate_succ, List.flatten_cons, ih, List.replicate_succ]; rfl
end Go.Proofs.Ytkgmicakfmllmaa
end
section
namespace Go.Proofs.Ytkgmicakfmllmaa
open Go Go.RowKit
set_option linter.unusedSimpArgs false
set_option linter.unusedVariables false
attribute [local irreducible] XWP Spec SpecO XPub XCall seqX clX apX stX ldX iaX slX
/-- a grid, row by row -/
def flatF (G : Grid) (C : Nat) (p : Nat) : Rat := G (p / C) (p % C)
def flatG (G : Grid) (R C : Nat) : List Rat := mk (R * C) (flatF G C)
theorem flatF_at (G : Grid) {C i k : Nat} (hk : k < C) : flatF G C (i * C + k) = G i k := by
  unfold flatF
  have e1 : (i * C + k) / C = i := by rw [Nat.mul_comm, Nat.mul_add_div (by omega), Nat.div_eq_of_lt hk, Nat.add_zero]
  have e2 : (i * C + k) % C = k := by rw [Nat.mul_comm, Nat.mul_add_mod, Nat.mod_eq_of_lt hk]
  rw [e1, e2]
theorem flatG_len (G : Grid) (R C : Nat) : (flatG G R C).length = R * C := mk_len _ _
theorem pos_lt {R C i k : Nat} (hi : i < R) (hk : k < C) : i * C + k < R * C := by
  have := Nat.mul_le_mul_right C (show i + 1 ≤ R by omega)
  rw [Nat.add_mul, Nat.one_mul] at this; omega
theorem flatG_at (G : Grid) {R C i k : Nat} (hi : i < R) (hk : k < C) : cf (flatG G R C) (i * C + k) = G i k := by
  unfold flatG
  rw [cf_mk, if_pos (pos_lt hi hk), flatF_at G hk]
theorem flatG_congr {G G' : Grid} {R C : Nat} (h : ∀ i k, i < R → k < C → G i k = G' i k) : flatG G R C = flatG G' R C := by
  unfold flatG
  refine mk_eq fun p hp => ?_
  have hC : 0 < C := by
    rcases Nat.eq_zero_or_pos C with e | e
    · rw [e, Nat.mul_zero] at hp; omega
    · exact e
  exact h _ _ (by rw [Nat.div_lt_iff_lt_mul hC]; exact hp) (Nat.mod_lt _ hC)
/-- a list, read as a grid -/
def gridL (l : List Rat) (C : Nat) : Grid := fun i k => cf l (i * C + k)
section
variable {Γ : Cx} {P : Program} {Q : Exit → XS → Prop} {t : List SV} {bx : List (List Value)} {H : Heap} {V : View}
/-- an own list of digits is published -/
theorem XWP.pubN {c : Code} {e n : Nat} {v : Value} {ds : List Nat} (hown : Own H e 1 v n (u32s ds)) (hd : Dig ds) (h : ∀ H' V', V.le V' → NatAt V' v ds → (∀ k, v.ownBlock ≠ some k → H' k = H k) → XWP Γ P c Q ⟨t, bx, H', V'⟩) : XWP Γ P c Q ⟨t, bx, H, V⟩ := by
  have hl : ds.length = n := by have := hown.1; simpa [u32s] using this
  rcases own_parts hown with ⟨rfl, h0, _⟩ | ⟨g, cap, rfl, hg, hle, hcap, _⟩
  · refine h H V (View.le_refl _) ?_ fun _ _ => rfl
    rw [List.length_eq_zero_iff.1 (show ds.length = 0 by omega)]; exact NatAt.nil V
  · refine XWP.pub g _ hg fun o ho hle' => h _ _ hle' (NatAt.pub ho hd hl hle (by unfold maxLen at hcap; omega)) fun k hk => ?_
    unfold upd
    rw [if_neg fun e => hk (by rw [e]; rfl)]
/-- an own list of fractions is published -/
theorem XWP.pubR {α : Type} {E : El α} (hE : ElOk E) {c : Code} {e n : Nat} {v : Value} {cells : List Value} {l : List α} (hown : Own H e 3 v n cells) (hrow : RowAt E V cells l) (h : ∀ H' V', V.le V' → SlAt E V' v l → (∀ k, v.ownBlock ≠ some k → H' k = H k) → XWP Γ P c Q ⟨t, bx, H', V'⟩) : XWP Γ P c Q ⟨t, bx, H, V⟩ := by
  have h1 := hown.1
  have h2 := hrow.1
  have hl : l.length = n := by omega
  rcases own_parts hown with ⟨rfl, h0, _⟩ | ⟨g, cap, rfl, hg, hle, hcap, _⟩
  · refine h H V (View.le_refl _) ?_ fun _ _ => rfl
    rw [List.length_eq_zero_iff.1 (show l.length = 0 by omega)]; exact SlAt.nil V
  · refine XWP.pub g _ hg fun o ho hle' => h _ _ hle' (hrow.pub hE ho hle' hl hle (by unfold maxLen at hcap; omega)) fun k hk => ?_
    unfold upd
    rw [if_neg fun e => hk (by rw [e]; rfl)]
variable {ops : Array Oper} {rest : List Oper} {K : XS → Prop} {s : XS} {d : Option Tmp}
/-- a call of a function value with captures -/
theorem call_gob {f : FuncId} {ys lb : List Value} {R : Value → View → Prop} (hc : callable P f = true) (hs : Spec P f (ys ++ lb) s.V R)
    (h : ∀ v V', s.V.le V' → R v V' → seqX P ops rest K (XS.put ⟨s.t, s.bx, s.H, V'⟩ d (.v v))) : clX P ops rest K s d f (ys.map .v ++ lb.map .v) := by
  have e1 : ((ys.map SV.v ++ lb.map SV.v).all SV.isV) = true := by
    rw [← List.map_append, List.all_map]; exact List.all_eq_true.2 fun _ _ => rfl
  have e2 : (ys.map SV.v ++ lb.map SV.v).map SV.val = ys ++ lb := by
    rw [← List.map_append, List.map_map]; exact List.map_id' _
  exact call_go hc e1 (by rw [e2]; exact hs) h
end
theorem copied_c (V : View) (v : Value) (q : Rat) (h : RatC V v q) (f : QF q) : Spec Try.prog 131 [v] V fun v' V' => RatC V' v' q := by
  obtain ⟨n, d, rfl, hn, hd⟩ := h
  obtain ⟨A1, c1, rfl, hc1, hm1⟩ := NatAt.form hn
  obtain ⟨A2, c2, rfl, hc2, hm2⟩ := NatAt.form hd
  have l1 := f.fits.1.len
  have l2 := f.fits.2.len
  refine (Spec.enter Try.func131 rfl fun Γ => ?_)
  simp only [Try.ntmps131, List.map_cons, List.map_nil, List.length_cons, List.length_nil, Nat.reduceAdd, Nat.reduceSub, List.replicate_succ, List.replicate_zero, List.cons_append, List.nil_append]
  first | refine Gx.a (by kernel_rfl) fun K hK => ?_ | refine Gx.b (by kernel_rfl) fun K hK => ?_ | refine Gx.c (by kernel_rfl) fun K hK => ?_
  simp only [XM, XA, XB, gateX, Nat.reduceAdd, Nat.reduceLeDiff, Nat.reduceSub, Nat.reduceMul, ↓reduceIte, Int.reduceToNat, Int.reduceLE, beq_self_eq_true]
  refine hK _ ?_
  (first | refine XWP.drw [0, 1, 2, 3, 5, 6, 4, 7, 8, 9] (by kernel_rfl) (by kernel_rfl) (by kernel_rfl) fun K hK => ?_ | refine XWP.seq (XWP.drw [0, 1, 2, 3, 5, 6, 4, 7, 8, 9] (by kernel_rfl) (by kernel_rfl) (by kernel_rfl) fun K hK => ?_) | refine XWP.drw1 [0, 1, 2, 3, 5, 6, 4, 7, 8, 9] (by kernel_rfl) (by kernel_rfl) (by kernel_rfl) fun K hK => ?_) <;> dsimp only [pickOps, List.getElem?_cons_zero, List.getElem?_cons_succ]
  simp only [XM, XA, XB, gateX, Nat.reduceAdd, Nat.reduceLeDiff, Nat.reduceSub, Nat.reduceMul, ↓reduceIte, Int.reduceToNat, Int.reduceLE, beq_self_eq_true]
  refine ap_go elemT_25 (by kernel_rfl) zeroT_116 rfl (by omega) (n := 0) (xs := []) own_nil (src_nat hn _) (by omega) (by omega) fun v1 H1 r1 => ?_
  simp only [XM, XA, XB, gateX, Nat.reduceAdd, Nat.reduceLeDiff, Nat.reduceSub, Nat.reduceMul, ↓reduceIte, Int.reduceToNat, Int.reduceLE, beq_self_eq_true]
  refine ap_go elemT_25 (by kernel_rfl) zeroT_116 rfl (by omega) (n := 0) (xs := []) own_nil (src_nat hd _) (by omega) (by omega) fun v2 H2 r2 => ?_
  obtain ⟨o1, k1, f1⟩ := r1
  obtain ⟨o2, k2, f2⟩ := r2
  simp only [List.nil_append, Nat.zero_add] at o1 o2
  try dsimp only at k1 f1 k2 f2
  have i1 := own_one o1
  have i2 := own_one o2
  have o1' : Own H2 116 1 v1 (dg q.num.natAbs).length (u32s (dg q.num.natAbs)) := by
    refine ⟨o1.1, ?_⟩
    rcases o1.2 with h | ⟨b, cap, rfl, hb, h3⟩
    · exact .inl h
    · refine .inr ⟨b, cap, rfl, ?_, h3⟩
      rw [k2 b fun e => ?_]
      · exact hb
      · rcases f2 b e with h | ⟨h, _⟩
        · cases h
        · rw [hb] at h; cases h
  have dj : ∀ k, v1.ownBlock = some k → v2.ownBlock ≠ some k := fun k e1 e2 => by
    rcases f2 k e2 with h | ⟨h, _⟩
    · cases h
    · rcases o1.2 with ⟨rfl, _⟩ | ⟨b, cap, rfl, hb, _⟩
      · cases e1
      · have : b = k := by simpa [Value.ownBlock] using e1
        subst this; rw [hb] at h; cases h
  simp only [XM, XA, XB, gateX, Nat.reduceAdd, Nat.reduceLeDiff, Nat.reduceSub, Nat.reduceMul, ↓reduceIte, Int.reduceToNat, Int.reduceLE, beq_self_eq_true]
  refine bd_go (by kernel_rfl) #[(0, .bool (ng q)), (1, v1), (2, v2)] (by simp [ev_tmp, SV.val]) (bd_rat3 rfl i1 i2) ?_
  simp only [XM, XA, XB, gateX, Nat.reduceAdd, Nat.reduceLeDiff, Nat.reduceSub, Nat.reduceMul, ↓reduceIte, Int.reduceToNat, Int.reduceLE, beq_self_eq_true]
  refine st_rat rfl rfl rfl i1 i2 ?_
  simp only [XM, XA, XB, gateX, Nat.reduceAdd, Nat.reduceLeDiff, Nat.reduceSub, Nat.reduceMul, ↓reduceIte, Int.reduceToNat, Int.reduceLE, beq_self_eq_true]
  refine hK _ ?_
  refine XWP.pubN o1' (Dig_dg _) fun H3 V3 hV3 g1 hk3 => ?_
  have o2' : Own H3 116 1 v2 (dg q.den).length (u32s (dg q.den)) := by
    refine ⟨o2.1, ?_⟩
    rcases o2.2 with h | ⟨b, cap, rfl, hb, h3⟩
    · exact .inl h
    · exact .inr ⟨b, cap, rfl, by rw [hk3 b fun e => dj b e rfl]; exact hb, h3⟩
  refine XWP.pubN o2' (Dig_dg _) fun H4 V4 hV4 g2 hk4 => ?_
  refine XWP.ret ?_
  try simp only [thenX_ret, inBlockX_ret]
  exact ret_rat1 rfl rfl rfl ⟨_, _, rfl, NatAt.mono g1 hV4, g2⟩
/-- a filled matrix: its row is the caller's -/
theorem filled_o (V : View) {g : FuncId} {lb : List Value} (R C : Nat) (G : Grid) (hcl : callable Try.prog g = true) (hR : R ≤ 1000) (hC : C ≤ 1000)
    (hf : ∀ V' i k, V.le V' → i < R → k < C → Spec Try.prog g ([.int .i64 (i : Int), .int .i64 (k : Int)] ++ lb) V' fun v' V'' => RatC V'' v' (G i k)) :
    SpecO Try.prog 93 [.int .i64 (R : Int), .int .i64 (C : Int), .func (.func g) #[] lb.toArray] V fun v' V' o => ∃ sl cells, v' = .agg #[.int .i64 (R : Int), .int .i64 (C : Int), sl] ∧ Own (addRow (fun _ => none) o) 27 3 sl (R * C) cells ∧ RowAt ratE V' cells (flatG G R C) := by
  have hRC : R * C ≤ 1000000 := Nat.le_trans (Nat.mul_le_mul hR hC) (by decide)
  refine (SpecO.enter Try.func93 rfl fun Γ => ?_)
  simp only [Try.ntmps93, List.map_cons, List.map_nil, List.length_cons, List.length_nil, Nat.reduceAdd, Nat.reduceSub, List.replicate_succ, List.replicate_zero, List.cons_append, List.nil_append]
  first | refine Gx.a (by kernel_rfl) fun K hK => ?_ | refine Gx.b (by kernel_rfl) fun K hK => ?_ | refine Gx.c (by kernel_rfl) fun K hK => ?_
  simp only [XM, XA, XB, gateX, Nat.reduceAdd, Nat.reduceLeDiff, Nat.reduceSub, Nat.reduceMul, ↓reduceIte, Int.reduceToNat, Int.reduceLE, beq_self_eq_true]
  refine hK _ ?_
  first | refine Gx.a (by kernel_rfl) fun K hK => ?_ | refine Gx.b (by kernel_rfl) fun K hK => ?_ | refine Gx.c (by kernel_rfl) fun K hK => ?_
  simp only [XM, XA, XB, gateX, Nat.reduceAdd, Nat.reduceLeDiff, Nat.reduceSub, Nat.reduceMul, ↓reduceIte, Int.reduceToNat, Int.reduceLE, beq_self_eq_true]
  refine bd_go (by kernel_rfl) #[(0, .int .i64 (R : Int)), (1, .int .i64 (C : Int))] (by simp [ev_tmp, SV.val]) (bd_mtx2 rfl rfl) ?_
  simp only [XM, XA, XB, gateX, Nat.reduceAdd, Nat.reduceLeDiff, Nat.reduceSub, Nat.reduceMul, ↓reduceIte, Int.reduceToNat, Int.reduceLE, beq_self_eq_true]
  refine st_mat shapeT_37 rfl rfl rfl rfl rfl ?_
  simp only [XM, XA, XB, gateX, Nat.reduceAdd, Nat.reduceLeDiff, Nat.reduceSub, Nat.reduceMul, ↓reduceIte, Int.reduceToNat, Int.reduceLE, beq_self_eq_true]
  refine hK _ ?_
  clear hK
  refine XWP.cut (fun s => ∃ (V2 : View) (H5 : Heap) (sl : Value) (cells : List Value), StIs (fun Z => [Z 0,Z 1,Z 2,Z 3,Z 4,Z 5, .p 0 0, .p 1 0, Z 8,Z 9,Z 10,Z 11,Z 12,Z 13,Z 14,Z 15,Z 16,Z 17,Z 18,Z 19,Z 20,Z 21,Z 22,Z 23,Z 24,Z 25,Z 26,Z 27,Z 28,Z 29,Z 30,Z 31,Z 32]) [[.int .i64 0, .int .i64 0, .slice none 0 0], [.int .i64 (R : Int), .int .i64 (C : Int), sl]] H5 V2 s ∧ Own H5 27 3 sl (R * C) cells ∧ RowAt ratE V2 cells (flatG G R C)) ?_ ?_
  · first | refine Gx.a (by kernel_rfl) fun K hK => ?_ | refine Gx.b (by kernel_rfl) fun K hK => ?_ | refine Gx.c (by kernel_rfl) fun K hK => ?_
    simp only [XM, XA, XB, gateX, Nat.reduceAdd, Nat.reduceLeDiff, Nat.reduceSub, Nat.reduceMul, ↓reduceIte, Int.reduceToNat, Int.reduceLE, beq_self_eq_true]
    refine hK _ ?_
    clear hK
    first | refine XWP.block ?_ | refine XWP.seq (XWP.block ?_)
    refine XWP.loop (fun q s => ∃ (i : Nat) (V2 : View) (H5 : Heap) (sl : Value) (cells : List Value), StIs (fun Z => [.v (.int .i64 (R : Int)), .v (.int .i64 (C : Int)), .v (.func (.func g) #[] lb.toArray), Z 3,Z 4,Z 5, .p 0 0, .p 1 0, Z 8,Z 9,Z 10,Z 11,Z 12, .v (.int .i64 (R : Int)), .v (.int .i64 (i : Int)), Z 15,Z 16,Z 17,Z 18,Z 19,Z 20,Z 21,Z 22,Z 23,Z 24,Z 25,Z 26,Z 27,Z 28,Z 29,Z 30,Z 31,Z 32]) [[.int .i64 0, .int .i64 0, .slice none 0 0], [.int .i64 (R : Int), .int .i64 (C : Int), sl]] H5 V2 s ∧ q + i = R ∧ V.le V2 ∧ Own H5 27 3 sl (i * C) cells ∧ RowAt ratE V2 cells (mk (i * C) (flatF G C))) R ⟨0, V, _, _, [], StIs.of (by exact rfl), by omega, View.le_refl _, by rw [Nat.zero_mul]; exact own_nil, by rw [Nat.zero_mul]; exact RowAt.nil _⟩ ?_
    rintro q s ⟨i, V2, H5, sl, cells, hs, hq, hV2, hown, hrow⟩
    obtain ⟨z, rfl⟩ := hs.out
    try dsimp only
    clear hs
    by_cases hi : i < R
    rotate_left
    · obtain rfl : i = R := by omega
      have b1 : decide ((i : Int) < (i : Int)) = false := decide_eq_false (by omega)
      first | refine Gx.a (by kernel_rfl) fun K hK => ?_ | refine Gx.b (by kernel_rfl) fun K hK => ?_ | refine Gx.c (by kernel_rfl) fun K hK => ?_
      simp only [XM, XA, XB, gateX, Nat.reduceAdd, Nat.reduceLeDiff, Nat.reduceSub, Nat.reduceMul, ↓reduceIte, Int.reduceToNat, Int.reduceLE, beq_self_eq_true, b1]
      refine hK _ ?_
      first | refine Gx.f rfl ?_ | refine XWP.seq (Gx.f rfl ?_)
      refine XWP.exit ?_
      exact ⟨V2, H5, sl, cells, StIs.of (by exact rfl), hown, hrow⟩
    have b1 : decide ((i : Int) < (R : Int)) = true := decide_eq_true (by omega)
    first | refine Gx.a (by kernel_rfl) fun K hK => ?_ | refine Gx.b (by kernel_rfl) fun K hK => ?_ | refine Gx.c (by kernel_rfl) fun K hK => ?_
    simp only [XM, XA, XB, gateX, Nat.reduceAdd, Nat.reduceLeDiff, Nat.reduceSub, Nat.reduceMul, ↓reduceIte, Int.reduceToNat, Int.reduceLE, beq_self_eq_true, b1]
    refine hK _ ?_
    first | refine Gx.t rfl ?_ | refine XWP.seq (Gx.t rfl ?_)
    refine XWP.skip ?_
    refine XWP.cut (fun s => ∃ (V3 : View) (H6 : Heap) (sl : Value) (cells : List Value), StIs (fun Z => [.v (.int .i64 (R : Int)), .v (.int .i64 (C : Int)), .v (.func (.func g) #[] lb.toArray), Z 3,Z 4,Z 5, .p 0 0, .p 1 0, Z 8,Z 9,Z 10,Z 11,Z 12, .v (.int .i64 (R : Int)), .v (.int .i64 (i : Int)), Z 15,Z 16,Z 17,Z 18,Z 19,Z 20,Z 21,Z 22,Z 23,Z 24,Z 25,Z 26,Z 27,Z 28,Z 29,Z 30,Z 31,Z 32]) [[.int .i64 0, .int .i64 0, .slice none 0 0], [.int .i64 (R : Int), .int .i64 (C : Int), sl]] H6 V3 s ∧ V2.le V3 ∧ Own H6 27 3 sl ((i + 1) * C) cells ∧ RowAt ratE V3 cells (mk ((i + 1) * C) (flatF G C))) ?_ ?_
    · first | refine XWP.block ?_ | refine XWP.seq (XWP.block ?_)
      first | refine Gx.a (by kernel_rfl) fun K hK => ?_ | refine Gx.b (by kernel_rfl) fun K hK => ?_ | refine Gx.c (by kernel_rfl) fun K hK => ?_
      simp only [XM, XA, XB, gateX, Nat.reduceAdd, Nat.reduceLeDiff, Nat.reduceSub, Nat.reduceMul, ↓reduceIte, Int.reduceToNat, Int.reduceLE, beq_self_eq_true]
      refine hK _ ?_
      first | refine Gx.a (by kernel_rfl) fun K hK => ?_ | refine Gx.b (by kernel_rfl) fun K hK => ?_ | refine Gx.c (by kernel_rfl) fun K hK => ?_
      simp only [XM, XA, XB, gateX, Nat.reduceAdd, Nat.reduceLeDiff, Nat.reduceSub, Nat.reduceMul, ↓reduceIte, Int.reduceToNat, Int.reduceLE, beq_self_eq_true]
      refine hK _ ?_
      clear hK
      first | refine XWP.block ?_ | refine XWP.seq (XWP.block ?_)
      refine XWP.loop (fun r s => ∃ (k : Nat) (V3 : View) (H6 : Heap) (sl : Value) (cells : List Value), StIs (fun Z => [.v (.int .i64 (R : Int)), .v (.int .i64 (C : Int)), .v (.func (.func g) #[] lb.toArray), Z 3,Z 4,Z 5, .p 0 0, .p 1 0, .v (.int .i64 (i : Int)), Z 9,Z 10,Z 11,Z 12, .v (.int .i64 (R : Int)), .v (.int .i64 (i : Int)), Z 15,Z 16, .v (.int .i64 (C : Int)), .v (.int .i64 (k : Int)), Z 19,Z 20,Z 21,Z 22,Z 23,Z 24,Z 25,Z 26,Z 27,Z 28,Z 29,Z 30,Z 31,Z 32]) [[.int .i64 0, .int .i64 0, .slice none 0 0], [.int .i64 (R : Int), .int .i64 (C : Int), sl]] H6 V3 s ∧ r + k = C ∧ V2.le V3 ∧ Own H6 27 3 sl (i * C + k) cells ∧ RowAt ratE V3 cells (mk (i * C + k) (flatF G C))) C ⟨0, V2, _, _, _, StIs.of (by exact rfl), by omega, View.le_refl _, hown, hrow⟩ ?_
      clear hown hrow
      rintro r s ⟨k, V3, H6, sl, cells, hs, hr, hV3, hown, hrow⟩
      obtain ⟨z, rfl⟩ := hs.out
      try dsimp only
      clear hs
      by_cases hk : k < C
      rotate_left
      · obtain rfl : k = C := by omega
        have b2 : decide ((k : Int) < (k : Int)) = false := decide_eq_false (by omega)
        first | refine Gx.a (by kernel_rfl) fun K hK => ?_ | refine Gx.b (by kernel_rfl) fun K hK => ?_ | refine Gx.c (by kernel_rfl) fun K hK => ?_
        simp only [XM, XA, XB, gateX, Nat.reduceAdd, Nat.reduceLeDiff, Nat.reduceSub, Nat.reduceMul, ↓reduceIte, Int.reduceToNat, Int.reduceLE, beq_self_eq_true, b2]
        refine hK _ ?_
        first | refine Gx.f rfl ?_ | refine XWP.seq (Gx.f rfl ?_)
        refine XWP.exit ?_
        have e : (i + 1) * k = i * k + k := by rw [Nat.add_mul, Nat.one_mul]
        exact ⟨V3, H6, sl, cells, StIs.of (by exact rfl), hV3, by rw [e]; exact hown, by rw [e]; exact hrow⟩
      have b2 : decide ((k : Int) < (C : Int)) = true := decide_eq_true (by omega)
      have hp := pos_lt hi hk
      first | refine Gx.a (by kernel_rfl) fun K hK => ?_ | refine Gx.b (by kernel_rfl) fun K hK => ?_ | refine Gx.c (by kernel_rfl) fun K hK => ?_
      simp only [XM, XA, XB, gateX, Nat.reduceAdd, Nat.reduceLeDiff, Nat.reduceSub, Nat.reduceMul, ↓reduceIte, Int.reduceToNat, Int.reduceLE, beq_self_eq_true, b2]
      refine hK _ ?_
      first | refine Gx.t rfl ?_ | refine XWP.seq (Gx.t rfl ?_)
      refine XWP.skip ?_
      refine XWP.seq ?_
      first | refine XWP.block ?_ | refine XWP.seq (XWP.block ?_)
      first | refine Gx.a (by kernel_rfl) fun K hK => ?_ | refine Gx.b (by kernel_rfl) fun K hK => ?_ | refine Gx.c (by kernel_rfl) fun K hK => ?_
      simp only [XM, XA, XB, gateX, Nat.reduceAdd, Nat.reduceLeDiff, Nat.reduceSub, Nat.reduceMul, ↓reduceIte, Int.reduceToNat, Int.reduceLE, beq_self_eq_true]
      refine hK _ ?_
      (first | refine XWP.drw [0, 1, 2, 3, 4, 5, 6, 7, 8, 9] (by kernel_rfl) (by kernel_rfl) (by kernel_rfl) fun K hK => ?_ | refine XWP.seq (XWP.drw [0, 1, 2, 3, 4, 5, 6, 7, 8, 9] (by kernel_rfl) (by kernel_rfl) (by kernel_rfl) fun K hK => ?_) | refine XWP.drw1 [0, 1, 2, 3, 4, 5, 6, 7, 8, 9] (by kernel_rfl) (by kernel_rfl) (by kernel_rfl) fun K hK => ?_) <;> dsimp only [pickOps, List.getElem?_cons_zero, List.getElem?_cons_succ]
      simp only [XM, XA, XB, gateX, Nat.reduceAdd, Nat.reduceLeDiff, Nat.reduceSub, Nat.reduceMul, ↓reduceIte, Int.reduceToNat, Int.reduceLE, beq_self_eq_true, cv_gob]
      refine call_gob (ys := [.int .i64 (i : Int), .int .i64 (k : Int)]) hcl (hf _ i k (View.le_trans hV2 hV3) hi hk) fun v4 V4 hV4 h4 => ?_
      obtain ⟨x4, y4, rfl, o1, o2⟩ := h4.form
      simp only [XM, XA, XB, gateX, Nat.reduceAdd, Nat.reduceLeDiff, Nat.reduceSub, Nat.reduceMul, ↓reduceIte, Int.reduceToNat, Int.reduceLE, beq_self_eq_true]
      refine bs_go (by kernel_rfl) #[(0, .agg #[.bool (ng (G i k)), x4, y4])] (by simp [ev_tmp, SV.val]) (bs_rat elemT_22) fun b3 hb3 hb4 => ?_
      simp only [XM, XA, XB, gateX, Nat.reduceAdd, Nat.reduceLeDiff, Nat.reduceSub, Nat.reduceMul, ↓reduceIte, Int.reduceToNat, Int.reduceLE, beq_self_eq_true]
      refine ap_go elemT_22 (by kernel_rfl) zeroT_27 rfl (by omega) (own_upd hown hb3) (src3 (upd_at _ _ _) rfl o1 o2) (by omega) (by omega) fun v' H' hres => ?_
      simp only [XM, XA, XB, gateX, Nat.reduceAdd, Nat.reduceLeDiff, Nat.reduceSub, Nat.reduceMul, ↓reduceIte, Int.reduceToNat, Int.reduceLE, beq_self_eq_true]
      refine st_one shapeT_22 rfl (own_isOne hres.1) (by simp) ?_
      simp only [XM, XA, XB, gateX, Nat.reduceAdd, Nat.reduceLeDiff, Nat.reduceSub, Nat.reduceMul, ↓reduceIte, Int.reduceToNat, Int.reduceLE, beq_self_eq_true]
      refine hK _ ?_
      have hrow' := (hrow.mono ratE_ok hV4).snoc (show isOne (.bool (ng (G i k))) = true from rfl) o1 o2 h4
      rw [← flatF_at G hk, ← mk_succ (i * C + k) (flatF G C)] at hrow'
      rw [← flatF_at G hk] at hres
      first | refine Gx.a (by kernel_rfl) fun K hK => ?_ | refine Gx.b (by kernel_rfl) fun K hK => ?_ | refine Gx.c (by kernel_rfl) fun K hK => ?_
      simp only [XM, XA, XB, gateX, Nat.reduceAdd, Nat.reduceLeDiff, Nat.reduceSub, Nat.reduceMul, ↓reduceIte, Int.reduceToNat, Int.reduceLE, beq_self_eq_true, i64_succ k (by omega)]
      exact hK _ ⟨r - 1, by omega, k + 1, V4, _, _, _, StIs.of (by exact rfl), by omega, View.le_trans hV3 hV4, by rw [← Nat.add_assoc]; exact hres.1, by rw [← Nat.add_assoc]; exact hrow'⟩
    clear hown hrow
    rintro s ⟨V3, H6, sl, cells, hs, hV3, hown, hrow⟩
    obtain ⟨z, rfl⟩ := hs.out
    try dsimp only
    first | refine Gx.a (by kernel_rfl) fun K hK => ?_ | refine Gx.b (by kernel_rfl) fun K hK => ?_ | refine Gx.c (by kernel_rfl) fun K hK => ?_
    simp only [XM, XA, XB, gateX, Nat.reduceAdd, Nat.reduceLeDiff, Nat.reduceSub, Nat.reduceMul, ↓reduceIte, Int.reduceToNat, Int.reduceLE, beq_self_eq_true, i64_succ i (by omega)]
    exact hK _ ⟨q - 1, by omega, i + 1, V3, _, _, _, StIs.of (by exact rfl), by omega, View.le_trans hV2 hV3, hown, hrow⟩
  rintro s ⟨V2, H5, sl, cells, hs, hown, hrow⟩
  obtain ⟨z, rfl⟩ := hs.out
  try dsimp only
  have osl := own_isOne hown
  first | refine Gx.a (by kernel_rfl) fun K hK => ?_ | refine Gx.b (by kernel_rfl) fun K hK => ?_ | refine Gx.c (by kernel_rfl) fun K hK => ?_
  simp only [XM, XA, XB, gateX, Nat.reduceAdd, Nat.reduceLeDiff, Nat.reduceSub, Nat.reduceMul, ↓reduceIte, Int.reduceToNat, Int.reduceLE, beq_self_eq_true]
  refine st_mat shapeT_37 rfl rfl rfl rfl osl ?_
  simp only [XM, XA, XB, gateX, Nat.reduceAdd, Nat.reduceLeDiff, Nat.reduceSub, Nat.reduceMul, ↓reduceIte, Int.reduceToNat, Int.reduceLE, beq_self_eq_true]
  refine hK _ (XWP.ret ?_)
  try simp only [thenX_ret, inBlockX_ret]
  rcases own_parts hown with ⟨rfl, h0, rfl⟩ | ⟨g, cap, rfl, hg, hle, hcap, hcl⟩
  · refine ret_own _ none (by simp [resAll, resV, cellsV, shapeT_37]; rfl) (fun g' q e => by cases e) ⟨_, [], rfl, ⟨by rw [h0]; rfl, .inl ⟨rfl, h0⟩⟩, hrow⟩
  · refine ret_own _ (some (g, _)) (by simp [resAll, resV, cellsV, shapeT_37]; rfl) (fun g' q e => by cases e; exact hg) ⟨_, cells, rfl, own3 (show upd (fun _ => none) g (some _) g = some _ from upd_at _ _ _) hcl hle (by unfold maxLen at hcap; omega), hrow⟩
end Go.Proofs.Ytkgmicakfmllmaa
end
