/- The composition and every mixture of two kernels leave the posterior invariant, at every input. (part 7 of 13) -/
import Derived.OrdersHeld
import Derived.Below
import Derived.Tactics
import Derived.KernelRfl
import Derived.RangeFuncCalls
import Derived.RangeFuncFrom
import Derived.RangeFuncLeaves
import Derived.OrdersIn
import Derived.Laws.AppendOwn
import Derived.Laws.MakeOwn
import Derived.Laws.CopyRow
import Derived.Laws.Cells
import Derived.Laws.World
import Derived.Laws.Alloc2
import Derived.Laws.NewBlocks
import Derived.Maps.AppendAt
import Derived.Test.YtobjjdnfgamgcaaGreatProg
import Init.Data.List.Lemmas
import Init.Omega
import Derived.WalkKit
import Derived.ProofKit
import Derived.OpenShut
import Derived.ChangeOld
import Derived.SizedLaws
import Derived.ChangeSlices
import Derived.ChangeArms
import Derived.Deep.Slices
import Derived.Test.YtobjjdnfgamgcaaGreatBO6
set_option linter.unusedVariables false
set_option linter.unusedSimpArgs false
section
namespace Go.Proofs.YtobjjdnfgamgcaaGreat
open Go Go.RowKit
def rowS (m b : Nat) : SV → SV
 | .v x => .v x
 | .p j o => if j = m then .v (.pointer (some ⟨b, o, none⟩)) else .p j o
theorem rowS_v (m b : Nat) (x : Value) : rowS m b (.v x) = .v x := rfl
theorem rowS_p (m b j o : Nat) : rowS m b (.p j o) = if j = m then .v (.pointer (some ⟨b, o, none⟩)) else .p j o := rfl
theorem XWP.row1 {Γ : Cx} {P : Program} {c : Code} {Q : Exit → XS → Prop} {t : List SV} {bx : List (List Value)} {vs : List Value} {H : Heap} {V : View}
  (h : ∀ b e, H b = none → V b = none → XWP Γ P c Q ⟨t.map (rowS bx.length b), bx, upd H b (some ⟨e, vs, vs.length⟩), V⟩) : XWP Γ P c Q ⟨t, bx ++ [vs], H, V⟩ := by
 intro bl a w hc
 have hlt : bx.length < (bx ++ [vs]).length := by simp
 obtain ⟨ty, hh⟩ := hc.cw.box bx.length vs (by simp)
 obtain ⟨b1, b2, b3⟩ := hc.cs.bxH bx.length hlt
 refine h (bl bx.length) ty b1 b2 bl a w ⟨?_, hc.df, ⟨fun i us hi => hc.cw.box i us ?_, fun b r hb => ?_, hc.cw.view, hc.cw.below⟩, ⟨fun i j hi hj => hc.cs.inj i j (by dsimp only at hi ⊢; rw [List.length_append]; omega) (by dsimp only at hj ⊢; rw [List.length_append]; omega), fun i hi => ?_, fun b r hb => ?_, hc.cs.V0, hc.cs.frm⟩, fun x hx => ?_⟩
 ·rw [hc.tm, List.map_map]
  congr 1
  refine List.map_congr_left fun x _ => ?_
  cases x with
  | v x => rfl
  | p j o =>
   simp only [Function.comp_apply, rowS]
   split
   ·rename_i e; subst e; rfl
   ·rfl
 ·dsimp only at hi ⊢
  have hl : i < bx.length := (List.getElem?_eq_some_iff.1 hi).1
  rw [List.getElem?_append_left hl]; exact hi
 ·dsimp only at hb
  unfold upd at hb
  split at hb
  ·rename_i e; subst e; cases hb
   exact ⟨[], by simpa using hh, by simp⟩
  ·exact hc.cw.row b r hb
 ·dsimp only at hi
  have hl : i < (bx ++ [vs]).length := by rw [List.length_append]; omega
  have := hc.cs.bxH i hl
  refine ⟨?_, this.2⟩
  dsimp only
  unfold upd
  rw [if_neg (fun e => by have := hc.cs.inj i bx.length hl hlt e; omega)]; exact this.1
 ·dsimp only at hb
  unfold upd at hb
  split at hb
  ·rename_i e; subst e; exact ⟨b2, b3⟩
  ·exact hc.cs.HV b r hb
 ·obtain ⟨y, hy, rfl⟩ := List.mem_map.1 hx
  have := hc.ok y hy
  cases y with
  | v x => trivial
  | p j o =>
   have hj : j < (bx ++ [vs]).length := this
   show SV.ok _ (if j = bx.length then SV.v _ else .p j o)
   split
   ·trivial
   ·rename_i hne
    show j < bx.length
    rw [List.length_append] at hj
    simp only [List.length_cons, List.length_nil] at hj
    omega
def IterX (P : Program) (gf : Nat) (lb : Array Value) (V : View) (L : List (Array Value)) : Prop :=
 ∀ (l : Nat) (J : Nat → World → Prop) (Jx : World → Prop) (W : World), J 0 W → (∀ r W1, J r W1 → V.sub W1) → (∀ W1, Jx W1 → V.sub W1) →
  (∀ r W1 args, L[r]? = some args → J r W1 → YieldAt Fence.wide 0 P l args W1 fun e W' => (e = .returned (.bool true) ∧ J (r + 1) W') ∨ (e = .returned (.bool false) ∧ Jx W')) →
  CallsIn Fence.wide 0 P gf (#[.func (.yield l) #[] #[]] ++ lb) W fun e W' => (∃ v, e = .returned v) ∧ (J L.length W' ∨ Jx W')
def setPs : List Tmp → List Value → List SV → List SV
 | p :: ps, v :: vs, t => setPs ps vs (t.set p (.v v))
 | _, _, t => t
theorem setPs_conc {bl : Nat → Nat} : ∀ (ps : List Tmp) (vs : List Value) (t : List SV), (ps.zip vs).foldl (fun (t : Array Value) (q : Tmp × Value) => t.setIfInBounds q.1 q.2) (t.map (SV.conc bl)).toArray = ((setPs ps vs t).map (SV.conc bl)).toArray
 | [], _, t => by simp [setPs]
 | _ :: _, [], t => by simp [setPs]
 | p :: ps, v :: vs, t => by
  simp only [List.zip_cons_cons, List.foldl_cons, setPs]
  rw [← setPs_conc ps vs (t.set p (.v v))]
  congr 1
  simp [List.map_set, SV.conc]
theorem setPs_ok {n : Nat} : ∀ (ps : List Tmp) (vs : List Value) (t : List SV), (∀ x ∈ t, x.ok n) → ∀ x ∈ setPs ps vs t, x.ok n
 | [], _, t, h => by simpa [setPs] using h
 | _ :: _, [], t, h => by simpa [setPs] using h
 | p :: ps, v :: vs, t, h => by
  simp only [setPs]
  refine setPs_ok ps vs _ fun x hx => ?_
  rcases List.mem_or_eq_of_mem_set hx with h1 | rfl
  ·exact h x h1
  ·trivial
def roundQ (I : Heap → View → Prop) (Ix : Heap → View → Prop) : Exit → XS → Prop
 | .normal, s => I s.H s.V
 | .ret, s => Ix s.H s.V
 | _, _ => False
theorem CW.nobox {Γ : Cx} {bl bl' : Nat → Nat} {bx : List (List Value)} {H : Heap} {V : View} {w : World} (h : CW Γ bl bx H V w) : CW Γ bl' [] H V w := ⟨fun i vs hi => by simp at hi, h.row, h.view, h.below⟩
theorem CS.nobox {Γ : Cx} {bl bl' : Nat → Nat} {bx : List (List Value)} {H : Heap} {V : View} (h : CS Γ bl bx H V) : CS Γ bl' [] H V := ⟨fun i j hi => by simp at hi, fun i hi => by simp at hi, h.HV, h.V0, h.frm⟩
theorem CW.cx {Γ Γ' : Cx} {bl : Nat → Nat} {bx : List (List Value)} {H : Heap} {V : View} {w : World} (h : CW Γ bl bx H V w) (e : Γ'.w0 = Γ.w0) : CW Γ' bl bx H V w := ⟨h.box, h.row, h.view, by rw [e]; exact h.below⟩
theorem CS.cx {Γ Γ' : Cx} {bl : Nat → Nat} {bx : List (List Value)} {H : Heap} {V : View} (h : CS Γ bl bx H V) (e : Γ'.w0 = Γ.w0) (e' : Γ'.V0 = Γ.V0) : CS Γ' bl bx H V := ⟨h.inj, fun i hi => by rw [e]; exact h.bxH i hi, fun b r hb => by rw [e]; exact h.HV b r hb, by rw [e']; exact h.V0, by rw [e, e']; exact h.frm⟩
theorem wpIn_any {Γ : Cx} {P : Program} {c : Code} {Q : Exit → Act → World → Prop} {a : Act} {w : World} {n m : Nat} (h : c.wpIn Γ.F n P Q a w) : c.wpIn Γ.F m P Q a w := fun b k cs hro hb _ => h b k cs hro hb (Γ.room _)
theorem others_put {w w1 : World} {l : Nat} (h : KeepsOthers w1 w) (hl : w1.heap.size ≤ l) (o : Obj) : KeepsOthers w1 (w.putObj l o) :=
 ⟨by rw [World.putObj_size]; exact h.size, fun k ob hk ho => by
  have := (Array.getElem?_eq_some_iff.1 hk).1
  rw [World.putObj_heap_other (by omega)]; exact h.same k ob hk ho⟩
theorem CW.allocO {Γ : Cx} {bl : Nat → Nat} {H : Heap} {V : View} {w : World} (h : CW Γ bl [] H V w) (o : Obj) : CW Γ bl [] H V (w.alloc o) :=
 ⟨fun i vs hi => by simp at hi, fun b r hb => by
  obtain ⟨ex, hh, hl⟩ := h.row b r hb
  exact ⟨ex, by rw [Below.heap_alloc w _ _ (h.lt_row hb)]; exact hh, hl⟩, view_alloc h.view _, h.below.alloc h.below.size _⟩
theorem mk_turn {Γ Γ' : Cx} {a : Act} {w : World} {l : Nat} {o o' : Obj} (h : Mk Γ a w) (hl : w.heap[l]? = some o) (ho : ∀ d, o ≠ .deferred d) (e0 : Γ'.w0 = Γ.w0) (e1 : Γ'.w1 = w.putObj l o') (e2 : ∃ r, Γ'.rd = some r) : Mk Γ' a (w.putObj l o') := by
 obtain ⟨⟨ms, h1, h2, h3⟩, _⟩ := h
 obtain ⟨r2, e2⟩ := e2
 refine ⟨⟨ms, h1, h2, fun D hD => ⟨by unfold Cx.base; rw [e2]; dsimp only; rw [e0]; exact Nat.le_trans (Cx.base_ge _) (h3 D hD).1, ?_⟩⟩, by rw [e1]; exact KeepsOthers.refl _⟩
 refine (World.putObj_heap_other (fun e => ?_)).trans (h3 D hD).2
 have := (h3 D hD).2
 rw [e, hl] at this
 cases this; exact ho _ rfl
theorem XWP.range {Γ : Cx} {P : Program} (hΓ : Γ.Plain) {g : Operand} {ps : Array Tmp} {assign body : Code} {Q : Exit → XS → Prop} {t : List SV} {H : Heap} {V : View} {gf : Nat} {lb : Array Value} {L : List (Array Value)} {I : Nat → Heap → View → Prop} {Ix : Heap → View → Prop}
  (hg : (⟨t, [], H, V⟩ : XS).ev g = .v (.func (.func gf) #[] lb)) (hcall : callable P gf = true) (hps : ∀ args ∈ L, args.size = ps.size) (it : IterX P gf lb V L) (h0 : I 0 H V) (hle : ∀ r H' V', I r H' V' → V.le V') (hleX : ∀ H' V', Ix H' V' → V.le V')
  (hr : ∀ (Γ' : Cx) (r : Nat) (args : Array Value) (H' : Heap) (V' : View), L[r]? = some args → I r H' V' → XWP Γ' P assign (fun e s1 => match e with | .normal => ∀ Γ'' : Cx, XWP Γ'' P body (roundQ (I (r + 1)) Ix) s1 | _ => False) ⟨setPs ps.toList args.toList t, [], H', V'⟩)
  (hdone : ∀ H' V', I L.length H' V' → Q .normal ⟨t, [], H', V'⟩) (hstop : ∀ H' V', Ix H' V' → Q .ret ⟨t, [], H', V'⟩) : XWP Γ P (.rangeFunc g ps assign body) Q ⟨t, [], H, V⟩ := by
 intro bl a w hC
 obtain ⟨⟨ms, m1, m2, m3⟩, m4⟩ := hC.df
 have eF : Γ.F = Fence.wide := by unfold Cx.F; rw [hΓ.1]; rfl
 have hev : a.eval g = .func (.func gf) #[] lb := by rw [hC.ev, hg]; rfl
 have hok : ∀ x ∈ t, x.ok 0 := hC.ok
 have htm : a.tmps = (t.map (SV.conc bl)).toArray := hC.tm
 refine wpIn_any (n := 1) (wpIn_rangeFunc fun fn _ => ?_)
 obtain ⟨rec, hrec⟩ : ∃ rec : LoopState → Option Code → Loop, rec = fun st pe => { state := st, pending := pe, fn, tmps := a.tmps, params := ps, assign, body, defers := w.heap.size } := ⟨_, rfl⟩
 obtain ⟨W1, hW1⟩ : ∃ W1, (w.alloc (.deferred (some []))).alloc (.loop (rec .ready none)) = W1 := ⟨_, rfl⟩
 have hL1 : W1.heap[w.heap.size + 1]? = some (.loop (rec .ready none)) := by
  rw [← hW1]; have := World.alloc_heap_new (w.alloc (.deferred (some []))) (.loop (rec .ready none)); rwa [World.size_alloc] at this
 have hK1 : W1.heap[w.heap.size]? = some (.deferred (some [])) := by
  rw [← hW1]; exact (Below.heap_alloc _ _ _ (by simp)).trans (World.alloc_heap_new w _)
 have hcw1 : CW Γ bl [] H V W1 := by rw [← hW1]; exact (CW.allocO hC.cw _).allocO _
 have hko1 : KeepsOthers w W1 := by rw [← hW1]; exact (KeepsOthers.alloc _ _).trans (KeepsOthers.alloc _ _)
 have hws : Γ.w0.heap.size ≤ w.heap.size := hC.cw.below.size
 have hw1s : Γ.w1.heap.size ≤ w.heap.size := m4.size
 have hmlt : ∀ E ∈ ms, E < w.heap.size := fun E hE => (Array.getElem?_eq_some_iff.1 (m3 E hE).2).1
 refine ⟨w.heap.size + 1, [{ target := .collected w.heap.size, args := #[] }], W1, { target := .fn (.func gf) lb, args := #[.func (.yield (w.heap.size + 1)) #[] #[]] }, W1, gf, #[.func (.yield (w.heap.size + 1)) #[] #[]] ++ lb, W1, ?_, ?_, fun _ _ => trivial, ?_, fun _ => Nat.le_refl _, ?_⟩
 ·show (Instr.enterLoop fn a.tmps ps assign body Γ.rd).run P w = _
  rw [hΓ.1, ← hW1, hrec]; exact run_enterLoop_outer _ _ _ _ _
 ·simp only [resolve, hev]
  simp [go_sem]
 ·unfold callable at hcall
  cases hf : P.funcs[gf]? with
  | none => simp [hf] at hcall
  | some fn =>
   simp [hf] at hcall
   have hb : fn.body ≠ none := fun hn => by simp [hn] at hcall
   simp [invoke, callFunc, hf, hcall.1, hb]
 rw [eF]
 have keepE : ∀ {A B : World}, (∀ E ∈ ms, A.heap[E]? = some (.deferred (some []))) → KeepsOthers A B → ∀ E ∈ ms, B.heap[E]? = some (.deferred (some [])) := fun h k E hE => k.same E _ (h E hE) rfl
 have putE : ∀ {A : World} (o : Obj), (∀ E ∈ ms, A.heap[E]? = some (.deferred (some []))) → ∀ E ∈ ms, (A.putObj (w.heap.size + 1) o).heap[E]? = some (.deferred (some [])) := fun o h E hE =>
  (World.putObj_heap_other (by have := hmlt E hE; omega)).trans (h E hE)
 have fini : ∀ (A : World) (H' : Heap) (V' : View), CW Γ bl [] H' V' A → CS Γ bl [] H' V' → (∀ E ∈ ms, A.heap[E]? = some (.deferred (some []))) → KeepsOthers Γ.w1 A → A.heap[w.heap.size]? = some (.deferred (some [])) →
   Conc Γ bl ⟨t, [], H', V'⟩ { a with defers := { target := .collected w.heap.size, args := #[] } :: a.defers } A := fun A H' V' c1 c2 c3 c4 c5 =>
  ⟨htm, ⟨⟨w.heap.size :: ms, by simp [m1], List.nodup_cons.2 ⟨fun h => by have := hmlt _ h; omega, m2⟩, fun D hD => by
   rcases List.mem_cons.1 hD with rfl | h
   ·exact ⟨Cx.base_le _ hws hw1s, c5⟩
   ·exact ⟨(m3 D h).1, c3 D h⟩⟩, c4⟩, c1, c2, hok⟩
 refine (it (w.heap.size + 1)
  (fun r W => ∃ H' V', I r H' V' ∧ CW Γ bl [] H' V' W ∧ CS Γ bl [] H' V' ∧ (∀ E ∈ ms, W.heap[E]? = some (.deferred (some []))) ∧ KeepsOthers Γ.w1 W ∧ W.heap[w.heap.size + 1]? = some (.loop (rec .ready none)) ∧ W.heap[w.heap.size]? = some (.deferred (some [])))
  (fun W => ∃ H' V', Ix H' V' ∧ CW Γ bl [] H' V' W ∧ CS Γ bl [] H' V' ∧ (∀ E ∈ ms, W.heap[E]? = some (.deferred (some []))) ∧ KeepsOthers Γ.w1 W ∧ W.heap[w.heap.size + 1]? = some (.loop (rec .done (some .ret))) ∧ W.heap[w.heap.size]? = some (.deferred (some [])))
  W1 ⟨H, V, h0, hcw1, hC.cs.nobox, keepE (fun E hE => (m3 E hE).2) hko1, m4.trans hko1, hL1, hK1⟩ (fun r W ⟨H', V', hI, cw, _⟩ k o hk => cw.view k o (hle r H' V' hI k o hk)) (fun W ⟨H', V', hI, cw, _⟩ k o hk => cw.view k o (hleX H' V' hI k o hk)) ?_).mono ?_
 ·rintro r W args hLr ⟨H', V', hI, cw, cs, me, ko, hl, hk⟩
  have hsz : args.size = ps.size := hps args (List.mem_of_getElem? hLr)
  have hy := run_yield (P := P) (args := args) hl (by rw [hrec]; exact hsz)
  refine ⟨fn, _, assign, body, by rw [hy, hrec], roundIn_of_wpIn trivial ?_⟩
  have hx := hr ⟨Γ.w0, Γ.V0, W, some (w.heap.size + 1)⟩ r args H' V' hLr hI bl { tmps := (ps.zip args).foldl (fun tmps (t, a) => tmps.setIfInBounds t a) a.tmps, defers := [] } W
   ⟨by rw [htm, ← setPs_conc, ← Array.foldl_toList, Array.toList_zip], ⟨⟨[], rfl, List.nodup_nil, fun D hD => by simp at hD⟩, KeepsOthers.refl _⟩, cw.cx rfl, cs.cx rfl rfl, setPs_ok _ _ _ hok⟩
  refine wpIn_mono hx ?_
  rintro e a1 Wa ⟨bl1, s1, hC1, hq⟩
  cases e with
  | normal =>
   have hla := hC1.df.2.same _ _ hl rfl
   have hka := hC1.df.2.same _ _ hk rfl
   have hlt : w.heap.size + 1 < Wa.heap.size := (Array.getElem?_eq_some_iff.1 hla).1
   refine ⟨_, run_beginRound hla (by rw [hrec]), ?_⟩
   obtain ⟨W2, hW2⟩ : ∃ W2, W2 = Wa.putObj (w.heap.size + 1) (.loop { rec .ready none with state := .busy }) := ⟨_, rfl⟩
   rw [← hW2]
   have hl2 : W2.heap[w.heap.size + 1]? = some (.loop { rec .ready none with state := .busy }) := by rw [hW2]; exact World.putObj_heap_same hlt
   have hk2 : W2.heap[w.heap.size]? = some (.deferred (some [])) := by rw [hW2]; exact (World.putObj_heap_other (by omega)).trans hka
   have hb := hq ⟨Γ.w0, Γ.V0, W2, some (w.heap.size + 1)⟩ bl1 a1 W2 ⟨hC1.tm, by
    rw [hW2]; exact mk_turn hC1.df hla (fun d h => by cases h) rfl rfl ⟨_, rfl⟩, by
    rw [hW2]; exact (CW.turn (Γ := ⟨Γ.w0, Γ.V0, W, some (w.heap.size + 1)⟩) hΓ.2 hC1.cw hC1.cs hla rfl (Nat.le_trans hws (Nat.le_succ _)) _).cx rfl, hC1.cs.cx rfl rfl, hC1.ok⟩
   refine wpIn_mono hb ?_
   rintro e a3 W3 ⟨bl3, s3, hC3, hq3⟩
   have hl3 := hC3.df.2.same _ _ hl2 rfl
   have hk3 := hC3.df.2.same _ _ hk2 rfl
   have hlt3 : w.heap.size + 1 < W3.heap.size := (Array.getElem?_eq_some_iff.1 hl3).1
   have hend := fun jump : Option Code => run_endRound (P := P) jump hl3
   have me3 : ∀ E ∈ ms, W3.heap[E]? = some (.deferred (some [])) := keepE (by rw [hW2]; exact putE _ (keepE me hC1.df.2)) hC3.df.2
   have ko3 : KeepsOthers Γ.w1 W3 := KeepsOthers.trans (by rw [hW2]; exact others_put (ko.trans hC1.df.2) (by omega) _) hC3.df.2
   have fin4 : ∀ o : Obj, CW Γ bl [] s3.H s3.V (W3.putObj (w.heap.size + 1) o) ∧ CS Γ bl [] s3.H s3.V ∧ (∀ E ∈ ms, (W3.putObj (w.heap.size + 1) o).heap[E]? = some (.deferred (some []))) ∧ KeepsOthers Γ.w1 (W3.putObj (w.heap.size + 1) o) ∧ (W3.putObj (w.heap.size + 1) o).heap[w.heap.size + 1]? = some o ∧ (W3.putObj (w.heap.size + 1) o).heap[w.heap.size]? = some (.deferred (some [])) := fun o => by
    have c0 : CS Γ bl [] s3.H s3.V := (hC3.cs.cx (Γ' := Γ) rfl rfl).nobox
    exact ⟨((hC3.cw.cx (Γ' := Γ) rfl).nobox).turn hΓ.2 c0 hl3 rfl (by omega) o, c0, putE o me3, others_put ko3 (by omega) o, World.putObj_heap_same hlt3, (World.putObj_heap_other (by omega)).trans hk3⟩
   cases e with
   | normal =>
    obtain ⟨f1, f2, f3, f4, f5, f6⟩ := fin4 (.loop (rec .ready none))
    refine ⟨_, _, hend none, .inl ⟨rfl, s3.H, s3.V, hq3, ?_⟩⟩
    rw [hrec] at f1 f3 f4 f5 f6 ⊢
    exact ⟨f1, f2, f3, f4, f5, f6⟩
   | ret =>
    obtain ⟨f1, f2, f3, f4, f5, f6⟩ := fin4 (.loop (rec .done (some .ret)))
    refine ⟨_, _, hend (some .ret), .inr ⟨rfl, s3.H, s3.V, hq3, ?_⟩⟩
    rw [hrec] at f1 f3 f4 f5 f6 ⊢
    exact ⟨f1, f2, f3, f4, f5, f6⟩
   | _ => exact hq3.elim
  | _ => exact hq.elim
 ·rintro e W2 ⟨⟨v, rfl⟩, (⟨H', V', hI, cw, cs, me, ko, hl, hk⟩ | ⟨H', V', hI, cw, cs, me, ko, hl, hk⟩)⟩
  ·have he := run_endLoop (P := P) hl (by rw [hrec]; simp)
   rw [hrec] at he
   refine ⟨none, _, he, ?_⟩
   exact ⟨bl, _, fini _ H' V' (cw.turn hΓ.2 cs hl rfl (by omega) _) cs (putE _ me) (others_put ko (by omega) _) ((World.putObj_heap_other (by omega)).trans hk), hdone H' V' hI⟩
  ·have he := run_endLoop (P := P) hl (by rw [hrec]; simp)
   rw [hrec] at he
   refine ⟨some .ret, _, he, ?_⟩
   exact wpIn_ret ⟨bl, _, fini _ H' V' (cw.turn hΓ.2 cs hl rfl (by omega) _) cs (putE _ me) (others_put ko (by omega) _) ((World.putObj_heap_other (by omega)).trans hk), hstop H' V' hI⟩
theorem XWP.pub {Γ : Cx} {P : Program} {c : Code} {Q : Exit → XS → Prop} {t : List SV} {bx : List (List Value)} {H : Heap} {V : View} (b : Nat) (r : Row) (hr : H b = some r)
  (h : ∀ o, RowObj r o → V.le (addV V b o) → XWP Γ P c Q ⟨t, bx, upd H b none, addV V b o⟩) : XWP Γ P c Q ⟨t, bx, H, V⟩ := by
 intro bl a w hc
 obtain ⟨o, ho, h3, h4, _, h6⟩ := pub_row hc.cw hc.cs hr
 exact h o ho h6 bl a w ⟨hc.tm, hc.df, h3, h4, hc.ok⟩
theorem new_ne {H : Heap} {b g : Nat} {r : Row} (hb : H b = none) (hg : H g = some r) : g ≠ b := fun e => by rw [e, hb] at hg; cases hg
def MPost (P : Program) (rs : List ResultVar) (R : Value → Heap → View → Prop) : Exit → XS → Prop
 | .normal, s | .ret, s => XPub (fun s' => ∃ vs, resAll P s' rs = some vs ∧ R (oneOf vs) s'.H s'.V) s
 | _, _ => False
def MSpec (P : Program) (f : FuncId) (args : List Value) (H : Heap) (V : View) (R : Value → Heap → View → Prop) : Prop :=
 ∃ fn c, P.funcs[f]? = some fn ∧ fn.body = some c ∧ ∀ Γ : Cx, Γ.Plain → XWP Γ P c (MPost P fn.results.toList R) ⟨args.map .v ++ List.replicate (fn.ntmps - args.length) (.v undef), [], H, V⟩
theorem MPost_ret {P : Program} {rs : List ResultVar} {R : Value → Heap → View → Prop} {s : XS} : MPost P rs R .ret s = XPub (fun s' => ∃ vs, resAll P s' rs = some vs ∧ R (oneOf vs) s'.H s'.V) s := rfl
theorem MPost_normal {P : Program} {rs : List ResultVar} {R : Value → Heap → View → Prop} {s : XS} : MPost P rs R .normal s = XPub (fun s' => ∃ vs, resAll P s' rs = some vs ∧ R (oneOf vs) s'.H s'.V) s := rfl
theorem MPost.mono {P : Program} {rs : List ResultVar} {R R' : Value → Heap → View → Prop} (hr : ∀ v H V, R v H V → R' v H V) {e : Exit} {s : XS} (h : MPost P rs R e s) : MPost P rs R' e s := by
 cases e with
 | normal => rw [MPost_normal] at h ⊢; exact XPub.mono h fun s' ⟨vs, h1, h2⟩ => ⟨vs, h1, hr _ _ _ h2⟩
 | ret => rw [MPost_ret] at h ⊢; exact XPub.mono h fun s' ⟨vs, h1, h2⟩ => ⟨vs, h1, hr _ _ _ h2⟩
 | _ => exact h
theorem MSpec.mono {P : Program} {f : FuncId} {args : List Value} {H : Heap} {V : View} {R R' : Value → Heap → View → Prop} (h : MSpec P f args H V R) (hr : ∀ v H V, R v H V → R' v H V) : MSpec P f args H V R' := by
 obtain ⟨fn, c, h1, h2, h3⟩ := h
 exact ⟨fn, c, h1, h2, fun Γ hΓ => (h3 Γ hΓ).mono fun e s h => h.mono hr⟩
theorem MSpec.enter {P : Program} {f : FuncId} {fn : Func} {c : Code} {args : List Value} {H : Heap} {V : View} {R : Value → Heap → View → Prop} (hf : P.funcs[f]? = some fn) (hb : fn.body = some c)
  (h : ∀ Γ : Cx, Γ.Plain → XWP Γ P c (MPost P fn.results.toList R) ⟨args.map .v ++ List.replicate (fn.ntmps - args.length) (.v undef), [], H, V⟩) : MSpec P f args H V R := ⟨fn, c, hf, hb, h⟩
theorem retM_go {P : Program} {rs : List ResultVar} {R : Value → Heap → View → Prop} {s : XS} (vs : List Value) (h : resAll P s rs = some vs) (hR : R (oneOf vs) s.H s.V) : MPost P rs R .ret s := by rw [MPost_ret]; exact XPub.now ⟨vs, h, hR⟩
theorem leave_marksK {Γ : Cx} {P : Program} {bl : Nat → Nat} {bx : List (List Value)} {H : Heap} {V : View} (hV0 : Γ.V0.sub Γ.w0) (W0 : World) {fn : Func} {R : Ending → World → Prop} {tmps : Array Value} (hs : CS Γ bl bx H V) : ∀ (ms : List Nat) (w : World), CW Γ bl bx H V w → KeepsOthers W0 w → ms.Nodup → (∀ D ∈ ms, (Γ.w0.heap.size ≤ D ∧ W0.heap.size ≤ D) ∧ w.heap[D]? = some (.deferred (some []))) →
  (∀ w', CW Γ bl bx H V w' → KeepsOthers W0 w' → ∃ v, (results fn tmps).run P w' = .ok v w' ∧ R (.returned v) w') → LeavesInM Fence.wide 0 P fn tmps R (ms.map fun D => { target := .collected D, args := #[] }) .returning w
 | [], w, h, ho, _, _, k => k w h ho
 | D :: ms, w, h, ho, hn, hD, k => by
  obtain ⟨⟨h1, h1'⟩, h2⟩ := hD D (by simp)
  obtain ⟨n1, n2⟩ := List.nodup_cons.1 hn
  refine ⟨by simp, .inl ⟨D, _, rfl, run_takeDeferred h2, leave_marksK hV0 W0 hs ms _ (h.turn hV0 hs h2 rfl h1 _) (others_put ho h1' _) n2 (fun E hE => ?_) k⟩⟩
  obtain ⟨h3, h4⟩ := hD E (by simp [hE])
  exact ⟨h3, (World.putObj_heap_other (fun e => n1 (by rw [← e]; exact hE))).trans h4⟩
theorem MSpec.calls {P : Program} {f : FuncId} {args : List Value} {H : Heap} {V : View} {R : Value → Heap → View → Prop} (h : MSpec P f args H V R) {Γ : Cx} (hV0 : Γ.V0.sub Γ.w0) {bl : Nat → Nat} {w : World} (hw : CW Γ bl [] H V w) (hs : CS Γ bl [] H V) :
  Calls P f args.toArray w fun e w' => ∃ v H' V', e = .returned v ∧ CW Γ bl [] H' V' w' ∧ CS Γ bl [] H' V' ∧ KeepsOthers w w' ∧ R v H' V' := by
 obtain ⟨fn, c, hf, hb, h⟩ := h
 refine (callsIn_wide (n := 0)).1 (callsIn_of_wp_marks hf hb trivial ?_)
 have hc : Conc ⟨Γ.w0, Γ.V0, w, none⟩ bl ⟨args.map .v ++ List.replicate (fn.ntmps - args.length) (.v undef), [], H, V⟩ { tmps := args.toArray ++ Array.replicate (fn.ntmps - args.toArray.size) undef, defers := [] } w := by
  refine ⟨?_, ⟨⟨[], rfl, List.nodup_nil, fun D hD => by simp at hD⟩, KeepsOthers.refl _⟩, hw.cx rfl, hs.cx rfl rfl, fun x hx => ?_⟩
  ·have e1 : (SV.conc bl) ∘ SV.v = id := rfl
   have e2 : (SV.conc bl (SV.v undef)) = undef := rfl
   simp [List.map_append, List.map_map, List.map_replicate, e1, e2]
  ·simp only [List.mem_append, List.mem_map, List.mem_replicate] at hx
   rcases hx with ⟨_, _, rfl⟩ | ⟨_, rfl⟩ <;> trivial
 refine wpIn_mono (h ⟨Γ.w0, Γ.V0, w, none⟩ ⟨rfl, hV0⟩ bl _ w hc) ?_
 have fin : ∀ bl1 s a w', Conc ⟨Γ.w0, Γ.V0, w, none⟩ bl1 s a w' → MPost P fn.results.toList R .ret s → LeavesInM Fence.wide 0 P fn a.tmps (fun e w' => ∃ v H' V', e = .returned v ∧ CW Γ bl [] H' V' w' ∧ CS Γ bl [] H' V' ∧ KeepsOthers w w' ∧ R v H' V') a.defers .returning w' := by
  intro bl1 s a w' hC hR
  obtain ⟨H', V', h1, h2, _, _, vs, hvs, hR⟩ := hR ⟨Γ.w0, Γ.V0, w, none⟩ bl1 w' hC.cw hC.cs
  obtain ⟨⟨ms, e1, e2, e3⟩, e4⟩ := hC.df
  rw [e1]
  refine leave_marksK (Γ := ⟨Γ.w0, Γ.V0, w, none⟩) hV0 w h2 ms w' h1 e4 e2 (fun D hD => ⟨⟨Nat.le_trans (Cx.base_ge _) (e3 D hD).1, Nat.le_trans (Cx.base_w1 ⟨Γ.w0, Γ.V0, w, none⟩ rfl) (e3 D hD).1⟩, (e3 D hD).2⟩) fun w'' h3 h4 => ⟨_, ?_, _, H', V', rfl, (h3.cx (Γ' := Γ) rfl).nobox, (h2.cx (Γ' := Γ) rfl rfl).nobox, h4, hR⟩
  exact results_run (Γ := ⟨Γ.w0, Γ.V0, w, none⟩) (a := { tmps := a.tmps, defers := [] }) (s := ⟨s.t, s.bx, H', V'⟩) ⟨hC.tm, ⟨⟨[], rfl, List.nodup_nil, fun D hD => by simp at hD⟩, h4⟩, h3, h2, hC.ok⟩ vs hvs
 rintro e a w' ⟨bl1, s, hC, hq⟩
 cases e with
 | normal => exact fin bl1 s a w' hC hq
 | ret => exact fin bl1 s a w' hC hq
 | _ => exact hq.elim
section
variable {Γ : Cx} {P : Program} {ops : Array Oper} {Q : Exit → XS → Prop}
theorem seqX_ops (rest : List Nat) : ∀ (l : List Oper) (k : Nat) (K : XS → Prop), (∀ i o, l[i]? = some o → ops[k + i]? = some o) → ∀ bl s a w, Conc Γ bl s a w → guardsIn ops s.t.length = true → seqX P ops l K s →
  (∀ bl s a w, Conc Γ bl s a w → guardsIn ops s.t.length = true → K s → wpOps P ops (XQ Γ (onlyN Q)) rest a w) → wpOps P ops (XQ Γ (onlyN Q)) (List.range' k l.length ++ rest) a w
 | [], k, K, _, bl, s, a, w, hc, hg, h, hk => by simpa using hk bl s a w hc hg h
 | o :: l, k, K, hi, bl, s, a, w, hc, hg, h, hk => by
  have ho : ops[k]? = some o := by simpa using hi 0 o (by simp)
  simp only [List.length_cons, List.range'_succ, List.cons_append]
  rw [wpOps_cons]
  refine wpOp_mono ?_ (wpOp_size hc.len (stepX_wp ho (guardsIn_spec hg ho) hc h (XQ Γ (onlyN Q))))
  rintro a' w' ⟨hsz, bl', s', hc', _, hk'⟩
  refine seqX_ops rest l (k + 1) K (fun i o' h' => ?_) bl' s' a' w' hc' (by rw [← hc'.len, hsz]; exact hg) hk' hk
  have := hi (i + 1) o' (by simpa using h')
  rw [show k + 1 + i = k + (i + 1) by omega]; exact this
end
end Go.Proofs.YtobjjdnfgamgcaaGreat
end
section
namespace Go.Proofs.YtobjjdnfgamgcaaGreat
open Go Go.RowKit
attribute [local irreducible] XWP Spec SpecO XPub XCall seqX clX apX stX ldX iaX slX
section
variable {α : Type} {E : El α}
end
end Go.Proofs.YtobjjdnfgamgcaaGreat
end
section
namespace Go.Proofs.YtobjjdnfgamgcaaGreat

theorem Sm_nonneg {f : Nat → Rat} (n : Nat) (h : ∀ j, j < n → 0 ≤ f j) : 0 ≤ Sm f n := by
 induction n with
 | zero => exact Rat.le_refl
 | succ n ih => simp only [Sm]; have h1 := ih fun j hj => h j (by omega); have h2 := h n (by omega); grind
theorem Sm_le {f g : Nat → Rat} (n : Nat) (h : ∀ j, j < n → f j ≤ g j) : Sm f n ≤ Sm g n := by
 induction n with
 | zero => exact Rat.le_refl
 | succ n ih => simp only [Sm]; have h1 := ih fun j hj => h j (by omega); have h2 := h n (by omega); grind
theorem Sm_swap (f : Nat → Nat → Rat) (n m : Nat) : Sm (fun i => Sm (f i) m) n = Sm (fun j => Sm (fun i => f i j) n) m := by
 induction n with
 | zero => simp only [Sm]; exact (Sm_zero m fun j _ => rfl).symm
 | succ n ih => simp only [Sm, ih, Sm_add]
structure StoG (Q : Grid) (n : Nat) : Prop where
 nn : ∀ i k, i < n → k < n → 0 ≤ Q i k
 one : ∀ i, i < n → Sm (Q i) n = 1

end Go.Proofs.YtobjjdnfgamgcaaGreat
end
section
namespace Go.Proofs.YtobjjdnfgamgcaaGreat
open Go Go.RowKit
attribute [local irreducible] XWP Spec SpecO XPub XCall seqX clX apX stX ldX iaX slX
def flatF (G : Grid) (C : Nat) (p : Nat) : Rat := G (p / C) (p % C)
def flatG (G : Grid) (R C : Nat) : List Rat := mk (R * C) (flatF G C)
theorem flatF_at (G : Grid) {C i k : Nat} (hk : k < C) : flatF G C (i * C + k) = G i k := by
 unfold flatF
 have e1 : (i * C + k) / C = i := by rw [Nat.mul_comm, Nat.mul_add_div (by omega), Nat.div_eq_of_lt hk, Nat.add_zero]
 have e2 : (i * C + k) % C = k := by rw [Nat.mul_comm, Nat.mul_add_mod, Nat.mod_eq_of_lt hk]
 rw [e1, e2]
theorem flatG_len (G : Grid) (R C : Nat) : (flatG G R C).length = R * C := mk_len _ _
theorem pos_lt {R C i k : Nat} (hi : i < R) (hk : k < C) : i * C + k < R * C := by
 have := Nat.mul_le_mul_right C (show i + 1 ≤ R by omega)
 rw [Nat.add_mul, Nat.one_mul] at this; omega
theorem flatG_at (G : Grid) {R C i k : Nat} (hi : i < R) (hk : k < C) : cf (flatG G R C) (i * C + k) = G i k := by
 unfold flatG
 rw [cf_mk, if_pos (pos_lt hi hk), flatF_at G hk]
theorem flatG_congr {G G' : Grid} {R C : Nat} (h : ∀ i k, i < R → k < C → G i k = G' i k) : flatG G R C = flatG G' R C := by
 unfold flatG
 refine mk_eq fun p hp => ?_
 have hC : 0 < C := by
  rcases Nat.eq_zero_or_pos C with e | e
  ·rw [e, Nat.mul_zero] at hp; omega
  ·exact e
 exact h _ _ (by rw [Nat.div_lt_iff_lt_mul hC]; exact hp) (Nat.mod_lt _ hC)
def gridL (l : List Rat) (C : Nat) : Grid := fun i k => cf l (i * C + k)
theorem flatG_gridL {l : List Rat} {R C : Nat} (h : l.length = R * C) : flatG (gridL l C) R C = l := by
 refine List.ext_getElem (by rw [flatG_len, h]) fun p h1 h2 => ?_
 rw [cf_get h1, cf_get h2]
 have hC : 0 < C := by
  rcases Nat.eq_zero_or_pos C with e | e
  ·rw [e, Nat.mul_zero] at h; omega
  ·exact e
 unfold flatG
 rw [cf_mk, if_pos (by omega)]
 unfold flatF gridL
 rw [Nat.mul_comm, Nat.div_add_mod]
section
variable {Γ : Cx} {P : Program} {Q : Exit → XS → Prop} {t : List SV} {bx : List (List Value)} {H : Heap} {V : View}
theorem XWP.pubR {α : Type} {E : El α} (hE : ElOk E) {c : Code} {e n : Nat} {v : Value} {cells : List Value} {l : List α} (hown : Own H e 3 v n cells) (hrow : RowAt E V cells l) (h : ∀ H' V', V.le V' → SlAt E V' v l → (∀ k, v.ownBlock ≠ some k → H' k = H k) → XWP Γ P c Q ⟨t, bx, H', V'⟩) : XWP Γ P c Q ⟨t, bx, H, V⟩ := by
 have h1 := hown.1
 have h2 := hrow.1
 have hl : l.length = n := by omega
 rcases own_parts hown with ⟨rfl, h0, _⟩ | ⟨g, cap, rfl, hg, hle, hcap, _⟩
 ·refine h H V (View.le_refl _) ?_ fun _ _ => rfl
  rw [List.length_eq_zero_iff.1 (show l.length = 0 by omega)]; exact SlAt.nil V
 ·refine XWP.pub g _ hg fun o ho hle' => h _ _ hle' (hrow.pub hE ho hle' hl hle (by unfold maxLen at hcap; omega)) fun k hk => ?_
  unfold upd
  rw [if_neg fun e => hk (by rw [e]; rfl)]
variable {ops : Array Oper} {rest : List Oper} {K : XS → Prop} {s : XS} {d : Option Tmp}
theorem call_gob {f : FuncId} {ys lb : List Value} {R : Value → View → Prop} (hc : callable P f = true) (hs : Spec P f (ys ++ lb) s.V R)
  (h : ∀ v V', s.V.le V' → R v V' → seqX P ops rest K (XS.put ⟨s.t, s.bx, s.H, V'⟩ d (.v v))) : clX P ops rest K s d f (ys.map .v ++ lb.map .v) := by
 have e1 : ((ys.map SV.v ++ lb.map SV.v).all SV.isV) = true := by
  rw [← List.map_append, List.all_map]; exact List.all_eq_true.2 fun _ _ => rfl
 have e2 : (ys.map SV.v ++ lb.map SV.v).map SV.val = ys ++ lb := by
  rw [← List.map_append, List.map_map]; exact List.map_id' _
 exact call_go hc e1 (by rw [e2]; exact hs) h
end
theorem filled_o (V : View) {g : FuncId} {lb : List Value} (R C : Nat) (G : Grid) (hcl : callable Tryz.prog g = true) (hR : R ≤ 1000) (hC : C ≤ 1000)
  (hf : ∀ V' i k, V.le V' → i < R → k < C → Spec Tryz.prog g ([.int .i64 (i : Int), .int .i64 (k : Int)] ++ lb) V' fun v' V'' => RatC V'' v' (G i k)) :
  SpecO Tryz.prog 99 [.int .i64 (R : Int), .int .i64 (C : Int), .func (.func g) #[] lb.toArray] V fun v' V' o => ∃ sl cells, v' = .agg #[.int .i64 (R : Int), .int .i64 (C : Int), sl] ∧ Own (addRow (fun _ => none) o) 49 3 sl (R * C) cells ∧ RowAt ratE V' cells (flatG G R C) := by
 have hRC : R * C ≤ 1000000 := Nat.le_trans (Nat.mul_le_mul hR hC) (by decide)
 refine (SpecO.enter Tryz.func99 rfl fun Γ => ?_)
 simp only [Tryz.ntmps99, List.map_cons, List.map_nil, List.length_cons, List.length_nil, Nat.reduceAdd, Nat.reduceSub, List.replicate_succ, List.replicate_zero, List.cons_append, List.nil_append]
 refine Gx.a (by kernel_rfl) fun K hK => ?_
 simp only [XM, XA]
 refine hK _ ?_
 refine Gx.a (by kernel_rfl) fun K hK => ?_
 simp only [XA]
 refine bd_go (by kernel_rfl) #[(0, .int .i64 (R : Int)), (1, .int .i64 (C : Int))] (by simp [ev_tmp, SV.val]) (bd_mtx2 rfl rfl) ?_
 simp only [XM, XA]
 refine st_mat shapeT_26 rfl rfl rfl rfl rfl ?_
 simp only [XA]
 refine hK _ ?_
 clear hK
 refine XWP.cut (fun s => ∃ (V2 : View) (H5 : Heap) (sl : Value) (cells : List Value), StIs (fun Z => [Z 0,Z 1,Z 2,Z 3,Z 4,Z 5, .p 0 0, .p 1 0, Z 8,Z 9,Z 10,Z 11,Z 12,Z 13,Z 14,Z 15,Z 16,Z 17,Z 18,Z 19,Z 20,Z 21,Z 22,Z 23,Z 24,Z 25,Z 26,Z 27,Z 28,Z 29,Z 30,Z 31,Z 32]) [[.int .i64 0, .int .i64 0, .slice none 0 0], [.int .i64 (R : Int), .int .i64 (C : Int), sl]] H5 V2 s ∧ Own H5 49 3 sl (R * C) cells ∧ RowAt ratE V2 cells (flatG G R C)) ?_ ?_
 ·refine Gx.a (by kernel_rfl) fun K hK => ?_
  simp only [XA]
  refine hK _ ?_
  clear hK
  refine XWP.block ?_
  refine XWP.loop (fun q s => ∃ (i : Nat) (V2 : View) (H5 : Heap) (sl : Value) (cells : List Value), StIs (fun Z => [.v (.int .i64 (R : Int)), .v (.int .i64 (C : Int)), .v (.func (.func g) #[] lb.toArray), Z 3,Z 4,Z 5, .p 0 0, .p 1 0, Z 8,Z 9,Z 10,Z 11,Z 12, .v (.int .i64 (R : Int)), .v (.int .i64 (i : Int)), Z 15,Z 16,Z 17,Z 18,Z 19,Z 20,Z 21,Z 22,Z 23,Z 24,Z 25,Z 26,Z 27,Z 28,Z 29,Z 30,Z 31,Z 32]) [[.int .i64 0, .int .i64 0, .slice none 0 0], [.int .i64 (R : Int), .int .i64 (C : Int), sl]] H5 V2 s ∧ q + i = R ∧ V.le V2 ∧ Own H5 49 3 sl (i * C) cells ∧ RowAt ratE V2 cells (mk (i * C) (flatF G C))) R ⟨0, V, _, _, [], StIs.of (by exact rfl), by omega, View.le_refl _, by rw [Nat.zero_mul]; exact own_nil, by rw [Nat.zero_mul]; exact RowAt.nil _⟩ ?_
  rintro q s ⟨i, V2, H5, sl, cells, hs, hq, hV2, hown, hrow⟩
  obtain ⟨z, rfl⟩ := hs.out
  try dsimp only
  clear hs
  by_cases hi : i < R
  rotate_left
  ·obtain rfl : i = R := by omega
   have b1 : decide ((i : Int) < (i : Int)) = false := decide_eq_false (by omega)
   refine Gx.a (by kernel_rfl) fun K hK => ?_
   simp only [XA, XB, b1]
   refine hK _ ?_
   refine XWP.seq (Gx.f rfl ?_)
   refine XWP.exit ?_
   exact ⟨V2, H5, sl, cells, StIs.of (by exact rfl), hown, hrow⟩
  have b1 : decide ((i : Int) < (R : Int)) = true := decide_eq_true (by omega)
  refine Gx.a (by kernel_rfl) fun K hK => ?_
  simp only [XA, XB, b1]
  refine hK _ ?_
  refine XWP.seq (Gx.t rfl ?_)
  refine XWP.skip ?_
  refine XWP.cut (fun s => ∃ (V3 : View) (H6 : Heap) (sl : Value) (cells : List Value), StIs (fun Z => [.v (.int .i64 (R : Int)), .v (.int .i64 (C : Int)), .v (.func (.func g) #[] lb.toArray), Z 3,Z 4,Z 5, .p 0 0, .p 1 0, Z 8,Z 9,Z 10,Z 11,Z 12, .v (.int .i64 (R : Int)), .v (.int .i64 (i : Int)), Z 15,Z 16,Z 17,Z 18,Z 19,Z 20,Z 21,Z 22,Z 23,Z 24,Z 25,Z 26,Z 27,Z 28,Z 29,Z 30,Z 31,Z 32]) [[.int .i64 0, .int .i64 0, .slice none 0 0], [.int .i64 (R : Int), .int .i64 (C : Int), sl]] H6 V3 s ∧ V2.le V3 ∧ Own H6 49 3 sl ((i + 1) * C) cells ∧ RowAt ratE V3 cells (mk ((i + 1) * C) (flatF G C))) ?_ ?_
  ·refine XWP.block ?_
   refine Gx.a (by kernel_rfl) fun K hK => ?_
   simp only [XA]
   refine hK _ ?_
   refine Gx.a (by kernel_rfl) fun K hK => ?_
   simp only [XA]
   refine hK _ ?_
   clear hK
   refine XWP.block ?_
   refine XWP.loop (fun r s => ∃ (k : Nat) (V3 : View) (H6 : Heap) (sl : Value) (cells : List Value), StIs (fun Z => [.v (.int .i64 (R : Int)), .v (.int .i64 (C : Int)), .v (.func (.func g) #[] lb.toArray), Z 3,Z 4,Z 5, .p 0 0, .p 1 0, .v (.int .i64 (i : Int)), Z 9,Z 10,Z 11,Z 12, .v (.int .i64 (R : Int)), .v (.int .i64 (i : Int)), Z 15,Z 16, .v (.int .i64 (C : Int)), .v (.int .i64 (k : Int)), Z 19,Z 20,Z 21,Z 22,Z 23,Z 24,Z 25,Z 26,Z 27,Z 28,Z 29,Z 30,Z 31,Z 32]) [[.int .i64 0, .int .i64 0, .slice none 0 0], [.int .i64 (R : Int), .int .i64 (C : Int), sl]] H6 V3 s ∧ r + k = C ∧ V2.le V3 ∧ Own H6 49 3 sl (i * C + k) cells ∧ RowAt ratE V3 cells (mk (i * C + k) (flatF G C))) C ⟨0, V2, _, _, _, StIs.of (by exact rfl), by omega, View.le_refl _, hown, hrow⟩ ?_
   clear hown hrow
   rintro r s ⟨k, V3, H6, sl, cells, hs, hr, hV3, hown, hrow⟩
   obtain ⟨z, rfl⟩ := hs.out
   try dsimp only
   clear hs
   by_cases hk : k < C
   rotate_left
   ·obtain rfl : k = C := by omega
    have b2 : decide ((k : Int) < (k : Int)) = false := decide_eq_false (by omega)
    refine Gx.a (by kernel_rfl) fun K hK => ?_
    simp only [XA, XB, b2]
    refine hK _ ?_
    refine XWP.seq (Gx.f rfl ?_)
    refine XWP.exit ?_
    have e : (i + 1) * k = i * k + k := by rw [Nat.add_mul, Nat.one_mul]
    exact ⟨V3, H6, sl, cells, StIs.of (by exact rfl), hV3, by rw [e]; exact hown, by rw [e]; exact hrow⟩
   have b2 : decide ((k : Int) < (C : Int)) = true := decide_eq_true (by omega)
   have hp := pos_lt hi hk
   refine Gx.a (by kernel_rfl) fun K hK => ?_
   simp only [XA, XB, b2]
   refine hK _ ?_
   refine XWP.seq (Gx.t rfl ?_)
   refine XWP.skip ?_
   refine XWP.seq ?_
   refine XWP.block ?_
   refine Gx.a (by kernel_rfl) fun K hK => ?_
   simp only [XA]
   refine hK _ ?_
   (refine XWP.drw1 [0, 1, 2, 3, 4, 5, 6, 7, 8, 9] (by kernel_rfl) (by kernel_rfl) (by kernel_rfl) fun K hK => ?_) <;> dsimp only [pickOps, List.getElem?_cons_zero, List.getElem?_cons_succ]
   simp only [XM, XA, XB, cv_gob]
   refine call_gob (ys := [.int .i64 (i : Int), .int .i64 (k : Int)]) hcl (hf _ i k (View.le_trans hV2 hV3) hi hk) fun v4 V4 hV4 h4 => ?_
   obtain ⟨x4, y4, rfl, o1, o2⟩ := h4.form
   simp only [XA]
   refine bs_go (by kernel_rfl) #[(0, .agg #[.bool (ng (G i k)), x4, y4])] (by simp [ev_tmp, SV.val]) (bs_rat elemT_24) fun b3 hb3 hb4 => ?_
   simp only [XA, Nat.reduceAdd]
   refine ap_go elemT_24 (by kernel_rfl) zeroT_49 rfl (by omega) (own_upd hown hb3) (src3 (upd_at _ _ _) rfl o1 o2) (by omega) (by omega) fun v' H' hres => ?_
   simp only [XM, XA]
   refine st_one shapeT_24 rfl (own_isOne hres.1) (by simp) ?_
   simp only [XA]
   refine hK _ ?_
   have hrow' := (hrow.mono ratE_ok hV4).snoc (show isOne (.bool (ng (G i k))) = true from rfl) o1 o2 h4
   rw [← flatF_at G hk, ← mk_succ (i * C + k) (flatF G C)] at hrow'
   rw [← flatF_at G hk] at hres
   refine Gx.c (by kernel_rfl) fun K hK => ?_
   simp only [XA, XB, i64_succ k (by omega)]
   exact hK _ ⟨r - 1, by omega, k + 1, V4, _, _, _, StIs.of (by exact rfl), by omega, View.le_trans hV3 hV4, by rw [← Nat.add_assoc]; exact hres.1, by rw [← Nat.add_assoc]; exact hrow'⟩
  clear hown hrow
  rintro s ⟨V3, H6, sl, cells, hs, hV3, hown, hrow⟩
  obtain ⟨z, rfl⟩ := hs.out
  try dsimp only
  refine Gx.c (by kernel_rfl) fun K hK => ?_
  simp only [XA, XB, i64_succ i (by omega)]
  exact hK _ ⟨q - 1, by omega, i + 1, V3, _, _, _, StIs.of (by exact rfl), by omega, View.le_trans hV2 hV3, hown, hrow⟩
 rintro s ⟨V2, H5, sl, cells, hs, hown, hrow⟩
 obtain ⟨z, rfl⟩ := hs.out
 try dsimp only
 have osl := own_isOne hown
 refine Gx.a (by kernel_rfl) fun K hK => ?_
 simp only [XM, XA, Nat.reduceAdd, Nat.reduceLeDiff, ↓reduceIte]
 refine st_mat shapeT_26 rfl rfl rfl rfl osl ?_
 simp only [XA]
 refine hK _ (XWP.ret ?_)
 try simp only [thenX_ret, inBlockX_ret]
 rcases own_parts hown with ⟨rfl, h0, rfl⟩ | ⟨g, cap, rfl, hg, hle, hcap, hcl⟩
 ·refine ret_own _ none (by simp [resAll, resV, cellsV, shapeT_26]; rfl) (fun g' q e => by cases e) ⟨_, [], rfl, ⟨by rw [h0]; rfl, .inl ⟨rfl, h0⟩⟩, hrow⟩
 ·refine ret_own _ (some (g, _)) (by simp [resAll, resV, cellsV, shapeT_26]; rfl) (fun g' q e => by cases e; exact hg) ⟨_, cells, rfl, own3 (show upd (fun _ => none) g (some _) g = some _ from upd_at _ _ _) hcl hle (by unfold maxLen at hcap; omega), hrow⟩
theorem dg_nil {a : Nat} (h : (dg a).length = 0) : a = 0 := by
 have := len_zero a
 rw [decide_eq_true (by omega)] at this
 exact of_decide_eq_true this.symm
theorem dg_of_zero {q : Rat} (h : q = 0) : decide ((0 : Int) < ((dg q.num.natAbs).length : Int)) = false := by
 subst h
 show decide ((0 : Int) < ((dg 0).length : Int)) = false
 rw [dg_zero]; rfl
theorem wr_mul {i C : Nat} (hi : i ≤ 1000) (hC : C ≤ 1000) : IntKind.i64.wrap ((i : Int) * (C : Int)) = ((i * C : Nat) : Int) := by
 have := Nat.mul_le_mul hi hC
 rw [← Int.natCast_mul, wrap_id (by omega) (by omega)]
theorem wr_add {p k : Nat} (hp : p ≤ 1000000) (hk : k ≤ 1000000) : IntKind.i64.wrap ((p : Int) + (k : Int)) = ((p + k : Nat) : Int) := by rw [wrap_id (by omega) (by omega)]; omega

theorem row_obj {e : TypeId} {vs : List Value} {o : Obj} (h : RowObj ⟨e, vs, vs.length⟩ o) : o = .cells vs.toArray e (0, 0) := by
 obtain ⟨ex, rfl, hl⟩ := h
 have : ex = [] := List.length_eq_zero_iff.1 (by simpa using hl)
 rw [this, List.append_nil]
theorem ldV1 {V : View} {b e : Nat} {vs : List Value} {fr} (h : V b = some (.cells vs.toArray e fr)) {off t m : Nat} {u : Value} (hu : vs[off]? = some u) (ht : shapeT Tryz.prog t = some (false, m)) (H : Heap) : Loads Tryz.prog H V t b off u :=
 ⟨false, m, ht, .inr ⟨rfl, .inr ⟨_, e, fr, h, by rw [List.getElem?_toArray]; exact hu⟩⟩⟩
theorem ldV3 {V : View} {b e : Nat} {x y z : Value} {fr} (h : V b = some (.cells [x, y, z].toArray e fr)) {t : Nat} (ht : shapeT Tryz.prog t = some (true, 3)) (H : Heap) : Loads Tryz.prog H V t b 0 (.agg #[x, y, z]) := by
 refine ⟨true, 3, ht, .inl ⟨rfl, [x, y, z], rfl, fun j u hj => ?_, rfl⟩⟩
 exact .inr ⟨_, e, fr, h, by rw [List.getElem?_toArray, Nat.zero_add]; exact hj⟩
theorem addV_at (V : View) (b : Nat) (o : Obj) : addV V b o b = some o := by unfold addV; rw [if_pos rfl]

def sumL (l : List Rat) (k : Nat) : Rat := Sm (cf l) k
theorem sumL_QB {l : List Rat} {B : Nat} (h : ∀ x ∈ l, QB B x) : ∀ k, k ≤ l.length → QB (k * (B + 1)) (sumL l k)
 | 0, _ => QB_zero _
 | k + 1, hk => by
  have ih := sumL_QB h k (by omega)
  have h2 := h _ (cf_mem (l := l) (i := k) (by omega))
  exact (ih.add h2).mono (by rw [Nat.add_mul]; omega)
theorem qsum_c (V : View) (v : Value) (l : List Rat) (B : Nat) (h : Rats V v l) (hq : ∀ x ∈ l, QB B x) (ll : l.length ≤ 1000) (hB : 1001 * (B + 1) ≤ 17592186044416) : Spec Tryz.prog 91 [v] V fun v' V' => RatC V' v' (sumL l l.length) := by
 obtain ⟨A, c, rfl, hc, hm⟩ := h.form
 have hS : ∀ k, k ≤ l.length → QB (1000 * (B + 1)) (sumL l k) := fun k hk => (sumL_QB hq k hk).mono (Nat.mul_le_mul_right _ (by omega))
 have hf : 1000 * (B + 1) ≤ 17592186044416 := by omega
 refine (Spec.enter Tryz.func91 rfl fun Γ => ?_)
 simp only [Tryz.ntmps91, List.map_cons, List.map_nil, List.length_cons, List.length_nil, Nat.reduceAdd, Nat.reduceSub, List.replicate_succ, List.replicate_zero, List.cons_append, List.nil_append]
 refine Gx.a (by kernel_rfl) fun K hK => ?_
 simp only [XA, XB]
 refine hK _ ?_
 refine Gx.a (by kernel_rfl) fun K hK => ?_
 simp only [XA]
 refine call_go (by kernel_rfl) rfl (qzero_c _) fun v1 V1 hV1 h1 => ?_
 obtain ⟨x1, y1, rfl, o1, o2⟩ := h1.form
 simp only [XA, XB]
 refine st_rat rfl rfl rfl o1 o2 ?_
 simp only [XA]
 refine hK _ ?_
 refine XWP.cutD 2 (fun s => ∃ (V2 : View) (m : Bool) (x y : Value), StIs (fun Z => [Z 0,Z 1, .p 0 0, .p 1 0, Z 4,Z 5,Z 6,Z 7,Z 8,Z 9,Z 10,Z 11,Z 12,Z 13,Z 14,Z 15,Z 16,Z 17]) [[.bool false, .slice none 0 0, .slice none 0 0], [.bool m, x, y]] (fun _ => none) V2 s ∧ RatC V2 (.agg #[.bool m, x, y]) (sumL l l.length) ∧ isOne x = true ∧ isOne y = true) ?_ ?_
 ·refine Gx.a (by kernel_rfl) fun K hK => ?_
  simp only [XA, XB]
  refine hK _ ?_
  clear hK
  refine XWP.block ?_
  refine XWP.loopD 2 (fun n s => ∃ (k : Nat) (V2 : View) (m : Bool) (x y : Value), StIs (fun Z => [Z 0,Z 1, .p 0 0, .p 1 0, Z 4,Z 5,Z 6, .v (.slice A l.length c), .v (.int .i64 (l.length : Int)), .v (.int .i64 (k : Int)), Z 10,Z 11,Z 12,Z 13,Z 14,Z 15,Z 16,Z 17]) [[.bool false, .slice none 0 0, .slice none 0 0], [.bool m, x, y]] (fun _ => none) V2 s ∧ n + k = l.length ∧ V.le V2 ∧ RatC V2 (.agg #[.bool m, x, y]) (sumL l k) ∧ isOne x = true ∧ isOne y = true) l.length ⟨0, V1, _, _, _, StIs.of (by exact rfl), by omega, hV1, h1, o1, o2⟩ ?_
  clear h1 o1 o2
  rintro n s ⟨k, V2, m, x, y, hs, hn, hV2, h2, o1, o2⟩
  obtain ⟨z, rfl⟩ := hs.out
  try dsimp only
  clear hs
  by_cases hk : k < l.length
  rotate_left
  ·obtain rfl : k = l.length := by omega
   have b1 : decide ((l.length : Int) < (l.length : Int)) = false := decide_eq_false (by omega)
   refine Gx.a (by kernel_rfl) fun K hK => ?_
   simp only [XA, XB, b1]
   refine hK _ ?_
   refine XWP.seq (Gx.f rfl ?_)
   refine XWP.exit ?_
   exact fun f => ⟨V2, m, x, y, StIs.of (by exact rfl), h2, o1, o2⟩
  have b1 : decide ((k : Int) < (l.length : Int)) = true := decide_eq_true (by omega)
  have hv2 := h.up hV2
  obtain ⟨b, o, rfl⟩ := SlAt.addr hv2 (by omega)
  obtain ⟨m3, n3, d3, hx, ⟨p1, p2, p3⟩, hld⟩ := Rats.get hv2 k hk
  refine Gx.a (by kernel_rfl) fun K hK => ?_
  simp only [XA, XB, b1]
  refine hK _ ?_
  refine XWP.seq (Gx.t rfl ?_)
  refine XWP.skip ?_
  refine XWP.seq ?_
  refine XWP.block ?_
  refine Gx.a (by kernel_rfl) fun K hK => ?_
  simp only [XA, XB]
  refine ⟨by omega, by omega, ld_mem (hld _) ?_⟩
  simp only [XA, XB, Nat.reduceAdd]
  refine st_rat rfl rfl p1 p2 p3 ?_
  simp only [XA]
  refine hK _ ?_
  refine Gx.c (by kernel_rfl) fun K hK => ?_
  simp only [XA, XB, Nat.reduceAdd, Nat.reduceLeDiff, ↓reduceIte]
  refine call_go (by kernel_rfl) rfl (qadd_c _ _ _ _ _ h2 hx ((hS k (by omega)).qf hf) ((hq _ (cf_mem hk)).qf (by omega))) fun v3 V3 hV3 h3 => ?_
  obtain ⟨x3, y3, rfl, o3, o4⟩ := h3.form
  simp only [XA]
  refine st_rat rfl rfl rfl o3 o4 ?_
  simp only [XA]
  refine hK _ ?_
  refine Gx.c (by kernel_rfl) fun K hK => ?_
  simp only [XA, XB, i64_succ k (by omega)]
  exact hK _ ⟨n - 1, by omega, fun f => ⟨k + 1, V3, _, x3, y3, StIs.of (by exact rfl), by omega, View.le_trans hV2 hV3, h3, o3, o4⟩⟩
 rintro s ⟨V2, m, x, y, hs, h2, o1, o2⟩
 obtain ⟨z, rfl⟩ := hs.out
 try dsimp only
 refine Gx.a (by kernel_rfl) fun K hK => ?_
 simp only [XA, XB, Nat.reduceAdd, Nat.reduceLeDiff, ↓reduceIte]
 refine st_rat rfl rfl rfl o1 o2 ?_
 simp only [XA]
 refine hK _ (XWP.ret ?_)
 try simp only [thenX_ret, inBlockX_ret]
 exact ret_rat1 rfl rfl rfl h2
end Go.Proofs.YtobjjdnfgamgcaaGreat
end
section
namespace Go.Proofs.YtobjjdnfgamgcaaGreat
open Go Go.RowKit
abbrev conc0 (t : List SV) : Array Value := (t.map (SV.conc fun _ => 0)).toArray
def YQ (Q : Exit → List SV → World → Prop) : Exit → Act → World → Prop := fun e a W => ∃ t, a.tmps = conc0 t ∧ a.defers = [] ∧ Q e t W
def YW (P : Program) (c : Code) (Q : Exit → List SV → World → Prop) (t : List SV) (W : World) : Prop :=
 ∀ a : Act, a.tmps = conc0 t → a.defers = [] → c.wpIn Fence.wide 0 P (YQ Q) a W
def thenY (K : List SV → World → Prop) (Q : Exit → List SV → World → Prop) : Exit → List SV → World → Prop
 | .normal, t, W => K t W
 | e, t, W => Q e t W
def inBlockY (id : Nat) (Q : Exit → List SV → World → Prop) : Exit → List SV → World → Prop
 | .exit id', t, W => if id' = id then Q .normal t W else Q (.exit id') t W
 | e, t, W => Q e t W
section
variable {P : Program} {Q : Exit → List SV → World → Prop} {t : List SV} {W : World}
theorem YW.apply {c : Code} {t : List SV} {a : Act} (h : YW P c Q t W) (h1 : a.tmps = conc0 t) (h2 : a.defers = []) : c.wpIn Fence.wide 0 P (YQ Q) a W := h a h1 h2
theorem YW.seq {x y : Code} (h : YW P x (thenY (YW P y Q) Q) t W) : YW P (.seq x y) Q t W := fun a h1 h2 =>
 wpIn_seq (wpIn_mono (h a h1 h2) fun e a w hq => by
  obtain ⟨t', h1', h2', q⟩ := hq
  cases e <;> first
   | exact q a h1' h2'
   | exact ⟨t', h1', h2', q⟩)
theorem YW.skip (h : Q .normal t W) : YW P .skip Q t W := fun _ h1 h2 => wpIn_skip ⟨t, h1, h2, h⟩
theorem YW.ret (h : Q .ret t W) : YW P .ret Q t W := fun _ h1 h2 => wpIn_ret ⟨t, h1, h2, h⟩
theorem YW.exit {i : Nat} (h : Q (.exit i) t W) : YW P (.exit i) Q t W := fun _ h1 h2 => wpIn_exit ⟨t, h1, h2, h⟩
theorem YW.block {i : Nat} {c : Code} (h : YW P c (inBlockY i Q) t W) : YW P (.block i c) Q t W := fun a h1 h2 =>
 wpIn_block (wpIn_mono (h a h1 h2) fun e a w hq => by
  obtain ⟨t', h1', h2', q⟩ := hq
  cases e with
  | exit j =>
   simp only [inBlockY] at q
   simp only [Exit.inBlock]
   split <;> rename_i hj
   ·exact ⟨t', h1', h2', by simpa [hj] using q⟩
   ·exact ⟨t', h1', h2', by simpa [hj] using q⟩
  | _ => exact ⟨t', h1', h2', q⟩)
theorem ev0 {a : Act} (h : a.tmps = conc0 t) (x : Operand) (H : Heap) (V : View) : a.eval x = ((⟨t, [], H, V⟩ : XS).ev x).conc fun _ => 0 := ev_conc (s := ⟨t, [], H, V⟩) h x
theorem YW.cond {c : Operand} {x y : Code} {b : Bool} {V : View} (hc : (⟨t, [], fun _ => none, V⟩ : XS).ev c = .v (.bool b)) (h1 : b = true → YW P x Q t W) (h2 : b = false → YW P y Q t W) : YW P (.cond c x y) Q t W := fun a e1 e2 =>
 wpIn_cond_split (t := b) (by rw [ev0 e1 c (fun _ => none) V, hc]; rfl) (fun e => h1 e a e1 e2) (fun e => h2 e a e1 e2)
theorem YW.loop {c : Code} (I : Nat → List SV → World → Prop) (n : Nat) (h0 : I n t W) (hr : ∀ n t W, I n t W → YW P c (thenY (fun t' W' => ∃ m, m < n ∧ I m t' W') Q) t W) : YW P (.loop c) Q t W := by
 intro a e1 e2
 have key : ∀ n t W a, I n t W → a.tmps = conc0 t → a.defers = [] → ∀ (b : Frame) (k : List Item) (cs : List Frame), b.roundOf = none →
   ∃ e a' w', YQ Q e a' w' ∧ ArrivesIn (Machine.fenced P Fence.wide) P (lone (b.atR a (.code c :: .inLoop c :: k)) cs W) b k cs e a' w' := by
  intro n
  induction n using Nat.strongRecOn with
  | _ n ih =>
   intro t W a hI e1 e2 b k cs hro
   obtain ⟨e, a₁, w₁, ⟨t1, h1, h2, hq⟩, harr⟩ := hr n t W hI a e1 e2 b (.inLoop c :: k) cs hro trivial (room_wide _)
   cases e with
   | normal =>
    obtain ⟨m, hm, hI1⟩ := hq
    obtain ⟨e₂, a₂, w₂, hq₂, harr₂⟩ := ih m hm t1 w₁ a₁ hI1 h1 h2 b k cs hro
    exact ⟨e₂, a₂, w₂, hq₂, .of_steps (StepsIn.trans harr (.one (fenced_calm (F := Fence.wide) (n := 0) (fr := b.atR a₁ (.inLoop c :: k)) trivial (room_wide _) rfl) stepR_inLoop)) harr₂⟩
   | exit id => exact ⟨_, a₁, w₁, ⟨t1, h1, h2, hq⟩, .pass (x := .inLoop c) rfl (fun _ _ => .inl (by simp)) harr⟩
   | goto l => exact ⟨_, a₁, w₁, ⟨t1, h1, h2, hq⟩, .pass (x := .inLoop c) rfl (fun _ _ => .inl (by simp)) harr⟩
   | ret => exact ⟨_, a₁, w₁, ⟨t1, h1, h2, hq⟩, .pass (x := .inLoop c) rfl (fun _ _ => .inl (by simp)) harr⟩
   | panic ch => exact ⟨_, a₁, w₁, ⟨t1, h1, h2, hq⟩, .pass (x := .inLoop c) rfl (fun _ _ => .inl (by simp)) harr⟩
   | outgrown => exact ⟨_, a₁, w₁, ⟨t1, h1, h2, hq⟩, .pass (x := .inLoop c) rfl (fun _ _ => .inl (by simp)) harr⟩
 intro b k cs hro _ _
 obtain ⟨e, a', w', hq, harr⟩ := key n t W a h0 e1 e2 b k cs hro
 exact ⟨e, a', w', hq, .of_steps (.one (fenced_calm (F := Fence.wide) (n := 0) (fr := b.atR a (.code (.loop c) :: k)) trivial (room_wide _) rfl) stepR_loop) harr⟩
theorem reads_in {ops : Array Oper} {V : View} {Q' : Exit → Act → World → Prop} (hV : V.sub W) (rest : List Nat) : ∀ (l : List Oper) (k : Nat) (K : XS → Prop) (t : List SV) (a : Act), (∀ i o, l[i]? = some o → ops[k + i]? = some o) → (l.all fun o => isRead o.op && o.guard.isNone) = true →
  a.tmps = conc0 t → a.defers = [] → (∀ x ∈ t, x.ok 0) → seqX P ops l K ⟨t, [], fun _ => none, V⟩ → (∀ t' a', a'.tmps = conc0 t' → a'.defers = [] → (∀ x ∈ t', x.ok 0) → K ⟨t', [], fun _ => none, V⟩ → wpOpsIn Fence.wide 0 P ops Q' rest a' W) →
  wpOpsIn Fence.wide 0 P ops Q' (List.range' k l.length ++ rest) a W
 | [], k, K, t, a, _, _, e1, e2, hok, h, hk => by simpa using hk t a e1 e2 hok h
 | o :: l, k, K, t, a, hi, hall, e1, e2, hok, h, hk => by
  simp only [List.all_cons, Bool.and_eq_true] at hall
  obtain ⟨⟨hrd, hgd⟩, hall⟩ := hall
  have ho : ops[k]? = some o := by simpa using hi 0 o (by simp)
  have hg : o.guard = none := by cases hx : o.guard <;> simp_all
  simp only [List.length_cons, List.range'_succ, List.cons_append]
  rw [wpOpsIn_cons]
  unfold wpOpIn
  simp only [ho]
  have hw : Region.wanted o (yielded ops a.tmps) = true := by unfold Region.wanted; rw [hg]
  rw [if_pos hw]
  unfold seqX stepX at h
  rw [hg] at h
  dsimp only at h
  unfold opX at h
  rw [if_pos hrd] at h
  obtain ⟨sv, ⟨hsv, hrun⟩, h⟩ := readX_sound (s := ⟨t, [], fun _ => none, V⟩) hok h
  have hr := hrun ⟨W, V, W, none⟩ (fun _ => 0) a W e1 ⟨fun i vs hi => by simp at hi, fun b r hb => (by cases hb), hV, Blw.refl _ _⟩
  refine ⟨fun _ _ => trivial, ?_⟩
  have hd : ∀ c, o.op ≠ .defer c := fun c e => by rw [e] at hrd; cases hrd
  rw [Oper.semAt_eq _ _ _ hd, hr]
  have hconc : Conc ⟨W, V, W, none⟩ (fun _ => 0) ⟨t, [], fun _ => none, V⟩ a W := ⟨e1, ⟨⟨[], by rw [e2]; rfl, List.nodup_nil, fun D hD => by simp at hD⟩, KeepsOthers.refl _⟩, ⟨fun i vs hi => by simp at hi, fun b r hb => (by cases hb), hV, Blw.refl _ _⟩, ⟨fun i j hi => by simp at hi, fun i hi => by simp at hi, fun b r hb => (by cases hb), View.le_refl _, View.from_refl _ _⟩, hok⟩
  have hput := hconc.put o.dst sv hsv
  have et : (XS.put ⟨t, [], fun _ => none, V⟩ o.dst sv) = ⟨(XS.put ⟨t, [], fun _ => none, V⟩ o.dst sv).t, [], fun _ => none, V⟩ := by cases o.dst <;> rfl
  rw [et] at h
  have hok2 : ∀ x ∈ (XS.put ⟨t, [], fun _ => none, V⟩ o.dst sv).t, x.ok 0 := by
   have := put_ok (s := ⟨t, [], fun _ => none, V⟩) hok o.dst hsv
   rw [XS.put_bx] at this; exact this
  refine reads_in hV rest l (k + 1) K _ _ (fun i o' h' => ?_) hall hput.tm ?_ hok2 h hk
  ·have := hi (i + 1) o' (by simpa using h')
   rw [show k + 1 + i = k + (i + 1) by omega]; exact this
  ·cases o.dst <;> exact e2
theorem YW.reads {id : Nat} {ops : Array Oper} {V : View} (hV : V.sub W) (hok : ∀ x ∈ t, x.ok 0) (hall : (ops.toList.all fun o => isRead o.op && o.guard.isNone) = true) (h : seqX P ops ops.toList (fun s => (∀ x ∈ s.t, x.ok 0) → Q .normal s.t W) ⟨t, [], fun _ => none, V⟩) : YW P (.region id ops false) Q t W := fun a e1 e2 => by
 refine wpIn_region ?_
 have := reads_in (Q' := YQ Q) hV [] ops.toList 0 _ t a (fun i o h => by simpa using h) hall e1 e2 hok h fun t' a' e1' e2' hok' hk => ⟨t', e1', e2', hk hok'⟩
 rwa [List.append_nil, Array.length_toList, ← List.range_eq_range'] at this
theorem YW.yield {id : Nat} {ops : Array Oper} {V : View} {pre post : List Oper} {d : Option Tmp} {x : Tmp} {xs : List Operand} {ts : Array TypeId} {ty pos af} (hops : ops.toList = pre ++ ⟨d, .call ⟨.value (.tmp x), xs.toArray, ts⟩, ty, pos, af, none⟩ :: post) (hV : V.sub W) (hok : ∀ x ∈ t, x.ok 0)
  (hpre : (pre.all fun o => isRead o.op && o.guard.isNone) = true) (hpost : (post.all fun o => isRead o.op && o.guard.isNone) = true)
  (h : seqX P ops pre (fun s => ∃ (l : Nat) (args : List Value) (R : Ending → World → Prop), s.ev (.tmp x) = .v (.func (.yield l) #[] #[]) ∧ xs.map s.ev = args.map .v ∧ YieldAt Fence.wide 0 P l args.toArray W R ∧
   ∀ e W', R e W' → ∃ b, e = .returned (.bool b) ∧ V.sub W' ∧ seqX P ops post (fun s' => (∀ x ∈ s'.t, x.ok 0) → Q .normal s'.t W') (s.put d (.v (.bool b)))) ⟨t, [], fun _ => none, V⟩) : YW P (.region id ops false) Q t W := fun a e1 e2 => by
 refine wpIn_region ?_
 have hlen : List.range ops.size = List.range' 0 pre.length ++ (pre.length :: List.range' (pre.length + 1) post.length) := by
  have : ops.size = pre.length + (post.length + 1) := by rw [← Array.length_toList, hops]; simp
  rw [this, List.range_eq_range', ← List.range'_append_1, Nat.zero_add, List.range'_succ]
 rw [hlen]
 have hget : ∀ i : Nat, ops[i]? = (pre ++ ⟨d, .call ⟨.value (.tmp x), xs.toArray, ts⟩, ty, pos, af, none⟩ :: post)[i]? := fun i => by rw [← hops]; simp
 refine reads_in hV _ pre 0 _ t a (fun i o h => by
  rw [hget, Nat.zero_add, List.getElem?_append_left (List.getElem?_eq_some_iff.1 h).1]; exact h) hpre e1 e2 hok h fun t' a' e1' e2' hok' hk => ?_
 obtain ⟨l, args, R, hx, hxs, ⟨fn, tmps, assign, body, hrun, hround⟩, hR⟩ := hk
 rw [wpOpsIn_cons]
 unfold wpOpIn
 have ho : ops[pre.length]? = some ⟨d, .call ⟨.value (.tmp x), xs.toArray, ts⟩, ty, pos, af, none⟩ := by rw [hget, List.getElem?_append_right (Nat.le_refl _), Nat.sub_self]; rfl
 simp only [ho]
 rw [if_pos (by unfold Region.wanted; rfl)]
 refine ⟨fun _ _ => trivial, ?_⟩
 rw [Oper.semAt_eq _ _ _ (fun c e => by cases e)]
 have hev : a'.eval (.tmp x) = .func (.yield l) #[] #[] := by rw [ev0 e1' _ (fun _ => none) V, hx]; rfl
 have hargs : xs.toArray.map a'.eval = args.toArray := by
  apply Array.ext'
  simp only [Array.toList_map]
  have h2 : xs.map a'.eval = (xs.map (⟨t', [], fun _ => none, V⟩ : XS).ev).map (SV.conc fun _ => 0) := by
   rw [List.map_map]
   exact List.map_congr_left fun q _ => ev0 e1' q (fun _ => none) V
  rw [h2, hxs, List.map_map]
  have : (SV.conc fun _ => 0) ∘ SV.v = fun x => x := rfl
  rw [this, List.map_id']
 have hcall : (execOp a'.eval ⟨d, .call ⟨.value (.tmp x), xs.toArray, ts⟩, ty, pos, af, none⟩).run P W = .ok (.round l fn tmps assign body) W := by
  simp [execOp, resolve, hev, Deferred.ofValue, invoke, callFunc, hargs, hrun]
 rw [hcall]
 refine ⟨fun h => by simp [Fence.wide] at h, hround.mono fun e W' hre => ?_⟩
 obtain ⟨b, rfl, hV', hpo⟩ := hR e W' hre
 dsimp only
 have hokp : ∀ y ∈ (XS.put ⟨t', [], fun _ => none, V⟩ d (.v (.bool b))).t, y.ok 0 := by
  have := put_ok (s := ⟨t', [], fun _ => none, V⟩) hok' d (x := .v (.bool b)) trivial
  rw [XS.put_bx] at this; exact this
 have et : (XS.put ⟨t', [], fun _ => none, V⟩ d (.v (.bool b))) = ⟨(XS.put ⟨t', [], fun _ => none, V⟩ d (.v (.bool b))).t, [], fun _ => none, V⟩ := by cases d <;> rfl
 rw [et] at hpo
 have := reads_in (Q' := YQ Q) hV' [] post (pre.length + 1) _ _ (a'.put d (.bool b)) (fun i o h => by
  rw [hget, List.getElem?_append_right (by omega), show pre.length + 1 + i - pre.length = i + 1 by omega]; simpa using h) hpost (conc_put (s := ⟨t', [], fun _ => none, V⟩) e1' d (.v (.bool b))) (by cases d <;> exact e2') hokp hpo fun t2 a2 e3 e4 hok2 hk => ⟨t2, e3, e4, hk hok2⟩
 rwa [List.append_nil] at this
theorem YW.yieldAt {id : Nat} {ops : Array Oper} {V : View} (k : Nat) {d : Option Tmp} {x : Tmp} {xs : List Operand} {ts : Array TypeId} {ty pos af} (hk : ops.toList[k]? = some ⟨d, .call ⟨.value (.tmp x), xs.toArray, ts⟩, ty, pos, af, none⟩) (hV : V.sub W) (hok : ∀ x ∈ t, x.ok 0)
  (hpre : ((ops.toList.take k).all fun o => isRead o.op && o.guard.isNone) = true) (hpost : ((ops.toList.drop (k + 1)).all fun o => isRead o.op && o.guard.isNone) = true)
  (h : seqX P ops (ops.toList.take k) (fun s => ∃ (l : Nat) (args : List Value) (R : Ending → World → Prop), s.ev (.tmp x) = .v (.func (.yield l) #[] #[]) ∧ xs.map s.ev = args.map .v ∧ YieldAt Fence.wide 0 P l args.toArray W R ∧
   ∀ e W', R e W' → ∃ b, e = .returned (.bool b) ∧ V.sub W' ∧ seqX P ops (ops.toList.drop (k + 1)) (fun s' => (∀ x ∈ s'.t, x.ok 0) → Q .normal s'.t W') (s.put d (.v (.bool b)))) ⟨t, [], fun _ => none, V⟩) : YW P (.region id ops false) Q t W :=
 YW.yield (pre := ops.toList.take k) (post := ops.toList.drop (k + 1)) (d := d) (x := x) (xs := xs) (ts := ts) (ty := ty) (pos := pos) (af := af) (by
  obtain ⟨hlt, he⟩ := List.getElem?_eq_some_iff.1 hk
  rw [← he, List.getElem_cons_drop, List.take_append_drop]) hV hok hpre hpost h
end
end Go.Proofs.YtobjjdnfgamgcaaGreat
end
section
namespace Go.Proofs.YtobjjdnfgamgcaaGreat
open Go Go.RowKit
attribute [local irreducible] XWP Spec SpecO XPub XCall seqX clX apX stX ldX iaX slX


end Go.Proofs.YtobjjdnfgamgcaaGreat
end
section
namespace Go.Proofs.YtobjjdnfgamgcaaGreat
open Go Go.RowKit
attribute [local irreducible] XWP Spec SpecO XPub XCall seqX clX apX stX ldX iaX slX
attribute [local irreducible] YW
def TIs (F : (Nat → SV) → List SV) (t : List SV) : Prop := F (nth t) = t
theorem TIs.out {F : (Nat → SV) → List SV} {t : List SV} (h : TIs F t) : ∃ u, t = F u := ⟨nth t, h.symm⟩
def hor (l : List Rat) (x : Rat) : Nat → Rat
 | 0 => 0
 | r + 1 => hor l x r * x + cf l (l.length - 1 - r)
theorem ok_vs (l : List Value) : ∀ x ∈ l.map SV.v, x.ok 0 := fun x hx => by
 obtain ⟨v, _, rfl⟩ := List.mem_map.1 hx
 trivial
theorem rows_c (V : View) (x y z : Value) : Spec Tryz.prog 90 [.agg #[x, y, z]] V fun v' V' => ∃ Bs e, v' = .func (.func 127) #[] #[.pointer (some ⟨Bs, 0, none⟩)] ∧ V' Bs = some (.cells ([x, y, z] : List Value).toArray e (0, 0)) := by
 refine (Spec.enter Tryz.func90 rfl fun Γ => ?_)
 simp only [Tryz.ntmps90, List.map_cons, List.map_nil, List.length_cons, List.length_nil, Nat.reduceAdd, Nat.reduceSub, List.replicate_succ, List.replicate_zero, List.cons_append, List.nil_append]
 refine Gx.a (by kernel_rfl) fun K hK => ?_
 simp only [XA]
 refine hK _ ?_
 refine XWP.row1 (bx := []) fun b e hb1 hb2 => ?_
 simp only [List.map_cons, List.map_nil, rowS_v, rowS_p, List.length_nil, List.length_cons, Nat.reduceAdd, ↓reduceIte]
 refine Gx.a (by kernel_rfl) fun K hK => ?_
 refine mkf_go [.pointer (some ⟨b, 0, none⟩)] rfl ?_
 simp only [XA]
 refine hK _ (XWP.ret ?_)
 try simp only [thenX_ret, inBlockX_ret]
 have hbb : upd (fun _ => none) b (some ⟨e, [x, y, z], 3⟩) b = some ⟨e, [x, y, z], 3⟩ := upd_at _ _ _
 refine ret_pub b _ hbb fun o ho hle' => ret_go _ rfl ⟨b, e, rfl, ?_⟩
 have eo := row_obj ho
 subst eo
 exact addV_at _ _ _
def rowsL (R C : Nat) (A : Option Addr) (cap : Nat) : List (Array Value) := (List.range R).map fun (i : Nat) => #[.int .i64 (i : Int), sliceV A cap 3 (i * C) ((i + 1) * C)]
theorem rowsL_get {R C : Nat} {A : Option Addr} {cap r : Nat} (h : r < R) : (rowsL R C A cap)[r]? = some #[.int .i64 (r : Int), sliceV A cap 3 (r * C) ((r + 1) * C)] := by simp [rowsL, h]
theorem rowsL_len (R C : Nat) (A : Option Addr) (cap : Nat) : (rowsL R C A cap).length = R := by simp [rowsL]
set_option maxRecDepth 100000 in
theorem rows_it {V : View} {Bs R C n cap e : Nat} {A : Option Addr} (hB : V Bs = some (.cells ([.int .i64 (R : Int), .int .i64 (C : Int), .slice A n cap] : List Value).toArray e (0, 0))) (hR : R ≤ 999) (hC : C ≤ 1000) (hn : R * C ≤ n) (hc : n ≤ cap) :
  IterX Tryz.prog 127 #[.pointer (some ⟨Bs, 0, none⟩)] V (rowsL R C A cap) := by
 intro l J Jx W hJ0 hJV hJX hY
 refine callsIn_of_wp Tryz.func127 rfl trivial ?_
 have hld0 := ldV1 (off := 0) hB rfl shapeT_3 (fun _ => none)
 have hld1 := ldV1 (off := 1) hB rfl shapeT_3 (fun _ => none)
 have hld2 := ldV1 (off := 2) hB rfl shapeT_24 (fun _ => none)
 rw [rowsL_len]
 simp only [Tryz.ntmps127, List.size_toArray, List.length_cons, List.length_nil, Nat.reduceAdd, Nat.reduceSub, Array.replicate_succ, Array.replicate_zero, List.push_toArray, List.append_toArray, List.nil_append, List.cons_append]
 refine wpIn_mono (Q := YQ fun e t W' => (e = .normal ∨ e = .ret) ∧ (J R W' ∨ Jx W')) (YW.apply (t := [.v (.func (.yield l) #[] #[]), .v (.pointer (some ⟨Bs, 0, none⟩)), .v undef, .v undef, .v undef, .v undef, .v undef, .v undef, .v undef, .v undef, .v undef, .v undef, .v undef, .v undef, .v undef, .v undef, .v undef, .v undef, .v undef, .v undef, .v undef, .v undef, .v undef, .v undef, .v undef, .v undef]) ?_ rfl rfl) ?_
 rotate_left
 ·rintro e a W' ⟨t, e1, e2, hq, hr⟩
  rcases hq with rfl | rfl
  ·exact ⟨e2, _, results_none rfl _ _ _, ⟨_, rfl⟩, hr⟩
  ·exact ⟨e2, _, results_none rfl _ _ _, ⟨_, rfl⟩, hr⟩
 have hV := hJV 0 W hJ0
 refine YW.seq (YW.reads hV (ok_vs [_, _, _, _, _, _, _, _, _, _, _, _, _, _, _, _, _, _, _, _, _, _, _, _, _, _]) (by kernel_rfl) ?_)
 simp only [XM, XA]
 refine ld_mem hld0 ?_
 simp only [XA]
 intro hok
 refine YW.block (YW.loop (fun m t W' => ∃ (r : Nat), m + r = R ∧ J r W' ∧ TIs (fun Z => [.v (.func (.yield l) #[] #[]), .v (.pointer (some ⟨Bs, 0, none⟩)), Z 2,Z 3,Z 4, .v (.int .i64 (R : Int)), .v (.int .i64 (r : Int)), Z 7,Z 8,Z 9,Z 10,Z 11,Z 12,Z 13,Z 14,Z 15,Z 16,Z 17,Z 18,Z 19,Z 20,Z 21,Z 22,Z 23,Z 24,Z 25]) t ∧ ∀ x ∈ t, x.ok 0) R ⟨0, by omega, hJ0, by exact rfl, hok⟩ ?_)
 clear hok
 rintro m t W' ⟨r, hm, hJ, ht, hok⟩
 obtain ⟨u, rfl⟩ := ht.out
 clear ht
 try dsimp only at hok ⊢
 have hV := hJV r W' hJ
 by_cases hr : r < R
 rotate_left
 ·have b1 : decide ((r : Int) < (R : Int)) = false := decide_eq_false (by omega)
  refine YW.seq (YW.reads hV hok (by kernel_rfl) ?_)
  simp only [XA, XB, b1]
  intro hok2
  refine YW.seq (YW.cond (V := V) (b := false) rfl (fun h => by cases h) (fun _ => YW.exit ?_))
  have : r = R := by omega
  subst this
  exact ⟨.inl rfl, .inl hJ⟩
 have b1 : decide ((r : Int) < (R : Int)) = true := decide_eq_true (by omega)
 have w1 := wr_mul (i := r) (C := C) (by omega) hC
 have w2 := wr_mul (i := r + 1) (C := C) (by omega) hC
 have w3 := i64_succ r (by omega)
 have hle : r * C ≤ (r + 1) * C := Nat.mul_le_mul_right C (by omega)
 have hle2 : (r + 1) * C ≤ n := Nat.le_trans (Nat.mul_le_mul_right C (by omega)) hn
 refine YW.seq (YW.reads hV hok (by kernel_rfl) ?_)
 simp only [XA, XB, b1]
 intro hok2
 refine YW.seq (YW.cond (V := V) (b := true) rfl (fun _ => YW.skip ?_) (fun h => by cases h))
 refine YW.seq (YW.block (YW.seq (YW.reads hV hok2 (by kernel_rfl) ?_)))
 simp only [XA]
 intro hok3
 refine YW.seq (YW.yieldAt 14 (by rfl) hV hok3 (by kernel_rfl) (by kernel_rfl) ?_)
 simp only [XM, XA, Nat.reduceAdd]
 refine ld_mem hld2 ?_
 simp only [XM, XA]
 refine ld_mem hld1 ?_
 simp only [XM, XA, XB, w1, w3]
 refine ld_mem hld1 ?_
 simp only [XA, XB, w2]
 refine ⟨by omega, by omega, by omega, ?_⟩
 try simp only [XM, XA, XB, gateX, Nat.reduceAdd, Nat.reduceLeDiff, Nat.reduceSub, Nat.reduceMul, ↓reduceIte, Int.reduceToNat, Int.reduceLE, beq_self_eq_true, w1, w2]
 obtain ⟨fn, tmps, asn, bd, hy1, hy2⟩ := hY r W' _ (rowsL_get hr) hJ
 refine ⟨l, [.int .i64 (r : Int), sliceV A cap 3 (r * C) ((r + 1) * C)], _, rfl, rfl, ⟨fn, tmps, asn, bd, hy1, hy2⟩, ?_⟩
 rintro e W3 (⟨rfl, hJ3⟩ | ⟨rfl, hJ3⟩)
 ·have hV3 := hJV _ W3 hJ3
  refine ⟨true, rfl, hV3, ?_⟩
  simp only [XA]
  intro hok4
  refine YW.cond (V := V) (b := false) rfl (fun h => by cases h) (fun _ => YW.skip ?_)
  refine YW.reads hV3 hok4 (by kernel_rfl) ?_
  simp only [XA, XB, w3]
  intro hok5
  exact ⟨m - 1, by omega, r + 1, by omega, hJ3, by exact rfl, hok5⟩
 ·refine ⟨false, rfl, hJX W3 hJ3, ?_⟩
  simp only [XA]
  intro hok4
  refine YW.cond (V := V) (b := true) rfl (fun _ => YW.ret ?_) (fun h => by cases h)
  exact ⟨.inr rfl, .inr hJ3⟩
def rowOk (l : List Rat) (C i : Nat) : Bool := ((List.range C).all fun k => !ng (cf l (i * C + k))) && decide (Sm (fun k => cf l (i * C + k)) C = 1)
def stoB (r c : Int) (L : List Raw) : Bool := (matR r c L && decide (r = c)) && (List.range r.toNat).all (rowOk (qs L) c.toNat)
theorem cf_row {l : List Rat} {R C i k : Nat} (hl : l.length = R * C) (hi : i < R) (hk : k < C) : cf ((l.take ((i + 1) * C)).drop (i * C)) k = cf l (i * C + k) := by
 have h1 := pos_lt hi hk
 have h2 : i * C + k < (i + 1) * C := by rw [Nat.add_mul, Nat.one_mul]; omega
 have h3 : (i + 1) * C ≤ l.length := by rw [hl]; exact Nat.mul_le_mul_right C (by omega)
 have e1 : k < ((l.take ((i + 1) * C)).drop (i * C)).length := by rw [List.length_drop, List.length_take]; omega
 rw [← cf_get e1, ← cf_get (show i * C + k < l.length by omega)]
 simp
theorem row_len {l : List Rat} {R C i : Nat} (hl : l.length = R * C) (hi : i < R) : ((l.take ((i + 1) * C)).drop (i * C)).length = C := by
 have h3 : (i + 1) * C ≤ l.length := by rw [hl]; exact Nat.mul_le_mul_right C (by omega)
 rw [List.length_drop, List.length_take, Nat.min_eq_left h3, Nat.add_mul, Nat.one_mul]; omega
theorem csto_c (V : View) (s : Value) (r c : Int) (L : List Raw) (B : Nat) (h : Raws V s L) (f : fitR L) (ll : L.length ≤ 100000) (hq : okR L = true → ∀ x ∈ qs L, QB B x) (hB : 1001 * (B + 1) ≤ 17592186044416) :
  Spec Tryz.prog 48 [.agg #[.int .i64 r, .int .i64 c, s]] V fun v' V' => v' = .bool (stoB r c L) := by
 obtain ⟨A, cp, rfl, hc, hm⟩ := h.form
 refine (Spec.enterR Tryz.func48 rfl fun Γ hΓ => ?_)
 simp only [Tryz.ntmps48, List.map_cons, List.map_nil, List.length_cons, List.length_nil, Nat.reduceAdd, Nat.reduceSub, List.replicate_succ, List.replicate_zero, List.cons_append, List.nil_append]
 refine Gx.a (by kernel_rfl) fun K hK => ?_
 simp only [XA, XB]
 refine hK _ ?_
 refine XWP.seq ?_
 refine Gx.a (by kernel_rfl) fun K hK => ?_
 simp only [XM, XA, Nat.reduceAdd, Nat.reduceLeDiff, ↓reduceIte]
 refine call_go (by kernel_rfl) rfl (cmright_c _ _ _ _ L h f (by omega)) fun v1 V1 hV1 h1 => ?_
 subst h1
 cases e1 : matR r c L
 ·simp only [XA, gateX, ↓reduceIte]
  refine hK _ ?_
  refine Gx.t rfl ?_
  refine Gx.a (by kernel_rfl) fun K hK => ?_
  simp only [XA]
  refine st_one shapeT_4 rfl rfl (by simp) ?_
  simp only [XA]
  refine hK _ (XWP.ret ?_)
  try simp only [thenX_ret, inBlockX_ret]
  refine ret_go [.bool false] (by simp [resAll, resV, cellsV, shapeT_4]) ?_
  unfold stoB
  rw [e1]; rfl
 by_cases e2 : r = c
 rotate_left
 ·have b1 : decide (r = c) = false := decide_eq_false e2
  simp only [XM, XA, XB, gateX, ↓reduceIte, beq_self_eq_true, b1]
  refine hK _ ?_
  refine Gx.t rfl ?_
  refine Gx.a (by kernel_rfl) fun K hK => ?_
  simp only [XA]
  refine st_one shapeT_4 rfl rfl (by simp) ?_
  simp only [XA]
  refine hK _ (XWP.ret ?_)
  try simp only [thenX_ret, inBlockX_ret]
  refine ret_go [.bool false] (by simp [resAll, resV, cellsV, shapeT_4]) ?_
  unfold stoB
  rw [e1, b1]; rfl
 subst e2
 have hmat := e1
 unfold matR at e1
 rw [Bool.and_eq_true, decide_eq_true_eq] at e1
 obtain ⟨⟨k1, k2, _, _, k5⟩, ok⟩ := e1
 obtain ⟨n, rfl⟩ : ∃ n : Nat, r = n := ⟨r.toNat, by omega⟩
 have kl : L.length = n * n := by rw [← Int.natCast_mul] at k5; omega
 have hn : n ≤ 60 := by omega
 have hr0 := Raws.rats h ok
 have hlen := qs_len L
 have hQ := hq ok
 have eS : stoB (n : Int) (n : Int) L = (List.range n).all (rowOk (qs L) n) := by
  unfold stoB
  rw [hmat, decide_eq_true rfl, Int.toNat_natCast]; rfl
 rw [eS] at hK
 clear eS hq
 generalize hl : qs L = l at *
 have lln : l.length = n * n := by omega
 simp only [XM, XA, XB, gateX, ↓reduceIte, beq_self_eq_true, decide_true]
 refine hK _ ?_
 refine Gx.f rfl ?_
 refine XWP.skip ?_
 refine XWP.seq ?_
 refine Gx.a (by kernel_rfl) fun K hK => ?_
 simp only [XM, XA, Nat.reduceAdd, Nat.reduceLeDiff, ↓reduceIte]
 refine call_go (by kernel_rfl) rfl (rows_c _ _ _ _) fun v2 V2 hV2 h2 => ?_
 obtain ⟨Bs, eB, rfl, hBs⟩ := h2
 have hr2 := (hr0.up hV1).up hV2
 simp only [XA]
 refine hK _ ?_
 refine XWP.row1 (bx := [_]) fun b2 e2 hb2 _ => ?_
 simp only [List.map_cons, List.map_nil, rowS_v, rowS_p, List.length_nil, List.length_cons, Nat.reduceAdd, Nat.reduceEqDiff, ↓reduceIte]
 refine XWP.row1 (bx := []) fun b1 e1 hb1 _ => ?_
 simp only [List.map_cons, List.map_nil, rowS_v, rowS_p, List.length_nil, List.length_cons, Nat.reduceAdd, ↓reduceIte]
 have n21 := new_ne hb1 (upd_at (fun _ => none) b2 (some ⟨e2, [.bool false], ([.bool false] : List Value).length⟩))
 refine XWP.block (XWP.range hΓ (L := rowsL n n A cp) (I := fun i H' V' => V2.le V' ∧ (∃ u, H' b2 = some ⟨e2, [u], 1⟩) ∧ (List.range i).all (rowOk l n) = true) (Ix := fun H' V' => V2.le V' ∧ H' b2 = some ⟨e2, [.bool false], 1⟩ ∧ (List.range n).all (rowOk l n) = false) rfl (by kernel_rfl) (fun args ha => ?_) (rows_it hBs (by omega) (by omega) (by omega) hc) ?_ (fun r H' V' h => h.1) (fun _ _ h => h.1) ?_ ?_ ?_)
 ·obtain ⟨r, _, rfl⟩ := List.mem_map.1 ha
  rfl
 ·exact ⟨View.le_refl _, ⟨_, (upd_off n21).trans (upd_at _ _ _)⟩, rfl⟩
 ·rintro Γ' i args H' V' hL ⟨hV', ⟨u, hu⟩, hall⟩
  have hi : i < n := by
   have := (List.getElem?_eq_some_iff.1 hL).1
   rwa [rowsL_len] at this
  rw [rowsL_get hi] at hL
  cases hL
  have hle3 : (i + 1) * n ≤ l.length := by rw [lln]; exact Nat.mul_le_mul_right n (by omega)
  have hrow : Rats V' (sliceV A cp 3 (i * n) ((i + 1) * n)) ((l.take ((i + 1) * n)).drop (i * n)) := Rats.up (SlAt.drop (SlAt.take (by have := hr2; rw [hlen] at *; exact this) hle3) (by rw [List.length_take, Nat.min_eq_left hle3]; exact Nat.mul_le_mul_right n (by omega))) hV'
  have hrl := row_len lln hi
  have hcf : ∀ k, k < n → cf ((l.take ((i + 1) * n)).drop (i * n)) k = cf l (i * n + k) := fun k hk => cf_row lln hi hk
  have hQr : ∀ x ∈ (l.take ((i + 1) * n)).drop (i * n), QB B x := fun x hx => hQ x (List.mem_of_mem_take (List.mem_of_mem_drop hx))
  generalize (l.take ((i + 1) * n)).drop (i * n) = R at *
  obtain ⟨A2, c2, es, hc2, hm2⟩ := hrow.form
  rw [es] at hrow ⊢
  clear es
  rw [hrl] at hrow ⊢
  have bad : rowOk l n i = false → (List.range n).all (rowOk l n) = false := fun hb => by
   rw [List.all_eq_false]
   exact ⟨i, List.mem_range.2 hi, by rw [hb]; simp⟩
  simp only [XA, setPs]
  refine Gx.c (by kernel_rfl) fun K hK => ?_
  simp only [XA]
  refine hK _ ?_
  intro Γ''
  refine XWP.block ?_
  refine XWP.cutD 0 (fun s => ∃ (V3 : View), StIs (fun Z => [Z 0,Z 1, .v (.pointer (some ⟨b2, 0, none⟩)), Z 3, .v (.slice A2 n c2), Z 5,Z 6,Z 7,Z 8,Z 9,Z 10,Z 11,Z 12,Z 13,Z 14,Z 15,Z 16,Z 17,Z 18,Z 19,Z 20,Z 21,Z 22,Z 23,Z 24,Z 25,Z 26,Z 27,Z 28,Z 29,Z 30,Z 31,Z 32,Z 33,Z 34]) [] H' V3 s ∧ V'.le V3 ∧ (List.range n).all (fun k => !ng (cf l (i * n + k))) = true) ?_ ?_
  ·refine Gx.a (by kernel_rfl) fun K hK => ?_
   simp only [XA, XB]
   refine hK _ ?_
   clear hK
   refine XWP.block ?_
   refine XWP.loopD 0 (fun q s => ∃ (k : Nat) (V3 : View), StIs (fun Z => [Z 0,Z 1, .v (.pointer (some ⟨b2, 0, none⟩)), Z 3, .v (.slice A2 n c2), Z 5,Z 6,Z 7,Z 8,Z 9,Z 10,Z 11,Z 12,Z 13,Z 14,Z 15,Z 16,Z 17,Z 18,Z 19,Z 20, .v (.slice A2 n c2), .v (.int .i64 (n : Int)), .v (.int .i64 (k : Int)), Z 24,Z 25,Z 26,Z 27,Z 28,Z 29,Z 30,Z 31,Z 32,Z 33,Z 34]) [] H' V3 s ∧ q + k = n ∧ V'.le V3 ∧ (List.range k).all (fun k => !ng (cf l (i * n + k))) = true) n ⟨0, V', StIs.of (by exact rfl), by omega, View.le_refl _, rfl⟩ ?_
   rintro q s ⟨k, V3, hs, hq, hV3, hk⟩
   obtain ⟨z, rfl⟩ := hs.out
   try dsimp only
   clear hs
   by_cases hkn : k < n
   rotate_left
   ·obtain rfl : k = n := by omega
    have b3 : decide ((k : Int) < (k : Int)) = false := decide_eq_false (by omega)
    refine Gx.a (by kernel_rfl) fun K hK => ?_
    simp only [XA, XB, b3]
    refine hK _ ?_
    refine XWP.seq (Gx.f rfl ?_)
    refine XWP.exit ?_
    exact fun f => ⟨V3, StIs.of (by exact rfl), hV3, hk⟩
   have b3 : decide ((k : Int) < (n : Int)) = true := decide_eq_true (by omega)
   refine Gx.a (by kernel_rfl) fun K hK => ?_
   simp only [XA, XB, b3]
   refine hK _ ?_
   refine XWP.seq (Gx.t rfl ?_)
   refine XWP.skip ?_
   have hrow3 := hrow.up hV3
   obtain ⟨bb, oo, rfl⟩ := SlAt.addr hrow3 (by omega)
   obtain ⟨m3, n3, d3, hx, ⟨p1, p2, p3⟩, hld⟩ := Rats.get hrow3 k (by omega)
   obtain ⟨xx, yy, ev, _, _⟩ := hx.form
   cases ev
   rw [hcf k hkn] at hx hld p1
   refine XWP.seq ?_
   refine XWP.block ?_
   refine Gx.a (by kernel_rfl) fun K hK => ?_
   simp only [XA, XB]
   refine ⟨by omega, by omega, ld_mem (hld _) ?_⟩
   simp only [XA, XB]
   refine st_rat rfl rfl p1 p2 p3 ?_
   simp only [XA]
   refine hK _ ?_
   cases hng : ng (cf l (i * n + k))
   ·refine Gx.a (by kernel_rfl) fun K hK => ?_
    simp only [XA, XB]
    refine hK _ ?_
    refine Gx.f rfl ?_
    refine XWP.skip ?_
    refine Gx.c (by kernel_rfl) fun K hK => ?_
    simp only [XA, XB, i64_succ k (by omega)]
    exact hK _ ⟨q - 1, by omega, fun f => ⟨k + 1, V3, StIs.of (by exact rfl), by omega, hV3, by rw [List.range_succ, List.all_append, hk]; simp [hng]⟩⟩
   ·refine Gx.a (by kernel_rfl) fun K hK => ?_
    simp only [XA, XB]
    refine hK _ ?_
    refine Gx.t rfl ?_
    refine Gx.a (by kernel_rfl) fun K hK => ?_
    simp only [XA]
    refine st_row shapeT_4 rfl rfl hu (by simp) ?_
    simp only [XA]
    refine hK _ (XWP.ret ?_)
    try simp only [thenX_ret, inBlockX_ret]
    refine ⟨View.le_trans hV' hV3, upd_at _ _ _, bad ?_⟩
    unfold rowOk
    have : ((List.range n).all fun k => !ng (cf l (i * n + k))) = false := by
     rw [List.all_eq_false]
     exact ⟨k, List.mem_range.2 hkn, by rw [hng]; simp⟩
    rw [this]; rfl
  rintro s ⟨V3, hs, hV3, hall2⟩
  obtain ⟨z, rfl⟩ := hs.out
  try dsimp only
  clear hs
  have hrow3 := hrow.up hV3
  refine Gx.a (by kernel_rfl) fun K hK => ?_
  simp only [XA]
  refine call_go (by kernel_rfl) rfl (qsum_c _ _ _ B hrow3 hQr (by omega) hB) fun v4 V4 hV4 h4 => ?_
  rw [hrl] at h4
  have esum : sumL R n = Sm (fun k => cf l (i * n + k)) n := Sm_congr n fun k hk => hcf k hk
  have qsum : QF (sumL R n) := (sumL_QB hQr n (by omega)).qf (Nat.le_trans (Nat.mul_le_mul_right _ (show n ≤ 1001 by omega)) hB)
  simp only [XA]
  refine call_go (by kernel_rfl) rfl (qone_c _) fun v5 V5 hV5 h5 => ?_
  simp only [XA]
  refine call_go (by kernel_rfl) rfl (qsame_c _ _ _ _ _ (h4.mono hV5) h5 qsum QF_one) fun v6 V6 hV6 h6 => ?_
  subst h6
  rw [esum]
  have hle6 := View.le_trans hV' (View.le_trans hV3 (View.le_trans hV4 (View.le_trans hV5 hV6)))
  by_cases hs1 : Sm (fun k => cf l (i * n + k)) n = 1
  ·have b3 : decide (Sm (fun k => cf l (i * n + k)) n = 1) = true := decide_eq_true hs1
   simp only [XA, b3]
   refine hK _ ?_
   refine Gx.f rfl ?_
   refine XWP.skip ?_
   refine ⟨hle6, ⟨u, hu⟩, ?_⟩
   rw [List.range_succ, List.all_append, hall]
   have : rowOk l n i = true := by unfold rowOk; rw [hall2, b3]; rfl
   simp [this]
  ·have b3 : decide (Sm (fun k => cf l (i * n + k)) n = 1) = false := decide_eq_false hs1
   simp only [XA, b3]
   refine hK _ ?_
   refine Gx.t rfl ?_
   refine Gx.a (by kernel_rfl) fun K hK => ?_
   simp only [XA]
   refine st_row shapeT_4 rfl rfl hu (by simp) ?_
   simp only [XA]
   refine hK _ (XWP.ret ?_)
   try simp only [thenX_ret, inBlockX_ret]
   refine ⟨hle6, upd_at _ _ _, bad ?_⟩
   unfold rowOk
   rw [b3, Bool.and_false]
 ·rintro H' V' ⟨hV', ⟨u, hu⟩, hall⟩
  rw [rowsL_len] at hall
  refine Gx.a (by kernel_rfl) fun K hK => ?_
  simp only [XA]
  refine st_row shapeT_4 rfl rfl hu (by simp) ?_
  simp only [XA]
  refine hK _ (XWP.ret ?_)
  try simp only [thenX_ret, inBlockX_ret]
  refine ret_go [.bool true] (by simp [resAll, resV, cellsV, shapeT_4, upd_at]) ?_
  rw [hall]; rfl
 ·rintro H' V' ⟨hV', hu, hbad⟩
  try simp only [thenX_ret, inBlockX_ret]
  refine ret_go [.bool false] (by simp [resAll, resV, cellsV, shapeT_4, hu]) ?_
  rw [hbad]; rfl
end Go.Proofs.YtobjjdnfgamgcaaGreat
end
section
namespace Go.Proofs.YtobjjdnfgamgcaaGreat

end Go.Proofs.YtobjjdnfgamgcaaGreat
end
section
namespace Go.Proofs.YtobjjdnfgamgcaaGreat
open Go Go.RowKit
section
variable {P : Program} {b : Frame} {a : Act} {k : List Item} {cs : List Frame} {w : World}
end
end Go.Proofs.YtobjjdnfgamgcaaGreat
end
section
namespace Go.Proofs.YtobjjdnfgamgcaaGreat

end Go.Proofs.YtobjjdnfgamgcaaGreat
end
section
namespace Go.Proofs.YtobjjdnfgamgcaaGreat
open Go Go.RowKit
attribute [local irreducible] XWP Spec SpecO XPub XCall seqX clX apX stX ldX iaX slX

theorem own_rw {H : Heap} {o : Option (Nat × Row)} {e n : Nat} {v : Value} {cells : List Value} (h : Own (addRow (fun _ => none) o) e 3 v n cells) (hn : 1 ≤ n) : ∃ g cap, v = .slice (some ⟨g, 0, none⟩) n cap ∧ o = some (g, ⟨e, cells, cap * 3⟩) ∧ addRow H o g = some ⟨e, cells, cap * 3⟩ ∧ n ≤ cap ∧ cap ≤ maxLen := by
 rcases own_parts h with ⟨_, h0, _⟩ | ⟨g, cap, rfl, hg, hle, hcap, _⟩
 ·omega
 ·cases o with
  | none => cases hg
  | some q =>
   obtain ⟨g', r⟩ := q
   simp only [addRow, upd] at hg
   split at hg
   ·rename_i e'
    subst e'
    cases hg
    exact ⟨g, cap, rfl, rfl, upd_at _ _ _, hle, hcap⟩
   ·cases hg
theorem own_any {H : Heap} {o : Option (Nat × Row)} {e n : Nat} {v : Value} {cells : List Value} (h : Own (addRow (fun _ => none) o) e 3 v n cells) : Own (addRow H o) e 3 v n cells := by
 rcases Nat.eq_zero_or_pos n with h0 | h0
 ·rcases own_parts h with ⟨rfl, _, rfl⟩ | ⟨g, cap, rfl, hg, hle, hcap, hl⟩
  ·rw [h0]; exact own_nil
  ·cases o with
   | none => cases hg
   | some q =>
    obtain ⟨g', r⟩ := q
    simp only [addRow, upd] at hg
    split at hg
    ·rename_i e'
     subst e'
     cases hg
     exact ⟨hl, .inr ⟨g, cap, rfl, upd_at _ _ _, hle, hcap⟩⟩
    ·cases hg
 ·obtain ⟨g, cap, rfl, _, h2, h3, h4⟩ := own_rw (H := H) h h0
  exact ⟨h.1, .inr ⟨g, cap, rfl, h2, h3, h4⟩⟩
theorem addRow_only {o : Option (Nat × Row)} {g : Nat} {r : Row} (h : addRow (fun _ => none) o g = some r) : o = some (g, r) := by
 cases o with
 | none => cases h
 | some q =>
  obtain ⟨g', r'⟩ := q
  simp only [addRow, upd] at h
  split at h
  ·rename_i e'
   subst e'; cases h; rfl
  ·cases h
theorem addRow_off {H : Heap} {o : Option (Nat × Row)} {b : Nat} {r : Row} (hb : H b = some r) (hs : ∀ g q, o = some (g, q) → H g = none) : addRow H o b = some r := by
 cases o with
 | none => exact hb
 | some q =>
  obtain ⟨g, q⟩ := q
  have := hs g q rfl
  simp only [addRow, upd]
  rw [if_neg fun e => by rw [e, this] at hb; cases hb]; exact hb
theorem splice_all {a b c x y z : Value} : splice [a, b, c] 0 [x, y, z] = [x, y, z] := by unfold splice; simp
def eM (l : List Rat) (n : Nat) : Nat → Nat → Bool := fun a b => decide (cf l (a * n + b) ≠ 0)
theorem ldH1 {H : Heap} {V : View} {b e tot : Nat} {cells : List Value} (h : H b = some ⟨e, cells, tot⟩) {i t m : Nat} {u : Value} (hu : cells[i]? = some u) (ht : shapeT Tryz.prog t = some (false, m)) : Loads Tryz.prog H V t b i u :=
 ⟨false, m, ht, .inr ⟨rfl, .inl ⟨_, h, hu⟩⟩⟩
theorem app_keep {H H' : Heap} {V : View} {e sz n : Nat} {v v' : Value} {xs : List Value} (h : AppRes H V e sz v n xs v' H') {b : Nat} {r : Row} (hb : H b = some r) (hv : v.ownBlock ≠ some b) : H' b = some r ∧ v'.ownBlock ≠ some b := by
 obtain ⟨_, h2, h3⟩ := h
 have : v'.ownBlock ≠ some b := fun e => by
  rcases h3 b e with h4 | ⟨h4, _⟩
  ·exact hv h4
  ·rw [hb] at h4; cases h4
 exact ⟨by rw [h2 b this]; exact hb, this⟩

section
variable {α : Type} {sz : Nat} {E : View → List Value → α → Prop}
def ElKOk (E : View → List Value → α → Prop) : Prop := ∀ V V' cs x, V.le V' → E V cs x → E V' cs x
def ElK (sz : Nat) (E : View → List Value → α → Prop) (V : View) (cs : List Value) (x : α) : Prop := cs.length = sz ∧ cs.all isOne = true ∧ E V cs x
def SlK (sz : Nat) (E : View → List Value → α → Prop) (V : View) (v : Value) (xs : List α) : Prop :=
 ∃ A c, v = .slice A xs.length c ∧ xs.length ≤ c ∧ c ≤ 9223372036854775807 ∧ (xs = [] ∨ ∃ b o arr ty fr, A = some ⟨b, o, none⟩ ∧ V b = some (.cells arr ty fr) ∧ ∀ i x, xs[i]? = some x → ∃ cs, ElK sz E V cs x ∧ ∀ j u, cs[j]? = some u → arr[o + i * sz + j]? = some u)
def RowK (sz : Nat) (E : View → List Value → α → Prop) (V : View) (cells : List Value) (xs : List α) : Prop :=
 cells.length = xs.length * sz ∧ ∀ i x, xs[i]? = some x → ∃ cs, ElK sz E V cs x ∧ ∀ j u, cs[j]? = some u → cells[i * sz + j]? = some u
theorem ElK.mono (hE : ElKOk E) {V V' : View} {cs : List Value} {x : α} (h : ElK sz E V cs x) (hV : V.le V') : ElK sz E V' cs x := ⟨h.1, h.2.1, hE V V' cs x hV h.2.2⟩
theorem SlK.nil (V : View) : SlK sz E V (.slice none 0 0) [] := ⟨none, 0, rfl, Nat.le_refl _, by omega, .inl rfl⟩
theorem SlK.mono (hE : ElKOk E) {V V' : View} {v : Value} {xs : List α} (h : SlK sz E V v xs) (hV : V.le V') : SlK sz E V' v xs := by
 obtain ⟨A, c, e, h1, h2, h3⟩ := h
 refine ⟨A, c, e, h1, h2, h3.imp id ?_⟩
 rintro ⟨b, o, arr, ty, fr, e1, e2, h4⟩
 refine ⟨b, o, arr, ty, fr, e1, hV _ _ e2, fun i x hx => ?_⟩
 obtain ⟨cs, k1, k2⟩ := h4 i x hx
 exact ⟨cs, k1.mono hE hV, k2⟩
theorem SlK.form {V : View} {v : Value} {xs : List α} (h : SlK sz E V v xs) : ∃ A c, v = .slice A xs.length c ∧ xs.length ≤ c ∧ c ≤ 9223372036854775807 := by
 obtain ⟨A, c, e, h1, h2, _⟩ := h
 exact ⟨A, c, e, h1, h2⟩
theorem SlK.one {V : View} {v : Value} {xs : List α} (h : SlK sz E V v xs) : isOne v = true := by
 obtain ⟨A, c, rfl, _⟩ := h.form; rfl
theorem SlK.addr {V : View} {A : Option Addr} {n c : Nat} {xs : List α} (h : SlK sz E V (.slice A n c) xs) (h0 : 0 < xs.length) : ∃ b o, A = some ⟨b, o, none⟩ := by
 obtain ⟨A', c', e, _, _, h3⟩ := h
 cases e
 rcases h3 with rfl | ⟨b, o, arr, ty, fr, e1, _⟩
 ·simp at h0
 ·exact ⟨b, o, e1⟩
theorem SlK.get {V : View} {b o n c : Nat} {xs : List α} (h : SlK sz E V (.slice (some ⟨b, o, none⟩) n c) xs) (i : Nat) (hi : i < xs.length) : ∃ cs, ElK sz E V cs xs[i] ∧ ∀ H j u, cs[j]? = some u → CellAt H V b (o + i * sz + j) u := by
 obtain ⟨A', c', e, _, _, h3⟩ := h
 cases e
 rcases h3 with rfl | ⟨b', o', arr, ty, fr, e1, e2, h4⟩
 ·simp at hi
 ·cases e1
  obtain ⟨cs, k1, k2⟩ := h4 i xs[i] (List.getElem?_eq_getElem hi)
  exact ⟨cs, k1, fun H j u hj => .inr ⟨_, _, _, e2, k2 j u hj⟩⟩
theorem RowK.nil (V : View) : RowK sz E V [] ([] : List α) := ⟨by simp, fun i x h => by simp at h⟩
theorem RowK.mono (hE : ElKOk E) {V V' : View} {cells : List Value} {xs : List α} (h : RowK sz E V cells xs) (hV : V.le V') : RowK sz E V' cells xs :=
 ⟨h.1, fun i x hx => by obtain ⟨cs, k1, k2⟩ := h.2 i x hx; exact ⟨cs, k1.mono hE hV, k2⟩⟩
theorem RowK.snoc {V : View} {cells cs : List Value} {xs : List α} {x : α} (h : RowK sz E V cells xs) (hc : ElK sz E V cs x) : RowK sz E V (cells ++ cs) (xs ++ [x]) := by
 have hl := h.1
 refine ⟨by rw [List.length_append, List.length_append, hl, hc.1, List.length_singleton, Nat.add_mul, Nat.one_mul], fun i y hy => ?_⟩
 by_cases hi : i < xs.length
 ·rw [List.getElem?_append_left hi] at hy
  obtain ⟨ds, k1, k2⟩ := h.2 i y hy
  refine ⟨ds, k1, fun j u hj => ?_⟩
  have := (List.getElem?_eq_some_iff.1 (k2 j u hj)).1
  rw [List.getElem?_append_left this]; exact k2 j u hj
 ·have hlt := (List.getElem?_eq_some_iff.1 hy).1
  rw [List.length_append, List.length_singleton] at hlt
  have e : i = xs.length := by omega
  subst e
  rw [List.getElem?_append_right (Nat.le_refl _), Nat.sub_self] at hy
  have e : x = y := by simpa using hy
  subst e
  refine ⟨cs, hc, fun j u hj => ?_⟩
  rw [List.getElem?_append_right (by omega), hl, Nat.add_sub_cancel_left]; exact hj
theorem RowK.pub (hE : ElKOk E) {V : View} {b n e c : Nat} {o : Obj} {cells : List Value} {xs : List α} (h : RowK sz E V cells xs) (ho : RowObj ⟨e, cells, c * sz⟩ o) (hle : V.le (addV V b o)) (hn : xs.length = n) (hc : n ≤ c) (hm : c ≤ 9223372036854775807) : SlK sz E (addV V b o) (.slice (some ⟨b, 0, none⟩) n c) xs := by
 obtain ⟨ex, rfl, _⟩ := ho
 refine ⟨some ⟨b, 0, none⟩, c, by rw [hn], by omega, hm, .inr ⟨b, 0, _, _, _, rfl, addV_at V b _, fun i x hx => ?_⟩⟩
 obtain ⟨cs, k1, k2⟩ := h.2 i x hx
 refine ⟨cs, k1.mono hE hle, fun j u hj => ?_⟩
 have h1 := k2 j u hj
 have := (List.getElem?_eq_some_iff.1 h1).1
 rw [Nat.zero_add, List.getElem?_toArray, List.getElem?_append_left this]; exact h1
theorem XWP.pubK {Γ : Cx} {P : Program} {Q : Exit → XS → Prop} {t : List SV} {bx : List (List Value)} {H : Heap} {V : View} (hE : ElKOk E) (hsz : 0 < sz) {c : Code} {e n : Nat} {v : Value} {cells : List Value} {l : List α} (hown : Own H e sz v n cells) (hrow : RowK sz E V cells l) (h : ∀ H' V', V.le V' → SlK sz E V' v l → (∀ k, v.ownBlock ≠ some k → H' k = H k) → XWP Γ P c Q ⟨t, bx, H', V'⟩) : XWP Γ P c Q ⟨t, bx, H, V⟩ := by
 have h1 := hown.1
 have h2 := hrow.1
 have hl : l.length = n := Nat.eq_of_mul_eq_mul_right hsz (by omega)
 rcases own_parts hown with ⟨rfl, h0, _⟩ | ⟨g, cap, rfl, hg, hle, hcap, _⟩
 ·refine h H V (View.le_refl _) ?_ fun _ _ => rfl
  rw [List.length_eq_zero_iff.1 (show l.length = 0 by omega)]; exact SlK.nil V
 ·refine XWP.pub g _ hg fun o ho hle' => h _ _ hle' (hrow.pub hE ho hle' hl hle (by unfold maxLen at hcap; omega)) fun k hk => ?_
  exact upd_off fun e => hk (by rw [e]; rfl)
end
theorem srcK {H : Heap} {V : View} {b e tot : Nat} {cs : List Value} (hr : H b = some ⟨e, cs, tot⟩) (h1 : cs.all isOne = true) : Src H V cs.length (.slice (some ⟨b, 0, none⟩) 1 1) 1 cs :=
 ⟨_, _, rfl, by omega, fun u hu => List.all_eq_true.1 h1 u hu, .inr ⟨b, 0, rfl, fun j u hj => .inl ⟨_, hr, by rw [Nat.zero_add]; exact hj⟩⟩⟩
theorem loadsK {H : Heap} {V : View} {b off n t : Nat} {cs : List Value} (ht : shapeT Tryz.prog t = some (true, n)) (hl : cs.length = n) (h : ∀ j u, cs[j]? = some u → CellAt H V b (off + j) u) : Loads Tryz.prog H V t b off (.agg cs.toArray) := ⟨true, n, ht, .inl ⟨rfl, cs, hl, h, rfl⟩⟩
theorem loads1 {H : Heap} {V : View} {b off t m : Nat} {u : Value} (ht : shapeT Tryz.prog t = some (false, m)) (h : CellAt H V b off u) : Loads Tryz.prog H V t b off u := ⟨false, m, ht, .inr ⟨rfl, h⟩⟩
theorem fold_set : ∀ (l : List Value) (n : Nat) (acc : Array Value), n + l.length = acc.size → ((l.zipIdx n).foldl (fun (a : Array Value) (p : Value × Nat) => a.setIfInBounds (0 + p.2) p.1) acc).toList = acc.toList.take n ++ l
 | [], n, acc, h => by
  have : acc.toList.length = n := by simp at h ⊢; omega
  simp [List.take_of_length_le (show acc.toList.length ≤ n by omega)]
 | x :: l, n, acc, h => by
  rw [List.zipIdx_cons, List.foldl_cons, fold_set l (n + 1) _ (by simp at h ⊢; omega)]
  have hn : n < acc.toList.length := by simp at h ⊢; omega
  rw [Nat.zero_add, Array.toList_setIfInBounds]
  rw [List.take_add_one, List.take_set_of_le (Nat.le_refl _), List.getElem?_set_self hn]
  simp
theorem fill_whole {place : Nat → Option (Nat × Nat)} {cells : Array Value} {i : Nat} {cs : List Value} {rest : List (Nat × Value)} (hp : place i = some (0, cs.length)) (hs : cells.size = cs.length) : Instr.fill place cells ((i, .agg cs.toArray) :: rest) = Instr.fill place cs.toArray rest := by
 have h1 : (Value.agg cs.toArray).cells = cs.toArray := rfl
 have h2 : cs.toArray.zipIdx.foldl (fun (a : Array Value) (p : Value × Nat) => a.setIfInBounds (0 + p.2) p.1) cells = cs.toArray := by
  refine Array.toList_inj.1 ?_
  rw [← Array.foldl_toList, Array.toList_zipIdx]
  have := fold_set cs 0 cells (by omega)
  simpa using this
 conv => lhs; rw [Instr.fill]
 simp only [hp, h1]
 rw [if_neg (by simp; omega)]
 exact congrArg (fun a => Instr.fill place a rest) h2
theorem bs_agg {t e n by_ : Nat} {z cs : List Value} (he : elemT Tryz.prog t = some e) (hz : zeroT Tryz.prog e = some (z, n, by_)) (hn : z.length = n) (h0 : 0 < n) (h1 : n ≤ 16777216) (hl : cs.length = n) : BuildsSlice Tryz.prog t 1 #[(0, .agg cs.toArray)] e cs := by
 obtain ⟨i, zv, hi, hzv, e1, e2, _⟩ := zero_parts hz
 have hsz : zv.cells.size = n := by rw [← Array.length_toList, e1, hn]
 refine bs_run (cells := cs.toArray) he hi hzv (by omega) (by omega) ?_
 rw [e2]
 have hm : (madeCells zv.cells (1 * n)).size = cs.length := by
  rw [← Array.length_toList, made_flat _ n hsz h0]; simp [e1, hn, hl]
 rw [show ([(0, Value.agg cs.toArray)] : List (Nat × Value)) = (0, .agg cs.toArray) :: [] from rfl]
 exact (fill_whole (by simp [hl]) hm).trans rfl
theorem sgI_pos {q : Rat} (h : 0 < q) : sgI q = 1 := by
 unfold sgI
 rw [if_neg (fun e => by rw [e] at h; exact absurd h (by decide)), if_neg]
 intro hn
 have := of_decide_eq_true hn
 have h2 := Rat.num_nonneg.2 (Rat.le_of_lt h)
 omega
theorem sgI_neg' {q : Rat} (h : q < 0) : sgI q = -1 := by
 unfold sgI
 rw [if_neg (fun e => by rw [e] at h; exact absurd h (by decide)), if_pos]
 refine decide_eq_true ?_
 have : ¬ 0 ≤ q.num := fun h' => absurd (Rat.num_nonneg.1 h') (Rat.not_le.2 h)
 omega
theorem sgI_sub (p q : Rat) : sgI (p - q) = if p < q then -1 else if q < p then 1 else 0 := by
 split
 ·exact sgI_neg' (by grind)
 ·split
  ·exact sgI_pos (by grind)
  ·have : p - q = 0 := by grind
   unfold sgI; rw [if_pos this]
theorem cmp_sign {p q : Rat} (h : sgI p = sgI q) : sgI p * cmpI (p.num.natAbs * q.den) (q.num.natAbs * p.den) = sgI (p - q) := by
 have hp := sgI_abs p
 have hq := sgI_abs q
 have l1 : p < q ↔ p.num * (q.den : Int) < q.num * (p.den : Int) := Rat.lt_iff p q
 have l2 : q < p ↔ q.num * (p.den : Int) < p.num * (q.den : Int) := Rat.lt_iff q p
 rw [hp, hq, ← h, Int.mul_assoc, Int.mul_assoc, ← Int.natCast_mul, ← Int.natCast_mul] at l1 l2
 rw [sgI_sub]
 generalize p.num.natAbs * q.den = x at *
 generalize q.num.natAbs * p.den = y at *
 unfold cmpI
 rcases sgI_val p with e | e | e <;> rw [e] at l1 l2 ⊢
 ·rw [Int.zero_mul, if_neg (fun h => by have := l1.1 h; omega), if_neg (fun h => by have := l2.1 h; omega)]
 ·by_cases c1 : x < y
  ·rw [if_pos c1, if_pos (l1.2 (by omega))]; rfl
  ·by_cases c2 : y < x
   ·rw [if_neg c1, if_pos c2, if_neg (fun h => by have := l1.1 h; omega), if_pos (l2.2 (by omega))]; rfl
   ·rw [if_neg c1, if_neg c2, if_neg (fun h => by have := l1.1 h; omega), if_neg (fun h => by have := l2.1 h; omega)]; rfl
 ·by_cases c1 : x < y
  ·rw [if_pos c1, if_neg (fun h => by have := l1.1 h; omega), if_pos (l2.2 (by omega))]; rfl
  ·by_cases c2 : y < x
   ·rw [if_neg c1, if_pos c2, if_pos (l1.2 (by omega))]; rfl
   ·rw [if_neg c1, if_neg c2, if_neg (fun h => by have := l1.1 h; omega), if_neg (fun h => by have := l2.1 h; omega)]; rfl
theorem sgI_lt_sub {p q : Rat} (h : sgI p < sgI q) : sgI (p - q) = -1 := by
 rw [sgI_sub, if_pos]
 refine Classical.byContradiction fun hn => ?_
 have hle : q ≤ p := Rat.not_lt.1 hn
 by_cases h1 : 0 < p
 ·rw [sgI_pos h1] at h; rcases sgI_val q with e | e | e <;> omega
 ·by_cases h2 : q < 0
  ·rw [sgI_neg' h2] at h; rcases sgI_val p with e | e | e <;> omega
  ·have e1 : p = 0 := by grind
   have e2 : q = 0 := by grind
   rw [e1, e2] at h; omega
theorem sgI_gt_sub {p q : Rat} (h : sgI q < sgI p) : sgI (p - q) = 1 := by
 have h1 := sgI_lt_sub h
 rw [sgI_sub] at h1 ⊢
 split at h1
 ·rename_i hlt
  rw [if_neg (by grind), if_pos hlt]
 ·split at h1 <;> cases h1
theorem qcmp_c (V : View) (v u : Value) (p q : Rat) (hv : RatC V v p) (hu : RatC V u q) (fp : QF p) (fq : QF q) : Spec Tryz.prog 50 [v, u] V fun v' V' => v' = .int .i64 (sgI (p - q)) := by
 have hv0 := hv
 have hu0 := hu
 obtain ⟨n1, d1, rfl, hn1, hd1⟩ := hv
 obtain ⟨n2, d2, rfl, hn2, hd2⟩ := hu
 refine (Spec.enter Tryz.func50 rfl fun Γ => ?_)
 simp only [Tryz.ntmps50, List.map_cons, List.map_nil, List.length_cons, List.length_nil, Nat.reduceAdd, Nat.reduceSub, List.replicate_succ, List.replicate_zero, List.cons_append, List.nil_append]
 refine Gx.a (by kernel_rfl) fun K hK => ?_
 simp only [XA]
 refine hK _ ?_
 (refine XWP.drw [0, 2, 1, 3, 4, 5] (by kernel_rfl) (by kernel_rfl) (by kernel_rfl) fun K hK => ?_) <;> dsimp only [pickOps, List.getElem?_cons_zero, List.getElem?_cons_succ]
 simp only [XA, XB, Nat.reduceAdd, Nat.reduceLeDiff, ↓reduceIte]
 refine call_go (by kernel_rfl) rfl (qsign_c _ _ _ hv0) fun v1 V1 hV1 h1 => ?_
 subst h1
 simp only [XA]
 refine call_go (by kernel_rfl) rfl (qsign_c _ _ _ (hu0.mono hV1)) fun v2 V2 hV2 h2 => ?_
 subst h2
 simp only [XA]
 refine hK _ ?_
 have hV := View.le_trans hV1 hV2
 refine XWP.cut (fun s => StIs (fun Z => [Z 0,Z 1, .p 0 0, .p 1 0, Z 4, .v (.int .i64 (sgI p)), .v (.int .i64 (sgI q)), Z 7,Z 8,Z 9,Z 10,Z 11,Z 12,Z 13,Z 14,Z 15,Z 16,Z 17,Z 18,Z 19,Z 20,Z 21,Z 22,Z 23,Z 24,Z 25,Z 26,Z 27,Z 28,Z 29,Z 30,Z 31]) [[.bool (ng p), n1, d1], [.bool (ng q), n2, d2]] (fun _ => none) V2 s ∧ sgI p = sgI q) ?_ ?_
 ·refine XWP.block ?_
  by_cases k1 : sgI p < sgI q
  ·have b1 : decide (sgI p < sgI q) = true := decide_eq_true k1
   refine Gx.a (by kernel_rfl) fun K hK => ?_
   simp only [XA, XB, b1]
   refine hK _ ?_
   refine Gx.t rfl ?_
   refine Gx.a (by kernel_rfl) fun K hK => ?_
   simp only [XA]
   refine hK _ (XWP.ret ?_)
   try simp only [thenX_ret, inBlockX_ret]
   refine ret_go _ rfl ?_
   rw [sgI_lt_sub k1]; rfl
  have b1 : decide (sgI p < sgI q) = false := decide_eq_false k1
  by_cases k2 : sgI q < sgI p
  ·have b2 : decide (sgI q < sgI p) = true := decide_eq_true k2
   refine Gx.a (by kernel_rfl) fun K hK => ?_
   simp only [XA, XB, b1]
   refine hK _ ?_
   refine Gx.f rfl ?_
   refine Gx.a (by kernel_rfl) fun K hK => ?_
   simp only [XA, XB, b2]
   refine hK _ ?_
   refine Gx.t rfl ?_
   refine Gx.a (by kernel_rfl) fun K hK => ?_
   simp only [XA]
   refine hK _ (XWP.ret ?_)
   try simp only [thenX_ret, inBlockX_ret]
   refine ret_go _ rfl ?_
   rw [sgI_gt_sub k2]; rfl
  have b2 : decide (sgI q < sgI p) = false := decide_eq_false k2
  refine Gx.a (by kernel_rfl) fun K hK => ?_
  simp only [XA, XB, b1]
  refine hK _ ?_
  refine Gx.f rfl ?_
  refine Gx.a (by kernel_rfl) fun K hK => ?_
  simp only [XA, XB, b2]
  refine hK _ ?_
  refine Gx.f rfl ?_
  refine XWP.skip ?_
  exact ⟨StIs.of (by exact rfl), by omega⟩
 rintro s ⟨hs, hsg⟩
 obtain ⟨z, rfl⟩ := hs.out
 try dsimp only
 (refine XWP.drw [0, 1, 2, 3, 4, 6, 7, 8, 9, 5, 10, 11, 12, 13] (by kernel_rfl) (by kernel_rfl) (by kernel_rfl) fun K hK => ?_) <;> dsimp only [pickOps, List.getElem?_cons_zero, List.getElem?_cons_succ]
 simp only [XA, XB]
 refine call_go (by kernel_rfl) rfl (mul_c _ _ _ _ _ (hn1.mono hV) (hd2.mono hV) fp.fits.1 fq.fits.2) fun v3 V3 hV3 h3 => ?_
 simp only [XA]
 refine call_go (by kernel_rfl) rfl (mul_c _ _ _ _ _ ((hn2.mono hV).mono hV3) ((hd1.mono hV).mono hV3) fq.fits.1 fp.fits.2) fun v4 V4 hV4 h4 => ?_
 simp only [XA]
 refine call_go (by kernel_rfl) rfl (compare_c _ _ _ _ _ (h3.mono hV4) h4) fun v5 V5 hV5 h5 => ?_
 subst h5
 have w : IntKind.i64.wrap (sgI p * cmpI (p.num.natAbs * q.den) (q.num.natAbs * p.den)) = sgI p * cmpI (p.num.natAbs * q.den) (q.num.natAbs * p.den) := by
  rcases sgI_val p with e | e | e <;> rcases cmpI_val (p.num.natAbs * q.den) (q.num.natAbs * p.den) with e' | e' | e' <;> rw [e, e'] <;> exact wrap_id (by omega) (by omega)
 simp only [XA, XB, w]
 refine hK _ (XWP.ret ?_)
 try simp only [thenX_ret, inBlockX_ret]
 refine ret_go _ rfl ?_
 rw [cmp_sign hsg]; rfl
def ltQ (p q : Rat) : Rat := if q < p then q else p
theorem qleast_c (V : View) (v u : Value) (p q : Rat) (hv : RatC V v p) (hu : RatC V u q) (fp : QF p) (fq : QF q) : Spec Tryz.prog 61 [v, u] V fun v' V' => RatC V' v' (ltQ p q) := by
 have hv0 := hv
 have hu0 := hu
 obtain ⟨n1, d1, rfl, hn1, hd1⟩ := hv
 obtain ⟨n2, d2, rfl, hn2, hd2⟩ := hu
 refine (Spec.enter Tryz.func61 rfl fun Γ => ?_)
 simp only [Tryz.ntmps61, List.map_cons, List.map_nil, List.length_cons, List.length_nil, Nat.reduceAdd, Nat.reduceSub, List.replicate_succ, List.replicate_zero, List.cons_append, List.nil_append]
 refine Gx.a (by kernel_rfl) fun K hK => ?_
 simp only [XA, XB, Nat.reduceAdd]
 refine hK _ ?_
 refine XWP.cut (fun s => ∃ (V1 : View) (n d : Value), StIs (fun Z => [Z 0,Z 1, .p 0 0, .p 1 0, .p 2 0, Z 5,Z 6,Z 7,Z 8,Z 9,Z 10,Z 11,Z 12,Z 13,Z 14,Z 15,Z 16]) [[.bool (ng (ltQ p q)), n, d], [.bool (ng q), n2, d2], [.bool false, .slice none 0 0, .slice none 0 0]] (fun _ => none) V1 s ∧ NatC V1 n (ltQ p q).num.natAbs ∧ NatC V1 d (ltQ p q).den ∧ QF (ltQ p q)) ?_ ?_
 ·by_cases hlt : q < p
  ·have b1 : decide (sgI (q - p) < 0) = true := by rw [sgI_sub, if_pos hlt]; rfl
   rw [show ltQ p q = q from if_pos hlt]
   refine Gx.a (by kernel_rfl) fun K hK => ?_
   simp only [XA, XB, Nat.reduceAdd, Nat.reduceLeDiff, ↓reduceIte]
   refine call_go (by kernel_rfl) rfl (qcmp_c _ _ _ _ _ hu0 hv0 fq fp) fun v1 V1 hV1 h1 => ?_
   subst h1
   simp only [XA, XB, b1]
   refine hK _ ?_
   refine Gx.t rfl ?_
   refine Gx.c (by kernel_rfl) fun K hK => ?_
   simp only [XA, XB, Nat.reduceAdd, Nat.reduceLeDiff, ↓reduceIte]
   refine st_rat rfl rfl rfl hn2.one hd2.one ?_
   simp only [XA]
   exact hK _ ⟨V1, n2, d2, StIs.of (by exact rfl), hn2.mono hV1, hd2.mono hV1, fq⟩
  ·have b1 : decide (sgI (q - p) < 0) = false := by
    rw [sgI_sub, if_neg hlt]
    split <;> rfl
   rw [show ltQ p q = p from if_neg hlt]
   refine Gx.a (by kernel_rfl) fun K hK => ?_
   simp only [XA, XB, Nat.reduceAdd, Nat.reduceLeDiff, ↓reduceIte]
   refine call_go (by kernel_rfl) rfl (qcmp_c _ _ _ _ _ hu0 hv0 fq fp) fun v1 V1 hV1 h1 => ?_
   subst h1
   simp only [XA, XB, b1]
   refine hK _ ?_
   refine Gx.f rfl ?_
   refine XWP.skip ?_
   exact ⟨V1, n1, d1, StIs.of (by exact rfl), hn1.mono hV1, hd1.mono hV1, fp⟩
 rintro s ⟨V1, n, d, hs, hn, hd, hf⟩
 obtain ⟨z, rfl⟩ := hs.out
 try dsimp only
 refine Gx.a (by kernel_rfl) fun K hK => ?_
 simp only [XA, XB]
 refine call_go (by kernel_rfl) rfl (qmade_c _ _ _ _ _ _ hn hd hf.fits.1 hf.fits.2) fun v2 V2 hV2 h2 => ?_
 rw [rv_self] at h2
 obtain ⟨x, y, rfl, p1, p2⟩ := h2.form
 simp only [XA]
 refine st_rat rfl rfl rfl p1 p2 ?_
 simp only [XA]
 refine hK _ (XWP.ret ?_)
 try simp only [thenX_ret, inBlockX_ret]
 exact ret_rat1 rfl rfl rfl h2
theorem kby_c (V : View) (v u : Value) (p q : Rat) (hv : RatC V v p) (hu : RatC V u q) (fp : QF p) (fq : QF q) (hq : q ≠ 0) : Spec Tryz.prog 62 [v, u] V fun v' V' => RatC V' v' (p / q) := by
 have hv0 := hv
 have hu0 := hu
 obtain ⟨x1, y1, rfl, o1, o2⟩ := hv.form
 obtain ⟨x2, y2, rfl, o3, o4⟩ := hu.form
 refine (Spec.enter Tryz.func62 rfl fun Γ => ?_)
 simp only [Tryz.ntmps62, List.map_cons, List.map_nil, List.length_cons, List.length_nil, Nat.reduceAdd, Nat.reduceSub, List.replicate_succ, List.replicate_zero, List.cons_append, List.nil_append]
 refine Gx.a (by kernel_rfl) fun K hK => ?_
 simp only [XA, XB, Nat.reduceAdd]
 refine hK _ ?_
 refine Gx.a (by kernel_rfl) fun K hK => ?_
 simp only [XA, XB, Nat.reduceAdd, Nat.reduceLeDiff, ↓reduceIte]
 refine call_go (by kernel_rfl) rfl (qdiv_c _ _ _ _ _ hv0 hu0 fp fq) fun v1 V1 hV1 h1 => ?_
 obtain ⟨w, rfl, h1q⟩ := h1.2 hq
 have h1 : RatC V1 w (p / q) := h1q
 obtain ⟨x, y, rfl, p1, p2⟩ := h1.form
 simp only [XA, XB, Nat.reduceAdd]
 refine st_rat rfl rfl rfl p1 p2 ?_
 simp only [XA]
 refine hK _ ?_
 refine Gx.a (by kernel_rfl) fun K hK => ?_
 simp only [XA, XB, Nat.reduceAdd, Nat.reduceLeDiff, ↓reduceIte]
 refine st_rat rfl rfl rfl p1 p2 ?_
 simp only [XA]
 refine hK _ (XWP.ret ?_)
 try simp only [thenX_ret, inBlockX_ret]
 exact ret_rat1 rfl rfl rfl h1
end Go.Proofs.YtobjjdnfgamgcaaGreat
end
section
namespace Go.Proofs.YtobjjdnfgamgcaaGreat
theorem XU : type_of% (And.intro (And.intro (And.intro (And.intro (@shapeT_66) (And.intro (@fieldT_66_0) (@fieldT_66_1))) (And.intro (@fieldT_66_2) (And.intro (@fieldT_66_3) (@elemT_45)))) (And.intro (And.intro (@kindT_45) (And.intro (@shapeT_45) (@shapeT_51))) (And.intro (@fieldT_51_0) (And.intro (@fieldT_51_1) (@fieldT_51_2))))) (And.intro (And.intro (And.intro (@elemT_22) (And.intro (@kindT_22) (@shapeT_22))) (And.intro (@shapeT_44) (And.intro (@fieldT_44_0) (@fieldT_44_1)))) (And.intro (And.intro (@fieldT_44_2) (And.intro (@shapeT_42) (@fieldT_42_0))) (And.intro (And.intro (@fieldT_42_1) (@fieldT_42_2)) (And.intro (@zeroT_66) (@zeroT_51)))))) := And.intro (And.intro (And.intro (And.intro (@shapeT_66) (And.intro (@fieldT_66_0) (@fieldT_66_1))) (And.intro (@fieldT_66_2) (And.intro (@fieldT_66_3) (@elemT_45)))) (And.intro (And.intro (@kindT_45) (And.intro (@shapeT_45) (@shapeT_51))) (And.intro (@fieldT_51_0) (And.intro (@fieldT_51_1) (@fieldT_51_2))))) (And.intro (And.intro (And.intro (@elemT_22) (And.intro (@kindT_22) (@shapeT_22))) (And.intro (@shapeT_44) (And.intro (@fieldT_44_0) (@fieldT_44_1)))) (And.intro (And.intro (@fieldT_44_2) (And.intro (@shapeT_42) (@fieldT_42_0))) (And.intro (And.intro (@fieldT_42_1) (@fieldT_42_2)) (And.intro (@zeroT_66) (@zeroT_51)))))
end Go.Proofs.YtobjjdnfgamgcaaGreat
end
section
namespace Go.Proofs.YtobjjdnfgamgcaaGreat
open Go Go.RowKit
attribute [local irreducible] XWP Spec SpecO XPub XCall seqX clX apX stX ldX iaX slX
structure Dr where
 site : Int
 index : Int
 odds : Int
 whole : Int
 deriving DecidableEq
def Dr.cells (d : Dr) : List Value := [.int .i64 d.site, .int .i64 d.index, .int .i64 d.odds, .int .i64 d.whole]
def drE : View → List Value → Dr → Prop := fun _ cs d => cs = d.cells
theorem drE_ok : ElKOk drE := fun _ _ _ _ _ h => h
structure Rn where
 kind : Int
 ds : List Dr
 w : Raw
def rnE : View → List Value → Rn → Prop := fun V cs r => ∃ c1 c2 c3 c4 dv m c7 c8, cs = [.int .i64 r.kind, c1, c2, c3, c4, dv, m, c7, c8] ∧ SlK 4 drE V dv r.ds ∧ rawE V (.agg #[m, c7, c8]) r.w
theorem rnE_ok : ElKOk rnE := fun V V' cs r hV ⟨c1, c2, c3, c4, dv, m, c7, c8, e, h1, h2⟩ => ⟨c1, c2, c3, c4, dv, m, c7, c8, e, h1.mono drE_ok hV, rawE_ok _ _ _ _ hV h2⟩
theorem st_whole {P : Program} {t i n : Nat} {s : XS} {ops : Array Oper} {rest : List Oper} {K : XS → Prop} {d : Option Tmp} {cs vs : List Value} (hs : shapeT P t = some (true, n)) (hb : s.bx[i]? = some vs) (hl : vs.length = n) (hc : cs.length = n) (h1 : cs.all isOne = true) (h : seqX P ops rest K (XS.put ⟨s.t, s.bx.set i cs, s.H, s.V⟩ d (.v undef))) : stX P ops rest K s d t (.p i 0) (.v (.agg cs.toArray)) := by
 refine st_agg (cs := cs) hs hb rfl ⟨hc, h1, by omega, ?_⟩
 have : splice vs 0 cs = cs := by
  unfold splice
  simp [show vs.length ≤ cs.length by omega]
 rw [this]; exact h
def Dr.good (d : Dr) : Prop := 0 ≤ d.index ∧ 1 ≤ d.odds ∧ d.odds ≤ d.whole ∧ d.whole ≤ 64000
def pnum (ds : List Dr) : Nat → Nat
 | 0 => 1
 | k + 1 => pnum ds k * ((ds[k]?).map fun d => d.odds.toNat).getD 1
def pden (ds : List Dr) : Nat → Nat
 | 0 => 1
 | k + 1 => pden ds k * ((ds[k]?).map fun d => d.whole.toNat).getD 1
def priorQ (ds : List Dr) : Rat := rv false (pnum ds ds.length) (pden ds ds.length)
theorem prior_sz {ds : List Dr} (h : ∀ d ∈ ds, d.good) : ∀ k, 1 ≤ pnum ds k ∧ pnum ds k ≤ pden ds k ∧ pden ds k ≤ 2 ^ (16 * k)
 | 0 => ⟨Nat.le_refl _, Nat.le_refl _, by simp [pden]⟩
 | k + 1 => by
  obtain ⟨h1, h2, h3⟩ := prior_sz h k
  unfold pnum pden
  cases hk : ds[k]? with
  | none =>
   simp only [Option.map_none, Option.getD_none, Nat.mul_one]
   exact ⟨h1, h2, Nat.le_trans h3 (two_mono (by omega))⟩
  | some d =>
   obtain ⟨g1, g2, g3, g4⟩ := h d (List.mem_of_getElem? hk)
   simp only [Option.map_some, Option.getD_some]
   have e1 : 1 ≤ d.odds.toNat := by omega
   have e2 : d.odds.toNat ≤ d.whole.toNat := by omega
   have e3 : d.whole.toNat ≤ 2 ^ 16 := by omega
   refine ⟨Nat.mul_pos h1 e1, Nat.mul_le_mul h2 e2, ?_⟩
   rw [Nat.mul_add, Nat.mul_one, Nat.pow_add]
   exact Nat.mul_le_mul h3 e3
theorem priorQ_QB {ds : List Dr} (h : ∀ d ∈ ds, d.good) : QB (16 * ds.length) (priorQ ds) := by
 obtain ⟨h1, h2, h3⟩ := prior_sz h ds.length
 exact QB_rv _ (Nat.le_trans h2 h3) h3
set_option maxHeartbeats 1000000 in
set_option maxRecDepth 100000 in
theorem cprior_c (V : View) (cs : List Value) (r : Rn) (hcs : ElK 9 rnE V cs r) (hl : r.ds.length ≤ 100) (hg : ∀ d ∈ r.ds, d.good) : Spec Tryz.prog 104 [.agg cs.toArray] V fun v' V' => ∃ w, v' = .tuple #[w, .int .i64 0] ∧ RatC V' w (priorQ r.ds) := by
 obtain ⟨_, hone, c1, c2, c3, c4, dv, m, c7, c8, rfl, hds, hw⟩ := hcs
 obtain ⟨A, c, rfl, hc, hm⟩ := hds.form
 have hsz := prior_sz hg
 have hfd : ∀ k, k ≤ r.ds.length → Fit (pden r.ds k) := fun k hk => Fit.of_two (hsz k).2.2 (by omega)
 have hfn : ∀ k, k ≤ r.ds.length → Fit (pnum r.ds k) := fun k hk => Fit.of_two (Nat.le_trans (hsz k).2.1 (hsz k).2.2) (by omega)
 refine (Spec.enter Tryz.func104 rfl fun Γ => ?_)
 simp only [Tryz.ntmps104, List.map_cons, List.map_nil, List.length_cons, List.length_nil, Nat.reduceAdd, Nat.reduceSub, List.replicate_succ, List.replicate_zero, List.cons_append, List.nil_append]
 refine Gx.a (by kernel_rfl) fun K hK => ?_
 simp only [XA, XB]
 refine hK _ ?_
 refine Gx.a (by kernel_rfl) fun K hK => ?_
 simp only [XA]
 refine call_go (by kernel_rfl) rfl (of_c _ 1 (by omega)) fun v1 V1 hV1 h1 => ?_
 simp only [XA]
 refine call_go (by kernel_rfl) rfl (of_c _ 1 (by omega)) fun v2 V2 hV2 h2 => ?_
 simp only [XA]
 refine hK _ ?_
 have hds := hds.mono drE_ok (View.le_trans hV1 hV2)
 refine XWP.cutD 2 (fun s => ∃ (V3 : View) (x y : Value), StIs (fun Z => [Z 0, .p 0 0, .p 1 0, Z 3, .v x, .v y, Z 6,Z 7,Z 8,Z 9,Z 10,Z 11,Z 12,Z 13,Z 14,Z 15,Z 16,Z 17,Z 18,Z 19,Z 20,Z 21,Z 22,Z 23,Z 24,Z 25,Z 26,Z 27,Z 28,Z 29,Z 30,Z 31,Z 32,Z 33,Z 34,Z 35,Z 36,Z 37,Z 38,Z 39,Z 40,Z 41,Z 42,Z 43,Z 44,Z 45]) [[.int .i64 r.kind, c1, c2, c3, c4, .slice A r.ds.length c, m, c7, c8], [.bool false, .slice none 0 0, .slice none 0 0]] (fun _ => none) V3 s ∧ NatC V3 x (pnum r.ds r.ds.length) ∧ NatC V3 y (pden r.ds r.ds.length)) ?_ ?_
 ·refine Gx.a (by kernel_rfl) fun K hK => ?_
  simp only [XU, XA]
  refine hK _ ?_
  clear hK
  refine XWP.block ?_
  refine XWP.loopD 2 (fun q s => ∃ (k : Nat) (V3 : View) (x y : Value), StIs (fun Z => [Z 0, .p 0 0, .p 1 0, Z 3, .v x, .v y, Z 6,Z 7,Z 8,Z 9,Z 10, .v (.slice A r.ds.length c), .v (.int .i64 (r.ds.length : Int)), .v (.int .i64 (k : Int)), Z 14,Z 15,Z 16,Z 17,Z 18,Z 19,Z 20,Z 21,Z 22,Z 23,Z 24,Z 25,Z 26,Z 27,Z 28,Z 29,Z 30,Z 31,Z 32,Z 33,Z 34,Z 35,Z 36,Z 37,Z 38,Z 39,Z 40,Z 41,Z 42,Z 43,Z 44,Z 45]) [[.int .i64 r.kind, c1, c2, c3, c4, .slice A r.ds.length c, m, c7, c8], [.bool false, .slice none 0 0, .slice none 0 0]] (fun _ => none) V3 s ∧ q + k = r.ds.length ∧ V2.le V3 ∧ NatC V3 x (pnum r.ds k) ∧ NatC V3 y (pden r.ds k)) r.ds.length ⟨0, V2, _, _, StIs.of (by exact rfl), by omega, View.le_refl _, h1.mono hV2, h2⟩ ?_
  rintro q s ⟨k, V3, x, y, hs, hq, hV3, hx, hy⟩
  obtain ⟨z, rfl⟩ := hs.out
  try dsimp only
  clear hs
  by_cases hk : k < r.ds.length
  rotate_left
  ·obtain rfl : k = r.ds.length := by omega
   have b1 : decide (((r.ds.length : Nat) : Int) < ((r.ds.length : Nat) : Int)) = false := decide_eq_false (by omega)
   refine Gx.a (by kernel_rfl) fun K hK => ?_
   simp only [XA, XB, b1]
   refine hK _ ?_
   refine XWP.seq (Gx.f rfl ?_)
   refine XWP.exit ?_
   exact fun f => ⟨V3, x, y, StIs.of (by exact rfl), hx, hy⟩
  have b1 : decide ((k : Int) < (r.ds.length : Int)) = true := decide_eq_true (by omega)
  refine Gx.a (by kernel_rfl) fun K hK => ?_
  simp only [XA, XB, b1]
  refine hK _ ?_
  refine XWP.seq (Gx.t rfl ?_)
  refine XWP.skip ?_
  have hds3 := hds.mono drE_ok hV3
  obtain ⟨b, o, rfl⟩ := SlK.addr hds3 (by omega)
  obtain ⟨dc, ⟨d1, d2, d3⟩, hcell⟩ := SlK.get hds3 k hk
  have dgd := hg _ (List.getElem_mem hk)
  have hkd : r.ds[k]? = some r.ds[k] := List.getElem?_eq_getElem hk
  have d3 : dc = r.ds[k].cells := d3
  generalize r.ds[k] = d at *
  subst d3
  obtain ⟨g1, g2, g3, g4⟩ := dgd
  have eN : pnum r.ds (k + 1) = pnum r.ds k * d.odds.toNat := by show pnum r.ds k * _ = _; rw [hkd]; rfl
  have eD : pden r.ds (k + 1) = pden r.ds k * d.whole.toNat := by show pden r.ds k * _ = _; rw [hkd]; rfl
  have u1 : decide (d.odds < 1) = false := decide_eq_false (by omega)
  have u2 : decide (d.whole < d.odds) = false := decide_eq_false (by omega)
  have w1 : IntKind.u64.wrap d.odds = (d.odds.toNat : Int) := by rw [w64_id (by omega) (by omega)]; omega
  have w2 : IntKind.u64.wrap d.whole = (d.whole.toNat : Int) := by rw [w64_id (by omega) (by omega)]; omega
  refine XWP.cutD 2 (fun s => ∃ (V4 : View) (x y : Value), StIs (fun Z => [Z 0, .p 0 0, .p 1 0, Z 3, .v x, .v y, Z 6,Z 7,Z 8,Z 9,Z 10, .v (.slice (some ⟨b, o, none⟩) r.ds.length c), .v (.int .i64 (r.ds.length : Int)), .v (.int .i64 (k : Int)), Z 14,Z 15,Z 16,Z 17,Z 18,Z 19,Z 20,Z 21,Z 22,Z 23,Z 24,Z 25,Z 26,Z 27,Z 28,Z 29,Z 30,Z 31,Z 32,Z 33,Z 34,Z 35,Z 36,Z 37,Z 38,Z 39,Z 40,Z 41,Z 42,Z 43,Z 44,Z 45]) [[.int .i64 r.kind, c1, c2, c3, c4, .slice (some ⟨b, o, none⟩) r.ds.length c, m, c7, c8], [.bool false, .slice none 0 0, .slice none 0 0]] (fun _ => none) V4 s ∧ V3.le V4 ∧ NatC V4 x (pnum r.ds (k + 1)) ∧ NatC V4 y (pden r.ds (k + 1))) ?_ ?_
  rotate_left
  ·rintro s ⟨V4, x, y, hs, hV4, hx, hy⟩
   obtain ⟨z, rfl⟩ := hs.out
   try dsimp only
   clear hs
   refine Gx.c (by kernel_rfl) fun K hK => ?_
   simp only [XA, XB, i64_succ k (by omega)]
   exact hK _ ⟨q - 1, by omega, fun f => ⟨k + 1, V4, x, y, StIs.of (by exact rfl), by omega, View.le_trans hV3 hV4, hx, hy⟩⟩
  clear hK
  refine XWP.block ?_
  refine Gx.a (by kernel_rfl) fun K hK => ?_
  simp only [XU, XA]
  refine ⟨by omega, by omega, ld_mem (loadsK shapeT_66 d1 (hcell _)) ?_⟩
  simp only [XU, XA, Nat.reduceAdd]
  refine st_whole (cs := [.int .i64 d.site, .int .i64 d.index, .int .i64 d.odds, .int .i64 d.whole]) shapeT_66 rfl rfl rfl rfl ?_
  simp only [XA]
  refine hK _ ?_
  refine Gx.b (by kernel_rfl) fun K hK => ?_
  simp only [XU, XA, XB, gateX, ↓reduceIte, beq_self_eq_true, u1, u2]
  refine hK _ ?_
  refine Gx.f rfl ?_
  refine XWP.skip ?_
  (refine XWP.drw1 [0, 1, 2, 3, 6, 7, 8, 9, 4, 5, 10, 11, 12, 13] (by kernel_rfl) (by kernel_rfl) (by kernel_rfl) fun K hK => ?_) <;> dsimp only [pickOps, List.getElem?_cons_zero, List.getElem?_cons_succ]
  simp only [XU, XA, XB, w1, w2]
  refine call_go (by kernel_rfl) rfl (of_c _ d.odds.toNat (by omega)) fun v4 V4 hV4 h4 => ?_
  simp only [XA]
  refine call_go (by kernel_rfl) rfl (mul_c _ _ _ _ _ (hx.mono hV4) h4 (hfn k (by omega)) (Fit.of_two (B := 64) (Nat.le_of_lt (by omega)) (by omega))) fun v5 V5 hV5 h5 => ?_
  simp only [XA]
  refine call_go (by kernel_rfl) rfl (of_c _ d.whole.toNat (by omega)) fun v6 V6 hV6 h6 => ?_
  simp only [XA]
  refine call_go (by kernel_rfl) rfl (mul_c _ _ _ _ _ (((hy.mono hV4).mono hV5).mono hV6) h6 (hfd k (by omega)) (Fit.of_two (B := 64) (Nat.le_of_lt (by omega)) (by omega))) fun v7 V7 hV7 h7 => ?_
  simp only [XA]
  rw [← eN] at h5
  rw [← eD] at h7
  exact hK _ fun f => ⟨V7, v5, v7, StIs.of (by exact rfl), View.le_trans hV4 (View.le_trans hV5 (View.le_trans hV6 hV7)), (h5.mono hV6).mono hV7, h7⟩
 rintro s ⟨V3, x, y, hs, hx, hy⟩
 obtain ⟨z, rfl⟩ := hs.out
 try dsimp only
 refine Gx.a (by kernel_rfl) fun K hK => ?_
 simp only [XA]
 refine call_go (by kernel_rfl) rfl (qof_c _ false _ _ _ _ hx hy (hfn _ (Nat.le_refl _)) (hfd _ (Nat.le_refl _))) fun v4 V4 hV4 h4 => ?_
 have hpos : pden r.ds r.ds.length ≠ 0 := by have := hsz r.ds.length; omega
 obtain ⟨w, rfl, h4q⟩ := h4.2 hpos
 have h4 : RatC V4 w (priorQ r.ds) := h4q
 obtain ⟨xx, yy, rfl, p1, p2⟩ := h4.form
 simp only [XA]
 refine st_rat rfl rfl rfl p1 p2 ?_
 simp only [XA]
 refine hK _ (XWP.ret ?_)
 try simp only [thenX_ret, inBlockX_ret]
 exact ret_rat2 rfl rfl rfl rfl ⟨_, rfl, h4⟩
theorem rv_quo (a b : Nat) : rv false a b = (a : Rat) / (b : Rat) := by
 unfold rv sg
 simp [Rat.mkRat_eq_div, Rat.intCast_natCast]
theorem natCast_pos {k : Nat} (h : 0 < k) : (0 : Rat) < (k : Rat) := by
 have : ((0 : Nat) : Rat) < (k : Rat) := Rat.natCast_lt_natCast.2 h
 exact this
theorem priorQ_pos {ds : List Dr} (h : ∀ d ∈ ds, d.good) : 0 < priorQ ds := by
 obtain ⟨h1, h2, _⟩ := prior_sz h ds.length
 unfold priorQ
 rw [rv_quo]
 have a := natCast_pos (show 0 < pnum ds ds.length by omega)
 have b := natCast_pos (show 0 < pden ds ds.length by omega)
 rw [Rat.div_def]
 exact Rat.mul_pos a (Rat.inv_pos.2 b)
theorem cscores_c (V : View) (cs : List Value) (r : Rn) (hcs : ElK 9 rnE V cs r) (hl : r.ds.length ≤ 100) (hg : ∀ d ∈ r.ds, d.good) (hw : r.w.ok = true) (hq : QF r.w.q) : Spec Tryz.prog 105 [.agg cs.toArray] V fun v' V' => ∃ w, v' = .tuple #[w, .int .i64 0] ∧ RatC V' w (r.w.q / priorQ r.ds) := by
 have hcs0 := hcs
 obtain ⟨_, hone, c1, c2, c3, c4, dv, m, c7, c8, rfl, hds, hwr⟩ := hcs
 have hwc := RawAt.rat hwr hw
 obtain ⟨A, c, rfl, hc, hm⟩ := hds.form
 have hp0 : priorQ r.ds ≠ 0 := fun e => by have := priorQ_pos hg; rw [e] at this; exact absurd this (by decide)
 refine (Spec.enter Tryz.func105 rfl fun Γ => ?_)
 simp only [Tryz.ntmps105, List.map_cons, List.map_nil, List.length_cons, List.length_nil, Nat.reduceAdd, Nat.reduceSub, List.replicate_succ, List.replicate_zero, List.cons_append, List.nil_append]
 refine Gx.a (by kernel_rfl) fun K hK => ?_
 simp only [XA, XB]
 refine hK _ ?_
 refine Gx.a (by kernel_rfl) fun K hK => ?_
 simp only [XU, XA, Nat.reduceAdd, Nat.reduceLeDiff, ↓reduceIte]
 refine call_go (by kernel_rfl) rfl (cprior_c _ _ r hcs0 hl hg) fun v1 V1 hV1 h1 => ?_
 obtain ⟨w1, rfl, h1⟩ := h1
 obtain ⟨x1, y1, rfl, p1, p2⟩ := h1.form
 simp only [XA, XB, Nat.reduceAdd]
 refine st_rat rfl rfl rfl p1 p2 ?_
 simp only [XA]
 refine hK _ ?_
 refine XWP.seq ?_
 refine Gx.a (by kernel_rfl) fun K hK => ?_
 simp only [XA, XB, decide_true]
 refine hK _ ?_
 refine Gx.f rfl ?_
 refine XWP.skip ?_
 refine Gx.a (by kernel_rfl) fun K hK => ?_
 simp only [XU, XA, XB, Nat.reduceAdd, Nat.reduceLeDiff, ↓reduceIte]
 refine call_go (by kernel_rfl) rfl (qdiv_c _ _ _ _ _ (hwc.mono hV1) h1 hq ((priorQ_QB hg).qf (by omega))) fun v2 V2 hV2 h2 => ?_
 obtain ⟨w2, rfl, h2q⟩ := h2.2 hp0
 have h2 : RatC V2 w2 (r.w.q / priorQ r.ds) := h2q
 obtain ⟨x2, y2, rfl, p3, p4⟩ := h2.form
 simp only [XA]
 refine st_rat rfl rfl rfl p3 p4 ?_
 simp only [XA]
 refine hK _ (XWP.ret ?_)
 try simp only [thenX_ret, inBlockX_ret]
 exact ret_rat2 rfl rfl rfl rfl ⟨_, rfl, h2⟩
end Go.Proofs.YtobjjdnfgamgcaaGreat
end
section
namespace Go.Proofs.YtobjjdnfgamgcaaGreat
def hf : Rat := 1 / 2
def pw : Nat → Rat
 | 0 => 1
 | k + 1 => pw k * hf
theorem hf_mk : hf = mkRat 1 2 := by decide +kernel
theorem pw_mk (k : Nat) : pw k = mkRat 1 (2 ^ k) := by
 induction k with
 | zero => decide +kernel
 | succ k ih => rw [pw, ih, hf_mk, Rat.mkRat_mul_mkRat, Nat.pow_succ]; rfl
theorem pw_over {n k : Nat} (h : k ≤ n) : Over (2 ^ n) n (pw k) := by
 refine ⟨((2 ^ (n - k) : Nat) : Int), ?_, ?_⟩
 ·rw [Int.natAbs_natCast]; exact two_mono (by omega)
 ·have e : 2 ^ n = 2 ^ k * 2 ^ (n - k) := by rw [← Nat.pow_add]; congr 1; omega
  have h2 : 2 ^ (n - k) ≠ 0 := by have := two_pos (n - k); omega
  rw [pw_mk, e]
  have := Rat.mkRat_mul_right (n := 1) (d := 2 ^ k) h2
  rw [Int.one_mul] at this
  exact this.symm
theorem pw_CB1 (n : Nat) : CB n [pw n] := by
 refine ⟨2 ^ n, two_pos n, Nat.le_refl _, fun i => ?_⟩
 cases i with
 | zero => exact pw_over (Nat.le_refl _)
 | succ i => rw [cf_none (by simp)]; exact Over.zero _ _
theorem hf_QB : QB 1 hf := by
 have := (pw_CB1 1).at 0
 have e : cf [pw 1] 0 = hf := by decide +kernel
 rw [e] at this; exact this
end Go.Proofs.YtobjjdnfgamgcaaGreat
end
section
namespace Go.Proofs.YtobjjdnfgamgcaaGreat
open Go Go.RowKit
attribute [local irreducible] XWP Spec SpecO XPub XCall seqX clX apX stX ldX iaX slX
theorem dsize_c (V : View) (n : Nat) (hn : n < 4611686018427387904) : Spec Tryz.prog 46 [.int .i64 (n : Int)] V fun v' V' => ∃ w, v' = .tuple #[w, .bool false] ∧ NatC V' w n := by
 have b1 : decide ((n : Int) < 0) = false := decide_eq_false (by omega)
 have w1 : IntKind.u64.wrap (n : Int) = (n : Int) := w64_id (by omega) (by omega)
 refine (Spec.enter Tryz.func46 rfl fun Γ => ?_)
 simp only [Tryz.ntmps46, List.map_cons, List.map_nil, List.length_cons, List.length_nil, Nat.reduceAdd, Nat.reduceSub, List.replicate_succ, List.replicate_zero, List.cons_append, List.nil_append]
 refine Gx.a (by kernel_rfl) fun K hK => ?_
 simp only [XA]
 refine hK _ ?_
 refine XWP.seq ?_
 refine Gx.a (by kernel_rfl) fun K hK => ?_
 simp only [XA, XB, b1]
 refine hK _ ?_
 refine Gx.f rfl ?_
 refine XWP.skip ?_
 refine Gx.a (by kernel_rfl) fun K hK => ?_
 simp only [XA, XB, w1]
 refine call_go (by kernel_rfl) rfl (rof_c _ n (by omega)) fun v1 V1 hV1 h1 => ?_
 simp only [XA]
 refine hK _ (XWP.ret ?_)
 try simp only [thenX_ret, inBlockX_ret]
 refine ret_go _ rfl ?_
 exact ⟨_, rfl, h1⟩
theorem dmake_c (V : View) : Spec Tryz.prog 18 [.int .i64 1, .int .i64 2] V fun v' V' => ∃ w, v' = .tuple #[w, .int .i64 0] ∧ RatC V' w hf := by
 refine (Spec.enter Tryz.func18 rfl fun Γ => ?_)
 simp only [Tryz.ntmps18, List.map_cons, List.map_nil, List.length_cons, List.length_nil, Nat.reduceAdd, Nat.reduceSub, List.replicate_succ, List.replicate_zero, List.cons_append, List.nil_append]
 refine Gx.a (by kernel_rfl) fun K hK => ?_
 simp only [XA, XB]
 refine hK _ ?_
 refine Gx.a (by kernel_rfl) fun K hK => ?_
 simp only [XA]
 refine call_go (by kernel_rfl) rfl (dsize_c _ 1 (by omega)) fun v1 V1 hV1 h1 => ?_
 obtain ⟨w1, rfl, h1⟩ := h1
 simp only [XA]
 refine hK _ ?_
 refine Gx.a (by kernel_rfl) fun K hK => ?_
 simp only [XA]
 refine call_go (by kernel_rfl) rfl (dsize_c _ 2 (by omega)) fun v2 V2 hV2 h2 => ?_
 obtain ⟨w2, rfl, h2⟩ := h2
 simp only [XA]
 refine hK _ ?_
 refine Gx.a (by kernel_rfl) fun K hK => ?_
 simp only [XA, XB, beq_self_eq_true]
 refine call_go (by kernel_rfl) rfl (pof_c _ _ _ _ 1 2 (h1.mono hV2) h2 (Fit1.of_two (B := 1) (by decide) (by omega)) (Fit1.of_two (B := 1) (by decide) (by omega))) fun v3 V3 hV3 h3 => ?_
 obtain ⟨w3, rfl, r3⟩ := h3.2 (by omega)
 clear h3
 obtain ⟨x3, y3, rfl, o1, o2⟩ := r3.form
 simp only [XA]
 refine st_rat rfl rfl rfl o1 o2 ?_
 simp only [XA]
 refine hK _ (XWP.ret ?_)
 try simp only [thenX_ret, inBlockX_ret]
 refine ret_rat2 rfl rfl rfl rfl ⟨_, rfl, ?_⟩
 rw [show hf = rv false 1 2 by decide +kernel]
 exact r3
end Go.Proofs.YtobjjdnfgamgcaaGreat
end
