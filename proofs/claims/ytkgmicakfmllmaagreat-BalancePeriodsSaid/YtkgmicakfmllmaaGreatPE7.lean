/- The program's period of a class is that of its reference. (part 7 of 11) -/
import Derived.OrdersHeld
import Derived.Below
import Derived.Tactics
import Derived.KernelRfl
import Derived.RangeFuncCalls
import Derived.RangeFuncFrom
import Derived.RangeFuncLeaves
import Derived.OrdersIn
import Derived.Laws.AppendOwn
import Derived.Laws.MakeOwn
import Derived.Laws.CopyRow
import Derived.Laws.Cells
import Derived.Laws.World
import Derived.Laws.Alloc2
import Derived.Laws.NewBlocks
import Derived.Maps.AppendAt
import Derived.Test.YtkgmicakfmllmaaGreatProg
import Init.Data.List.Lemmas
import Init.Omega
import Derived.WalkKit
import Derived.ProofKit
import Derived.OpenShut
import Derived.ChangeOld
import Derived.SizedLaws
import Derived.ChangeSlices
import Derived.ChangeArms
import Derived.Deep.Slices
import Derived.MapKept
import Derived.Test.YtkgmicakfmllmaaGreatPE6
section
namespace Go.Proofs.YtkgmicakfmllmaaGreat
open Go Go.RowKit
set_option linter.unusedVariables false
/-- a row is published, anywhere -/
theorem XWP.pub {Γ : Cx} {P : Program} {c : Code} {Q : Exit → XS → Prop} {t : List SV} {bx : List (List Value)} {H : Heap} {V : View} (b : Nat) (r : Row) (hr : H b = some r)
    (h : ∀ o, RowObj r o → V.le (addV V b o) → XWP Γ P c Q ⟨t, bx, upd H b none, addV V b o⟩) : XWP Γ P c Q ⟨t, bx, H, V⟩ := by
  intro bl a w hc
  obtain ⟨o, ho, h3, h4, _, h6⟩ := pub_row hc.cw hc.cs hr
  exact h o ho h6 bl a w ⟨hc.tm, hc.df, h3, h4, hc.ok⟩
/-- a row made new is none that is there -/
theorem new_ne {H : Heap} {b g : Nat} {r : Row} (hb : H b = none) (hg : H g = some r) : g ≠ b := fun e => by rw [e, hb] at hg; cases hg
theorem XWP.label {Γ : Cx} {P : Program} {Q : Exit → XS → Prop} {s : XS} {l : Nat} (h : Q .normal s) : XWP Γ P (.label l) Q s := fun bl _ _ hc => wpIn_label ⟨bl, s, hc, h⟩
def MPost (P : Program) (rs : List ResultVar) (R : Value → Heap → View → Prop) : Exit → XS → Prop
  | .normal, s | .ret, s => XPub (fun s' => ∃ vs, resAll P s' rs = some vs ∧ R (oneOf vs) s'.H s'.V) s
  | _, _ => False
/-- A contract over the caller's own rows: from (H, V) to a result and (H', V'). -/
def MSpec (P : Program) (f : FuncId) (args : List Value) (H : Heap) (V : View) (R : Value → Heap → View → Prop) : Prop :=
  ∃ fn c, P.funcs[f]? = some fn ∧ fn.body = some c ∧ ∀ Γ : Cx, Γ.Plain → XWP Γ P c (MPost P fn.results.toList R) ⟨args.map .v ++ List.replicate (fn.ntmps - args.length) (.v undef), [], H, V⟩
theorem MPost_ret {P : Program} {rs : List ResultVar} {R : Value → Heap → View → Prop} {s : XS} : MPost P rs R .ret s = XPub (fun s' => ∃ vs, resAll P s' rs = some vs ∧ R (oneOf vs) s'.H s'.V) s := rfl
theorem MPost_normal {P : Program} {rs : List ResultVar} {R : Value → Heap → View → Prop} {s : XS} : MPost P rs R .normal s = XPub (fun s' => ∃ vs, resAll P s' rs = some vs ∧ R (oneOf vs) s'.H s'.V) s := rfl
theorem MSpec.enter {P : Program} {f : FuncId} {fn : Func} {c : Code} {args : List Value} {H : Heap} {V : View} {R : Value → Heap → View → Prop} (hf : P.funcs[f]? = some fn) (hb : fn.body = some c)
    (h : ∀ Γ : Cx, Γ.Plain → XWP Γ P c (MPost P fn.results.toList R) ⟨args.map .v ++ List.replicate (fn.ntmps - args.length) (.v undef), [], H, V⟩) : MSpec P f args H V R := ⟨fn, c, hf, hb, h⟩
theorem retM_go {P : Program} {rs : List ResultVar} {R : Value → Heap → View → Prop} {s : XS} (vs : List Value) (h : resAll P s rs = some vs) (hR : R (oneOf vs) s.H s.V) : MPost P rs R .ret s := by rw [MPost_ret]; exact XPub.now ⟨vs, h, hR⟩
theorem endM_go {P : Program} {rs : List ResultVar} {R : Value → Heap → View → Prop} {s : XS} (vs : List Value) (h : resAll P s rs = some vs) (hR : R (oneOf vs) s.H s.V) : MPost P rs R .normal s := by rw [MPost_normal]; exact XPub.now ⟨vs, h, hR⟩

theorem leave_marksK {Γ : Cx} {P : Program} {bl : Nat → Nat} {bx : List (List Value)} {H : Heap} {V : View} (hV0 : Γ.V0.sub Γ.w0) (W0 : World) {fn : Func} {R : Ending → World → Prop} {tmps : Array Value} (hs : CS Γ bl bx H V) : ∀ (ms : List Nat) (w : World), CW Γ bl bx H V w → KeepsOthers W0 w → ms.Nodup → (∀ D ∈ ms, (Γ.w0.heap.size ≤ D ∧ W0.heap.size ≤ D) ∧ w.heap[D]? = some (.deferred (some []))) →
    (∀ w', CW Γ bl bx H V w' → KeepsOthers W0 w' → ∃ v, (results fn tmps).run P w' = .ok v w' ∧ R (.returned v) w') → LeavesInM Fence.wide 0 P fn tmps R (ms.map fun D => { target := .collected D, args := #[] }) .returning w
  | [], w, h, ho, _, _, k => k w h ho
  | D :: ms, w, h, ho, hn, hD, k => by
    obtain ⟨⟨h1, h1'⟩, h2⟩ := hD D (by simp)
    obtain ⟨n1, n2⟩ := List.nodup_cons.1 hn
    refine ⟨by simp, .inl ⟨D, _, rfl, run_takeDeferred h2, leave_marksK hV0 W0 hs ms _ (h.turn hV0 hs h2 rfl h1 _) (others_put ho h1' _) n2 (fun E hE => ?_) k⟩⟩
    obtain ⟨h3, h4⟩ := hD E (by simp [hE])
    exact ⟨h3, (World.putObj_heap_other (fun e => n1 (by rw [← e]; exact hE))).trans h4⟩
/-- The call, in the world. -/
theorem MSpec.calls {P : Program} {f : FuncId} {args : List Value} {H : Heap} {V : View} {R : Value → Heap → View → Prop} (h : MSpec P f args H V R) {Γ : Cx} (hV0 : Γ.V0.sub Γ.w0) {bl : Nat → Nat} {w : World} (hw : CW Γ bl [] H V w) (hs : CS Γ bl [] H V) :
    Calls P f args.toArray w fun e w' => ∃ v H' V', e = .returned v ∧ CW Γ bl [] H' V' w' ∧ CS Γ bl [] H' V' ∧ KeepsOthers w w' ∧ R v H' V' := by
  obtain ⟨fn, c, hf, hb, h⟩ := h
  refine (callsIn_wide (n := 0)).1 (callsIn_of_wp_marks hf hb trivial ?_)
  have hc : Conc ⟨Γ.w0, Γ.V0, w, none⟩ bl ⟨args.map .v ++ List.replicate (fn.ntmps - args.length) (.v undef), [], H, V⟩ { tmps := args.toArray ++ Array.replicate (fn.ntmps - args.toArray.size) undef, defers := [] } w := by
    refine ⟨?_, ⟨⟨[], rfl, List.nodup_nil, fun D hD => by simp at hD⟩, KeepsOthers.refl _⟩, hw.cx rfl, hs.cx rfl rfl, fun x hx => ?_⟩
    · have e1 : (SV.conc bl) ∘ SV.v = id := rfl
      have e2 : (SV.conc bl (SV.v undef)) = undef := rfl
      simp [List.map_append, List.map_map, List.map_replicate, e1, e2]
    · simp only [List.mem_append, List.mem_map, List.mem_replicate] at hx
      rcases hx with ⟨_, _, rfl⟩ | ⟨_, rfl⟩ <;> trivial
  refine wpIn_mono (h ⟨Γ.w0, Γ.V0, w, none⟩ ⟨rfl, hV0⟩ bl _ w hc) ?_
  have fin : ∀ bl1 s a w', Conc ⟨Γ.w0, Γ.V0, w, none⟩ bl1 s a w' → MPost P fn.results.toList R .ret s → LeavesInM Fence.wide 0 P fn a.tmps (fun e w' => ∃ v H' V', e = .returned v ∧ CW Γ bl [] H' V' w' ∧ CS Γ bl [] H' V' ∧ KeepsOthers w w' ∧ R v H' V') a.defers .returning w' := by
    intro bl1 s a w' hC hR
    obtain ⟨H', V', h1, h2, _, _, vs, hvs, hR⟩ := hR ⟨Γ.w0, Γ.V0, w, none⟩ bl1 w' hC.cw hC.cs
    obtain ⟨⟨ms, e1, e2, e3⟩, e4⟩ := hC.df
    rw [e1]
    refine leave_marksK (Γ := ⟨Γ.w0, Γ.V0, w, none⟩) hV0 w h2 ms w' h1 e4 e2 (fun D hD => ⟨⟨Nat.le_trans (Cx.base_ge _) (e3 D hD).1, Nat.le_trans (Cx.base_w1 ⟨Γ.w0, Γ.V0, w, none⟩ rfl) (e3 D hD).1⟩, (e3 D hD).2⟩) fun w'' h3 h4 => ⟨_, ?_, _, H', V', rfl, (h3.cx (Γ' := Γ) rfl).nobox, (h2.cx (Γ' := Γ) rfl rfl).nobox, h4, hR⟩
    exact results_run (Γ := ⟨Γ.w0, Γ.V0, w, none⟩) (a := { tmps := a.tmps, defers := [] }) (s := ⟨s.t, s.bx, H', V'⟩) ⟨hC.tm, ⟨⟨[], rfl, List.nodup_nil, fun D hD => by simp at hD⟩, h4⟩, h3, h2, hC.ok⟩ vs hvs
  rintro e a w' ⟨bl1, s, hC, hq⟩
  cases e with
  | normal => exact fin bl1 s a w' hC hq
  | ret => exact fin bl1 s a w' hC hq
  | _ => exact hq.elim

section
variable {Γ : Cx} {P : Program} {ops : Array Oper} {Q : Exit → XS → Prop}
/-- operations in the order of the text, then what follows -/
theorem seqX_ops (rest : List Nat) : ∀ (l : List Oper) (k : Nat) (K : XS → Prop), (∀ i o, l[i]? = some o → ops[k + i]? = some o) → ∀ bl s a w, Conc Γ bl s a w → guardsIn ops s.t.length = true → seqX P ops l K s →
    (∀ bl s a w, Conc Γ bl s a w → guardsIn ops s.t.length = true → K s → wpOps P ops (XQ Γ (onlyN Q)) rest a w) → wpOps P ops (XQ Γ (onlyN Q)) (List.range' k l.length ++ rest) a w
  | [], k, K, _, bl, s, a, w, hc, hg, h, hk => by simpa using hk bl s a w hc hg h
  | o :: l, k, K, hi, bl, s, a, w, hc, hg, h, hk => by
    have ho : ops[k]? = some o := by simpa using hi 0 o (by simp)
    simp only [List.length_cons, List.range'_succ, List.cons_append]
    rw [wpOps_cons]
    refine wpOp_mono ?_ (wpOp_size hc.len (stepX_wp ho (guardsIn_spec hg ho) hc h (XQ Γ (onlyN Q))))
    rintro a' w' ⟨hsz, bl', s', hc', _, hk'⟩
    refine seqX_ops rest l (k + 1) K (fun i o' h' => ?_) bl' s' a' w' hc' (by rw [← hc'.len, hsz]; exact hg) hk' hk
    have := hi (i + 1) o' (by simpa using h')
    rw [show k + 1 + i = k + (i + 1) by omega]; exact this
def MCall (P : Program) (f : FuncId) (args : List SV) (s : XS) (K : Value → XS → Prop) : Prop :=
  s.bx = [] ∧ args.all SV.isV = true ∧ ∃ R, MSpec P f (args.map SV.val) s.H s.V R ∧ ∀ v H V, R v H V → K v ⟨s.t, [], H, V⟩
/-- A region in the order of its text, one of its operations a call over the caller's rows. -/
theorem XWP.regM {id : Nat} {s : XS} (k : Nat) {d : Option Tmp} {f : FuncId} {args : List Operand} {ts : Array TypeId} {ty pos af} (hΓ : Γ.V0.sub Γ.w0) (hk : ops.toList[k]? = some ⟨d, .call ⟨.value (.func f), args.toArray, ts⟩, ty, pos, af, none⟩) (hcl : callable P f = true) (hg : guardsIn ops s.t.length = true)
    (h : seqX P ops (ops.toList.take k) (fun s1 => MCall P f (args.map s1.ev) s1 fun v s2 => seqX P ops (ops.toList.drop (k + 1)) (fun s' => Q .normal s') (s2.put d (.v v))) s) : XWP Γ P (.region id ops false) Q s := by
  intro bl a w hc
  have hnd : noDefer ops = true := by unfold guardsIn at hg; rw [Bool.and_eq_true] at hg; exact hg.1
  refine wpIn_mono (wpIn_region (wpOps_in onlyN_out hnd _ _ _ ?_)) (onlyN_all (Q := Q))
  obtain ⟨hlt, hke⟩ := List.getElem?_eq_some_iff.1 hk
  have hlen : List.range ops.size = List.range' 0 (ops.toList.take k).length ++ (k :: (List.range' (k + 1) (ops.toList.drop (k + 1)).length ++ [])) := by
    have e1 : (ops.toList.take k).length = k := by rw [List.length_take]; omega
    have e2 : ops.size = k + ((ops.toList.drop (k + 1)).length + 1) := by rw [List.length_drop, ← Array.length_toList]; omega
    rw [e1, e2, List.range_eq_range', ← List.range'_append_1, Nat.zero_add, List.range'_succ, List.append_nil]
  rw [hlen]
  refine seqX_ops _ _ 0 _ (fun i o ho => ?_) bl s a w hc hg h ?_
  · rw [Nat.zero_add, ← Array.getElem?_toList]
    rw [List.getElem?_take] at ho
    split at ho
    · exact ho
    · cases ho
  intro bl1 s1 a1 w1 hc1 hg1 ⟨hbx, hall, R, hspec, hK⟩
  obtain ⟨t1, bx1, H1, V1⟩ := s1
  dsimp only at hbx hg1 hspec hK
  subst hbx
  have hok : ops[k]? = some ⟨d, .call ⟨.value (.func f), args.toArray, ts⟩, ty, pos, af, none⟩ := by rw [← Array.getElem?_toList]; exact hk
  rw [wpOps_cons]
  unfold wpOp
  simp only [hok]
  rw [if_pos (by unfold Region.wanted; rfl)]
  refine .inl ?_
  have eargs : ((args.map (⟨t1, [], H1, V1⟩ : XS).ev).map SV.val).toArray = args.toArray.map a1.eval := by
    apply Array.ext'
    simp only [Array.toList_map, List.map_map]
    refine List.map_congr_left fun q hq => ?_
    rw [hc1.ev]
    exact (val_conc (List.all_eq_true.1 hall _ (List.mem_map_of_mem hq))).symm
  have hrun : (execOp a1.eval ⟨d, .call ⟨.value (.func f), args.toArray, ts⟩, ty, pos, af, none⟩).run P w1 = .ok (.enter f (args.toArray.map a1.eval)) w1 := by
    have ef : a1.eval (.func f) = .func (.func f) #[] #[] := rfl
    unfold callable at hcl
    cases hf : P.funcs[f]? with
    | none => simp [hf] at hcl
    | some fn =>
      simp [hf] at hcl
      have hb : fn.body ≠ none := fun hn => by simp [hn] at hcl
      simp [execOp, resolve, ef, Deferred.ofValue, invoke, callFunc, hf, hcl.1, hb]
  unfold Oper.wp
  rw [hrun]
  show Calls P f (args.toArray.map a1.eval) w1 _
  rw [← eargs]
  refine (hspec.calls hΓ hc1.cw hc1.cs).mono ?_
  rintro e w' ⟨v, H', V', rfl, cw, cs, ko, hR⟩
  dsimp only
  have hput := Conc.put (Γ := Γ) (bl := bl1) (s := ⟨t1, [], H', V'⟩) (a := a1) (w := w') ⟨hc1.tm, hc1.df.keep ko, cw, cs, hc1.ok⟩ d (.v v) trivial
  exact seqX_ops [] _ (k + 1) _ (fun i o ho => by rw [← Array.getElem?_toList]; rw [List.getElem?_drop] at ho; exact ho) bl1 _ _ _ hput (by rw [put_len]; exact hg1) (hK v H' V' hR) fun bl s a w hc _ hq => ⟨bl, s, hc, hq⟩
theorem Gx.ma {id : Nat} {s : XS} {y : Code} (k : Nat) {d : Option Tmp} {f : FuncId} {args : List Operand} {ts : Array TypeId} {ty pos af} (hΓ : Γ.Plain) (hk : ops.toList[k]? = some ⟨d, .call ⟨.value (.func f), args.toArray, ts⟩, ty, pos, af, none⟩) (hcl : callable P f = true) (hg : guardsIn ops s.t.length = true)
    (h : ∀ K : XS → Prop, (∀ s', XWP Γ P y Q s' → K s') → seqX P ops (ops.toList.take k) (fun s1 => MCall P f (args.map s1.ev) s1 fun v s2 => seqX P ops (ops.toList.drop (k + 1)) K (s2.put d (.v v))) s) : XWP Γ P (.seq (.region id ops false) y) Q s :=
  XWP.seq (XWP.regM k hΓ.2 hk hcl hg (h _ fun _ h => h))
theorem Gx.mc {id : Nat} {s : XS} (k : Nat) {d : Option Tmp} {f : FuncId} {args : List Operand} {ts : Array TypeId} {ty pos af} (hΓ : Γ.Plain) (hk : ops.toList[k]? = some ⟨d, .call ⟨.value (.func f), args.toArray, ts⟩, ty, pos, af, none⟩) (hcl : callable P f = true) (hg : guardsIn ops s.t.length = true)
    (h : ∀ K : XS → Prop, (∀ s', Q .normal s' → K s') → seqX P ops (ops.toList.take k) (fun s1 => MCall P f (args.map s1.ev) s1 fun v s2 => seqX P ops (ops.toList.drop (k + 1)) K (s2.put d (.v v))) s) : XWP Γ P (.region id ops false) Q s :=
  XWP.regM k hΓ.2 hk hcl hg (h _ fun _ h => h)
end
/-- the call itself -/
theorem mcall_go {P : Program} {f : FuncId} {args : List SV} {s : XS} {K : Value → XS → Prop} {R : Value → Heap → View → Prop} (hb : s.bx = []) (hv : args.all SV.isV = true) (hs : MSpec P f (args.map SV.val) s.H s.V R) (h : ∀ v H V, R v H V → K v ⟨s.t, [], H, V⟩) : MCall P f args s K := ⟨hb, hv, R, hs, h⟩
end Go.Proofs.YtkgmicakfmllmaaGreat
end
section
namespace Go.Proofs.YtkgmicakfmllmaaGreat
open Go Go.RowKit
set_option linter.unusedSimpArgs false
set_option linter.unusedVariables false
attribute [local irreducible] XWP Spec SpecO XPub XCall seqX clX apX stX ldX iaX slX
/-- the slice v reads as xs, a cell each -/
def Sl1 {α : Type} (E : El α) (V : View) (v : Value) (xs : List α) : Prop := ∃ A c, v = .slice A xs.length c ∧ xs.length ≤ c ∧ c ≤ 9223372036854775807 ∧ (xs = [] ∨ ∃ b o arr ty fr, A = some ⟨b, o, none⟩ ∧ V b = some (.cells arr ty fr) ∧ ∀ (i : Nat) (x : α), xs[i]? = some x → ∃ u, arr[o + i]? = some u ∧ isOne u = true ∧ E V u x)
/-- the cells of a private row read as xs -/
def R1At {α : Type} (E : El α) (V : View) (cells : List Value) (xs : List α) : Prop := cells.length = xs.length ∧ ∀ (i : Nat) (x : α), xs[i]? = some x → ∃ u, cells[i]? = some u ∧ isOne u = true ∧ E V u x
def intE : El Int := fun _ u x => u = .int .i64 x
def booE : El Bool := fun _ u x => u = .bool x
theorem intE_ok : ElOk intE := fun _ _ _ _ _ h => h
theorem booE_ok : ElOk booE := fun _ _ _ _ _ h => h
section
variable {α : Type} {E : El α}
theorem Sl1.mono (hE : ElOk E) {V V' : View} {v : Value} {xs : List α} (h : Sl1 E V v xs) (hV : V.le V') : Sl1 E V' v xs := by
  obtain ⟨A, c, e, h1, h2, h3⟩ := h
  refine ⟨A, c, e, h1, h2, ?_⟩
  rcases h3 with h3 | ⟨b, o, arr, ty, fr, e1, e2, h4⟩
  · exact .inl h3
  · exact .inr ⟨b, o, arr, ty, fr, e1, hV _ _ e2, fun i x hi => by obtain ⟨u, a, b, d⟩ := h4 i x hi; exact ⟨u, a, b, hE _ _ _ _ hV d⟩⟩
theorem Sl1_ok (hE : ElOk E) : ElOk (Sl1 E) := fun _ _ _ _ hV h => h.mono hE hV
theorem Sl1.form {V : View} {v : Value} {xs : List α} (h : Sl1 E V v xs) : ∃ A c, v = .slice A xs.length c ∧ xs.length ≤ c ∧ c ≤ 9223372036854775807 := by
  obtain ⟨A, c, e, h1, h2, _⟩ := h; exact ⟨A, c, e, h1, h2⟩
theorem Sl1.one {V : View} {v : Value} {xs : List α} (h : Sl1 E V v xs) : isOne v = true := by obtain ⟨A, c, rfl, _⟩ := h.form; rfl
theorem Sl1.nil (V : View) : Sl1 E V (.slice none 0 0) ([] : List α) := ⟨none, 0, rfl, Nat.le_refl _, by omega, .inl rfl⟩
theorem Sl1.addr {V : View} {A : Option Addr} {n c : Nat} {xs : List α} (h : Sl1 E V (.slice A n c) xs) (hk : 0 < xs.length) : ∃ b o, A = some ⟨b, o, none⟩ := by
  obtain ⟨A', c', e, _, _, h3⟩ := h
  cases e
  rcases h3 with rfl | ⟨b, o, _, _, _, e1, _⟩
  · simp at hk
  · exact ⟨b, o, e1⟩
theorem Sl1.load {V : View} {b o n c : Nat} {xs : List α} (h : Sl1 E V (.slice (some ⟨b, o, none⟩) n c) xs) (i : Nat) (hi : i < xs.length) : ∃ u, E V u xs[i] ∧ isOne u = true ∧ ∀ H (t m : Nat), shapeT Tryz.prog t = some (false, m) → Loads Tryz.prog H V t b (o + i) u := by
  obtain ⟨A', c', e, _, _, h3⟩ := h
  cases e
  rcases h3 with rfl | ⟨b', o', arr, ty, fr, e1, e2, h4⟩
  · simp at hi
  · cases e1
    obtain ⟨u, g1, g2, g3⟩ := h4 i xs[i] (List.getElem?_eq_getElem hi)
    exact ⟨u, g3, g2, fun H t m ht => ⟨false, m, ht, .inr ⟨rfl, .inr ⟨arr, ty, fr, e2, g1⟩⟩⟩⟩
theorem R1At.mono (hE : ElOk E) {V V' : View} {cells : List Value} {xs : List α} (h : R1At E V cells xs) (hV : V.le V') : R1At E V' cells xs := ⟨h.1, fun i x hi => by obtain ⟨u, a, b, d⟩ := h.2 i x hi; exact ⟨u, a, b, hE _ _ _ _ hV d⟩⟩
theorem R1At.nil (V : View) : R1At E V [] ([] : List α) := ⟨rfl, fun i x hi => by simp at hi⟩
theorem R1At.pub (hE : ElOk E) {V : View} {b n c tot e : Nat} {o : Obj} {cells : List Value} {xs : List α} (h : R1At E V cells xs) (ho : RowObj ⟨e, cells, tot⟩ o) (hle : V.le (addV V b o)) (hn : xs.length = n) (hc : n ≤ c) (hm : c ≤ 9223372036854775807) : Sl1 E (addV V b o) (.slice (some ⟨b, 0, none⟩) n c) xs := by
  obtain ⟨ex, rfl, _⟩ := ho
  refine ⟨some ⟨b, 0, none⟩, c, by rw [hn], by omega, hm, .inr ⟨b, 0, _, e, (0, 0), rfl, by simp [addV]; rfl, fun i x hi => ?_⟩⟩
  obtain ⟨u, g1, g2, g3⟩ := h.2 i x hi
  have hlt : i < xs.length := by
    rcases Nat.lt_or_ge i xs.length with h1 | h1
    · exact h1
    · rw [List.getElem?_eq_none h1] at hi; cases hi
  refine ⟨u, ?_, g2, hE _ _ _ _ hle g3⟩
  simp only [Nat.zero_add, List.getElem?_toArray]; rw [List.getElem?_append_left (by have := h.1; omega)]; exact g1
theorem R1At.snoc {V : View} {cells : List Value} {xs : List α} (h : R1At E V cells xs) {u : Value} {x : α} (h1 : isOne u = true) (hx : E V u x) : R1At E V (cells ++ [u]) (xs ++ [x]) := by
  have hl := h.1
  refine ⟨by simp [hl], fun i y hi => ?_⟩
  by_cases hlt : i < xs.length
  · rw [List.getElem?_append_left hlt] at hi
    rw [List.getElem?_append_left (by omega)]; exact h.2 i y hi
  · rw [List.getElem?_append_right (by omega)] at hi
    have e : i = xs.length := by
      rcases Nat.lt_or_ge (i - xs.length) 1 with h2 | h2
      · omega
      · rw [List.getElem?_eq_none (by simpa using h2)] at hi; cases hi
    subst e
    rw [Nat.sub_self] at hi
    cases hi
    exact ⟨u, by rw [← hl]; simp, h1, hx⟩
theorem R1At.set {V : View} {cells : List Value} {xs : List α} (h : R1At E V cells xs) (i : Nat) (hi : i < xs.length) {u : Value} {x : α} (h1 : isOne u = true) (hx : E V u x) : R1At E V (cells.set i u) (xs.set i x) := by
  refine ⟨by rw [List.length_set, List.length_set]; exact h.1, fun j y hj => ?_⟩
  by_cases e : i = j
  · subst e
    rw [List.getElem?_set_self hi] at hj
    cases hj
    exact ⟨u, by rw [List.getElem?_set_self (by rw [h.1]; exact hi)], h1, hx⟩
  · rw [List.getElem?_set_ne e] at hj ⊢
    exact h.2 j y hj
theorem R1At.rep {V : View} {u : Value} {x : α} (n : Nat) (h1 : isOne u = true) (hx : E V u x) : R1At E V (List.replicate n u) (List.replicate n x) :=
  ⟨by simp, fun i y hi => by
    have hlt : i < n := by
      rcases Nat.lt_or_ge i n with h | h
      · exact h
      · rw [List.getElem?_eq_none (by simpa using h)] at hi; cases hi
    rw [List.getElem?_replicate, if_pos hlt] at hi
    cases hi
    exact ⟨u, by rw [List.getElem?_replicate, if_pos hlt], h1, hx⟩⟩
end
theorem flat_one {n : Nat} (u : Value) : (List.replicate n [u]).flatten = List.replicate n u := by
  induction n with
  | zero => rfl
  | succ n ih => rw [List.replicate_succ, List.flatten_cons, ih, List.replicate_succ]; rfl
end Go.Proofs.YtkgmicakfmllmaaGreat
end
section
namespace Go.Proofs.YtkgmicakfmllmaaGreat
open Go Go.RowKit Go.ChangeShapes
set_option linter.unusedVariables false
section
variable {H : Type} {enc : TypeId × Value → H} {w : World} {base : Nat} {spare : Nat → Bool} {held : Bool}
theorem open_ilist {fuel : Nat} {v : Value} {x : DataW H × List MemPlace} (h : DataW.trod enc Tryz.prog w base spare held fuel 34 [v] = some x) : ∃ zs : List Int, Sl1 intE (viewW w) v zs := by
  rcases open_ints (und_elem elemT_34) und_int cells_int h with ⟨hcs, _⟩ | ⟨a, len, cap, zs, hcs, _, hl, hm, hz, _, hcell, hwz⟩
  · cases hcs; exact ⟨[], Sl1.nil _⟩
  · cases hcs
    have hzl : len ≤ zs.length := by rw [hz]; split <;> omega
    refine ⟨zs.take len, some a, cap, by simp [Nat.min_eq_left hzl], by simp; omega, by unfold maxLen at hm; omega, ?_⟩
    rcases Nat.eq_zero_or_pos len with h0 | h0
    · subst h0; exact .inl (by simp)
    · obtain ⟨hs, arr, ty, fr, hb, hv⟩ := cells_view (f := fun i => .int .i64 (zs.getD i 0)) (by omega) hcell
      refine .inr ⟨a.block, a.off, arr, ty, fr, by rw [← addr_eta a hs], hb, fun i d hd => ?_⟩
      rw [List.getElem?_take] at hd
      split at hd
      · rename_i hi
        refine ⟨_, hv i (by omega), rfl, ?_⟩
        have hiz : i < zs.length := by omega
        rw [List.getElem?_eq_getElem hiz] at hd
        cases hd
        show Value.int .i64 (zs.getD i 0) = _
        rw [List.getD_eq_getElem?_getD, List.getElem?_eq_getElem hiz]; rfl
      · cases hd
end
end Go.Proofs.YtkgmicakfmllmaaGreat
end
section
namespace Go.Proofs.YtkgmicakfmllmaaGreat
open Go Go.RowKit
set_option linter.unusedSimpArgs false
set_option linter.unusedVariables false
attribute [local irreducible] XWP Spec SpecO XPub XCall seqX clX apX stX ldX iaX slX
theorem gcd_next {x y : Int} : Nat.gcd y.natAbs (x.tmod y).natAbs = Nat.gcd x.natAbs y.natAbs := by
  rw [Int.natAbs_tmod, Nat.gcd_comm y.natAbs, ← Nat.gcd_rec, Nat.gcd_comm]
theorem bgcd_c (V : View) (a b : Int) (ha : a.natAbs ≤ 1000000) (hb : b.natAbs ≤ 1000000) : Spec Tryz.prog 86 [.int .i64 a, .int .i64 b] V fun v' V' => v' = .int .i64 (Nat.gcd a.natAbs b.natAbs : Nat) := by
  refine (Spec.enter Tryz.func86 rfl fun Γ => ?_)
  simp only [Tryz.ntmps86, List.map_cons, List.map_nil, List.length_cons, List.length_nil, Nat.reduceAdd, Nat.reduceSub, List.replicate_succ, List.replicate_zero, List.cons_append, List.nil_append]
  refine Gx.a (by kernel_rfl) fun K hK => ?_
  simp only [XA]
  refine hK _ ?_
  refine XWP.cut (fun s => ∃ x : Int, StIs (fun Z => [.v (.int .i64 x), Z 1,Z 2,Z 3,Z 4,Z 5,Z 6,Z 7,Z 8,Z 9,Z 10,Z 11,Z 12,Z 13,Z 14]) [] (fun _ => none) V s ∧ x.natAbs = Nat.gcd a.natAbs b.natAbs ∧ x.natAbs ≤ 1000000) ?_ ?_
  · refine XWP.block ?_
    refine XWP.loop (fun q s => ∃ (x y : Int), StIs (fun Z => [.v (.int .i64 x), .v (.int .i64 y), Z 2,Z 3,Z 4,Z 5,Z 6,Z 7,Z 8,Z 9,Z 10,Z 11,Z 12,Z 13,Z 14]) [] (fun _ => none) V s ∧ q = y.natAbs ∧ x.natAbs ≤ 1000000 ∧ y.natAbs ≤ 1000000 ∧ Nat.gcd x.natAbs y.natAbs = Nat.gcd a.natAbs b.natAbs) b.natAbs ⟨a, b, StIs.of (by exact rfl), rfl, ha, hb, rfl⟩ ?_
    rintro q s ⟨x, y, hs, rfl, hx, hy, hg⟩
    obtain ⟨z, rfl⟩ := hs.out
    try dsimp only
    clear hs
    by_cases e : y = 0
    · subst e
      refine XWP.seq ?_
      refine Gx.a (by kernel_rfl) fun K hK => ?_
      simp only [XA, XB, decide_true]
      refine hK _ ?_
      refine Gx.f rfl ?_
      refine XWP.exit ?_
      exact ⟨x, StIs.of (by exact rfl), by simpa using hg, hx⟩
    · have b1 : decide (y = 0) = false := decide_eq_false e
      refine XWP.seq ?_
      refine Gx.a (by kernel_rfl) fun K hK => ?_
      simp only [XA, XB, b1]
      refine hK _ ?_
      refine Gx.t rfl ?_
      refine XWP.skip ?_
      refine XWP.block ?_
      (refine XWP.drw1 [0, 1, 2, 3, 4, 5] (by kernel_rfl) (by kernel_rfl) (by kernel_rfl) fun K hK => ?_) <;> dsimp only [pickOps, List.getElem?_cons_zero, List.getElem?_cons_succ]
      simp only [XA, XB, bin_rem _ _ _ _ e]
      have hlt : (x.tmod y).natAbs < y.natAbs := by rw [Int.natAbs_tmod]; exact Nat.mod_lt _ (by omega)
      exact hK _ ⟨_, hlt, y, x.tmod y, StIs.of (by exact rfl), rfl, hy, by omega, by rw [gcd_next]; exact hg⟩
  rintro s ⟨x, hs, hg, hx⟩
  obtain ⟨z, rfl⟩ := hs.out
  try dsimp only
  have w1 : IntKind.i64.wrap (0 - x) = 0 - x := wrap_id (by omega) (by omega)
  refine Gx.a (by kernel_rfl) fun K hK => ?_
  simp only [XA, w1]
  refine hK _ (XWP.ret ?_)
  try simp only [thenX_ret, inBlockX_ret]
  refine ret_go _ rfl ?_
  rw [← hg]
  show Value.int .i64 (if 0 - x > x then 0 - x else x) = _
  congr 1
  split <;> omega
theorem dgcd_c (V : View) (a b : Nat) (ha : a ≤ 1000000) (hb : b ≤ 1000000) : Spec Tryz.prog 87 [.int .i64 (a : Int), .int .i64 (b : Int)] V fun v' V' => v' = .int .i64 (Nat.gcd a b : Nat) := by
  refine (Spec.enter Tryz.func87 rfl fun Γ => ?_)
  simp only [Tryz.ntmps87, List.map_cons, List.map_nil, List.length_cons, List.length_nil, Nat.reduceAdd, Nat.reduceSub, List.replicate_succ, List.replicate_zero, List.cons_append, List.nil_append]
  refine Gx.a (by kernel_rfl) fun K hK => ?_
  simp only [XA]
  refine hK _ ?_
  refine XWP.cut (fun s => ∃ x : Nat, StIs (fun Z => [.v (.int .i64 (x : Int)), Z 1,Z 2,Z 3,Z 4,Z 5,Z 6,Z 7,Z 8,Z 9,Z 10,Z 11]) [] (fun _ => none) V s ∧ x = Nat.gcd a b) ?_ ?_
  · refine XWP.block ?_
    refine XWP.loop (fun q s => ∃ (x : Nat), StIs (fun Z => [.v (.int .i64 (x : Int)), .v (.int .i64 (q : Int)), Z 2,Z 3,Z 4,Z 5,Z 6,Z 7,Z 8,Z 9,Z 10,Z 11]) [] (fun _ => none) V s ∧ Nat.gcd x q = Nat.gcd a b) b ⟨a, StIs.of (by exact rfl), rfl⟩ ?_
    rintro q s ⟨x, hs, hg⟩
    obtain ⟨z, rfl⟩ := hs.out
    try dsimp only
    clear hs
    by_cases e : q = 0
    · subst e
      have b1 : decide (((0 : Nat) : Int) = 0) = true := rfl
      refine XWP.seq ?_
      refine Gx.a (by kernel_rfl) fun K hK => ?_
      simp only [XA, XB, b1]
      refine hK _ ?_
      refine Gx.f rfl ?_
      refine XWP.exit ?_
      exact ⟨x, StIs.of (by exact rfl), by simpa using hg⟩
    · have e' : (q : Int) ≠ 0 := by omega
      have b1 : decide ((q : Int) = 0) = false := decide_eq_false e'
      refine XWP.seq ?_
      refine Gx.a (by kernel_rfl) fun K hK => ?_
      simp only [XA, XB, b1]
      refine hK _ ?_
      refine Gx.t rfl ?_
      refine XWP.skip ?_
      refine XWP.block ?_
      (refine XWP.drw1 [0, 1, 2, 3, 4, 5] (by kernel_rfl) (by kernel_rfl) (by kernel_rfl) fun K hK => ?_) <;> dsimp only [pickOps, List.getElem?_cons_zero, List.getElem?_cons_succ]
      simp only [XA, XB, bin_rem _ _ _ _ e']
      have em : Int.tmod (x : Int) (q : Int) = ((x % q : Nat) : Int) := (Int.ofNat_tmod x q).symm
      rw [em]
      exact hK _ ⟨x % q, Nat.mod_lt _ (by omega), q, StIs.of (by exact rfl), by rw [Nat.gcd_comm q, ← Nat.gcd_rec, Nat.gcd_comm]; exact hg⟩
  rintro s ⟨x, hs, hx⟩
  obtain ⟨z, rfl⟩ := hs.out
  try dsimp only
  refine Gx.a (by kernel_rfl) fun K hK => ?_
  simp only [XA]
  refine hK _ (XWP.ret ?_)
  try simp only [thenX_ret, inBlockX_ret]
  refine ret_go _ rfl ?_
  rw [hx]; rfl
end Go.Proofs.YtkgmicakfmllmaaGreat
end
section
namespace Go.Proofs.YtkgmicakfmllmaaGreat
open Go Go.RowKit Go.MapKept
set_option linter.unusedVariables false
/-! ### Maps with integers as keys -/
def mpL : List (Int × Value) → Nat → List MapEntry
  | [], _ => []
  | (a, v) :: L, b => { key := .int .i64 a, val := v, born := b } :: mpL L (b + 1)
def getM : List (Int × Value) → Int → Option (Nat × Value)
  | [], _ => none
  | (a, v) :: L, n => if a = n then some (0, v) else (getM L n).map fun q => (q.1 + 1, q.2)
def putM : List (Int × Value) → Int → Value → List (Int × Value)
  | [], n, v => [(n, v)]
  | (a, u) :: L, n, v => if a = n then (a, v) :: L else (a, u) :: putM L n v
def mapO (L : List (Int × Value)) : Obj := .map (mpL L 0).toArray L.length
theorem findNow_mp (n : Int) : ∀ (L : List (Int × Value)) (b i : Nat), Instr.findNow (.int .i64) (.int .i64 n) (mpL L b) i = some ((getM L n).map fun q => (i + q.1, q.2))
  | [], _, _ => rfl
  | (a, v) :: L, b, i => by
    rw [mpL, Instr.findNow, getM]
    by_cases e : a = n
    · subst e
      simp [Instr.sameNow]
    · have e' : ¬ n = a := fun h => e h.symm
      simp only [Instr.sameNow, beq_eq_false_iff_ne.2 e', if_neg e, ↓reduceIte]
      rw [findNow_mp n L (b + 1) (i + 1)]
      cases getM L n with
      | none => rfl
      | some q =>
        simp only [Option.map_some, Option.some.injEq, Prod.mk.injEq, and_true]
        omega
theorem mp_push {n : Int} {v : Value} : ∀ (L : List (Int × Value)) (b : Nat), getM L n = none → mpL (putM L n v) b = mpL L b ++ [{ key := .int .i64 n, val := v, born := b + L.length }]
  | [], _, _ => rfl
  | (a, u) :: L, b, h => by
    rw [getM] at h
    by_cases e : a = n
    · rw [if_pos e] at h; cases h
    · rw [if_neg e] at h
      have h' : getM L n = none := by cases g : getM L n with
        | none => rfl
        | some q => rw [g] at h; cases h
      rw [putM, if_neg e, mpL, mpL, mp_push L (b + 1) h', List.cons_append, List.length_cons]
      congr 3
      congr 1
      omega
theorem putM_new {n : Int} {v : Value} : ∀ (L : List (Int × Value)), getM L n = none → putM L n v = L ++ [(n, v)]
  | [], _ => rfl
  | (a, u) :: L, h => by
    rw [getM] at h
    by_cases e : a = n
    · rw [if_pos e] at h; cases h
    · rw [if_neg e] at h
      have h' : getM L n = none := by cases g : getM L n with
        | none => rfl
        | some q => rw [g] at h; cases h
      rw [putM, if_neg e, putM_new L h', List.cons_append]
theorem putM_len {n : Int} {v : Value} : ∀ (L : List (Int × Value)) (q : Nat × Value), getM L n = some q → (putM L n v).length = L.length
  | [], _, h => by cases h
  | (a, u) :: L, q, h => by
    rw [getM] at h
    by_cases e : a = n
    · rw [putM, if_pos e]; rfl
    · rw [if_neg e] at h
      cases g : getM L n with
      | none => rw [g] at h; cases h
      | some q' => rw [putM, if_neg e, List.length_cons, List.length_cons, putM_len L q' g]
theorem mp_mod {n : Int} {v : Value} : ∀ (L : List (Int × Value)) (b j : Nat) (u : Value), getM L n = some (j, u) → (mpL L b).modify j (fun e => { e with key := .int .i64 n, val := v }) = mpL (putM L n v) b ∧ ∃ e, (mpL L b)[j]? = some e ∧ e.key = .int .i64 n
  | [], _, _, _, h => by cases h
  | (a, u) :: L, b, j, u', h => by
    rw [getM] at h
    by_cases e : a = n
    · subst e
      rw [if_pos rfl] at h
      cases h
      exact ⟨by rw [putM, if_pos rfl]; rfl, _, rfl, rfl⟩
    · rw [if_neg e] at h
      cases g : getM L n with
      | none => rw [g] at h; cases h
      | some q =>
        rw [g] at h
        obtain ⟨j', u2⟩ := q
        cases h
        obtain ⟨h1, h2⟩ := mp_mod L (b + 1) j' _ g
        refine ⟨?_, ?_⟩
        · rw [putM, if_neg e, mpL, mpL, ← h1]; rfl
        · rw [mpL]; exact h2
/-! ### A region, from an operation on -/
section
variable {Γ : Cx} {P : Program} {ops : Array Oper} {Q : Exit → XS → Prop} {s : XS} {j : Nat}
def Rest (Γ : Cx) (P : Program) (ops : Array Oper) (Q : Exit → XS → Prop) (j : Nat) (s : XS) : Prop :=
  ∀ bl a w, Conc Γ bl s a w → guardsIn ops s.t.length = true → wpOps P ops (XQ Γ (onlyN Q)) (List.range' j (ops.size - j)) a w
theorem XWP.rest {id : Nat} (hg : guardsIn ops s.t.length = true) (h : Rest Γ P ops Q 0 s) : XWP Γ P (.region id ops false) Q s := by
  intro bl a w hc
  have hnd : noDefer ops = true := by unfold guardsIn at hg; rw [Bool.and_eq_true] at hg; exact hg.1
  refine wpIn_mono (wpIn_region (wpOps_in onlyN_out hnd _ _ _ ?_)) (onlyN_all (Q := Q))
  have := h bl a w hc hg
  rwa [Nat.sub_zero, ← List.range_eq_range'] at this
theorem Rest.seq (n : Nat) (hn : j + n ≤ ops.size) (h : seqX P ops ((ops.toList.drop j).take n) (Rest Γ P ops Q (j + n)) s) : Rest Γ P ops Q j s := by
  intro bl a w hc hg
  have e1 : ((ops.toList.drop j).take n).length = n := by rw [List.length_take, List.length_drop, Array.length_toList]; omega
  have e2 : List.range' j (ops.size - j) = List.range' j ((ops.toList.drop j).take n).length ++ List.range' (j + n) (ops.size - (j + n)) := by
    rw [e1, List.range'_append_1]; congr 1; omega
  rw [e2]
  refine seqX_ops _ _ j _ (fun i o ho => ?_) bl s a w hc hg h fun bl' s' a' w' hc' hg' hk => hk bl' a' w' hc' hg'
  rw [List.getElem?_take] at ho
  split at ho
  · rw [List.getElem?_drop, Array.getElem?_toList] at ho; exact ho
  · cases ho
theorem Rest.done (h : seqX P ops (ops.toList.drop j) (fun s' => Q .normal s') s) : Rest Γ P ops Q j s := by
  intro bl a w hc hg
  have e1 : List.range' j (ops.size - j) = List.range' j (ops.toList.drop j).length ++ [] := by rw [List.length_drop, Array.length_toList, List.append_nil]
  rw [e1]
  exact seqX_ops [] _ j _ (fun i o ho => by rw [← Array.getElem?_toList]; rw [List.getElem?_drop] at ho; exact ho) bl s a w hc hg h fun bl s a w hc _ hq => ⟨bl, s, hc, hq⟩
/-- one operation, by what it does to the world -/
theorem Rest.op {o : Oper} (hi : ops[j]? = some o) (hgd : o.guard = none) (h : ∀ bl a w, Conc Γ bl s a w → ∃ v w' s', ((execOp a.eval o).run P w = .ok (.value v) w' ∨ ((execOp a.eval o).run P w = .ok .skip w' ∧ v = undef)) ∧ Conc Γ bl s' (a.put o.dst v) w' ∧ s'.t.length = s.t.length ∧ Rest Γ P ops Q (j + 1) s') : Rest Γ P ops Q j s := by
  intro bl a w hc hg
  have hlt : j < ops.size := (Array.getElem?_eq_some_iff.1 hi).1
  have e1 : List.range' j (ops.size - j) = j :: List.range' (j + 1) (ops.size - (j + 1)) := by
    rw [show ops.size - j = (ops.size - (j + 1)) + 1 by omega, List.range'_succ]
  rw [e1, wpOps_cons]
  obtain ⟨v, w', s', hrun, hc', hl, hr⟩ := h bl a w hc
  unfold wpOp
  simp only [hi]
  rw [if_pos (by unfold Region.wanted; rw [hgd])]
  refine .inl ?_
  unfold Oper.wp
  rcases hrun with hrun | ⟨hrun, rfl⟩
  · rw [hrun]
    exact hr bl _ w' hc' (by rw [hl]; exact hg)
  · rw [hrun]
    exact hr bl _ w' hc' (by rw [hl]; exact hg)
/-- memory since the function began -/
def Cx.own (Γ : Cx) (r : Nat) : Prop := Γ.w0.heap.size ≤ r ∧ Γ.w1.heap.size ≤ r
theorem Rest.makeMap {d : Option Tmp} {t : TypeId} {ty pos af} (hi : ops[j]? = some ⟨d, .makeMap t none, ty, pos, af, none⟩) (h : ∀ r, Γ.own r → s.V r = none → s.H r = none → Rest Γ P ops Q (j + 1) (XS.put ⟨s.t, s.bx, s.H, addV s.V r (mapO [])⟩ d (.v (.map (some r))))) : Rest Γ P ops Q j s := by
  refine Rest.op hi rfl fun bl a w hc => ?_
  have hb := Below.of_alloc w (mapO [])
  have hV : s.V w.heap.size = none := hc.cw.fresh_V (Nat.le_refl _)
  have hsub : (addV s.V w.heap.size (mapO [])).sub (w.alloc (mapO [])) := fun k o hk => by
    unfold addV at hk
    split at hk
    · rename_i e; subst e; cases hk; exact heap_alloc_at _ _
    · exact view_alloc hc.cw.view _ k o hk
  have hle : s.V.le (addV s.V w.heap.size (mapO [])) := fun k o hk => by
    unfold addV
    split
    · rename_i e; rw [e, hV] at hk; cases hk
    · exact hk
  have h0 : Γ.w0.heap.size ≤ w.heap.size := hc.cw.below.size
  have h1 : Γ.w1.heap.size ≤ w.heap.size := hc.df.2.size
  have hcs : CS Γ bl s.bx s.H (addV s.V w.heap.size (mapO [])) := by
    refine ⟨hc.cs.inj, fun i hi => ?_, fun b r hr => ?_, View.le_trans hc.cs.V0 hle, fun k o hk => ?_⟩
    · obtain ⟨a1, a2, a3⟩ := hc.cs.bxH i hi
      refine ⟨a1, ?_, a3⟩
      unfold addV
      rw [if_neg (by have := hc.cw.lt_box hi; omega)]; exact a2
    · obtain ⟨a1, a2⟩ := hc.cs.HV b r hr
      refine ⟨?_, a2⟩
      unfold addV
      rw [if_neg (by have := hc.cw.lt_row hr; omega)]; exact a1
    · unfold addV at hk
      split at hk
      · rename_i e; subst e; cases hk; exact .inr ⟨h0, rfl⟩
      · exact hc.cs.frm k o hk
  refine ⟨.map (some w.heap.size), w.alloc (mapO []), _, .inl ?_, ?_, by rw [put_len], h w.heap.size ⟨h0, h1⟩ hV (hc.cw.fresh_H (Nat.le_refl _))⟩
  · simp [execOp, Instr.makeMap, mapO, mpL]
  · exact Conc.put (s := ⟨s.t, s.bx, s.H, addV s.V w.heap.size (mapO [])⟩) ⟨hc.tm, hc.df.keep (Below.others hb), hc.cw.grow hb hsub, hcs, hc.ok⟩ d (.v _) trivial
/-- the zero value of a type -/
def zvT (P : Program) (t : TypeId) : Option Value := match P.info? t with
  | some i => i.zero
  | none => none
theorem run_zvT {t : TypeId} {z : Value} (h : zvT P t = some z) (w : World) : (zeroValue t).run P w = .ok z w := by
  unfold zvT at h
  split at h
  · rename_i i hi
    simp [zeroValue, typeInfo, hi, h]
  · cases h
def lookV (ok : Bool) (r : Option (Nat × Value)) (z : Value) : Value := match ok, r with
  | true, some (_, v) => .tuple #[v, .bool true]
  | true, none => .tuple #[z, .bool false]
  | false, some (_, v) => v
  | false, none => z
theorem Rest.lookup {d : Option Tmp} {t : TypeId} {x i : Operand} {ok : Bool} {ty pos af} (hi : ops[j]? = some ⟨d, .lookup t x i ok, ty, pos, af, none⟩) {r : Nat} {n : Int} {L : List (Int × Value)} {kt et : TypeId} {z : Value} (hx : s.ev x = .v (.map (some r))) (hn : s.ev i = .v (.int .i64 n)) (hV : s.V r = some (mapO L))
    (hm : P.underlying t = some (.map kt et)) (hk : P.underlying kt = some (.int .i64)) (hz : zvT P et = some z) (h : Rest Γ P ops Q (j + 1) (s.put d (.v (lookV ok (getM L n) z)))) : Rest Γ P ops Q j s := by
  refine Rest.op hi rfl fun bl a w hc => ?_
  have hheap := hc.cw.view r _ hV
  refine ⟨_, w, _, .inl ?_, Conc.put hc d (.v _) trivial, by rw [put_len], h⟩
  have hf := run_findKey (P := P) (w := w) hk (findNow_mp n L 0 0)
  have hck : ∀ e, (Instr.checkKey e 10000 kt (.int .i64 n)).run P w = .ok () w := fun e => run_checkKey hk (by simp [IsKey]) e 9999
  have e1 : a.eval x = .map (some r) := by rw [hc.ev, hx]; rfl
  have e2 : a.eval i = .int .i64 n := by rw [hc.ev, hn]; rfl
  have hgo : (getObj r).run P w = .ok (.map (mpL L 0).toArray L.length) w := Go.MapKept.run_getObj_map hheap
  simp only [execOp, e1, e2, Instr.lookup, Sem.run_bind, run_und hm, Result.andThen_ok, hgo, Sem.run_pure, hck, hf]
  cases getM L n with
  | none => cases ok <;> simp [run_zvT hz, lookV, SV.conc]
  | some q => obtain ⟨q1, q2⟩ := q; cases ok <;> simp [lookV, SV.conc]
/-- the view, with a map changed -/
theorem Conc.setMap {bl : Nat → Nat} {a : Act} {w : World} (hΓ : Γ.Plain) {r : Nat} {L L' : List (Int × Value)} (hc : Conc Γ bl s a w) (hown : Γ.own r) (hV : s.V r = some (mapO L)) : Conc Γ bl ⟨s.t, s.bx, s.H, addV s.V r (mapO L')⟩ a (w.putObj r (mapO L')) := by
  have hheap := hc.cw.view r _ hV
  have hat := heap_set (o' := mapO L') hheap
  have hne : ∀ k c e f, w.heap[k]? = some (.cells c e f) → k ≠ r := fun k c e f hk e2 => by rw [e2, hheap] at hk; cases hk
  refine ⟨hc.tm, ?_, ⟨fun i vs hi => ?_, fun b q hb => ?_, fun k o hk => ?_, ?_⟩, ⟨hc.cs.inj, fun i hi => ?_, fun b q hq => ?_, fun k o hk => ?_, fun k o hk => ?_⟩, hc.ok⟩
  · obtain ⟨⟨ms, h1, h2, h3⟩, h4⟩ := hc.df
    refine ⟨⟨ms, h1, h2, fun D hD => ⟨(h3 D hD).1, ?_⟩⟩, others_put h4 hown.2 _⟩
    refine (World.putObj_heap_other (fun e => ?_)).trans (h3 D hD).2
    have := (h3 D hD).2
    rw [e, hheap] at this; cases this
  · obtain ⟨ty, hh⟩ := hc.cw.box i vs hi
    exact ⟨ty, (World.putObj_heap_other (hne _ _ _ _ hh)).trans hh⟩
  · obtain ⟨ex, hh, hl⟩ := hc.cw.row b q hb
    exact ⟨ex, (World.putObj_heap_other (hne _ _ _ _ hh)).trans hh, hl⟩
  · have hk2 : addV s.V r (mapO L') k = some o := hk
    clear hk
    unfold addV at hk2
    split at hk2
    · rename_i e; rw [e]; cases hk2; exact hat.1
    · rename_i e
      exact (World.putObj_heap_other e).trans (hc.cw.view k o hk2)
  · refine hc.cw.below.trans ((Below.refl _ w).grown (grownBy_putObj' w r _) ?_ fun k e => by cases e; exact hown.1)
    exact hc.cw.below.size
  · obtain ⟨a1, a2, a3⟩ := hc.cs.bxH i hi
    refine ⟨a1, ?_, a3⟩
    show addV s.V r (mapO L') (bl i) = none
    unfold addV
    rw [if_neg (fun e => by rw [e, hV] at a2; cases a2)]; exact a2
  · obtain ⟨a1, a2⟩ := hc.cs.HV b q hq
    refine ⟨?_, a2⟩
    show addV s.V r (mapO L') b = none
    unfold addV
    rw [if_neg (fun e => by rw [e, hV] at a1; cases a1)]; exact a1
  · have hlt := (Array.getElem?_eq_some_iff.1 (hΓ.2 k o hk)).1
    show addV s.V r (mapO L') k = some o
    unfold addV
    rw [if_neg (by have := hown.1; omega)]; exact hc.cs.V0 k o hk
  · have hk2 : addV s.V r (mapO L') k = some o := hk
    clear hk
    unfold addV at hk2
    split at hk2
    · rename_i e; rw [e]; cases hk2; exact .inr ⟨hown.1, rfl⟩
    · exact hc.cs.frm k o hk2
theorem Rest.putMap {d : Option Tmp} {op : Op} {t : TypeId} {x k y : Operand} {ty pos af} (hi : ops[j]? = some ⟨d, op, ty, pos, af, none⟩) (hop : op = .mapUpdate t x k y ∨ op = .insert t x k y) (hΓ : Γ.Plain) {r : Nat} {n : Int} {u : Value} {L : List (Int × Value)} {kt et : TypeId} (hx : s.ev x = .v (.map (some r))) (hn : s.ev k = .v (.int .i64 n)) (hy : s.ev y = .v u) (hown : Γ.own r) (hV : s.V r = some (mapO L))
    (hm : P.underlying t = some (.map kt et)) (hk : P.underlying kt = some (.int .i64)) (h : Rest Γ P ops Q (j + 1) (XS.put ⟨s.t, s.bx, s.H, addV s.V r (mapO (putM L n u))⟩ d (.v undef))) : Rest Γ P ops Q j s := by
  refine Rest.op hi rfl fun bl a w hc => ?_
  have hheap := hc.cw.view r _ hV
  have hf := run_findKey (P := P) (w := w) hk (findNow_mp n L 0 0)
  have hck : ∀ e, (Instr.checkKey e 10000 kt (.int .i64 n)).run P w = .ok () w := fun e => run_checkKey hk (by simp [IsKey]) e 9999
  have e1 : a.eval x = .map (some r) := by rw [hc.ev, hx]; rfl
  have e2 : a.eval k = .int .i64 n := by rw [hc.ev, hn]; rfl
  have e3 : a.eval y = u := by rw [hc.ev, hy]; rfl
  have hgo : (getObj r).run P w = .ok (.map (mpL L 0).toArray L.length) w := Go.MapKept.run_getObj_map hheap
  have hrun : (Instr.mapUpdate t (.map (some r)) (.int .i64 n) u).run P w = .ok () (w.putObj r (mapO (putM L n u))) := by
    simp only [Instr.mapUpdate, Sem.run_bind, run_und hm, Result.andThen_ok, hgo, hck, hf]
    cases hg : getM L n with
    | none =>
      have e4 := mp_push (v := u) L 0 hg
      have e5 : (putM L n u).length = L.length + 1 := by rw [putM_new L hg]; simp
      simp only [Option.map_none]
      rw [Go.MapKept.run_setObj_map _ (show w.heap[r]? = some (.map (mpL L 0).toArray L.length) from hheap)]
      unfold mapO World.putObj
      rw [e4, e5, Nat.zero_add]
      simp
    | some q =>
      obtain ⟨q1, q2⟩ := q
      obtain ⟨e4, e, e5, e6⟩ := mp_mod (v := u) L 0 q1 q2 hg
      have e7 := putM_len (v := u) L _ hg
      simp only [Option.map_some, Nat.zero_add, List.getElem?_toArray, e5, Option.getD_some, e6, Sem.run_bind]
      rw [run_keyThatStays (d := .int .i64) (k := .int .i64 n) (by simp [IsKey])]
      simp only [Result.andThen_ok]
      rw [Go.MapKept.run_setObj_map _ (show w.heap[r]? = some (.map (mpL L 0).toArray L.length) from hheap)]
      unfold mapO World.putObj
      rw [e7, ← e4, List.modify_toArray]
  refine ⟨undef, w.putObj r (mapO (putM L n u)), _, .inr ⟨?_, rfl⟩, Conc.put (hc.setMap hΓ hown hV) d (.v undef) trivial, by rw [put_len], h⟩
  rcases hop with rfl | rfl
  · simp only [execOp, e1, e2, e3, Sem.run_bind, hrun, Result.andThen_ok]; rfl
  · simp only [execOp, e1, e2, e3, Sem.run_bind, hrun, Result.andThen_ok]; rfl
/-- a slice with a bound on its capacity -/
theorem Rest.slice3 {d : Option Tmp} {t : TypeId} {x q1 q2 : Operand} {ty pos af} (hi : ops[j]? = some ⟨d, .slice t x none (some q1) (some q2), ty, pos, af, none⟩) {A : Option Addr} {n c h m : Nat} {e : TypeId} {g : Bool} {sz : Nat} (hx : s.ev x = .v (.slice A n c)) (h1 : s.ev q1 = .v (.int .i64 (h : Int))) (h2 : s.ev q2 = .v (.int .i64 (m : Int))) (hm : m ≤ c) (hh : h ≤ m)
    (he : elemT P t = some e) (hs : shapeT P e = some (g, sz)) (hk : Rest Γ P ops Q (j + 1) (s.put d (.v (.slice A h m)))) : Rest Γ P ops Q j s := by
  refine Rest.op hi rfl fun bl a w hc => ?_
  have e1 : a.eval x = .slice A n c := by rw [hc.ev, hx]; rfl
  have e2 : a.eval q1 = .int .i64 (h : Int) := by rw [hc.ev, h1]; rfl
  have e3 : a.eval q2 = .int .i64 (m : Int) := by rw [hc.ev, h2]; rfl
  obtain ⟨_, hsz⟩ := shape_parts hs
  refine ⟨_, w, _, .inl ?_, Conc.put hc d (.v _) trivial, by rw [put_len], hk⟩
  have hbd : (Instr.sliceBounds true n c none (some (.int .i64 (h : Int))) (some (.int .i64 (m : Int)))).run P w = .ok (0, h, m) w := by
    have b1 := fun code => run_bound (P := P) (k := .i64) (code := code) (i := (m : Int)) (y := c) w (by omega) (by omega)
    have b2 := fun code => run_bound (P := P) (k := .i64) (code := code) (i := (h : Int)) (y := m) w (by omega) (by omega)
    simp [Instr.sliceBounds, b1, b2]
  simp only [execOp, e1, Option.map_none, Option.map_some, e2, e3, Instr.sliceAt]
  have ea : (A.map fun x => x.add (0 * sz)) = A := by cases A <;> simp [Addr.add]
  simp [run_und (und_elem he), Instr.slice, hbd, hsz, SV.conc, Addr.add]
/-- what is appended to a slice without room -/
theorem Rest.append0 {d : Option Tmp} {t t2 : TypeId} {x y : Operand} {ty pos af} (hi : ops[j]? = some ⟨d, .call ⟨.builtin .append, #[x, y], #[t, t2]⟩, ty, pos, af, none⟩) {b o m : Nat} {e : TypeId} {z : List Value} {sz by_ : Nat} {yv : Value} {news : List Value} (hx : s.ev x = .v (.slice (some ⟨b, o, none⟩) 0 0)) (hy : s.ev y = .v yv)
    (he : elemT P t = some e) (he2 : (elemT P t2).isSome = true) (hz : zeroT P e = some (z, sz, by_)) (hzl : z.length = sz) (hsz : 0 < sz) (hsrc : Src s.H s.V sz yv m news) (hm : 1 ≤ m) (h63 : m ≤ 9223372036854775807) (h47 : m * by_ ≤ 140737488355328)
    (h : ∀ v' H', AppRes s.H s.V e sz (.slice none 0 0) m news v' H' → Rest Γ P ops Q (j + 1) (XS.put ⟨s.t, s.bx, H', s.V⟩ d (.v v'))) : Rest Γ P ops Q j s := by
  refine Rest.op hi rfl fun bl a w hc => ?_
  have e1 : a.eval x = .slice (some ⟨b, o, none⟩) 0 0 := by rw [hc.ev, hx]; rfl
  have e3 : a.eval y = yv := by rw [hc.ev, hy]; rfl
  obtain ⟨A, c, rfl, hnl, hone, hsrc⟩ := hsrc
  obtain ⟨e2, he2⟩ := Option.isSome_iff_exists.1 he2
  obtain ⟨i, zv, hinf, hzv, rfl, rfl, rfl⟩ := zero_parts hz
  have hzs : zv.cells.size = i.size := by simpa using hzl
  obtain ⟨src, rfl, hnews⟩ : ∃ src, A = some src ∧ ∀ j u, news[j]? = some u → w.cell? (src.add j) = some u := by
    rcases hsrc with h0 | ⟨b, o, rfl, hcell⟩
    · omega
    · exact ⟨_, rfl, fun j u hu => by rw [addr_add]; exact cell_of hc.cw (hcell j u hu)⟩
  have hge := grownCap_ge w (0 + m) 0 e
  have hr := run_append_grow (P := P) w t ty e i zv (und_elem he) hinf hzv ⟨b, o, none⟩ 0 0 [] (by simp) (by simp) src m c news hnl hnews (by omega) (by omega) (growslice_fits (by omega) (by rw [Nat.zero_add]; exact h47))
  obtain ⟨h1, h2, h3, h4⟩ := conc_push_row hc.drew ⟨e, news, grownCap w (0 + m) 0 e * i.size⟩ (Builtin.zeroCells zv.cells (grownCap w (0 + m) 0 e - (0 + m))).toList
    (by simp only [List.length_append, Array.length_toList, size_zeroCells, hnl, hzs]; rw [← Nat.add_mul]; congr 1; omega)
  have hres : AppRes s.H s.V e i.size (.slice none 0 0) m news (.slice (some ⟨w.heap.size, 0, none⟩) (0 + m) (grownCap w (0 + m) 0 e)) (upd s.H w.heap.size (some ⟨e, news, grownCap w (0 + m) 0 e * i.size⟩)) := by
    refine ⟨⟨hnl, .inr ⟨w.heap.size, grownCap w (0 + m) 0 e, by rw [Nat.zero_add], by simp [upd], by omega, grownCap_le_maxLen w (0 + m) 0 e (by rw [Nat.zero_add]; exact h63)⟩⟩, fun k hk => ?_, fun g hg => .inr ?_⟩
    · simp only [Value.ownBlock, ne_eq, Option.some.injEq] at hk
      unfold upd; rw [if_neg (fun e => hk e.symm)]
    · cases hg; exact ⟨h3, h4⟩
  refine ⟨_, _, _, .inl ?_, Conc.put (s := ⟨s.t, s.bx, upd s.H w.heap.size (some ⟨e, news, grownCap w (0 + m) 0 e * i.size⟩), s.V⟩) h1 d (.v _) trivial, by rw [put_len], h _ _ hres⟩
  have hr2 := hr
  rw [← run_append_types (t2 := t2) (und_elem he) (und_elem he2)] at hr2
  have e4 : (([] : List Value).toArray ++ news.toArray ++ Builtin.zeroCells zv.cells (grownCap w (0 + m) 0 e - (0 + m))) = (news ++ (Builtin.zeroCells zv.cells (grownCap w (0 + m) 0 e - (0 + m))).toList).toArray := by simp
  rw [e4] at hr2
  simp [execOp, resolve, invoke, builtin, e1, e3, hr2, SV.conc]
end
end Go.Proofs.YtkgmicakfmllmaaGreat
end
section
namespace Go.Proofs.YtkgmicakfmllmaaGreat
set_option linter.unusedVariables false
def Sm (f : Nat → Rat) : Nat → Rat
  | 0 => 0
  | n + 1 => Sm f n + f n
theorem Sm_congr {f g : Nat → Rat} : ∀ (n : Nat), (∀ j, j < n → f j = g j) → Sm f n = Sm g n
  | 0, _ => rfl
  | n + 1, h => by
    have := Sm_congr n (fun j hj => h j (by omega))
    simp only [Sm, this, h n (by omega)]
theorem Sm_zero {f : Nat → Rat} (n : Nat) (h : ∀ j, j < n → f j = 0) : Sm f n = 0 := by
  induction n with
  | zero => rfl
  | succ n ih =>
    simp only [Sm, ih fun j hj => h j (by omega), h n (by omega)]
    grind
theorem Sm_add (f g : Nat → Rat) (n : Nat) : Sm (fun j => f j + g j) n = Sm f n + Sm g n := by
  induction n with
  | zero => simp only [Sm]; grind
  | succ n ih => simp only [Sm, ih]; grind
theorem Sm_mul (c : Rat) (f : Nat → Rat) (n : Nat) : Sm (fun j => c * f j) n = c * Sm f n := by
  induction n with
  | zero => simp only [Sm]; grind
  | succ n ih => simp only [Sm, ih]; grind
theorem Sm_one {f : Nat → Rat} {n k : Nat} (hk : k < n) (h : ∀ j, j < n → j ≠ k → f j = 0) : Sm f n = f k := by
  induction n with
  | zero => omega
  | succ n ih =>
    by_cases hn : k = n
    · subst hn
      simp only [Sm, Sm_zero k fun j hj => h j (by omega) (by omega)]; grind
    · simp only [Sm, ih (by omega) fun j hj => h j (by omega), h n (by omega) (by omega)]; grind
end Go.Proofs.YtkgmicakfmllmaaGreat
end
section
namespace Go.Proofs.YtkgmicakfmllmaaGreat
set_option linter.unusedVariables false
end Go.Proofs.YtkgmicakfmllmaaGreat
end
section
namespace Go.Proofs.YtkgmicakfmllmaaGreat
set_option linter.unusedVariables false
end Go.Proofs.YtkgmicakfmllmaaGreat
end
section
namespace Go.Proofs.YtkgmicakfmllmaaGreat
set_option linter.unusedVariables false
set_option linter.unusedSimpArgs false
end Go.Proofs.YtkgmicakfmllmaaGreat
end
section
namespace Go.Proofs.YtkgmicakfmllmaaGreat
set_option linter.unusedVariables false
set_option linter.unusedSimpArgs false
end Go.Proofs.YtkgmicakfmllmaaGreat
end
section
namespace Go.Proofs.YtkgmicakfmllmaaGreat
set_option linter.unusedVariables false
set_option linter.unusedSimpArgs false
end Go.Proofs.YtkgmicakfmllmaaGreat
end
section
namespace Go.Proofs.YtkgmicakfmllmaaGreat
set_option linter.unusedVariables false
set_option linter.unusedSimpArgs false
end Go.Proofs.YtkgmicakfmllmaaGreat
end
section
namespace Go.Proofs.YtkgmicakfmllmaaGreat
set_option linter.unusedVariables false
end Go.Proofs.YtkgmicakfmllmaaGreat
end
section
namespace Go.Proofs.YtkgmicakfmllmaaGreat
set_option linter.unusedVariables false
/-- numbers not below 0 -/
theorem ng_iff (q : Rat) : ng q = false ↔ 0 ≤ q := by
  unfold ng
  rw [decide_eq_false_iff_not]
  rw [Int.not_lt]; exact Rat.num_nonneg
end Go.Proofs.YtkgmicakfmllmaaGreat
end
section
namespace Go.Proofs.YtkgmicakfmllmaaGreat
theorem XM : type_of% (And.intro (And.intro (And.intro (@shapeT_24) (@zeroT_24)) (And.intro (@fieldT_24_0) (And.intro (@fieldT_24_1) (@fieldT_24_2)))) (And.intro (And.intro (@shapeT_31) (@zeroT_31)) (And.intro (@fieldT_31_0) (And.intro (@fieldT_31_1) (@fieldT_31_2))))) := And.intro (And.intro (And.intro (@shapeT_24) (@zeroT_24)) (And.intro (@fieldT_24_0) (And.intro (@fieldT_24_1) (@fieldT_24_2)))) (And.intro (And.intro (@shapeT_31) (@zeroT_31)) (And.intro (@fieldT_31_0) (And.intro (@fieldT_31_1) (@fieldT_31_2))))
end Go.Proofs.YtkgmicakfmllmaaGreat
end
section
namespace Go.Proofs.YtkgmicakfmllmaaGreat
open Go Go.RowKit
set_option linter.unusedSimpArgs false
set_option linter.unusedVariables false
attribute [local irreducible] XWP Spec SpecO XPub XCall seqX clX apX stX ldX iaX slX
def matR (r c : Int) (L : List Raw) : Bool := decide (0 ≤ r ∧ r ≤ 60 ∧ 0 ≤ c ∧ c ≤ 60 ∧ (L.length : Int) = r * c) && okR L
theorem mul60 {r c : Int} (h1 : 0 ≤ r) (h2 : r ≤ 60) (h3 : 0 ≤ c) (h4 : c ≤ 60) : 0 ≤ r * c ∧ r * c ≤ 3600 :=
  ⟨Int.mul_nonneg h1 h3, Int.le_trans (Int.mul_le_mul h2 h4 h3 (by omega)) (by omega)⟩
theorem matR_bad {r c : Int} {L : List Raw} (h : ¬ (0 ≤ r ∧ r ≤ 60 ∧ 0 ≤ c ∧ c ≤ 60 ∧ (L.length : Int) = r * c)) : matR r c L = false := by unfold matR; rw [decide_eq_false h]; rfl
theorem cmright_c (V : View) (s : Value) (r c : Int) (l : List Raw) (h : Raws V s l) (f : fitR l) (ll : l.length ≤ 1000000) : Spec Tryz.prog 118 [.agg #[.int .i64 r, .int .i64 c, s]] V fun v' V' => v' = .bool (matR r c l) := by
  obtain ⟨A, cp, rfl, hc, hm⟩ := h.form
  refine (Spec.enter Tryz.func118 rfl fun Γ => ?_)
  simp only [Tryz.ntmps118, List.map_cons, List.map_nil, List.length_cons, List.length_nil, Nat.reduceAdd, Nat.reduceSub, List.replicate_succ, List.replicate_zero, List.cons_append, List.nil_append]
  refine Gx.a (by kernel_rfl) fun K hK => ?_
  simp only [XA]
  refine hK _ ?_
  refine XWP.seq ?_
  by_cases d1 : r < 0
  · have b1 : decide (r < 0) = true := decide_eq_true d1
    have e := matR_bad (r := r) (c := c) (L := l) (by omega)
    refine Gx.a (by kernel_rfl) fun K hK => ?_
    simp only [XM, XA, XB, gateX, ↓reduceIte, b1]
    refine hK _ ?_
    refine Gx.t rfl ?_
    refine Gx.a (by kernel_rfl) fun K hK => ?_
    simp only [XA]
    refine hK _ (XWP.ret ?_)
    try simp only [thenX_ret, inBlockX_ret]
    refine ret_go _ rfl ?_
    rw [e]; rfl
  have b1 : decide (r < 0) = false := decide_eq_false d1
  by_cases d2 : 60 < r
  · have b2 : decide (60 < r) = true := decide_eq_true d2
    have e := matR_bad (r := r) (c := c) (L := l) (by omega)
    refine Gx.a (by kernel_rfl) fun K hK => ?_
    simp only [XM, XA, XB, gateX, ↓reduceIte, beq_self_eq_true, b1, b2]
    refine hK _ ?_
    refine Gx.t rfl ?_
    refine Gx.a (by kernel_rfl) fun K hK => ?_
    simp only [XA]
    refine hK _ (XWP.ret ?_)
    try simp only [thenX_ret, inBlockX_ret]
    refine ret_go _ rfl ?_
    rw [e]; rfl
  have b2 : decide (60 < r) = false := decide_eq_false d2
  by_cases d3 : c < 0
  · have b3 : decide (c < 0) = true := decide_eq_true d3
    have e := matR_bad (r := r) (c := c) (L := l) (by omega)
    refine Gx.a (by kernel_rfl) fun K hK => ?_
    simp only [XM, XA, XB, gateX, ↓reduceIte, beq_self_eq_true, b1, b2, b3]
    refine hK _ ?_
    refine Gx.t rfl ?_
    refine Gx.a (by kernel_rfl) fun K hK => ?_
    simp only [XA]
    refine hK _ (XWP.ret ?_)
    try simp only [thenX_ret, inBlockX_ret]
    refine ret_go _ rfl ?_
    rw [e]; rfl
  have b3 : decide (c < 0) = false := decide_eq_false d3
  by_cases d4 : 60 < c
  · have b4 : decide (60 < c) = true := decide_eq_true d4
    have e := matR_bad (r := r) (c := c) (L := l) (by omega)
    refine Gx.a (by kernel_rfl) fun K hK => ?_
    simp only [XM, XA, XB, gateX, ↓reduceIte, beq_self_eq_true, b1, b2, b3, b4]
    refine hK _ ?_
    refine Gx.t rfl ?_
    refine Gx.a (by kernel_rfl) fun K hK => ?_
    simp only [XA]
    refine hK _ (XWP.ret ?_)
    try simp only [thenX_ret, inBlockX_ret]
    refine ret_go _ rfl ?_
    rw [e]; rfl
  have b4 : decide (60 < c) = false := decide_eq_false d4
  have hm60 := mul60 (r := r) (c := c) (by omega) (by omega) (by omega) (by omega)
  have w : IntKind.i64.wrap (r * c) = r * c := wrap_id (by omega) (by omega)
  by_cases d5 : (l.length : Int) = r * c
  rotate_left
  · have b5 : decide ((l.length : Int) = r * c) = false := decide_eq_false d5
    have e := matR_bad (r := r) (c := c) (L := l) (by omega)
    refine Gx.a (by kernel_rfl) fun K hK => ?_
    simp only [XM, XA, XB, gateX, ↓reduceIte, beq_self_eq_true, b1, b2, b3, b4, w, b5]
    refine hK _ ?_
    refine Gx.t rfl ?_
    refine Gx.a (by kernel_rfl) fun K hK => ?_
    simp only [XA]
    refine hK _ (XWP.ret ?_)
    try simp only [thenX_ret, inBlockX_ret]
    refine ret_go _ rfl ?_
    rw [e]; rfl
  have b5 : decide ((l.length : Int) = r * c) = true := decide_eq_true d5
  refine Gx.a (by kernel_rfl) fun K hK => ?_
  simp only [XM, XA, XB, gateX, ↓reduceIte, beq_self_eq_true, b1, b2, b3, b4, w, b5]
  refine hK _ ?_
  refine Gx.f rfl ?_
  refine XWP.skip ?_
  have eM : matR r c l = okR l := by unfold matR; rw [decide_eq_true ⟨by omega, by omega, by omega, by omega, d5⟩]; rfl
  rw [eM]
  clear eM
  refine XWP.cutD 1 (fun s => ∃ V2, StIs (fun Z => [Z 0,Z 1,Z 2,Z 3,Z 4,Z 5,Z 6,Z 7,Z 8,Z 9,Z 10,Z 11,Z 12,Z 13,Z 14,Z 15,Z 16,Z 17,Z 18,Z 19,Z 20,Z 21,Z 22,Z 23,Z 24,Z 25,Z 26,Z 27,Z 28,Z 29,Z 30,Z 31,Z 32,Z 33,Z 34,Z 35,Z 36,Z 37,Z 38,Z 39,Z 40,Z 41,Z 42,Z 43,Z 44]) [[.int .i64 r, .int .i64 c, .slice A l.length cp]] (fun _ => none) V2 s ∧ okR l = true) ?_ ?_
  · refine Gx.a (by kernel_rfl) fun K hK => ?_
    simp only [XM, XA, XB]
    refine hK _ ?_
    clear hK
    refine XWP.block ?_
    refine XWP.loopD 1 (fun n s => ∃ (k : Nat) (V2 : View), StIs (fun Z => [Z 0, .p 0 0, Z 2,Z 3,Z 4,Z 5,Z 6,Z 7,Z 8,Z 9,Z 10,Z 11,Z 12,Z 13,Z 14,Z 15,Z 16,Z 17,Z 18,Z 19,Z 20,Z 21,Z 22,Z 23,Z 24,Z 25,Z 26,Z 27,Z 28,Z 29,Z 30,Z 31,Z 32,Z 33,Z 34, .v (.slice A l.length cp), .v (.int .i64 (l.length : Int)), .v (.int .i64 (k : Int)), Z 38,Z 39,Z 40,Z 41,Z 42,Z 43,Z 44]) [[.int .i64 r, .int .i64 c, .slice A l.length cp]] (fun _ => none) V2 s ∧ V.le V2 ∧ n + k = l.length ∧ okR (l.take k) = true) l.length ⟨0, V, StIs.of (by exact rfl), View.le_refl _, rfl, by simp [okR]⟩ ?_
    rintro n s ⟨k, V2, hs, hV2, hn, hk⟩
    obtain ⟨u, rfl⟩ := hs.out
    try dsimp only
    by_cases hlt : k < l.length
    · have b6 : decide ((k : Int) < (l.length : Int)) = true := decide_eq_true (by omega)
      refine Gx.a (by kernel_rfl) fun K hK => ?_
      simp only [XA, XB, b6]
      refine hK _ ?_
      refine XWP.seq (Gx.t rfl ?_)
      refine XWP.skip ?_
      refine XWP.seq ?_
      refine XWP.block ?_
      refine Gx.a (by kernel_rfl) fun K hK => ?_
      have hv2 := Raws.up h hV2
      obtain ⟨b, o, rfl⟩ := SlAt.addr hv2 (by omega)
      obtain ⟨x, hx, ⟨m3, n3, d3, rfl, p1, p2, p3⟩, hld⟩ := SlAt.load hv2 k hlt
      simp only [XA, XB]
      refine ⟨by omega, by omega, ld_mem (hld _) ?_⟩
      simp only [XA, XB]
      refine st_rat rfl rfl p1 p2 p3 ?_
      simp only [XA]
      refine hK _ ?_
      have ff := f _ (List.getElem_mem hlt)
      refine Gx.a (by kernel_rfl) fun K hK => ?_
      simp only [XA, XB, Nat.reduceAdd, Nat.reduceLeDiff, ↓reduceIte]
      refine call_go (by kernel_rfl) rfl (qright_c _ _ _ _ _ hx ff.1 ff.2) fun v3 V3 hV3 h3 => ?_
      subst h3
      have et : l.take (k + 1) = l.take k ++ [l[k]] := by rw [List.take_succ_eq_append_getElem hlt]
      cases hr : rawOk l[k].m l[k].nd l[k].dd
      · simp only [XA]
        refine hK _ ?_
        refine Gx.t rfl ?_
        refine Gx.a (by kernel_rfl) fun K hK => ?_
        simp only [XA]
        refine hK _ (XWP.ret ?_)
        try simp only [thenX_ret, inBlockX_ret]
        refine ret_go _ rfl ?_
        have : okR l = false := by
          unfold okR
          rw [List.all_eq_false]
          exact ⟨l[k], List.getElem_mem hlt, by unfold Raw.ok; rw [hr]; simp⟩
        rw [this]; rfl
      · simp only [XA]
        refine hK _ ?_
        refine Gx.f rfl ?_
        refine XWP.skip ?_
        refine Gx.c (by kernel_rfl) fun K hK => ?_
        simp only [XA, XB, i64_succ k (by omega)]
        refine hK _ ⟨n - 1, by omega, fun f => ⟨k + 1, V3, StIs.of (by exact rfl), View.le_trans hV2 hV3, by omega, ?_⟩⟩
        unfold okR at hk ⊢
        rw [et, List.all_append, hk]
        simp [Raw.ok, hr]
    · have b6 : decide ((k : Int) < (l.length : Int)) = false := decide_eq_false (by omega)
      refine Gx.a (by kernel_rfl) fun K hK => ?_
      simp only [XA, XB, b6]
      refine hK _ ?_
      refine XWP.seq (Gx.f rfl ?_)
      refine XWP.exit ?_
      rw [List.take_of_length_le (by omega)] at hk
      exact fun f => ⟨V2, StIs.of (by exact rfl), hk⟩
  rintro s ⟨V2, hs, hk⟩
  obtain ⟨u, rfl⟩ := hs.out
  try dsimp only
  refine Gx.a (by kernel_rfl) fun K hK => ?_
  simp only [XA]
  refine hK _ (XWP.ret ?_)
  try simp only [thenX_ret, inBlockX_ret]
  refine ret_go _ rfl ?_
  rw [hk]; rfl
theorem dmright_c (V : View) (s : Value) (r c : Int) (l : List Raw) (h : Raws V s l) (f : fitR l) (ll : l.length ≤ 1000000) : Spec Tryz.prog 60 [.agg #[.int .i64 r, .int .i64 c, s]] V fun v' V' => v' = .bool (matR r c l) := by
  obtain ⟨A, cp, rfl, hc, hm⟩ := h.form
  refine (Spec.enter Tryz.func60 rfl fun Γ => ?_)
  simp only [Tryz.ntmps60, List.map_cons, List.map_nil, List.length_cons, List.length_nil, Nat.reduceAdd, Nat.reduceSub, List.replicate_succ, List.replicate_zero, List.cons_append, List.nil_append]
  refine Gx.a (by kernel_rfl) fun K hK => ?_
  simp only [XA]
  refine hK _ ?_
  refine XWP.seq ?_
  by_cases d1 : r < 0
  · have b1 : decide (r < 0) = true := decide_eq_true d1
    have e := matR_bad (r := r) (c := c) (L := l) (by omega)
    refine Gx.a (by kernel_rfl) fun K hK => ?_
    simp only [XM, XA, XB, gateX, ↓reduceIte, b1]
    refine hK _ ?_
    refine Gx.t rfl ?_
    refine Gx.a (by kernel_rfl) fun K hK => ?_
    simp only [XA]
    refine hK _ (XWP.ret ?_)
    try simp only [thenX_ret, inBlockX_ret]
    refine ret_go _ rfl ?_
    rw [e]; rfl
  have b1 : decide (r < 0) = false := decide_eq_false d1
  by_cases d2 : 60 < r
  · have b2 : decide (60 < r) = true := decide_eq_true d2
    have e := matR_bad (r := r) (c := c) (L := l) (by omega)
    refine Gx.a (by kernel_rfl) fun K hK => ?_
    simp only [XM, XA, XB, gateX, ↓reduceIte, beq_self_eq_true, b1, b2]
    refine hK _ ?_
    refine Gx.t rfl ?_
    refine Gx.a (by kernel_rfl) fun K hK => ?_
    simp only [XA]
    refine hK _ (XWP.ret ?_)
    try simp only [thenX_ret, inBlockX_ret]
    refine ret_go _ rfl ?_
    rw [e]; rfl
  have b2 : decide (60 < r) = false := decide_eq_false d2
  by_cases d3 : c < 0
  · have b3 : decide (c < 0) = true := decide_eq_true d3
    have e := matR_bad (r := r) (c := c) (L := l) (by omega)
    refine Gx.a (by kernel_rfl) fun K hK => ?_
    simp only [XM, XA, XB, gateX, ↓reduceIte, beq_self_eq_true, b1, b2, b3]
    refine hK _ ?_
    refine Gx.t rfl ?_
    refine Gx.a (by kernel_rfl) fun K hK => ?_
    simp only [XA]
    refine hK _ (XWP.ret ?_)
    try simp only [thenX_ret, inBlockX_ret]
    refine ret_go _ rfl ?_
    rw [e]; rfl
  have b3 : decide (c < 0) = false := decide_eq_false d3
  by_cases d4 : 60 < c
  · have b4 : decide (60 < c) = true := decide_eq_true d4
    have e := matR_bad (r := r) (c := c) (L := l) (by omega)
    refine Gx.a (by kernel_rfl) fun K hK => ?_
    simp only [XM, XA, XB, gateX, ↓reduceIte, beq_self_eq_true, b1, b2, b3, b4]
    refine hK _ ?_
    refine Gx.t rfl ?_
    refine Gx.a (by kernel_rfl) fun K hK => ?_
    simp only [XA]
    refine hK _ (XWP.ret ?_)
    try simp only [thenX_ret, inBlockX_ret]
    refine ret_go _ rfl ?_
    rw [e]; rfl
  have b4 : decide (60 < c) = false := decide_eq_false d4
  have hm60 := mul60 (r := r) (c := c) (by omega) (by omega) (by omega) (by omega)
  have w : IntKind.i64.wrap (r * c) = r * c := wrap_id (by omega) (by omega)
  by_cases d5 : (l.length : Int) = r * c
  rotate_left
  · have b5 : decide ((l.length : Int) = r * c) = false := decide_eq_false d5
    have e := matR_bad (r := r) (c := c) (L := l) (by omega)
    refine Gx.a (by kernel_rfl) fun K hK => ?_
    simp only [XM, XA, XB, gateX, ↓reduceIte, beq_self_eq_true, b1, b2, b3, b4, w, b5]
    refine hK _ ?_
    refine Gx.t rfl ?_
    refine Gx.a (by kernel_rfl) fun K hK => ?_
    simp only [XA]
    refine hK _ (XWP.ret ?_)
    try simp only [thenX_ret, inBlockX_ret]
    refine ret_go _ rfl ?_
    rw [e]; rfl
  have b5 : decide ((l.length : Int) = r * c) = true := decide_eq_true d5
  refine Gx.a (by kernel_rfl) fun K hK => ?_
  simp only [XM, XA, XB, gateX, ↓reduceIte, beq_self_eq_true, b1, b2, b3, b4, w, b5]
  refine hK _ ?_
  refine Gx.f rfl ?_
  refine XWP.skip ?_
  have eM : matR r c l = okR l := by unfold matR; rw [decide_eq_true ⟨by omega, by omega, by omega, by omega, d5⟩]; rfl
  rw [eM]
  clear eM
  refine XWP.cutD 1 (fun s => ∃ V2, StIs (fun Z => [Z 0,Z 1,Z 2,Z 3,Z 4,Z 5,Z 6,Z 7,Z 8,Z 9,Z 10,Z 11,Z 12,Z 13,Z 14,Z 15,Z 16,Z 17,Z 18,Z 19,Z 20,Z 21,Z 22,Z 23,Z 24,Z 25,Z 26,Z 27,Z 28,Z 29,Z 30,Z 31,Z 32,Z 33,Z 34,Z 35,Z 36,Z 37,Z 38,Z 39,Z 40,Z 41,Z 42,Z 43,Z 44]) [[.int .i64 r, .int .i64 c, .slice A l.length cp]] (fun _ => none) V2 s ∧ okR l = true) ?_ ?_
  · refine Gx.a (by kernel_rfl) fun K hK => ?_
    simp only [XM, XA, XB]
    refine hK _ ?_
    clear hK
    refine XWP.block ?_
    refine XWP.loopD 1 (fun n s => ∃ (k : Nat) (V2 : View), StIs (fun Z => [Z 0, .p 0 0, Z 2,Z 3,Z 4,Z 5,Z 6,Z 7,Z 8,Z 9,Z 10,Z 11,Z 12,Z 13,Z 14,Z 15,Z 16,Z 17,Z 18,Z 19,Z 20,Z 21,Z 22,Z 23,Z 24,Z 25,Z 26,Z 27,Z 28,Z 29,Z 30,Z 31,Z 32,Z 33,Z 34, .v (.slice A l.length cp), .v (.int .i64 (l.length : Int)), .v (.int .i64 (k : Int)), Z 38,Z 39,Z 40,Z 41,Z 42,Z 43,Z 44]) [[.int .i64 r, .int .i64 c, .slice A l.length cp]] (fun _ => none) V2 s ∧ V.le V2 ∧ n + k = l.length ∧ okR (l.take k) = true) l.length ⟨0, V, StIs.of (by exact rfl), View.le_refl _, rfl, by simp [okR]⟩ ?_
    rintro n s ⟨k, V2, hs, hV2, hn, hk⟩
    obtain ⟨u, rfl⟩ := hs.out
    try dsimp only
    by_cases hlt : k < l.length
    · have b6 : decide ((k : Int) < (l.length : Int)) = true := decide_eq_true (by omega)
      refine Gx.a (by kernel_rfl) fun K hK => ?_
      simp only [XA, XB, b6]
      refine hK _ ?_
      refine XWP.seq (Gx.t rfl ?_)
      refine XWP.skip ?_
      refine XWP.seq ?_
      refine XWP.block ?_
      refine Gx.a (by kernel_rfl) fun K hK => ?_
      have hv2 := Raws.up h hV2
      obtain ⟨b, o, rfl⟩ := SlAt.addr hv2 (by omega)
      obtain ⟨x, hx, ⟨m3, n3, d3, rfl, p1, p2, p3⟩, hld⟩ := SlAt.load hv2 k hlt
      simp only [XA, XB]
      refine ⟨by omega, by omega, ld_mem (hld _) ?_⟩
      simp only [XA, XB]
      refine st_rat rfl rfl p1 p2 p3 ?_
      simp only [XA]
      refine hK _ ?_
      have ff := f _ (List.getElem_mem hlt)
      refine Gx.a (by kernel_rfl) fun K hK => ?_
      simp only [XA, XB, Nat.reduceAdd, Nat.reduceLeDiff, ↓reduceIte]
      refine call_go (by kernel_rfl) rfl (pright_c _ _ _ _ _ hx ff.1 ff.2) fun v3 V3 hV3 h3 => ?_
      subst h3
      have et : l.take (k + 1) = l.take k ++ [l[k]] := by rw [List.take_succ_eq_append_getElem hlt]
      cases hr : rawOk l[k].m l[k].nd l[k].dd
      · simp only [XA]
        refine hK _ ?_
        refine Gx.t rfl ?_
        refine Gx.a (by kernel_rfl) fun K hK => ?_
        simp only [XA]
        refine hK _ (XWP.ret ?_)
        try simp only [thenX_ret, inBlockX_ret]
        refine ret_go _ rfl ?_
        have : okR l = false := by
          unfold okR
          rw [List.all_eq_false]
          exact ⟨l[k], List.getElem_mem hlt, by unfold Raw.ok; rw [hr]; simp⟩
        rw [this]; rfl
      · simp only [XA]
        refine hK _ ?_
        refine Gx.f rfl ?_
        refine XWP.skip ?_
        refine Gx.c (by kernel_rfl) fun K hK => ?_
        simp only [XA, XB, i64_succ k (by omega)]
        refine hK _ ⟨n - 1, by omega, fun f => ⟨k + 1, V3, StIs.of (by exact rfl), View.le_trans hV2 hV3, by omega, ?_⟩⟩
        unfold okR at hk ⊢
        rw [et, List.all_append, hk]
        simp [Raw.ok, hr]
    · have b6 : decide ((k : Int) < (l.length : Int)) = false := decide_eq_false (by omega)
      refine Gx.a (by kernel_rfl) fun K hK => ?_
      simp only [XA, XB, b6]
      refine hK _ ?_
      refine XWP.seq (Gx.f rfl ?_)
      refine XWP.exit ?_
      rw [List.take_of_length_le (by omega)] at hk
      exact fun f => ⟨V2, StIs.of (by exact rfl), hk⟩
  rintro s ⟨V2, hs, hk⟩
  obtain ⟨u, rfl⟩ := hs.out
  try dsimp only
  refine Gx.a (by kernel_rfl) fun K hK => ?_
  simp only [XA]
  refine hK _ (XWP.ret ?_)
  try simp only [thenX_ret, inBlockX_ret]
  refine ret_go _ rfl ?_
  rw [hk]; rfl
/-- a cell of a matrix that is right -/
theorem ccell_c (V : View) (s : Value) (r : Int) (n i k : Nat) (l : List Rat) (h : Rats V s l) (hk : i * n + k < l.length) (hn : n ≤ 60) (hi : i ≤ 60) (ll : l.length ≤ 1000000) :
    Spec Tryz.prog 156 [.agg #[.int .i64 r, .int .i64 (n : Int), s], .int .i64 (i : Int), .int .i64 (k : Int)] V fun v' V' => RatC V' v' (cf l (i * n + k)) := by
  obtain ⟨A, cp, rfl, hc, hm⟩ := h.form
  obtain ⟨b, o, rfl⟩ := SlAt.addr h (by omega)
  obtain ⟨m3, n3, d3, hx, ⟨p1, p2, p3⟩, hld⟩ := Rats.get h (i * n + k) hk
  have hin : i * n ≤ 3600 := Nat.le_trans (Nat.mul_le_mul hi hn) (by decide)
  have w1 : IntKind.i64.wrap ((i : Int) * (n : Int)) = ((i * n : Nat) : Int) := by rw [← Int.natCast_mul, wrap_id (by omega) (by omega)]
  have w2 := i64_add (i * n) k (by omega)
  refine (Spec.enter Tryz.func156 rfl fun Γ => ?_)
  simp only [Tryz.ntmps156, List.map_cons, List.map_nil, List.length_cons, List.length_nil, Nat.reduceAdd, Nat.reduceSub, List.replicate_succ, List.replicate_zero, List.cons_append, List.nil_append]
  refine Gx.a (by kernel_rfl) fun K hK => ?_
  simp only [XA, XB]
  refine hK _ ?_
  refine Gx.a (by kernel_rfl) fun K hK => ?_
  simp only [XM, XA, XB, w1, w2]
  refine ⟨by omega, by omega, ld_mem (hld _) ?_⟩
  simp only [XA]
  refine st_rat rfl rfl p1 p2 p3 ?_
  simp only [XA]
  refine hK _ (XWP.ret ?_)
  try simp only [thenX_ret, inBlockX_ret]
  exact ret_rat1 rfl rfl rfl hx
end Go.Proofs.YtkgmicakfmllmaaGreat
end
section
namespace Go.Proofs.YtkgmicakfmllmaaGreat
open Go Go.RowKit
set_option linter.unusedSimpArgs false
set_option linter.unusedVariables false
attribute [local irreducible] XWP Spec SpecO XPub XCall seqX clX apX stX ldX iaX slX
theorem sgI_abs (q : Rat) : (q.num : Int) = sgI q * (q.num.natAbs : Int) := by
  unfold sgI
  have h0 := rat_zero_iff q
  by_cases h : q = 0
  · rw [if_pos h, h]; rfl
  · rw [if_neg h]
    cases hn : ng q
    · have := (ng_iff q).1 hn
      have := Rat.num_nonneg.2 this
      rw [if_neg (by simp)]; omega
    · unfold ng at hn
      have := of_decide_eq_true hn
      rw [if_pos rfl]; omega
theorem sgI_val (q : Rat) : sgI q = 0 ∨ sgI q = 1 ∨ sgI q = -1 := by
  unfold sgI
  split
  · exact .inl rfl
  · split
    · exact .inr (.inr rfl)
    · exact .inr (.inl rfl)
theorem cmp_same {p q : Rat} (h : sgI p = sgI q) : sgI p * cmpI (p.num.natAbs * q.den) (q.num.natAbs * p.den) = 0 ↔ p = q := by
  have hp := sgI_abs p
  have hq := sgI_abs q
  constructor
  · intro hz
    rcases Int.mul_eq_zero.1 hz with h0 | h0
    · have e1 := sgI_zero p
      have e2 := sgI_zero q
      rw [← h, h0] at e2
      rw [h0] at e1
      have e1 : p = 0 := by simpa using e1.symm
      have e2 : q = 0 := by simpa using e2.symm
      rw [e1, e2]
    · have e : p.num.natAbs * q.den = q.num.natAbs * p.den := by
        unfold cmpI at h0
        split at h0
        · cases h0
        · split at h0
          · cases h0
          · omega
      rw [Rat.eq_iff_mul_eq_mul, hp, hq, h, Int.mul_assoc, Int.mul_assoc, ← Int.natCast_mul, ← Int.natCast_mul, e]
  · intro e
    subst e
    have : cmpI (p.num.natAbs * p.den) (p.num.natAbs * p.den) = 0 := by unfold cmpI; rw [if_neg (by omega), if_neg (by omega)]
    rw [this, Int.mul_zero]
theorem cmpI_val (a b : Nat) : cmpI a b = 0 ∨ cmpI a b = 1 ∨ cmpI a b = -1 := by
  unfold cmpI
  split
  · exact .inr (.inr rfl)
  · split
    · exact .inr (.inl rfl)
    · exact .inl rfl
theorem qcompare_c (V : View) (v u : Value) (p q : Rat) (hv : RatC V v p) (hu : RatC V u q) (fp : QF p) (fq : QF q) : Spec Tryz.prog 115 [v, u] V fun v' V' => ∃ z : Int, v' = .int .i64 z ∧ (z = 0 ↔ p = q) := by
  have hv0 := hv
  have hu0 := hu
  obtain ⟨n1, d1, rfl, hn1, hd1⟩ := hv
  obtain ⟨n2, d2, rfl, hn2, hd2⟩ := hu
  refine (Spec.enter Tryz.func115 rfl fun Γ => ?_)
  simp only [Tryz.ntmps115, List.map_cons, List.map_nil, List.length_cons, List.length_nil, Nat.reduceAdd, Nat.reduceSub, List.replicate_succ, List.replicate_zero, List.cons_append, List.nil_append]
  refine Gx.a (by kernel_rfl) fun K hK => ?_
  simp only [XA]
  refine hK _ ?_
  (refine XWP.drw [0, 2, 1, 3, 4, 5] (by kernel_rfl) (by kernel_rfl) (by kernel_rfl) fun K hK => ?_) <;> dsimp only [pickOps, List.getElem?_cons_zero, List.getElem?_cons_succ]
  simp only [XA, XB, Nat.reduceAdd, Nat.reduceLeDiff, ↓reduceIte]
  refine call_go (by kernel_rfl) rfl (qsign_c _ _ _ hv0) fun v1 V1 hV1 h1 => ?_
  subst h1
  simp only [XA]
  refine call_go (by kernel_rfl) rfl (qsign_c _ _ _ (hu0.mono hV1)) fun v2 V2 hV2 h2 => ?_
  subst h2
  simp only [XA]
  refine hK _ ?_
  have hV := View.le_trans hV1 hV2
  have hne : sgI p ≠ sgI q → ¬ p = q := fun h e => h (by rw [e])
  refine XWP.cut (fun s => StIs (fun Z => [Z 0,Z 1, .p 0 0, .p 1 0, Z 4, .v (.int .i64 (sgI p)), .v (.int .i64 (sgI q)), Z 7,Z 8,Z 9,Z 10,Z 11,Z 12,Z 13,Z 14,Z 15,Z 16,Z 17,Z 18,Z 19,Z 20,Z 21,Z 22,Z 23,Z 24,Z 25,Z 26,Z 27,Z 28,Z 29,Z 30,Z 31]) [[.bool (ng p), n1, d1], [.bool (ng q), n2, d2]] (fun _ => none) V2 s ∧ sgI p = sgI q) ?_ ?_
  · refine XWP.block ?_
    by_cases k1 : sgI p < sgI q
    · have b1 : decide (sgI p < sgI q) = true := decide_eq_true k1
      refine Gx.a (by kernel_rfl) fun K hK => ?_
      simp only [XA, XB, b1]
      refine hK _ ?_
      refine Gx.t rfl ?_
      refine Gx.a (by kernel_rfl) fun K hK => ?_
      simp only [XA]
      refine hK _ (XWP.ret ?_)
      try simp only [thenX_ret, inBlockX_ret]
      refine ret_go _ rfl ?_
      exact ⟨-1, rfl, (fun h => by cases h), fun h => absurd h (hne (by omega))⟩
    have b1 : decide (sgI p < sgI q) = false := decide_eq_false k1
    by_cases k2 : sgI q < sgI p
    · have b2 : decide (sgI q < sgI p) = true := decide_eq_true k2
      refine Gx.a (by kernel_rfl) fun K hK => ?_
      simp only [XA, XB, b1]
      refine hK _ ?_
      refine Gx.f rfl ?_
      refine Gx.a (by kernel_rfl) fun K hK => ?_
      simp only [XA, XB, b2]
      refine hK _ ?_
      refine Gx.t rfl ?_
      refine Gx.a (by kernel_rfl) fun K hK => ?_
      simp only [XA]
      refine hK _ (XWP.ret ?_)
      try simp only [thenX_ret, inBlockX_ret]
      refine ret_go _ rfl ?_
      exact ⟨1, rfl, (fun h => by cases h), fun h => absurd h (hne (by omega))⟩
    have b2 : decide (sgI q < sgI p) = false := decide_eq_false k2
    refine Gx.a (by kernel_rfl) fun K hK => ?_
    simp only [XA, XB, b1]
    refine hK _ ?_
    refine Gx.f rfl ?_
    refine Gx.a (by kernel_rfl) fun K hK => ?_
    simp only [XA, XB, b2]
    refine hK _ ?_
    refine Gx.f rfl ?_
    refine XWP.skip ?_
    exact ⟨StIs.of (by exact rfl), by omega⟩
  rintro s ⟨hs, hsg⟩
  obtain ⟨z, rfl⟩ := hs.out
  try dsimp only
  (refine XWP.drw [0, 1, 2, 3, 4, 6, 7, 8, 9, 5, 10, 11, 12, 13] (by kernel_rfl) (by kernel_rfl) (by kernel_rfl) fun K hK => ?_) <;> dsimp only [pickOps, List.getElem?_cons_zero, List.getElem?_cons_succ]
  simp only [XA, XB]
  refine call_go (by kernel_rfl) rfl (mul_c _ _ _ _ _ (hn1.mono hV) (hd2.mono hV) fp.fits.1 fq.fits.2) fun v3 V3 hV3 h3 => ?_
  simp only [XA]
  refine call_go (by kernel_rfl) rfl (mul_c _ _ _ _ _ ((hn2.mono hV).mono hV3) ((hd1.mono hV).mono hV3) fq.fits.1 fp.fits.2) fun v4 V4 hV4 h4 => ?_
  simp only [XA]
  refine call_go (by kernel_rfl) rfl (compare_c _ _ _ _ _ (h3.mono hV4) h4) fun v5 V5 hV5 h5 => ?_
  subst h5
  have w : IntKind.i64.wrap (sgI p * cmpI (p.num.natAbs * q.den) (q.num.natAbs * p.den)) = sgI p * cmpI (p.num.natAbs * q.den) (q.num.natAbs * p.den) := by
    rcases sgI_val p with e | e | e <;> rcases cmpI_val (p.num.natAbs * q.den) (q.num.natAbs * p.den) with e' | e' | e' <;> rw [e, e'] <;> exact wrap_id (by omega) (by omega)
  simp only [XA, XB, w]
  refine hK _ (XWP.ret ?_)
  try simp only [thenX_ret, inBlockX_ret]
  refine ret_go _ rfl ?_
  exact ⟨_, rfl, cmp_same hsg⟩
theorem qsame_c (V : View) (v u : Value) (p q : Rat) (hv : RatC V v p) (hu : RatC V u q) (fp : QF p) (fq : QF q) : Spec Tryz.prog 70 [v, u] V fun v' V' => v' = .bool (decide (p = q)) := by
  have hv0 := hv
  have hu0 := hu
  obtain ⟨x1, y1, rfl, o1, o2⟩ := hv.form
  obtain ⟨x2, y2, rfl, o3, o4⟩ := hu.form
  refine (Spec.enter Tryz.func70 rfl fun Γ => ?_)
  simp only [Tryz.ntmps70, List.map_cons, List.map_nil, List.length_cons, List.length_nil, Nat.reduceAdd, Nat.reduceSub, List.replicate_succ, List.replicate_zero, List.cons_append, List.nil_append]
  refine Gx.a (by kernel_rfl) fun K hK => ?_
  simp only [XA]
  refine hK _ ?_
  refine Gx.a (by kernel_rfl) fun K hK => ?_
  simp only [XA, XB, Nat.reduceAdd, Nat.reduceLeDiff, ↓reduceIte]
  refine call_go (by kernel_rfl) rfl (qcompare_c _ _ _ _ _ hv0 hu0 fp fq) fun v1 V1 hV1 h1 => ?_
  obtain ⟨z, rfl, hz⟩ := h1
  simp only [XA, XB]
  refine hK _ (XWP.ret ?_)
  try simp only [thenX_ret, inBlockX_ret]
  refine ret_go _ rfl ?_
  show Value.bool _ = _
  congr 1
  rw [decide_eq_decide]; exact hz
end Go.Proofs.YtkgmicakfmllmaaGreat
end
section
namespace Go.Proofs.YtkgmicakfmllmaaGreat
open Go Go.RowKit
set_option linter.unusedSimpArgs false
set_option linter.unusedVariables false
attribute [local irreducible] XWP Spec SpecO XPub XCall seqX clX apX stX ldX iaX slX
theorem st_mat {P : Program} {t i : Nat} {s : XS} {ops : Array Oper} {rest : List Oper} {K : XS → Prop} {d : Option Tmp} {m n e : Value} {vs : List Value} (hs : shapeT P t = some (true, 3)) (hb : s.bx[i]? = some vs) (hl : vs.length = 3) (h0 : isOne m = true) (h1 : isOne n = true) (h2 : isOne e = true) (h : seqX P ops rest K (XS.put ⟨s.t, s.bx.set i [m, n, e], s.H, s.V⟩ d (.v undef))) : stX P ops rest K s d t (.p i 0) (.v (.agg #[m, n, e])) := by
  refine st_agg (cs := [m, n, e]) hs hb rfl ⟨rfl, by simp [h0, h1, h2], by omega, ?_⟩
  have : splice vs 0 [m, n, e] = [m, n, e] := by
    unfold splice; simp [hl]
  rw [this]; exact h
end Go.Proofs.YtkgmicakfmllmaaGreat
end
section
namespace Go.Proofs.YtkgmicakfmllmaaGreat
open Go Go.RowKit
set_option linter.unusedSimpArgs false
set_option linter.unusedVariables false
attribute [local irreducible] XWP Spec SpecO XPub XCall seqX clX apX stX ldX iaX slX
end Go.Proofs.YtkgmicakfmllmaaGreat
end
section
namespace Go.Proofs.YtkgmicakfmllmaaGreat
open Go Go.RowKit
set_option linter.unusedSimpArgs false
set_option linter.unusedVariables false
attribute [local irreducible] XWP Spec SpecO XPub XCall seqX clX apX stX ldX iaX slX
end Go.Proofs.YtkgmicakfmllmaaGreat
end
section
namespace Go.Proofs.YtkgmicakfmllmaaGreat
open Go Go.RowKit
set_option linter.unusedSimpArgs false
set_option linter.unusedVariables false
attribute [local irreducible] XWP Spec SpecO XPub XCall seqX clX apX stX ldX iaX slX
theorem rowQ_load {H : Heap} {V : View} {b e tot : Nat} {cells : List Value} {xs : List Rat} (hr : H b = some ⟨e, cells, tot⟩) (h : RowAt ratE V cells xs) (i : Nat) (hi : i < xs.length) : ∃ m n d, RatC V (.agg #[m, n, d]) (cf xs i) ∧ (isOne m = true ∧ isOne n = true ∧ isOne d = true) ∧ Loads Tryz.prog H V 49 b (i * 3) (.agg #[m, n, d]) := by
  obtain ⟨v, h1, ⟨m, n, d, rfl, o1⟩, h2⟩ := RowAt.load hr h i hi
  rw [cf_get hi] at h1
  exact ⟨m, n, d, h1, o1, h2⟩
end Go.Proofs.YtkgmicakfmllmaaGreat
end
section
namespace Go.Proofs.YtkgmicakfmllmaaGreat
open Go Go.RowKit
set_option linter.unusedSimpArgs false
set_option linter.unusedVariables false
attribute [local irreducible] XWP Spec SpecO XPub XCall seqX clX apX stX ldX iaX slX
end Go.Proofs.YtkgmicakfmllmaaGreat
end
section
namespace Go.Proofs.YtkgmicakfmllmaaGreat
open Go Go.RowKit
set_option linter.unusedSimpArgs false
set_option linter.unusedVariables false
attribute [local irreducible] XWP Spec SpecO XPub XCall seqX clX apX stX ldX iaX slX
end Go.Proofs.YtkgmicakfmllmaaGreat
end
section
namespace Go.Proofs.YtkgmicakfmllmaaGreat
open Go Go.RowKit
set_option linter.unusedSimpArgs false
set_option linter.unusedVariables false
attribute [local irreducible] XWP Spec SpecO XPub XCall seqX clX apX stX ldX iaX slX
end Go.Proofs.YtkgmicakfmllmaaGreat
end
section
namespace Go.Proofs.YtkgmicakfmllmaaGreat
set_option linter.unusedVariables false
abbrev Grid := Nat → Nat → Rat
def swp (p t i : Nat) : Nat := if i = p then t else if i = t then p else i
def gsw (G : Grid) (p t : Nat) : Grid := fun i j => G (swp p t i) j
theorem swp_swp (p t i : Nat) : swp p t (swp p t i) = i := by unfold swp; split <;> (try split) <;> (try split) <;> omega
theorem swp_lt {p t i R : Nat} (hp : p < R) (ht : t < R) (hi : i < R) : swp p t i < R := by unfold swp; split <;> (try split) <;> omega
theorem Sm_lin (f g x : Nat → Rat) (c : Rat) (n : Nat) : Sm (fun j => (f j - c * g j) * x j) n = Sm (fun j => f j * x j) n - c * Sm (fun j => g j * x j) n := by
  induction n with
  | zero => simp only [Sm]; grind
  | succ n ih => simp only [Sm, ih]; grind
/-- the numbers that are read off -/
def gx (G : Grid) (wh : Nat → Int) (n c : Nat) : Rat := if 0 ≤ wh c then G (wh c).toNat n else 0
end Go.Proofs.YtkgmicakfmllmaaGreat
end
section
namespace Go.Proofs.YtkgmicakfmllmaaGreat
open Go Go.RowKit
set_option linter.unusedSimpArgs false
set_option linter.unusedVariables false
attribute [local irreducible] XWP Spec SpecO XPub XCall seqX clX apX stX ldX iaX slX
theorem upd_off {H : Heap} {b k : Nat} {r : Option Row} (h : k ≠ b) : upd H b r k = H k := by unfold upd; rw [if_neg h]
theorem src_one {H : Heap} {V : View} {b e tot : Nat} {a : Value} (hr : H b = some ⟨e, [a], tot⟩) (h1 : isOne a = true) : Src H V 1 (.slice (some ⟨b, 0, none⟩) 1 1) 1 [a] :=
  ⟨_, 1, rfl, rfl, fun u hu => by have : u = a := by simpa using hu
                                  rw [this]; exact h1, .inr ⟨b, 0, rfl, fun j u hj => .inl ⟨_, hr, by rw [Nat.zero_add]; exact hj⟩⟩⟩
theorem own_one {H : Heap} {e sz n : Nat} {v : Value} {xs : List Value} (h : Own H e sz v n xs) : isOne v = true := by
  rcases own_parts h with ⟨rfl, _, _⟩ | ⟨b, cap, rfl, _⟩ <;> rfl
def ge (B : Nat) : Nat → Nat
  | 0 => B
  | k + 1 => 4 * ge B k + 2
theorem ge_mono (B : Nat) {i j : Nat} (h : i ≤ j) : ge B i ≤ ge B j := by
  induction j with
  | zero => rw [show i = 0 by omega]; exact Nat.le_refl _
  | succ j ih =>
    rcases Nat.eq_or_lt_of_le h with h1 | h1
    · subst h1; exact Nat.le_refl _
    · have := ih (by omega)
      simp only [ge]; omega
end Go.Proofs.YtkgmicakfmllmaaGreat
end
section
namespace Go.Proofs.YtkgmicakfmllmaaGreat
open Go Go.RowKit
set_option linter.unusedSimpArgs false
set_option linter.unusedVariables false
attribute [local irreducible] XWP Spec SpecO XPub XCall seqX clX apX stX ldX iaX slX
def wtR (r : Raw) : Bool := r.ok && !ng r.q
def wtsR (l : List Raw) : Bool := l.all wtR
def wtB (n : Int) (l : List Raw) : Bool := decide ((l.length : Int) = n) && wtsR l
theorem wtsR_ok {l : List Raw} (h : wtsR l = true) : okR l = true ∧ ∀ i, i < l.length → ng (cf (qs l) i) = false := by
  unfold wtsR at h
  rw [List.all_eq_true] at h
  refine ⟨?_, fun i hi => ?_⟩
  · unfold okR
    rw [List.all_eq_true]
    intro r hr
    have := h r hr
    unfold wtR at this
    rw [Bool.and_eq_true] at this
    exact this.1
  · have := h l[i] (List.getElem_mem hi)
    unfold wtR at this
    rw [Bool.and_eq_true] at this
    have e : cf (qs l) i = l[i].q := by
      rw [← cf_get (by rw [qs_len]; exact hi)]
      unfold qs; simp
    rw [e]
    simpa using this.2
theorem RawAt.neg {V : View} {v : Value} {m : Bool} {nd dd : List Nat} (h : RawAt V v m nd dd) (hk : rawOk m nd dd = true) : ng (Go.Proofs.YtkgmicakfmllmaaGreat.rv m (nv nd) (nv dd)) = m := by
  obtain ⟨x, y, e, _, _⟩ := (RawAt.rat h hk).form
  obtain ⟨n, d, rfl, _, _⟩ := h
  simp only [Value.agg.injEq, Array.mk.injEq, List.cons.injEq, Value.bool.injEq] at e
  exact e.1.symm
end Go.Proofs.YtkgmicakfmllmaaGreat
end
section
namespace Go.Proofs.YtkgmicakfmllmaaGreat
open Go Go.RowKit
set_option linter.unusedSimpArgs false
set_option linter.unusedVariables false
attribute [local irreducible] XWP Spec SpecO XPub XCall seqX clX apX stX ldX iaX slX
end Go.Proofs.YtkgmicakfmllmaaGreat
end
section
namespace Go.Proofs.YtkgmicakfmllmaaGreat
open Go Go.RowKit
set_option linter.unusedSimpArgs false
set_option linter.unusedVariables false
attribute [local irreducible] XWP Spec SpecO XPub XCall seqX clX apX stX ldX iaX slX
end Go.Proofs.YtkgmicakfmllmaaGreat
end
section
namespace Go.Proofs.YtkgmicakfmllmaaGreat
set_option linter.unusedVariables false
end Go.Proofs.YtkgmicakfmllmaaGreat
end
section
namespace Go.Proofs.YtkgmicakfmllmaaGreat
open Go Go.RowKit
set_option linter.unusedSimpArgs false
set_option linter.unusedVariables false
attribute [local irreducible] XWP Spec SpecO XPub XCall seqX clX apX stX ldX iaX slX
theorem wtB_raw {n : Nat} {l : List Rat} (h : l.length = n) (hn : ∀ j, j < n → 0 ≤ cf l j) : wtB n (l.map toRaw) = true := by
  unfold wtB wtsR
  rw [List.length_map, decide_eq_true (by omega), Bool.true_and, List.all_eq_true]
  intro r hr
  obtain ⟨y, hy, rfl⟩ := List.mem_map.1 hr
  obtain ⟨i, hi, rfl⟩ := List.mem_iff_getElem.1 hy
  unfold wtR
  rw [toRaw_ok, toRaw_q, cf_get hi, (ng_iff _).2 (hn i (by omega))]; rfl
end Go.Proofs.YtkgmicakfmllmaaGreat
end
section
namespace Go.Proofs.YtkgmicakfmllmaaGreat
set_option linter.unusedVariables false
def mS (a b : List Rat) (n c i k : Nat) : Nat → Rat
  | 0 => 0
  | j + 1 => mS a b n c i k j + cf a (i * n + j) * cf b (j * c + k)
def mfull (a b : List Rat) (n c t : Nat) : Rat := mS a b n c (t / c) (t % c) n
/-- the numbers before tt are through, the one at tt to j -/
def mf (a b : List Rat) (n c tt j : Nat) : Nat → Rat := fun t => if t < tt then mfull a b n c t else if t = tt then mS a b n c (t / c) (t % c) j else 0
theorem mk_eq {m : Nat} {f g : Nat → Rat} (h : ∀ j, j < m → f j = g j) : mk m f = mk m g := by
  unfold mk
  exact List.map_congr_left fun j hj => h j (List.mem_range.1 hj)
theorem mk_put {m j : Nat} {f : Nat → Rat} {x : Rat} (hj : j < m) : (mk m f).set j x = mk m (fun c => if c = j then x else f c) := by
  unfold mk
  refine List.ext_getElem? fun i => ?_
  by_cases hi : i < m
  · by_cases e : j = i
    · subst e
      rw [List.getElem?_set_self (by simpa using hi)]
      simp [hi]
    · rw [List.getElem?_set_ne e]
      simp only [List.getElem?_map, List.getElem?_range hi, Option.map_some]
      rw [if_neg (fun e' => e e'.symm)]
  · rw [List.getElem?_eq_none (by simp; omega), List.getElem?_eq_none (by simp; omega)]
end Go.Proofs.YtkgmicakfmllmaaGreat
end
section
namespace Go.Proofs.YtkgmicakfmllmaaGreat
open Go Go.RowKit
set_option linter.unusedSimpArgs false
set_option linter.unusedVariables false
attribute [local irreducible] XWP Spec SpecO XPub XCall seqX clX apX stX ldX iaX slX
theorem st_one {P : Program} {t i off : Nat} {s : XS} {ops : Array Oper} {rest : List Oper} {K : XS → Prop} {d : Option Tmp} {v : Value} {vs : List Value} (hs : shapeT P t = some (false, 1)) (hb : s.bx[i]? = some vs) (h1 : isOne v = true) (hl : off < vs.length) (h : seqX P ops rest K (XS.put ⟨s.t, s.bx.set i (vs.set off v), s.H, s.V⟩ d (.v undef))) : stX P ops rest K s d t (.p i off) (.v v) := by
  unfold stX loudX
  have e0 : XS.ev ⟨[.p i off, .v v], s.bx, s.H, s.V⟩ (.tmp 0) = .p i off := rfl
  have e1 : XS.ev ⟨[.p i off, .v v], s.bx, s.H, s.V⟩ (.tmp 1) = .v v := rfl
  simp only [e0, e1, hs, hb]
  have ec : v.cells = #[v] := by cases v <;> first | rfl | cases h1
  refine ⟨by rw [ec]; rfl, by rw [ec]; simp [h1], by omega, ?_⟩
  have : splice vs off v.cells.toList = vs.set off v := by
    rw [ec]
    unfold splice
    rw [List.set_eq_take_append_cons_drop, if_pos hl]
    simp
  rw [this]; exact h
theorem placesT_24 : placesT Tryz.prog 24 = some [(0, 1), (1, 1), (2, 1)] := by kernel_rfl
theorem bd_mtx3 {x y z : Value} (hx : isOne x = true) (hy : isOne y = true) (hz : isOne z = true) : BuildsTo Tryz.prog 24 #[(0, x), (1, y), (2, z)] (.agg #[x, y, z]) := by
  refine bd_run placesT_24 zeroT_24 ?_
  show Instr.fill _ _ [(0, x), (1, y), (2, z)] = _
  rw [fill_one (off := 0) rfl hx (by simp), fill_one (off := 1) rfl hy (by simp), fill_one (off := 2) rfl hz (by simp)]; rfl
theorem bd_mtx2 {x y : Value} (hx : isOne x = true) (hy : isOne y = true) : BuildsTo Tryz.prog 24 #[(0, x), (1, y)] (.agg #[x, y, .slice none 0 0]) := by
  refine bd_run placesT_24 zeroT_24 ?_
  show Instr.fill _ _ [(0, x), (1, y)] = _
  rw [fill_one (off := 0) rfl hx (by simp), fill_one (off := 1) rfl hy (by simp)]; rfl
theorem bd_mtx0 : BuildsTo Tryz.prog 24 #[] (.agg #[.int .i64 0, .int .i64 0, .slice none 0 0]) := by
  refine bd_run placesT_24 zeroT_24 ?_
  rfl
theorem own_isOne {H : Heap} {e sz n : Nat} {v : Value} {xs : List Value} (h : Own H e sz v n xs) : isOne v = true := by
  obtain ⟨_, ⟨rfl, _⟩ | ⟨g, cap, rfl, _⟩⟩ := h <;> rfl
end Go.Proofs.YtkgmicakfmllmaaGreat
end
section
namespace Go.Proofs.YtkgmicakfmllmaaGreat
set_option linter.unusedVariables false
def LinG (G : Grid) (R n : Nat) (r x : Nat → Rat) : Prop := ∀ i, i < R → Sm (fun j => G i j * x j) n = r i
/-- row i less f times row t -/
def gsub (G : Grid) (i t : Nat) (f : Rat) : Grid := fun i' j => if i' = i then G i j - f * G t j else G i' j
def vsub (r : Nat → Rat) (i t : Nat) (f : Rat) : Nat → Rat := fun i' => if i' = i then r i - f * r t else r i'
theorem lin_sub {G : Grid} {R n i t : Nat} {f : Rat} {r x : Nat → Rat} (hi : i < R) (ht : t < R) (hne : i ≠ t) : LinG (gsub G i t f) R n (vsub r i t f) x ↔ LinG G R n r x := by
  have ei : Sm (fun j => gsub G i t f i j * x j) n = Sm (fun j => G i j * x j) n - f * Sm (fun j => G t j * x j) n := by
    rw [← Sm_lin]; exact Sm_congr _ fun j _ => by simp only [gsub, if_pos]
  have eo : ∀ k, k ≠ i → Sm (fun j => gsub G i t f k j * x j) n = Sm (fun j => G k j * x j) n := fun k hk => Sm_congr _ fun j _ => by simp only [gsub, if_neg hk]
  constructor
  · intro h
    have h1 := h t ht
    rw [eo t (Ne.symm hne)] at h1
    simp only [vsub, if_neg (Ne.symm hne)] at h1
    intro k hk
    by_cases e : k = i
    · subst e
      have h2 := h k hk
      rw [ei, h1] at h2
      simp only [vsub, if_pos] at h2; grind
    · have h2 := h k hk
      rw [eo k e] at h2
      simp only [vsub, if_neg e] at h2; exact h2
  · intro h k hk
    by_cases e : k = i
    · subst e
      rw [ei, h k hk, h t ht]; simp only [vsub, if_pos]
    · rw [eo k e, h k hk]; simp only [vsub, if_neg e]
theorem lin_swap {G : Grid} {R n p t : Nat} {r x : Nat → Rat} (hp : p < R) (ht : t < R) : LinG (gsw G p t) R n (fun i => r (swp p t i)) x ↔ LinG G R n r x := by
  constructor
  · intro h i hi
    have := h (swp p t i) (swp_lt hp ht hi)
    simp only [gsw, swp_swp] at this; exact this
  · intro h i hi; exact h (swp p t i) (swp_lt hp ht hi)
/-- the same solutions, for each right-hand side that stands in the grid, and for none -/
structure REq (G G' : Grid) (R n : Nat) : Prop where
  ker : ∀ x, LinG G' R n (fun _ => 0) x ↔ LinG G R n (fun _ => 0) x
  col : ∀ c x, LinG G' R n (fun i => G' i c) x ↔ LinG G R n (fun i => G i c) x
theorem REq.refl (G : Grid) (R n : Nat) : REq G G R n := ⟨fun _ => Iff.rfl, fun _ _ => Iff.rfl⟩
theorem REq.trans {A B C : Grid} {R n : Nat} (h : REq A B R n) (k : REq B C R n) : REq A C R n := ⟨fun x => (k.ker x).trans (h.ker x), fun c x => (k.col c x).trans (h.col c x)⟩
theorem REq.sub (G : Grid) {R n i t : Nat} (f : Rat) (hi : i < R) (ht : t < R) (hne : i ≠ t) : REq G (gsub G i t f) R n := by
  refine ⟨fun x => ?_, fun c x => ?_⟩
  · have e : (fun _ => (0 : Rat)) = vsub (fun _ => 0) i t f := by
      funext k; unfold vsub; split
      · grind
      · rfl
    rw [← lin_sub (G := G) hi ht hne (f := f) (r := fun _ => 0), ← e]
  · have e : (fun k => gsub G i t f k c) = vsub (fun k => G k c) i t f := by funext k; unfold vsub gsub; rfl
    rw [e, lin_sub hi ht hne]
theorem REq.swap (G : Grid) {R n p t : Nat} (hp : p < R) (ht : t < R) : REq G (gsw G p t) R n :=
  ⟨fun x => lin_swap (r := fun _ => 0) hp ht, fun c x => lin_swap (r := fun i => G i c) hp ht⟩
/-- fewer equations than unknowns -/
theorem few_eqs : ∀ (n R : Nat) (G : Grid), R < n → ∃ x : Nat → Rat, (∃ j, j < n ∧ x j ≠ 0) ∧ LinG G R n (fun _ => 0) x
  | 0, R, G, h => by omega
  | n + 1, R, G, h => by
    by_cases hz : ∀ i, i < R → G i n = 0
    · refine ⟨fun j => if j = n then 1 else 0, ⟨n, by omega, by dsimp only; rw [if_pos rfl]; decide⟩, fun i hi => ?_⟩
      refine Sm_zero _ fun j hj => ?_
      by_cases e : j = n
      · rw [e, hz i hi]; grind
      · dsimp only; rw [if_neg e]; grind
    · obtain ⟨p, hp⟩ := Classical.not_forall.1 hz
      obtain ⟨hpR, hd⟩ := Classical.not_imp.1 hp
      obtain ⟨s, hs⟩ : ∃ s : Nat → Nat, s = fun i => if i < p then i else i + 1 := ⟨_, rfl⟩
      obtain ⟨x, ⟨j0, hj0, hx0⟩, hx⟩ := few_eqs n (R - 1) (fun i j => G (s i) j - (G (s i) n / G p n) * G p j) (by omega)
      obtain ⟨S, hS⟩ : ∃ S, S = Sm (fun j => G p j * x j) n := ⟨_, rfl⟩
      refine ⟨fun j => if j = n then -(S / G p n) else x j, ⟨j0, by omega, by dsimp only; rw [if_neg (by omega)]; exact hx0⟩, fun i hi => ?_⟩
      have hsum : ∀ i, Sm (fun j => G i j * (if j = n then -(S / G p n) else x j)) (n + 1) = Sm (fun j => G i j * x j) n + G i n * -(S / G p n) := fun i => by
        rw [Sm, if_pos rfl]
        congr 1
        exact Sm_congr _ fun j hj => by rw [if_neg (by omega)]
      rw [hsum]
      by_cases e : i = p
      · rw [e, ← hS, Rat.mul_comm, Rat.neg_mul, Rat.div_mul_cancel hd]; grind
      · have hi' : ∃ k, k < R - 1 ∧ s k = i := by
          by_cases h1 : i < p
          · exact ⟨i, by omega, by rw [hs]; dsimp only; rw [if_pos h1]⟩
          · exact ⟨i - 1, by omega, by rw [hs]; dsimp only; rw [if_neg (by omega)]; omega⟩
        obtain ⟨k, hk, rfl⟩ := hi'
        have h1 := hx k hk
        dsimp only at h1
        rw [Sm_lin, ← hS] at h1
        rw [Rat.div_def] at h1 ⊢
        grind
/-- none but 0 solves the equations without a right-hand side -/
def UniG (G : Grid) (R n : Nat) : Prop := ∀ x, LinG G R n (fun _ => 0) x → ∀ j, j < n → x j = 0
theorem UniG.same {G : Grid} {R n : Nat} (h : UniG G R n) {r x y : Nat → Rat} (hx : LinG G R n r x) (hy : LinG G R n r y) : ∀ j, j < n → x j = y j := fun j hj => by
  have := h (fun j => x j - y j) (fun i hi => by
    have e : Sm (fun j => G i j * (x j - y j)) n = Sm (fun j => G i j * x j) n - 1 * Sm (fun j => G i j * y j) n := by
      have h1 : Sm (fun j => G i j * (x j - y j)) n = Sm (fun j => (x j - 1 * y j) * G i j) n := Sm_congr _ fun j _ => by grind
      rw [h1, Sm_lin]
      congr 1
      · exact Sm_congr _ fun j _ => by grind
      · congr 1; exact Sm_congr _ fun j _ => by grind
    rw [e, hx i hi, hy i hi]; grind) j hj
  grind
theorem UniG.req {G G' : Grid} {R n : Nat} (h : REq G G' R n) : UniG G' R n ↔ UniG G R n := ⟨fun k x hx => k x ((h.ker x).2 hx), fun k x hx => k x ((h.ker x).1 hx)⟩
theorem low_not_uni {G : Grid} {R n t : Nat} (ht : t < n) (hz : ∀ i j, t ≤ i → i < R → j < n → G i j = 0) : ¬ UniG G R n := fun h => by
  obtain ⟨x, ⟨j, hj, hx⟩, hs⟩ := few_eqs n t G ht
  refine hx (h x (fun i hi => ?_) j hj)
  by_cases e : i < t
  · exact hs i e
  · exact Sm_zero _ fun k hk => by rw [hz i k (by omega) hi hk]; grind
structure TriG (G : Grid) (n : Nat) : Prop where
  diag : ∀ i, i < n → G i i ≠ 0
  low : ∀ i j, i < n → j < i → G i j = 0
theorem TriG.uni {G : Grid} {n : Nat} (h : TriG G n) : UniG G n n := fun x hx => by
  have key : ∀ d, d ≤ n → ∀ j, n - d ≤ j → j < n → x j = 0 := by
    intro d
    induction d with
    | zero => intro _ j h1 h2; omega
    | succ d ih =>
      intro hd j h1 h2
      by_cases e : n - d ≤ j
      · exact ih (by omega) j e h2
      · have h3 := hx j h2
        rw [Sm_one h2 fun k hk hne => ?_] at h3
        · rcases Rat.mul_eq_zero.1 h3 with h4 | h4
          · exact absurd h4 (h.diag j h2)
          · exact h4
        · rcases Nat.lt_or_ge k j with h4 | h4
          · rw [h.low j k h2 h4]; grind
          · rw [ih (by omega) k (by omega) hk]; grind
  exact fun j hj => key n (Nat.le_refl _) j (by omega) hj
/-- the triangle, with the columns from c on cleared -/
structure DiaG (G : Grid) (n c : Nat) : Prop extends TriG G n where
  up : ∀ i j, i < j → c ≤ j → j < n → G i j = 0
theorem TriG.dia {G : Grid} {n : Nat} (h : TriG G n) : DiaG G n n := ⟨h, fun i j _ h1 h2 => by omega⟩
/-- a diagonal grid is solved by division -/
theorem DiaG.sol {G : Grid} {n : Nat} (h : DiaG G n 0) (r : Nat → Rat) : LinG G n n r (fun i => r i / G i i) := fun i hi => by
  rw [Sm_one hi fun k hk hne => ?_]
  · rw [Rat.mul_comm, Rat.div_mul_cancel (h.diag i hi)]
  · rcases Nat.lt_or_ge k i with h1 | h1
    · rw [h.low i k hi h1]; grind
    · rw [h.up i k (by omega) (by omega) hk]; grind
/-- how far a column of the triangle is cleared: rows below j -/
structure DiaJ (G : Grid) (n c j : Nat) : Prop extends TriG G n where
  up : ∀ i k, i < k → c < k → k < n → G i k = 0
  row : ∀ i, i < j → i < c → G i c = 0
theorem DiaJ.zero {G : Grid} {n c : Nat} (h : DiaG G n (c + 1)) : DiaJ G n c 0 := ⟨h.toTriG, fun i k a b d => h.up i k a (by omega) d, fun i a => by omega⟩
theorem DiaJ.done {G : Grid} {n c : Nat} (h : DiaJ G n c c) : DiaG G n c := ⟨h.toTriG, fun i k a b d => by
  rcases Nat.eq_or_lt_of_le b with e | e
  · subst e; exact h.row i a a
  · exact h.up i k a e d⟩
theorem DiaJ.step {G : Grid} {n c j : Nat} (h : DiaJ G n c j) (hj : j < c) (hc : c < n) : DiaJ (gsub G j c (G j c / G c c)) n c (j + 1) := by
  have hd := h.diag c hc
  refine ⟨⟨fun i hi => ?_, fun i k hi hk => ?_⟩, fun i k a b d => ?_, fun i a b => ?_⟩
  · unfold gsub; split
    · rename_i e; subst e; rw [h.low c i hc (by omega)]
      have := h.diag i hi; grind
    · exact h.diag i hi
  · unfold gsub; split
    · rename_i e; subst e; rw [h.low i k hi hk, h.low c k hc (by omega)]; grind
    · exact h.low i k hi hk
  · unfold gsub; split
    · rename_i e; subst e; rw [h.up i k a b d, h.up c k b b d]; grind
    · exact h.up i k a b d
  · unfold gsub; split
    · rename_i e; subst e; rw [Rat.div_mul_cancel hd]; grind
    · exact h.row i (by omega) b
/-- the steps under way: rank rows are done, the columns below col are -/
structure StepG (G : Grid) (R rank col : Nat) : Prop where
  le : rank ≤ R
  lc : rank ≤ col
  low : ∀ i j, rank ≤ i → i < R → j < col → G i j = 0
  tri : rank = col → (∀ i, i < rank → G i i ≠ 0) ∧ ∀ i j, i < rank → j < i → G i j = 0
theorem StepG.zero (G : Grid) (R : Nat) : StepG G R 0 0 := ⟨by omega, by omega, by omega, fun _ => ⟨by omega, by omega⟩⟩
theorem StepG.free {G : Grid} {R rank col : Nat} (h : StepG G R rank col) (hz : ∀ i, rank ≤ i → i < R → G i col = 0) : StepG G R rank (col + 1) :=
  ⟨h.le, by have := h.lc; omega, fun i j a b d => by
    by_cases e : j = col
    · rw [e]; exact hz i a b
    · exact h.low i j a b (by omega), fun e => by have := h.lc; omega⟩
theorem StepG.swap {G : Grid} {R rank col p : Nat} (h : StepG G R rank col) (h1 : rank ≤ p) (h2 : p < R) : StepG (gsw G p rank) R rank col := by
  have lo : ∀ i, i < rank → swp p rank i = i := fun i hi => by unfold swp; split <;> (try split) <;> omega
  have hi' : ∀ i, rank ≤ i → rank ≤ swp p rank i := fun i hi => by unfold swp; split <;> (try split) <;> omega
  refine ⟨h.le, h.lc, fun i j a b d => h.low _ j (hi' i a) (swp_lt h2 (by omega) b) d, fun e => ⟨fun i hi => ?_, fun i j hi hj => ?_⟩⟩
  · unfold gsw; rw [lo i hi]; exact (h.tri e).1 i hi
  · unfold gsw; rw [lo i hi]; exact (h.tri e).2 i j hi hj
/-- rows below i are cleared in the column -/
structure StepI (G : Grid) (R rank col i : Nat) : Prop extends StepG G R rank col where
  piv : G rank col ≠ 0
  clr : ∀ k, rank < k → k < i → G k col = 0
theorem StepI.step {G : Grid} {R rank col i : Nat} (h : StepI G R rank col i) (hr : rank < i) (hi : i < R) : StepI (gsub G i rank (G i col / G rank col)) R rank col (i + 1) := by
  refine ⟨⟨h.le, h.lc, fun k j a b d => ?_, fun e => ⟨fun k hk => ?_, fun k j hk hj => ?_⟩⟩, ?_, fun k a b => ?_⟩
  · unfold gsub; split
    · rename_i e; subst e; rw [h.low k j a b d, h.low rank j (Nat.le_refl _) (by omega) d]; grind
    · exact h.low k j a b d
  · unfold gsub; rw [if_neg (by omega)]; exact (h.tri e).1 k hk
  · unfold gsub; rw [if_neg (by omega)]; exact (h.tri e).2 k j hk hj
  · unfold gsub; rw [if_neg (by omega)]; exact h.piv
  · unfold gsub; split
    · rename_i e; subst e; rw [Rat.div_mul_cancel h.piv]; grind
    · exact h.clr k a (by omega)
theorem StepI.start {G : Grid} {R rank col : Nat} (h : StepG G R rank col) (hp : G rank col ≠ 0) : StepI G R rank col (rank + 1) := ⟨h, hp, fun k a b => by omega⟩
theorem StepI.done {G : Grid} {R rank col : Nat} (h : StepI G R rank col R) (hr : rank < R) : StepG G R (rank + 1) (col + 1) := by
  refine ⟨hr, by have := h.lc; omega, fun i j a b d => ?_, fun e => ?_⟩
  · by_cases e : j = col
    · rw [e]; exact h.clr i (by omega) b
    · exact h.low i j (by omega) b (by omega)
  · have e' : rank = col := by omega
    obtain ⟨t1, t2⟩ := h.tri e'
    refine ⟨fun i hi => ?_, fun i j hi hj => ?_⟩
    · by_cases h1 : i = rank
      · rw [h1]; rw (occs := .pos [2]) [e']; exact h.piv
      · exact t1 i (by omega)
    · by_cases h1 : i = rank
      · rw [h1]; exact h.low rank j (Nat.le_refl _) hr (by omega)
      · exact t2 i j (by omega) hj
theorem StepG.tri_of {G : Grid} {n col : Nat} (h : StepG G n n col) (hc : col ≤ n) : TriG G n := by
  have e : n = col := by have := h.lc; omega
  exact ⟨(h.tri e).1, (h.tri e).2⟩
end Go.Proofs.YtkgmicakfmllmaaGreat
end
section
namespace Go.Proofs.YtkgmicakfmllmaaGreat
set_option linter.unusedVariables false
theorem Sm_nonneg {f : Nat → Rat} (n : Nat) (h : ∀ j, j < n → 0 ≤ f j) : 0 ≤ Sm f n := by
  induction n with
  | zero => exact Rat.le_refl
  | succ n ih => simp only [Sm]; have h1 := ih fun j hj => h j (by omega); have h2 := h n (by omega); grind
theorem Sm_le {f g : Nat → Rat} (n : Nat) (h : ∀ j, j < n → f j ≤ g j) : Sm f n ≤ Sm g n := by
  induction n with
  | zero => exact Rat.le_refl
  | succ n ih => simp only [Sm]; have h1 := ih fun j hj => h j (by omega); have h2 := h n (by omega); grind
theorem Sm_sub (f g : Nat → Rat) (n : Nat) : Sm (fun j => f j - g j) n = Sm f n - Sm g n := by
  induction n with
  | zero => simp only [Sm]; grind
  | succ n ih => simp only [Sm, ih]; grind
theorem Sm_swap (f : Nat → Nat → Rat) (n m : Nat) : Sm (fun i => Sm (f i) m) n = Sm (fun j => Sm (fun i => f i j) n) m := by
  induction n with
  | zero => simp only [Sm]; exact (Sm_zero m fun j _ => rfl).symm
  | succ n ih => simp only [Sm, ih, Sm_add]
/-- parts that are not negative and sum to 0 -/
theorem Sm_none {f : Nat → Rat} (n : Nat) (h : ∀ j, j < n → 0 ≤ f j) (hs : Sm f n = 0) : ∀ j, j < n → f j = 0 := by
  induction n with
  | zero => intro j hj; omega
  | succ n ih =>
    simp only [Sm] at hs
    have h1 := Sm_nonneg n fun j hj => h j (by omega)
    have h2 := h n (by omega)
    have h3 : Sm f n = 0 := by grind
    have h4 : f n = 0 := by grind
    intro j hj
    by_cases e : j = n
    · rw [e]; exact h4
    · exact ih (fun j hj => h j (by omega)) h3 j (by omega)
theorem Sm_part {f : Nat → Rat} (n : Nat) (h : ∀ j, j < n → 0 ≤ f j) {k : Nat} (hk : k < n) : f k ≤ Sm f n := by
  induction n with
  | zero => omega
  | succ n ih =>
    simp only [Sm]
    have h1 := Sm_nonneg n fun j hj => h j (by omega)
    have h2 := h n (by omega)
    by_cases e : k = n
    · rw [e]; grind
    · have := ih (fun j hj => h j (by omega)) (by omega); grind
theorem Sm_pos {f : Nat → Rat} (n : Nat) (h : ∀ j, j < n → 0 < f j) (hn : 0 < n) : 0 < Sm f n := by
  have h1 := Sm_part n (fun j hj => Rat.le_of_lt (h j hj)) hn
  have h2 := h 0 hn
  grind
/-- what one comes to from a state by moves above 0 -/
inductive Rch (E : Nat → Nat → Prop) (n : Nat) (i : Nat) : Nat → Prop
  | refl : i < n → Rch E n i i
  | step {j k : Nat} : Rch E n i j → k < n → E j k → Rch E n i k
theorem Rch.lt {E : Nat → Nat → Prop} {n i k : Nat} (h : Rch E n i k) : i < n ∧ k < n := by
  induction h with
  | refl h => exact ⟨h, h⟩
  | step _ hk _ ih => exact ⟨ih.1, hk⟩
theorem Rch.trans {E : Nat → Nat → Prop} {n i j k : Nat} (h : Rch E n i j) (h2 : Rch E n j k) : Rch E n i k := by
  induction h2 with
  | refl _ => exact h
  | step _ hk he ih => exact .step ih hk he
/-- a set that holds the state and all moves out of it, holds all -/
theorem Rch.sub {E : Nat → Nat → Prop} {n i : Nat} {S : Nat → Prop} (h0 : S i) (hs : ∀ j k, S j → k < n → E j k → S k) {k : Nat} (h : Rch E n i k) : S k := by
  induction h with
  | refl _ => exact h0
  | step _ hk he ih => exact hs _ _ ih hk he
structure StoG (Q : Grid) (n : Nat) : Prop where
  nn : ∀ i k, i < n → k < n → 0 ≤ Q i k
  one : ∀ i, i < n → Sm (Q i) n = 1
def IrrG (Q : Grid) (n : Nat) : Prop := ∀ i k, i < n → k < n → Rch (fun a b => 0 < Q a b) n i k
/-- the equations of a law that stays; the last one is that the parts sum to 1 -/
def lawG (Q : Grid) (n : Nat) : Grid := fun k i => if k + 1 = n then 1 else if i = k then Q i k - 1 else Q i k
theorem lawG_row {Q : Grid} {n k : Nat} (hk : k < n) (h1 : k + 1 ≠ n) (x : Nat → Rat) : Sm (fun i => lawG Q n k i * x i) n = Sm (fun i => x i * Q i k) n - x k := by
  have e : Sm (fun i => lawG Q n k i * x i) n = Sm (fun i => x i * Q i k - (if i = k then x i else 0)) n := Sm_congr _ fun i _ => by
    unfold lawG
    rw [if_neg h1]
    split <;> grind
  rw [e, Sm_sub, Sm_one (f := fun i => if i = k then x i else 0) hk fun j _ hne => if_neg hne, if_pos rfl]
theorem lawG_last {Q : Grid} {n k : Nat} (h1 : k + 1 = n) (x : Nat → Rat) : Sm (fun i => lawG Q n k i * x i) n = Sm x n := Sm_congr _ fun i _ => by
  unfold lawG; rw [if_pos h1]; grind
/-- the equation that was left out holds too -/
theorem stays_all {Q : Grid} {n : Nat} (hQ : StoG Q n) {x : Nat → Rat} (h : ∀ k, k + 1 < n → Sm (fun i => x i * Q i k) n = x k) : ∀ k, k < n → Sm (fun i => x i * Q i k) n = x k := by
  have tot : Sm (fun k => Sm (fun i => x i * Q i k) n) n = Sm x n := by
    rw [← Sm_swap (fun i k => x i * Q i k)]
    refine Sm_congr _ fun i hi => ?_
    rw [Sm_mul, hQ.one i hi]; grind
  intro k hk
  by_cases e : k + 1 = n
  · subst e
    simp only [Sm] at tot ⊢
    rw [Sm_congr k (f := fun k_1 => Sm (fun i => x i * Q i k_1) k + x k * Q k k_1) (g := x) fun j hj => by
      have := h j (by omega)
      simp only [Sm] at this; exact this] at tot
    grind
  · exact h k (by omega)
/-- a vector that stays, above 0 somewhere, is above 0 all over -/
theorem pos_spread {Q : Grid} {n : Nat} (hQ : StoG Q n) (hI : IrrG Q n) {p : Nat → Rat} (hp : ∀ i, i < n → 0 ≤ p i) (hs : ∀ k, k < n → Sm (fun i => p i * Q i k) n = p k) {u : Nat} (hu : u < n) (h0 : 0 < p u) : ∀ k, k < n → 0 < p k := fun k hk => by
  refine Rch.sub (S := fun k => k < n ∧ 0 < p k) ⟨hu, h0⟩ (fun j k hj hk he => ⟨hk, ?_⟩) (hI u k hu hk) |>.2
  have h1 := Sm_part (f := fun i => p i * Q i k) n (fun i hi => Rat.mul_nonneg (hp i hi) (hQ.nn i k hi hk)) hj.1
  rw [hs k hk] at h1
  have h2 := Rat.mul_pos hj.2 he
  try dsimp only at h1
  grind
def posP (x : Rat) : Rat := if 0 ≤ x then x else 0
theorem posP_nn (x : Rat) : 0 ≤ posP x := by unfold posP; split <;> grind
theorem posP_ge (x : Rat) : x ≤ posP x := by unfold posP; split <;> grind
/-- the part above 0 of a vector that stays, stays -/
theorem pos_stays {Q : Grid} {n : Nat} (hQ : StoG Q n) {x : Nat → Rat} (hs : ∀ k, k < n → Sm (fun i => x i * Q i k) n = x k) : ∀ k, k < n → Sm (fun i => posP (x i) * Q i k) n = posP (x k) := by
  have hle : ∀ k, k < n → posP (x k) ≤ Sm (fun i => posP (x i) * Q i k) n := fun k hk => by
    have h1 : Sm (fun i => x i * Q i k) n ≤ Sm (fun i => posP (x i) * Q i k) n := Sm_le n fun i hi => Rat.mul_le_mul_of_nonneg_right (posP_ge _) (hQ.nn i k hi hk)
    have h2 : 0 ≤ Sm (fun i => posP (x i) * Q i k) n := Sm_nonneg n fun i hi => Rat.mul_nonneg (posP_nn _) (hQ.nn i k hi hk)
    rw [hs k hk] at h1
    rw [posP]; split <;> grind
  have tot : Sm (fun k => Sm (fun i => posP (x i) * Q i k) n) n = Sm (fun k => posP (x k)) n := by
    rw [← Sm_swap (fun i k => posP (x i) * Q i k)]
    refine Sm_congr _ fun i hi => ?_
    rw [Sm_mul, hQ.one i hi]; grind
  have h3 := Sm_none (f := fun k => Sm (fun i => posP (x i) * Q i k) n - posP (x k)) n (fun k hk => by have := hle k hk; grind) (by rw [Sm_sub, tot]; grind)
  intro k hk
  have := h3 k hk
  try dsimp only at this
  grind
/-- **An irreducible stochastic grid keeps no vector of sum 0.** -/
theorem law_uni {Q : Grid} {n : Nat} (hQ : StoG Q n) (hI : IrrG Q n) : UniG (lawG Q n) n n := by
  intro x hx
  rcases Nat.eq_zero_or_pos n with hn | hn
  · intro j hj; omega
  have hsum : Sm x n = 0 := by
    have := hx (n - 1) (by omega)
    rw [lawG_last (by omega)] at this; exact this
  have hst : ∀ k, k < n → Sm (fun i => x i * Q i k) n = x k := stays_all hQ fun k hk => by
    have := hx k (by omega)
    rw [lawG_row (by omega) (by omega)] at this; grind
  have hps := pos_stays hQ hst
  have hneg : ∀ i, i < n → x i ≤ 0 := fun i hi => by
    rcases Rat.le_total (a := x i) (b := 0) with h | h
    · exact h
    · by_cases e : x i = 0
      · rw [e]; exact Rat.le_refl
      · exfalso
        have h0 : 0 < posP (x i) := by unfold posP; rw [if_pos h]; grind
        have hall := pos_spread hQ hI (p := fun i => posP (x i)) (fun i _ => posP_nn _) hps hi h0
        have hx0 : ∀ k, k < n → 0 < x k := fun k hk => by
          have := hall k hk
          try dsimp only at this
          unfold posP at this
          split at this
          · exact this
          · grind
        have := Sm_pos n hx0 hn
        grind
  have := Sm_none (f := fun i => -1 * x i) n (fun i hi => by have := hneg i hi; grind) (by rw [Sm_mul, hsum]; grind)
  intro j hj
  have := this j hj
  try dsimp only at this
  grind
/-! ### Subsets of the states, as sorted lists -/
/-- a sum over all states of what is 0 outside a list -/
theorem Sm_list {f : Nat → Rat} : ∀ (n : Nat) (p : Nat → Bool), (∀ k, k < n → p k = false → f k = 0) → Sm f n = Sm (fun v => f (((List.range n).filter p).getD v 0)) ((List.range n).filter p).length
  | 0, p, _ => rfl
  | n + 1, p, h => by
    have ih := Sm_list n p fun k hk hp => h k (by omega) hp
    rw [List.range_succ, List.filter_append]
    simp only [Sm]
    cases hp : p n with
    | false =>
      rw [h n (by omega) hp, ih]
      simp [List.filter, hp]; grind
    | true =>
      have e : List.filter p [n] = [n] := by simp [List.filter, hp]
      rw [e, List.length_append]
      simp only [List.length_cons, List.length_nil, Nat.zero_add, Sm]
      rw [ih]
      congr 1
      · exact Sm_congr _ fun v hv => by
          rw [List.getD_eq_getElem?_getD, List.getD_eq_getElem?_getD, List.getElem?_append_left hv]
      · simp [List.getD_eq_getElem?_getD]
theorem filt_mem {n : Nat} {p : Nat → Bool} {v : Nat} (hv : v < ((List.range n).filter p).length) : ((List.range n).filter p).getD v 0 < n ∧ p (((List.range n).filter p).getD v 0) = true := by
  rw [List.getD_eq_getElem?_getD, List.getElem?_eq_getElem hv]
  have := List.getElem_mem hv
  rw [List.mem_filter, List.mem_range] at this
  simpa using this
theorem filt_get {n : Nat} {p : Nat → Bool} {k : Nat} (hk : k < n) (hp : p k = true) : ∃ v, v < ((List.range n).filter p).length ∧ ((List.range n).filter p).getD v 0 = k := by
  have : k ∈ (List.range n).filter p := by rw [List.mem_filter, List.mem_range]; exact ⟨hk, hp⟩
  obtain ⟨v, hv, e⟩ := List.mem_iff_getElem.1 this
  exact ⟨v, hv, by rw [List.getD_eq_getElem?_getD, List.getElem?_eq_getElem hv]; simpa using e⟩
/-- the moves within a list of states -/
def subG (P : Grid) (C : List Nat) : Grid := fun u v => P (C.getD u 0) (C.getD v 0)
theorem sub_sto {P : Grid} {n : Nat} {p : Nat → Bool} (hP : StoG P n) (hc : ∀ i k, i < n → k < n → p i = true → 0 < P i k → p k = true) : StoG (subG P ((List.range n).filter p)) ((List.range n).filter p).length := by
  refine ⟨fun i k hi hk => hP.nn _ _ (filt_mem hi).1 (filt_mem hk).1, fun i hi => ?_⟩
  obtain ⟨h1, h2⟩ := filt_mem hi
  have := Sm_list (f := P (((List.range n).filter p).getD i 0)) n p fun k hk hp => by
    have h3 := hP.nn _ k h1 hk
    by_cases e : 0 < P (((List.range n).filter p).getD i 0) k
    · rw [hc _ k h1 hk h2 e] at hp; cases hp
    · grind
  rw [hP.one _ h1] at this
  exact this.symm
theorem sub_irr {P : Grid} {n : Nat} {p : Nat → Bool} (hc : ∀ i k, i < n → k < n → p i = true → 0 < P i k → p k = true) (hr : ∀ i k, i < n → k < n → p i = true → p k = true → Rch (fun a b => 0 < P a b) n i k) : IrrG (subG P ((List.range n).filter p)) ((List.range n).filter p).length := by
  intro u v hu hv
  obtain ⟨h1, h2⟩ := filt_mem hu
  obtain ⟨h3, h4⟩ := filt_mem hv
  have key : ∀ k, Rch (fun a b => 0 < P a b) n (((List.range n).filter p).getD u 0) k → p k = true ∧ ∀ w, w < ((List.range n).filter p).length → ((List.range n).filter p).getD w 0 = k → Rch (fun a b => 0 < subG P ((List.range n).filter p) a b) ((List.range n).filter p).length u w := by
    intro k h
    have nod : ((List.range n).filter p).Nodup := List.Pairwise.filter p List.nodup_range
    induction h with
    | refl _ =>
      refine ⟨h2, fun w hw e => ?_⟩
      have : w = u := by
        rw [List.getD_eq_getElem?_getD, List.getD_eq_getElem?_getD, List.getElem?_eq_getElem hw, List.getElem?_eq_getElem hu] at e
        exact (List.getElem_inj nod).1 (by simpa using e)
      rw [this]; exact .refl hu
    | step hr' hk he ih =>
      rename_i j k
      obtain ⟨i1, i2⟩ := ih
      refine ⟨hc j k hr'.lt.2 hk i1 he, fun w hw e => ?_⟩
      obtain ⟨w', hw', e'⟩ := filt_get hr'.lt.2 i1
      refine .step (i2 w' hw' e') hw ?_
      show 0 < P _ _
      rw [e', e]; exact he
  exact (key _ (hr _ _ h1 h3 h2 h4)).2 v hv rfl
end Go.Proofs.YtkgmicakfmllmaaGreat
end
section
namespace Go.Proofs.YtkgmicakfmllmaaGreat
set_option linter.unusedVariables false
end Go.Proofs.YtkgmicakfmllmaaGreat
end
