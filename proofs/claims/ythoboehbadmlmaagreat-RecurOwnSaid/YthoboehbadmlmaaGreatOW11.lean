/- The law RecurOwn answers true at every input: every square matrix is a root of its characteristic polynomial. (part 11 of 11) -/
import Derived.OrdersHeld
import Derived.Below
import Derived.Tactics
import Derived.KernelRfl
import Derived.RangeFuncCalls
import Derived.RangeFuncFrom
import Derived.RangeFuncLeaves
import Derived.OrdersIn
import Derived.Laws.AppendOwn
import Derived.Laws.MakeOwn
import Derived.Laws.CopyRow
import Derived.Laws.Cells
import Derived.Laws.World
import Derived.Laws.Alloc2
import Derived.Laws.NewBlocks
import Derived.Maps.AppendAt
import Derived.Test.YthoboehbadmlmaaGreatProg
import Init.Data.List.Lemmas
import Init.Omega
import Derived.WalkKit
import Derived.ProofKit
import Derived.OpenShut
import Derived.ChangeOld
import Derived.SizedLaws
import Derived.ChangeSlices
import Derived.ChangeArms
import Derived.Deep.Slices
import Derived.Test.YthoboehbadmlmaaGreatRows
import Derived.ShutString
import Derived.Test.YthoboehbadmlmaaGreatOW10
section
namespace Go.Proofs.YthoboehbadmlmaaGreat
open Go Go.RowKit
set_option linter.unusedVariables false
/-- what a call over rows promises; the boxes stay as they are -/
def MSem (P : Program) (f : FuncId) (args : List Value) (bx : List (List Value)) (H : Heap) (V : View) (R : Value → Heap → View → Prop) : Prop :=
  ∀ (Γ : Cx) (bl : Nat → Nat) (w : World), Γ.V0.sub Γ.w0 → CW Γ bl bx H V w → CS Γ bl bx H V → Calls P f args.toArray w fun e w' => ∃ v H' V', e = .returned v ∧ CW Γ bl bx H' V' w' ∧ CS Γ bl bx H' V' ∧ KeepsOthers w w' ∧ R v H' V'
theorem MSpec.sem {P : Program} {f : FuncId} {args : List Value} {H : Heap} {V : View} {R : Value → Heap → View → Prop} (h : MSpec P f args H V R) : MSem P f args [] H V R := fun Γ bl w h0 hw hs => h.calls h0 hw hs
/-- a box is a row to the call -/
theorem MSem.box {P : Program} {f : FuncId} {args : List Value} {vs : List Value} {H : Heap} {V : View} {R : Value → Heap → View → Prop}
    (h : ∀ b e, H b = none → V b = none → MSpec P f args (upd H b (some ⟨e, vs, vs.length⟩)) V fun v H' V' => H' b = some ⟨e, vs, vs.length⟩ ∧ R v (upd H' b none) V') : MSem P f args [vs] H V R := by
  intro Γ bl w h0 hw hs
  obtain ⟨ty, hh⟩ := hw.box 0 vs rfl
  obtain ⟨b1, b2, b3⟩ := hs.bxH 0 (by simp)
  have hw' : CW Γ bl [] (upd H (bl 0) (some ⟨ty, vs, vs.length⟩)) V w := ⟨fun i us hi => by simp at hi, fun b r hb => by
    unfold upd at hb
    split at hb
    · rename_i e; subst e; cases hb
      exact ⟨[], by simpa using hh, by simp⟩
    · exact hw.row b r hb, hw.view, hw.below⟩
  have hs' : CS Γ bl [] (upd H (bl 0) (some ⟨ty, vs, vs.length⟩)) V := ⟨fun i j hi => by simp at hi, fun i hi => by simp at hi, fun b r hb => by
    unfold upd at hb
    split at hb
    · rename_i e; subst e; exact ⟨b2, b3⟩
    · exact hs.HV b r hb, hs.V0, hs.frm⟩
  refine ((h (bl 0) ty b1 b2).calls h0 hw' hs').mono ?_
  rintro e w' ⟨v, H', V', rfl, cw, cs, ko, hb, hR⟩
  obtain ⟨ex, e1, e2⟩ := cw.row _ _ hb
  have hex : ex = [] := List.length_eq_zero_iff.1 (by rw [List.length_append] at e2; dsimp only at e2; omega)
  subst hex
  obtain ⟨c1, c2⟩ := cs.HV _ _ hb
  refine ⟨v, upd H' (bl 0) none, V', rfl, ⟨fun i us hi => ?_, fun b r hb' => ?_, cw.view, cw.below⟩, ⟨fun i j hi hj _ => ?_, fun i hi => ?_, fun b r hb' => ?_, cs.V0, cs.frm⟩, ko, hR⟩
  · have hi0 : i = 0 := by have := (List.getElem?_eq_some_iff.1 hi).1; simp at this; exact this
    subst hi0
    have : us = vs := by simpa using hi.symm
    subst this
    exact ⟨ty, by simpa using e1⟩
  · unfold upd at hb'
    split at hb'
    · cases hb'
    · exact cw.row b r hb'
  · simp at hi hj; omega
  · have hi0 : i = 0 := by simp at hi; exact hi
    subst hi0
    exact ⟨by unfold upd; rw [if_pos rfl], c1, c2⟩
  · unfold upd at hb'
    split at hb'
    · cases hb'
    · exact cs.HV b r hb'
section
variable {P : Program} {ops : Array Oper} {M : Nat → Bool} {Hb : Heap} {Vb : View}
/-- one operation that is no closing one: a call over rows, or a common step; a memory read comes first of all -/
def stepM (P : Program) (ops : Array Oper) (M : Nat → Bool) (Hb : Heap) (Vb : View) (o : Oper) (i : Nat) (K : XS → Prop) (s : XS) : Prop :=
  if M i = true then ∃ d f args ts ty pos af, o = ⟨d, .call ⟨.value (.func f), (List.toArray args : Array Operand), ts⟩, ty, pos, af, none⟩ ∧ callable P f = true ∧ (args.map s.ev).all SV.isV = true ∧
      ∃ R, MSem P f ((args.map s.ev).map SV.val) s.bx s.H s.V R ∧ ∀ v H' V', R v H' V' → (∀ b r, Hb b = some r → H' b = some r) ∧ Vb.le V' ∧ K ((⟨s.t, s.bx, H', V'⟩ : XS).put d (.v v))
  else (isRead o.op = true → isPure o.op = false → s.bx = [] ∧ s.H = Hb ∧ s.V = Vb) ∧ stepX P ops o K s
def seqM (P : Program) (ops : Array Oper) (M : Nat → Bool) (Hb : Heap) (Vb : View) : List Nat → (XS → Prop) → (XS → Prop) → XS → Prop
  | [], KM, _, s => KM s
  | i :: l, KM, KX, s => match ops.toList[i]? with
    | none => False
    | some o => if closes ops i = true then stepX P ops o (seqX P ops (pickOps ops.toList l) KX) s else stepM P ops M Hb Vb o i (seqM P ops M Hb Vb l KM KX) s
def treeM (P : Program) (ops : Array Oper) (M : Nat → Bool) (Hb : Heap) (Vb : View) : Ord → (XS → Prop) → XS → Prop
  | .nil, K, s => K s
  | .lin l t, K, s => seqM P ops M Hb Vb l (treeM P ops M Hb Vb t K) (treeX P ops t K) s
  | .two a b, K, s => treeM P ops M Hb Vb a K s ∧ treeM P ops M Hb Vb b K s
theorem treeM_cons {i : Nat} {o : Oper} (hi : ops.toList[i]? = some o) (t : Ord) (K : XS → Prop) (s : XS) :
    treeM P ops M Hb Vb (Ord.cons i t) K s = if closes ops i = true then stepX P ops o (treeX P ops t K) s else stepM P ops M Hb Vb o i (treeM P ops M Hb Vb t K) s := by
  cases t with
  | nil => simp only [Ord.cons, treeM, seqM, hi, pickOps]; rfl
  | lin l t =>
    simp only [Ord.cons, treeM, seqM, hi]
    have : treeX P ops (.lin l t) K = seqX P ops (pickOps ops.toList l) (treeX P ops t K) := by funext s; rw [treeX]
    rw [this]
  | two a b => simp only [Ord.cons, treeM, seqM, hi, pickOps]; rfl
theorem treeM_any {K : XS → Prop} {s : XS} : ∀ (l : List Ord), treeM P ops M Hb Vb (Ord.any l) K s → ∀ t ∈ l, treeM P ops M Hb Vb t K s
  | [], _, t, ht => by cases ht
  | [a], h, t, ht => by
    have : t = a := by simpa using ht
    subst this; exact h
  | a :: b :: r, h, t, ht => by
    simp only [Ord.any, treeM] at h
    rcases List.mem_cons.1 ht with rfl | ht
    · exact h.1
    · exact treeM_any (b :: r) h.2 t ht
theorem CW.nobl {Γ : Cx} {bl bl' : Nat → Nat} {H : Heap} {V : View} {w : World} (h : CW Γ bl [] H V w) : CW Γ bl' [] H V w := ⟨fun i vs hi => by simp at hi, h.row, h.view, h.below⟩
theorem treeM_draw {Γ : Cx} {Q : Exit → XS → Prop} (hV0 : Γ.V0.sub Γ.w0) (hsel : Region.noSelect ops = true) : ∀ (n : Nat) (listed : Array Bool) (t : Ord), autoTree ops n listed = some t →
    ∀ bl s a w, Conc Γ bl s a w → guardsIn ops s.t.length = true → (∀ x, CW Γ bl s.bx s.H s.V x → CW Γ bl [] Hb Vb x) → treeM P ops M Hb Vb t (fun s' => Q .normal s') s → wpG P ops (XQ Γ (onlyN Q)) n (fun x => CW Γ bl [] Hb Vb x) listed a w := by
  have hQ : ∀ (c : List PanicEntry) (a : Act) (w : World), ¬ (XQ Γ (onlyN Q)) (.panic c) a w := fun c a w ⟨_, _, _, h⟩ => h
  intro n
  induction n with
  | zero =>
    intro listed t ho bl s a w hc hg hS h
    unfold autoTree at ho
    split at ho
    · rename_i hr
      cases ho
      exact ⟨hr, bl, s, hc, h⟩
    · cases ho
  | succ n ih =>
    intro listed t ho bl s a w hc hg hS h
    have ho0 := ho
    unfold autoTree at ho
    have one : ∀ i r, i ∈ Region.ready .any ops listed → autoTree ops n (listed.setIfInBounds i true) = some r → treeM P ops M Hb Vb (Ord.cons i r) (fun s' => Q .normal s') s →
        wpOp P ops (XQ Γ (onlyN Q)) i (fun a' w' => if closes ops i = true then wpG P ops (XQ Γ (onlyN Q)) n (fun _ => True) (listed.setIfInBounds i true) a' w' else CW Γ bl [] Hb Vb w' ∧ wpG P ops (XQ Γ (onlyN Q)) n (fun x => CW Γ bl [] Hb Vb x) (listed.setIfInBounds i true) a' w') a w := by
      intro i r hmem ha h
      obtain ⟨_, oi, hoi, _⟩ := mem_ready.1 hmem
      have hoi' : ops.toList[i]? = some oi := by rw [Array.getElem?_toList]; exact hoi
      rw [treeM_cons hoi'] at h
      by_cases hcl : closes ops i = true
      · rw [if_pos hcl] at h
        simp only [if_pos hcl]
        refine wpOp_mono ?_ (wpOp_size hc.len (stepX_wp hoi (guardsIn_spec hg hoi) hc h _))
        rintro a' w' ⟨hsz, bl', s', hc', _, hk'⟩
        have hg' : guardsIn ops s'.t.length = true := by rw [← hc'.len, hsz]; exact hg
        exact wpG_mono (fun _ _ => trivial) n _ a' w' (treeX_draw hsel n _ _ ha bl' s' a' w' hc' hg' hk')
      rw [if_neg hcl] at h
      simp only [if_neg hcl]
      have ec : isStore oi.op = false := by
        simp only [closes, hoi, Option.map_some, Option.getD_some, Bool.or_eq_true, not_or, Bool.not_eq_true] at hcl; exact hcl.1
      unfold stepM at h
      by_cases hM : M i = true
      · rw [if_pos hM] at h
        obtain ⟨d, f, args, ts, ty, pos, af, rfl, hcb, hall, R, hspec, hK⟩ := h
        unfold wpOp
        simp only [hoi]
        rw [if_pos (by unfold Region.wanted; rfl)]
        refine .inl ?_
        have eargs : ((args.map s.ev).map SV.val).toArray = (args.toArray : Array Operand).map a.eval := by
          apply Array.ext'
          simp only [Array.toList_map, List.map_map]
          refine List.map_congr_left fun q hq => ?_
          rw [hc.ev]
          exact (val_conc (List.all_eq_true.1 hall _ (List.mem_map_of_mem hq))).symm
        have hrun : (execOp a.eval ⟨d, .call ⟨.value (.func f), args.toArray, ts⟩, ty, pos, af, none⟩).run P w = .ok (.enter f ((args.toArray : Array Operand).map a.eval)) w := by
          have ef : a.eval (.func f) = .func (.func f) #[] #[] := rfl
          unfold callable at hcb
          cases hf : P.funcs[f]? with
          | none => simp [hf] at hcb
          | some fn =>
            simp [hf] at hcb
            have hb : fn.body ≠ none := fun hn => by simp [hn] at hcb
            simp [execOp, resolve, ef, Deferred.ofValue, invoke, callFunc, hf, hcb.1, hb]
        unfold Oper.wp
        rw [hrun]
        show Calls P f ((args.toArray : Array Operand).map a.eval) w _
        rw [← eargs]
        refine (hspec Γ bl w hV0 hc.cw hc.cs).mono ?_
        rintro e w' ⟨v, H', V', rfl, cw, cs, ko, hR⟩
        dsimp only
        obtain ⟨k1, k2, k3⟩ := hK v H' V' hR
        have hput := Conc.put (Γ := Γ) (bl := bl) (s := ⟨s.t, s.bx, H', V'⟩) (a := a) (w := w') ⟨hc.tm, hc.df.keep ko, cw, cs, hc.ok⟩ d (.v v) trivial
        have hS' : ∀ x, CW Γ bl s.bx H' V' x → CW Γ bl [] Hb Vb x := fun x hx => ⟨fun i vs hi => by simp at hi, fun b r hb => hx.row b r (k1 b r hb), fun b o hb => hx.view b o (k2 b o hb), hx.below⟩
        refine ⟨hS' w' cw, ih _ _ ha bl _ _ w' hput (by rw [put_len]; exact hg) (fun x hx => hS' x ?_) k3⟩
        rw [XS.put_bx, XS.put_H, XS.put_V] at hx; exact hx
      · rw [if_neg hM] at h
        refine wpOp_mono ?_ (wpOp_size hc.len (stepX_wp hoi (guardsIn_spec hg hoi) hc h.2 _))
        rintro a' w' ⟨hsz, bl', s', hc', hS0, hk'⟩
        have hg' : guardsIn ops s'.t.length = true := by rw [← hc'.len, hsz]; exact hg
        refine ⟨hS w' (hS0 ec w' hc'.cw), ?_⟩
        have := ih _ _ ha bl' s' a' w' hc' hg' (fun x hx => (hS x (hS0 ec x hx)).nobl) hk'
        exact wpG_mono (fun x hx => CW.nobl hx) n _ a' w' this
    cases hr : Region.ready .any ops listed with
    | nil =>
      rw [hr] at ho; cases ho
      exact ⟨fun _ => ⟨bl, s, hc, h⟩, fun i hi => by rw [hr] at hi; cases hi⟩
    | cons i0 rs =>
      rw [hr] at ho
      dsimp only at ho
      cases hf : (i0 :: rs).find? (freeG ops listed) with
      | some i =>
        rw [hf] at ho
        dsimp only at ho
        cases ha : autoTree ops n (listed.setIfInBounds i true) with
        | none => rw [ha] at ho; cases ho
        | some rest =>
          rw [ha] at ho; cases ho
          have hmem : i ∈ Region.ready .any ops listed := by rw [hr]; exact List.mem_of_find?_eq_some hf
          have hfree : freeG ops listed i = true := List.find?_some hf
          obtain ⟨_, oi, hoi, _⟩ := mem_ready.1 hmem
          obtain ⟨hrd, W, hW, hap⟩ := freeG_spec hoi hfree
          have hoi' : ops.toList[i]? = some oi := by rw [Array.getElem?_toList]; exact hoi
          rw [treeM_cons hoi'] at h
          by_cases hcl : closes ops i = true
          · rw [if_pos hcl] at h
            rw [← treeX_cons hoi'] at h
            exact wpG_mono (fun x hx => hS x hx) (n + 1) _ a w (treeX_draw hsel (n + 1) listed _ ho0 bl s a w hc hg h)
          rw [if_neg hcl] at h
          unfold stepM at h
          by_cases hM : M i = true
          · rw [if_pos hM] at h
            obtain ⟨d, f, args, ts, ty, pos, af, rfl, _⟩ := h
            exact absurd hrd (by simp [isRead])
          rw [if_neg hM] at h
          obtain ⟨hbase, h⟩ := h
          have hgw := gate_wanted (ops := ops) hc.tm oi (guardsIn_spec hg hoi)
          have hyk : ∃ sv, sv.ok s.bx.length ∧ YieldsIf P ops (fun x => isPure oi.op = true ∨ CW Γ bl [] Hb Vb x) oi (sv.conc bl) a ∧ treeM P ops M Hb Vb rest (fun s' => Q .normal s') (s.put oi.dst sv) := by
            have body : opX P oi (treeM P ops M Hb Vb rest fun s' => Q .normal s') s → Region.wanted oi (yielded ops a.tmps) = true → ∃ sv : SV, sv.ok s.bx.length ∧ YieldsIf P ops (fun x => isPure oi.op = true ∨ CW Γ bl [] Hb Vb x) oi (sv.conc bl) a ∧ treeM P ops M Hb Vb rest (fun s' => Q .normal s') (s.put oi.dst sv) := fun h hw => by
              unfold opX at h
              rw [if_pos hrd] at h
              cases hp : isPure oi.op with
              | true =>
                obtain ⟨sv, ⟨h1, h2⟩, h3⟩ := readX_pure hp hc.ok h
                exact ⟨sv, h1, .inl ⟨hw, fun w' _ => h2 bl a w' hc.tm⟩, h3⟩
              | false =>
                obtain ⟨g1, g2, g3⟩ := hbase hrd hp
                obtain ⟨sv, ⟨h1, h2⟩, h3⟩ := readX_sound hc.ok h
                refine ⟨sv, h1, .inl ⟨hw, fun w' hw' => h2 Γ bl a w' hc.tm ?_⟩, h3⟩
                rw [g1, g2, g3]
                exact hw'.resolve_left (by simp)
            unfold stepX at h
            cases hgd : oi.guard with
            | none =>
              rw [hgd] at h hgw
              exact body h (by rw [hgw]; rfl)
            | some q =>
              rw [hgd] at h hgw
              dsimp only at h
              split at h
              · rename_i hw; exact body h (by rw [hgw]; exact hw)
              · rename_i hw
                exact ⟨.v undef, trivial, .inr ⟨by rw [hgw]; simpa using hw, rfl⟩, h⟩
          obtain ⟨sv, hok, hy, hk⟩ := hyk
          have := ih _ _ ha bl (s.put oi.dst sv) (a.put oi.dst (sv.conc bl)) w (hc.put oi.dst sv hok) (by rw [put_len]; exact hg) (by rw [XS.put_bx, XS.put_H, XS.put_V]; exact hS) hk
          exact wpG_take W (isPure oi.op) hoi hsel (fun c a' w' h => absurd h (hQ c _ w')) n _ listed a w hW hap hmem hy (hS w hc.cw) this
      | none =>
        rw [hf] at ho
        dsimp only at ho
        refine ⟨fun h0 => (by rw [hr] at h0; cases h0), fun i hi => ?_⟩
        cases hm : (i0 :: rs).mapM (fun i => (autoTree ops n (listed.setIfInBounds i true)).map (Ord.cons i)) with
        | none => rw [hm] at ho; cases ho
        | some ts =>
          rw [hm] at ho; cases ho
          obtain ⟨y, h1, h2⟩ := mapM_mem hm i (by rw [← hr]; exact hi)
          cases ha : autoTree ops n (listed.setIfInBounds i true) with
          | none => rw [ha] at h1; cases h1
          | some r =>
            rw [ha] at h1; cases h1
            exact one i r hi ha (treeM_any ts h _ h2)
/-- A region that draws its order, with calls over the caller's rows. -/
theorem XWP.drawM {Γ : Cx} {id : Nat} {Q : Exit → XS → Prop} {s : XS} (t : Ord) (M : Nat → Bool) (hΓ : Γ.Plain) (hm : P.follows .mixedOrders = true) (ho : treeOf ops = some t) (hg : guardsIn ops s.t.length = true) (hbx : s.bx = [])
    (h : treeM P ops M s.H s.V t (fun s' => Q .normal s') s) : XWP Γ P (.region id ops true) Q s := by
  intro bl a w hc
  unfold treeOf at ho
  split at ho
  · rename_i hsel
    have hd : Conc Γ bl s a { w with drawn := w.drawn + 1 } := hc.drew
    have := treeM_draw (Γ := Γ) (Q := Q) hΓ.2 hsel _ _ _ ho bl s a _ hd hg (fun x hx => by rw [hbx] at hx; exact hx) h
    have hnd : noDefer ops = true := by unfold guardsIn at hg; rw [Bool.and_eq_true] at hg; exact hg.1
    exact wpIn_mono (wpIn_region_any hm (wpAny_in onlyN_out hnd _ _ _ _ (wpG_any _ _ _ _ _ this))) (onlyN_all (Q := Q))
  · cases ho
theorem treeM_two {a b : Ord} {K : XS → Prop} {s : XS} (h1 : treeM P ops M Hb Vb a K s) (h2 : treeM P ops M Hb Vb b K s) : treeM P ops M Hb Vb (.two a b) K s := ⟨h1, h2⟩
theorem treeM_lin {l : List Nat} {t : Ord} {K : XS → Prop} {s : XS} (h : seqM P ops M Hb Vb l (treeM P ops M Hb Vb t K) (treeX P ops t K) s) : treeM P ops M Hb Vb (.lin l t) K s := h
theorem seqM_nil {KM KX : XS → Prop} {s : XS} (h : KM s) : seqM P ops M Hb Vb [] KM KX s := h
/-- a common step that reads no memory -/
theorem seqM_x {i : Nat} {l : List Nat} {o : Oper} {KM KX : XS → Prop} {s : XS} (ho : ops.toList[i]? = some o) (hc : closes ops i = false) (hM : M i = false) (hr : (isRead o.op && !isPure o.op) = false) (h : seqX P ops [o] (seqM P ops M Hb Vb l KM KX) s) : seqM P ops M Hb Vb (i :: l) KM KX s := by
  unfold seqM
  simp only [ho, hc]
  rw [if_neg (by simp)]
  unfold stepM
  rw [if_neg (by rw [hM]; simp)]
  exact ⟨fun h1 h2 => absurd hr (by rw [h1, h2]; decide), h⟩
/-- a memory read, at the start -/
theorem seqM_l {i : Nat} {l : List Nat} {o : Oper} {KM KX : XS → Prop} {s : XS} (ho : ops.toList[i]? = some o) (hc : closes ops i = false) (hM : M i = false) (hb : s.bx = [] ∧ s.H = Hb ∧ s.V = Vb) (h : seqX P ops [o] (seqM P ops M Hb Vb l KM KX) s) : seqM P ops M Hb Vb (i :: l) KM KX s := by
  unfold seqM
  simp only [ho, hc]
  rw [if_neg (by simp)]
  unfold stepM
  rw [if_neg (by rw [hM]; simp)]
  exact ⟨fun _ _ => hb, h⟩
/-- a closing step -/
theorem seqM_c {i : Nat} {l : List Nat} {o : Oper} {KM KX : XS → Prop} {s : XS} (ho : ops.toList[i]? = some o) (hc : closes ops i = true) (h : seqX P ops (o :: pickOps ops.toList l) KX s) : seqM P ops M Hb Vb (i :: l) KM KX s := by
  unfold seqM
  simp only [ho, hc]
  rw [if_pos trivial]
  exact h
/-- a call over rows -/
theorem seqM_m {i : Nat} {l : List Nat} {KM KX : XS → Prop} {s : XS} {d : Option Tmp} {f : FuncId} {args : List Operand} {ts : Array TypeId} {ty pos af} {R : Value → Heap → View → Prop} (ho : ops.toList[i]? = some ⟨d, .call ⟨.value (.func f), (List.toArray args : Array Operand), ts⟩, ty, pos, af, none⟩) (hc : closes ops i = false) (hM : M i = true) (hcl : callable P f = true) (hv : (args.map s.ev).all SV.isV = true)
    (hs : MSem P f ((args.map s.ev).map SV.val) s.bx s.H s.V R) (h : ∀ v H' V', R v H' V' → (∀ b r, Hb b = some r → H' b = some r) ∧ Vb.le V' ∧ seqM P ops M Hb Vb l KM KX ((⟨s.t, s.bx, H', V'⟩ : XS).put d (.v v))) : seqM P ops M Hb Vb (i :: l) KM KX s := by
  unfold seqM
  simp only [ho, hc]
  rw [if_neg (by simp)]
  unfold stepM
  rw [if_pos hM]
  exact ⟨d, f, args, ts, ty, pos, af, rfl, hcl, hv, R, hs, h⟩
end
end Go.Proofs.YthoboehbadmlmaaGreat
end
section
namespace Go.Proofs.YthoboehbadmlmaaGreat
open Go Go.RowKit
set_option linter.unusedSimpArgs false
set_option linter.unusedVariables false
attribute [local irreducible] XWP Spec SpecO XPub XCall seqX clX apX stX ldX iaX slX
theorem GridAt.leave {H : Heap} {V : View} {g n cap c : Nat} {G : Grid} {av : List Nat} {b : Nat} {x : Option Row} (h : GridAt H V (.slice (some ⟨g, 0, none⟩) n cap) n c G av) (hg : g ≠ b) (hb : b ∈ av) : GridAt (upd H b x) V (.slice (some ⟨g, 0, none⟩) n cap) n c G av := by
  obtain ⟨cells, ⟨ho1, ho2⟩, hc⟩ := h
  refine ⟨cells, ⟨ho1, ?_⟩, hc.len, fun i v hv => ?_, hc.inj⟩
  · rcases ho2 with ⟨e, _⟩ | ⟨g', cap', e, h1, h2⟩
    · cases e
    · cases e; exact .inr ⟨g, cap, rfl, (upd_off hg).trans h1, h2⟩
  · obtain ⟨b', c', cs, e1, e2, e3, e4, e5, e6⟩ := hc.row i v hv
    exact ⟨b', c', cs, e1, (upd_off (fun e => e6 (by rw [e]; exact hb))).trans e2, e3, e4, e5, e6⟩
theorem GridAt.more {H : Heap} {V : View} {g n cap c : Nat} {G : Grid} {av : List Nat} {b : Nat} {x : Option Row} (h : GridAt H V (.slice (some ⟨g, 0, none⟩) n cap) n c G av) (hn : H b = none) : GridAt (upd H b x) V (.slice (some ⟨g, 0, none⟩) n cap) n c G (b :: av) ∧ g ≠ b := by
  obtain ⟨cells, ⟨ho1, ho2⟩, hc⟩ := h
  have hgb : g ≠ b := by
    rcases ho2 with ⟨e, _⟩ | ⟨g', cap', e, h1, h2⟩
    · cases e
    · cases e; exact fun e => by rw [e, hn] at h1; cases h1
  refine ⟨⟨cells, ⟨ho1, ?_⟩, hc.len, fun i v hv => ?_, hc.inj⟩, hgb⟩
  · rcases ho2 with ⟨e, _⟩ | ⟨g', cap', e, h1, h2⟩
    · cases e
    · cases e; exact .inr ⟨g, cap, rfl, (upd_off hgb).trans h1, h2⟩
  · obtain ⟨b', c', cs, e1, e2, e3, e4, e5, e6⟩ := hc.row i v hv
    have hbb : b' ≠ b := fun e => by rw [e, hn] at e2; cases e2
    exact ⟨b', c', cs, e1, (upd_off hbb).trans e2, e3, e4, e5, fun e => by
      rcases List.mem_cons.1 e with e | e
      · exact hbb e
      · exact e6 e⟩
theorem GridAt.less {H : Heap} {V : View} {w : Value} {n c : Nat} {G : Grid} {av av' : List Nat} (h : GridAt H V w n c G av) (hs : ∀ b, b ∈ av' → b ∈ av) : GridAt H V w n c G av' := by
  obtain ⟨cells, ho, hc⟩ := h
  refine ⟨cells, ho, hc.len, fun i v hv => ?_, hc.inj⟩
  obtain ⟨b', c', cs, e1, e2, e3, e4, e5, e6⟩ := hc.row i v hv
  exact ⟨b', c', cs, e1, e2, e3, e4, e5, fun e => e6 (hs _ e)⟩
/-- what rows gives -/
def RowsR (H : Heap) (V : View) (n : Nat) (G : Grid) (v' : Value) (H' : Heap) (V' : View) : Prop :=
  V' = V ∧ (∀ k r, H k = some r → H' k = some r) ∧ ∃ g, v' = .slice (some ⟨g, 0, none⟩) n n ∧ ∀ av, (∀ b, b ∈ av → ∃ r, H b = some r) → GridAt H' V v' n n G av ∧ g ∉ av
theorem drows_r (H : Heap) (V : View) (s : Value) (n : Nat) (G : Grid) (h : Rats V s (flatG G n n)) (hn : n ≤ 60) : MSpec Tryz.prog 57 [.agg #[.int .i64 (n : Int), .int .i64 (n : Int), s]] H V (RowsR H V n G) := by
  refine (drows_m H V s n n _ h (flatG_len G n n) hn (fun h => h) hn).mono ?_
  rintro v H' V' ⟨rfl, kp, g, cells, rfl, g0, g1, rw, fr⟩
  refine ⟨rfl, kp, g, rfl, fun av hav => ⟨?_, fun hg => ?_⟩⟩
  · refine (rw.grid (av := av) (cap := n) (by rw [Nat.mul_one]; exact g1) (Nat.le_refl _) (by unfold maxLen; omega) fun i b m' c' hi hc hb => ?_).congr fun i j hi hj => ?_
    · obtain ⟨r, hr⟩ := hav b hb
      rw [fr i hi b m' c' hc] at hr; cases hr
    · exact flatG_at G hi hj
  · obtain ⟨r, hr⟩ := hav g hg
    rw [g0] at hr; cases hr
theorem drows_b (vs : List Value) (H : Heap) (V : View) (s : Value) (n : Nat) (G : Grid) (h : Rats V s (flatG G n n)) (hn : n ≤ 60) : MSem Tryz.prog 57 [.agg #[.int .i64 (n : Int), .int .i64 (n : Int), s]] [vs] H V (RowsR H V n G) := by
  refine MSem.box fun b e hb hVb => (drows_r _ V s n G h hn).mono ?_
  rintro v H' V' ⟨rfl, kp, g, rfl, hg⟩
  have kb : H' b = some ⟨e, vs, vs.length⟩ := kp b _ (upd_at _ _ _)
  refine ⟨kb, rfl, fun k r hk => ?_, g, rfl, fun av hav => ?_⟩
  · have hkb : k ≠ b := new_ne hb hk
    exact (upd_off hkb).trans (kp k r ((upd_off hkb).trans hk))
  · obtain ⟨k1, k2⟩ := hg (b :: av) fun b' hb' => by
      by_cases e2 : b' = b
      · subst e2; exact ⟨_, upd_at _ _ _⟩
      · rcases List.mem_cons.1 hb' with e3 | e3
        · exact absurd e3 e2
        · obtain ⟨r, hr⟩ := hav b' e3
          exact ⟨r, (upd_off e2).trans hr⟩
    exact ⟨(k1.leave (fun e => k2 (by rw [e]; simp)) (by simp)).less fun b' h => by simp [h], fun h => k2 (by simp [h])⟩
/-- what cleared gives -/
def DetR (H : Heap) (V : View) (n B : Nat) (av : List Nat) (G : Grid) (v' : Value) (H' : Heap) (V' : View) : Prop :=
  V.le V' ∧ (∀ b, b ∈ av → H' b = H b) ∧ ∃ u dm dx dy, v' = .tuple #[u, .agg #[.bool dm, dx, dy]] ∧ isOne u = true ∧ isOne dx = true ∧ isOne dy = true ∧ RatC V' (.agg #[.bool dm, dx, dy]) (detL n G) ∧ QB (n * ge B (n + 1) + 1) (detL n G)
theorem ddet_r (H : Heap) (V : View) (g cap n B : Nat) (av : List Nat) (G : Grid) (hgrid : GridAt H V (.slice (some ⟨g, 0, none⟩) n cap) n n G av) (hgv : g ∉ av) (hav : ∀ b, b ∈ av → ∃ r, H b = some r) (hn : n ≤ 60) (hq : ∀ i j, i < n → j < n → QB B (G i j)) (hfit : (n + 1) * ge B (n + 1) ≤ 17592186044416) :
    MSpec Tryz.prog 56 [.slice (some ⟨g, 0, none⟩) n cap, .int .i64 (n : Int)] H V (DetR H V n B av G) := by
  refine (ddet_m H V g cap n B av G hgrid hgv hav hn hq hfit).mono ?_
  rintro v H' V' ⟨h1, u, dm, dx, dy, h2, h3, h4, h5, h6, h7, h8⟩
  exact ⟨h1, h8, u, dm, dx, dy, h2, h3, h4, h5, h6, h7⟩
theorem ddet_b (vs : List Value) (H : Heap) (V : View) (g cap n B : Nat) (av : List Nat) (G : Grid) (hgrid : GridAt H V (.slice (some ⟨g, 0, none⟩) n cap) n n G av) (hgv : g ∉ av) (hav : ∀ b, b ∈ av → ∃ r, H b = some r) (hn : n ≤ 60) (hq : ∀ i j, i < n → j < n → QB B (G i j)) (hfit : (n + 1) * ge B (n + 1) ≤ 17592186044416) :
    MSem Tryz.prog 56 [.slice (some ⟨g, 0, none⟩) n cap, .int .i64 (n : Int)] [vs] H V (DetR H V n B av G) := by
  refine MSem.box fun b e hb hVb => ?_
  obtain ⟨k1, k2⟩ := hgrid.more (x := some ⟨e, vs, vs.length⟩) hb
  have hnb : ∀ b', b' ∈ av → b' ≠ b := fun b' hb' e => by
    obtain ⟨r, hr⟩ := hav b' hb'
    rw [e, hb] at hr; cases hr
  refine (ddet_r _ V g cap n B (b :: av) G k1 (fun h => by
    rcases List.mem_cons.1 h with h | h
    · exact k2 h
    · exact hgv h) (fun b' hb' => ?_) hn hq hfit).mono ?_
  · by_cases e2 : b' = b
    · subst e2; exact ⟨_, upd_at _ _ _⟩
    · rcases List.mem_cons.1 hb' with e3 | e3
      · exact absurd e3 e2
      · obtain ⟨r, hr⟩ := hav b' e3
        exact ⟨r, (upd_off e2).trans hr⟩
  · rintro v H' V' ⟨h1, h2, h3⟩
    exact ⟨(h2 b (by simp)).trans (upd_at _ _ _), h1, fun b' hb' => (upd_off (hnb b' hb')).trans ((h2 b' (by simp [hb'])).trans (upd_off (hnb b' hb'))), h3⟩
end Go.Proofs.YthoboehbadmlmaaGreat
end
section
namespace Go.Proofs.YthoboehbadmlmaaGreat
open Go Go.RowKit
set_option linter.unusedSimpArgs false
set_option linter.unusedVariables false
attribute [local irreducible] XWP Spec SpecO XPub XCall seqX clX apX stX ldX iaX slX
set_option maxRecDepth 100000 in
theorem dDet_c (V : View) (s1 : Value) (n B : Nat) (G : Grid) (ha : SqM V s1 n B G) (hfit : (n + 1) * ge B (n + 1) ≤ 17592186044416) :
    Spec Tryz.prog 17 [.agg #[.int .i64 (n : Int), .int .i64 (n : Int), s1]] V fun v' V' => ∃ w, v' = .tuple #[w, .int .i64 0] ∧ RatC V' w (detL n G) ∧ QB (n * ge B (n + 1) + 1) (detL n G) := by
  obtain ⟨A1, c1, rfl, hc1, hm1⟩ := ha.hv.form
  have hn := ha.hn
  have hgeB : ge B (n + 1) ≤ 17592186044416 := Nat.le_trans (Nat.le_mul_of_pos_left _ (by omega)) hfit
  have hB : B ≤ 17592186044416 := Nat.le_trans (ge_le B _) hgeB
  refine (Spec.enterR Tryz.func17 rfl fun Γ hΓ => ?_)
  simp only [Tryz.ntmps17, List.map_cons, List.map_nil, List.length_cons, List.length_nil, Nat.reduceAdd, Nat.reduceSub, List.replicate_succ, List.replicate_zero, List.cons_append, List.nil_append]
  refine Gx.a (by kernel_rfl) fun K hK => ?_
  simp only [XA, XB]
  refine hK _ ?_
  refine XWP.cut (fun s => ∃ V2, StIs (fun Z => [Z 0, .p 0 0, .p 1 0, .v (.int .i64 0), Z 4,Z 5,Z 6,Z 7,Z 8,Z 9,Z 10,Z 11,Z 12,Z 13,Z 14,Z 15,Z 16,Z 17,Z 18,Z 19,Z 20,Z 21,Z 22,Z 23,Z 24,Z 25,Z 26]) [[.int .i64 (n : Int), .int .i64 (n : Int), .slice A1 (flatG G n n).length c1], [.bool false, .slice none 0 0, .slice none 0 0]] (fun _ => none) V2 s ∧ V.le V2) ?_ ?_
  · refine XWP.block ?_
    refine Gx.a (by kernel_rfl) fun K hK => ?_
    simp only [XM, XA, Nat.reduceAdd, Nat.reduceLeDiff, ↓reduceIte]
    refine call_go (by kernel_rfl) rfl (dmr_c ha hB) fun v5 V5 hV5 h5 => ?_
    subst h5
    simp only [XA]
    refine hK _ ?_
    refine Gx.f rfl ?_
    refine Gx.a (by kernel_rfl) fun K hK => ?_
    simp only [XM, XA, XB, decide_true]
    refine hK _ ?_
    refine Gx.f rfl ?_
    refine XWP.skip ?_
    exact ⟨V5, StIs.of (by exact rfl), hV5⟩
  rintro s ⟨V2, hs, hV2⟩
  obtain ⟨z, rfl⟩ := hs.out
  try dsimp only
  clear hs
  refine XWP.row1 (bx := [_]) fun b4 e4 hb4 _ => ?_
  simp only [List.map_cons, List.map_nil, rowS_v, rowS_p, List.length_nil, List.length_cons, Nat.reduceAdd, Nat.reduceEqDiff, ↓reduceIte]
  have f4 : upd (fun _ => none) b4 (some ⟨e4, [.bool false, .slice none 0 0, .slice none 0 0], 3⟩) b4 = some ⟨e4, [.bool false, .slice none 0 0, .slice none 0 0], 3⟩ := upd_at _ _ _
  have only2 : ∀ b r, upd (fun _ => none) b4 (some ⟨e4, [.bool false, .slice none 0 0, .slice none 0 0], 3⟩) b = some r → b = b4 := fun b r hb => by
    by_cases e : b = b4
    · exact e
    · rw [upd_off e] at hb; cases hb
  generalize upd (fun _ => none) b4 (some ⟨e4, [.bool false, .slice none 0 0, .slice none 0 0], 3⟩) = H2 at *
  refine XWP.row1 (bx := []) fun b2 e2 hb2 _ => ?_
  simp only [List.map_cons, List.map_nil, rowS_v, rowS_p, List.length_nil, List.length_cons, Nat.reduceAdd, ↓reduceIte]
  refine XWP.pub b2 _ (upd_at _ _ _) fun o2 ho2 hle2 => ?_
  have eo2 := row_obj ho2
  subst eo2
  have n42 := new_ne hb2 f4
  have f4 : upd (upd H2 b2 (some ⟨e2, [.int .i64 (n : Int), .int .i64 (n : Int), .slice A1 (flatG G n n).length c1], 3⟩)) b2 none b4 = some ⟨e4, [.bool false, .slice none 0 0, .slice none 0 0], 3⟩ := (upd_off n42).trans ((upd_off n42).trans f4)
  have h2 := addV_at V2 b2 (.cells ([.int .i64 (n : Int), .int .i64 (n : Int), .slice A1 (flatG G n n).length c1] : List Value).toArray e2 (0, 0))
  have only4 : ∀ b r, upd (upd H2 b2 (some ⟨e2, [.int .i64 (n : Int), .int .i64 (n : Int), .slice A1 (flatG G n n).length c1], 3⟩)) b2 none b = some r → b = b4 := fun b r hb => by
    by_cases e : b = b2
    · rw [e, upd_at] at hb; cases hb
    · rw [upd_off e, upd_off e] at hb; exact only2 b r hb
  generalize upd (upd H2 b2 _) b2 none = H4 at *
  generalize addV V2 b2 _ = V4 at *
  have hle := View.le_trans hV2 hle2
  have ha := ha.up hle
  refine XWP.cutD 1 (fun s => ∃ (H8 : Heap) (V8 : View) (dm : Bool) (dx dy : Value), StIs (fun Z => [Z 0, .v (.pointer (some ⟨b2, 0, none⟩)), .v (.pointer (some ⟨b4, 0, none⟩)), .v (.int .i64 0), Z 4, .p 0 0, Z 6,Z 7,Z 8,Z 9,Z 10,Z 11,Z 12,Z 13,Z 14,Z 15,Z 16,Z 17,Z 18,Z 19,Z 20,Z 21,Z 22,Z 23,Z 24,Z 25,Z 26]) [[.bool dm, dx, dy]] H8 V8 s ∧ H8 b4 = some ⟨e4, [.bool false, .slice none 0 0, .slice none 0 0], 3⟩ ∧ isOne dx = true ∧ isOne dy = true ∧ RatC V8 (.agg #[.bool dm, dx, dy]) (detL n G) ∧ QB (n * ge B (n + 1) + 1) (detL n G)) ?_ ?_
  · refine XWP.drawM (.lin [0, 2, 3] (.two (.lin [1] (.two (.lin [4, 5, 6, 7, 8, 9, 10] .nil) (.lin [8, 4, 5, 6, 7, 9, 10] .nil))) (.lin [8, 1, 4, 5, 6, 7, 9, 10] .nil))) (fun i => i == 1 || i == 4) hΓ (by kernel_rfl) (by kernel_rfl) (by kernel_rfl) rfl ?_
    refine treeM_lin ?_
    refine seqM_l rfl (by kernel_rfl) rfl ⟨rfl, rfl, rfl⟩ ?_
    simp only [XA]
    refine ld_mem (ldV3 h2 shapeT_34 _) ?_
    simp only [XA]
    refine seqM_x rfl (by kernel_rfl) rfl (by kernel_rfl) ?_
    simp only [XM, XA]
    refine seqM_l rfl (by kernel_rfl) rfl ⟨rfl, rfl, rfl⟩ ?_
    simp only [XA]
    refine ld_mem (ldV1 h2 (off := 1) rfl shapeT_3 _) ?_
    simp only [XA]
    refine seqM_nil (treeM_two (treeM_lin ?_) (treeM_lin ?_))
    · refine seqM_m rfl (by kernel_rfl) rfl (by kernel_rfl) rfl (drows_r H4 V4 _ n G ha.hv hn).sem fun v5 H5 V5 k5 => ?_
      obtain ⟨rfl, kp, g, rfl, hgr⟩ := k5
      obtain ⟨k1, k2⟩ := hgr [b4] fun b hb => by rw [List.mem_singleton.1 hb]; exact ⟨_, f4⟩
      have f5 := kp b4 _ f4
      refine ⟨kp, View.le_refl _, ?_⟩
      simp only [XA]
      refine seqM_nil (treeM_two (treeM_lin ?_) (treeM_lin ?_))
      · refine seqM_m rfl (by kernel_rfl) rfl (by kernel_rfl) rfl (ddet_r H5 V5 g n n B [b4] G k1 k2 (fun b hb => by rw [List.mem_singleton.1 hb]; exact ⟨_, f5⟩) hn ha.hq hfit).sem fun v6 H6 V6 k6 => ?_
        obtain ⟨hV6, kp6, u, dm, dx, dy, rfl, ou, ox, oy, kd, kq⟩ := k6
        have f6 := (kp6 b4 (by simp)).trans f5
        refine ⟨fun b r hb => by obtain rfl := only4 b r hb; rw [f6, ← f4]; exact hb, hV6, ?_⟩
        simp only [XA]
        refine seqM_x rfl (by kernel_rfl) rfl (by kernel_rfl) ?_
        simp only [XA]
        refine seqM_x rfl (by kernel_rfl) rfl (by kernel_rfl) ?_
        simp only [XA]
        refine seqM_x rfl (by kernel_rfl) rfl (by kernel_rfl) ?_
        simp only [XA]
        refine seqM_x rfl (by kernel_rfl) rfl (by kernel_rfl) ?_
        simp only [XA, XB]
        refine seqM_x rfl (by kernel_rfl) rfl (by kernel_rfl) ?_
        simp only [XA]
        refine seqM_c rfl (by kernel_rfl) ?_
        simp only [XA]
        refine st_rat rfl rfl rfl ox oy ?_
        simp only [XA]
        exact fun f => ⟨H6, V6, dm, dx, dy, StIs.of (by exact rfl), f6, ox, oy, kd, kq⟩
      · refine seqM_x rfl (by kernel_rfl) rfl (by kernel_rfl) ?_
        simp only [XA, XB]
        refine seqM_m rfl (by kernel_rfl) rfl (by kernel_rfl) rfl (ddet_b _ H5 V5 g n n B [b4] G k1 k2 (fun b hb => by rw [List.mem_singleton.1 hb]; exact ⟨_, f5⟩) hn ha.hq hfit) fun v6 H6 V6 k6 => ?_
        obtain ⟨hV6, kp6, u, dm, dx, dy, rfl, ou, ox, oy, kd, kq⟩ := k6
        have f6 := (kp6 b4 (by simp)).trans f5
        refine ⟨fun b r hb => by obtain rfl := only4 b r hb; rw [f6, ← f4]; exact hb, hV6, ?_⟩
        simp only [XA]
        refine seqM_x rfl (by kernel_rfl) rfl (by kernel_rfl) ?_
        simp only [XA]
        refine seqM_x rfl (by kernel_rfl) rfl (by kernel_rfl) ?_
        simp only [XA]
        refine seqM_x rfl (by kernel_rfl) rfl (by kernel_rfl) ?_
        simp only [XA]
        refine seqM_x rfl (by kernel_rfl) rfl (by kernel_rfl) ?_
        simp only [XA]
        refine seqM_c rfl (by kernel_rfl) ?_
        simp only [XA]
        refine st_rat rfl rfl rfl ox oy ?_
        simp only [XA]
        exact fun f => ⟨H6, V6, dm, dx, dy, StIs.of (by exact rfl), f6, ox, oy, kd, kq⟩
    · refine seqM_x rfl (by kernel_rfl) rfl (by kernel_rfl) ?_
      simp only [XA, XB]
      refine seqM_m rfl (by kernel_rfl) rfl (by kernel_rfl) rfl (drows_b _ H4 V4 _ n G ha.hv hn) fun v5 H5 V5 k5 => ?_
      obtain ⟨rfl, kp, g, rfl, hgr⟩ := k5
      obtain ⟨k1, k2⟩ := hgr [b4] fun b hb => by rw [List.mem_singleton.1 hb]; exact ⟨_, f4⟩
      have f5 := kp b4 _ f4
      refine ⟨kp, View.le_refl _, ?_⟩
      simp only [XA]
      refine seqM_m rfl (by kernel_rfl) rfl (by kernel_rfl) rfl (ddet_b _ H5 V5 g n n B [b4] G k1 k2 (fun b hb => by rw [List.mem_singleton.1 hb]; exact ⟨_, f5⟩) hn ha.hq hfit) fun v6 H6 V6 k6 => ?_
      obtain ⟨hV6, kp6, u, dm, dx, dy, rfl, ou, ox, oy, kd, kq⟩ := k6
      have f6 := (kp6 b4 (by simp)).trans f5
      refine ⟨fun b r hb => by obtain rfl := only4 b r hb; rw [f6, ← f4]; exact hb, hV6, ?_⟩
      simp only [XA]
      refine seqM_x rfl (by kernel_rfl) rfl (by kernel_rfl) ?_
      simp only [XA]
      refine seqM_x rfl (by kernel_rfl) rfl (by kernel_rfl) ?_
      simp only [XA]
      refine seqM_x rfl (by kernel_rfl) rfl (by kernel_rfl) ?_
      simp only [XA]
      refine seqM_x rfl (by kernel_rfl) rfl (by kernel_rfl) ?_
      simp only [XA]
      refine seqM_c rfl (by kernel_rfl) ?_
      simp only [XA]
      refine st_rat rfl rfl rfl ox oy ?_
      simp only [XA]
      exact fun f => ⟨H6, V6, dm, dx, dy, StIs.of (by exact rfl), f6, ox, oy, kd, kq⟩
  rintro s ⟨H8, V8, dm, dx, dy, hs, f8, ox, oy, kd, kq⟩
  obtain ⟨z, rfl⟩ := hs.out
  try dsimp only
  clear hs
  refine Gx.a (by kernel_rfl) fun K hK => ?_
  simp only [XA, XB, Nat.reduceAdd, Nat.reduceLeDiff, ↓reduceIte]
  refine st_rowA shapeT_48 (all3 rfl ox oy) rfl f8 (by simp) ?_
  simp only [XA, splice3]
  refine hK _ (XWP.ret ?_)
  try simp only [thenX_ret, inBlockX_ret]
  exact ret_go _ (by simp [resAll, resV, cellsV, upd_at, shapeT_48]; rfl) ⟨_, rfl, kd, kq⟩
end Go.Proofs.YthoboehbadmlmaaGreat
end
section
namespace Go.Proofs.YthoboehbadmlmaaGreat
set_option linter.unusedVariables false
def hf : Rat := 1 / 2
end Go.Proofs.YthoboehbadmlmaaGreat
end
section
namespace Go.Proofs.YthoboehbadmlmaaGreat
open Go Go.RowKit
set_option linter.unusedSimpArgs false
set_option linter.unusedVariables false
attribute [local irreducible] XWP Spec SpecO XPub XCall seqX clX apX stX ldX iaX slX
end Go.Proofs.YthoboehbadmlmaaGreat
end
section
namespace Go.Proofs.YthoboehbadmlmaaGreat
open Go Go.RowKit
set_option linter.unusedSimpArgs false
set_option linter.unusedVariables false
attribute [local irreducible] XWP Spec SpecO XPub XCall seqX clX apX stX ldX iaX slX
end Go.Proofs.YthoboehbadmlmaaGreat
end
section
namespace Go.Proofs.YthoboehbadmlmaaGreat
open Go Go.RowKit
set_option linter.unusedSimpArgs false
set_option linter.unusedVariables false
attribute [local irreducible] XWP Spec SpecO XPub XCall seqX clX apX stX ldX iaX slX
end Go.Proofs.YthoboehbadmlmaaGreat
end
section
namespace Go.Proofs.YthoboehbadmlmaaGreat
open Go Go.RowKit
set_option linter.unusedSimpArgs false
set_option linter.unusedVariables false
attribute [local irreducible] XWP Spec SpecO XPub XCall seqX clX apX stX ldX iaX slX
theorem opt_load {H : Heap} {V : View} {b e tot : Nat} {cells : List Value} {xs : List (Option Rat)} (hr : H b = some ⟨e, cells, tot⟩) (h : RowAt (optE ratE) V cells xs) {i : Nat} {q : Rat} (hi : xs[i]? = some (some q)) : ∃ m n d, RatC V (.agg #[m, n, d]) q ∧ (isOne m = true ∧ isOne n = true ∧ isOne d = true) ∧ Loads Tryz.prog H V 48 b (i * 3) (.agg #[m, n, d]) := by
  have hl := (List.getElem?_eq_some_iff.1 hi).1
  have hv := (List.getElem?_eq_some_iff.1 hi).2
  obtain ⟨v, h1, ⟨m, n, d, rfl, o1⟩, h2⟩ := RowAt.load hr h i hl
  rw [hv] at h1
  exact ⟨m, n, d, h1, o1, h2⟩
set_option maxHeartbeats 8000000 in
theorem cOf_c (V : View) (s1 : Value) (n : Nat) (M : Grid) (ha : SqM V s1 n 97 M) (hn5 : n ≤ 5) :
    Spec Tryz.prog 8 [.agg #[.int .i64 (n : Int), .int .i64 (n : Int), s1]] V fun v' V' => ∃ w, v' = .tuple #[w, .int .i64 0] ∧ Rats V' w (chrL M n) := by
  obtain ⟨A1, c1, rfl, hc1, hm1⟩ := ha.hv.form
  have hfl := fun k (hk : k ≤ 5) => flP_QB (M := M) hn5 ha.hq hk
  obtain ⟨f, hf⟩ : ∃ f : Nat → Rat, f = fun i => (flP M n (n - i)).2 := ⟨_, rfl⟩
  have hlen : (mk (n + 1) f).length = n + 1 := mk_len _ _
  refine (Spec.enter Tryz.func8 rfl fun Γ => ?_)
  simp only [Tryz.ntmps8, List.map_cons, List.map_nil, List.length_cons, List.length_nil, Nat.reduceAdd, Nat.reduceSub, List.replicate_succ, List.replicate_zero, List.cons_append, List.nil_append]
  refine Gx.a (by kernel_rfl) fun K hK => ?_
  simp only [XA]
  refine hK _ ?_
  refine XWP.seq ?_
  refine Gx.a (by kernel_rfl) fun K hK => ?_
  simp only [XM, XA, Nat.reduceAdd, Nat.reduceLeDiff, ↓reduceIte]
  refine call_go (by kernel_rfl) rfl (cmr_c ha (by omega)) fun v1 V1 hV1 h1 => ?_
  subst h1
  simp only [XA]
  refine hK _ ?_
  refine Gx.f rfl ?_
  refine XWP.skip ?_
  refine XWP.seq ?_
  refine Gx.a (by kernel_rfl) fun K hK => ?_
  simp only [XM, XA, XB, decide_true]
  refine hK _ ?_
  refine Gx.f rfl ?_
  refine XWP.skip ?_
  refine Gx.a (by kernel_rfl) fun K hK => ?_
  simp only [XM, XA, XB]
  refine hK _ ?_
  refine Gx.a (by kernel_rfl) fun K hK => ?_
  simp only [XA, XB, i64_succ n (by omega)]
  refine mk_go rfl rfl elemT_25 zeroT_48 (by omega) (by omega) (by omega) (by omega) rfl (by omega) fun g hg1 hg2 => ?_
  simp only [XA]
  refine hK _ ?_
  have hrow0 : RowAt (optE ratE) V1 (List.replicate (n + 1) [Value.bool false, .slice none 0 0, .slice none 0 0]).flatten (bpart (n + 1) f 0) := by rw [bpart_zero]; exact RowAt.new V1 (n + 1)
  have hH0 : upd (fun _ => none) g (some ⟨48, (List.replicate (n + 1) [Value.bool false, .slice none 0 0, .slice none 0 0]).flatten, (n + 1) * 3⟩) g = some ⟨48, (List.replicate (n + 1) [Value.bool false, .slice none 0 0, .slice none 0 0]).flatten, (n + 1) * 3⟩ := upd_at _ _ _
  have hl0 := hrow0.1
  rw [bpart_len] at hl0
  generalize (List.replicate (n + 1) [Value.bool false, Value.slice none 0 0, Value.slice none 0 0]).flatten = cells0 at *
  refine Gx.a (by kernel_rfl) fun K hK => ?_
  simp only [XA]
  refine call_go (by kernel_rfl) rfl (qone_c _) fun v2 V2 hV2 h2 => ?_
  obtain ⟨x2, y2, rfl, p1, p2⟩ := h2.form
  simp only [XA, XB]
  refine ⟨by omega, by omega, ?_⟩
  refine st_rowA shapeT_48 (all3 rfl p1 p2) rfl hH0 (by dsimp only; omega) ?_
  simp only [XA]
  refine hK _ ?_
  have hrow1 := (hrow0.mono (optE_ok ratE_ok) hV2).set n (by rw [bpart_len]; omega) (x := some 1) (show isOne (.bool (ng 1)) = true from rfl) p1 p2 h2
  have ef : f (n + 1 - 1 - 0) = 1 := by rw [hf]; show (flP M n (n - (n + 1 - 1 - 0))).2 = 1; rw [show n - (n + 1 - 1 - 0) = 0 by omega]; rfl
  have es := bpart_step f (N := n + 1) (k := 0) (by omega)
  rw [ef, show n + 1 - 1 - 0 = n by omega] at es
  rw [es] at hrow1
  have hH1 := upd_at (upd (fun _ => none) g (some ⟨48, cells0, (n + 1) * 3⟩)) g (some ⟨48, splice cells0 (n * 3) [.bool (ng 1), x2, y2], (n + 1) * 3⟩)
  generalize splice cells0 (n * 3) [.bool (ng 1), x2, y2] = cells1 at *
  generalize upd (upd (fun _ => none) g _) g _ = H1 at *
  clear hrow0 hH0 hl0
  refine Gx.a (by kernel_rfl) fun K hK => ?_
  simp only [XA]
  refine call_go (by kernel_rfl) rfl (cmzero_c _ n n (by omega) (by omega)) fun v3 V3 hV3 h3 => ?_
  obtain ⟨w3, rfl, h3⟩ := h3
  have ow3 := SlAt.one h3
  simp only [XM, XA]
  refine st_mat shapeT_24 rfl rfl rfl rfl ow3 ?_
  simp only [XA]
  refine hK _ ?_
  have hA0 : SqM V3 w3 n 500000000 (flP M n 0).1 := ⟨h3, by omega, (hfl 0 (by omega)).1⟩
  have hVb := View.le_trans hV1 (View.le_trans hV2 hV3)
  refine XWP.cutD 2 (fun s => ∃ (V8 : View) (H8 : Heap) (w8 : Value) (cells : List Value), StIs (fun Z => [Z 0, .p 0 0, Z 2, Z 3, .v (.int .i64 (n : Int)), .v (.slice (some ⟨g, 0, none⟩) (n + 1) (n + 1)), .p 1 0, Z 7, Z 8,Z 9,Z 10,Z 11,Z 12,Z 13,Z 14,Z 15,Z 16,Z 17,Z 18,Z 19,Z 20,Z 21,Z 22,Z 23,Z 24,Z 25,Z 26,Z 27,Z 28,Z 29,Z 30,Z 31,Z 32,Z 33,Z 34,Z 35,Z 36,Z 37,Z 38,Z 39,Z 40,Z 41,Z 42,Z 43,Z 44,Z 45,Z 46,Z 47,Z 48,Z 49,Z 50,Z 51,Z 52,Z 53,Z 54,Z 55,Z 56,Z 57,Z 58,Z 59,Z 60,Z 61,Z 62,Z 63,Z 64,Z 65,Z 66,Z 67,Z 68,Z 69,Z 70,Z 71,Z 72,Z 73,Z 74,Z 75,Z 76,Z 77,Z 78,Z 79,Z 80,Z 81,Z 82,Z 83,Z 84,Z 85]) [[.int .i64 (n : Int), .int .i64 (n : Int), .slice A1 (flatG M n n).length c1], [.int .i64 (n : Int), .int .i64 (n : Int), w8]] H8 V8 s ∧ H8 g = some ⟨48, cells, (n + 1) * 3⟩ ∧ RowAt ratE V8 cells (chrL M n)) ?_ ?_
  · refine Gx.a (by kernel_rfl) fun K hK => ?_
    simp only [XA]
    refine hK _ ?_
    clear hK
    refine XWP.block ?_
    refine XWP.loopD 2 (fun q s => ∃ (k : Nat) (V8 : View) (H8 : Heap) (w8 : Value) (cells : List Value), StIs (fun Z => [Z 0, .p 0 0, Z 2, Z 3, .v (.int .i64 (n : Int)), .v (.slice (some ⟨g, 0, none⟩) (n + 1) (n + 1)), .p 1 0, Z 7, .v (.int .i64 ((k + 1 : Nat) : Int)), Z 9,Z 10,Z 11,Z 12,Z 13,Z 14,Z 15,Z 16,Z 17,Z 18,Z 19,Z 20,Z 21,Z 22,Z 23,Z 24,Z 25,Z 26,Z 27,Z 28,Z 29,Z 30,Z 31,Z 32,Z 33,Z 34,Z 35,Z 36,Z 37,Z 38,Z 39,Z 40,Z 41,Z 42,Z 43,Z 44,Z 45,Z 46,Z 47,Z 48,Z 49,Z 50,Z 51,Z 52,Z 53,Z 54,Z 55,Z 56,Z 57,Z 58,Z 59,Z 60,Z 61,Z 62,Z 63,Z 64,Z 65,Z 66,Z 67,Z 68,Z 69,Z 70,Z 71,Z 72,Z 73,Z 74,Z 75,Z 76,Z 77,Z 78,Z 79,Z 80,Z 81,Z 82,Z 83,Z 84,Z 85]) [[.int .i64 (n : Int), .int .i64 (n : Int), .slice A1 (flatG M n n).length c1], [.int .i64 (n : Int), .int .i64 (n : Int), w8]] H8 V8 s ∧ q + k = n ∧ V.le V8 ∧ H8 g = some ⟨48, cells, (n + 1) * 3⟩ ∧ RowAt (optE ratE) V8 cells (bpart (n + 1) f (k + 1)) ∧ SqM V8 w8 n 500000000 (flP M n k).1) n ⟨0, V3, H1, w3, cells1, StIs.of (by exact rfl), by omega, hVb, hH1, hrow1.mono (optE_ok ratE_ok) hV3, hA0⟩ ?_
    clear hH1 hrow1 hA0 h2 p1 p2 h3 ow3 ef es
    rintro q s ⟨k, V8, H8, w8, cells, hs, hq, hV8, hH8, hrow8, hA⟩
    obtain ⟨z, rfl⟩ := hs.out
    try dsimp only
    clear hs
    refine XWP.seq ?_
    by_cases hk : k < n
    rotate_left
    · obtain rfl : k = n := by omega
      have b1 : decide (((k + 1 : Nat) : Int) ≤ (k : Int)) = false := decide_eq_false (by omega)
      refine Gx.a (by kernel_rfl) fun K hK => ?_
      simp only [XA, XB, b1]
      refine hK _ ?_
      refine Gx.f rfl ?_
      refine XWP.exit ?_
      rw [bpart_all] at hrow8
      have e : chrL M k = mk (k + 1) f := by rw [hf]; rfl
      exact fun f' => ⟨V8, H8, w8, cells, StIs.of (by exact rfl), hH8, by rw [e]; exact RowAt.all hrow8⟩
    have b1 : decide (((k + 1 : Nat) : Int) ≤ (n : Int)) = true := decide_eq_true (by omega)
    refine Gx.a (by kernel_rfl) fun K hK => ?_
    simp only [XA, XB, b1]
    refine hK _ ?_
    refine Gx.t rfl ?_
    refine XWP.skip ?_
    refine XWP.cutD 2 (fun s => ∃ (V9 : View) (H9 : Heap) (w9 : Value) (cells : List Value), StIs (fun Z => [Z 0, .p 0 0, Z 2, Z 3, .v (.int .i64 (n : Int)), .v (.slice (some ⟨g, 0, none⟩) (n + 1) (n + 1)), .p 1 0, Z 7, .v (.int .i64 ((k + 1 : Nat) : Int)), Z 9,Z 10,Z 11,Z 12,Z 13,Z 14,Z 15,Z 16,Z 17,Z 18,Z 19,Z 20,Z 21,Z 22,Z 23,Z 24,Z 25,Z 26,Z 27,Z 28,Z 29,Z 30,Z 31,Z 32,Z 33,Z 34,Z 35,Z 36,Z 37,Z 38,Z 39,Z 40,Z 41,Z 42,Z 43,Z 44,Z 45,Z 46,Z 47,Z 48,Z 49,Z 50,Z 51,Z 52,Z 53,Z 54,Z 55,Z 56,Z 57,Z 58,Z 59,Z 60,Z 61,Z 62,Z 63,Z 64,Z 65,Z 66,Z 67,Z 68,Z 69,Z 70,Z 71,Z 72,Z 73,Z 74,Z 75,Z 76,Z 77,Z 78,Z 79,Z 80,Z 81,Z 82,Z 83,Z 84,Z 85]) [[.int .i64 (n : Int), .int .i64 (n : Int), .slice A1 (flatG M n n).length c1], [.int .i64 (n : Int), .int .i64 (n : Int), w9]] H9 V9 s ∧ V8.le V9 ∧ H9 g = some ⟨48, cells, (n + 1) * 3⟩ ∧ RowAt (optE ratE) V9 cells (bpart (n + 1) f (k + 1 + 1)) ∧ SqM V9 w9 n 500000000 (flP M n (k + 1)).1) ?_ ?_
    rotate_left
    · rintro s ⟨V9, H9, w9, cells', hs, hV9, hH9, hrow9, hA9⟩
      obtain ⟨z, rfl⟩ := hs.out
      try dsimp only
      clear hs
      refine Gx.c (by kernel_rfl) fun K hK => ?_
      simp only [XA, XB, i64_succ (k + 1) (by omega)]
      exact hK _ ⟨q - 1, by omega, fun f' => ⟨k + 1, V9, H9, w9, cells', StIs.of (by exact rfl), by omega, View.le_trans hV8 hV9, hH9, hrow9, hA9⟩⟩
    clear hK
    refine XWP.block ?_
    have hfk : f (n - k) = (flP M n k).2 := by rw [hf]; show (flP M n (n - (n - k))).2 = _; rw [show n - (n - k) = k by omega]
    obtain ⟨m4, n4, d4, hx4, ⟨o1, o2, o3⟩, hld4⟩ := opt_load hH8 hrow8 (i := n - k) (q := (flP M n k).2) (by rw [bpart_at (by omega) (by omega), hfk])
    have w1 := i64_sub n (k + 1) (by omega) (by omega)
    have w2 : IntKind.i64.wrap (((n - (k + 1) : Nat) : Int) + 1) = ((n - k : Nat) : Int) := by rw [wrap_id (by omega) (by omega)]; omega
    obtain ⟨q1, q2⟩ := hfl k (by omega)
    obtain ⟨q3, q4⟩ := hfl (k + 1) (by omega)
    refine XWP.cutD 2 (fun s => ∃ (V9 : View) (w9 : Value), StIs (fun Z => [Z 0, .p 0 0, Z 2, Z 3, .v (.int .i64 (n : Int)), .v (.slice (some ⟨g, 0, none⟩) (n + 1) (n + 1)), .p 1 0, Z 7, .v (.int .i64 ((k + 1 : Nat) : Int)), Z 9,Z 10,Z 11,Z 12,Z 13,Z 14,Z 15,Z 16,Z 17,Z 18,Z 19,Z 20,Z 21,Z 22,Z 23,Z 24,Z 25,Z 26,Z 27,Z 28,Z 29,Z 30,Z 31,Z 32,Z 33,Z 34,Z 35,Z 36,Z 37,Z 38,Z 39,Z 40,Z 41,Z 42,Z 43,Z 44,Z 45,Z 46,Z 47,Z 48,Z 49,Z 50,Z 51,Z 52,Z 53,Z 54,Z 55,Z 56,Z 57,Z 58,Z 59,Z 60,Z 61,Z 62,Z 63,Z 64,Z 65,Z 66,Z 67,Z 68,Z 69,Z 70,Z 71,Z 72,Z 73,Z 74,Z 75,Z 76,Z 77,Z 78,Z 79,Z 80,Z 81,Z 82,Z 83,Z 84,Z 85]) [[.int .i64 (n : Int), .int .i64 (n : Int), .slice A1 (flatG M n n).length c1], [.int .i64 (n : Int), .int .i64 (n : Int), w9]] H8 V9 s ∧ V8.le V9 ∧ SqM V9 w9 n 500000000 (flP M n (k + 1)).1) ?_ ?_
    · (refine XWP.drw1 [0, 1, 2, 3, 4, 5, 6, 7, 8, 9, 10, 11, 12, 13, 14] (by kernel_rfl) (by kernel_rfl) (by kernel_rfl) fun K hK => ?_) <;> dsimp only [pickOps, List.getElem?_cons_zero, List.getElem?_cons_succ]
      simp only [XM, XA, XB, Nat.reduceAdd, Nat.reduceLeDiff, ↓reduceIte, w1, w2]
      refine ⟨by omega, by omega, ld_mem hld4 ?_⟩
      simp only [XA]
      refine call_go (by kernel_rfl) rfl (cplus_c _ _ _ n 500000000 2500000000 _ _ hA hx4 q2 (by omega)) fun v9 V9 hV9 h9 => ?_
      obtain ⟨w9, rfl, h9⟩ := h9
      have hP : SqM V9 w9 n 3000000001 (fun i j => (flP M n k).1 i j + gid i j * (flP M n k).2) := ⟨h9, hA.hn, fun i j hi hj => ((q1 i j hi hj).add ((gid_QB i j).mul q2)).mono (by omega)⟩
      simp only [XA]
      refine call_go (by kernel_rfl) rfl (cmMul_c _ _ _ n 97 3000000001 M _ (ha.up (View.le_trans hV8 hV9)) hP hn5 (by omega)) fun v10 V10 hV10 h10 => ?_
      obtain ⟨w10, rfl, h10⟩ := h10
      have ow10 := SlAt.one h10
      simp only [XA]
      refine st_mat shapeT_24 rfl rfl rfl rfl ow10 ?_
      simp only [XA]
      refine hK _ fun f' => ⟨V10, w10, StIs.of (by exact rfl), View.le_trans hV9 hV10, ⟨?_, hA.hn, q3⟩⟩
      rw [flatG_congr (G' := (flP M n (k + 1)).1)] at h10
      · exact h10
      · intro i j hi hj
        show _ = gmul M (fun i j => (flP M n k).1 i j + (flP M n k).2 * gid i j) n i j
        exact gmul_congr (fun _ _ _ _ => rfl) (fun i j _ _ => by grind) hi hj
    rintro s ⟨V9, w9, hs, hV9, hA9⟩
    obtain ⟨z, rfl⟩ := hs.out
    try dsimp only
    clear hs hx4 o1 o2 o3 hld4 q1 q2
    have hrow9 := hrow8.mono (optE_ok ratE_ok) hV9
    clear hrow8 hA
    obtain ⟨A9, c9, ew, hc9, hm9⟩ := hA9.hv.form
    subst ew
    refine Gx.a (by kernel_rfl) fun K hK => ?_
    simp only [XA]
    refine call_go (by kernel_rfl) rfl (qzero_c _) fun v10 V10 hV10 h10 => ?_
    obtain ⟨x10, y10, rfl, p1, p2⟩ := h10.form
    simp only [XA, XB, Nat.reduceAdd]
    refine st_rat rfl rfl rfl p1 p2 ?_
    simp only [XA]
    refine hK _ ?_
    have hQt : ∀ j, j ≤ n → QB 2500000005 (Sm (fun i => (flP M n (k + 1)).1 i i) j) := fun j hj => (Sm_QBk hn5 (fun t ht => q3 t t ht ht) j hj).mono (by omega)
    refine XWP.cut (fun s => ∃ (V11 : View) (m : Bool) (x y : Value), StIs (fun Z => [Z 0, .p 0 0, Z 2, Z 3, .v (.int .i64 (n : Int)), .v (.slice (some ⟨g, 0, none⟩) (n + 1) (n + 1)), .p 1 0, Z 7, .v (.int .i64 ((k + 1 : Nat) : Int)), .p 2 0, Z 10,Z 11,Z 12,Z 13,Z 14,Z 15,Z 16,Z 17,Z 18,Z 19,Z 20,Z 21,Z 22,Z 23,Z 24,Z 25,Z 26,Z 27,Z 28,Z 29,Z 30,Z 31,Z 32,Z 33,Z 34,Z 35,Z 36,Z 37,Z 38,Z 39,Z 40,Z 41,Z 42,Z 43,Z 44,Z 45,Z 46,Z 47,Z 48,Z 49,Z 50,Z 51,Z 52,Z 53,Z 54,Z 55,Z 56,Z 57,Z 58,Z 59,Z 60,Z 61,Z 62,Z 63,Z 64,Z 65,Z 66,Z 67,Z 68,Z 69,Z 70,Z 71,Z 72,Z 73,Z 74,Z 75,Z 76,Z 77,Z 78,Z 79,Z 80,Z 81,Z 82,Z 83,Z 84,Z 85]) [[.int .i64 (n : Int), .int .i64 (n : Int), .slice A1 (flatG M n n).length c1], [.int .i64 (n : Int), .int .i64 (n : Int), .slice A9 (flatG (flP M n (k + 1)).1 n n).length c9], [.bool m, x, y]] H8 V11 s ∧ V10.le V11 ∧ RatC V11 (.agg #[.bool m, x, y]) (Sm (fun i => (flP M n (k + 1)).1 i i) n) ∧ isOne x = true ∧ isOne y = true) ?_ ?_
    · refine Gx.a (by kernel_rfl) fun K hK => ?_
      simp only [XA]
      refine hK _ ?_
      clear hK
      refine XWP.block ?_
      refine XWP.loop (fun d s => ∃ (i : Nat) (V11 : View) (m : Bool) (x y : Value), StIs (fun Z => [Z 0, .p 0 0, Z 2, Z 3, .v (.int .i64 (n : Int)), .v (.slice (some ⟨g, 0, none⟩) (n + 1) (n + 1)), .p 1 0, Z 7, .v (.int .i64 ((k + 1 : Nat) : Int)), .p 2 0, Z 10,Z 11,Z 12,Z 13,Z 14,Z 15,Z 16,Z 17,Z 18,Z 19,Z 20,Z 21,Z 22,Z 23,Z 24,Z 25,Z 26,Z 27,Z 28,Z 29,Z 30,Z 31,Z 32,Z 33,Z 34,Z 35,Z 36,Z 37,Z 38,Z 39,Z 40,Z 41,Z 42,Z 43,Z 44,Z 45,Z 46,Z 47,Z 48,Z 49,Z 50,Z 51,Z 52,Z 53,Z 54,Z 55, .v (.int .i64 (n : Int)), .v (.int .i64 (i : Int)), Z 58,Z 59,Z 60,Z 61,Z 62,Z 63,Z 64,Z 65,Z 66,Z 67,Z 68,Z 69,Z 70,Z 71,Z 72,Z 73,Z 74,Z 75,Z 76,Z 77,Z 78,Z 79,Z 80,Z 81,Z 82,Z 83,Z 84,Z 85]) [[.int .i64 (n : Int), .int .i64 (n : Int), .slice A1 (flatG M n n).length c1], [.int .i64 (n : Int), .int .i64 (n : Int), .slice A9 (flatG (flP M n (k + 1)).1 n n).length c9], [.bool m, x, y]] H8 V11 s ∧ d + i = n ∧ V10.le V11 ∧ RatC V11 (.agg #[.bool m, x, y]) (Sm (fun i => (flP M n (k + 1)).1 i i) i) ∧ isOne x = true ∧ isOne y = true) n ⟨0, V10, _, x10, y10, StIs.of (by exact rfl), by omega, View.le_refl _, h10, p1, p2⟩ ?_
      clear h10 p1 p2
      rintro d s ⟨i, V11, m, x, y, hs, hd, hV11, hx, o1, o2⟩
      obtain ⟨z, rfl⟩ := hs.out
      try dsimp only
      clear hs
      by_cases hi : i < n
      rotate_left
      · obtain rfl : i = n := by omega
        have b2 : decide ((i : Int) < (i : Int)) = false := decide_eq_false (by omega)
        refine Gx.a (by kernel_rfl) fun K hK => ?_
        simp only [XA, XB, b2]
        refine hK _ ?_
        refine XWP.seq (Gx.f rfl ?_)
        refine XWP.exit ?_
        exact ⟨V11, m, x, y, StIs.of (by exact rfl), hV11, hx, o1, o2⟩
      have b2 : decide ((i : Int) < (n : Int)) = true := decide_eq_true (by omega)
      refine Gx.a (by kernel_rfl) fun K hK => ?_
      simp only [XA, XB, b2]
      refine hK _ ?_
      refine XWP.seq (Gx.t rfl ?_)
      refine XWP.skip ?_
      refine XWP.seq ?_
      refine XWP.block ?_
      refine Gx.a (by kernel_rfl) fun K hK => ?_
      simp only [XA]
      refine hK _ ?_
      have hv11 := hA9.hv.up (View.le_trans hV10 hV11)
      have hii := pos_lt hi hi
      have hnn := sq_le hA9.hn
      have hfl9 := flatG_len (flP M n (k + 1)).1 n n
      obtain ⟨b, o, rfl⟩ := SlAt.addr hv11 (by omega)
      obtain ⟨m5, n5, d5, hx5, ⟨r1, r2, r3⟩, hld5⟩ := Rats.get hv11 (i * n + i) (by omega)
      rw [flatG_at _ hi hi] at hx5
      have w3 := wr_mul (i := i) (C := n) (by omega) (by omega)
      have w4 := wr_add (p := i * n) (k := i) (by omega) (by omega)
      (refine XWP.drw1 [0, 1, 2, 3, 4, 5, 6, 7, 8, 9, 10, 11] (by kernel_rfl) (by kernel_rfl) (by kernel_rfl) fun K hK => ?_) <;> dsimp only [pickOps, List.getElem?_cons_zero, List.getElem?_cons_succ]
      simp only [XM, XA, XB, Nat.reduceAdd, Nat.reduceLeDiff, ↓reduceIte, w3, w4]
      refine ⟨by omega, by omega, ld_mem (hld5 _) ?_⟩
      simp only [XA]
      refine call_go (by kernel_rfl) rfl (qadd_c _ _ _ _ _ hx hx5 ((hQt i (by omega)).qf (by omega)) ((q3 i i hi hi).qf (by omega))) fun v12 V12 hV12 h12 => ?_
      obtain ⟨x12, y12, rfl, o5, o6⟩ := h12.form
      simp only [XA]
      refine st_rat rfl rfl rfl o5 o6 ?_
      simp only [XA]
      refine hK _ ?_
      refine Gx.c (by kernel_rfl) fun K hK => ?_
      simp only [XA, XB, i64_succ i (by omega)]
      exact hK _ ⟨d - 1, by omega, i + 1, V12, _, x12, y12, StIs.of (by exact rfl), by omega, View.le_trans hV11 hV12, h12, o5, o6⟩
    clear h10 p1 p2
    rintro s ⟨V11, m, x, y, hs, hV11, hx, o1, o2⟩
    obtain ⟨z, rfl⟩ := hs.out
    try dsimp only
    clear hs
    refine Gx.a (by kernel_rfl) fun K hK => ?_
    simp only [XA]
    refine call_go (by kernel_rfl) rfl (cmakem_c _ k (by omega)) fun v12 V12 hV12 h12 => ?_
    obtain ⟨w12, rfl, h12⟩ := h12
    obtain ⟨x12, y12, rfl, p1, p2⟩ := h12.form
    simp only [XA, XB, Nat.reduceAdd]
    refine st_rat rfl rfl rfl p1 p2 ?_
    simp only [XA]
    refine hK _ ?_
    refine Gx.c (by kernel_rfl) fun K hK => ?_
    simp only [XA, XB, Nat.reduceAdd, Nat.reduceLeDiff, ↓reduceIte, w1]
    refine call_go (by kernel_rfl) rfl (qmul_c _ _ _ _ _ (hx.mono hV12) h12 ((hQt n (by omega)).qf (by omega)) ((part_QB (n := k) (by omega)).qf (by omega))) fun v13 V13 hV13 h13 => ?_
    have e13 : Sm (fun i => (flP M n (k + 1)).1 i i) n * (-1 / ((k : Rat) + 1)) = (flP M n (k + 1)).2 := rfl
    rw [e13] at h13
    obtain ⟨x13, y13, rfl, o5, o6⟩ := h13.form
    have hle13 := View.le_trans hV10 (View.le_trans hV11 (View.le_trans hV12 hV13))
    have hrow13 := hrow9.mono (optE_ok ratE_ok) hle13
    have hl13 := hrow13.1
    rw [bpart_len] at hl13
    simp only [XA, XB]
    refine ⟨by omega, by omega, ?_⟩
    refine st_rowA shapeT_48 (all3 rfl o5 o6) rfl hH8 (by dsimp only; omega) ?_
    simp only [XA]
    have hset := hrow13.set (n - (k + 1)) (by rw [bpart_len]; omega) (x := some (flP M n (k + 1)).2) (show isOne (.bool (ng (flP M n (k + 1)).2)) = true from rfl) o5 o6 h13
    have hfk1 : f (n - (k + 1)) = (flP M n (k + 1)).2 := by rw [hf]; show (flP M n (n - (n - (k + 1)))).2 = _; rw [show n - (n - (k + 1)) = k + 1 by omega]
    have es := bpart_step f (N := n + 1) (k := k + 1) (by omega)
    rw [show n + 1 - 1 - (k + 1) = n - (k + 1) by omega, hfk1] at es
    rw [es] at hset
    exact hK _ fun f' => ⟨V13, _, _, _, StIs.of (by exact rfl), View.le_trans hV9 hle13, upd_at _ _ _, hset, hA9.up hle13⟩
  rintro s ⟨V8, H8, w8, cells, hs, hH8, hrow8⟩
  obtain ⟨z, rfl⟩ := hs.out
  try dsimp only
  refine Gx.a (by kernel_rfl) fun K hK => ?_
  simp only [XA]
  refine hK _ (XWP.ret ?_)
  try simp only [thenX_ret, inBlockX_ret]
  refine ret_pub g _ hH8 fun o ho hle' => ret_go _ (by simp [resAll, resV]; rfl) ⟨_, rfl, ?_⟩
  exact hrow8.pub ratE_ok ho hle' (chrL_len M n) (Nat.le_refl _) (by omega)
end Go.Proofs.YthoboehbadmlmaaGreat
end
section
namespace Go.Proofs.YthoboehbadmlmaaGreat
open Go Go.RowKit
set_option linter.unusedSimpArgs false
set_option linter.unusedVariables false
attribute [local irreducible] XWP Spec SpecO XPub XCall seqX clX apX stX ldX iaX slX
def ofE (r c : Int) (L : List Raw) : Int := if matR r c L = true then (if r = c then 0 else 30) else 1
def ofR (r c : Int) (L : List Raw) : List Rat := if ofE r c L = 0 then chrL (gridL (qs L) c.toNat) c.toNat else []
theorem ofE_bad {r c : Int} {L : List Raw} (h : matR r c L = false) : ofE r c L = 1 ∧ ofR r c L = [] := by
  have e : ofE r c L = 1 := by unfold ofE; rw [h]; rfl
  exact ⟨e, by unfold ofR; rw [e]; rfl⟩
theorem ofE_shape {r c : Int} {L : List Raw} (h : matR r c L = true) (hrc : r ≠ c) : ofE r c L = 30 ∧ ofR r c L = [] := by
  have e : ofE r c L = 30 := by unfold ofE; rw [if_pos h, if_neg hrc]
  exact ⟨e, by unfold ofR; rw [e]; rfl⟩
theorem ofE_good {n : Nat} {L : List Raw} (h : matR (n : Int) (n : Int) L = true) : ofE n n L = 0 ∧ ofR n n L = chrL (gridL (qs L) n) n := by
  have e : ofE n n L = 0 := by unfold ofE; rw [if_pos h, if_pos rfl]
  exact ⟨e, by unfold ofR; rw [if_pos e, Int.toNat_natCast]⟩
/-- a small matrix, as the law takes it -/
structure Small (r c : Int) (L : List Raw) : Prop where
  fit : fitR L
  len : L.length ≤ 100000
  qb : okR L = true → ∀ x ∈ qs L, QB 97 x
  n5 : matR r c L = true → r = c → c ≤ 5
theorem Small.sq {V : View} {s : Value} {r c : Int} {L : List Raw} (h : Small r c L) (hv : Raws V s L) (hm : matR r c L = true) (hrc : r = c) : ∃ n : Nat, r = n ∧ c = n ∧ n ≤ 5 ∧ SqM V s n 97 (gridL (qs L) n) := by
  have h5 := h.n5 hm hrc
  have hm0 := hm
  unfold matR at hm
  simp only [Bool.and_eq_true, decide_eq_true_eq] at hm
  obtain ⟨⟨h1, h2, h3, h4, hl⟩, hok⟩ := hm
  obtain ⟨n, rfl⟩ : ∃ n : Nat, c = n := ⟨c.toNat, by omega⟩
  subst hrc
  have hl2 : (qs L).length = n * n := by
    unfold qs; rw [List.length_map]; exact Int.ofNat.inj (by show (L.length : Int) = ((n * n : Nat) : Int); rw [hl, Int.natCast_mul])
  refine ⟨n, rfl, rfl, by omega, ?_, by omega, fun i k hi hk => ?_⟩
  · rw [flatG_gridL hl2]; exact Raws.rats hv hok
  · exact h.qb hok _ (cf_mem (by rw [hl2]; exact pos_lt hi hk))
theorem cOf_bad (V : View) (s : Value) (r c : Int) (L : List Raw) (hv : Raws V s L) (h : Small r c L) (hm : matR r c L = false) : Spec Tryz.prog 8 [.agg #[.int .i64 r, .int .i64 c, s]] V fun v' V' => ∃ w, v' = .tuple #[w, .int .i64 1] ∧ Rats V' w [] := by
  obtain ⟨A, cp, rfl, _, _⟩ := hv.form
  refine (Spec.enter Tryz.func8 rfl fun Γ => ?_)
  simp only [Tryz.ntmps8, List.map_cons, List.map_nil, List.length_cons, List.length_nil, Nat.reduceAdd, Nat.reduceSub, List.replicate_succ, List.replicate_zero, List.cons_append, List.nil_append]
  refine Gx.a (by kernel_rfl) fun K hK => ?_
  simp only [XA]
  refine hK _ ?_
  refine XWP.seq ?_
  refine Gx.a (by kernel_rfl) fun K hK => ?_
  simp only [XM, XA, Nat.reduceAdd, Nat.reduceLeDiff, ↓reduceIte]
  refine call_go (by kernel_rfl) rfl (cmright_c _ _ _ _ L hv h.fit (by have := h.len; omega)) fun v1 V1 hV1 h1 => ?_
  rw [hm] at h1
  subst h1
  simp only [XA]
  refine hK _ ?_
  refine Gx.t rfl ?_
  refine Gx.a (by kernel_rfl) fun K hK => ?_
  simp only [XA]
  refine hK _ (XWP.ret ?_)
  try simp only [thenX_ret, inBlockX_ret]
  refine ret_go _ rfl ?_
  exact ⟨_, rfl, SlAt.nil _⟩
theorem cOf_shape (V : View) (s : Value) (r c : Int) (L : List Raw) (hv : Raws V s L) (h : Small r c L) (hm : matR r c L = true) (hrc : r ≠ c) : Spec Tryz.prog 8 [.agg #[.int .i64 r, .int .i64 c, s]] V fun v' V' => ∃ w, v' = .tuple #[w, .int .i64 30] ∧ Rats V' w [] := by
  have b1 : decide (r = c) = false := decide_eq_false hrc
  obtain ⟨A, cp, rfl, _, _⟩ := hv.form
  refine (Spec.enter Tryz.func8 rfl fun Γ => ?_)
  simp only [Tryz.ntmps8, List.map_cons, List.map_nil, List.length_cons, List.length_nil, Nat.reduceAdd, Nat.reduceSub, List.replicate_succ, List.replicate_zero, List.cons_append, List.nil_append]
  refine Gx.a (by kernel_rfl) fun K hK => ?_
  simp only [XA]
  refine hK _ ?_
  refine XWP.seq ?_
  refine Gx.a (by kernel_rfl) fun K hK => ?_
  simp only [XM, XA, Nat.reduceAdd, Nat.reduceLeDiff, ↓reduceIte]
  refine call_go (by kernel_rfl) rfl (cmright_c _ _ _ _ L hv h.fit (by have := h.len; omega)) fun v1 V1 hV1 h1 => ?_
  rw [hm] at h1
  subst h1
  simp only [XA]
  refine hK _ ?_
  refine Gx.f rfl ?_
  refine XWP.skip ?_
  refine XWP.seq ?_
  refine Gx.a (by kernel_rfl) fun K hK => ?_
  simp only [XM, XA, XB, b1]
  refine hK _ ?_
  refine Gx.t rfl ?_
  refine Gx.a (by kernel_rfl) fun K hK => ?_
  simp only [XA]
  refine hK _ (XWP.ret ?_)
  try simp only [thenX_ret, inBlockX_ret]
  refine ret_go _ rfl ?_
  exact ⟨_, rfl, SlAt.nil _⟩
theorem cOf2_c (V : View) (s : Value) (r c : Int) (L : List Raw) (hv : Raws V s L) (h : Small r c L) : Spec Tryz.prog 8 [.agg #[.int .i64 r, .int .i64 c, s]] V fun v' V' => ∃ w, v' = .tuple #[w, .int .i64 (ofE r c L)] ∧ Rats V' w (ofR r c L) := by
  cases hm : matR r c L
  · obtain ⟨e1, e2⟩ := ofE_bad hm
    rw [e1, e2]
    exact cOf_bad V s r c L hv h hm
  by_cases hrc : r = c
  · obtain ⟨n, rfl, rfl, hn5, hs⟩ := h.sq hv hm hrc
    obtain ⟨e1, e2⟩ := ofE_good hm
    rw [e1, e2]
    exact cOf_c V s n _ hs hn5
  · obtain ⟨e1, e2⟩ := ofE_shape hm hrc
    rw [e1, e2]
    exact cOf_shape V s r c L hv h hm hrc
end Go.Proofs.YthoboehbadmlmaaGreat
end
section
namespace Go.Proofs.YthoboehbadmlmaaGreat
open Go Go.RowKit
set_option linter.unusedSimpArgs false
set_option linter.unusedVariables false
attribute [local irreducible] XWP Spec SpecO XPub XCall seqX clX apX stX ldX iaX slX
attribute [local irreducible] YW
theorem loads_mat {H : Heap} {V : View} {b e t : Nat} {m n d : Value} (h : H b = some ⟨e, [m, n, d], t⟩) : Loads Tryz.prog H V 24 b 0 (.agg #[m, n, d]) :=
  ⟨true, 3, shapeT_24, .inl ⟨rfl, [m, n, d], rfl, fun j u hj => .inl ⟨_, h, by rw [Nat.zero_add]; exact hj⟩, rfl⟩⟩
set_option maxHeartbeats 4000000 in
theorem cAt_c (V : View) (v s1 : Value) (n C : Nat) (P : List Raw) (M : Grid) (hv : Raws V v P) (fP : fitR P) (hr : rightP P = true) (lP : P.length ≤ 6) (hC : ∀ i, QB C (cf (qs P) i)) (hC2 : C ≤ 2500000000) (ha : SqM V s1 n 97 M) (hn5 : n ≤ 5) :
    Spec Tryz.prog 10 [v, .agg #[.int .i64 (n : Int), .int .i64 (n : Int), s1]] V fun v' V' => ∃ w, v' = .tuple #[.agg #[.int .i64 (n : Int), .int .i64 (n : Int), w], .int .i64 0] ∧ Rats V' w (flatG (horG M (qs P) n P.length) n n) := by
  obtain ⟨A1, c1, rfl, hc1, hm1⟩ := ha.hv.form
  have hok : okR P = true := (rightP_parts hr).1
  have hvr := Raws.rats hv hok
  have hlq : (qs P).length = P.length := by unfold qs; rw [List.length_map]
  have hhb : ∀ r, r ≤ 6 → hb C r ≤ 10000000000000 := fun r h => hb_top hC2 h
  obtain ⟨A0, c0, rfl, hc0, hm0⟩ := hv.form
  refine (Spec.enterR Tryz.func10 rfl fun Γ hΓ => ?_)
  simp only [Tryz.ntmps10, List.map_cons, List.map_nil, List.length_cons, List.length_nil, Nat.reduceAdd, Nat.reduceSub, List.replicate_succ, List.replicate_zero, List.cons_append, List.nil_append]
  refine Gx.a (by kernel_rfl) fun K hK => ?_
  simp only [XM, XA]
  refine hK _ ?_
  refine XWP.seq ?_
  refine Gx.a (by kernel_rfl) fun K hK => ?_
  simp only [XA]
  refine call_go (by kernel_rfl) rfl (cright_c _ _ P hv fP (by omega)) fun v1 V1 hV1 h1 => ?_
  rw [hr] at h1
  subst h1
  simp only [XM, XA, gateX, Nat.reduceAdd, Nat.reduceLeDiff, ↓reduceIte, beq_self_eq_true]
  refine call_go (by kernel_rfl) rfl (cmr_c (ha.up hV1) (by omega)) fun v2 V2 hV2 h2 => ?_
  subst h2
  simp only [XA, gateX, ↓reduceIte, beq_self_eq_true]
  refine hK _ ?_
  refine Gx.f rfl ?_
  refine XWP.skip ?_
  have hle2 := View.le_trans hV1 hV2
  refine XWP.seq ?_
  refine Gx.a (by kernel_rfl) fun K hK => ?_
  simp only [XM, XA, XB, decide_true]
  refine hK _ ?_
  refine Gx.f rfl ?_
  refine XWP.skip ?_
  refine Gx.a (by kernel_rfl) fun K hK => ?_
  simp only [XM, XA, XB]
  refine call_go (by kernel_rfl) rfl (cmzero_c _ n n ha.hn ha.hn) fun v3 V3 hV3 h3 => ?_
  obtain ⟨w3, rfl, h3⟩ := h3
  have ow3 := SlAt.one h3
  simp only [XM, XA, Nat.reduceAdd]
  refine st_mat shapeT_24 rfl rfl rfl rfl ow3 ?_
  simp only [XA]
  refine hK _ ?_
  have hZ : SqM V3 w3 n (hb C 0) (horG M (qs P) n 0) := ⟨h3, ha.hn, fun i k hi hk => QB_zero _⟩
  have hle3 := View.le_trans hle2 hV3
  have ha3 := ha.up hle3
  have hv3 := hvr.up hle3
  refine XWP.cut (fun s => ∃ (V5 : View) (H5 : Heap) (b4 b6 e4 e6 : Nat) (w : Value), StIs (fun Z => [Z 0,Z 1,Z 2,Z 3, .v (.pointer (some ⟨b4, 0, none⟩)), Z 5, .v (.pointer (some ⟨b6, 0, none⟩)), Z 7,Z 8,Z 9,Z 10,Z 11,Z 12,Z 13,Z 14,Z 15,Z 16,Z 17,Z 18,Z 19,Z 20,Z 21,Z 22,Z 23,Z 24,Z 25,Z 26,Z 27,Z 28,Z 29,Z 30,Z 31,Z 32,Z 33,Z 34,Z 35,Z 36,Z 37,Z 38,Z 39,Z 40,Z 41,Z 42,Z 43,Z 44,Z 45,Z 46]) [] H5 V5 s ∧ H5 b4 = some ⟨e4, [.int .i64 0, .int .i64 0, .slice none 0 0], 3⟩ ∧ H5 b6 = some ⟨e6, [.int .i64 (n : Int), .int .i64 (n : Int), w], 3⟩ ∧ Rats V5 w (flatG (horG M (qs P) n P.length) n n) ∧ b4 ≠ b6) ?_ ?_
  · refine Gx.a (by kernel_rfl) fun K hK => ?_
    simp only [XA]
    refine call_go (by kernel_rfl) rfl (backward_c _ _ rfl) fun v4 V4 hV4 h4 => ?_
    obtain ⟨Bs, eB, rfl, hBs⟩ := h4
    simp only [XA]
    refine hK _ ?_
    have ha4 := ha3.up hV4
    have hv4 := hv3.up hV4
    have hZ4 := hZ.up hV4
    refine XWP.row1 (bx := [_, _]) fun b6 e6 hb6 _ => ?_
    simp only [List.map_cons, List.map_nil, rowS_v, rowS_p, List.length_nil, List.length_cons, Nat.reduceAdd, Nat.reduceEqDiff, ↓reduceIte]
    refine XWP.row1 (bx := [_]) fun b4 e4 hb4 _ => ?_
    simp only [List.map_cons, List.map_nil, rowS_v, rowS_p, List.length_nil, List.length_cons, Nat.reduceAdd, Nat.reduceEqDiff, ↓reduceIte]
    refine XWP.row1 (bx := []) fun b3 e3 hb3 _ => ?_
    simp only [List.map_cons, List.map_nil, rowS_v, rowS_p, List.length_nil, List.length_cons, Nat.reduceAdd, ↓reduceIte]
    have n46 : b4 ≠ b6 := fun h => by subst h; simp [upd] at hb4
    have n34 : b3 ≠ b4 := fun h => by subst h; simp [upd] at hb3
    have n36 : b3 ≠ b6 := fun h => by subst h; simp [upd, n34] at hb3
    obtain ⟨f, hf, hfv⟩ : ∃ f : Nat → Value, (P.length = 0 ∨ ∃ b o, A0 = some ⟨b, o, none⟩ ∧ ∀ i, i < P.length → Loads Tryz.prog (fun _ => none) V4 48 b (o + i * 3) (f i)) ∧ ∀ i, i < P.length → RatC V4 (f i) (cf (qs P) i) ∧ ∃ m n d, f i = .agg #[m, n, d] ∧ isOne m = true ∧ isOne n = true ∧ isOne d = true := by
      rcases Nat.eq_zero_or_pos P.length with h0 | h0
      · exact ⟨fun _ => undef, .inl h0, fun i hi => by omega⟩
      · obtain ⟨b, o, rfl⟩ := SlAt.addr hv4 (by omega)
        obtain ⟨f, hf⟩ := SlAt.vals hv4
        refine ⟨f, .inr ⟨b, o, rfl, fun i hi => (hf i (by omega)).2.2 _⟩, fun i hi => ⟨?_, (hf i (by omega)).2.1⟩⟩
        have := (hf i (by omega)).1
        rw [cf_get (by omega)] at this
        exact this
    refine XWP.block (XWP.range hΓ (L := bwL P.length f) (I := fun r H' V' => V4.le V' ∧ H' b3 = some ⟨e3, [.int .i64 (n : Int), .int .i64 (n : Int), .slice A1 (flatG M n n).length c1], 3⟩ ∧ H' b4 = some ⟨e4, [.int .i64 0, .int .i64 0, .slice none 0 0], 3⟩ ∧ ∃ w, H' b6 = some ⟨e6, [.int .i64 (n : Int), .int .i64 (n : Int), w], 3⟩ ∧ SqM V' w n (hb C r) (horG M (qs P) n r)) (Ix := fun _ _ => False) rfl (by kernel_rfl) (fun args ha => ?_) (backward_it hBs (by omega) hf) ?_ (fun r H' V' h => h.1) (fun _ _ h => h.elim) ?_ ?_ (fun _ _ h => h.elim))
    · obtain ⟨r, _, rfl⟩ := List.mem_map.1 ha
      rfl
    · refine ⟨View.le_refl _, upd_at _ _ _, ?_, _, ?_, hZ4⟩
      · rw [upd_off (Ne.symm n34), upd_at]
      · rw [upd_off (Ne.symm n36), upd_off (Ne.symm n46), upd_at]
    · rintro Γ' r args H' V' hL ⟨hV', i3, i4, w, i6, hS⟩
      have hr : r < P.length := by
        have := (List.getElem?_eq_some_iff.1 hL).1
        rwa [bwL_len] at this
      rw [bwL_get hr] at hL
      cases hL
      obtain ⟨hfi, m6, n6, d6, ef6, p1, p2, p3⟩ := hfv (P.length - 1 - r) (by omega)
      rw [ef6] at hfi ⊢
      have hh := hhb (r + 1) (by omega)
      simp only [hb] at hh
      have ow := SlAt.one hS.hv
      have ha5 := ha4.up hV'
      simp only [XA, setPs]
      refine Gx.c (by kernel_rfl) fun K hK => ?_
      simp only [XA, XB]
      refine st_rat rfl rfl p1 p2 p3 ?_
      simp only [XA]
      refine hK _ ?_
      intro Γ''
      refine XWP.block ?_
      refine Gx.a (by kernel_rfl) fun K hK => ?_
      simp only [XA]
      refine ld_mem (loads_mat i3) ?_
      simp only [XA]
      refine ld_mem (loads_mat i6) ?_
      simp only [XA]
      refine call_go (by kernel_rfl) rfl (cmMul_c _ _ _ n 97 (hb C r) M _ ha5 hS hn5 (by omega)) fun v7 V7 hV7 h7 => ?_
      obtain ⟨w7, rfl, h7⟩ := h7
      have ow7 := SlAt.one h7
      simp only [XA]
      refine st_rowA shapeT_24 (all3 rfl rfl ow7) rfl i6 (by simp) ?_
      simp only [XA, splice3]
      refine hK _ ?_
      have hS7 : SqM V7 w7 n (5 * (97 + hb C r + 1)) (gmul M (horG M (qs P) n r) n) := ⟨h7, ha.hn, fun i k hi hk => gmul_QB hn5 ha.hq hS.hq hi hk⟩
      have i6' := upd_at H' b6 (some ⟨e6, [.int .i64 (n : Int), .int .i64 (n : Int), w7], 3⟩)
      refine Gx.c (by kernel_rfl) fun K hK => ?_
      simp only [XA]
      refine ld_mem (loads_mat i6') ?_
      simp only [XA, XB, Nat.reduceAdd, Nat.reduceLeDiff, ↓reduceIte]
      refine call_go (by kernel_rfl) rfl (cplus_c _ _ _ n (5 * (97 + hb C r + 1)) C _ _ hS7 (hfi.mono (View.le_trans hV' hV7)) (hC _) (by omega)) fun v8 V8 hV8 h8 => ?_
      obtain ⟨w8, rfl, h8⟩ := h8
      have ow8 := SlAt.one h8
      simp only [XA]
      refine st_rowA shapeT_24 (all3 rfl rfl ow8) rfl i6' (by simp) ?_
      simp only [XA, splice3]
      refine hK _ ⟨View.le_trans hV' (View.le_trans hV7 hV8), (upd_off n36).trans ((upd_off n36).trans i3), (upd_off n46).trans ((upd_off n46).trans i4), w8, upd_at _ _ _, ⟨?_, ha.hn, horG_hb hn5 ha.hq hC (r + 1)⟩⟩
      rw [flatG_congr (G' := horG M (qs P) n (r + 1))] at h8
      · exact h8
      · intro i k hi hk
        rw [horG_succ, hlq]; grind
    · rintro H' V' ⟨hV', i3, i4, w, i6, hS⟩
      rw [bwL_len] at hS
      exact ⟨V', H', b4, b6, e4, e6, w, StIs.of (by exact rfl), i4, i6, hS.hv, n46⟩
  rintro s ⟨V5, H5, b4, b6, e4, e6, w, hs, i4, i6, hw, n46⟩
  obtain ⟨z, rfl⟩ := hs.out
  try dsimp only
  clear hs
  have ow := SlAt.one hw
  refine Gx.a (by kernel_rfl) fun K hK => ?_
  simp only [XA]
  refine ld_mem (loads_mat i6) ?_
  simp only [XA]
  refine st_rowA shapeT_24 (all3 rfl rfl ow) rfl i4 (by simp) ?_
  simp only [XA, splice3]
  refine hK _ (XWP.ret ?_)
  try simp only [thenX_ret, inBlockX_ret]
  refine ret_go _ (by simp [resAll, resV, cellsV, upd_at, shapeT_24]; rfl) ⟨w, rfl, hw⟩
end Go.Proofs.YthoboehbadmlmaaGreat
end
section
namespace Go.Proofs.YthoboehbadmlmaaGreat
open Go Go.RowKit
set_option linter.unusedSimpArgs false
set_option linter.unusedVariables false
attribute [local irreducible] XWP Spec SpecO XPub XCall seqX clX apX stX ldX iaX slX
/-- bounds of the powers and of the sums -/
def vb : Nat → Nat × Nat
  | 0 => (0, 0)
  | t + 1 => (5 * ((vb t).1 + 97 + 1), (vb t).2 + ((vb t).1 + 97) + 1)
end Go.Proofs.YthoboehbadmlmaaGreat
end
section
namespace Go.Proofs.YthoboehbadmlmaaGreat
open Go Go.RowKit
set_option linter.unusedSimpArgs false
set_option linter.unusedVariables false
attribute [local irreducible] XWP Spec SpecO XPub XCall seqX clX apX stX ldX iaX slX
def atE (P : List Raw) (r c : Int) (L : List Raw) : Int := if (rightP P && matR r c L) = true then (if r = c then 0 else 30) else 1
def atR (P : List Raw) (r c : Int) (L : List Raw) : List Rat := if atE P r c L = 0 then flatG (horG (gridL (qs L) c.toNat) (qs P) c.toNat P.length) c.toNat c.toNat else []
end Go.Proofs.YthoboehbadmlmaaGreat
end
section
namespace Go.Proofs.YthoboehbadmlmaaGreat
open Go Go.RowKit
set_option linter.unusedSimpArgs false
set_option linter.unusedVariables false
attribute [local irreducible] XWP Spec SpecO XPub XCall seqX clX apX stX ldX iaX slX
theorem fewR.small {r c : Int} {L : List Raw} {V : View} {w : Value} (h : fewR L) (hv : Raws V w L) (hl : L.length ≤ 4000) (h5 : matR r c L = true → r = c → c ≤ 5) : Small r c L :=
  ⟨h.fit, by omega, fun _ x hx => (fewR_QB h hv.dig x hx).mono (by omega), h5⟩
theorem fewR.append {l m : List Raw} (h1 : fewR l) (h2 : fewR m) : fewR (l ++ m) := fun r hr => by
  rcases List.mem_append.1 hr with h | h
  · exact h1 r h
  · exact h2 r h
theorem fewR.sub {l m : List Raw} (h : fewR l) (hs : ∀ r ∈ m, r ∈ l) : fewR m := fun r hr => h r (hs r hr)
set_option maxHeartbeats 4000000 in
theorem lsquare_c (V : View) (s : Value) (r c : Int) (L : List Raw) (hv : Raws V s L) : Spec Tryz.prog 6 [.agg #[.int .i64 r, .int .i64 c, s], .int .i64 5] V fun v' V' => ∃ r' c' w L', v' = .agg #[.int .i64 r', .int .i64 c', w] ∧ Raws V' w L' ∧ Small r' c' L' := by
  obtain ⟨A0, c0, rfl, _, _⟩ := hv.form
  have hfew := fewL_few L 4000
  have hflen := fewL_len L 4000
  refine (Spec.enter Tryz.func6 rfl fun Γ => ?_)
  simp only [Tryz.ntmps6, List.map_cons, List.map_nil, List.length_cons, List.length_nil, Nat.reduceAdd, Nat.reduceSub, List.replicate_succ, List.replicate_zero, List.cons_append, List.nil_append]
  refine Gx.a (by kernel_rfl) fun K hK => ?_
  simp only [XM, XA]
  refine hK _ ?_
  refine Gx.a (by kernel_rfl) fun K hK => ?_
  simp only [XM, XA, XB]
  refine call_go (by kernel_rfl) rfl (lfew_c _ _ L 4000 hv (by omega)) fun w1 V1 hV1 h1 => ?_
  obtain ⟨A1, c1, rfl, hc1, hm1⟩ := h1.form
  simp only [XM, XA]
  refine st_one shapeT_22 rfl rfl (by simp) ?_
  simp only [XA]
  refine hK _ ?_
  refine XWP.cut (fun s => ∃ V2, StIs (fun Z => [Z 0, .v (.int .i64 5), .p 0 0, Z 3, .p 1 0, Z 5,Z 6,Z 7,Z 8,Z 9,Z 10,Z 11,Z 12,Z 13,Z 14,Z 15,Z 16,Z 17,Z 18,Z 19,Z 20,Z 21,Z 22,Z 23,Z 24,Z 25,Z 26,Z 27,Z 28,Z 29,Z 30,Z 31,Z 32,Z 33,Z 34,Z 35,Z 36,Z 37,Z 38,Z 39,Z 40,Z 41,Z 42,Z 43,Z 44,Z 45,Z 46,Z 47,Z 48,Z 49,Z 50,Z 51,Z 52,Z 53]) [[.int .i64 r, .int .i64 c, .slice A1 (fewL L 4000).length c1], [.int .i64 0, .int .i64 0, .slice none 0 0]] (fun _ => none) V2 s ∧ V1.le V2 ∧ matR r c (fewL L 4000) = true ∧ r = c ∧ 5 < r) ?_ ?_
  · have fin : ∀ V2, V1.le V2 → (matR r c (fewL L 4000) = true → r = c → c ≤ 5) → ∃ r' c' w L', (Value.agg #[.int .i64 r, .int .i64 c, .slice A1 (fewL L 4000).length c1]) = .agg #[.int .i64 r', .int .i64 c', w] ∧ Raws V2 w L' ∧ Small r' c' L' := fun V2 hV2 h5 => ⟨r, c, _, _, rfl, SlAt.mono rawE_ok h1 hV2, hfew.small h1 hflen h5⟩
    refine Gx.a (by kernel_rfl) fun K hK => ?_
    simp only [XM, XA, Nat.reduceAdd, Nat.reduceLeDiff, ↓reduceIte]
    refine call_go (by kernel_rfl) rfl (dmright_c _ _ _ _ _ h1 hfew.fit (by omega)) fun v2 V2 hV2 h2 => ?_
    subst h2
    cases hm : matR r c (fewL L 4000)
    · simp only [XA, gateX, ↓reduceIte]
      refine hK _ ?_
      refine Gx.t rfl ?_
      refine Gx.a (by kernel_rfl) fun K hK => ?_
      simp only [XM, XA, Nat.reduceAdd, Nat.reduceLeDiff, ↓reduceIte]
      refine st_mat shapeT_24 rfl rfl rfl rfl rfl ?_
      simp only [XA]
      refine hK _ (XWP.ret ?_)
      try simp only [thenX_ret, inBlockX_ret]
      exact ret_go [.agg #[.int .i64 r, .int .i64 c, .slice A1 (fewL L 4000).length c1]] (by simp [resAll, resV, cellsV, shapeT_24]) (fin V2 hV2 fun h => by rw [hm] at h; cases h)
    by_cases hrc : r = c
    rotate_left
    · have b1 : decide (r = c) = false := decide_eq_false hrc
      simp only [XM, XA, XB, gateX, ↓reduceIte, beq_self_eq_true, b1]
      refine hK _ ?_
      refine Gx.t rfl ?_
      refine Gx.a (by kernel_rfl) fun K hK => ?_
      simp only [XM, XA, Nat.reduceAdd, Nat.reduceLeDiff, ↓reduceIte]
      refine st_mat shapeT_24 rfl rfl rfl rfl rfl ?_
      simp only [XA]
      refine hK _ (XWP.ret ?_)
      try simp only [thenX_ret, inBlockX_ret]
      exact ret_go [.agg #[.int .i64 r, .int .i64 c, .slice A1 (fewL L 4000).length c1]] (by simp [resAll, resV, cellsV, shapeT_24]) (fin V2 hV2 fun _ h => absurd h hrc)
    have b1 : decide (r = c) = true := decide_eq_true hrc
    by_cases h5 : r ≤ 5
    · have b2 : decide (r ≤ 5) = true := decide_eq_true h5
      simp only [XM, XA, XB, gateX, ↓reduceIte, beq_self_eq_true, b1, b2]
      refine hK _ ?_
      refine Gx.t rfl ?_
      refine Gx.a (by kernel_rfl) fun K hK => ?_
      simp only [XM, XA, Nat.reduceAdd, Nat.reduceLeDiff, ↓reduceIte]
      refine st_mat shapeT_24 rfl rfl rfl rfl rfl ?_
      simp only [XA]
      refine hK _ (XWP.ret ?_)
      try simp only [thenX_ret, inBlockX_ret]
      exact ret_go [.agg #[.int .i64 r, .int .i64 c, .slice A1 (fewL L 4000).length c1]] (by simp [resAll, resV, cellsV, shapeT_24]) (fin V2 hV2 fun _ h => by omega)
    · have b2 : decide (r ≤ 5) = false := decide_eq_false h5
      simp only [XM, XA, XB, gateX, ↓reduceIte, beq_self_eq_true, b1, b2]
      refine hK _ ?_
      refine Gx.f rfl ?_
      refine XWP.skip ?_
      exact ⟨V2, StIs.of (by exact rfl), hV2, hm, hrc, by omega⟩
  rintro s ⟨V2, hs, hV2, hm, hrc, h5⟩
  obtain ⟨z, rfl⟩ := hs.out
  try dsimp only
  clear hs
  subst hrc
  have h1 := SlAt.mono rawE_ok h1 hV2
  have hmm := hm
  unfold matR at hmm
  simp only [Bool.and_eq_true, decide_eq_true_eq] at hmm
  obtain ⟨⟨g1, g2, g3, g4, g5⟩, _⟩ := hmm
  obtain ⟨n, rfl⟩ : ∃ n : Nat, r = n := ⟨r.toNat, by omega⟩
  have g5 : (fewL L 4000).length = n * n := Int.ofNat.inj (by show ((fewL L 4000).length : Int) = ((n * n : Nat) : Int); rw [g5, Int.natCast_mul])
  generalize fewL L 4000 = L1 at *
  refine Gx.a (by kernel_rfl) fun K hK => ?_
  simp only [XA]
  refine bd_go (by kernel_rfl) #[(0, .int .i64 5), (1, .int .i64 5)] (by simp [ev_tmp, SV.val]) (bd_mtx2 rfl rfl) ?_
  simp only [XM, XA, Nat.reduceAdd]
  refine st_mat shapeT_24 rfl rfl rfl rfl rfl ?_
  simp only [XA]
  refine hK _ ?_
  refine XWP.cutD 3 (fun s => ∃ (V3 : View) (H3 : Heap) (so : Value) (cells : List Value) (Lo : List Raw), StIs (fun Z => [Z 0,Z 1,Z 2,Z 3, .p 1 0, .p 2 0, Z 6,Z 7,Z 8,Z 9,Z 10,Z 11,Z 12,Z 13,Z 14,Z 15,Z 16,Z 17,Z 18,Z 19,Z 20,Z 21,Z 22,Z 23,Z 24,Z 25,Z 26,Z 27,Z 28,Z 29,Z 30,Z 31,Z 32,Z 33,Z 34,Z 35,Z 36,Z 37,Z 38,Z 39,Z 40,Z 41,Z 42,Z 43,Z 44,Z 45,Z 46,Z 47,Z 48,Z 49,Z 50,Z 51,Z 52,Z 53]) [[.int .i64 (n : Int), .int .i64 (n : Int), .slice A1 L1.length c1], [.int .i64 0, .int .i64 0, .slice none 0 0], [.int .i64 5, .int .i64 5, so]] H3 V3 s ∧ Own H3 48 3 so 25 cells ∧ RowAt rawE V3 cells Lo ∧ fewR Lo ∧ Lo.length = 25) ?_ ?_
  · refine Gx.a (by kernel_rfl) fun K hK => ?_
    simp only [XA]
    refine hK _ ?_
    clear hK
    refine XWP.block ?_
    refine XWP.loopD 3 (fun q s => ∃ (i : Nat) (H3 : Heap) (so : Value) (cells : List Value) (Lo : List Raw), StIs (fun Z => [Z 0, .v (.int .i64 5), .p 0 0, Z 3, .p 1 0, .p 2 0, .v (.int .i64 (i : Int)), Z 7,Z 8,Z 9,Z 10,Z 11,Z 12,Z 13,Z 14,Z 15,Z 16,Z 17,Z 18,Z 19,Z 20,Z 21,Z 22,Z 23,Z 24,Z 25,Z 26,Z 27,Z 28,Z 29,Z 30,Z 31,Z 32,Z 33,Z 34,Z 35,Z 36,Z 37,Z 38,Z 39,Z 40,Z 41,Z 42,Z 43,Z 44,Z 45,Z 46,Z 47,Z 48,Z 49,Z 50,Z 51,Z 52,Z 53]) [[.int .i64 (n : Int), .int .i64 (n : Int), .slice A1 L1.length c1], [.int .i64 0, .int .i64 0, .slice none 0 0], [.int .i64 5, .int .i64 5, so]] H3 V2 s ∧ q + i = 5 ∧ Own H3 48 3 so (i * 5) cells ∧ RowAt rawE V2 cells Lo ∧ fewR Lo ∧ Lo.length = i * 5) 5 ⟨0, _, _, [], [], StIs.of (by exact rfl), by omega, own_nil, RowAt.nil V2, fun r hr => (by cases hr), rfl⟩ ?_
    rintro q s ⟨i, H3, so, cells, Lo, hs, hq, hown, hrow, hfo, hlo⟩
    obtain ⟨z, rfl⟩ := hs.out
    try dsimp only
    clear hs
    refine XWP.seq ?_
    by_cases hi : i < 5
    rotate_left
    · obtain rfl : i = 5 := by omega
      refine Gx.a (by kernel_rfl) fun K hK => ?_
      simp only [XA, XB]
      refine hK _ ?_
      refine Gx.f rfl ?_
      refine XWP.exit ?_
      exact fun f => ⟨V2, H3, so, cells, Lo, StIs.of (by exact rfl), hown, hrow, hfo, hlo⟩
    have b1 : decide ((i : Int) < 5) = true := decide_eq_true (by omega)
    refine Gx.a (by kernel_rfl) fun K hK => ?_
    simp only [XA, XB, b1]
    refine hK _ ?_
    refine Gx.t rfl ?_
    refine XWP.skip ?_
    refine XWP.seq ?_
    refine XWP.block ?_
    have hin : i * n + 5 ≤ n * n := by
      have := Nat.mul_le_mul_right n (show i + 1 ≤ n by omega)
      rw [Nat.add_mul, Nat.one_mul] at this
      omega
    have hnn : n * n ≤ 3600 := sq_le (by omega)
    have w1 := wr_mul (i := i) (C := n) (by omega) (by omega)
    have w2 : IntKind.i64.wrap (((i * n : Nat) : Int) + 5) = ((i * n + 5 : Nat) : Int) := by rw [wrap_id (by omega) (by omega)]; omega
    have hsl : Raws V2 (sliceV A1 c1 3 (i * n) (i * n + 5)) ((L1.take (i * n + 5)).drop (i * n)) := SlAt.drop (SlAt.take h1 (by omega)) (by rw [List.length_take]; omega)
    have hpl : ((L1.take (i * n + 5)).drop (i * n)).length = 5 := by rw [List.length_drop, List.length_take]; omega
    have hpf : fewR ((L1.take (i * n + 5)).drop (i * n)) := hfew.sub fun r hr => List.mem_of_mem_take (List.mem_of_mem_drop hr)
    generalize (L1.take (i * n + 5)).drop (i * n) = Lp at *
    obtain ⟨cs, hcs, hsrc⟩ := hsl.src
    rw [hpl] at hsrc
    obtain ⟨Ao, co, rfl⟩ : ∃ Ao co, so = .slice Ao (i * 5) co := by
      rcases own_parts hown with ⟨rfl, h0, _⟩ | ⟨g, cap, rfl, _⟩
      · exact ⟨none, 0, by rw [h0]⟩
      · exact ⟨_, cap, rfl⟩
    (refine XWP.drw1 [0, 1, 2, 3, 4, 5, 6, 7, 8, 9, 10, 11, 12, 13, 14, 15, 16, 17] (by kernel_rfl) (by kernel_rfl) (by kernel_rfl) fun K hK => ?_) <;> dsimp only [pickOps, List.getElem?_cons_zero, List.getElem?_cons_succ]
    simp only [XM, XA, XB, w1, w2]
    refine ⟨by omega, by omega, by omega, ?_⟩
    try simp only [XM, XN, XA, XB, gateX, Nat.reduceAdd, Nat.reduceLeDiff, Nat.reduceSub, Nat.reduceMul, ↓reduceIte, Int.reduceToNat, Int.reduceLE, beq_self_eq_true]
    refine ap_go elemT_22 (by kernel_rfl) zeroT_48 rfl (by omega) hown (hsrc _) (by omega) (by omega) fun v' H' hres => ?_
    have o' := own_isOne hres.1
    simp only [XM, XA]
    refine st_one shapeT_22 rfl o' (by simp) ?_
    simp only [XA]
    refine hK _ ?_
    have hrow' := hrow.append hcs
    refine Gx.c (by kernel_rfl) fun K hK => ?_
    simp only [XA, XB, i64_succ i (by omega)]
    exact hK _ ⟨q - 1, by omega, fun f => ⟨i + 1, H', v', _, Lo ++ Lp, StIs.of (by exact rfl), by omega, by rw [show (i + 1) * 5 = i * 5 + 5 by omega]; exact hres.1, hrow', hfo.append hpf, by rw [List.length_append]; omega⟩⟩
  rintro s ⟨V3, H3, so, cells, Lo, hs, hown, hrow, hfo, hlo⟩
  obtain ⟨z, rfl⟩ := hs.out
  try dsimp only
  have oso := own_isOne hown
  refine Gx.a (by kernel_rfl) fun K hK => ?_
  simp only [XM, XA, Nat.reduceAdd, Nat.reduceLeDiff, ↓reduceIte]
  refine st_mat shapeT_24 rfl rfl rfl rfl oso ?_
  simp only [XA]
  refine hK _ (XWP.ret ?_)
  try simp only [thenX_ret, inBlockX_ret]
  rcases own_parts hown with ⟨_, h0, _⟩ | ⟨g, cap, rfl, hg, hle, hcap, hcl⟩
  · omega
  · refine ret_pub g _ hg fun o ho hle' => ret_go [.agg #[.int .i64 5, .int .i64 5, .slice (some ⟨g, 0, none⟩) 25 cap]] (by simp [resAll, resV, cellsV, shapeT_24]) ?_
    have hR := hrow.pub rawE_ok ho hle' hlo hle (by unfold maxLen at hcap; omega)
    exact ⟨5, 5, _, Lo, rfl, hR, hfo.small hR (by omega) fun _ _ => by omega⟩
end Go.Proofs.YthoboehbadmlmaaGreat
end
section
namespace Go.Proofs.YthoboehbadmlmaaGreat
open Go Go.RowKit
set_option linter.unusedSimpArgs false
set_option linter.unusedVariables false
attribute [local irreducible] XWP Spec SpecO XPub XCall seqX clX apX stX ldX iaX slX
end Go.Proofs.YthoboehbadmlmaaGreat
end
section
namespace Go.Proofs.YthoboehbadmlmaaGreat
open Go Go.RowKit
set_option linter.unusedSimpArgs false
set_option linter.unusedVariables false
attribute [local irreducible] XWP Spec SpecO XPub XCall seqX clX apX stX ldX iaX slX
theorem chrL_own (M : Grid) (n : Nat) : PolQ (chrL M n) ∧ cf (chrL M n) n = 1 ∧ evr (chrL M n) 0 (n + 1) = sg1 n * detL n M ∧ ∀ i k, i < n → k < n → horG M (chrL M n) n (n + 1) i k = 0 := by
  obtain ⟨c, h1, h2, h3, h4, h5⟩ := chr_ex M n
  have e := chrL_eq h1
  have e1 : cf (chrL M n) n = 1 := by rw [e, cf_mk, if_pos (by omega), h3]
  have hl := chrL_len M n
  refine ⟨fun _ => ?_, e1, ?_, fun i k hi hk => by rw [e]; exact h4 i k hi hk⟩
  · rw [hl, Nat.add_sub_cancel, e1]; decide
  · have := evr_pv (l := chrL M n) (d := n) (by omega) 0
    rw [hl] at this
    rw [this]
    unfold pv
    rw [Sm_front, Sm_zero _ fun j _ => by rw [rpow_succ]; grind, rpow_zero, e, cf_mk, if_pos (by omega), h5]
    grind
theorem chrL_right (M : Grid) {n : Nat} (hn : n ≤ 5) : rightP ((chrL M n).map toRaw) = true := by
  unfold rightP
  rw [Bool.and_eq_true, Bool.and_eq_true, decide_eq_true_eq, List.length_map, chrL_len]
  refine ⟨⟨by omega, okR_toRaw _⟩, (polB_iff _).2 ?_⟩
  rw [qs_toRaw]; exact (chrL_own M n).1
theorem det_fit2 {n : Nat} (hn : n ≤ 5) : (n + 1) * ge 97 (n + 1) ≤ 17592186044416 ∧ n * ge 97 (n + 1) + 1 ≤ 2200000 := by
  have : n = 0 ∨ n = 1 ∨ n = 2 ∨ n = 3 ∨ n = 4 ∨ n = 5 := by omega
  rcases this with rfl | rfl | rfl | rfl | rfl | rfl <;> exact ⟨by decide, by decide⟩
theorem ofE_ne {r c : Int} {L : List Raw} (h : ofE r c L ≠ 0) (hm : matR r c L = true) : r ≠ c := fun e => h (by unfold ofE; rw [if_pos hm, if_pos e])
theorem ofE_zero {r c : Int} {L : List Raw} (h : ofE r c L = 0) : matR r c L = true ∧ r = c := by
  unfold ofE at h
  split at h
  · rename_i h1
    split at h
    · rename_i h2; exact ⟨h1, h2⟩
    · cases h
  · cases h
theorem RatV.one2 {V : View} {v : Value} {q : Rat} (h : RatV V v q) : ∃ m n d, v = .agg #[.bool m, n, d] ∧ isOne n = true ∧ isOne d = true := by
  obtain ⟨m, a, b, ⟨n, d, e, h1, h2⟩, _⟩ := h
  exact ⟨m, n, d, e, h1.one, h2.one⟩
set_option maxHeartbeats 4000000 in
theorem own_c (V : View) (s : Value) (r c : Int) (L : List Raw) (hv : Raws V s L) : Spec Tryz.prog 4 [.agg #[.int .i64 r, .int .i64 c, s]] V fun v' V' => v' = .bool true := by
  have os := SlAt.one hv
  refine (Spec.enter Tryz.func4 rfl fun Γ => ?_)
  simp only [Tryz.ntmps4, List.map_cons, List.map_nil, List.length_cons, List.length_nil, Nat.reduceAdd, Nat.reduceSub, List.replicate_succ, List.replicate_zero, List.cons_append, List.nil_append]
  refine Gx.a (by kernel_rfl) fun K hK => ?_
  simp only [XA]
  refine hK _ ?_
  refine Gx.a (by kernel_rfl) fun K hK => ?_
  simp only [XM, XA, Nat.reduceAdd, Nat.reduceLeDiff, ↓reduceIte]
  refine call_go (by kernel_rfl) rfl (lsquare_c _ _ r c L hv) fun v1 V1 hV1 h1 => ?_
  obtain ⟨r1, c1, w1, L1, rfl, h1, sm⟩ := h1
  have ow1 := SlAt.one h1
  simp only [XA]
  refine st_mat shapeT_24 rfl rfl rfl rfl ow1 ?_
  simp only [XA]
  refine hK _ ?_
  refine Gx.a (by kernel_rfl) fun K hK => ?_
  simp only [XM, XA, Nat.reduceAdd, Nat.reduceLeDiff, ↓reduceIte]
  refine call_go (by kernel_rfl) rfl (cOf2_c _ _ r1 c1 L1 h1 sm) fun v3 V3 hV3 h3 => ?_
  obtain ⟨w3, rfl, h3⟩ := h3
  have h1 := SlAt.mono rawE_ok h1 hV3
  simp only [XA]
  refine hK _ ?_
  refine XWP.seq ?_
  by_cases he : ofE r1 c1 L1 = 0
  rotate_left
  · have b1 : decide (ofE r1 c1 L1 = 0) = false := decide_eq_false he
    refine Gx.a (by kernel_rfl) fun K hK => ?_
    simp only [XA, XB, b1]
    refine hK _ ?_
    refine Gx.t rfl ?_
    refine Gx.a (by kernel_rfl) fun K hK => ?_
    simp only [XM, XA, Nat.reduceAdd, Nat.reduceLeDiff, ↓reduceIte]
    refine call_go (by kernel_rfl) rfl (dmright_c _ _ _ _ L1 h1 sm.fit (by have := sm.len; omega)) fun v4 V4 hV4 h4 => ?_
    subst h4
    cases hm : matR r1 c1 L1
    · simp only [XA, gateX, ↓reduceIte, beq_self_eq_true]
      refine call_go (by kernel_rfl) rfl (alive_c _) fun v5 V5 hV5 h5 => ?_
      subst h5
      simp only [XA, ↓reduceIte]
      refine hK _ (XWP.ret ?_)
      try simp only [thenX_ret, inBlockX_ret]
      refine ret_go _ rfl ?_
      rfl
    · have b2 : decide (r1 = c1) = false := decide_eq_false (ofE_ne he hm)
      simp only [XM, XA, XB, gateX, ↓reduceIte, beq_self_eq_true, b2]
      refine call_go (by kernel_rfl) rfl (alive_c _) fun v5 V5 hV5 h5 => ?_
      subst h5
      simp only [XA, ↓reduceIte]
      refine hK _ (XWP.ret ?_)
      try simp only [thenX_ret, inBlockX_ret]
      refine ret_go _ rfl ?_
      rfl
  obtain ⟨hm, hrc⟩ := ofE_zero he
  obtain ⟨n, rfl, rfl, hn5, hs⟩ := sm.sq h1 hm hrc
  obtain ⟨e1, e2⟩ := ofE_good hm
  rw [e1]
  rw [e2] at h3
  clear e1 e2 he hrc
  generalize gridL (qs L1) n = M at *
  obtain ⟨A3, c3, ew3, hc3, hm3⟩ := h3.form
  subst ew3
  rw [chrL_len] at h3 ⊢
  refine Gx.a (by kernel_rfl) fun K hK => ?_
  simp only [XA, XB, decide_true]
  refine hK _ ?_
  refine Gx.f rfl ?_
  refine XWP.skip ?_
  obtain ⟨o1, o2, o3, o4⟩ := chrL_own M n
  have qc := chrL_QB hn5 hs.hq
  have qcf : ∀ x ∈ chrL M n, QF x := fun x hx => by
    obtain ⟨i, hi, rfl⟩ := List.mem_iff_getElem.1 hx
    rw [cf_get hi]; exact (qc i).qf (by omega)
  have hpr := Rats.raws h3
  have fpr := fitR_toRaw qcf
  have hrp := chrL_right M hn5
  have hln : ((chrL M n).map toRaw).length = n + 1 := by rw [List.length_map, chrL_len]
  refine Gx.a (by kernel_rfl) fun K hK => ?_
  simp only [XM, XA, Nat.reduceAdd, Nat.reduceLeDiff, ↓reduceIte]
  refine call_go (by kernel_rfl) rfl (cAt_c _ _ _ n 2500000000 _ M hpr fpr hrp (by omega) (by rw [qs_toRaw]; exact qc) (by omega) hs hn5) fun v4 V4 hV4 h4 => ?_
  obtain ⟨w4, rfl, h4⟩ := h4
  rw [qs_toRaw, hln, flatG_congr (G' := fun _ _ => 0) (fun i k hi hk => o4 i k hi hk)] at h4
  have ow4 := SlAt.one h4
  have hs := hs.up hV4
  simp only [XM, XA]
  refine st_mat shapeT_24 rfl rfl rfl rfl ow4 ?_
  simp only [XA]
  refine hK _ ?_
  refine Gx.a (by kernel_rfl) fun K hK => ?_
  simp only [XM, XA, XB]
  refine call_own (by kernel_rfl) rfl (dZero_o _ n n hs.hn hs.hn) fun v5 V5 o5 hV5 hs5 h5 => ?_
  obtain ⟨sl, cells, rfl, hown, hrow⟩ := h5
  have osl := own_isOne hown
  simp only [XM, XA, Nat.reduceAdd]
  refine st_mat shapeT_34 rfl rfl rfl rfl osl ?_
  simp only [XA]
  refine hK _ ?_
  refine XWP.pubR ratE_ok hown hrow fun H6 V6 hV6 hR6 _ => ?_
  have hs := hs.up (View.le_trans hV5 hV6)
  refine Gx.a (by kernel_rfl) fun K hK => ?_
  simp only [XM, XA, Nat.reduceAdd, Nat.reduceLeDiff, ↓reduceIte]
  refine call_go (by kernel_rfl) rfl (dDet_c _ _ n 97 M hs (det_fit2 hn5).1) fun v7 V7 hV7 h7 => ?_
  obtain ⟨w7, rfl, h7, q7⟩ := h7
  obtain ⟨x7, y7, rfl, p1, p2⟩ := h7.form
  simp only [XA, XB, Nat.reduceAdd]
  refine st_rat rfl rfl rfl p1 p2 ?_
  simp only [XA]
  refine hK _ ?_
  have dq : QB 2200000 (detL n M) := q7.mono (det_fit2 hn5).2
  refine XWP.cut (fun s => ∃ (V8 : View) (x y : Value), StIs (fun Z => [Z 0, .p 0 0, Z 2, .v (.slice A3 (n + 1) c3), Z 4, .p 1 0, .v (.int .i64 0), .p 2 0, Z 8, .p 3 0, Z 10,Z 11,Z 12,Z 13,Z 14,Z 15,Z 16,Z 17,Z 18,Z 19,Z 20,Z 21,Z 22,Z 23,Z 24,Z 25,Z 26,Z 27,Z 28,Z 29,Z 30,Z 31,Z 32,Z 33,Z 34,Z 35,Z 36,Z 37,Z 38,Z 39,Z 40,Z 41,Z 42,Z 43,Z 44,Z 45,Z 46,Z 47,Z 48,Z 49,Z 50,Z 51,Z 52,Z 53,Z 54,Z 55,Z 56,Z 57,Z 58,Z 59,Z 60,Z 61,Z 62,Z 63,Z 64,Z 65,Z 66,Z 67,Z 68,Z 69,Z 70,Z 71,Z 72,Z 73,Z 74,Z 75,Z 76,Z 77,Z 78,Z 79,Z 80,Z 81,Z 82,Z 83,Z 84,Z 85,Z 86,Z 87,Z 88,Z 89,Z 90,Z 91,Z 92,Z 93,Z 94,Z 95,Z 96,Z 97]) [[.int .i64 (n : Int), .int .i64 (n : Int), w1], [.int .i64 (n : Int), .int .i64 (n : Int), w4], [.int .i64 (n : Int), .int .i64 (n : Int), sl], [.bool (ng (sg1 n * detL n M)), x, y]] H6 V8 s ∧ V7.le V8 ∧ RatC V8 (.agg #[.bool (ng (sg1 n * detL n M)), x, y]) (sg1 n * detL n M) ∧ isOne x = true ∧ isOne y = true) ?_ ?_
  · have ht : (n : Int).tmod 2 = ((n % 2 : Nat) : Int) := rfl
    by_cases hp : n % 2 = 0
    · have b2 : decide ((n : Int).tmod 2 = 1) = false := decide_eq_false (by rw [ht, hp]; decide)
      have es : sg1 n * detL n M = detL n M := by unfold sg1; rw [if_pos hp]; grind
      refine Gx.a (by kernel_rfl) fun K hK => ?_
      simp only [XM, XA, XB, bin_rem _ _ (n : Int) 2 (by decide), b2]
      refine hK _ ?_
      refine Gx.f rfl ?_
      refine XWP.skip ?_
      rw [es]
      exact ⟨V7, x7, y7, StIs.of (by exact rfl), View.le_refl _, h7, p1, p2⟩
    · have hp1 : n % 2 = 1 := by omega
      have b2 : decide ((n : Int).tmod 2 = 1) = true := decide_eq_true (by rw [ht, hp1]; rfl)
      have es : sg1 n * detL n M = -detL n M := by unfold sg1; rw [if_neg hp]; grind
      refine Gx.a (by kernel_rfl) fun K hK => ?_
      simp only [XM, XA, XB, bin_rem _ _ (n : Int) 2 (by decide), b2]
      refine hK _ ?_
      refine Gx.t rfl ?_
      refine Gx.c (by kernel_rfl) fun K hK => ?_
      simp only [XA, XB, Nat.reduceAdd, Nat.reduceLeDiff, ↓reduceIte]
      refine call_go (by kernel_rfl) rfl (pneg_c _ _ _ (h7.toV (dq.qf (by omega)))) fun v8 V8 hV8 h8 => ?_
      rw [← es] at h8
      obtain ⟨x8, y8, rfl, p3, p4⟩ := h8.form
      simp only [XA]
      refine st_rat rfl rfl rfl p3 p4 ?_
      simp only [XA]
      exact hK _ ⟨V8, x8, y8, StIs.of (by exact rfl), hV8, h8, p3, p4⟩
  clear h7 p1 p2
  rintro s ⟨V8, x8, y8, hs8, hV8, h8, p3, p4⟩
  obtain ⟨z, rfl⟩ := hs8.out
  try dsimp only
  clear hs8
  have sq : QB 2200000 (sg1 n * detL n M) := by
    unfold sg1
    split
    · exact ((QB_one 0).mul dq).mono (by omega)
    · exact (((QB_one 0).neg).mul dq).mono (by omega)
  have hle8 := View.le_trans hV4 (View.le_trans hV5 (View.le_trans hV6 (View.le_trans hV7 hV8)))
  have hpr8 : Raws V8 (.slice A3 (n + 1) c3) ((chrL M n).map toRaw) := SlAt.mono rawE_ok hpr hle8
  have hCB : CB 15000000000 (qs ((chrL M n).map toRaw)) := by
    rw [qs_toRaw]
    refine (CB_of (B := 2500000000) _ fun x hx => ?_).mono ?_
    · obtain ⟨i, hi, rfl⟩ := List.mem_iff_getElem.1 hx
      rw [cf_get hi]; exact qc i
    · rw [chrL_len]; omega
  refine Gx.a (by kernel_rfl) fun K hK => ?_
  simp only [XA]
  refine call_go (by kernel_rfl) rfl (pzero_c _) fun v9 V9 hV9 h9 => ?_
  obtain ⟨x9, y9, ez9, p5, p6⟩ := h9.form
  have hX := h9.rawAt
  have fX := fitR_toRaw (l := [0]) (fun x hx => by rw [List.mem_singleton.1 hx]; exact QF_zero) (toRaw 0) (by simp)
  simp only [XA]
  refine call_go (by kernel_rfl) rfl (cEval_c _ _ _ _ (toRaw 0) 15000000000 0 (SlAt.mono rawE_ok hpr8 hV9) hX fpr fX (by omega) (fun _ => hCB) (fun _ => by rw [toRaw_q]; exact QB_zero 0) (by rw [hln]; omega)) fun v10 V10 hV10 h10 => ?_
  obtain ⟨w10, rfl, h10⟩ := h10
  have eE : evE ((chrL M n).map toRaw) (toRaw 0) = 0 := if_pos ⟨hrp, toRaw_ok 0⟩
  have eQ : evQ ((chrL M n).map toRaw) (toRaw 0) = sg1 n * detL n M := by
    unfold evQ
    rw [if_pos ⟨hrp, toRaw_ok 0⟩, qs_toRaw, toRaw_q, hln, o3]
  rw [eE]
  rw [eQ] at h10
  obtain ⟨m10, x10, y10, rfl, p7, p8⟩ := h10.one2
  simp only [XA, XB, Nat.reduceAdd]
  refine st_rat rfl rfl rfl p7 p8 ?_
  simp only [XA]
  refine hK _ ?_
  have hle10 := View.le_trans hV9 hV10
  have el : flatG (fun _ _ => 0) n n = mk (n * n) fun _ => 0 := rfl
  rw [el] at h4
  have qz : ∀ x ∈ mk (n * n) (fun _ => (0 : Rat)), QF x := fun x hx => by
    obtain ⟨i, _, rfl⟩ := List.mem_map.1 hx
    exact QF_zero
  have h4' := h4.up (View.le_trans hV5 (View.le_trans hV6 (View.le_trans hV7 (View.le_trans hV8 hle10))))
  have h6' := Rats.up hR6 (View.le_trans hV7 (View.le_trans hV8 hle10))
  have h3' : Rats V10 (.slice A3 (n + 1) c3) (chrL M n) := h3.up (View.le_trans hle8 hle10)
  have h8' := h8.mono hle10
  have hl3 := chrL_len M n
  obtain ⟨b, o, eA⟩ := SlAt.addr h3' (by omega)
  subst eA
  have qsf := sq.qf (show 2200000 ≤ 17592186044416 by omega)
  (refine XWP.drw [0, 1, 2, 3, 4, 5, 6, 7, 8, 9, 10, 11, 12, 13, 14, 15, 16, 17, 18, 19, 20, 21, 22, 23, 24, 25, 26, 27, 28, 29, 30, 31, 32] (by kernel_rfl) (by kernel_rfl) (by kernel_rfl) fun K hK => ?_) <;> dsimp only [pickOps, List.getElem?_cons_zero, List.getElem?_cons_succ]
  simp only [XM, XA, XB, gateX, Nat.reduceAdd, Nat.reduceLeDiff, ↓reduceIte, beq_self_eq_true, decide_true]
  refine call_go (by kernel_rfl) rfl (dMsame_c _ _ _ _ _ _ _ _ _ h4' h6' qz qz) fun v11 V11 hV11 h11 => ?_
  rw [decide_eq_true rfl, decide_eq_true rfl] at h11
  subst h11
  obtain ⟨m11, n11, d11, hx11, _, hld11⟩ := Rats.get (h3'.up hV11) n (by omega)
  rw [o2] at hx11
  simp only [XM, XA, XB, gateX, ↓reduceIte, i64_succ n (by omega), decide_true]
  refine ⟨by omega, by omega, ld_mem (hld11 _) ?_⟩
  simp only [XA, gateX]
  refine call_go (by kernel_rfl) rfl (pone_c _) fun v12 V12 hV12 h12 => ?_
  simp only [XA, gateX]
  refine call_go (by kernel_rfl) rfl (psame_c _ _ _ _ _ ((hx11.mono hV12).toV QF_one) (h12.toV QF_one) QF_one QF_one) fun v13 V13 hV13 h13 => ?_
  rw [decide_eq_true rfl] at h13
  subst h13
  simp only [XA, XB, gateX, Nat.reduceAdd, Nat.reduceLeDiff, ↓reduceIte]
  refine call_go (by kernel_rfl) rfl (psame_c _ _ _ _ _ (h10.mono (View.le_trans hV11 (View.le_trans hV12 hV13))) ((h8'.mono (View.le_trans hV11 (View.le_trans hV12 hV13))).toV qsf) qsf qsf) fun v14 V14 hV14 h14 => ?_
  rw [decide_eq_true rfl] at h14
  subst h14
  simp only [XA, gateX]
  refine call_go (by kernel_rfl) rfl (alive_c _) fun v15 V15 hV15 h15 => ?_
  subst h15
  simp only [XA]
  refine hK _ (XWP.ret ?_)
  try simp only [thenX_ret, inBlockX_ret]
  refine ret_go _ rfl ?_
  rfl
end Go.Proofs.YthoboehbadmlmaaGreat
end
section
namespace Go.Proofs.YthoboehbadmlmaaGreat.recurOwn
open Go.ChangeShapes Go.WideShapes Go.ChangeAt Go.RowKit
set_option linter.unusedVariables false
theorem own : ownKnob Tryz.prog.godebug = none := by kernel_rfl
theorem laidOut : laidOutB Tryz.prog = true := by kernel_rfl
set_option maxRecDepth 100000 in
theorem lifted (os : Os) (started : os.Started) (H : Type) (enc : TypeId × Value → H) :
    ReturnsInHanded {} Tryz.checked os 4 .any (Rows.recurOwnSpec.pre6 enc Tryz.prog Tryz.f4 Rows.recurOwnRow.domain false) (Rows.recurOwnSpec.post enc Tryz.prog Tryz.f4 false true false false) := by
  refine returnsInHanded_of_change_sized (C := Tryz.checked) own started (by kernel_rfl) Tryz.func4
    (ChangeSpec.witness6 (enc := enc) (C := Tryz.checked) false ⟨#[], #[.agg #[.int .i64 0, .int .i64 0, .slice none 0 0]], []⟩ 8 (by kernel_rfl) (by kernel_rfl) (by kernel_rfl) (by kernel_rfl)) ?_
  intro W base args ds gs before hval0 hW hcnd hsz0 _
  have hval : ∀ (j : Nat) t v, Tryz.f4.params[j]? = some t → args[j]? = some v → Value.okWide Tryz.prog W .any base t v := hval0
  have hW' := hW
  obtain ⟨p, q, hA0, hV, rfl, hfz, hnd⟩ := hW
  have hA : DataW.TrodAll enc Tryz.prog W 0 (fun _ => true) true Tryz.f4.params.toList args.toList ds p := hA0
  rw [Tryz.params4] at hA hval
  obtain ⟨v0, vs0, d0, ds0, p0, q0, hargs, rfl, rfl, h0, r0⟩ := trodAll_cons hA
  obtain ⟨rfl, rfl, rfl⟩ := trodAll_nil r0
  obtain rfl : args = #[v0] := by cases args; simp_all
  obtain ⟨rfl, rfl⟩ := trodVars_none hV
  obtain ⟨c0, rfl, _⟩ := okWide_struct und_mat (hval 0 24 v0 rfl rfl)
  have k0 := h0
  have lt0 : ∀ x ∈ p0, x.block < W.heap.size := by obtain ⟨m, hm⟩ := k0; exact DataW.trod_lt m _ _ _ hm
  obtain ⟨fuel0, hf0⟩ := h0
  obtain ⟨r0r, r0c, s0, L0, j0, hL0⟩ := open_mat hf0
  obtain rfl : c0 = #[.int .i64 r0r, .int .i64 r0c, s0] := by cases c0; simpa [Value.cells] using j0
  clear hA0 hval0 hsz0
  refine (own_c (viewW W) _ r0r r0c L0 hL0 W (viewW_sub W)).mono fun e W' ⟨v, V', he, _, _, _, bel, hv⟩ => ?_
  subst hv
  subst he
  exact ⟨_, rfl, _, _, _, [], _, [], hW', trodAll_mk1 (shut_bool Tryz.underlying4 _), (trodAll_cons_mk (Below.trod laidOut (by kernel_rfl) (of_decide_eq_true (by kernel_rfl)) k0 bel lt0) trodAll_mk0), rfl, bel.frame _, fun h => by cases h⟩
theorem over : Rows.recurOwnRow.holds Tryz.pinned (OpenSpec.ofChange Rows.recurOwnSpec) :=
  OpenClaim.holds_of_wide 4 Tryz.f4 rfl rfl rfl rfl rfl rfl rfl ⟨rfl, rfl, rfl, rfl, rfl⟩ rfl rfl rfl rfl rfl (by kernel_rfl) Tryz.func4 (by kernel_rfl)
    (of_decide_eq_true (by kernel_rfl)) (by unfold Func.isWrapper; first | (rw [if_pos (by decide +kernel)]; kernel_rfl) | (rw [if_neg (by decide +kernel)]; exact ⟨rfl, rfl⟩))
    (fun os started H enc _ => lifted os started H enc)
theorem proved : Rows.RecurOwnSaid := over
#print axioms proved
end Go.Proofs.YthoboehbadmlmaaGreat.recurOwn
namespace Go.Proofs.YthoboehbadmlmaaGreat
/-- The row, under a short name, for the claim. -/
theorem recurOwn_holds : Rows.RecurOwnSaid := recurOwn.proved
end Go.Proofs.YthoboehbadmlmaaGreat
end
