/- the exits of a chain step by step satisfy a recurrence no longer than its states, whose generating function at 1 is the chance of the exit (part 13 of 13) -/
import Derived.OrdersHeld
import Derived.Below
import Derived.Tactics
import Derived.KernelRfl
import Derived.RangeFuncCalls
import Derived.RangeFuncFrom
import Derived.RangeFuncLeaves
import Derived.OrdersIn
import Derived.Laws.AppendOwn
import Derived.Laws.MakeOwn
import Derived.Laws.CopyRow
import Derived.Laws.Cells
import Derived.Laws.World
import Derived.Laws.Alloc2
import Derived.Laws.NewBlocks
import Derived.Maps.AppendAt
import Derived.Test.YthoboehbadmlmaaGreatProg
import Init.Data.List.Lemmas
import Init.Omega
import Derived.WalkKit
import Derived.ProofKit
import Derived.OpenShut
import Derived.ChangeOld
import Derived.SizedLaws
import Derived.ChangeSlices
import Derived.ChangeArms
import Derived.Deep.Slices
import Derived.Test.YthoboehbadmlmaaGreatRows
import Derived.ShutString
import Derived.Test.YthoboehbadmlmaaGreatCH12
set_option linter.unusedVariables false
set_option linter.unusedSimpArgs false
section
namespace Go.Proofs.YthoboehbadmlmaaGreat
open Go Go.RowKit
section
variable {P : Program} {ops : Array Oper} {M : Nat → Bool} {Hb : Heap} {Vb : View}
def MOp (P : Program) (ops : Array Oper) (Hb : Heap) (Vb : View) (o : Oper) (i : Nat) (K : XS → Prop) (s : XS) : Prop :=
 isRead o.op = false ∧ ∀ (Γ : Cx) (bl : Nat → Nat) (a : Act) (w : World) (Q : Exit → Act → World → Prop), Γ.V0.sub Γ.w0 → Conc Γ bl s a w → wpOp P ops Q i (fun a' w' => ∃ s', Conc Γ bl s' a' w' ∧ (∀ x, CW Γ bl s'.bx s'.H s'.V x → CW Γ bl [] Hb Vb x) ∧ K s') a w
def BLoad (P : Program) (Hb : Heap) (Vb : View) (o : Oper) (K : XS → Prop) (s : XS) : Prop :=
 ∃ d ty x ty' pos af b off v, o = ⟨d, .load ty x, ty', pos, af, none⟩ ∧ s.ev x = .v (.pointer (some ⟨b, off, none⟩)) ∧ Loads P Hb Vb ty b off v ∧ K (s.put d (.v v))
def stepM (P : Program) (ops : Array Oper) (M : Nat → Bool) (Hb : Heap) (Vb : View) (o : Oper) (i : Nat) (K : XS → Prop) (s : XS) : Prop :=
 if M i = true then MOp P ops Hb Vb o i K s ∨ BLoad P Hb Vb o K s
 else (isRead o.op = true → isPure o.op = false → s.bx = [] ∧ s.H = Hb ∧ s.V = Vb) ∧ stepX P ops o K s
def seqM (P : Program) (ops : Array Oper) (M : Nat → Bool) (Hb : Heap) (Vb : View) : List Nat → (XS → Prop) → (XS → Prop) → XS → Prop
 | [], KM, _, s => KM s
 | i :: l, KM, KX, s => match ops.toList[i]? with
  | none => False
  | some o => if closes ops i = true then stepX P ops o (seqX P ops (pickOps ops.toList l) KX) s else stepM P ops M Hb Vb o i (seqM P ops M Hb Vb l KM KX) s
def treeM (P : Program) (ops : Array Oper) (M : Nat → Bool) (Hb : Heap) (Vb : View) : Ord → (XS → Prop) → XS → Prop
 | .nil, K, s => K s
 | .lin l t, K, s => seqM P ops M Hb Vb l (treeM P ops M Hb Vb t K) (treeX P ops t K) s
 | .two a b, K, s => treeM P ops M Hb Vb a K s ∧ treeM P ops M Hb Vb b K s
theorem treeM_cons {i : Nat} {o : Oper} (hi : ops.toList[i]? = some o) (t : Ord) (K : XS → Prop) (s : XS) :
  treeM P ops M Hb Vb (Ord.cons i t) K s = if closes ops i = true then stepX P ops o (treeX P ops t K) s else stepM P ops M Hb Vb o i (treeM P ops M Hb Vb t K) s := by
 cases t with
 | nil => simp only [Ord.cons, treeM, seqM, hi, pickOps]; rfl
 | lin l t =>
  simp only [Ord.cons, treeM, seqM, hi]
  have : treeX P ops (.lin l t) K = seqX P ops (pickOps ops.toList l) (treeX P ops t K) := by funext s; rw [treeX]
  rw [this]
 | two a b => simp only [Ord.cons, treeM, seqM, hi, pickOps]; rfl
theorem treeM_any {K : XS → Prop} {s : XS} : ∀ (l : List Ord), treeM P ops M Hb Vb (Ord.any l) K s → ∀ t ∈ l, treeM P ops M Hb Vb t K s
 | [], _, t, ht => by cases ht
 | [a], h, t, ht => by
  have : t = a := by simpa using ht
  subst this; exact h
 | a :: b :: r, h, t, ht => by
  simp only [Ord.any, treeM] at h
  rcases List.mem_cons.1 ht with rfl | ht
  ·exact h.1
  ·exact treeM_any (b :: r) h.2 t ht
theorem CW.nobl {Γ : Cx} {bl bl' : Nat → Nat} {H : Heap} {V : View} {w : World} (h : CW Γ bl [] H V w) : CW Γ bl' [] H V w := ⟨fun i vs hi => by simp at hi, h.row, h.view, h.below⟩
theorem bload_run {Γ : Cx} {bl : Nat → Nat} {s : XS} {a : Act} {w : World} {d : Option Tmp} {ty : TypeId} {x : Operand} {ty' pos af} {b off : Nat} {v : Value} (ht : a.tmps = (s.t.map (SV.conc bl)).toArray) (hx : s.ev x = .v (.pointer (some ⟨b, off, none⟩))) (hl : Loads P Hb Vb ty b off v) (hw : CW Γ bl [] Hb Vb w) : (execOp a.eval ⟨d, .load ty x, ty', pos, af, none⟩).run P w = .ok (.value v) w := by
 obtain ⟨ag, n, es, h⟩ := hl
 have hw' : CW Γ bl (⟨[], [], Hb, Vb⟩ : XS).bx (⟨[], [], Hb, Vb⟩ : XS).H (⟨[], [], Hb, Vb⟩ : XS).V w := hw
 simp only [execOp, ev_conc ht, hx, SV.conc, Instr.loadAt, Instr.sureAddr]
 rcases h with ⟨rfl, cs, hl, hc, rfl⟩ | ⟨rfl, hc⟩
 ·have hr := run_loadVar_list es w ⟨b, off, none⟩ cs hl (fun j u hu => by rw [addr_add]; exact cell_of hw' (hc j u hu))
  simp [hr]
 ·have hr := run_loadVar_cell es w ⟨b, off, none⟩ v (cell_of hw' hc)
  simp [hr]
theorem treeM_draw {Γ : Cx} {Q : Exit → XS → Prop} (hV0 : Γ.V0.sub Γ.w0) (hsel : Region.noSelect ops = true) : ∀ (n : Nat) (listed : Array Bool) (t : Ord), autoTree ops n listed = some t →
  ∀ bl s a w, Conc Γ bl s a w → guardsIn ops s.t.length = true → (∀ x, CW Γ bl s.bx s.H s.V x → CW Γ bl [] Hb Vb x) → treeM P ops M Hb Vb t (fun s' => Q .normal s') s → wpG P ops (XQ Γ (onlyN Q)) n (fun x => CW Γ bl [] Hb Vb x) listed a w := by
 have hQ : ∀ (c : List PanicEntry) (a : Act) (w : World), ¬ (XQ Γ (onlyN Q)) (.panic c) a w := fun c a w ⟨_, _, _, h⟩ => h
 intro n
 induction n with
 | zero =>
  intro listed t ho bl s a w hc hg hS h
  unfold autoTree at ho
  split at ho
  ·rename_i hr
   cases ho
   exact ⟨hr, bl, s, hc, h⟩
  ·cases ho
 | succ n ih =>
  intro listed t ho bl s a w hc hg hS h
  have ho0 := ho
  unfold autoTree at ho
  have one : ∀ i r, i ∈ Region.ready .any ops listed → autoTree ops n (listed.setIfInBounds i true) = some r → treeM P ops M Hb Vb (Ord.cons i r) (fun s' => Q .normal s') s →
    wpOp P ops (XQ Γ (onlyN Q)) i (fun a' w' => if closes ops i = true then wpG P ops (XQ Γ (onlyN Q)) n (fun _ => True) (listed.setIfInBounds i true) a' w' else CW Γ bl [] Hb Vb w' ∧ wpG P ops (XQ Γ (onlyN Q)) n (fun x => CW Γ bl [] Hb Vb x) (listed.setIfInBounds i true) a' w') a w := by
   intro i r hmem ha h
   obtain ⟨_, oi, hoi, _⟩ := mem_ready.1 hmem
   have hoi' : ops.toList[i]? = some oi := by rw [Array.getElem?_toList]; exact hoi
   rw [treeM_cons hoi'] at h
   by_cases hcl : closes ops i = true
   ·rw [if_pos hcl] at h
    simp only [if_pos hcl]
    refine wpOp_mono ?_ (wpOp_size hc.len (stepX_wp hoi (guardsIn_spec hg hoi) hc h _))
    rintro a' w' ⟨hsz, bl', s', hc', _, hk'⟩
    have hg' : guardsIn ops s'.t.length = true := by rw [← hc'.len, hsz]; exact hg
    exact wpG_mono (fun _ _ => trivial) n _ a' w' (treeX_draw hsel n _ _ ha bl' s' a' w' hc' hg' hk')
   rw [if_neg hcl] at h
   simp only [if_neg hcl]
   have ec : isStore oi.op = false := by
    simp only [closes, hoi, Option.map_some, Option.getD_some, Bool.or_eq_true, not_or, Bool.not_eq_true] at hcl; exact hcl.1
   unfold stepM at h
   by_cases hM : M i = true
   ·rw [if_pos hM] at h
    rcases h with ⟨_, h⟩ | ⟨d, ty, x, ty', pos, af, b, off, v, rfl, hx, hl, hK⟩
    ·refine wpOp_mono ?_ (wpOp_size hc.len (h Γ bl a w _ hV0 hc))
     rintro a' w' ⟨hsz, s', hc', hS', hk'⟩
     exact ⟨hS' w' hc'.cw, ih _ _ ha bl s' a' w' hc' (by rw [← hc'.len, hsz]; exact hg) hS' hk'⟩
    ·unfold wpOp
     simp only [hoi]
     rw [if_pos (by unfold Region.wanted; rfl)]
     refine .inl ?_
     unfold Oper.wp
     rw [bload_run hc.tm hx hl (hS w hc.cw)]
     refine ⟨hS w hc.cw, ih _ _ ha bl _ _ w (hc.put d (.v v) trivial) (by rw [put_len]; exact hg) ?_ hK⟩
     rw [XS.put_bx, XS.put_H, XS.put_V]; exact hS
   ·rw [if_neg hM] at h
    refine wpOp_mono ?_ (wpOp_size hc.len (stepX_wp hoi (guardsIn_spec hg hoi) hc h.2 _))
    rintro a' w' ⟨hsz, bl', s', hc', hS0, hk'⟩
    have hg' : guardsIn ops s'.t.length = true := by rw [← hc'.len, hsz]; exact hg
    refine ⟨hS w' (hS0 ec w' hc'.cw), ?_⟩
    have := ih _ _ ha bl' s' a' w' hc' hg' (fun x hx => (hS x (hS0 ec x hx)).nobl) hk'
    exact wpG_mono (fun x hx => CW.nobl hx) n _ a' w' this
  cases hr : Region.ready .any ops listed with
  | nil =>
   rw [hr] at ho; cases ho
   exact ⟨fun _ => ⟨bl, s, hc, h⟩, fun i hi => by rw [hr] at hi; cases hi⟩
  | cons i0 rs =>
   rw [hr] at ho
   dsimp only at ho
   cases hf : (i0 :: rs).find? (freeG ops listed) with
   | some i =>
    rw [hf] at ho
    dsimp only at ho
    cases ha : autoTree ops n (listed.setIfInBounds i true) with
    | none => rw [ha] at ho; cases ho
    | some rest =>
     rw [ha] at ho; cases ho
     have hmem : i ∈ Region.ready .any ops listed := by rw [hr]; exact List.mem_of_find?_eq_some hf
     have hfree : freeG ops listed i = true := List.find?_some hf
     obtain ⟨_, oi, hoi, _⟩ := mem_ready.1 hmem
     obtain ⟨hrd, W, hW, hap⟩ := freeG_spec hoi hfree
     have hoi' : ops.toList[i]? = some oi := by rw [Array.getElem?_toList]; exact hoi
     rw [treeM_cons hoi'] at h
     by_cases hcl : closes ops i = true
     ·rw [if_pos hcl] at h
      rw [← treeX_cons hoi'] at h
      exact wpG_mono (fun x hx => hS x hx) (n + 1) _ a w (treeX_draw hsel (n + 1) listed _ ho0 bl s a w hc hg h)
     rw [if_neg hcl] at h
     unfold stepM at h
     by_cases hM : M i = true
     ·rw [if_pos hM] at h
      rcases h with ⟨h1, _⟩ | ⟨d, ty, x, ty', pos, af, b, off, v, rfl, hx, hl, hK⟩
      ·rw [hrd] at h1; cases h1
      have hgw := gate_wanted (ops := ops) hc.tm _ (guardsIn_spec hg hoi)
      have := ih _ _ ha bl (s.put d (.v v)) (a.put d v) w (hc.put d (.v v) trivial) (by rw [put_len]; exact hg) (by rw [XS.put_bx, XS.put_H, XS.put_V]; exact hS) hK
      refine wpG_take (v := v) W false hoi hsel (fun c a' w' h => absurd h (hQ c _ w')) n _ listed a w hW (fun j oj h1 h2 h3 => ?_) hmem (.inl ⟨by rw [hgw]; rfl, fun w' hw' => bload_run hc.tm hx hl (hw'.resolve_left (by simp))⟩) (hS w hc.cw) this
      rcases hap j oj h1 h2 h3 with g | ⟨g1, g2, g3⟩
      ·exact .inl g
      ·exact .inr ⟨g1, g2, .inr (g3.resolve_left (by simp [isPure]))⟩
     rw [if_neg hM] at h
     obtain ⟨hbase, h⟩ := h
     have hgw := gate_wanted (ops := ops) hc.tm oi (guardsIn_spec hg hoi)
     have hyk : ∃ sv, sv.ok s.bx.length ∧ YieldsIf P ops (fun x => isPure oi.op = true ∨ CW Γ bl [] Hb Vb x) oi (sv.conc bl) a ∧ treeM P ops M Hb Vb rest (fun s' => Q .normal s') (s.put oi.dst sv) := by
      have body : opX P oi (treeM P ops M Hb Vb rest fun s' => Q .normal s') s → Region.wanted oi (yielded ops a.tmps) = true → ∃ sv : SV, sv.ok s.bx.length ∧ YieldsIf P ops (fun x => isPure oi.op = true ∨ CW Γ bl [] Hb Vb x) oi (sv.conc bl) a ∧ treeM P ops M Hb Vb rest (fun s' => Q .normal s') (s.put oi.dst sv) := fun h hw => by
       unfold opX at h
       rw [if_pos hrd] at h
       cases hp : isPure oi.op with
       | true =>
        obtain ⟨sv, ⟨h1, h2⟩, h3⟩ := readX_pure hp hc.ok h
        exact ⟨sv, h1, .inl ⟨hw, fun w' _ => h2 bl a w' hc.tm⟩, h3⟩
       | false =>
        obtain ⟨g1, g2, g3⟩ := hbase hrd hp
        obtain ⟨sv, ⟨h1, h2⟩, h3⟩ := readX_sound hc.ok h
        refine ⟨sv, h1, .inl ⟨hw, fun w' hw' => h2 Γ bl a w' hc.tm ?_⟩, h3⟩
        rw [g1, g2, g3]
        exact hw'.resolve_left (by simp)
      unfold stepX at h
      cases hgd : oi.guard with
      | none =>
       rw [hgd] at h hgw
       exact body h (by rw [hgw]; rfl)
      | some q =>
       rw [hgd] at h hgw
       dsimp only at h
       split at h
       ·rename_i hw; exact body h (by rw [hgw]; exact hw)
       ·rename_i hw
        exact ⟨.v undef, trivial, .inr ⟨by rw [hgw]; simpa using hw, rfl⟩, h⟩
     obtain ⟨sv, hok, hy, hk⟩ := hyk
     have := ih _ _ ha bl (s.put oi.dst sv) (a.put oi.dst (sv.conc bl)) w (hc.put oi.dst sv hok) (by rw [put_len]; exact hg) (by rw [XS.put_bx, XS.put_H, XS.put_V]; exact hS) hk
     exact wpG_take W (isPure oi.op) hoi hsel (fun c a' w' h => absurd h (hQ c _ w')) n _ listed a w hW hap hmem hy (hS w hc.cw) this
   | none =>
    rw [hf] at ho
    dsimp only at ho
    refine ⟨fun h0 => (by rw [hr] at h0; cases h0), fun i hi => ?_⟩
    cases hm : (i0 :: rs).mapM (fun i => (autoTree ops n (listed.setIfInBounds i true)).map (Ord.cons i)) with
    | none => rw [hm] at ho; cases ho
    | some ts =>
     rw [hm] at ho; cases ho
     obtain ⟨y, h1, h2⟩ := mapM_mem hm i (by rw [← hr]; exact hi)
     cases ha : autoTree ops n (listed.setIfInBounds i true) with
     | none => rw [ha] at h1; cases h1
     | some r =>
      rw [ha] at h1; cases h1
      exact one i r hi ha (treeM_any ts h _ h2)
theorem XWP.drawN {Γ : Cx} {id : Nat} {Q : Exit → XS → Prop} {s : XS} (t : Ord) (M : Nat → Bool) (Hb : Heap) (hΓ : Γ.Plain) (hm : P.follows .mixedOrders = true) (ho : treeOf ops = some t) (hg : guardsIn ops s.t.length = true) (hbx : s.bx = []) (hsub : ∀ b r, Hb b = some r → s.H b = some r)
  (h : treeM P ops M Hb s.V t (fun s' => Q .normal s') s) : XWP Γ P (.region id ops true) Q s := by
 intro bl a w hc
 unfold treeOf at ho
 split at ho
 ·rename_i hsel
  have hd : Conc Γ bl s a { w with drawn := w.drawn + 1 } := hc.drew
  have := treeM_draw (Γ := Γ) (Q := Q) hΓ.2 hsel _ _ _ ho bl s a _ hd hg (fun x hx => by rw [hbx] at hx; exact ⟨hx.box, fun b r hb => hx.row b r (hsub b r hb), hx.view, hx.below⟩) h
  have hnd : noDefer ops = true := by unfold guardsIn at hg; rw [Bool.and_eq_true] at hg; exact hg.1
  exact wpIn_mono (wpIn_region_any hm (wpAny_in onlyN_out hnd _ _ _ _ (wpG_any _ _ _ _ _ this))) (onlyN_all (Q := Q))
 ·cases ho
theorem treeM_lin {l : List Nat} {t : Ord} {K : XS → Prop} {s : XS} (h : seqM P ops M Hb Vb l (treeM P ops M Hb Vb t K) (treeX P ops t K) s) : treeM P ops M Hb Vb (.lin l t) K s := h
theorem treeM_nil {K : XS → Prop} {s : XS} (h : K s) : treeM P ops M Hb Vb .nil K s := h
theorem seqM_nil {KM KX : XS → Prop} {s : XS} (h : KM s) : seqM P ops M Hb Vb [] KM KX s := h
theorem seqM_x {i : Nat} {l : List Nat} {o : Oper} {KM KX : XS → Prop} {s : XS} (ho : ops.toList[i]? = some o) (hc : closes ops i = false) (hM : M i = false) (hr : (isRead o.op && !isPure o.op) = false) (h : seqX P ops [o] (seqM P ops M Hb Vb l KM KX) s) : seqM P ops M Hb Vb (i :: l) KM KX s := by
 unfold seqM
 simp only [ho, hc]
 rw [if_neg (by simp)]
 unfold stepM
 rw [if_neg (by rw [hM]; simp)]
 exact ⟨fun h1 h2 => absurd hr (by rw [h1, h2]; decide), h⟩
theorem seqM_b {i : Nat} {l : List Nat} {KM KX : XS → Prop} {s : XS} {d : Option Tmp} {t : TypeId} {x : Operand} {ty' pos af} {b off : Nat} {v : Value} (ho : ops.toList[i]? = some ⟨d, .load t x, ty', pos, af, none⟩) (hc : closes ops i = false) (hM : M i = true) (hx : s.ev x = .v (.pointer (some ⟨b, off, none⟩))) (hl : Loads P Hb Vb t b off v)
  (h : seqM P ops M Hb Vb l KM KX (s.put d (.v v))) : seqM P ops M Hb Vb (i :: l) KM KX s := by
 unfold seqM
 simp only [ho, hc]
 rw [if_neg (by simp)]
 unfold stepM
 rw [if_pos hM]
 exact .inr ⟨d, t, x, ty', pos, af, b, off, v, rfl, hx, hl, h⟩
theorem seqM_copy {i : Nat} {l : List Nat} {KM KX : XS → Prop} {s : XS} {d : Option Tmp} {t t2 : TypeId} {x y : Operand} {ty pos af} {g off n c c2 m tot sz : Nat} {e : TypeId} {ag : Bool} {cs news : List Value} {A : Option Addr} (ho : ops.toList[i]? = some ⟨d, .call ⟨.builtin .copy, #[x, y], #[t, t2]⟩, ty, pos, af, none⟩) (hc : closes ops i = false) (hM : M i = true)
  (hx : s.ev x = .v (.slice (some ⟨g, off, none⟩) n c)) (hy : s.ev y = .v (.slice A m c2)) (hnm : m = n) (he : elemT P t = some e) (hsh : shapeT P e = some (ag, sz)) (hg : s.H g = some ⟨e, cs, tot⟩) (hfit : off + n * sz ≤ cs.length) (hsrc : Src s.H s.V sz (.slice A m c2) m news)
  (hb : ∀ b r, Hb b = some r → b ≠ g ∧ s.H b = some r) (hv : Vb.le s.V)
  (h : seqM P ops M Hb Vb l KM KX ((⟨s.t, s.bx, upd s.H g (some ⟨e, splice cs off news, tot⟩), s.V⟩ : XS).put d (.v (.int .i64 n)))) : seqM P ops M Hb Vb (i :: l) KM KX s := by
 unfold seqM
 simp only [ho, hc]
 rw [if_neg (by simp)]
 unfold stepM
 rw [if_pos hM]
 refine .inl ⟨rfl, fun Γ bl a w Q hV0 hcc => ?_⟩
 have hoi : ops[i]? = some ⟨d, .call ⟨.builtin .copy, #[x, y], #[t, t2]⟩, ty, pos, af, none⟩ := by rw [← Array.getElem?_toList]; exact ho
 subst hnm
 have e1 : a.eval x = .slice (some ⟨g, off, none⟩) m c := by rw [hcc.ev, hx]; rfl
 have e2 : a.eval y = .slice A m c2 := by rw [hcc.ev, hy]; rfl
 obtain ⟨A', c', eA, hnl, hone, hsrc⟩ := hsrc
 cases eA
 have hones : ∀ u ∈ news, u.oneCell' = true := fun u hu => by rw [isOne_oneCell]; exact hone u hu
 obtain ⟨inf, hsz⟩ := shape_parts hsh
 obtain ⟨ex, hh, hl⟩ := hcc.cw.row g _ hg
 dsimp only at hh hl
 have hst := run_storeCells_at P g off e news 0 (cs ++ ex).toArray w hh (by simp only [List.size_toArray, List.length_append, hnl]; omega) hones
 simp only [Nat.add_zero] at hst
 have hsp : (cs ++ ex).take off ++ news ++ (cs ++ ex).drop (off + news.length) = splice cs off news ++ ex := by
  unfold splice
  rw [List.take_append_of_le_length (by omega), List.drop_append_of_le_length (by omega), ← List.append_assoc]
 rw [hsp] at hst
 have hf : (Builtin.firstCells sz m (.slice A m c2)).run P w = .ok news.toArray w := by
  rcases hsrc with h0 | ⟨b, o, rfl, hcell⟩
  ·subst h0
   have hn0 : news = [] := List.length_eq_zero_iff.1 (by simpa using hnl)
   subst hn0
   cases A with
   | none => simp [Builtin.firstCells]
   | some src => exact run_firstCells_some w sz 0 src 0 c2 [] (by simp) (by simp)
  ·exact run_firstCells_some w sz m _ m c2 news hnl fun j u hu => by rw [addr_add]; exact cell_of hcc.cw (hcell j u hu)
 have hcopy : (Builtin.copy_ #[t, t2] ty #[.slice (some ⟨g, off, none⟩) m c, .slice A m c2]).run P w = .ok (.int .i64 m) (w.setRow g (splice cs off news ++ ex).toArray) := by
  simp [Builtin.copy_, run_und (und_elem he), hsz, Builtin.lenOf, hf, hst]
  try rfl
 obtain ⟨k1, k2⟩ := set_row hcc.cw hcc.cs hg (splice cs off news) ex (by
  rw [← hl]
  unfold splice
  simp only [List.length_append, List.length_take, List.length_drop]
  omega)
 have hC : Conc Γ bl ⟨s.t, s.bx, upd s.H g (some ⟨e, splice cs off news, tot⟩), s.V⟩ a (w.setRow g (splice cs off news ++ ex).toArray) := ⟨hcc.tm, hcc.df.keep (others_setRow _ hh), k1, k2, hcc.ok⟩
 unfold wpOp
 simp only [hoi]
 rw [if_pos (by unfold Region.wanted; rfl)]
 refine .inl ?_
 have hrun : (execOp a.eval ⟨d, .call ⟨.builtin .copy, #[x, y], #[t, t2]⟩, ty, pos, af, none⟩).run P w = .ok (.value (.int .i64 m)) (w.setRow g (splice cs off news ++ ex).toArray) := by
  simp [execOp, resolve, invoke, builtin, e1, e2, hcopy]
 unfold Oper.wp
 rw [hrun]
 refine ⟨_, hC.put d (.v (.int .i64 m)) trivial, fun z hz => ?_, h⟩
 rw [XS.put_bx, XS.put_H, XS.put_V] at hz
 exact ⟨fun i vs hi => by simp at hi, fun b r hbr => by
  obtain ⟨h1, h2⟩ := hb b r hbr
  exact hz.row b r (by show upd s.H g _ b = _; unfold upd; rw [if_neg h1]; exact h2), fun b o hbo => hz.view b o (hv b o hbo), hz.below⟩
end
end Go.Proofs.YthoboehbadmlmaaGreat
end
section
namespace Go.Proofs.YthoboehbadmlmaaGreat
open Go Go.RowKit
attribute [local irreducible] XWP Spec SpecO XPub XCall seqX clX apX stX ldX iaX slX
section
variable {α : Type} {E : El α}
theorem RowAt.takeR {V : View} {cells : List Value} {xs : List α} (h : RowAt E V cells xs) {k : Nat} (hk : k ≤ xs.length) : RowAt E V (cells.take (k * 3)) (xs.take k) := by
 have hl := h.1
 refine ⟨by rw [List.length_take, List.length_take]; omega, fun i x hi => ?_⟩
 rw [List.getElem?_take] at hi
 split at hi
 ·rename_i hik
  obtain ⟨m, n, d, g1, g2, g3, r⟩ := h.2 i x hi
  refine ⟨m, n, d, ?_, ?_, ?_, r⟩
  ·show (cells.take (k * 3))[i * 3]? = _
   rw [List.getElem?_take, if_pos (by omega)]; exact g1
  ·show (cells.take (k * 3))[i * 3 + 1]? = _
   rw [List.getElem?_take, if_pos (by omega)]; exact g2
  ·show (cells.take (k * 3))[i * 3 + 2]? = _
   rw [List.getElem?_take, if_pos (by omega)]; exact g3
 ·cases hi
theorem RowAt.spliceR {V : View} {cells cs : List Value} {xs ys : List α} (h : RowAt E V cells xs) (hy : RowAt E V cs ys) {off : Nat} (hf : off + ys.length ≤ xs.length) : RowAt E V (splice cells (off * 3) cs) (xs.take off ++ ys ++ xs.drop (off + ys.length)) := by
 unfold splice
 have e : off * 3 + cs.length = (off + ys.length) * 3 := by rw [hy.1, Nat.add_mul]
 rw [e]
 exact ((h.takeR (by omega)).append hy).append (h.drop (off + ys.length))
end
theorem flat_row {O X : Grid} {n m s i : Nat} (hs : s < n) : (flatG O n m).take (s * m) ++ mk m (X i) ++ (flatG O n m).drop (s * m + (mk m (X i)).length) = flatG (fun a k => if a = s then X i k else O a k) n m := by
 have hsm := Nat.mul_le_mul_right m (show s + 1 ≤ n by omega)
 rw [Nat.add_mul, Nat.one_mul] at hsm
 have hl := flatG_len O n m
 have hl2 := flatG_len (fun a k => if a = s then X i k else O a k) n m
 rw [mk_len]
 refine List.ext_getElem? fun p => ?_
 by_cases hp : p < n * m
 ·have hm : 0 < m := by
   rcases Nat.eq_zero_or_pos m with e | e
   ·rw [e] at hp; omega
   ·exact e
  have hdm := Nat.div_add_mod p m
  have hml := Nat.mod_lt p hm
  have ha : p / m < n := by rw [Nat.div_lt_iff_lt_mul hm]; exact hp
  have ep : p = p / m * m + p % m := by rw [Nat.mul_comm]; exact hdm.symm
  have eo : (flatG O n m)[p]? = some (O (p / m) (p % m)) := by
   rw [List.getElem?_eq_getElem (by omega), cf_get (by omega)]
   conv => lhs; rw [ep]
   rw [flatG_at O ha hml]
  have er : (flatG (fun a k => if a = s then X i k else O a k) n m)[p]? = some (if p / m = s then X i (p % m) else O (p / m) (p % m)) := by
   rw [List.getElem?_eq_getElem (by omega), cf_get (by omega)]
   conv => lhs; rw [ep]
   rw [flatG_at (fun a k => if a = s then X i k else O a k) ha hml]
  rw [er]
  have ltk : ((flatG O n m).take (s * m)).length = s * m := by rw [List.length_take]; omega
  rcases Nat.lt_trichotomy (p / m) s with g | g | g
  ·have h1 : p < s * m := by
    have := Nat.mul_le_mul_right m (show p / m + 1 ≤ s by omega)
    rw [Nat.add_mul, Nat.one_mul] at this
    omega
   rw [List.append_assoc, List.getElem?_append_left (by omega), List.getElem?_take, if_pos h1, eo, if_neg (by omega)]
  ·have h1 : p = s * m + p % m := by rw [← g]; exact ep
   rw [List.append_assoc, List.getElem?_append_right (by omega), ltk, List.getElem?_append_left (by rw [mk_len]; omega), if_pos g, show p - s * m = p % m by omega]
   unfold mk
   simp [hml]
  ·have h1 : s * m + m ≤ p := by
    have := Nat.mul_le_mul_right m (show s + 1 ≤ p / m by omega)
    rw [Nat.add_mul, Nat.one_mul] at this
    omega
   rw [List.getElem?_append_right (by rw [List.length_append, ltk, mk_len]; omega), List.length_append, ltk, mk_len, List.getElem?_drop, show s * m + m + (p - (s * m + m)) = p by omega, eo, if_neg (by omega)]
 ·rw [List.getElem?_eq_none (by rw [List.length_append, List.length_append, List.length_take, List.length_drop, mk_len]; omega), List.getElem?_eq_none (by omega)]
theorem cmzero_o (V : View) (r c : Nat) (hr : r ≤ 60) (hc : c ≤ 60) : SpecO Tryz.prog 39 [.int .i64 (r : Int), .int .i64 (c : Int)] V fun v' V' o => ∃ sl cells, v' = .tuple #[.agg #[.int .i64 (r : Int), .int .i64 (c : Int), sl], .int .i64 0] ∧ Own (addRow (fun _ => none) o) 48 3 sl (r * c) cells ∧ RowAt ratE V' cells (flatG (fun _ _ => 0) r c) := by
 refine (SpecO.enter Tryz.func39 rfl fun Γ => ?_)
 simp only [Tryz.ntmps39, List.map_cons, List.map_nil, List.length_cons, List.length_nil, Nat.reduceAdd, Nat.reduceSub, List.replicate_succ, List.replicate_zero, List.cons_append, List.nil_append]
 refine Gx.a (by kernel_rfl) fun K hK => ?_
 simp only [XM, XA]
 refine hK _ ?_
 refine XWP.seq ?_
 refine Gx.a (by kernel_rfl) fun K hK => ?_
 simp only [XA]
 refine call_go (by kernel_rfl) rfl (csized_c _ r c hr hc) fun v1 V1 hV1 h1 => ?_
 subst h1
 simp only [XA]
 refine hK _ ?_
 refine Gx.a (by kernel_rfl) fun K hK => ?_
 simp only [XA, XB, decide_true]
 refine hK _ ?_
 refine Gx.f rfl ?_
 refine XWP.skip ?_
 refine Gx.a (by kernel_rfl) fun K hK => ?_
 simp only [XA]
 refine call_own (by kernel_rfl) rfl (filled_o _ (lb := []) r c (fun _ _ => 0) (by kernel_rfl) (by omega) (by omega) fun V' i k hV hi hk => czero1_c V' i k) fun v2 V2 o2 hV2 hs2 h2 => ?_
 obtain ⟨sl, cells, rfl, hown, hrow⟩ := h2
 have osl := own_isOne hown
 simp only [XA]
 refine st_mat shapeT_24 rfl rfl rfl rfl osl ?_
 simp only [XA]
 refine hK _ (XWP.ret ?_)
 try simp only [thenX_ret, inBlockX_ret]
 rcases own_parts hown with ⟨rfl, h0, rfl⟩ | ⟨g, cap, rfl, hg, hle, hcap, hcl⟩
 ·refine ret_own _ none (by simp [resAll, resV, cellsV, shapeT_24]; rfl) (fun g' q e => by cases e) ⟨_, [], rfl, ⟨by rw [h0]; rfl, .inl ⟨rfl, h0⟩⟩, hrow⟩
 ·refine ret_own _ (some (g, _)) (by simp [resAll, resV, cellsV, shapeT_24]; rfl) (fun g' q e => by cases e; exact hg) ⟨_, cells, rfl, own3 (show upd (fun _ => none) g (some _) g = some _ from upd_at _ _ _) hcl hle (by unfold maxLen at hcap; omega), hrow⟩
theorem ceach1_c (V : View) (bc e i k n m : Nat) (a1 a2 a3 s2 : Value) (l2 : List Rat) (hb : V bc = some (.cells ([a1, a2, a3, .int .i64 (n : Int), .int .i64 (m : Int), s2] : List Value).toArray e (0, 0))) (h2 : Rats V s2 l2) (e2 : l2.length = n * m) (hn : n ≤ 60) (hm : m ≤ 60) (hi : i < n) (hk : k < m) :
  Spec Tryz.prog 133 [.int .i64 (i : Int), .int .i64 (k : Int), .pointer (some ⟨bc, 0, none⟩)] V fun v' V' => RatC V' v' (gridL l2 m i k) := by
 have hp := pos_lt hi hk
 have hnm : n * m ≤ 3600 := Nat.le_trans (Nat.mul_le_mul hn hm) (by decide)
 refine (Spec.enter Tryz.func133 rfl fun Γ => ?_)
 simp only [Tryz.ntmps133, List.map_cons, List.map_nil, List.length_cons, List.length_nil, Nat.reduceAdd, Nat.reduceSub, List.replicate_succ, List.replicate_zero, List.cons_append, List.nil_append]
 refine Gx.a (by kernel_rfl) fun K hK => ?_
 simp only [XA, XB]
 refine hK _ ?_
 refine Gx.a (by kernel_rfl) fun K hK => ?_
 simp only [XM, XA]
 refine ld_mem ⟨true, 3, shapeT_24, .inl ⟨rfl, [.int .i64 (n : Int), .int .i64 (m : Int), s2], rfl, fun j u hj => .inr ⟨_, _, _, hb, ?_⟩, rfl⟩⟩ ?_
 ·match j, hj with
  | 0, hj => cases hj; rfl
  | 1, hj => cases hj; rfl
  | 2, hj => cases hj; rfl
 simp only [XA]
 refine call_go (by kernel_rfl) rfl (ccell_c _ _ _ m i k l2 h2 (by omega) (by omega) (by omega) (by omega)) fun v1 V1 hV1 h1 => ?_
 obtain ⟨x1, y1, rfl, p1, p2⟩ := h1.form
 simp only [XA]
 refine st_rat rfl rfl rfl p1 p2 ?_
 simp only [XA]
 refine hK _ (XWP.ret ?_)
 try simp only [thenX_ret, inBlockX_ret]
 exact ret_rat1 rfl rfl rfl h1
theorem ld6 {V : View} {b e : Nat} {a1 a2 a3 a4 a5 a6 : Value} {fr} (h : V b = some (.cells ([a1, a2, a3, a4, a5, a6] : List Value).toArray e fr)) (H : Heap) : Loads Tryz.prog H V 57 b 0 (.agg #[a1, a2, a3, a4, a5, a6]) := by
 refine ⟨true, 6, by kernel_rfl, .inl ⟨rfl, [a1, a2, a3, a4, a5, a6], rfl, fun j u hj => .inr ⟨_, _, _, h, ?_⟩, rfl⟩⟩
 rw [Nat.zero_add]
 simpa using hj
theorem own_has {H : Heap} {e sz n g : Nat} {v : Value} {xs : List Value} (h : Own H e sz v n xs) (hg : v.ownBlock = some g) : ∃ q, H g = some q := by
 rcases own_parts h with ⟨rfl, _, _⟩ | ⟨b, cap, rfl, hb, _⟩
 ·cases hg
 ·have : b = g := by simpa [Value.ownBlock] using hg
  subst this
  exact ⟨_, hb⟩
theorem lrow1 {H : Heap} {V : View} {b e tot : Nat} {cells : List Value} (h : H b = some ⟨e, cells, tot⟩) {i t m : Nat} {u : Value} (hu : cells[i]? = some u) (ht : shapeT Tryz.prog t = some (false, m)) : Loads Tryz.prog H V t b i u := ⟨false, m, ht, .inr ⟨rfl, .inl ⟨_, h, hu⟩⟩⟩
theorem lrow3 {H : Heap} {V : View} {b e tot : Nat} {x y z : Value} (h : H b = some ⟨e, [x, y, z], tot⟩) {t : Nat} (ht : shapeT Tryz.prog t = some (true, 3)) : Loads Tryz.prog H V t b 0 (.agg #[x, y, z]) := ⟨true, 3, ht, .inl ⟨rfl, [x, y, z], rfl, fun j u hj => .inl ⟨_, h, by rw [Nat.zero_add]; exact hj⟩, rfl⟩⟩
def outO (R : Nat → Bool) (X : Grid) (i : Nat) : Grid := fun a k => if R a = true ∧ (pkL R a).length < i then X (pkL R a).length k else 0
theorem outO_zero (R : Nat → Bool) (X : Grid) (n m : Nat) : flatG (outO R X 0) n m = flatG (fun _ _ => 0) n m := flatG_congr fun a k _ _ => by unfold outO; simp
theorem outO_succ {R : Nat → Bool} {X : Grid} {n m i : Nat} (hi : i < (pkL R n).length) : flatG (fun a k => if a = pk R n i then X i k else outO R X i a k) n m = flatG (outO R X (i + 1)) n m := flatG_congr fun a k ha _ => by
 obtain ⟨h1, h2, h3⟩ := pk_ok R n i hi
 show (if a = pk R n i then X i k else outO R X i a k) = outO R X (i + 1) a k
 unfold outO
 by_cases e : a = pk R n i
 ·subst e
  rw [if_pos rfl, if_pos ⟨h2, by omega⟩, h3]
 ·rw [if_neg e]
  by_cases hR : R a = true
  ·have hne : (pkL R a).length ≠ i := fun hl => e (by have := (pk_of R n a ha hR).2; rw [hl] at this; exact this.symm)
   by_cases hl : (pkL R a).length < i
   ·rw [if_pos ⟨hR, hl⟩, if_pos ⟨hR, by omega⟩]
   ·rw [if_neg (fun h => hl h.2), if_neg (fun h => by have := h.2; omega)]
  ·rw [if_neg (fun h => hR h.1), if_neg (fun h => hR h.1)]
theorem outO_all (R : Nat → Bool) (X : Grid) (n m : Nat) : flatG (outO R X (pkL R n).length) n m = flatG (fun i c => upC R (fun j => X j c) i) n m := flatG_congr fun a k ha _ => by
 unfold outO upC
 by_cases hR : R a = true
 ·rw [if_pos ⟨hR, (pk_of R n a ha hR).1⟩, if_pos hR]
 ·rw [if_neg (fun h => hR h.1), if_neg hR]
theorem flat_cut {X : Grid} {N m i : Nat} (hi : i < N) : ((flatG X N m).drop (i * m)).take m = mk m (X i) := by
 have hsm := Nat.mul_le_mul_right m (show i + 1 ≤ N by omega)
 rw [Nat.add_mul, Nat.one_mul] at hsm
 have hl := flatG_len X N m
 refine List.ext_getElem? fun p => ?_
 by_cases hp : p < m
 ·rw [List.getElem?_take, if_pos hp, List.getElem?_drop, List.getElem?_eq_getElem (by omega), cf_get (by omega), flatG_at X hi hp]
  unfold mk
  simp [hp]
 ·rw [List.getElem?_eq_none (by rw [List.length_take]; omega), List.getElem?_eq_none (by rw [mk_len]; omega)]
theorem ge_up {B C : Nat} (h : B ≤ C) : ∀ k, ge B k ≤ ge C k
 | 0 => h
 | k + 1 => by
  have := ge_up h k
  simp only [ge]; omega
set_option maxHeartbeats 8000000 in
theorem ceach_c (V : View) (s1 s2 : Value) (n m B : Nat) (L1 L2 : List Raw) (h1 : Raws V s1 L1) (h2 : Raws V s2 L2) (f1 : fitR L1) (f2 : fitR L2) (hC : chB n n L1 n m L2 = true) (hn : n ≤ 4) (hm1 : 1 ≤ m) (hm : m ≤ 60) (hq1 : ∀ x ∈ qs L1, QB B x) (hq2 : ∀ x ∈ qs L2, QB B x) (hB : B ≤ 97) :
  Spec Tryz.prog 79 [.agg #[.int .i64 (n : Int), .int .i64 (n : Int), s1, .int .i64 (n : Int), .int .i64 (m : Int), s2]] V fun v' V' => ∃ w F R, v' = .tuple #[.agg #[.int .i64 (n : Int), .int .i64 (m : Int), w], .int .i64 0] ∧ Rats V' w (flatG F n m) ∧ Reach (gridL (qs L1) n) (gridL (qs L2) m) n m R ∧
   (∀ i c, i < n → c < m → F i c = gridL (qs L2) m i c + Sm (fun k => gridL (qs L1) n i k * F k c) n) ∧ (∀ i c, R i = false → F i c = 0) ∧ ∀ i c, i < n → c < m → QB 60000000 (F i c) := by
 obtain ⟨n', m', c1, _, _, c2, _, _, k1, k2, o1, o2, hrows⟩ := chB_inv hC
 obtain rfl : n = n' := by omega
 obtain rfl : m = m' := by omega
 have r1 := Raws.rats h1 o1
 have r2 := Raws.rats h2 o2
 have l1 : (qs L1).length = n * n := by rw [qs_len]; exact k1
 have l2 : (qs L2).length = n * m := by rw [qs_len]; exact k2
 have hnn : n * n ≤ 3600 := Nat.le_trans (Nat.mul_le_mul (show n ≤ 60 by omega) (show n ≤ 60 by omega)) (by decide)
 have hnm : n * m ≤ 3600 := Nat.le_trans (Nat.mul_le_mul (show n ≤ 60 by omega) hm) (by decide)
 obtain ⟨nm, ne, ns⟩ := chn_nums hrows
 obtain ⟨A1, q1, rfl, _, _⟩ := h1.form
 obtain ⟨A2, q2, rfl, _, _⟩ := h2.form
 have hqE : ∀ i c, i < n → c < m → QB B (gridL (qs L2) m i c) := fun i c hi hc => hq2 _ (cf_mem (by rw [l2]; exact pos_lt hi hc))
 refine (Spec.enterR Tryz.func79 rfl fun Γ hΓ => ?_)
 simp only [Tryz.ntmps79, List.map_cons, List.map_nil, List.length_cons, List.length_nil, Nat.reduceAdd, Nat.reduceSub, List.replicate_succ, List.replicate_zero, List.cons_append, List.nil_append]
 refine Gx.a (by kernel_rfl) fun K hK => ?_
 simp only [XM, XA]
 refine hK _ ?_
 refine XWP.row1 (bx := [_]) fun b2 e2 hb2 _ => ?_
 simp only [List.map_cons, List.map_nil, rowS_v, rowS_p, List.length_nil, List.length_cons, Nat.reduceAdd, Nat.reduceEqDiff, ↓reduceIte]
 have f2' : upd (fun _ => none) b2 (some ⟨e2, [.int .i64 0, .int .i64 0, .slice none 0 0], 3⟩) b2 = some ⟨e2, [.int .i64 0, .int .i64 0, .slice none 0 0], 3⟩ := upd_at _ _ _
 generalize upd (fun _ => none) b2 (some ⟨e2, [.int .i64 0, .int .i64 0, .slice none 0 0], 3⟩) = H2 at *
 refine XWP.row1 (bx := []) fun b1 e1 hb1 _ => ?_
 simp only [List.map_cons, List.map_nil, rowS_v, rowS_p, List.length_nil, List.length_cons, Nat.reduceAdd, ↓reduceIte]
 refine XWP.pub b1 _ (upd_at _ _ _) fun o1' ho1 hle1 => ?_
 have eo1 := row_obj ho1
 subst eo1
 have n21 := new_ne hb1 f2'
 have f2' : upd (upd H2 b1 (some ⟨e1, [.int .i64 (n : Int), .int .i64 (n : Int), .slice A1 L1.length q1, .int .i64 (n : Int), .int .i64 (m : Int), .slice A2 L2.length q2], 6⟩)) b1 none b2 = some ⟨e2, [.int .i64 0, .int .i64 0, .slice none 0 0], 3⟩ := (upd_off n21).trans ((upd_off n21).trans f2')
 have hc1 := addV_at V b1 (.cells ([.int .i64 (n : Int), .int .i64 (n : Int), .slice A1 L1.length q1, .int .i64 (n : Int), .int .i64 (m : Int), .slice A2 L2.length q2] : List Value).toArray e1 (0, 0))
 generalize upd (upd H2 b1 _) b1 none = H3 at *
 generalize addV V b1 _ = V1 at *
 have h1 := SlAt.mono rawE_ok h1 hle1
 have h2 := SlAt.mono rawE_ok h2 hle1
 have r1 := r1.up hle1
 have r2 := r2.up hle1
 refine XWP.seq ?_
 refine Gx.a (by kernel_rfl) fun K hK => ?_
 simp only [XA]
 refine ld_mem (ld6 hc1 _) ?_
 simp only [XA]
 refine call_go (by kernel_rfl) rfl (cchright_c _ _ _ _ _ _ _ L1 L2 h1 h2 f1 f2 (by omega) (by omega) (n * n * B) (n * m * B) (fun _ => by have := CB_of _ hq1; rw [l1] at this; exact this) (fun _ => by have := CB_of _ hq2; rw [l2] at this; exact this) (by have a := Nat.mul_le_mul hnn hB; have b := Nat.mul_le_mul hnm hB; omega)) fun v3 V3 hV3 h3 => ?_
 rw [hC] at h3
 subst h3
 simp only [XA]
 refine hK _ ?_
 refine Gx.f rfl ?_
 refine XWP.skip ?_
 have hc1 := hV3 _ _ hc1
 have r1 := r1.up hV3
 have r2 := r2.up hV3
 refine Gx.a (by kernel_rfl) fun K hK => ?_
 simp only [XA]
 refine ld_mem (ld6 hc1 _) ?_
 simp only [XA]
 refine call_go (by kernel_rfl) rfl (creaches_c _ _ _ n m (qs L1) (qs L2) r1 r2 l1 l2 (by omega) hm) fun v4 V4 hV4 h4 => ?_
 obtain ⟨R, hRe, hsl⟩ := h4
 simp only [XA]
 refine call_go (by kernel_rfl) rfl (cpicked_c _ _ n R hsl (by omega)) fun v5 V5 hV5 hof => ?_
 obtain ⟨A0, q0, rfl, _, _⟩ := hof.form
 have hofl := fun (h0 : 0 < (pkL R n).length) => nat_load hof rfl h0
 simp only [XA]
 refine hK _ ?_
 have hV5' := View.le_trans hV4 hV5
 have hc1 := hV5' _ _ hc1
 have r1 := r1.up hV5'
 have r2 := r2.up hV5'
 have hNn := pkL_len R n
 have hpk := pk_ok R n
 have hu := inA_uni (hRe.chn nm ne ns).uni
 have hg1 : ge (B + 1) (2 * (pkL R n).length + 1) ≤ 17592186044416 := Nat.le_trans (ge_up (show B + 1 ≤ 98 by omega) _) (Nat.le_trans (ge_mono 98 (show _ ≤ 9 by omega)) (by decide))
 have hg2 : 2 * ge (B + 1) (2 * (pkL R n).length) ≤ 60000000 := Nat.le_trans (Nat.mul_le_mul_left 2 (Nat.le_trans (ge_up (show B + 1 ≤ 98 by omega) _) (ge_mono 98 (show _ ≤ 8 by omega)))) (by decide)
 refine Gx.a (by kernel_rfl) fun K hK => ?_
 simp only [XA]
 refine ld_mem (ld6 hc1 _) ?_
 simp only [XM, XA, Nat.reduceAdd]
 refine ld_mem (ldV1 hc1 (off := 4) rfl shapeT_3 _) ?_
 simp only [XA]
 refine mkf_go [.pointer (some ⟨b1, 0, none⟩)] rfl ?_
 simp only [XA]
 refine call_go (by kernel_rfl) rfl (cwithin_c V5 (.slice A1 L1.length q1) (.slice A2 L2.length q2) (.slice A0 (pkL R n).length q0) n m m B (qs L1) R (gridL (qs L2) m) (g := 133) (lb := [.pointer (some ⟨b1, 0, none⟩)]) r1 l1 rfl hof (by omega) hm (by kernel_rfl) (fun V' i k hV hi hk => ceach1_c V' b1 e1 i k n m _ _ _ _ (qs L2) (hV _ _ hc1) (r2.up hV) l2 (by omega) hm hi hk) hq1 hqE hg1 hu) fun v6 V6 hV6 h6 => ?_
 obtain ⟨x, y, w, rfl, ox, oy, ow, hX⟩ := h6
 simp only [XM, XA]
 refine st_mat shapeT_24 rfl rfl ox oy ow ?_
 simp only [XA]
 refine hK _ ?_
 obtain ⟨X, hX1, hX2, hX3⟩ : ∃ X, (0 < (pkL R n).length → x = .int .i64 ((pkL R n).length : Int) ∧ y = .int .i64 (m : Int) ∧ Rats V6 w (flatG X (pkL R n).length m)) ∧ (∀ c, c < m → LinG (inA (gridL (qs L1) n) R n) (pkL R n).length (pkL R n).length (fun i => gridL (qs L2) m (pk R n i) c) (fun j => X j c)) ∧ ∀ i k, i < (pkL R n).length → k < m → QB (2 * ge (B + 1) (2 * (pkL R n).length)) (X i k) := by
  by_cases h0 : 0 < (pkL R n).length
  ·obtain ⟨a1, a2, X, a3, a4, a5⟩ := hX h0
   exact ⟨X, fun _ => ⟨a1, a2, a3⟩, a4, a5⟩
  ·exact ⟨fun _ _ => 0, fun h => absurd h h0, fun c hc i hi => by omega, fun i k hi => by omega⟩
 have hc1 := hV6 _ _ hc1
 refine Gx.a (by kernel_rfl) fun K hK => ?_
 simp only [XM, XA]
 refine ld_mem (ldV1 hc1 (off := 0) rfl shapeT_3 _) ?_
 simp only [XM, XA, Nat.reduceAdd]
 refine ld_mem (ldV1 hc1 (off := 4) rfl shapeT_3 _) ?_
 simp only [XA]
 refine call_own (by kernel_rfl) rfl (cmzero_o _ n m (by omega) hm) fun v7 V7 o7 hV7 hs7 hR7 => ?_
 obtain ⟨sl, cells, rfl, hown, hrow⟩ := hR7
 have osl := own_isOne hown
 simp only [XM, XA]
 refine st_mat shapeT_24 rfl rfl rfl rfl osl ?_
 simp only [XA]
 refine hK _ ?_
 have hV7 : V6.le V7 := hV7
 have hX1 : 0 < (pkL R n).length → x = .int .i64 ((pkL R n).length : Int) ∧ y = .int .i64 (m : Int) ∧ Rats V7 w (flatG X (pkL R n).length m) := fun h => ⟨(hX1 h).1, (hX1 h).2.1, (hX1 h).2.2.up hV7⟩
 have hV57 : V5.le V7 := View.le_trans hV6 hV7
 have f2'0 := f2'
 have f2' := addRow_off f2' fun g' q e => (hs7 g' q e).1
 have ng2 : ∀ g, sl.ownBlock = some g → b2 ≠ g := fun g hg => by
  obtain ⟨q, hq⟩ := own_has hown hg
  exact new_ne (hs7 g q (addRow_only hq)).1 f2'0
 have hown := own_any (H := H3) hown
 generalize addRow H3 o7 = H4 at *
 refine XWP.row1 (bx := [_]) fun b6 e6 hb6 _ => ?_
 simp only [List.map_cons, List.map_nil, rowS_v, rowS_p, List.length_nil, List.length_cons, Nat.reduceAdd, Nat.reduceEqDiff, ↓reduceIte]
 have n26 := new_ne hb6 f2'
 have f2' := (upd_off (r := some ⟨e6, [.int .i64 (n : Int), .int .i64 (m : Int), sl], 3⟩) n26).trans f2'
 have ng6 : ∀ g, sl.ownBlock = some g → b6 ≠ g := fun g hg => by
  obtain ⟨q, hq⟩ := own_has hown hg
  exact (new_ne hb6 hq).symm
 have f6 := upd_at H4 b6 (some ⟨e6, [.int .i64 (n : Int), .int .i64 (m : Int), sl], 3⟩)
 have hown := own_upd (r := some ⟨e6, [.int .i64 (n : Int), .int .i64 (m : Int), sl], 3⟩) hown hb6
 generalize upd H4 b6 (some ⟨e6, [.int .i64 (n : Int), .int .i64 (m : Int), sl], 3⟩) = H5 at *
 refine XWP.row1 (bx := []) fun b5 e5 hb5 _ => ?_
 simp only [List.map_cons, List.map_nil, rowS_v, rowS_p, List.length_nil, List.length_cons, Nat.reduceAdd, ↓reduceIte]
 have n25 := new_ne hb5 f2'
 have f2' := (upd_off (r := some ⟨e5, [x, y, w], 3⟩) n25).trans f2'
 have n65 := new_ne hb5 f6
 have f6 := (upd_off (r := some ⟨e5, [x, y, w], 3⟩) n65).trans f6
 have ng5 : ∀ g, sl.ownBlock = some g → b5 ≠ g := fun g hg => by
  obtain ⟨q, hq⟩ := own_has hown hg
  exact (new_ne hb5 hq).symm
 have f5 := upd_at H5 b5 (some ⟨e5, [x, y, w], 3⟩)
 have hown := own_upd (r := some ⟨e5, [x, y, w], 3⟩) hown hb5
 generalize upd H5 b5 (some ⟨e5, [x, y, w], 3⟩) = H6 at *
 refine XWP.cut (fun s => ∃ (H' : Heap) (cells' : List Value), StIs (fun Z => [Z 0, .v (.pointer (some ⟨b1, 0, none⟩)), .v (.pointer (some ⟨b2, 0, none⟩)), .v (.int .i64 0), .v (.slice A0 (pkL R n).length q0), .v (.pointer (some ⟨b5, 0, none⟩)), .v (.pointer (some ⟨b6, 0, none⟩)), Z 7,Z 8,Z 9,Z 10,Z 11,Z 12,Z 13,Z 14,Z 15,Z 16,Z 17,Z 18,Z 19,Z 20,Z 21,Z 22,Z 23,Z 24,Z 25,Z 26,Z 27,Z 28,Z 29,Z 30,Z 31,Z 32,Z 33,Z 34,Z 35,Z 36,Z 37,Z 38,Z 39,Z 40,Z 41,Z 42,Z 43,Z 44,Z 45,Z 46,Z 47,Z 48,Z 49,Z 50,Z 51,Z 52,Z 53,Z 54,Z 55,Z 56,Z 57,Z 58,Z 59,Z 60,Z 61,Z 62,Z 63,Z 64,Z 65,Z 66,Z 67]) [] H' V7 s ∧ H' b2 = some ⟨e2, [.int .i64 0, .int .i64 0, .slice none 0 0], 3⟩ ∧ H' b6 = some ⟨e6, [.int .i64 (n : Int), .int .i64 (m : Int), sl], 3⟩ ∧ Own H' 48 3 sl (n * m) cells' ∧ RowAt ratE V7 cells' (flatG (outO R X (pkL R n).length) n m)) ?_ ?_
 ·refine Gx.a (by kernel_rfl) fun K hK => ?_
  simp only [XN, XA]
  refine hK _ ?_
  clear hK
  refine XWP.block ?_
  refine XWP.loop (fun q s => ∃ (i : Nat) (H' : Heap) (cells' : List Value), StIs (fun Z => [Z 0, .v (.pointer (some ⟨b1, 0, none⟩)), .v (.pointer (some ⟨b2, 0, none⟩)), .v (.int .i64 0), .v (.slice A0 (pkL R n).length q0), .v (.pointer (some ⟨b5, 0, none⟩)), .v (.pointer (some ⟨b6, 0, none⟩)), Z 7,Z 8,Z 9,Z 10,Z 11,Z 12,Z 13,Z 14,Z 15,Z 16,Z 17,Z 18,Z 19,Z 20,Z 21,Z 22,Z 23,Z 24,Z 25,Z 26,Z 27,Z 28,Z 29,Z 30,Z 31,Z 32,Z 33, .v (.slice A0 (pkL R n).length q0), .v (.int .i64 ((pkL R n).length : Int)), .v (.int .i64 (i : Int)), Z 37,Z 38,Z 39,Z 40,Z 41,Z 42,Z 43,Z 44,Z 45,Z 46,Z 47,Z 48,Z 49,Z 50,Z 51,Z 52,Z 53,Z 54,Z 55,Z 56,Z 57,Z 58,Z 59,Z 60,Z 61,Z 62,Z 63,Z 64,Z 65,Z 66,Z 67]) [] H' V7 s ∧ q + i = (pkL R n).length ∧ H' b2 = some ⟨e2, [.int .i64 0, .int .i64 0, .slice none 0 0], 3⟩ ∧ H' b5 = some ⟨e5, [x, y, w], 3⟩ ∧ H' b6 = some ⟨e6, [.int .i64 (n : Int), .int .i64 (m : Int), sl], 3⟩ ∧ Own H' 48 3 sl (n * m) cells' ∧ RowAt ratE V7 cells' (flatG (outO R X i) n m)) (pkL R n).length ⟨0, H6, cells, StIs.of (by exact rfl), by omega, f2', f5, f6, hown, by rw [outO_zero]; exact hrow⟩ ?_
  clear f2' f5 f6 hown hrow
  rintro q s ⟨i, H', cells', hs, hq, f2', f5, f6, hown, hrow⟩
  obtain ⟨z, rfl⟩ := hs.out
  try dsimp only
  clear hs
  by_cases hi : i < (pkL R n).length
  rotate_left
  ·obtain rfl : i = (pkL R n).length := by omega
   have bt1 : decide ((((pkL R n).length : Nat) : Int) < (((pkL R n).length : Nat) : Int)) = false := decide_eq_false (by omega)
   refine Gx.a (by kernel_rfl) fun K hK => ?_
   simp only [XA, XB, bt1]
   refine hK _ ?_
   refine XWP.seq (Gx.f rfl ?_)
   refine XWP.exit ?_
   exact ⟨H', cells', StIs.of (by exact rfl), f2', f6, hown, hrow⟩
  have bt1 : decide ((i : Int) < ((pkL R n).length : Int)) = true := decide_eq_true (by omega)
  refine Gx.a (by kernel_rfl) fun K hK => ?_
  simp only [XA, XB, bt1]
  refine hK _ ?_
  refine XWP.seq (Gx.t rfl ?_)
  refine XWP.skip ?_
  refine XWP.cut (fun s => ∃ (H2 : Heap) (cells2 : List Value), StIs (fun Z => [Z 0, .v (.pointer (some ⟨b1, 0, none⟩)), .v (.pointer (some ⟨b2, 0, none⟩)), .v (.int .i64 0), .v (.slice A0 (pkL R n).length q0), .v (.pointer (some ⟨b5, 0, none⟩)), .v (.pointer (some ⟨b6, 0, none⟩)), Z 7,Z 8,Z 9,Z 10,Z 11,Z 12,Z 13,Z 14,Z 15,Z 16,Z 17,Z 18,Z 19,Z 20,Z 21,Z 22,Z 23,Z 24,Z 25,Z 26,Z 27,Z 28,Z 29,Z 30,Z 31,Z 32,Z 33, .v (.slice A0 (pkL R n).length q0), .v (.int .i64 ((pkL R n).length : Int)), .v (.int .i64 (i : Int)), Z 37,Z 38,Z 39,Z 40,Z 41,Z 42,Z 43,Z 44,Z 45,Z 46,Z 47,Z 48,Z 49,Z 50,Z 51,Z 52,Z 53,Z 54,Z 55,Z 56,Z 57,Z 58,Z 59,Z 60,Z 61,Z 62,Z 63,Z 64,Z 65,Z 66,Z 67]) [] H2 V7 s ∧ H2 b2 = some ⟨e2, [.int .i64 0, .int .i64 0, .slice none 0 0], 3⟩ ∧ H2 b5 = some ⟨e5, [x, y, w], 3⟩ ∧ H2 b6 = some ⟨e6, [.int .i64 (n : Int), .int .i64 (m : Int), sl], 3⟩ ∧ Own H2 48 3 sl (n * m) cells2 ∧ RowAt ratE V7 cells2 (flatG (outO R X (i + 1)) n m)) ?_ ?_
  rotate_left
  ·rintro s ⟨H2, cells2, hs, g2', g5, g6, hown2, hrow2⟩
   obtain ⟨z, rfl⟩ := hs.out
   try dsimp only
   clear hs
   refine Gx.c (by kernel_rfl) fun K hK => ?_
   simp only [XA, XB, i64_succ i (by omega)]
   exact hK _ ⟨q - 1, by omega, i + 1, H2, cells2, StIs.of (by exact rfl), by omega, g2', g5, g6, hown2, hrow2⟩
  clear hK
  refine XWP.block ?_
  obtain ⟨b0, o0, eA0, hld⟩ := hofl (by omega)
  obtain ⟨rfl, rfl, hw⟩ := hX1 (by omega)
  obtain ⟨s1, s2, s3⟩ := hpk i hi
  have hsm := Nat.mul_le_mul_right m (show pk R n i + 1 ≤ n by omega)
  have him := Nat.mul_le_mul_right m (show i + 1 ≤ (pkL R n).length by omega)
  have hnm4 := Nat.mul_le_mul_right m (show (pkL R n).length ≤ n by omega)
  have hpm : pk R n i * m + m = (pk R n i + 1) * m := by rw [Nat.add_mul, Nat.one_mul]
  have him' : i * m + m = (i + 1) * m := by rw [Nat.add_mul, Nat.one_mul]
  rcases own_parts hown with ⟨rfl, h0, rfl⟩ | ⟨g, cap, rfl, hg, hle, hcap, hcl⟩
  ·omega
  have n2 := ng2 g rfl
  have n5 := ng5 g rfl
  have n6 := ng6 g rfl
  obtain ⟨Aw, cw, rfl, _, _⟩ := hw.form
  have lX := flatG_len X (pkL R n).length m
  rw [lX] at hw f5
  have w1 := wr_mul (i := pk R n i) (C := m) (by omega) (by omega)
  have w2 := wr_mul (i := pk R n i + 1) (C := m) (by omega) (by omega)
  have w3 := wr_mul (i := i) (C := m) (by omega) (by omega)
  have w4 := wr_mul (i := i + 1) (C := m) (by omega) (by omega)
  have w5 := i64_succ (pk R n i) (by omega)
  have w6 := i64_succ i (by omega)
  subst eA0
  refine Gx.a (by kernel_rfl) fun K hK => ?_
  simp only [XN, XA, XB]
  refine ⟨by omega, by omega, ld_mem (hld _ _ i hV57 hi) ?_⟩
  simp only [XA]
  refine hK _ ?_
  have hbase : ∀ b r, upd H' g none b = some r → b ≠ g ∧ H' b = some r := fun b r hb => by
   by_cases e : b = g
   ·rw [e, upd_at] at hb; cases hb
   ·rw [upd_off e] at hb; exact ⟨e, hb⟩
  have k6 : upd H' g none b6 = some ⟨e6, [.int .i64 (n : Int), .int .i64 (m : Int), .slice (some ⟨g, 0, none⟩) (n * m) cap], 3⟩ := (upd_off n6).trans f6
  have k5 : upd H' g none b5 = some ⟨e5, [.int .i64 ((pkL R n).length : Int), .int .i64 (m : Int), .slice Aw ((pkL R n).length * m) cw], 3⟩ := (upd_off n5).trans f5
  refine XWP.drawN (.lin [0, 1, 2, 3, 4, 5, 6, 7, 8, 9, 10, 11, 12, 13, 14, 15, 16, 17, 18, 19, 20, 21, 22, 23, 24] .nil) (fun i => i == 1 || i == 4 || i == 9 || i == 13 || i == 16 || i == 21 || i == 24) (upd H' g none) hΓ (by kernel_rfl) (by kernel_rfl) (by kernel_rfl) rfl (fun b r hb => ((hbase b r hb).2)) ?_
  refine treeM_lin ?_
  refine seqM_x rfl (by kernel_rfl) rfl (by kernel_rfl) ?_
  simp only [XM, XA]
  refine seqM_b rfl (by kernel_rfl) rfl rfl (lrow1 k6 (i := 2) rfl shapeT_22) ?_
  simp only [XA]
  refine seqM_x rfl (by kernel_rfl) rfl (by kernel_rfl) ?_
  simp only [XA]
  refine seqM_x rfl (by kernel_rfl) rfl (by kernel_rfl) ?_
  simp only [XM, XA]
  refine seqM_b rfl (by kernel_rfl) rfl rfl (lrow1 k6 (i := 1) rfl shapeT_3) ?_
  simp only [XA]
  refine seqM_x rfl (by kernel_rfl) rfl (by kernel_rfl) ?_
  simp only [XA, XB, w1]
  refine seqM_x rfl (by kernel_rfl) rfl (by kernel_rfl) ?_
  simp only [XA]
  refine seqM_x rfl (by kernel_rfl) rfl (by kernel_rfl) ?_
  simp only [XA, XB, w5]
  refine seqM_x rfl (by kernel_rfl) rfl (by kernel_rfl) ?_
  simp only [XM, XA]
  refine seqM_b rfl (by kernel_rfl) rfl rfl (lrow1 k6 (i := 1) rfl shapeT_3) ?_
  simp only [XA]
  refine seqM_x rfl (by kernel_rfl) rfl (by kernel_rfl) ?_
  simp only [XA, XB, w2]
  refine seqM_x rfl (by kernel_rfl) rfl (by kernel_rfl) ?_
  simp only [XA, XB]
  refine ⟨by omega, by omega, by omega, ?_⟩
  refine seqM_x rfl (by kernel_rfl) rfl (by kernel_rfl) ?_
  simp only [XM, XA]
  refine seqM_b rfl (by kernel_rfl) rfl rfl (lrow1 k5 (i := 2) rfl shapeT_22) ?_
  simp only [XA]
  refine seqM_x rfl (by kernel_rfl) rfl (by kernel_rfl) ?_
  simp only [XA]
  refine seqM_x rfl (by kernel_rfl) rfl (by kernel_rfl) ?_
  simp only [XM, XA]
  refine seqM_b rfl (by kernel_rfl) rfl rfl (lrow1 k5 (i := 1) rfl shapeT_3) ?_
  simp only [XA]
  refine seqM_x rfl (by kernel_rfl) rfl (by kernel_rfl) ?_
  simp only [XA, XB, w3]
  refine seqM_x rfl (by kernel_rfl) rfl (by kernel_rfl) ?_
  simp only [XA]
  refine seqM_x rfl (by kernel_rfl) rfl (by kernel_rfl) ?_
  simp only [XA, XB, w6]
  refine seqM_x rfl (by kernel_rfl) rfl (by kernel_rfl) ?_
  simp only [XM, XA]
  refine seqM_b rfl (by kernel_rfl) rfl rfl (lrow1 k5 (i := 1) rfl shapeT_3) ?_
  simp only [XA]
  refine seqM_x rfl (by kernel_rfl) rfl (by kernel_rfl) ?_
  simp only [XA, XB, w4]
  refine seqM_x rfl (by kernel_rfl) rfl (by kernel_rfl) ?_
  simp only [XA, XB]
  refine ⟨by omega, by omega, by omega, ?_⟩
  have eS1 : sliceV (some ⟨g, 0, none⟩) cap 3 (pk R n i * m) ((pk R n i + 1) * m) = .slice (some ⟨g, pk R n i * m * 3, none⟩) m (cap - pk R n i * m) := by
   unfold sliceV
   rw [if_neg (by omega), show (pk R n i + 1) * m - pk R n i * m = m by omega]
   simp [Addr.add]
   exact fun h => h.symm
  obtain ⟨A', eS2⟩ : ∃ A', (∀ h, sliceV Aw cw 3 (i * m) h = .slice A' (h - i * m) (cw - i * m)) := ⟨_, fun h => rfl⟩
  have hd := SlAt.drop (k := i * m) hw (by rw [lX]; omega)
  rw [eS2] at hd
  have ht := SlAt.take (k := m) hd (by rw [List.length_drop, lX]; omega)
  rw [flat_cut hi] at ht
  obtain ⟨news, rnew, hsrc⟩ := SlAt.src ht
  rw [mk_len] at hsrc
  have hfit : pk R n i * m * 3 + m * 3 ≤ cells'.length := by omega
  rw [eS1, eS2, show (i + 1) * m - i * m = m by omega]
  refine seqM_copy rfl (by kernel_rfl) rfl rfl rfl rfl elemT_22 shapeT_48 hg hfit (hsrc _) hbase (View.le_refl _) ?_
  simp only [XA]
  refine seqM_nil (treeM_nil ?_)
  have hrow2 := hrow.spliceR rnew (off := pk R n i * m) (by rw [mk_len, flatG_len]; omega)
  rw [flat_row (X := X) (by omega), outO_succ hi] at hrow2
  have hl2 := hrow2.1
  rw [flatG_len] at hl2
  try simp only [thenX_normal, inBlockX_normal]
  refine ⟨_, _, StIs.of (by exact rfl), (upd_off n2).trans f2', (upd_off n5).trans ?_, (upd_off n6).trans f6, own3 (upd_at _ _ _) hl2 hle (by unfold maxLen at hcap; omega), hrow2⟩
  rw [lX]
  exact f5
 clear f2' f5 f6 hown hrow
 rintro s ⟨H', cells', hs, f2', f6, hown, hrow⟩
 obtain ⟨z, rfl⟩ := hs.out
 try dsimp only
 clear hs
 rw [outO_all] at hrow
 refine XWP.pubR ratE_ok hown hrow fun H8 V8 hV8 hF hk8 => ?_
 have f2' := (hk8 b2 fun h => ng2 _ h rfl).trans f2'
 have f6 := (hk8 b6 fun h => ng6 _ h rfl).trans f6
 refine Gx.a (by kernel_rfl) fun K hK => ?_
 simp only [XA]
 refine ld_mem (lrow3 f6 shapeT_24) ?_
 simp only [XA]
 refine st_rowA shapeT_24 (all3 rfl rfl osl) rfl f2' (by simp) ?_
 simp only [XA]
 refine hK _ (XWP.ret ?_)
 try simp only [thenX_ret, inBlockX_ret]
 refine ret_go _ (by simp [resAll, resV, cellsV, shapeT_24, upd_at, splice_all]; rfl) ⟨sl, fun i c => upC R (fun j => X j c) i, R, rfl, hF, hRe, fun i c hi hc => inA_sol hc hRe.clos hRe.fil (hX2 c hc) i hi, fun i c hR => by show upC R _ i = 0; unfold upC; rw [hR]; simp, fun i c hi hc => ?_⟩
 show QB 60000000 (upC R (fun j => X j c) i)
 unfold upC
 split
 ·rename_i hR
  exact (hX3 _ c (pk_of R n i hi hR).1 hc).mono hg2
 ·exact QB_zero _
set_option maxHeartbeats 4000000 in
theorem cchends_c (V : View) (s1 s2 v : Value) (n m B : Nat) (L1 L2 S : List Raw) (h1 : Raws V s1 L1) (h2 : Raws V s2 L2) (hv : Raws V v S) (f1 : fitR L1) (f2 : fitR L2) (f3 : fitR S) (hC : chB n n L1 n m L2 = true) (hW : wtB n S = true) (hn : n ≤ 4) (hm1 : 1 ≤ m) (hm : m ≤ 4) (hq1 : ∀ x ∈ qs L1, QB B x) (hq2 : ∀ x ∈ qs L2, QB B x) (hq3 : ∀ x ∈ qs S, QB B x) (hB : B ≤ 97) :
  Spec Tryz.prog 33 [.agg #[.int .i64 (n : Int), .int .i64 (n : Int), s1, .int .i64 (n : Int), .int .i64 (m : Int), s2], v] V fun v' V' => ∃ w u F R, v' = .tuple #[w, u, .int .i64 0] ∧ isOne w = true ∧ Rats V' w (thr (qs S) (flatG F n m) m) ∧ (∀ x ∈ thr (qs S) (flatG F n m) m, QF x) ∧ (∃ a b c, u = .agg #[.bool a, b, c] ∧ isOne b = true ∧ isOne c = true) ∧ Reach (gridL (qs L1) n) (gridL (qs L2) m) n m R ∧
   (∀ i c, i < n → c < m → F i c = gridL (qs L2) m i c + Sm (fun k => gridL (qs L1) n i k * F k c) n) ∧ (∀ i c, R i = false → F i c = 0) := by
 obtain ⟨n', m', c1, _, _, c2, _, _, k1, k2, o1, o2, hrows⟩ := chB_inv hC
 obtain rfl : n = n' := by omega
 obtain rfl : m = m' := by omega
 obtain ⟨ea, o3, ha⟩ := wtB_parts hW
 have lS : S.length = n := by rw [← qs_len S]; exact ea
 have hnn : n * n ≤ 16 := Nat.le_trans (Nat.mul_le_mul hn hn) (by decide)
 have hnm : n * m ≤ 16 := Nat.le_trans (Nat.mul_le_mul hn hm) (by decide)
 obtain ⟨A1, q1, rfl, _, _⟩ := h1.form
 obtain ⟨A2, q2, rfl, _, _⟩ := h2.form
 obtain ⟨A3, q3, rfl, _, _⟩ := hv.form
 have hr := Raws.rats hv o3
 refine (Spec.enter Tryz.func33 rfl fun Γ => ?_)
 simp only [Tryz.ntmps33, List.map_cons, List.map_nil, List.length_cons, List.length_nil, Nat.reduceAdd, Nat.reduceSub, List.replicate_succ, List.replicate_zero, List.cons_append, List.nil_append]
 refine Gx.a (by kernel_rfl) fun K hK => ?_
 simp only [XA, XB]
 refine hK _ ?_
 refine XWP.seq ?_
 refine Gx.a (by kernel_rfl) fun K hK => ?_
 simp only [XM, XA, Nat.reduceAdd, Nat.reduceLeDiff, ↓reduceIte]
 refine call_go (by kernel_rfl) rfl (cchright_c _ _ _ _ _ _ _ L1 L2 h1 h2 f1 f2 (by omega) (by omega) (n * n * B) (n * m * B) (fun _ => by have := CB_of _ hq1; rw [qs_len, k1] at this; exact this) (fun _ => by have := CB_of _ hq2; rw [qs_len, k2] at this; exact this) (by have a := Nat.mul_le_mul hnn hB; have b := Nat.mul_le_mul hnm hB; omega)) fun v3 V3 hV3 h3 => ?_
 rw [hC] at h3
 subst h3
 simp only [XM, XA, gateX, Nat.reduceAdd, Nat.reduceLeDiff, ↓reduceIte, beq_self_eq_true]
 refine call_go (by kernel_rfl) rfl (cweights_c _ _ _ _ _ _ _ _ S rfl rfl (hv.up hV3) f3 (by omega)) fun v4 V4 hV4 h4 => ?_
 rw [hW] at h4
 subst h4
 simp only [XA, gateX, ↓reduceIte, beq_self_eq_true]
 refine hK _ ?_
 refine Gx.f rfl ?_
 refine XWP.skip ?_
 have hV4' := View.le_trans hV3 hV4
 refine Gx.a (by kernel_rfl) fun K hK => ?_
 simp only [XM, XA, Nat.reduceAdd, Nat.reduceLeDiff, ↓reduceIte]
 refine call_go (by kernel_rfl) rfl (ceach_c _ _ _ n m B L1 L2 (h1.up hV4') (h2.up hV4') f1 f2 hC hn hm1 (by omega) hq1 hq2 hB) fun v5 V5 hV5 h5 => ?_
 obtain ⟨w, F, R, rfl, hF, hRe, hFe, hFz, hFq⟩ := h5
 obtain ⟨Aw, cw, rfl, _, _⟩ := hF.form
 simp only [XM, XA, Nat.reduceAdd]
 refine st_mat shapeT_24 rfl rfl rfl rfl rfl ?_
 simp only [XA]
 refine hK _ ?_
 have cbS : CB 388 (qs S) := (CB_of _ hq3).mono (by rw [ea]; have := Nat.mul_le_mul hn hB; omega)
 have lF := flatG_len F n m
 have cbF : CB 960000000 (flatG F n m) := (CB_of (B := 60000000) _ fun x hx => by
  obtain ⟨i, k, hi, hk, rfl⟩ := flatG_mem hx
  exact hFq i k hi hk).mono (by rw [lF]; have := Nat.mul_le_mul_right 60000000 hnm; omega)
 have cbT : CB 960000400 (thr (qs S) (flatG F n m) m) := (thr_CB cbS cbF m).mono (by omega)
 have lT := thr_len (qs S) (flatG F n m) m
 refine Gx.a (by kernel_rfl) fun K hK => ?_
 simp only [XM, XA, Nat.reduceAdd, Nat.reduceLeDiff, ↓reduceIte]
 refine call_go (by kernel_rfl) rfl (cthrough_c _ _ _ (qs S) (flatG F n m) n m 388 960000000 ((hr.up hV4').up hV5) hF (by rw [lF, ea]) (by omega) (by omega) cbS cbF (by omega)) fun v6 V6 hV6 h6 => ?_
 obtain ⟨A6, c6, rfl, _, _⟩ := h6.form
 simp only [XA]
 refine hK _ ?_
 refine Gx.a (by kernel_rfl) fun K hK => ?_
 simp only [XA]
 refine call_go (by kernel_rfl) rfl (qsum_c _ _ (qs S) 97 (((hr.up hV4').up hV5).up hV6) (fun x hx => (hq3 x hx).mono hB) (by omega) (by omega)) fun v7 V7 hV7 h7 => ?_
 simp only [XA]
 refine call_go (by kernel_rfl) rfl (qsum_c _ _ _ 960000400 (h6.up hV7) cbT.mem (by omega) (by omega)) fun v8 V8 hV8 h8 => ?_
 simp only [XA]
 have g7 : QF (sumL (qs S) (qs S).length) := (sumL_QB (B := 97) (fun x hx => (hq3 x hx).mono hB) _ (Nat.le_refl _)).qf (by rw [ea]; omega)
 have g8 : QF (sumL (thr (qs S) (flatG F n m) m) (thr (qs S) (flatG F n m) m).length) := (sumL_QB cbT.mem _ (Nat.le_refl _)).qf (by rw [lT]; omega)
 refine call_go (by kernel_rfl) rfl (qsub_c _ _ _ _ _ (h7.mono hV8) h8 g7 g8) fun v9 V9 hV9 h9 => ?_
 obtain ⟨x9, y9, rfl, p9, p9'⟩ := h9.form
 simp only [XA]
 refine st_rat rfl rfl rfl p9 p9' ?_
 simp only [XA]
 refine hK _ (XWP.ret ?_)
 try simp only [thenX_ret, inBlockX_ret]
 exact ret_go _ (by simp [resAll, resV, cellsV, shapeT_48]; rfl) ⟨_, _, F, R, rfl, rfl, ((h6.up hV7).up hV8).up hV9, fun x hx => (cbT.mem x hx).qf (by omega), ⟨_, _, _, rfl, p9, p9'⟩, hRe, hFe, hFz⟩
end Go.Proofs.YthoboehbadmlmaaGreat
end
section
namespace Go.Proofs.YthoboehbadmlmaaGreat
def bc (B : Nat) : Nat → Nat
 | 0 => 0
 | i + 1 => 2 * bc B i + B + 1
theorem bc_mono (B : Nat) {i j : Nat} (h : i ≤ j) : bc B i ≤ bc B j := by
  induction j with
  | zero => have : i = 0 := by omega
            subst this; exact Nat.le_refl _
  | succ j ih =>
    rcases Nat.eq_or_lt_of_le h with h1 | h1
    · subst h1; exact Nat.le_refl _
    · have := ih (by omega)
      simp only [bc]; omega
theorem natCast_ne {k : Nat} (h : 0 < k) : (k : Rat) ≠ 0 := by
 intro e
 have := Rat.natCast_inj.1 (show ((k : Nat) : Rat) = ((0 : Nat) : Rat) from e)
 omega
theorem bm_cross {c c' D k : Nat} (n m N : Int) (hc : 0 < c) (hc' : 0 < c') (hD : 0 < D) (hk : 0 < k) :
  mkRat n c + mkRat m c' * -(mkRat N (D * c) / mkRat (k : Int) (D * c')) = mkRat (n * k - N * m) (c * k) ∧ mkRat n c + mkRat m c' * -(mkRat N (D * c) / mkRat (-(k : Int)) (D * c')) = mkRat (n * k + N * m) (c * k) := by
 have a1 := natCast_ne hc
 have a2 := natCast_ne hc'
 have a3 := natCast_ne hD
 have a4 := natCast_ne hk
 simp only [Rat.mkRat_eq_div, Rat.natCast_mul, Rat.intCast_sub, Rat.intCast_add, Rat.intCast_mul, Rat.intCast_neg, Rat.intCast_natCast]
 generalize (c : Rat) = x at *
 generalize (c' : Rat) = y at *
 generalize (D : Rat) = d at *
 generalize (k : Rat) = z at *
 generalize (n : Rat) = p at *
 generalize (m : Rat) = q at *
 generalize (N : Rat) = r at *
 constructor <;> grind
theorem bm_over {c c' D b t : Nat} {x y : Rat} (hc : 0 < c) (hc' : 0 < c') (hD : 0 < D) (hx : Over c b x) (hy : Over c' b y) {N w : Int} (hN : N.natAbs ≤ 2 ^ t) (hw : w.natAbs ≤ 2 ^ t) (h0 : w ≠ 0) : Over (c * w.natAbs) (b + t + 1) (x + y * -(mkRat N (D * c) / mkRat w (D * c'))) := by
 obtain ⟨n, n1, rfl⟩ := hx
 obtain ⟨m, m1, rfl⟩ := hy
 have hk : 0 < w.natAbs := by omega
 obtain ⟨e1, e2⟩ := bm_cross n m N hc hc' hD hk
 have b1 : (n * (w.natAbs : Int)).natAbs ≤ 2 ^ (b + t) := by rw [Int.natAbs_mul, Int.natAbs_natCast]; exact two_mul_le n1 hw
 have b2 : (N * m).natAbs ≤ 2 ^ (b + t) := by rw [Int.natAbs_mul, Nat.add_comm]; exact two_mul_le hN m1
 rcases Int.natAbs_eq w with h | h
 ·rw [show mkRat w (D * c') = mkRat (w.natAbs : Int) (D * c') by rw [← h], e1]
  refine ⟨_, ?_, rfl⟩
  have := Int.natAbs_sub_le (n * (w.natAbs : Int)) (N * m)
  rw [Nat.pow_succ]; omega
 ·rw [show mkRat w (D * c') = mkRat (-(w.natAbs : Int)) (D * c') by rw [← h], e2]
  refine ⟨_, ?_, rfl⟩
  have := Int.natAbs_add_le (n * (w.natAbs : Int)) (N * m)
  rw [Nat.pow_succ]; omega
theorem bm_over0 {c D b t : Nat} {x : Rat} (hx : Over c b x) {w : Int} (hw : w.natAbs ≤ 2 ^ t) (h0 : w ≠ 0) : Over (c * w.natAbs) (b + t + 1) x := (hx.scale (by omega) hw).mono (by omega)
def BI (l : List Rat) (D B e b : Nat) (s : BM) : Prop := ∃ c c', 0 < c ∧ 0 < c' ∧ c ≤ 2 ^ b ∧ (∀ j, Over c b (cf s.q j)) ∧ (∀ j, Over c' b (cf s.last j)) ∧ Over (D * c') (B + b + e) s.was
theorem bm_BI {l : List Rat} {B D e : Nat} (hD : 0 < D) (hD2 : D ≤ 2 ^ B) (hl : ∀ i, Over D B (cf l i)) (N : Nat) (he : N ≤ 2 ^ e) (i : Nat) (hi : i ≤ N) : BI l D B e (bc (B + e) i) (bmI l i) := by
 induction i with
 | zero =>
  have h1 : ∀ j, Over 1 (bc (B + e) 0) (cf ([1] : List Rat) j) := fun j => by
   cases j with
   | zero => exact ⟨1, by simp [bc], by show (1 : Rat) = mkRat 1 1; rfl⟩
   | succ j => rw [cf_none (by simp)]; exact Over.zero _ _
  refine ⟨1, 1, by omega, by omega, by simp [bc], h1, h1, ?_⟩
  refine ⟨(D : Int), ?_, ?_⟩
  ·rw [Int.natAbs_natCast]; exact Nat.le_trans hD2 (two_mono (show B ≤ B + bc (B + e) 0 + e by omega))
  ·show (1 : Rat) = _
   rw [Nat.mul_one, Rat.mkRat_eq_div, Rat.intCast_natCast]
   have := natCast_ne hD
   grind
 | succ i ih =>
  obtain ⟨c, c', p1, p2, p3, hq, hla, hwa⟩ := ih (by omega)
  have hne := (bm_len l i).2.2.2
  have hm : bc (B + e) i ≤ bc (B + e) (i + 1) := bc_mono (B + e) (Nat.le_succ i)
  have hd : Over (D * c) (B + bc (B + e) i + e) (off l (bmI l i).q i) := Over.offs hD p1 hl hq i _ e (by omega)
  have hd' := hd
  have hwa' := hwa
  obtain ⟨Nn, n1, n2⟩ := hd
  obtain ⟨w, w1, w2⟩ := hwa
  have hw0 : w ≠ 0 := fun h => hne (by rw [w2, h]; simp)
  have hpos : 0 < w.natAbs := by omega
  have ht : B + bc (B + e) i + e + bc (B + e) i + 1 ≤ bc (B + e) (i + 1) := by simp only [bc]; omega
  have hnew : ∀ j, Over (c * w.natAbs) (bc (B + e) (i + 1)) (cf (bmNext l (bmI l i) i) j) := fun j => by
   unfold bmNext
   rw [cf_pAdd]
   unfold pAt
   split
   ·rw [n2, w2]
    exact (bm_over p1 p2 hD (hq j) (hla _) n1 w1 hw0).mono (by omega)
   ·rw [show cf (bmI l i).q j + 0 = cf (bmI l i).q j by grind]
    exact (bm_over0 (D := D) (hq j) w1 hw0).mono (by omega)
  have hcn : c * w.natAbs ≤ 2 ^ bc (B + e) (i + 1) := Nat.le_trans (two_mul_le p3 w1) (two_mono (by omega))
  have hcp : 0 < c * w.natAbs := Nat.mul_pos p1 hpos
  rw [bmI]
  unfold bmStep
  split
  ·exact ⟨c, c', p1, p2, Nat.le_trans p3 (two_mono hm), fun j => (hq j).mono hm, fun j => (hla j).mono hm, hwa'.mono (by omega)⟩
  ·split
   ·exact ⟨c * w.natAbs, c, hcp, p1, hcn, hnew, fun j => (hq j).mono hm, hd'.mono (by omega)⟩
   ·exact ⟨c * w.natAbs, c', hcp, p2, hcn, hnew, fun j => (hla j).mono hm, hwa'.mono (by omega)⟩
theorem bm_CB2 {l : List Rat} {B e : Nat} (hl : CB B l) (he : l.length ≤ 2 ^ e) : CB (bc (B + e) l.length) (bmI l l.length).q := by
 obtain ⟨D, d1, d2, d3⟩ := hl
 obtain ⟨c, c', p1, p2, p3, hq, _⟩ := bm_BI d1 d2 d3 l.length he l.length (Nat.le_refl _)
 exact ⟨c, p1, p3, hq⟩
theorem comR_nil {p q : List Rat} (h : q.length = 0) : ∀ n, comR n p q = p
 | 0 => rfl
 | n + 1 => by rw [comR, if_neg (by omega)]
theorem comR_CB {M : Nat} : ∀ (n : Nat) (p q : List Rat) (N r s : Nat), PolQ p → PolQ q → q.length < n → 0 < q.length → CB N p → CB N q → N + 1 ≤ gb M r s →
  PolQ (comR n p q) ∧ ∃ r' s' N', CB N' (comR n p q) ∧ N' + 1 ≤ gb M r' s' ∧ r ≤ r' ∧ r' + (comR n p q).length ≤ r + q.length ∧ s' + (comR n p q).length ≤ s + max p.length q.length + (r' - r) := by
 intro n
 induction n with
 | zero => intro p q N r s _ _ h; omega
 | succ n ih =>
  intro p q N r s hp hq hn h0 hA hB hN
  rw [comR, if_pos h0]
  obtain ⟨hl, hr⟩ := partP_rest (p := p) hq h0
  by_cases hz : (partP p q).2.length = 0
  ·rw [comR_nil hz]
   exact ⟨hq, r, s, N, hB, hN, Nat.le_refl _, Nat.le_refl _, by omega⟩
  ·have hk : p.length + 1 ≤ q.length + (p.length + 1 - q.length) := by omega
   have c1 := (partP_CB h0 (hq h0) hA hB hp hk).2
   have g1 := gb_step (k := p.length + 1 - q.length) hN
   generalize hkk : p.length + 1 - q.length = k at *
   have hpw := two_pos k
   have c2 : CB (2 ^ k * (5 * N + 4)) (partP p q).2 := c1.mono (Nat.mul_le_mul_left _ (by omega))
   have c3 : CB (2 ^ k * (5 * N + 4)) q := hB.mono (Nat.le_trans (show N ≤ 5 * N + 4 by omega) (Nat.le_mul_of_pos_left _ hpw))
   obtain ⟨i1, r', s', N', i2, i3, i4, i5, i6⟩ := ih q (partP p q).2 _ (r + 1) (s + k) hq hr (by omega) (by omega) c3 c2 g1
   exact ⟨i1, r', s', N', i2, i3, by omega, by omega, by omega⟩
theorem part_one {p : List Rat} (hp : PolQ p) : (partP p [1]).1 = p := by
 have hq : PolQ ([1] : List Rat) := fun _ => by show (1 : Rat) ≠ 0; decide
 obtain ⟨hl, _⟩ := partP_rest (p := p) hq (by simp)
 have hz : (partP p [1]).2 = [] := List.length_eq_zero_iff.1 (by simp at hl; simp [hl])
 refine PolQ.ext (partP_pol _ _) hp fun i => ?_
 have := partP_law p [1] i
 rw [hz, cf_nil, cf_un, cv_comm, cv_un] at this
 grind
theorem sum_partsM {M : Nat} {p q : List Rat} (hp : PolQ p) (hq : PolQ q) (h0 : 0 < q.length) (lp : p.length ≤ 5) (lq : q.length ≤ 5) (hA : CB M p) (hB : CB M q) (hM : M ≤ 3300000) (hG : PolQ (comRP p q)) (hG0 : 0 < (comRP p q).length) (hG1 : cf (comRP p q) ((comRP p q).length - 1) = 1) :
  ∃ B, CB B (comRP p q) ∧ 2 ^ (p.length - (comRP p q).length + 1) * (M + 2 * B + 2) ≤ 17592186044416 ∧ 2 ^ (q.length - (comRP p q).length + 1) * (M + 2 * B + 2) ≤ 17592186044416 ∧ CB 1700000000000 (partP p (comRP p q)).1 ∧ CB 1700000000000 (partP q (comRP p q)).1 := by
 obtain ⟨i1, r', s', N', i2, i3, i4, i5, i6⟩ := comR_CB (M := M) (q.length + 1) p q M 0 0 hp hq (by omega) h0 hA hB (by rw [gb_zero]; exact Nat.le_refl _)
 have el : (comRP p q).length = (comR (q.length + 1) p q).length := scaledP_len i1
 by_cases h1 : (comRP p q).length = 1
 ·have e : comRP p q = [1] := by
   obtain ⟨x, hx⟩ := List.length_eq_one_iff.1 h1
   rw [hx] at hG1 ⊢
   have : x = 1 := hG1
   rw [this]
  rw [e, part_one hp, part_one hq]
  have t1 : (2 : Nat) ^ (p.length - ([1] : List Rat).length + 1) ≤ 2 ^ 5 := two_mono (by simp; omega)
  have t2 : (2 : Nat) ^ (q.length - ([1] : List Rat).length + 1) ≤ 2 ^ 5 := two_mono (by simp; omega)
  exact ⟨1, CB_one (QB_one 1), Nat.le_trans (Nat.mul_le_mul t1 (show M + 2 * 1 + 2 ≤ 3300004 by omega)) (by decide), Nat.le_trans (Nat.mul_le_mul t2 (show M + 2 * 1 + 2 ≤ 3300004 by omega)) (by decide), hA.mono (by omega), hB.mono (by omega)⟩
 ·have g1 : gb M r' s' ≤ gb M 3 6 := gb_mono (by omega) (by omega)
  have g2 : gb M 3 6 ≤ gb 3300000 3 6 := Nat.mul_le_mul_left _ (Nat.mul_le_mul_left _ (by omega))
  have g3 : gb 3300000 3 6 ≤ 26400008000 := by decide
  have hC : CB 52800016001 (comRP p q) := (scaledP_CB i2).mono (by omega)
  have t1 : (2 : Nat) ^ (p.length - (comRP p q).length + 1) ≤ 2 ^ 4 := two_mono (by omega)
  have t2 : (2 : Nat) ^ (q.length - (comRP p q).length + 1) ≤ 2 ^ 4 := two_mono (by omega)
  have kG : cf (comRP p q) ((comRP p q).length - 1) ≠ 0 := by rw [hG1]; decide
  have c1 := (partP_CB hG0 kG hA hC hp (k := 4) (by omega)).1
  have c2 := (partP_CB hG0 kG hB hC hq (k := 4) (by omega)).1
  exact ⟨52800016001, hC, Nat.le_trans (Nat.mul_le_mul t1 (show M + 2 * 52800016001 + 2 ≤ 105603332004 by omega)) (by decide), Nat.le_trans (Nat.mul_le_mul t2 (show M + 2 * 52800016001 + 2 ≤ 105603332004 by omega)) (by decide), c1.mono (by omega), c2.mono (by omega)⟩
theorem ev1_QB {l : List Rat} (c : CB 1700000000000 l) (hl : l.length ≤ 5) : QB 8500000000005 (evr l 1 l.length) := by
 have := evr_QB (n := l.length) c (QB_one 0) _ (Nat.le_refl _)
 have h2 : l.length * (1700000000000 + l.length * 0 + 1) ≤ 5 * (1700000000000 + 0 + 1) := Nat.mul_le_mul (by omega) (by omega)
 exact this.mono (Nat.le_trans h2 (by decide))
end Go.Proofs.YthoboehbadmlmaaGreat
end
section
namespace Go.Proofs.YthoboehbadmlmaaGreat
open Go Go.RowKit
attribute [local irreducible] XWP Spec SpecO XPub XCall seqX clX apX stX ldX iaX slX
theorem csum_m (V : View) (v u : Value) (P Q : List Raw) (M : Nat) (hv : Raws V v P) (hu : Raws V u Q) (fP : fitR P) (fQ : fitR Q) (lP : P.length ≤ 5) (lQ : Q.length ≤ 5) (aP : CB M (qs P)) (aQ : CB M (qs Q)) (hM : M ≤ 3300000) (e1 : rightP P = true) (e2 : rightP Q = true) (h0 : Q.length ≠ 0) :
  Spec Tryz.prog 32 [v, u] V fun v' V' => ∃ a b c, v' = .tuple #[.agg #[.bool a, b, c], .int .i64 (sumE P Q)] ∧ isOne b = true ∧ isOne c = true ∧ RatV V' (.agg #[.bool a, b, c]) (sumQ P Q) ∧ QF (sumQ P Q) := by
 obtain ⟨A1, c1, rfl, hc1, hm1⟩ := hv.form
 obtain ⟨A2, c2, rfl, hc2, hm2⟩ := hu.form
 have hbd : bad2 P Q = false := by unfold bad2; rw [e1, e2]; rfl
 refine (Spec.enter Tryz.func32 rfl fun Γ => ?_)
 simp only [Tryz.ntmps32, List.map_cons, List.map_nil, List.length_cons, List.length_nil, Nat.reduceAdd, Nat.reduceSub, List.replicate_succ, List.replicate_zero, List.cons_append, List.nil_append]
 refine Gx.a (by kernel_rfl) fun K hK => ?_
 simp only [XA, XB]
 refine hK _ ?_
 refine XWP.seq ?_
 refine Gx.a (by kernel_rfl) fun K hK => ?_
 simp only [XA]
 refine call_go (by kernel_rfl) rfl (cright_c _ _ _ hv fP (by omega)) fun v1 V1 hV1 h1 => ?_
 subst h1
 rw [e1]
 simp only [XA, gateX, ↓reduceIte, beq_self_eq_true]
 refine call_go (by kernel_rfl) rfl (cright_c _ _ _ (hu.up hV1) fQ (by omega)) fun v2 V2 hV2 h2 => ?_
 subst h2
 rw [e2]
 simp only [XA, gateX, ↓reduceIte, beq_self_eq_true]
 refine hK _ ?_
 refine Gx.f rfl ?_
 refine XWP.skip ?_
 have hV12 := View.le_trans hV1 hV2
 refine XWP.seq ?_
 have b1 : decide ((Q.length : Int) = 0) = false := decide_eq_false (by omega)
 refine Gx.a (by kernel_rfl) fun K hK => ?_
 simp only [XA, XB, b1]
 refine hK _ ?_
 refine Gx.f rfl ?_
 refine XWP.skip ?_
 have hP := (Raws.rats hv (rightP_parts e1).1).up hV12
 have hQ := (Raws.rats hu (rightP_parts e2).1).up hV12
 have pP := (rightP_parts e1).2.1
 have pQ := (rightP_parts e2).2.1
 have el := qs_len P
 have er := qs_len Q
 obtain ⟨_, _, pG, lG, kG⟩ := comRP_dv pP pQ (by omega)
 have kG' : cf (comRP (qs P) (qs Q)) ((comRP (qs P) (qs Q)).length - 1) ≠ 0 := by rw [kG]; decide
 have hgb : gb M Q.length (max P.length Q.length + Q.length) ≤ 17592186044416 := Nat.le_trans (gb_mono lQ (show _ ≤ 10 by omega)) (Nat.le_trans (show gb M 5 10 ≤ gb 3300000 5 10 from Nat.mul_le_mul_left _ (Nat.mul_le_mul_left _ (by omega))) (by decide))
 have hlg := comRP_len (qs P) pQ
 obtain ⟨B, cG, f1, g1, f3, g4⟩ := sum_partsM pP pQ (by omega) (by omega) (by omega) aP aQ hM pG lG kG
 have f5 := ev1_QB f3 (Nat.le_trans (partP_len lG kG') (by omega))
 have g6 := ev1_QB g4 (Nat.le_trans (partP_len lG kG') (by omega))
 have f4 := Nat.le_trans (partP_len (p := qs P) lG kG') (show _ ≤ 5 by omega)
 have g5 := Nat.le_trans (partP_len (p := qs Q) lG kG') (show _ ≤ 5 by omega)
 refine Gx.a (by kernel_rfl) fun K hK => ?_
 simp only [XA]
 refine call_go (by kernel_rfl) rfl (cCommon_c _ _ _ P Q (hv.up hV12) (hu.up hV12) fP fQ (by omega) (by omega) M (fun _ => ⟨aP, aQ⟩) hgb (by omega)) fun v3 V3 hV3 h3 => ?_
 obtain ⟨w3, rfl, h3, _⟩ := h3.2.2 hbd (by omega)
 rw [comP_same pQ] at h3
 simp only [XA]
 refine hK _ ?_
 refine Gx.a (by kernel_rfl) fun K hK => ?_
 simp only [XA]
 refine call_go (by kernel_rfl) rfl (cdiv_c _ _ _ _ _ M B (hP.up hV3) h3 aP cG lG kG' f1 (by omega) (by omega)) fun v4 V4 hV4 h4 => ?_
 obtain ⟨wa, wa', rfl, h4, _⟩ := h4
 rw [div_part lG kG'] at h4
 simp only [XA]
 refine hK _ ?_
 refine Gx.a (by kernel_rfl) fun K hK => ?_
 simp only [XA]
 refine call_go (by kernel_rfl) rfl (cdiv_c _ _ _ _ _ M B ((hQ.up hV3).up hV4) (h3.up hV4) aQ cG lG kG' g1 (by omega) (by omega)) fun v5 V5 hV5 h5 => ?_
 obtain ⟨wb, wb', rfl, h5, _⟩ := h5
 rw [div_part lG kG'] at h5
 simp only [XA]
 refine hK _ ?_
 have eA : (partP (qs P) (comRP (qs P) (qs Q))).1 = sumA P Q := rfl
 have eB : (partP (qs Q) (comRP (qs P) (qs Q))).1 = sumB P Q := rfl
 rw [eA] at h4 f3 f4 f5
 rw [eB] at h5 g4 g5 g6
 have f5 : QB 8500000000005 (ev1 (sumA P Q)) := f5
 have g6 : QB 8500000000005 (ev1 (sumB P Q)) := g6
 clear h3 cG kG kG' pG lG eA eB hlg f1 g1
 refine Gx.a (by kernel_rfl) fun K hK => ?_
 simp only [XA]
 refine call_go (by kernel_rfl) rfl (qone_c _) fun v6 V6 hV6 h6 => ?_
 simp only [XA]
 refine call_go (by kernel_rfl) rfl (eval_c _ _ _ _ _ 1700000000000 0 ((h4.up hV5).up hV6) h6 f3 (QB_one 0) (by omega) (Nat.le_trans (Nat.mul_le_mul (show (sumA P Q).length + 1 ≤ 6 by omega) (Nat.le_refl _)) (by decide))) fun v7 V7 hV7 h7 => ?_
 rw [hor_evr] at h7
 simp only [XA]
 refine call_go (by kernel_rfl) rfl (qone_c _) fun v8 V8 hV8 h8 => ?_
 simp only [XA]
 refine call_go (by kernel_rfl) rfl (eval_c _ _ _ _ _ 1700000000000 0 (((h5.up hV6).up hV7).up hV8) h8 g4 (QB_one 0) (by omega) (Nat.le_trans (Nat.mul_le_mul (show (sumB P Q).length + 1 ≤ 6 by omega) (Nat.le_refl _)) (by decide))) fun v9 V9 hV9 h9 => ?_
 rw [hor_evr] at h9
 simp only [XA]
 refine call_go (by kernel_rfl) rfl (qdiv_c _ _ _ _ _ (h7.mono (View.le_trans hV8 hV9)) h9 (f5.qf (by decide)) (g6.qf (by decide))) fun v10 V10 hV10 h10 => ?_
 by_cases hz : ev1 (sumB P Q) = 0
 ·have eE : sumE P Q = 31 := by unfold sumE; rw [if_neg (by rw [hbd]; decide), if_neg h0, if_pos hz]
  have eQ : sumQ P Q = 0 := sumQ_err (by rw [eE]; decide)
  rw [h10.1 hz]
  simp only [XA, XB]
  refine st_rat rfl rfl rfl rfl rfl ?_
  simp only [XA]
  refine hK _ ?_
  refine XWP.seq ?_
  refine Gx.a (by kernel_rfl) fun K hK => ?_
  simp only [XA, XB]
  refine hK _ ?_
  refine Gx.t rfl ?_
  refine Gx.a (by kernel_rfl) fun K hK => ?_
  simp only []
  refine bd_go (by kernel_rfl) #[] (by simp) bd_rat0 ?_
  simp only [XA]
  refine st_rat rfl rfl rfl rfl rfl ?_
  simp only [XA]
  refine hK _ (XWP.ret ?_)
  try simp only [thenX_ret, inBlockX_ret]
  exact ret_rat2 rfl rfl rfl rfl ⟨_, _, _, by rw [eE], rfl, rfl, by rw [eQ]; exact RatV.zero _, by rw [eQ]; exact QF_zero⟩
 have eE : sumE P Q = 0 := by unfold sumE; rw [if_neg (by rw [hbd]; decide), if_neg h0, if_neg hz]
 have eQ : sumQ P Q = ev1 (sumA P Q) / ev1 (sumB P Q) := if_pos eE
 have qQ : QF (ev1 (sumA P Q) / ev1 (sumB P Q)) := (f5.div g6).qf (by decide)
 obtain ⟨w10, rfl, h10q⟩ := h10.2 hz
 have h10 : RatC _ _ (ev1 (sumA P Q) / ev1 (sumB P Q)) := h10q
 obtain ⟨x, y, rfl, o1, o2⟩ := h10.form
 simp only [XA, XB]
 refine st_rat rfl rfl rfl o1 o2 ?_
 simp only [XA]
 refine hK _ ?_
 refine XWP.seq ?_
 refine Gx.a (by kernel_rfl) fun K hK => ?_
 simp only [XA, XB, decide_true]
 refine hK _ ?_
 refine Gx.f rfl ?_
 refine XWP.skip ?_
 refine Gx.a (by kernel_rfl) fun K hK => ?_
 simp only [XA, XB, Nat.reduceAdd, Nat.reduceLeDiff, ↓reduceIte]
 refine st_rat rfl rfl rfl o1 o2 ?_
 simp only [XA]
 refine hK _ (XWP.ret ?_)
 try simp only [thenX_ret, inBlockX_ret]
 exact ret_rat2 rfl rfl rfl rfl ⟨_, _, _, by rw [eE], o1, o2, by rw [eQ]; exact h10.toV qQ, by rw [eQ]; exact qQ⟩
end Go.Proofs.YthoboehbadmlmaaGreat
end
section
namespace Go.Proofs.YthoboehbadmlmaaGreat
theorem cv_over {f g : Nat → Rat} {D E A B : Nat} (hD : 0 < D) (hE : 0 < E) (hf : ∀ i, Over D A (f i)) (hg : ∀ i, Over E B (g i)) (n : Nat) : ∀ k, Over (D * E) (A + B + k) (Sm (fun j => f j * g (n - j)) k)
 | 0 => Over.zero _ _
 | k + 1 => by
  have h1 := (hf k).mul (hg (n - k))
  exact (cv_over hD hE hf hg n k).add (Nat.mul_pos hD hE) (h1.mono (show A + B ≤ A + B + k by omega))
theorem frP_CB2 {C B : Nat} {l a : List Rat} (hl : CB C l) (ha : CB B a) : CB (C + B + a.length) (frP l a) := by
 obtain ⟨D, d1, d2, d3⟩ := hl.take a.length
 obtain ⟨E, e1, e2, e3⟩ := frQ_CB ha
 refine ⟨D * E, Nat.mul_pos d1 e1, Nat.le_trans (two_mul_le d2 e2) (two_mono (by omega)), fun i => ?_⟩
 rw [cf_frP]
 split
 ·exact (cv_over d1 e1 d3 e3 i (i + 1)).mono (by omega)
 ·exact Over.zero _ _
theorem frP_len (l a : List Rat) : (frP l a).length ≤ a.length := by
 unfold frP
 refine Nat.le_trans (trimQ_len _) ?_
 rw [List.length_take]
 omega
theorem stepv_over {a p : List Rat} {n A C D E : Nat} (h : a.length = n) (hD : 0 < D) (hE : 0 < E) (hp : ∀ i, Over D A (cf p i)) (ha : ∀ i, Over E C (cf a i)) : ∀ k i, Over (E * D ^ k) (C + k * (A + n)) (cf (stepv a p n k) i)
 | 0, i => by rw [Nat.pow_zero, Nat.mul_one, Nat.zero_mul, Nat.add_zero]; exact ha i
 | k + 1, i => by
  show Over _ _ (cf (thr (stepv a p n k) p n) i)
  unfold thr
  rw [cf_mk]
  split
  ·have := tS_over (Nat.mul_pos hE (Nat.pow_pos hD)) hD (stepv_over h hD hE hp ha k) hp n i (stepv a p n k).length
   rw [stepv_len h, Nat.mul_assoc, ← Nat.pow_succ] at this
   rw [stepv_len h]
   exact this.mono (show C + k * (A + n) + A + n ≤ C + (k + 1) * (A + n) by rw [Nat.add_mul]; omega)
  ·exact Over.zero _ _
theorem endsL_CB {a p q : List Rat} {n m x N A B C : Nat} (h : a.length = n) (hp : CB A p) (hq : CB B q) (ha : CB C a) : CB (C + N * (A + n) + B + n) (endsL a p q n m x (N + 1)) := by
 obtain ⟨D, d1, d2, d3⟩ := hp
 obtain ⟨F, f1, f2, f3⟩ := hq
 obtain ⟨E, e1, e2, e3⟩ := ha
 have dp : D ^ N ≤ 2 ^ (A * N) := by rw [Nat.pow_mul]; exact Nat.pow_le_pow_left d2 N
 refine ⟨E * D ^ N * F, Nat.mul_pos (Nat.mul_pos e1 (Nat.pow_pos d1)) f1, Nat.le_trans (two_mul_le (two_mul_le e2 dp) f2) (two_mono (by rw [Nat.mul_add, Nat.mul_comm A]; omega)), fun k => ?_⟩
 unfold endsL
 rw [cf_mk]
 split
 ·rename_i hk
  unfold thr
  rw [cf_mk]
  split
  ·have h1 := tS_over (Nat.mul_pos e1 (Nat.pow_pos d1)) f1 (stepv_over h d1 e1 d3 e3 k) f3 m x (stepv a p n k).length
   have d4 : D ^ (N - k) ≤ 2 ^ (A * (N - k)) := by rw [Nat.pow_mul]; exact Nat.pow_le_pow_left d2 _
   have h2 := h1.scale (Nat.pow_pos (n := N - k) d1) d4
   have e : E * D ^ k * F * D ^ (N - k) = E * D ^ N * F := by
    rw [Nat.mul_assoc, Nat.mul_comm F, ← Nat.mul_assoc, Nat.mul_assoc E, ← Nat.pow_add, show k + (N - k) = N by omega]
   rw [stepv_len h] at h2 ⊢
   rw [e] at h2
   refine h2.mono ?_
   have : N * (A + n) = k * (A + n) + (N - k) * (A + n) := by rw [← Nat.add_mul, show k + (N - k) = N by omega]
   rw [this, Nat.mul_add (N - k), Nat.mul_comm A]
   omega
  ·exact Over.zero _ _
 ·exact Over.zero _ _
theorem pwr_one : ∀ k, pwr 1 k = 1
 | 0 => rfl
 | k + 1 => by show pwr 1 k * 1 = 1; rw [pwr_one k]; grind
theorem ev1_Sm (l : List Rat) : ev1 l = Sm (cf l) l.length := by
 unfold ev1
 rw [evr_Sm]
 exact Sm_congr _ fun j _ => by rw [pwr_one]; grind
theorem sum_fr {p q : List Rat} {A B : Nat} {u : Rat} (hp : PolQ p) (hq : PolQ q) (l1 : p.length ≤ 500) (l2 : q.length ≤ 500) (h0 : cf q 0 ≠ 0) (hA : p.length ≤ A) (hB : q.length ≤ B) (hq1 : Sm (cf q) B ≠ 0) (hu : Sm (cf p) A = u * Sm (cf q) B) :
  rightP (p.map toRaw) = true ∧ rightP (q.map toRaw) = true ∧ (q.map toRaw).length ≠ 0 ∧ sumE (p.map toRaw) (q.map toRaw) = 0 ∧ sumQ (p.map toRaw) (q.map toRaw) = u := by
 have r1 := right_toRaw hp l1
 have r2 := right_toRaw hq l2
 have hl : 0 < q.length := by
  rcases Nat.eq_zero_or_pos q.length with e | e
  ·exact absurd (cf_none (l := q) (i := 0) (by omega)) h0
  ·exact e
 obtain ⟨d1, d2, pG, lG, kG⟩ := comRP_dv hp hq (.inr hl)
 have z1 := part_dv pG lG d1
 have z2 := part_dv pG lG d2
 obtain ⟨G, hG⟩ : ∃ G, G = comRP p q := ⟨_, rfl⟩
 obtain ⟨a, ha⟩ : ∃ a, a = (partP p G).1 := ⟨_, rfl⟩
 obtain ⟨b, hb⟩ : ∃ b, b = (partP q G).1 := ⟨_, rfl⟩
 rw [← hG] at z1 z2
 have e1 : cf p = cv (cf G) (cf a) := funext fun i => by
  have := partP_law p G i
  rw [z1, cf_nil, ← ha] at this
  grind
 have e2 : cf q = cv (cf G) (cf b) := funext fun i => by
  have := partP_law q G i
  rw [z2, cf_nil, ← hb] at this
  grind
 have t1 := (tot_cv (f := cf G) (g := cf a) (A := G.length) (B := a.length) (fun j hj => cf_none hj) fun j hj => cf_none hj).2 (A + G.length + a.length) (by omega)
 have t2 := (tot_cv (f := cf G) (g := cf b) (A := G.length) (B := b.length) (fun j hj => cf_none hj) fun j hj => cf_none hj).2 (B + G.length + b.length) (by omega)
 rw [← e1, Sm_stop (A := A) (fun j hj => cf_none (by omega)) (by omega), ← ev1_Sm, ← ev1_Sm] at t1
 rw [← e2, Sm_stop (A := B) (fun j hj => cf_none (by omega)) (by omega), ← ev1_Sm, ← ev1_Sm] at t2
 rw [t2] at hq1 hu
 rw [t1] at hu
 have g1 : ev1 G ≠ 0 := fun h => hq1 (by rw [h]; grind)
 have g2 : ev1 b ≠ 0 := fun h => hq1 (by rw [h]; grind)
 have g3 : ev1 a = u * ev1 b := by
  have : ev1 G * (ev1 a - u * ev1 b) = 0 := by grind
  rcases Rat.mul_eq_zero.1 this with g | g
  ·exact absurd g g1
  ·grind
 have eA : sumA (p.map toRaw) (q.map toRaw) = a := by unfold sumA sumG; rw [qs_toRaw, qs_toRaw, ha, hG]
 have eB : sumB (p.map toRaw) (q.map toRaw) = b := by unfold sumB sumG; rw [qs_toRaw, qs_toRaw, hb, hG]
 have hbad : bad2 (p.map toRaw) (q.map toRaw) = false := by unfold bad2; rw [r1, r2]; rfl
 have hlen : (q.map toRaw).length ≠ 0 := by rw [List.length_map]; omega
 have eE : sumE (p.map toRaw) (q.map toRaw) = 0 := by
  unfold sumE
  rw [if_neg (by rw [hbad]; decide), if_neg hlen, eB, if_neg g2]
 refine ⟨r1, r2, hlen, eE, ?_⟩
 unfold sumQ
 rw [if_pos eE, eA, eB, g3]
 grind
theorem chain_out {n m x : Nat} {L1 L2 S : List Rat} {R : Nat → Bool} {F : Grid} (hS : S.length = n) (hn : n ≤ 4) (hx : x < m) (hrows : rowsB n m L1 L2 n = true) (hRe : Reach (gridL L1 n) (gridL L2 m) n m R) (hF : ∀ i c, i < n → c < m → F i c = gridL L2 m i c + Sm (fun k => gridL L1 n i k * F k c) n) (hz : ∀ i c, R i = false → F i c = 0) :
  let l := endsL S L1 L2 n m x (2 * n)
  let a := bmOut (bmI l l.length)
  a.length ≤ n ∧ 2 * (bmI l l.length).size ≤ l.length ∧ nextP l a 5 = (endsL S L1 L2 n m x (2 * n + 5)).drop (2 * n) ∧ nxI l a 5 = endsL S L1 L2 n m x (2 * n + 5) ∧ rightP ((frP l a).map toRaw) = true ∧ rightP ((trimQ (frQ a)).map toRaw) = true ∧ ((trimQ (frQ a)).map toRaw).length ≠ 0 ∧
   sumE ((frP l a).map toRaw) ((trimQ (frQ a)).map toRaw) = 0 ∧ sumQ ((frP l a).map toRaw) ((trimQ (frQ a)).map toRaw) = cf (thr S (flatG F n m) m) x := by
 intro l a
 obtain ⟨nm, ne, ns⟩ := chn_nums hrows
 obtain ⟨D, hD, hD1, hDs⟩ := chain_rec (s := cf S) (e := fun i => gridL L2 m i x) (f := fun i => F i x) (fun i hi => hF i x hi hx) hRe.clos (fun i _ hR => hz i x hR) (hRe.chn nm ne ns).uni
 have el : l = mk (2 * n) (outW S L1 L2 n m x) := endsL_out hS hx (2 * n)
 have ll : l.length = 2 * n := by rw [el]; exact mk_len _ _
 have ea : a = bmOut (bmI (mk (2 * n) (outW S L1 L2 n m x)) (2 * n)) := by show bmOut (bmI l l.length) = _; rw [ll, el]
 obtain ⟨p1, p2, p3, p4, p5⟩ := sum_rec (l := outW S L1 L2 n m x) hD hD1 hDs
 rw [← ea] at p1 p3 p4 p5
 rw [← el] at p2 p3 p5
 have hnx : nxI l a 5 = endsL S L1 L2 n m x (2 * n + 5) := by rw [p3, endsL_out hS hx]
 have hq : ∀ N, Sm (cf (trimQ (frQ a))) N = Sm (cf (frQ a)) N := fun N => Sm_congr _ fun j _ => by rw [cf_trimQ]
 have lq := trimQ_len (frQ a)
 rw [frQ_len] at lq
 have lp := frP_len l a
 obtain ⟨s1, s2, s3, s4, s5⟩ := sum_fr (p := frP l a) (q := trimQ (frQ a)) (A := a.length) (B := a.length + 1) (u := Sm (fun i => cf S i * F i x) n) (by unfold frP; exact trimQ_pol _) (trimQ_pol _) (by omega) (by omega) (by rw [cf_trimQ, cf_frQ0]; exact one_ne) lp lq (by rw [hq]; exact p4) (by rw [hq]; exact p5)
 refine ⟨p1, by rw [ll]; exact p2, by unfold nextP; rw [hnx, ll], hnx, s1, s2, s3, s4, ?_⟩
 rw [s5]
 unfold thr
 rw [cf_mk, if_pos hx, tS_Sm, hS]
 exact Sm_congr _ fun j hj => by rw [flatG_at F hj hx]
theorem chr_rec {n : Nat} (M : Grid) (v s : Nat → Rat) : ∃ D, Rec (fun k => Sm (fun i => s i * itv M v n k i) n) D n := by
 obtain ⟨c, β, hch⟩ := chr_of M n
 have hc1 := hch.top
 have hroot : ∀ i j, i < n → j < n → horG M (mk (n + 1) c) n (n + 1) i j = 0 := fun i j hi hj => root_own hch hi hj
 obtain ⟨u, hu⟩ : ∃ u : Nat → Rat, u = fun k => Sm (fun i => s i * itv M v n k i) n := ⟨_, rfl⟩
 obtain ⟨D, hD⟩ : ∃ D : Nat → Rat, D = fun j => if j ≤ n then c (n - j) else 0 := ⟨_, rfl⟩
 have hD0 : D 0 = 1 := by rw [hD]; show (if 0 ≤ n then c (n - 0) else 0) = 1; rw [if_pos (Nat.zero_le _), Nat.sub_zero, hc1]
 have hDt : ∀ j, n < j → D j = 0 := fun j hj => by rw [hD]; show (if j ≤ n then _ else _) = (0 : Rat); rw [if_neg (by omega)]
 have hpow : ∀ i j, i < n → j < n → Sm (fun t => powG M n t i j * c t) (n + 1) = 0 := fun i j hi hj => by
  have h1 := horG_val M (mk (n + 1) c) n hi hj
  rw [mk_len, hroot i j hi hj, valG_Sm] at h1
  rw [h1]
  exact Sm_congr _ fun t ht => by rw [cf_mk, if_pos ht]
 have hcu : ∀ k, Sm (fun t => c t * u (t + k)) (n + 1) = 0 := fun k => by
  rw [hu]
  have e1 : Sm (fun t => c t * Sm (fun i => s i * itv M v n (t + k) i) n) (n + 1) = Sm (fun t => Sm (fun i => s i * Sm (fun j => itv M v n k j * (powG M n t i j * c t)) n) n) (n + 1) := Sm_congr _ fun t _ => by
   rw [← Sm_mul]
   refine Sm_congr _ fun i hi => ?_
   rw [itv_pow _ _ _ _ t i hi]
   have : c t * (s i * Sm (fun j => powG M n t i j * itv M v n k j) n) = s i * (c t * Sm (fun j => powG M n t i j * itv M v n k j) n) := by grind
   rw [this, ← Sm_mul]
   congr 1
   exact Sm_congr _ fun j _ => by grind
  rw [e1, Sm_swap (fun t i => s i * Sm (fun j => itv M v n k j * (powG M n t i j * c t)) n)]
  refine Sm_zero _ fun i hi => ?_
  rw [Sm_mul, Sm_swap (fun t j => itv M v n k j * (powG M n t i j * c t))]
  rw [Sm_zero _ fun j hj => by rw [Sm_mul, hpow i j hi hj]; grind]
  grind
 have hcvu : ∀ K, n ≤ K → cv D u K = 0 := fun K hK => by
  show Sm (fun j => D j * u (K - j)) (K + 1) = 0
  rw [Sm_more (f := fun j => D j * u (K - j)) (n := n + 1) (by omega) fun j h1 _ => by rw [hDt j (by omega)]; grind]
  have h1 := hcu (K - n)
  rw [← Sm_rev] at h1
  rw [← h1]
  refine Sm_congr _ fun j hj => ?_
  rw [hD]
  show (if j ≤ n then c (n - j) else 0) * u (K - j) = c (n + 1 - 1 - j) * u (n + 1 - 1 - j + (K - n))
  rw [if_pos (by omega), show n + 1 - 1 - j = n - j by omega, show n - j + (K - n) = K - j by omega]
 exact ⟨D, by rw [← hu]; exact ⟨hD0, hDt, hcvu⟩⟩
theorem short_rec {l D : Nat → Rat} {n : Nat} (h : Rec l D n) :
  let a := bmOut (bmI (mk (2 * n) l) (2 * n))
  a.length ≤ n ∧ 2 * (bmI (mk (2 * n) l) (2 * n)).size ≤ 2 * n ∧ ∀ N, nxI (mk (2 * n) l) a N = mk (2 * n + N) l := by
 intro a
 have h2 : (mk (2 * n) l).length = 2 * n := mk_len _ _
 have hcf : ∀ i, i < 2 * n → cf (mk (2 * n) l) i = l i := fun i hi => by rw [cf_mk, if_pos hi]
 have hg := h.gen (2 * n) hcf
 have hsz : (bmI (mk (2 * n) l) (2 * n)).size ≤ n := bm_least _ (2 * n) hg (2 * n) (Nat.le_refl _)
 have ha : a.length = (bmI (mk (2 * n) l) (2 * n)).size := bmOut_len _
 have hga : Gen (cf (mk (2 * n) l)) (cf (frQ a)) a.length (2 * n) := by
  have := bm_out_gen (mk (2 * n) l)
  rw [h2] at this
  exact this
 have hgd : Gen (cf (mk (2 * n) l)) (cf (frQ (recL D n))) (recL D n).length (2 * n) := by rw [frQ_recL h, recL_len]; exact hg
 refine ⟨by omega, by omega, fun N => ?_⟩
 rw [nx_same (b := recL D n) (by rw [h2]; exact hga) (by rw [h2]; exact hgd) (by rw [recL_len, h2]; omega) N]
 exact nx_rec h (by omega) N
theorem chain_next {n m x : Nat} {L1 L2 S : List Rat} (hS : S.length = n) (hx : x < m) :
  let l := endsL S L1 L2 n m x (2 * n)
  let a := bmOut (bmI l l.length)
  a.length ≤ n ∧ 2 * (bmI l l.length).size ≤ l.length ∧ nxI l a 5 = endsL S L1 L2 n m x (2 * n + 5) := by
 intro l a
 obtain ⟨D, hD⟩ := chr_rec (gridL L1 n) (fun i => gridL L2 m i x) (cf S) (n := n)
 have el : l = mk (2 * n) (outW S L1 L2 n m x) := endsL_out hS hx (2 * n)
 have ll : l.length = 2 * n := by rw [el]; exact mk_len _ _
 have ea : a = bmOut (bmI (mk (2 * n) (outW S L1 L2 n m x)) (2 * n)) := by show bmOut (bmI l l.length) = _; rw [ll, el]
 obtain ⟨p1, p2, p3⟩ := short_rec (l := outW S L1 L2 n m x) hD
 rw [← ea] at p1 p3
 rw [← el] at p2 p3
 exact ⟨p1, by rw [ll]; exact p2, by rw [p3, endsL_out hS hx]⟩
end Go.Proofs.YthoboehbadmlmaaGreat
end
section
namespace Go.Proofs.YthoboehbadmlmaaGreat
open Go Go.RowKit
attribute [local irreducible] XWP Spec SpecO XPub XCall seqX clX apX stX ldX iaX slX
theorem bc_num : bc (12704 + 3) 8 ≤ 3240600 := by decide
theorem bb_num8 : bb (12704 + 3) 8 + 12704 + 3 + 2 ≤ 17592186044416 := by decide
theorem endsE_ok {n m x N : Nat} {L1 L2 S : List Raw} (h1 : chB n n L1 n m L2 = true) (h2 : wtB n S = true) (hx : x < m) (hN : N ≤ 400) : endsE n n L1 n m L2 S x N = 0 := by
 unfold endsE
 rw [if_neg (by rw [h1, h2]; simp; omega), if_neg (by omega)]
theorem listsE_ok {l a : List Rat} {N : Int} (h1 : l.length ≤ 400) (h2 : a.length ≤ l.length) (h3 : 0 ≤ N) (h4 : N ≤ 400) : listsE (l.map toRaw) (a.map toRaw) N = 0 := by
 unfold listsE
 rw [okR_toRaw, okR_toRaw, List.length_map, List.length_map, if_neg (by simp), if_neg (by omega), if_neg (by omega)]
set_option maxHeartbeats 8000000 in
theorem chains_c (V : View) (s1 s2 v : Value) (r1 c1 r2 c2 : Int) (L01 L02 S0 : List Raw) (x : Int) (h1 : Raws V s1 L01) (h2 : Raws V s2 L02) (hv : Raws V v S0) :
  Spec Tryz.prog 5 [.agg #[.int .i64 r1, .int .i64 c1, s1, .int .i64 r2, .int .i64 c2, s2], v, .int .i64 x] V fun v' V' => v' = .bool true := by
 obtain ⟨A1, q1, rfl, _, _⟩ := h1.form
 obtain ⟨A2, q2, rfl, _, _⟩ := h2.form
 refine (Spec.enterR Tryz.func5 rfl fun Γ hΓ => ?_)
 simp only [Tryz.ntmps5, List.map_cons, List.map_nil, List.length_cons, List.length_nil, Nat.reduceAdd, Nat.reduceSub, List.replicate_succ, List.replicate_zero, List.cons_append, List.nil_append]
 refine Gx.a (by kernel_rfl) fun K hK => ?_
 simp only [XA]
 refine hK _ ?_
 refine Gx.a (by kernel_rfl) fun K hK => ?_
 simp only [XM, XA, Nat.reduceAdd, Nat.reduceLeDiff, ↓reduceIte]
 refine call_go (by kernel_rfl) rfl (chained_c _ _ _ _ r1 c1 r2 c2 L01 L02 S0 h1 h2 hv) fun v1 V1 hV1 g1 => ?_
 obtain ⟨w1, w2, u, rfl, k1, k2, k3⟩ := g1
 clear h1 h2 hv
 have fL1 := fewL_few L01 100
 have lL1 := fewL_len L01 100
 have fL2 := fewL_few L02 100
 have lL2 := fewL_len L02 100
 have fS := fewL_few S0 20
 have lS := fewL_len S0 20
 generalize fewL L01 100 = L1 at *
 generalize fewL L02 100 = L2 at *
 generalize fewL S0 20 = S at *
 obtain ⟨B1, d1, rfl, _, _⟩ := k1.form
 obtain ⟨B2, d2, rfl, _, _⟩ := k2.form
 obtain ⟨B3, d3, rfl, _, _⟩ := k3.form
 have aL1 : CB 9600 (qs L1) := fewR_CBn fL1 (Raws.dig k1) lL1 9600 rfl
 have aL2 : CB 9600 (qs L2) := fewR_CBn fL2 (Raws.dig k2) lL2 9600 rfl
 have bL1 := fewR_QB fL1 (Raws.dig k1)
 have bL2 := fewR_QB fL2 (Raws.dig k2)
 have bS := fewR_QB fS (Raws.dig k3)
 have dL1 := Raws.dig k1
 have dL2 := Raws.dig k2
 have dS := Raws.dig k3
 simp only [XA]
 refine st_six shapeT_57 rfl rfl rfl ?_
 simp only [XA]
 refine hK _ ?_
 refine XWP.seq ?_
 by_cases hok : r1 ≤ 5 ∧ c2 ≤ 4
 rotate_left
 ·have b1 : (decide (r1 ≤ 5) && decide (c2 ≤ 4)) = false := by
   rw [Bool.and_eq_false_iff, decide_eq_false_iff_not, decide_eq_false_iff_not]
   omega
  rw [b1]
  refine Gx.a (by kernel_rfl) fun K hK => ?_
  simp only [XA, gateX, ↓reduceIte]
  refine hK _ ?_
  refine Gx.t rfl ?_
  refine Gx.a (by kernel_rfl) fun K hK => ?_
  simp only [XA]
  refine call_go (by kernel_rfl) rfl (alive_c _) fun v2 V2 hV2 g2 => ?_
  subst g2
  simp only [XA]
  refine hK _ (XWP.ret ?_)
  try simp only [thenX_ret, inBlockX_ret]
  refine ret_go _ rfl ?_
  rfl
 have b1 : (decide (r1 ≤ 5) && decide (c2 ≤ 4)) = true := by rw [decide_eq_true hok.1, decide_eq_true hok.2]; rfl
 rw [b1]
 refine Gx.a (by kernel_rfl) fun K hK => ?_
 simp only [XM, XA, gateX, Nat.reduceAdd, Nat.reduceLeDiff, ↓reduceIte, beq_self_eq_true]
 refine call_go (by kernel_rfl) rfl (of_c' _ _ _ r1 c1 r2 c2 rfl rfl) fun v2 V2 hV2 g2 => ?_
 subst g2
 simp only [XA, gateX, ↓reduceIte, beq_self_eq_true]
 refine call_go (by kernel_rfl) rfl (dchright_c _ _ _ r1 c1 r2 c2 L1 L2 (k1.up hV2) (k2.up hV2) fL1.fit fL2.fit (by omega) (by omega) 9600 9600 (fun _ => aL1) (fun _ => aL2) (by omega)) fun v3 V3 hV3 g3 => ?_
 subst g3
 cases e1 : chB r1 c1 L1 r2 c2 L2
 ·simp only [XA, gateX, ↓reduceIte, beq_self_eq_true]
  refine hK _ ?_
  refine Gx.t rfl ?_
  refine Gx.a (by kernel_rfl) fun K hK => ?_
  simp only [XA]
  refine call_go (by kernel_rfl) rfl (alive_c _) fun v4 V4 hV4 g4 => ?_
  subst g4
  simp only [XA]
  refine hK _ (XWP.ret ?_)
  try simp only [thenX_ret, inBlockX_ret]
  refine ret_go _ rfl ?_
  rfl
 simp only [XM, XA, XB, gateX, ↓reduceIte, beq_self_eq_true]
 refine call_go (by kernel_rfl) rfl (dweights_c _ _ S r1 ((k3.up hV2).up hV3) fS.fit (by omega) (fewR_qf fS dS)) fun v4 V4 hV4 g4 => ?_
 subst g4
 cases e2 : wtB r1 S
 ·simp only [XA, gateX, ↓reduceIte, beq_self_eq_true]
  refine hK _ ?_
  refine Gx.t rfl ?_
  refine Gx.a (by kernel_rfl) fun K hK => ?_
  simp only [XA]
  refine call_go (by kernel_rfl) rfl (alive_c _) fun v5 V5 hV5 g5 => ?_
  subst g5
  simp only [XA]
  refine hK _ (XWP.ret ?_)
  try simp only [thenX_ret, inBlockX_ret]
  refine ret_go _ rfl ?_
  rfl
 by_cases y1 : x < 0
 ·have t1 : decide (x < 0) = true := decide_eq_true y1
  simp only [XA, XB, gateX, ↓reduceIte, beq_self_eq_true, t1]
  refine hK _ ?_
  refine Gx.t rfl ?_
  refine Gx.a (by kernel_rfl) fun K hK => ?_
  simp only [XA]
  refine call_go (by kernel_rfl) rfl (alive_c _) fun v5 V5 hV5 g5 => ?_
  subst g5
  simp only [XA]
  refine hK _ (XWP.ret ?_)
  try simp only [thenX_ret, inBlockX_ret]
  refine ret_go _ rfl ?_
  rfl
 have t1 : decide (x < 0) = false := decide_eq_false y1
 by_cases y2 : c2 ≤ x
 ·have t2 : decide (c2 ≤ x) = true := decide_eq_true y2
  simp only [XM, XA, XB, gateX, Nat.reduceAdd, ↓reduceIte, beq_self_eq_true, t1, t2]
  refine hK _ ?_
  refine Gx.t rfl ?_
  refine Gx.a (by kernel_rfl) fun K hK => ?_
  simp only [XA]
  refine call_go (by kernel_rfl) rfl (alive_c _) fun v5 V5 hV5 g5 => ?_
  subst g5
  simp only [XA]
  refine hK _ (XWP.ret ?_)
  try simp only [thenX_ret, inBlockX_ret]
  refine ret_go _ rfl ?_
  rfl
 have t2 : decide (c2 ≤ x) = false := decide_eq_false y2
 by_cases y3 : 4 < r1
 ·have t3 : decide (4 < r1) = true := decide_eq_true y3
  simp only [XM, XA, XB, gateX, Nat.reduceAdd, ↓reduceIte, beq_self_eq_true, t1, t2, t3]
  refine hK _ ?_
  refine Gx.t rfl ?_
  refine Gx.a (by kernel_rfl) fun K hK => ?_
  simp only [XA]
  refine call_go (by kernel_rfl) rfl (alive_c _) fun v5 V5 hV5 g5 => ?_
  subst g5
  simp only [XA]
  refine hK _ (XWP.ret ?_)
  try simp only [thenX_ret, inBlockX_ret]
  refine ret_go _ rfl ?_
  rfl
 have t3 : decide (4 < r1) = false := decide_eq_false y3
 simp only [XM, XA, XB, gateX, Nat.reduceAdd, ↓reduceIte, beq_self_eq_true, t1, t2, t3]
 refine hK _ ?_
 refine Gx.f rfl ?_
 refine XWP.skip ?_
 obtain ⟨n, m, rfl, rfl, rfl, rfl, hn, hm, e11, e12, o1, o2, hrows⟩ := chB_inv e1
 obtain ⟨x, rfl⟩ := Int.eq_ofNat_of_zero_le (Int.not_lt.1 y1)
 have hV14 := View.le_trans hV2 (View.le_trans hV3 hV4)
 have k1 := k1.up hV14
 have k2 := k2.up hV14
 have k3 := k3.up hV14
 clear hV1 hV2 hV3 hV4 hV14 b1 t1 t2 t3
 have hn4 : n ≤ 4 := by omega
 have hm4 : m ≤ 4 := by omega
 have hxm : x < m := by omega
 clear y1 y2 y3 hok
 obtain ⟨ea, o3, _⟩ := wtB_parts e2
 have lSn : S.length = n := by rw [← qs_len S]; exact ea
 have hnn : n * n ≤ 16 := Nat.le_trans (Nat.mul_le_mul hn4 hn4) (by decide)
 have hnm : n * m ≤ 16 := Nat.le_trans (Nat.mul_le_mul hn4 hm4) (by decide)
 have cL1 : CB 1536 (qs L1) := fewR_CBn fL1 dL1 (show L1.length ≤ 16 by omega) 1536 rfl
 have cL2 : CB 1536 (qs L2) := fewR_CBn fL2 dL2 (show L2.length ≤ 16 by omega) 1536 rfl
 have cS : CB 384 (qs S) := fewR_CBn fS dS (show S.length ≤ 4 by omega) 384 rfl
 have hst : ∀ k, k ≤ 13 → CB 20404 (stepv (qs S) (qs L1) n k) := fun k hk => (stepv_CB ea cL1 cS k).mono (by
  have := Nat.mul_le_mul hk (show 1536 + n ≤ 1540 by omega)
  omega)
 have w2n : IntKind.i64.wrap (2 * (n : Int)) = ((2 * n : Nat) : Int) := by rw [wrap_id (by omega) (by omega)]; omega
 have w2n5 : IntKind.i64.wrap (((2 * n : Nat) : Int) + 5) = ((2 * n + 5 : Nat) : Int) := by rw [wrap_id (by omega) (by omega)]; omega
 have E1 := endsE_ok (N := 2 * n) e1 e2 hxm (by omega)
 have E2 := endsE_ok (N := 2 * n + 5) e1 e2 hxm (by omega)
 obtain ⟨l, hl⟩ : ∃ l, l = endsL (qs S) (qs L1) (qs L2) n m x (2 * n) := ⟨_, rfl⟩
 obtain ⟨ll, hll⟩ : ∃ l, l = endsL (qs S) (qs L1) (qs L2) n m x (2 * n + 5) := ⟨_, rfl⟩
 have len_l : l.length = 2 * n := by rw [hl]; exact mk_len _ _
 have len_ll : ll.length = 2 * n + 5 := by rw [hll]; exact mk_len _ _
 have cl : CB 12704 l := by
  rcases Nat.eq_zero_or_pos n with h | h
  ·rw [List.length_eq_zero_iff.1 (show l.length = 0 by omega)]; exact CB_nil _
  ·have := endsL_CB (m := m) (x := x) (N := 2 * n - 1) ea cL1 cL2 cS
   rw [show 2 * n - 1 + 1 = 2 * n by omega, ← hl] at this
   refine this.mono ?_
   have := Nat.mul_le_mul (show 2 * n - 1 ≤ 7 by omega) (show 1536 + n ≤ 1540 by omega)
   omega
 have cll : CB 22000 ll := by
  have := endsL_CB (m := m) (x := x) (N := 2 * n + 4) ea cL1 cL2 cS
  rw [show 2 * n + 4 + 1 = 2 * n + 5 by omega, ← hll] at this
  refine this.mono ?_
  have := Nat.mul_le_mul (show 2 * n + 4 ≤ 12 by omega) (show 1536 + n ≤ 1540 by omega)
  omega
 refine XWP.seq ?_
 refine Gx.c (by kernel_rfl) fun K hK => ?_
 simp only [XM, XA, XB]
 refine hK _ ?_
 refine Gx.a (by kernel_rfl) fun K hK => ?_
 simp only [XM, XA, XB, Nat.reduceAdd, Nat.reduceLeDiff, ↓reduceIte]
 simp only [w2n]
 refine call_go (by kernel_rfl) rfl (cends_c _ _ _ _ (n : Int) n n m L1 L2 S x ((2 * n : Nat) : Int) k1 k2 k3 fL1.fit fL2.fit fS.fit (by omega) (by omega) (by omega) 1536 1536 20404 (fun _ => cL1) (fun _ => cL2) (fun _ k hk => hst k (by omega)) (by omega)) fun v5 V5 hV5 g5 => ?_
 obtain ⟨wl, rfl, hwl⟩ := g5.2 E1
 clear g5
 have hwl : Rats V5 wl l := by rw [hl]; exact hwl
 obtain ⟨Al, ql, rfl, hql1, hql2⟩ := hwl.form
 simp only [XA]
 refine hK _ ?_
 obtain ⟨a, ha⟩ : ∃ a, a = bmOut (bmI l l.length) := ⟨_, rfl⟩
 have hch := chain_next (m := m) (x := x) (L1 := qs L1) (L2 := qs L2) ea hxm
 dsimp only at hch
 rw [← hl, ← hll, ← ha] at hch
 obtain ⟨p1, p2, p3⟩ := hch
 have l8 : l.length ≤ 2 ^ 3 := by rw [len_l]; omega
 have cq : CB 3240600 (bmI l l.length).q := (bm_CB2 cl l8).mono (Nat.le_trans (bc_mono _ (show l.length ≤ 8 by omega)) bc_num)
 have ca : CB 3240600 a := by rw [ha]; exact bmOut_CB cq
 have hbb : bb (12704 + 3) l.length + 12704 + 3 + 2 ≤ 17592186044416 := by
  have h1 := bb_mono (12704 + 3) (show l.length ≤ 8 by omega)
  have h2 := bb_num8
  omega
 refine Gx.a (by kernel_rfl) fun K hK => ?_
 simp only [XA]
 refine call_go (by kernel_rfl) rfl (crec_c _ _ (l.map toRaw) hwl.raws (fitR_toRaw (cl.qf (by omega))) (by rw [List.length_map]; omega) (fun _ => by rw [qs_toRaw, List.length_map]; exact fun i hi => bm_fit cl l8 hbb i hi) (fun _ => by rw [qs_toRaw]; exact cl.qf (by omega)) (fun _ i => by rw [qs_toRaw, List.length_map]; exact (cq.at i).qf (by omega))) fun v6 V6 hV6 g6 => ?_
 rw [qs_toRaw, List.length_map] at g6
 obtain ⟨wa, rfl, hwa⟩ := g6.2.2 (okR_toRaw l) p2
 rw [← ha] at hwa
 clear g6
 obtain ⟨Aa, qa, rfl, _, _⟩ := hwa.form
 simp only [XA]
 refine hK _ ?_
 have k1 := (k1.up hV5).up hV6
 have k2 := (k2.up hV5).up hV6
 have k3 := (k3.up hV5).up hV6
 have hwl := hwl.up hV6
 refine Gx.a (by kernel_rfl) fun K hK => ?_
 simp only [XM, XA, XB, Nat.reduceAdd, Nat.reduceLeDiff, ↓reduceIte]
 simp only [w2n, w2n5]
 refine call_go (by kernel_rfl) rfl (cends_c _ _ _ _ (n : Int) n n m L1 L2 S x ((2 * n + 5 : Nat) : Int) k1 k2 k3 fL1.fit fL2.fit fS.fit (by omega) (by omega) (by omega) 1536 1536 20404 (fun _ => cL1) (fun _ => cL2) (fun _ k hk => hst k (by omega)) (by omega)) fun v7 V7 hV7 g7 => ?_
 obtain ⟨wll, rfl, hwll⟩ := g7.2 E2
 clear g7
 have hwll : Rats V7 wll ll := by rw [hll]; exact hwll
 obtain ⟨All, qll, rfl, hqll1, hqll2⟩ := hwll.form
 simp only [XA]
 refine hK _ ?_
 have hwl := hwl.up hV7
 have hwa := hwa.up hV7
 have LE5 := listsE_ok (l := l) (a := a) (N := 5) (by omega) (by omega) (by omega) (by omega)
 have LE0 := listsE_ok (l := l) (a := a) (N := 0) (by omega) (by omega) (by omega) (by omega)
 refine Gx.a (by kernel_rfl) fun K hK => ?_
 simp only [XA]
 refine call_go (by kernel_rfl) rfl (cnext_c _ _ _ (l.map toRaw) (a.map toRaw) 5 hwl.raws hwa.raws (fitR_toRaw (cl.qf (by omega))) (fitR_toRaw (ca.qf (by omega))) (by rw [List.length_map]; omega) (by rw [List.length_map]; omega) 22000 3240600 (fun _ => by rw [qs_toRaw, qs_toRaw]; exact ⟨by show CB 22000 (nxI l a 5); rw [p3]; exact cll, ca⟩) (by omega)) fun v8 V8 hV8 g8 => ?_
 obtain ⟨wn, rfl, hwn⟩ := g8.2 LE5
 clear g8
 rw [qs_toRaw, qs_toRaw] at hwn
 have hwn : Rats V8 wn (ll.drop (2 * n)) := by
  have e : nextP l a (5 : Int).toNat = ll.drop (2 * n) := by
   show (nxI l a 5).drop l.length = _
   rw [p3, len_l]
  rw [← e]; exact hwn
 obtain ⟨An, qn, rfl, _, _⟩ := hwn.form
 simp only [XA]
 refine hK _ ?_
 have hdr := (SlAt.drop (k := 2 * n) hwll (by omega)).mono ratE_ok hV8
 have qdr : ∀ y ∈ ll.drop (2 * n), QF y := fun y hy => cll.qf (by omega) y (List.mem_of_mem_drop hy)
 have t4 : decide ((n : Int) < (a.length : Int)) = false := decide_eq_false (by omega)
 refine XWP.seq ?_
 refine Gx.a (by kernel_rfl) fun K hK => ?_
 simp only [XA, XB, gateX, ↓reduceIte, beq_self_eq_true, decide_true, t4]
 simp only [w2n]
 refine ⟨by omega, by omega, by omega, ?_⟩
 simp only [XA]
 refine call_go (by kernel_rfl) rfl (lsame_c _ _ _ (ll.drop (2 * n)) (ll.drop (2 * n)) hdr hwn qdr qdr) fun v9 V9 hV9 g9 => ?_
 subst g9
 simp only [XA, gateX, ↓reduceIte, beq_self_eq_true, decide_true]
 refine hK _ ?_
 refine Gx.f rfl ?_
 refine XWP.skip ?_
 have hV79 := View.le_trans hV8 hV9
 have hwl := hwl.up hV79
 have hwa := hwa.up hV79
 have k1 := (k1.up hV7).up hV79
 have k2 := (k2.up hV7).up hV79
 have k3 := (k3.up hV7).up hV79
 have pP : PolQ (frP l a) := by unfold frP; exact trimQ_pol _
 have pQ : PolQ (trimQ (frQ a)) := trimQ_pol _
 have lfp := frP_len l a
 have lfq := trimQ_len (frQ a)
 rw [frQ_len] at lfq
 have cP : CB 3253400 (frP l a) := (frP_CB2 cl ca).mono (by omega)
 have cQ : CB 3253400 (trimQ (frQ a)) := (frQ_CB ca).trim.mono (by omega)
 have nQ : (trimQ (frQ a)).length ≠ 0 := fun h => by
  have e := cf_none (l := trimQ (frQ a)) (i := 0) (by omega)
  rw [cf_trimQ, cf_frQ0] at e
  exact one_ne e
 refine Gx.a (by kernel_rfl) fun K hK => ?_
 simp only [XA]
 refine call_go (by kernel_rfl) rfl (cfrac_c _ _ _ (l.map toRaw) (a.map toRaw) hwl.raws hwa.raws (fitR_toRaw (cl.qf (by omega))) (fitR_toRaw (ca.qf (by omega))) (by rw [List.length_map]; omega) (by rw [List.length_map]; omega) 12704 3240600 (fun _ => by rw [qs_toRaw, qs_toRaw]; exact ⟨cl, ca⟩) (by omega)) fun v10 V10 hV10 g10 => ?_
 obtain ⟨wp, wq, rfl, hwp, hwq⟩ := g10.2 LE0
 clear g10
 rw [qs_toRaw, qs_toRaw] at hwp
 rw [qs_toRaw] at hwq
 simp only [XA]
 refine hK _ ?_
 refine Gx.a (by kernel_rfl) fun K hK => ?_
 simp only [XA]
 refine call_go (by kernel_rfl) rfl (csum_m _ _ _ ((frP l a).map toRaw) ((trimQ (frQ a)).map toRaw) 3253400 (Rats.raws hwp) (Rats.raws hwq) (fitR_toRaw (cP.qf (by omega))) (fitR_toRaw (cQ.qf (by omega))) (by rw [List.length_map]; omega) (by rw [List.length_map]; omega) (by rw [qs_toRaw]; exact cP) (by rw [qs_toRaw]; exact cQ) (by omega) (right_toRaw pP (by omega)) (right_toRaw pQ (by omega)) (by rw [List.length_map]; exact nQ)) fun v11 V11 hV11 g11 => ?_
 obtain ⟨am, an, ad, rfl, oan, oad, hsum, qsum⟩ := g11
 simp only [XA, XB]
 refine st_rat rfl rfl rfl oan oad ?_
 simp only [XA]
 refine hK _ ?_
 have k1 := (k1.up hV10).up hV11
 have k2 := (k2.up hV10).up hV11
 have k3 := (k3.up hV10).up hV11
 refine Gx.a (by kernel_rfl) fun K hK => ?_
 simp only [XM, XA, Nat.reduceAdd, Nat.reduceLeDiff, ↓reduceIte]
 refine call_go (by kernel_rfl) rfl (cchends_c _ _ _ _ n m 96 L1 L2 S k1 k2 k3 fL1.fit fL2.fit fS.fit e1 e2 hn4 (by omega) hm4 bL1 bL2 bS (by omega)) fun v12 V12 hV12 g12 => ?_
 obtain ⟨wt, ut, F, R, rfl, owt, hwt, qwt, ⟨ua, ub, uc, rfl, oub, ouc⟩, hRe, hF, hz⟩ := g12
 have lwt := thr_len (qs S) (flatG F n m) m
 obtain ⟨At, qt, rfl, _, _⟩ := hwt.form
 simp only [XA, XB, Nat.reduceAdd]
 refine st_rat rfl rfl rfl oub ouc ?_
 simp only [XA]
 refine hK _ ?_
 have hout := chain_out ea hn4 hxm hrows hRe hF hz
 dsimp only at hout
 rw [← hl, ← ha] at hout
 obtain ⟨_, _, _, _, _, _, _, sE, sQ⟩ := hout
 rw [sQ] at hsum
 rw [sE]
 obtain ⟨bt, ot, rfl⟩ := SlAt.addr hwt (by omega)
 obtain ⟨m4, n4, d4, hx4, ⟨z1, z2, z3⟩, hld4⟩ := Rats.get hwt x (by omega)
 have qx : QF (cf (thr (qs S) (flatG F n m) m) x) := qwt _ (cf_mem (by omega))
 (refine XWP.drw [0, 1, 2, 3, 4, 5, 6, 7, 8, 9, 10, 11, 12, 13, 14, 15, 16, 17] (by kernel_rfl) (by kernel_rfl) (by kernel_rfl) fun K hK => ?_) <;> dsimp only [pickOps, List.getElem?_cons_zero, List.getElem?_cons_succ]
 simp only [XA, XB, gateX, Nat.reduceAdd, Nat.reduceLeDiff, ↓reduceIte, beq_self_eq_true, decide_true]
 refine ⟨by omega, by omega, ld_mem (hld4 _) ?_⟩
 simp only [XA, gateX, ↓reduceIte, beq_self_eq_true]
 refine call_go (by kernel_rfl) rfl (psame_c _ _ _ _ _ (hsum.mono hV12) (hx4.toV qx) qx qx) fun v13 V13 hV13 g13 => ?_
 subst g13
 simp only [XA, gateX, ↓reduceIte, beq_self_eq_true, decide_true]
 refine call_go (by kernel_rfl) rfl (alive_c _) fun v14 V14 hV14 g14 => ?_
 subst g14
 simp only [XA, ↓reduceIte]
 refine hK _ (XWP.ret ?_)
 try simp only [thenX_ret, inBlockX_ret]
 refine ret_go _ rfl ?_
 rfl
end Go.Proofs.YthoboehbadmlmaaGreat
end
section
namespace Go.Proofs.YthoboehbadmlmaaGreat.recurChains
open Go.ChangeShapes Go.WideShapes Go.ChangeAt Go.RowKit
set_option linter.unusedVariables false
theorem own : ownKnob Tryz.prog.godebug = none := by kernel_rfl
theorem laidOut : laidOutB Tryz.prog = true := by kernel_rfl
set_option maxRecDepth 100000 in
theorem lifted (os : Os) (started : os.Started) (H : Type) (enc : TypeId × Value → H) :
  ReturnsInHanded {} Tryz.checked os 5 .any (Rows.recurChainsSpec.pre6 enc Tryz.prog Tryz.f5 Rows.recurChainsRow.domain false) (Rows.recurChainsSpec.post enc Tryz.prog Tryz.f5 false true false false) := by
 refine returnsInHanded_of_change_sized (C := Tryz.checked) own started (by kernel_rfl) Tryz.func5
  (ChangeSpec.witness6 (enc := enc) (C := Tryz.checked) false ⟨#[], #[.agg #[.int .i64 0, .int .i64 0, .slice none 0 0, .int .i64 0, .int .i64 0, .slice none 0 0], .slice none 0 0, .int .i64 0], []⟩ 8 (by kernel_rfl) (by kernel_rfl) (by kernel_rfl) (by kernel_rfl)) ?_
 intro W base args ds gs before hval0 hW hcnd hsz0 _
 have hval : ∀ (j : Nat) t v, Tryz.f5.params[j]? = some t → args[j]? = some v → Value.okWide Tryz.prog W .any base t v := hval0
 have hW' := hW
 obtain ⟨p, q, hA0, hV, rfl, hfz, hnd⟩ := hW
 have hA : DataW.TrodAll enc Tryz.prog W 0 (fun _ => true) true Tryz.f5.params.toList args.toList ds p := hA0
 rw [Tryz.params5] at hA hval
 obtain ⟨v0, vs0, d0, ds0, p0, q0, hargs, rfl, rfl, h0, r0⟩ := trodAll_cons hA
 obtain ⟨v1, vs1, d1, ds1, p1, q1, rfl, rfl, rfl, h1, r1⟩ := trodAll_cons r0
 obtain ⟨v2, vs2, d2, ds2, p2, q2, rfl, rfl, rfl, h2, r2⟩ := trodAll_cons r1
 obtain ⟨rfl, rfl, rfl⟩ := trodAll_nil r2
 obtain rfl : args = #[v0, v1, v2] := by cases args; simp_all
 obtain ⟨rfl, rfl⟩ := trodVars_none hV
 obtain ⟨c0, rfl, _⟩ := okWide_struct und_chn (hval 0 57 v0 rfl rfl)
 have k0 := h0
 have lt0 : ∀ x ∈ p0, x.block < W.heap.size := by obtain ⟨m, hm⟩ := k0; exact DataW.trod_lt m _ _ _ hm
 obtain ⟨fuel0, hf0⟩ := h0
 obtain ⟨ra, ca, sa, La, rb, cb, sb, Lb, j0, ha0, hb0⟩ := open_chain hf0
 obtain rfl : c0 = #[.int .i64 ra, .int .i64 ca, sa, .int .i64 rb, .int .i64 cb, sb] := by cases c0; simpa [Value.cells] using j0
 obtain ⟨a1, len1, cap1, rfl⟩ := okWide_slice (und_elem (P := Tryz.prog) (e := 48) (by kernel_rfl)) (hval 1 22 v1 rfl rfl)
 have k1 := h1
 have lt1 : ∀ x ∈ p1, x.block < W.heap.size := by obtain ⟨m, hm⟩ := k1; exact DataW.trod_lt m _ _ _ hm
 obtain ⟨fuel1, hf1⟩ := h1
 obtain ⟨L1, hL1⟩ := open_raws (by kernel_rfl) hf1
 obtain ⟨a2, rfl, rfl, rfl, w2⟩ := open_int (k := .i64) (by kernel_rfl) (hval 2 3 v2 rfl rfl) h2
 clear hA0 hval0 hsz0
 refine (chains_c (viewW W) _ _ _ ra ca rb cb La Lb L1 a2 ha0 hb0 hL1 W (viewW_sub W)).mono fun e W' ⟨v, V', he, _, _, _, bel, hv⟩ => ?_
 subst hv
 subst he
 exact ⟨_, rfl, _, _, _, [], _, [], hW', trodAll_mk1 (shut_bool Tryz.underlying4 _), (trodAll_cons_mk (Below.trod laidOut (by kernel_rfl) (of_decide_eq_true (by kernel_rfl)) k0 bel lt0) (trodAll_cons_mk (Below.trod laidOut (by kernel_rfl) (of_decide_eq_true (by kernel_rfl)) k1 bel lt1) (trodAll_cons_mk (shut_int (k := .i64) (by kernel_rfl) w2) trodAll_mk0))), rfl, bel.frame _, fun h => by cases h⟩
theorem over : Rows.recurChainsRow.holds Tryz.pinned (OpenSpec.ofChange Rows.recurChainsSpec) :=
 OpenClaim.holds_of_wide 5 Tryz.f5 rfl rfl rfl rfl rfl rfl rfl ⟨rfl, rfl, rfl, rfl, rfl⟩ rfl rfl rfl rfl rfl (by kernel_rfl) Tryz.func5 (by kernel_rfl)
  (of_decide_eq_true (by kernel_rfl)) (by unfold Func.isWrapper; first | (rw [if_pos (by decide +kernel)]; kernel_rfl) | (rw [if_neg (by decide +kernel)]; exact ⟨rfl, rfl⟩))
  (fun os started H enc _ => lifted os started H enc)
theorem proved : Rows.RecurChainsSaid := over
#print axioms proved
end Go.Proofs.YthoboehbadmlmaaGreat.recurChains
namespace Go.Proofs.YthoboehbadmlmaaGreat
theorem recurChains_holds : Rows.RecurChainsSaid := recurChains.proved
end Go.Proofs.YthoboehbadmlmaaGreat
end
