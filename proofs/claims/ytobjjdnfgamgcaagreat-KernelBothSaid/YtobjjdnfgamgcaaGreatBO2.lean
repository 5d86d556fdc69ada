/- The composition and every mixture of two kernels leave the posterior invariant, at every input. (part 2 of 13) -/
import Derived.OrdersHeld
import Derived.Below
import Derived.Tactics
import Derived.KernelRfl
import Derived.RangeFuncCalls
import Derived.RangeFuncFrom
import Derived.RangeFuncLeaves
import Derived.OrdersIn
import Derived.Laws.AppendOwn
import Derived.Laws.MakeOwn
import Derived.Laws.CopyRow
import Derived.Laws.Cells
import Derived.Laws.World
import Derived.Laws.Alloc2
import Derived.Laws.NewBlocks
import Derived.Maps.AppendAt
import Derived.Test.YtobjjdnfgamgcaaGreatProg
import Init.Data.List.Lemmas
import Init.Omega
import Derived.Test.YtobjjdnfgamgcaaGreatBO1
set_option linter.unusedVariables false
set_option linter.unusedSimpArgs false
section
namespace Go.Proofs.YtobjjdnfgamgcaaGreat
open Go Go.RowKit
def treeX (P : Program) (ops : Array Oper) : Ord → (XS → Prop) → XS → Prop
 | .nil, K, s => K s
 | .lin l t, K, s => seqX P ops (pickOps ops.toList l) (treeX P ops t K) s
 | .two a b, K, s => treeX P ops a K s ∧ treeX P ops b K s
theorem treeX_cons {P : Program} {ops : Array Oper} {i : Nat} {o : Oper} (hi : ops.toList[i]? = some o) (t : Ord) (K : XS → Prop) (s : XS) : treeX P ops (Ord.cons i t) K s = stepX P ops o (treeX P ops t K) s := by
 cases t <;> simp only [Ord.cons, treeX, pickOps, hi, seqX]
theorem treeX_any {P : Program} {ops : Array Oper} {K : XS → Prop} {s : XS} : ∀ (l : List Ord), treeX P ops (Ord.any l) K s → ∀ t ∈ l, treeX P ops t K s
 | [], _, t, ht => by cases ht
 | [a], h, t, ht => by
  have : t = a := by simpa using ht
  subst this; exact h
 | a :: b :: r, h, t, ht => by
  simp only [Ord.any, treeX] at h
  rcases List.mem_cons.1 ht with rfl | ht
  ·exact h.1
  ·exact treeX_any (b :: r) h.2 t ht
theorem mapM_mem {α β : Type} {f : α → Option β} : ∀ {l : List α} {r : List β}, l.mapM f = some r → ∀ x ∈ l, ∃ y, f x = some y ∧ y ∈ r
 | [], r, h, x, hx => by cases hx
 | a :: l, r, h, x, hx => by
  rw [List.mapM_cons] at h
  cases ha : f a with
  | none => simp [ha] at h
  | some y =>
   cases hl : l.mapM f with
   | none => simp [ha, hl] at h
   | some r' =>
    simp [ha, hl] at h
    subst h
    rcases List.mem_cons.1 hx with rfl | hx
    ·exact ⟨y, ha, by simp⟩
    ·obtain ⟨z, h1, h2⟩ := mapM_mem hl x hx
     exact ⟨z, h1, by simp [h2]⟩
theorem treeX_draw {Γ : Cx} {P : Program} {ops : Array Oper} {Q : Exit → XS → Prop} (hsel : Region.noSelect ops = true) : ∀ (n : Nat) (listed : Array Bool) (t : Ord), autoTree ops n listed = some t →
  ∀ bl s a w, Conc Γ bl s a w → guardsIn ops s.t.length = true → treeX P ops t (fun s' => Q .normal s') s → wpG P ops (XQ Γ (onlyN Q)) n (CW Γ bl s.bx s.H s.V) listed a w := by
 have hQ : ∀ (c : List PanicEntry) (a : Act) (w : World), ¬ (XQ Γ (onlyN Q)) (.panic c) a w := fun c a w ⟨_, _, _, h⟩ => h
 intro n
 induction n with
 | zero =>
  intro listed t ho bl s a w hc hg h
  unfold autoTree at ho
  split at ho
  ·rename_i hr
   cases ho
   exact ⟨hr, bl, s, hc, h⟩
  ·cases ho
 | succ n ih =>
  intro listed t ho bl s a w hc hg h
  unfold autoTree at ho
  have one : ∀ i r, i ∈ Region.ready .any ops listed → autoTree ops n (listed.setIfInBounds i true) = some r → treeX P ops (Ord.cons i r) (fun s' => Q .normal s') s →
    wpOp P ops (XQ Γ (onlyN Q)) i (fun a' w' => if closes ops i = true then wpG P ops (XQ Γ (onlyN Q)) n (fun _ => True) (listed.setIfInBounds i true) a' w' else CW Γ bl s.bx s.H s.V w' ∧ wpG P ops (XQ Γ (onlyN Q)) n (CW Γ bl s.bx s.H s.V) (listed.setIfInBounds i true) a' w') a w := by
   intro i r hmem ha h
   obtain ⟨_, oi, hoi, _⟩ := mem_ready.1 hmem
   have hoi' : ops.toList[i]? = some oi := by rw [Array.getElem?_toList]; exact hoi
   rw [treeX_cons hoi'] at h
   refine wpOp_mono ?_ (wpOp_size hc.len (stepX_wp hoi (guardsIn_spec hg hoi) hc h _))
   rintro a' w' ⟨hsz, bl', s', hc', hS, hk'⟩
   have hg' : guardsIn ops s'.t.length = true := by rw [← hc'.len, hsz]; exact hg
   have := ih _ _ ha bl' s' a' w' hc' hg' hk'
   split
   ·exact wpG_mono (fun _ _ => trivial) n _ a' w' this
   ·rename_i hcl
    have ec : isStore oi.op = false := by
     simp only [closes, hoi, Option.map_some, Option.getD_some, Bool.or_eq_true, not_or, Bool.not_eq_true] at hcl; exact hcl.1
    exact ⟨hS ec w' hc'.cw, wpG_mono (hS ec) n _ a' w' this⟩
  cases hr : Region.ready .any ops listed with
  | nil =>
   rw [hr] at ho; cases ho
   exact ⟨fun _ => ⟨bl, s, hc, h⟩, fun i hi => by rw [hr] at hi; cases hi⟩
  | cons i0 rs =>
   rw [hr] at ho
   dsimp only at ho
   cases hf : (i0 :: rs).find? (freeG ops listed) with
   | some i =>
    rw [hf] at ho
    dsimp only at ho
    cases ha : autoTree ops n (listed.setIfInBounds i true) with
    | none => rw [ha] at ho; cases ho
    | some rest =>
     rw [ha] at ho; cases ho
     have hmem : i ∈ Region.ready .any ops listed := by rw [hr]; exact List.mem_of_find?_eq_some hf
     have hfree : freeG ops listed i = true := List.find?_some hf
     obtain ⟨_, oi, hoi, _⟩ := mem_ready.1 hmem
     obtain ⟨hrd, W, hW, hap⟩ := freeG_spec hoi hfree
     have hoi' : ops.toList[i]? = some oi := by rw [Array.getElem?_toList]; exact hoi
     rw [treeX_cons hoi'] at h
     have hgw := gate_wanted (ops := ops) hc.tm oi (guardsIn_spec hg hoi)
     have hyk : ∃ sv, sv.ok s.bx.length ∧ YieldsIf P ops (fun w => isPure oi.op = true ∨ CW Γ bl s.bx s.H s.V w) oi (sv.conc bl) a ∧ treeX P ops rest (fun s' => Q .normal s') (s.put oi.dst sv) := by
      have body : opX P oi (treeX P ops rest fun s' => Q .normal s') s → Region.wanted oi (yielded ops a.tmps) = true → ∃ sv : SV, sv.ok s.bx.length ∧ YieldsIf P ops (fun w => isPure oi.op = true ∨ CW Γ bl s.bx s.H s.V w) oi (sv.conc bl) a ∧ treeX P ops rest (fun s' => Q .normal s') (s.put oi.dst sv) := fun h hw => by
       unfold opX at h
       rw [if_pos hrd] at h
       cases hp : isPure oi.op with
       | true =>
        obtain ⟨sv, ⟨h1, h2⟩, h3⟩ := readX_pure hp hc.ok h
        exact ⟨sv, h1, .inl ⟨hw, fun w' _ => h2 bl a w' hc.tm⟩, h3⟩
       | false =>
        obtain ⟨sv, ⟨h1, h2⟩, h3⟩ := readX_sound hc.ok h
        exact ⟨sv, h1, .inl ⟨hw, fun w' hw' => h2 Γ bl a w' hc.tm (hw'.resolve_left (by simp))⟩, h3⟩
      unfold stepX at h
      cases hgd : oi.guard with
      | none =>
       rw [hgd] at h hgw
       exact body h (by rw [hgw]; rfl)
      | some q =>
       rw [hgd] at h hgw
       dsimp only at h
       split at h
       ·rename_i hw; exact body h (by rw [hgw]; exact hw)
       ·rename_i hw
        exact ⟨.v undef, trivial, .inr ⟨by rw [hgw]; simpa using hw, rfl⟩, h⟩
     obtain ⟨sv, hok, hy, hk⟩ := hyk
     have := ih _ _ ha bl (s.put oi.dst sv) (a.put oi.dst (sv.conc bl)) w (hc.put oi.dst sv hok) (by rw [put_len]; exact hg) hk
     rw [XS.put_bx, XS.put_H, XS.put_V] at this
     exact wpG_take W (isPure oi.op) hoi hsel (fun c a' w' h => absurd h (hQ c _ w')) n _ listed a w hW hap hmem hy hc.cw this
   | none =>
    rw [hf] at ho
    dsimp only at ho
    refine ⟨fun h0 => (by rw [hr] at h0; cases h0), fun i hi => ?_⟩
    cases hm : (i0 :: rs).mapM (fun i => (autoTree ops n (listed.setIfInBounds i true)).map (Ord.cons i)) with
    | none => rw [hm] at ho; cases ho
    | some ts =>
     rw [hm] at ho; cases ho
     obtain ⟨y, h1, h2⟩ := mapM_mem hm i (by rw [← hr]; exact hi)
     cases ha : autoTree ops n (listed.setIfInBounds i true) with
     | none => rw [ha] at h1; cases h1
     | some r =>
      rw [ha] at h1; cases h1
      exact one i r hi ha (treeX_any ts h _ h2)
theorem XWP.drawT {Γ : Cx} {P : Program} {id : Nat} {ops : Array Oper} {Q : Exit → XS → Prop} {s : XS} (t : Ord) (hm : P.follows .mixedOrders = true) (ho : treeOf ops = some t) (hg : guardsIn ops s.t.length = true)
  (h : treeX P ops t (fun s' => Q .normal s') s) : XWP Γ P (.region id ops true) Q s := by
 intro bl a w hc
 unfold treeOf at ho
 split at ho
 ·rename_i hsel
  have hd : Conc Γ bl s a { w with drawn := w.drawn + 1 } := hc.drew
  have := treeX_draw (Γ := Γ) (Q := Q) hsel _ _ _ ho bl s a _ hd hg h
  have hnd : noDefer ops = true := by unfold guardsIn at hg; rw [Bool.and_eq_true] at hg; exact hg.1
  exact wpIn_mono (wpIn_region_any hm (wpAny_in onlyN_out hnd _ _ _ _ (wpG_any _ _ _ _ _ this))) (onlyN_all (Q := Q))
 ·cases ho
theorem XWP.draw {Γ : Cx} {P : Program} {id : Nat} {ops : Array Oper} {Q : Exit → XS → Prop} {s : XS} (order : List Nat) (hm : P.follows .mixedOrders = true) (ho : orderOf ops = some order) (hg : guardsIn ops s.t.length = true)
  (h : seqX P ops (pickOps ops.toList order) (fun s' => Q .normal s') s) : XWP Γ P (.region id ops true) Q s := by
 unfold orderOf at ho
 split at ho
 ·rename_i l ht
  cases ho
  refine XWP.drawT _ hm ht hg ?_
  rw [treeX]
  have : treeX P ops .nil (fun s' => Q .normal s') = fun s' => Q .normal s' := by funext s; rw [treeX]
  rw [this]; exact h
 ·cases ho
theorem XWP.cut {Γ : Cx} {P : Program} {Q : Exit → XS → Prop} {s : XS} {x y : Code} (J : XS → Prop) (h1 : XWP Γ P x (thenX J Q) s) (h2 : ∀ s', J s' → XWP Γ P y Q s') : XWP Γ P (.seq x y) Q s :=
 XWP.seq (h1.mono fun e s' h => by cases e <;> first | exact h2 s' h | exact h)
section
variable {Γ : Cx} {P : Program} {Q : Exit → XS → Prop} {s : XS}
theorem XWP.reg {id : Nat} {ops : Array Oper} {y : Code} (hg : guardsIn ops s.t.length = true) (h : ∀ K : XS → Prop, (∀ s', XWP Γ P y Q s' → K s') → seqX P ops ops.toList K s) : XWP Γ P (.seq (.region id ops false) y) Q s :=
 XWP.seq (XWP.region hg (h _ fun _ h => h))
theorem XWP.drw {id : Nat} {ops : Array Oper} {y : Code} (order : List Nat) (hm : P.follows .mixedOrders = true) (ho : orderOf ops = some order) (hg : guardsIn ops s.t.length = true) (h : ∀ K : XS → Prop, (∀ s', XWP Γ P y Q s' → K s') → seqX P ops (pickOps ops.toList order) K s) : XWP Γ P (.seq (.region id ops true) y) Q s :=
 XWP.seq (XWP.draw order hm ho hg (h _ fun _ h => h))
theorem XWP.reg1 {id : Nat} {ops : Array Oper} (hg : guardsIn ops s.t.length = true) (h : ∀ K : XS → Prop, (∀ s', Q .normal s' → K s') → seqX P ops ops.toList K s) : XWP Γ P (.region id ops false) Q s :=
 XWP.region hg (h _ fun _ h => h)
theorem XWP.drw1 {id : Nat} {ops : Array Oper} (order : List Nat) (hm : P.follows .mixedOrders = true) (ho : orderOf ops = some order) (hg : guardsIn ops s.t.length = true) (h : ∀ K : XS → Prop, (∀ s', Q .normal s' → K s') → seqX P ops (pickOps ops.toList order) K s) : XWP Γ P (.region id ops true) Q s :=
 XWP.draw order hm ho hg (h _ fun _ h => h)
theorem Gx.a {id : Nat} {ops : Array Oper} {y : Code} (hg : guardsIn ops s.t.length = true) (h : ∀ K : XS → Prop, (∀ s', XWP Γ P y Q s' → K s') → seqX P ops ops.toList K s) : XWP Γ P (.seq (.region id ops false) y) Q s := XWP.reg hg h
theorem Gx.b {id : Nat} {ops : Array Oper} {y z : Code} (hg : guardsIn ops s.t.length = true) (h : ∀ K : XS → Prop, (∀ s', XWP Γ P y (thenX (XWP Γ P z Q) Q) s' → K s') → seqX P ops ops.toList K s) : XWP Γ P (.seq (.seq (.region id ops false) y) z) Q s := XWP.seq (XWP.reg hg h)
theorem Gx.c {id : Nat} {ops : Array Oper} (hg : guardsIn ops s.t.length = true) (h : ∀ K : XS → Prop, (∀ s', Q .normal s' → K s') → seqX P ops ops.toList K s) : XWP Γ P (.region id ops false) Q s := XWP.reg1 hg h
theorem Gx.t {c : Operand} {x y : Code} (hc : s.ev c = .v (.bool true)) (h : XWP Γ P x Q s) : XWP Γ P (.cond c x y) Q s := XWP.cond hc (fun _ => h) (fun h => by cases h)
theorem Gx.f {c : Operand} {x y : Code} (hc : s.ev c = .v (.bool false)) (h : XWP Γ P y Q s) : XWP Γ P (.cond c x y) Q s := XWP.cond hc (fun h => by cases h) (fun _ => h)
end
section
variable {Γ : Cx} {P : Program} {Q : Exit → XS → Prop} {s : XS}
theorem XWP.drwT {id : Nat} {ops : Array Oper} {y : Code} (t : Ord) (hm : P.follows .mixedOrders = true) (ho : treeOf ops = some t) (hg : guardsIn ops s.t.length = true) (h : ∀ K : XS → Prop, (∀ s', XWP Γ P y Q s' → K s') → treeX P ops t K s) : XWP Γ P (.seq (.region id ops true) y) Q s :=
 XWP.seq (XWP.drawT t hm ho hg (h _ fun _ h => h))
theorem XWP.drwT1 {id : Nat} {ops : Array Oper} (t : Ord) (hm : P.follows .mixedOrders = true) (ho : treeOf ops = some t) (hg : guardsIn ops s.t.length = true) (h : ∀ K : XS → Prop, (∀ s', Q .normal s' → K s') → treeX P ops t K s) : XWP Γ P (.region id ops true) Q s :=
 XWP.drawT t hm ho hg (h _ fun _ h => h)
end
theorem treeX_nil (P : Program) (ops : Array Oper) (K : XS → Prop) (s : XS) : treeX P ops .nil K s = K s := by unfold treeX; rfl
theorem treeX_two (P : Program) (ops : Array Oper) (a b : Ord) (K : XS → Prop) (s : XS) : treeX P ops (.two a b) K s = (treeX P ops a K s ∧ treeX P ops b K s) := by rw [treeX]
theorem treeX_lin (P : Program) (ops : Array Oper) (l : List Nat) (t : Ord) (K : XS → Prop) (s : XS) : treeX P ops (.lin l t) K s = seqX P ops (pickOps ops.toList l) (treeX P ops t K) s := by rw [treeX]
def cellsV (P : Program) (ty : TypeId) (vs : List Value) : Option Value := match shapeT P ty with
 | some (true, n) => if vs.length = n then some (.agg vs.toArray) else none
 | some (false, _) => vs[0]?
 | none => none
def resV (P : Program) (s : XS) : ResultVar → Option Value
 | .tmp t => match s.t[t]? with
  | some (.v x) => some x
  | _ => none
 | .cell t ty => match s.t[t]? with
  | some (.p i 0) => match s.bx[i]? with
   | some vs => cellsV P ty vs
   | none => none
  | some (.v (.pointer (some ⟨b, 0, none⟩))) => match s.H b with
   | some r => cellsV P ty r.vs
   | none => none
  | _ => none
def resAll (P : Program) (s : XS) : List ResultVar → Option (List Value)
 | [] => some []
 | r :: rs => match resV P s r, resAll P s rs with
  | some v, some vs => some (v :: vs)
  | _, _ => none
def oneOf : List Value → Value
 | [v] => v
 | vs => .tuple vs.toArray
def XRet (P : Program) (rs : List ResultVar) (R : Value → View → Prop) (s : XS) : Prop := XPub (fun s' => ∃ vs, resAll P s' rs = some vs ∧ R (oneOf vs) s'.V) s
def XPost (P : Program) (rs : List ResultVar) (R : Value → View → Prop) : Exit → XS → Prop
 | .normal, s | .ret, s => XRet P rs R s
 | _, _ => False
theorem XPost_ret {P : Program} {rs : List ResultVar} {R : Value → View → Prop} {s : XS} : XPost P rs R .ret s = XRet P rs R s := rfl
def resSem (tmps : Array Value) : ResultVar → Sem Value
 | .tmp t => pure (tmps.getD t undef)
 | .cell t ty => do loadVar ty (← asAddr (tmps.getD t undef))
theorem cells_run {P : Program} {w : World} {b : Nat} {ty : TypeId} {vs : List Value} {v : Value} (h : cellsV P ty vs = some v) (hc : ∀ j u, vs[j]? = some u → w.cell? ⟨b, j, none⟩ = some u) : (loadVar ty ⟨b, 0, none⟩).run P w = .ok v w := by
 unfold cellsV at h
 split at h
 ·rename_i n es
  split at h
  ·rename_i hl
   cases h
   exact run_loadVar_list es w ⟨b, 0, none⟩ vs hl (fun j u hu => by rw [addr_add, Nat.zero_add]; exact hc j u hu)
  ·cases h
 ·rename_i n es
  exact run_loadVar_cell es w ⟨b, 0, none⟩ v (hc 0 v h)
 ·cases h
theorem res_run {P : Program} {Γ : Cx} {bl : Nat → Nat} {s : XS} {a : Act} {w : World} (hc : Conc Γ bl s a w) {r : ResultVar} {v : Value} (hv : resV P s r = some v) :
  (resSem a.tmps r).run P w = .ok v w := by
 have ev : ∀ t x, s.t[t]? = some x → a.tmps.getD t undef = x.conc bl := fun t x hx => by
  rw [hc.tm]; simp [hx]
 cases r with
 | tmp t =>
  unfold resV at hv
  dsimp only at hv
  split at hv
  ·rename_i x hx; cases hv; simp [resSem, ev t _ hx, SV.conc]
  ·cases hv
 | cell t ty =>
  unfold resV at hv
  dsimp only at hv
  split at hv
  ·rename_i i hx
   split at hv
   ·rename_i vs hb
    have hr := cells_run (w := w) (b := bl i) hv fun j u hu => boxcell_of hc.cw hb hu
    simp [resSem, ev t _ hx, SV.conc, asAddr, hr]
   ·cases hv
  ·rename_i b hx
   split at hv
   ·rename_i r hb
    have hr := cells_run (w := w) (b := b) hv fun j u hu => cell_of hc.cw (.inl ⟨r, hb, hu⟩)
    simp [resSem, ev t _ hx, SV.conc, asAddr, hr]
   ·cases hv
  ·cases hv
theorem resAll_run {P : Program} {Γ : Cx} {bl : Nat → Nat} {s : XS} {a : Act} {w : World} (hc : Conc Γ bl s a w) : ∀ (rs : List ResultVar) (vs : List Value), resAll P s rs = some vs → (rs.mapM (resSem a.tmps)).run P w = .ok vs w
 | [], vs, h => by cases h; rfl
 | r :: rs, vs, h => by
  unfold resAll at h
  split at h
  ·rename_i v us hv hus
   cases h
   simp [res_run hc hv, resAll_run hc rs us hus]
  ·cases h
theorem results_run {P : Program} {fn : Func} {Γ : Cx} {bl : Nat → Nat} {s : XS} {a : Act} {w : World} (hc : Conc Γ bl s a w) (vs : List Value) (h : resAll P s fn.results.toList = some vs) : (results fn a.tmps).run P w = .ok (oneOf vs) w := by
 have e : results fn a.tmps = (do let us ← fn.results.mapM (resSem a.tmps); pure (if h : us.size = 1 then us[0] else .tuple us)) := by
  unfold results
  congr 2
 have h2 : (fn.results.mapM (resSem a.tmps)).run P w = .ok vs.toArray w := by
  have h3 := resAll_run hc fn.results.toList vs h
  rw [Array.mapM_eq_mapM_toList]
  simp [h3]
 rw [e]
 simp only [Sem.run_bind, h2, Result.andThen_ok, Sem.run_pure]
 congr 1
 match vs with
 | [] => rfl
 | [v] => rfl
 | v :: u :: r => rfl
def Cx.Plain (Γ : Cx) : Prop := Γ.rd = none ∧ Γ.V0.sub Γ.w0
theorem CW.turn {Γ : Cx} {bl : Nat → Nat} {bx : List (List Value)} {H : Heap} {V : View} {w : World} (hV0 : Γ.V0.sub Γ.w0) (h : CW Γ bl bx H V w) (hs : CS Γ bl bx H V) {D : Nat} {o : Obj} (hD : w.heap[D]? = some o) (ho : okObj o = false) (hn : Γ.w0.heap.size ≤ D) (o' : Obj) : CW Γ bl bx H V (w.putObj D o') := by
 refine ⟨fun i vs hi => ?_, fun b r hb => ?_, fun k ob hk => ?_, ?_⟩
 ·obtain ⟨ty, hh⟩ := h.box i vs hi
  exact ⟨ty, (World.putObj_heap_other (fun e => by rw [e, hD] at hh; cases hh; cases ho)).trans hh⟩
 ·obtain ⟨ex, hh, hl⟩ := h.row b r hb
  exact ⟨ex, (World.putObj_heap_other (fun e => by rw [e, hD] at hh; cases hh; cases ho)).trans hh, hl⟩
 ·have hh := h.view k ob hk
  refine (World.putObj_heap_other (fun e => ?_)).trans hh
  subst e
  rw [hD] at hh; cases hh
  rcases hs.frm k o hk with h1 | h1
  ·have := (Array.getElem?_eq_some_iff.1 (hV0 k o h1)).1; omega
  ·rw [ho] at h1; cases h1.2
 ·refine h.below.trans ((Blw.refl _ w).grown (grownBy_putObj' w D o') ?_ fun k e => by cases e; exact hn)
  exact h.below.size
theorem leave_marks {Γ : Cx} {P : Program} {bl : Nat → Nat} {bx : List (List Value)} {H : Heap} {V : View} (hV0 : Γ.V0.sub Γ.w0) {fn : Func} {R : Ending → World → Prop} {tmps : Array Value} (hs : CS Γ bl bx H V) : ∀ (ms : List Nat) (w : World), CW Γ bl bx H V w → ms.Nodup → (∀ D ∈ ms, Γ.w0.heap.size ≤ D ∧ w.heap[D]? = some (.deferred (some []))) →
  (∀ w', CW Γ bl bx H V w' → ∃ v, (results fn tmps).run P w' = .ok v w' ∧ R (.returned v) w') → LeavesInM Fence.wide 0 P fn tmps R (ms.map fun D => { target := .collected D, args := #[] }) .returning w
 | [], w, h, _, _, k => k w h
 | D :: ms, w, h, hn, hD, k => by
  obtain ⟨h1, h2⟩ := hD D (by simp)
  obtain ⟨n1, n2⟩ := List.nodup_cons.1 hn
  refine ⟨by simp, .inl ⟨D, _, rfl, run_takeDeferred h2, leave_marks hV0 hs ms _ (h.turn hV0 hs h2 rfl h1 _) n2 (fun E hE => ?_) k⟩⟩
  obtain ⟨h3, h4⟩ := hD E (by simp [hE])
  exact ⟨h3, (World.putObj_heap_other (fun e => n1 (by rw [← e]; exact hE))).trans h4⟩
theorem Mk.zero (w : World) (V : View) (tmps : Array Value) {w' : World} (h : Blw w.heap.size w w') : Mk ⟨w, V, w, none⟩ { tmps := tmps, defers := [] } w' :=
 ⟨⟨[], rfl, List.nodup_nil, fun D hD => by simp at hD⟩, Blw.others h⟩
theorem Spec.enterR {P : Program} {f : FuncId} {fn : Func} {c : Code} {args : List Value} {V : View} {R : Value → View → Prop} (hf : P.funcs[f]? = some fn) (hb : fn.body = some c)
  (h : ∀ Γ : Cx, Γ.Plain → XWP Γ P c (XPost P fn.results.toList R) ⟨args.map .v ++ List.replicate (fn.ntmps - args.length) (.v undef), [], fun _ => none, V⟩) : Spec P f args V R := by
 intro w hV
 refine (callsIn_wide (n := 0)).1 (callsIn_of_wp_marks hf hb trivial ?_)
 have hc : Conc ⟨w, V, w, none⟩ (fun _ => 0) ⟨args.map .v ++ List.replicate (fn.ntmps - args.length) (.v undef), [], fun _ => none, V⟩ { tmps := args.toArray ++ Array.replicate (fn.ntmps - args.toArray.size) undef, defers := [] } w := by
  refine ⟨?_, Mk.zero w V _ (Blw.refl _ _), ⟨fun i vs hi => by simp at hi, fun b r hr => (by cases hr), hV, Blw.refl _ _⟩, ⟨fun i j hi => by simp at hi, fun i hi => by simp at hi, fun b r hr => (by cases hr), View.le_refl V, View.from_refl V _⟩, fun x hx => ?_⟩
  ·have e1 : (SV.conc fun _ => 0) ∘ SV.v = id := rfl
   have e2 : (SV.conc (fun _ => 0) (SV.v undef)) = undef := rfl
   simp [List.map_append, List.map_map, List.map_replicate, e1, e2]
  ·simp only [List.mem_append, List.mem_map, List.mem_replicate] at hx
   rcases hx with ⟨_, _, rfl⟩ | ⟨_, rfl⟩ <;> trivial
 refine wpIn_mono (h ⟨w, V, w, none⟩ ⟨rfl, hV⟩ (fun _ => 0) _ w hc) ?_
 have fin : ∀ bl s a w', Conc ⟨w, V, w, none⟩ bl s a w' → XRet P fn.results.toList R s → LeavesInM Fence.wide 0 P fn a.tmps (fun e w' => ∃ v V', e = .returned v ∧ V.le V' ∧ V'.sub w' ∧ View.from V V' w.heap.size ∧ Blw w.heap.size w w' ∧ R v V') a.defers .returning w' := by
  intro bl s a w' hC hR
  obtain ⟨H', V', h1, h2, _, _, vs, hvs, hR⟩ := hR ⟨w, V, w, none⟩ bl w' hC.cw hC.cs
  obtain ⟨⟨ms, e1, e2, e3⟩, _⟩ := hC.df
  rw [e1]
  exact leave_marks (Γ := ⟨w, V, w, none⟩) hV h2 ms w' h1 e2 (fun D hD => ⟨Nat.le_trans (Cx.base_ge _) (e3 D hD).1, (e3 D hD).2⟩) fun w'' h3 => ⟨_, results_run (a := { tmps := a.tmps, defers := [] }) (s := ⟨s.t, s.bx, H', V'⟩) ⟨hC.tm, Mk.zero w V _ h3.below, h3, h2, hC.ok⟩ vs hvs, _, V', rfl, h2.V0, h3.view, h2.frm, h3.below, hR⟩
 rintro e a w' ⟨bl, s, hC, hq⟩
 cases e with
 | normal => exact fin bl s a w' hC hq
 | ret => exact fin bl s a w' hC hq
 | _ => exact hq.elim
theorem Spec.enter {P : Program} {f : FuncId} {fn : Func} {c : Code} {args : List Value} {V : View} {R : Value → View → Prop} (hf : P.funcs[f]? = some fn) (hb : fn.body = some c)
  (h : ∀ Γ : Cx, XWP Γ P c (XPost P fn.results.toList R) ⟨args.map .v ++ List.replicate (fn.ntmps - args.length) (.v undef), [], fun _ => none, V⟩) : Spec P f args V R := Spec.enterR hf hb fun Γ _ => h Γ
def XPostO (P : Program) (rs : List ResultVar) (R : Value → View → Option (Nat × Row) → Prop) : Exit → XS → Prop
 | .normal, s | .ret, s => XPub (fun s' => ∃ vs, resAll P s' rs = some vs ∧ ∃ o, (∀ g r, o = some (g, r) → s'.H g = some r) ∧ R (oneOf vs) s'.V o) s
 | _, _ => False
theorem ret_own {P : Program} {rs : List ResultVar} {R : Value → View → Option (Nat × Row) → Prop} {s : XS} (vs : List Value) (o : Option (Nat × Row)) (h : resAll P s rs = some vs) (ho : ∀ g r, o = some (g, r) → s.H g = some r) (hR : R (oneOf vs) s.V o) : XPostO P rs R .ret s := by
 unfold XPostO
 exact XPub.now ⟨vs, h, o, ho, hR⟩
theorem SpecO.enter {P : Program} {f : FuncId} {fn : Func} {c : Code} {args : List Value} {V : View} {R : Value → View → Option (Nat × Row) → Prop} (hf : P.funcs[f]? = some fn) (hb : fn.body = some c)
  (h : ∀ Γ : Cx, XWP Γ P c (XPostO P fn.results.toList R) ⟨args.map .v ++ List.replicate (fn.ntmps - args.length) (.v undef), [], fun _ => none, V⟩) : SpecO P f args V R := by
 intro w hV
 refine (callsIn_wide (n := 0)).1 (callsIn_of_wp_marks hf hb trivial ?_)
 have hc : Conc ⟨w, V, w, none⟩ (fun _ => 0) ⟨args.map .v ++ List.replicate (fn.ntmps - args.length) (.v undef), [], fun _ => none, V⟩ { tmps := args.toArray ++ Array.replicate (fn.ntmps - args.toArray.size) undef, defers := [] } w := by
  refine ⟨?_, Mk.zero w V _ (Blw.refl _ _), ⟨fun i vs hi => by simp at hi, fun b r hr => (by cases hr), hV, Blw.refl _ _⟩, ⟨fun i j hi => by simp at hi, fun i hi => by simp at hi, fun b r hr => (by cases hr), View.le_refl V, View.from_refl V _⟩, fun x hx => ?_⟩
  ·have e1 : (SV.conc fun _ => 0) ∘ SV.v = id := rfl
   have e2 : (SV.conc (fun _ => 0) (SV.v undef)) = undef := rfl
   simp [List.map_append, List.map_map, List.map_replicate, e1, e2]
  ·simp only [List.mem_append, List.mem_map, List.mem_replicate] at hx
   rcases hx with ⟨_, _, rfl⟩ | ⟨_, rfl⟩ <;> trivial
 refine wpIn_mono (h ⟨w, V, w, none⟩ (fun _ => 0) _ w hc) ?_
 have fin : ∀ bl s a w', Conc ⟨w, V, w, none⟩ bl s a w' → XPostO P fn.results.toList R .ret s → LeavesInM Fence.wide 0 P fn a.tmps (fun e w' => ∃ v V' o, e = .returned v ∧ V.le V' ∧ V'.sub w' ∧ View.from V V' w.heap.size ∧ Blw w.heap.size w w' ∧
   (∀ g r, o = some (g, r) → w.heap.size ≤ g ∧ V' g = none ∧ ∃ ex, w'.heap[g]? = some (.cells (r.vs ++ ex).toArray r.e (0, 0)) ∧ (r.vs ++ ex).length = r.tot) ∧ R v V' o) a.defers .returning w' := by
  intro bl s a w' hC hR
  obtain ⟨H', V', h1, h2, _, _, vs, hvs, o, ho, hR⟩ := hR ⟨w, V, w, none⟩ bl w' hC.cw hC.cs
  obtain ⟨⟨ms, e1, e2, e3⟩, _⟩ := hC.df
  rw [e1]
  refine leave_marks (Γ := ⟨w, V, w, none⟩) hV h2 ms w' h1 e2 (fun D hD => ⟨Nat.le_trans (Cx.base_ge _) (e3 D hD).1, (e3 D hD).2⟩) fun w'' h3 => ⟨_, results_run (a := { tmps := a.tmps, defers := [] }) (s := ⟨s.t, s.bx, H', V'⟩) ⟨hC.tm, Mk.zero w V _ h3.below, h3, h2, hC.ok⟩ vs hvs, _, V', o, rfl, h2.V0, h3.view, h2.frm, h3.below, fun g r e => ?_, hR⟩
  have hr := ho g r e
  exact ⟨(h2.HV g r hr).2, (h2.HV g r hr).1, h3.row g r hr⟩
 rintro e a w' ⟨bl, s, hC, hq⟩
 cases e with
 | normal => exact fin bl s a w' hC hq
 | ret => exact fin bl s a w' hC hq
 | _ => exact hq.elim
end Go.Proofs.YtobjjdnfgamgcaaGreat
end
section
namespace Go.Proofs.YtobjjdnfgamgcaaGreat
open Go
theorem kindT_2 : kindT Tryz.prog 2 = 0 := by kernel_rfl
theorem intK_2 : intK Tryz.prog 2 = some .i64 := by kernel_rfl
theorem shapeT_2 : shapeT Tryz.prog 2 = some (false, 1) := by kernel_rfl
theorem zeroT_2 : zeroT Tryz.prog 2 = some ([(.int .i64 0)], 1, 8) := by kernel_rfl
theorem kindT_3 : kindT Tryz.prog 3 = 0 := by kernel_rfl
theorem intK_3 : intK Tryz.prog 3 = some .i64 := by kernel_rfl
theorem shapeT_3 : shapeT Tryz.prog 3 = some (false, 1) := by kernel_rfl
theorem zeroT_3 : zeroT Tryz.prog 3 = some ([(.int .i64 0)], 1, 8) := by kernel_rfl
theorem kindT_4 : kindT Tryz.prog 4 = 1 := by kernel_rfl
theorem shapeT_4 : shapeT Tryz.prog 4 = some (false, 1) := by kernel_rfl
theorem zeroT_4 : zeroT Tryz.prog 4 = some ([(.bool false)], 1, 1) := by kernel_rfl
theorem intK_5 : intK Tryz.prog 5 = some .u8 := by kernel_rfl
theorem elemT_22 : elemT Tryz.prog 22 = some 51 := by kernel_rfl
theorem kindT_22 : kindT Tryz.prog 22 = 2 := by kernel_rfl
theorem shapeT_22 : shapeT Tryz.prog 22 = some (false, 1) := by kernel_rfl
theorem elemT_24 : elemT Tryz.prog 24 = some 49 := by kernel_rfl
theorem kindT_24 : kindT Tryz.prog 24 = 2 := by kernel_rfl
theorem shapeT_24 : shapeT Tryz.prog 24 = some (false, 1) := by kernel_rfl
theorem zeroT_24 : zeroT Tryz.prog 24 = some ([(.slice none 0 0)], 1, 24) := by kernel_rfl
theorem shapeT_26 : shapeT Tryz.prog 26 = some (true, 3) := by kernel_rfl
theorem zeroT_26 : zeroT Tryz.prog 26 = some ([(.int .i64 0), (.int .i64 0), (.slice none 0 0)], 3, 40) := by kernel_rfl
theorem fieldT_26_0 : fieldT Tryz.prog 26 0 = some (0, false, 1) := by kernel_rfl
theorem fieldT_26_1 : fieldT Tryz.prog 26 1 = some (1, false, 1) := by kernel_rfl
theorem fieldT_26_2 : fieldT Tryz.prog 26 2 = some (2, false, 1) := by kernel_rfl
theorem kindT_27 : kindT Tryz.prog 27 = 0 := by kernel_rfl
theorem intK_27 : intK Tryz.prog 27 = some .i64 := by kernel_rfl
theorem shapeT_27 : shapeT Tryz.prog 27 = some (false, 1) := by kernel_rfl
theorem zeroT_27 : zeroT Tryz.prog 27 = some ([(.int .i64 0)], 1, 8) := by kernel_rfl
theorem shapeT_30 : shapeT Tryz.prog 30 = some (true, 3) := by kernel_rfl
theorem zeroT_30 : zeroT Tryz.prog 30 = some ([(.int .i64 0), (.int .i64 0), (.slice none 0 0)], 3, 40) := by kernel_rfl
theorem fieldT_30_0 : fieldT Tryz.prog 30 0 = some (0, false, 1) := by kernel_rfl
theorem fieldT_30_1 : fieldT Tryz.prog 30 1 = some (1, false, 1) := by kernel_rfl
theorem fieldT_30_2 : fieldT Tryz.prog 30 2 = some (2, false, 1) := by kernel_rfl
theorem elemT_40 : elemT Tryz.prog 40 = some 42 := by kernel_rfl
theorem kindT_40 : kindT Tryz.prog 40 = 2 := by kernel_rfl
theorem shapeT_40 : shapeT Tryz.prog 40 = some (false, 1) := by kernel_rfl
theorem shapeT_42 : shapeT Tryz.prog 42 = some (true, 3) := by kernel_rfl
theorem zeroT_42 : zeroT Tryz.prog 42 = some ([(.int .i64 0), (.int .i64 0), (.slice none 0 0)], 3, 40) := by kernel_rfl
theorem fieldT_42_0 : fieldT Tryz.prog 42 0 = some (0, false, 1) := by kernel_rfl
theorem fieldT_42_1 : fieldT Tryz.prog 42 1 = some (1, false, 1) := by kernel_rfl
theorem fieldT_42_2 : fieldT Tryz.prog 42 2 = some (2, false, 1) := by kernel_rfl
theorem shapeT_44 : shapeT Tryz.prog 44 = some (true, 5) := by kernel_rfl
theorem zeroT_44 : zeroT Tryz.prog 44 = some ([(.int .i64 0), (.int .i64 0), (.int .i64 0), (.int .i64 0), (.slice none 0 0)], 5, 56) := by kernel_rfl
theorem fieldT_44_0 : fieldT Tryz.prog 44 0 = some (0, false, 1) := by kernel_rfl
theorem fieldT_44_1 : fieldT Tryz.prog 44 1 = some (1, false, 1) := by kernel_rfl
theorem fieldT_44_2 : fieldT Tryz.prog 44 2 = some (2, true, 3) := by kernel_rfl
theorem elemT_45 : elemT Tryz.prog 45 = some 66 := by kernel_rfl
theorem kindT_45 : kindT Tryz.prog 45 = 2 := by kernel_rfl
theorem shapeT_45 : shapeT Tryz.prog 45 = some (false, 1) := by kernel_rfl
theorem elemT_47 : elemT Tryz.prog 47 = some 123 := by kernel_rfl
theorem kindT_47 : kindT Tryz.prog 47 = 2 := by kernel_rfl
theorem shapeT_47 : shapeT Tryz.prog 47 = some (false, 1) := by kernel_rfl
theorem zeroT_47 : zeroT Tryz.prog 47 = some ([(.slice none 0 0)], 1, 24) := by kernel_rfl
theorem shapeT_49 : shapeT Tryz.prog 49 = some (true, 3) := by kernel_rfl
theorem zeroT_49 : zeroT Tryz.prog 49 = some ([(.bool false), (.slice none 0 0), (.slice none 0 0)], 3, 56) := by kernel_rfl
theorem fieldT_49_0 : fieldT Tryz.prog 49 0 = some (0, false, 1) := by kernel_rfl
theorem fieldT_49_1 : fieldT Tryz.prog 49 1 = some (1, false, 1) := by kernel_rfl
theorem fieldT_49_2 : fieldT Tryz.prog 49 2 = some (2, false, 1) := by kernel_rfl
theorem shapeT_51 : shapeT Tryz.prog 51 = some (true, 9) := by kernel_rfl
theorem zeroT_51 : zeroT Tryz.prog 51 = some ([(.int .i64 0), (.int .i64 0), (.int .i64 0), (.int .i64 0), (.slice none 0 0), (.slice none 0 0), (.bool false), (.slice none 0 0), (.slice none 0 0)], 9, 136) := by kernel_rfl
theorem fieldT_51_0 : fieldT Tryz.prog 51 0 = some (0, true, 5) := by kernel_rfl
theorem fieldT_51_1 : fieldT Tryz.prog 51 1 = some (5, false, 1) := by kernel_rfl
theorem fieldT_51_2 : fieldT Tryz.prog 51 2 = some (6, true, 3) := by kernel_rfl
theorem shapeT_66 : shapeT Tryz.prog 66 = some (true, 4) := by kernel_rfl
theorem zeroT_66 : zeroT Tryz.prog 66 = some ([(.int .i64 0), (.int .i64 0), (.int .i64 0), (.int .i64 0)], 4, 32) := by kernel_rfl
theorem fieldT_66_0 : fieldT Tryz.prog 66 0 = some (0, false, 1) := by kernel_rfl
theorem fieldT_66_1 : fieldT Tryz.prog 66 1 = some (1, false, 1) := by kernel_rfl
theorem fieldT_66_2 : fieldT Tryz.prog 66 2 = some (2, false, 1) := by kernel_rfl
theorem fieldT_66_3 : fieldT Tryz.prog 66 3 = some (3, false, 1) := by kernel_rfl
theorem elemT_83 : elemT Tryz.prog 83 = some 87 := by kernel_rfl
theorem kindT_83 : kindT Tryz.prog 83 = 2 := by kernel_rfl
theorem shapeT_83 : shapeT Tryz.prog 83 = some (false, 1) := by kernel_rfl
theorem zeroT_83 : zeroT Tryz.prog 83 = some ([(.slice none 0 0)], 1, 24) := by kernel_rfl
theorem shapeT_87 : shapeT Tryz.prog 87 = some (true, 18) := by kernel_rfl
theorem zeroT_87 : zeroT Tryz.prog 87 = some ([(.int .i64 0), (.int .i64 0), (.int .i64 0), (.int .i64 0), (.slice none 0 0), (.slice none 0 0), (.bool false), (.slice none 0 0), (.slice none 0 0), (.bool false), (.slice none 0 0), (.slice none 0 0), (.bool false), (.slice none 0 0), (.slice none 0 0), (.bool false), (.slice none 0 0), (.slice none 0 0)], 18, 304) := by kernel_rfl
theorem fieldT_87_0 : fieldT Tryz.prog 87 0 = some (0, true, 9) := by kernel_rfl
theorem fieldT_87_1 : fieldT Tryz.prog 87 1 = some (9, true, 3) := by kernel_rfl
theorem fieldT_87_2 : fieldT Tryz.prog 87 2 = some (12, true, 3) := by kernel_rfl
theorem fieldT_87_3 : fieldT Tryz.prog 87 3 = some (15, true, 3) := by kernel_rfl
theorem kindT_98 : kindT Tryz.prog 98 = 0 := by kernel_rfl
theorem intK_98 : intK Tryz.prog 98 = some .u64 := by kernel_rfl
theorem shapeT_98 : shapeT Tryz.prog 98 = some (false, 1) := by kernel_rfl
theorem zeroT_98 : zeroT Tryz.prog 98 = some ([(.int .u64 0)], 1, 8) := by kernel_rfl
theorem intK_116 : intK Tryz.prog 116 = some .u64 := by kernel_rfl
theorem kindT_123 : kindT Tryz.prog 123 = 0 := by kernel_rfl
theorem intK_123 : intK Tryz.prog 123 = some .u32 := by kernel_rfl
theorem shapeT_123 : shapeT Tryz.prog 123 = some (false, 1) := by kernel_rfl
theorem zeroT_123 : zeroT Tryz.prog 123 = some ([(.int .u32 0)], 1, 4) := by kernel_rfl
end Go.Proofs.YtobjjdnfgamgcaaGreat
end
section
namespace Go.Proofs.YtobjjdnfgamgcaaGreat
open Go Go.RowKit
theorem noRflP {a b : Prop} (h : a = b) : a = b := h
section
variable (P : Program) (ops : Array Oper) (rest : List Oper) (K : XS → Prop) (s : XS) (d : Option Tmp) (ty : TypeId) (pos : String) (af : Array Edge)
theorem seq_read {op : Op} (h : isRead op = true) : seqX P ops (⟨d, op, ty, pos, af, none⟩ :: rest) K s = readX P s op (fun sv => seqX P ops rest K (s.put d sv)) := by
 show opX P ⟨d, op, ty, pos, af, none⟩ (seqX P ops rest K) s = _
 unfold opX
 rw [if_pos h]
theorem seq_loud {op : Op} (h : isRead op = false) : seqX P ops (⟨d, op, ty, pos, af, none⟩ :: rest) K s = loudX P s op d (seqX P ops rest K) := by
 show opX P ⟨d, op, ty, pos, af, none⟩ (seqX P ops rest K) s = _
 unfold opX
 rw [if_neg (by rw [h]; simp)]
theorem seq_nil : seqX P ops [] K s = K s := noRflP rfl
theorem seq_gate (op : Op) (g : Nat × Bool) : seqX P ops (⟨d, op, ty, pos, af, some g⟩ :: rest) K s = if gateX ops s (some g) = true then seqX P ops (⟨d, op, ty, pos, af, none⟩ :: rest) K s else seqX P ops rest K (s.put d (.v undef)) := noRflP rfl
def nextX (r : Option SV) : Prop := match r with
 | some r => seqX P ops rest K (s.put d r)
 | none => False
theorem next_some (r : SV) : nextX P ops rest K s d (some r) = seqX P ops rest K (s.put d r) := noRflP rfl
theorem seq_move (x : Operand) : seqX P ops (⟨d, .move x, ty, pos, af, none⟩ :: rest) K s = seqX P ops rest K (s.put d (s.ev x)) := noRflP rfl
theorem seq_assign (x : Operand) : seqX P ops (⟨d, .assign x, ty, pos, af, none⟩ :: rest) K s = seqX P ops rest K (s.put d (s.ev x)) := noRflP rfl
def pickS (c a b : SV) : Option SV := match c with
 | .v (.bool t) => some (if t then a else b)
 | _ => none
theorem pick_true (a b : SV) : pickS (.v (.bool true)) a b = some a := rfl
theorem pick_false (a b : SV) : pickS (.v (.bool false)) a b = some b := rfl
theorem pick_bool (t a b : Bool) : pickS (.v (.bool t)) (.v (.bool a)) (.v (.bool b)) = some (.v (.bool (if t then a else b))) := by cases t <;> rfl
theorem seq_pick (c a b : Operand) : seqX P ops (⟨d, .pick c a b, ty, pos, af, none⟩ :: rest) K s = nextX P ops rest K s d (pickS (s.ev c) (s.ev a) (s.ev b)) := by
 rw [seq_read P ops rest K s d ty pos af (op := .pick c a b) rfl]
 simp only [readX]
 unfold pickS
 cases s.ev c with
 | p i o => rfl
 | v u => cases u <;> rfl
def binS (kd : Nat) (op : BinOp) (x y : SV) : Option SV := match x, y with
 | .v a, .v b => match binV op a b with
  | some r => some (.v r)
  | none => match cmpV kd op a b with
   | some r => some (.v r)
   | none => none
 | _, _ => none
def nextB (op : BinOp) (t : TypeId) (a b : SV) (r : Option SV) : Prop := match r with
 | some r => seqX P ops rest K (s.put d r)
 | none => match a, b with
  | .v a, .v b => ∃ r, BinRun P op t a b r ∧ seqX P ops rest K (s.put d (.v r))
  | _, _ => False
theorem nextB_some (op : BinOp) (t : TypeId) (a b r : SV) : nextB P ops rest K s d op t a b (some r) = seqX P ops rest K (s.put d r) := noRflP rfl
variable {P ops rest K s d ty pos af} in
theorem bin_own {op : BinOp} {t : TypeId} {a b r : Value} {q : Option SV} (h0 : q = none) (h : BinRun P op t a b r) (hk : seqX P ops rest K (s.put d (.v r))) : nextB P ops rest K s d op t (.v a) (.v b) q := by
 subst h0
 exact ⟨r, h, hk⟩
theorem seq_bin (op : BinOp) (t yt : TypeId) (x y : Operand) : seqX P ops (⟨d, .binOp op t x y yt, ty, pos, af, none⟩ :: rest) K s = nextB P ops rest K s d op t (s.ev x) (s.ev y) (binS (kindT P t) op (s.ev x) (s.ev y)) := by
 rw [seq_read P ops rest K s d ty pos af (op := .binOp op t x y yt) rfl]
 simp only [readX]
 unfold binS
 try dsimp only
 cases s.ev x <;> cases s.ev y <;> try rfl
 rename_i a b
 dsimp only
 cases binV op a b <;> try rfl
 dsimp only
 cases cmpV (kindT P t) op a b <;> rfl
theorem bin_add (kd : Nat) (k : IntKind) (a b : Int) : binS kd .add (.v (.int k a)) (.v (.int k b)) = some (.v (.int k (k.wrap (a + b)))) := by simp [binS, binV]
theorem bin_sub (kd : Nat) (k : IntKind) (a b : Int) : binS kd .sub (.v (.int k a)) (.v (.int k b)) = some (.v (.int k (k.wrap (a - b)))) := by simp [binS, binV]
theorem bin_mul (kd : Nat) (k : IntKind) (a b : Int) : binS kd .mul (.v (.int k a)) (.v (.int k b)) = some (.v (.int k (k.wrap (a * b)))) := by simp [binS, binV]
theorem bin_quo (kd : Nat) (k : IntKind) (a b : Int) (h : b ≠ 0) : binS kd .quo (.v (.int k a)) (.v (.int k b)) = some (.v (.int k (k.wrap (a.tdiv b)))) := by simp [binS, binV, h]
theorem bin_rem (kd : Nat) (k : IntKind) (a b : Int) (h : b ≠ 0) : binS kd .rem (.v (.int k a)) (.v (.int k b)) = some (.v (.int k (a.tmod b))) := by simp [binS, binV, h]
theorem bin_shl (kd : Nat) (k k' : IntKind) (a b : Int) (h : 0 ≤ b) : binS kd .shl (.v (.int k a)) (.v (.int k' b)) = some (.v (.int k (k.wrap (a * 2 ^ (min b.toNat k.bits))))) := by
 have : ¬ b < 0 := by omega
 simp [binS, binV, this]
theorem bin_shr (kd : Nat) (k k' : IntKind) (a b : Int) (h : 0 ≤ b) : binS kd .shr (.v (.int k a)) (.v (.int k' b)) = some (.v (.int k (a.fdiv (2 ^ (min b.toNat k.bits))))) := by
 have : ¬ b < 0 := by omega
 simp [binS, binV, this]
def andI (k : IntKind) (a b : Int) : Int := k.wrap ((BitVec.ofInt k.bits a &&& BitVec.ofInt k.bits b).toNat)
def orI (k : IntKind) (a b : Int) : Int := k.wrap ((BitVec.ofInt k.bits a ||| BitVec.ofInt k.bits b).toNat)
theorem bin_and (kd : Nat) (k : IntKind) (a b : Int) : binS kd .and (.v (.int k a)) (.v (.int k b)) = some (.v (.int k (andI k a b))) := by simp [binS, binV, andI]
theorem bin_or (kd : Nat) (k : IntKind) (a b : Int) : binS kd .or (.v (.int k a)) (.v (.int k b)) = some (.v (.int k (orI k a b))) := by simp [binS, binV, orI]
theorem bin_eql (kd : Nat) (k : IntKind) (a b : Int) : binS kd .eql (.v (.int k a)) (.v (.int k b)) = some (.v (.bool (decide (a = b)))) := by
 have : (a == b) = decide (a = b) := rfl
 simp only [binS, binV, if_true]; rw [this]
theorem bin_neq (kd : Nat) (k : IntKind) (a b : Int) : binS kd .neq (.v (.int k a)) (.v (.int k b)) = some (.v (.bool (!decide (a = b)))) := by
 have : (a != b) = !decide (a = b) := rfl
 simp only [binS, binV, if_true]; rw [this]
theorem bin_lss (kd : Nat) (k : IntKind) (a b : Int) : binS kd .lss (.v (.int k a)) (.v (.int k b)) = some (.v (.bool (decide (a < b)))) := by simp [binS, binV]
theorem bin_leq (kd : Nat) (k : IntKind) (a b : Int) : binS kd .leq (.v (.int k a)) (.v (.int k b)) = some (.v (.bool (decide (a ≤ b)))) := by simp [binS, binV]
theorem bin_gtr (kd : Nat) (k : IntKind) (a b : Int) : binS kd .gtr (.v (.int k a)) (.v (.int k b)) = some (.v (.bool (decide (b < a)))) := by simp [binS, binV]
theorem bin_geq (kd : Nat) (k : IntKind) (a b : Int) : binS kd .geq (.v (.int k a)) (.v (.int k b)) = some (.v (.bool (decide (b ≤ a)))) := by simp [binS, binV]
theorem bin_eqb (a b : Bool) : binS 1 .eql (.v (.bool a)) (.v (.bool b)) = some (.v (.bool (a == b))) := by simp [binS, binV, cmpV]
theorem bin_neb (a b : Bool) : binS 1 .neq (.v (.bool a)) (.v (.bool b)) = some (.v (.bool (!(a == b)))) := by simp [binS, binV, cmpV, bne]
theorem bin_eqn (a : Option Addr) (n c m k : Nat) : binS 2 .eql (.v (.slice a n c)) (.v (.slice none m k)) = some (.v (.bool a.isNone)) := by simp [binS, binV, cmpV]
theorem bin_nen (a : Option Addr) (n c m k : Nat) : binS 2 .neq (.v (.slice a n c)) (.v (.slice none m k)) = some (.v (.bool (!a.isNone))) := by simp [binS, binV, cmpV]
def unS (op : UnOp) (x : SV) : Option SV := match x with
 | .v a => match unV op a with
  | some r => some (.v r)
  | none => none
 | _ => none
theorem un_not (b : Bool) : unS .not (.v (.bool b)) = some (.v (.bool (!b))) := rfl
theorem un_neg (k : IntKind) (a : Int) : unS .neg (.v (.int k a)) = some (.v (.int k (k.wrap (0 - a)))) := rfl
theorem seq_un (op : UnOp) (t : TypeId) (x : Operand) : seqX P ops (⟨d, .unOp op t x, ty, pos, af, none⟩ :: rest) K s = nextX P ops rest K s d (unS op (s.ev x)) := by
 rw [seq_read P ops rest K s d ty pos af (op := .unOp op t x) rfl]
 simp only [readX]
 unfold unS
 try dsimp only
 cases s.ev x <;> try rfl
 rename_i a
 dsimp only
 cases unV op a <;> rfl
def convS (src dst : Option IntKind) (x : SV) : Option SV := match x with
 | .v (.int _ n) => match src, dst with
  | some _, some k => some (.v (.int k (k.wrap n)))
  | _, _ => none
 | _ => none
theorem conv_int (a b k : IntKind) (n : Int) : convS (some a) (some b) (.v (.int k n)) = some (.v (.int b (b.wrap n))) := rfl
theorem seq_conv (src dst : TypeId) (x : Operand) : seqX P ops (⟨d, .convert src dst x, ty, pos, af, none⟩ :: rest) K s = nextX P ops rest K s d (convS (intK P src) (intK P dst) (s.ev x)) := by
 rw [seq_read P ops rest K s d ty pos af (op := .convert src dst x) rfl]
 simp only [readX]
 unfold convS
 try dsimp only
 split
 ·rename_i h; rw [h]; dsimp only; cases intK P src <;> cases intK P dst <;> rfl
 ·rename_i h
  split
  ·rename_i h'; exact absurd h' (h _ _)
  ·rfl
def faS (f : Option (Nat × Bool × Nat)) (x : SV) : Option SV := match f with
 | some (fo, _, n) => if n = 0 then none else match x with
  | .p i off => some (.p i (off + fo))
  | .v (.pointer (some ⟨b, off, none⟩)) => some (.v (.pointer (some ⟨b, off + fo, none⟩)))
  | _ => none
 | none => none
theorem fa_box (fo n : Nat) (b : Bool) (i off : Nat) : faS (some (fo, b, n + 1)) (.p i off) = some (.p i (off + fo)) := rfl
theorem fa_ptr (fo n : Nat) (b : Bool) (k off : Nat) : faS (some (fo, b, n + 1)) (.v (.pointer (some ⟨k, off, none⟩))) = some (.v (.pointer (some ⟨k, off + fo, none⟩))) := rfl
theorem seq_fa (t : TypeId) (x : Operand) (f : Nat) : seqX P ops (⟨d, .fieldAddr t x f, ty, pos, af, none⟩ :: rest) K s = nextX P ops rest K s d (faS (fieldT P t f) (s.ev x)) := by
 rw [seq_read P ops rest K s d ty pos af (op := .fieldAddr t x f) rfl]
 simp only [readX]
 unfold faS
 try dsimp only
 cases fieldT P t f with
 | none => rfl
 | some q =>
  obtain ⟨fo, b, n⟩ := q
  dsimp only
  by_cases hn : n = 0
  ·simp [hn, nextX]
  ·simp only [ne_eq, hn, not_false_eq_true, true_and, if_false]
   cases s.ev x with
   | p i o => rfl
   | v u =>
    cases u <;> try rfl
    rename_i q
    cases q with
    | none => rfl
    | some ad =>
     obtain ⟨b', o', sp⟩ := ad
     cases sp <;> rfl
def iaX (x i : SV) (sz : Option (Bool × Nat)) (ar : Option (Nat × Nat)) : Prop := match x, i, sz with
 | .v (.slice (some ⟨b, off, none⟩) n c), .v (.int k j), some (g, z) => 0 ≤ j ∧ j < n ∧ nextX P ops rest K s d (some (.v (.pointer (some ⟨b, off + j.toNat * z, none⟩))))
 | .p b off, .v (.int k j), none => match ar with
  | some (n, z) => 0 ≤ j ∧ j < n ∧ nextX P ops rest K s d (some (.p b (off + j.toNat * z)))
  | none => False
 | _, _, _ => False
def shapeO (P : Program) : Option TypeId → Option (Bool × Nat)
 | some e => shapeT P e
 | none => none
theorem shapeO_some (e : TypeId) : shapeO P (some e) = shapeT P e := rfl
theorem ia_arr (b off n z : Nat) (k : IntKind) (j : Int) : iaX P ops rest K s d (.p b off) (.v (.int k j)) none (some (n, z)) = (0 ≤ j ∧ j < n ∧ seqX P ops rest K (s.put d (.p b (off + j.toNat * z)))) := noRflP rfl
theorem ia_go (b off n c z : Nat) (k : IntKind) (j : Int) (g : Bool) (ar : Option (Nat × Nat)) : iaX P ops rest K s d (.v (.slice (some ⟨b, off, none⟩) n c)) (.v (.int k j)) (some (g, z)) ar = (0 ≤ j ∧ j < n ∧ seqX P ops rest K (s.put d (.v (.pointer (some ⟨b, off + j.toNat * z, none⟩))))) := noRflP rfl
theorem seq_ia (t : TypeId) (x i : Operand) : seqX P ops (⟨d, .indexAddr t x i, ty, pos, af, none⟩ :: rest) K s = iaX P ops rest K s d (s.ev x) (s.ev i) (shapeO P (elemT P t)) (arrO P t) := by
 rw [seq_read P ops rest K s d ty pos af (op := .indexAddr t x i) rfl]
 simp only [readX]
 unfold iaX
 try dsimp only
 cases he : elemT P t with
 | none =>
  simp only [shapeO]
  split
  ·simp_all
  ·rename_i h1 h2 _
   rw [h1, h2]
   cases arrO P t with
   | none => rfl
   | some q => rfl
  ·rename_i h1 h2
   split
   ·simp_all
   ·rename_i g1 g2 _; exact absurd rfl (h2 _ _ _ _ g1 g2)
   ·rfl
 | some e =>
  rw [arr_none he]
  simp only [shapeO]
  split
  ·rename_i h1 h2 h3
   cases h3
   rw [h1, h2]
   cases shapeT P e with
   | none => rfl
   | some q => rfl
  ·rename_i h3; cases h3
  ·rename_i h _
   split
   ·rename_i h1 h2 _ ; exact absurd rfl (h _ _ _ _ _ _ _ h1 h2)
   ·rfl
   ·rfl
def ldX (t : TypeId) (x : SV) : Prop := readX P ⟨[x], s.bx, s.H, s.V⟩ (.load t (.tmp 0)) (fun sv => seqX P ops rest K (s.put d sv))
theorem seq_ld (t : TypeId) (x : Operand) : seqX P ops (⟨d, .load t x, ty, pos, af, none⟩ :: rest) K s = ldX P ops rest K s d t (s.ev x) := by
 rw [seq_read P ops rest K s d ty pos af (op := .load t x) rfl]; rfl
variable {P ops rest K s d ty pos af} in
theorem ld_mem {t : TypeId} {b off : Nat} {v : Value} (h : Loads P s.H s.V t b off v) (hk : seqX P ops rest K (s.put d (.v v))) : ldX P ops rest K s d t (.v (.pointer (some ⟨b, off, none⟩))) := ⟨v, h, hk⟩
def boxS (sh : Option (Bool × Nat)) (vs : Option (List Value)) (off : Nat) : Option SV := match vs, sh with
 | some vs, some (true, n) => if off + n ≤ vs.length then some (.v (.agg ((vs.drop off).take n).toArray)) else none
 | some vs, some (false, _) => match vs[off]? with
  | some u => some (.v u)
  | none => none
 | _, _ => none
theorem boxS_agg (n off : Nat) (vs : List Value) : boxS (some (true, n)) (some vs) off = if off + n ≤ vs.length then some (.v (.agg ((vs.drop off).take n).toArray)) else none := rfl
theorem boxS_one (n off : Nat) (vs : List Value) : boxS (some (false, n)) (some vs) off = (match vs[off]? with
  | some u => some (.v u)
  | none => none) := rfl
theorem ld_box (t : TypeId) (i off : Nat) : ldX P ops rest K s d t (.p i off) = nextX P ops rest K s d (boxS (shapeT P t) s.bx[i]? off) := by
 show (match s.bx[i]?, shapeT P t with
   | some vs, some (true, n) => off + n ≤ vs.length ∧ seqX P ops rest K (s.put d (.v (.agg ((vs.drop off).take n).toArray)))
   | some vs, some (false, _) => match vs[off]? with
    | some u => seqX P ops rest K (s.put d (.v u))
    | none => False
   | _, _ => False) = _
 cases s.bx[i]? with
 | none => rfl
 | some vs =>
  cases shapeT P t with
  | none => rfl
  | some q =>
   obtain ⟨g, n⟩ := q
   cases g
   ·dsimp only [boxS]; cases vs[off]? <;> rfl
   ·dsimp only [boxS]
    split <;> rename_i h <;> simp [nextX, h]
def slX (x : SV) (sz : Option (Bool × Nat)) (l h : Option Int) : Prop := match x, sz, l, h with
 | .v (.slice A n c), some (g, z), some l, some h => 0 ≤ l ∧ l ≤ h ∧ h ≤ c ∧ nextX P ops rest K s d (some (.v (sliceV A c z l.toNat h.toNat)))
 | _, _, _, _ => False
def lenS : SV → Nat
 | .v (.slice _ n _) => n
 | _ => 0
theorem lenS_slice (A : Option Addr) (n c : Nat) : lenS (.v (.slice A n c)) = n := rfl
theorem sl_go (A : Option Addr) (n c z : Nat) (g : Bool) (l h : Int) : slX P ops rest K s d (.v (.slice A n c)) (some (g, z)) (some l) (some h) = (0 ≤ l ∧ l ≤ h ∧ h ≤ c ∧ seqX P ops rest K (s.put d (.v (sliceV A c z l.toNat h.toNat)))) := noRflP rfl
def bndS : Option SV → Nat → Option Int
 | none, n => some n
 | some (.v (.int _ i)), _ => some i
 | _, _ => none
theorem bnd_none (n : Nat) : bndS none n = some (n : Int) := rfl
theorem bnd_int (k : IntKind) (i : Int) (n : Nat) : bndS (some (.v (.int k i))) n = some i := rfl
theorem bnd_eq (o : Option Operand) (n : Nat) : bndV s o n = bndS (o.map s.ev) n := by
 cases o with
 | none => rfl
 | some x =>
  simp only [bndV, Option.map_some]
  cases h : s.ev x with
  | p i o => rfl
  | v u => cases u <;> rfl
theorem seq_sl (t : TypeId) (x : Operand) (lo hi : Option Operand) : seqX P ops (⟨d, .slice t x lo hi none, ty, pos, af, none⟩ :: rest) K s = slX P ops rest K s d (s.ev x) (shapeO P (elemT P t)) (bndS (lo.map s.ev) 0) (bndS (hi.map s.ev) (lenS (s.ev x))) := by
 rw [seq_read P ops rest K s d ty pos af (op := .slice t x lo hi none) rfl]
 simp only [readX]
 unfold slX
 try dsimp only
 simp only [bnd_eq]
 cases hx : s.ev x with
 | p i o => rfl
 | v u =>
  cases u <;> try rfl
  rename_i A n c
  cases elemT P t with
  | none => rfl
  | some e =>
   simp only [shapeO, lenS]
   cases shapeT P e with
   | none => rfl
   | some q =>
    obtain ⟨g, z⟩ := q
    cases bndS (lo.map s.ev) 0 <;> cases bndS (hi.map s.ev) n <;> rfl
def fldS (f : Option (Nat × Bool × Nat)) : SV → Option SV
 | .v (.agg cs) => match fieldV cs f with
  | some v => some (.v v)
  | none => none
 | _ => none
theorem fld_one (cs : Array Value) (off n : Nat) : fldS (some (off, false, n)) (.v (.agg cs)) = (match cs[off]? with | some v => some (.v v) | none => none) := rfl
theorem fld_agg (cs : Array Value) (off n : Nat) : fldS (some (off, true, n)) (.v (.agg cs)) = some (.v (.agg (cs.extract off (off + n)))) := rfl
theorem seq_fld (t : TypeId) (x : Operand) (f : Nat) : seqX P ops (⟨d, .field t x f, ty, pos, af, none⟩ :: rest) K s = nextX P ops rest K s d (fldS (fieldT P t f) (s.ev x)) := by
 rw [seq_read P ops rest K s d ty pos af (op := .field t x f) rfl]
 simp only [readX]
 unfold fldS
 try dsimp only
 cases hx : s.ev x with
 | p i o => rfl
 | v u =>
  cases u <;> try rfl
  rename_i cs
  dsimp only
  cases fieldV cs (fieldT P t f) <;> rfl
def extS (i : Nat) : SV → Option SV
 | .v (.tuple vs) => match vs[i]? with
  | some v => some (.v v)
  | none => none
 | _ => none
theorem ext_go (i : Nat) (vs : Array Value) : extS i (.v (.tuple vs)) = (match vs[i]? with | some v => some (.v v) | none => none) := rfl
theorem seq_ext (x : Operand) (i : Nat) : seqX P ops (⟨d, .extract x i, ty, pos, af, none⟩ :: rest) K s = nextX P ops rest K s d (extS i (s.ev x)) := by
 rw [seq_read P ops rest K s d ty pos af (op := .extract x i) rfl]
 simp only [readX]
 unfold extS
 try dsimp only
 cases hx : s.ev x with
 | p i o => rfl
 | v u =>
  cases u <;> try rfl
  rename_i cs
  dsimp only
  cases cs[i]? <;> rfl
def lenO (k : Nat) : SV → Option SV
 | .v (.slice _ n _) => if k = 2 then some (.v (.int .i64 n)) else none
 | _ => none
theorem lenO_go (A : Option Addr) (n c : Nat) : lenO 2 (.v (.slice A n c)) = some (.v (.int .i64 n)) := rfl
theorem seq_len (x : Operand) (t : TypeId) : seqX P ops (⟨d, .call ⟨.builtin .len, #[x], #[t]⟩, ty, pos, af, none⟩ :: rest) K s = nextX P ops rest K s d (lenO (kindT P t) (s.ev x)) := by
 rw [seq_read P ops rest K s d ty pos af (op := .call ⟨.builtin .len, #[x], #[t]⟩) rfl]
 show (match s.ev x with
   | .v (.slice _ n _) => kindT P t = 2 ∧ seqX P ops rest K (s.put d (.v (.int .i64 n)))
   | _ => False) = _
 cases hx : s.ev x with
 | p i o => rfl
 | v u =>
  cases u <;> try rfl
  simp only [lenO]
  split <;> rename_i h <;> simp [nextX, h]
def minO : SV → SV → Option SV
 | .v (.int q a), .v (.int _ b) => some (.v (.int q (if b < a then b else a)))
 | _, _ => none
def maxO : SV → SV → Option SV
 | .v (.int q a), .v (.int _ b) => some (.v (.int q (if b > a then b else a)))
 | _, _ => none
theorem minO_go (q q' : IntKind) (a b : Int) : minO (.v (.int q a)) (.v (.int q' b)) = some (.v (.int q (if b < a then b else a))) := rfl
theorem maxO_go (q q' : IntKind) (a b : Int) : maxO (.v (.int q a)) (.v (.int q' b)) = some (.v (.int q (if b > a then b else a))) := rfl
theorem seq_min (x y : Operand) (t : Array TypeId) : seqX P ops (⟨d, .call ⟨.builtin .min, #[x, y], t⟩, ty, pos, af, none⟩ :: rest) K s = nextX P ops rest K s d (minO (s.ev x) (s.ev y)) := by
 rw [seq_read P ops rest K s d ty pos af (op := .call ⟨.builtin .min, #[x, y], t⟩) rfl]
 show (match s.ev x, s.ev y with
   | .v (.int q a), .v (.int _ b) => seqX P ops rest K (s.put d (.v (.int q (if b < a then b else a))))
   | _, _ => False) = _
 cases s.ev x with
 | p i o => rfl
 | v u =>
  cases s.ev y with
  | p i o => cases u <;> rfl
  | v w => cases u <;> cases w <;> rfl
theorem seq_max (x y : Operand) (t : Array TypeId) : seqX P ops (⟨d, .call ⟨.builtin .max, #[x, y], t⟩, ty, pos, af, none⟩ :: rest) K s = nextX P ops rest K s d (maxO (s.ev x) (s.ev y)) := by
 rw [seq_read P ops rest K s d ty pos af (op := .call ⟨.builtin .max, #[x, y], t⟩) rfl]
 show (match s.ev x, s.ev y with
   | .v (.int q a), .v (.int _ b) => seqX P ops rest K (s.put d (.v (.int q (if b > a then b else a))))
   | _, _ => False) = _
 cases s.ev x with
 | p i o => rfl
 | v u =>
  cases s.ev y with
  | p i o => cases u <;> rfl
  | v w => cases u <;> cases w <;> rfl
def ixX (t : TypeId) (x i : SV) : Prop := readX P ⟨[x, i], s.bx, s.H, s.V⟩ (.index t (.tmp 0) (.tmp 1)) (fun sv => seqX P ops rest K (s.put d sv))
theorem seq_ix (t : TypeId) (x i : Operand) : seqX P ops (⟨d, .index t x i, ty, pos, af, none⟩ :: rest) K s = ixX P ops rest K s d t (s.ev x) (s.ev i) := by
 rw [seq_read P ops rest K s d ty pos af (op := .index t x i) rfl]; rfl
variable {P ops rest K s d ty pos af} in
theorem ix_go {t : TypeId} {b : ByteArray} {k : IntKind} {j : Int} {c : UInt8} (hk : kindT P t = 3) (h0 : 0 ≤ j) (hc : b[j.toNat]? = some c) (h : seqX P ops rest K (s.put d (.v (.int .u8 (c.toNat : Int))))) : ixX P ops rest K s d t (.v (.string b)) (.v (.int k j)) := ⟨hk, h0, c, hc, h⟩
def alS (z : Option (List Value × Nat × Nat)) : Prop := match z with
 | some (z, _, _) => seqX P ops rest K (XS.put ⟨s.t, s.bx ++ [z], s.H, s.V⟩ d (.p s.bx.length 0))
 | none => False
theorem al_go (z : List Value) (n m : Nat) : alS P ops rest K s d (some (z, n, m)) = seqX P ops rest K (XS.put ⟨s.t, s.bx ++ [z], s.H, s.V⟩ d (.p s.bx.length 0)) := noRflP rfl
theorem seq_alloc (t : TypeId) : seqX P ops (⟨d, .alloc t, ty, pos, af, none⟩ :: rest) K s = alS P ops rest K s d (zeroT P t) := by
 rw [seq_loud P ops rest K s d ty pos af (op := .alloc t) rfl]
 simp only [loudX]
 unfold alS
 cases zeroT P t <;> rfl
def bxS (x : SV) : Prop := match x with
 | .v u => seqX P ops rest K (XS.put ⟨s.t, s.bx ++ [u.cells.toList], s.H, s.V⟩ d (.p s.bx.length 0))
 | _ => False
theorem bx_go (cs : List Value) : bxS P ops rest K s d (.v (.agg cs.toArray)) = seqX P ops rest K (XS.put ⟨s.t, s.bx ++ [cs], s.H, s.V⟩ d (.p s.bx.length 0)) := by simp [bxS, Value.cells]
theorem seq_box (t : TypeId) (x : Operand) : seqX P ops (⟨d, .box t x, ty, pos, af, none⟩ :: rest) K s = bxS P ops rest K s d (s.ev x) := by
 rw [seq_loud P ops rest K s d ty pos af (op := .box t x) rfl]
 simp only [loudX]
 unfold bxS
 cases s.ev x <;> rfl
def stX (t : TypeId) (x y : SV) : Prop := loudX P ⟨[x, y], s.bx, s.H, s.V⟩ (.store t (.tmp 0) (.tmp 1)) none (fun s' => seqX P ops rest K (XS.put ⟨s.t, s'.bx, s'.H, s'.V⟩ d (.v undef)))
theorem seq_st (t : TypeId) (x y : Operand) : seqX P ops (⟨d, .store t x y, ty, pos, af, none⟩ :: rest) K s = stX P ops rest K s d t (s.ev x) (s.ev y) := by
 rw [seq_loud P ops rest K s d ty pos af (op := .store t x y) rfl]
 show _ = loudX P ⟨[s.ev x, s.ev y], s.bx, s.H, s.V⟩ (.store t (.tmp 0) (.tmp 1)) none _
 have e0 : XS.ev ⟨[s.ev x, s.ev y], s.bx, s.H, s.V⟩ (.tmp 0) = s.ev x := rfl
 have e1 : XS.ev ⟨[s.ev x, s.ev y], s.bx, s.H, s.V⟩ (.tmp 1) = s.ev y := rfl
 simp only [loudX, e0, e1]
 rfl
variable {P ops rest K s d ty pos af} in
theorem st_agg {t n m i off : Nat} {cs vs : List Value} (hs : shapeT P t = some (true, n)) (hb : s.bx[i]? = some vs) (hm : cs.length = m) (h : m = n ∧ cs.all isOne = true ∧ off + n ≤ vs.length ∧ seqX P ops rest K (XS.put ⟨s.t, s.bx.set i (splice vs off cs), s.H, s.V⟩ d (.v undef))) : stX P ops rest K s d t (.p i off) (.v (.agg cs.toArray)) := by
 unfold stX loudX
 have e0 : XS.ev ⟨[.p i off, .v (.agg cs.toArray)], s.bx, s.H, s.V⟩ (.tmp 0) = .p i off := rfl
 have e1 : XS.ev ⟨[.p i off, .v (.agg cs.toArray)], s.bx, s.H, s.V⟩ (.tmp 1) = .v (.agg cs.toArray) := rfl
 simp only [e0, e1, hs, hb]
 obtain ⟨h1, h2, h3, h4⟩ := h
 have e : (Value.agg cs.toArray).cells.toList = cs := by simp [Value.cells]
 exact ⟨by simp [Value.cells, hm, h1], by simpa [Value.cells] using h2, h3, by rw [e]; exact h4⟩
variable {P ops rest K s d ty pos af} in
theorem st_row {t n b off : Nat} {v : Value} {r : Row} (hs : shapeT P t = some (false, n)) (h1 : isOne v = true) (hn : n = 1) (hr : s.H b = some r) (hl : off < r.vs.length) (h : seqX P ops rest K (XS.put ⟨s.t, s.bx, upd s.H b (some ⟨r.e, r.vs.set off v, r.tot⟩), s.V⟩ d (.v undef))) : stX P ops rest K s d t (.v (.pointer (some ⟨b, off, none⟩))) (.v v) := by
 unfold stX loudX
 have e0 : XS.ev ⟨[.v (.pointer (some ⟨b, off, none⟩)), .v v], s.bx, s.H, s.V⟩ (.tmp 0) = .v (.pointer (some ⟨b, off, none⟩)) := rfl
 have e1 : XS.ev ⟨[.v (.pointer (some ⟨b, off, none⟩)), .v v], s.bx, s.H, s.V⟩ (.tmp 1) = .v v := rfl
 simp only [e0, e1, hs]
 subst hn
 have ec : v.cells = #[v] := by cases v <;> first | rfl | cases h1
 refine ⟨by rw [ec]; rfl, by rw [ec]; simp [h1], r, hr, by omega, ?_⟩
 have : splice r.vs off v.cells.toList = r.vs.set off v := by
  rw [ec]
  unfold splice
  rw [List.set_eq_take_append_cons_drop, if_pos hl]
  simp
 rw [this]; exact h
variable {P ops rest K s d ty pos af} in
theorem st_rowA {t n b off : Nat} {cs : List Value} {r : Row} (hs : shapeT P t = some (true, n)) (h1 : cs.all isOne = true) (hn : cs.length = n) (hr : s.H b = some r) (hl : off + n ≤ r.vs.length) (h : seqX P ops rest K (XS.put ⟨s.t, s.bx, upd s.H b (some ⟨r.e, splice r.vs off cs, r.tot⟩), s.V⟩ d (.v undef))) : stX P ops rest K s d t (.v (.pointer (some ⟨b, off, none⟩))) (.v (.agg cs.toArray)) := by
 unfold stX loudX
 have e0 : XS.ev ⟨[.v (.pointer (some ⟨b, off, none⟩)), .v (.agg cs.toArray)], s.bx, s.H, s.V⟩ (.tmp 0) = .v (.pointer (some ⟨b, off, none⟩)) := rfl
 have e1 : XS.ev ⟨[.v (.pointer (some ⟨b, off, none⟩)), .v (.agg cs.toArray)], s.bx, s.H, s.V⟩ (.tmp 1) = .v (.agg cs.toArray) := rfl
 simp only [e0, e1, hs]
 have e : (Value.agg cs.toArray).cells.toList = cs := by simp [Value.cells]
 exact ⟨by simp [Value.cells, hn], by simpa [Value.cells] using h1, r, hr, hl, by rw [e]; exact h⟩
def clX (f : FuncId) (args : List SV) : Prop := (args.all SV.isV) = true ∧ XCall P f (args.map SV.val) (fun v s' => seqX P ops rest K (s'.put d (.v v))) s
theorem seq_call (f : FuncId) (args : List Operand) (ts : Array TypeId) : seqX P ops (⟨d, .call ⟨.value (.func f), args.toArray, ts⟩, ty, pos, af, none⟩ :: rest) K s = clX P ops rest K s d f (args.map s.ev) := by
 rw [seq_loud P ops rest K s d ty pos af (op := .call ⟨.value (.func f), args.toArray, ts⟩) rfl]
 have e : s.ev (.func f) = .v (.func (.func f) #[] #[]) := rfl
 simp only [loudX, e]
 unfold clX
 simp only [List.all_map, List.map_map, true_and, List.append_nil]
 rfl
def cvX (x : SV) (args : List SV) : Prop := match x with
 | .v (.func (.func f) a b) => a = #[] ∧ clX P ops rest K s d f (args ++ b.toList.map .v)
 | _ => False
theorem cv_go (f : FuncId) (args : List SV) : cvX P ops rest K s d (.v (.func (.func f) #[] #[])) args = clX P ops rest K s d f args := by simp [cvX]
theorem cv_gob (f : FuncId) (b : List Value) (args : List SV) : cvX P ops rest K s d (.v (.func (.func f) #[] b.toArray)) args = clX P ops rest K s d f (args ++ b.map .v) := by simp [cvX]
theorem seq_callv (t : Tmp) (args : List Operand) (ts : Array TypeId) : seqX P ops (⟨d, .call ⟨.value (.tmp t), args.toArray, ts⟩, ty, pos, af, none⟩ :: rest) K s = cvX P ops rest K s d (s.ev (.tmp t)) (args.map s.ev) := by
 rw [seq_loud P ops rest K s d ty pos af (op := .call ⟨.value (.tmp t), args.toArray, ts⟩) rfl]
 simp only [loudX]
 unfold cvX clX
 cases hx : s.ev (.tmp t) with
 | p i o => rfl
 | v x =>
  cases x <;> try rfl
  rename_i fn a b
  cases fn <;> try rfl
  have e1 : (b.toList.map SV.v).all SV.isV = true := by rw [List.all_map]; exact List.all_eq_true.2 fun _ _ => rfl
  have e2 : (b.toList.map SV.v).map SV.val = b.toList := by rw [List.map_map]; exact List.map_id' _
  have e3 : SV.isV ∘ s.ev = fun q => (s.ev q).isV := rfl
  have e4 : SV.val ∘ s.ev = fun q => (s.ev q).val := rfl
  simp only [List.all_append, List.map_append, e1, e2, List.all_map, List.map_map, e3, e4, Bool.and_true]
variable {P ops rest K s d ty pos af} in
theorem mkf_go {fn : Fn} {ca : List Operand} (us : List Value) (h : ca.map s.ev = us.map .v) (hk : seqX P ops rest K (s.put d (.v (.func fn #[] us.toArray)))) : seqX P ops (⟨d, .makeFunc fn #[] ca.toArray, ty, pos, af, none⟩ :: rest) K s := by
 rw [seq_read P ops rest K s d ty pos af (op := .makeFunc fn #[] ca.toArray) rfl]
 have e1 : (ca.all fun q => (s.ev q).isV) = true := by
  have : (ca.map s.ev).all SV.isV = true := by rw [h, List.all_map]; exact List.all_eq_true.2 fun _ _ => rfl
  rwa [List.all_map] at this
 have e2 : (ca.map fun q => (s.ev q).val) = us := by
  have : (ca.map s.ev).map SV.val = us := by rw [h, List.map_map]; exact List.map_id' _
  rwa [List.map_map] at this
 refine ⟨by simp, by simpa using e1, ?_⟩
 simp only [List.map_toArray, e2]
 exact hk
variable {P ops rest K s d ty pos af} in
theorem call_go {f : FuncId} {args : List SV} {R : Value → View → Prop} (hc : callable P f = true) (hv : args.all SV.isV = true) (hs : Spec P f (args.map SV.val) s.V R)
  (h : ∀ v V', s.V.le V' → R v V' → seqX P ops rest K (XS.put ⟨s.t, s.bx, s.H, V'⟩ d (.v v))) : clX P ops rest K s d f args :=
 ⟨hv, hc, XPub.now ⟨_, hs.toO, fun v V' o h1 _ h2 => by obtain ⟨rfl, h2⟩ := h2; exact h v V' h1 h2⟩⟩
variable {P ops rest K s d ty pos af} in
theorem call_own {f : FuncId} {args : List SV} {R : Value → View → Option (Nat × Row) → Prop} (hc : callable P f = true) (hv : args.all SV.isV = true) (hs : SpecO P f (args.map SV.val) s.V R)
  (h : ∀ v V' o, s.V.le V' → (∀ g r, o = some (g, r) → s.H g = none ∧ V' g = none) → R v V' o → seqX P ops rest K (XS.put ⟨s.t, s.bx, addRow s.H o, V'⟩ d (.v v))) : clX P ops rest K s d f args :=
 ⟨hv, hc, XPub.now ⟨R, hs, h⟩⟩
variable {P ops rest K s d ty pos af} in
theorem call_pub {f : FuncId} {args : List SV} (b : Nat) (r : Row) (hr : s.H b = some r)
  (h : ∀ o, RowObj r o → s.V.le (addV s.V b o) → clX P ops rest K ⟨s.t, s.bx, upd s.H b none, addV s.V b o⟩ d f args) (hc : callable P f = true) (hv : args.all SV.isV = true) : clX P ops rest K s d f args :=
 ⟨hv, hc, XPub.row b r hr fun o ho hle => (h o ho hle).2.2⟩
variable {P ops rest K s d ty pos af} in
theorem mk_go {t e : TypeId} {l c : Operand} {z : List Value} {sz by_ : Nat} {k1 k2 : IntKind} {l1 c1 : Int} (hl : s.ev l = .v (.int k1 l1)) (hc : s.ev c = .v (.int k2 c1)) (he : elemT P t = some e) (hz : zeroT P e = some (z, sz, by_))
  (h0 : 0 ≤ l1) (h1 : l1 ≤ c1) (h2 : (by_ : Int) * c1 ≤ 281474976710656) (h3 : c1 ≤ 9223372036854775807) (h4 : z.length = sz) (h5 : 0 < sz)
  (h : ∀ b, s.H b = none → s.V b = none → seqX P ops rest K (XS.put ⟨s.t, s.bx, upd s.H b (some ⟨e, (List.replicate l1.toNat z).flatten, c1.toNat * sz⟩), s.V⟩ d (.v (.slice (some ⟨b, 0, none⟩) l1.toNat c1.toNat)))) : seqX P ops (⟨d, .makeSlice t l c, ty, pos, af, none⟩ :: rest) K s := by
 rw [seq_loud P ops rest K s d ty pos af (op := .makeSlice t l c) rfl]
 unfold loudX
 simp only [hl, hc, he, hz]
 exact ⟨h0, h1, h2, h3, h4, h5, h⟩
variable {P ops rest K s d ty pos af} in
theorem bs_go {t : TypeId} {len : Nat} {ps : Array (Nat × Operand)} {e : TypeId} {cells : List Value} (hv : (ps.all fun q => (s.ev q.2).isV) = true) (ps' : Array (Nat × Value)) (hps : (ps.map fun q => (q.1, (s.ev q.2).val)) = ps') (hb : BuildsSlice P t len ps' e cells)
  (h : ∀ b, s.H b = none → s.V b = none → seqX P ops rest K (XS.put ⟨s.t, s.bx, upd s.H b (some ⟨e, cells, cells.length⟩), s.V⟩ d (.v (.slice (some ⟨b, 0, none⟩) len len)))) : seqX P ops (⟨d, .buildSlice t len ps, ty, pos, af, none⟩ :: rest) K s := by
 rw [seq_loud P ops rest K s d ty pos af (op := .buildSlice t len ps) rfl]
 exact ⟨hv, e, cells, hps ▸ hb, h⟩
variable {P ops rest K s d ty pos af} in
theorem bd_go {t : TypeId} {ps : Array (Nat × Operand)} {v : Value} (hv : (ps.all fun q => (s.ev q.2).isV) = true) (ps' : Array (Nat × Value)) (hps : (ps.map fun q => (q.1, (s.ev q.2).val)) = ps') (hb : BuildsTo P t ps' v) (h : seqX P ops rest K (s.put d (.v v))) : seqX P ops (⟨d, .build t ps, ty, pos, af, none⟩ :: rest) K s := by
 rw [seq_read P ops rest K s d ty pos af (op := .build t ps) rfl]
 exact ⟨hv, v, hps ▸ hb, h⟩
def apX (t t2 : TypeId) (x y : SV) : Prop := match x, y with
 | .v v, .v u => XApp P t t2 v u (fun v' H' => seqX P ops rest K (XS.put ⟨s.t, s.bx, H', s.V⟩ d (.v v'))) s.H s.V
 | _, _ => False
theorem seq_app (x y : Operand) (t t2 : TypeId) : seqX P ops (⟨d, .call ⟨.builtin .append, #[x, y], #[t, t2]⟩, ty, pos, af, none⟩ :: rest) K s = apX P ops rest K s d t t2 (s.ev x) (s.ev y) := by
 rw [seq_loud P ops rest K s d ty pos af (op := .call ⟨.builtin .append, #[x, y], #[t, t2]⟩) rfl]
 show (match s.ev x, s.ev y with
   | .v v, .v u => XApp P t t2 v u (fun v' H' => seqX P ops rest K (XS.put ⟨s.t, s.bx, H', s.V⟩ d (.v v'))) s.H s.V
   | _, _ => False) = _
 cases s.ev x <;> cases s.ev y <;> rfl
variable {P ops rest K s d ty pos af} in
theorem ap_go {t t2 e sz by_ n m : Nat} {z xs news : List Value} {v y : Value} (he : elemT P t = some e) (he2 : (elemT P t2).isSome = true) (hz : zeroT P e = some (z, sz, by_)) (hzl : z.length = sz) (hsz : 0 < sz) (hown : Own s.H e sz v n xs) (hsrc : Src s.H s.V sz y m news)
  (h63 : n + m ≤ 9223372036854775807) (h47 : (n + m) * by_ ≤ 140737488355328) (h : ∀ v' H', AppRes s.H s.V e sz v (n + m) (xs ++ news) v' H' → seqX P ops rest K (XS.put ⟨s.t, s.bx, H', s.V⟩ d (.v v'))) : apX P ops rest K s d t t2 (.v v) (.v y) :=
 ⟨e, z, sz, by_, he, he2, hz, hzl, hsz, n, xs, m, news, hown, hsrc, by unfold maxLen; omega, h47, h⟩
end
theorem put_some (t : List SV) (bx : List (List Value)) (H : Heap) (V : View) (d : Nat) (x : SV) : XS.put ⟨t, bx, H, V⟩ (some d) x = ⟨t.set d x, bx, H, V⟩ := rfl
theorem put_none (t : List SV) (bx : List (List Value)) (H : Heap) (V : View) (x : SV) : XS.put ⟨t, bx, H, V⟩ none x = ⟨t, bx, H, V⟩ := rfl
theorem ev_tmp (t : List SV) (bx : List (List Value)) (H : Heap) (V : View) (k : Nat) : XS.ev ⟨t, bx, H, V⟩ (.tmp k) = t.getD k (.v undef) := rfl
theorem beq_tt : (true == true) = true := rfl
theorem beq_tf : (true == false) = false := rfl
theorem beq_ft : (false == true) = false := rfl
theorem beq_ff : (false == false) = true := rfl
theorem ret_go {P : Program} {rs : List ResultVar} {R : Value → View → Prop} {s : XS} (vs : List Value) (h : resAll P s rs = some vs) (hR : R (oneOf vs) s.V) : XPost P rs R .ret s := by
 rw [XPost_ret]; exact XPub.now ⟨vs, h, hR⟩
theorem ret_pub {P : Program} {rs : List ResultVar} {R : Value → View → Prop} {s : XS} (b : Nat) (r : Row) (hr : s.H b = some r) (h : ∀ o, RowObj r o → s.V.le (addV s.V b o) → XPost P rs R .ret ⟨s.t, s.bx, upd s.H b none, addV s.V b o⟩) : XPost P rs R .ret s := by
 rw [XPost_ret]; exact XPub.row b r hr h
theorem ev_const (s : XS) (v : Value) : s.ev (.const v) = .v v := rfl
theorem ev_func (s : XS) (f : FuncId) : s.ev (.func f) = .v (.func (.func f) #[] #[]) := rfl
def nth : List SV → Nat → SV
 | [], _ => .v undef
 | x :: _, 0 => x
 | _ :: r, n + 1 => nth r n
def StIs (F : (Nat → SV) → List SV) (bx : List (List Value)) (H : Heap) (V : View) (s : XS) : Prop := F (nth s.t) = s.t ∧ s.bx = bx ∧ s.H = H ∧ s.V = V
theorem StIs.out {F : (Nat → SV) → List SV} {bx : List (List Value)} {H : Heap} {V : View} {s : XS} (h : StIs F bx H V s) : ∃ u, s = ⟨F u, bx, H, V⟩ := by
 obtain ⟨t, b, h', v⟩ := s
 obtain ⟨h1, rfl, rfl, rfl⟩ := h
 exact ⟨nth t, by rw [h1]⟩
theorem StIs.of {F : (Nat → SV) → List SV} {bx : List (List Value)} {H : Heap} {V : View} {t : List SV} (h : F (nth t) = t) : StIs F bx H V ⟨t, bx, H, V⟩ := ⟨h, rfl, rfl, rfl⟩
end Go.Proofs.YtobjjdnfgamgcaaGreat
end
section
namespace Go.Proofs.YtobjjdnfgamgcaaGreat
section
variable {α : Type}
theorem ls0 (a0 x : α) (r : List α) : List.set (a0 :: r) 0 x = x :: r := rfl
theorem lg0 (a0 x : α) (r : List α) : List.getD (a0 :: r) 0 x = a0 := rfl
theorem ls1 (a0 a1 x : α) (r : List α) : List.set (a0 :: a1 :: r) 1 x = a0 :: x :: r := rfl
theorem lg1 (a0 a1 x : α) (r : List α) : List.getD (a0 :: a1 :: r) 1 x = a1 := rfl
theorem ls2 (a0 a1 a2 x : α) (r : List α) : List.set (a0 :: a1 :: a2 :: r) 2 x = a0 :: a1 :: x :: r := rfl
theorem lg2 (a0 a1 a2 x : α) (r : List α) : List.getD (a0 :: a1 :: a2 :: r) 2 x = a2 := rfl
theorem ls3 (a0 a1 a2 a3 x : α) (r : List α) : List.set (a0 :: a1 :: a2 :: a3 :: r) 3 x = a0 :: a1 :: a2 :: x :: r := rfl
theorem lg3 (a0 a1 a2 a3 x : α) (r : List α) : List.getD (a0 :: a1 :: a2 :: a3 :: r) 3 x = a3 := rfl
theorem ls4 (a0 a1 a2 a3 a4 x : α) (r : List α) : List.set (a0 :: a1 :: a2 :: a3 :: a4 :: r) 4 x = a0 :: a1 :: a2 :: a3 :: x :: r := rfl
theorem lg4 (a0 a1 a2 a3 a4 x : α) (r : List α) : List.getD (a0 :: a1 :: a2 :: a3 :: a4 :: r) 4 x = a4 := rfl
theorem ls5 (a0 a1 a2 a3 a4 a5 x : α) (r : List α) : List.set (a0 :: a1 :: a2 :: a3 :: a4 :: a5 :: r) 5 x = a0 :: a1 :: a2 :: a3 :: a4 :: x :: r := rfl
theorem lg5 (a0 a1 a2 a3 a4 a5 x : α) (r : List α) : List.getD (a0 :: a1 :: a2 :: a3 :: a4 :: a5 :: r) 5 x = a5 := rfl
theorem ls6 (a0 a1 a2 a3 a4 a5 a6 x : α) (r : List α) : List.set (a0 :: a1 :: a2 :: a3 :: a4 :: a5 :: a6 :: r) 6 x = a0 :: a1 :: a2 :: a3 :: a4 :: a5 :: x :: r := rfl
theorem lg6 (a0 a1 a2 a3 a4 a5 a6 x : α) (r : List α) : List.getD (a0 :: a1 :: a2 :: a3 :: a4 :: a5 :: a6 :: r) 6 x = a6 := rfl
theorem ls7 (a0 a1 a2 a3 a4 a5 a6 a7 x : α) (r : List α) : List.set (a0 :: a1 :: a2 :: a3 :: a4 :: a5 :: a6 :: a7 :: r) 7 x = a0 :: a1 :: a2 :: a3 :: a4 :: a5 :: a6 :: x :: r := rfl
theorem lg7 (a0 a1 a2 a3 a4 a5 a6 a7 x : α) (r : List α) : List.getD (a0 :: a1 :: a2 :: a3 :: a4 :: a5 :: a6 :: a7 :: r) 7 x = a7 := rfl
theorem ls8 (a0 a1 a2 a3 a4 a5 a6 a7 a8 x : α) (r : List α) : List.set (a0 :: a1 :: a2 :: a3 :: a4 :: a5 :: a6 :: a7 :: a8 :: r) 8 x = a0 :: a1 :: a2 :: a3 :: a4 :: a5 :: a6 :: a7 :: x :: r := rfl
theorem lg8 (a0 a1 a2 a3 a4 a5 a6 a7 a8 x : α) (r : List α) : List.getD (a0 :: a1 :: a2 :: a3 :: a4 :: a5 :: a6 :: a7 :: a8 :: r) 8 x = a8 := rfl
theorem ls9 (a0 a1 a2 a3 a4 a5 a6 a7 a8 a9 x : α) (r : List α) : List.set (a0 :: a1 :: a2 :: a3 :: a4 :: a5 :: a6 :: a7 :: a8 :: a9 :: r) 9 x = a0 :: a1 :: a2 :: a3 :: a4 :: a5 :: a6 :: a7 :: a8 :: x :: r := rfl
theorem lg9 (a0 a1 a2 a3 a4 a5 a6 a7 a8 a9 x : α) (r : List α) : List.getD (a0 :: a1 :: a2 :: a3 :: a4 :: a5 :: a6 :: a7 :: a8 :: a9 :: r) 9 x = a9 := rfl
theorem ls10 (a0 a1 a2 a3 a4 a5 a6 a7 a8 a9 a10 x : α) (r : List α) : List.set (a0 :: a1 :: a2 :: a3 :: a4 :: a5 :: a6 :: a7 :: a8 :: a9 :: a10 :: r) 10 x = a0 :: a1 :: a2 :: a3 :: a4 :: a5 :: a6 :: a7 :: a8 :: a9 :: x :: r := rfl
theorem lg10 (a0 a1 a2 a3 a4 a5 a6 a7 a8 a9 a10 x : α) (r : List α) : List.getD (a0 :: a1 :: a2 :: a3 :: a4 :: a5 :: a6 :: a7 :: a8 :: a9 :: a10 :: r) 10 x = a10 := rfl
theorem ls11 (a0 a1 a2 a3 a4 a5 a6 a7 a8 a9 a10 a11 x : α) (r : List α) : List.set (a0 :: a1 :: a2 :: a3 :: a4 :: a5 :: a6 :: a7 :: a8 :: a9 :: a10 :: a11 :: r) 11 x = a0 :: a1 :: a2 :: a3 :: a4 :: a5 :: a6 :: a7 :: a8 :: a9 :: a10 :: x :: r := rfl
theorem lg11 (a0 a1 a2 a3 a4 a5 a6 a7 a8 a9 a10 a11 x : α) (r : List α) : List.getD (a0 :: a1 :: a2 :: a3 :: a4 :: a5 :: a6 :: a7 :: a8 :: a9 :: a10 :: a11 :: r) 11 x = a11 := rfl
theorem ls12 (a0 a1 a2 a3 a4 a5 a6 a7 a8 a9 a10 a11 a12 x : α) (r : List α) : List.set (a0 :: a1 :: a2 :: a3 :: a4 :: a5 :: a6 :: a7 :: a8 :: a9 :: a10 :: a11 :: a12 :: r) 12 x = a0 :: a1 :: a2 :: a3 :: a4 :: a5 :: a6 :: a7 :: a8 :: a9 :: a10 :: a11 :: x :: r := rfl
theorem lg12 (a0 a1 a2 a3 a4 a5 a6 a7 a8 a9 a10 a11 a12 x : α) (r : List α) : List.getD (a0 :: a1 :: a2 :: a3 :: a4 :: a5 :: a6 :: a7 :: a8 :: a9 :: a10 :: a11 :: a12 :: r) 12 x = a12 := rfl
theorem ls13 (a0 a1 a2 a3 a4 a5 a6 a7 a8 a9 a10 a11 a12 a13 x : α) (r : List α) : List.set (a0 :: a1 :: a2 :: a3 :: a4 :: a5 :: a6 :: a7 :: a8 :: a9 :: a10 :: a11 :: a12 :: a13 :: r) 13 x = a0 :: a1 :: a2 :: a3 :: a4 :: a5 :: a6 :: a7 :: a8 :: a9 :: a10 :: a11 :: a12 :: x :: r := rfl
theorem lg13 (a0 a1 a2 a3 a4 a5 a6 a7 a8 a9 a10 a11 a12 a13 x : α) (r : List α) : List.getD (a0 :: a1 :: a2 :: a3 :: a4 :: a5 :: a6 :: a7 :: a8 :: a9 :: a10 :: a11 :: a12 :: a13 :: r) 13 x = a13 := rfl
theorem ls14 (a0 a1 a2 a3 a4 a5 a6 a7 a8 a9 a10 a11 a12 a13 a14 x : α) (r : List α) : List.set (a0 :: a1 :: a2 :: a3 :: a4 :: a5 :: a6 :: a7 :: a8 :: a9 :: a10 :: a11 :: a12 :: a13 :: a14 :: r) 14 x = a0 :: a1 :: a2 :: a3 :: a4 :: a5 :: a6 :: a7 :: a8 :: a9 :: a10 :: a11 :: a12 :: a13 :: x :: r := rfl
theorem lg14 (a0 a1 a2 a3 a4 a5 a6 a7 a8 a9 a10 a11 a12 a13 a14 x : α) (r : List α) : List.getD (a0 :: a1 :: a2 :: a3 :: a4 :: a5 :: a6 :: a7 :: a8 :: a9 :: a10 :: a11 :: a12 :: a13 :: a14 :: r) 14 x = a14 := rfl
theorem ls15 (a0 a1 a2 a3 a4 a5 a6 a7 a8 a9 a10 a11 a12 a13 a14 a15 x : α) (r : List α) : List.set (a0 :: a1 :: a2 :: a3 :: a4 :: a5 :: a6 :: a7 :: a8 :: a9 :: a10 :: a11 :: a12 :: a13 :: a14 :: a15 :: r) 15 x = a0 :: a1 :: a2 :: a3 :: a4 :: a5 :: a6 :: a7 :: a8 :: a9 :: a10 :: a11 :: a12 :: a13 :: a14 :: x :: r := rfl
theorem lg15 (a0 a1 a2 a3 a4 a5 a6 a7 a8 a9 a10 a11 a12 a13 a14 a15 x : α) (r : List α) : List.getD (a0 :: a1 :: a2 :: a3 :: a4 :: a5 :: a6 :: a7 :: a8 :: a9 :: a10 :: a11 :: a12 :: a13 :: a14 :: a15 :: r) 15 x = a15 := rfl
theorem ls16 (a0 a1 a2 a3 a4 a5 a6 a7 a8 a9 a10 a11 a12 a13 a14 a15 x : α) (r : List α) (n : Nat) : List.set (a0 :: a1 :: a2 :: a3 :: a4 :: a5 :: a6 :: a7 :: a8 :: a9 :: a10 :: a11 :: a12 :: a13 :: a14 :: a15 :: r) (n + 16) x = a0 :: a1 :: a2 :: a3 :: a4 :: a5 :: a6 :: a7 :: a8 :: a9 :: a10 :: a11 :: a12 :: a13 :: a14 :: a15 :: List.set r n x := rfl
theorem lg16 (a0 a1 a2 a3 a4 a5 a6 a7 a8 a9 a10 a11 a12 a13 a14 a15 x : α) (r : List α) (n : Nat) : List.getD (a0 :: a1 :: a2 :: a3 :: a4 :: a5 :: a6 :: a7 :: a8 :: a9 :: a10 :: a11 :: a12 :: a13 :: a14 :: a15 :: r) (n + 16) x = List.getD r n x := rfl
end
end Go.Proofs.YtobjjdnfgamgcaaGreat
end
section
namespace Go.Proofs.YtobjjdnfgamgcaaGreat
open Go Go.RowKit
section
variable {α β : Type}
theorem xl_map_cons (f : α → β) (a : α) (l : List α) : List.map f (a :: l) = f a :: List.map f l := rfl
theorem xl_map_nil (f : α → β) : List.map f [] = [] := by simp
theorem xl_omap_some (f : α → β) (a : α) : Option.map f (some a) = some (f a) := by simp
theorem xl_omap_none (f : α → β) : Option.map f none = none := by simp
theorem xl_cons_append (a : α) (l m : List α) : (a :: l) ++ m = a :: (l ++ m) := by simp
theorem xl_nil_append (m : List α) : [] ++ m = m := by simp
theorem xl_get0 (a : α) (l : List α) : (a :: l)[0]? = some a := by simp
theorem xl_getS (a : α) (l : List α) (i : Nat) : (a :: l)[i + 1]? = l[i]? := by simp
theorem xl_getA (l : List α) (i : Nat) : l.toArray[i]? = l[i]? := by simp
theorem xl_obind (a : α) (f : α → Option β) : (some a).bind f = f a := by simp
theorem xl_lenc (a : α) (l : List α) : (a :: l).length = l.length + 1 := by simp
theorem xl_lenn : ([] : List α).length = 0 := by simp
theorem xl_drop0 (l : List α) : l.drop 0 = l := by simp
theorem xl_dropS (a : α) (l : List α) (i : Nat) : (a :: l).drop (i + 1) = l.drop i := by simp
theorem xl_takeS (a : α) (l : List α) (i : Nat) : (a :: l).take (i + 1) = a :: l.take i := by simp
theorem xl_take0 (l : List α) : l.take 0 = [] := by simp
theorem xl_taken (i : Nat) : ([] : List α).take i = [] := by simp
end
theorem xl_toL {α : Type} (l : List α) : l.toArray.toList = l := by simp
def pickC : Option Oper → List Oper → List Oper
 | some o, l => o :: l
 | none, l => l
theorem pick_nil (l : List Oper) : pickOps l [] = [] := rfl
theorem pick_cons (l : List Oper) (i : Nat) (r : List Nat) : pickOps l (i :: r) = pickC l[i]? (pickOps l r) := by
 rw [pickOps]; cases l[i]? <;> rfl
theorem pickC_some (o : Oper) (l : List Oper) : pickC (some o) l = o :: l := by rw [pickC]
theorem XA : type_of% (And.intro (And.intro (And.intro (And.intro (And.intro (And.intro (And.intro (And.intro (@seq_nil) (@seq_gate)) (And.intro (@next_some) (@seq_move))) (And.intro (And.intro (@seq_assign) (@pick_true)) (And.intro (@pick_false) (@pick_bool)))) (And.intro (And.intro (And.intro (@seq_pick) (@seq_bin)) (And.intro (@bin_add) (@bin_sub))) (And.intro (And.intro (@bin_mul) (@bin_shl)) (And.intro (@bin_shr) (And.intro (@bin_and) (@bin_or)))))) (And.intro (And.intro (And.intro (And.intro (@bin_eql) (@bin_neq)) (And.intro (@bin_lss) (@bin_leq))) (And.intro (And.intro (@bin_gtr) (@bin_geq)) (And.intro (@bin_eqb) (@bin_neb)))) (And.intro (And.intro (And.intro (@bin_eqn) (@bin_nen)) (And.intro (@un_not) (@un_neg))) (And.intro (And.intro (@seq_un) (@conv_int)) (And.intro (@seq_conv) (And.intro (@fa_box) (@fa_ptr))))))) (And.intro (And.intro (And.intro (And.intro (And.intro (@seq_fa) (@shapeO_some)) (And.intro (@ia_go) (@seq_ia))) (And.intro (And.intro (@seq_ld) (@boxS_agg)) (And.intro (@boxS_one) (@ld_box)))) (And.intro (And.intro (And.intro (@lenS_slice) (@sl_go)) (And.intro (@bnd_none) (@bnd_int))) (And.intro (And.intro (@seq_sl) (@fld_one)) (And.intro (@fld_agg) (And.intro (@seq_fld) (@ext_go)))))) (And.intro (And.intro (And.intro (And.intro (@seq_ext) (@seq_ix)) (And.intro (@lenO_go) (@seq_len))) (And.intro (And.intro (@minO_go) (@maxO_go)) (And.intro (@seq_min) (And.intro (@seq_max) (@al_go))))) (And.intro (And.intro (And.intro (@seq_alloc) (@bx_go)) (And.intro (@seq_box) (@seq_st))) (And.intro (And.intro (And.intro @seq_call (And.intro @seq_callv @cv_go)) (@seq_app)) (And.intro (@put_some) (And.intro (@put_none) (@ev_tmp)))))))) (And.intro (And.intro (And.intro (And.intro (And.intro (And.intro (And.intro (And.intro @ev_const @ev_func) (And.intro (And.intro @treeX_nil @treeX_two) (And.intro (And.intro @treeX_lin @pick_nil) (And.intro (And.intro @pick_cons @pickC_some) @xl_toL)))) (@beq_ff)) (And.intro (@sliceV_zero) (@xl_map_cons))) (And.intro (And.intro (@xl_map_nil) (@xl_omap_some)) (And.intro (@xl_omap_none) (@ls0)))) (And.intro (And.intro (And.intro (@lg0) (@ls1)) (And.intro (@lg1) (@ls2))) (And.intro (And.intro (@lg2) (@ls3)) (And.intro (@lg3) (And.intro (@ls4) (@lg4)))))) (And.intro (And.intro (And.intro (And.intro (@ls5) (@lg5)) (And.intro (@ls6) (@lg6))) (And.intro (And.intro (@ls7) (@lg7)) (And.intro (@ls8) (@lg8)))) (And.intro (And.intro (And.intro (@ls9) (@lg9)) (And.intro (@ls10) (@lg10))) (And.intro (And.intro (@ls11) (@lg11)) (And.intro (@ls12) (And.intro (@lg12) (@ls13))))))) (And.intro (And.intro (And.intro (And.intro (And.intro (@lg13) (@ls14)) (And.intro (@lg14) (@ls15))) (And.intro (And.intro (@lg15) (@ls16)) (And.intro (@lg16) (@xl_cons_append)))) (And.intro (And.intro (And.intro (@xl_nil_append) (@xl_get0)) (And.intro (@xl_getS) (@xl_getA))) (And.intro (And.intro (@xl_obind) (@xl_lenc)) (And.intro (@xl_lenn) (And.intro (@Nat.mul_one) (@Nat.mul_zero)))))) (And.intro (And.intro (And.intro (And.intro (@Nat.zero_add) (@Nat.add_zero)) (And.intro (@xl_drop0) (@xl_dropS))) (And.intro (And.intro (@xl_takeS) (@xl_take0)) (And.intro (@Bool.false_eq_true) (@beq_tt)))) (And.intro (And.intro (And.intro (@beq_tf) (@beq_ft)) (And.intro (@beq_ff) (@Bool.not_true))) (And.intro (And.intro (@Bool.not_false) (@xl_taken)) (And.intro (@Int.toNat_natCast) (And.intro (@Int.toNat_zero) (@true_and))))))))) (@nextB_some)) := And.intro (And.intro (And.intro (And.intro (And.intro (And.intro (And.intro (And.intro (@seq_nil) (@seq_gate)) (And.intro (@next_some) (@seq_move))) (And.intro (And.intro (@seq_assign) (@pick_true)) (And.intro (@pick_false) (@pick_bool)))) (And.intro (And.intro (And.intro (@seq_pick) (@seq_bin)) (And.intro (@bin_add) (@bin_sub))) (And.intro (And.intro (@bin_mul) (@bin_shl)) (And.intro (@bin_shr) (And.intro (@bin_and) (@bin_or)))))) (And.intro (And.intro (And.intro (And.intro (@bin_eql) (@bin_neq)) (And.intro (@bin_lss) (@bin_leq))) (And.intro (And.intro (@bin_gtr) (@bin_geq)) (And.intro (@bin_eqb) (@bin_neb)))) (And.intro (And.intro (And.intro (@bin_eqn) (@bin_nen)) (And.intro (@un_not) (@un_neg))) (And.intro (And.intro (@seq_un) (@conv_int)) (And.intro (@seq_conv) (And.intro (@fa_box) (@fa_ptr))))))) (And.intro (And.intro (And.intro (And.intro (And.intro (@seq_fa) (@shapeO_some)) (And.intro (@ia_go) (@seq_ia))) (And.intro (And.intro (@seq_ld) (@boxS_agg)) (And.intro (@boxS_one) (@ld_box)))) (And.intro (And.intro (And.intro (@lenS_slice) (@sl_go)) (And.intro (@bnd_none) (@bnd_int))) (And.intro (And.intro (@seq_sl) (@fld_one)) (And.intro (@fld_agg) (And.intro (@seq_fld) (@ext_go)))))) (And.intro (And.intro (And.intro (And.intro (@seq_ext) (@seq_ix)) (And.intro (@lenO_go) (@seq_len))) (And.intro (And.intro (@minO_go) (@maxO_go)) (And.intro (@seq_min) (And.intro (@seq_max) (@al_go))))) (And.intro (And.intro (And.intro (@seq_alloc) (@bx_go)) (And.intro (@seq_box) (@seq_st))) (And.intro (And.intro (And.intro @seq_call (And.intro @seq_callv @cv_go)) (@seq_app)) (And.intro (@put_some) (And.intro (@put_none) (@ev_tmp)))))))) (And.intro (And.intro (And.intro (And.intro (And.intro (And.intro (And.intro (And.intro @ev_const @ev_func) (And.intro (And.intro @treeX_nil @treeX_two) (And.intro (And.intro @treeX_lin @pick_nil) (And.intro (And.intro @pick_cons @pickC_some) @xl_toL)))) (@beq_ff)) (And.intro (@sliceV_zero) (@xl_map_cons))) (And.intro (And.intro (@xl_map_nil) (@xl_omap_some)) (And.intro (@xl_omap_none) (@ls0)))) (And.intro (And.intro (And.intro (@lg0) (@ls1)) (And.intro (@lg1) (@ls2))) (And.intro (And.intro (@lg2) (@ls3)) (And.intro (@lg3) (And.intro (@ls4) (@lg4)))))) (And.intro (And.intro (And.intro (And.intro (@ls5) (@lg5)) (And.intro (@ls6) (@lg6))) (And.intro (And.intro (@ls7) (@lg7)) (And.intro (@ls8) (@lg8)))) (And.intro (And.intro (And.intro (@ls9) (@lg9)) (And.intro (@ls10) (@lg10))) (And.intro (And.intro (@ls11) (@lg11)) (And.intro (@ls12) (And.intro (@lg12) (@ls13))))))) (And.intro (And.intro (And.intro (And.intro (And.intro (@lg13) (@ls14)) (And.intro (@lg14) (@ls15))) (And.intro (And.intro (@lg15) (@ls16)) (And.intro (@lg16) (@xl_cons_append)))) (And.intro (And.intro (And.intro (@xl_nil_append) (@xl_get0)) (And.intro (@xl_getS) (@xl_getA))) (And.intro (And.intro (@xl_obind) (@xl_lenc)) (And.intro (@xl_lenn) (And.intro (@Nat.mul_one) (@Nat.mul_zero)))))) (And.intro (And.intro (And.intro (And.intro (@Nat.zero_add) (@Nat.add_zero)) (And.intro (@xl_drop0) (@xl_dropS))) (And.intro (And.intro (@xl_takeS) (@xl_take0)) (And.intro (@Bool.false_eq_true) (@beq_tt)))) (And.intro (And.intro (And.intro (@beq_tf) (@beq_ft)) (And.intro (@beq_ff) (@Bool.not_true))) (And.intro (And.intro (@Bool.not_false) (@xl_taken)) (And.intro (@Int.toNat_natCast) (And.intro (@Int.toNat_zero) (@true_and))))))))) (@nextB_some)
theorem XB : type_of% (And.intro (And.intro (And.intro (And.intro (And.intro (@shapeT_123) (@intK_123)) (And.intro (@kindT_123) (@zeroT_123))) (And.intro (And.intro (@intK_98) (@kindT_98)) (And.intro (@shapeT_98) (And.intro (@zeroT_98) (@kindT_3))))) (And.intro (And.intro (And.intro (@intK_3) (@shapeT_3)) (And.intro (@zeroT_3) (And.intro (@kindT_4) (@shapeT_4)))) (And.intro (And.intro (@zeroT_4) (@intK_5)) (And.intro (@intK_116) (And.intro (@elemT_47) (@kindT_47)))))) (And.intro (And.intro (And.intro (And.intro (@shapeT_47) (@zeroT_47)) (And.intro (@shapeT_49) (@zeroT_49))) (And.intro (And.intro (@fieldT_49_0) (@fieldT_49_1)) (And.intro (@fieldT_49_2) (And.intro (@elemT_24) (@kindT_24))))) (And.intro (And.intro (And.intro (@shapeT_24) (@zeroT_24)) (And.intro (@kindT_27) (And.intro (@intK_27) (@shapeT_27)))) (And.intro (And.intro (@zeroT_27) (@intK_2)) (And.intro (@kindT_2) (And.intro (@shapeT_2) (@zeroT_2))))))) := And.intro (And.intro (And.intro (And.intro (And.intro (@shapeT_123) (@intK_123)) (And.intro (@kindT_123) (@zeroT_123))) (And.intro (And.intro (@intK_98) (@kindT_98)) (And.intro (@shapeT_98) (And.intro (@zeroT_98) (@kindT_3))))) (And.intro (And.intro (And.intro (@intK_3) (@shapeT_3)) (And.intro (@zeroT_3) (And.intro (@kindT_4) (@shapeT_4)))) (And.intro (And.intro (@zeroT_4) (@intK_5)) (And.intro (@intK_116) (And.intro (@elemT_47) (@kindT_47)))))) (And.intro (And.intro (And.intro (And.intro (@shapeT_47) (@zeroT_47)) (And.intro (@shapeT_49) (@zeroT_49))) (And.intro (And.intro (@fieldT_49_0) (@fieldT_49_1)) (And.intro (@fieldT_49_2) (And.intro (@elemT_24) (@kindT_24))))) (And.intro (And.intro (And.intro (@shapeT_24) (@zeroT_24)) (And.intro (@kindT_27) (And.intro (@intK_27) (@shapeT_27)))) (And.intro (And.intro (@zeroT_27) (@intK_2)) (And.intro (@kindT_2) (And.intro (@shapeT_2) (@zeroT_2))))))
end Go.Proofs.YtobjjdnfgamgcaaGreat
end
section
namespace Go.Proofs.YtobjjdnfgamgcaaGreat
def BB : Nat := 4294967296
def nv : List Nat → Nat
 | [] => 0
 | d :: r => d + BB * nv r
def dg (n : Nat) : List Nat := if h : n = 0 then [] else n % BB :: dg (n / BB)
termination_by n
decreasing_by exact Nat.div_lt_self (Nat.pos_of_ne_zero h) (by unfold BB; omega)
def Dig (ds : List Nat) : Prop := ∀ d ∈ ds, d < BB
def trimL (ds : List Nat) : List Nat := (ds.reverse.dropWhile (· == 0)).reverse
def sz (n : Nat) : Nat := (dg n).length
theorem dg_zero : dg 0 = [] := by unfold dg; simp
theorem dg_pos {n : Nat} (h : n ≠ 0) : dg n = n % BB :: dg (n / BB) := by rw [dg]; simp [h]
theorem nv_dg (n : Nat) : nv (dg n) = n := by
 induction n using Nat.strongRecOn with
 | _ n ih =>
  by_cases h : n = 0
  ·subst h; rw [dg_zero]; rfl
  ·rw [dg_pos h, nv, ih _ (Nat.div_lt_self (Nat.pos_of_ne_zero h) (by unfold BB; omega))]
   exact Nat.mod_add_div n BB
theorem Dig_dg (n : Nat) : Dig (dg n) := by
 induction n using Nat.strongRecOn with
 | _ n ih =>
  by_cases h : n = 0
  ·subst h; rw [dg_zero]; intro d hd; cases hd
  ·rw [dg_pos h]
   intro d hd
   rcases List.mem_cons.1 hd with rfl | hd
   ·exact Nat.mod_lt _ (by unfold BB; omega)
   ·exact ih _ (Nat.div_lt_self (Nat.pos_of_ne_zero h) (by unfold BB; omega)) d hd
theorem nv_append (a b : List Nat) : nv (a ++ b) = nv a + BB ^ a.length * nv b := by
 induction a with
 | nil => simp [nv]
 | cons d r ih =>
  rw [List.cons_append, nv, nv, ih, List.length_cons, Nat.pow_succ, Nat.mul_add, ← Nat.mul_assoc, Nat.mul_comm (BB ^ r.length) BB]
  omega
theorem nv_lt {ds : List Nat} (h : Dig ds) : nv ds < BB ^ ds.length := by
 induction ds with
 | nil => simp [nv]
 | cons d r ih =>
  have h1 := h d (by simp)
  have h2 := ih fun x hx => h x (by simp [hx])
  rw [nv, List.length_cons, Nat.pow_succ]
  have : nv r + 1 ≤ BB ^ r.length := h2
  have := Nat.mul_le_mul_left BB this
  rw [Nat.mul_add] at this
  rw [Nat.mul_comm (BB ^ r.length) BB]
  omega
theorem Dig_nil : Dig [] := fun _ h => by cases h
theorem Dig_append {a b : List Nat} (ha : Dig a) (hb : Dig b) : Dig (a ++ b) := fun d hd => by
 rcases List.mem_append.1 hd with h | h
 ·exact ha d h
 ·exact hb d h
theorem Dig_cons {d : Nat} {r : List Nat} (h : d < BB) (hr : Dig r) : Dig (d :: r) := fun x hx => by
 rcases List.mem_cons.1 hx with rfl | hx
 ·exact h
 ·exact hr x hx
theorem Dig_one {d : Nat} (h : d < BB) : Dig [d] := Dig_cons h Dig_nil
theorem Dig_take {a : List Nat} (h : Dig a) (k : Nat) : Dig (a.take k) := fun d hd => h d (List.mem_of_mem_take hd)
theorem Dig_drop {a : List Nat} (h : Dig a) (k : Nat) : Dig (a.drop k) := fun d hd => h d (List.mem_of_mem_drop hd)
theorem Dig_replicate (n : Nat) : Dig (List.replicate n 0) := fun d hd => by
 rw [List.mem_replicate] at hd; rw [hd.2]; unfold BB; omega
theorem Dig_set {a : List Nat} (h : Dig a) (i : Nat) {d : Nat} (hd : d < BB) : Dig (a.set i d) := fun x hx => by
 rcases List.mem_or_eq_of_mem_set hx with h1 | rfl
 ·exact h x h1
 ·exact hd
theorem Dig_get {a : List Nat} (h : Dig a) (i : Nat) (hi : i < a.length) : a[i] < BB := h _ (List.getElem_mem hi)
theorem nv_replicate (n : Nat) : nv (List.replicate n 0) = 0 := by
 induction n with
 | zero => rfl
 | succ n ih => rw [List.replicate_succ, nv, ih, Nat.mul_zero]
theorem nv_snoc (a : List Nat) (d : Nat) : nv (a ++ [d]) = nv a + BB ^ a.length * d := by rw [nv_append]; simp [nv]
theorem nv_take_succ (a : List Nat) (k : Nat) (h : k < a.length) : nv (a.take (k + 1)) = nv (a.take k) + BB ^ k * a[k] := by
 rw [List.take_succ_eq_append_getElem h, nv_snoc, List.length_take, Nat.min_eq_left (by omega)]
theorem nv_split (a : List Nat) (k : Nat) (h : k ≤ a.length) : nv a = nv (a.take k) + BB ^ k * nv (a.drop k) := by
 conv => lhs; rw [← List.take_append_drop k a]
 rw [nv_append, List.length_take, Nat.min_eq_left h]
theorem nv_drop (a : List Nat) (k : Nat) (h : k < a.length) : nv (a.drop k) = a[k] + BB * nv (a.drop (k + 1)) := by
 rw [List.drop_eq_getElem_cons h, nv]
theorem trimL_snoc_zero (l : List Nat) : trimL (l ++ [0]) = trimL l := by simp [trimL]
theorem trimL_snoc (l : List Nat) (d : Nat) (h : d ≠ 0) : trimL (l ++ [d]) = l ++ [d] := by simp [trimL, h]
theorem snoc_cases (l : List Nat) : l = [] ∨ ∃ a d, l = a ++ [d] := by
 cases h : l.reverse with
 | nil => left; simpa using h
 | cons d r => right; exact ⟨r.reverse, d, by rw [← List.reverse_reverse l, h]; simp⟩
theorem dg_unique : ∀ (ds : List Nat), Dig ds → (∀ d, ds.getLast? = some d → d ≠ 0) → ds = dg (nv ds)
 | [], _, _ => by rw [nv, dg_zero]
 | d :: r, h, hl => by
  have h1 := h d (by simp)
  have hr : Dig r := fun x hx => h x (by simp [hx])
  have hlr : ∀ x, r.getLast? = some x → x ≠ 0 := fun x hx => hl x (by
   cases r with
   | nil => cases hx
   | cons y q => simpa using hx)
  have ih := dg_unique r hr hlr
  have hne : nv (d :: r) ≠ 0 := by
   intro h0
   rw [nv] at h0
   have h2 : nv r = 0 := by
    rcases Nat.eq_zero_or_pos (nv r) with h | h
    ·exact h
    ·have : BB * 1 ≤ BB * nv r := Nat.mul_le_mul_left _ h
     unfold BB at this h0; omega
   rw [h2, dg_zero] at ih
   subst ih
   exact hl d rfl (by rw [h2] at h0; omega)
  rw [dg_pos hne]
  have e1 : nv (d :: r) % BB = d := by rw [nv, Nat.add_mul_mod_self_left, Nat.mod_eq_of_lt h1]
  have e2 : nv (d :: r) / BB = nv r := by rw [nv, Nat.add_mul_div_left _ _ (by unfold BB; omega), Nat.div_eq_of_lt h1, Nat.zero_add]
  rw [e1, e2, ← ih]
theorem trimL_eq (ds : List Nat) (h : Dig ds) : trimL ds = dg (nv ds) := by
 generalize hn : ds.length = n
 induction n generalizing ds with
 | zero =>
  have : ds = [] := List.length_eq_zero_iff.1 hn
  subst this; rw [nv, dg_zero]; rfl
 | succ n ih =>
  rcases snoc_cases ds with rfl | ⟨a, d, rfl⟩
  ·simp at hn
  ·have ha : Dig a := fun x hx => h x (by simp [hx])
   by_cases hd : d = 0
   ·subst hd
    rw [trimL_snoc_zero, ih a ha (by simpa using hn), nv_snoc, Nat.mul_zero, Nat.add_zero]
   ·rw [trimL_snoc a d hd]
    exact dg_unique _ h (fun x hx => by simp at hx; omega)
theorem dg_last (n : Nat) (d : Nat) (h : (dg n).getLast? = some d) : d ≠ 0 := by
 induction n using Nat.strongRecOn with
 | _ n ih =>
  by_cases h0 : n = 0
  ·subst h0; rw [dg_zero] at h; cases h
  ·rw [dg_pos h0] at h
   have hlt := Nat.div_lt_self (Nat.pos_of_ne_zero h0) (show 1 < BB by unfold BB; omega)
   cases hq : dg (n / BB) with
   | nil =>
    rw [hq] at h
    simp at h
    have : n / BB = 0 := by rw [← nv_dg (n / BB), hq]; rfl
    have := Nat.mod_add_div n BB
    rw [‹n / BB = 0›] at this
    omega
   | cons y q =>
    rw [hq] at h
    refine ih _ hlt ?_
    rw [hq]; simpa using h
theorem sz_le {n k : Nat} (h : n < BB ^ k) : sz n ≤ k := by
  induction k generalizing n with
  | zero => have : n = 0 := by simpa using h
            subst this; simp [sz, dg_zero]
  | succ k ih =>
    by_cases h0 : n = 0
    · subst h0; simp [sz, dg_zero]
    · unfold sz; rw [dg_pos h0, List.length_cons]
      have : n / BB < BB ^ k := by rw [Nat.pow_succ] at h; exact Nat.div_lt_of_lt_mul (by rw [Nat.mul_comm]; exact h)
      have := ih this
      unfold sz at this; omega
theorem lt_sz (n : Nat) : n < BB ^ sz n := by
 have := nv_lt (Dig_dg n)
 rwa [nv_dg] at this
theorem le_sz {n : Nat} (h : n ≠ 0) : BB ^ (sz n - 1) ≤ n := by
 rcases Nat.lt_or_ge n (BB ^ (sz n - 1)) with h1 | h1
 ·have := sz_le h1
  have hp : 0 < sz n := by unfold sz; rw [dg_pos h]; simp
  omega
 ·exact h1
theorem sz_pos {n : Nat} (h : n ≠ 0) : 0 < sz n := by unfold sz; rw [dg_pos h]; simp
theorem sz_eq_zero {n : Nat} (h : sz n = 0) : n = 0 := by
 rcases Nat.eq_zero_or_pos n with h1 | h1
 ·exact h1
 ·have := sz_pos (n := n) (by omega); omega
theorem sz_mono {a b : Nat} (h : a ≤ b) : sz a ≤ sz b := sz_le (Nat.lt_of_le_of_lt h (lt_sz b))
theorem lt_of_sz_lt {a b : Nat} (h : sz a < sz b) : a < b := by
 rcases Nat.lt_or_ge a b with h1 | h1
 ·exact h1
 ·have := sz_mono h1; omega
end Go.Proofs.YtobjjdnfgamgcaaGreat
end
section
namespace Go.Proofs.YtobjjdnfgamgcaaGreat
open Go Go.RowKit
attribute [local irreducible] XWP Spec SpecO XPub XCall seqX clX apX stX ldX iaX slX
def NatAt (V : View) (v : Value) (ds : List Nat) : Prop :=
 ∃ A c, v = .slice A ds.length c ∧ ds.length ≤ c ∧ c ≤ 9223372036854775807 ∧ Dig ds ∧ (ds = [] ∨ ∃ b o arr ty fr, A = some ⟨b, o, none⟩ ∧ V b = some (.cells arr ty fr) ∧ ∀ (i d : Nat), ds[i]? = some d → arr[o + i]? = some (.int .u32 (d : Int)))
def NatC (V : View) (v : Value) (n : Nat) : Prop := NatAt V v (dg n)
theorem wrap_id {x : Int} (h0 : -9223372036854775808 ≤ x) (h1 : x ≤ 9223372036854775807) : IntKind.i64.wrap x = x := by rw [IntKind.wrap_i64]; omega
theorem w64_id {x : Int} (h0 : 0 ≤ x) (h1 : x < 18446744073709551616) : IntKind.u64.wrap x = x := by
 simp [IntKind.wrap, IntKind.bits, IntKind.signed]; omega
theorem w32_mod (n : Nat) : IntKind.u32.wrap (n : Int) = ((n % BB : Nat) : Int) := by
 simp [IntKind.wrap, IntKind.bits, IntKind.signed, BB]
theorem loads_cell {P : Program} {H : Heap} {V : View} {ty n : Nat} {b off : Nat} {v : Value} (hs : shapeT P ty = some (false, n)) (h : CellAt H V b off v) : Loads P H V ty b off v := ⟨false, n, hs, .inr ⟨rfl, h⟩⟩
theorem take_snoc {α : Type} (l : List α) (k : Nat) (h : k < l.length) : l.take (k + 1) = l.take k ++ [l[k]] := by rw [List.take_succ_eq_append_getElem h]
theorem NatAt.mono {V V' : View} {v : Value} {ds : List Nat} (h : NatAt V v ds) (hV : V.le V') : NatAt V' v ds := by
 obtain ⟨A, c, e, hc, hm, hd, hA⟩ := h
 refine ⟨A, c, e, hc, hm, hd, ?_⟩
 rcases hA with h | ⟨b, o, arr, ty, fr, e, hb, hcell⟩
 ·exact .inl h
 ·exact .inr ⟨b, o, arr, ty, fr, e, hV _ _ hb, hcell⟩
theorem NatC.mono {V V' : View} {v : Value} {n : Nat} (h : NatC V v n) (hV : V.le V') : NatC V' v n := NatAt.mono h hV
theorem NatAt.take {V : View} {A : Option Addr} {n c : Nat} {ds : List Nat} (h : NatAt V (.slice A n c) ds) {k : Nat} (hk : k ≤ ds.length) : NatAt V (.slice A k c) (ds.take k) := by
 obtain ⟨A', c', e, hc, hm, hd, hA⟩ := h
 cases e
 refine ⟨A, c, by simp [Nat.min_eq_left hk], by simp; omega, hm, Dig_take hd k, ?_⟩
 rcases hA with rfl | ⟨b, o, arr, ty, fr, rfl, hV, hcell⟩
 ·exact .inl (by simp)
 ·refine .inr ⟨b, o, arr, ty, fr, rfl, hV, fun i d hi => hcell i d ?_⟩
  rw [List.getElem?_take] at hi
  split at hi
  ·exact hi
  ·cases hi
theorem NatAt.cell {V : View} {A : Option Addr} {n c : Nat} {ds : List Nat} (h : NatAt V (.slice A n c) ds) {k : Nat} (hk : k < ds.length) : ∃ b o, A = some ⟨b, o, none⟩ ∧ ∀ H, CellAt H V b (o + k) (.int .u32 (ds[k] : Int)) := by
 obtain ⟨A', c', e, hc, hm, hd, hA⟩ := h
 cases e
 rcases hA with rfl | ⟨b, o, arr, ty, fr, rfl, hV, hcell⟩
 ·simp at hk
 ·exact ⟨b, o, rfl, fun H => .inr ⟨arr, ty, fr, hV, hcell k ds[k] (List.getElem?_eq_getElem hk)⟩⟩
theorem NatAt.cells {V : View} {b o n c : Nat} {ds : List Nat} (h : NatAt V (.slice (some ⟨b, o, none⟩) n c) ds) (k : Nat) (hk : k < ds.length) (H : Heap) : CellAt H V b (o + k) (.int .u32 (ds[k] : Int)) := by
 obtain ⟨b', o', e, hc⟩ := NatAt.cell h hk
 cases e; exact hc H
theorem NatAt.form {V : View} {v : Value} {ds : List Nat} (h : NatAt V v ds) : ∃ A c, v = .slice A ds.length c ∧ ds.length ≤ c ∧ c ≤ 9223372036854775807 := by
 obtain ⟨A, c, e, hc, hm, _⟩ := h; exact ⟨A, c, e, hc, hm⟩
theorem NatAt.dig {V : View} {v : Value} {ds : List Nat} (h : NatAt V v ds) : Dig ds := by
 obtain ⟨A, c, e, hc, hm, hd, _⟩ := h; exact hd
theorem NatAt.addr {V : View} {A : Option Addr} {n c : Nat} {ds : List Nat} (h : NatAt V (.slice A n c) ds) (hk : 0 < ds.length) : ∃ b o, A = some ⟨b, o, none⟩ := by
 obtain ⟨b, o, e, _⟩ := h.cell hk; exact ⟨b, o, e⟩
theorem NatAt.nil (V : View) : NatAt V (.slice none 0 0) [] := ⟨none, 0, rfl, Nat.le_refl _, by omega, Dig_nil, .inl rfl⟩
theorem NatC.zero (V : View) : NatC V (.slice none 0 0) 0 := by unfold NatC; rw [dg_zero]; exact NatAt.nil V
def u32s (ds : List Nat) : List Value := ds.map fun d : Nat => Value.int .u32 (d : Int)
theorem NatAt.pub {V : View} {b n c tot e : Nat} {o : Obj} {ds : List Nat} (ho : RowObj ⟨e, u32s ds, tot⟩ o) (hd : Dig ds) (hn : ds.length = n) (hc : n ≤ c) (hm : c ≤ 9223372036854775807) : NatAt (addV V b o) (.slice (some ⟨b, 0, none⟩) n c) ds := by
 obtain ⟨ex, rfl, _⟩ := ho
 refine ⟨some ⟨b, 0, none⟩, c, by rw [hn], by omega, hm, hd, .inr ⟨b, 0, _, e, (0, 0), rfl, by simp [addV]; rfl, fun i d hi => ?_⟩⟩
 have hlt : i < ds.length := by
  rcases Nat.lt_or_ge i ds.length with h1 | h1
  ·exact h1
  ·rw [List.getElem?_eq_none h1] at hi; cases hi
 simp only [Nat.zero_add, List.getElem?_toArray]
 rw [List.getElem?_append_left (by simpa [u32s] using hlt)]
 simp [u32s, hi]
theorem trim_at (V : View) (v : Value) (ds : List Nat) (h : NatAt V v ds) : Spec Tryz.prog 128 [v] V fun v' V' => NatAt V' v' (trimL ds) := by
 obtain ⟨A, c, rfl, hc, hm⟩ := h.form
 refine (Spec.enter Tryz.func128 rfl fun Γ => ?_)
 simp only [Tryz.ntmps128, List.map_cons, List.map_nil, List.length_cons, List.length_nil, Nat.reduceAdd, Nat.reduceSub, List.replicate_succ, List.replicate_zero, List.cons_append, List.nil_append]
 refine (XWP.reg (by kernel_rfl) fun K hK => ?_)
 simp only [XA]
 refine hK _ (XWP.reg (by kernel_rfl) fun K hK => ?_)
 simp only [XA, XB]
 refine hK _ (XWP.seq (XWP.block (XWP.loop (fun k s => ∃ u6 u7 u8 u9 u10 u11 u12 u13 u14 u15 u16 u17, s = ⟨[.v (.slice A ds.length c), .v undef, .v (.slice none 0 0), .v (.int .i64 (k : Int)), .v (.slice A ds.length c), .v (.int .i64 (ds.length : Int)), u6, u7, u8, u9, u10, u11, u12, u13, u14, u15, u16, u17, .v undef, .v undef, .v undef], [], fun _ => none, V⟩ ∧ k ≤ ds.length ∧ trimL (ds.take k) = trimL ds) ds.length ⟨_, _, _, _, _, _, _, _, _, _, _, _, rfl, Nat.le_refl _, by simp⟩ ?_)))
 clear hK
 rintro k s ⟨u6, u7, u8, u9, u10, u11, u12, u13, u14, u15, u16, u17, rfl, hk, ht⟩
 refine XWP.seq (XWP.reg (by kernel_rfl) fun K hK => ?_)
 by_cases h0 : 0 < k
 ·have e1 : decide ((0 : Int) < (k : Int)) = true := decide_eq_true (by omega)
  have e2 : (IntKind.i64.wrap ((k : Int) - 1)) = ((k - 1 : Nat) : Int) := by rw [wrap_id (by omega) (by omega)]; omega
  obtain ⟨b, o, rfl, hcell⟩ := h.cell (k := k - 1) (by omega)
  simp only [XA, XB, gateX, ↓reduceIte, beq_self_eq_true, e1, e2]
  refine ⟨by omega, by omega, ld_mem (loads_cell shapeT_123 (hcell _)) ?_⟩
  simp only [XA, XB, gateX, ↓reduceIte, beq_self_eq_true]
  have ek : ds.take k = ds.take (k - 1) ++ [ds[k - 1]] := by rw [← take_snoc _ _ (by omega)]; congr 1; omega
  by_cases hz : ds[k - 1] = 0
  ·have e3 : decide ((ds[k - 1] : Int) = 0) = true := decide_eq_true (by omega)
   simp only [e3]
   refine hK _ (XWP.cond (t := true) rfl (fun _ => XWP.skip ?_) (fun h => by cases h))
   refine XWP.block (XWP.reg1 (by kernel_rfl) fun K hK => ?_)
   simp only [XA, XB, e2]
   exact hK _ ⟨k - 1, by omega, _, _, _, _, _, _, _, _, _, _, _, _, rfl, by omega, by rw [← ht, ek, hz, trimL_snoc_zero]⟩
  ·have e3 : decide ((ds[k - 1] : Int) = 0) = false := decide_eq_false (by omega)
   simp only [e3]
   refine hK _ (XWP.cond (t := false) rfl (fun h => by cases h) (fun _ => XWP.exit ?_))
   refine (XWP.reg (by kernel_rfl) fun K hK => ?_)
   simp only [XA, XB]
   refine ⟨by omega, by omega, by omega, hK _ (XWP.ret ?_)⟩
   refine ret_go _ rfl ?_
   rw [← ht, ek, trimL_snoc _ _ hz, ← ek]
   exact h.take hk
 ·have e1 : decide ((0 : Int) < (k : Int)) = false := decide_eq_false (by omega)
  obtain rfl : k = 0 := by omega
  simp only [XA, XB, gateX, ↓reduceIte, e1]
  refine hK _ (XWP.cond (t := false) rfl (fun h => by cases h) (fun _ => XWP.exit ?_))
  refine (XWP.reg (by kernel_rfl) fun K hK => ?_)
  simp only [XA, XB]
  refine ⟨by omega, by omega, by omega, hK _ (XWP.ret ?_)⟩
  refine ret_go _ rfl ?_
  rw [← ht]
  exact h.take hk
theorem trim_any (V : View) (v : Value) (ds : List Nat) (h : NatAt V v ds) : Spec Tryz.prog 128 [v] V fun v' V' => NatC V' v' (nv ds) :=
 (trim_at V v ds h).mono fun v' V' _ h' => by unfold NatC; rw [← trimL_eq _ h.dig]; exact h'
theorem trim_c (V : View) (v : Value) (n : Nat) (h : NatC V v n) : Spec Tryz.prog 128 [v] V fun v' V' => NatC V' v' n :=
 (trim_any V v _ h).mono fun v' V' _ h' => by rwa [nv_dg] at h'
def rightB (ds : List Nat) : Bool := match ds.getLast? with
 | none => true
 | some d => d != 0
theorem right_any (V : View) (v : Value) (ds : List Nat) (h : NatAt V v ds) : Spec Tryz.prog 92 [v] V fun v' V' => v' = .bool (rightB ds) := by
 obtain ⟨A, c, rfl, hc, hm⟩ := h.form
 refine (Spec.enter Tryz.func92 rfl fun Γ => ?_)
 simp only [Tryz.ntmps92, List.map_cons, List.map_nil, List.length_cons, List.length_nil, Nat.reduceAdd, Nat.reduceSub, List.replicate_succ, List.replicate_zero, List.cons_append, List.nil_append]
 refine (XWP.reg (by kernel_rfl) fun K hK => ?_)
 simp only [XA]
 refine hK _ (XWP.reg (by kernel_rfl) fun K hK => ?_)
 by_cases h0 : ds.length = 0
 ·have e1 : decide ((ds.length : Int) = 0) = true := decide_eq_true (by omega)
  simp only [XA, XB, gateX, ↓reduceIte, e1]
  refine hK _ (XWP.ret (ret_go _ rfl ?_))
  have : ds = [] := List.length_eq_zero_iff.1 h0
  subst this; rfl
 ·have e1 : decide ((ds.length : Int) = 0) = false := decide_eq_false (by omega)
  have e2 : (IntKind.i64.wrap ((ds.length : Int) - 1)) = ((ds.length - 1 : Nat) : Int) := by rw [wrap_id (by omega) (by omega)]; omega
  obtain ⟨b, o, rfl, hcell⟩ := h.cell (k := ds.length - 1) (by omega)
  simp only [XA, XB, gateX, ↓reduceIte, beq_self_eq_true, e1, e2]
  refine ⟨by omega, by omega, ld_mem (loads_cell shapeT_123 (hcell _)) ?_⟩
  simp only [XA, XB, gateX, ↓reduceIte, beq_self_eq_true]
  refine hK _ (XWP.ret (ret_go _ rfl ?_))
  have e4 : ds.getLast? = some ds[ds.length - 1] := by rw [List.getLast?_eq_getElem?, List.getElem?_eq_getElem (by omega)]
  show Value.bool _ = _
  unfold rightB
  rw [e4]
  congr 1
  simp [bne]
  rw [Bool.eq_iff_iff]; simp
theorem cells_one {v : Value} (h : isOne v = true) : v.cells = #[v] := by cases v <;> first | rfl | cases h
theorem fill_one {place : Nat → Option (Nat × Nat)} {cells : Array Value} {i off : Nat} {v : Value} {rest : List (Nat × Value)} (hp : place i = some (off, 1)) (hv : isOne v = true) (ho : off < cells.size) : Instr.fill place cells ((i, v) :: rest) = Instr.fill place (cells.setIfInBounds off v) rest := by
 have h1 : ¬ (cells.size < off + 1) := by omega
 simp [Instr.fill, hp, cells_one hv, h1, Array.zipIdx]
theorem bs_run {P : Program} {t e len : Nat} {i : TypeInfo} {zv : Value} {parts : Array (Nat × Value)} {cells : Array Value} (he : elemT P t = some e) (hi : P.info? e = some i) (hz : i.zero = some zv) (h0 : len * i.size ≠ 0) (h1 : len * i.size ≤ 16777216)
  (hf : Instr.fill (fun k => some (k * i.size, i.size)) (madeCells zv.cells (len * i.size)) parts.toList = some cells) : BuildsSlice P t len parts e cells.toList := fun w => by
 have h2 : ¬ (16777216 < len * i.size) := by omega
 unfold madeCells at hf
 simp [Instr.buildSlice, run_und (und_elem he), sizeOf, typeInfo, hi, h0, h2, zeroValue, hz, hf, newRow]
theorem bs_zero {P : Program} {t e n by_ : Nat} {z : List Value} (he : elemT P t = some e) (hz : zeroT P e = some (z, n, by_)) : BuildsSlice P t 0 #[] e [] := fun w => by
 obtain ⟨i, zv, hi, hzv, rfl, rfl, rfl⟩ := zero_parts hz
 have h0 : (Array.range 0 : Array Nat) = #[] := rfl
 simp [Instr.buildSlice, run_und (und_elem he), sizeOf, typeInfo, hi, Instr.fill, newRow, h0]
theorem bs_one {P : Program} {t e by_ : Nat} {z a : Value} (he : elemT P t = some e) (hz : zeroT P e = some ([z], 1, by_)) (ha : isOne a = true) : BuildsSlice P t 1 #[(0, a)] e [a] := by
 obtain ⟨i, zv, hi, hzv, h1, h2, rfl⟩ := zero_parts hz
 have hc : zv.cells = #[z] := Array.toList_inj.1 h1
 refine bs_run (cells := #[a]) he hi hzv (by omega) (by omega) ?_
 rw [h2, hc]
 have : madeCells #[z] (1 * 1) = #[z] := Array.toList_inj.1 (by rw [made_flat #[z] 1 rfl (by omega)]; rfl)
 rw [this, fill_one (off := 0) rfl ha (by simp)]; rfl
theorem bs_two {P : Program} {t e by_ : Nat} {z a b : Value} (he : elemT P t = some e) (hz : zeroT P e = some ([z], 1, by_)) (ha : isOne a = true) (hb : isOne b = true) : BuildsSlice P t 2 #[(0, a), (1, b)] e [a, b] := by
 obtain ⟨i, zv, hi, hzv, h1, h2, rfl⟩ := zero_parts hz
 have hc : zv.cells = #[z] := Array.toList_inj.1 h1
 refine bs_run (cells := #[a, b]) he hi hzv (by omega) (by omega) ?_
 rw [h2, hc]
 have : madeCells #[z] (2 * 1) = #[z, z] := Array.toList_inj.1 (by rw [made_flat #[z] 1 rfl (by omega)]; rfl)
 rw [this, fill_one (off := 0) rfl ha (by simp), fill_one (off := 1) rfl hb (by simp)]; rfl
theorem src_nat {V : View} {A : Option Addr} {n c : Nat} {ds : List Nat} (h : NatAt V (.slice A n c) ds) (H : Heap) : Src H V 1 (.slice A n c) n (u32s ds) := by
 obtain ⟨A', c', e, hc, hm, hd, hA⟩ := h
 cases e
 refine ⟨A, c, rfl, by simp [u32s], fun u hu => ?_, ?_⟩
 ·simp only [u32s, List.mem_map] at hu
  obtain ⟨d, _, rfl⟩ := hu; rfl
 ·rcases hA with rfl | ⟨b, o, arr, ty, fr, rfl, hV, hcell⟩
  ·exact .inl rfl
  ·refine .inr ⟨b, o, rfl, fun j u hu => .inr ⟨arr, ty, fr, hV, ?_⟩⟩
   simp only [u32s, List.getElem?_map] at hu
   cases hd' : ds[j]? with
   | none => rw [hd'] at hu; cases hu
   | some d => rw [hd'] at hu; cases hu; exact hcell j d hd'
theorem own_u32 {H : Heap} {b n cap : Nat} {xs : List Value} {e : Nat} (h : H b = some ⟨e, xs, cap * 1⟩) (hl : xs.length = n) (hc : n ≤ cap) (hm : cap ≤ 9223372036854775807) : Own H e 1 (.slice (some ⟨b, 0, none⟩) n cap) n xs := by
 refine ⟨by rw [hl, Nat.mul_one], .inr ⟨b, cap, rfl, h, hc, ?_⟩⟩
 unfold maxLen; omega
theorem clone_at (V : View) (v : Value) (ds : List Nat) (h : NatAt V v ds) (hl : ds.length ≤ 8796093022208) : Spec Tryz.prog 130 [v] V fun v' V' => NatAt V' v' ds := by
 obtain ⟨A, c, rfl, hc, hm⟩ := h.form
 refine (Spec.enter Tryz.func130 rfl fun Γ => ?_)
 simp only [Tryz.ntmps130, List.map_cons, List.map_nil, List.length_cons, List.length_nil, Nat.reduceAdd, Nat.reduceSub, List.replicate_succ, List.replicate_zero, List.cons_append, List.nil_append]
 refine (XWP.reg (by kernel_rfl) fun K hK => ?_)
 simp only [XA]
 refine hK _ (XWP.seq (XWP.reg (by kernel_rfl) fun K hK => ?_))
 simp only [XA, XB]
 refine hK _ (XWP.cond (t := A.isNone) rfl (fun hA => ?_) (fun hA => XWP.skip ?_))
 ·refine (XWP.reg (by kernel_rfl) fun K hK => ?_)
  simp only [XA]
  refine hK _ (XWP.ret ?_)
  try simp only [thenX_ret, inBlockX_ret]
  refine ret_go _ rfl ?_
  cases A with
  | some a => cases hA
  | none =>
   have : ds.length = 0 := by
    rcases Nat.eq_zero_or_pos ds.length with h0 | h0
    ·exact h0
    ·obtain ⟨b, o, e⟩ := h.addr h0; cases e
   rw [List.length_eq_zero_iff.1 this]
   exact NatAt.nil V
 ·refine (XWP.reg (by kernel_rfl) fun K hK => ?_)
  refine bs_go (by kernel_rfl) #[] (by simp) (bs_zero elemT_47 zeroT_123) fun b hb1 hb2 => ?_
  simp only [XA]
  refine ap_go elemT_47 (by kernel_rfl) zeroT_123 rfl (by omega) (n := 0) (xs := []) (own_u32 (by simp [upd]) rfl (Nat.le_refl _) (by omega)) (src_nat h _) (by omega) (by omega) fun v' H' hres => ?_
  simp only [XA]
  refine hK _ (XWP.ret ?_)
  obtain ⟨hown, _, _⟩ := hres
  simp only [List.nil_append, Nat.zero_add] at hown
  rcases own_parts hown with ⟨rfl, hn, _⟩ | ⟨g, cap, rfl, hg, hle, hcap, _⟩
  ·refine ret_go _ rfl ?_
   rw [List.length_eq_zero_iff.1 hn]; exact NatAt.nil V
  ·refine ret_pub g _ hg fun o ho hle' => ret_go _ rfl ?_
   exact NatAt.pub ho h.dig rfl hle (by unfold maxLen at hcap; omega)
end Go.Proofs.YtobjjdnfgamgcaaGreat
end
section
namespace Go.Proofs.YtobjjdnfgamgcaaGreat
theorem BB_pos : 0 < BB := by unfold BB; omega
theorem pow_pos' (k : Nat) : 0 < BB ^ k := Nat.pow_pos BB_pos
theorem nv_at (x : List Nat) (i : Nat) (h : i < x.length) : nv x = nv (x.take i) + BB ^ i * x[i] + BB ^ (i + 1) * nv (x.drop (i + 1)) := by
 rw [nv_split x (i + 1) (by omega), nv_take_succ x i h]
theorem cmp_lt {x y : List Nat} (hx : Dig x) (hy : Dig y) {i : Nat} (h1 : i < x.length) (h2 : i < y.length) (hd : x.drop (i + 1) = y.drop (i + 1)) (hlt : x[i] < y[i]) : nv x < nv y := by
 rw [nv_at x i h1, nv_at y i h2, hd]
 have h3 := nv_lt (Dig_take hx i)
 rw [List.length_take, Nat.min_eq_left (by omega)] at h3
 have h4 : BB ^ i * (x[i] + 1) ≤ BB ^ i * y[i] := Nat.mul_le_mul_left _ hlt
 rw [Nat.mul_add, Nat.mul_one] at h4
 omega
def cmpI (a b : Nat) : Int := if a < b then -1 else if b < a then 1 else 0
theorem cmpI_lt {a b : Nat} (h : a < b) : cmpI a b = -1 := by simp [cmpI, h]
theorem cmpI_gt {a b : Nat} (h : b < a) : cmpI a b = 1 := by
 have : ¬ a < b := by omega
 simp [cmpI, h, this]
theorem cmpI_eq (a : Nat) : cmpI a a = 0 := by simp [cmpI]
theorem of_digits (n : Nat) (h : n < 18446744073709551616) : Dig [n % BB, n / BB] ∧ nv [n % BB, n / BB] = n := by
 unfold BB
 refine ⟨fun d hd => ?_, ?_⟩
 ·simp at hd; unfold BB; omega
 ·simp [nv, BB]; omega
theorem small_zero {n : Nat} (h : sz n = 0) : n = 0 := sz_eq_zero h
theorem small_one {n : Nat} (h : (dg n).length = 1) : (dg n).getD 0 0 = n := by
 have h0 := nv_dg n
 generalize dg n = l at *
 match l, h with
 | [d], _ => simpa [nv] using h0
theorem small_two {n : Nat} (h : (dg n).length = 2) : (dg n).getD 0 0 + BB * (dg n).getD 1 0 = n := by
 have h0 := nv_dg n
 generalize dg n = l at *
 match l, h with
 | [d, e], _ => simpa [nv] using h0
theorem small_more {n : Nat} (h : 2 < (dg n).length) : 18446744073709551616 ≤ n := by
 have h0 : n ≠ 0 := fun e => by rw [e, dg_zero] at h; simp at h
 have h1 := le_sz h0
 unfold sz at h1
 have h2 : BB ^ 2 ≤ BB ^ ((dg n).length - 1) := Nat.pow_le_pow_right BB_pos (by omega)
 unfold BB at h1 h2; omega
theorem small_lt {n : Nat} (h : (dg n).length ≤ 2) : n < 18446744073709551616 := by
 have h1 := lt_sz n
 unfold sz at h1
 have h2 : BB ^ (dg n).length ≤ BB ^ 2 := Nat.pow_le_pow_right BB_pos h
 unfold BB at h1 h2; omega
def gd (l : List Nat) (i : Nat) : Nat := l.getD i 0
theorem nv_take_gd (l : List Nat) (k : Nat) : nv (l.take (k + 1)) = nv (l.take k) + BB ^ k * gd l k := by
 by_cases h : k < l.length
 ·rw [nv_take_succ l k h]; simp [gd, h]
 ·rw [List.take_of_length_le (by omega), List.take_of_length_le (by omega)]; simp [gd, h]
theorem gd_lt {l : List Nat} (h : Dig l) (i : Nat) : gd l i < BB := by
 unfold gd
 by_cases hi : i < l.length
 ·simp [hi]; exact Dig_get h i hi
 ·simp [hi]; exact BB_pos
theorem gd_get {l : List Nat} {i : Nat} (h : i < l.length) : gd l i = l[i] := by simp [gd, h]
theorem gd_none {l : List Nat} {i : Nat} (h : l.length ≤ i) : gd l i = 0 := by simp [gd, h]
theorem add_step {a b out : List Nat} {c k : Nat} (hl : out.length = k) (h : nv out + BB ^ k * c = nv (a.take k) + nv (b.take k)) :
  nv (out ++ [(c + gd a k + gd b k) % BB]) + BB ^ (k + 1) * ((c + gd a k + gd b k) / BB) = nv (a.take (k + 1)) + nv (b.take (k + 1)) := by
 rw [nv_snoc, hl, nv_take_gd, nv_take_gd, Nat.pow_succ, Nat.mul_assoc]
 have e := Nat.mod_add_div (c + gd a k + gd b k) BB
 have e2 : BB ^ k * ((c + gd a k + gd b k) % BB) + BB ^ k * (BB * ((c + gd a k + gd b k) / BB)) = BB ^ k * c + BB ^ k * gd a k + BB ^ k * gd b k := by
  rw [← Nat.mul_add, e, Nat.mul_add, Nat.mul_add]
 omega
theorem sub_step {a b out : List Nat} {c k : Nat} (hl : out.length = k) (hc : c ≤ 1) (h : nv out + nv (b.take k) = nv (a.take k) + BB ^ k * c) (hA : gd a k < BB) (hB : gd b k < BB) :
  (gd b k + c ≤ gd a k → nv (out ++ [gd a k - (gd b k + c)]) + nv (b.take (k + 1)) = nv (a.take (k + 1)) + BB ^ (k + 1) * 0) ∧
  (gd a k < gd b k + c → nv (out ++ [gd a k + BB - (gd b k + c)]) + nv (b.take (k + 1)) = nv (a.take (k + 1)) + BB ^ (k + 1) * 1) := by
 rw [nv_snoc, nv_snoc, hl, nv_take_gd, nv_take_gd, Nat.pow_succ]
 constructor
 ·intro hle
  obtain ⟨r, hr⟩ : ∃ r, gd a k = r + (gd b k + c) := ⟨gd a k - (gd b k + c), by omega⟩
  rw [hr, Nat.add_sub_cancel, Nat.mul_add, Nat.mul_add]
  omega
 ·intro hlt
  obtain ⟨r, hr⟩ : ∃ r, gd a k + BB = r + (gd b k + c) := ⟨gd a k + BB - (gd b k + c), by omega⟩
  have e : BB ^ k * gd a k + BB ^ k * BB = BB ^ k * r + (BB ^ k * gd b k + BB ^ k * c) := by rw [← Nat.mul_add, hr, Nat.mul_add, Nat.mul_add]
  rw [hr, Nat.add_sub_cancel]
  omega
end Go.Proofs.YtobjjdnfgamgcaaGreat
end
section
namespace Go.Proofs.YtobjjdnfgamgcaaGreat
open Go Go.RowKit
attribute [local irreducible] XWP Spec SpecO XPub XCall seqX clX apX stX ldX iaX slX
theorem shr32 (n : Nat) : Int.fdiv (n : Int) (2 ^ min 32 IntKind.u64.bits) = ((n / BB : Nat) : Int) := by
 have : (2 : Int) ^ min 32 IntKind.u64.bits = ((BB : Nat) : Int) := rfl
 rw [this, Int.fdiv_eq_ediv_of_nonneg _ (by omega)]; rfl
theorem shl32 (n : Nat) (h : n < BB) : IntKind.u64.wrap ((n : Int) * 2 ^ min 32 IntKind.u64.bits) = ((n * BB : Nat) : Int) := by
 have : (2 : Int) ^ min 32 IntKind.u64.bits = 4294967296 := rfl
 unfold BB at *
 rw [this, w64_id (by omega) (by omega)]; omega
theorem u64_of_u32 (n : Nat) (h : n < BB) : IntKind.u64.wrap (n : Int) = (n : Int) := by
 unfold BB at h; exact w64_id (by omega) (by omega)
theorem or_add (a b : Nat) (ha : a < BB) (hb : b < BB) : orI .u64 ((a * BB : Nat) : Int) (b : Int) = ((a * BB + b : Nat) : Int) := by
 show IntKind.u64.wrap (((BitVec.ofInt 64 ((a * BB : Nat) : Int) ||| BitVec.ofInt 64 (b : Int)).toNat : Nat) : Int) = _
 rw [BitVec.ofInt_natCast, BitVec.ofInt_natCast]
 have e3 : (BitVec.ofNat 64 (a * BB) ||| BitVec.ofNat 64 b).toNat = a * BB + b := by
  unfold BB at *
  rw [BitVec.toNat_or, BitVec.toNat_ofNat, BitVec.toNat_ofNat, Nat.mod_eq_of_lt (by omega), Nat.mod_eq_of_lt (by omega)]
  have := Nat.two_pow_add_eq_or_of_lt (i := 32) (b := b) (by omega) a
  have h32 : (2 : Nat) ^ 32 = 4294967296 := rfl
  rw [h32] at this
  rw [Nat.mul_comm a, ← this]
 rw [e3]
 unfold BB at *
 exact w64_id (by omega) (by omega)
theorem or_add' (a b : Nat) (ha : a < BB) (hb : b < BB) : orI .u64 (b : Int) ((a * BB : Nat) : Int) = ((b + BB * a : Nat) : Int) := by
 have : ∀ x y : Int, orI .u64 x y = orI .u64 y x := fun x y => by unfold orI; rw [BitVec.or_comm]
 rw [this, or_add a b ha hb, Nat.mul_comm a, Nat.add_comm]
theorem of_c (V : View) (n : Nat) (hn : n < 18446744073709551616) : Spec Tryz.prog 98 [.int .u64 (n : Int)] V fun v' V' => NatC V' v' n := by
 obtain ⟨hdig, hnv⟩ := of_digits n hn
 have hq : n / BB < BB := by unfold BB; omega
 have e2 : ((n / BB : Nat) : Int) = ((n / BB % BB : Nat) : Int) := by rw [Nat.mod_eq_of_lt hq]
 refine (Spec.enter Tryz.func98 rfl fun Γ => ?_)
 simp only [Tryz.ntmps98, List.map_cons, List.map_nil, List.length_cons, List.length_nil, Nat.reduceAdd, Nat.reduceSub, List.replicate_succ, List.replicate_zero, List.cons_append, List.nil_append]
 refine (XWP.reg (by kernel_rfl) fun K hK => ?_)
 simp only [XA]
 refine hK _ (XWP.reg (by kernel_rfl) fun K hK => ?_)
 simp only [XA, XB, Int.reduceToNat, Int.reduceLE, w32_mod, shr32, ← e2]
 refine bs_go (by kernel_rfl) #[(0, .int .u32 ((n % BB : Nat) : Int)), (1, .int .u32 ((n / BB : Nat) : Int))] (by simp [ev_tmp, SV.val]) (bs_two elemT_47 zeroT_123 rfl rfl) fun b hb1 hb2 => ?_
 simp only [XA, Nat.reduceAdd]
 refine call_pub b ⟨123, u32s [n % BB, n / BB], 2⟩ (by simp [upd, u32s]) (fun o ho hle => ?_) (by kernel_rfl) rfl
 refine call_go (by kernel_rfl) rfl (trim_any _ _ [n % BB, n / BB] (NatAt.pub ho hdig rfl (Nat.le_refl _) (by omega))) fun v1 V1 hV1 h1 => ?_
 simp only [XA]
 rw [hnv] at h1
 refine call_go (by kernel_rfl) rfl (clone_at _ _ _ h1 (by have := sz_le (n := n) (k := 2) (by unfold BB; omega); unfold sz at this; omega)) fun v2 V2 hV2 h2 => ?_
 simp only [XA]
 refine hK _ (XWP.ret ?_)
 try simp only [thenX_ret, inBlockX_ret]
 refine ret_go _ rfl ?_
 exact h2
theorem getD_get {l : List Nat} {i : Nat} (h : i < l.length) : l[i] = l.getD i 0 := by simp [h]
theorem small_c (V : View) (v : Value) (n : Nat) (h : NatC V v n) : Spec Tryz.prog 93 [v] V fun v' V' => v' = if n < 18446744073709551616 then .tuple #[.int .u64 (n : Int), .bool true] else .tuple #[.int .u64 0, .bool false] := by
 obtain ⟨A0, c0, rfl, hc0, hm0⟩ := NatAt.form h
 refine (Spec.enter Tryz.func93 rfl fun Γ => ?_)
 simp only [Tryz.ntmps93, List.map_cons, List.map_nil, List.length_cons, List.length_nil, Nat.reduceAdd, Nat.reduceSub, List.replicate_succ, List.replicate_zero, List.cons_append, List.nil_append]
 refine Gx.a (by kernel_rfl) fun K hK => ?_
 simp only [XA]
 refine hK _ ?_
 refine Gx.a (by kernel_rfl) fun K hK => ?_
 simp only [XA]
 refine call_go (by kernel_rfl) rfl (trim_c _ _ _ h) fun v1 V1 hV1 h1 => ?_
 obtain ⟨A, c, rfl, hc, hm⟩ := NatAt.form h1
 simp only [XA]
 refine hK _ ?_
 refine Gx.b (by kernel_rfl) fun K hK => ?_
 simp only [XA, XB]
 refine hK _ ?_
 refine XWP.block ?_
 refine Gx.a (by kernel_rfl) fun K hK => ?_
 by_cases e0 : (dg n).length = 0
 ·have b0 : decide (((dg n).length : Int) = 0) = true := decide_eq_true (by omega)
  simp only [XA, XB, b0]
  refine hK _ ?_
  refine Gx.t rfl ?_
  refine Gx.a (by kernel_rfl) fun K hK => ?_
  simp only [XA]
  refine hK _ (XWP.ret ?_)
  try simp only [thenX_ret, inBlockX_ret]
  refine ret_go _ rfl ?_
  have := small_zero (n := n) e0
  subst this; rfl
 ·have b0 : decide (((dg n).length : Int) = 0) = false := decide_eq_false (by omega)
  simp only [XA, XB, b0]
  refine hK _ ?_
  refine Gx.f rfl ?_
  refine Gx.a (by kernel_rfl) fun K hK => ?_
  by_cases e1 : (dg n).length = 1
  ·have b1 : decide (((dg n).length : Int) = 1) = true := decide_eq_true (by omega)
   simp only [XA, XB, b1]
   refine hK _ ?_
   refine Gx.t rfl ?_
   refine Gx.a (by kernel_rfl) fun K hK => ?_
   obtain ⟨b, o, rfl⟩ := NatAt.addr h1 (by omega)
   have hcell := NatAt.cells h1 0 (by omega)
   have hd0 := Dig_get (Dig_dg n) 0 (by omega)
   simp only [XA, XB, Int.reduceLE, u64_of_u32 _ hd0]
   refine ⟨by omega, ld_mem (loads_cell shapeT_123 (hcell _)) ?_⟩
   simp only [XA, XB, u64_of_u32 _ hd0]
   refine hK _ (XWP.ret ?_)
   try simp only [thenX_ret, inBlockX_ret]
   refine ret_go _ rfl ?_
   have hs := small_one e1
   rw [if_pos (small_lt (by omega)), getD_get (by omega), hs]; rfl
  ·have b1 : decide (((dg n).length : Int) = 1) = false := decide_eq_false (by omega)
   simp only [XA, XB, b1]
   refine hK _ ?_
   refine Gx.f rfl ?_
   refine Gx.a (by kernel_rfl) fun K hK => ?_
   by_cases e2 : (dg n).length = 2
   ·have b2 : decide (((dg n).length : Int) = 2) = true := decide_eq_true (by omega)
    simp only [XA, XB, b2]
    refine hK _ ?_
    refine Gx.t rfl ?_
    (refine XWP.drw [0, 1, 2, 3, 4, 5, 6, 7, 8, 9, 10, 11] (by kernel_rfl) (by kernel_rfl) (by kernel_rfl) fun K hK => ?_) <;> dsimp only [pickOps, List.getElem?_cons_zero, List.getElem?_cons_succ]
    obtain ⟨b, o, rfl⟩ := NatAt.addr h1 (by omega)
    have hcell0 := NatAt.cells h1 0 (by omega)
    have hcell1 := NatAt.cells h1 1 (by omega)
    have hd0 := Dig_get (Dig_dg n) 0 (by omega)
    have hd1 := Dig_get (Dig_dg n) 1 (by omega)
    simp only [XA, XB, Int.reduceLE]
    refine ⟨by omega, ld_mem (loads_cell shapeT_123 (hcell0 _)) ?_⟩
    simp only [XA, XB, Int.reduceToNat, Int.reduceLE, u64_of_u32 _ hd0]
    refine ⟨by omega, ld_mem (loads_cell shapeT_123 (hcell1 _)) ?_⟩
    simp only [XA, XB, Int.reduceToNat, Int.reduceLE, u64_of_u32 _ hd0, u64_of_u32 _ hd1, shl32 _ hd1, or_add' _ _ hd1 hd0]
    refine hK _ (XWP.ret ?_)
    try simp only [thenX_ret, inBlockX_ret]
    refine ret_go _ rfl ?_
    have hs := small_two e2
    rw [if_pos (small_lt (by omega)), getD_get (i := 0) (by omega), getD_get (i := 1) (by omega), hs]; rfl
   ·have b2 : decide (((dg n).length : Int) = 2) = false := decide_eq_false (by omega)
    simp only [XA, XB, b2]
    refine hK _ ?_
    refine Gx.f rfl ?_
    refine XWP.skip ?_
    refine Gx.a (by kernel_rfl) fun K hK => ?_
    simp only [XA]
    refine hK _ (XWP.ret ?_)
    try simp only [thenX_ret, inBlockX_ret]
    refine ret_go _ rfl ?_
    have := small_more (n := n) (by omega)
    rw [if_neg (by omega)]; rfl
end Go.Proofs.YtobjjdnfgamgcaaGreat
end
