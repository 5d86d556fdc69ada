/- The composition and every mixture of two kernels leave the posterior invariant, at every input. (part 9 of 13) -/
import Derived.OrdersHeld
import Derived.Below
import Derived.Tactics
import Derived.KernelRfl
import Derived.RangeFuncCalls
import Derived.RangeFuncFrom
import Derived.RangeFuncLeaves
import Derived.OrdersIn
import Derived.Laws.AppendOwn
import Derived.Laws.MakeOwn
import Derived.Laws.CopyRow
import Derived.Laws.Cells
import Derived.Laws.World
import Derived.Laws.Alloc2
import Derived.Laws.NewBlocks
import Derived.Maps.AppendAt
import Derived.Test.YtobjjdnfgamgcaaGreatProg
import Init.Data.List.Lemmas
import Init.Omega
import Derived.WalkKit
import Derived.ProofKit
import Derived.OpenShut
import Derived.ChangeOld
import Derived.SizedLaws
import Derived.ChangeSlices
import Derived.ChangeArms
import Derived.Deep.Slices
import Derived.MapKept
import Derived.Maps.RangeRun
import Derived.Test.YtobjjdnfgamgcaaGreatBO8
set_option linter.unusedVariables false
set_option linter.unusedSimpArgs false
section
namespace Go.Proofs.YtobjjdnfgamgcaaGreat
open Go Go.RowKit
attribute [local irreducible] XWP Spec SpecO XPub XCall seqX clX apX stX ldX iaX slX
def partStep (d0 : Dr) (a : Nat) (st : List (Int × List Rn) × Int) (r : Rn) : Option (List (Int × List Rn) × Int) :=
 match r.ds[a]? with
 | none => none
 | some d => if d.site ≠ d0.site then none else if d.whole ≠ d0.whole then none else
  match (mget st.1 d.index).getD [] with
  | [] => some (mput st.1 d.index [r], st.2 + d.odds)
  | x :: rest => if (x.ds[a]?).map (·.odds) ≠ some d.odds then none else some (mput st.1 d.index ((x :: rest) ++ [r]), st.2)
def draw0 (L : List Rn) (a : Nat) : Dr := ((L[0]?).bind (·.ds[a]?)).getD ⟨0, 0, 0, 0⟩
def partI (L : List Rn) (a : Nat) : Nat → Option (List (Int × List Rn) × Int)
 | 0 => some ([], 0)
 | k + 1 => (partI L a k).bind fun st => (L[k]?).bind fun r => partStep (draw0 L a) a st r
def partB (L : List Rn) (a : Nat) : Option (List (Int × List Rn) × Bool) := (partI L a L.length).map fun st => (st.1, decide (st.2 ≤ (draw0 L a).whole))
theorem partI_none {L : List Rn} {a k : Nat} (h : partI L a k = none) : ∀ m, k ≤ m → partI L a m = none := by
  intro m hm
  induction m with
  | zero => have : k = 0 := by omega
            subst this; exact h
  | succ m ih =>
    by_cases e : k = m + 1
    · subst e; exact h
    · unfold partI; rw [ih (by omega)]; rfl
theorem partB_none {L : List Rn} {a k : Nat} (hk : k < L.length) (h : partI L a (k + 1) = none) : partB L a = none := by
 unfold partB; rw [partI_none h L.length (by omega)]; rfl
def GOk (L : List Rn) (a : Nat) (gs : List (Int × List Rn)) : Prop := ∀ (i : Nat) (k : Int) (rs : List Rn), gs[i]? = some (k, rs) → ∀ x ∈ rs, x ∈ L ∧ a < x.ds.length
theorem GOk.put {L : List Rn} {a : Nat} {gs : List (Int × List Rn)} (h : GOk L a gs) {k : Int} {rs : List Rn} (hrs : ∀ x ∈ rs, x ∈ L ∧ a < x.ds.length) : GOk L a (mput gs k rs) := by
 intro i k' rs' hi x hx
 cases hf : mfind gs k 0 with
 | none =>
  rw [mfind_none hf] at hi
  by_cases hl : i < gs.length
  ·rw [List.getElem?_append_left hl] at hi
   exact h i k' rs' hi x hx
  ·rw [List.getElem?_append_right (by omega)] at hi
   have := (List.getElem?_eq_some_iff.1 hi).1
   simp at this
   rw [this] at hi
   simp at hi
   obtain ⟨_, rfl⟩ := hi
   exact hrs x hx
 | some p =>
  obtain ⟨j, u⟩ := p
  obtain ⟨_, b2, _, b4⟩ := mfind_some hf
  rw [Nat.sub_zero] at b4
  rw [Nat.zero_add] at b2
  rw [b4] at hi
  by_cases e : i = j
  ·subst e
   rw [List.getElem?_set_self b2] at hi
   cases hi
   exact hrs x hx
  ·rw [List.getElem?_set_ne (fun h => e h.symm)] at hi
   exact h i k' rs' hi x hx
def GView (V : View) (ml : List (Int × Value)) (gs : List (Int × List Rn)) : Prop := ml.map (·.1) = gs.map (·.1) ∧ ∀ (i : Nat) (k : Int) (v : Value) (k' : Int) (rs : List Rn), ml[i]? = some (k, v) → gs[i]? = some (k', rs) → SlK 9 rnE V v rs
theorem XWP.pubAll {Γ : Cx} {P : Program} {Q : Exit → XS → Prop} {t : List SV} {bx : List (List Value)} {H : Heap} {V V0 : View} {c : Code} {ml : List (Int × Value)} {gs : List (Int × List Rn)} (hm : GMem H V0 ml gs) (hV : V0.le V)
  (h : ∀ H' V', V.le V' → GView V' ml gs → XWP Γ P c Q ⟨t, bx, H', V'⟩) : XWP Γ P c Q ⟨t, bx, H, V⟩ := by
 have hlen := hm.len
 have key : ∀ n, n ≤ ml.length → (∀ H' V', V.le V' → (∀ (i : Nat) (k : Int) (v : Value) (k' : Int) (rs : List Rn), i < n → ml[i]? = some (k, v) → gs[i]? = some (k', rs) → SlK 9 rnE V' v rs) → (∀ (i : Nat) (k : Int) (v : Value) (k' : Int) (rs : List Rn), n ≤ i → ml[i]? = some (k, v) → gs[i]? = some (k', rs) → ∃ cells, Own H' 51 9 v rs.length cells ∧ RowR V' cells rs) → XWP Γ P c Q ⟨t, bx, H', V'⟩) → XWP Γ P c Q ⟨t, bx, H, V⟩ := by
  intro n
  induction n with
  | zero =>
   intro _ hK
   refine hK H V (View.le_refl _) (fun i k v k' rs hi => by omega) fun i k v k' rs _ h1 h2 => ?_
   obtain ⟨_, cells, ho, hr⟩ := hm.mem i k v k' rs h1 h2
   exact ⟨cells, ho, hr.mono rnE_ok hV⟩
  | succ n ih =>
   intro hn hK
   refine ih (by omega) fun H' V' hV' hs ho => ?_
   obtain ⟨⟨k, v⟩, e1⟩ : ∃ p, ml[n]? = some p := ⟨_, List.getElem?_eq_getElem (by omega)⟩
   obtain ⟨⟨k', rs⟩, e2⟩ : ∃ p, gs[n]? = some p := ⟨_, List.getElem?_eq_getElem (by omega)⟩
   obtain ⟨cells, ho1, hr1⟩ := ho n k v k' rs (Nat.le_refl _) e1 e2
   refine XWP.pubK rnE_ok (by omega) ho1 hr1 fun H2 V2 hV2 hsl hk2 => ?_
   refine hK H2 V2 (View.le_trans hV' hV2) (fun i k1 v1 k2 rs1 hi h1 h2 => ?_) fun i k1 v1 k2 rs1 hi h1 h2 => ?_
   ·by_cases ei : i = n
    ·subst ei
     rw [e1] at h1
     rw [e2] at h2
     cases h1
     cases h2
     exact hsl
    ·exact (hs i k1 v1 k2 rs1 (by omega) h1 h2).mono rnE_ok hV2
   ·obtain ⟨c2, o2, r2⟩ := ho i k1 v1 k2 rs1 (by omega) h1 h2
    have hap := hm.dis n i k v k1 v1 (by omega) e1 h1
    refine ⟨c2, ?_, r2.mono rnE_ok hV2⟩
    refine ⟨o2.1, ?_⟩
    rcases o2.2 with h3 | ⟨g, cap, rfl, hg, h3⟩
    ·exact .inl h3
    ·exact .inr ⟨g, cap, rfl, by rw [hk2 g fun e => hap g e rfl]; exact hg, h3⟩
 exact key ml.length (Nat.le_refl _) fun H' V' hV' hs _ => h H' V' hV' ⟨hm.keys, fun i k v k' rs h1 h2 => hs i k v k' rs (List.getElem?_eq_some_iff.1 h1).1 h1 h2⟩
def begB (p : List Dr) (r : Rn) : Bool := decide (p.length ≤ r.ds.length ∧ r.ds.take p.length = p)
def withL (L : List Rn) (p : List Dr) : List Rn := L.filter (begB p)
def metBad (d : Dr) (x : Dr) : Bool := decide (x.site ≠ d.site) || decide (x.whole ≠ d.whole) || (decide (x.index = d.index) && decide (x.odds ≠ d.odds))
def metStep (n : Nat) (st : List Dr × Int) (r : Rn) : Option (List Dr × Int) :=
 match r.ds[n]? with
 | none => none
 | some d => if st.1.any (metBad d) then none
  else if st.1.any (fun x => decide (x.index = d.index)) then some st else some (st.1 ++ [d], st.2 + d.odds)
def metI (W : List Rn) (n : Nat) : Nat → Option (List Dr × Int)
 | 0 => some ([], 0)
 | k + 1 => (metI W n k).bind fun st => (W[k]?).bind fun r => metStep n st r
def partsW (W : List Rn) (n : Nat) : Bool :=
 if W.length = 1 ∧ (W[0]?).map (·.ds.length) = some n then true
 else match metI W n W.length with
  | none => false
  | some st => decide (st.2 ≤ (draw0 W n).whole)
def partsB (L : List Rn) (p : List Dr) : Bool := partsW (withL L p) p.length
def forkB : Nat → List Rn → Nat → Bool
 | 0, L, _ => decide (L.length ≤ 1)
 | f + 1, L, a => if L.length ≤ 1 then true else
  match partB L a with
  | none => false
  | some (gs, ok) => if ok = false then false else if gs.length = 1 then forkB f L (a + 1) else gs.all fun g => forkB f g.2 (a + 1)
theorem mget_none {β : Type} : ∀ {l : List (Int × β)} {k : Int}, mget l k = none → k ∉ l.map (·.1)
 | [], _, _ => by simp
 | (j, v) :: l, k, h => by
  unfold mget at h
  split at h
  ·cases h
  ·rename_i hne
   rw [List.map_cons, List.mem_cons]
   exact fun h' => h'.elim (fun e => hne e.symm) (mget_none h)
theorem mput_new {β : Type} : ∀ {l : List (Int × β)} {k : Int} (v : β), mget l k = none → mput l k v = l ++ [(k, v)]
 | [], _, _, _ => rfl
 | (j, u) :: l, k, v, h => by
  unfold mget at h
  split at h
  ·cases h
  ·rename_i hne
   unfold mput
   rw [if_neg hne, mput_new v h]; rfl
theorem mput_old {β : Type} : ∀ {l : List (Int × β)} {k : Int} {u : β} (v : β), mget l k = some u → ∃ i : Nat, l[i]? = some (k, u) ∧ mput l k v = l.set i (k, v)
 | [], _, _, _, h => by cases h
 | (j, w) :: l, k, u, v, h => by
  unfold mget at h
  split at h
  ·rename_i e
   cases h
   refine ⟨0, by rw [← e]; rfl, ?_⟩
   unfold mput
   rw [if_pos e]; rfl
  ·rename_i hne
   obtain ⟨i, h1, h2⟩ := mput_old v h
   refine ⟨i + 1, by simpa using h1, ?_⟩
   unfold mput
   rw [if_neg hne, h2]; rfl
structure PM (L : List Rn) (a k : Nat) (gs : List (Int × List Rn)) (met : List Dr) : Prop where
 len : met.length = gs.length
 pos : 0 < k → 0 < gs.length
 nod : (gs.map (·.1)).Nodup
 ent : ∀ (i : Nat) (key : Int) (rs : List Rn), gs[i]? = some (key, rs) → ∃ d, met[i]? = some d ∧ d.index = key ∧ d.site = (draw0 L a).site ∧ d.whole = (draw0 L a).whole ∧ 0 < rs.length ∧ rs = (L.take k).filter (fun r => decide (r.ds[a]? = some d))
 all : ∀ r ∈ L.take k, ∃ (i : Nat) (key : Int) (rs : List Rn) (d : Dr), gs[i]? = some (key, rs) ∧ met[i]? = some d ∧ r.ds[a]? = some d
theorem PM.zero (L : List Rn) (a : Nat) : PM L a 0 [] [] := ⟨rfl, fun h => by omega, by simp, fun i k rs h => by simp at h, fun r h => by simp at h⟩
theorem nodup_get {α : Type} {l : List α} (h : l.Nodup) {i j : Nat} {x : α} (hi : l[i]? = some x) (hj : l[j]? = some x) : i = j := by
 have li := (List.getElem?_eq_some_iff.1 hi).1
 have lj := (List.getElem?_eq_some_iff.1 hj).1
 have e1 := (List.getElem?_eq_some_iff.1 hi).2
 have e2 := (List.getElem?_eq_some_iff.1 hj).2
 exact (List.getElem_inj h).1 (e1.trans e2.symm)
theorem draw0_at {L : List Rn} {a : Nat} {r : Rn} {d : Dr} (h : L[0]? = some r) (hd : r.ds[a]? = some d) : draw0 L a = d := by
 unfold draw0; rw [h]; simp [hd]
theorem PM.step {L : List Rn} {a k : Nat} {gs : List (Int × List Rn)} {met : List Dr} {odds : Int} (h : PM L a k gs met) {r : Rn} (hr : L[k]? = some r) :
  (partStep (draw0 L a) a (gs, odds) r = none ∧ metStep a (met, odds) r = none) ∨ ∃ gs' met' odds', partStep (draw0 L a) a (gs, odds) r = some (gs', odds') ∧ metStep a (met, odds) r = some (met', odds') ∧ PM L a (k + 1) gs' met' := by
 have etk : L.take (k + 1) = L.take k ++ [r] := by rw [List.take_add_one, hr]; rfl
 cases hd : r.ds[a]? with
 | none => left; unfold partStep metStep; rw [hd]; exact ⟨rfl, rfl⟩
 | some d =>
  have hget : ∀ i x, met[i]? = some x → ∃ key rs, gs[i]? = some (key, rs) ∧ x.index = key ∧ x.site = (draw0 L a).site ∧ x.whole = (draw0 L a).whole ∧ 0 < rs.length ∧ rs = (L.take k).filter (fun r => decide (r.ds[a]? = some x)) := fun i x hx => by
   have li := (List.getElem?_eq_some_iff.1 hx).1
   obtain ⟨⟨key, rs⟩, hg⟩ : ∃ p, gs[i]? = some p := ⟨_, List.getElem?_eq_getElem (by have := h.len; omega)⟩
   obtain ⟨d', e1, e2⟩ := h.ent i key rs hg
   rw [hx] at e1
   cases e1
   exact ⟨key, rs, hg, e2⟩
  by_cases hs : d.site = (draw0 L a).site ∧ d.whole = (draw0 L a).whole
  rotate_left
  ·left
   have hk : 0 < k := by
    rcases Nat.eq_zero_or_pos k with e | e
    ·subst e
     exact absurd ⟨by rw [draw0_at hr hd], by rw [draw0_at hr hd]⟩ hs
    ·exact e
   constructor
   ·unfold partStep
    rw [hd]
    dsimp only
    by_cases h1 : d.site = (draw0 L a).site
    ·rw [if_neg (fun h => h h1), if_pos (fun h2 => hs ⟨h1, h2⟩)]
    ·rw [if_pos h1]
   ·unfold metStep
    rw [hd]
    dsimp only
    rw [if_pos]
    have hp := h.pos hk
    obtain ⟨x, hx⟩ : ∃ x, met[0]? = some x := ⟨_, List.getElem?_eq_getElem (by have := h.len; omega)⟩
    obtain ⟨_, _, _, _, s1, s2, _⟩ := hget 0 x hx
    rw [List.any_eq_true]
    refine ⟨x, List.mem_of_getElem? hx, ?_⟩
    unfold metBad
    by_cases h1 : d.site = (draw0 L a).site
    ·have : x.whole ≠ d.whole := fun e => hs ⟨h1, by rw [← e, s2]⟩
     simp [this]
    ·have : x.site ≠ d.site := fun e => h1 (by rw [← e, s1])
     simp [this]
  obtain ⟨hs1, hs2⟩ := hs
  have hpS : partStep (draw0 L a) a (gs, odds) r = match (mget gs d.index).getD [] with
   | [] => some (mput gs d.index [r], odds + d.odds)
   | x :: rest => if (x.ds[a]?).map (·.odds) ≠ some d.odds then none else some (mput gs d.index ((x :: rest) ++ [r]), odds) := by
   unfold partStep
   rw [hd]
   dsimp only
   rw [if_neg (fun h => h hs1), if_neg (fun h => h hs2)]
   all_goals (cases (mget gs d.index).getD [] <;> rfl)
  have hmS : metStep a (met, odds) r = if met.any (metBad d) then none else if met.any (fun x => decide (x.index = d.index)) then some (met, odds) else some (met ++ [d], odds + d.odds) := by
   unfold metStep
   rw [hd]
  cases hg : mget gs d.index with
  | none =>
   have hni := mget_none hg
   have hno : ∀ x ∈ met, x.index ≠ d.index := fun x hx e => by
    obtain ⟨i, hi⟩ := List.getElem?_of_mem hx
    obtain ⟨key, rs, h1, h2, _⟩ := hget i x hi
    exact hni (List.mem_map.2 ⟨_, List.mem_of_getElem? h1, by rw [← e, h2]⟩)
   right
   refine ⟨gs ++ [(d.index, [r])], met ++ [d], odds + d.odds, ?_, ?_, ?_⟩
   ·rw [hpS, hg]
    show some (mput gs d.index [r], odds + d.odds) = _
    rw [mput_new [r] hg]
   ·rw [hmS, if_neg, if_neg]
    ·rw [List.any_eq_true]
     rintro ⟨x, hx, e⟩
     exact hno x hx (of_decide_eq_true e)
    ·rw [List.any_eq_true]
     rintro ⟨x, hx, e⟩
     obtain ⟨i, hi⟩ := List.getElem?_of_mem hx
     obtain ⟨key, rs, h1, h2, s1, s2, _⟩ := hget i x hi
     unfold metBad at e
     rw [s1, s2, hs1, hs2] at e
     simp at e
     exact hno x hx e.1
   ·have hld : ∀ x ∈ L.take k, x.ds[a]? ≠ some d := fun x hx e => by
     obtain ⟨i, key, rs, d', g1, g2, g3⟩ := h.all x hx
     rw [e] at g3
     cases g3
     exact hno d (List.mem_of_getElem? g2) rfl
    have hkeep : ∀ x ∈ met, (L.take (k + 1)).filter (fun r => decide (r.ds[a]? = some x)) = (L.take k).filter (fun r => decide (r.ds[a]? = some x)) := fun x hx => by
     rw [etk, List.filter_append]
     have : ([r].filter fun r => decide (r.ds[a]? = some x)) = [] := by
      rw [List.filter_eq_nil_iff]
      intro y hy
      have : y = r := by simpa using hy
      subst this
      rw [hd]
      intro e
      have e := of_decide_eq_true e
      cases e
      exact hno _ hx rfl
     rw [this, List.append_nil]
    refine ⟨by simp [h.len], fun _ => by simp, ?_, fun i key rs hi => ?_, fun x hx => ?_⟩
    ·rw [List.map_append, List.nodup_append]
     refine ⟨h.nod, by simp, fun x hx y hy => ?_⟩
     have : y = d.index := by simpa using hy
     subst this
     exact fun e => hni (e ▸ hx)
    ·by_cases hlt : i < gs.length
     ·rw [List.getElem?_append_left hlt] at hi
      obtain ⟨d', e1, e2, e3, e4, e5, e6⟩ := h.ent i key rs hi
      refine ⟨d', by rw [List.getElem?_append_left (by have := h.len; omega)]; exact e1, e2, e3, e4, e5, ?_⟩
      rw [hkeep d' (List.mem_of_getElem? e1)]; exact e6
     ·have := (List.getElem?_eq_some_iff.1 hi).1
      have ei : i = gs.length := by simp at this; omega
      subst ei
      rw [List.getElem?_append_right (Nat.le_refl _), Nat.sub_self] at hi
      simp at hi
      obtain ⟨rfl, rfl⟩ := hi
      refine ⟨d, by rw [← h.len, List.getElem?_append_right (Nat.le_refl _), Nat.sub_self]; rfl, rfl, hs1, hs2, by simp, ?_⟩
      rw [etk, List.filter_append]
      have : ((L.take k).filter fun r => decide (r.ds[a]? = some d)) = [] := by
       rw [List.filter_eq_nil_iff]
       intro x hx e
       exact hld x hx (of_decide_eq_true e)
      rw [this]
      simp [hd]
    ·rw [etk] at hx
     rcases List.mem_append.1 hx with hx | hx
     ·obtain ⟨i, key, rs, d', g1, g2, g3⟩ := h.all x hx
      have l1 := (List.getElem?_eq_some_iff.1 g1).1
      have l2 := (List.getElem?_eq_some_iff.1 g2).1
      exact ⟨i, key, rs, d', by rw [List.getElem?_append_left l1]; exact g1, by rw [List.getElem?_append_left l2]; exact g2, g3⟩
     ·have ex : x = r := by simpa using hx
      rw [ex]
      exact ⟨gs.length, d.index, [r], d, by rw [List.getElem?_append_right (Nat.le_refl _), Nat.sub_self]; rfl, by rw [← h.len, List.getElem?_append_right (Nat.le_refl _), Nat.sub_self]; rfl, hd⟩
  | some rs =>
   obtain ⟨i0, hi0, hput⟩ := mput_old (rs ++ [r]) hg
   obtain ⟨d', m1, m2, m3, m4, m5, m6⟩ := h.ent i0 _ rs hi0
   obtain ⟨x, rest, hrs⟩ : ∃ x rest, rs = x :: rest := by
    cases rs with
    | nil => simp at m5
    | cons x rest => exact ⟨x, rest, rfl⟩
   have hx : x.ds[a]? = some d' := by
    have : x ∈ rs := by rw [hrs]; simp
    rw [m6, List.mem_filter] at this
    exact of_decide_eq_true this.2
   have huniq : ∀ y ∈ met, y.index = d.index → y = d' := fun y hy e => by
    obtain ⟨i, hi⟩ := List.getElem?_of_mem hy
    obtain ⟨key, rs', h1, h2, _⟩ := hget i y hi
    have e1 : (gs.map (·.1))[i]? = some d.index := by rw [List.getElem?_map, h1, ← e, h2]; rfl
    have e2 : (gs.map (·.1))[i0]? = some d.index := by rw [List.getElem?_map, hi0]; rfl
    have := nodup_get h.nod e1 e2
    subst this
    rw [hi] at m1
    exact (Option.some.inj m1)
   have hpS2 : partStep (draw0 L a) a (gs, odds) r = if some d'.odds ≠ some d.odds then none else some (mput gs d.index (rs ++ [r]), odds) := by
    rw [hpS, hg, hrs]
    show (if (x.ds[a]?).map (·.odds) ≠ some d.odds then none else some (mput gs d.index ((x :: rest) ++ [r]), odds)) = _
    rw [hx]; rfl
   by_cases ho : d'.odds = d.odds
   ·have edd : d' = d := by
     cases d'; cases d; simp only at *; subst ho; subst m2; subst m3; subst m4; subst hs1; subst hs2; rfl
    subst edd
    right
    refine ⟨gs.set i0 (d'.index, rs ++ [r]), met, odds, ?_, ?_, ?_⟩
    ·rw [hpS2, if_neg (fun h => h rfl), hput]
    ·rw [hmS, if_neg, if_pos]
     ·rw [List.any_eq_true]
      exact ⟨d', List.mem_of_getElem? m1, by simp⟩
     ·rw [List.any_eq_true]
      rintro ⟨y, hy, e⟩
      obtain ⟨i, hi⟩ := List.getElem?_of_mem hy
      obtain ⟨key, rs', _, _, s1, s2, _⟩ := hget i y hi
      unfold metBad at e
      rw [s1, s2, hs1, hs2] at e
      simp at e
      have := huniq y hy e.1
      subst this
      exact e.2 rfl
    ·have hset : ∀ i key rs', (gs.set i0 (d'.index, rs ++ [r]))[i]? = some (key, rs') → (i = i0 ∧ key = d'.index ∧ rs' = rs ++ [r]) ∨ (i ≠ i0 ∧ gs[i]? = some (key, rs')) := fun i key rs' hi => by
      by_cases e : i = i0
      ·subst e
       rw [List.getElem?_set_self (List.getElem?_eq_some_iff.1 hi0).1] at hi
       cases hi
       exact .inl ⟨rfl, rfl, rfl⟩
      ·rw [List.getElem?_set_ne (fun h => e h.symm)] at hi
       exact .inr ⟨e, hi⟩
     refine ⟨by simp [h.len], fun _ => by have := (List.getElem?_eq_some_iff.1 hi0).1; simp; omega, ?_, fun i key rs' hi => ?_, fun y hy => ?_⟩
     ·have : (gs.set i0 (d'.index, rs ++ [r])).map (·.1) = gs.map (·.1) := by
       refine List.ext_getElem? fun j => ?_
       rw [List.getElem?_map, List.getElem?_map, List.getElem?_set]
       by_cases e : i0 = j
       ·subst e
        rw [if_pos rfl, if_pos (List.getElem?_eq_some_iff.1 hi0).1, hi0]; rfl
       ·rw [if_neg e]
      rw [this]; exact h.nod
     ·rcases hset i key rs' hi with ⟨rfl, rfl, rfl⟩ | ⟨hne, hi2⟩
      ·refine ⟨d', m1, rfl, m3, m4, by simp, ?_⟩
       rw [etk, List.filter_append, ← m6]
       simp [hd]
      ·obtain ⟨d2, e1, e2, e3, e4, e5, e6⟩ := h.ent i key rs' hi2
       refine ⟨d2, e1, e2, e3, e4, e5, ?_⟩
       rw [etk, List.filter_append, ← e6]
       have : ([r].filter fun r => decide (r.ds[a]? = some d2)) = [] := by
        rw [List.filter_eq_nil_iff]
        intro y hy
        have : y = r := by simpa using hy
        subst this
        rw [hd]
        intro e
        have e := of_decide_eq_true e
        cases e
        have g1 : (gs.map (·.1))[i]? = some d'.index := by rw [List.getElem?_map, hi2, ← e2]; rfl
        have g2 : (gs.map (·.1))[i0]? = some d'.index := by rw [List.getElem?_map, hi0]; rfl
        exact hne (nodup_get h.nod g1 g2)
       rw [this, List.append_nil]
     ·rw [etk] at hy
      have hnew : (gs.set i0 (d'.index, rs ++ [r]))[i0]? = some (d'.index, rs ++ [r]) := List.getElem?_set_self (List.getElem?_eq_some_iff.1 hi0).1
      rcases List.mem_append.1 hy with hy | hy
      ·obtain ⟨i, key, rs', d2, g1, g2, g3⟩ := h.all y hy
       by_cases e : i = i0
       ·subst e
        rw [m1] at g2
        cases g2
        exact ⟨_, _, _, _, hnew, m1, g3⟩
       ·exact ⟨i, key, rs', d2, by rw [List.getElem?_set_ne (fun h => e h.symm)]; exact g1, g2, g3⟩
      ·have : y = r := by simpa using hy
       subst this
       exact ⟨_, _, _, _, hnew, m1, hd⟩
   ·left
    constructor
    ·rw [hpS2, if_pos (fun e => ho (Option.some.inj e))]
    ·rw [hmS, if_pos]
     rw [List.any_eq_true]
     refine ⟨d', List.mem_of_getElem? m1, ?_⟩
     unfold metBad
     rw [m2, decide_eq_true rfl, decide_eq_true ho]
     simp
theorem part_met (L : List Rn) (a : Nat) : ∀ k, k ≤ L.length → (partI L a k = none ∧ metI L a k = none) ∨ ∃ gs odds met, partI L a k = some (gs, odds) ∧ metI L a k = some (met, odds) ∧ PM L a k gs met
 | 0, _ => .inr ⟨[], 0, [], rfl, rfl, PM.zero L a⟩
 | k + 1, hk => by
  obtain ⟨r, hr⟩ : ∃ r, L[k]? = some r := ⟨_, List.getElem?_eq_getElem (by omega)⟩
  rcases part_met L a k (by omega) with ⟨h1, h2⟩ | ⟨gs, odds, met, h1, h2, h3⟩
  ·left; unfold partI metI; rw [h1, h2]; exact ⟨rfl, rfl⟩
  ·have e1 : partI L a (k + 1) = partStep (draw0 L a) a (gs, odds) r := by unfold partI; rw [h1, hr]; rfl
   have e2 : metI L a (k + 1) = metStep a (met, odds) r := by unfold metI; rw [h2, hr]; rfl
   rw [e1, e2]
   rcases h3.step (odds := odds) hr with h | ⟨gs', met', odds', g1, g2, g3⟩
   ·exact .inl h
   ·exact .inr ⟨gs', odds', met', g1, g2, g3⟩
theorem begB_iff {p : List Dr} {r : Rn} : begB p r = true ↔ p.length ≤ r.ds.length ∧ r.ds.take p.length = p := by
 unfold begB; rw [decide_eq_true_iff]
theorem begB_take {r : Rn} {n : Nat} (h : n ≤ r.ds.length) : begB (r.ds.take n) r = true := by
 rw [begB_iff, List.length_take, Nat.min_eq_left h]
 exact ⟨h, rfl⟩
theorem begB_get {p : List Dr} {r : Rn} (h : begB p r = true) {i : Nat} (hi : i < p.length) : r.ds[i]? = p[i]? := by
 have := (begB_iff.1 h).2
 conv => rhs; rw [← this]
 rw [List.getElem?_take, if_pos hi]
theorem begB_snoc {p : List Dr} {r : Rn} {d : Dr} (h : begB p r = true) (hd : r.ds[p.length]? = some d) : begB (p ++ [d]) r = true := by
 obtain ⟨h1, h2⟩ := begB_iff.1 h
 have := (List.getElem?_eq_some_iff.1 hd).1
 rw [begB_iff, List.length_append, List.length_singleton]
 refine ⟨by omega, ?_⟩
 rw [List.take_add_one, h2, hd]; rfl
theorem withL_all {L : List Rn} {p : List Dr} (h : ∀ r ∈ L, begB p r = true) : withL L p = L := List.filter_eq_self.2 h
theorem withL_group {L : List Rn} {p : List Dr} {a : Nat} {d : Dr} (hd : p[a]? = some d) : withL (L.filter fun r => decide (r.ds[a]? = some d)) p = withL L p := by
 unfold withL
 rw [List.filter_filter]
 refine List.filter_congr fun r _ => ?_
 cases hb : begB p r
 ·rfl
 ·have := begB_get hb (List.getElem?_eq_some_iff.1 hd).1
  rw [this, hd]; simp
theorem partsW_one {r : Rn} {n : Nat} (hn : n ≤ r.ds.length) (hg : ∀ d ∈ r.ds, d.good) : partsW [r] n = true := by
 unfold partsW
 by_cases h : r.ds.length = n
 ·rw [if_pos ⟨rfl, by simp [h]⟩]
 ·rw [if_neg (fun e => h (by simpa using e.2))]
  obtain ⟨d, hd⟩ : ∃ d, r.ds[n]? = some d := ⟨_, List.getElem?_eq_getElem (by omega)⟩
  have e : metI [r] n [r].length = some ([d], 0 + d.odds) := by
   show (metI [r] n 0).bind _ = _
   simp [metI, metStep, hd]
  rw [e]
  have : draw0 [r] n = d := draw0_at (r := r) rfl hd
  rw [this]
  dsimp only
  have := (hg d (List.mem_of_getElem? hd)).2.2.1
  exact decide_eq_true (by omega)
theorem fork_parts : ∀ (f : Nat) (L : List Rn) (a : Nat) (p : List Dr), p.length = a → 0 < L.length → (∀ r ∈ L, begB p r = true) → (∀ r ∈ L, ∀ d ∈ r.ds, d.good) → (∀ r ∈ L, r.ds.length + 1 ≤ a + f) →
  (forkB f L a = true ↔ ∀ r ∈ L, ∀ n, a ≤ n → n ≤ r.ds.length → partsB L (r.ds.take n) = true) := by
 intro f
 induction f with
 | zero =>
  intro L a p hp h0 hb hg hl
  have r := L[0]
  have := hl _ (List.getElem_mem h0)
  have := (begB_iff.1 (hb _ (List.getElem_mem h0))).1
  omega
 | succ f ih =>
  intro L a p hp h0 hb hg hl
  by_cases h1 : L.length ≤ 1
  ·obtain ⟨r, rfl⟩ : ∃ r, L = [r] := List.length_eq_one_iff.1 (by omega)
   unfold forkB
   rw [if_pos h1]
   refine ⟨fun _ x hx n hn1 hn2 => ?_, fun _ => rfl⟩
   have : x = r := by simpa using hx
   subst this
   unfold partsB
   rw [withL_all (fun y hy => by
    have : y = x := by simpa using hy
    subst this
    exact begB_take hn2), List.length_take, Nat.min_eq_left hn2]
   exact partsW_one hn2 (hg x (by simp))
  ·have hW : withL L p = L := withL_all hb
   have r0m := List.getElem_mem h0
   have etake : ∀ r ∈ L, r.ds.take a = p := fun r hr => by rw [← hp]; exact (begB_iff.1 (hb r hr)).2
   have hat : partsB L p = match metI L a L.length with
     | none => false
     | some st => decide (st.2 ≤ (draw0 L a).whole) := by
    unfold partsB
    rw [hW, hp]
    unfold partsW
    rw [if_neg (fun e => h1 (by omega))]
   have hfail : partsB L p = false → ¬ ∀ r ∈ L, ∀ n, a ≤ n → n ≤ r.ds.length → partsB L (r.ds.take n) = true := fun hf h => by
    have := h _ r0m a (Nat.le_refl _) (by rw [← hp]; exact (begB_iff.1 (hb _ r0m)).1)
    rw [etake _ r0m, hf] at this
    cases this
   have hF : forkB (f + 1) L a = match partB L a with
     | none => false
     | some (gs, ok) => if ok = false then false else if gs.length = 1 then forkB f L (a + 1) else gs.all fun g => forkB f g.2 (a + 1) := by
    conv => lhs; unfold forkB
    rw [if_neg h1]
   rcases part_met L a L.length (Nat.le_refl _) with ⟨g1, g2⟩ | ⟨gs, odds, met, g1, g2, g3⟩
   ·have e1 : partB L a = none := by unfold partB; rw [g1]; rfl
    rw [hF, e1]
    refine ⟨fun h => (by cases h), fun h => absurd h (hfail ?_)⟩
    rw [hat, g2]
   have e1 : partB L a = some (gs, decide (odds ≤ (draw0 L a).whole)) := by unfold partB; rw [g1]; rfl
   rw [hF, e1]
   dsimp only
   by_cases hok : odds ≤ (draw0 L a).whole
   rotate_left
   ·rw [if_pos (decide_eq_false hok)]
    refine ⟨fun h => (by cases h), fun h => absurd h (hfail ?_)⟩
    rw [hat, g2]
    exact decide_eq_false hok
   rw [if_neg (by rw [decide_eq_true hok]; simp)]
   have hpt : partsB L p = true := by rw [hat, g2]; exact decide_eq_true hok
   have hall : ∀ r ∈ L, ∃ (i : Nat) (key : Int) (rs : List Rn) (d : Dr), gs[i]? = some (key, rs) ∧ met[i]? = some d ∧ r.ds[a]? = some d := fun r hr => g3.all r (by rw [List.take_length]; exact hr)
   have hent : ∀ (i : Nat) (key : Int) (rs : List Rn), gs[i]? = some (key, rs) → ∃ d, met[i]? = some d ∧ 0 < rs.length ∧ rs = L.filter (fun r => decide (r.ds[a]? = some d)) := fun i key rs h => by
    obtain ⟨d, e1, _, _, _, e5, e6⟩ := g3.ent i key rs h
    rw [List.take_length] at e6
    exact ⟨d, e1, e5, e6⟩
   have hdown : (∀ r ∈ L, ∀ n, a ≤ n → n ≤ r.ds.length → partsB L (r.ds.take n) = true) ↔ ∀ r ∈ L, ∀ n, a + 1 ≤ n → n ≤ r.ds.length → partsB L (r.ds.take n) = true :=
    ⟨fun h r hr n h1 h2 => h r hr n (by omega) h2, fun h r hr n h1 h2 => by
     by_cases e : n = a
     ·subst e; rw [etake r hr]; exact hpt
     ·exact h r hr n (by omega) h2⟩
   rw [hdown]
   by_cases hone : gs.length = 1
   ·rw [if_pos hone]
    obtain ⟨⟨key, rs⟩, hgs⟩ : ∃ g, gs = [g] := List.length_eq_one_iff.1 hone
    obtain ⟨d, e1, e2, e3⟩ := hent 0 key rs (by rw [hgs]; rfl)
    have hd : ∀ r ∈ L, r.ds[a]? = some d := fun r hr => by
     obtain ⟨i, k', rs', d', q1, q2, q3⟩ := hall r hr
     have : i = 0 := by have := (List.getElem?_eq_some_iff.1 q1).1; omega
     subst this
     rw [e1] at q2
     cases q2
     exact q3
    exact ih L (a + 1) (p ++ [d]) (by simp [hp]) h0 (fun r hr => begB_snoc (hb r hr) (by rw [hp]; exact hd r hr)) hg (fun r hr => by have := hl r hr; omega)
   rw [if_neg hone, List.all_eq_true]
   have key : ∀ (i : Nat) (k : Int) (rs : List Rn), gs[i]? = some (k, rs) → (forkB f rs (a + 1) = true ↔ ∀ r ∈ rs, ∀ n, a + 1 ≤ n → n ≤ r.ds.length → partsB L (r.ds.take n) = true) := fun i k rs hi => by
    obtain ⟨d, e1, e2, e3⟩ := hent i k rs hi
    have hm : ∀ r ∈ rs, r ∈ L ∧ r.ds[a]? = some d := fun r hr => by
     rw [e3, List.mem_filter] at hr
     exact ⟨hr.1, of_decide_eq_true hr.2⟩
    rw [ih rs (a + 1) (p ++ [d]) (by simp [hp]) e2 (fun r hr => begB_snoc (hb r (hm r hr).1) (by rw [hp]; exact (hm r hr).2)) (fun r hr => hg r (hm r hr).1) (fun r hr => by have := hl r (hm r hr).1; omega)]
    refine ⟨fun h r hr n h1 h2 => ?_, fun h r hr n h1 h2 => ?_⟩
    all_goals
     have hx := h r hr n h1 h2
     have hpd : (r.ds.take n)[a]? = some d := by rw [List.getElem?_take, if_pos (by omega)]; exact (hm r hr).2
     unfold partsB at hx ⊢
     rw [e3, withL_group hpd] at *
     exact hx
   refine ⟨fun h r hr n h1 h2 => ?_, fun h g hgm => ?_⟩
   ·obtain ⟨i, k, rs, d, q1, q2, q3⟩ := hall r hr
    obtain ⟨d', e1, e2, e3⟩ := hent i k rs q1
    rw [q2] at e1
    cases e1
    exact (key i k rs q1).1 (h _ (List.mem_of_getElem? q1)) r (by rw [e3, List.mem_filter]; exact ⟨hr, decide_eq_true q3⟩) n h1 h2
   ·obtain ⟨i, hi⟩ := List.getElem?_of_mem hgm
    obtain ⟨k, rs⟩ := g
    refine (key i k rs hi).2 fun r hr n h1 h2 => ?_
    obtain ⟨d, e1, e2, e3⟩ := hent i k rs hi
    rw [e3, List.mem_filter] at hr
    exact h r hr.1 n h1 h2
theorem drawnT : (Tryz.prog).underlying 66 = some (.struct #[⟨"Site", 3, 0, false, "", "", 0⟩, ⟨"Index", 3, 1, false, "", "", 8⟩, ⟨"Odds", 3, 2, false, "", "", 16⟩, ⟨"Whole", 3, 3, false, "", "", 24⟩]) := by kernel_rfl
theorem drawnH : (Tryz.prog).stoodInHeld 66 = false := by kernel_rfl
theorem drawnG : (Tryz.prog).eqGuardType (Tryz.prog).depth 66 = false := by kernel_rfl
theorem intU : (Tryz.prog).underlying 3 = some (.int .i64) := by kernel_rfl
theorem run_part_int (xs : Array Value) (i : Nat) (n : Int) (w : World) (h : xs[i]? = some (.int .i64 n)) : (Go.part 3 xs i).run Tryz.prog w = .ok (.int .i64 n) w := by
 obtain ⟨h1, h2⟩ := shape_parts (shapeT_3)
 simp [Go.part, h1, h]
theorem run_eqI (a b : Int) (d : Nat) (w : World) : (Op.equalIn (d + 1) 3 (.int .i64 a) (.int .i64 b)).run Tryz.prog w = .ok (a == b) w := by
 simp [Op.equalIn, run_und intU]
theorem run_eqD (d e : Dr) (w : World) : (Op.equal 66 (.agg d.cells.toArray) (.agg e.cells.toArray)).run Tryz.prog w = .ok (decide (d = e)) w := by
 have : ∀ n, (Op.equalIn (n + 2) 66 (.agg d.cells.toArray) (.agg e.cells.toArray)).run Tryz.prog w = .ok (decide (d = e)) w := fun n => by
  obtain ⟨d1, d2, d3, d4⟩ := d
  obtain ⟨e1, e2, e3, e4⟩ := e
  unfold Op.equalIn
  simp [run_und drawnT, drawnH, Dr.cells, run_part_int, run_eqI]
  by_cases h1 : d1 = e1 <;> by_cases h2 : d2 = e2 <;> by_cases h3 : d3 = e3 <;> by_cases h4 : d4 = e4 <;> simp [h1, h2, h3, h4]
 exact this 9998
theorem drawn_ne (d e : Dr) : BinRun Tryz.prog .neq 66 (.agg d.cells.toArray) (.agg e.cells.toArray) (.bool (decide (d ≠ e))) := fun x y w => by
 simp [eqGuard, binOp, drawnG, run_eqD]
theorem drawn_eq (d e : Dr) : BinRun Tryz.prog .eql 66 (.agg d.cells.toArray) (.agg e.cells.toArray) (.bool (decide (d = e))) := fun x y w => by
 simp [eqGuard, binOp, drawnG, run_eqD]
theorem rn_draws {V : View} {cs : List Value} {r : Rn} (h : ElK 9 rnE V cs r) : ∃ c0 c1 c2 c3 c4 dv c6 c7 c8, cs = [c0, c1, c2, c3, c4, dv, c6, c7, c8] ∧ SlK 4 drE V dv r.ds := by
 obtain ⟨_, _, c1, c2, c3, c4, dv, m, c7, c8, rfl, hds, _⟩ := h
 exact ⟨_, _, _, _, _, _, _, _, _, rfl, hds⟩
theorem dr_get {V : View} {dv : Value} {ds : List Dr} {a : Nat} {d : Dr} (h : SlK 4 drE V dv ds) (hd : ds[a]? = some d) : ∃ b o c, dv = .slice (some ⟨b, o, none⟩) ds.length c ∧ ∀ H, CellAt H V b (o + a * 4) (.int .i64 d.site) ∧ CellAt H V b (o + a * 4 + 1) (.int .i64 d.index) ∧ CellAt H V b (o + a * 4 + 2) (.int .i64 d.odds) ∧ CellAt H V b (o + a * 4 + 3) (.int .i64 d.whole) := by
 obtain ⟨A, c, rfl, _, _⟩ := h.form
 have ha := (List.getElem?_eq_some_iff.1 hd).1
 obtain ⟨b, o, rfl⟩ := SlK.addr h (by omega)
 obtain ⟨dc, ⟨_, _, d3⟩, hcell⟩ := SlK.get h a ha
 have e : ds[a] = d := (List.getElem?_eq_some_iff.1 hd).2
 have d3 : dc = ds[a].cells := d3
 rw [e] at d3
 subst d3
 exact ⟨b, o, c, rfl, fun H => ⟨hcell H 0 _ rfl, hcell H 1 _ rfl, hcell H 2 _ rfl, hcell H 3 _ rfl⟩⟩
theorem cellV {V V' : View} {b o : Nat} {u : Value} (h : ∀ H, CellAt H V b o u) (hV : V.le V') (H : Heap) : CellAt H V' b o u := by
 rcases h (fun _ => none) with ⟨r, h1, _⟩ | ⟨arr, ty, fr, h1, h2⟩
 ·cases h1
 ·exact .inr ⟨arr, ty, fr, hV _ _ h1, h2⟩
theorem mapT : (Tryz.prog).underlying 120 = some (.map 3 22) := by kernel_rfl
theorem intT : (Tryz.prog).underlying 3 = some (.int .i64) := by kernel_rfl
theorem zrun (w : World) : (zeroValue 22).run Tryz.prog w = .ok (.slice none 0 0) w := by
 have h : ((Tryz.prog).info? 22).bind (·.zero) = some (.slice none 0 0) := by kernel_rfl
 cases hi : (Tryz.prog).info? 22 with
 | none => rw [hi] at h; cases h
 | some i =>
  rw [hi] at h
  have h : i.zero = some (.slice none 0 0) := h
  simp [zeroValue, typeInfo, hi, h]
set_option maxHeartbeats 8000000 in
set_option maxRecDepth 100000 in
theorem cparted_c (V : View) (v : Value) (L : List Rn) (a : Nat) (h : SlK 9 rnE V v L) (h0 : 0 < L.length) (hl : L.length ≤ 100) (ha : a ≤ 200) (hg : ∀ r ∈ L, ∀ d ∈ r.ds, d.good) :
  Spec Tryz.prog 117 [v, .int .i64 (a : Int)] V fun v' V' => (partB L a = none → v' = .tuple #[.map none, .bool false]) ∧ ∀ gs ok, partB L a = some (gs, ok) → ∃ g ml, v' = .tuple #[.map (some g), .bool ok] ∧ V' g = some (mapO ml) ∧ GView V' ml gs ∧ GOk L a gs := by
 obtain ⟨A, cL, rfl, _, _⟩ := h.form
 obtain ⟨bL, oL, rfl⟩ := SlK.addr h h0
 refine (Spec.enterR Tryz.func117 rfl fun Γ hΓ => ?_)
 simp only [Tryz.ntmps117, List.map_cons, List.map_nil, List.length_cons, List.length_nil, Nat.reduceAdd, Nat.reduceSub, List.replicate_succ, List.replicate_zero, List.cons_append, List.nil_append]
 refine Gx.a (by kernel_rfl) fun K hK => ?_
 simp only [XA]
 refine hK _ ?_
 refine XWP.seq (XWP.regZ (fun i => i == 0) (by kernel_rfl) ?_)
 refine seqZ_z rfl (opz_make rfl hΓ.2 fun g hVg hHg hMg => ?_)
 dsimp only
 refine seqZ_x rfl ?_
 simp only [XA, Nat.reduceAdd]
 refine seqZ_nil ?_
 rw [thenX_normal]
 refine Gx.a (by kernel_rfl) fun K hK => ?_
 simp only [XA]
 refine hK _ ?_
 have hVle : ∀ o, V.le (addV V g o) := fun o => addV_new hVg
 obtain ⟨r0, hr0⟩ : ∃ r, L[0]? = some r := ⟨_, List.getElem?_eq_getElem h0⟩
 have e0 : L[0] = r0 := (List.getElem?_eq_some_iff.1 hr0).2
 obtain ⟨cs0, hcs0, hcell0⟩ := SlK.get h 0 h0
 rw [e0] at hcs0
 obtain ⟨u0, u1, u2, u3, u4, dv0, u6, u7, u8, rfl, hds0⟩ := rn_draws hcs0
 obtain ⟨A0, q0, rfl, _, _⟩ := hds0.form
 have hd0cell : ∀ H V', V.le V' → CellAt H V' bL (oL + 5) (.slice A0 r0.ds.length q0) := fun H V' hV => by
  have := hcell0 H 5 _ rfl
  rw [Nat.zero_mul, Nat.add_zero] at this
  rcases this with ⟨r, h1, h2⟩ | ⟨arr, ty, fr, h1, h2⟩
  ·exact .inl ⟨r, h1, h2⟩
  ·exact .inr ⟨arr, ty, fr, hV _ _ h1, h2⟩
 refine XWP.cut (fun s => ∃ (H2 : Heap) (ml : List (Int × Value)) (gs : List (Int × List Rn)) (odds : Int), StIs (fun Z => [.v (.slice (some ⟨bL, oL, none⟩) L.length cL), .v (.int .i64 (a : Int)), Z 2,Z 3,Z 4,Z 5, .v (.map (some g)), .v (.int .i64 odds), Z 8,Z 9,Z 10,Z 11,Z 12,Z 13,Z 14,Z 15,Z 16,Z 17,Z 18,Z 19,Z 20,Z 21,Z 22,Z 23,Z 24,Z 25,Z 26,Z 27,Z 28,Z 29,Z 30,Z 31,Z 32,Z 33,Z 34,Z 35,Z 36,Z 37,Z 38,Z 39,Z 40,Z 41,Z 42,Z 43,Z 44,Z 45,Z 46,Z 47,Z 48,Z 49,Z 50,Z 51,Z 52,Z 53,Z 54,Z 55,Z 56,Z 57,Z 58,Z 59,Z 60,Z 61,Z 62,Z 63,Z 64,Z 65,Z 66,Z 67,Z 68,Z 69,Z 70,Z 71,Z 72,Z 73,Z 74,Z 75,Z 76,Z 77,Z 78,Z 79,Z 80,Z 81,Z 82,Z 83,Z 84,Z 85,Z 86,Z 87,Z 88,Z 89,Z 90,Z 91,Z 92,Z 93,Z 94,Z 95,Z 96,Z 97,Z 98,Z 99,Z 100,Z 101,Z 102,Z 103,Z 104,Z 105,Z 106]) [] H2 (addV V g (mapO ml)) s ∧ partI L a L.length = some (gs, odds) ∧ GMem H2 V ml gs ∧ GOk L a gs ∧ a < r0.ds.length) ?_ ?_
 ·refine Gx.a (by kernel_rfl) fun K hK => ?_
  simp only [XU, XA]
  refine hK _ ?_
  clear hK
  refine XWP.block ?_
  refine XWP.loop (fun q s => ∃ (k : Nat) (H2 : Heap) (ml : List (Int × Value)) (gs : List (Int × List Rn)) (odds : Int), StIs (fun Z => [.v (.slice (some ⟨bL, oL, none⟩) L.length cL), .v (.int .i64 (a : Int)), Z 2,Z 3,Z 4,Z 5, .v (.map (some g)), .v (.int .i64 odds), Z 8,Z 9,Z 10,Z 11,Z 12, .v (.slice (some ⟨bL, oL, none⟩) L.length cL), .v (.int .i64 (L.length : Int)), .v (.int .i64 (k : Int)), Z 16,Z 17,Z 18,Z 19,Z 20,Z 21,Z 22,Z 23,Z 24,Z 25,Z 26,Z 27,Z 28,Z 29,Z 30,Z 31,Z 32,Z 33,Z 34,Z 35,Z 36,Z 37,Z 38,Z 39,Z 40,Z 41,Z 42,Z 43,Z 44,Z 45,Z 46,Z 47,Z 48,Z 49,Z 50,Z 51,Z 52,Z 53,Z 54,Z 55,Z 56,Z 57,Z 58,Z 59,Z 60,Z 61,Z 62,Z 63,Z 64,Z 65,Z 66,Z 67,Z 68,Z 69,Z 70,Z 71,Z 72,Z 73,Z 74,Z 75,Z 76,Z 77,Z 78,Z 79,Z 80,Z 81,Z 82,Z 83,Z 84,Z 85,Z 86,Z 87,Z 88,Z 89,Z 90,Z 91,Z 92,Z 93,Z 94,Z 95,Z 96,Z 97,Z 98,Z 99,Z 100,Z 101,Z 102,Z 103,Z 104,Z 105,Z 106]) [] H2 (addV V g (mapO ml)) s ∧ q + k = L.length ∧ partI L a k = some (gs, odds) ∧ GMem H2 V ml gs ∧ GOk L a gs ∧ (0 < k → a < r0.ds.length) ∧ 0 ≤ odds ∧ odds ≤ 64000 * k) L.length ⟨0, _, [], [], 0, StIs.of (by exact rfl), by omega, rfl, GMem.empty _ _, fun i k rs h => by simp at h, fun h => by omega, by omega, by omega⟩ ?_
  rintro q s ⟨k, H2, ml, gs, odds, hs, hq, hpI, hM, hO, ha0, hod1, hod2⟩
  obtain ⟨z, rfl⟩ := hs.out
  try dsimp only
  clear hs
  by_cases hk : k < L.length
  rotate_left
  ·obtain rfl : k = L.length := by omega
   have bt1 : decide (((L.length : Nat) : Int) < ((L.length : Nat) : Int)) = false := decide_eq_false (by omega)
   refine Gx.a (by kernel_rfl) fun K hK => ?_
   simp only [XA, XB, bt1]
   refine hK _ ?_
   refine XWP.seq (Gx.f rfl ?_)
   refine XWP.exit ?_
   exact ⟨H2, ml, gs, odds, StIs.of (by exact rfl), hpI, hM, hO, ha0 h0⟩
  have bt1 : decide ((k : Int) < (L.length : Int)) = true := decide_eq_true (by omega)
  refine Gx.a (by kernel_rfl) fun K hK => ?_
  simp only [XA, XB, bt1]
  refine hK _ ?_
  refine XWP.seq (Gx.t rfl ?_)
  refine XWP.skip ?_
  obtain ⟨r, hr⟩ : ∃ r, L[k]? = some r := ⟨_, List.getElem?_eq_getElem hk⟩
  have er : L[k] = r := (List.getElem?_eq_some_iff.1 hr).2
  have hrL : r ∈ L := List.mem_of_getElem? hr
  obtain ⟨cs, hcs, hcell⟩ := SlK.get h k hk
  rw [er] at hcs
  have hcsE := hcs
  obtain ⟨v0, v1, v2, v3, v4, dv, v6, v7, v8, rfl, hds⟩ := rn_draws hcs
  obtain ⟨A1, q1, rfl, _, _⟩ := hds.form
  have hstep : partI L a (k + 1) = partStep (draw0 L a) a (gs, odds) r := by unfold partI; rw [hpI, hr]; rfl
  have hfin : ∀ {v' : Value} {V' : View}, partI L a (k + 1) = none → v' = .tuple #[.map none, .bool false] → (partB L a = none → v' = .tuple #[.map none, .bool false]) ∧ ∀ gs ok, partB L a = some (gs, ok) → ∃ g ml, v' = .tuple #[.map (some g), .bool ok] ∧ V' g = some (mapO ml) ∧ GView V' ml gs ∧ GOk L a gs := fun h1 h2 => ⟨fun _ => h2, fun gs ok h => by rw [partB_none hk h1] at h; cases h⟩
  have hV' := hVle (mapO ml)
  refine XWP.cut (fun s => ∃ (H3 : Heap) (ml : List (Int × Value)) (gs : List (Int × List Rn)) (odds : Int), StIs (fun Z => [.v (.slice (some ⟨bL, oL, none⟩) L.length cL), .v (.int .i64 (a : Int)), Z 2,Z 3,Z 4,Z 5, .v (.map (some g)), .v (.int .i64 odds), Z 8,Z 9,Z 10,Z 11,Z 12, .v (.slice (some ⟨bL, oL, none⟩) L.length cL), .v (.int .i64 (L.length : Int)), .v (.int .i64 (k : Int)), Z 16,Z 17,Z 18,Z 19,Z 20,Z 21,Z 22,Z 23,Z 24,Z 25,Z 26,Z 27,Z 28,Z 29,Z 30,Z 31,Z 32,Z 33,Z 34,Z 35,Z 36,Z 37,Z 38,Z 39,Z 40,Z 41,Z 42,Z 43,Z 44,Z 45,Z 46,Z 47,Z 48,Z 49,Z 50,Z 51,Z 52,Z 53,Z 54,Z 55,Z 56,Z 57,Z 58,Z 59,Z 60,Z 61,Z 62,Z 63,Z 64,Z 65,Z 66,Z 67,Z 68,Z 69,Z 70,Z 71,Z 72,Z 73,Z 74,Z 75,Z 76,Z 77,Z 78,Z 79,Z 80,Z 81,Z 82,Z 83,Z 84,Z 85,Z 86,Z 87,Z 88,Z 89,Z 90,Z 91,Z 92,Z 93,Z 94,Z 95,Z 96,Z 97,Z 98,Z 99,Z 100,Z 101,Z 102,Z 103,Z 104,Z 105,Z 106]) [] H3 (addV V g (mapO ml)) s ∧ partI L a (k + 1) = some (gs, odds) ∧ GMem H3 V ml gs ∧ GOk L a gs ∧ a < r0.ds.length ∧ 0 ≤ odds ∧ odds ≤ 64000 * (k + 1 : Nat)) ?_ ?_
  rotate_left
  ·rintro s ⟨H3, ml, gs, odds, hs, hpI, hM, hO, ha0, hod1, hod2⟩
   obtain ⟨z, rfl⟩ := hs.out
   try dsimp only
   clear hs
   refine Gx.c (by kernel_rfl) fun K hK => ?_
   simp only [XA, XB, i64_succ k (by omega)]
   exact hK _ ⟨q - 1, by omega, k + 1, H3, ml, gs, odds, StIs.of (by exact rfl), by omega, hpI, hM, hO, fun _ => ha0, hod1, hod2⟩
  clear hK
  refine XWP.block ?_
  refine Gx.a (by kernel_rfl) fun K hK => ?_
  simp only [XU, XA]
  refine ⟨by omega, by omega, ld_mem (loadsK shapeT_51 rfl fun j u hj => cellV (fun H => hcell H j u hj) hV' _) ?_⟩
  simp only [XU, XA]
  refine st_whole (cs := [v0, v1, v2, v3, v4, .slice A1 r.ds.length q1, v6, v7, v8]) shapeT_51 rfl rfl rfl hcsE.2.1 ?_
  simp only [XA]
  refine hK _ ?_
  by_cases hlen : r.ds.length ≤ a
  ·have bt2 : decide ((r.ds.length : Int) ≤ (a : Int)) = true := decide_eq_true (by omega)
   refine XWP.seq ?_
   (refine XWP.drw [0, 1, 2, 3, 4, 5, 6, 7, 8, 9, 10, 11, 12, 13, 14, 15, 16, 17, 18, 19, 20, 21, 22, 23, 24, 25, 26, 27, 28, 29, 30, 31, 32, 33, 34, 35, 36, 37, 38] (by kernel_rfl) (by kernel_rfl) (by kernel_rfl) fun K hK => ?_) <;> dsimp only [pickOps, List.getElem?_cons_zero, List.getElem?_cons_succ]
   simp only [XU, XA, XB, gateX, ↓reduceIte, bt2]
   refine hK _ ?_
   refine Gx.t rfl ?_
   refine Gx.a (by kernel_rfl) fun K hK => ?_
   simp only [XA]
   refine hK _ (XWP.ret ?_)
   try simp only [thenX_ret, inBlockX_ret]
   refine ret_go _ rfl ?_
   exact hfin (by rw [hstep]; unfold partStep; rw [List.getElem?_eq_none hlen]) rfl
  have bt2 : decide ((r.ds.length : Int) ≤ (a : Int)) = false := decide_eq_false (by omega)
  have ha0 : a < r0.ds.length := by
   rcases Nat.eq_zero_or_pos k with e | e
   ·subst e
    rw [hr0] at hr
    cases hr
    omega
   ·exact ha0 e
  obtain ⟨d, hd⟩ : ∃ d, r.ds[a]? = some d := ⟨_, List.getElem?_eq_getElem (by omega)⟩
  obtain ⟨d0, hd0⟩ : ∃ d, r0.ds[a]? = some d := ⟨_, List.getElem?_eq_getElem ha0⟩
  have eD0 : draw0 L a = d0 := by unfold draw0; rw [hr0]; simp [hd0]
  rw [eD0] at hstep
  obtain ⟨b1, o1, c1, eq1, hdc⟩ := dr_get hds hd
  cases eq1
  obtain ⟨b0, o0, c0, eq0, hdc0⟩ := dr_get hds0 hd0
  cases eq0
  have x1 := fun H => loads1 (H := H) shapeT_3 (cellV (fun H => (hdc H).1) hV' H)
  have x4 := fun H => loads1 (H := H) shapeT_3 (cellV (fun H => (hdc H).2.2.2) hV' H)
  have y0 := fun H => loads1 (H := H) shapeT_45 (hd0cell H _ hV')
  have y1 := fun H => loads1 (H := H) shapeT_3 (cellV (fun H => (hdc0 H).1) hV' H)
  have y4 := fun H => loads1 (H := H) shapeT_3 (cellV (fun H => (hdc0 H).2.2.2) hV' H)
  refine XWP.seq ?_
  by_cases hsite : d.site = d0.site
  rotate_left
  ·have bt3 : (!decide (d.site = d0.site)) = true := by rw [decide_eq_false hsite]; rfl
   (refine XWP.drw [0, 1, 2, 3, 4, 5, 6, 7, 8, 9, 10, 11, 12, 13, 14, 15, 16, 17, 18, 19, 20, 21, 22, 23, 24, 25, 26, 27, 28, 29, 30, 31, 32, 33, 34, 35, 36, 37, 38] (by kernel_rfl) (by kernel_rfl) (by kernel_rfl) fun K hK => ?_) <;> dsimp only [pickOps, List.getElem?_cons_zero, List.getElem?_cons_succ]
   simp only [XU, XA, XB, gateX, ↓reduceIte, beq_self_eq_true, bt2]
   refine ⟨by omega, by omega, ld_mem (x1 _) ?_⟩
   simp only [XU, XA, gateX, Nat.reduceMul, ↓reduceIte, Int.reduceLE, beq_self_eq_true]
   refine ⟨by omega, ld_mem (y0 _) ?_⟩
   simp only [XU, XA, gateX, ↓reduceIte, beq_self_eq_true]
   refine ⟨by omega, by omega, ld_mem (y1 _) ?_⟩
   simp only [XA, XB, gateX, ↓reduceIte, beq_self_eq_true, bt3]
   refine hK _ ?_
   refine Gx.t rfl ?_
   refine Gx.a (by kernel_rfl) fun K hK => ?_
   simp only [XA]
   refine hK _ (XWP.ret ?_)
   try simp only [thenX_ret, inBlockX_ret]
   refine ret_go _ rfl ?_
   exact hfin (by rw [hstep]; unfold partStep; rw [hd]; dsimp only; rw [if_pos hsite]) rfl
  have bt3 : (!decide (d.site = d0.site)) = false := by rw [decide_eq_true hsite]; rfl
  by_cases hwhole : d.whole = d0.whole
  rotate_left
  ·have bt4 : (!decide (d.whole = d0.whole)) = true := by rw [decide_eq_false hwhole]; rfl
   (refine XWP.drw [0, 1, 2, 3, 4, 5, 6, 7, 8, 9, 10, 11, 12, 13, 14, 15, 16, 17, 18, 19, 20, 21, 22, 23, 24, 25, 26, 27, 28, 29, 30, 31, 32, 33, 34, 35, 36, 37, 38] (by kernel_rfl) (by kernel_rfl) (by kernel_rfl) fun K hK => ?_) <;> dsimp only [pickOps, List.getElem?_cons_zero, List.getElem?_cons_succ]
   simp only [XU, XA, XB, gateX, ↓reduceIte, beq_self_eq_true, bt2]
   refine ⟨by omega, by omega, ld_mem (x1 _) ?_⟩
   simp only [XU, XA, gateX, Nat.reduceMul, ↓reduceIte, Int.reduceLE, beq_self_eq_true]
   refine ⟨by omega, ld_mem (y0 _) ?_⟩
   simp only [XU, XA, gateX, ↓reduceIte, beq_self_eq_true]
   refine ⟨by omega, by omega, ld_mem (y1 _) ?_⟩
   simp only [XU, XA, XB, gateX, ↓reduceIte, beq_self_eq_true, bt3]
   refine ⟨by omega, by omega, ld_mem (x4 _) ?_⟩
   simp only [XU, XA, gateX, Nat.reduceMul, ↓reduceIte, Int.reduceLE, beq_self_eq_true]
   refine ⟨by omega, ld_mem (y0 _) ?_⟩
   simp only [XU, XA, gateX, ↓reduceIte, beq_self_eq_true]
   refine ⟨by omega, by omega, ld_mem (y4 _) ?_⟩
   simp only [XA, XB, gateX, ↓reduceIte, beq_self_eq_true, bt4]
   refine hK _ ?_
   refine Gx.t rfl ?_
   refine Gx.a (by kernel_rfl) fun K hK => ?_
   simp only [XA]
   refine hK _ (XWP.ret ?_)
   try simp only [thenX_ret, inBlockX_ret]
   refine ret_go _ rfl ?_
   exact hfin (by rw [hstep]; unfold partStep; rw [hd]; dsimp only; rw [if_neg (fun h => h hsite), if_pos hwhole]) rfl
  have bt4 : (!decide (d.whole = d0.whole)) = false := by rw [decide_eq_true hwhole]; rfl
  (refine XWP.drw [0, 1, 2, 3, 4, 5, 6, 7, 8, 9, 10, 11, 12, 13, 14, 15, 16, 17, 18, 19, 20, 21, 22, 23, 24, 25, 26, 27, 28, 29, 30, 31, 32, 33, 34, 35, 36, 37, 38] (by kernel_rfl) (by kernel_rfl) (by kernel_rfl) fun K hK => ?_) <;> dsimp only [pickOps, List.getElem?_cons_zero, List.getElem?_cons_succ]
  simp only [XU, XA, XB, gateX, ↓reduceIte, beq_self_eq_true, bt2]
  refine ⟨by omega, by omega, ld_mem (x1 _) ?_⟩
  simp only [XU, XA, gateX, Nat.reduceMul, ↓reduceIte, Int.reduceLE, beq_self_eq_true]
  refine ⟨by omega, ld_mem (y0 _) ?_⟩
  simp only [XU, XA, gateX, ↓reduceIte, beq_self_eq_true]
  refine ⟨by omega, by omega, ld_mem (y1 _) ?_⟩
  simp only [XU, XA, XB, gateX, ↓reduceIte, beq_self_eq_true, bt3]
  refine ⟨by omega, by omega, ld_mem (x4 _) ?_⟩
  simp only [XU, XA, gateX, Nat.reduceMul, ↓reduceIte, Int.reduceLE, beq_self_eq_true]
  refine ⟨by omega, ld_mem (y0 _) ?_⟩
  simp only [XU, XA, gateX, ↓reduceIte, beq_self_eq_true]
  refine ⟨by omega, by omega, ld_mem (y4 _) ?_⟩
  simp only [XA, XB, gateX, ↓reduceIte, beq_self_eq_true, bt4]
  refine hK _ ?_
  refine Gx.f rfl ?_
  refine XWP.skip ?_
  have hgd := hg r hrL d (List.mem_of_getElem? hd)
  obtain ⟨g1, g2, g3, g4⟩ := hgd
  refine Gx.a (by kernel_rfl) fun K hK => ?_
  simp only [XU, XA]
  refine ⟨by omega, by omega, ld_mem (loadsK (cs := d.cells) shapeT_66 rfl fun j u hj => ?_) ?_⟩
  ·match j, hj with
   | 0, hj => cases hj; exact cellV (fun H => (hdc H).1) hV' _
   | 1, hj => cases hj; exact cellV (fun H => (hdc H).2.1) hV' _
   | 2, hj => cases hj; exact cellV (fun H => (hdc H).2.2.1) hV' _
   | 3, hj => cases hj; exact cellV (fun H => (hdc H).2.2.2) hV' _
  simp only [XU, XA]
  refine st_whole (cs := [.int .i64 d.site, .int .i64 d.index, .int .i64 d.odds, .int .i64 d.whole]) shapeT_66 rfl rfl rfl rfl ?_
  simp only [XA]
  refine hK _ ?_
  obtain ⟨sv, rs, cells, eSv, eRs, hown, hrow, hcase⟩ := hM.look d.index
  have hrs : ∀ x ∈ rs, x ∈ L ∧ a < x.ds.length := by
   rcases hcase with ⟨_, _, _, rfl⟩ | ⟨i, _, hi, _⟩
   ·intro x hx; cases hx
   ·exact hO i _ _ (mfind_some hi).2.2.1
  refine XWP.cut (fun s => ∃ (odds' : Int), StIs (fun Z => [.v (.slice (some ⟨bL, oL, none⟩) L.length cL), .v (.int .i64 (a : Int)), Z 2,Z 3,Z 4,Z 5, .v (.map (some g)), .v (.int .i64 odds'), Z 8, .p 0 0, .p 1 0, Z 11,Z 12, .v (.slice (some ⟨bL, oL, none⟩) L.length cL), .v (.int .i64 (L.length : Int)), .v (.int .i64 (k : Int)), Z 16,Z 17,Z 18,Z 19,Z 20,Z 21,Z 22,Z 23,Z 24,Z 25,Z 26,Z 27,Z 28,Z 29,Z 30,Z 31,Z 32,Z 33,Z 34,Z 35,Z 36,Z 37,Z 38,Z 39,Z 40,Z 41,Z 42,Z 43,Z 44,Z 45,Z 46,Z 47,Z 48,Z 49,Z 50,Z 51,Z 52,Z 53,Z 54,Z 55,Z 56,Z 57,Z 58,Z 59,Z 60,Z 61,Z 62,Z 63,Z 64,Z 65,Z 66,Z 67,Z 68,Z 69,Z 70,Z 71,Z 72,Z 73,Z 74,Z 75,Z 76,Z 77,Z 78,Z 79,Z 80,Z 81,Z 82,Z 83,Z 84,Z 85,Z 86,Z 87,Z 88,Z 89,Z 90,Z 91,Z 92,Z 93,Z 94,Z 95,Z 96,Z 97,Z 98,Z 99,Z 100,Z 101,Z 102,Z 103,Z 104,Z 105,Z 106]) [[v0, v1, v2, v3, v4, .slice (some ⟨b1, o1, none⟩) r.ds.length q1, v6, v7, v8], [.int .i64 d.site, .int .i64 d.index, .int .i64 d.odds, .int .i64 d.whole]] H2 (addV V g (mapO ml)) s ∧ partI L a (k + 1) = some (mput gs d.index (rs ++ [r]), odds') ∧ 0 ≤ odds' ∧ odds' ≤ 64000 * (k + 1 : Nat)) ?_ ?_
  ·clear hK
   refine XWP.seq (XWP.regZ (fun i => i == 3) (by kernel_rfl) ?_)
   refine seqZ_x rfl ?_
   simp only [XA]
   refine seqZ_x rfl ?_
   simp only [XU, XA, Nat.reduceAdd]
   refine seqZ_x rfl ?_
   simp only [XA, XB, Nat.reduceAdd]
   refine seqZ_z rfl (opz_lookup rfl mapT intT zrun rfl rfl addV_on ?_)
   rw [eSv]
   simp only [XA, Nat.reduceAdd]
   refine seqZ_x rfl ?_
   simp only [XA, Nat.reduceAdd]
   refine seqZ_nil ?_
   rw [thenX_normal]
   have hso : ∃ As cs, sv = .slice As rs.length cs := by
    rcases own_parts hown with ⟨rfl, h0, _⟩ | ⟨g, cap, rfl, _⟩
    ·exact ⟨none, 0, by rw [h0]⟩
    ·exact ⟨_, cap, rfl⟩
   obtain ⟨As, cas, rfl⟩ := hso
   cases hrsE : rs with
   | nil =>
    subst hrsE
    have bt5 : decide (((([] : List Rn).length : Nat) : Int) = 0) = true := by simp
    refine XWP.seq ?_
    refine Gx.c (by kernel_rfl) fun K hK => ?_
    simp only [XU, XA, XB]
    refine hK _ ?_
    refine Gx.t rfl ?_
    have wo : IntKind.i64.wrap (odds + d.odds) = odds + d.odds := wrap_id (by omega) (by omega)
    refine Gx.c (by kernel_rfl) fun K hK => ?_
    simp only [XU, XA, XB, wo]
    refine hK _ ⟨odds + d.odds, StIs.of (by exact rfl), ?_, by omega, by omega⟩
    rw [hstep]
    unfold partStep
    rw [hd]
    dsimp only
    rw [if_neg (fun h => h hsite), if_neg (fun h => h hwhole), eRs]
    rfl
   | cons x rest =>
    subst hrsE
    have bt5 : decide ((((x :: rest).length : Nat) : Int) = 0) = false := decide_eq_false (by simp only [List.length_cons]; omega)
    obtain ⟨hxL, hxa⟩ := hrs x (by simp)
    obtain ⟨dx, hdx⟩ : ∃ d, x.ds[a]? = some d := ⟨_, List.getElem?_eq_getElem hxa⟩
    obtain ⟨xs, hxs, hxcell⟩ := hrow.2 0 x rfl
    obtain ⟨p0, p1, p2, p3, p4, dvx, p6, p7, p8, rfl, hdsx⟩ := rn_draws hxs
    obtain ⟨bx, ox, cx, rfl, hdcx⟩ := dr_get hdsx hdx
    rcases own_parts hown with ⟨_, e, _⟩ | ⟨gk, cap, esl, hgk, hcap, _, _⟩
    ·simp at e
    cases esl
    have z0 := loads1 (V := addV V g (mapO ml)) shapeT_45 (.inl ⟨_, hgk, by have := hxcell 5 _ rfl; rw [Nat.zero_mul, Nat.zero_add] at this; exact this⟩ : CellAt H2 (addV V g (mapO ml)) gk 5 (.slice (some ⟨bx, ox, none⟩) x.ds.length cx))
    have z3 := fun H => loads1 (H := H) shapeT_3 (cellV (fun H => (hdcx H).2.2.1) hV' H)
    refine XWP.seq ?_
    refine Gx.c (by kernel_rfl) fun K hK => ?_
    simp only [XU, XA, XB]
    refine hK _ ?_
    refine Gx.f rfl ?_
    by_cases hod : dx.odds = d.odds
    ·have bt6 : (!decide (dx.odds = d.odds)) = false := by rw [decide_eq_true hod]; rfl
     (refine XWP.drw [0, 1, 2, 3, 4, 5, 6, 7, 8, 9, 10] (by kernel_rfl) (by kernel_rfl) (by kernel_rfl) fun K hK => ?_) <;> dsimp only [pickOps, List.getElem?_cons_zero, List.getElem?_cons_succ]
     simp only [XU, XA, Nat.reduceMul, Int.reduceLE]
     refine ⟨by omega, ld_mem z0 ?_⟩
     simp only [XU, XA]
     refine ⟨by omega, by omega, ld_mem (z3 _) ?_⟩
     simp only [XU, XA, XB, bt6]
     refine hK _ ?_
     refine Gx.f rfl ?_
     refine XWP.skip ?_
     refine ⟨odds, StIs.of (by exact rfl), ?_, by omega, by omega⟩
     rw [hstep]
     unfold partStep
     rw [hd]
     dsimp only
     rw [if_neg (fun h => h hsite), if_neg (fun h => h hwhole), eRs]
     dsimp only
     rw [hdx, if_neg (fun h => h (by simp [hod]))]
    ·have bt6 : (!decide (dx.odds = d.odds)) = true := by rw [decide_eq_false hod]; rfl
     (refine XWP.drw [0, 1, 2, 3, 4, 5, 6, 7, 8, 9, 10] (by kernel_rfl) (by kernel_rfl) (by kernel_rfl) fun K hK => ?_) <;> dsimp only [pickOps, List.getElem?_cons_zero, List.getElem?_cons_succ]
     simp only [XU, XA, Nat.reduceMul, Int.reduceLE]
     refine ⟨by omega, ld_mem z0 ?_⟩
     simp only [XU, XA]
     refine ⟨by omega, by omega, ld_mem (z3 _) ?_⟩
     simp only [XU, XA, XB, bt6]
     refine hK _ ?_
     refine Gx.t rfl ?_
     refine Gx.a (by kernel_rfl) fun K hK => ?_
     simp only [XA]
     refine hK _ (XWP.ret ?_)
     try simp only [thenX_ret, inBlockX_ret]
     refine ret_go _ rfl ?_
     refine hfin ?_ rfl
     rw [hstep]
     unfold partStep
     rw [hd]
     dsimp only
     rw [if_neg (fun h => h hsite), if_neg (fun h => h hwhole), eRs]
     dsimp only
     rw [hdx, if_pos (fun h => hod (by simpa using h))]
  have hrs2 : ∀ x ∈ rs ++ [r], x ∈ L ∧ a < x.ds.length := fun x hx => by
   rcases List.mem_append.1 hx with hx | hx
   ·exact hrs x hx
   ·rw [List.mem_singleton.1 hx]
    exact ⟨hrL, by omega⟩
  have hsb : ∀ g', sv.ownBlock = some g' → ∃ q, H2 g' = some q := fun g' hg' => by
   rcases own_parts hown with ⟨rfl, _, _⟩ | ⟨gk, cap, rfl, hgk, _⟩
   ·cases hg'
   ·have : gk = g' := by simpa [Value.ownBlock] using hg'
    subst this
    exact ⟨_, hgk⟩
  have hsl : ∃ As cs, sv = .slice As rs.length cs := by
   rcases own_parts hown with ⟨rfl, h0, _⟩ | ⟨g, cap, rfl, _⟩
   ·exact ⟨none, 0, by rw [h0]⟩
   ·exact ⟨_, cap, rfl⟩
  have hrsl : rs.length ≤ 100 := by
   rcases hcase with ⟨_, _, _, rfl⟩ | ⟨i, _, hi, _⟩
   ·simp
   ·rcases part_met L a k (by omega) with ⟨e, _⟩ | ⟨gs', odds', met, e1, _, e3⟩
    ·rw [hpI] at e; cases e
    ·rw [hpI] at e1
     cases e1
     obtain ⟨d', _, _, _, _, _, e⟩ := e3.ent i _ _ (mfind_some hi).2.2.1
     have h1 := List.length_filter_le (fun r : Rn => decide (r.ds[a]? = some d')) (L.take k)
     rw [← e, List.length_take] at h1
     omega
  rintro s ⟨odds', hs, hpI', ho1, ho2⟩
  obtain ⟨z, rfl⟩ := hs.out
  try dsimp only
  clear hs hfin
  refine XWP.row1 (bx := [_]) fun b10 e10 hb10 _ => ?_
  simp only [List.map_cons, List.map_nil, rowS_v, rowS_p, List.length_nil, List.length_cons, Nat.reduceAdd, Nat.reduceEqDiff, ↓reduceIte]
  have n10 : ∀ g', sv.ownBlock = some g' → g' ≠ b10 := fun g' hg' => by
   obtain ⟨q, hq⟩ := hsb g' hg'
   exact new_ne hb10 hq
  have hsb : ∀ g', sv.ownBlock = some g' → ∃ q, upd H2 b10 (some ⟨e10, [.int .i64 d.site, .int .i64 d.index, .int .i64 d.odds, .int .i64 d.whole], 4⟩) g' = some q := fun g' hg' => by
   obtain ⟨q, hq⟩ := hsb g' hg'
   exact ⟨q, (upd_off (n10 g' hg')).trans hq⟩
  have f10 := upd_at H2 b10 (some ⟨e10, [.int .i64 d.site, .int .i64 d.index, .int .i64 d.odds, .int .i64 d.whole], 4⟩)
  have hM := hM.fresh (r := some ⟨e10, [.int .i64 d.site, .int .i64 d.index, .int .i64 d.odds, .int .i64 d.whole], 4⟩) hb10
  have hown := own_upd (r := some ⟨e10, [.int .i64 d.site, .int .i64 d.index, .int .i64 d.odds, .int .i64 d.whole], 4⟩) hown hb10
  generalize upd H2 b10 (some ⟨e10, [.int .i64 d.site, .int .i64 d.index, .int .i64 d.odds, .int .i64 d.whole], 4⟩) = H3 at *
  refine XWP.row1 (bx := []) fun b9 e9 hb9 _ => ?_
  simp only [List.map_cons, List.map_nil, rowS_v, rowS_p, List.length_nil, List.length_cons, Nat.reduceAdd, ↓reduceIte]
  have n9 : ∀ g', sv.ownBlock = some g' → g' ≠ b9 := fun g' hg' => by
   obtain ⟨q, hq⟩ := hsb g' hg'
   exact new_ne hb9 hq
  have n109 := new_ne hb9 f10
  have f10 := (upd_off (r := some ⟨e9, [v0, v1, v2, v3, v4, .slice (some ⟨b1, o1, none⟩) r.ds.length q1, v6, v7, v8], 9⟩) n109).trans f10
  have f9 := upd_at H3 b9 (some ⟨e9, [v0, v1, v2, v3, v4, .slice (some ⟨b1, o1, none⟩) r.ds.length q1, v6, v7, v8], 9⟩)
  have hM := hM.fresh (r := some ⟨e9, [v0, v1, v2, v3, v4, .slice (some ⟨b1, o1, none⟩) r.ds.length q1, v6, v7, v8], 9⟩) hb9
  have hown := own_upd (r := some ⟨e9, [v0, v1, v2, v3, v4, .slice (some ⟨b1, o1, none⟩) r.ds.length q1, v6, v7, v8], 9⟩) hown hb9
  generalize upd H3 b9 (some ⟨e9, [v0, v1, v2, v3, v4, .slice (some ⟨b1, o1, none⟩) r.ds.length q1, v6, v7, v8], 9⟩) = H4 at *
  obtain ⟨Hb, hHb⟩ : ∃ Hb : Heap, Hb = fun b => if b = b9 then some ⟨e9, [v0, v1, v2, v3, v4, .slice (some ⟨b1, o1, none⟩) r.ds.length q1, v6, v7, v8], 9⟩ else if b = b10 then some ⟨e10, [.int .i64 d.site, .int .i64 d.index, .int .i64 d.odds, .int .i64 d.whole], 4⟩ else none := ⟨_, rfl⟩
  have fb9 : Hb b9 = some ⟨e9, [v0, v1, v2, v3, v4, .slice (some ⟨b1, o1, none⟩) r.ds.length q1, v6, v7, v8], 9⟩ := by rw [hHb]; exact if_pos rfl
  have fb10 : Hb b10 = some ⟨e10, [.int .i64 d.site, .int .i64 d.index, .int .i64 d.odds, .int .i64 d.whole], 4⟩ := by rw [hHb]; show (if b10 = b9 then _ else _) = _; rw [if_neg n109, if_pos rfl]
  have hbw : ∀ b q, Hb b = some q → b = b9 ∧ q = ⟨e9, [v0, v1, v2, v3, v4, .slice (some ⟨b1, o1, none⟩) r.ds.length q1, v6, v7, v8], 9⟩ ∨ b = b10 ∧ q = ⟨e10, [.int .i64 d.site, .int .i64 d.index, .int .i64 d.odds, .int .i64 d.whole], 4⟩ := fun b q hq => by
   rw [hHb] at hq
   have hq : (if b = b9 then some ⟨e9, [v0, v1, v2, v3, v4, .slice (some ⟨b1, o1, none⟩) r.ds.length q1, v6, v7, v8], 9⟩ else if b = b10 then some ⟨e10, [.int .i64 d.site, .int .i64 d.index, .int .i64 d.odds, .int .i64 d.whole], 4⟩ else none) = some q := hq
   split at hq
   ·cases hq; rename_i e; exact .inl ⟨e, rfl⟩
   ·split at hq
    ·cases hq; rename_i e; exact .inr ⟨e, rfl⟩
    ·cases hq
  have hsub : ∀ b q, Hb b = some q → H4 b = some q := fun b q hq => by
   rcases hbw b q hq with ⟨rfl, rfl⟩ | ⟨rfl, rfl⟩
   ·exact f9
   ·exact f10
  have keepB : ∀ (H4 : Heap) (bq : Nat) (v' : Value) (H' : Heap) (hsub : ∀ b q, Hb b = some q → H4 b = some q) (hq1 : H4 bq = none) (tmp : Row) (hres : AppRes (upd H4 bq (some tmp)) (addV V g (mapO ml)) 51 9 sv (rs.length + 1) (cells ++ [v0, v1, v2, v3, v4, .slice (some ⟨b1, o1, none⟩) r.ds.length q1, v6, v7, v8]) v' H'), ∀ b q, Hb b = some q → H' b = some q := by
   intro H4 bq v' H' hsub hq1 tmp hres b q hq
   have h4 := hsub b q hq
   have hbq : b ≠ bq := fun e => by rw [e, hq1] at h4; cases h4
   have hne : v'.ownBlock ≠ some b := fun e => by
    rcases hres.2.2 b e with h | ⟨h, _⟩
    ·rcases hbw b q hq with ⟨rfl, _⟩ | ⟨rfl, _⟩
     ·exact n9 _ h rfl
     ·exact n10 _ h rfl
    ·rw [upd_off hbq, h4] at h; cases h
   rw [hres.2.1 b hne, upd_off hbq]
   exact h4
  obtain ⟨As, cas, rfl⟩ := hsl
  have l1 := loads1 (V := V) (b := b10) (off := 1) (u := .int .i64 d.index) shapeT_3 (.inl ⟨_, fb10, rfl⟩)
  have l9 := loadsK (V := V) (b := b9) (off := 0) (cs := [v0, v1, v2, v3, v4, .slice (some ⟨b1, o1, none⟩) r.ds.length q1, v6, v7, v8]) shapeT_51 rfl fun j u hj => .inl ⟨_, fb9, by rw [Nat.zero_add]; exact hj⟩
  refine XWP.drawV (.lin [0, 1, 2, 3, 4, 5, 7] (.two (.lin [6, 8, 9, 10] .nil) (.lin [8, 6, 9, 10] .nil))) (fun i => i == 2 || i == 5 || i == 6 || i == 7 || i == 10) Hb V hΓ (by kernel_rfl) (by kernel_rfl) (by kernel_rfl) rfl hsub hV' ?_
  refine treeM_lin ?_
  refine seqM_x rfl (by kernel_rfl) rfl (by kernel_rfl) ?_
  simp only [XA]
  refine seqM_x rfl (by kernel_rfl) rfl (by kernel_rfl) ?_
  simp only [XU, XA]
  refine seqM_b rfl (by kernel_rfl) rfl rfl l1 ?_
  simp only [XA]
  refine seqM_x rfl (by kernel_rfl) rfl (by kernel_rfl) ?_
  simp only [XA]
  refine seqM_x rfl (by kernel_rfl) rfl (by kernel_rfl) ?_
  simp only [XU, XA]
  refine seqM_b rfl (by kernel_rfl) rfl rfl l1 ?_
  simp only [XA]
  refine seqM_b rfl (by kernel_rfl) rfl rfl l9 ?_
  simp only [XA]
  have hsubM : ∀ b q, Hb b = some q → H4 b = some q := hsub
  have hVg0 : (addV V g (mapO ml)) g = some (mapO ml) := addV_on
  refine seqM_nil (treeM_two (treeM_lin ?_) (treeM_lin ?_))
  ·refine seqM_lookup rfl (by kernel_rfl) rfl mapT intT zrun rfl rfl addV_on hsub hV' ?_
   rw [eSv]
   simp only [XA]
   refine seqM_x rfl (by kernel_rfl) rfl (by kernel_rfl) ?_
   try simp only [XU, XA, XB, gateX, Nat.reduceAdd, Nat.reduceLeDiff, Nat.reduceSub, Nat.reduceMul, ↓reduceIte, Int.reduceToNat, Int.reduceLE, beq_self_eq_true]
   refine bs_go (by kernel_rfl) #[(0, .agg ([v0, v1, v2, v3, v4, .slice (some ⟨b1, o1, none⟩) r.ds.length q1, v6, v7, v8] : List Value).toArray)] (by simp [ev_tmp, SV.val]) (bs_agg elemT_22 zeroT_51 rfl (by omega) (by omega) rfl) fun bq hbq1 hbq2 => ?_
   simp only [XA, Nat.reduceAdd]
   refine seqM_x rfl (by kernel_rfl) rfl (by kernel_rfl) ?_
   try simp only [XA]
   refine ap_go elemT_22 (by kernel_rfl) zeroT_51 rfl (by omega) (own_upd hown hbq1) (srcK (upd_at _ _ _) hcsE.2.1) (by omega) (by omega) fun v' H' hres => ?_
   simp only [XA]
   refine seqM_update rfl (by kernel_rfl) rfl mapT intT rfl rfl rfl addV_on hMg (keepB H4 bq v' H' hsub hbq1 _ hres) hV' hVg ?_
   simp only [XA]
   rw [addV_two]
   refine seqM_nil (treeM_nil ?_)
   exact ⟨H', _, _, odds', StIs.of (by exact rfl), hpI', (hM.fresh hbq1).put hrow hcase hcsE hres, hO.put hrs2, ha0, ho1, ho2⟩
  ·refine seqM_x rfl (by kernel_rfl) rfl (by kernel_rfl) ?_
   try simp only [XU, XA, XB, gateX, Nat.reduceAdd, Nat.reduceLeDiff, Nat.reduceSub, Nat.reduceMul, ↓reduceIte, Int.reduceToNat, Int.reduceLE, beq_self_eq_true]
   refine bs_go (by kernel_rfl) #[(0, .agg ([v0, v1, v2, v3, v4, .slice (some ⟨b1, o1, none⟩) r.ds.length q1, v6, v7, v8] : List Value).toArray)] (by simp [ev_tmp, SV.val]) (bs_agg elemT_22 zeroT_51 rfl (by omega) (by omega) rfl) fun bq hbq1 hbq2 => ?_
   simp only [XA, Nat.reduceAdd]
   have hbq1 : H4 bq = none := hbq1
   have hsub2 : ∀ b q, Hb b = some q → upd H4 bq (some ⟨51, ([v0, v1, v2, v3, v4, .slice (some ⟨b1, o1, none⟩) r.ds.length q1, v6, v7, v8] : List Value), 9⟩) b = some q := fun b q hq => by
    have h4 := hsub b q hq
    have hbq : b ≠ bq := fun e => by rw [e, hbq1] at h4; cases h4
    rw [upd_off hbq]; exact h4
   refine seqM_lookup rfl (by kernel_rfl) rfl mapT intT zrun rfl rfl addV_on hsub2 hV' ?_
   rw [eSv]
   simp only [XA]
   refine seqM_x rfl (by kernel_rfl) rfl (by kernel_rfl) ?_
   try simp only [XA]
   refine ap_go elemT_22 (by kernel_rfl) zeroT_51 rfl (by omega) (own_upd hown hbq1) (srcK (upd_at _ _ _) hcsE.2.1) (by omega) (by omega) fun v' H' hres => ?_
   simp only [XA]
   refine seqM_update rfl (by kernel_rfl) rfl mapT intT rfl rfl rfl addV_on hMg (keepB H4 bq v' H' hsub hbq1 _ hres) hV' hVg ?_
   simp only [XA]
   rw [addV_two]
   refine seqM_nil (treeM_nil ?_)
   exact ⟨H', _, _, odds', StIs.of (by exact rfl), hpI', (hM.fresh hbq1).put hrow hcase hcsE hres, hO.put hrs2, ha0, ho1, ho2⟩
 rintro s ⟨H2, ml, gs, odds, hs, hpI, hM, hO, ha0⟩
 obtain ⟨z, rfl⟩ := hs.out
 try dsimp only
 clear hs
 refine XWP.pubAll hM (hVle _) fun H3 V3 hV3 hgv => ?_
 have hV03 := View.le_trans (hVle (mapO ml)) hV3
 obtain ⟨d0, hd0⟩ : ∃ d, r0.ds[a]? = some d := ⟨_, List.getElem?_eq_getElem ha0⟩
 obtain ⟨b0, o0, c0, eq0, hdc0⟩ := dr_get hds0 hd0
 cases eq0
 have y0 := fun H => loads1 (H := H) shapeT_45 (hd0cell H _ hV03)
 have y4 := fun H => loads1 (H := H) shapeT_3 (cellV (fun H => (hdc0 H).2.2.2) hV03 H)
 (refine XWP.drw [0, 1, 2, 3, 4, 5, 6, 7, 8, 9, 10, 11, 12] (by kernel_rfl) (by kernel_rfl) (by kernel_rfl) fun K hK => ?_) <;> dsimp only [pickOps, List.getElem?_cons_zero, List.getElem?_cons_succ]
 simp only [XU, XA, Nat.reduceMul, Int.reduceLE]
 refine ⟨by omega, ld_mem (y0 _) ?_⟩
 simp only [XU, XA]
 refine ⟨by omega, by omega, ld_mem (y4 _) ?_⟩
 simp only [XA, XB]
 refine hK _ (XWP.ret ?_)
 try simp only [thenX_ret, inBlockX_ret]
 refine ret_go _ rfl ?_
 have eP : partB L a = some (gs, decide (odds ≤ d0.whole)) := by
  unfold partB
  rw [hpI, draw0_at hr0 hd0]; rfl
 refine ⟨fun h => (by rw [eP] at h; cases h), fun gs' ok h => ?_⟩
 rw [eP] at h
 cases h
 exact ⟨g, ml, rfl, hV3 _ _ addV_on, hgv, hO⟩
theorem View.keepAt {Vb V : View} {r : Nat} {o : Obj} (h : Vb.le V) (hr : Vb r = none) : Vb.le (addV V r o) := fun k ob hk => by
 rw [addV_off (fun e => by rw [e, hr] at hk; cases hk)]; exact h k ob hk
def unseen (n : Nat) (seen : Array Nat) : Nat := ((List.range n).filter fun j => decide (j ∉ seen)).length
theorem filter_lt {α : Type} {p q : α → Bool} : ∀ {l : List α} {x : α}, x ∈ l → p x = true → q x = false → (∀ y ∈ l, q y = true → p y = true) → (l.filter q).length < (l.filter p).length
 | [], _, h, _, _, _ => by cases h
 | y :: l, x, h, hp, hq, hqp => by
  have hle : (l.filter q).length ≤ (l.filter p).length := by
   clear h
   induction l with
   | nil => simp
   | cons z l ih =>
    have ih := ih fun y hy => hqp y (by
     rcases List.mem_cons.1 hy with h | h
     ·rw [h]; simp
     ·simp [h])
    have hz := hqp z (by simp)
    simp only [List.filter_cons]
    cases e : q z
    ·simp only [Bool.false_eq_true, if_false]
     split
     ·simp only [List.length_cons]; omega
     ·exact ih
    ·rw [hz e]; simp only [if_true, List.length_cons]; omega
  simp only [List.filter_cons]
  rcases List.mem_cons.1 h with rfl | h
  ·rw [hp, hq]
   simp only [Bool.false_eq_true, if_false, if_true, List.length_cons]; omega
  ·have ih := filter_lt h hp hq fun y hy => hqp y (List.mem_cons_of_mem _ hy)
   cases e : q y
   ·simp only [Bool.false_eq_true, if_false]
    split
    ·simp only [List.length_cons]; omega
    ·exact ih
   ·rw [hqp y (by simp) e]; simp only [if_true, List.length_cons]; omega
theorem unseen_push {n j : Nat} {seen : Array Nat} (hj : j < n) (h : j ∉ seen) : unseen n (seen.push j) < unseen n seen := by
 unfold unseen
 refine filter_lt (x := j) (List.mem_range.2 hj) (decide_eq_true h) (decide_eq_false (by simp)) fun y _ hy => ?_
 have := of_decide_eq_true hy
 exact decide_eq_true fun hm => this (by simp [hm])
theorem forkB_small {f : Nat} {L : List Rn} {a : Nat} (h : L.length ≤ 1) : forkB f L a = true := by
 cases f with
 | zero => unfold forkB; exact decide_eq_true h
 | succ f => unfold forkB; rw [if_pos h]
theorem partB_short {L : List Rn} {a : Nat} (h0 : 0 < L.length) (h : ∀ r ∈ L, r.ds.length ≤ a) : partB L a = none := by
 refine partB_none (k := 0) h0 ?_
 obtain ⟨r, hr⟩ : ∃ r, L[0]? = some r := ⟨_, List.getElem?_eq_getElem h0⟩
 have : partI L a 1 = partStep (draw0 L a) a ([], 0) r := by unfold partI; rw [hr]; rfl
 rw [this]
 unfold partStep
 rw [List.getElem?_eq_none (h r (List.mem_of_getElem? hr))]
set_option maxHeartbeats 2000000 in
set_option maxRecDepth 100000 in
theorem cfork_c : ∀ (f : Nat) (V : View) (v : Value) (L : List Rn) (a : Nat), SlK 9 rnE V v L → 0 < L.length → L.length ≤ 100 → a + f ≤ 200 → (∀ r ∈ L, ∀ d ∈ r.ds, d.good) → (∀ r ∈ L, r.ds.length + 1 ≤ a + f) → Spec Tryz.prog 78 [v, .int .i64 (a : Int)] V fun v' V' => v' = .bool (forkB f L a) := by
 intro f
 induction f using Nat.strongRecOn with
 | _ f ih =>
 intro V v L a h h0 hl haf hg hlen
 obtain ⟨A, cL, rfl, _, _⟩ := h.form
 refine (Spec.enterR Tryz.func78 rfl fun Γ hΓ => ?_)
 simp only [Tryz.ntmps78, List.map_cons, List.map_nil, List.length_cons, List.length_nil, Nat.reduceAdd, Nat.reduceSub, List.replicate_succ, List.replicate_zero, List.cons_append, List.nil_append]
 refine Gx.a (by kernel_rfl) fun K hK => ?_
 simp only [XA]
 refine hK _ ?_
 refine XWP.cut (fun s => ∃ (V2 : View), StIs (fun Z => [Z 0,Z 1,Z 2,Z 3,Z 4,Z 5,Z 6,Z 7,Z 8,Z 9,Z 10,Z 11,Z 12,Z 13,Z 14,Z 15,Z 16,Z 17,Z 18,Z 19,Z 20,Z 21,Z 22,Z 23,Z 24,Z 25,Z 26,Z 27,Z 28,Z 29,Z 30,Z 31,Z 32,Z 33,Z 34,Z 35]) [] (fun _ => none) V2 s ∧ forkB f L a = true) ?_ ?_
 rotate_left
 ·rintro s ⟨V2, hs, hf⟩
  obtain ⟨z, rfl⟩ := hs.out
  try dsimp only
  refine Gx.a (by kernel_rfl) fun K hK => ?_
  simp only [XA]
  refine hK _ (XWP.ret ?_)
  try simp only [thenX_ret, inBlockX_ret]
  refine ret_go _ rfl ?_
  rw [hf]; rfl
 refine XWP.block ?_
 refine XWP.loop (fun q s => ∃ (f' a' : Nat) (V2 : View), StIs (fun Z => [.v (.slice A L.length cL), .v (.int .i64 (a' : Int)), Z 2,Z 3,Z 4,Z 5,Z 6,Z 7,Z 8,Z 9,Z 10,Z 11,Z 12,Z 13,Z 14,Z 15,Z 16,Z 17,Z 18,Z 19,Z 20,Z 21,Z 22,Z 23,Z 24,Z 25,Z 26,Z 27,Z 28,Z 29,Z 30,Z 31,Z 32,Z 33,Z 34,Z 35]) [] (fun _ => none) V2 s ∧ q = f' ∧ f' ≤ f ∧ a' + f' = a + f ∧ V.le V2 ∧ forkB f L a = forkB f' L a') f ⟨f, a, V, StIs.of (by exact rfl), rfl, Nat.le_refl _, rfl, View.le_refl _, rfl⟩ ?_
 rintro q s ⟨f', a', V2, hs, rfl, hff, haf', hV2, hF⟩
 obtain ⟨z, rfl⟩ := hs.out
 try dsimp only
 clear hs
 refine XWP.seq ?_
 by_cases h1 : L.length ≤ 1
 ·have b1 : decide ((1 : Int) < (L.length : Int)) = false := decide_eq_false (by omega)
  refine Gx.a (by kernel_rfl) fun K hK => ?_
  simp only [XU, XA, XB, b1]
  refine hK _ ?_
  refine Gx.f rfl ?_
  refine XWP.exit ?_
  exact ⟨V2, StIs.of (by exact rfl), by rw [hF]; exact forkB_small h1⟩
 have b1 : decide ((1 : Int) < (L.length : Int)) = true := decide_eq_true (by omega)
 refine Gx.a (by kernel_rfl) fun K hK => ?_
 simp only [XU, XA, XB, b1]
 refine hK _ ?_
 refine Gx.t rfl ?_
 refine XWP.skip ?_
 have hL2 := h.mono rnE_ok hV2
 have hlen' : ∀ r ∈ L, r.ds.length + 1 ≤ a' + q := fun r hr => by have := hlen r hr; omega
 refine XWP.cut (fun s => ∃ (V3 : View) (q' : Nat), StIs (fun Z => [.v (.slice A L.length cL), .v (.int .i64 (a' : Int)), Z 2,Z 3,Z 4,Z 5,Z 6,Z 7,Z 8,Z 9,Z 10,Z 11,Z 12,Z 13,Z 14,Z 15,Z 16,Z 17,Z 18,Z 19,Z 20,Z 21,Z 22,Z 23,Z 24,Z 25,Z 26,Z 27,Z 28,Z 29,Z 30,Z 31,Z 32,Z 33,Z 34,Z 35]) [] (fun _ => none) V3 s ∧ V.le V3 ∧ q = q' + 1 ∧ forkB f L a = forkB q' L (a' + 1)) ?_ ?_
 rotate_left
 ·rintro s ⟨V3, q', hs, hV3, rfl, hF'⟩
  obtain ⟨z, rfl⟩ := hs.out
  try dsimp only
  clear hs
  refine Gx.c (by kernel_rfl) fun K hK => ?_
  simp only [XA, XB, i64_succ a' (by omega)]
  exact hK _ ⟨q', by omega, q', a' + 1, V3, StIs.of (by exact rfl), rfl, by omega, by omega, hV3, hF'⟩
 refine XWP.block ?_
 refine Gx.a (by kernel_rfl) fun K hK => ?_
 simp only [XA]
 refine call_go (by kernel_rfl) rfl (cparted_c _ _ L a' hL2 h0 hl (by omega) hg) fun v4 V4 hV4 h4 => ?_
 have hV04 := View.le_trans hV2 hV4
 cases hp : partB L a' with
 | none =>
  have hfalse : forkB q L a' = false := by
   cases q with
   | zero => unfold forkB; exact decide_eq_false h1
   | succ q => unfold forkB; rw [if_neg h1, hp]
  have e := h4.1 hp
  subst e
  simp only [XA]
  refine hK _ ?_
  refine XWP.seq ?_
  refine Gx.a (by kernel_rfl) fun K hK => ?_
  simp only [XA]
  refine hK _ ?_
  refine Gx.t rfl ?_
  refine Gx.a (by kernel_rfl) fun K hK => ?_
  simp only [XA]
  refine hK _ (XWP.ret ?_)
  try simp only [thenX_ret, inBlockX_ret]
  refine ret_go _ rfl ?_
  rw [hF, hfalse]; rfl
 | some st =>
  obtain ⟨gs, ok⟩ := st
  obtain ⟨g, ml, e, hVg, hgv, hgo⟩ := h4.2 gs ok hp
  subst e
  obtain ⟨q, rfl⟩ : ∃ q', q = q' + 1 := by
   cases q with
   | zero =>
    rw [partB_short h0 fun r hr => by have := hlen' r hr; omega] at hp
    cases hp
   | succ q => exact ⟨q, rfl⟩
  have hFS : forkB (q + 1) L a' = if ok = false then false else if gs.length = 1 then forkB q L (a' + 1) else gs.all fun g => forkB q g.2 (a' + 1) := by
   conv => lhs; unfold forkB
   rw [if_neg h1, hp]
  rw [hFS] at hF
  cases ok with
  | false =>
   simp only [XA]
   refine hK _ ?_
   refine XWP.seq ?_
   refine Gx.a (by kernel_rfl) fun K hK => ?_
   simp only [XA]
   refine hK _ ?_
   refine Gx.t rfl ?_
   refine Gx.a (by kernel_rfl) fun K hK => ?_
   simp only [XA]
   refine hK _ (XWP.ret ?_)
   try simp only [thenX_ret, inBlockX_ret]
   refine ret_go _ rfl ?_
   rw [hF]; rfl
  | true =>
  rw [if_neg (by simp)] at hF
  simp only [XA]
  refine hK _ ?_
  refine XWP.seq ?_
  refine Gx.a (by kernel_rfl) fun K hK => ?_
  simp only [XA]
  refine hK _ ?_
  refine Gx.f rfl ?_
  refine XWP.skip ?_
  refine XWP.seq ?_
  have hml : ml.length = gs.length := by have := congrArg List.length hgv.1; simpa using this
  refine XWP.seq (XWP.regZ (fun i => i == 1) (by kernel_rfl) ?_)
  refine seqZ_x rfl ?_
  simp only [XA]
  refine seqZ_z rfl (opz_len rfl mapT rfl hVg ?_)
  simp only [XA, Nat.reduceAdd]
  by_cases hone : gs.length = 1
  ·have b2 : decide ((ml.length : Int) = 1) = true := decide_eq_true (by omega)
   refine seqZ_x rfl ?_
   simp only [XA, XB, Nat.reduceAdd, b2]
   refine seqZ_nil ?_
   rw [thenX_normal]
   refine Gx.t rfl ?_
   refine XWP.exit ?_
   exact ⟨V4, q, StIs.of (by exact rfl), hV04, rfl, by rw [hF, if_pos hone]⟩
  have b2 : decide ((ml.length : Int) = 1) = false := decide_eq_false (by omega)
  refine seqZ_x rfl ?_
  simp only [XA, XB, Nat.reduceAdd, b2]
  refine seqZ_nil ?_
  rw [thenX_normal]
  refine Gx.f rfl ?_
  refine XWP.skip ?_
  rw [if_neg hone] at hF
  obtain ⟨met, hpm⟩ : ∃ met, PM L a' L.length gs met := by
   rcases part_met L a' L.length (Nat.le_refl _) with ⟨e, _⟩ | ⟨gs', odds', met, e1, _, e3⟩
   ·unfold partB at hp; rw [e] at hp; cases hp
   ·unfold partB at hp
    rw [e1] at hp
    have e5 : gs' = gs := (Prod.mk.inj (Option.some.inj hp)).1
    subst e5
    exact ⟨met, e3⟩
  have hgrp : ∀ (i : Nat) (k : Int) (rs : List Rn), gs[i]? = some (k, rs) → 0 < rs.length ∧ rs.length ≤ 100 ∧ ∀ r ∈ rs, r ∈ L := fun i k rs hi => by
   obtain ⟨d', _, _, _, _, e5, e⟩ := hpm.ent i k rs hi
   rw [List.take_length] at e
   refine ⟨e5, ?_, fun r hr => by rw [e] at hr; exact (List.mem_filter.1 hr).1⟩
   have h1 := List.length_filter_le (fun r : Rn => decide (r.ds[a']? = some d')) L
   rw [← e] at h1
   omega
  refine XWP.cut (fun s => ∃ (V5 : View), StIs (fun Z => [Z 0,Z 1,Z 2,Z 3,Z 4,Z 5,Z 6,Z 7,Z 8,Z 9,Z 10,Z 11,Z 12,Z 13,Z 14,Z 15,Z 16,Z 17,Z 18,Z 19,Z 20,Z 21,Z 22,Z 23,Z 24,Z 25,Z 26,Z 27,Z 28,Z 29,Z 30,Z 31,Z 32,Z 33,Z 34,Z 35]) [] (fun _ => none) V5 s ∧ forkB f L a = true) ?_ ?_
  rotate_left
  ·rintro s ⟨V5, hs, hf⟩
   obtain ⟨z, rfl⟩ := hs.out
   try dsimp only
   refine Gx.a (by kernel_rfl) fun K hK => ?_
   simp only [XA]
   refine hK _ (XWP.ret ?_)
   try simp only [thenX_ret, inBlockX_ret]
   refine ret_go _ rfl ?_
   rw [hf]; rfl
  refine XWP.seq (XWP.regZ (fun i => i == 1) (by kernel_rfl) ?_)
  refine seqZ_x rfl ?_
  simp only [XA]
  refine seqZ_z rfl (opz_range rfl hΓ.2 mapT rfl hVg fun r hVr _ hMr => ?_)
  simp only [XA, Nat.reduceAdd]
  refine seqZ_nil ?_
  rw [thenX_normal]
  refine XWP.block ?_
  refine XWP.loop (fun n s => ∃ (seen : Array Nat) (V5 : View), StIs (fun Z => [.v (.slice A L.length cL), .v (.int .i64 (a' : Int)), Z 2,Z 3,Z 4,Z 5,Z 6,Z 7,Z 8,Z 9,Z 10,Z 11,Z 12,Z 13,Z 14,Z 15,Z 16,Z 17,Z 18,Z 19,Z 20,Z 21,Z 22,Z 23,Z 24,Z 25, .v (.pointer (some ⟨r, 0, none⟩)), Z 27,Z 28,Z 29,Z 30,Z 31,Z 32,Z 33,Z 34,Z 35]) [] (fun _ => none) V5 s ∧ n = unseen ml.length seen ∧ V4.le V5 ∧ V5 r = some (itO g ml.length seen) ∧ ∀ j ∈ seen, ∀ k rs, gs[j]? = some (k, rs) → forkB q rs (a' + 1) = true) (unseen ml.length #[]) ⟨#[], _, StIs.of (by exact rfl), rfl, addV_new hVr, addV_on, fun j hj => by simp at hj⟩ ?_
  rintro n s ⟨seen, V5, hs, rfl, hV5, hVr5, hsn⟩
  obtain ⟨z, rfl⟩ := hs.out
  try dsimp only
  clear hs
  have hVg5 := hV5 _ _ hVg
  refine XWP.seq (XWP.regZ (fun i => i == 0) (by kernel_rfl) ?_)
  refine seqZ_z rfl (opz_next rfl hΓ.2 rfl hVg5 hVr5 hMr (fun hall => ?_) (fun j k w hj hns => ?_))
  ·simp only [XA]
   refine seqZ_x rfl ?_
   simp only [XA, Nat.reduceAdd]
   refine seqZ_nil ?_
   rw [thenX_normal]
   refine XWP.seq ?_
   refine Gx.f rfl ?_
   refine XWP.exit ?_
   refine ⟨V5, StIs.of (by exact rfl), ?_⟩
   rw [hF, List.all_eq_true]
   intro p hp
   obtain ⟨j, hj⟩ := List.getElem?_of_mem hp
   have hjl := (List.getElem?_eq_some_iff.1 hj).1
   exact hsn j (hall j (by omega)) p.1 p.2 hj
  ·simp only [XA]
   refine seqZ_x rfl ?_
   simp only [XA, Nat.reduceAdd]
   refine seqZ_nil ?_
   rw [thenX_normal]
   refine XWP.seq ?_
   refine Gx.t rfl ?_
   refine XWP.skip ?_
   have hjl := (List.getElem?_eq_some_iff.1 hj).1
   obtain ⟨⟨k', rs⟩, hgj⟩ : ∃ p, gs[j]? = some p := ⟨_, List.getElem?_eq_getElem (by omega)⟩
   have hsl := (hgv.2 j k w k' rs hj hgj).mono rnE_ok (View.keepAt (o := itO g ml.length (seen.push j)) hV5 hVr)
   have hV5' := View.keepAt (o := itO g ml.length (seen.push j)) hV5 hVr
   have hrk : ∃ A' c', w = .slice A' rs.length c' := by
    obtain ⟨A', c', e, _, _⟩ := hsl.form
    exact ⟨A', c', e⟩
   obtain ⟨A', c', rfl⟩ := hrk
   obtain ⟨r1, r2, r3⟩ := hgrp j k' rs hgj
   refine XWP.block ?_
   refine XWP.seq (XWP.regZ (fun i => i == 0) (by kernel_rfl) ?_)
   refine seqZ_z rfl (opz_entry rfl rfl (hV5' _ _ hVg) addV_on hj ?_)
   simp only [XA]
   refine seqZ_x rfl ?_
   simp only [XA, Nat.reduceAdd]
   refine seqZ_x rfl ?_
   simp only [XA, Nat.reduceAdd]
   refine seqZ_nil ?_
   rw [thenX_normal]
   refine Gx.a (by kernel_rfl) fun K hK => ?_
   simp only [XA, XB, i64_succ a' (by omega)]
   refine call_go (by kernel_rfl) rfl (ih q (by omega) _ _ rs (a' + 1) hsl r1 r2 (by omega) (fun x hx => hg x (r3 x hx)) (fun x hx => by have := hlen x (r3 x hx); omega)) fun v6 V6 hV6 h6 => ?_
   subst h6
   cases hfr : forkB q rs (a' + 1)
   ·simp only [XA]
    refine hK _ ?_
    refine Gx.t rfl ?_
    refine Gx.a (by kernel_rfl) fun K hK => ?_
    simp only [XA]
    refine hK _ (XWP.ret ?_)
    try simp only [thenX_ret, inBlockX_ret]
    refine ret_go _ rfl ?_
    have : forkB f L a = false := by
     rw [hF, List.all_eq_false]
     exact ⟨_, List.mem_of_getElem? hgj, by rw [hfr]; simp⟩
    rw [this]; rfl
   ·simp only [XA]
    refine hK _ ?_
    refine Gx.f rfl ?_
    refine XWP.skip ?_
    refine ⟨_, unseen_push hjl hns, _, V6, StIs.of (by exact rfl), rfl, View.le_trans hV5' hV6, hV6 _ _ addV_on, fun i hi k2 rs2 h2 => ?_⟩
    rcases Array.mem_push.1 hi with hi | rfl
    ·exact hsn i hi k2 rs2 h2
    ·rw [hgj] at h2
     cases h2
     exact hfr
def rightR (l : List Rn) : Bool := decide (1 ≤ l.length) && decide (l.length ≤ 60) && l.all drawsB && forkB 102 l 0
theorem kright_c (V : View) (v : Value) (l : List Rn) (h : SlK 9 rnE V v l) (f : ∀ r ∈ l, r.fits) (ll : l.length ≤ 1000000) : Spec Tryz.prog 32 [v] V fun v' V' => v' = .bool (rightR l) := by
 obtain ⟨A, cL, rfl, _, _⟩ := h.form
 refine (Spec.enter Tryz.func32 rfl fun Γ => ?_)
 simp only [Tryz.ntmps32, List.map_cons, List.map_nil, List.length_cons, List.length_nil, Nat.reduceAdd, Nat.reduceSub, List.replicate_succ, List.replicate_zero, List.cons_append, List.nil_append]
 refine Gx.a (by kernel_rfl) fun K hK => ?_
 simp only [XA]
 refine hK _ ?_
 by_cases h1 : 1 ≤ l.length
 rotate_left
 ·have b1 : decide ((1 : Int) ≤ (l.length : Int)) = false := decide_eq_false (by omega)
  refine Gx.a (by kernel_rfl) fun K hK => ?_
  simp only [XU, XA, XB, gateX, ↓reduceIte, b1]
  refine hK _ (XWP.ret ?_)
  try simp only [thenX_ret, inBlockX_ret]
  refine ret_go _ rfl ?_
  unfold rightR
  rw [decide_eq_false h1]; rfl
 have b1 : decide ((1 : Int) ≤ (l.length : Int)) = true := decide_eq_true (by omega)
 by_cases h2 : l.length ≤ 60
 rotate_left
 ·have b2 : decide ((l.length : Int) ≤ (60 : Int)) = false := decide_eq_false (by omega)
  refine Gx.a (by kernel_rfl) fun K hK => ?_
  simp only [XU, XA, XB, gateX, ↓reduceIte, beq_self_eq_true, b1, b2]
  refine hK _ (XWP.ret ?_)
  try simp only [thenX_ret, inBlockX_ret]
  refine ret_go _ rfl ?_
  unfold rightR
  rw [decide_eq_false h2]; simp
  rfl
 have b2 : decide ((l.length : Int) ≤ (60 : Int)) = true := decide_eq_true (by omega)
 refine Gx.a (by kernel_rfl) fun K hK => ?_
 simp only [XU, XA, XB, gateX, ↓reduceIte, beq_self_eq_true, b1, b2]
 refine call_go (by kernel_rfl) rfl (kcontains_c _ _ l h f ll) fun v1 V1 hV1 h1c => ?_
 subst h1c
 cases hd : l.all drawsB
 ·simp only [XA, gateX, ↓reduceIte, beq_self_eq_true]
  refine hK _ (XWP.ret ?_)
  try simp only [thenX_ret, inBlockX_ret]
  refine ret_go _ rfl ?_
  unfold rightR
  rw [hd]; simp
  rfl
 simp only [XA, gateX, ↓reduceIte, beq_self_eq_true]
 have hgood : ∀ r ∈ l, ∀ d ∈ r.ds, d.good := fun r hr d hd' => by
  have h1 := List.all_eq_true.1 hd r hr
  unfold drawsB at h1
  simp only [Bool.and_eq_true] at h1
  exact (Dr.goodB_iff d).1 (List.all_eq_true.1 h1.1.2 d hd')
 refine call_go (by kernel_rfl) rfl (cfork_c 102 _ _ l 0 (h.mono rnE_ok hV1) (by omega) (by omega) (by omega) hgood (fun r hr => by have := (f r hr).1; omega)) fun v2 V2 hV2 h2c => ?_
 subst h2c
 simp only [XA, ↓reduceIte]
 refine hK _ (XWP.ret ?_)
 try simp only [thenX_ret, inBlockX_ret]
 refine ret_go _ rfl ?_
 unfold rightR
 rw [decide_eq_true h1, decide_eq_true h2, hd]; simp
 rfl
def qOf (l : List Rn) (k : Nat) : Rat := ((l[k]?).map fun r => priorQ r.ds).getD 0
def wOf (l : List Rn) (k : Nat) : Rat := ((l[k]?).map fun r => r.w.q).getD 0
def sOf (l : List Rn) (k : Nat) : Rat := ((l[k]?).map fun r => r.w.q / priorQ r.ds).getD 0
theorem qOf_at {l : List Rn} {k : Nat} {r : Rn} (h : l[k]? = some r) : qOf l k = priorQ r.ds := by unfold qOf; rw [h]; rfl
theorem wOf_at {l : List Rn} {k : Nat} {r : Rn} (h : l[k]? = some r) : wOf l k = r.w.q := by unfold wOf; rw [h]; rfl
theorem sOf_at {l : List Rn} {k : Nat} {r : Rn} (h : l[k]? = some r) : sOf l k = r.w.q / priorQ r.ds := by unfold sOf; rw [h]; rfl
structure Rn.small (r : Rn) : Prop where
 len : r.ds.length ≤ 8
 good : ∀ d ∈ r.ds, d.good
 ok : r.w.ok = true
 qb : QB 128 r.w.q
 pos : 0 < r.w.q
theorem Rn.small.fine {r : Rn} (h : r.small) : r.fine := ⟨by have := h.len; omega, h.good, h.ok, h.qb.qf (by omega), h.pos⟩
theorem Rn.small.qp {r : Rn} (h : r.small) : QB 128 (priorQ r.ds) := (priorQ_QB h.good).mono (by have := h.len; omega)
theorem Rn.small.ppos {r : Rn} (h : r.small) : 0 < priorQ r.ds := priorQ_pos h.good
theorem Rn.small.sb {r : Rn} (h : r.small) : QB 256 (r.w.q / priorQ r.ds) := h.qb.div h.qp
theorem Rn.small.spos {r : Rn} (h : r.small) : 0 < r.w.q / priorQ r.ds := by
 rw [Rat.div_def]
 exact Rat.mul_pos h.pos (Rat.inv_pos.2 h.ppos)
theorem QB_lt {A B : Nat} {p q : Rat} (hp : QB A p) (hq : QB B q) : QB (A + B) (ltQ p q) := by
 unfold ltQ
 split
 ·exact hq.mono (by omega)
 ·exact hp.mono (by omega)
theorem SlK.st {V : View} {b o n c i : Nat} {l : List Rn} {r : Rn} (h : SlK 18 stE V (.slice (some ⟨b, o, none⟩) n c) l) (hi : l[i]? = some r) : ∃ (rc : List Value) (w q s : Value), ElK 9 rnE V rc r ∧ RatC V w r.w.q ∧ RatC V q (priorQ r.ds) ∧ RatC V s (r.w.q / priorQ r.ds) ∧
  ∀ H, Loads Tryz.prog H V 51 b (o + i * 18) (.agg rc.toArray) ∧ Loads Tryz.prog H V 49 b (o + i * 18 + 9) w ∧ Loads Tryz.prog H V 49 b (o + i * 18 + 12) q ∧ Loads Tryz.prog H V 49 b (o + i * 18 + 15) s := by
 have hl := (List.getElem?_eq_some_iff.1 hi).1
 obtain ⟨cs, ⟨_, _, he⟩, hcell⟩ := SlK.get h i hl
 rw [(List.getElem?_eq_some_iff.1 hi).2] at he
 obtain ⟨v0, v1, v2, v3, v4, v5, v6, v7, v8, m, n', d, q1, q2, q3, s1, s2, s3, rfl, h1, h2, h3, h4⟩ := he
 refine ⟨_, _, _, _, h1, h2, h3, h4, fun H => ⟨loadsK shapeT_51 rfl fun j u hj => ?_, loadsK (cs := [m, n', d]) shapeT_49 rfl fun j u hj => ?_, loadsK (cs := [q1, q2, q3]) shapeT_49 rfl fun j u hj => ?_, loadsK (cs := [s1, s2, s3]) shapeT_49 rfl fun j u hj => ?_⟩⟩
 ·refine hcell H j u ?_
  have hj9 := (List.getElem?_eq_some_iff.1 hj).1
  rw [show ([v0, v1, v2, v3, v4, v5, v6, v7, v8, m, n', d, q1, q2, q3, s1, s2, s3] : List Value) = [v0, v1, v2, v3, v4, v5, v6, v7, v8] ++ [m, n', d, q1, q2, q3, s1, s2, s3] from rfl, List.getElem?_append_left hj9]
  exact hj
 ·match j, hj with
  | 0, hj => exact hcell H 9 u hj
  | 1, hj => exact hcell H 10 u hj
  | 2, hj => exact hcell H 11 u hj
 ·match j, hj with
  | 0, hj => exact hcell H 12 u hj
  | 1, hj => exact hcell H 13 u hj
  | 2, hj => exact hcell H 14 u hj
 ·match j, hj with
  | 0, hj => exact hcell H 15 u hj
  | 1, hj => exact hcell H 16 u hj
  | 2, hj => exact hcell H 17 u hj
def anewQ (l : List Rn) (i k : Nat) : Rat := qOf l k * ltQ 1 (sOf l k / sOf l i)
theorem anewQ_QB {l : List Rn} (hs : ∀ r ∈ l, r.small) {i k : Nat} (hi : i < l.length) (hk : k < l.length) : QB 640 (anewQ l i k) := by
 obtain ⟨r, hr⟩ : ∃ r, l[i]? = some r := ⟨_, List.getElem?_eq_getElem hi⟩
 obtain ⟨t, ht⟩ : ∃ r, l[k]? = some r := ⟨_, List.getElem?_eq_getElem hk⟩
 have h1 := hs r (List.mem_of_getElem? hr)
 have h2 := hs t (List.mem_of_getElem? ht)
 unfold anewQ
 rw [qOf_at ht, sOf_at ht, sOf_at hr]
 exact (h2.qp.mul (QB_lt (QB_one 0) (h2.sb.div h1.sb))).mono (by omega)
theorem canew1_c (V : View) (b e i k : Nat) (x : Value) (l : List Rn) (hb : V b = some (.cells ([x] : List Value).toArray e (0, 0))) (hx : SlK 18 stE V x l) (hs : ∀ r ∈ l, r.small) (hi : i < l.length) (hk : k < l.length) :
  Spec Tryz.prog 59 [.int .i64 (i : Int), .int .i64 (k : Int), .pointer (some ⟨b, 0, none⟩)] V fun v' V' => RatC V' v' (anewQ l i k) := by
 obtain ⟨A, c, rfl, _, _⟩ := hx.form
 obtain ⟨bL, oL, rfl⟩ := SlK.addr hx (by omega)
 obtain ⟨r, hr⟩ : ∃ r, l[i]? = some r := ⟨_, List.getElem?_eq_getElem hi⟩
 obtain ⟨t, ht⟩ : ∃ r, l[k]? = some r := ⟨_, List.getElem?_eq_getElem hk⟩
 have h1 := hs r (List.mem_of_getElem? hr)
 have h2 := hs t (List.mem_of_getElem? ht)
 obtain ⟨rc1, w1, q1, s1, e1, ew1, eq1, es1, ld1⟩ := hx.st hr
 obtain ⟨rc2, w2, q2, s2, e2, ew2, eq2, es2, ld2⟩ := hx.st ht
 have hld := ldV1 (off := 0) hb rfl shapeT_83 (fun _ => none)
 refine (Spec.enter Tryz.func59 rfl fun Γ => ?_)
 simp only [Tryz.ntmps59, List.map_cons, List.map_nil, List.length_cons, List.length_nil, Nat.reduceAdd, Nat.reduceSub, List.replicate_succ, List.replicate_zero, List.cons_append, List.nil_append]
 refine Gx.a (by kernel_rfl) fun K hK => ?_
 simp only [XA, XB]
 refine hK _ ?_
 (refine XWP.drw [0, 1, 2, 3, 4, 6, 7, 8, 9, 10, 11, 12, 13, 14, 15, 5, 16, 17, 18, 19] (by kernel_rfl) (by kernel_rfl) (by kernel_rfl) fun K hK => ?_) <;> dsimp only [pickOps, List.getElem?_cons_zero, List.getElem?_cons_succ]
 simp only [XA]
 refine ld_mem hld ?_
 simp only [XV, XA]
 refine ⟨by omega, by omega, ld_mem (ld2 _).2.2.1 ?_⟩
 simp only [XA]
 refine ld_mem hld ?_
 simp only [XV, XA]
 refine ⟨by omega, by omega, ld_mem (ld2 _).2.2.2 ?_⟩
 simp only [XA]
 refine ld_mem hld ?_
 simp only [XV, XA]
 refine ⟨by omega, by omega, ld_mem (ld1 _).2.2.2 ?_⟩
 simp only [XA]
 refine call_go (by kernel_rfl) rfl (qone_c _) fun v3 V3 hV3 h3 => ?_
 simp only [XA]
 have n1 : r.w.q / priorQ r.ds ≠ 0 := fun e => by have := h1.spos; rw [e] at this; exact absurd this (by decide)
 refine call_go (by kernel_rfl) rfl (kby_c _ _ _ _ _ (es2.mono hV3) (es1.mono hV3) (h2.sb.qf (by omega)) (h1.sb.qf (by omega)) n1) fun v4 V4 hV4 h4 => ?_
 simp only [XA]
 have qb4 := h2.sb.div h1.sb
 refine call_go (by kernel_rfl) rfl (qleast_c _ _ _ _ _ (h3.mono hV4) h4 ((QB_one 0).qf (by omega)) (qb4.qf (by omega))) fun v5 V5 hV5 h5 => ?_
 simp only [XA]
 have qb5 := QB_lt (QB_one 0) qb4
 refine call_go (by kernel_rfl) rfl (qmul_c _ _ _ _ _ (((eq2.mono hV3).mono hV4).mono hV5) h5 (h2.qp.qf (by omega)) (qb5.qf (by omega))) fun v6 V6 hV6 h6 => ?_
 obtain ⟨x6, y6, rfl, p1, p2⟩ := h6.form
 simp only [XA]
 refine st_rat rfl rfl rfl p1 p2 ?_
 simp only [XA]
 refine hK _ (XWP.ret ?_)
 try simp only [thenX_ret, inBlockX_ret]
 refine ret_rat1 rfl rfl rfl ?_
 unfold anewQ
 rw [qOf_at ht, sOf_at ht, sOf_at hr]
 exact h6
theorem ret_mat2C {t i k : Nat} {s : XS} {R : Value → View → Prop} {vs : List Value} {e : Value} (ht : s.t[t]? = some (.p i 0)) (hb : s.bx[i]? = some vs) (hk : s.t[k]? = some (.v e)) (hl : vs.length = 3) (hR : R (.tuple #[.agg vs.toArray, e]) s.V) : XPost Tryz.prog [.cell t 26, .tmp k] R .ret s := by
 refine ret_go [.agg vs.toArray, e] ?_ hR
 simp [resAll, resV, cellsV, ht, hb, hk, shapeT_26, hl]
theorem right_small {l : List Rn} (h : rightR l = true) (f : ∀ r ∈ l, r.ds.length ≤ 8 ∧ (r.w.ok = true → QB 128 r.w.q)) : 1 ≤ l.length ∧ l.length ≤ 60 ∧ ∀ r ∈ l, r.small := by
 unfold rightR at h
 simp only [Bool.and_eq_true, decide_eq_true_eq] at h
 obtain ⟨⟨⟨h1, h2⟩, h3⟩, _⟩ := h
 refine ⟨h1, h2, fun r hr => ?_⟩
 have hd := List.all_eq_true.1 h3 r hr
 unfold drawsB at hd
 simp only [Bool.and_eq_true, decide_eq_true_eq] at hd
 obtain ⟨⟨⟨⟨_, ok⟩, hp⟩, hg⟩, _⟩ := hd
 obtain ⟨f1, f2⟩ := f r hr
 refine ⟨f1, fun d hd => (Dr.goodB_iff d).1 (List.all_eq_true.1 hg d hd), ok, f2 ok, ?_⟩
 refine Classical.byContradiction fun hn => ?_
 have hle : r.w.q ≤ 0 := Rat.not_lt.1 hn
 by_cases h0 : r.w.q = 0
 ·rw [h0] at hp; exact absurd hp (by decide)
 ·have : r.w.q < 0 := by grind
  rw [sgI_neg' this] at hp
  omega
theorem canew_c (V : View) (v : Value) (l : List Rn) (h : SlK 9 rnE V v l) (f : ∀ r ∈ l, r.fits) (fs : ∀ r ∈ l, r.ds.length ≤ 8 ∧ (r.w.ok = true → QB 128 r.w.q)) (ll : l.length ≤ 1000000) : Spec Tryz.prog 22 [v] V fun v' V' => (rightR l = false → v' = .tuple #[.agg #[.int .i64 0, .int .i64 0, .slice none 0 0], .int .i64 1]) ∧ (rightR l = true → ∃ s, v' = .tuple #[.agg #[.int .i64 (l.length : Int), .int .i64 (l.length : Int), s], .int .i64 0] ∧ Rats V' s (flatG (moveG (anewQ l) l.length) l.length l.length)) := by
 obtain ⟨A, cL, rfl, _, _⟩ := h.form
 refine (Spec.enter Tryz.func22 rfl fun Γ => ?_)
 simp only [Tryz.ntmps22, List.map_cons, List.map_nil, List.length_cons, List.length_nil, Nat.reduceAdd, Nat.reduceSub, List.replicate_succ, List.replicate_zero, List.cons_append, List.nil_append]
 refine Gx.a (by kernel_rfl) fun K hK => ?_
 simp only [XM, XA]
 refine hK _ ?_
 refine XWP.seq ?_
 refine Gx.a (by kernel_rfl) fun K hK => ?_
 simp only [XA]
 refine call_go (by kernel_rfl) rfl (kright_c _ _ l h f ll) fun v1 V1 hV1 h1 => ?_
 subst h1
 cases hr : rightR l
 ·simp only [XA]
  refine hK _ ?_
  refine Gx.t rfl ?_
  refine Gx.a (by kernel_rfl) fun K hK => ?_
  simp only []
  refine bd_go (by kernel_rfl) #[] (by simp) bd_mtx0 ?_
  simp only [XA]
  refine st_mat shapeT_26 rfl rfl rfl rfl rfl ?_
  simp only [XA]
  refine hK _ (XWP.ret ?_)
  try simp only [thenX_ret, inBlockX_ret]
  exact ret_mat2C rfl rfl rfl rfl ⟨fun _ => rfl, fun h => absurd h (by rw [hr]; simp)⟩
 obtain ⟨g1, g2, g3⟩ := right_small hr fs
 simp only [XA]
 refine hK _ ?_
 refine Gx.f rfl ?_
 refine XWP.skip ?_
 refine Gx.a (by kernel_rfl) fun K hK => ?_
 simp only [XA]
 refine call_go (by kernel_rfl) rfl (cstates_c _ _ l (h.mono rnE_ok hV1) (by omega) (by omega) (fun r hr => (g3 r hr).fine)) fun v2 V2 hV2 h2 => ?_
 obtain ⟨A2, c2, rfl, _, _⟩ := h2.form
 simp only [XV, XA]
 refine st_one shapeT_83 rfl rfl (by simp) ?_
 simp only [XA]
 refine hK _ ?_
 refine XWP.row1 (bx := [_]) fun b e hb _ => ?_
 simp only [List.map_cons, List.map_nil, rowS_v, rowS_p, List.length_nil, List.length_cons, Nat.reduceAdd, Nat.reduceEqDiff, ↓reduceIte]
 refine XWP.pub b _ (upd_at _ _ _) fun o ho hle => ?_
 have eo := row_obj ho
 subst eo
 have hbv := addV_at V2 b (.cells ([.slice A2 l.length c2] : List Value).toArray e (0, 0))
 have h2 := h2.mono stE_ok hle
 generalize addV V2 b _ = V3 at *
 refine Gx.a (by kernel_rfl) fun K hK => ?_
 simp only [XA]
 refine ld_mem (ldV1 (off := 0) hbv rfl shapeT_83 _) ?_
 simp only [XA]
 refine mkf_go [.pointer (some ⟨b, 0, none⟩)] rfl ?_
 simp only [XA]
 refine call_go (by kernel_rfl) rfl (cmoves_c V3 A2 l.length c2 59 640 [.pointer (some ⟨b, 0, none⟩)] (anewQ l) g2 (by kernel_rfl) (fun i k hi hk _ => anewQ_QB g3 hi hk) (by omega) fun V' i k hV hi hk _ => canew1_c V' b e i k _ l (hV _ _ hbv) (h2.mono stE_ok hV) g3 hi hk) fun v4 V4 hV4 h4 => ?_
 obtain ⟨s, rfl, hs⟩ := h4
 obtain ⟨As, cs, rfl, _, _⟩ := hs.form
 simp only [XA]
 refine st_mat shapeT_26 rfl rfl rfl rfl rfl ?_
 simp only [XA]
 refine hK _ (XWP.ret ?_)
 try simp only [thenX_ret, inBlockX_ret]
 exact ret_mat2C rfl rfl rfl rfl ⟨fun h => absurd h (by rw [hr]; simp), fun _ => ⟨_, rfl, hs⟩⟩
theorem RatC.rawK {V : View} {v : Value} {q : Rat} (h : RatC V v q) : RawAt V v (ng q) (dg q.num.natAbs) (dg q.den) := by
 obtain ⟨n, d, e, h1, h2⟩ := h
 exact ⟨n, d, e, h1, h2⟩
theorem placesT_42 : placesT Tryz.prog 42 = some [(0, 1), (1, 1), (2, 1)] := by kernel_rfl
theorem placesT_44 : placesT Tryz.prog 44 = some [(0, 1), (1, 1), (2, 3)] := by kernel_rfl
theorem placesT_66 : placesT Tryz.prog 66 = some [(0, 1), (1, 1), (2, 1), (3, 1)] := by kernel_rfl
theorem placesT_51 : placesT Tryz.prog 51 = some [(0, 5), (5, 1), (6, 3)] := by kernel_rfl
theorem bd_val33 {i : Int} : BuildsTo Tryz.prog 42 #[(0, .int .i64 2), (1, .int .i64 i)] (.agg #[.int .i64 2, .int .i64 i, .slice none 0 0]) := by
 refine bd_run placesT_42 zeroT_42 ?_
 kernel_rfl
theorem bd_out33 {i : Int} : BuildsTo Tryz.prog 44 #[(2, .agg #[.int .i64 2, .int .i64 i, .slice none 0 0])] (.agg #[.int .i64 0, .int .i64 0, .int .i64 2, .int .i64 i, .slice none 0 0]) := by
 refine bd_run placesT_44 zeroT_44 ?_
 kernel_rfl
theorem bd_drawn33 {i : Int} : BuildsTo Tryz.prog 66 #[(1, .int .i64 i), (2, .int .i64 1), (3, .int .i64 2)] (.agg #[.int .i64 0, .int .i64 i, .int .i64 1, .int .i64 2]) := by
 refine bd_run placesT_66 zeroT_66 ?_
 kernel_rfl
theorem bd_run33 {i : Int} {b : Nat} {m : Bool} {x y : Value} (hx : isOne x = true) (hy : isOne y = true) : BuildsTo Tryz.prog 51 #[(0, .agg #[.int .i64 0, .int .i64 0, .int .i64 2, .int .i64 i, .slice none 0 0]), (1, .slice (some ⟨b, 0, none⟩) 1 1), (2, .agg #[.bool m, x, y])] (.agg #[.int .i64 0, .int .i64 0, .int .i64 2, .int .i64 i, .slice none 0 0, .slice (some ⟨b, 0, none⟩) 1 1, .bool m, x, y]) := by
 refine bd_run placesT_51 zeroT_51 ?_
 kernel_rfl
def rn33 (k : Nat) : Rn := ⟨0, [⟨0, (k : Int), 1, 2⟩], toRaw hf⟩
def pairL : List Rn := [rn33 0, rn33 1]
theorem cpair33_c (V : View) : Spec Tryz.prog 31 [] V fun v' V' => SlK 9 rnE V' v' pairL := by
 refine (Spec.enter Tryz.func31 rfl fun Γ => ?_)
 simp only [Tryz.ntmps31, List.map_nil, List.length_nil, Nat.reduceSub, List.replicate_succ, List.replicate_zero, List.nil_append]
 refine Gx.a (by kernel_rfl) fun K hK => ?_
 simp only [XA]
 refine hK _ ?_
 refine Gx.a (by kernel_rfl) fun K hK => ?_
 simp only [XA]
 refine call_go (by kernel_rfl) rfl (dmake_c _) fun v1 V1 hV1 h1 => ?_
 obtain ⟨w1, rfl, h1⟩ := h1
 obtain ⟨x, y, rfl, o1, o2⟩ := h1.form
 simp only [XA, XB]
 refine st_rat rfl rfl rfl o1 o2 ?_
 simp only [XA]
 refine hK _ ?_
 refine Gx.a (by kernel_rfl) fun K hK => ?_
 simp only [XA]
 refine hK _ ?_
 refine XWP.cut (fun s => ∃ (V2 : View) (H2 : Heap) (sv : Value) (cells : List Value), StIs (fun Z => [Z 0,Z 1,Z 2, .v sv, Z 4,Z 5,Z 6,Z 7,Z 8,Z 9,Z 10,Z 11,Z 12,Z 13,Z 14,Z 15,Z 16,Z 17,Z 18,Z 19,Z 20,Z 21,Z 22,Z 23,Z 24]) [[.bool (ng hf), x, y]] H2 V2 s ∧ Own H2 51 9 sv 2 cells ∧ RowK 9 rnE V2 cells pairL) ?_ ?_
 ·refine Gx.a (by kernel_rfl) fun K hK => ?_
  simp only [XA]
  refine hK _ ?_
  clear hK
  refine XWP.block ?_
  refine XWP.loop (fun q s => ∃ (k : Nat) (V2 : View) (H2 : Heap) (sv : Value) (cells : List Value), StIs (fun Z => [Z 0, .p 0 0, Z 2, .v sv, .v (.int .i64 (k : Int)), Z 5,Z 6,Z 7,Z 8,Z 9,Z 10,Z 11,Z 12,Z 13,Z 14,Z 15,Z 16,Z 17,Z 18,Z 19,Z 20,Z 21,Z 22,Z 23,Z 24]) [[.bool (ng hf), x, y]] H2 V2 s ∧ q + k = 2 ∧ V1.le V2 ∧ Own H2 51 9 sv k cells ∧ RowK 9 rnE V2 cells (pairL.take k)) 2 ⟨0, V1, _, _, [], StIs.of (by exact rfl), by omega, View.le_refl _, own_nil, RowK.nil _⟩ ?_
  rintro q s ⟨k, V2, H2, sv, cells, hs, hq, hV2, ho, hr⟩
  obtain ⟨z, rfl⟩ := hs.out
  try dsimp only
  clear hs
  by_cases hk : k < 2
  rotate_left
  ·obtain rfl : k = 2 := by omega
   have b1 : decide (((2 : Nat) : Int) < 2) = false := decide_eq_false (by omega)
   refine XWP.seq ?_
   refine Gx.a (by kernel_rfl) fun K hK => ?_
   simp only [XA, XB, b1]
   refine hK _ ?_
   refine Gx.f rfl ?_
   refine XWP.exit ?_
   exact ⟨V2, H2, sv, cells, StIs.of (by exact rfl), ho, hr⟩
  have b1 : decide ((k : Int) < 2) = true := decide_eq_true (by omega)
  refine XWP.seq ?_
  refine Gx.a (by kernel_rfl) fun K hK => ?_
  simp only [XA, XB, b1]
  refine hK _ ?_
  refine Gx.t rfl ?_
  refine XWP.skip ?_
  refine XWP.cut (fun s => ∃ (b1 : Nat) (H3 : Heap) (v' : Value), StIs (fun Z => [Z 0, .p 0 0, Z 2, .v v', .v (.int .i64 (k : Int)), Z 5,Z 6,Z 7,Z 8,Z 9,Z 10,Z 11,Z 12,Z 13,Z 14,Z 15,Z 16,Z 17,Z 18,Z 19,Z 20,Z 21,Z 22,Z 23,Z 24]) [[.bool (ng hf), x, y]] H3 V2 s ∧ H3 b1 = some ⟨66, [.int .i64 0, .int .i64 (k : Int), .int .i64 1, .int .i64 2], 4⟩ ∧ v'.ownBlock ≠ some b1 ∧ Own H3 51 9 v' (k + 1) (cells ++ [.int .i64 0, .int .i64 0, .int .i64 2, .int .i64 (k : Int), .slice none 0 0, .slice (some ⟨b1, 0, none⟩) 1 1, .bool (ng hf), x, y])) ?_ ?_
  rotate_left
  ·rintro s ⟨b1, H3, v', hs, hb, hne, ho'⟩
   obtain ⟨z, rfl⟩ := hs.out
   try dsimp only
   clear hs
   refine XWP.pub b1 _ hb fun o hob hle => ?_
   obtain ⟨H3', hH3⟩ : ∃ H3', H3' = upd H3 b1 none := ⟨_, rfl⟩
   rw [← hH3]
   have hds : SlK 4 drE (addV V2 b1 o) (.slice (some ⟨b1, 0, none⟩) 1 1) [(⟨0, (k : Int), 1, 2⟩ : Dr)] := RowK.pub (c := 1) drE_ok ((RowK.nil V2).snoc (x := (⟨0, (k : Int), 1, 2⟩ : Dr)) ⟨rfl, rfl, rfl⟩) hob hle rfl (Nat.le_refl _) (by omega)
   have hone : ([.int .i64 0, .int .i64 0, .int .i64 2, .int .i64 (k : Int), .slice none 0 0, .slice (some ⟨b1, 0, none⟩) 1 1, .bool (ng hf), x, y] : List Value).all isOne = true := by simp only [List.all_cons, List.all_nil, o1, o2]; rfl
   have hel : ElK 9 rnE (addV V2 b1 o) [.int .i64 0, .int .i64 0, .int .i64 2, .int .i64 (k : Int), .slice none 0 0, .slice (some ⟨b1, 0, none⟩) 1 1, .bool (ng hf), x, y] (rn33 k) := ⟨rfl, hone, _, _, _, _, _, _, _, _, rfl, hds, ((h1.mono hV2).mono hle).rawK⟩
   have etk : pairL.take (k + 1) = pairL.take k ++ [rn33 k] := by
    match k, hk with
    | 0, _ => rfl
    | 1, _ => rfl
   refine Gx.c (by kernel_rfl) fun K hK => ?_
   simp only [XA, XB, i64_succ k (by omega)]
   exact hK _ ⟨q - 1, by omega, k + 1, _, H3', v', _, StIs.of (by exact rfl), by omega, View.le_trans hV2 hle, by rw [hH3]; exact own_offK ho' hne, by rw [etk]; exact (hr.mono rnE_ok hle).snoc hel⟩
  clear hK
  refine XWP.block ?_
  refine Gx.c (by kernel_rfl) fun K hK => ?_
  simp only [XA]
  refine bd_go (by kernel_rfl) #[(0, .int .i64 2), (1, .int .i64 (k : Int))] (by simp [ev_tmp, SV.val, ev_const]) bd_val33 ?_
  simp only [XA]
  refine bd_go (by kernel_rfl) #[(2, .agg #[.int .i64 2, .int .i64 (k : Int), .slice none 0 0])] (by simp [ev_tmp, SV.val]) bd_out33 ?_
  simp only [XA]
  refine bd_go (by kernel_rfl) #[(1, .int .i64 (k : Int)), (2, .int .i64 1), (3, .int .i64 2)] (by simp [ev_tmp, SV.val, ev_const]) bd_drawn33 ?_
  simp only [XA]
  refine bs_go (by kernel_rfl) #[(0, .agg ([.int .i64 0, .int .i64 (k : Int), .int .i64 1, .int .i64 2] : List Value).toArray)] (by simp [ev_tmp, SV.val]) (bs_agg elemT_45 zeroT_66 rfl (by omega) (by omega) rfl) fun b1 hb1 hb2 => ?_
  simp only [XA, XB, Nat.reduceAdd, Nat.reduceLeDiff, ↓reduceIte]
  refine bd_go (by kernel_rfl) #[(0, .agg #[.int .i64 0, .int .i64 0, .int .i64 2, .int .i64 (k : Int), .slice none 0 0]), (1, .slice (some ⟨b1, 0, none⟩) 1 1), (2, .agg #[.bool (ng hf), x, y])] (by simp [ev_tmp, SV.val]) (bd_run33 o1 o2) ?_
  simp only [XA]
  have ho1 := own_upd (r := some ⟨66, [.int .i64 0, .int .i64 (k : Int), .int .i64 1, .int .i64 2], 4⟩) ho hb1
  have f1 := upd_at H2 b1 (some ⟨66, [.int .i64 0, .int .i64 (k : Int), .int .i64 1, .int .i64 2], 4⟩)
  have hne := own_newK ho hb1
  have hone : ([.int .i64 0, .int .i64 0, .int .i64 2, .int .i64 (k : Int), .slice none 0 0, .slice (some ⟨b1, 0, none⟩) 1 1, .bool (ng hf), x, y] : List Value).all isOne = true := by simp only [List.all_cons, List.all_nil, o1, o2]; rfl
  refine bs_go (by kernel_rfl) #[(0, .agg ([.int .i64 0, .int .i64 0, .int .i64 2, .int .i64 (k : Int), .slice none 0 0, .slice (some ⟨b1, 0, none⟩) 1 1, .bool (ng hf), x, y] : List Value).toArray)] (by simp [ev_tmp, SV.val]) (bs_agg elemT_22 zeroT_51 rfl (by omega) (by omega) rfl) fun b2 hb3 hb4 => ?_
  simp only [XA, Nat.reduceAdd]
  have n12 : b1 ≠ b2 := new_ne hb3 f1
  refine ap_go elemT_22 (by kernel_rfl) zeroT_51 rfl (by omega) (own_upd ho1 hb3) (srcK (upd_at _ _ _) hone) (by omega) (by omega) fun v' H' hres => ?_
  simp only [XA]
  obtain ⟨k1, k2⟩ := app_keep hres ((upd_off n12).trans f1) hne
  exact hK _ ⟨b1, H', v', StIs.of (by exact rfl), k1, k2, hres.1⟩
 rintro s ⟨V2, H2, sv, cells, hs, ho, hr⟩
 obtain ⟨z, rfl⟩ := hs.out
 try dsimp only
 refine XWP.pubK rnE_ok (by omega) ho hr fun H3 V3 hV3 hW _ => ?_
 refine Gx.a (by kernel_rfl) fun K hK => ?_
 simp only [XA]
 refine hK _ (XWP.ret ?_)
 try simp only [thenX_ret, inBlockX_ret]
 refine ret_go _ rfl ?_
 exact hW
theorem prior33 (k : Nat) : priorQ (rn33 k).ds = hf := by
 show rv false (1 * 1) (1 * 2) = hf
 decide +kernel
theorem q33 (k : Nat) : (rn33 k).w.q = hf := toRaw_q hf
theorem draws33 (k : Nat) : drawsB (rn33 k) = true := by
 unfold drawsB
 rw [q33, prior33]
 have h1 : (rn33 k).w.ok = true := toRaw_ok hf
 have h2 : (rn33 k).ds.all Dr.goodB = true := by
  show (Dr.goodB ⟨0, (k : Int), 1, 2⟩ && true) = true
  unfold Dr.goodB
  rw [decide_eq_true (show (0 : Int) ≤ k by omega)]; rfl
 have h3 : decide (0 < sgI hf) = true := by decide +kernel
 have h4 : decide (sgI (hf - hf) ≤ 0) = true := by decide +kernel
 rw [h1, h2, h3, h4]; rfl
theorem right33 : rightR pairL = true := by
 unfold rightR
 have h1 : pairL.all drawsB = true := by
  unfold pairL
  rw [List.all_cons, List.all_cons, draws33, draws33]; rfl
 have h2 : forkB 102 pairL 0 = true := by decide +kernel
 rw [h1, h2]; rfl
theorem anew33 : anewQ pairL 0 1 = hf := by
 unfold anewQ
 rw [qOf_at (l := pairL) (k := 1) (r := rn33 1) rfl, sOf_at (l := pairL) (k := 1) (r := rn33 1) rfl, sOf_at (l := pairL) (k := 0) (r := rn33 0) rfl, q33, q33, prior33, prior33]
 decide +kernel
theorem fits33 : ∀ r ∈ pairL, r.fits := fun r hr => by
 have : r = rn33 0 ∨ r = rn33 1 := by simpa [pairL] using hr
 have key : ∀ k, (rn33 k).fits := fun k => ⟨by show (1 : Nat) ≤ 100; omega, fitR_toRaw (l := [hf]) (fun x hx => by rw [List.mem_singleton.1 hx]; exact hf_QB.qf (by omega)) (toRaw hf) (by simp), fun _ => by rw [q33]; exact hf_QB.qf (by omega)⟩
 rcases this with rfl | rfl
 ·exact key 0
 ·exact key 1
theorem small33 : ∀ r ∈ pairL, r.ds.length ≤ 8 ∧ (r.w.ok = true → QB 128 r.w.q) := fun r hr => by
 have : r = rn33 0 ∨ r = rn33 1 := by simpa [pairL] using hr
 have key : ∀ k, (rn33 k).ds.length ≤ 8 ∧ ((rn33 k).w.ok = true → QB 128 (rn33 k).w.q) := fun k => ⟨by show (1 : Nat) ≤ 8; omega, fun _ => by rw [q33]; exact hf_QB.mono (by omega)⟩
 rcases this with rfl | rfl
 ·exact key 0
 ·exact key 1
theorem alive33_c (V : View) : Spec Tryz.prog 11 [] V fun v' V' => v' = .bool true := by
 refine (Spec.enter Tryz.func11 rfl fun Γ => ?_)
 simp only [Tryz.ntmps11, List.map_nil, List.length_nil, Nat.reduceSub, List.replicate_succ, List.replicate_zero, List.nil_append]
 refine Gx.a (by kernel_rfl) fun K hK => ?_
 simp only [XA]
 refine hK _ ?_
 refine Gx.a (by kernel_rfl) fun K hK => ?_
 simp only [XA]
 refine call_go (by kernel_rfl) rfl (cpair33_c _) fun v1 V1 hV1 h1 => ?_
 simp only [XA]
 refine call_go (by kernel_rfl) rfl (canew_c _ _ pairL h1 fits33 small33 (by decide)) fun v2 V2 hV2 h2 => ?_
 obtain ⟨s, rfl, hs⟩ := h2.2 right33
 clear h2
 obtain ⟨As, cs, rfl, _, _⟩ := hs.form
 simp only [XM, XA]
 refine st_mat shapeT_26 rfl rfl rfl rfl rfl ?_
 simp only [XA]
 refine hK _ ?_
 refine Gx.a (by kernel_rfl) fun K hK => ?_
 simp only [XA]
 refine call_go (by kernel_rfl) rfl (dmake_c _) fun v3 V3 hV3 h3 => ?_
 obtain ⟨w3, rfl, h3⟩ := h3
 obtain ⟨x, y, rfl, o1, o2⟩ := h3.form
 simp only [XA, XB]
 refine st_rat rfl rfl rfl o1 o2 ?_
 simp only [XA]
 refine hK _ ?_
 have hl : (flatG (moveG (anewQ pairL) pairL.length) pairL.length pairL.length).length = 4 := flatG_len _ _ _
 have hs3 := hs.up hV3
 obtain ⟨b, o, rfl⟩ := SlAt.addr hs3 (by omega)
 obtain ⟨m4, n4, d4, h4, _, hld⟩ := Rats.get hs3 1 (by omega)
 have e4 : cf (flatG (moveG (anewQ pairL) pairL.length) pairL.length pairL.length) 1 = hf := by
  rw [← anew33]
  exact flatG_at (moveG (anewQ pairL) pairL.length) (R := 2) (C := 2) (i := 0) (k := 1) (by omega) (by omega)
 rw [e4] at h4
 have hq := hf_QB.qf (by omega)
 have el : decide (((flatG (moveG (anewQ pairL) pairL.length) pairL.length pairL.length).length : Int) = 4) = true := by rw [hl]; rfl
 (refine XWP.drw [0, 1, 2, 3, 4, 5, 6, 7, 8, 9, 10, 11, 12, 13, 14, 15, 16, 17, 18, 19, 20] (by kernel_rfl) (by kernel_rfl) (by kernel_rfl) fun K hK => ?_) <;> dsimp only [pickOps, List.getElem?_cons_zero, List.getElem?_cons_succ]
 simp only [XM, XA, XB, gateX, Nat.reduceMul, ↓reduceIte, Int.reduceToNat, Int.reduceLE, beq_self_eq_true, decide_true, el]
 refine ⟨by omega, ld_mem (by simpa using hld _) ?_⟩
 simp only [XA, XB, gateX, Nat.reduceAdd, Nat.reduceLeDiff, ↓reduceIte, beq_self_eq_true]
 refine call_go (by kernel_rfl) rfl (psame_c _ _ _ _ _ (h4.toV hq) (h3.toV hq) hq hq) fun v5 V5 hV5 h5 => ?_
 have h5 : v5 = .bool true := by rw [h5, decide_eq_true rfl]
 subst h5
 simp only [XA, gateX, ↓reduceIte, beq_self_eq_true]
 refine call_go (by kernel_rfl) rfl (cpair33_c _) fun v6 V6 hV6 h6 => ?_
 simp only [XA, gateX, ↓reduceIte, beq_self_eq_true]
 refine call_go (by kernel_rfl) rfl (kright_c _ _ pairL h6 fits33 (by decide)) fun v7 V7 hV7 h7 => ?_
 rw [right33] at h7
 subst h7
 simp only [XA, ↓reduceIte]
 refine hK _ (XWP.ret ?_)
 try simp only [thenX_ret, inBlockX_ret]
 refine ret_go _ rfl ?_
 rfl
inductive Tr where
 | mk (kind n : Int) (kids : List Tr)
def Tr.kind : Tr → Int
 | .mk k _ _ => k
def Tr.n : Tr → Int
 | .mk _ n _ => n
def Tr.kids : Tr → List Tr
 | .mk _ _ l => l
def trE : Nat → View → List Value → Tr → Prop
 | 0 => fun _ _ _ => False
 | d + 1 => fun V cs t => ∃ lv, cs = [.int .i64 t.kind, .int .i64 t.n, lv] ∧ SlK 3 (trE d) V lv t.kids
theorem trE_ok : ∀ d, ElKOk (trE d)
 | 0 => fun _ _ _ _ _ h => h.elim
 | d + 1 => fun V V' cs t hV ⟨lv, e, h⟩ => ⟨lv, e, h.mono (trE_ok d) hV⟩
theorem SlK.imp {α : Type} {sz : Nat} {E E' : View → List Value → α → Prop} {V : View} {v : Value} {xs : List α} (h : SlK sz E V v xs) (hi : ∀ cs x, x ∈ xs → E V cs x → E' V cs x) : SlK sz E' V v xs := by
 obtain ⟨A, c, e, h1, h2, h3⟩ := h
 refine ⟨A, c, e, h1, h2, h3.imp id ?_⟩
 rintro ⟨b, o, arr, ty, fr, e1, e2, h4⟩
 refine ⟨b, o, arr, ty, fr, e1, e2, fun i x hx => ?_⟩
 obtain ⟨cs, ⟨k0, k1, k2⟩, k3⟩ := h4 i x hx
 exact ⟨cs, ⟨k0, k1, hi cs x (List.mem_of_getElem? hx) k2⟩, k3⟩
theorem trE_succ : ∀ d V cs t, trE d V cs t → trE (d + 1) V cs t
 | 0, _, _, _, h => h.elim
 | d + 1, V, cs, t, ⟨lv, e, h⟩ => ⟨lv, e, h.imp fun cs x _ hx => trE_succ d V cs x hx⟩
theorem trE_mono {d e : Nat} (h : d ≤ e) {V : View} {cs : List Value} {t : Tr} (ht : trE d V cs t) : trE e V cs t := by
 induction h with
 | refl => exact ht
 | step _ ih => exact trE_succ _ _ _ _ ih
def manyT : Nat → Tr → Int
 | 0, _ => 1
 | d + 1, t => min (t.kids.foldl (fun n x => if n ≤ 1000 then n + manyT d x else n) 1) 1001
def manyF (d : Nat) (l : List Tr) (k : Nat) : Int := (l.take k).foldl (fun n x => if n ≤ 1000 then n + manyT d x else n) 1
theorem manyF_succ {d : Nat} {l : List Tr} {k : Nat} {t : Tr} (h : l[k]? = some t) : manyF d l (k + 1) = if manyF d l k ≤ 1000 then manyF d l k + manyT d t else manyF d l k := by
 unfold manyF
 rw [List.take_add_one, h, Option.toList_some, List.foldl_append]; rfl
theorem manyF_stop {d : Nat} {l : List Tr} {k : Nat} (h : ¬ manyF d l k ≤ 1000) : ∀ m, k ≤ m → manyF d l m = manyF d l k := by
 intro m hm
 induction hm with
 | refl => rfl
 | step hle ih =>
  rename_i j
  cases hj : l[j]? with
  | none =>
   have hlen : l.length ≤ j := List.getElem?_eq_none_iff.1 hj
   rw [← ih]
   unfold manyF
   rw [List.take_of_length_le (show l.length ≤ j + 1 by omega), List.take_of_length_le hlen]
  | some t => rw [manyF_succ hj, ih, if_neg h]
theorem manyT_bd : ∀ d t, 1 ≤ manyT d t ∧ manyT d t ≤ 1001
 | 0, t => by unfold manyT; omega
 | d + 1, t => by
  unfold manyT
  have key : ∀ (l : List Tr) (n : Int), 1 ≤ n → 1 ≤ l.foldl (fun n x => if n ≤ 1000 then n + manyT d x else n) n := by
   intro l
   induction l with
   | nil => intro n hn; exact hn
   | cons x l ih =>
    intro n hn
    refine ih _ ?_
    have := (manyT_bd d x).1
    show 1 ≤ if n ≤ 1000 then n + manyT d x else n
    split <;> omega
  have := key t.kids 1 (by omega)
  omega
theorem manyF_bd (d : Nat) (l : List Tr) : ∀ k, 1 ≤ manyF d l k ∧ manyF d l k ≤ 2001
 | 0 => by unfold manyF; simp
 | k + 1 => by
  have ih := manyF_bd d l k
  cases h : l[k]? with
  | none =>
   have hlen : l.length ≤ k := List.getElem?_eq_none_iff.1 h
   have : manyF d l (k + 1) = manyF d l k := by
    unfold manyF
    rw [List.take_of_length_le (show l.length ≤ k + 1 by omega), List.take_of_length_le hlen]
   rw [this]; exact ih
  | some t =>
   rw [manyF_succ h]
   have := manyT_bd d t
   split <;> omega
set_option maxHeartbeats 1000000 in
theorem many_c : ∀ (d : Nat) (V : View) (cs : List Value) (t : Tr), trE d V cs t → Spec Tryz.prog 21 [.agg cs.toArray] V fun v' V' => v' = .int .i64 (manyT d t) := by
 intro d
 induction d with
 | zero => intro V cs t h; exact h.elim
 | succ d ih =>
 rintro V cs t ⟨lv, e, h⟩
 subst e
 obtain ⟨A, c, rfl, hc, hm⟩ := h.form
 have eM : manyT (d + 1) t = min (manyF d t.kids t.kids.length) 1001 := by unfold manyF; rw [List.take_length]; rfl
 rw [eM]
 refine (Spec.enter Tryz.func21 rfl fun Γ => ?_)
 simp only [Tryz.ntmps21, List.map_cons, List.map_nil, List.length_cons, List.length_nil, Nat.reduceAdd, Nat.reduceSub, List.replicate_succ, List.replicate_zero, List.cons_append, List.nil_append]
 refine Gx.a (by kernel_rfl) fun K hK => ?_
 simp only [XA]
 refine hK _ ?_
 refine Gx.a (by kernel_rfl) fun K hK => ?_
 simp only [XA]
 refine hK _ ?_
 refine XWP.cut (fun s => ∃ (V2 : View), StIs (fun Z => [Z 0,Z 1,Z 2, .v (.int .i64 (manyF d t.kids t.kids.length)), Z 4,Z 5,Z 6,Z 7,Z 8,Z 9,Z 10,Z 11,Z 12,Z 13,Z 14,Z 15,Z 16,Z 17,Z 18,Z 19,Z 20,Z 21,Z 22,Z 23,Z 24,Z 25]) [[.int .i64 t.kind, .int .i64 t.n, .slice A t.kids.length c]] (fun _ => none) V2 s) ?_ ?_
 ·refine Gx.a (by kernel_rfl) fun K hK => ?_
  simp only [XA]
  refine hK _ ?_
  clear hK
  refine XWP.block ?_
  refine XWP.loop (fun q s => ∃ (k : Nat) (V2 : View), StIs (fun Z => [Z 0, .p 0 0, Z 2, .v (.int .i64 (manyF d t.kids k)), .v (.int .i64 (k : Int)), Z 5,Z 6,Z 7,Z 8,Z 9,Z 10,Z 11,Z 12,Z 13,Z 14,Z 15,Z 16,Z 17,Z 18,Z 19,Z 20,Z 21,Z 22,Z 23,Z 24,Z 25]) [[.int .i64 t.kind, .int .i64 t.n, .slice A t.kids.length c]] (fun _ => none) V2 s ∧ q + k = t.kids.length ∧ V.le V2) t.kids.length ⟨0, V, StIs.of (by exact rfl), by omega, View.le_refl _⟩ ?_
  rintro q s ⟨k, V2, hs, hq, hV2⟩
  obtain ⟨z, rfl⟩ := hs.out
  try dsimp only
  clear hs
  refine XWP.seq ?_
  by_cases hk : k < t.kids.length
  rotate_left
  ·obtain rfl : k = t.kids.length := by omega
   have b1 : decide (((t.kids.length : Nat) : Int) < ((t.kids.length : Nat) : Int)) = false := decide_eq_false (by omega)
   refine Gx.a (by kernel_rfl) fun K hK => ?_
   simp only [XU, XV, XA, XB, gateX, ↓reduceIte, b1]
   refine hK _ ?_
   refine Gx.f rfl ?_
   refine XWP.exit ?_
   exact ⟨V2, StIs.of (by exact rfl)⟩
  have b1 : decide ((k : Int) < (t.kids.length : Int)) = true := decide_eq_true (by omega)
  by_cases hn : manyF d t.kids k ≤ 1000
  rotate_left
  ·have b2 : decide (manyF d t.kids k ≤ 1000) = false := decide_eq_false hn
   refine Gx.a (by kernel_rfl) fun K hK => ?_
   simp only [XU, XV, XA, XB, gateX, ↓reduceIte, beq_self_eq_true, b1, b2]
   refine hK _ ?_
   refine Gx.f rfl ?_
   refine XWP.exit ?_
   rw [manyF_stop hn t.kids.length (by omega)]
   exact ⟨V2, StIs.of (by exact rfl)⟩
  have b2 : decide (manyF d t.kids k ≤ 1000) = true := decide_eq_true hn
  refine Gx.a (by kernel_rfl) fun K hK => ?_
  simp only [XU, XV, XA, XB, gateX, ↓reduceIte, beq_self_eq_true, b1, b2]
  refine hK _ ?_
  refine Gx.t rfl ?_
  refine XWP.skip ?_
  obtain ⟨x, hx⟩ : ∃ x, t.kids[k]? = some x := ⟨_, List.getElem?_eq_getElem hk⟩
  have ex : t.kids[k] = x := (List.getElem?_eq_some_iff.1 hx).2
  have h2 := h.mono (trE_ok d) hV2
  obtain ⟨b, o, rfl⟩ := SlK.addr h2 (by omega)
  obtain ⟨xs, hxs, hcell⟩ := SlK.get h2 k hk
  rw [ex] at hxs
  have hbd := manyF_bd d t.kids k
  have hbt := manyT_bd d x
  have wa : IntKind.i64.wrap (manyF d t.kids k + manyT d x) = manyF d t.kids k + manyT d x := wrap_id (by omega) (by omega)
  refine XWP.seq (XWP.block ?_)
  refine Gx.c (by kernel_rfl) fun K hK => ?_
  simp only [XU, XV, XA]
  refine ⟨by omega, by omega, ld_mem (loadsK shapeT_42 hxs.1 fun j u hj => hcell _ j u hj) ?_⟩
  simp only [XA]
  refine call_go (by kernel_rfl) rfl (ih _ _ x hxs.2.2) fun v3 V3 hV3 h3 => ?_
  subst h3
  simp only [XA, XB, wa]
  refine hK _ ?_
  have eS : manyF d t.kids (k + 1) = manyF d t.kids k + manyT d x := by rw [manyF_succ hx, if_pos hn]
  refine Gx.c (by kernel_rfl) fun K hK => ?_
  simp only [XA, XB, i64_succ k (by omega)]
  exact hK _ ⟨q - 1, by omega, k + 1, V3, StIs.of (by rw [eS]; exact rfl), by omega, View.le_trans hV2 hV3⟩
 rintro s ⟨V2, hs⟩
 obtain ⟨z, rfl⟩ := hs.out
 try dsimp only
 clear hs
 have hbd := manyF_bd d t.kids t.kids.length
 refine Gx.a (by kernel_rfl) fun K hK => ?_
 simp only [XA]
 refine hK _ (XWP.ret ?_)
 try simp only [thenX_ret, inBlockX_ret]
 refine ret_go _ rfl ?_
 have e1 : (if (1001 : Int) < manyF d t.kids t.kids.length then (1001 : Int) else manyF d t.kids t.kids.length) = min (manyF d t.kids t.kids.length) 1001 := by
  split <;> omega
 rw [← e1]; rfl
end Go.Proofs.YtobjjdnfgamgcaaGreat
end
