/- The law RecurFinds answers true at every input (part 10 of 12) -/
import Derived.OrdersHeld
import Derived.Below
import Derived.Tactics
import Derived.KernelRfl
import Derived.Laws.AppendOwn
import Derived.Laws.MakeOwn
import Derived.Laws.CopyRow
import Derived.Laws.Cells
import Derived.Laws.World
import Derived.Laws.Alloc2
import Derived.Laws.NewBlocks
import Derived.Maps.AppendAt
import Derived.Test.YthoboehbadmlmaaProg
import Init.Data.List.Lemmas
import Init.Omega
import Derived.WalkKit
import Derived.ProofKit
import Derived.OpenShut
import Derived.ChangeOld
import Derived.SizedLaws
import Derived.ChangeSlices
import Derived.ChangeArms
import Derived.Deep.Slices
import Derived.Test.YthoboehbadmlmaaFin9
section
namespace Go.Proofs.Ythoboehbadmlmaa
open Go Go.RowKit
set_option linter.unusedSimpArgs false
set_option linter.unusedVariables false
attribute [local irreducible] XWP Spec SpecO XPub XCall seqX clX apX stX ldX iaX slX
theorem upd_off {H : Heap} {b k : Nat} {r : Option Row} (h : k ≠ b) : upd H b r k = H k := by unfold upd; rw [if_neg h]
def GRow (H : Heap) (V : View) (m : Nat) (f : Nat → Rat) (av : List Nat) (v : Value) : Prop :=
  ∃ b c cs, v = .slice (some ⟨b, 0, none⟩) m c ∧ H b = some ⟨34, cs, c * 3⟩ ∧ RowAt ratE V cs (mk m f) ∧ m ≤ c ∧ c ≤ maxLen ∧ b ∉ av
structure GCells (H : Heap) (V : View) (R m : Nat) (G : Grid) (av : List Nat) (cells : List Value) : Prop where
  len : cells.length = R
  row : ∀ (i : Nat) (v : Value), cells[i]? = some v → GRow H V m (G i) av v
  inj : ∀ (i j b c c' : Nat), cells[i]? = some (Value.slice (some ⟨b, 0, none⟩) m c) → cells[j]? = some (Value.slice (some ⟨b, 0, none⟩) m c') → i = j
def GridAt (H : Heap) (V : View) (v : Value) (R m : Nat) (G : Grid) (av : List Nat) : Prop :=
  ∃ cells, Own H 22 1 v R cells ∧ GCells H V R m G av cells
theorem mk_congr {m : Nat} {f g : Nat → Rat} (h : ∀ j, j < m → f j = g j) : mk m f = mk m g := by
  unfold mk
  exact List.map_congr_left fun j hj => h j (List.mem_range.1 hj)
theorem GRow.congr {H : Heap} {V : View} {m : Nat} {f g : Nat → Rat} {av : List Nat} {v : Value} (h : GRow H V m f av v) (e : ∀ j, j < m → f j = g j) : GRow H V m g av v := by
  obtain ⟨b, c, cs, h1, h2, h3, h4⟩ := h
  rw [mk_congr e] at h3
  exact ⟨b, c, cs, h1, h2, h3, h4⟩
theorem GRow.mono {H : Heap} {V V' : View} {m : Nat} {f : Nat → Rat} {av : List Nat} {v : Value} (h : GRow H V m f av v) (hV : V.le V') : GRow H V' m f av v := by
  obtain ⟨b, c, cs, h1, h2, h3, h4⟩ := h
  exact ⟨b, c, cs, h1, h2, h3.mono ratE_ok hV, h4⟩
theorem GridAt.nil (H : Heap) (V : View) (m : Nat) (G : Grid) (av : List Nat) : GridAt H V (.slice none 0 0) 0 m G av :=
  ⟨[], own_nil, ⟨rfl, fun i v h => by simp at h, fun i j b c c' h => by simp at h⟩⟩
theorem GridAt.mono {H : Heap} {V V' : View} {v : Value} {R m : Nat} {G : Grid} {av : List Nat} (h : GridAt H V v R m G av) (hV : V.le V') : GridAt H V' v R m G av := by
  obtain ⟨cells, h1, h2⟩ := h
  exact ⟨cells, h1, h2.len, fun i v hv => (h2.row i v hv).mono hV, h2.inj⟩
theorem GridAt.congr {H : Heap} {V : View} {v : Value} {R m : Nat} {G G' : Grid} {av : List Nat} (h : GridAt H V v R m G av) (e : ∀ i j, i < R → j < m → G i j = G' i j) : GridAt H V v R m G' av := by
  obtain ⟨cells, h1, h2⟩ := h
  refine ⟨cells, h1, h2.len, fun i v hv => (h2.row i v hv).congr fun j hj => e i j ?_ hj, h2.inj⟩
  rw [← h2.len]
  exact (List.getElem?_eq_some_iff.1 hv).1
/-- what else is written, leaves it -/
theorem GridAt.frame {H H' : Heap} {V : View} {v : Value} {R m : Nat} {G : Grid} {av av' : List Nat} (h : GridAt H V v R m G av)
    (h1 : ∀ k cs tot, H k = some ⟨22, cs, tot⟩ → H' k = H k) (h2 : ∀ k cs tot, k ∉ av → H k = some ⟨34, cs, tot⟩ → H' k = H k ∧ k ∉ av') : GridAt H' V v R m G av' := by
  obtain ⟨cells, ho, hc⟩ := h
  refine ⟨cells, ⟨ho.1, ?_⟩, hc.len, fun i v hv => ?_, hc.inj⟩
  · rcases ho.2 with h | ⟨b, cap, e, hb, h3⟩
    · exact .inl h
    · exact .inr ⟨b, cap, e, by rw [h1 b _ _ hb]; exact hb, h3⟩
  · obtain ⟨b, c, cs, e, hb, h3, h4, h5, h6⟩ := hc.row i v hv
    obtain ⟨a1, a2⟩ := h2 b _ _ h6 hb
    exact ⟨b, c, cs, e, by rw [a1]; exact hb, h3, h4, h5, a2⟩
/-- one row: how to read it, how to write it -/
theorem GridAt.at {H : Heap} {V : View} {v : Value} {R m : Nat} {G : Grid} {av : List Nat} (h : GridAt H V v R m G av) {i : Nat} (hi : i < R) :
    ∃ g cap b c cs, v = .slice (some ⟨g, 0, none⟩) R cap ∧ Loads Try.prog H V 22 g i (.slice (some ⟨b, 0, none⟩) m c) ∧ H b = some ⟨34, cs, c * 3⟩ ∧ RowAt ratE V cs (mk m (G i)) ∧ m ≤ c ∧ c ≤ maxLen ∧ b ∉ av ∧
      ∀ V' cs' f, V.le V' → RowAt ratE V' cs' (mk m f) → GridAt (upd H b (some ⟨34, cs', c * 3⟩)) V' v R m (fun i' => if i' = i then f else G i') av := by
  obtain ⟨cells, ho, hc⟩ := h
  rcases own_parts ho with ⟨_, h0, _⟩ | ⟨g, cap, rfl, hg, hle, hcap, hcl⟩
  · omega
  have hlt : i < cells.length := by rw [hc.len]; exact hi
  obtain ⟨b, c, cs, e, hb, h3, h4, h5, h6⟩ := hc.row i cells[i] (List.getElem?_eq_getElem hlt)
  refine ⟨g, cap, b, c, cs, rfl, ⟨false, 1, shapeT_22, .inr ⟨rfl, .inl ⟨_, hg, by rw [List.getElem?_eq_getElem hlt, e]⟩⟩⟩, hb, h3, h4, h5, h6, fun V' cs' f hV hrow => ?_⟩
  have hgb : g ≠ b := fun e => by subst e; rw [hg] at hb; cases hb
  refine ⟨cells, ⟨ho.1, .inr ⟨g, cap, rfl, by unfold upd; rw [if_neg hgb]; exact hg, hle, hcap⟩⟩, hc.len, fun j w hw => ?_, hc.inj⟩
  by_cases hji : j = i
  · subst hji
    rw [List.getElem?_eq_getElem hlt, e] at hw
    cases hw
    exact ⟨b, c, cs', rfl, upd_at _ _ _, by rw [if_pos rfl]; exact hrow, h4, h5, h6⟩
  · obtain ⟨b', c', cs2, e', hb', g3, g4⟩ := hc.row j w hw
    subst e'
    have hne : b' ≠ b := fun hbb => hji (hc.inj j i b' c' c hw (by rw [List.getElem?_eq_getElem hlt, e, hbb]))
    refine ⟨b', c', cs2, rfl, by unfold upd; rw [if_neg hne]; exact hb', ?_, g4⟩
    try dsimp only
    rw [if_neg hji]; exact g3.mono ratE_ok hV
/-- two rows change their places -/
theorem GridAt.swap {H : Heap} {V : View} {v : Value} {R m : Nat} {G : Grid} {av : List Nat} (h : GridAt H V v R m G av) {p t : Nat} (hp : p < R) (ht : t < R) :
    ∃ g cap cells vp vt, v = .slice (some ⟨g, 0, none⟩) R cap ∧ H g = some ⟨22, cells, cap * 1⟩ ∧ cells.length = R ∧ Loads Try.prog H V 22 g p vp ∧ Loads Try.prog H V 22 g t vt ∧ isOne vp = true ∧ isOne vt = true ∧
      GridAt (upd (upd H g (some ⟨22, cells.set p vt, cap * 1⟩)) g (some ⟨22, (cells.set p vt).set t vp, cap * 1⟩)) V v R m (gsw G p t) av := by
  obtain ⟨cells, ho, hc⟩ := h
  rcases own_parts ho with ⟨_, h0, _⟩ | ⟨g, cap, rfl, hg, hle, hcap, hcl⟩
  · omega
  have lp : p < cells.length := by rw [hc.len]; exact hp
  have lt : t < cells.length := by rw [hc.len]; exact ht
  have hone : ∀ i (hi : i < cells.length), isOne cells[i] = true := fun i hi => by
    obtain ⟨b, c, cs, e, _⟩ := hc.row i cells[i] (List.getElem?_eq_getElem hi)
    rw [e]; rfl
  have hget : ∀ i, ((cells.set p cells[t]).set t cells[p])[i]? = cells[swp p t i]? := fun i => by
    unfold swp
    by_cases e1 : t = i
    · subst e1
      rw [List.getElem?_set_self (by rw [List.length_set]; exact lt)]
      by_cases e2 : t = p
      · subst e2; rw [if_pos rfl, List.getElem?_eq_getElem lt]
      · rw [if_neg e2, if_pos rfl, List.getElem?_eq_getElem lp]
    · rw [List.getElem?_set_ne e1]
      by_cases e2 : p = i
      · subst e2; rw [List.getElem?_set_self lp, if_pos rfl, List.getElem?_eq_getElem lt]
      · rw [List.getElem?_set_ne e2, if_neg (Ne.symm e2), if_neg (Ne.symm e1)]
  refine ⟨g, cap, cells, cells[p], cells[t], rfl, hg, hc.len, ⟨false, 1, shapeT_22, .inr ⟨rfl, .inl ⟨_, hg, List.getElem?_eq_getElem lp⟩⟩⟩, ⟨false, 1, shapeT_22, .inr ⟨rfl, .inl ⟨_, hg, List.getElem?_eq_getElem lt⟩⟩⟩, hone p lp, hone t lt, ?_⟩
  refine ⟨(cells.set p cells[t]).set t cells[p], ⟨by rw [List.length_set, List.length_set]; exact ho.1, .inr ⟨g, cap, rfl, upd_at _ _ _, hle, hcap⟩⟩, by rw [List.length_set, List.length_set]; exact hc.len, fun i w hw => ?_, fun i j b c c' h1 h2 => ?_⟩
  · rw [hget] at hw
    obtain ⟨b, c, cs, e, hb, h3, h4⟩ := hc.row _ w hw
    have hbg : b ≠ g := fun e => by subst e; rw [hg] at hb; cases hb
    exact ⟨b, c, cs, e, by unfold upd; rw [if_neg hbg, if_neg hbg]; exact hb, h3, h4⟩
  · rw [hget] at h1 h2
    have := hc.inj _ _ b c c' h1 h2
    rw [← swp_swp p t i, this, swp_swp]
/-- a list that grows beside the grid -/
theorem GridAt.app {H H' : Heap} {V : View} {v w w' : Value} {R m n n' : Nat} {G : Grid} {xs xs' : List Value} (h : GridAt H V v R m G w.ownBlock.toList) (hown : Own H 34 3 w n xs) (hres : AppRes H V 34 3 w n' xs' w' H') : GridAt H' V v R m G w'.ownBlock.toList := by
  obtain ⟨ho', hk, hg⟩ := hres
  have hsame : ∀ k r, H k = some r → (r.e = 22 ∨ k ∉ w.ownBlock.toList) → H' k = H k := fun k r hr ha => by
    refine hk k fun e => ?_
    rcases hg k e with h1 | ⟨h1, _⟩
    · rcases ha with h2 | h2
      · rcases own_parts hown with ⟨rfl, _, _⟩ | ⟨b, cap, rfl, hb, _⟩
        · cases h1
        · have : b = k := by simpa [Value.ownBlock] using h1
          subst this
          rw [hb] at hr; cases hr
          simp at h2
      · exact h2 (by rw [h1]; simp)
    · rw [hr] at h1; cases h1
  refine h.frame (fun k cs tot hkk => hsame k _ hkk (.inl rfl)) fun k cs tot ha hkk => ⟨hsame k _ hkk (.inr ha), fun hin => ?_⟩
  cases hw : w'.ownBlock with
  | none => rw [hw] at hin; simp at hin
  | some g =>
    rw [hw] at hin
    have : k = g := by simpa using hin
    subst this
    rcases hg k hw with h1 | ⟨h1, _⟩
    · exact ha (by rw [h1]; simp)
    · rw [hkk] at h1; cases h1
/-- a new row at the end -/
theorem GridAt.snoc {H H' : Heap} {V : View} {v v' w : Value} {R m : Nat} {G : Grid} {xs cells : List Value} {f : Nat → Rat} (ho : Own H 22 1 v R cells) (hc' : GCells H V R m G w.ownBlock.toList cells) (hm : 0 < m) (hown : Own H 34 3 w m xs) (hrow : RowAt ratE V xs (mk m f))
    (hres : AppRes H V 22 1 v (R + 1) (cells ++ [w]) v' H') : GridAt H' V v' (R + 1) m (fun i => if i = R then f else G i) [] := by
  obtain ⟨ho', hk, hg⟩ := hres
  rcases own_parts hown with ⟨_, h0, _⟩ | ⟨bw, cw, rfl, hbw, hcw, hcw2, _⟩
  · omega
  have hsame : ∀ k cs tot, H k = some ⟨34, cs, tot⟩ → H' k = H k := fun k cs tot hr => by
    refine hk k fun e => ?_
    rcases hg k e with h1 | ⟨h1, _⟩
    · rcases own_parts ho with ⟨rfl, _, _⟩ | ⟨b, cap, rfl, hb, _⟩
      · cases h1
      · have : b = k := by simpa [Value.ownBlock] using h1
        subst this
        rw [hb] at hr; cases hr
    · rw [hr] at h1; cases h1
  have hlast : ∀ i w, (cells ++ [Value.slice (some ⟨bw, 0, none⟩) m cw])[i]? = some w → (i < R ∧ cells[i]? = some w) ∨ (i = R ∧ w = .slice (some ⟨bw, 0, none⟩) m cw) := fun i w hw => by
    by_cases hi : i < cells.length
    · rw [List.getElem?_append_left hi] at hw; exact .inl ⟨by rw [← hc'.len]; exact hi, hw⟩
    · rw [List.getElem?_append_right (by omega)] at hw
      have h2 : i - cells.length < 1 := by
        rcases Nat.lt_or_ge (i - cells.length) 1 with h | h
        · exact h
        · rw [List.getElem?_eq_none (by simpa using h)] at hw; cases hw
      have e0 : i - cells.length = 0 := by omega
      rw [e0] at hw
      have := hc'.len
      exact .inr ⟨by omega, by simpa using hw.symm⟩
  have hav : ∀ i b c, cells[i]? = some (Value.slice (some ⟨b, 0, none⟩) m c) → b ≠ bw := fun i b c hi e => by
    obtain ⟨b', c', cs, e', _, _, _, _, h6⟩ := hc'.row i _ hi
    cases e'
    exact h6 (by rw [e]; simp [Value.ownBlock])
  refine ⟨cells ++ [_], ho', by rw [List.length_append, hc'.len]; rfl, fun i w hw => ?_, fun i j b c c' h1 h2 => ?_⟩
  · rcases hlast i w hw with ⟨hi, h⟩ | ⟨hi, h⟩
    · obtain ⟨b, c, cs, e, hb, h3, h4, h5, h6⟩ := hc'.row i w h
      refine ⟨b, c, cs, e, by rw [hsame b _ _ hb]; exact hb, ?_, h4, h5, by simp⟩
      rw [if_neg (by omega)]; exact h3
    · subst h
      refine ⟨bw, cw, xs, rfl, by rw [hsame bw _ _ hbw]; exact hbw, ?_, hcw, hcw2, by simp⟩
      rw [if_pos hi]; exact hrow
  · rcases hlast i _ h1 with ⟨hi, h⟩ | ⟨hi, h⟩ <;> rcases hlast j _ h2 with ⟨hj, h'⟩ | ⟨hj, h'⟩
    · exact hc'.inj i j b c c' h h'
    · cases h'; exact absurd rfl (hav i _ c h)
    · cases h; exact absurd rfl (hav j _ c' h')
    · omega
theorem eRR : elemT Try.prog 125 = some 22 := elemT_125
theorem kRR : kindT Try.prog 125 = 2 := kindT_125
theorem eII : elemT Try.prog 126 = some 3 := elemT_126
theorem kII : kindT Try.prog 126 = 2 := kindT_126
theorem GridAt.alloc {H : Heap} {V : View} {v : Value} {R m b : Nat} {r : Option Row} {G : Grid} {av : List Nat} (h : GridAt H V v R m G av) (hb : H b = none) : GridAt (upd H b r) V v R m G av := by
  have key : ∀ k q, H k = some q → upd H b r k = H k := fun k q hk => by
    unfold upd
    split
    · rename_i e; rw [e, hb] at hk; cases hk
    · rfl
  exact h.frame (fun k cs tot hk => key k _ hk) fun k cs tot ha hk => ⟨key k _ hk, ha⟩
theorem GridAt.avoid {H : Heap} {V : View} {v : Value} {R m b : Nat} {G : Grid} (h : GridAt H V v R m G []) (hb : H b = none) : GridAt H V v R m G [b] :=
  h.frame (fun k cs tot _ => rfl) fun k cs tot _ hk => ⟨rfl, fun hin => by
    have : k = b := by simpa using hin
    rw [this, hb] at hk; cases hk⟩
theorem src_one {H : Heap} {V : View} {b e tot : Nat} {a : Value} (hr : H b = some ⟨e, [a], tot⟩) (h1 : isOne a = true) : Src H V 1 (.slice (some ⟨b, 0, none⟩) 1 1) 1 [a] :=
  ⟨_, 1, rfl, rfl, fun u hu => by have : u = a := by simpa using hu
                                  rw [this]; exact h1, .inr ⟨b, 0, rfl, fun j u hj => .inl ⟨_, hr, by rw [Nat.zero_add]; exact hj⟩⟩⟩
theorem own_one {H : Heap} {e sz n : Nat} {v : Value} {xs : List Value} (h : Own H e sz v n xs) : isOne v = true := by
  rcases own_parts h with ⟨rfl, _, _⟩ | ⟨b, cap, rfl, _⟩ <;> rfl
theorem GridAt.form {H : Heap} {V : View} {v : Value} {R m : Nat} {G : Grid} {av : List Nat} (h : GridAt H V v R m G av) : ∃ A c, v = .slice A R c := by
  obtain ⟨cells, ho, _⟩ := h
  rcases own_parts ho with ⟨rfl, h0, _⟩ | ⟨b, cap, rfl, _⟩
  · exact ⟨none, 0, by rw [h0]⟩
  · exact ⟨_, _, rfl⟩
theorem mk_set1 {m j : Nat} {f : Nat → Rat} {x : Rat} (hj : j < m) : (mk m f).set j x = mk m (fun c => if c = j then x else f c) := by
  apply List.ext_getElem?
  intro i
  by_cases hi : i < m
  · by_cases e : j = i
    · subst e; rw [List.getElem?_set_self (by rw [mk_len]; exact hj)]; simp [mk, hj]
    · rw [List.getElem?_set_ne e]
      have e' : ¬ i = j := fun h => e h.symm
      simp [mk, hi, e']
  · rw [List.getElem?_eq_none (by rw [List.length_set, mk_len]; omega), List.getElem?_eq_none (by rw [mk_len]; omega)]
/-- the memory of an elimination under way -/
structure KMem (H : Heap) (V : View) (w : Value) (R n go gw : Nat) (G : Grid) (wh : Nat → Int) (k : Nat) : Prop where
  grid : GridAt H V w R (n + 1) G [go]
  wr : ∃ cw tot, H gw = some ⟨3, cw, tot⟩ ∧ cw.length = n ∧ ∀ c, c < k → cw[c]? = some (.int .i64 (wh c))
  out : ∃ co tot, H go = some ⟨34, co, tot⟩ ∧ RowAt (optE ratE) V co (List.replicate n none)
theorem KMem.mono {H : Heap} {V V' : View} {w : Value} {R n go gw : Nat} {G : Grid} {wh : Nat → Int} {k : Nat} (h : KMem H V w R n go gw G wh k) (hV : V.le V') : KMem H V' w R n go gw G wh k := by
  obtain ⟨co, tot, h1, h2⟩ := h.out
  exact ⟨h.grid.mono hV, h.wr, co, tot, h1, h2.mono (optE_ok ratE_ok) hV⟩
theorem KMem.congr {H : Heap} {V : View} {w : Value} {R n go gw : Nat} {G G' : Grid} {wh : Nat → Int} {k : Nat} (h : KMem H V w R n go gw G wh k) (e : ∀ i j, i < R → j < n + 1 → G i j = G' i j) : KMem H V w R n go gw G' wh k := ⟨h.grid.congr e, h.wr, h.out⟩
/-- one place of the grid: how to read it, how to write it -/
theorem KMem.at {H : Heap} {V : View} {w : Value} {R n go gw : Nat} {G : Grid} {wh : Nat → Int} {k : Nat} (h : KMem H V w R n go gw G wh k) {i : Nat} (hi : i < R) :
    ∃ g cap b c cs, w = .slice (some ⟨g, 0, none⟩) R cap ∧ Loads Try.prog H V 22 g i (.slice (some ⟨b, 0, none⟩) (n + 1) c) ∧ H b = some ⟨34, cs, c * 3⟩ ∧ cs.length = (n + 1) * 3 ∧ n + 1 ≤ c ∧
      (∀ j, j < n + 1 → ∃ x y z, RatC V (.agg #[x, y, z]) (G i j) ∧ (isOne x = true ∧ isOne y = true ∧ isOne z = true) ∧ Loads Try.prog H V 34 b (j * 3) (.agg #[x, y, z])) ∧
      ∀ V' j q x y z, j < n + 1 → V.le V' → RatC V' (.agg #[x, y, z]) q → isOne x = true → isOne y = true → isOne z = true → KMem (upd H b (some ⟨34, splice cs (j * 3) [x, y, z], c * 3⟩)) V' w R n go gw (fun i' j' => if i' = i ∧ j' = j then q else G i' j') wh k := by
  obtain ⟨g, cap, b, c, cs, e, h1, h2, h3, h4, h5, h6, h7⟩ := h.grid.at hi
  refine ⟨g, cap, b, c, cs, e, h1, h2, by rw [h3.1, mk_len], h4, fun j hj => ?_, fun V' j q x y z hj hV hx o1 o2 o3 => ?_⟩
  · obtain ⟨x, y, z, a1, a2, a3⟩ := rowQ_load h2 h3 j (by rw [mk_len]; exact hj)
    rw [cf_mk, if_pos hj] at a1
    exact ⟨x, y, z, a1, a2, a3⟩
  · have hr := (h3.mono ratE_ok hV).set j (by rw [mk_len]; exact hj) o1 o2 o3 hx
    rw [mk_set1 hj] at hr
    obtain ⟨cw, tot, w1, w2⟩ := h.wr
    obtain ⟨co, tot', u1, u2⟩ := h.out
    have hgb : gw ≠ b := fun e => by subst e; rw [h2] at w1; cases w1
    have hob : go ≠ b := fun e => h6 (by rw [e]; simp)
    refine ⟨(h7 V' _ _ hV hr).congr fun i' j' _ _ => ?_, ⟨cw, tot, by unfold upd; rw [if_neg hgb]; exact w1, w2⟩, ⟨co, tot', by unfold upd; rw [if_neg hob]; exact u1, u2.mono (optE_ok ratE_ok) hV⟩⟩
    by_cases e1 : i' = i
    · by_cases e2 : j' = j
      · simp [e1, e2]
      · simp [e1, e2]
    · simp [e1]
theorem KMem.where {H : Heap} {V : View} {w : Value} {R n go gw : Nat} {G : Grid} {wh : Nat → Int} {k : Nat} (h : KMem H V w R n go gw G wh k) (hk : k < n) (x : Int) :
    ∃ cw tot, H gw = some ⟨3, cw, tot⟩ ∧ k < cw.length ∧ KMem (upd H gw (some ⟨3, cw.set k (.int .i64 x), tot⟩)) V w R n go gw G (wset wh k x) (k + 1) := by
  obtain ⟨cw, tot, w1, w2, w3⟩ := h.wr
  obtain ⟨co, tot', u1, u2⟩ := h.out
  have hne : ∀ b cs t, H b = some ⟨34, cs, t⟩ → upd H gw (some ⟨3, cw.set k (.int .i64 x), tot⟩) b = H b := fun b cs t hb => by
    unfold upd; split
    · rename_i e; subst e; rw [w1] at hb; cases hb
    · rfl
  have hne2 : ∀ b cs t, H b = some ⟨22, cs, t⟩ → upd H gw (some ⟨3, cw.set k (.int .i64 x), tot⟩) b = H b := fun b cs t hb => by
    unfold upd; split
    · rename_i e; subst e; rw [w1] at hb; cases hb
    · rfl
  refine ⟨cw, tot, w1, by omega, h.grid.frame hne2 fun b cs t ha hb => ⟨hne b cs t hb, ha⟩, ⟨_, tot, upd_at _ _ _, by rw [List.length_set]; exact w2, fun c hc => ?_⟩, ⟨co, tot', by rw [hne _ _ _ u1]; exact u1, u2⟩⟩
  unfold wset
  by_cases e : k = c
  · subst e; rw [List.getElem?_set_self (by omega), if_pos rfl]
  · rw [List.getElem?_set_ne e, if_neg (Ne.symm e)]; exact w3 c (by omega)
theorem KMem.again {H : Heap} {V : View} {w : Value} {R n go gw : Nat} {G : Grid} {wh : Nat → Int} {k : Nat} {y : Int} (h : KMem H V w R n go gw G (wset wh k y) (k + 1)) (hk : k < n) (x : Int) :
    ∃ cw tot, H gw = some ⟨3, cw, tot⟩ ∧ k < cw.length ∧ KMem (upd H gw (some ⟨3, cw.set k (.int .i64 x), tot⟩)) V w R n go gw G (wset wh k x) (k + 1) := by
  obtain ⟨cw, tot, w1, w2, w3⟩ := h.wr
  have h0 : KMem H V w R n go gw G wh k := ⟨h.grid, ⟨cw, tot, w1, w2, fun c hc => by
    have := w3 c (by omega)
    unfold wset at this
    rw [if_neg (by omega)] at this; exact this⟩, h.out⟩
  exact h0.where hk x
def ge (B : Nat) : Nat → Nat
  | 0 => B
  | k + 1 => 4 * ge B k + 2
theorem ge_mono (B : Nat) {i j : Nat} (h : i ≤ j) : ge B i ≤ ge B j := by
  induction j with
  | zero => rw [show i = 0 by omega]; exact Nat.le_refl _
  | succ j ih =>
    rcases Nat.eq_or_lt_of_le h with h1 | h1
    · subst h1; exact Nat.le_refl _
    · have := ih (by omega)
      simp only [ge]; omega
theorem KMem.swap {H : Heap} {V : View} {w : Value} {R n go gw : Nat} {G : Grid} {wh : Nat → Int} {k : Nat} (h : KMem H V w R n go gw G wh k) {p t : Nat} (hp : p < R) (ht : t < R) :
    ∃ g cap cells vp vt, w = .slice (some ⟨g, 0, none⟩) R cap ∧ H g = some ⟨22, cells, cap * 1⟩ ∧ cells.length = R ∧ Loads Try.prog H V 22 g p vp ∧ Loads Try.prog H V 22 g t vt ∧ isOne vp = true ∧ isOne vt = true ∧
      KMem (upd (upd H g (some ⟨22, cells.set p vt, cap * 1⟩)) g (some ⟨22, (cells.set p vt).set t vp, cap * 1⟩)) V w R n go gw (gsw G p t) wh k := by
  obtain ⟨g, cap, cells, vp, vt, e, h1, h2, h3, h4, h5, h6, h7⟩ := h.grid.swap hp ht
  obtain ⟨cw, tot, w1, w2⟩ := h.wr
  obtain ⟨co, tot', u1, u2⟩ := h.out
  have n1 : gw ≠ g := fun e => by subst e; rw [h1] at w1; cases w1
  have n2 : go ≠ g := fun e => by subst e; rw [h1] at u1; cases u1
  exact ⟨g, cap, cells, vp, vt, e, h1, h2, h3, h4, h5, h6, h7, ⟨cw, tot, by unfold upd; rw [if_neg n1, if_neg n1]; exact w1, w2⟩, ⟨co, tot', by unfold upd; rw [if_neg n2, if_neg n2]; exact u1, u2⟩⟩
theorem SolG.congr {G : Grid} {R n : Nat} {x y : Nat → Rat} (h : SolG G R n x) (e : ∀ j, j < n → x j = y j) : SolG G R n y := fun i hi => by
  rw [← h i hi]
  exact Sm_congr _ fun j hj => by rw [e j hj]
/-- the numbers that are read off, into a row of their own -/
theorem GridAt.other {H : Heap} {V : View} {w : Value} {R m go tot tot' : Nat} {co co' : List Value} {G : Grid} (h : GridAt H V w R m G [go]) (ho : H go = some ⟨34, co, tot⟩) : GridAt (upd H go (some ⟨34, co', tot'⟩)) V w R m G [go] :=
  h.frame (fun b cs t hb => by
    unfold upd; split
    · rename_i e; subst e; rw [ho] at hb; cases hb
    · rfl) fun b cs t ha hb => ⟨by unfold upd; rw [if_neg (fun e => ha (by rw [e]; simp))], ha⟩
/-- what holds of an elimination under way -/
structure KInv (l : List Rat) (n R B : Nat) (G : Grid) (wh : Nat → Int) (k t : Nat) : Prop where
  inv : GInv G R wh k t
  sol : ∀ x, SolG G R n x ↔ SolG (grid0 l n) R n x
  qb : ∀ i j, i < R → j < n + 1 → QB (ge B k) (G i j)
theorem KInv.free {l : List Rat} {n R B k t : Nat} {G : Grid} {wh : Nat → Int} (h : KInv l n R B G wh k t) (hz : ∀ i, t ≤ i → i < R → G i k = 0) : KInv l n R B G (wset wh k (-1)) (k + 1) t :=
  ⟨g_free h.inv hz, h.sol, fun i j hi hj => (h.qb i j hi hj).mono (ge_mono B (Nat.le_succ k))⟩
theorem KInv.piv {l : List Rat} {n R B k t p : Nat} {G : Grid} {wh : Nat → Int} (h : KInv l n R B G wh k t) (hk : k < n) (h1 : t ≤ p) (h2 : p < R) (hd : G p k ≠ 0) : KInv l n R B (gcol (gsw G p t) t k) (wset wh k t) (k + 1) (t + 1) := by
  have et : swp p t t = p := by unfold swp; split <;> (try split) <;> omega
  have e0 : gsw G p t t k = G p k := by unfold gsw; rw [et]
  refine ⟨g_piv h.inv h1 h2 hd, fun x => ?_, fun i j hi hj => ?_⟩
  · rw [sol_col (by omega) (by rw [e0]; exact hd), sol_swap h2 (by omega)]; exact h.sol x
  · have hq : ∀ i j, i < R → j < n + 1 → QB (ge B k) (gsw G p t i j) := fun i j hi hj => h.qb _ j (swp_lt h2 (by omega) hi) hj
    have q1 := (hq t j (by omega) hj).div (hq t k (by omega) (by omega))
    unfold gcol
    split
    · exact q1.mono (by simp only [ge]; omega)
    · exact ((hq i j hi hj).sub ((hq i k hi (by omega)).mul q1)).mono (by simp only [ge]; omega)
end Go.Proofs.Ythoboehbadmlmaa
end
