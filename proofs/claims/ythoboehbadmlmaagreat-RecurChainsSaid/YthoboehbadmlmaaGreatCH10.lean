/- the exits of a chain step by step satisfy a recurrence no longer than its states, whose generating function at 1 is the chance of the exit (part 10 of 13) -/
import Derived.OrdersHeld
import Derived.Below
import Derived.Tactics
import Derived.KernelRfl
import Derived.RangeFuncCalls
import Derived.RangeFuncFrom
import Derived.RangeFuncLeaves
import Derived.OrdersIn
import Derived.Laws.AppendOwn
import Derived.Laws.MakeOwn
import Derived.Laws.CopyRow
import Derived.Laws.Cells
import Derived.Laws.World
import Derived.Laws.Alloc2
import Derived.Laws.NewBlocks
import Derived.Maps.AppendAt
import Derived.Test.YthoboehbadmlmaaGreatProg
import Init.Data.List.Lemmas
import Init.Omega
import Derived.WalkKit
import Derived.ProofKit
import Derived.OpenShut
import Derived.ChangeOld
import Derived.SizedLaws
import Derived.ChangeSlices
import Derived.ChangeArms
import Derived.Deep.Slices
import Derived.Test.YthoboehbadmlmaaGreatCH9
set_option linter.unusedVariables false
set_option linter.unusedSimpArgs false
section
namespace Go.Proofs.YthoboehbadmlmaaGreat
open Go Go.RowKit
abbrev conc0 (t : List SV) : Array Value := (t.map (SV.conc fun _ => 0)).toArray
def YQ (Q : Exit → List SV → World → Prop) : Exit → Act → World → Prop := fun e a W => ∃ t, a.tmps = conc0 t ∧ a.defers = [] ∧ Q e t W
def YW (P : Program) (c : Code) (Q : Exit → List SV → World → Prop) (t : List SV) (W : World) : Prop :=
 ∀ a : Act, a.tmps = conc0 t → a.defers = [] → c.wpIn Fence.wide 0 P (YQ Q) a W
def thenY (K : List SV → World → Prop) (Q : Exit → List SV → World → Prop) : Exit → List SV → World → Prop
 | .normal, t, W => K t W
 | e, t, W => Q e t W
def inBlockY (id : Nat) (Q : Exit → List SV → World → Prop) : Exit → List SV → World → Prop
 | .exit id', t, W => if id' = id then Q .normal t W else Q (.exit id') t W
 | e, t, W => Q e t W
section
variable {P : Program} {Q : Exit → List SV → World → Prop} {t : List SV} {W : World}
theorem YW.apply {c : Code} {t : List SV} {a : Act} (h : YW P c Q t W) (h1 : a.tmps = conc0 t) (h2 : a.defers = []) : c.wpIn Fence.wide 0 P (YQ Q) a W := h a h1 h2
theorem YW.seq {x y : Code} (h : YW P x (thenY (YW P y Q) Q) t W) : YW P (.seq x y) Q t W := fun a h1 h2 =>
 wpIn_seq (wpIn_mono (h a h1 h2) fun e a w hq => by
  obtain ⟨t', h1', h2', q⟩ := hq
  cases e <;> first
   | exact q a h1' h2'
   | exact ⟨t', h1', h2', q⟩)
theorem YW.skip (h : Q .normal t W) : YW P .skip Q t W := fun _ h1 h2 => wpIn_skip ⟨t, h1, h2, h⟩
theorem YW.ret (h : Q .ret t W) : YW P .ret Q t W := fun _ h1 h2 => wpIn_ret ⟨t, h1, h2, h⟩
theorem YW.exit {i : Nat} (h : Q (.exit i) t W) : YW P (.exit i) Q t W := fun _ h1 h2 => wpIn_exit ⟨t, h1, h2, h⟩
theorem YW.block {i : Nat} {c : Code} (h : YW P c (inBlockY i Q) t W) : YW P (.block i c) Q t W := fun a h1 h2 =>
 wpIn_block (wpIn_mono (h a h1 h2) fun e a w hq => by
  obtain ⟨t', h1', h2', q⟩ := hq
  cases e with
  | exit j =>
   simp only [inBlockY] at q
   simp only [Exit.inBlock]
   split <;> rename_i hj
   ·exact ⟨t', h1', h2', by simpa [hj] using q⟩
   ·exact ⟨t', h1', h2', by simpa [hj] using q⟩
  | _ => exact ⟨t', h1', h2', q⟩)
theorem ev0 {a : Act} (h : a.tmps = conc0 t) (x : Operand) (H : Heap) (V : View) : a.eval x = ((⟨t, [], H, V⟩ : XS).ev x).conc fun _ => 0 := ev_conc (s := ⟨t, [], H, V⟩) h x
theorem YW.cond {c : Operand} {x y : Code} {b : Bool} {V : View} (hc : (⟨t, [], fun _ => none, V⟩ : XS).ev c = .v (.bool b)) (h1 : b = true → YW P x Q t W) (h2 : b = false → YW P y Q t W) : YW P (.cond c x y) Q t W := fun a e1 e2 =>
 wpIn_cond_split (t := b) (by rw [ev0 e1 c (fun _ => none) V, hc]; rfl) (fun e => h1 e a e1 e2) (fun e => h2 e a e1 e2)
theorem YW.loop {c : Code} (I : Nat → List SV → World → Prop) (n : Nat) (h0 : I n t W) (hr : ∀ n t W, I n t W → YW P c (thenY (fun t' W' => ∃ m, m < n ∧ I m t' W') Q) t W) : YW P (.loop c) Q t W := by
 intro a e1 e2
 have key : ∀ n t W a, I n t W → a.tmps = conc0 t → a.defers = [] → ∀ (b : Frame) (k : List Item) (cs : List Frame), b.roundOf = none →
   ∃ e a' w', YQ Q e a' w' ∧ ArrivesIn (Machine.fenced P Fence.wide) P (lone (b.atR a (.code c :: .inLoop c :: k)) cs W) b k cs e a' w' := by
  intro n
  induction n using Nat.strongRecOn with
  | _ n ih =>
   intro t W a hI e1 e2 b k cs hro
   obtain ⟨e, a₁, w₁, ⟨t1, h1, h2, hq⟩, harr⟩ := hr n t W hI a e1 e2 b (.inLoop c :: k) cs hro trivial (room_wide _)
   cases e with
   | normal =>
    obtain ⟨m, hm, hI1⟩ := hq
    obtain ⟨e₂, a₂, w₂, hq₂, harr₂⟩ := ih m hm t1 w₁ a₁ hI1 h1 h2 b k cs hro
    exact ⟨e₂, a₂, w₂, hq₂, .of_steps (StepsIn.trans harr (.one (fenced_calm (F := Fence.wide) (n := 0) (fr := b.atR a₁ (.inLoop c :: k)) trivial (room_wide _) rfl) stepR_inLoop)) harr₂⟩
   | exit id => exact ⟨_, a₁, w₁, ⟨t1, h1, h2, hq⟩, .pass (x := .inLoop c) rfl (fun _ _ => .inl (by simp)) harr⟩
   | goto l => exact ⟨_, a₁, w₁, ⟨t1, h1, h2, hq⟩, .pass (x := .inLoop c) rfl (fun _ _ => .inl (by simp)) harr⟩
   | ret => exact ⟨_, a₁, w₁, ⟨t1, h1, h2, hq⟩, .pass (x := .inLoop c) rfl (fun _ _ => .inl (by simp)) harr⟩
   | panic ch => exact ⟨_, a₁, w₁, ⟨t1, h1, h2, hq⟩, .pass (x := .inLoop c) rfl (fun _ _ => .inl (by simp)) harr⟩
   | outgrown => exact ⟨_, a₁, w₁, ⟨t1, h1, h2, hq⟩, .pass (x := .inLoop c) rfl (fun _ _ => .inl (by simp)) harr⟩
 intro b k cs hro _ _
 obtain ⟨e, a', w', hq, harr⟩ := key n t W a h0 e1 e2 b k cs hro
 exact ⟨e, a', w', hq, .of_steps (.one (fenced_calm (F := Fence.wide) (n := 0) (fr := b.atR a (.code (.loop c) :: k)) trivial (room_wide _) rfl) stepR_loop) harr⟩
theorem reads_in {ops : Array Oper} {V : View} {Q' : Exit → Act → World → Prop} (hV : V.sub W) (rest : List Nat) : ∀ (l : List Oper) (k : Nat) (K : XS → Prop) (t : List SV) (a : Act), (∀ i o, l[i]? = some o → ops[k + i]? = some o) → (l.all fun o => isRead o.op && o.guard.isNone) = true →
  a.tmps = conc0 t → a.defers = [] → (∀ x ∈ t, x.ok 0) → seqX P ops l K ⟨t, [], fun _ => none, V⟩ → (∀ t' a', a'.tmps = conc0 t' → a'.defers = [] → (∀ x ∈ t', x.ok 0) → K ⟨t', [], fun _ => none, V⟩ → wpOpsIn Fence.wide 0 P ops Q' rest a' W) →
  wpOpsIn Fence.wide 0 P ops Q' (List.range' k l.length ++ rest) a W
 | [], k, K, t, a, _, _, e1, e2, hok, h, hk => by simpa using hk t a e1 e2 hok h
 | o :: l, k, K, t, a, hi, hall, e1, e2, hok, h, hk => by
  simp only [List.all_cons, Bool.and_eq_true] at hall
  obtain ⟨⟨hrd, hgd⟩, hall⟩ := hall
  have ho : ops[k]? = some o := by simpa using hi 0 o (by simp)
  have hg : o.guard = none := by cases hx : o.guard <;> simp_all
  simp only [List.length_cons, List.range'_succ, List.cons_append]
  rw [wpOpsIn_cons]
  unfold wpOpIn
  simp only [ho]
  have hw : Region.wanted o (yielded ops a.tmps) = true := by unfold Region.wanted; rw [hg]
  rw [if_pos hw]
  unfold seqX stepX at h
  rw [hg] at h
  dsimp only at h
  unfold opX at h
  rw [if_pos hrd] at h
  obtain ⟨sv, ⟨hsv, hrun⟩, h⟩ := readX_sound (s := ⟨t, [], fun _ => none, V⟩) hok h
  have hr := hrun ⟨W, V, W, none⟩ (fun _ => 0) a W e1 ⟨fun i vs hi => by simp at hi, fun b r hb => (by cases hb), hV, Below.refl _ _⟩
  refine ⟨fun _ _ => trivial, ?_⟩
  have hd : ∀ c, o.op ≠ .defer c := fun c e => by rw [e] at hrd; cases hrd
  rw [Oper.semAt_eq _ _ _ hd, hr]
  have hconc : Conc ⟨W, V, W, none⟩ (fun _ => 0) ⟨t, [], fun _ => none, V⟩ a W := ⟨e1, ⟨⟨[], by rw [e2]; rfl, List.nodup_nil, fun D hD => by simp at hD⟩, KeepsOthers.refl _⟩, ⟨fun i vs hi => by simp at hi, fun b r hb => (by cases hb), hV, Below.refl _ _⟩, ⟨fun i j hi => by simp at hi, fun i hi => by simp at hi, fun b r hb => (by cases hb), View.le_refl _, View.from_refl _ _⟩, hok⟩
  have hput := hconc.put o.dst sv hsv
  have et : (XS.put ⟨t, [], fun _ => none, V⟩ o.dst sv) = ⟨(XS.put ⟨t, [], fun _ => none, V⟩ o.dst sv).t, [], fun _ => none, V⟩ := by cases o.dst <;> rfl
  rw [et] at h
  have hok2 : ∀ x ∈ (XS.put ⟨t, [], fun _ => none, V⟩ o.dst sv).t, x.ok 0 := by
   have := put_ok (s := ⟨t, [], fun _ => none, V⟩) hok o.dst hsv
   rw [XS.put_bx] at this; exact this
  refine reads_in hV rest l (k + 1) K _ _ (fun i o' h' => ?_) hall hput.tm ?_ hok2 h hk
  ·have := hi (i + 1) o' (by simpa using h')
   rw [show k + 1 + i = k + (i + 1) by omega]; exact this
  ·cases o.dst <;> exact e2
theorem YW.reads {id : Nat} {ops : Array Oper} {V : View} (hV : V.sub W) (hok : ∀ x ∈ t, x.ok 0) (hall : (ops.toList.all fun o => isRead o.op && o.guard.isNone) = true) (h : seqX P ops ops.toList (fun s => (∀ x ∈ s.t, x.ok 0) → Q .normal s.t W) ⟨t, [], fun _ => none, V⟩) : YW P (.region id ops false) Q t W := fun a e1 e2 => by
 refine wpIn_region ?_
 have := reads_in (Q' := YQ Q) hV [] ops.toList 0 _ t a (fun i o h => by simpa using h) hall e1 e2 hok h fun t' a' e1' e2' hok' hk => ⟨t', e1', e2', hk hok'⟩
 rwa [List.append_nil, Array.length_toList, ← List.range_eq_range'] at this
theorem YW.yield {id : Nat} {ops : Array Oper} {V : View} {pre post : List Oper} {d : Option Tmp} {x : Tmp} {xs : List Operand} {ts : Array TypeId} {ty pos af} (hops : ops.toList = pre ++ ⟨d, .call ⟨.value (.tmp x), xs.toArray, ts⟩, ty, pos, af, none⟩ :: post) (hV : V.sub W) (hok : ∀ x ∈ t, x.ok 0)
  (hpre : (pre.all fun o => isRead o.op && o.guard.isNone) = true) (hpost : (post.all fun o => isRead o.op && o.guard.isNone) = true)
  (h : seqX P ops pre (fun s => ∃ (l : Nat) (args : List Value) (R : Ending → World → Prop), s.ev (.tmp x) = .v (.func (.yield l) #[] #[]) ∧ xs.map s.ev = args.map .v ∧ YieldAt Fence.wide 0 P l args.toArray W R ∧
   ∀ e W', R e W' → ∃ b, e = .returned (.bool b) ∧ V.sub W' ∧ seqX P ops post (fun s' => (∀ x ∈ s'.t, x.ok 0) → Q .normal s'.t W') (s.put d (.v (.bool b)))) ⟨t, [], fun _ => none, V⟩) : YW P (.region id ops false) Q t W := fun a e1 e2 => by
 refine wpIn_region ?_
 have hlen : List.range ops.size = List.range' 0 pre.length ++ (pre.length :: List.range' (pre.length + 1) post.length) := by
  have : ops.size = pre.length + (post.length + 1) := by rw [← Array.length_toList, hops]; simp
  rw [this, List.range_eq_range', ← List.range'_append_1, Nat.zero_add, List.range'_succ]
 rw [hlen]
 have hget : ∀ i : Nat, ops[i]? = (pre ++ ⟨d, .call ⟨.value (.tmp x), xs.toArray, ts⟩, ty, pos, af, none⟩ :: post)[i]? := fun i => by rw [← hops]; simp
 refine reads_in hV _ pre 0 _ t a (fun i o h => by
  rw [hget, Nat.zero_add, List.getElem?_append_left (List.getElem?_eq_some_iff.1 h).1]; exact h) hpre e1 e2 hok h fun t' a' e1' e2' hok' hk => ?_
 obtain ⟨l, args, R, hx, hxs, ⟨fn, tmps, assign, body, hrun, hround⟩, hR⟩ := hk
 rw [wpOpsIn_cons]
 unfold wpOpIn
 have ho : ops[pre.length]? = some ⟨d, .call ⟨.value (.tmp x), xs.toArray, ts⟩, ty, pos, af, none⟩ := by rw [hget, List.getElem?_append_right (Nat.le_refl _), Nat.sub_self]; rfl
 simp only [ho]
 rw [if_pos (by unfold Region.wanted; rfl)]
 refine ⟨fun _ _ => trivial, ?_⟩
 rw [Oper.semAt_eq _ _ _ (fun c e => by cases e)]
 have hev : a'.eval (.tmp x) = .func (.yield l) #[] #[] := by rw [ev0 e1' _ (fun _ => none) V, hx]; rfl
 have hargs : xs.toArray.map a'.eval = args.toArray := by
  apply Array.ext'
  simp only [Array.toList_map]
  have h2 : xs.map a'.eval = (xs.map (⟨t', [], fun _ => none, V⟩ : XS).ev).map (SV.conc fun _ => 0) := by
   rw [List.map_map]
   exact List.map_congr_left fun q _ => ev0 e1' q (fun _ => none) V
  rw [h2, hxs, List.map_map]
  have : (SV.conc fun _ => 0) ∘ SV.v = fun x => x := rfl
  rw [this, List.map_id']
 have hcall : (execOp a'.eval ⟨d, .call ⟨.value (.tmp x), xs.toArray, ts⟩, ty, pos, af, none⟩).run P W = .ok (.round l fn tmps assign body) W := by
  simp [execOp, resolve, hev, Deferred.ofValue, invoke, callFunc, hargs, hrun]
 rw [hcall]
 refine ⟨fun h => by simp [Fence.wide] at h, hround.mono fun e W' hre => ?_⟩
 obtain ⟨b, rfl, hV', hpo⟩ := hR e W' hre
 dsimp only
 have hokp : ∀ y ∈ (XS.put ⟨t', [], fun _ => none, V⟩ d (.v (.bool b))).t, y.ok 0 := by
  have := put_ok (s := ⟨t', [], fun _ => none, V⟩) hok' d (x := .v (.bool b)) trivial
  rw [XS.put_bx] at this; exact this
 have et : (XS.put ⟨t', [], fun _ => none, V⟩ d (.v (.bool b))) = ⟨(XS.put ⟨t', [], fun _ => none, V⟩ d (.v (.bool b))).t, [], fun _ => none, V⟩ := by cases d <;> rfl
 rw [et] at hpo
 have := reads_in (Q' := YQ Q) hV' [] post (pre.length + 1) _ _ (a'.put d (.bool b)) (fun i o h => by
  rw [hget, List.getElem?_append_right (by omega), show pre.length + 1 + i - pre.length = i + 1 by omega]; simpa using h) hpost (conc_put (s := ⟨t', [], fun _ => none, V⟩) e1' d (.v (.bool b))) (by cases d <;> exact e2') hokp hpo fun t2 a2 e3 e4 hok2 hk => ⟨t2, e3, e4, hk hok2⟩
 rwa [List.append_nil] at this
theorem YW.yieldAt {id : Nat} {ops : Array Oper} {V : View} (k : Nat) {d : Option Tmp} {x : Tmp} {xs : List Operand} {ts : Array TypeId} {ty pos af} (hk : ops.toList[k]? = some ⟨d, .call ⟨.value (.tmp x), xs.toArray, ts⟩, ty, pos, af, none⟩) (hV : V.sub W) (hok : ∀ x ∈ t, x.ok 0)
  (hpre : ((ops.toList.take k).all fun o => isRead o.op && o.guard.isNone) = true) (hpost : ((ops.toList.drop (k + 1)).all fun o => isRead o.op && o.guard.isNone) = true)
  (h : seqX P ops (ops.toList.take k) (fun s => ∃ (l : Nat) (args : List Value) (R : Ending → World → Prop), s.ev (.tmp x) = .v (.func (.yield l) #[] #[]) ∧ xs.map s.ev = args.map .v ∧ YieldAt Fence.wide 0 P l args.toArray W R ∧
   ∀ e W', R e W' → ∃ b, e = .returned (.bool b) ∧ V.sub W' ∧ seqX P ops (ops.toList.drop (k + 1)) (fun s' => (∀ x ∈ s'.t, x.ok 0) → Q .normal s'.t W') (s.put d (.v (.bool b)))) ⟨t, [], fun _ => none, V⟩) : YW P (.region id ops false) Q t W :=
 YW.yield (pre := ops.toList.take k) (post := ops.toList.drop (k + 1)) (d := d) (x := x) (xs := xs) (ts := ts) (ty := ty) (pos := pos) (af := af) (by
  obtain ⟨hlt, he⟩ := List.getElem?_eq_some_iff.1 hk
  rw [← he, List.getElem_cons_drop, List.take_append_drop]) hV hok hpre hpost h
end
end Go.Proofs.YthoboehbadmlmaaGreat
end
section
namespace Go.Proofs.YthoboehbadmlmaaGreat
open Go Go.RowKit
attribute [local irreducible] XWP Spec SpecO XPub XCall seqX clX apX stX ldX iaX slX
attribute [local irreducible] YW
def TIs (F : (Nat → SV) → List SV) (t : List SV) : Prop := F (nth t) = t
theorem TIs.out {F : (Nat → SV) → List SV} {t : List SV} (h : TIs F t) : ∃ u, t = F u := ⟨nth t, h.symm⟩
theorem backward_c (V : View) (v : Value) (h1 : isOne v = true) : Spec Tryz.prog 48 [v] V fun v' V' => ∃ Bs e, v' = .func (.func 108) #[] #[.pointer (some ⟨Bs, 0, none⟩)] ∧ V' Bs = some (.cells #[v] e (0, 0)) := by
 have hc : v.cells.toList = [v] := by cases v <;> first | rfl | cases h1
 refine (Spec.enter Tryz.func48 rfl fun Γ => ?_)
 simp only [Tryz.ntmps48, List.map_cons, List.map_nil, List.length_cons, List.length_nil, Nat.reduceAdd, Nat.reduceSub, List.replicate_succ, List.replicate_zero, List.cons_append, List.nil_append]
 refine Gx.a (by kernel_rfl) fun K hK => ?_
 simp only [XA, bxS, hc]
 refine hK _ ?_
 refine XWP.row1 (bx := []) fun b e hb1 hb2 => ?_
 simp only [List.map_cons, List.map_nil, rowS_v, rowS_p, List.length_nil, List.length_cons, Nat.reduceAdd, ↓reduceIte]
 refine Gx.a (by kernel_rfl) fun K hK => ?_
 refine mkf_go [.pointer (some ⟨b, 0, none⟩)] rfl ?_
 simp only [XA]
 refine hK _ (XWP.ret ?_)
 try simp only [thenX_ret, inBlockX_ret]
 have hbb : upd (fun _ => none) b (some ⟨e, [v], 1⟩) b = some ⟨e, [v], 1⟩ := upd_at _ _ _
 refine ret_pub b _ hbb fun o ho hle' => ret_go _ rfl ⟨b, e, rfl, ?_⟩
 obtain ⟨ex, rfl, hl⟩ := ho
 have : ex = [] := List.length_eq_zero_iff.1 (by simpa using hl)
 subst this
 simp [addV]
theorem SlAt.vals {α : Type} {E : View → Value → α → Prop} {V : View} {b o n c : Nat} {xs : List α} (h : SlAt E V (.slice (some ⟨b, o, none⟩) n c) xs) : ∃ f : Nat → Value, ∀ i (hi : i < xs.length), E V (f i) xs[i] ∧ (∃ m n d, f i = .agg #[m, n, d] ∧ isOne m = true ∧ isOne n = true ∧ isOne d = true) ∧ ∀ H, Loads Tryz.prog H V 48 b (o + i * 3) (f i) := by
 refine ⟨fun i => if hi : i < xs.length then (SlAt.load h i hi).choose else undef, fun i hi => ?_⟩
 simp only [dif_pos hi]
 exact (SlAt.load h i hi).choose_spec
def bwL (n : Nat) (f : Nat → Value) : List (Array Value) := (List.range n).map fun r => #[.int .i64 ((n - 1 - r : Nat) : Int), f (n - 1 - r)]
theorem bwL_get {n : Nat} {f : Nat → Value} {r : Nat} (h : r < n) : (bwL n f)[r]? = some #[.int .i64 ((n - 1 - r : Nat) : Int), f (n - 1 - r)] := by simp [bwL, h]
theorem bwL_len (n : Nat) (f : Nat → Value) : (bwL n f).length = n := by simp [bwL]
set_option maxRecDepth 100000 in
theorem backward_it {V : View} {Bs n c e : Nat} {A : Option Addr} {f : Nat → Value} (hB : V Bs = some (.cells #[.slice A n c] e (0, 0))) (hn : n ≤ 1000000) (hf : n = 0 ∨ ∃ b o, A = some ⟨b, o, none⟩ ∧ ∀ i, i < n → Loads Tryz.prog (fun _ => none) V 48 b (o + i * 3) (f i)) :
  IterX Tryz.prog 108 #[.pointer (some ⟨Bs, 0, none⟩)] V (bwL n f) := by
 intro l J Jx W hJ0 hJV hJX hY
 refine callsIn_of_wp Tryz.func108 rfl trivial ?_
 have hld : Loads Tryz.prog (fun _ => none) V 25 Bs 0 (.slice A n c) := ⟨false, 1, shapeT_25, .inr ⟨rfl, .inr ⟨_, _, _, hB, rfl⟩⟩⟩
 rw [bwL_len]
 simp only [Tryz.ntmps108, List.size_toArray, List.length_cons, List.length_nil, Nat.reduceAdd, Nat.reduceSub, Array.replicate_succ, Array.replicate_zero, List.push_toArray, List.append_toArray, List.nil_append, List.cons_append]
 refine wpIn_mono (Q := YQ fun e t W' => (e = .normal ∨ e = .ret) ∧ (J n W' ∨ Jx W')) (YW.apply (t := [.v (.func (.yield l) #[] #[]), .v (.pointer (some ⟨Bs, 0, none⟩)), .v undef, .v undef, .v undef, .v undef, .v undef, .v undef, .v undef, .v undef, .v undef, .v undef, .v undef, .v undef, .v undef, .v undef, .v undef, .v undef, .v undef]) ?_ rfl rfl) ?_
 rotate_left
 ·rintro e a W' ⟨t, e1, e2, hq, hr⟩
  rcases hq with rfl | rfl
  ·exact ⟨e2, _, results_none rfl _ _ _, ⟨_, rfl⟩, hr⟩
  ·exact ⟨e2, _, results_none rfl _ _ _, ⟨_, rfl⟩, hr⟩
 have hV := hJV 0 W hJ0
 refine YW.seq (YW.reads hV (by intro x hx; simp only [List.mem_cons, List.not_mem_nil, or_false] at hx; rcases hx with h | h | h | h | h | h | h | h | h | h | h | h | h | h | h | h | h | h | h <;> subst h <;> trivial) (by kernel_rfl) ?_)
 simp only [XA]
 refine ld_mem hld ?_
 have w0 : IntKind.i64.wrap ((n : Int) - 1) = (n : Int) - 1 := wrap_id (by omega) (by omega)
 simp only [XA, XB, w0]
 intro hok
 refine YW.block (YW.loop (fun m t W' => ∃ (r : Nat) (zi : Int), m + r = n ∧ zi = (n : Int) - 1 - (r : Int) ∧ J r W' ∧ TIs (fun Z => [.v (.func (.yield l) #[] #[]), .v (.pointer (some ⟨Bs, 0, none⟩)), Z 2, .v (.int .i64 zi), Z 4,Z 5,Z 6,Z 7,Z 8,Z 9,Z 10,Z 11,Z 12,Z 13,Z 14,Z 15,Z 16,Z 17,Z 18]) t ∧ ∀ x ∈ t, x.ok 0) n ⟨0, (n : Int) - 1, by omega, by omega, hJ0, by exact rfl, hok⟩ ?_)
 clear hok
 rintro m t W' ⟨r, zi, hm, hz, hJ, ht, hok⟩
 obtain ⟨u, rfl⟩ := ht.out
 clear ht
 try dsimp only at hok ⊢
 have hV := hJV r W' hJ
 by_cases hr : r < n
 rotate_left
 ·have b1 : decide (0 ≤ zi) = false := decide_eq_false (by omega)
  refine YW.seq (YW.seq (YW.reads hV hok (by kernel_rfl) ?_))
  simp only [XA, XB, b1]
  intro hok2
  refine YW.cond (V := V) (b := false) rfl (fun h => by cases h) (fun _ => YW.exit ?_)
  have : r = n := by omega
  subst this
  exact ⟨.inl rfl, .inl hJ⟩
 have b1 : decide (0 ≤ zi) = true := decide_eq_true (by omega)
 obtain ⟨i, rfl, hi⟩ : ∃ i : Nat, zi = i ∧ n - 1 - r = i := ⟨n - 1 - r, by omega, rfl⟩
 rcases hf with h0 | ⟨b, o, rfl, hf⟩
 ·omega
 refine YW.seq (YW.seq (YW.reads hV hok (by kernel_rfl) ?_))
 simp only [XA, XB, b1]
 intro hok2
 refine YW.cond (V := V) (b := true) rfl (fun _ => YW.skip ?_) (fun h => by cases h)
 refine YW.seq (YW.block (YW.seq (YW.yieldAt 6 (by rfl) hV hok2 (by kernel_rfl) (by kernel_rfl) ?_)))
 simp only [XA, Nat.reduceAdd]
 refine ld_mem hld ?_
 simp only [XA, XB]
 refine ⟨by omega, by omega, ld_mem (hf i (by omega)) ?_⟩
 simp only [XA]
 obtain ⟨fn, tmps, asn, bd, hy1, hy2⟩ := hY r W' _ (bwL_get hr) hJ
 rw [hi] at hy1
 refine ⟨l, [.int .i64 (i : Int), f i], _, rfl, rfl, ⟨fn, tmps, asn, bd, hy1, hy2⟩, ?_⟩
 rintro e W3 (⟨rfl, hJ3⟩ | ⟨rfl, hJ3⟩)
 ·have hV3 := hJV _ W3 hJ3
  refine ⟨true, rfl, hV3, ?_⟩
  simp only [XA]
  intro hok3
  refine YW.cond (V := V) (b := false) rfl (fun h => by cases h) (fun _ => YW.skip ?_)
  refine YW.reads hV3 hok3 (by kernel_rfl) ?_
  have w1 : IntKind.i64.wrap ((i : Int) - 1) = (i : Int) - 1 := wrap_id (by omega) (by omega)
  simp only [XA, XB, w1]
  intro hok4
  exact ⟨m - 1, by omega, r + 1, (i : Int) - 1, by omega, by omega, hJ3, by exact rfl, hok4⟩
 ·refine ⟨false, rfl, ?_, ?_⟩
  ·exact hJX W3 hJ3
  simp only [XA]
  intro hok3
  refine YW.cond (V := V) (b := true) rfl (fun _ => YW.ret ?_) (fun h => by cases h)
  exact ⟨.inr rfl, .inr hJ3⟩
theorem loads_row {H : Heap} {V : View} {b e t : Nat} {m n d : Value} (h : H b = some ⟨e, [m, n, d], t⟩) : Loads Tryz.prog H V 48 b 0 (.agg #[m, n, d]) :=
 ⟨true, 3, shapeT_48, .inl ⟨rfl, [m, n, d], rfl, fun j u hj => .inl ⟨_, h, by rw [Nat.zero_add]; exact hj⟩, rfl⟩⟩
theorem splice3 (a b c d e f : Value) : splice [a, b, c] 0 [d, e, f] = [d, e, f] := by simp [splice]
def hor (l : List Rat) (x : Rat) : Nat → Rat
 | 0 => 0
 | r + 1 => hor l x r * x + cf l (l.length - 1 - r)
theorem hor_QB {l : List Rat} {x : Rat} {A B : Nat} (hl : CB A l) (hx : QB B x) (r : Nat) : QB (r * (A + B + 1)) (hor l x r) := by
 induction r with
 | zero => exact QB_zero _
 | succ r ih => exact ((ih.mul hx).add (hl.at _)).mono (by rw [Nat.add_mul]; omega)
theorem eval_c (V : View) (v u : Value) (l : List Rat) (x : Rat) (A B : Nat) (hv : Rats V v l) (hu : RatC V u x) (hA : CB A l) (hB : QB B x) (ll : l.length ≤ 1000) (hfit : (l.length + 1) * (A + B + 1) ≤ 17592186044416) :
  Spec Tryz.prog 60 [v, u] V fun v' V' => RatC V' v' (hor l x l.length) := by
 obtain ⟨A1, c1, rfl, hc1, hm1⟩ := hv.form
 obtain ⟨ux, uy, rfl, o1, o2⟩ := hu.form
 have hqr : ∀ r, r ≤ l.length → QB ((l.length) * (A + B + 1)) (hor l x r) := fun r hr => (hor_QB hA hB r).mono (Nat.mul_le_mul_right _ hr)
 have hf1 : l.length * (A + B + 1) + A + B + 1 ≤ 17592186044416 := by rw [Nat.add_mul] at hfit; omega
 refine (Spec.enterR Tryz.func60 rfl fun Γ hΓ => ?_)
 simp only [Tryz.ntmps60, List.map_cons, List.map_nil, List.length_cons, List.length_nil, Nat.reduceAdd, Nat.reduceSub, List.replicate_succ, List.replicate_zero, List.cons_append, List.nil_append]
 refine Gx.a (by kernel_rfl) fun K hK => ?_
 simp only [XA, XB]
 refine hK _ ?_
 refine Gx.a (by kernel_rfl) fun K hK => ?_
 simp only [XA]
 refine call_go (by kernel_rfl) rfl (qzero_c _) fun v1 V1 hV1 h1 => ?_
 obtain ⟨zx, zy, rfl, o3, o4⟩ := h1.form
 simp only [XA, XB, Nat.reduceAdd]
 refine st_rat rfl rfl rfl o3 o4 ?_
 simp only [XA]
 refine hK _ ?_
 refine XWP.cut (fun s => ∃ (V5 : View) (H5 : Heap) (b4 b5 e4 e5 : Nat) (m a b : Value), StIs (fun Z => [Z 0,Z 1,Z 2,Z 3, .v (.pointer (some ⟨b4, 0, none⟩)), .v (.pointer (some ⟨b5, 0, none⟩)), Z 6,Z 7,Z 8,Z 9,Z 10,Z 11,Z 12,Z 13,Z 14,Z 15,Z 16,Z 17,Z 18]) [] H5 V5 s ∧ H5 b4 = some ⟨e4, [.bool false, .slice none 0 0, .slice none 0 0], 3⟩ ∧ H5 b5 = some ⟨e5, [m, a, b], 3⟩ ∧ RatC V5 (.agg #[m, a, b]) (hor l x l.length) ∧ isOne m = true ∧ isOne a = true ∧ isOne b = true) ?_ ?_
 ·refine Gx.a (by kernel_rfl) fun K hK => ?_
  simp only [XA]
  refine call_go (by kernel_rfl) rfl (backward_c _ _ rfl) fun v2 V2 hV2 h2 => ?_
  obtain ⟨Bs, eB, rfl, hBs⟩ := h2
  simp only [XA]
  refine hK _ ?_
  have hv2 := (hv.up hV1).up hV2
  have hu2 := (hu.mono hV1).mono hV2
  have h12 := h1.mono hV2
  refine XWP.row1 (bx := [_, _]) fun b5 e5 hb5 _ => ?_
  simp only [List.map_cons, List.map_nil, rowS_v, rowS_p, List.length_nil, List.length_cons, Nat.reduceAdd, Nat.reduceEqDiff, ↓reduceIte]
  refine XWP.row1 (bx := [_]) fun b4 e4 hb4 _ => ?_
  simp only [List.map_cons, List.map_nil, rowS_v, rowS_p, List.length_nil, List.length_cons, Nat.reduceAdd, Nat.reduceEqDiff, ↓reduceIte]
  refine XWP.row1 (bx := []) fun b3 e3 hb3 _ => ?_
  simp only [List.map_cons, List.map_nil, rowS_v, rowS_p, List.length_nil, List.length_cons, Nat.reduceAdd, ↓reduceIte]
  have n45 : b4 ≠ b5 := fun h => by subst h; simp [upd] at hb4
  have n34 : b3 ≠ b4 := fun h => by subst h; simp [upd] at hb3
  have n35 : b3 ≠ b5 := fun h => by subst h; simp [upd, n34] at hb3
  obtain ⟨f, hf, hfv⟩ : ∃ f : Nat → Value, (l.length = 0 ∨ ∃ b o, A1 = some ⟨b, o, none⟩ ∧ ∀ i, i < l.length → Loads Tryz.prog (fun _ => none) V2 48 b (o + i * 3) (f i)) ∧ ∀ i, i < l.length → RatC V2 (f i) (cf l i) ∧ ∃ m n d, f i = .agg #[m, n, d] ∧ isOne m = true ∧ isOne n = true ∧ isOne d = true := by
   rcases Nat.eq_zero_or_pos l.length with h0 | h0
   ·exact ⟨fun _ => undef, .inl h0, fun i hi => by omega⟩
   ·obtain ⟨b, o, rfl⟩ := SlAt.addr hv2 h0
    obtain ⟨f, hf⟩ := SlAt.vals hv2
    refine ⟨f, .inr ⟨b, o, rfl, fun i hi => (hf i hi).2.2 _⟩, fun i hi => ⟨?_, (hf i hi).2.1⟩⟩
    have := (hf i hi).1
    rw [cf_get hi] at this
    exact this
  refine XWP.block (XWP.range hΓ (L := bwL l.length f) (I := fun r H' V' => V2.le V' ∧ H' b3 = some ⟨e3, [.bool (ng x), ux, uy], 3⟩ ∧ H' b4 = some ⟨e4, [.bool false, .slice none 0 0, .slice none 0 0], 3⟩ ∧ ∃ m a b, H' b5 = some ⟨e5, [m, a, b], 3⟩ ∧ RatC V' (.agg #[m, a, b]) (hor l x r) ∧ isOne m = true ∧ isOne a = true ∧ isOne b = true) (Ix := fun _ _ => False) rfl (by kernel_rfl) (fun args ha => ?_) (backward_it hBs (by omega) hf) ?_ (fun r H' V' h => h.1) (fun _ _ h => h.elim) ?_ ?_ (fun _ _ h => h.elim))
  ·obtain ⟨r, _, rfl⟩ := List.mem_map.1 ha
   rfl
  ·refine ⟨View.le_refl _, upd_at _ _ _, ?_, _, _, _, ?_, h12, rfl, o3, o4⟩
   ·rw [upd_off (Ne.symm n34), upd_at]
   ·rw [upd_off (Ne.symm n35), upd_off (Ne.symm n45), upd_at]
  ·rintro Γ' r args H' V' hL ⟨hV', i3, i4, m, a, b, i5, hx5, q1, q2, q3⟩
   have hr : r < l.length := by
    have := (List.getElem?_eq_some_iff.1 hL).1
    rwa [bwL_len] at this
   rw [bwL_get hr] at hL
   cases hL
   obtain ⟨hfi, m6, n6, d6, e6, p1, p2, p3⟩ := hfv (l.length - 1 - r) (by omega)
   rw [e6] at hfi ⊢
   simp only [XA, setPs]
   refine Gx.c (by kernel_rfl) fun K hK => ?_
   simp only [XA, XB]
   refine st_rat rfl rfl p1 p2 p3 ?_
   simp only [XA]
   refine hK _ ?_
   intro Γ''
   refine XWP.block ?_
   (refine XWP.drw1 [0, 1, 3, 2, 4, 5] (by kernel_rfl) (by kernel_rfl) (by kernel_rfl) fun K hK => ?_) <;> dsimp only [pickOps, List.getElem?_cons_zero, List.getElem?_cons_succ]
   simp only [XA]
   refine ld_mem (loads_row i5) ?_
   simp only [XA]
   refine ld_mem (loads_row i3) ?_
   simp only [XA, XB, Nat.reduceAdd, Nat.reduceLeDiff, ↓reduceIte]
   refine call_go (by kernel_rfl) rfl (qmul_c _ _ _ _ _ hx5 (hu2.mono hV') ((hqr r (by omega)).qf (by omega)) (hB.qf (by omega))) fun v7 V7 hV7 h7 => ?_
   simp only [XA]
   refine call_go (by kernel_rfl) rfl (qadd_c _ _ _ _ _ h7 ((hfi.mono hV').mono hV7) (((hqr r (by omega)).mul hB).qf (by omega)) ((hA.at _).qf (by omega))) fun v8 V8 hV8 h8 => ?_
   obtain ⟨x8, y8, rfl, o5, o6⟩ := h8.form
   simp only [XA]
   refine st_rowA shapeT_48 (all3 rfl o5 o6) rfl i5 (by simp) ?_
   simp only [XA, splice3]
   exact hK _ ⟨View.le_trans hV' (View.le_trans hV7 hV8), (upd_off n35).trans i3, (upd_off n45).trans i4, _, _, _, upd_at _ _ _, h8, rfl, o5, o6⟩
  ·rintro H' V' ⟨hV', i3, i4, m, a, b, i5, hx5, q1, q2, q3⟩
   rw [bwL_len] at hx5
   exact ⟨V', H', b4, b5, e4, e5, m, a, b, StIs.of (by exact rfl), i4, i5, hx5, q1, q2, q3⟩
 rintro s ⟨V5, H5, b4, b5, e4, e5, m, a, b, hs, i4, i5, hx5, q1, q2, q3⟩
 obtain ⟨z, rfl⟩ := hs.out
 try dsimp only
 clear hs
 refine Gx.a (by kernel_rfl) fun K hK => ?_
 simp only [XA]
 refine ld_mem (loads_row i5) ?_
 simp only [XA]
 refine st_rowA shapeT_48 (all3 q1 q2 q3) rfl i4 (by simp) ?_
 simp only [XA, splice3]
 refine hK _ (XWP.ret ?_)
 try simp only [thenX_ret, inBlockX_ret]
 refine ret_go [.agg #[m, a, b]] ?_ hx5
 simp [resAll, resV, cellsV, upd_at, shapeT_48]
end Go.Proofs.YthoboehbadmlmaaGreat
end
section
namespace Go.Proofs.YthoboehbadmlmaaGreat
open Go Go.RowKit
attribute [local irreducible] XWP Spec SpecO XPub XCall seqX clX apX stX ldX iaX slX
def pwr (x : Rat) : Nat → Rat
 | 0 => 1
 | k + 1 => pwr x k * x
def evr (l : List Rat) (x : Rat) : Nat → Rat
 | 0 => 0
 | k + 1 => evr l x k + cf l k * pwr x k
theorem evr_Sm (l : List Rat) (x : Rat) (k : Nat) : evr l x k = Sm (fun j => cf l j * pwr x j) k := by
 induction k with
 | zero => rfl
 | succ k ih => rw [evr, ih]; rfl
theorem hor_evr (l : List Rat) (x : Rat) : hor l x l.length = evr l x l.length := by
 have key : ∀ r, r ≤ l.length → hor l x r = Sm (fun j => cf l (l.length - r + j) * pwr x j) r := by
  intro r
  induction r with
  | zero => intro _; rfl
  | succ r ih =>
   intro hr
   rw [hor, ih (by omega), Sm_front]
   have e1 : Sm (fun j => cf l (l.length - (r + 1) + (j + 1)) * pwr x (j + 1)) r = x * Sm (fun j => cf l (l.length - r + j) * pwr x j) r := by
    rw [← Sm_mul]
    refine Sm_congr _ fun j _ => ?_
    rw [show l.length - (r + 1) + (j + 1) = l.length - r + j by omega, pwr]; grind
   rw [e1, Nat.add_zero, show l.length - (r + 1) = l.length - 1 - r by omega, pwr]; grind
 rw [key _ (Nat.le_refl _), evr_Sm, Nat.sub_self]
 exact Sm_congr _ fun j _ => by rw [Nat.zero_add]
theorem pwr_QB {x : Rat} {B : Nat} (hx : QB B x) (k : Nat) : QB (k * B) (pwr x k) := by
 induction k with
 | zero => exact QB_one _
 | succ k ih => exact (ih.mul hx).mono (by rw [Nat.add_mul]; omega)
theorem evr_QB {l : List Rat} {x : Rat} {A B n : Nat} (hl : CB A l) (hx : QB B x) (k : Nat) (hk : k ≤ n) : QB (k * (A + n * B + 1)) (evr l x k) := by
 induction k with
 | zero => exact QB_zero _
 | succ k ih =>
  have h1 := Nat.mul_le_mul_right B (show k ≤ n by omega)
  exact ((ih (by omega)).add ((hl.at k).mul (pwr_QB hx k))).mono (by rw [Nat.add_mul]; omega)
section
variable {V : View} {v u : Value} {P Q : List Raw} (hv : Raws V v P) (hu : Raws V u Q) (fP : fewR P) (fQ : fewR Q) (lP : P.length ≤ 9) (lQ : Q.length ≤ 9)
include hv hu fP fQ lP lQ
end
def sumG (P Q : List Raw) : List Rat := comRP (qs P) (qs Q)
def sumA (P Q : List Raw) : List Rat := (partP (qs P) (sumG P Q)).1
def sumB (P Q : List Raw) : List Rat := (partP (qs Q) (sumG P Q)).1
def ev1 (l : List Rat) : Rat := evr l 1 l.length
def sumE (P Q : List Raw) : Int := if bad2 P Q = true then 1 else if Q.length = 0 then 31 else if ev1 (sumB P Q) = 0 then 31 else 0
def sumQ (P Q : List Raw) : Rat := if sumE P Q = 0 then ev1 (sumA P Q) / ev1 (sumB P Q) else 0
theorem sumQ_err {P Q : List Raw} (h : sumE P Q ≠ 0) : sumQ P Q = 0 := if_neg h
section
variable {V : View} {v u : Value} {P Q : List Raw} (hv : Raws V v P) (hu : Raws V u Q) (fP : fewR P) (fQ : fewR Q) (lP : P.length ≤ 5) (lQ : Q.length ≤ 5)
include hv hu fP fQ lP lQ
end

theorem st_six {P : Program} {t i : Nat} {s : XS} {ops : Array Oper} {rest : List Oper} {K : XS → Prop} {d : Option Tmp} {x1 x2 x3 x4 x5 x6 : Value} {vs : List Value} (hs : shapeT P t = some (true, 6)) (hb : s.bx[i]? = some vs) (hl : vs.length = 6) (h1 : [x1, x2, x3, x4, x5, x6].all isOne = true) (h : seqX P ops rest K (XS.put ⟨s.t, s.bx.set i [x1, x2, x3, x4, x5, x6], s.H, s.V⟩ d (.v undef))) : stX P ops rest K s d t (.p i 0) (.v (.agg #[x1, x2, x3, x4, x5, x6])) := by
 refine st_agg (cs := [x1, x2, x3, x4, x5, x6]) hs hb rfl ⟨rfl, h1, by omega, ?_⟩
 have : splice vs 0 [x1, x2, x3, x4, x5, x6] = [x1, x2, x3, x4, x5, x6] := by
  unfold splice; simp [hl]
 rw [this]; exact h
theorem placesT_62 : placesT Tryz.prog 62 = some [(0, 3), (3, 3)] := by kernel_rfl
theorem bd_chain {a b c d e f : Value} : BuildsTo Tryz.prog 62 #[(0, .agg #[a, b, c]), (1, .agg #[d, e, f])] (.agg #[a, b, c, d, e, f]) := by
 refine bd_run placesT_62 zeroT_62 ?_
 show Instr.fill _ _ [(0, .agg #[a, b, c]), (1, .agg #[d, e, f])] = _
 rw [fill_three (off := 0) rfl (by simp), fill_three (off := 3) rfl (by simp)]; rfl
theorem chained_c (V : View) (s1 s2 v : Value) (r1 c1 r2 c2 : Int) (L1 L2 S : List Raw) (h1 : Raws V s1 L1) (h2 : Raws V s2 L2) (hv : Raws V v S) :
  Spec Tryz.prog 23 [.agg #[.int .i64 r1, .int .i64 c1, s1, .int .i64 r2, .int .i64 c2, s2], v] V fun v' V' => ∃ w1 w2 u, v' = .tuple #[.agg #[.int .i64 r1, .int .i64 c1, w1, .int .i64 r2, .int .i64 c2, w2], u, .bool (decide (r1 ≤ 5) && decide (c2 ≤ 4))] ∧ Raws V' w1 (fewL L1 100) ∧ Raws V' w2 (fewL L2 100) ∧ Raws V' u (fewL S 20) := by
 obtain ⟨A1, q1, rfl, _, _⟩ := h1.form
 obtain ⟨A2, q2, rfl, _, _⟩ := h2.form
 refine (Spec.enter Tryz.func23 rfl fun Γ => ?_)
 simp only [Tryz.ntmps23, List.map_cons, List.map_nil, List.length_cons, List.length_nil, Nat.reduceAdd, Nat.reduceSub, List.replicate_succ, List.replicate_zero, List.cons_append, List.nil_append]
 refine Gx.a (by kernel_rfl) fun K hK => ?_
 simp only [XM, XA]
 refine hK _ ?_
 (refine XWP.drw [0, 1, 2, 4, 5, 6, 8, 3, 10, 11, 7, 9, 12, 13, 14, 15, 16] (by kernel_rfl) (by kernel_rfl) (by kernel_rfl) fun K hK => ?_) <;> dsimp only [pickOps, List.getElem?_cons_zero, List.getElem?_cons_succ]
 simp only [XM, XA, XB, Nat.reduceAdd]
 refine call_go (by kernel_rfl) rfl (lfew_c _ _ L1 100 h1 (by omega)) fun w1 V1 hV1 g1 => ?_
 simp only [XM, XA]
 refine call_go (by kernel_rfl) rfl (lfew_c _ _ L2 100 (h2.up hV1) (by omega)) fun w2 V2 hV2 g2 => ?_
 simp only [XA]
 refine call_go (by kernel_rfl) rfl (lfew_c _ _ S 20 ((hv.up hV1).up hV2) (by omega)) fun u V3 hV3 g3 => ?_
 have e1 : isOne w1 = true := by obtain ⟨_, _, rfl, _, _⟩ := g1.form; rfl
 have e2 : isOne w2 = true := by obtain ⟨_, _, rfl, _, _⟩ := g2.form; rfl
 simp only [XA]
 refine st_one shapeT_22 rfl e1 (by simp) ?_
 simp only [XM, XA, Nat.reduceAdd]
 refine st_one shapeT_22 rfl e2 (by simp) ?_
 simp only [XA]
 refine hK _ ?_
 refine XWP.cut (fun s => StIs (fun Z => [Z 0,Z 1,Z 2,Z 3, .p 1 0, .v u, .v (.bool (decide (r1 ≤ 5) && decide (c2 ≤ 4))), Z 7,Z 8,Z 9,Z 10,Z 11,Z 12,Z 13,Z 14,Z 15,Z 16,Z 17,Z 18,Z 19,Z 20,Z 21,Z 22,Z 23,Z 24,Z 25,Z 26,Z 27,Z 28,Z 29,Z 30,Z 31,Z 32]) [[.int .i64 r1, .int .i64 c1, w1, .int .i64 r2, .int .i64 c2, w2], [.int .i64 r1, .int .i64 c1, w1, .int .i64 r2, .int .i64 c2, w2]] (fun _ => none) V3 s ∧ True) ?_ ?_
 ·(refine XWP.drwT1 (.lin [0, 1, 2, 3, 4, 5, 6, 7, 8] (.two (.lin [9, 10, 11, 12, 13, 14] .nil) (.lin [12, 13, 9, 10, 11, 14] .nil))) (by kernel_rfl) (by kernel_rfl) (by kernel_rfl) fun K hK => ?_)
  cases b1 : decide (r1 ≤ 5)
  ·have eb : (decide (r1 ≤ 5) && decide (c2 ≤ 4)) = false := by rw [b1]; rfl
   simp only [XM, XA, XB, gateX, Nat.reduceAdd, Nat.reduceLeDiff, ↓reduceIte, b1]
   refine And.intro ?_ ?_
   ·refine st_six shapeT_57 rfl rfl (by simp only [List.all_cons, List.all_nil, Bool.and_true, e1, e2]; rfl) ?_
    simp only [XA]
    exact hK _ ⟨StIs.of (by rw [eb]; exact rfl), trivial⟩
   ·refine st_six shapeT_57 rfl rfl (by simp only [List.all_cons, List.all_nil, Bool.and_true, e1, e2]; rfl) ?_
    simp only [XA, gateX, ↓reduceIte]
    exact hK _ ⟨StIs.of (by rw [eb]; exact rfl), trivial⟩
  ·have eb : (decide (r1 ≤ 5) && decide (c2 ≤ 4)) = decide (c2 ≤ 4) := by rw [b1]; rfl
   simp only [XM, XA, XB, gateX, Nat.reduceAdd, Nat.reduceLeDiff, ↓reduceIte, beq_self_eq_true, b1]
   refine And.intro ?_ ?_
   ·refine st_six shapeT_57 rfl rfl (by simp only [List.all_cons, List.all_nil, Bool.and_true, e1, e2]; rfl) ?_
    simp only [XA]
    exact hK _ ⟨StIs.of (by rw [eb]; exact rfl), trivial⟩
   ·refine st_six shapeT_57 rfl rfl (by simp only [List.all_cons, List.all_nil, Bool.and_true, e1, e2]; rfl) ?_
    simp only [XA, XB, gateX, ↓reduceIte, beq_self_eq_true]
    exact hK _ ⟨StIs.of (by rw [eb]; exact rfl), trivial⟩
 rintro s ⟨hs, _⟩
 obtain ⟨z, rfl⟩ := hs.out
 try dsimp only
 refine XWP.ret ?_
 try simp only [thenX_ret, inBlockX_ret]
 exact ret_go _ (by simp [resAll, resV, cellsV, shapeT_57]; rfl) ⟨w1, w2, u, rfl, (g1.up hV2).up hV3, g2.up hV3, g3⟩
theorem of_c' (V : View) (s1 s2 : Value) (r1 c1 r2 c2 : Int) (e1 : isOne s1 = true) (e2 : isOne s2 = true) :
  Spec Tryz.prog 25 [.agg #[.int .i64 r1, .int .i64 c1, s1, .int .i64 r2, .int .i64 c2, s2]] V fun v' V' => v' = .agg #[.int .i64 r1, .int .i64 c1, s1, .int .i64 r2, .int .i64 c2, s2] := by
 refine (Spec.enter Tryz.func25 rfl fun Γ => ?_)
 simp only [Tryz.ntmps25, List.map_cons, List.map_nil, List.length_cons, List.length_nil, Nat.reduceAdd, Nat.reduceSub, List.replicate_succ, List.replicate_zero, List.cons_append, List.nil_append]
 refine Gx.a (by kernel_rfl) fun K hK => ?_
 simp only [XM, XA]
 refine hK _ ?_
 refine Gx.a (by kernel_rfl) fun K hK => ?_
 simp only [XM, XA, Nat.reduceAdd, Nat.reduceLeDiff, ↓reduceIte]
 refine bd_go (by kernel_rfl) #[(0, .agg #[.int .i64 r1, .int .i64 c1, s1]), (1, .agg #[.int .i64 r2, .int .i64 c2, s2])] (by simp [ev_tmp, SV.val]) bd_chain ?_
 simp only [XA]
 refine st_six shapeT_62 rfl rfl (by simp only [List.all_cons, List.all_nil, Bool.and_true, e1, e2]; rfl) ?_
 simp only [XA]
 refine hK _ (XWP.ret ?_)
 try simp only [thenX_ret, inBlockX_ret]
 exact ret_go _ (by simp [resAll, resV, cellsV, shapeT_62]; rfl) rfl

end Go.Proofs.YthoboehbadmlmaaGreat
end
section
namespace Go.Proofs.YthoboehbadmlmaaGreat
theorem cv_ones (f : Nat → Rat) (k : Nat) : cv f (fun _ => 1) k = Sm f (k + 1) := Sm_congr _ fun j _ => by grind
theorem cv_psum (f g : Nat → Rat) (k : Nat) : cv (fun i => Sm f (i + 1)) g k = Sm (cv f g) (k + 1) := by
 have e : (fun i => Sm f (i + 1)) = cv f (fun _ => 1) := by funext i; exact (cv_ones f i).symm
 rw [e, cv_assoc, cv_comm (fun _ => 1) g, ← cv_assoc, cv_ones]
theorem Sm_stop {f : Nat → Rat} {A : Nat} (h : ∀ j, A ≤ j → f j = 0) {n : Nat} (hn : A ≤ n) : Sm f n = Sm f A := Sm_more hn fun j h1 _ => h j h1
theorem tot_cv {f g : Nat → Rat} {A B : Nat} (hf : ∀ j, A ≤ j → f j = 0) (hg : ∀ j, B ≤ j → g j = 0) : (∀ j, A + B ≤ j → cv f g j = 0) ∧ ∀ N, A + B ≤ N → Sm (cv f g) N = Sm f A * Sm g B := by
 have hz : ∀ j, A + B ≤ j → cv f g j = 0 := fun j hj => Sm_zero _ fun i hi => by
  rcases Nat.lt_or_ge i A with h | h
  ·rw [hg (j - i) (by omega)]; grind
  ·rw [hf i h]; grind
 refine ⟨hz, fun N hN => ?_⟩
 rw [Sm_stop hz hN]
 have e := cv_psum g f (A + B)
 have h1 : Sm (cv g f) (A + B + 1) = Sm (cv f g) (A + B) := by rw [cv_comm g f]; exact Sm_stop hz (by omega)
 rw [← h1, ← e, cv_comm]
 show Sm (fun j => f j * Sm g (A + B - j + 1)) (A + B + 1) = _
 rw [Sm_more (f := fun j => f j * Sm g (A + B - j + 1)) (n := A) (by omega) fun j h _ => by rw [hf j h]; grind]
 have e2 : Sm (fun j => f j * Sm g (A + B - j + 1)) A = Sm (fun j => Sm g B * f j) A := Sm_congr _ fun j hj => by
  rw [Sm_stop hg (show B ≤ A + B - j + 1 by omega)]; grind
 rw [e2, Sm_mul]; grind
structure Rec (l q : Nat → Rat) (L : Nat) : Prop where
 one : q 0 = 1
 top : ∀ j, L < j → q j = 0
 all : ∀ k, L ≤ k → cv q l k = 0
theorem Rec.gen {l q : Nat → Rat} {L : Nat} (h : Rec l q L) (N : Nat) {l0 : Nat → Rat} (e : ∀ i, i < N → l0 i = l i) : Gen l0 q L N :=
 Gen.upto (l := l) ⟨h.one, h.top, fun k h1 _ => h.all k h1⟩ fun i hi => (e i hi).symm
def recL (D : Nat → Rat) (n : Nat) : List Rat := mk n fun j => -D (j + 1)
theorem recL_len (D : Nat → Rat) (n : Nat) : (recL D n).length = n := mk_len _ _
theorem frQ_recL {l D : Nat → Rat} {n : Nat} (h : Rec l D n) : cf (frQ (recL D n)) = D := by
 funext j
 cases j with
 | zero => rw [cf_frQ0, h.one]
 | succ j =>
  rw [cf_frQ]
  unfold recL
  rw [cf_mk]
  split
  ·grind
  ·rw [h.top (j + 1) (by omega)]; grind
theorem mk_take (l : Nat → Rat) {a b : Nat} (h : a ≤ b) : (mk b l).take a = mk a l := by
 refine List.ext_getElem (by rw [List.length_take, mk_len, mk_len]; omega) fun i h1 h2 => ?_
 rw [cf_get h1, cf_get h2, cf_take, cf_mk, cf_mk]
 rw [mk_len] at h2
 rw [if_pos h2, if_pos (by omega), if_pos h2]
theorem nx_rec {l D : Nat → Rat} {n K : Nat} (h : Rec l D n) (hK : n ≤ K) : ∀ N, nxI (mk K l) (recL D n) N = mk (K + N) l
 | 0 => rfl
 | N + 1 => by
  have ih := nx_rec h hK N
  show nxI (mk K l) (recL D n) N ++ [nxS (nxI (mk K l) (recL D n) N) (recL D n) (recL D n).length] = _
  rw [ih, show K + (N + 1) = (K + N) + 1 by omega, mk_succ]
  congr 1
  have e := cv_next (mk (K + N) l) (recL D n) (l (K + N)) (by rw [recL_len, mk_len]; omega)
  rw [← mk_succ, frQ_recL h, mk_len] at e
  have e2 : cv D (cf (mk (K + N + 1) l)) (K + N) = cv D l (K + N) := cv_upto fun j hj => by rw [cf_mk, if_pos (by omega)]
  rw [e2, h.all _ (by omega)] at e
  congr 1
  grind
theorem sum_rec {l D : Nat → Rat} {n : Nat} {u : Rat} (h : Rec l D n) (hD : Sm D (n + 1) ≠ 0) (hu : Sm (cv D l) n = u * Sm D (n + 1)) :
  let a := bmOut (bmI (mk (2 * n) l) (2 * n))
  a.length ≤ n ∧ 2 * (bmI (mk (2 * n) l) (2 * n)).size ≤ 2 * n ∧ (∀ N, nxI (mk (2 * n) l) a N = mk (2 * n + N) l) ∧ Sm (cf (frQ a)) (a.length + 1) ≠ 0 ∧ Sm (cf (frP (mk (2 * n) l) a)) a.length = u * Sm (cf (frQ a)) (a.length + 1) := by
 intro a
 have h2 : (mk (2 * n) l).length = 2 * n := mk_len _ _
 have hcf : ∀ i, i < 2 * n → cf (mk (2 * n) l) i = l i := fun i hi => by rw [cf_mk, if_pos hi]
 have hg := h.gen (2 * n) hcf
 have hsz : (bmI (mk (2 * n) l) (2 * n)).size ≤ n := bm_least _ (2 * n) hg (2 * n) (Nat.le_refl _)
 have ha : a.length = (bmI (mk (2 * n) l) (2 * n)).size := bmOut_len _
 have hga : Gen (cf (mk (2 * n) l)) (cf (frQ a)) a.length (2 * n) := by
  have := bm_out_gen (mk (2 * n) l)
  rw [h2] at this
  exact this
 have hgd : Gen (cf (mk (2 * n) l)) (cf (frQ (recL D n))) (recL D n).length (2 * n) := by rw [frQ_recL h, recL_len]; exact hg
 have hnx : ∀ N, nxI (mk (2 * n) l) a N = mk (2 * n + N) l := fun N => by
  rw [nx_same (b := recL D n) (by rw [h2]; exact hga) (by rw [h2]; exact hgd) (by rw [recL_len, h2]; omega) N]
  exact nx_rec h (by omega) N
 have hr : Rec l (cf (frQ a)) a.length := by
  refine ⟨hga.1, hga.2.1, fun k hk => ?_⟩
  have := nx_gen (a := a) (by rw [h2]; omega) (by rw [h2]; exact hga) (k + 1)
  rw [hnx, h2] at this
  have e := this.2.2 k hk (by omega)
  rw [← e]
  exact cv_upto fun j hj => by rw [cf_mk, if_pos (by omega)]
 have hp : ∀ i, cf (frP (mk (2 * n) l) a) i = cv (cf (frQ a)) l i := fun i => by
  rw [cf_frP]
  split
  ·rename_i hi
   rw [cv_comm, mk_take l (by omega)]
   exact cv_upto fun j hj => by rw [cf_mk, if_pos (by omega)]
  ·rename_i hi
   rw [hr.all i (by omega)]
 have hps : ∀ N, Sm (cf (frP (mk (2 * n) l) a)) N = Sm (cv (cf (frQ a)) l) N := fun N => Sm_congr _ fun j _ => hp j
 have key : Sm (cv (cf (frQ a)) l) a.length * Sm D (n + 1) = Sm (cv D l) n * Sm (cf (frQ a)) (a.length + 1) := by
  have t1 := (tot_cv (f := cv (cf (frQ a)) l) (g := D) (A := a.length) (B := n + 1) hr.all fun j hj => h.top j (by omega)).2 (a.length + n + 1) (by omega)
  have t2 := (tot_cv (f := cv D l) (g := cf (frQ a)) (A := n) (B := a.length + 1) h.all fun j hj => hr.top j (by omega)).2 (a.length + n + 1) (by omega)
  rw [← t1, ← t2]
  congr 1
  rw [cv_assoc, cv_comm l D, cv_comm]
 have hup : Sm (cv (cf (frQ a)) l) a.length = u * Sm (cf (frQ a)) (a.length + 1) := by
  rw [hu] at key
  have : (Sm (cv (cf (frQ a)) l) a.length - u * Sm (cf (frQ a)) (a.length + 1)) * Sm D (n + 1) = 0 := by grind
  rcases Rat.mul_eq_zero.1 this with g | g
  ·grind
  ·exact absurd g hD
 have hq1 : Sm (cf (frQ a)) (a.length + 1) ≠ 0 := fun h0 => by
  have hm : 1 ≤ a.length := by
   rcases Nat.eq_zero_or_pos a.length with g | g
   ·rw [g] at h0
    simp only [Sm] at h0
    rw [hr.one] at h0
    exact absurd h0 (by decide +kernel)
   ·exact g
  have hp0 : Sm (cv (cf (frQ a)) l) a.length = 0 := by rw [hup, h0]; grind
  have hg2 : Gen (cf (mk (2 * n) l)) (fun i => Sm (cf (frQ a)) (i + 1)) (a.length - 1) (2 * n) := by
   refine Gen.upto (l := l) ⟨?_, fun j hj => ?_, fun k hk _ => ?_⟩ fun i hi => (hcf i hi).symm
   ·simp only [Sm]; rw [hr.one]; grind
   ·show Sm (cf (frQ a)) (j + 1) = 0
    rw [Sm_stop (A := a.length + 1) (fun j hj => hr.top j (by omega)) (by omega)]; exact h0
   ·rw [cv_psum, Sm_stop (A := a.length) hr.all (by omega)]; exact hp0
  have := bm_least _ (2 * n) hg2 (2 * n) (Nat.le_refl _)
  omega
 exact ⟨by omega, by omega, hnx, hq1, by rw [hps]; exact hup⟩
def LinG (G : Grid) (R n : Nat) (r x : Nat → Rat) : Prop := ∀ i, i < R → Sm (fun j => G i j * x j) n = r i
def gsub (G : Grid) (i t : Nat) (f : Rat) : Grid := fun i' j => if i' = i then G i j - f * G t j else G i' j
def vsub (r : Nat → Rat) (i t : Nat) (f : Rat) : Nat → Rat := fun i' => if i' = i then r i - f * r t else r i'
theorem lin_sub {G : Grid} {R n i t : Nat} {f : Rat} {r x : Nat → Rat} (hi : i < R) (ht : t < R) (hne : i ≠ t) : LinG (gsub G i t f) R n (vsub r i t f) x ↔ LinG G R n r x := by
 have ei : Sm (fun j => gsub G i t f i j * x j) n = Sm (fun j => G i j * x j) n - f * Sm (fun j => G t j * x j) n := by
  rw [← Sm_lin]; exact Sm_congr _ fun j _ => by simp only [gsub, if_pos]
 have eo : ∀ k, k ≠ i → Sm (fun j => gsub G i t f k j * x j) n = Sm (fun j => G k j * x j) n := fun k hk => Sm_congr _ fun j _ => by simp only [gsub, if_neg hk]
 constructor
 ·intro h
  have h1 := h t ht
  rw [eo t (Ne.symm hne)] at h1
  simp only [vsub, if_neg (Ne.symm hne)] at h1
  intro k hk
  by_cases e : k = i
  ·subst e
   have h2 := h k hk
   rw [ei, h1] at h2
   simp only [vsub, if_pos] at h2; grind
  ·have h2 := h k hk
   rw [eo k e] at h2
   simp only [vsub, if_neg e] at h2; exact h2
 ·intro h k hk
  by_cases e : k = i
  ·subst e
   rw [ei, h k hk, h t ht]; simp only [vsub, if_pos]
  ·rw [eo k e, h k hk]; simp only [vsub, if_neg e]
theorem lin_swap {G : Grid} {R n p t : Nat} {r x : Nat → Rat} (hp : p < R) (ht : t < R) : LinG (gsw G p t) R n (fun i => r (swp p t i)) x ↔ LinG G R n r x := by
 constructor
 ·intro h i hi
  have := h (swp p t i) (swp_lt hp ht hi)
  simp only [gsw, swp_swp] at this; exact this
 ·intro h i hi; exact h (swp p t i) (swp_lt hp ht hi)
structure REq (G G' : Grid) (R n : Nat) : Prop where
 ker : ∀ x, LinG G' R n (fun _ => 0) x ↔ LinG G R n (fun _ => 0) x
 col : ∀ c x, LinG G' R n (fun i => G' i c) x ↔ LinG G R n (fun i => G i c) x
theorem REq.refl (G : Grid) (R n : Nat) : REq G G R n := ⟨fun _ => Iff.rfl, fun _ _ => Iff.rfl⟩
theorem REq.trans {A B C : Grid} {R n : Nat} (h : REq A B R n) (k : REq B C R n) : REq A C R n := ⟨fun x => (k.ker x).trans (h.ker x), fun c x => (k.col c x).trans (h.col c x)⟩
theorem REq.sub (G : Grid) {R n i t : Nat} (f : Rat) (hi : i < R) (ht : t < R) (hne : i ≠ t) : REq G (gsub G i t f) R n := by
 refine ⟨fun x => ?_, fun c x => ?_⟩
 ·have e : (fun _ => (0 : Rat)) = vsub (fun _ => 0) i t f := by
   funext k; unfold vsub; split
   ·grind
   ·rfl
  rw [← lin_sub (G := G) hi ht hne (f := f) (r := fun _ => 0), ← e]
 ·have e : (fun k => gsub G i t f k c) = vsub (fun k => G k c) i t f := by funext k; unfold vsub gsub; rfl
  rw [e, lin_sub hi ht hne]
theorem REq.swap (G : Grid) {R n p t : Nat} (hp : p < R) (ht : t < R) : REq G (gsw G p t) R n :=
 ⟨fun x => lin_swap (r := fun _ => 0) hp ht, fun c x => lin_swap (r := fun i => G i c) hp ht⟩
theorem gcol_lin {G : Grid} {R n t k : Nat} {r x : Nat → Rat} (ht : t < R) (hd : G t k ≠ 0) : LinG (gcol G t k) R n (fun i => if i = t then r t / G t k else r i - G i k * (r t / G t k)) x ↔ LinG G R n r x := by
 have et : Sm (fun j => gcol G t k t j * x j) n = Sm (fun j => G t j * x j) n / G t k := by
  rw [← Sm_div]; exact Sm_congr _ fun j _ => by simp only [gcol, if_pos]
 have ei : ∀ i, i ≠ t → Sm (fun j => gcol G t k i j * x j) n = Sm (fun j => G i j * x j) n - G i k * (Sm (fun j => G t j * x j) n / G t k) := fun i hi => by
  rw [← Sm_div, ← Sm_lin]; exact Sm_congr _ fun j _ => by simp only [gcol, if_neg hi]
 constructor
 ·intro h
  have h0 := h t ht
  rw [et] at h0
  simp only [if_pos] at h0
  have h1 := div_inj hd h0
  intro i hi
  by_cases e : i = t
  ·rw [e]; exact h1
  ·have h2 := h i hi
   rw [ei i e] at h2
   simp only [if_neg e] at h2
   rw [h1] at h2; grind
 ·intro h i hi
  by_cases e : i = t
  ·rw [e, et, h t ht]; simp only [if_pos]
  ·rw [ei i e, h i hi, h t ht]; simp only [if_neg e]
theorem REq.gcol (G : Grid) {R n t k : Nat} (ht : t < R) (hd : G t k ≠ 0) : REq G (gcol G t k) R n := by
 refine ⟨fun x => ?_, fun c x => ?_⟩
 ·have e : (fun _ => (0 : Rat)) = fun i => if i = t then (0 : Rat) / G t k else 0 - G i k * (0 / G t k) := by
   funext i; rw [Rat.div_def, Rat.zero_mul]
   split
   ·rfl
   ·grind
  rw [← gcol_lin ht hd (r := fun _ => 0), ← e]
 ·exact gcol_lin ht hd (r := fun i => G i c)
theorem few_eqs : ∀ (n R : Nat) (G : Grid), R < n → ∃ x : Nat → Rat, (∃ j, j < n ∧ x j ≠ 0) ∧ LinG G R n (fun _ => 0) x
 | 0, R, G, h => by omega
 | n + 1, R, G, h => by
  by_cases hz : ∀ i, i < R → G i n = 0
  ·refine ⟨fun j => if j = n then 1 else 0, ⟨n, by omega, by dsimp only; rw [if_pos rfl]; decide⟩, fun i hi => ?_⟩
   refine Sm_zero _ fun j hj => ?_
   by_cases e : j = n
   ·rw [e, hz i hi]; grind
   ·dsimp only; rw [if_neg e]; grind
  ·obtain ⟨p, hp⟩ := Classical.not_forall.1 hz
   obtain ⟨hpR, hd⟩ := Classical.not_imp.1 hp
   obtain ⟨s, hs⟩ : ∃ s : Nat → Nat, s = fun i => if i < p then i else i + 1 := ⟨_, rfl⟩
   obtain ⟨x, ⟨j0, hj0, hx0⟩, hx⟩ := few_eqs n (R - 1) (fun i j => G (s i) j - (G (s i) n / G p n) * G p j) (by omega)
   obtain ⟨S, hS⟩ : ∃ S, S = Sm (fun j => G p j * x j) n := ⟨_, rfl⟩
   refine ⟨fun j => if j = n then -(S / G p n) else x j, ⟨j0, by omega, by dsimp only; rw [if_neg (by omega)]; exact hx0⟩, fun i hi => ?_⟩
   have hsum : ∀ i, Sm (fun j => G i j * (if j = n then -(S / G p n) else x j)) (n + 1) = Sm (fun j => G i j * x j) n + G i n * -(S / G p n) := fun i => by
    rw [Sm, if_pos rfl]
    congr 1
    exact Sm_congr _ fun j hj => by rw [if_neg (by omega)]
   rw [hsum]
   by_cases e : i = p
   ·rw [e, ← hS, Rat.mul_comm, Rat.neg_mul, Rat.div_mul_cancel hd]; grind
   ·have hi' : ∃ k, k < R - 1 ∧ s k = i := by
     by_cases h1 : i < p
     ·exact ⟨i, by omega, by rw [hs]; dsimp only; rw [if_pos h1]⟩
     ·exact ⟨i - 1, by omega, by rw [hs]; dsimp only; rw [if_neg (by omega)]; omega⟩
    obtain ⟨k, hk, rfl⟩ := hi'
    have h1 := hx k hk
    dsimp only at h1
    rw [Sm_lin, ← hS] at h1
    rw [Rat.div_def] at h1 ⊢
    grind
def UniG (G : Grid) (R n : Nat) : Prop := ∀ x, LinG G R n (fun _ => 0) x → ∀ j, j < n → x j = 0
theorem UniG.req {G G' : Grid} {R n : Nat} (h : REq G G' R n) : UniG G' R n ↔ UniG G R n := ⟨fun k x hx => k x ((h.ker x).2 hx), fun k x hx => k x ((h.ker x).1 hx)⟩
theorem low_not_uni {G : Grid} {R n t : Nat} (ht : t < n) (hz : ∀ i j, t ≤ i → i < R → j < n → G i j = 0) : ¬ UniG G R n := fun h => by
 obtain ⟨x, ⟨j, hj, hx⟩, hs⟩ := few_eqs n t G ht
 refine hx (h x (fun i hi => ?_) j hj)
 by_cases e : i < t
 ·exact hs i e
 ·exact Sm_zero _ fun k hk => by rw [hz i k (by omega) hi hk]; grind
structure TriG (G : Grid) (n : Nat) : Prop where
 diag : ∀ i, i < n → G i i ≠ 0
 low : ∀ i j, i < n → j < i → G i j = 0
theorem TriG.uni {G : Grid} {n : Nat} (h : TriG G n) : UniG G n n := fun x hx => by
 have key : ∀ d, d ≤ n → ∀ j, n - d ≤ j → j < n → x j = 0 := by
  intro d
  induction d with
  | zero => intro _ j h1 h2; omega
  | succ d ih =>
   intro hd j h1 h2
   by_cases e : n - d ≤ j
   ·exact ih (by omega) j e h2
   ·have h3 := hx j h2
    rw [Sm_one h2 fun k hk hne => ?_] at h3
    ·rcases Rat.mul_eq_zero.1 h3 with h4 | h4
     ·exact absurd h4 (h.diag j h2)
     ·exact h4
    ·rcases Nat.lt_or_ge k j with h4 | h4
     ·rw [h.low j k h2 h4]; grind
     ·rw [ih (by omega) k (by omega) hk]; grind
 exact fun j hj => key n (Nat.le_refl _) j (by omega) hj
structure DiaG (G : Grid) (n c : Nat) : Prop extends TriG G n where
 up : ∀ i j, i < j → c ≤ j → j < n → G i j = 0
theorem TriG.dia {G : Grid} {n : Nat} (h : TriG G n) : DiaG G n n := ⟨h, fun i j _ h1 h2 => by omega⟩
theorem DiaG.sol {G : Grid} {n : Nat} (h : DiaG G n 0) (r : Nat → Rat) : LinG G n n r (fun i => r i / G i i) := fun i hi => by
 rw [Sm_one hi fun k hk hne => ?_]
 ·rw [Rat.mul_comm, Rat.div_mul_cancel (h.diag i hi)]
 ·rcases Nat.lt_or_ge k i with h1 | h1
  ·rw [h.low i k hi h1]; grind
  ·rw [h.up i k (by omega) (by omega) hk]; grind
structure DiaJ (G : Grid) (n c j : Nat) : Prop extends TriG G n where
 up : ∀ i k, i < k → c < k → k < n → G i k = 0
 row : ∀ i, i < j → i < c → G i c = 0
theorem DiaJ.zero {G : Grid} {n c : Nat} (h : DiaG G n (c + 1)) : DiaJ G n c 0 := ⟨h.toTriG, fun i k a b d => h.up i k a (by omega) d, fun i a => by omega⟩
theorem DiaJ.done {G : Grid} {n c : Nat} (h : DiaJ G n c c) : DiaG G n c := ⟨h.toTriG, fun i k a b d => by
 rcases Nat.eq_or_lt_of_le b with e | e
 ·subst e; exact h.row i a a
 ·exact h.up i k a e d⟩
theorem DiaJ.step {G : Grid} {n c j : Nat} (h : DiaJ G n c j) (hj : j < c) (hc : c < n) : DiaJ (gsub G j c (G j c / G c c)) n c (j + 1) := by
 have hd := h.diag c hc
 refine ⟨⟨fun i hi => ?_, fun i k hi hk => ?_⟩, fun i k a b d => ?_, fun i a b => ?_⟩
 ·unfold gsub; split
  ·rename_i e; subst e; rw [h.low c i hc (by omega)]
   have := h.diag i hi; grind
  ·exact h.diag i hi
 ·unfold gsub; split
  ·rename_i e; subst e; rw [h.low i k hi hk, h.low c k hc (by omega)]; grind
  ·exact h.low i k hi hk
 ·unfold gsub; split
  ·rename_i e; subst e; rw [h.up i k a b d, h.up c k b b d]; grind
  ·exact h.up i k a b d
 ·unfold gsub; split
  ·rename_i e; subst e; rw [Rat.div_mul_cancel hd]; grind
  ·exact h.row i (by omega) b
structure StepG (G : Grid) (R rank col : Nat) : Prop where
 le : rank ≤ R
 lc : rank ≤ col
 low : ∀ i j, rank ≤ i → i < R → j < col → G i j = 0
 tri : rank = col → (∀ i, i < rank → G i i ≠ 0) ∧ ∀ i j, i < rank → j < i → G i j = 0
theorem StepG.zero (G : Grid) (R : Nat) : StepG G R 0 0 := ⟨by omega, by omega, by omega, fun _ => ⟨by omega, by omega⟩⟩
theorem StepG.free {G : Grid} {R rank col : Nat} (h : StepG G R rank col) (hz : ∀ i, rank ≤ i → i < R → G i col = 0) : StepG G R rank (col + 1) :=
 ⟨h.le, by have := h.lc; omega, fun i j a b d => by
  by_cases e : j = col
  ·rw [e]; exact hz i a b
  ·exact h.low i j a b (by omega), fun e => by have := h.lc; omega⟩
theorem StepG.swap {G : Grid} {R rank col p : Nat} (h : StepG G R rank col) (h1 : rank ≤ p) (h2 : p < R) : StepG (gsw G p rank) R rank col := by
 have lo : ∀ i, i < rank → swp p rank i = i := fun i hi => by unfold swp; split <;> (try split) <;> omega
 have hi' : ∀ i, rank ≤ i → rank ≤ swp p rank i := fun i hi => by unfold swp; split <;> (try split) <;> omega
 refine ⟨h.le, h.lc, fun i j a b d => h.low _ j (hi' i a) (swp_lt h2 (by omega) b) d, fun e => ⟨fun i hi => ?_, fun i j hi hj => ?_⟩⟩
 ·unfold gsw; rw [lo i hi]; exact (h.tri e).1 i hi
 ·unfold gsw; rw [lo i hi]; exact (h.tri e).2 i j hi hj
structure StepI (G : Grid) (R rank col i : Nat) : Prop extends StepG G R rank col where
 piv : G rank col ≠ 0
 clr : ∀ k, rank < k → k < i → G k col = 0
theorem StepI.step {G : Grid} {R rank col i : Nat} (h : StepI G R rank col i) (hr : rank < i) (hi : i < R) : StepI (gsub G i rank (G i col / G rank col)) R rank col (i + 1) := by
 refine ⟨⟨h.le, h.lc, fun k j a b d => ?_, fun e => ⟨fun k hk => ?_, fun k j hk hj => ?_⟩⟩, ?_, fun k a b => ?_⟩
 ·unfold gsub; split
  ·rename_i e; subst e; rw [h.low k j a b d, h.low rank j (Nat.le_refl _) (by omega) d]; grind
  ·exact h.low k j a b d
 ·unfold gsub; rw [if_neg (by omega)]; exact (h.tri e).1 k hk
 ·unfold gsub; rw [if_neg (by omega)]; exact (h.tri e).2 k j hk hj
 ·unfold gsub; rw [if_neg (by omega)]; exact h.piv
 ·unfold gsub; split
  ·rename_i e; subst e; rw [Rat.div_mul_cancel h.piv]; grind
  ·exact h.clr k a (by omega)
theorem StepI.start {G : Grid} {R rank col : Nat} (h : StepG G R rank col) (hp : G rank col ≠ 0) : StepI G R rank col (rank + 1) := ⟨h, hp, fun k a b => by omega⟩
theorem StepI.done {G : Grid} {R rank col : Nat} (h : StepI G R rank col R) (hr : rank < R) : StepG G R (rank + 1) (col + 1) := by
 refine ⟨hr, by have := h.lc; omega, fun i j a b d => ?_, fun e => ?_⟩
 ·by_cases e : j = col
  ·rw [e]; exact h.clr i (by omega) b
  ·exact h.low i j (by omega) b (by omega)
 ·have e' : rank = col := by omega
  obtain ⟨t1, t2⟩ := h.tri e'
  refine ⟨fun i hi => ?_, fun i j hi hj => ?_⟩
  ·by_cases h1 : i = rank
   ·rw [h1]; rw (occs := .pos [2]) [e']; exact h.piv
   ·exact t1 i (by omega)
  ·by_cases h1 : i = rank
   ·rw [h1]; exact h.low rank j (Nat.le_refl _) hr (by omega)
   ·exact t2 i j (by omega) hj
theorem StepG.tri_of {G : Grid} {n col : Nat} (h : StepG G n n col) (hc : col ≤ n) : TriG G n := by
 have e : n = col := by have := h.lc; omega
 exact ⟨(h.tri e).1, (h.tri e).2⟩
theorem Sm_nonneg {f : Nat → Rat} (n : Nat) (h : ∀ j, j < n → 0 ≤ f j) : 0 ≤ Sm f n := by
 induction n with
 | zero => exact Rat.le_refl
 | succ n ih => simp only [Sm]; have h1 := ih fun j hj => h j (by omega); have h2 := h n (by omega); grind
theorem Sm_le {f g : Nat → Rat} (n : Nat) (h : ∀ j, j < n → f j ≤ g j) : Sm f n ≤ Sm g n := by
 induction n with
 | zero => exact Rat.le_refl
 | succ n ih => simp only [Sm]; have h1 := ih fun j hj => h j (by omega); have h2 := h n (by omega); grind
theorem Sm_sub (f g : Nat → Rat) (n : Nat) : Sm (fun j => f j - g j) n = Sm f n - Sm g n := by
 induction n with
 | zero => simp only [Sm]; grind
 | succ n ih => simp only [Sm, ih]; grind
theorem Sm_swap (f : Nat → Nat → Rat) (n m : Nat) : Sm (fun i => Sm (f i) m) n = Sm (fun j => Sm (fun i => f i j) n) m := by
 induction n with
 | zero => simp only [Sm]; exact (Sm_zero m fun j _ => rfl).symm
 | succ n ih => simp only [Sm, ih, Sm_add]
def sg1 (k : Nat) : Rat := if k % 2 = 0 then 1 else -1
def sk (j k : Nat) : Nat := if k < j then k else k + 1
def minor (G : Grid) (j : Nat) : Grid := fun i k => G (i + 1) (sk j k)
def detL : Nat → Grid → Rat
 | 0, _ => 1
 | n + 1, G => Sm (fun j => sg1 j * (G 0 j * detL n (minor G j))) (n + 1)
theorem sg1_succ (k : Nat) : sg1 (k + 1) = - sg1 k := by
 unfold sg1
 split <;> split <;> first | omega | grind
theorem sk_lt {n j k : Nat} (hk : k < n) : sk j k < n + 1 := by unfold sk; split <;> omega
theorem detL_congr : ∀ (n : Nat) {G H : Grid}, (∀ i k, i < n → k < n → G i k = H i k) → detL n G = detL n H
 | 0, _, _, _ => rfl
 | n + 1, G, H, h => by
  unfold detL
  refine Sm_congr _ fun j hj => ?_
  have e := detL_congr n (G := minor G j) (H := minor H j) fun i k hi hk => h (i + 1) (sk j k) (by omega) (sk_lt hk)
  rw [h 0 j (by omega) hj, e]
def setR (G : Grid) (r : Nat) (v : Nat → Rat) : Grid := fun i k => if i = r then v k else G i k
theorem setR_at (G : Grid) (r : Nat) (v : Nat → Rat) (k : Nat) : setR G r v r k = v k := by unfold setR; rw [if_pos rfl]
theorem setR_off {G : Grid} {r i : Nat} (v : Nat → Rat) (k : Nat) (h : i ≠ r) : setR G r v i k = G i k := by unfold setR; rw [if_neg h]
theorem minor_set0 (G : Grid) (v : Nat → Rat) (j : Nat) : minor (setR G 0 v) j = minor G j := by
 funext i k; unfold minor; exact setR_off v _ (by omega)
theorem minor_setS (G : Grid) (r : Nat) (v : Nat → Rat) (j : Nat) : minor (setR G (r + 1) v) j = setR (minor G j) r (fun k => v (sk j k)) := by
 funext i k; unfold minor setR
 by_cases e : i = r
 ·rw [if_pos (by omega), if_pos e]
 ·rw [if_neg (by omega), if_neg e]
theorem detL_lin (a b : Rat) : ∀ (n : Nat) (G : Grid) (r : Nat) (v w : Nat → Rat), r < n → detL n (setR G r fun k => a * v k + b * w k) = a * detL n (setR G r v) + b * detL n (setR G r w)
 | 0, _, _, _, _, h => by omega
 | n + 1, G, 0, v, w, _ => by
  unfold detL
  simp only [minor_set0, setR_at]
  rw [← Sm_mul, ← Sm_mul, ← Sm_add]
  exact Sm_congr _ fun j _ => by grind
 | n + 1, G, r + 1, v, w, h => by
  unfold detL
  simp only [minor_setS]
  rw [← Sm_mul, ← Sm_mul, ← Sm_add]
  refine Sm_congr _ fun j hj => ?_
  rw [detL_lin a b n (minor G j) r (fun k => v (sk j k)) (fun k => w (sk j k)) (by omega), setR_off _ _ (by omega), setR_off _ _ (by omega), setR_off _ _ (by omega)]
  grind
theorem detL_scale (a : Rat) {n : Nat} {G : Grid} {r : Nat} (v : Nat → Rat) (hr : r < n) : detL n (setR G r fun k => a * v k) = a * detL n (setR G r v) := by
 have := detL_lin a 0 n G r v v hr
 rw [show (fun k => a * v k + 0 * v k) = fun k => a * v k by funext k; grind] at this
 rw [this]; grind
theorem detL_zrow {n : Nat} {G : Grid} {r : Nat} (hr : r < n) (h : ∀ k, k < n → G r k = 0) : detL n G = 0 := by
 have e : detL n G = detL n (setR G r fun k => 0 * G r k) := detL_congr n fun i k hi hk => by
  by_cases ei : i = r
  ·subst ei; rw [setR_at, h k hk]; grind
  ·rw [setR_off _ _ ei]
 rw [e, detL_scale 0 _ hr]; grind
theorem Sm_skip (g : Nat → Rat) : ∀ (n j : Nat), j ≤ n → Sm g (n + 1) = g j + Sm (fun k => g (sk j k)) n
 | 0, j, h => by
  have : j = 0 := by omega
  subst this
  simp only [Sm]; grind
 | n + 1, j, h => by
  by_cases e : j = n + 1
  ·subst e
   have : Sm (fun k => g (sk (n + 1) k)) (n + 1) = Sm g (n + 1) := Sm_congr _ fun k hk => by unfold sk; rw [if_pos hk]
   rw [this]
   show Sm g (n + 1) + g (n + 1) = _
   grind
  ·have ih := Sm_skip g n j (by omega)
   show Sm g (n + 1) + g (n + 1) = g j + (Sm (fun k => g (sk j k)) n + g (sk j n))
   rw [ih]
   have : sk j n = n + 1 := by unfold sk; rw [if_neg (by omega)]
   rw [this]; grind
def s2 (j k b : Nat) : Nat := if b < min j k then b else if b + 1 < max j k then b + 1 else b + 2
theorem s2_comm (j k b : Nat) : s2 j k b = s2 k j b := by unfold s2; rw [Nat.min_comm, Nat.max_comm]
theorem sk_sk (j k b : Nat) : sk j (sk k b) = s2 j (sk j k) b := by
 unfold s2 sk
 by_cases h1 : k < j <;> by_cases h2 : b < k <;> by_cases h3 : b < j <;> by_cases h4 : b + 1 < j <;> simp only [h1, h2, h3, h4, ↓reduceIte] <;> (try split) <;> (try split) <;> (try split) <;> omega
def eps (j k : Nat) : Rat := if j = k then 0 else if k < j then 1 else -1
theorem eps_anti (j k : Nat) : eps k j = - eps j k := by
 unfold eps
 by_cases e : j = k
 ·rw [if_pos e, if_pos e.symm]; grind
 ·rw [if_neg e, if_neg (Ne.symm e)]
  by_cases h : k < j
  ·rw [if_pos h, if_neg (by omega)]
  ·rw [if_neg h, if_pos (by omega)]; grind
theorem eps_sk (j k : Nat) : eps j (sk j k) * sg1 (sk j k) = sg1 k := by
 unfold eps sk
 by_cases h : k < j
 ·rw [if_pos h, if_neg (by omega), if_pos h]; grind
 ·rw [if_neg h, if_neg (by omega), if_neg (by omega), sg1_succ]; grind
theorem detL_two (n : Nat) (G : Grid) : detL (n + 2) G = Sm (fun j => Sm (fun k => eps j k * (sg1 j * sg1 k * (G 0 j * G 1 k * detL n (fun i b => G (i + 2) (s2 j k b))))) (n + 2)) (n + 2) := by
 rw [detL]
 refine Sm_congr _ fun j hj => ?_
 rw [Sm_skip _ (n + 1) j (by omega)]
 have e0 : eps j j = 0 := by unfold eps; rw [if_pos rfl]
 rw [e0, detL, ← Sm_mul, ← Sm_mul]
 have : ∀ x : Rat, 0 * x = 0 := fun x => by grind
 rw [this, Rat.zero_add]
 refine Sm_congr _ fun k hk => ?_
 have e1 : detL n (minor (minor G j) k) = detL n (fun i b => G (i + 2) (s2 j (sk j k) b)) := by
  congr 1; funext i b; unfold minor; rw [sk_sk]
 have e2 : minor G j 0 k = G 1 (sk j k) := rfl
 have e3 := eps_sk j k
 rw [e1, e2, ← e3]
 grind
theorem detL_adj0 {n : Nat} {G : Grid} (h : ∀ k, k < n + 2 → G 0 k = G 1 k) : detL (n + 2) G = 0 := by
 obtain ⟨F, hF⟩ : ∃ F : Nat → Nat → Rat, F = fun j k => eps j k * (sg1 j * sg1 k * (G 0 j * G 1 k * detL n (fun i b => G (i + 2) (s2 j k b)))) := ⟨_, rfl⟩
 have e1 : detL (n + 2) G = Sm (fun j => Sm (F j) (n + 2)) (n + 2) := by rw [hF]; exact detL_two n G
 have e2 : detL (n + 2) G = Sm (fun k => Sm (fun j => F j k) (n + 2)) (n + 2) := by rw [e1, Sm_swap]
 have e3 : Sm (fun k => Sm (fun j => F j k) (n + 2)) (n + 2) = -1 * Sm (fun k => Sm (F k) (n + 2)) (n + 2) := by
  rw [← Sm_mul]
  refine Sm_congr _ fun k hk => ?_
  rw [← Sm_mul]
  refine Sm_congr _ fun j hj => ?_
  rw [hF]
  show eps j k * (sg1 j * sg1 k * (G 0 j * G 1 k * detL n (fun i b => G (i + 2) (s2 j k b)))) = -1 * (eps k j * (sg1 k * sg1 j * (G 0 k * G 1 j * detL n (fun i b => G (i + 2) (s2 k j b)))))
  have : (fun i b => G (i + 2) (s2 k j b)) = fun i b => G (i + 2) (s2 j k b) := by funext i b; rw [s2_comm]
  rw [this, eps_anti j k, h j hj, h k hk]
  grind
 rw [e3, ← e1] at e2
 grind
theorem detL_adj : ∀ (n r : Nat) {G : Grid}, r + 1 < n → (∀ k, k < n → G r k = G (r + 1) k) → detL n G = 0
 | 0, _, _, h, _ => by omega
 | 1, _, _, h, _ => by omega
 | n + 2, 0, G, _, h => detL_adj0 h
 | n + 2, r + 1, G, hr, h => by
  rw [detL]
  refine Sm_zero _ fun j hj => ?_
  rw [detL_adj (n + 1) r (G := minor G j) (by omega) fun k hk => h (sk j k) (sk_lt hk)]
  grind
def set2 (G : Grid) (r s : Nat) (v w : Nat → Rat) : Grid := setR (setR G r v) s w
theorem set2_comm {G : Grid} {r s : Nat} (h : r ≠ s) (v w : Nat → Rat) : set2 G r s v w = setR (setR G s w) r v := by
 funext i k; unfold set2 setR
 by_cases e : i = s
 ·rw [if_pos e, if_neg (by omega), if_pos e]
 ·rw [if_neg e]
  by_cases e2 : i = r
  ·rw [if_pos e2, if_pos e2]
  ·rw [if_neg e2, if_neg e2, if_neg e]
theorem detL_polar {n : Nat} {G : Grid} {r s : Nat} (hr : r < n) (hs : s < n) (hne : r ≠ s) (H : ∀ v, detL n (set2 G r s v v) = 0) (v w : Nat → Rat) : detL n (set2 G r s v w) = - detL n (set2 G r s w v) := by
 have h1 := H fun k => 1 * v k + 1 * w k
 have h2 : detL n (set2 G r s (fun k => 1 * v k + 1 * w k) fun k => 1 * v k + 1 * w k) = 1 * detL n (set2 G r s (fun k => 1 * v k + 1 * w k) v) + 1 * detL n (set2 G r s (fun k => 1 * v k + 1 * w k) w) := detL_lin 1 1 n _ s v w hs
 have h3 : ∀ u, detL n (set2 G r s (fun k => 1 * v k + 1 * w k) u) = 1 * detL n (set2 G r s v u) + 1 * detL n (set2 G r s w u) := fun u => by
  rw [set2_comm hne, set2_comm hne, set2_comm hne]; exact detL_lin 1 1 n _ r v w hr
 rw [h1, h3, h3, H v, H w] at h2
 grind
theorem set2_self {G : Grid} {r s : Nat} (v w : Nat → Rat) (hv : ∀ k, v k = G r k) (hw : ∀ k, w k = G s k) : set2 G r s v w = G := by
 funext i k; unfold set2 setR
 by_cases e : i = s
 ·rw [if_pos e, hw, e]
 ·rw [if_neg e]
  by_cases e2 : i = r
  ·rw [if_pos e2, hv, e2]
  ·rw [if_neg e2]
theorem detL_alt {n : Nat} : ∀ (d i : Nat) {G : Grid}, i + d + 1 < n → (∀ k, G i k = G (i + d + 1) k) → detL n G = 0
 | 0, i, G, h, e => detL_adj n i h fun k _ => e k
 | d + 1, i, G, h, e => by
  have H : ∀ v, detL n (set2 G (i + d + 1) (i + d + 2) v v) = 0 := fun v => by
   have h1 : i + d + 1 + 1 < n := by omega
   refine detL_adj n (i + d + 1) h1 fun k _ => ?_
   show setR (setR G (i + d + 1) v) (i + d + 2) v (i + d + 1) k = setR (setR G (i + d + 1) v) (i + d + 2) v (i + d + 2) k
   rw [setR_off (r := i + d + 2) (i := i + d + 1) _ _ (by omega), setR_at, setR_at]
  have hp := detL_polar (n := n) (G := G) (r := i + d + 1) (s := i + d + 2) (by omega) (by omega) (by omega) H (G (i + d + 1)) (G (i + d + 2))
  rw [set2_self _ _ (fun _ => rfl) (fun _ => rfl)] at hp
  have ih := detL_alt (n := n) d i (G := set2 G (i + d + 1) (i + d + 2) (G (i + d + 2)) (G (i + d + 1))) (by omega) fun k => by
   show setR (setR G (i + d + 1) (G (i + d + 2))) (i + d + 2) (G (i + d + 1)) i k = setR (setR G (i + d + 1) (G (i + d + 2))) (i + d + 2) (G (i + d + 1)) (i + d + 1) k
   rw [setR_off (r := i + d + 2) (i := i) _ _ (by omega), setR_off (r := i + d + 1) (i := i) _ _ (by omega), setR_off (r := i + d + 2) (i := i + d + 1) _ _ (by omega), setR_at]
   exact e k
  rw [hp, ih]; grind
theorem detL_same {n i j : Nat} {G : Grid} (hi : i < n) (hj : j < n) (hne : i ≠ j) (e : ∀ k, G i k = G j k) : detL n G = 0 := by
 rcases Nat.lt_or_ge i j with h | h
 ·have ej : i + (j - i - 1) + 1 = j := by omega
  exact detL_alt (j - i - 1) i (by omega) fun k => by rw [ej]; exact e k
 ·have ej : j + (i - j - 1) + 1 = i := by omega
  exact detL_alt (i - j - 1) j (by omega) fun k => by rw [ej]; exact (e k).symm
theorem detL_set_same {n i j : Nat} {G : Grid} (hi : i < n) (hj : j < n) (hne : i ≠ j) : detL n (setR G i (G j)) = 0 :=
 detL_same hi hj hne fun k => by rw [setR_at, setR_off _ _ (Ne.symm hne)]
theorem setR_self (G : Grid) (r : Nat) : setR G r (G r) = G := by
 funext i k; unfold setR
 split
 ·rename_i e; rw [e]
 ·rfl
theorem detL_sub {n i t : Nat} {G : Grid} (f : Rat) (hi : i < n) (ht : t < n) (hne : i ≠ t) : detL n (setR G i fun k => G i k - f * G t k) = detL n G := by
 have := detL_lin 1 (-f) n G i (G i) (G t) hi
 rw [setR_self, detL_set_same hi ht hne] at this
 rw [show (fun k => G i k - f * G t k) = fun k => 1 * G i k + -f * G t k by funext k; grind, this]
 grind
theorem detL_swap {n p t : Nat} {G : Grid} (hp : p < n) (ht : t < n) (hne : p ≠ t) : detL n (gsw G p t) = - detL n G := by
 have hp2 := detL_polar (n := n) (G := G) hp ht hne (fun v => detL_same hp ht hne fun k => by unfold set2; rw [setR_off _ _ hne, setR_at, setR_at]) (G t) (G p)
 rw [set2_self (G := G) (r := p) (s := t) (G p) (G t) (fun _ => rfl) (fun _ => rfl)] at hp2
 rw [← hp2]
 congr 1
 funext i k
 unfold gsw swp set2 setR
 by_cases e : i = t
 ·subst e; simp [Ne.symm hne]
 ·by_cases e2 : i = p
  ·subst e2; simp [e]
  ·simp [e, e2]
def gid : Grid := fun i k => if i = k then 1 else 0
theorem detL_id : ∀ n, detL n gid = 1
 | 0 => rfl
 | n + 1 => by
  rw [detL, Sm_one (k := 0) (by omega) fun j hj hne => by
   have : gid 0 j = 0 := by unfold gid; rw [if_neg (Ne.symm hne)]
   rw [this]; grind]
  have e1 : minor gid 0 = gid := by
   funext i k; unfold minor gid sk
   simp
  rw [e1, detL_id n]
  unfold sg1 gid
  rw [if_pos rfl, if_pos (by rfl)]
  grind
def adjG (n : Nat) (G : Grid) : Grid := fun i j => detL n (setR G j (gid i))
theorem detL_row {n j : Nat} (G : Grid) (v : Nat → Rat) (hj : j < n) : detL n (setR G j v) = Sm (fun i => v i * adjG n G i j) n := by
 have key : ∀ m, m ≤ n → detL n (setR G j fun k => if k < m then v k else 0) = Sm (fun i => v i * adjG n G i j) m := by
  intro m
  induction m with
  | zero => intro _; exact detL_zrow hj fun k _ => by rw [setR_at, if_neg (by omega)]
  | succ m ih =>
   intro hm
   have e : detL n (setR G j fun k => if k < m + 1 then v k else 0) = detL n (setR G j fun k => 1 * (if k < m then v k else 0) + v m * gid m k) := by
    congr 1; congr 1; funext k
    unfold gid
    by_cases h1 : k < m
    ·rw [if_pos (by omega), if_pos h1, if_neg (by omega)]; grind
    ·rw [if_neg h1]
     by_cases h2 : m = k
     ·subst h2; rw [if_pos (by omega), if_pos rfl]; grind
     ·rw [if_neg (by omega), if_neg h2]; grind
   rw [e, detL_lin 1 (v m) n G j _ _ hj, ih (by omega)]
   show _ = Sm (fun i => v i * adjG n G i j) m + v m * adjG n G m j
   unfold adjG
   grind
 rw [← key n (Nat.le_refl _)]
 exact detL_congr n fun i k hi hk => by
  by_cases e : i = j
  ·subst e; rw [setR_at, setR_at, if_pos hk]
  ·rw [setR_off _ _ e, setR_off _ _ e]
theorem adj_mul {n k j : Nat} (G : Grid) (hk : k < n) (hj : j < n) : Sm (fun i => G k i * adjG n G i j) n = if k = j then detL n G else 0 := by
 rw [← detL_row G (G k) hj]
 by_cases e : k = j
 ·subst e; rw [setR_self, if_pos rfl]
 ·rw [if_neg e, detL_set_same hj hk (Ne.symm e)]
def pv (a : Nat → Rat) (d : Nat) (x : Rat) : Rat := Sm (fun k => a k * x ^ k) (d + 1)
def hv (a : Nat → Rat) (c : Rat) : Nat → Nat → Rat
 | 0, _ => 0
 | t + 1, m => a m + c * hv a c t (m + 1)
theorem rpow_succ (x : Rat) (k : Nat) : x ^ (k + 1) = x ^ k * x := Rat.pow_succ x k
theorem rpow_zero (x : Rat) : x ^ 0 = 1 := Rat.pow_zero x
theorem hv_split (a : Nat → Rat) (c x : Rat) (T : Nat) : ∀ m, m ≤ T → Sm (fun k => a k * x ^ k) m = hv a c T 0 + (x - c) * Sm (fun k => hv a c (T - (k + 1)) (k + 1) * x ^ k) m - hv a c (T - m) m * x ^ m
 | 0, _ => by
  simp only [Sm, Nat.sub_zero, rpow_zero]; grind
 | m + 1, h => by
  have ih := hv_split a c x T m (by omega)
  show Sm (fun k => a k * x ^ k) m + a m * x ^ m = hv a c T 0 + (x - c) * (Sm (fun k => hv a c (T - (k + 1)) (k + 1) * x ^ k) m + hv a c (T - (m + 1)) (m + 1) * x ^ m) - hv a c (T - (m + 1)) (m + 1) * x ^ (m + 1)
  obtain ⟨t, ht⟩ : ∃ t, T - m = t + 1 := ⟨T - m - 1, by omega⟩
  have e1 : T - (m + 1) = t := by omega
  rw [ih, ht, e1, rpow_succ, hv]
  grind
theorem poly_zero : ∀ (d : Nat) (a p : Nat → Rat), (∀ i j, i ≤ d → j ≤ d → p i = p j → i = j) → (∀ i, i ≤ d → pv a d (p i) = 0) → ∀ k, k ≤ d → a k = 0
 | 0, a, p, _, h, k, hk => by
  have := h 0 (Nat.le_refl _)
  unfold pv at this
  simp only [Sm, rpow_zero] at this
  have : k = 0 := by omega
  subst this
  grind
 | d + 1, a, p, hp, h, k, hk => by
  have hs := fun x => hv_split a (p (d + 1)) x (d + 2) (d + 2) (Nat.le_refl _)
  have e0 : ∀ x, hv a (p (d + 1)) (d + 2 - (d + 2)) (d + 2) * x ^ (d + 2) = 0 := fun x => by rw [Nat.sub_self, hv]; grind
  have hH : hv a (p (d + 1)) (d + 2) 0 = 0 := by
   have h1 := h (d + 1) (Nat.le_refl _)
   have h2 := hs (p (d + 1))
   unfold pv at h1
   rw [h1, e0] at h2
   grind
  have hq : ∀ i, i ≤ d → pv (fun k => hv a (p (d + 1)) (d + 2 - (k + 1)) (k + 1)) d (p i) = 0 := fun i hi => by
   have h1 := h i (by omega)
   have h2 := hs (p i)
   unfold pv at h1 ⊢
   rw [h1, e0, hH] at h2
   have h3 : Sm (fun k => hv a (p (d + 1)) (d + 2 - (k + 1)) (k + 1) * p i ^ k) (d + 2) = Sm (fun k => hv a (p (d + 1)) (d + 2 - (k + 1)) (k + 1) * p i ^ k) (d + 1) := by
    show Sm _ (d + 1) + hv a (p (d + 1)) (d + 2 - (d + 1 + 1)) (d + 1 + 1) * p i ^ (d + 1) = _
    rw [show d + 2 - (d + 1 + 1) = 0 by omega, hv]; grind
   rw [h3] at h2
   have hne : p i - p (d + 1) ≠ 0 := fun e => by
    have := hp i (d + 1) (by omega) (Nat.le_refl _) (by grind)
    omega
   have h4 : (p i - p (d + 1)) * Sm (fun k => hv a (p (d + 1)) (d + 2 - (k + 1)) (k + 1) * p i ^ k) (d + 1) = 0 := by grind
   rcases Rat.mul_eq_zero.1 h4 with e | e
   ·exact absurd e hne
   ·exact e
  have hz := poly_zero d _ p (fun i j hi hj => hp i j (by omega) (by omega)) hq
  have ha : ∀ m, m ≤ d + 2 → hv a (p (d + 1)) (d + 2 - m) m = 0 := fun m hm => by
   rcases Nat.eq_zero_or_pos m with e | e
   ·subst e; exact hH
   ·by_cases e2 : m = d + 2
    ·subst e2; rw [Nat.sub_self, hv]
    ·have := hz (m - 1) (by omega)
     simp only [show m - 1 + 1 = m by omega] at this
     exact this
  have h1 := ha k (by omega)
  obtain ⟨t, ht⟩ : ∃ t, d + 2 - k = t + 1 := ⟨d + 1 - k, by omega⟩
  have h2 := ha (k + 1) (by omega)
  rw [ht, hv] at h1
  rw [show d + 2 - (k + 1) = t by omega] at h2
  rw [h2] at h1
  grind
theorem poly_all {d : Nat} {a b : Nat → Rat} (h : ∀ x, pv a d x = pv b d x) : ∀ k, k ≤ d → a k = b k := fun k hk => by
 have := poly_zero d (fun k => a k - b k) (fun i => (i : Rat)) (fun i j _ _ e => Rat.natCast_inj.1 e) (fun i _ => by
  have := h i
  unfold pv at this ⊢
  have e : (fun k => (a k - b k) * (i : Rat) ^ k) = fun k => a k * (i : Rat) ^ k - b k * (i : Rat) ^ k := by funext k; grind
  rw [e, Sm_sub, this]; grind) k hk
 grind
def PolyF (d : Nat) (f : Rat → Rat) : Prop := ∃ a : Nat → Rat, ∀ x, f x = pv a d x
theorem pv_more {a : Nat → Rat} {d e : Nat} (h : d ≤ e) (x : Rat) : pv (fun k => if k ≤ d then a k else 0) e x = pv a d x := by
 unfold pv
 rw [Sm_more (show d + 1 ≤ e + 1 by omega) fun j h1 h2 => by
  show (if j ≤ d then a j else 0) * x ^ j = 0
  rw [if_neg (by omega)]; grind]
 exact Sm_congr _ fun j hj => by
  show (if j ≤ d then a j else 0) * x ^ j = a j * x ^ j
  rw [if_pos (by omega)]
theorem PolyF.mono {d e : Nat} {f : Rat → Rat} (h : PolyF d f) (hd : d ≤ e) : PolyF e f := by
 obtain ⟨a, ha⟩ := h
 exact ⟨_, fun x => by rw [ha, ← pv_more hd]⟩
theorem PolyF.lin {d : Nat} {f g : Rat → Rat} (u v : Rat) (h : PolyF d f) (h2 : PolyF d g) : PolyF d (fun x => u * f x + v * g x) := by
 obtain ⟨a, ha⟩ := h
 obtain ⟨b, hb⟩ := h2
 refine ⟨fun k => u * a k + v * b k, fun x => ?_⟩
 simp only [ha, hb]
 unfold pv
 rw [← Sm_mul, ← Sm_mul, ← Sm_add]
 exact Sm_congr _ fun k _ => by grind
theorem PolyF.const (c : Rat) (d : Nat) : PolyF d (fun _ => c) := by
 have : PolyF 0 (fun _ => c) := ⟨fun _ => c, fun x => by unfold pv; simp only [Sm, rpow_zero]; grind⟩
 exact this.mono (Nat.zero_le d)
def affC (u v : Rat) (a : Nat → Rat) (d k : Nat) : Rat := u * (if k ≤ d then a k else 0) + v * (if 1 ≤ k then a (k - 1) else 0)
theorem affC_pv (u v : Rat) (a : Nat → Rat) (d : Nat) (x : Rat) : pv (affC u v a d) (d + 1) x = (u + x * v) * pv a d x := by
 have e : pv (affC u v a d) (d + 1) x = u * pv (fun k => if k ≤ d then a k else 0) (d + 1) x + v * Sm (fun k => (if 1 ≤ k then a (k - 1) else 0) * x ^ k) (d + 2) := by
  unfold pv affC
  rw [← Sm_mul, ← Sm_mul, ← Sm_add]
  exact Sm_congr _ fun k _ => by grind
 rw [e, pv_more (by omega), Sm_front]
 have e2 : Sm (fun j => (if 1 ≤ j + 1 then a (j + 1 - 1) else 0) * x ^ (j + 1)) (d + 1) = x * pv a d x := by
  unfold pv
  rw [← Sm_mul]
  exact Sm_congr _ fun k _ => by rw [if_pos (by omega), Nat.add_sub_cancel, rpow_succ]; grind
 rw [e2, if_neg (by omega)]
 grind
theorem PolyF.aff {d : Nat} {f : Rat → Rat} (u v : Rat) (h : PolyF d f) : PolyF (d + 1) (fun x => (u + x * v) * f x) := by
 obtain ⟨a, ha⟩ := h
 exact ⟨affC u v a d, fun x => by
  show (u + x * v) * f x = _
  rw [affC_pv, ha]⟩
theorem det_poly : ∀ (n : Nat) (A B : Grid), ∃ a : Nat → Rat, (∀ x, detL n (fun i k => A i k + x * B i k) = pv a n x) ∧ a n = detL n B
 | 0, A, B => ⟨fun _ => 1, fun x => by unfold pv; simp only [Sm, rpow_zero, detL]; grind, rfl⟩
 | n + 1, A, B => by
  obtain ⟨α, hα⟩ := Classical.axiomOfChoice fun j => det_poly n (minor A j) (minor B j)
  refine ⟨fun k => Sm (fun j => sg1 j * affC (A 0 j) (B 0 j) (α j) n k) (n + 1), fun x => ?_, ?_⟩
  ·unfold pv
   have e : (fun k => Sm (fun j => sg1 j * affC (A 0 j) (B 0 j) (α j) n k) (n + 1) * x ^ k) = fun k => Sm (fun j => sg1 j * (affC (A 0 j) (B 0 j) (α j) n k * x ^ k)) (n + 1) := by
    funext k
    rw [show Sm (fun j => sg1 j * affC (A 0 j) (B 0 j) (α j) n k) (n + 1) * x ^ k = x ^ k * Sm (fun j => sg1 j * affC (A 0 j) (B 0 j) (α j) n k) (n + 1) by grind, ← Sm_mul]
    exact Sm_congr _ fun j _ => by grind
   rw [e, Sm_swap (fun k j => sg1 j * (affC (A 0 j) (B 0 j) (α j) n k * x ^ k)), detL]
   refine Sm_congr _ fun j _ => ?_
   rw [Sm_mul]
   have := affC_pv (A 0 j) (B 0 j) (α j) n x
   unfold pv at this
   rw [this]
   have h2 := (hα j).1 x
   unfold pv at h2
   rw [← h2]
   rfl
  ·rw [detL]
   refine Sm_congr _ fun j _ => ?_
   unfold affC
   rw [if_neg (by omega), if_pos (by omega), Nat.add_sub_cancel, (hα j).2]
   grind
def F1 (f : Rat → Rat) (a b : Rat) : Prop := ∃ d g, PolyF d g ∧ ∀ h, f h = a + h * b + h * h * g h
theorem F1.const (c : Rat) : F1 (fun _ => c) c 0 := ⟨0, fun _ => 0, PolyF.const 0 0, fun h => by grind⟩
theorem F1.add {f g : Rat → Rat} {a b a' b' : Rat} (h1 : F1 f a b) (h2 : F1 g a' b') : F1 (fun h => f h + g h) (a + a') (b + b') := by
 obtain ⟨d, u, hu, e⟩ := h1
 obtain ⟨d', u', hu', e'⟩ := h2
 refine ⟨d + d', _, (hu.mono (Nat.le_add_right d d')).lin 1 1 (hu'.mono (Nat.le_add_left d' d)), fun h => ?_⟩
 simp only [e, e']; grind
theorem F1.smul {f : Rat → Rat} {a b : Rat} (c : Rat) (h1 : F1 f a b) : F1 (fun h => c * f h) (c * a) (c * b) := by
 obtain ⟨d, u, hu, e⟩ := h1
 exact ⟨d, _, hu.lin c 0 hu, fun h => by simp only [e]; grind⟩
theorem F1.shift {f : Rat → Rat} {a b : Rat} (x : Rat) (h1 : F1 f a b) : F1 (fun h => (x + h) * f h) (x * a) (x * b + a) := by
 obtain ⟨d, u, hu, e⟩ := h1
 refine ⟨d + 1, _, (hu.aff x 1).lin 1 1 (PolyF.const b (d + 1)), fun h => ?_⟩
 simp only [e]; grind
theorem PolyF.low {d : Nat} {f : Rat → Rat} (h : PolyF d f) : ∃ d g, PolyF d g ∧ ∀ x, f x = f 0 + x * g x := by
 obtain ⟨a, ha⟩ := h
 have e0 : f 0 = a 0 := by
  rw [ha, pv, Sm_front, Sm_zero _ fun j _ => by rw [rpow_succ]; grind]
  rw [rpow_zero]; grind
 cases d with
 | zero => exact ⟨0, fun _ => 0, PolyF.const 0 0, fun x => by rw [e0, ha]; unfold pv; simp only [Sm, rpow_zero]; grind⟩
 | succ d =>
  refine ⟨d, fun x => pv (fun k => a (k + 1)) d x, ⟨_, fun x => rfl⟩, fun x => ?_⟩
  show f x = f 0 + x * Sm (fun k => a (k + 1) * x ^ k) (d + 1)
  rw [e0, ha, pv, Sm_front, ← Sm_mul, rpow_zero]
  have : Sm (fun j => a (j + 1) * x ^ (j + 1)) (d + 1) = Sm (fun j => x * (a (j + 1) * x ^ j)) (d + 1) := Sm_congr _ fun j _ => by rw [rpow_succ]; grind
  rw [this]; grind
theorem F1.addh {f f2 : Rat → Rat} {a b : Rat} {d : Nat} (h1 : F1 f a b) (h2 : PolyF d f2) : F1 (fun h => f h + h * f2 h) a (b + f2 0) := by
 obtain ⟨d1, u, hu, e⟩ := h1
 obtain ⟨d2, g, hg, e2⟩ := h2.low
 refine ⟨d1 + d2, _, (hu.mono (Nat.le_add_right d1 d2)).lin 1 1 (hg.mono (Nat.le_add_left d2 d1)), fun h => ?_⟩
 show f h + h * f2 h = _
 rw [e h, e2 h]; grind
theorem F1.uniq {f : Rat → Rat} {a b a' b' : Rat} (h1 : F1 f a b) (h2 : F1 f a' b') : b = b' := by
 obtain ⟨d, u, hu, e⟩ := h1
 obtain ⟨d', u', hu', e'⟩ := h2
 obtain ⟨p, hp⟩ := (hu.mono (Nat.le_add_right d d')).lin 1 (-1) (hu'.mono (Nat.le_add_left d' d))
 have hz : ∀ x, pv (fun k => if k = 0 then a - a' else if k = 1 then b - b' else p (k - 2)) (d + d' + 2) x = pv (fun _ => 0) (d + d' + 2) x := fun x => by
  have h0 : pv (fun _ => 0) (d + d' + 2) x = 0 := Sm_zero _ fun j _ => by grind
  rw [h0, pv, Sm_front, Sm_front]
  have h3 : Sm (fun j => (if j + 1 + 1 = 0 then a - a' else if j + 1 + 1 = 1 then b - b' else p (j + 1 + 1 - 2)) * x ^ (j + 1 + 1)) (d + d' + 1) = x * x * pv p (d + d') x := by
   rw [pv, ← Sm_mul]
   exact Sm_congr _ fun j _ => by rw [if_neg (by omega), if_neg (by omega), show j + 1 + 1 - 2 = j by omega, rpow_succ, rpow_succ]; grind
  rw [h3, ← hp]
  have e1 := e x
  rw [e'] at e1
  simp only [if_pos, if_neg (show ¬ (0 + 1 = 0) by omega), rpow_zero, rpow_succ]
  grind
 have := poly_all hz 1 (by omega)
 simp only [if_neg (show ¬ (1 = 0) by omega), if_pos] at this
 grind
def dv (x : Rat) : Nat → Rat
 | 0 => 0
 | k + 1 => x * dv x k + x ^ k
theorem dv_eq (x : Rat) : ∀ k, dv x (k + 1) = ((k : Rat) + 1) * x ^ k
 | 0 => by simp only [dv, rpow_zero]; grind
 | k + 1 => by
  rw [dv, dv_eq x k, rpow_succ, Rat.natCast_add]
  grind
theorem F1.pow (x : Rat) : ∀ k, F1 (fun h => (x + h) ^ k) (x ^ k) (dv x k)
 | 0 => by
  simp only [rpow_zero, dv]
  exact F1.const 1
 | k + 1 => by
  have := (F1.pow x k).shift x
  have e : (fun h => (x + h) ^ (k + 1)) = fun h => (x + h) * (x + h) ^ k := by funext h; rw [rpow_succ]; grind
  have e2 : x ^ (k + 1) = x * x ^ k := by rw [rpow_succ]; grind
  rw [e, e2, dv]
  exact this
theorem F1.pv (c : Nat → Rat) (x : Rat) : ∀ m, F1 (fun h => Sm (fun k => c k * (x + h) ^ k) m) (Sm (fun k => c k * x ^ k) m) (Sm (fun k => c k * dv x k) m)
 | 0 => F1.const 0
 | m + 1 => (F1.pv c x m).add ((F1.pow x m).smul (c m))
theorem F1.det {n : Nat} (A : Grid) : ∀ m, m ≤ n → F1 (fun h => detL n (fun i k => A i k + h * (if i < m then gid i k else 0))) (detL n A) (Sm (fun j => adjG n A j j) m)
 | 0, _ => by
  have e : (fun h : Rat => detL n (fun i k => A i k + h * (if i < 0 then gid i k else 0))) = fun _ => detL n A := by
   funext h; congr 1; funext i k; rw [if_neg (by omega)]; grind
  rw [e]; exact F1.const _
 | m + 1, hm => by
  have ih := F1.det (n := n) A m (by omega)
  obtain ⟨a, ha, _⟩ := det_poly n (setR A m (gid m)) (fun i k => if i < m then gid i k else 0)
  have := ih.addh ⟨a, ha⟩
  have e : (fun h : Rat => detL n (fun i k => A i k + h * (if i < m + 1 then gid i k else 0))) = fun h => detL n (fun i k => A i k + h * (if i < m then gid i k else 0)) + h * detL n (fun i k => setR A m (gid m) i k + h * (if i < m then gid i k else 0)) := by
   funext h
   have hl := detL_lin 1 h n (fun i k => A i k + h * (if i < m then gid i k else 0)) m (fun k => A m k + h * (if m < m then gid m k else 0)) (gid m) (by omega)
   rw [setR_self (fun i k => A i k + h * (if i < m then gid i k else 0)) m] at hl
   have e1 : (setR (fun i k => A i k + h * (if i < m then gid i k else 0)) m fun k => 1 * (A m k + h * (if m < m then gid m k else 0)) + h * gid m k) = fun i k => A i k + h * (if i < m + 1 then gid i k else 0) := by
    funext i k; unfold setR
    by_cases ei : i = m
    ·subst ei; simp; grind
    ·have e3 : (i < m + 1) = (i < m) := by apply propext; omega
     simp only [if_neg ei, e3]
   have e2 : setR (fun i k => A i k + h * (if i < m then gid i k else 0)) m (gid m) = fun i k => setR A m (gid m) i k + h * (if i < m then gid i k else 0) := by
    funext i k; unfold setR
    by_cases ei : i = m
    ·subst ei; simp; grind
    ·simp only [if_neg ei]
   rw [e1, e2] at hl
   rw [hl]; grind
  rw [e]
  have e0 : detL n (fun i k => setR A m (gid m) i k + 0 * (if i < m then gid i k else 0)) = adjG n A m m := by
   unfold adjG; congr 1; funext i k; grind
  rw [e0] at this
  exact this
structure ChrP (M : Grid) (n : Nat) (c : Nat → Rat) (β : Nat → Nat → Nat → Rat) : Prop where
 chi : ∀ x, detL n (fun i k => -M i k + x * gid i k) = pv c n x
 top : c n = 1
 bn : ∀ i j, j < n → β i j n = 0
 rel : ∀ k j m, k < n → j < n → m ≤ n → (if 1 ≤ m then β k j (m - 1) else 0) - Sm (fun i => M k i * β i j m) n = if k = j then c m else 0
 tr : ∀ m, m < n → Sm (fun j => β j j m) n = ((m : Rat) + 1) * c (m + 1)
theorem pv_cut {a : Nat → Rat} {n : Nat} (h : a n = 0) (x : Rat) : pv a n x = Sm (fun k => a k * x ^ k) n := by
 show Sm (fun k => a k * x ^ k) n + a n * x ^ n = _
 rw [h]; grind
theorem chr_of (M : Grid) (n : Nat) : ∃ c β, ChrP M n c β := by
 obtain ⟨c, hc, hcn⟩ := det_poly n (fun i k => -M i k) gid
 rw [detL_id] at hcn
 obtain ⟨β, hβ⟩ := Classical.axiomOfChoice fun p : Nat × Nat => det_poly n (setR (fun i k => -M i k) p.2 (gid p.1)) (setR gid p.2 fun _ => 0)
 have hb0 : ∀ i j, j < n → β (i, j) n = 0 := fun i j hj => by
  rw [(hβ (i, j)).2]; exact detL_zrow hj fun k _ => setR_at _ _ _ _
 have hadj : ∀ x i j, adjG n (fun i k => -M i k + x * gid i k) i j = pv (β (i, j)) n x := fun x i j => by
  rw [← (hβ (i, j)).1]
  unfold adjG
  congr 1
  funext a k
  unfold setR
  by_cases e : a = j
  ·simp only [if_pos e]; grind
  ·simp only [if_neg e]
 refine ⟨c, fun i j => β (i, j), hc, hcn, hb0, fun k j m hk hj hm => ?_, fun m hm => ?_⟩
 ·have key : ∀ x, pv (fun m => (if 1 ≤ m then β (k, j) (m - 1) else 0) - Sm (fun i => M k i * β (i, j) m) n - (if k = j then c m else 0)) n x = pv (fun _ => 0) n x := fun x => by
   have h0 : pv (fun _ => 0) n x = 0 := Sm_zero _ fun j _ => by grind
   have e1 : pv (fun m => (if 1 ≤ m then β (k, j) (m - 1) else 0) - Sm (fun i => M k i * β (i, j) m) n - (if k = j then c m else 0)) n x = Sm (fun m => (if 1 ≤ m then β (k, j) (m - 1) else 0) * x ^ m) (n + 1) - Sm (fun m => Sm (fun i => M k i * (β (i, j) m * x ^ m)) n) (n + 1) - (if k = j then pv c n x else 0) := by
    have e2 : (if k = j then pv c n x else 0) = Sm (fun m => (if k = j then c m else 0) * x ^ m) (n + 1) := by
     split
     ·rfl
     ·exact (Sm_zero _ fun j _ => by grind).symm
    rw [e2, ← Sm_sub, ← Sm_sub]
    refine Sm_congr _ fun m _ => ?_
    have e3 : Sm (fun i => M k i * (β (i, j) m * x ^ m)) n = x ^ m * Sm (fun i => M k i * β (i, j) m) n := by
     rw [← Sm_mul]; exact Sm_congr _ fun i _ => by grind
    show ((if 1 ≤ m then β (k, j) (m - 1) else 0) - Sm (fun i => M k i * β (i, j) m) n - (if k = j then c m else 0)) * x ^ m = _
    rw [e3]; grind
   have e4 : Sm (fun m => (if 1 ≤ m then β (k, j) (m - 1) else 0) * x ^ m) (n + 1) = x * pv (β (k, j)) n x := by
    rw [Sm_front, pv_cut (hb0 k j hj), ← Sm_mul]
    have : (if 1 ≤ 0 then β (k, j) (0 - 1) else 0) * x ^ 0 = 0 := by rw [if_neg (by omega)]; grind
    rw [this, Rat.zero_add]
    exact Sm_congr _ fun m _ => by rw [if_pos (by omega), Nat.add_sub_cancel, rpow_succ]; grind
   have e5 : Sm (fun m => Sm (fun i => M k i * (β (i, j) m * x ^ m)) n) (n + 1) = Sm (fun i => M k i * pv (β (i, j)) n x) n := by
    rw [Sm_swap (fun m i => M k i * (β (i, j) m * x ^ m))]
    exact Sm_congr _ fun i _ => by rw [Sm_mul]; rfl
   have e6 := adj_mul (fun i k => -M i k + x * gid i k) hk hj
   simp only [hadj] at e6
   rw [hc] at e6
   have e7 : Sm (fun i => (-M k i + x * gid k i) * pv (β (i, j)) n x) n = x * pv (β (k, j)) n x - Sm (fun i => M k i * pv (β (i, j)) n x) n := by
    have e8 : Sm (fun i => x * (gid k i * pv (β (i, j)) n x)) n = x * pv (β (k, j)) n x := by
     rw [Sm_mul, Sm_one hk fun i _ hne => by
      have : gid k i = 0 := by unfold gid; rw [if_neg (Ne.symm hne)]
      rw [this]; grind]
     have : gid k k = 1 := by unfold gid; rw [if_pos rfl]
     rw [this]; grind
    rw [← e8, ← Sm_sub]
    exact Sm_congr _ fun i _ => by grind
   rw [e7] at e6
   rw [e1, e4, e5, e6, h0]
   split <;> grind
  have := poly_all key m hm
  grind
 ·have key : ∀ x, pv (fun m => Sm (fun j => β (j, j) m) n) n x = pv (fun m => if m < n then ((m : Rat) + 1) * c (m + 1) else 0) n x := fun x => by
   have f1 := F1.det (n := n) (fun i k => -M i k + x * gid i k) n (Nat.le_refl _)
   have f2 := F1.pv c x (n + 1)
   have e1 : (fun h : Rat => detL n (fun i k => -M i k + x * gid i k + h * (if i < n then gid i k else 0))) = fun h => Sm (fun k => c k * (x + h) ^ k) (n + 1) := by
    funext h
    have := hc (x + h)
    unfold pv at this
    rw [← this]
    exact detL_congr n fun i k hi _ => by rw [if_pos hi]; grind
   rw [e1] at f1
   have e2 := f1.uniq f2
   simp only [hadj] at e2
   have e3 : pv (fun m => Sm (fun j => β (j, j) m) n) n x = Sm (fun j => pv (β (j, j)) n x) n := by
    unfold pv
    rw [Sm_swap (fun j m => β (j, j) m * x ^ m)]
    refine Sm_congr _ fun m _ => ?_
    rw [show Sm (fun j => β (j, j) m) n * x ^ m = x ^ m * Sm (fun j => β (j, j) m) n by grind, ← Sm_mul]
    exact Sm_congr _ fun j _ => by grind
   rw [e3, e2, Sm_front, pv_cut (by rw [if_neg (by omega)])]
   have : c 0 * dv x 0 = 0 := by rw [dv]; grind
   rw [this, Rat.zero_add]
   exact Sm_congr _ fun m hm => by rw [if_pos hm, dv_eq]; grind
  have := poly_all key m (by omega)
  simp only [if_pos hm] at this
  exact this
theorem ChrP.traces {M : Grid} {n : Nat} {c : Nat → Rat} {β : Nat → Nat → Nat → Rat} (h : ChrP M n c β) (A : Nat → Grid) (r : Nat → Rat) (h0 : r 0 = 1) (hA0 : ∀ i j, i < n → j < n → A 0 i j = 0)
  (hA : ∀ k, k < n → ∀ i j, i < n → j < n → A (k + 1) i j = Sm (fun t => M i t * (A k t j + r k * gid t j)) n) (hr : ∀ k, k < n → r (k + 1) = Sm (fun i => A (k + 1) i i) n * (-1 / ((k : Rat) + 1))) :
  ∀ k, k ≤ n → r k = c (n - k) ∧ ∀ i j, i < n → j < n → A k i j + r k * gid i j = if k < n then β i j (n - 1 - k) else 0
 | 0, _ => by
  refine ⟨by rw [h0, Nat.sub_zero, h.top], fun i j hi hj => ?_⟩
  have := h.rel i j n hi hj (Nat.le_refl _)
  rw [Sm_zero _ fun t _ => by rw [h.bn t j hj]; grind, if_pos (by omega), h.top] at this
  rw [if_pos (by omega), hA0 i j hi hj, h0, Nat.sub_zero]
  unfold gid
  grind
 | k + 1, hk => by
  obtain ⟨_, ih⟩ := h.traces A r h0 hA0 hA hr k (by omega)
  obtain ⟨m, hm⟩ : ∃ m, m = n - 1 - k := ⟨_, rfl⟩
  have hAk : ∀ i j, i < n → j < n → A (k + 1) i j = Sm (fun t => M i t * β t j m) n := fun i j hi hj => by
   rw [hA k (by omega) i j hi hj]
   exact Sm_congr _ fun t ht => by rw [ih t j ht hj, if_pos (by omega), hm]
  have hrel : ∀ i j, i < n → j < n → (if 1 ≤ m then β i j (m - 1) else 0) - A (k + 1) i j = if i = j then c m else 0 := fun i j hi hj => by
   rw [hAk i j hi hj]; exact h.rel i j m hi hj (by omega)
  have htr : Sm (fun i => A (k + 1) i i) n = -((k : Rat) + 1) * c m := by
   have e1 : Sm (fun i => A (k + 1) i i) n = Sm (fun i => if 1 ≤ m then β i i (m - 1) else 0) n - Sm (fun _ => c m) n := by
    rw [← Sm_sub]
    exact Sm_congr _ fun i hi => by
     have := hrel i i hi hi
     rw [if_pos (show i = i from rfl)] at this
     grind
   have e2 : ∀ q : Nat, Sm (fun _ => c m) q = (q : Rat) * c m := by
    intro q
    induction q with
    | zero => simp only [Sm]; grind
    | succ q ihq =>
     show Sm (fun _ => c m) q + c m = _
     rw [ihq, Rat.natCast_add]; grind
   have e3 : Sm (fun i => if 1 ≤ m then β i i (m - 1) else 0) n = (m : Rat) * c m := by
    rcases Nat.eq_zero_or_pos m with z | z
    ·rw [Sm_zero _ fun i _ => by rw [if_neg (by omega)], z]; grind
    ·have := h.tr (m - 1) (by omega)
     have hm1 : m - 1 + 1 = m := by omega
     have hc1 : ((m - 1 : Nat) : Rat) + 1 = (m : Rat) := by
      have := Rat.natCast_add (m - 1) 1
      rw [hm1] at this
      rw [this]; grind
     rw [hm1, hc1] at this
     rw [← this]
     exact Sm_congr _ fun i _ => by rw [if_pos (by omega)]
   have e4 : (n : Rat) = (m : Rat) + ((k : Rat) + 1) := by
    have : n = m + (k + 1) := by omega
    rw [this, Rat.natCast_add, Rat.natCast_add]; grind
   rw [e1, e2, e3, e4]; grind
  have hrk : r (k + 1) = c m := by
   rw [hr k (by omega), htr]
   have : (k : Rat) + 1 ≠ 0 := by
    have h1 : ((k + 1 : Nat) : Rat) ≠ 0 := fun e => by
     have := Rat.natCast_inj.1 (e.trans (show (0 : Rat) = ((0 : Nat) : Rat) from rfl))
     omega
    rw [Rat.natCast_add] at h1
    exact h1
   grind
  refine ⟨by rw [hrk, hm]; congr 1; omega, fun i j hi hj => ?_⟩
  have hh := hrel i j hi hj
  have hgc : c m * gid i j = if i = j then c m else 0 := by unfold gid; split <;> grind
  rw [hrk, hgc, ← hh]
  clear hrel hAk ih hA hr hA0 hh hgc htr
  by_cases hm0 : 1 ≤ m
  ·rw [if_pos hm0, if_pos (by omega), show n - 1 - (k + 1) = m - 1 by omega]; grind
  ·rw [if_neg hm0, if_neg (by omega)]; grind
theorem detL_comb {n r : Nat} (G : Grid) (y : Nat → Rat) (hr : r < n) : detL n (setR G r fun k => Sm (fun i => y i * G i k) n) = y r * detL n G := by
 rw [detL_row G _ hr]
 have e : Sm (fun i => Sm (fun t => y t * G t i) n * adjG n G i r) n = Sm (fun t => y t * Sm (fun i => G t i * adjG n G i r) n) n := by
  have e1 : Sm (fun i => Sm (fun t => y t * G t i) n * adjG n G i r) n = Sm (fun i => Sm (fun t => y t * (G t i * adjG n G i r)) n) n := Sm_congr _ fun i _ => by
   rw [show Sm (fun t => y t * G t i) n * adjG n G i r = adjG n G i r * Sm (fun t => y t * G t i) n by grind, ← Sm_mul]
   exact Sm_congr _ fun t _ => by grind
  rw [e1, Sm_swap (fun i t => y t * (G t i * adjG n G i r))]
  exact Sm_congr _ fun t _ => Sm_mul _ _ _
 rw [e, Sm_one hr fun t ht hne => by rw [adj_mul G ht hr, if_neg hne]; grind, adj_mul G hr hr, if_pos rfl]
theorem detL_low {n k : Nat} {G : Grid} (hk : k < n) (h : ∀ i c, k ≤ i → i < n → c ≤ k → G i c = 0) : detL n G = 0 := by
 obtain ⟨y, ⟨j, hj, hy⟩, hl⟩ := few_eqs (n - k) (n - k - 1) (fun i j => G (k + j) (k + 1 + i)) (by omega)
 have hs : ∀ (f : Nat → Rat), (∀ i, i < k → f i = 0) → Sm f n = Sm (fun j => f (k + j)) (n - k) := fun f hf => by
  have key : ∀ m, k ≤ m → Sm f m = Sm (fun j => f (k + j)) (m - k) := by
   intro m hm
   induction m with
   | zero =>
    have : k = 0 := by omega
    subst this; rfl
   | succ m ih =>
    by_cases e : k = m + 1
    ·subst e; rw [Nat.sub_self]; exact Sm_zero _ hf
    ·rw [show m + 1 - k = (m - k) + 1 by omega]
     show Sm f m + f m = Sm (fun j => f (k + j)) (m - k) + f (k + (m - k))
     rw [ih (by omega), show k + (m - k) = m by omega]
  exact key n (by omega)
 have hrow : ∀ c, c < n → Sm (fun i => (if k ≤ i then y (i - k) else 0) * G i c) n = 0 := fun c hc => by
  rw [hs _ fun i hi => by rw [if_neg (by omega)]; grind]
  rcases Nat.lt_or_ge k c with g | g
  ·have := hl (c - k - 1) (by omega)
   simp only [show k + 1 + (c - k - 1) = c by omega] at this
   rw [← this]
   exact Sm_congr _ fun j _ => by rw [if_pos (by omega), Nat.add_sub_cancel_left]; grind
  ·exact Sm_zero _ fun j hj => by rw [h (k + j) c (by omega) (by omega) g]; grind
 have hd := detL_comb (n := n) (r := k + j) G (fun i => if k ≤ i then y (i - k) else 0) (by omega)
 have hz : detL n (setR G (k + j) fun c => Sm (fun i => (if k ≤ i then y (i - k) else 0) * G i c) n) = 0 := detL_zrow (r := k + j) (by omega) fun c hc => by rw [setR_at]; exact hrow c hc
 rw [hz] at hd
 have e : (if k ≤ k + j then y (k + j - k) else 0) = y j := by rw [if_pos (by omega), Nat.add_sub_cancel_left]
 rw [e] at hd
 rcases Rat.mul_eq_zero.1 hd.symm with g | g
 ·exact absurd g hy
 ·exact g
theorem detL_gcol {n t k : Nat} {G : Grid} (ht : t < n) (hd : G t k ≠ 0) : detL n (gcol G t k) * G t k = detL n G := by
 have h1 : detL n (setR G t fun j => 1 / G t k * G t j) * G t k = detL n G := by
  rw [detL_scale _ _ ht, setR_self]; grind
 rw [← h1]
 congr 1
 have key : ∀ m, m ≤ n → detL n (fun i j => if i = t then G t j / G t k else if i < m then G i j - G i k * (G t j / G t k) else G i j) = detL n (setR G t fun j => 1 / G t k * G t j) := by
  intro m
  induction m with
  | zero =>
   intro _
   refine detL_congr n fun i j _ _ => ?_
   unfold setR
   by_cases e : i = t
   ·rw [if_pos e, if_pos e]; grind
   ·rw [if_neg e, if_neg e, if_neg (by omega)]
  | succ m ih =>
   intro hm
   rw [← ih (by omega)]
   by_cases e : m = t
   ·refine detL_congr n fun i j _ _ => ?_
    by_cases e1 : i = t
    ·rw [if_pos e1, if_pos e1]
    ·have : (i < m + 1) = (i < m) := by apply propext; omega
     rw [if_neg e1, if_neg e1]
     simp only [this]
   ·have hs := detL_sub (n := n) (G := fun i j => if i = t then G t j / G t k else if i < m then G i j - G i k * (G t j / G t k) else G i j) (G m k) (show m < n by omega) ht e
    rw [← hs]
    refine detL_congr n fun i j _ _ => ?_
    unfold setR
    by_cases e2 : i = m
    ·subst e2
     simp [e]
    ·rw [if_neg e2]
     have : (i < m + 1) = (i < m) := by apply propext; omega
     simp only [this]
 rw [← key n (Nat.le_refl _)]
 refine detL_congr n fun i j hi _ => ?_
 unfold gcol
 rw [if_pos hi]
structure DetI (G0 : Grid) (n : Nat) (G : Grid) (k top : Nat) (D : Rat) : Prop where
 le : top ≤ k
 st : (top = k ∧ D * detL n G = detL n G0 ∧ ∀ c, c < k → ∀ i, i < n → G i c = if i = c then 1 else 0) ∨ (top < k ∧ D = 0 ∧ detL n G0 = 0)
theorem DetI.start (G : Grid) (n : Nat) : DetI G n G 0 0 1 := ⟨Nat.le_refl _, .inl ⟨rfl, by grind, fun c hc => by omega⟩⟩
theorem DetI.piv {G0 G : Grid} {n k top p : Nat} {D : Rat} (h : DetI G0 n G k top D) (hk : k < n) (h1 : top ≤ p) (h2 : p < n) (hd : G p k ≠ 0) : DetI G0 n (gcol (gsw G p top) top k) (k + 1) (top + 1) ((if p = top then D else -D) * G p k) := by
  have htn : top < n := by have := h.le; omega
  have hsw : gsw G p top top k = G p k := by unfold gsw swp; by_cases e : top = p
                                             · rw [if_pos e, e]
                                             · rw [if_neg e, if_pos rfl]
  refine ⟨by have := h.le; omega, ?_⟩
  rcases h.st with ⟨rfl, g1, g2⟩ | ⟨g0, g1, g2⟩
  · refine .inl ⟨rfl, ?_, fun c hc i hi => ?_⟩
    · have e1 := detL_gcol (n := n) (G := gsw G p top) (t := top) (k := top) htn (by rw [hsw]; exact hd)
      rw [hsw] at e1
      by_cases e : p = top
      · subst e
        have e2 : gsw G p p = G := by funext i j; unfold gsw swp; by_cases q : i = p
                                      · rw [if_pos q, q]
                                      · rw [if_neg q, if_neg q]
        rw [e2] at e1 ⊢
        rw [if_pos rfl, ← g1, ← e1]; grind
      · rw [detL_swap h2 htn e] at e1
        rw [if_neg e, ← g1]; grind
    · by_cases ec : c = top
      · subst ec
        unfold gcol
        rw [hsw]
        by_cases e : i = c
        · rw [if_pos e, if_pos e]; grind
        · rw [if_neg e, if_neg e]; grind
      · have hct : c < top := by omega
        have hz : ∀ i, top ≤ i → i < n → G i c = 0 := fun i hi hin => by rw [g2 c hct i hin, if_neg (by omega)]
        have e2 : gsw G p top top c = 0 := by
          unfold gsw swp
          by_cases e : top = p
          · rw [if_pos e]; exact hz _ (Nat.le_refl _) htn
          · rw [if_neg e, if_pos rfl]; exact hz p h1 h2
        unfold gcol
        rw [e2]
        by_cases e : i = top
        · rw [if_pos e, if_neg (by omega)]; grind
        · rw [if_neg e]
          have e3 : gsw G p top i c = if i = c then 1 else 0 := by
            unfold gsw swp
            by_cases e4 : i = p
            · rw [if_pos e4, hz top (Nat.le_refl _) htn, if_neg (by omega)]
            · rw [if_neg e4, if_neg e]; exact g2 c hct i hi
          rw [e3]; grind
  · refine .inr ⟨by omega, ?_, g2⟩
    rw [g1]; split <;> grind
theorem DetI.done {G0 G : Grid} {n top : Nat} {D : Rat} (h : DetI G0 n G n top D) : D = detL n G0 := by
 rcases h.st with ⟨_, h1, h2⟩ | ⟨_, h1, h2⟩
 ·have : detL n G = 1 := by
   rw [← detL_id n]
   refine detL_congr n fun i k hi hk => ?_
   rw [h2 k hk i hi]; rfl
  rw [← h1, this]; grind
 ·rw [h1, h2]
def gmul (A B : Grid) (n : Nat) : Grid := fun i k => Sm (fun t => A i t * B t k) n
def horG (M : Grid) (p : List Rat) (n : Nat) : Nat → Grid
 | 0 => fun _ _ => 0
 | r + 1 => fun i k => gmul M (horG M p n r) n i k + cf p (p.length - 1 - r) * gid i k
def powG (M : Grid) (n : Nat) : Nat → Grid
 | 0 => gid
 | t + 1 => gmul (powG M n t) M n
def valG (M : Grid) (p : List Rat) (n : Nat) : Nat → Grid
 | 0 => fun _ _ => 0
 | t + 1 => fun i k => valG M p n t i k + powG M n t i k * cf p t
theorem horG_succ (M : Grid) (p : List Rat) (n r i k : Nat) : horG M p n (r + 1) i k = gmul M (horG M p n r) n i k + cf p (p.length - 1 - r) * gid i k := rfl
theorem valG_succ (M : Grid) (p : List Rat) (n t i k : Nat) : valG M p n (t + 1) i k = valG M p n t i k + powG M n t i k * cf p t := rfl
theorem gmul_congr {A A' B B' : Grid} {n : Nat} (ha : ∀ i k, i < n → k < n → A i k = A' i k) (hb : ∀ i k, i < n → k < n → B i k = B' i k) {i k : Nat} (hi : i < n) (hk : k < n) : gmul A B n i k = gmul A' B' n i k :=
 Sm_congr _ fun t ht => by rw [ha i t hi ht, hb t k ht hk]
theorem gmul_assoc (A B C : Grid) (n i k : Nat) : gmul (gmul A B n) C n i k = gmul A (gmul B C n) n i k := by
 unfold gmul
 have e1 : Sm (fun t => Sm (fun s => A i s * B s t) n * C t k) n = Sm (fun t => Sm (fun s => A i s * (B s t * C t k)) n) n := Sm_congr _ fun t _ => by
  rw [show Sm (fun s => A i s * B s t) n * C t k = C t k * Sm (fun s => A i s * B s t) n by grind, ← Sm_mul]
  exact Sm_congr _ fun s _ => by grind
 rw [e1, Sm_swap (fun t s => A i s * (B s t * C t k))]
 exact Sm_congr _ fun s _ => Sm_mul _ _ _
theorem gmul_id (A : Grid) {n i k : Nat} (hk : k < n) : gmul A gid n i k = A i k := by
 unfold gmul
 rw [Sm_one hk fun t _ hne => by
  have : gid t k = 0 := by unfold gid; rw [if_neg hne]
  rw [this]; grind]
 have : gid k k = 1 := by unfold gid; rw [if_pos rfl]
 rw [this]; grind
theorem id_gmul (A : Grid) {n i k : Nat} (hi : i < n) : gmul gid A n i k = A i k := by
 unfold gmul
 rw [Sm_one hi fun t _ hne => by
  have : gid i t = 0 := by unfold gid; rw [if_neg (Ne.symm hne)]
  rw [this]; grind]
 have : gid i i = 1 := by unfold gid; rw [if_pos rfl]
 rw [this]; grind
theorem powG_front (M : Grid) (n : Nat) : ∀ t i k, i < n → k < n → gmul M (powG M n t) n i k = powG M n (t + 1) i k
 | 0, i, k, hi, hk => by
  show gmul M gid n i k = gmul gid M n i k
  rw [gmul_id M hk, id_gmul M hi]
 | t + 1, i, k, hi, hk => by
  have : gmul M (powG M n (t + 1)) n i k = gmul (gmul M (powG M n t) n) M n i k := by
   rw [gmul_assoc]; rfl
  rw [this, gmul_congr (fun i k hi hk => powG_front M n t i k hi hk) (fun _ _ _ _ => rfl) hi hk]
  rfl
theorem valG_Sm (M : Grid) (p : List Rat) (n i k : Nat) : ∀ t, valG M p n t i k = Sm (fun j => powG M n j i k * cf p j) t
 | 0 => rfl
 | t + 1 => by rw [valG_succ, valG_Sm M p n i k t]; rfl
theorem horG_val (M : Grid) (p : List Rat) (n : Nat) {i k : Nat} (hi : i < n) (hk : k < n) : horG M p n p.length i k = valG M p n p.length i k := by
 have key : ∀ r, r ≤ p.length → ∀ i k, i < n → k < n → horG M p n r i k = Sm (fun t => powG M n t i k * cf p (p.length - r + t)) r := by
  intro r
  induction r with
  | zero => intro _ i k _ _; rfl
  | succ r ih =>
   intro hr i k hi hk
   rw [horG_succ, Sm_front]
   have e1 : gmul M (horG M p n r) n i k = Sm (fun t => powG M n (t + 1) i k * cf p (p.length - (r + 1) + (t + 1))) r := by
    rw [gmul_congr (fun _ _ _ _ => rfl) (fun i k hi hk => ih (by omega) i k hi hk) hi hk]
    unfold gmul
    have e2 : (fun t => M i t * Sm (fun s => powG M n s t k * cf p (p.length - r + s)) r) = fun t => Sm (fun s => cf p (p.length - r + s) * (M i t * powG M n s t k)) r := by
     funext t
     rw [← Sm_mul]
     exact Sm_congr _ fun s _ => by grind
    rw [e2, Sm_swap (fun t s => cf p (p.length - r + s) * (M i t * powG M n s t k))]
    refine Sm_congr _ fun s _ => ?_
    rw [Sm_mul, show p.length - (r + 1) + (s + 1) = p.length - r + s by omega]
    have := powG_front M n s i k hi hk
    unfold gmul at this
    rw [this]; grind
   rw [e1, Nat.add_zero, show p.length - (r + 1) = p.length - 1 - r by omega]
   show _ + cf p (p.length - 1 - r) * gid i k = gid i k * cf p (p.length - 1 - r) + _
   grind
 rw [key _ (Nat.le_refl _) i k hi hk, valG_Sm, Nat.sub_self]
 exact Sm_congr _ fun t _ => by rw [Nat.zero_add]
def flP (M : Grid) (n : Nat) : Nat → Grid × Rat
 | 0 => (fun _ _ => 0, 1)
 | k + 1 =>
  let A : Grid := gmul M (fun i j => (flP M n k).1 i j + (flP M n k).2 * gid i j) n
  (A, Sm (fun i => A i i) n * (-1 / ((k : Rat) + 1)))
theorem flP_traces {M : Grid} {n : Nat} {c : Nat → Rat} {β : Nat → Nat → Nat → Rat} (h : ChrP M n c β) {k : Nat} (hk : k ≤ n) :
  (flP M n k).2 = c (n - k) ∧ ∀ i j, i < n → j < n → (flP M n k).1 i j + (flP M n k).2 * gid i j = if k < n then β i j (n - 1 - k) else 0 :=
 h.traces (fun k => (flP M n k).1) (fun k => (flP M n k).2) rfl (fun _ _ _ _ => rfl) (fun k hk i j hi hj => rfl) (fun k hk => rfl) k hk
theorem root_own {M : Grid} {n : Nat} {c : Nat → Rat} {β : Nat → Nat → Nat → Rat} (h : ChrP M n c β) {i j : Nat} (hi : i < n) (hj : j < n) : horG M (mk (n + 1) c) n (n + 1) i j = 0 := by
 have key : ∀ r, r ≤ n → ∀ i j, i < n → j < n → horG M (mk (n + 1) c) n (r + 1) i j = (flP M n r).1 i j + (flP M n r).2 * gid i j := by
  intro r
  induction r with
  | zero =>
   intro _ i j _ _
   rw [horG_succ, mk_len, show n + 1 - 1 - 0 = n by omega, cf_mk, if_pos (by omega), h.top]
   have : gmul M (horG M (mk (n + 1) c) n 0) n i j = 0 := Sm_zero _ fun t _ => by
    show M i t * 0 = 0
    grind
   rw [this]; rfl
  | succ r ih =>
   intro hr i j hi hj
   rw [horG_succ, mk_len, cf_mk, if_pos (by omega), gmul_congr (fun _ _ _ _ => rfl) (fun i k hi hk => ih (by omega) i k hi hk) hi hj]
   have := (flP_traces h (k := r + 1) hr).1
   rw [this, show n + 1 - 1 - (r + 1) = n - (r + 1) by omega]
   rfl
 rw [key n (Nat.le_refl _) i j hi hj, (flP_traces h (Nat.le_refl n)).2 i j hi hj, if_neg (by omega)]
def bset (r : Nat → Bool) (k : Nat) : Nat → Bool := fun j => if j = k then true else r j
def cntF (r : Nat → Bool) (n : Nat) : Nat := ((List.range n).filter fun k => !r k).length
theorem cntF_le (r : Nat → Bool) (n : Nat) : cntF r n ≤ n := by
 unfold cntF
 have := List.length_filter_le (fun k => !r k) (List.range n)
 rwa [List.length_range] at this
theorem cntF_succ (r : Nat → Bool) (n : Nat) : cntF r (n + 1) = cntF r n + if r n = true then 0 else 1 := by
 unfold cntF
 rw [List.range_succ, List.filter_append, List.length_append]
 congr 1
 cases h : r n <;> simp [h]
theorem cntF_same {r r' : Nat → Bool} (n : Nat) (h : ∀ k, k < n → r k = r' k) : cntF r n = cntF r' n := by
 induction n with
 | zero => rfl
 | succ n ih => rw [cntF_succ, cntF_succ, ih fun k hk => h k (by omega), h n (by omega)]
theorem cntF_set {r : Nat → Bool} {n k : Nat} (hk : k < n) (h : r k = false) : cntF (bset r k) n + 1 = cntF r n := by
 induction n with
 | zero => omega
 | succ n ih =>
  rw [cntF_succ, cntF_succ]
  by_cases e : k = n
  ·subst e
   have : cntF (bset r k) k = cntF r k := cntF_same k fun j hj => by unfold bset; rw [if_neg (by omega)]
   rw [this, h]
   unfold bset
   rw [if_pos rfl]; rfl
  ·have := ih (by omega)
   have e2 : bset r k n = r n := by unfold bset; rw [if_neg (by omega)]
   rw [e2]; omega
structure UnitG (G0 G : Grid) (n k : Nat) : Prop where
 unit : ∀ c, c < k → ∀ i, i < n → G i c = if i = c then 1 else 0
 req : REq G0 G n n
theorem UnitG.zero (G : Grid) (n : Nat) : UnitG G G n 0 := ⟨fun c hc => by omega, REq.refl _ _ _⟩
theorem UnitG.pivot {G0 G : Grid} {n k : Nat} (h : UnitG G0 G n k) (hu : UniG G0 n n) (hk : k < n) (hz : ∀ i, k ≤ i → i < n → G i k = 0) : False := by
 have hG := (UniG.req h.req).2 hu
 have hx : LinG G n n (fun _ => 0) (fun j => if j < k then -G j k else if j = k then 1 else 0) := fun i hi => by
  have hs : ∀ m, m ≤ k → Sm (fun j => G i j * (if j < k then -G j k else if j = k then 1 else 0)) m = if i < m then -G i k else 0 := by
   intro m
   induction m with
   | zero => intro _; rfl
   | succ m ih =>
    intro hm
    show Sm (fun j => G i j * (if j < k then -G j k else if j = k then 1 else 0)) m + G i m * (if m < k then -G m k else if m = k then 1 else 0) = _
    rw [ih (by omega), h.unit m (by omega) i hi, if_pos (show m < k by omega)]
    by_cases e1 : i = m
    ·subst e1
     rw [if_neg (by omega), if_pos rfl, if_pos (by omega)]; grind
    ·by_cases e2 : i < m
     ·rw [if_pos e2, if_neg e1, if_pos (by omega)]; grind
     ·rw [if_neg e2, if_neg e1, if_neg (by omega)]; grind
  show Sm (fun j => G i j * (if j < k then -G j k else if j = k then 1 else 0)) n = 0
  rw [Sm_more (show k + 1 ≤ n by omega) (fun j h1 h2 => by rw [if_neg (show ¬ j < k by omega), if_neg (show ¬ j = k by omega), Rat.mul_zero])]
  show Sm (fun j => G i j * (if j < k then -G j k else if j = k then 1 else 0)) k + G i k * (if k < k then -G k k else if k = k then 1 else 0) = 0
  rw [hs k (Nat.le_refl _), if_neg (show ¬ k < k by omega), if_pos (show k = k from rfl), Rat.mul_one]
  by_cases e1 : i < k
  ·rw [if_pos e1]; grind
  ·rw [if_neg e1, hz i (by omega) hi]; grind
 have := hG _ hx k hk
 rw [if_neg (show ¬ k < k by omega), if_pos (show k = k from rfl)] at this
 exact absurd this (by decide)
theorem UnitG.step {G0 G : Grid} {n k p : Nat} (h : UnitG G0 G n k) (hk : k < n) (h1 : k ≤ p) (h2 : p < n) (hd : G p k ≠ 0) : UnitG G0 (gcol (gsw G p k) k k) n (k + 1) := by
 have et : swp p k k = p := by unfold swp; split <;> (try split) <;> omega
 have e0 : gsw G p k k k = G p k := by unfold gsw; rw [et]
 refine ⟨fun c hc i hi => ?_, h.req.trans ((REq.swap G h2 hk).trans (REq.gcol _ hk (by rw [e0]; exact hd)))⟩
 by_cases e1 : c = k
 ·subst e1
  unfold gcol
  by_cases e2 : i = c
  ·rw [if_pos e2, if_pos e2]
   rw [e0, Rat.div_def, Rat.mul_inv_cancel _ hd]
  ·rw [if_neg e2, if_neg e2, e0, Rat.div_def, Rat.mul_inv_cancel _ hd]; grind
 ·have hc' : c < k := by omega
  have hu : ∀ i, i < n → gsw G p k i c = if i = c then 1 else 0 := fun i hi => by
   unfold gsw
   rw [h.unit c hc' _ (swp_lt h2 hk hi)]
   unfold swp
   split
   ·rename_i e; subst e; rw [if_neg (by omega), if_neg (by omega)]
   ·split
    ·rename_i e; subst e; rw [if_neg (by omega), if_neg (by omega)]
    ·rfl
  unfold gcol
  rw [hu k hk, if_neg (show ¬ k = c by omega), hu i hi]
  by_cases e2 : i = k
  ·rw [if_pos e2, if_neg (by omega)]; grind
  ·rw [if_neg e2]; grind
end Go.Proofs.YthoboehbadmlmaaGreat
end
