/- The law RecurOwn answers true at every input: every square matrix is a root of its characteristic polynomial. (part 10 of 11) -/
import Derived.OrdersHeld
import Derived.Below
import Derived.Tactics
import Derived.KernelRfl
import Derived.RangeFuncCalls
import Derived.RangeFuncFrom
import Derived.RangeFuncLeaves
import Derived.OrdersIn
import Derived.Laws.AppendOwn
import Derived.Laws.MakeOwn
import Derived.Laws.CopyRow
import Derived.Laws.Cells
import Derived.Laws.World
import Derived.Laws.Alloc2
import Derived.Laws.NewBlocks
import Derived.Maps.AppendAt
import Derived.Test.YthoboehbadmlmaaGreatProg
import Init.Data.List.Lemmas
import Init.Omega
import Derived.WalkKit
import Derived.ProofKit
import Derived.OpenShut
import Derived.ChangeOld
import Derived.SizedLaws
import Derived.ChangeSlices
import Derived.ChangeArms
import Derived.Deep.Slices
import Derived.Test.YthoboehbadmlmaaGreatOW9
section
namespace Go.Proofs.YthoboehbadmlmaaGreat
open Go Go.RowKit
abbrev conc0 (t : List SV) : Array Value := (t.map (SV.conc fun _ => 0)).toArray
def YQ (Q : Exit → List SV → World → Prop) : Exit → Act → World → Prop := fun e a W => ∃ t, a.tmps = conc0 t ∧ a.defers = [] ∧ Q e t W
def YW (P : Program) (c : Code) (Q : Exit → List SV → World → Prop) (t : List SV) (W : World) : Prop :=
  ∀ a : Act, a.tmps = conc0 t → a.defers = [] → c.wpIn Fence.wide 0 P (YQ Q) a W
def thenY (K : List SV → World → Prop) (Q : Exit → List SV → World → Prop) : Exit → List SV → World → Prop
  | .normal, t, W => K t W
  | e, t, W => Q e t W
def inBlockY (id : Nat) (Q : Exit → List SV → World → Prop) : Exit → List SV → World → Prop
  | .exit id', t, W => if id' = id then Q .normal t W else Q (.exit id') t W
  | e, t, W => Q e t W
section
variable {P : Program} {Q : Exit → List SV → World → Prop} {t : List SV} {W : World}
theorem YW.apply {c : Code} {t : List SV} {a : Act} (h : YW P c Q t W) (h1 : a.tmps = conc0 t) (h2 : a.defers = []) : c.wpIn Fence.wide 0 P (YQ Q) a W := h a h1 h2
theorem YW.seq {x y : Code} (h : YW P x (thenY (YW P y Q) Q) t W) : YW P (.seq x y) Q t W := fun a h1 h2 =>
  wpIn_seq (wpIn_mono (h a h1 h2) fun e a w hq => by
    obtain ⟨t', h1', h2', q⟩ := hq
    cases e <;> first
      | exact q a h1' h2'
      | exact ⟨t', h1', h2', q⟩)
theorem YW.skip (h : Q .normal t W) : YW P .skip Q t W := fun _ h1 h2 => wpIn_skip ⟨t, h1, h2, h⟩
theorem YW.ret (h : Q .ret t W) : YW P .ret Q t W := fun _ h1 h2 => wpIn_ret ⟨t, h1, h2, h⟩
theorem YW.exit {i : Nat} (h : Q (.exit i) t W) : YW P (.exit i) Q t W := fun _ h1 h2 => wpIn_exit ⟨t, h1, h2, h⟩
theorem YW.block {i : Nat} {c : Code} (h : YW P c (inBlockY i Q) t W) : YW P (.block i c) Q t W := fun a h1 h2 =>
  wpIn_block (wpIn_mono (h a h1 h2) fun e a w hq => by
    obtain ⟨t', h1', h2', q⟩ := hq
    cases e with
    | exit j =>
      simp only [inBlockY] at q
      simp only [Exit.inBlock]
      split <;> rename_i hj
      · exact ⟨t', h1', h2', by simpa [hj] using q⟩
      · exact ⟨t', h1', h2', by simpa [hj] using q⟩
    | _ => exact ⟨t', h1', h2', q⟩)
theorem ev0 {a : Act} (h : a.tmps = conc0 t) (x : Operand) (H : Heap) (V : View) : a.eval x = ((⟨t, [], H, V⟩ : XS).ev x).conc fun _ => 0 := ev_conc (s := ⟨t, [], H, V⟩) h x
theorem YW.cond {c : Operand} {x y : Code} {b : Bool} {V : View} (hc : (⟨t, [], fun _ => none, V⟩ : XS).ev c = .v (.bool b)) (h1 : b = true → YW P x Q t W) (h2 : b = false → YW P y Q t W) : YW P (.cond c x y) Q t W := fun a e1 e2 =>
  wpIn_cond_split (t := b) (by rw [ev0 e1 c (fun _ => none) V, hc]; rfl) (fun e => h1 e a e1 e2) (fun e => h2 e a e1 e2)
theorem YW.loop {c : Code} (I : Nat → List SV → World → Prop) (n : Nat) (h0 : I n t W) (hr : ∀ n t W, I n t W → YW P c (thenY (fun t' W' => ∃ m, m < n ∧ I m t' W') Q) t W) : YW P (.loop c) Q t W := by
  intro a e1 e2
  have key : ∀ n t W a, I n t W → a.tmps = conc0 t → a.defers = [] → ∀ (b : Frame) (k : List Item) (cs : List Frame), b.roundOf = none →
      ∃ e a' w', YQ Q e a' w' ∧ ArrivesIn (Machine.fenced P Fence.wide) P (lone (b.atR a (.code c :: .inLoop c :: k)) cs W) b k cs e a' w' := by
    intro n
    induction n using Nat.strongRecOn with
    | _ n ih =>
      intro t W a hI e1 e2 b k cs hro
      obtain ⟨e, a₁, w₁, ⟨t1, h1, h2, hq⟩, harr⟩ := hr n t W hI a e1 e2 b (.inLoop c :: k) cs hro trivial (room_wide _)
      cases e with
      | normal =>
        obtain ⟨m, hm, hI1⟩ := hq
        obtain ⟨e₂, a₂, w₂, hq₂, harr₂⟩ := ih m hm t1 w₁ a₁ hI1 h1 h2 b k cs hro
        exact ⟨e₂, a₂, w₂, hq₂, .of_steps (StepsIn.trans harr (.one (fenced_calm (F := Fence.wide) (n := 0) (fr := b.atR a₁ (.inLoop c :: k)) trivial (room_wide _) rfl) stepR_inLoop)) harr₂⟩
      | exit id => exact ⟨_, a₁, w₁, ⟨t1, h1, h2, hq⟩, .pass (x := .inLoop c) rfl (fun _ _ => .inl (by simp)) harr⟩
      | goto l => exact ⟨_, a₁, w₁, ⟨t1, h1, h2, hq⟩, .pass (x := .inLoop c) rfl (fun _ _ => .inl (by simp)) harr⟩
      | ret => exact ⟨_, a₁, w₁, ⟨t1, h1, h2, hq⟩, .pass (x := .inLoop c) rfl (fun _ _ => .inl (by simp)) harr⟩
      | panic ch => exact ⟨_, a₁, w₁, ⟨t1, h1, h2, hq⟩, .pass (x := .inLoop c) rfl (fun _ _ => .inl (by simp)) harr⟩
      | outgrown => exact ⟨_, a₁, w₁, ⟨t1, h1, h2, hq⟩, .pass (x := .inLoop c) rfl (fun _ _ => .inl (by simp)) harr⟩
  intro b k cs hro _ _
  obtain ⟨e, a', w', hq, harr⟩ := key n t W a h0 e1 e2 b k cs hro
  exact ⟨e, a', w', hq, .of_steps (.one (fenced_calm (F := Fence.wide) (n := 0) (fr := b.atR a (.code (.loop c) :: k)) trivial (room_wide _) rfl) stepR_loop) harr⟩
/-- operations that read alone -/
theorem reads_in {ops : Array Oper} {V : View} {Q' : Exit → Act → World → Prop} (hV : V.sub W) (rest : List Nat) : ∀ (l : List Oper) (k : Nat) (K : XS → Prop) (t : List SV) (a : Act), (∀ i o, l[i]? = some o → ops[k + i]? = some o) → (l.all fun o => isRead o.op && o.guard.isNone) = true →
    a.tmps = conc0 t → a.defers = [] → (∀ x ∈ t, x.ok 0) → seqX P ops l K ⟨t, [], fun _ => none, V⟩ → (∀ t' a', a'.tmps = conc0 t' → a'.defers = [] → (∀ x ∈ t', x.ok 0) → K ⟨t', [], fun _ => none, V⟩ → wpOpsIn Fence.wide 0 P ops Q' rest a' W) →
    wpOpsIn Fence.wide 0 P ops Q' (List.range' k l.length ++ rest) a W
  | [], k, K, t, a, _, _, e1, e2, hok, h, hk => by simpa using hk t a e1 e2 hok h
  | o :: l, k, K, t, a, hi, hall, e1, e2, hok, h, hk => by
    simp only [List.all_cons, Bool.and_eq_true] at hall
    obtain ⟨⟨hrd, hgd⟩, hall⟩ := hall
    have ho : ops[k]? = some o := by simpa using hi 0 o (by simp)
    have hg : o.guard = none := by cases hx : o.guard <;> simp_all
    simp only [List.length_cons, List.range'_succ, List.cons_append]
    rw [wpOpsIn_cons]
    unfold wpOpIn
    simp only [ho]
    have hw : Region.wanted o (yielded ops a.tmps) = true := by unfold Region.wanted; rw [hg]
    rw [if_pos hw]
    unfold seqX stepX at h
    rw [hg] at h
    dsimp only at h
    unfold opX at h
    rw [if_pos hrd] at h
    obtain ⟨sv, ⟨hsv, hrun⟩, h⟩ := readX_sound (s := ⟨t, [], fun _ => none, V⟩) hok h
    have hr := hrun ⟨W, V, W, none⟩ (fun _ => 0) a W e1 ⟨fun i vs hi => by simp at hi, fun b r hb => (by cases hb), hV, Below.refl _ _⟩
    refine ⟨fun _ _ => trivial, ?_⟩
    have hd : ∀ c, o.op ≠ .defer c := fun c e => by rw [e] at hrd; cases hrd
    rw [Oper.semAt_eq _ _ _ hd, hr]
    have hconc : Conc ⟨W, V, W, none⟩ (fun _ => 0) ⟨t, [], fun _ => none, V⟩ a W := ⟨e1, ⟨⟨[], by rw [e2]; rfl, List.nodup_nil, fun D hD => by simp at hD⟩, KeepsOthers.refl _⟩, ⟨fun i vs hi => by simp at hi, fun b r hb => (by cases hb), hV, Below.refl _ _⟩, ⟨fun i j hi => by simp at hi, fun i hi => by simp at hi, fun b r hb => (by cases hb), View.le_refl _, View.from_refl _ _⟩, hok⟩
    have hput := hconc.put o.dst sv hsv
    have et : (XS.put ⟨t, [], fun _ => none, V⟩ o.dst sv) = ⟨(XS.put ⟨t, [], fun _ => none, V⟩ o.dst sv).t, [], fun _ => none, V⟩ := by cases o.dst <;> rfl
    rw [et] at h
    have hok2 : ∀ x ∈ (XS.put ⟨t, [], fun _ => none, V⟩ o.dst sv).t, x.ok 0 := by
      have := put_ok (s := ⟨t, [], fun _ => none, V⟩) hok o.dst hsv
      rw [XS.put_bx] at this; exact this
    refine reads_in hV rest l (k + 1) K _ _ (fun i o' h' => ?_) hall hput.tm ?_ hok2 h hk
    · have := hi (i + 1) o' (by simpa using h')
      rw [show k + 1 + i = k + (i + 1) by omega]; exact this
    · cases o.dst <;> exact e2
theorem YW.reads {id : Nat} {ops : Array Oper} {V : View} (hV : V.sub W) (hok : ∀ x ∈ t, x.ok 0) (hall : (ops.toList.all fun o => isRead o.op && o.guard.isNone) = true) (h : seqX P ops ops.toList (fun s => (∀ x ∈ s.t, x.ok 0) → Q .normal s.t W) ⟨t, [], fun _ => none, V⟩) : YW P (.region id ops false) Q t W := fun a e1 e2 => by
  refine wpIn_region ?_
  have := reads_in (Q' := YQ Q) hV [] ops.toList 0 _ t a (fun i o h => by simpa using h) hall e1 e2 hok h fun t' a' e1' e2' hok' hk => ⟨t', e1', e2', hk hok'⟩
  rwa [List.append_nil, Array.length_toList, ← List.range_eq_range'] at this
/-- reads, a call of yield, reads -/
theorem YW.yield {id : Nat} {ops : Array Oper} {V : View} {pre post : List Oper} {d : Option Tmp} {x : Tmp} {xs : List Operand} {ts : Array TypeId} {ty pos af} (hops : ops.toList = pre ++ ⟨d, .call ⟨.value (.tmp x), xs.toArray, ts⟩, ty, pos, af, none⟩ :: post) (hV : V.sub W) (hok : ∀ x ∈ t, x.ok 0)
    (hpre : (pre.all fun o => isRead o.op && o.guard.isNone) = true) (hpost : (post.all fun o => isRead o.op && o.guard.isNone) = true)
    (h : seqX P ops pre (fun s => ∃ (l : Nat) (args : List Value) (R : Ending → World → Prop), s.ev (.tmp x) = .v (.func (.yield l) #[] #[]) ∧ xs.map s.ev = args.map .v ∧ YieldAt Fence.wide 0 P l args.toArray W R ∧
      ∀ e W', R e W' → ∃ b, e = .returned (.bool b) ∧ V.sub W' ∧ seqX P ops post (fun s' => (∀ x ∈ s'.t, x.ok 0) → Q .normal s'.t W') (s.put d (.v (.bool b)))) ⟨t, [], fun _ => none, V⟩) : YW P (.region id ops false) Q t W := fun a e1 e2 => by
  refine wpIn_region ?_
  have hlen : List.range ops.size = List.range' 0 pre.length ++ (pre.length :: List.range' (pre.length + 1) post.length) := by
    have : ops.size = pre.length + (post.length + 1) := by rw [← Array.length_toList, hops]; simp
    rw [this, List.range_eq_range', ← List.range'_append_1, Nat.zero_add, List.range'_succ]
  rw [hlen]
  have hget : ∀ i : Nat, ops[i]? = (pre ++ ⟨d, .call ⟨.value (.tmp x), xs.toArray, ts⟩, ty, pos, af, none⟩ :: post)[i]? := fun i => by rw [← hops]; simp
  refine reads_in hV _ pre 0 _ t a (fun i o h => by
    rw [hget, Nat.zero_add, List.getElem?_append_left (List.getElem?_eq_some_iff.1 h).1]; exact h) hpre e1 e2 hok h fun t' a' e1' e2' hok' hk => ?_
  obtain ⟨l, args, R, hx, hxs, ⟨fn, tmps, assign, body, hrun, hround⟩, hR⟩ := hk
  rw [wpOpsIn_cons]
  unfold wpOpIn
  have ho : ops[pre.length]? = some ⟨d, .call ⟨.value (.tmp x), xs.toArray, ts⟩, ty, pos, af, none⟩ := by rw [hget, List.getElem?_append_right (Nat.le_refl _), Nat.sub_self]; rfl
  simp only [ho]
  rw [if_pos (by unfold Region.wanted; rfl)]
  refine ⟨fun _ _ => trivial, ?_⟩
  rw [Oper.semAt_eq _ _ _ (fun c e => by cases e)]
  have hev : a'.eval (.tmp x) = .func (.yield l) #[] #[] := by rw [ev0 e1' _ (fun _ => none) V, hx]; rfl
  have hargs : xs.toArray.map a'.eval = args.toArray := by
    apply Array.ext'
    simp only [Array.toList_map]
    have h2 : xs.map a'.eval = (xs.map (⟨t', [], fun _ => none, V⟩ : XS).ev).map (SV.conc fun _ => 0) := by
      rw [List.map_map]
      exact List.map_congr_left fun q _ => ev0 e1' q (fun _ => none) V
    rw [h2, hxs, List.map_map]
    have : (SV.conc fun _ => 0) ∘ SV.v = fun x => x := rfl
    rw [this, List.map_id']
  have hcall : (execOp a'.eval ⟨d, .call ⟨.value (.tmp x), xs.toArray, ts⟩, ty, pos, af, none⟩).run P W = .ok (.round l fn tmps assign body) W := by
    simp [execOp, resolve, hev, Deferred.ofValue, invoke, callFunc, hargs, hrun]
  rw [hcall]
  refine ⟨fun h => by simp [Fence.wide] at h, hround.mono fun e W' hre => ?_⟩
  obtain ⟨b, rfl, hV', hpo⟩ := hR e W' hre
  dsimp only
  have hokp : ∀ y ∈ (XS.put ⟨t', [], fun _ => none, V⟩ d (.v (.bool b))).t, y.ok 0 := by
    have := put_ok (s := ⟨t', [], fun _ => none, V⟩) hok' d (x := .v (.bool b)) trivial
    rw [XS.put_bx] at this; exact this
  have et : (XS.put ⟨t', [], fun _ => none, V⟩ d (.v (.bool b))) = ⟨(XS.put ⟨t', [], fun _ => none, V⟩ d (.v (.bool b))).t, [], fun _ => none, V⟩ := by cases d <;> rfl
  rw [et] at hpo
  have := reads_in (Q' := YQ Q) hV' [] post (pre.length + 1) _ _ (a'.put d (.bool b)) (fun i o h => by
    rw [hget, List.getElem?_append_right (by omega), show pre.length + 1 + i - pre.length = i + 1 by omega]; simpa using h) hpost (conc_put (s := ⟨t', [], fun _ => none, V⟩) e1' d (.v (.bool b))) (by cases d <;> exact e2') hokp hpo fun t2 a2 e3 e4 hok2 hk => ⟨t2, e3, e4, hk hok2⟩
  rwa [List.append_nil] at this
theorem YW.yieldAt {id : Nat} {ops : Array Oper} {V : View} (k : Nat) {d : Option Tmp} {x : Tmp} {xs : List Operand} {ts : Array TypeId} {ty pos af} (hk : ops.toList[k]? = some ⟨d, .call ⟨.value (.tmp x), xs.toArray, ts⟩, ty, pos, af, none⟩) (hV : V.sub W) (hok : ∀ x ∈ t, x.ok 0)
    (hpre : ((ops.toList.take k).all fun o => isRead o.op && o.guard.isNone) = true) (hpost : ((ops.toList.drop (k + 1)).all fun o => isRead o.op && o.guard.isNone) = true)
    (h : seqX P ops (ops.toList.take k) (fun s => ∃ (l : Nat) (args : List Value) (R : Ending → World → Prop), s.ev (.tmp x) = .v (.func (.yield l) #[] #[]) ∧ xs.map s.ev = args.map .v ∧ YieldAt Fence.wide 0 P l args.toArray W R ∧
      ∀ e W', R e W' → ∃ b, e = .returned (.bool b) ∧ V.sub W' ∧ seqX P ops (ops.toList.drop (k + 1)) (fun s' => (∀ x ∈ s'.t, x.ok 0) → Q .normal s'.t W') (s.put d (.v (.bool b)))) ⟨t, [], fun _ => none, V⟩) : YW P (.region id ops false) Q t W :=
  YW.yield (pre := ops.toList.take k) (post := ops.toList.drop (k + 1)) (d := d) (x := x) (xs := xs) (ts := ts) (ty := ty) (pos := pos) (af := af) (by
    obtain ⟨hlt, he⟩ := List.getElem?_eq_some_iff.1 hk
    rw [← he, List.getElem_cons_drop, List.take_append_drop]) hV hok hpre hpost h
end
end Go.Proofs.YthoboehbadmlmaaGreat
end
section
namespace Go.Proofs.YthoboehbadmlmaaGreat
open Go Go.RowKit
set_option linter.unusedSimpArgs false
set_option linter.unusedVariables false
attribute [local irreducible] XWP Spec SpecO XPub XCall seqX clX apX stX ldX iaX slX
end Go.Proofs.YthoboehbadmlmaaGreat
end
section
namespace Go.Proofs.YthoboehbadmlmaaGreat
open Go Go.RowKit
set_option linter.unusedSimpArgs false
set_option linter.unusedVariables false
attribute [local irreducible] XWP Spec SpecO XPub XCall seqX clX apX stX ldX iaX slX
end Go.Proofs.YthoboehbadmlmaaGreat
end
section
namespace Go.Proofs.YthoboehbadmlmaaGreat
open Go Go.RowKit
set_option linter.unusedSimpArgs false
set_option linter.unusedVariables false
attribute [local irreducible] XWP Spec SpecO XPub XCall seqX clX apX stX ldX iaX slX
attribute [local irreducible] YW
def TIs (F : (Nat → SV) → List SV) (t : List SV) : Prop := F (nth t) = t
theorem TIs.out {F : (Nat → SV) → List SV} {t : List SV} (h : TIs F t) : ∃ u, t = F u := ⟨nth t, h.symm⟩
theorem backward_c (V : View) (v : Value) (h1 : isOne v = true) : Spec Tryz.prog 48 [v] V fun v' V' => ∃ Bs e, v' = .func (.func 108) #[] #[.pointer (some ⟨Bs, 0, none⟩)] ∧ V' Bs = some (.cells #[v] e (0, 0)) := by
  have hc : v.cells.toList = [v] := by cases v <;> first | rfl | cases h1
  refine (Spec.enter Tryz.func48 rfl fun Γ => ?_)
  simp only [Tryz.ntmps48, List.map_cons, List.map_nil, List.length_cons, List.length_nil, Nat.reduceAdd, Nat.reduceSub, List.replicate_succ, List.replicate_zero, List.cons_append, List.nil_append]
  first | refine Gx.a (by kernel_rfl) fun K hK => ?_ | refine Gx.b (by kernel_rfl) fun K hK => ?_ | refine Gx.c (by kernel_rfl) fun K hK => ?_
  simp only [XA, XB, gateX, Nat.reduceAdd, Nat.reduceLeDiff, Nat.reduceSub, Nat.reduceMul, ↓reduceIte, Int.reduceToNat, Int.reduceLE, beq_self_eq_true, bxS, hc]
  refine hK _ ?_
  refine XWP.row1 (bx := []) fun b e hb1 hb2 => ?_
  simp only [List.map_cons, List.map_nil, rowS_v, rowS_p, List.length_nil, List.length_cons, Nat.reduceAdd, Nat.reduceEqDiff, ↓reduceIte]
  first | refine Gx.a (by kernel_rfl) fun K hK => ?_ | refine Gx.b (by kernel_rfl) fun K hK => ?_ | refine Gx.c (by kernel_rfl) fun K hK => ?_
  refine mkf_go [.pointer (some ⟨b, 0, none⟩)] rfl ?_
  simp only [XA, XB, gateX, Nat.reduceAdd, Nat.reduceLeDiff, Nat.reduceSub, Nat.reduceMul, ↓reduceIte, Int.reduceToNat, Int.reduceLE, beq_self_eq_true]
  refine hK _ (XWP.ret ?_)
  try simp only [thenX_ret, inBlockX_ret]
  have hbb : upd (fun _ => none) b (some ⟨e, [v], 1⟩) b = some ⟨e, [v], 1⟩ := upd_at _ _ _
  refine ret_pub b _ hbb fun o ho hle' => ret_go _ rfl ⟨b, e, rfl, ?_⟩
  obtain ⟨ex, rfl, hl⟩ := ho
  have : ex = [] := List.length_eq_zero_iff.1 (by simpa using hl)
  subst this
  simp [addV]
/-- the values that lie in a slice -/
theorem SlAt.vals {α : Type} {E : View → Value → α → Prop} {V : View} {b o n c : Nat} {xs : List α} (h : SlAt E V (.slice (some ⟨b, o, none⟩) n c) xs) : ∃ f : Nat → Value, ∀ i (hi : i < xs.length), E V (f i) xs[i] ∧ (∃ m n d, f i = .agg #[m, n, d] ∧ isOne m = true ∧ isOne n = true ∧ isOne d = true) ∧ ∀ H, Loads Tryz.prog H V 48 b (o + i * 3) (f i) := by
  refine ⟨fun i => if hi : i < xs.length then (SlAt.load h i hi).choose else undef, fun i hi => ?_⟩
  simp only [dif_pos hi]
  exact (SlAt.load h i hi).choose_spec
def bwL (n : Nat) (f : Nat → Value) : List (Array Value) := (List.range n).map fun r => #[.int .i64 ((n - 1 - r : Nat) : Int), f (n - 1 - r)]
theorem bwL_get {n : Nat} {f : Nat → Value} {r : Nat} (h : r < n) : (bwL n f)[r]? = some #[.int .i64 ((n - 1 - r : Nat) : Int), f (n - 1 - r)] := by simp [bwL, h]
theorem bwL_len (n : Nat) (f : Nat → Value) : (bwL n f).length = n := by simp [bwL]
set_option maxRecDepth 100000 in
theorem backward_it {V : View} {Bs n c e : Nat} {A : Option Addr} {f : Nat → Value} (hB : V Bs = some (.cells #[.slice A n c] e (0, 0))) (hn : n ≤ 1000000) (hf : n = 0 ∨ ∃ b o, A = some ⟨b, o, none⟩ ∧ ∀ i, i < n → Loads Tryz.prog (fun _ => none) V 48 b (o + i * 3) (f i)) :
    IterX Tryz.prog 108 #[.pointer (some ⟨Bs, 0, none⟩)] V (bwL n f) := by
  intro l J Jx W hJ0 hJV hJX hY
  refine callsIn_of_wp Tryz.func108 rfl trivial ?_
  have hld : Loads Tryz.prog (fun _ => none) V 25 Bs 0 (.slice A n c) := ⟨false, 1, shapeT_25, .inr ⟨rfl, .inr ⟨_, _, _, hB, rfl⟩⟩⟩
  rw [bwL_len]
  simp only [Tryz.ntmps108, List.size_toArray, List.length_cons, List.length_nil, Nat.reduceAdd, Nat.reduceSub, Array.replicate_succ, Array.replicate_zero, List.push_toArray, List.append_toArray, List.nil_append, List.cons_append]
  refine wpIn_mono (Q := YQ fun e t W' => (e = .normal ∨ e = .ret) ∧ (J n W' ∨ Jx W')) (YW.apply (t := [.v (.func (.yield l) #[] #[]), .v (.pointer (some ⟨Bs, 0, none⟩)), .v undef, .v undef, .v undef, .v undef, .v undef, .v undef, .v undef, .v undef, .v undef, .v undef, .v undef, .v undef, .v undef, .v undef, .v undef, .v undef, .v undef]) ?_ rfl rfl) ?_
  rotate_left
  · rintro e a W' ⟨t, e1, e2, hq, hr⟩
    rcases hq with rfl | rfl
    · exact ⟨e2, _, results_none rfl _ _ _, ⟨_, rfl⟩, hr⟩
    · exact ⟨e2, _, results_none rfl _ _ _, ⟨_, rfl⟩, hr⟩
  have hV := hJV 0 W hJ0
  refine YW.seq (YW.reads hV (by intro x hx; simp only [List.mem_cons, List.not_mem_nil, or_false] at hx; rcases hx with h | h | h | h | h | h | h | h | h | h | h | h | h | h | h | h | h | h | h <;> subst h <;> trivial) (by kernel_rfl) ?_)
  simp only [XA, XB, gateX, Nat.reduceAdd, Nat.reduceLeDiff, Nat.reduceSub, Nat.reduceMul, ↓reduceIte, Int.reduceToNat, Int.reduceLE, beq_self_eq_true]
  refine ld_mem hld ?_
  have w0 : IntKind.i64.wrap ((n : Int) - 1) = (n : Int) - 1 := wrap_id (by omega) (by omega)
  simp only [XA, XB, gateX, Nat.reduceAdd, Nat.reduceLeDiff, Nat.reduceSub, Nat.reduceMul, ↓reduceIte, Int.reduceToNat, Int.reduceLE, beq_self_eq_true, w0]
  intro hok
  refine YW.block (YW.loop (fun m t W' => ∃ (r : Nat) (zi : Int), m + r = n ∧ zi = (n : Int) - 1 - (r : Int) ∧ J r W' ∧ TIs (fun Z => [.v (.func (.yield l) #[] #[]), .v (.pointer (some ⟨Bs, 0, none⟩)), Z 2, .v (.int .i64 zi), Z 4,Z 5,Z 6,Z 7,Z 8,Z 9,Z 10,Z 11,Z 12,Z 13,Z 14,Z 15,Z 16,Z 17,Z 18]) t ∧ ∀ x ∈ t, x.ok 0) n ⟨0, (n : Int) - 1, by omega, by omega, hJ0, by exact rfl, hok⟩ ?_)
  clear hok
  rintro m t W' ⟨r, zi, hm, hz, hJ, ht, hok⟩
  obtain ⟨u, rfl⟩ := ht.out
  clear ht
  try dsimp only at hok ⊢
  have hV := hJV r W' hJ
  by_cases hr : r < n
  rotate_left
  · have b1 : decide (0 ≤ zi) = false := decide_eq_false (by omega)
    refine YW.seq (YW.seq (YW.reads hV hok (by kernel_rfl) ?_))
    simp only [XA, XB, gateX, Nat.reduceAdd, Nat.reduceLeDiff, Nat.reduceSub, Nat.reduceMul, ↓reduceIte, Int.reduceToNat, Int.reduceLE, beq_self_eq_true, b1]
    intro hok2
    refine YW.cond (V := V) (b := false) rfl (fun h => by cases h) (fun _ => YW.exit ?_)
    have : r = n := by omega
    subst this
    exact ⟨.inl rfl, .inl hJ⟩
  have b1 : decide (0 ≤ zi) = true := decide_eq_true (by omega)
  obtain ⟨i, rfl, hi⟩ : ∃ i : Nat, zi = i ∧ n - 1 - r = i := ⟨n - 1 - r, by omega, rfl⟩
  rcases hf with h0 | ⟨b, o, rfl, hf⟩
  · omega
  refine YW.seq (YW.seq (YW.reads hV hok (by kernel_rfl) ?_))
  simp only [XA, XB, gateX, Nat.reduceAdd, Nat.reduceLeDiff, Nat.reduceSub, Nat.reduceMul, ↓reduceIte, Int.reduceToNat, Int.reduceLE, beq_self_eq_true, b1]
  intro hok2
  refine YW.cond (V := V) (b := true) rfl (fun _ => YW.skip ?_) (fun h => by cases h)
  refine YW.seq (YW.block (YW.seq (YW.yieldAt 6 (by rfl) hV hok2 (by kernel_rfl) (by kernel_rfl) ?_)))
  simp only [XA, XB, gateX, Nat.reduceAdd, Nat.reduceLeDiff, Nat.reduceSub, Nat.reduceMul, ↓reduceIte, Int.reduceToNat, Int.reduceLE, beq_self_eq_true]
  refine ld_mem hld ?_
  simp only [XA, XB, gateX, Nat.reduceAdd, Nat.reduceLeDiff, Nat.reduceSub, Nat.reduceMul, ↓reduceIte, Int.reduceToNat, Int.reduceLE, beq_self_eq_true]
  refine ⟨by omega, by omega, ld_mem (hf i (by omega)) ?_⟩
  simp only [XA, XB, gateX, Nat.reduceAdd, Nat.reduceLeDiff, Nat.reduceSub, Nat.reduceMul, ↓reduceIte, Int.reduceToNat, Int.reduceLE, beq_self_eq_true]
  obtain ⟨fn, tmps, asn, bd, hy1, hy2⟩ := hY r W' _ (bwL_get hr) hJ
  rw [hi] at hy1
  refine ⟨l, [.int .i64 (i : Int), f i], _, rfl, rfl, ⟨fn, tmps, asn, bd, hy1, hy2⟩, ?_⟩
  rintro e W3 (⟨rfl, hJ3⟩ | ⟨rfl, hJ3⟩)
  · have hV3 := hJV _ W3 hJ3
    refine ⟨true, rfl, hV3, ?_⟩
    simp only [XA, XB, gateX, Nat.reduceAdd, Nat.reduceLeDiff, Nat.reduceSub, Nat.reduceMul, ↓reduceIte, Int.reduceToNat, Int.reduceLE, beq_self_eq_true]
    intro hok3
    refine YW.cond (V := V) (b := false) rfl (fun h => by cases h) (fun _ => YW.skip ?_)
    refine YW.reads hV3 hok3 (by kernel_rfl) ?_
    have w1 : IntKind.i64.wrap ((i : Int) - 1) = (i : Int) - 1 := wrap_id (by omega) (by omega)
    simp only [XA, XB, gateX, Nat.reduceAdd, Nat.reduceLeDiff, Nat.reduceSub, Nat.reduceMul, ↓reduceIte, Int.reduceToNat, Int.reduceLE, beq_self_eq_true, w1]
    intro hok4
    exact ⟨m - 1, by omega, r + 1, (i : Int) - 1, by omega, by omega, hJ3, by exact rfl, hok4⟩
  · refine ⟨false, rfl, ?_, ?_⟩
    · exact hJX W3 hJ3
    simp only [XA, XB, gateX, Nat.reduceAdd, Nat.reduceLeDiff, Nat.reduceSub, Nat.reduceMul, ↓reduceIte, Int.reduceToNat, Int.reduceLE, beq_self_eq_true]
    intro hok3
    refine YW.cond (V := V) (b := true) rfl (fun _ => YW.ret ?_) (fun h => by cases h)
    exact ⟨.inr rfl, .inr hJ3⟩
theorem loads_row {H : Heap} {V : View} {b e t : Nat} {m n d : Value} (h : H b = some ⟨e, [m, n, d], t⟩) : Loads Tryz.prog H V 48 b 0 (.agg #[m, n, d]) :=
  ⟨true, 3, shapeT_48, .inl ⟨rfl, [m, n, d], rfl, fun j u hj => .inl ⟨_, h, by rw [Nat.zero_add]; exact hj⟩, rfl⟩⟩
theorem splice3 (a b c d e f : Value) : splice [a, b, c] 0 [d, e, f] = [d, e, f] := by simp [splice]
/-- the program's way: from the highest power down -/
def hor (l : List Rat) (x : Rat) : Nat → Rat
  | 0 => 0
  | r + 1 => hor l x r * x + cf l (l.length - 1 - r)
theorem hor_QB {l : List Rat} {x : Rat} {A B : Nat} (hl : CB A l) (hx : QB B x) (r : Nat) : QB (r * (A + B + 1)) (hor l x r) := by
  induction r with
  | zero => exact QB_zero _
  | succ r ih => exact ((ih.mul hx).add (hl.at _)).mono (by rw [Nat.add_mul]; omega)
theorem eval_c (V : View) (v u : Value) (l : List Rat) (x : Rat) (A B : Nat) (hv : Rats V v l) (hu : RatC V u x) (hA : CB A l) (hB : QB B x) (ll : l.length ≤ 1000) (hfit : (l.length + 1) * (A + B + 1) ≤ 17592186044416) :
    Spec Tryz.prog 60 [v, u] V fun v' V' => RatC V' v' (hor l x l.length) := by
  obtain ⟨A1, c1, rfl, hc1, hm1⟩ := hv.form
  obtain ⟨ux, uy, rfl, o1, o2⟩ := hu.form
  have hqr : ∀ r, r ≤ l.length → QB ((l.length) * (A + B + 1)) (hor l x r) := fun r hr => (hor_QB hA hB r).mono (Nat.mul_le_mul_right _ hr)
  have hf1 : l.length * (A + B + 1) + A + B + 1 ≤ 17592186044416 := by rw [Nat.add_mul] at hfit; omega
  refine (Spec.enterR Tryz.func60 rfl fun Γ hΓ => ?_)
  simp only [Tryz.ntmps60, List.map_cons, List.map_nil, List.length_cons, List.length_nil, Nat.reduceAdd, Nat.reduceSub, List.replicate_succ, List.replicate_zero, List.cons_append, List.nil_append]
  first | refine Gx.a (by kernel_rfl) fun K hK => ?_ | refine Gx.b (by kernel_rfl) fun K hK => ?_ | refine Gx.c (by kernel_rfl) fun K hK => ?_
  simp only [XA, XB, gateX, Nat.reduceAdd, Nat.reduceLeDiff, Nat.reduceSub, Nat.reduceMul, ↓reduceIte, Int.reduceToNat, Int.reduceLE, beq_self_eq_true]
  refine hK _ ?_
  first | refine Gx.a (by kernel_rfl) fun K hK => ?_ | refine Gx.b (by kernel_rfl) fun K hK => ?_ | refine Gx.c (by kernel_rfl) fun K hK => ?_
  simp only [XA, XB, gateX, Nat.reduceAdd, Nat.reduceLeDiff, Nat.reduceSub, Nat.reduceMul, ↓reduceIte, Int.reduceToNat, Int.reduceLE, beq_self_eq_true]
  refine call_go (by kernel_rfl) rfl (qzero_c _) fun v1 V1 hV1 h1 => ?_
  obtain ⟨zx, zy, rfl, o3, o4⟩ := h1.form
  simp only [XA, XB, gateX, Nat.reduceAdd, Nat.reduceLeDiff, Nat.reduceSub, Nat.reduceMul, ↓reduceIte, Int.reduceToNat, Int.reduceLE, beq_self_eq_true]
  refine st_rat rfl rfl rfl o3 o4 ?_
  simp only [XA, XB, gateX, Nat.reduceAdd, Nat.reduceLeDiff, Nat.reduceSub, Nat.reduceMul, ↓reduceIte, Int.reduceToNat, Int.reduceLE, beq_self_eq_true]
  refine hK _ ?_
  refine XWP.cut (fun s => ∃ (V5 : View) (H5 : Heap) (b4 b5 e4 e5 : Nat) (m a b : Value), StIs (fun Z => [Z 0,Z 1,Z 2,Z 3, .v (.pointer (some ⟨b4, 0, none⟩)), .v (.pointer (some ⟨b5, 0, none⟩)), Z 6,Z 7,Z 8,Z 9,Z 10,Z 11,Z 12,Z 13,Z 14,Z 15,Z 16,Z 17,Z 18]) [] H5 V5 s ∧ H5 b4 = some ⟨e4, [.bool false, .slice none 0 0, .slice none 0 0], 3⟩ ∧ H5 b5 = some ⟨e5, [m, a, b], 3⟩ ∧ RatC V5 (.agg #[m, a, b]) (hor l x l.length) ∧ isOne m = true ∧ isOne a = true ∧ isOne b = true) ?_ ?_
  · first | refine Gx.a (by kernel_rfl) fun K hK => ?_ | refine Gx.b (by kernel_rfl) fun K hK => ?_ | refine Gx.c (by kernel_rfl) fun K hK => ?_
    simp only [XA, XB, gateX, Nat.reduceAdd, Nat.reduceLeDiff, Nat.reduceSub, Nat.reduceMul, ↓reduceIte, Int.reduceToNat, Int.reduceLE, beq_self_eq_true]
    refine call_go (by kernel_rfl) rfl (backward_c _ _ rfl) fun v2 V2 hV2 h2 => ?_
    obtain ⟨Bs, eB, rfl, hBs⟩ := h2
    simp only [XA, XB, gateX, Nat.reduceAdd, Nat.reduceLeDiff, Nat.reduceSub, Nat.reduceMul, ↓reduceIte, Int.reduceToNat, Int.reduceLE, beq_self_eq_true]
    refine hK _ ?_
    have hv2 := (hv.up hV1).up hV2
    have hu2 := (hu.mono hV1).mono hV2
    have h12 := h1.mono hV2
    refine XWP.row1 (bx := [_, _]) fun b5 e5 hb5 _ => ?_
    simp only [List.map_cons, List.map_nil, rowS_v, rowS_p, List.length_nil, List.length_cons, Nat.reduceAdd, Nat.reduceEqDiff, ↓reduceIte]
    refine XWP.row1 (bx := [_]) fun b4 e4 hb4 _ => ?_
    simp only [List.map_cons, List.map_nil, rowS_v, rowS_p, List.length_nil, List.length_cons, Nat.reduceAdd, Nat.reduceEqDiff, ↓reduceIte]
    refine XWP.row1 (bx := []) fun b3 e3 hb3 _ => ?_
    simp only [List.map_cons, List.map_nil, rowS_v, rowS_p, List.length_nil, List.length_cons, Nat.reduceAdd, Nat.reduceEqDiff, ↓reduceIte]
    have n45 : b4 ≠ b5 := fun h => by subst h; simp [upd] at hb4
    have n34 : b3 ≠ b4 := fun h => by subst h; simp [upd] at hb3
    have n35 : b3 ≠ b5 := fun h => by subst h; simp [upd, n34] at hb3
    obtain ⟨f, hf, hfv⟩ : ∃ f : Nat → Value, (l.length = 0 ∨ ∃ b o, A1 = some ⟨b, o, none⟩ ∧ ∀ i, i < l.length → Loads Tryz.prog (fun _ => none) V2 48 b (o + i * 3) (f i)) ∧ ∀ i, i < l.length → RatC V2 (f i) (cf l i) ∧ ∃ m n d, f i = .agg #[m, n, d] ∧ isOne m = true ∧ isOne n = true ∧ isOne d = true := by
      rcases Nat.eq_zero_or_pos l.length with h0 | h0
      · exact ⟨fun _ => undef, .inl h0, fun i hi => by omega⟩
      · obtain ⟨b, o, rfl⟩ := SlAt.addr hv2 h0
        obtain ⟨f, hf⟩ := SlAt.vals hv2
        refine ⟨f, .inr ⟨b, o, rfl, fun i hi => (hf i hi).2.2 _⟩, fun i hi => ⟨?_, (hf i hi).2.1⟩⟩
        have := (hf i hi).1
        rw [cf_get hi] at this
        exact this
    refine XWP.block (XWP.range hΓ (L := bwL l.length f) (I := fun r H' V' => V2.le V' ∧ H' b3 = some ⟨e3, [.bool (ng x), ux, uy], 3⟩ ∧ H' b4 = some ⟨e4, [.bool false, .slice none 0 0, .slice none 0 0], 3⟩ ∧ ∃ m a b, H' b5 = some ⟨e5, [m, a, b], 3⟩ ∧ RatC V' (.agg #[m, a, b]) (hor l x r) ∧ isOne m = true ∧ isOne a = true ∧ isOne b = true) (Ix := fun _ _ => False) rfl (by kernel_rfl) (fun args ha => ?_) (backward_it hBs (by omega) hf) ?_ (fun r H' V' h => h.1) (fun _ _ h => h.elim) ?_ ?_ (fun _ _ h => h.elim))
    · obtain ⟨r, _, rfl⟩ := List.mem_map.1 ha
      rfl
    · refine ⟨View.le_refl _, upd_at _ _ _, ?_, _, _, _, ?_, h12, rfl, o3, o4⟩
      · rw [upd_off (Ne.symm n34), upd_at]
      · rw [upd_off (Ne.symm n35), upd_off (Ne.symm n45), upd_at]
    · rintro Γ' r args H' V' hL ⟨hV', i3, i4, m, a, b, i5, hx5, q1, q2, q3⟩
      have hr : r < l.length := by
        have := (List.getElem?_eq_some_iff.1 hL).1
        rwa [bwL_len] at this
      rw [bwL_get hr] at hL
      cases hL
      obtain ⟨hfi, m6, n6, d6, e6, p1, p2, p3⟩ := hfv (l.length - 1 - r) (by omega)
      rw [e6] at hfi ⊢
      simp only [XA, XB, gateX, Nat.reduceAdd, Nat.reduceLeDiff, Nat.reduceSub, Nat.reduceMul, ↓reduceIte, Int.reduceToNat, Int.reduceLE, beq_self_eq_true, setPs]
      first | refine Gx.a (by kernel_rfl) fun K hK => ?_ | refine Gx.b (by kernel_rfl) fun K hK => ?_ | refine Gx.c (by kernel_rfl) fun K hK => ?_
      simp only [XA, XB, gateX, Nat.reduceAdd, Nat.reduceLeDiff, Nat.reduceSub, Nat.reduceMul, ↓reduceIte, Int.reduceToNat, Int.reduceLE, beq_self_eq_true]
      refine st_rat rfl rfl p1 p2 p3 ?_
      simp only [XA, XB, gateX, Nat.reduceAdd, Nat.reduceLeDiff, Nat.reduceSub, Nat.reduceMul, ↓reduceIte, Int.reduceToNat, Int.reduceLE, beq_self_eq_true]
      refine hK _ ?_
      intro Γ''
      first | refine XWP.block ?_ | refine XWP.seq (XWP.block ?_)
      (first | refine XWP.drw [0, 1, 3, 2, 4, 5] (by kernel_rfl) (by kernel_rfl) (by kernel_rfl) fun K hK => ?_ | refine XWP.seq (XWP.drw [0, 1, 3, 2, 4, 5] (by kernel_rfl) (by kernel_rfl) (by kernel_rfl) fun K hK => ?_) | refine XWP.drw1 [0, 1, 3, 2, 4, 5] (by kernel_rfl) (by kernel_rfl) (by kernel_rfl) fun K hK => ?_) <;> dsimp only [pickOps, List.getElem?_cons_zero, List.getElem?_cons_succ]
      simp only [XA, XB, gateX, Nat.reduceAdd, Nat.reduceLeDiff, Nat.reduceSub, Nat.reduceMul, ↓reduceIte, Int.reduceToNat, Int.reduceLE, beq_self_eq_true]
      refine ld_mem (loads_row i5) ?_
      simp only [XA, XB, gateX, Nat.reduceAdd, Nat.reduceLeDiff, Nat.reduceSub, Nat.reduceMul, ↓reduceIte, Int.reduceToNat, Int.reduceLE, beq_self_eq_true]
      refine ld_mem (loads_row i3) ?_
      simp only [XA, XB, gateX, Nat.reduceAdd, Nat.reduceLeDiff, Nat.reduceSub, Nat.reduceMul, ↓reduceIte, Int.reduceToNat, Int.reduceLE, beq_self_eq_true]
      refine call_go (by kernel_rfl) rfl (qmul_c _ _ _ _ _ hx5 (hu2.mono hV') ((hqr r (by omega)).qf (by omega)) (hB.qf (by omega))) fun v7 V7 hV7 h7 => ?_
      simp only [XA, XB, gateX, Nat.reduceAdd, Nat.reduceLeDiff, Nat.reduceSub, Nat.reduceMul, ↓reduceIte, Int.reduceToNat, Int.reduceLE, beq_self_eq_true]
      refine call_go (by kernel_rfl) rfl (qadd_c _ _ _ _ _ h7 ((hfi.mono hV').mono hV7) (((hqr r (by omega)).mul hB).qf (by omega)) ((hA.at _).qf (by omega))) fun v8 V8 hV8 h8 => ?_
      obtain ⟨x8, y8, rfl, o5, o6⟩ := h8.form
      simp only [XA, XB, gateX, Nat.reduceAdd, Nat.reduceLeDiff, Nat.reduceSub, Nat.reduceMul, ↓reduceIte, Int.reduceToNat, Int.reduceLE, beq_self_eq_true]
      refine st_rowA shapeT_48 (all3 rfl o5 o6) rfl i5 (by simp) ?_
      simp only [XA, XB, gateX, Nat.reduceAdd, Nat.reduceLeDiff, Nat.reduceSub, Nat.reduceMul, ↓reduceIte, Int.reduceToNat, Int.reduceLE, beq_self_eq_true, splice3]
      exact hK _ ⟨View.le_trans hV' (View.le_trans hV7 hV8), (upd_off n35).trans i3, (upd_off n45).trans i4, _, _, _, upd_at _ _ _, h8, rfl, o5, o6⟩
    · rintro H' V' ⟨hV', i3, i4, m, a, b, i5, hx5, q1, q2, q3⟩
      rw [bwL_len] at hx5
      exact ⟨V', H', b4, b5, e4, e5, m, a, b, StIs.of (by exact rfl), i4, i5, hx5, q1, q2, q3⟩
  rintro s ⟨V5, H5, b4, b5, e4, e5, m, a, b, hs, i4, i5, hx5, q1, q2, q3⟩
  obtain ⟨z, rfl⟩ := hs.out
  try dsimp only
  clear hs
  first | refine Gx.a (by kernel_rfl) fun K hK => ?_ | refine Gx.b (by kernel_rfl) fun K hK => ?_ | refine Gx.c (by kernel_rfl) fun K hK => ?_
  simp only [XA, XB, gateX, Nat.reduceAdd, Nat.reduceLeDiff, Nat.reduceSub, Nat.reduceMul, ↓reduceIte, Int.reduceToNat, Int.reduceLE, beq_self_eq_true]
  refine ld_mem (loads_row i5) ?_
  simp only [XA, XB, gateX, Nat.reduceAdd, Nat.reduceLeDiff, Nat.reduceSub, Nat.reduceMul, ↓reduceIte, Int.reduceToNat, Int.reduceLE, beq_self_eq_true]
  refine st_rowA shapeT_48 (all3 q1 q2 q3) rfl i4 (by simp) ?_
  simp only [XA, XB, gateX, Nat.reduceAdd, Nat.reduceLeDiff, Nat.reduceSub, Nat.reduceMul, ↓reduceIte, Int.reduceToNat, Int.reduceLE, beq_self_eq_true, splice3]
  refine hK _ (XWP.ret ?_)
  try simp only [thenX_ret, inBlockX_ret]
  refine ret_go [.agg #[m, a, b]] ?_ hx5
  simp [resAll, resV, cellsV, upd_at, shapeT_48]
end Go.Proofs.YthoboehbadmlmaaGreat
end
section
namespace Go.Proofs.YthoboehbadmlmaaGreat
open Go Go.RowKit
set_option linter.unusedSimpArgs false
set_option linter.unusedVariables false
attribute [local irreducible] XWP Spec SpecO XPub XCall seqX clX apX stX ldX iaX slX
def pwr (x : Rat) : Nat → Rat
  | 0 => 1
  | k + 1 => pwr x k * x
def evr (l : List Rat) (x : Rat) : Nat → Rat
  | 0 => 0
  | k + 1 => evr l x k + cf l k * pwr x k
theorem evr_Sm (l : List Rat) (x : Rat) (k : Nat) : evr l x k = Sm (fun j => cf l j * pwr x j) k := by
  induction k with
  | zero => rfl
  | succ k ih => rw [evr, ih]; rfl
theorem hor_evr (l : List Rat) (x : Rat) : hor l x l.length = evr l x l.length := by
  have key : ∀ r, r ≤ l.length → hor l x r = Sm (fun j => cf l (l.length - r + j) * pwr x j) r := by
    intro r
    induction r with
    | zero => intro _; rfl
    | succ r ih =>
      intro hr
      rw [hor, ih (by omega), Sm_front]
      have e1 : Sm (fun j => cf l (l.length - (r + 1) + (j + 1)) * pwr x (j + 1)) r = x * Sm (fun j => cf l (l.length - r + j) * pwr x j) r := by
        rw [← Sm_mul]
        refine Sm_congr _ fun j _ => ?_
        rw [show l.length - (r + 1) + (j + 1) = l.length - r + j by omega, pwr]; grind
      rw [e1, Nat.add_zero, show l.length - (r + 1) = l.length - 1 - r by omega, pwr]; grind
  rw [key _ (Nat.le_refl _), evr_Sm, Nat.sub_self]
  exact Sm_congr _ fun j _ => by rw [Nat.zero_add]
theorem pwr_QB {x : Rat} {B : Nat} (hx : QB B x) (k : Nat) : QB (k * B) (pwr x k) := by
  induction k with
  | zero => exact QB_one _
  | succ k ih => exact (ih.mul hx).mono (by rw [Nat.add_mul]; omega)
theorem evr_QB {l : List Rat} {x : Rat} {A B n : Nat} (hl : CB A l) (hx : QB B x) (k : Nat) (hk : k ≤ n) : QB (k * (A + n * B + 1)) (evr l x k) := by
  induction k with
  | zero => exact QB_zero _
  | succ k ih =>
    have h1 := Nat.mul_le_mul_right B (show k ≤ n by omega)
    exact ((ih (by omega)).add ((hl.at k).mul (pwr_QB hx k))).mono (by rw [Nat.add_mul]; omega)
theorem deval_c (V : View) (v u : Value) (l : List Rat) (x : Rat) (A B : Nat) (hv : Rats V v l) (hu : RatC V u x) (hA : CB A l) (hB : QB B x) (ll : l.length ≤ 1000) (hfit : (l.length + 2) * (A + (l.length + 1) * B + 1) ≤ 17592186044416) :
    Spec Tryz.prog 105 [v, u] V fun v' V' => RatC V' v' (evr l x l.length) := by
  obtain ⟨A1, c1, rfl, hc1, hm1⟩ := hv.form
  obtain ⟨ux, uy, rfl, o1, o2⟩ := hu.form
  have hp : ∀ k, k ≤ l.length + 1 → QB ((l.length + 1) * B) (pwr x k) := fun k hk => (pwr_QB hB k).mono (Nat.mul_le_mul_right _ hk)
  have he : ∀ k, k ≤ l.length + 1 → QB ((l.length + 1) * (A + (l.length + 1) * B + 1)) (evr l x k) := fun k hk => (evr_QB hA hB k hk).mono (Nat.mul_le_mul_right _ hk)
  have hf1 : (l.length + 1) * (A + (l.length + 1) * B + 1) + (A + (l.length + 1) * B + 1) ≤ 17592186044416 := by rw [show l.length + 2 = l.length + 1 + 1 by omega, Nat.add_mul (l.length + 1)] at hfit; omega
  have hfB : B ≤ (l.length + 1) * B := Nat.le_mul_of_pos_left B (by omega)
  refine (Spec.enter Tryz.func105 rfl fun Γ => ?_)
  simp only [Tryz.ntmps105, List.map_cons, List.map_nil, List.length_cons, List.length_nil, Nat.reduceAdd, Nat.reduceSub, List.replicate_succ, List.replicate_zero, List.cons_append, List.nil_append]
  first | refine Gx.a (by kernel_rfl) fun K hK => ?_ | refine Gx.b (by kernel_rfl) fun K hK => ?_ | refine Gx.c (by kernel_rfl) fun K hK => ?_
  simp only [XA, XB, gateX, Nat.reduceAdd, Nat.reduceLeDiff, Nat.reduceSub, Nat.reduceMul, ↓reduceIte, Int.reduceToNat, Int.reduceLE, beq_self_eq_true]
  refine hK _ ?_
  first | refine Gx.a (by kernel_rfl) fun K hK => ?_ | refine Gx.b (by kernel_rfl) fun K hK => ?_ | refine Gx.c (by kernel_rfl) fun K hK => ?_
  simp only [XA, XB, gateX, Nat.reduceAdd, Nat.reduceLeDiff, Nat.reduceSub, Nat.reduceMul, ↓reduceIte, Int.reduceToNat, Int.reduceLE, beq_self_eq_true]
  refine call_go (by kernel_rfl) rfl (pzero_c _) fun v1 V1 hV1 h1 => ?_
  obtain ⟨zx, zy, rfl, o3, o4⟩ := h1.form
  simp only [XA, XB, gateX, Nat.reduceAdd, Nat.reduceLeDiff, Nat.reduceSub, Nat.reduceMul, ↓reduceIte, Int.reduceToNat, Int.reduceLE, beq_self_eq_true]
  refine call_go (by kernel_rfl) rfl (pone_c _) fun v2 V2 hV2 h2 => ?_
  obtain ⟨wx, wy, rfl, o5, o6⟩ := h2.form
  have h1 := h1.mono hV2
  simp only [XA, XB, gateX, Nat.reduceAdd, Nat.reduceLeDiff, Nat.reduceSub, Nat.reduceMul, ↓reduceIte, Int.reduceToNat, Int.reduceLE, beq_self_eq_true]
  refine st_rat rfl rfl rfl o3 o4 ?_
  simp only [XA, XB, gateX, Nat.reduceAdd, Nat.reduceLeDiff, Nat.reduceSub, Nat.reduceMul, ↓reduceIte, Int.reduceToNat, Int.reduceLE, beq_self_eq_true]
  refine st_rat rfl rfl rfl o5 o6 ?_
  simp only [XA, XB, gateX, Nat.reduceAdd, Nat.reduceLeDiff, Nat.reduceSub, Nat.reduceMul, ↓reduceIte, Int.reduceToNat, Int.reduceLE, beq_self_eq_true]
  refine hK _ ?_
  have hV12 := View.le_trans hV1 hV2
  refine XWP.cutD 4 (fun s => ∃ (V5 : View) (m a b m' a' b' : Value), StIs (fun Z => [Z 0,Z 1,Z 2, .p 0 0, .p 1 0, .p 2 0, .p 3 0, Z 7,Z 8,Z 9,Z 10,Z 11,Z 12,Z 13,Z 14,Z 15,Z 16,Z 17,Z 18,Z 19,Z 20,Z 21,Z 22,Z 23,Z 24,Z 25,Z 26]) [[.bool (ng x), ux, uy], [.bool false, .slice none 0 0, .slice none 0 0], [m, a, b], [m', a', b']] (fun _ => none) V5 s ∧ RatC V5 (.agg #[m, a, b]) (evr l x l.length) ∧ isOne m = true ∧ isOne a = true ∧ isOne b = true) ?_ ?_
  · first | refine Gx.a (by kernel_rfl) fun K hK => ?_ | refine Gx.b (by kernel_rfl) fun K hK => ?_ | refine Gx.c (by kernel_rfl) fun K hK => ?_
    simp only [XA, XB, gateX, Nat.reduceAdd, Nat.reduceLeDiff, Nat.reduceSub, Nat.reduceMul, ↓reduceIte, Int.reduceToNat, Int.reduceLE, beq_self_eq_true]
    refine hK _ ?_
    clear hK
    first | refine XWP.block ?_ | refine XWP.seq (XWP.block ?_)
    refine XWP.loopD 4 (fun d s => ∃ (k : Nat) (V5 : View) (m a b m' a' b' : Value), StIs (fun Z => [Z 0,Z 1,Z 2, .p 0 0, .p 1 0, .p 2 0, .p 3 0, Z 7,Z 8,Z 9,Z 10, .v (.slice A1 l.length c1), .v (.int .i64 (l.length : Int)), .v (.int .i64 (k : Int)), Z 14,Z 15,Z 16,Z 17,Z 18,Z 19,Z 20,Z 21,Z 22,Z 23,Z 24,Z 25,Z 26]) [[.bool (ng x), ux, uy], [.bool false, .slice none 0 0, .slice none 0 0], [m, a, b], [m', a', b']] (fun _ => none) V5 s ∧ V2.le V5 ∧ d + k = l.length ∧ RatC V5 (.agg #[m, a, b]) (evr l x k) ∧ RatC V5 (.agg #[m', a', b']) (pwr x k) ∧ isOne m = true ∧ isOne a = true ∧ isOne b = true ∧ isOne m' = true ∧ isOne a' = true ∧ isOne b' = true) l.length ⟨0, V2, _, _, _, _, _, _, StIs.of (by exact rfl), View.le_refl _, by omega, h1, h2, rfl, o3, o4, rfl, o5, o6⟩ ?_
    rintro d s ⟨k, V5, m, a, b, m', a', b', hs, hV5, hd, h5, h6, q1, q2, q3, q4, q5, q6⟩
    obtain ⟨z, rfl⟩ := hs.out
    try dsimp only
    clear hs
    by_cases hk : k < l.length
    rotate_left
    · obtain rfl : k = l.length := by omega
      have b1 : decide ((l.length : Int) < (l.length : Int)) = false := decide_eq_false (by omega)
      first | refine Gx.a (by kernel_rfl) fun K hK => ?_ | refine Gx.b (by kernel_rfl) fun K hK => ?_ | refine Gx.c (by kernel_rfl) fun K hK => ?_
      simp only [XA, XB, gateX, Nat.reduceAdd, Nat.reduceLeDiff, Nat.reduceSub, Nat.reduceMul, ↓reduceIte, Int.reduceToNat, Int.reduceLE, beq_self_eq_true, b1]
      refine hK _ ?_
      first | refine Gx.f rfl ?_ | refine XWP.seq (Gx.f rfl ?_)
      refine XWP.exit ?_
      exact fun f => ⟨V5, m, a, b, m', a', b', StIs.of (by exact rfl), h5, q1, q2, q3⟩
    have b1 : decide ((k : Int) < (l.length : Int)) = true := decide_eq_true (by omega)
    first | refine Gx.a (by kernel_rfl) fun K hK => ?_ | refine Gx.b (by kernel_rfl) fun K hK => ?_ | refine Gx.c (by kernel_rfl) fun K hK => ?_
    simp only [XA, XB, gateX, Nat.reduceAdd, Nat.reduceLeDiff, Nat.reduceSub, Nat.reduceMul, ↓reduceIte, Int.reduceToNat, Int.reduceLE, beq_self_eq_true, b1]
    refine hK _ ?_
    first | refine Gx.t rfl ?_ | refine XWP.seq (Gx.t rfl ?_)
    refine XWP.skip ?_
    refine XWP.seq ?_
    first | refine XWP.block ?_ | refine XWP.seq (XWP.block ?_)
    have hv5 := hv.up (View.le_trans hV12 hV5)
    have hu5 := hu.mono (View.le_trans hV12 hV5)
    obtain ⟨b0, o0, rfl⟩ := SlAt.addr hv5 (by omega)
    obtain ⟨m3, n3, d3, hx3, ⟨p1, p2, p3⟩, hld3⟩ := Rats.get hv5 k (by omega)
    first | refine Gx.a (by kernel_rfl) fun K hK => ?_ | refine Gx.b (by kernel_rfl) fun K hK => ?_ | refine Gx.c (by kernel_rfl) fun K hK => ?_
    simp only [XA, XB, gateX, Nat.reduceAdd, Nat.reduceLeDiff, Nat.reduceSub, Nat.reduceMul, ↓reduceIte, Int.reduceToNat, Int.reduceLE, beq_self_eq_true]
    refine ⟨by omega, by omega, ld_mem (hld3 _) ?_⟩
    simp only [XA, XB, gateX, Nat.reduceAdd, Nat.reduceLeDiff, Nat.reduceSub, Nat.reduceMul, ↓reduceIte, Int.reduceToNat, Int.reduceLE, beq_self_eq_true]
    refine st_rat rfl rfl p1 p2 p3 ?_
    simp only [XA, XB, gateX, Nat.reduceAdd, Nat.reduceLeDiff, Nat.reduceSub, Nat.reduceMul, ↓reduceIte, Int.reduceToNat, Int.reduceLE, beq_self_eq_true]
    refine hK _ ?_
    have qc := hA.at k
    have qp := hp k (by omega)
    have qe := he k (by omega)
    have qm : QB (A + (l.length + 1) * B) (cf l k * pwr x k) := qc.mul qp
    (first | refine XWP.drw [0, 1, 2, 3, 4, 5] (by kernel_rfl) (by kernel_rfl) (by kernel_rfl) fun K hK => ?_ | refine XWP.seq (XWP.drw [0, 1, 2, 3, 4, 5] (by kernel_rfl) (by kernel_rfl) (by kernel_rfl) fun K hK => ?_) | refine XWP.drw1 [0, 1, 2, 3, 4, 5] (by kernel_rfl) (by kernel_rfl) (by kernel_rfl) fun K hK => ?_) <;> dsimp only [pickOps, List.getElem?_cons_zero, List.getElem?_cons_succ]
    simp only [XA, XB, gateX, Nat.reduceAdd, Nat.reduceLeDiff, Nat.reduceSub, Nat.reduceMul, ↓reduceIte, Int.reduceToNat, Int.reduceLE, beq_self_eq_true]
    refine call_go (by kernel_rfl) rfl (pmul_c _ _ _ _ _ (hx3.toV (qc.qf (by omega))) (h6.toV (qp.qf (by omega))) (qc.qf (by omega)) (qp.qf (by omega))) fun v7 V7 hV7 h7 => ?_
    simp only [XA, XB, gateX, Nat.reduceAdd, Nat.reduceLeDiff, Nat.reduceSub, Nat.reduceMul, ↓reduceIte, Int.reduceToNat, Int.reduceLE, beq_self_eq_true]
    refine call_go (by kernel_rfl) rfl (padd_c _ _ _ _ _ ((h5.mono hV7).toV (qe.qf (by omega))) (h7.toV (qm.qf (by omega))) (qe.qf (by omega)) (qm.qf (by omega))) fun v8 V8 hV8 h8 => ?_
    obtain ⟨x8, y8, rfl, o7, o8⟩ := h8.form
    simp only [XA, XB, gateX, Nat.reduceAdd, Nat.reduceLeDiff, Nat.reduceSub, Nat.reduceMul, ↓reduceIte, Int.reduceToNat, Int.reduceLE, beq_self_eq_true]
    refine st_rat rfl rfl rfl o7 o8 ?_
    simp only [XA, XB, gateX, Nat.reduceAdd, Nat.reduceLeDiff, Nat.reduceSub, Nat.reduceMul, ↓reduceIte, Int.reduceToNat, Int.reduceLE, beq_self_eq_true]
    refine hK _ ?_
    have h6 := (h6.mono hV7).mono hV8
    have hu8 := (hu5.mono hV7).mono hV8
    first | refine Gx.a (by kernel_rfl) fun K hK => ?_ | refine Gx.b (by kernel_rfl) fun K hK => ?_ | refine Gx.c (by kernel_rfl) fun K hK => ?_
    simp only [XA, XB, gateX, Nat.reduceAdd, Nat.reduceLeDiff, Nat.reduceSub, Nat.reduceMul, ↓reduceIte, Int.reduceToNat, Int.reduceLE, beq_self_eq_true]
    refine call_go (by kernel_rfl) rfl (pmul_c _ _ _ _ _ (h6.toV (qp.qf (by omega))) (hu8.toV (hB.qf (by omega))) (qp.qf (by omega)) (hB.qf (by omega))) fun v9 V9 hV9 h9 => ?_
    obtain ⟨x9, y9, rfl, o9, o10⟩ := h9.form
    simp only [XA, XB, gateX, Nat.reduceAdd, Nat.reduceLeDiff, Nat.reduceSub, Nat.reduceMul, ↓reduceIte, Int.reduceToNat, Int.reduceLE, beq_self_eq_true]
    refine st_rat rfl rfl rfl o9 o10 ?_
    simp only [XA, XB, gateX, Nat.reduceAdd, Nat.reduceLeDiff, Nat.reduceSub, Nat.reduceMul, ↓reduceIte, Int.reduceToNat, Int.reduceLE, beq_self_eq_true]
    refine hK _ ?_
    first | refine Gx.a (by kernel_rfl) fun K hK => ?_ | refine Gx.b (by kernel_rfl) fun K hK => ?_ | refine Gx.c (by kernel_rfl) fun K hK => ?_
    simp only [XA, XB, gateX, Nat.reduceAdd, Nat.reduceLeDiff, Nat.reduceSub, Nat.reduceMul, ↓reduceIte, Int.reduceToNat, Int.reduceLE, beq_self_eq_true, i64_succ k (by omega)]
    exact hK _ ⟨d - 1, by omega, fun f => ⟨k + 1, V9, _, _, _, _, _, _, StIs.of (by exact rfl), View.le_trans hV5 (View.le_trans hV7 (View.le_trans hV8 hV9)), by omega, h8.mono hV9, h9, rfl, o7, o8, rfl, o9, o10⟩⟩
  rintro s ⟨V5, m, a, b, m', a', b', hs, h5, q1, q2, q3⟩
  obtain ⟨z, rfl⟩ := hs.out
  try dsimp only
  clear hs
  first | refine Gx.a (by kernel_rfl) fun K hK => ?_ | refine Gx.b (by kernel_rfl) fun K hK => ?_ | refine Gx.c (by kernel_rfl) fun K hK => ?_
  simp only [XA, XB, gateX, Nat.reduceAdd, Nat.reduceLeDiff, Nat.reduceSub, Nat.reduceMul, ↓reduceIte, Int.reduceToNat, Int.reduceLE, beq_self_eq_true]
  refine st_rat rfl rfl q1 q2 q3 ?_
  simp only [XA, XB, gateX, Nat.reduceAdd, Nat.reduceLeDiff, Nat.reduceSub, Nat.reduceMul, ↓reduceIte, Int.reduceToNat, Int.reduceLE, beq_self_eq_true]
  refine hK _ (XWP.ret ?_)
  try simp only [thenX_ret, inBlockX_ret]
  exact ret_rat1 rfl rfl rfl h5
def evE (P : List Raw) (X : Raw) : Int := if rightP P = true ∧ X.ok = true then 0 else 1
def evQ (P : List Raw) (X : Raw) : Rat := if rightP P = true ∧ X.ok = true then evr (qs P) X.q P.length else 0
theorem cEval_c (V : View) (v u : Value) (P : List Raw) (X : Raw) (A B : Nat) (hv : Raws V v P) (hu : rawE V u X) (fP : fitR P) (fX : X.fit) (lP : P.length ≤ 1000) (hA : rightP P = true → CB A (qs P)) (hB : X.ok = true → QB B X.q) (hfit : (P.length + 2) * (A + (P.length + 1) * B + 1) ≤ 17592186044416) :
    Spec Tryz.prog 19 [v, u] V fun v' V' => ∃ w, v' = .tuple #[w, .int .i64 (evE P X)] ∧ RatV V' w (evQ P X) := by
  obtain ⟨A1, c1, rfl, hc1, hm1⟩ := hv.form
  have hu0 := hu
  obtain ⟨n1, d1, rfl, hn1, hd1⟩ := hu
  refine (Spec.enter Tryz.func19 rfl fun Γ => ?_)
  simp only [Tryz.ntmps19, List.map_cons, List.map_nil, List.length_cons, List.length_nil, Nat.reduceAdd, Nat.reduceSub, List.replicate_succ, List.replicate_zero, List.cons_append, List.nil_append]
  first | refine Gx.a (by kernel_rfl) fun K hK => ?_ | refine Gx.b (by kernel_rfl) fun K hK => ?_ | refine Gx.c (by kernel_rfl) fun K hK => ?_
  simp only [XA, XB, gateX, Nat.reduceAdd, Nat.reduceLeDiff, Nat.reduceSub, Nat.reduceMul, ↓reduceIte, Int.reduceToNat, Int.reduceLE, beq_self_eq_true]
  refine hK _ ?_
  refine XWP.seq ?_
  first | refine Gx.a (by kernel_rfl) fun K hK => ?_ | refine Gx.b (by kernel_rfl) fun K hK => ?_ | refine Gx.c (by kernel_rfl) fun K hK => ?_
  simp only [XA, XB, gateX, Nat.reduceAdd, Nat.reduceLeDiff, Nat.reduceSub, Nat.reduceMul, ↓reduceIte, Int.reduceToNat, Int.reduceLE, beq_self_eq_true]
  refine call_go (by kernel_rfl) rfl (cright_c _ _ _ hv fP (by omega)) fun v1 V1 hV1 h1 => ?_
  subst h1
  by_cases hk : rightP P = true ∧ X.ok = true
  rotate_left
  · have eE : evE P X = 1 := if_neg hk
    have eQ : evQ P X = 0 := if_neg hk
    cases e1 : rightP P
    · simp only [XA, XB, gateX, Nat.reduceAdd, Nat.reduceLeDiff, Nat.reduceSub, Nat.reduceMul, ↓reduceIte, Int.reduceToNat, Int.reduceLE, beq_self_eq_true]
      refine hK _ ?_
      first | refine Gx.t rfl ?_ | refine XWP.seq (Gx.t rfl ?_)
      first | refine Gx.a (by kernel_rfl) fun K hK => ?_ | refine Gx.b (by kernel_rfl) fun K hK => ?_ | refine Gx.c (by kernel_rfl) fun K hK => ?_
      simp only [XA, XB, gateX, Nat.reduceAdd, Nat.reduceLeDiff, Nat.reduceSub, Nat.reduceMul, ↓reduceIte, Int.reduceToNat, Int.reduceLE, beq_self_eq_true]
      refine bd_go (by kernel_rfl) #[] (by simp) bd_rat0 ?_
      simp only [XA, XB, gateX, Nat.reduceAdd, Nat.reduceLeDiff, Nat.reduceSub, Nat.reduceMul, ↓reduceIte, Int.reduceToNat, Int.reduceLE, beq_self_eq_true]
      refine st_rat rfl rfl rfl rfl rfl ?_
      simp only [XA, XB, gateX, Nat.reduceAdd, Nat.reduceLeDiff, Nat.reduceSub, Nat.reduceMul, ↓reduceIte, Int.reduceToNat, Int.reduceLE, beq_self_eq_true]
      refine hK _ (XWP.ret ?_)
      try simp only [thenX_ret, inBlockX_ret]
      exact ret_rat2 rfl rfl rfl rfl ⟨_, by rw [eE], by rw [eQ]; exact RatV.zero _⟩
    · have e2 : rawOk X.m X.nd X.dd = false := by
        cases h : rawOk X.m X.nd X.dd
        · rfl
        · exact absurd ⟨e1, h⟩ hk
      simp only [XA, XB, gateX, Nat.reduceAdd, Nat.reduceLeDiff, Nat.reduceSub, Nat.reduceMul, ↓reduceIte, Int.reduceToNat, Int.reduceLE, beq_self_eq_true]
      refine call_go (by kernel_rfl) rfl (qright_c _ _ _ _ _ (RawAt.mono hu0 hV1) fX.1 fX.2) fun v2 V2 hV2 h2 => ?_
      subst h2
      rw [e2]
      simp only [XA, XB, gateX, Nat.reduceAdd, Nat.reduceLeDiff, Nat.reduceSub, Nat.reduceMul, ↓reduceIte, Int.reduceToNat, Int.reduceLE, beq_self_eq_true]
      refine hK _ ?_
      first | refine Gx.t rfl ?_ | refine XWP.seq (Gx.t rfl ?_)
      first | refine Gx.a (by kernel_rfl) fun K hK => ?_ | refine Gx.b (by kernel_rfl) fun K hK => ?_ | refine Gx.c (by kernel_rfl) fun K hK => ?_
      simp only [XA, XB, gateX, Nat.reduceAdd, Nat.reduceLeDiff, Nat.reduceSub, Nat.reduceMul, ↓reduceIte, Int.reduceToNat, Int.reduceLE, beq_self_eq_true]
      refine bd_go (by kernel_rfl) #[] (by simp) bd_rat0 ?_
      simp only [XA, XB, gateX, Nat.reduceAdd, Nat.reduceLeDiff, Nat.reduceSub, Nat.reduceMul, ↓reduceIte, Int.reduceToNat, Int.reduceLE, beq_self_eq_true]
      refine st_rat rfl rfl rfl rfl rfl ?_
      simp only [XA, XB, gateX, Nat.reduceAdd, Nat.reduceLeDiff, Nat.reduceSub, Nat.reduceMul, ↓reduceIte, Int.reduceToNat, Int.reduceLE, beq_self_eq_true]
      refine hK _ (XWP.ret ?_)
      try simp only [thenX_ret, inBlockX_ret]
      exact ret_rat2 rfl rfl rfl rfl ⟨_, by rw [eE], by rw [eQ]; exact RatV.zero _⟩
  obtain ⟨e1, e2⟩ := hk
  have eE : evE P X = 0 := if_pos ⟨e1, e2⟩
  have eQ : evQ P X = evr (qs P) X.q P.length := if_pos ⟨e1, e2⟩
  rw [e1]
  simp only [XA, XB, gateX, Nat.reduceAdd, Nat.reduceLeDiff, Nat.reduceSub, Nat.reduceMul, ↓reduceIte, Int.reduceToNat, Int.reduceLE, beq_self_eq_true]
  refine call_go (by kernel_rfl) rfl (qright_c _ _ _ _ _ (RawAt.mono hu0 hV1) fX.1 fX.2) fun v2 V2 hV2 h2 => ?_
  subst h2
  have e2' : rawOk X.m X.nd X.dd = true := e2
  rw [e2']
  simp only [XA, XB, gateX, Nat.reduceAdd, Nat.reduceLeDiff, Nat.reduceSub, Nat.reduceMul, ↓reduceIte, Int.reduceToNat, Int.reduceLE, beq_self_eq_true]
  refine hK _ ?_
  first | refine Gx.f rfl ?_ | refine XWP.seq (Gx.f rfl ?_)
  refine XWP.skip ?_
  have hV12 := View.le_trans hV1 hV2
  have hr := (Raws.rats hv (rightP_parts e1).1).up hV12
  have hx : RatC V2 _ X.q := RawAt.rat (RawAt.mono hu0 hV12) e2'
  have el := qs_len P
  have hA := hA e1
  have hB := hB e2
  have hf1 : (P.length + 1) * (A + B + 1) ≤ 17592186044416 := Nat.le_trans (Nat.mul_le_mul (by omega) (by
    have := Nat.le_mul_of_pos_left B (show 0 < P.length + 1 by omega)
    omega)) hfit
  have hQ : QF (evr (qs P) X.q P.length) := by
    have := evr_QB (n := P.length) hA hB P.length (Nat.le_refl _)
    refine this.qf (Nat.le_trans (Nat.mul_le_mul (by omega) ?_) hfit)
    have := Nat.mul_le_mul_right B (show P.length ≤ P.length + 1 by omega)
    omega
  rw [← el] at hr
  first | refine Gx.a (by kernel_rfl) fun K hK => ?_ | refine Gx.b (by kernel_rfl) fun K hK => ?_ | refine Gx.c (by kernel_rfl) fun K hK => ?_
  simp only [XA, XB, gateX, Nat.reduceAdd, Nat.reduceLeDiff, Nat.reduceSub, Nat.reduceMul, ↓reduceIte, Int.reduceToNat, Int.reduceLE, beq_self_eq_true]
  refine call_go (by kernel_rfl) rfl (eval_c _ _ _ (qs P) X.q A B (by rw [← el]; exact hr) hx hA hB (by omega) (by rw [el]; exact hf1)) fun v3 V3 hV3 h3 => ?_
  rw [hor_evr, el] at h3
  obtain ⟨x3, y3, rfl, o3, o4⟩ := h3.form
  simp only [XA, XB, gateX, Nat.reduceAdd, Nat.reduceLeDiff, Nat.reduceSub, Nat.reduceMul, ↓reduceIte, Int.reduceToNat, Int.reduceLE, beq_self_eq_true]
  refine st_rat rfl rfl rfl o3 o4 ?_
  simp only [XA, XB, gateX, Nat.reduceAdd, Nat.reduceLeDiff, Nat.reduceSub, Nat.reduceMul, ↓reduceIte, Int.reduceToNat, Int.reduceLE, beq_self_eq_true]
  refine hK _ (XWP.ret ?_)
  try simp only [thenX_ret, inBlockX_ret]
  exact ret_rat2 rfl rfl rfl rfl ⟨_, by rw [eE], by rw [eQ]; exact h3.toV hQ⟩
end Go.Proofs.YthoboehbadmlmaaGreat
end
section
namespace Go.Proofs.YthoboehbadmlmaaGreat
set_option linter.unusedVariables false
theorem pwr_pow (x : Rat) : ∀ k, pwr x k = x ^ k
  | 0 => by rw [rpow_zero]; rfl
  | k + 1 => by rw [rpow_succ, ← pwr_pow x k]; rfl
theorem evr_pv {l : List Rat} {d : Nat} (h : l.length ≤ d + 1) (x : Rat) : evr l x l.length = pv (cf l) d x := by
  rw [evr_Sm]
  unfold pv
  rw [Sm_more h fun j h1 _ => by rw [cf_none h1]; grind]
  exact Sm_congr _ fun j _ => by rw [pwr_pow]
/-- the characteristic polynomial -/
theorem chr_ex (M : Grid) (n : Nat) : ∃ c : Nat → Rat, (∀ i, i ≤ n → (flP M n (n - i)).2 = c i) ∧ (∀ x, detL n (fun i k => -M i k + x * gid i k) = pv c n x) ∧ c n = 1 ∧ (∀ i j, i < n → j < n → horG M (mk (n + 1) c) n (n + 1) i j = 0) ∧ c 0 = sg1 n * detL n M := by
  obtain ⟨c, β, h⟩ := chr_of M n
  refine ⟨c, fun i hi => ?_, h.chi, h.top, fun i j hi hj => root_own h hi hj, h.low⟩
  have := (flP_traces h (k := n - i) (by omega)).1
  rw [this, show n - (n - i) = i by omega]
/-- the characteristic polynomial, as the program reckons it -/
def chrL (M : Grid) (n : Nat) : List Rat := mk (n + 1) fun i => (flP M n (n - i)).2
theorem chrL_len (M : Grid) (n : Nat) : (chrL M n).length = n + 1 := mk_len _ _
theorem chrL_eq {M : Grid} {n : Nat} {c : Nat → Rat} (h : ∀ i, i ≤ n → (flP M n (n - i)).2 = c i) : chrL M n = mk (n + 1) c := mk_congr fun i hi => h i (by omega)
theorem chrL_QB {M : Grid} {n : Nat} (hn : n ≤ 5) (hM : ∀ i k, i < n → k < n → QB 97 (M i k)) (i : Nat) : QB 2500000000 (cf (chrL M n) i) := by
  unfold chrL
  rw [cf_mk]
  split
  · exact (flP_QB hn hM (by omega)).2
  · exact QB_zero _
end Go.Proofs.YthoboehbadmlmaaGreat
end
section
namespace Go.Proofs.YthoboehbadmlmaaGreat
open Go Go.RowKit
set_option linter.unusedSimpArgs false
set_option linter.unusedVariables false
attribute [local irreducible] XWP Spec SpecO XPub XCall seqX clX apX stX ldX iaX slX
theorem RatC.rawAt {V : View} {v : Value} {q : Rat} (h : RatC V v q) : RawAt V v (ng q) (dg q.num.natAbs) (dg q.den) := by
  obtain ⟨n, d, e, h1, h2⟩ := h
  exact ⟨n, d, e, h1, h2⟩
theorem cqr_c {V : View} {v : Value} {q : Rat} (h : RatC V v q) (hq : QF q) : Spec Tryz.prog 59 [v] V fun v' V' => v' = .bool true := by
  have f := fitR_toRaw (l := [q]) (fun x hx => by rw [List.mem_singleton.1 hx]; exact hq) (toRaw q) (by simp)
  have := qright_c V v _ _ _ h.rawAt f.1 f.2
  have e : rawOk (ng q) (dg q.num.natAbs) (dg q.den) = true := toRaw_ok q
  rwa [e] at this
theorem cscale1_c (V : View) (b2 b3 e2 e3 n i k B C : Nat) (G : Grid) (q : Rat) (s1 x y : Value) (h2 : V b2 = some (.cells ([.int .i64 (n : Int), .int .i64 (n : Int), s1] : List Value).toArray e2 (0, 0))) (h3 : V b3 = some (.cells ([.bool (ng q), x, y] : List Value).toArray e3 (0, 0))) (ha : SqM V s1 n B G) (hb : RatC V (.agg #[.bool (ng q), x, y]) q) (hi : i < n) (hk : k < n) (hB : B ≤ 17592186044416) (hC : QB C q) (hC2 : C ≤ 17592186044416) :
    Spec Tryz.prog 138 [.int .i64 (i : Int), .int .i64 (k : Int), .pointer (some ⟨b2, 0, none⟩), .pointer (some ⟨b3, 0, none⟩)] V fun v' V' => RatC V' v' (G i k * q) := by
  have hn := ha.hn
  have hnn := sq_le hn
  have hp := pos_lt hi hk
  have w1 := wr_mul (i := i) (C := n) (by omega) (by omega)
  have w2 := wr_add (p := i * n) (k := k) (by omega) (by omega)
  have g1 := flatG_at G hi hk
  have la := flatG_len G n n
  have hva := ha.hv
  obtain ⟨A1, c1, rfl, hc1, hm1⟩ := hva.form
  obtain ⟨b, o, rfl⟩ := SlAt.addr hva (by omega)
  obtain ⟨x0, y0, z0, hx, ⟨o1, o2, o3⟩, hld⟩ := Rats.get hva (i * n + k) (by omega)
  rw [g1] at hx
  refine (Spec.enter Tryz.func138 rfl fun Γ => ?_)
  simp only [Tryz.ntmps138, List.map_cons, List.map_nil, List.length_cons, List.length_nil, Nat.reduceAdd, Nat.reduceSub, List.replicate_succ, List.replicate_zero, List.cons_append, List.nil_append]
  refine Gx.a (by kernel_rfl) fun K hK => ?_
  simp only [XA, XB]
  refine hK _ ?_
  (refine XWP.drw [0, 1, 2, 3, 4, 5, 6, 7, 8, 9, 10, 11, 12] (by kernel_rfl) (by kernel_rfl) (by kernel_rfl) fun K hK => ?_) <;> dsimp only [pickOps, List.getElem?_cons_zero, List.getElem?_cons_succ]
  simp only [XM, XA]
  refine ld_mem (ldV1 h2 (off := 2) rfl shapeT_22 _) ?_
  simp only [XM, XA]
  refine ld_mem (ldV1 h2 (off := 1) rfl shapeT_3 _) ?_
  simp only [XA, XB, w1, w2]
  refine ⟨by omega, by omega, ?_⟩
  refine ld_mem (hld _) ?_
  simp only [XA]
  refine ld_mem (ldV3 h3 shapeT_48 _) ?_
  simp only [XA]
  refine call_go (by kernel_rfl) rfl (qmul_c _ _ _ _ _ hx hb ((ha.hq i k hi hk).qf hB) (hC.qf hC2)) fun v1 V1 hV1 h1 => ?_
  obtain ⟨x1, y1, rfl, p1, p2⟩ := h1.form
  simp only [XA]
  refine st_rat rfl rfl rfl p1 p2 ?_
  simp only [XA]
  refine hK _ (XWP.ret ?_)
  try simp only [thenX_ret, inBlockX_ret]
  exact ret_rat1 rfl rfl rfl h1
theorem cscale_c (V : View) (s1 r : Value) (n B C : Nat) (G : Grid) (q : Rat) (ha : SqM V s1 n B G) (hb : RatC V r q) (hB : B ≤ 17592186044416) (hC : QB C q) (hC2 : C ≤ 17592186044416) :
    Spec Tryz.prog 91 [.agg #[.int .i64 (n : Int), .int .i64 (n : Int), s1], r] V fun v' V' => ∃ w, v' = .tuple #[.agg #[.int .i64 (n : Int), .int .i64 (n : Int), w], .int .i64 0] ∧ Rats V' w (flatG (fun i k => G i k * q) n n) := by
  obtain ⟨A1, c1, rfl, hc1, hm1⟩ := ha.hv.form
  obtain ⟨x, y, rfl, ox, oy⟩ := hb.form
  have hn := ha.hn
  refine (Spec.enter Tryz.func91 rfl fun Γ => ?_)
  simp only [Tryz.ntmps91, List.map_cons, List.map_nil, List.length_cons, List.length_nil, Nat.reduceAdd, Nat.reduceSub, List.replicate_succ, List.replicate_zero, List.cons_append, List.nil_append]
  refine Gx.a (by kernel_rfl) fun K hK => ?_
  simp only [XM, XA, Nat.reduceAdd]
  refine hK _ ?_
  refine XWP.row1 (bx := [_, _]) fun b4 e4 hb4 _ => ?_
  simp only [List.map_cons, List.map_nil, rowS_v, rowS_p, List.length_nil, List.length_cons, Nat.reduceAdd, Nat.reduceEqDiff, ↓reduceIte]
  have f4 : upd (fun _ => none) b4 (some ⟨e4, [.int .i64 0, .int .i64 0, .slice none 0 0], 3⟩) b4 = some ⟨e4, [.int .i64 0, .int .i64 0, .slice none 0 0], 3⟩ := upd_at _ _ _
  generalize upd (fun _ => none) b4 (some ⟨e4, [.int .i64 0, .int .i64 0, .slice none 0 0], 3⟩) = H2 at *
  refine XWP.row1 (bx := [_]) fun b3 e3 hb3 _ => ?_
  simp only [List.map_cons, List.map_nil, rowS_v, rowS_p, List.length_nil, List.length_cons, Nat.reduceAdd, Nat.reduceEqDiff, ↓reduceIte]
  refine XWP.pub b3 _ (upd_at _ _ _) fun o3 ho3 hle3 => ?_
  have eo3 := row_obj ho3
  subst eo3
  have n43 := new_ne hb3 f4
  have f4 : upd (upd H2 b3 (some ⟨e3, [.bool (ng q), x, y], 3⟩)) b3 none b4 = some ⟨e4, [.int .i64 0, .int .i64 0, .slice none 0 0], 3⟩ := (upd_off n43).trans ((upd_off n43).trans f4)
  have h3 := addV_at V b3 (.cells ([.bool (ng q), x, y] : List Value).toArray e3 (0, 0))
  generalize upd (upd H2 b3 _) b3 none = H3 at *
  generalize addV V b3 _ = V3 at *
  refine XWP.row1 (bx := []) fun b2 e2 hb2 _ => ?_
  simp only [List.map_cons, List.map_nil, rowS_v, rowS_p, List.length_nil, List.length_cons, Nat.reduceAdd, ↓reduceIte]
  refine XWP.pub b2 _ (upd_at _ _ _) fun o2 ho2 hle2 => ?_
  have eo2 := row_obj ho2
  subst eo2
  have n42 := new_ne hb2 f4
  have f4 : upd (upd H3 b2 (some ⟨e2, [.int .i64 (n : Int), .int .i64 (n : Int), .slice A1 (flatG G n n).length c1], 3⟩)) b2 none b4 = some ⟨e4, [.int .i64 0, .int .i64 0, .slice none 0 0], 3⟩ := (upd_off n42).trans ((upd_off n42).trans f4)
  have h2 := addV_at V3 b2 (.cells ([.int .i64 (n : Int), .int .i64 (n : Int), .slice A1 (flatG G n n).length c1] : List Value).toArray e2 (0, 0))
  generalize upd (upd H3 b2 _) b2 none = H4 at *
  generalize addV V3 b2 _ = V4 at *
  have h3 := hle2 _ _ h3
  have hle := View.le_trans hle3 hle2
  have ha := ha.up hle
  have hb := hb.mono hle
  refine XWP.seq ?_
  refine Gx.a (by kernel_rfl) fun K hK => ?_
  simp only [XA]
  refine ld_mem (ldV3 h2 shapeT_24 _) ?_
  simp only [XA]
  refine call_go (by kernel_rfl) rfl (cmr_c ha hB) fun v5 V5 hV5 h5 => ?_
  subst h5
  simp only [XA, gateX, ↓reduceIte, beq_self_eq_true]
  refine ld_mem (ldV3 (hV5 _ _ h3) shapeT_48 _) ?_
  simp only [XA, gateX, ↓reduceIte, beq_self_eq_true]
  refine call_go (by kernel_rfl) rfl (cqr_c (hb.mono hV5) (hC.qf hC2)) fun v6 V6 hV6 h6 => ?_
  subst h6
  simp only [XA, gateX, ↓reduceIte, beq_self_eq_true]
  refine hK _ ?_
  refine Gx.f rfl ?_
  refine XWP.skip ?_
  have hle := View.le_trans hV5 hV6
  have h2 := hle _ _ h2
  have h3 := hle _ _ h3
  have ha := ha.up hle
  have hb := hb.mono hle
  refine Gx.a (by kernel_rfl) fun K hK => ?_
  simp only [XM, XA]
  refine ld_mem (ldV1 h2 (off := 0) rfl shapeT_3 _) ?_
  simp only [XM, XA]
  refine ld_mem (ldV1 h2 (off := 1) rfl shapeT_3 _) ?_
  simp only [XA]
  refine mkf_go [.pointer (some ⟨b2, 0, none⟩), .pointer (some ⟨b3, 0, none⟩)] rfl ?_
  simp only [XA]
  refine call_own (by kernel_rfl) rfl (filled_o V6 (lb := [.pointer (some ⟨b2, 0, none⟩), .pointer (some ⟨b3, 0, none⟩)]) n n (fun i k => G i k * q) (by kernel_rfl) (by omega) (by omega) fun V' i k hV hi hk => cscale1_c V' b2 b3 e2 e3 n i k B C G q _ x y (hV _ _ h2) (hV _ _ h3) (ha.up hV) (hb.mono hV) hi hk hB hC hC2) fun v12 V12 o12 hV12 hs12 hR12 => ?_
  obtain ⟨sl, cells, rfl, hown, hrow⟩ := hR12
  have f12 := addRow_off f4 fun g' q e => (hs12 g' q e).1
  have hown2 := own_any (H := H4) hown
  have osl := own_isOne hown2
  have hne : sl.ownBlock ≠ some b4 := fun e => by
    rcases own_parts hown with ⟨rfl, _, _⟩ | ⟨g2, cap2, rfl, hg2, _⟩
    · cases e
    · have : g2 = b4 := by simpa [Value.ownBlock] using e
      exact new_ne (hs12 g2 _ (addRow_only hg2)).1 f4 this.symm
  generalize addRow H4 o12 = H12 at *
  simp only [XA]
  refine st_rowA shapeT_24 (all3 rfl rfl osl) rfl f12 (by simp) ?_
  simp only [XA]
  refine hK _ ?_
  have hown3 : Own (upd H12 b4 (some ⟨e4, splice [.int .i64 0, .int .i64 0, .slice none 0 0] 0 [.int .i64 (n : Int), .int .i64 (n : Int), sl], 3⟩)) 48 3 sl (n * n) cells := by
    refine ⟨hown2.1, ?_⟩
    rcases hown2.2 with h | ⟨g2, cap2, rfl, hg2, h⟩
    · exact .inl h
    · exact .inr ⟨g2, cap2, rfl, by rw [upd_off fun e => hne (by rw [e]; rfl)]; exact hg2, h⟩
  refine XWP.pubR ratE_ok hown3 hrow fun H13 V13 hV13 hRw hk13 => ?_
  have f13 := (hk13 b4 hne).trans (upd_at _ _ _)
  refine XWP.ret ?_
  try simp only [thenX_ret, inBlockX_ret]
  exact ret_go _ (by simp [resAll, resV, cellsV, shapeT_24, f13, splice_all]; rfl) ⟨sl, rfl, hRw⟩
end Go.Proofs.YthoboehbadmlmaaGreat
end
section
namespace Go.Proofs.YthoboehbadmlmaaGreat
open Go Go.RowKit
set_option linter.unusedSimpArgs false
set_option linter.unusedVariables false
attribute [local irreducible] XWP Spec SpecO XPub XCall seqX clX apX stX ldX iaX slX
theorem rat_len {q : Rat} (h : q ≠ 0) : decide ((0 : Int) < ((dg q.num.natAbs).length : Int)) = true := by
  have hlen : 0 < (dg q.num.natAbs).length := by
    rcases Nat.eq_zero_or_pos (dg q.num.natAbs).length with e | e
    · exact absurd ((rat_zero_iff _).2 (dg_nil e)) h
    · exact e
  exact decide_eq_true (by omega)
theorem RatC.form2 {V : View} {v : Value} {q : Rat} (h : RatC V v q) : ∃ A c e, v = .agg #[.bool (ng q), .slice A (dg q.num.natAbs).length c, e] ∧ isOne e = true := by
  obtain ⟨n, d, e, h1, h2⟩ := h
  obtain ⟨A, c, rfl, _, _⟩ := NatAt.form h1
  exact ⟨A, c, d, e, h2.one⟩
set_option maxRecDepth 100000 in
set_option maxHeartbeats 8000000 in
theorem ctimes1_c (V : View) (b2 b3 e2 e3 n i k B C : Nat) (G H : Grid) (s1 s2 : Value) (h2 : V b2 = some (.cells ([.int .i64 (n : Int), .int .i64 (n : Int), s1] : List Value).toArray e2 (0, 0))) (h3 : V b3 = some (.cells ([.int .i64 (n : Int), .int .i64 (n : Int), s2] : List Value).toArray e3 (0, 0))) (ha : SqM V s1 n B G) (hb : SqM V s2 n C H) (hi : i < n) (hk : k < n) (hn5 : n ≤ 5) (hfit : 5 * (B + C + 1) ≤ 17592186044416) :
    Spec Tryz.prog 136 [.int .i64 (i : Int), .int .i64 (k : Int), .pointer (some ⟨b2, 0, none⟩), .pointer (some ⟨b3, 0, none⟩)] V fun v' V' => RatC V' v' (gmul G H n i k) := by
  have hn := ha.hn
  have hnn := sq_le hn
  have la := flatG_len G n n
  have lb := flatG_len H n n
  have hva := ha.hv
  have hvb := hb.hv
  obtain ⟨A1, c1, rfl, hc1, hm1⟩ := hva.form
  obtain ⟨A2, c2, rfl, hc2, hm2⟩ := hvb.form
  have hpos := pos_lt hi hk
  obtain ⟨b, o, rfl⟩ := SlAt.addr hva (by omega)
  obtain ⟨b', o', rfl⟩ := SlAt.addr hvb (by omega)
  have hq1 : ∀ j, j ≤ n → QF (Sm (fun t => G i t * H t k) j) := fun j hj => (Sm_QBk hn5 (fun t ht => (ha.hq i t hi ht).mul (hb.hq t k ht hk)) j hj).qf hfit
  refine (Spec.enter Tryz.func136 rfl fun Γ => ?_)
  simp only [Tryz.ntmps136, List.map_cons, List.map_nil, List.length_cons, List.length_nil, Nat.reduceAdd, Nat.reduceSub, List.replicate_succ, List.replicate_zero, List.cons_append, List.nil_append]
  first | refine Gx.a (by kernel_rfl) fun K hK => ?_ | refine Gx.b (by kernel_rfl) fun K hK => ?_ | refine Gx.c (by kernel_rfl) fun K hK => ?_
  simp only [XM, XA, XB, gateX, Nat.reduceAdd, Nat.reduceLeDiff, Nat.reduceSub, Nat.reduceMul, ↓reduceIte, Int.reduceToNat, Int.reduceLE, beq_self_eq_true]
  refine hK _ ?_
  first | refine Gx.a (by kernel_rfl) fun K hK => ?_ | refine Gx.b (by kernel_rfl) fun K hK => ?_ | refine Gx.c (by kernel_rfl) fun K hK => ?_
  simp only [XM, XA, XB, gateX, Nat.reduceAdd, Nat.reduceLeDiff, Nat.reduceSub, Nat.reduceMul, ↓reduceIte, Int.reduceToNat, Int.reduceLE, beq_self_eq_true]
  refine call_go (by kernel_rfl) rfl (qzero_c _) fun v1 V1 hV1 h1 => ?_
  obtain ⟨zx, zy, rfl, p1, p2⟩ := h1.form
  simp only [XM, XA, XB, gateX, Nat.reduceAdd, Nat.reduceLeDiff, Nat.reduceSub, Nat.reduceMul, ↓reduceIte, Int.reduceToNat, Int.reduceLE, beq_self_eq_true]
  refine st_rat rfl rfl rfl p1 p2 ?_
  simp only [XM, XA, XB, gateX, Nat.reduceAdd, Nat.reduceLeDiff, Nat.reduceSub, Nat.reduceMul, ↓reduceIte, Int.reduceToNat, Int.reduceLE, beq_self_eq_true]
  refine hK _ ?_
  refine XWP.cutD 2 (fun s => ∃ (V5 : View) (m : Bool) (x y : Value), StIs (fun Z => [.v (.int .i64 (i : Int)), .v (.int .i64 (k : Int)), .v (.pointer (some ⟨b2, 0, none⟩)), .v (.pointer (some ⟨b3, 0, none⟩)), Z 4,Z 5, .p 0 0, .p 1 0, Z 8,Z 9,Z 10,Z 11,Z 12,Z 13,Z 14,Z 15,Z 16,Z 17,Z 18,Z 19,Z 20,Z 21,Z 22,Z 23,Z 24,Z 25,Z 26,Z 27,Z 28,Z 29,Z 30,Z 31,Z 32,Z 33,Z 34,Z 35,Z 36,Z 37,Z 38,Z 39,Z 40,Z 41,Z 42,Z 43,Z 44,Z 45,Z 46,Z 47,Z 48,Z 49,Z 50,Z 51,Z 52,Z 53]) [[.bool false, .slice none 0 0, .slice none 0 0], [.bool m, x, y]] (fun _ => none) V5 s ∧ RatC V5 (.agg #[.bool m, x, y]) (gmul G H n i k) ∧ isOne x = true ∧ isOne y = true) ?_ ?_
  · first | refine Gx.a (by kernel_rfl) fun K hK => ?_ | refine Gx.b (by kernel_rfl) fun K hK => ?_ | refine Gx.c (by kernel_rfl) fun K hK => ?_
    simp only [XM, XA, XB, gateX, Nat.reduceAdd, Nat.reduceLeDiff, Nat.reduceSub, Nat.reduceMul, ↓reduceIte, Int.reduceToNat, Int.reduceLE, beq_self_eq_true]
    refine ld_mem (ldV1 (hV1 _ _ h2) (off := 1) rfl shapeT_3 _) ?_
    simp only [XM, XA, XB, gateX, Nat.reduceAdd, Nat.reduceLeDiff, Nat.reduceSub, Nat.reduceMul, ↓reduceIte, Int.reduceToNat, Int.reduceLE, beq_self_eq_true]
    refine hK _ ?_
    clear hK
    first | refine XWP.block ?_ | refine XWP.seq (XWP.block ?_)
    refine XWP.loopD 2 (fun q s => ∃ (j : Nat) (V5 : View) (m : Bool) (x y : Value), StIs (fun Z => [.v (.int .i64 (i : Int)), .v (.int .i64 (k : Int)), .v (.pointer (some ⟨b2, 0, none⟩)), .v (.pointer (some ⟨b3, 0, none⟩)), Z 4,Z 5, .p 0 0, .p 1 0, Z 8,Z 9,Z 10,Z 11,Z 12, .v (.int .i64 (n : Int)), .v (.int .i64 (j : Int)), Z 15,Z 16,Z 17,Z 18,Z 19,Z 20,Z 21,Z 22,Z 23,Z 24,Z 25,Z 26,Z 27,Z 28,Z 29,Z 30,Z 31,Z 32,Z 33,Z 34,Z 35,Z 36,Z 37,Z 38,Z 39,Z 40,Z 41,Z 42,Z 43,Z 44,Z 45,Z 46,Z 47,Z 48,Z 49,Z 50,Z 51,Z 52,Z 53]) [[.bool false, .slice none 0 0, .slice none 0 0], [.bool m, x, y]] (fun _ => none) V5 s ∧ q + j = n ∧ V.le V5 ∧ RatC V5 (.agg #[.bool m, x, y]) (Sm (fun t => G i t * H t k) j) ∧ isOne x = true ∧ isOne y = true) n ⟨0, V1, _, zx, zy, StIs.of (by exact rfl), by omega, hV1, h1, p1, p2⟩ ?_
    rintro q s ⟨j, V5, m, x, y, hs, hq, hV5, hx5, o1, o2⟩
    obtain ⟨z, rfl⟩ := hs.out
    try dsimp only
    clear hs h1 p1 p2
    by_cases hj : j < n
    rotate_left
    · obtain rfl : j = n := by omega
      have b1 : decide ((j : Int) < (j : Int)) = false := decide_eq_false (by omega)
      first | refine Gx.a (by kernel_rfl) fun K hK => ?_ | refine Gx.b (by kernel_rfl) fun K hK => ?_ | refine Gx.c (by kernel_rfl) fun K hK => ?_
      simp only [XM, XA, XB, gateX, Nat.reduceAdd, Nat.reduceLeDiff, Nat.reduceSub, Nat.reduceMul, ↓reduceIte, Int.reduceToNat, Int.reduceLE, beq_self_eq_true, b1]
      refine hK _ ?_
      first | refine Gx.f rfl ?_ | refine XWP.seq (Gx.f rfl ?_)
      refine XWP.exit ?_
      exact fun f => ⟨V5, m, x, y, StIs.of (by exact rfl), hx5, o1, o2⟩
    have b1 : decide ((j : Int) < (n : Int)) = true := decide_eq_true (by omega)
    first | refine Gx.a (by kernel_rfl) fun K hK => ?_ | refine Gx.b (by kernel_rfl) fun K hK => ?_ | refine Gx.c (by kernel_rfl) fun K hK => ?_
    simp only [XM, XA, XB, gateX, Nat.reduceAdd, Nat.reduceLeDiff, Nat.reduceSub, Nat.reduceMul, ↓reduceIte, Int.reduceToNat, Int.reduceLE, beq_self_eq_true, b1]
    refine hK _ ?_
    first | refine Gx.t rfl ?_ | refine XWP.seq (Gx.t rfl ?_)
    refine XWP.skip ?_
    have h2 := hV5 _ _ h2
    have h3 := hV5 _ _ h3
    have hva := hva.up hV5
    have hvb := hvb.up hV5
    have w1 := wr_mul (i := i) (C := n) (by omega) (by omega)
    have w2 := wr_add (p := i * n) (k := j) (by have := pos_lt hi hj; omega) (by omega)
    have w3 := wr_mul (i := j) (C := n) (by omega) (by omega)
    have w4 := wr_add (p := j * n) (k := k) (by have := pos_lt hj hk; omega) (by omega)
    have q1 := pos_lt hi hj
    have q2 := pos_lt hj hk
    obtain ⟨x1, y1, z1, hx1, ⟨r1, r2, r3⟩, hld1⟩ := Rats.get hva (i * n + j) (by omega)
    obtain ⟨x2, y2, z2, hx2, ⟨r4, r5, r6⟩, hld2⟩ := Rats.get hvb (j * n + k) (by omega)
    rw [flatG_at G hi hj] at hx1
    rw [flatG_at H hj hk] at hx2
    obtain ⟨A5, c5, e5, ev5, _⟩ := hx1.form2
    cases ev5
    obtain ⟨A6, c6, e6, ev6, _⟩ := hx2.form2
    cases ev6
    refine XWP.cutD 2 (fun s => ∃ (V6 : View) (m : Bool) (x y : Value), StIs (fun Z => [.v (.int .i64 (i : Int)), .v (.int .i64 (k : Int)), .v (.pointer (some ⟨b2, 0, none⟩)), .v (.pointer (some ⟨b3, 0, none⟩)), Z 4,Z 5, .p 0 0, .p 1 0, Z 8,Z 9,Z 10,Z 11,Z 12, .v (.int .i64 (n : Int)), .v (.int .i64 (j : Int)), Z 15,Z 16,Z 17,Z 18,Z 19,Z 20,Z 21,Z 22,Z 23,Z 24,Z 25,Z 26,Z 27,Z 28,Z 29,Z 30,Z 31,Z 32,Z 33,Z 34,Z 35,Z 36,Z 37,Z 38,Z 39,Z 40,Z 41,Z 42,Z 43,Z 44,Z 45,Z 46,Z 47,Z 48,Z 49,Z 50,Z 51,Z 52,Z 53]) [[.bool false, .slice none 0 0, .slice none 0 0], [.bool m, x, y]] (fun _ => none) V6 s ∧ V5.le V6 ∧ RatC V6 (.agg #[.bool m, x, y]) (Sm (fun t => G i t * H t k) (j + 1)) ∧ isOne x = true ∧ isOne y = true) ?_ ?_
    · clear hK
      first | refine XWP.block ?_ | refine XWP.seq (XWP.block ?_)
      first | refine Gx.a (by kernel_rfl) fun K hK => ?_ | refine Gx.b (by kernel_rfl) fun K hK => ?_ | refine Gx.c (by kernel_rfl) fun K hK => ?_
      simp only [XM, XA, XB, gateX, Nat.reduceAdd, Nat.reduceLeDiff, Nat.reduceSub, Nat.reduceMul, ↓reduceIte, Int.reduceToNat, Int.reduceLE, beq_self_eq_true]
      refine hK _ ?_
      refine XWP.cut (fun s => StIs (fun Z => [.v (.int .i64 (i : Int)), .v (.int .i64 (k : Int)), .v (.pointer (some ⟨b2, 0, none⟩)), .v (.pointer (some ⟨b3, 0, none⟩)), Z 4,Z 5, .p 0 0, .p 1 0, Z 8, .p 2 0, .p 3 0, Z 11,Z 12, .v (.int .i64 (n : Int)), .v (.int .i64 (j : Int)), Z 15,Z 16,Z 17,Z 18,Z 19,Z 20,Z 21,Z 22,Z 23,Z 24,Z 25,Z 26,Z 27,Z 28,Z 29,Z 30,Z 31,Z 32,Z 33,Z 34,Z 35,Z 36,Z 37,Z 38,Z 39,Z 40,Z 41,Z 42,Z 43,Z 44,Z 45,Z 46,Z 47,Z 48,Z 49,Z 50,Z 51,Z 52,Z 53]) [[.bool false, .slice none 0 0, .slice none 0 0], [.bool m, x, y], [.bool (ng (G i j)), .slice A5 (dg (G i j).num.natAbs).length c5, z1], [.bool (ng (H j k)), .slice A6 (dg (H j k).num.natAbs).length c6, z2]] (fun _ => none) V5 s ∨ StIs (fun Z => [.v (.int .i64 (i : Int)), .v (.int .i64 (k : Int)), .v (.pointer (some ⟨b2, 0, none⟩)), .v (.pointer (some ⟨b3, 0, none⟩)), Z 4,Z 5, .p 0 0, .p 1 0, Z 8, .p 3 0, .p 2 0, Z 11,Z 12, .v (.int .i64 (n : Int)), .v (.int .i64 (j : Int)), Z 15,Z 16,Z 17,Z 18,Z 19,Z 20,Z 21,Z 22,Z 23,Z 24,Z 25,Z 26,Z 27,Z 28,Z 29,Z 30,Z 31,Z 32,Z 33,Z 34,Z 35,Z 36,Z 37,Z 38,Z 39,Z 40,Z 41,Z 42,Z 43,Z 44,Z 45,Z 46,Z 47,Z 48,Z 49,Z 50,Z 51,Z 52,Z 53]) [[.bool false, .slice none 0 0, .slice none 0 0], [.bool m, x, y], [.bool (ng (H j k)), .slice A6 (dg (H j k).num.natAbs).length c6, z2], [.bool (ng (G i j)), .slice A5 (dg (G i j).num.natAbs).length c5, z1]] (fun _ => none) V5 s) ?_ ?_
      · (first | refine XWP.drwT (.lin [0, 1, 2, 3, 4, 5, 6, 7, 8, 9, 10, 12, 13, 16] (.two (.lin [11] (.two (.lin [14, 15, 17, 18] (.two (.lin [19] (.two (.lin [20, 21, 22, 23] .nil) (.lin [21, 20, 22, 23] .nil))) (.two (.lin [20] (.two (.lin [19, 21, 22, 23] .nil) (.lin [21] (.two (.lin [19, 22, 23] .nil) (.lin [22, 19, 23] .nil))))) (.lin [21] (.two (.lin [19, 20, 22, 23] .nil) (.lin [20] (.two (.lin [19, 22, 23] .nil) (.lin [22, 19, 23] .nil)))))))) (.two (.lin [20] (.two (.lin [14, 15, 17, 18] (.two (.lin [19, 21, 22, 23] .nil) (.lin [21] (.two (.lin [19, 22, 23] .nil) (.lin [22, 19, 23] .nil))))) (.lin [21] (.two (.lin [14, 15, 17, 18] (.two (.lin [19, 22, 23] .nil) (.lin [22, 19, 23] .nil))) (.lin [22, 14, 15, 17, 18, 19, 23] .nil))))) (.lin [21] (.two (.lin [14, 15, 17, 18] (.two (.lin [19, 20, 22, 23] .nil) (.lin [20] (.two (.lin [19, 22, 23] .nil) (.lin [22, 19, 23] .nil))))) (.lin [20] (.two (.lin [14, 15, 17, 18] (.two (.lin [19, 22, 23] .nil) (.lin [22, 19, 23] .nil))) (.lin [22, 14, 15, 17, 18, 19, 23] .nil)))))))) (.two (.lin [14, 15, 17] (.two (.lin [11, 18] (.two (.lin [19] (.two (.lin [20, 21, 22, 23] .nil) (.lin [21, 20, 22, 23] .nil))) (.two (.lin [20] (.two (.lin [19, 21, 22, 23] .nil) (.lin [21] (.two (.lin [19, 22, 23] .nil) (.lin [22, 19, 23] .nil))))) (.lin [21] (.two (.lin [19, 20, 22, 23] .nil) (.lin [20] (.two (.lin [19, 22, 23] .nil) (.lin [22, 19, 23] .nil)))))))) (.two (.lin [20] (.two (.lin [11, 18] (.two (.lin [19, 21, 22, 23] .nil) (.lin [21] (.two (.lin [19, 22, 23] .nil) (.lin [22, 19, 23] .nil))))) (.lin [21] (.two (.lin [11, 18] (.two (.lin [19, 22, 23] .nil) (.lin [22, 19, 23] .nil))) (.lin [22, 11, 18, 19, 23] .nil))))) (.lin [21] (.two (.lin [11, 18] (.two (.lin [19, 20, 22, 23] .nil) (.lin [20] (.two (.lin [19, 22, 23] .nil) (.lin [22, 19, 23] .nil))))) (.lin [20] (.two (.lin [11, 18] (.two (.lin [19, 22, 23] .nil) (.lin [22, 19, 23] .nil))) (.lin [22, 11, 18, 19, 23] .nil)))))))) (.two (.lin [20] (.two (.lin [11] (.two (.lin [14, 15, 17, 18] (.two (.lin [19, 21, 22, 23] .nil) (.lin [21] (.two (.lin [19, 22, 23] .nil) (.lin [22, 19, 23] .nil))))) (.lin [21] (.two (.lin [14, 15, 17, 18] (.two (.lin [19, 22, 23] .nil) (.lin [22, 19, 23] .nil))) (.lin [22, 14, 15, 17, 18, 19, 23] .nil))))) (.two (.lin [14, 15, 17] (.two (.lin [11, 18] (.two (.lin [19, 21, 22, 23] .nil) (.lin [21] (.two (.lin [19, 22, 23] .nil) (.lin [22, 19, 23] .nil))))) (.lin [21] (.two (.lin [11, 18] (.two (.lin [19, 22, 23] .nil) (.lin [22, 19, 23] .nil))) (.lin [22, 11, 18, 19, 23] .nil))))) (.lin [21] (.two (.lin [11] (.two (.lin [14, 15, 17, 18] (.two (.lin [19, 22, 23] .nil) (.lin [22, 19, 23] .nil))) (.lin [22, 14, 15, 17, 18, 19, 23] .nil))) (.two (.lin [14, 15, 17] (.two (.lin [11, 18] (.two (.lin [19, 22, 23] .nil) (.lin [22, 19, 23] .nil))) (.lin [22, 11, 18, 19, 23] .nil))) (.lin [22, 11, 14, 15, 17, 18, 19, 23] .nil))))))) (.lin [21] (.two (.lin [11] (.two (.lin [14, 15, 17, 18] (.two (.lin [19, 20, 22, 23] .nil) (.lin [20] (.two (.lin [19, 22, 23] .nil) (.lin [22, 19, 23] .nil))))) (.lin [20] (.two (.lin [14, 15, 17, 18] (.two (.lin [19, 22, 23] .nil) (.lin [22, 19, 23] .nil))) (.lin [22, 14, 15, 17, 18, 19, 23] .nil))))) (.two (.lin [14, 15, 17] (.two (.lin [11, 18] (.two (.lin [19, 20, 22, 23] .nil) (.lin [20] (.two (.lin [19, 22, 23] .nil) (.lin [22, 19, 23] .nil))))) (.lin [20] (.two (.lin [11, 18] (.two (.lin [19, 22, 23] .nil) (.lin [22, 19, 23] .nil))) (.lin [22, 11, 18, 19, 23] .nil))))) (.lin [20] (.two (.lin [11] (.two (.lin [14, 15, 17, 18] (.two (.lin [19, 22, 23] .nil) (.lin [22, 19, 23] .nil))) (.lin [22, 14, 15, 17, 18, 19, 23] .nil))) (.two (.lin [14, 15, 17] (.two (.lin [11, 18] (.two (.lin [19, 22, 23] .nil) (.lin [22, 19, 23] .nil))) (.lin [22, 11, 18, 19, 23] .nil))) (.lin [22, 11, 14, 15, 17, 18, 19, 23] .nil))))))))))) (by kernel_rfl) (by kernel_rfl) (by kernel_rfl) fun K hK => ?_ | refine XWP.seq (XWP.drwT (.lin [0, 1, 2, 3, 4, 5, 6, 7, 8, 9, 10, 12, 13, 16] (.two (.lin [11] (.two (.lin [14, 15, 17, 18] (.two (.lin [19] (.two (.lin [20, 21, 22, 23] .nil) (.lin [21, 20, 22, 23] .nil))) (.two (.lin [20] (.two (.lin [19, 21, 22, 23] .nil) (.lin [21] (.two (.lin [19, 22, 23] .nil) (.lin [22, 19, 23] .nil))))) (.lin [21] (.two (.lin [19, 20, 22, 23] .nil) (.lin [20] (.two (.lin [19, 22, 23] .nil) (.lin [22, 19, 23] .nil)))))))) (.two (.lin [20] (.two (.lin [14, 15, 17, 18] (.two (.lin [19, 21, 22, 23] .nil) (.lin [21] (.two (.lin [19, 22, 23] .nil) (.lin [22, 19, 23] .nil))))) (.lin [21] (.two (.lin [14, 15, 17, 18] (.two (.lin [19, 22, 23] .nil) (.lin [22, 19, 23] .nil))) (.lin [22, 14, 15, 17, 18, 19, 23] .nil))))) (.lin [21] (.two (.lin [14, 15, 17, 18] (.two (.lin [19, 20, 22, 23] .nil) (.lin [20] (.two (.lin [19, 22, 23] .nil) (.lin [22, 19, 23] .nil))))) (.lin [20] (.two (.lin [14, 15, 17, 18] (.two (.lin [19, 22, 23] .nil) (.lin [22, 19, 23] .nil))) (.lin [22, 14, 15, 17, 18, 19, 23] .nil)))))))) (.two (.lin [14, 15, 17] (.two (.lin [11, 18] (.two (.lin [19] (.two (.lin [20, 21, 22, 23] .nil) (.lin [21, 20, 22, 23] .nil))) (.two (.lin [20] (.two (.lin [19, 21, 22, 23] .nil) (.lin [21] (.two (.lin [19, 22, 23] .nil) (.lin [22, 19, 23] .nil))))) (.lin [21] (.two (.lin [19, 20, 22, 23] .nil) (.lin [20] (.two (.lin [19, 22, 23] .nil) (.lin [22, 19, 23] .nil)))))))) (.two (.lin [20] (.two (.lin [11, 18] (.two (.lin [19, 21, 22, 23] .nil) (.lin [21] (.two (.lin [19, 22, 23] .nil) (.lin [22, 19, 23] .nil))))) (.lin [21] (.two (.lin [11, 18] (.two (.lin [19, 22, 23] .nil) (.lin [22, 19, 23] .nil))) (.lin [22, 11, 18, 19, 23] .nil))))) (.lin [21] (.two (.lin [11, 18] (.two (.lin [19, 20, 22, 23] .nil) (.lin [20] (.two (.lin [19, 22, 23] .nil) (.lin [22, 19, 23] .nil))))) (.lin [20] (.two (.lin [11, 18] (.two (.lin [19, 22, 23] .nil) (.lin [22, 19, 23] .nil))) (.lin [22, 11, 18, 19, 23] .nil)))))))) (.two (.lin [20] (.two (.lin [11] (.two (.lin [14, 15, 17, 18] (.two (.lin [19, 21, 22, 23] .nil) (.lin [21] (.two (.lin [19, 22, 23] .nil) (.lin [22, 19, 23] .nil))))) (.lin [21] (.two (.lin [14, 15, 17, 18] (.two (.lin [19, 22, 23] .nil) (.lin [22, 19, 23] .nil))) (.lin [22, 14, 15, 17, 18, 19, 23] .nil))))) (.two (.lin [14, 15, 17] (.two (.lin [11, 18] (.two (.lin [19, 21, 22, 23] .nil) (.lin [21] (.two (.lin [19, 22, 23] .nil) (.lin [22, 19, 23] .nil))))) (.lin [21] (.two (.lin [11, 18] (.two (.lin [19, 22, 23] .nil) (.lin [22, 19, 23] .nil))) (.lin [22, 11, 18, 19, 23] .nil))))) (.lin [21] (.two (.lin [11] (.two (.lin [14, 15, 17, 18] (.two (.lin [19, 22, 23] .nil) (.lin [22, 19, 23] .nil))) (.lin [22, 14, 15, 17, 18, 19, 23] .nil))) (.two (.lin [14, 15, 17] (.two (.lin [11, 18] (.two (.lin [19, 22, 23] .nil) (.lin [22, 19, 23] .nil))) (.lin [22, 11, 18, 19, 23] .nil))) (.lin [22, 11, 14, 15, 17, 18, 19, 23] .nil))))))) (.lin [21] (.two (.lin [11] (.two (.lin [14, 15, 17, 18] (.two (.lin [19, 20, 22, 23] .nil) (.lin [20] (.two (.lin [19, 22, 23] .nil) (.lin [22, 19, 23] .nil))))) (.lin [20] (.two (.lin [14, 15, 17, 18] (.two (.lin [19, 22, 23] .nil) (.lin [22, 19, 23] .nil))) (.lin [22, 14, 15, 17, 18, 19, 23] .nil))))) (.two (.lin [14, 15, 17] (.two (.lin [11, 18] (.two (.lin [19, 20, 22, 23] .nil) (.lin [20] (.two (.lin [19, 22, 23] .nil) (.lin [22, 19, 23] .nil))))) (.lin [20] (.two (.lin [11, 18] (.two (.lin [19, 22, 23] .nil) (.lin [22, 19, 23] .nil))) (.lin [22, 11, 18, 19, 23] .nil))))) (.lin [20] (.two (.lin [11] (.two (.lin [14, 15, 17, 18] (.two (.lin [19, 22, 23] .nil) (.lin [22, 19, 23] .nil))) (.lin [22, 14, 15, 17, 18, 19, 23] .nil))) (.two (.lin [14, 15, 17] (.two (.lin [11, 18] (.two (.lin [19, 22, 23] .nil) (.lin [22, 19, 23] .nil))) (.lin [22, 11, 18, 19, 23] .nil))) (.lin [22, 11, 14, 15, 17, 18, 19, 23] .nil))))))))))) (by kernel_rfl) (by kernel_rfl) (by kernel_rfl) fun K hK => ?_) | refine XWP.drwT1 (.lin [0, 1, 2, 3, 4, 5, 6, 7, 8, 9, 10, 12, 13, 16] (.two (.lin [11] (.two (.lin [14, 15, 17, 18] (.two (.lin [19] (.two (.lin [20, 21, 22, 23] .nil) (.lin [21, 20, 22, 23] .nil))) (.two (.lin [20] (.two (.lin [19, 21, 22, 23] .nil) (.lin [21] (.two (.lin [19, 22, 23] .nil) (.lin [22, 19, 23] .nil))))) (.lin [21] (.two (.lin [19, 20, 22, 23] .nil) (.lin [20] (.two (.lin [19, 22, 23] .nil) (.lin [22, 19, 23] .nil)))))))) (.two (.lin [20] (.two (.lin [14, 15, 17, 18] (.two (.lin [19, 21, 22, 23] .nil) (.lin [21] (.two (.lin [19, 22, 23] .nil) (.lin [22, 19, 23] .nil))))) (.lin [21] (.two (.lin [14, 15, 17, 18] (.two (.lin [19, 22, 23] .nil) (.lin [22, 19, 23] .nil))) (.lin [22, 14, 15, 17, 18, 19, 23] .nil))))) (.lin [21] (.two (.lin [14, 15, 17, 18] (.two (.lin [19, 20, 22, 23] .nil) (.lin [20] (.two (.lin [19, 22, 23] .nil) (.lin [22, 19, 23] .nil))))) (.lin [20] (.two (.lin [14, 15, 17, 18] (.two (.lin [19, 22, 23] .nil) (.lin [22, 19, 23] .nil))) (.lin [22, 14, 15, 17, 18, 19, 23] .nil)))))))) (.two (.lin [14, 15, 17] (.two (.lin [11, 18] (.two (.lin [19] (.two (.lin [20, 21, 22, 23] .nil) (.lin [21, 20, 22, 23] .nil))) (.two (.lin [20] (.two (.lin [19, 21, 22, 23] .nil) (.lin [21] (.two (.lin [19, 22, 23] .nil) (.lin [22, 19, 23] .nil))))) (.lin [21] (.two (.lin [19, 20, 22, 23] .nil) (.lin [20] (.two (.lin [19, 22, 23] .nil) (.lin [22, 19, 23] .nil)))))))) (.two (.lin [20] (.two (.lin [11, 18] (.two (.lin [19, 21, 22, 23] .nil) (.lin [21] (.two (.lin [19, 22, 23] .nil) (.lin [22, 19, 23] .nil))))) (.lin [21] (.two (.lin [11, 18] (.two (.lin [19, 22, 23] .nil) (.lin [22, 19, 23] .nil))) (.lin [22, 11, 18, 19, 23] .nil))))) (.lin [21] (.two (.lin [11, 18] (.two (.lin [19, 20, 22, 23] .nil) (.lin [20] (.two (.lin [19, 22, 23] .nil) (.lin [22, 19, 23] .nil))))) (.lin [20] (.two (.lin [11, 18] (.two (.lin [19, 22, 23] .nil) (.lin [22, 19, 23] .nil))) (.lin [22, 11, 18, 19, 23] .nil)))))))) (.two (.lin [20] (.two (.lin [11] (.two (.lin [14, 15, 17, 18] (.two (.lin [19, 21, 22, 23] .nil) (.lin [21] (.two (.lin [19, 22, 23] .nil) (.lin [22, 19, 23] .nil))))) (.lin [21] (.two (.lin [14, 15, 17, 18] (.two (.lin [19, 22, 23] .nil) (.lin [22, 19, 23] .nil))) (.lin [22, 14, 15, 17, 18, 19, 23] .nil))))) (.two (.lin [14, 15, 17] (.two (.lin [11, 18] (.two (.lin [19, 21, 22, 23] .nil) (.lin [21] (.two (.lin [19, 22, 23] .nil) (.lin [22, 19, 23] .nil))))) (.lin [21] (.two (.lin [11, 18] (.two (.lin [19, 22, 23] .nil) (.lin [22, 19, 23] .nil))) (.lin [22, 11, 18, 19, 23] .nil))))) (.lin [21] (.two (.lin [11] (.two (.lin [14, 15, 17, 18] (.two (.lin [19, 22, 23] .nil) (.lin [22, 19, 23] .nil))) (.lin [22, 14, 15, 17, 18, 19, 23] .nil))) (.two (.lin [14, 15, 17] (.two (.lin [11, 18] (.two (.lin [19, 22, 23] .nil) (.lin [22, 19, 23] .nil))) (.lin [22, 11, 18, 19, 23] .nil))) (.lin [22, 11, 14, 15, 17, 18, 19, 23] .nil))))))) (.lin [21] (.two (.lin [11] (.two (.lin [14, 15, 17, 18] (.two (.lin [19, 20, 22, 23] .nil) (.lin [20] (.two (.lin [19, 22, 23] .nil) (.lin [22, 19, 23] .nil))))) (.lin [20] (.two (.lin [14, 15, 17, 18] (.two (.lin [19, 22, 23] .nil) (.lin [22, 19, 23] .nil))) (.lin [22, 14, 15, 17, 18, 19, 23] .nil))))) (.two (.lin [14, 15, 17] (.two (.lin [11, 18] (.two (.lin [19, 20, 22, 23] .nil) (.lin [20] (.two (.lin [19, 22, 23] .nil) (.lin [22, 19, 23] .nil))))) (.lin [20] (.two (.lin [11, 18] (.two (.lin [19, 22, 23] .nil) (.lin [22, 19, 23] .nil))) (.lin [22, 11, 18, 19, 23] .nil))))) (.lin [20] (.two (.lin [11] (.two (.lin [14, 15, 17, 18] (.two (.lin [19, 22, 23] .nil) (.lin [22, 19, 23] .nil))) (.lin [22, 14, 15, 17, 18, 19, 23] .nil))) (.two (.lin [14, 15, 17] (.two (.lin [11, 18] (.two (.lin [19, 22, 23] .nil) (.lin [22, 19, 23] .nil))) (.lin [22, 11, 18, 19, 23] .nil))) (.lin [22, 11, 14, 15, 17, 18, 19, 23] .nil))))))))))) (by kernel_rfl) (by kernel_rfl) (by kernel_rfl) fun K hK => ?_)
        simp only [XM, XA, XB, gateX, Nat.reduceAdd, Nat.reduceLeDiff, Nat.reduceSub, Nat.reduceMul, ↓reduceIte, Int.reduceToNat, Int.reduceLE, beq_self_eq_true, w1, w2, w3, w4]
        repeat' first
          | refine And.intro ?_ ?_
          | refine ld_mem (ldV1 h2 (off := 2) rfl shapeT_22 _) ?_
          | refine ld_mem (ldV1 h2 (off := 1) rfl shapeT_3 _) ?_
          | refine ld_mem (ldV1 h3 (off := 2) rfl shapeT_22 _) ?_
          | refine ld_mem (ldV1 h3 (off := 1) rfl shapeT_3 _) ?_
          | refine ld_mem (hld1 _) ?_
          | refine ld_mem (hld2 _) ?_
          | refine st_rat rfl rfl r1 r2 r3 ?_
          | refine st_rat rfl rfl r4 r5 r6 ?_
          | exact hK _ (.inl (StIs.of (by exact rfl)))
          | exact hK _ (.inr (StIs.of (by exact rfl)))
          | omega
          | simp only [XM, XA, XB, gateX, Nat.reduceAdd, Nat.reduceLeDiff, Nat.reduceSub, Nat.reduceMul, ↓reduceIte, Int.reduceToNat, Int.reduceLE, beq_self_eq_true, w1, w2, w3, w4]
      have e0 : G i j * H j k = 0 → Sm (fun t => G i t * H t k) (j + 1) = Sm (fun t => G i t * H t k) j := fun h => by
        show Sm (fun t => G i t * H t k) j + G i j * H j k = _
        rw [h]; grind
      rintro s (hs | hs)
      · obtain ⟨z, rfl⟩ := hs.out
        try dsimp only
        clear hs
        by_cases hz1 : G i j = 0
        · have b3 := dg_of_zero hz1
          first | refine Gx.a (by kernel_rfl) fun K hK => ?_ | refine Gx.b (by kernel_rfl) fun K hK => ?_ | refine Gx.c (by kernel_rfl) fun K hK => ?_
          simp only [XM, XA, XB, gateX, Nat.reduceAdd, Nat.reduceLeDiff, Nat.reduceSub, Nat.reduceMul, ↓reduceIte, Int.reduceToNat, Int.reduceLE, beq_self_eq_true, b3]
          refine hK _ ?_
          first | refine Gx.f rfl ?_ | refine XWP.seq (Gx.f rfl ?_)
          refine XWP.skip ?_
          exact fun f => ⟨V5, m, x, y, StIs.of (by exact rfl), View.le_refl _, by rw [e0 (by rw [hz1]; grind)]; exact hx5, o1, o2⟩
        have b3 := rat_len hz1
        by_cases hz2 : H j k = 0
        · have b4 := dg_of_zero hz2
          first | refine Gx.a (by kernel_rfl) fun K hK => ?_ | refine Gx.b (by kernel_rfl) fun K hK => ?_ | refine Gx.c (by kernel_rfl) fun K hK => ?_
          simp only [XM, XA, XB, gateX, Nat.reduceAdd, Nat.reduceLeDiff, Nat.reduceSub, Nat.reduceMul, ↓reduceIte, Int.reduceToNat, Int.reduceLE, beq_self_eq_true, b3, b4]
          refine hK _ ?_
          first | refine Gx.f rfl ?_ | refine XWP.seq (Gx.f rfl ?_)
          refine XWP.skip ?_
          exact fun f => ⟨V5, m, x, y, StIs.of (by exact rfl), View.le_refl _, by rw [e0 (by rw [hz2]; grind)]; exact hx5, o1, o2⟩
        have b4 := rat_len hz2
        first | refine Gx.a (by kernel_rfl) fun K hK => ?_ | refine Gx.b (by kernel_rfl) fun K hK => ?_ | refine Gx.c (by kernel_rfl) fun K hK => ?_
        simp only [XM, XA, XB, gateX, Nat.reduceAdd, Nat.reduceLeDiff, Nat.reduceSub, Nat.reduceMul, ↓reduceIte, Int.reduceToNat, Int.reduceLE, beq_self_eq_true, b3, b4]
        refine hK _ ?_
        first | refine Gx.t rfl ?_ | refine XWP.seq (Gx.t rfl ?_)
        (first | refine XWP.drw [0, 1, 2, 3, 4, 5] (by kernel_rfl) (by kernel_rfl) (by kernel_rfl) fun K hK => ?_ | refine XWP.seq (XWP.drw [0, 1, 2, 3, 4, 5] (by kernel_rfl) (by kernel_rfl) (by kernel_rfl) fun K hK => ?_) | refine XWP.drw1 [0, 1, 2, 3, 4, 5] (by kernel_rfl) (by kernel_rfl) (by kernel_rfl) fun K hK => ?_) <;> dsimp only [pickOps, List.getElem?_cons_zero, List.getElem?_cons_succ]
        simp only [XM, XA, XB, gateX, Nat.reduceAdd, Nat.reduceLeDiff, Nat.reduceSub, Nat.reduceMul, ↓reduceIte, Int.reduceToNat, Int.reduceLE, beq_self_eq_true]
        refine call_go (by kernel_rfl) rfl (qmul_c _ _ _ _ _ hx1 hx2 ((ha.hq i j hi hj).qf (by omega)) ((hb.hq j k hj hk).qf (by omega))) fun v7 V7 hV7 h7 => ?_
        simp only [XM, XA, XB, gateX, Nat.reduceAdd, Nat.reduceLeDiff, Nat.reduceSub, Nat.reduceMul, ↓reduceIte, Int.reduceToNat, Int.reduceLE, beq_self_eq_true]
        refine call_go (by kernel_rfl) rfl (qadd_c _ _ _ _ _ (hx5.mono hV7) h7 (hq1 j (by omega)) (((ha.hq i j hi hj).mul (hb.hq j k hj hk)).qf (by omega))) fun v8 V8 hV8 h8 => ?_
        obtain ⟨x8, y8, rfl, o5, o6⟩ := h8.form
        simp only [XM, XA, XB, gateX, Nat.reduceAdd, Nat.reduceLeDiff, Nat.reduceSub, Nat.reduceMul, ↓reduceIte, Int.reduceToNat, Int.reduceLE, beq_self_eq_true]
        refine st_rat rfl rfl rfl o5 o6 ?_
        simp only [XM, XA, XB, gateX, Nat.reduceAdd, Nat.reduceLeDiff, Nat.reduceSub, Nat.reduceMul, ↓reduceIte, Int.reduceToNat, Int.reduceLE, beq_self_eq_true]
        exact hK _ fun f => ⟨V8, _, x8, y8, StIs.of (by exact rfl), View.le_trans hV7 hV8, h8, o5, o6⟩
      · obtain ⟨z, rfl⟩ := hs.out
        try dsimp only
        clear hs
        by_cases hz1 : G i j = 0
        · have b3 := dg_of_zero hz1
          first | refine Gx.a (by kernel_rfl) fun K hK => ?_ | refine Gx.b (by kernel_rfl) fun K hK => ?_ | refine Gx.c (by kernel_rfl) fun K hK => ?_
          simp only [XM, XA, XB, gateX, Nat.reduceAdd, Nat.reduceLeDiff, Nat.reduceSub, Nat.reduceMul, ↓reduceIte, Int.reduceToNat, Int.reduceLE, beq_self_eq_true, b3]
          refine hK _ ?_
          first | refine Gx.f rfl ?_ | refine XWP.seq (Gx.f rfl ?_)
          refine XWP.skip ?_
          exact fun f => ⟨V5, m, x, y, StIs.of (by exact rfl), View.le_refl _, by rw [e0 (by rw [hz1]; grind)]; exact hx5, o1, o2⟩
        have b3 := rat_len hz1
        by_cases hz2 : H j k = 0
        · have b4 := dg_of_zero hz2
          first | refine Gx.a (by kernel_rfl) fun K hK => ?_ | refine Gx.b (by kernel_rfl) fun K hK => ?_ | refine Gx.c (by kernel_rfl) fun K hK => ?_
          simp only [XM, XA, XB, gateX, Nat.reduceAdd, Nat.reduceLeDiff, Nat.reduceSub, Nat.reduceMul, ↓reduceIte, Int.reduceToNat, Int.reduceLE, beq_self_eq_true, b3, b4]
          refine hK _ ?_
          first | refine Gx.f rfl ?_ | refine XWP.seq (Gx.f rfl ?_)
          refine XWP.skip ?_
          exact fun f => ⟨V5, m, x, y, StIs.of (by exact rfl), View.le_refl _, by rw [e0 (by rw [hz2]; grind)]; exact hx5, o1, o2⟩
        have b4 := rat_len hz2
        first | refine Gx.a (by kernel_rfl) fun K hK => ?_ | refine Gx.b (by kernel_rfl) fun K hK => ?_ | refine Gx.c (by kernel_rfl) fun K hK => ?_
        simp only [XM, XA, XB, gateX, Nat.reduceAdd, Nat.reduceLeDiff, Nat.reduceSub, Nat.reduceMul, ↓reduceIte, Int.reduceToNat, Int.reduceLE, beq_self_eq_true, b3, b4]
        refine hK _ ?_
        first | refine Gx.t rfl ?_ | refine XWP.seq (Gx.t rfl ?_)
        (first | refine XWP.drw [0, 1, 2, 3, 4, 5] (by kernel_rfl) (by kernel_rfl) (by kernel_rfl) fun K hK => ?_ | refine XWP.seq (XWP.drw [0, 1, 2, 3, 4, 5] (by kernel_rfl) (by kernel_rfl) (by kernel_rfl) fun K hK => ?_) | refine XWP.drw1 [0, 1, 2, 3, 4, 5] (by kernel_rfl) (by kernel_rfl) (by kernel_rfl) fun K hK => ?_) <;> dsimp only [pickOps, List.getElem?_cons_zero, List.getElem?_cons_succ]
        simp only [XM, XA, XB, gateX, Nat.reduceAdd, Nat.reduceLeDiff, Nat.reduceSub, Nat.reduceMul, ↓reduceIte, Int.reduceToNat, Int.reduceLE, beq_self_eq_true]
        refine call_go (by kernel_rfl) rfl (qmul_c _ _ _ _ _ hx1 hx2 ((ha.hq i j hi hj).qf (by omega)) ((hb.hq j k hj hk).qf (by omega))) fun v7 V7 hV7 h7 => ?_
        simp only [XM, XA, XB, gateX, Nat.reduceAdd, Nat.reduceLeDiff, Nat.reduceSub, Nat.reduceMul, ↓reduceIte, Int.reduceToNat, Int.reduceLE, beq_self_eq_true]
        refine call_go (by kernel_rfl) rfl (qadd_c _ _ _ _ _ (hx5.mono hV7) h7 (hq1 j (by omega)) (((ha.hq i j hi hj).mul (hb.hq j k hj hk)).qf (by omega))) fun v8 V8 hV8 h8 => ?_
        obtain ⟨x8, y8, rfl, o5, o6⟩ := h8.form
        simp only [XM, XA, XB, gateX, Nat.reduceAdd, Nat.reduceLeDiff, Nat.reduceSub, Nat.reduceMul, ↓reduceIte, Int.reduceToNat, Int.reduceLE, beq_self_eq_true]
        refine st_rat rfl rfl rfl o5 o6 ?_
        simp only [XM, XA, XB, gateX, Nat.reduceAdd, Nat.reduceLeDiff, Nat.reduceSub, Nat.reduceMul, ↓reduceIte, Int.reduceToNat, Int.reduceLE, beq_self_eq_true]
        exact hK _ fun f => ⟨V8, _, x8, y8, StIs.of (by exact rfl), View.le_trans hV7 hV8, h8, o5, o6⟩
    rintro s ⟨V6, m', x', y', hs, hV6, hx6, o5, o6⟩
    obtain ⟨z, rfl⟩ := hs.out
    try dsimp only
    clear hs
    first | refine Gx.a (by kernel_rfl) fun K hK => ?_ | refine Gx.b (by kernel_rfl) fun K hK => ?_ | refine Gx.c (by kernel_rfl) fun K hK => ?_
    simp only [XM, XA, XB, gateX, Nat.reduceAdd, Nat.reduceLeDiff, Nat.reduceSub, Nat.reduceMul, ↓reduceIte, Int.reduceToNat, Int.reduceLE, beq_self_eq_true, i64_succ j (by omega)]
    exact hK _ ⟨q - 1, by omega, fun f => ⟨j + 1, V6, m', x', y', StIs.of (by exact rfl), by omega, View.le_trans hV5 hV6, hx6, o5, o6⟩⟩
  rintro s ⟨V5, m, x, y, hs, hx5, o1, o2⟩
  obtain ⟨z, rfl⟩ := hs.out
  try dsimp only
  first | refine Gx.a (by kernel_rfl) fun K hK => ?_ | refine Gx.b (by kernel_rfl) fun K hK => ?_ | refine Gx.c (by kernel_rfl) fun K hK => ?_
  simp only [XM, XA, XB, gateX, Nat.reduceAdd, Nat.reduceLeDiff, Nat.reduceSub, Nat.reduceMul, ↓reduceIte, Int.reduceToNat, Int.reduceLE, beq_self_eq_true]
  refine st_rat rfl rfl rfl o1 o2 ?_
  simp only [XM, XA, XB, gateX, Nat.reduceAdd, Nat.reduceLeDiff, Nat.reduceSub, Nat.reduceMul, ↓reduceIte, Int.reduceToNat, Int.reduceLE, beq_self_eq_true]
  refine hK _ (XWP.ret ?_)
  try simp only [thenX_ret, inBlockX_ret]
  exact ret_rat1 rfl rfl rfl hx5
theorem ctimes_c (V : View) (s1 s2 : Value) (n B C : Nat) (G H : Grid) (ha : SqM V s1 n B G) (hb : SqM V s2 n C H) (hn5 : n ≤ 5) (hfit : 5 * (B + C + 1) ≤ 17592186044416) :
    Spec Tryz.prog 89 [.agg #[.int .i64 (n : Int), .int .i64 (n : Int), s1], .agg #[.int .i64 (n : Int), .int .i64 (n : Int), s2]] V fun v' V' => ∃ w, v' = .agg #[.int .i64 (n : Int), .int .i64 (n : Int), w] ∧ Rats V' w (flatG (gmul G H n) n n) := by
  obtain ⟨A1, c1, rfl, hc1, hm1⟩ := ha.hv.form
  obtain ⟨A2, c2, rfl, hc2, hm2⟩ := hb.hv.form
  have hn := ha.hn
  refine (Spec.enter Tryz.func89 rfl fun Γ => ?_)
  simp only [Tryz.ntmps89, List.map_cons, List.map_nil, List.length_cons, List.length_nil, Nat.reduceAdd, Nat.reduceSub, List.replicate_succ, List.replicate_zero, List.cons_append, List.nil_append]
  first | refine Gx.a (by kernel_rfl) fun K hK => ?_ | refine Gx.b (by kernel_rfl) fun K hK => ?_ | refine Gx.c (by kernel_rfl) fun K hK => ?_
  simp only [XM, XA, XB, gateX, Nat.reduceAdd, Nat.reduceLeDiff, Nat.reduceSub, Nat.reduceMul, ↓reduceIte, Int.reduceToNat, Int.reduceLE, beq_self_eq_true]
  refine hK _ ?_
  refine XWP.row1 (bx := [_, _]) fun b4 e4 hb4 _ => ?_
  simp only [List.map_cons, List.map_nil, rowS_v, rowS_p, List.length_nil, List.length_cons, Nat.reduceAdd, Nat.reduceEqDiff, ↓reduceIte]
  have f4 : upd (fun _ => none) b4 (some ⟨e4, [.int .i64 0, .int .i64 0, .slice none 0 0], 3⟩) b4 = some ⟨e4, [.int .i64 0, .int .i64 0, .slice none 0 0], 3⟩ := upd_at _ _ _
  generalize upd (fun _ => none) b4 (some ⟨e4, [.int .i64 0, .int .i64 0, .slice none 0 0], 3⟩) = H2 at *
  refine XWP.row1 (bx := [_]) fun b3 e3 hb3 _ => ?_
  simp only [List.map_cons, List.map_nil, rowS_v, rowS_p, List.length_nil, List.length_cons, Nat.reduceAdd, Nat.reduceEqDiff, ↓reduceIte]
  refine XWP.pub b3 _ (upd_at _ _ _) fun o3 ho3 hle3 => ?_
  have eo3 := row_obj ho3
  subst eo3
  have n43 := new_ne hb3 f4
  have f4 : upd (upd H2 b3 (some ⟨e3, [.int .i64 (n : Int), .int .i64 (n : Int), .slice A2 (flatG H n n).length c2], 3⟩)) b3 none b4 = some ⟨e4, [.int .i64 0, .int .i64 0, .slice none 0 0], 3⟩ := (upd_off n43).trans ((upd_off n43).trans f4)
  have h3 := addV_at V b3 (.cells ([.int .i64 (n : Int), .int .i64 (n : Int), .slice A2 (flatG H n n).length c2] : List Value).toArray e3 (0, 0))
  generalize upd (upd H2 b3 _) b3 none = H3 at *
  generalize addV V b3 _ = V3 at *
  refine XWP.row1 (bx := []) fun b2 e2 hb2 _ => ?_
  simp only [List.map_cons, List.map_nil, rowS_v, rowS_p, List.length_nil, List.length_cons, Nat.reduceAdd, Nat.reduceEqDiff, ↓reduceIte]
  refine XWP.pub b2 _ (upd_at _ _ _) fun o2 ho2 hle2 => ?_
  have eo2 := row_obj ho2
  subst eo2
  have n42 := new_ne hb2 f4
  have f4 : upd (upd H3 b2 (some ⟨e2, [.int .i64 (n : Int), .int .i64 (n : Int), .slice A1 (flatG G n n).length c1], 3⟩)) b2 none b4 = some ⟨e4, [.int .i64 0, .int .i64 0, .slice none 0 0], 3⟩ := (upd_off n42).trans ((upd_off n42).trans f4)
  have h2 := addV_at V3 b2 (.cells ([.int .i64 (n : Int), .int .i64 (n : Int), .slice A1 (flatG G n n).length c1] : List Value).toArray e2 (0, 0))
  generalize upd (upd H3 b2 _) b2 none = H4 at *
  generalize addV V3 b2 _ = V4 at *
  have h3 := hle2 _ _ h3
  have hle := View.le_trans hle3 hle2
  have ha := ha.up hle
  have hb := hb.up hle
  first | refine Gx.a (by kernel_rfl) fun K hK => ?_ | refine Gx.b (by kernel_rfl) fun K hK => ?_ | refine Gx.c (by kernel_rfl) fun K hK => ?_
  simp only [XM, XA, XB, gateX, Nat.reduceAdd, Nat.reduceLeDiff, Nat.reduceSub, Nat.reduceMul, ↓reduceIte, Int.reduceToNat, Int.reduceLE, beq_self_eq_true]
  refine ld_mem (ldV1 h2 (off := 0) rfl shapeT_3 _) ?_
  simp only [XM, XA, XB, gateX, Nat.reduceAdd, Nat.reduceLeDiff, Nat.reduceSub, Nat.reduceMul, ↓reduceIte, Int.reduceToNat, Int.reduceLE, beq_self_eq_true]
  refine ld_mem (ldV1 h3 (off := 1) rfl shapeT_3 _) ?_
  simp only [XM, XA, XB, gateX, Nat.reduceAdd, Nat.reduceLeDiff, Nat.reduceSub, Nat.reduceMul, ↓reduceIte, Int.reduceToNat, Int.reduceLE, beq_self_eq_true]
  refine mkf_go [.pointer (some ⟨b2, 0, none⟩), .pointer (some ⟨b3, 0, none⟩)] rfl ?_
  simp only [XM, XA, XB, gateX, Nat.reduceAdd, Nat.reduceLeDiff, Nat.reduceSub, Nat.reduceMul, ↓reduceIte, Int.reduceToNat, Int.reduceLE, beq_self_eq_true]
  refine call_own (by kernel_rfl) rfl (filled_o V4 (lb := [.pointer (some ⟨b2, 0, none⟩), .pointer (some ⟨b3, 0, none⟩)]) n n (gmul G H n) (by kernel_rfl) (by omega) (by omega) fun V' i k hV hi hk => ctimes1_c V' b2 b3 e2 e3 n i k B C G H _ _ (hV _ _ h2) (hV _ _ h3) (ha.up hV) (hb.up hV) hi hk hn5 hfit) fun v12 V12 o12 hV12 hs12 hR12 => ?_
  obtain ⟨sl, cells, rfl, hown, hrow⟩ := hR12
  have f12 := addRow_off f4 fun g' q e => (hs12 g' q e).1
  have hown2 := own_any (H := H4) hown
  have osl := own_isOne hown2
  have hne : sl.ownBlock ≠ some b4 := fun e => by
    rcases own_parts hown with ⟨rfl, _, _⟩ | ⟨g2, cap2, rfl, hg2, _⟩
    · cases e
    · have : g2 = b4 := by simpa [Value.ownBlock] using e
      exact new_ne (hs12 g2 _ (addRow_only hg2)).1 f4 this.symm
  generalize addRow H4 o12 = H12 at *
  simp only [XM, XA, XB, gateX, Nat.reduceAdd, Nat.reduceLeDiff, Nat.reduceSub, Nat.reduceMul, ↓reduceIte, Int.reduceToNat, Int.reduceLE, beq_self_eq_true]
  refine st_rowA shapeT_24 (all3 rfl rfl osl) rfl f12 (by simp) ?_
  simp only [XM, XA, XB, gateX, Nat.reduceAdd, Nat.reduceLeDiff, Nat.reduceSub, Nat.reduceMul, ↓reduceIte, Int.reduceToNat, Int.reduceLE, beq_self_eq_true]
  refine hK _ ?_
  have hown3 : Own (upd H12 b4 (some ⟨e4, splice [.int .i64 0, .int .i64 0, .slice none 0 0] 0 [.int .i64 (n : Int), .int .i64 (n : Int), sl], 3⟩)) 48 3 sl (n * n) cells := by
    refine ⟨hown2.1, ?_⟩
    rcases hown2.2 with h | ⟨g2, cap2, rfl, hg2, h⟩
    · exact .inl h
    · exact .inr ⟨g2, cap2, rfl, by rw [upd_off fun e => hne (by rw [e]; rfl)]; exact hg2, h⟩
  refine XWP.pubR ratE_ok hown3 hrow fun H13 V13 hV13 hRw hk13 => ?_
  have f13 := (hk13 b4 hne).trans (upd_at _ _ _)
  refine XWP.ret ?_
  try simp only [thenX_ret, inBlockX_ret]
  exact ret_go _ (by simp [resAll, resV, cellsV, shapeT_24, f13, splice_all]; rfl) ⟨sl, rfl, hRw⟩
theorem cmMul_c (V : View) (s1 s2 : Value) (n B C : Nat) (G H : Grid) (ha : SqM V s1 n B G) (hb : SqM V s2 n C H) (hn5 : n ≤ 5) (hfit : 5 * (B + C + 1) ≤ 17592186044416) :
    Spec Tryz.prog 40 [.agg #[.int .i64 (n : Int), .int .i64 (n : Int), s1], .agg #[.int .i64 (n : Int), .int .i64 (n : Int), s2]] V fun v' V' => ∃ w, v' = .tuple #[.agg #[.int .i64 (n : Int), .int .i64 (n : Int), w], .int .i64 0] ∧ Rats V' w (flatG (gmul G H n) n n) := by
  have o1 := SlAt.one ha.hv
  have o2 := SlAt.one hb.hv
  refine (Spec.enter Tryz.func40 rfl fun Γ => ?_)
  simp only [Tryz.ntmps40, List.map_cons, List.map_nil, List.length_cons, List.length_nil, Nat.reduceAdd, Nat.reduceSub, List.replicate_succ, List.replicate_zero, List.cons_append, List.nil_append]
  first | refine Gx.a (by kernel_rfl) fun K hK => ?_ | refine Gx.b (by kernel_rfl) fun K hK => ?_ | refine Gx.c (by kernel_rfl) fun K hK => ?_
  simp only [XM, XA, XB, gateX, Nat.reduceAdd, Nat.reduceLeDiff, Nat.reduceSub, Nat.reduceMul, ↓reduceIte, Int.reduceToNat, Int.reduceLE, beq_self_eq_true]
  refine hK _ ?_
  refine XWP.seq ?_
  first | refine Gx.a (by kernel_rfl) fun K hK => ?_ | refine Gx.b (by kernel_rfl) fun K hK => ?_ | refine Gx.c (by kernel_rfl) fun K hK => ?_
  simp only [XM, XA, XB, gateX, Nat.reduceAdd, Nat.reduceLeDiff, Nat.reduceSub, Nat.reduceMul, ↓reduceIte, Int.reduceToNat, Int.reduceLE, beq_self_eq_true]
  refine call_go (by kernel_rfl) rfl (cmr_c ha (by omega)) fun v5 V5 hV5 h5 => ?_
  subst h5
  simp only [XM, XA, XB, gateX, Nat.reduceAdd, Nat.reduceLeDiff, Nat.reduceSub, Nat.reduceMul, ↓reduceIte, Int.reduceToNat, Int.reduceLE, beq_self_eq_true]
  refine call_go (by kernel_rfl) rfl (cmr_c (hb.up hV5) (by omega)) fun v6 V6 hV6 h6 => ?_
  subst h6
  simp only [XM, XA, XB, gateX, Nat.reduceAdd, Nat.reduceLeDiff, Nat.reduceSub, Nat.reduceMul, ↓reduceIte, Int.reduceToNat, Int.reduceLE, beq_self_eq_true]
  refine hK _ ?_
  first | refine Gx.f rfl ?_ | refine XWP.seq (Gx.f rfl ?_)
  refine XWP.skip ?_
  have hle := View.le_trans hV5 hV6
  refine XWP.seq ?_
  first | refine Gx.a (by kernel_rfl) fun K hK => ?_ | refine Gx.b (by kernel_rfl) fun K hK => ?_ | refine Gx.c (by kernel_rfl) fun K hK => ?_
  simp only [XM, XA, XB, gateX, Nat.reduceAdd, Nat.reduceLeDiff, Nat.reduceSub, Nat.reduceMul, ↓reduceIte, Int.reduceToNat, Int.reduceLE, beq_self_eq_true, decide_true]
  refine hK _ ?_
  first | refine Gx.f rfl ?_ | refine XWP.seq (Gx.f rfl ?_)
  refine XWP.skip ?_
  first | refine Gx.a (by kernel_rfl) fun K hK => ?_ | refine Gx.b (by kernel_rfl) fun K hK => ?_ | refine Gx.c (by kernel_rfl) fun K hK => ?_
  simp only [XM, XA, XB, gateX, Nat.reduceAdd, Nat.reduceLeDiff, Nat.reduceSub, Nat.reduceMul, ↓reduceIte, Int.reduceToNat, Int.reduceLE, beq_self_eq_true]
  refine call_go (by kernel_rfl) rfl (ctimes_c _ _ _ n B C G H (ha.up hle) (hb.up hle) hn5 hfit) fun v7 V7 hV7 h7 => ?_
  obtain ⟨w, rfl, h7⟩ := h7
  have ow := SlAt.one h7
  simp only [XM, XA, XB, gateX, Nat.reduceAdd, Nat.reduceLeDiff, Nat.reduceSub, Nat.reduceMul, ↓reduceIte, Int.reduceToNat, Int.reduceLE, beq_self_eq_true]
  refine st_mat shapeT_24 rfl rfl rfl rfl ow ?_
  simp only [XM, XA, XB, gateX, Nat.reduceAdd, Nat.reduceLeDiff, Nat.reduceSub, Nat.reduceMul, ↓reduceIte, Int.reduceToNat, Int.reduceLE, beq_self_eq_true]
  refine hK _ (XWP.ret ?_)
  try simp only [thenX_ret, inBlockX_ret]
  exact ret_go _ (by simp [resAll, resV, cellsV, shapeT_24]; rfl) ⟨w, rfl, h7⟩
end Go.Proofs.YthoboehbadmlmaaGreat
end
section
namespace Go.Proofs.YthoboehbadmlmaaGreat
open Go Go.RowKit
set_option linter.unusedSimpArgs false
set_option linter.unusedVariables false
attribute [local irreducible] XWP Spec SpecO XPub XCall seqX clX apX stX ldX iaX slX
theorem csize_c (V : View) (n : Nat) (hn : n < 4611686018427387904) : Spec Tryz.prog 100 [.int .i64 (n : Int)] V fun v' V' => NatC V' v' n := by
  have b1 : decide ((n : Int) < 0) = false := decide_eq_false (by omega)
  have w1 : IntKind.u64.wrap (n : Int) = (n : Int) := w64_id (by omega) (by omega)
  refine (Spec.enter Tryz.func100 rfl fun Γ => ?_)
  simp only [Tryz.ntmps100, List.map_cons, List.map_nil, List.length_cons, List.length_nil, Nat.reduceAdd, Nat.reduceSub, List.replicate_succ, List.replicate_zero, List.cons_append, List.nil_append]
  refine Gx.a (by kernel_rfl) fun K hK => ?_
  simp only [XA]
  refine hK _ ?_
  refine XWP.seq ?_
  refine Gx.a (by kernel_rfl) fun K hK => ?_
  simp only [XA, XB, b1]
  refine hK _ ?_
  refine Gx.f rfl ?_
  refine XWP.skip ?_
  refine Gx.a (by kernel_rfl) fun K hK => ?_
  simp only [XA, XB, w1]
  refine call_go (by kernel_rfl) rfl (of_c _ n (by omega)) fun v1 V1 hV1 h1 => ?_
  simp only [XA]
  refine hK _ (XWP.ret ?_)
  try simp only [thenX_ret, inBlockX_ret]
  refine ret_go _ rfl ?_
  exact h1
theorem csizem_c (V : View) : Spec Tryz.prog 100 [.int .i64 (-1)] V fun v' V' => NatC V' v' 1 := by
  have b1 : decide ((-1 : Int) < 0) = true := rfl
  have w1 : IntKind.u64.wrap (-1 : Int) = 18446744073709551615 := by decide
  have w2 : IntKind.u64.wrap (-18446744073709551615 : Int) = ((1 : Nat) : Int) := by decide
  refine (Spec.enter Tryz.func100 rfl fun Γ => ?_)
  simp only [Tryz.ntmps100, List.map_cons, List.map_nil, List.length_cons, List.length_nil, Nat.reduceAdd, Nat.reduceSub, List.replicate_succ, List.replicate_zero, List.cons_append, List.nil_append]
  refine Gx.a (by kernel_rfl) fun K hK => ?_
  simp only [XA]
  refine hK _ ?_
  refine XWP.seq ?_
  refine Gx.a (by kernel_rfl) fun K hK => ?_
  simp only [XA, XB, b1]
  refine hK _ ?_
  refine Gx.t rfl ?_
  refine Gx.a (by kernel_rfl) fun K hK => ?_
  simp only [XA, XB, w1]
  refine call_go (by kernel_rfl) rfl (of_c _ 1 (by omega)) fun v1 V1 hV1 h1 => ?_
  simp only [XA]
  refine hK _ (XWP.ret ?_)
  try simp only [thenX_ret, inBlockX_ret]
  refine ret_go _ rfl ?_
  exact h1
theorem cmakem_c (V : View) (k : Nat) (hk : k ≤ 7) : Spec Tryz.prog 44 [.int .i64 (-1), .int .i64 ((k + 1 : Nat) : Int)] V fun v' V' => ∃ w, v' = .tuple #[w, .int .i64 0] ∧ RatC V' w (-1 / ((k : Rat) + 1)) := by
  have b1 : decide ((-1 : Int) < 0) = true := rfl
  have b2 : decide (((k + 1 : Nat) : Int) < 0) = false := decide_eq_false (by omega)
  refine (Spec.enter Tryz.func44 rfl fun Γ => ?_)
  simp only [Tryz.ntmps44, List.map_cons, List.map_nil, List.length_cons, List.length_nil, Nat.reduceAdd, Nat.reduceSub, List.replicate_succ, List.replicate_zero, List.cons_append, List.nil_append]
  refine Gx.a (by kernel_rfl) fun K hK => ?_
  simp only [XA, XB]
  refine hK _ ?_
  refine Gx.a (by kernel_rfl) fun K hK => ?_
  simp only [XA, XB, b1, b2]
  refine call_go (by kernel_rfl) rfl (csizem_c _) fun v1 V1 hV1 h1 => ?_
  simp only [XA]
  refine call_go (by kernel_rfl) rfl (csize_c _ (k + 1) (by omega)) fun v2 V2 hV2 h2 => ?_
  simp only [XA]
  have hk2 : k + 1 ≤ 2 ^ 4 := by omega
  refine call_go (by kernel_rfl) rfl (qof_c _ _ _ _ 1 (k + 1) (h1.mono hV2) h2 (Fit1.of_two (B := 1) (by decide) (by omega)).fit (Fit1.of_two (B := 4) hk2 (by omega)).fit) fun v3 V3 hV3 h3 => ?_
  obtain ⟨w3, rfl, r3⟩ := h3.2 (by omega)
  clear h3
  obtain ⟨x3, y3, rfl, o1, o2⟩ := r3.form
  simp only [XA]
  refine st_rat rfl rfl rfl o1 o2 ?_
  simp only [XA]
  refine hK _ (XWP.ret ?_)
  try simp only [thenX_ret, inBlockX_ret]
  refine ret_rat2 rfl rfl rfl rfl ⟨_, rfl, ?_⟩
  rw [← rv_part hk]
  exact r3
theorem cplus_c (V : View) (s1 r : Value) (n B C : Nat) (G : Grid) (q : Rat) (ha : SqM V s1 n B G) (hb : RatC V r q) (hC : QB C q) (hfit : B + C + 1 ≤ 17592186044416) :
    Spec Tryz.prog 41 [.agg #[.int .i64 (n : Int), .int .i64 (n : Int), s1], r] V fun v' V' => ∃ w, v' = .agg #[.int .i64 (n : Int), .int .i64 (n : Int), w] ∧ Rats V' w (flatG (fun i k => G i k + gid i k * q) n n) := by
  have o1 := SlAt.one ha.hv
  obtain ⟨x, y, rfl, ox, oy⟩ := hb.form
  refine (Spec.enter Tryz.func41 rfl fun Γ => ?_)
  simp only [Tryz.ntmps41, List.map_cons, List.map_nil, List.length_cons, List.length_nil, Nat.reduceAdd, Nat.reduceSub, List.replicate_succ, List.replicate_zero, List.cons_append, List.nil_append]
  refine Gx.a (by kernel_rfl) fun K hK => ?_
  simp only [XM, XA, Nat.reduceAdd]
  refine hK _ ?_
  refine Gx.a (by kernel_rfl) fun K hK => ?_
  simp only [XM, XA, XB]
  refine call_go (by kernel_rfl) rfl (cident_c _ n ha.hn) fun v5 V5 hV5 h5 => ?_
  obtain ⟨w5, rfl, h5⟩ := h5
  have ow5 := SlAt.one h5
  simp only [XM, XA, Nat.reduceAdd]
  refine st_mat shapeT_24 rfl rfl rfl rfl ow5 ?_
  simp only [XA]
  refine hK _ ?_
  have hI : SqM V5 w5 n 0 gid := ⟨h5, ha.hn, fun i k _ _ => gid_QB i k⟩
  refine Gx.a (by kernel_rfl) fun K hK => ?_
  simp only [XM, XA, XB, Nat.reduceAdd, Nat.reduceLeDiff, ↓reduceIte]
  refine call_go (by kernel_rfl) rfl (cscale_c _ _ _ n 0 C gid q hI (hb.mono hV5) (by omega) hC (by omega)) fun v6 V6 hV6 h6 => ?_
  obtain ⟨w6, rfl, h6⟩ := h6
  have ow6 := SlAt.one h6
  simp only [XA]
  refine st_mat shapeT_24 rfl rfl rfl rfl ow6 ?_
  simp only [XA]
  refine hK _ ?_
  have hI2 : SqM V6 w6 n C (fun i k => gid i k * q) := ⟨h6, ha.hn, fun i k _ _ => ((gid_QB i k).mul hC).mono (by omega)⟩
  refine Gx.a (by kernel_rfl) fun K hK => ?_
  simp only [XM, XA, Nat.reduceAdd, Nat.reduceLeDiff, ↓reduceIte]
  refine call_go (by kernel_rfl) rfl (cmadd_c _ _ _ n B C G _ (ha.up (View.le_trans hV5 hV6)) hI2 (by omega) (by omega)) fun v7 V7 hV7 h7 => ?_
  obtain ⟨w7, rfl, h7⟩ := h7
  have ow7 := SlAt.one h7
  simp only [XM, XA, Nat.reduceAdd]
  refine st_mat shapeT_24 rfl rfl rfl rfl ow7 ?_
  simp only [XA]
  refine hK _ ?_
  refine Gx.a (by kernel_rfl) fun K hK => ?_
  simp only [XM, XA, Nat.reduceAdd, Nat.reduceLeDiff, ↓reduceIte]
  refine st_mat shapeT_24 rfl rfl rfl rfl ow7 ?_
  simp only [XA]
  refine hK _ (XWP.ret ?_)
  try simp only [thenX_ret, inBlockX_ret]
  exact ret_go _ (by simp [resAll, resV, cellsV, shapeT_24]; rfl) ⟨w7, rfl, h7⟩
end Go.Proofs.YthoboehbadmlmaaGreat
end
section
namespace Go.Proofs.YthoboehbadmlmaaGreat
open Go Go.RowKit
set_option linter.unusedSimpArgs false
set_option linter.unusedVariables false
attribute [local irreducible] XWP Spec SpecO XPub XCall seqX clX apX stX ldX iaX slX
theorem dmr_c {V : View} {s : Value} {n B : Nat} {G : Grid} (h : SqM V s n B G) (hB : B ≤ 17592186044416) : Spec Tryz.prog 15 [.agg #[.int .i64 (n : Int), .int .i64 (n : Int), s]] V fun v' V' => v' = .bool true := by
  have := dmright_c V s (n : Int) (n : Int) ((flatG G n n).map toRaw) (Rats.raws h.hv) (fitR_toRaw fun x hx => (h.mem x hx).qf hB) (by rw [List.length_map, flatG_len]; have := sq_le h.hn; omega)
  rwa [h.right] at this
end Go.Proofs.YthoboehbadmlmaaGreat
end
section
namespace Go.Proofs.YthoboehbadmlmaaGreat
open Go Go.RowKit
set_option linter.unusedSimpArgs false
set_option linter.unusedVariables false
attribute [local irreducible] XWP Spec SpecO XPub XCall seqX clX apX stX ldX iaX slX
end Go.Proofs.YthoboehbadmlmaaGreat
end
