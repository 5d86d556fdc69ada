/- The recurrence package's Fraction, Series and Sum agree with the reference's, errors included. (part 12 of 12) -/
import Derived.OrdersHeld
import Derived.Below
import Derived.Tactics
import Derived.KernelRfl
import Derived.RangeFuncCalls
import Derived.RangeFuncFrom
import Derived.RangeFuncLeaves
import Derived.OrdersIn
import Derived.Laws.AppendOwn
import Derived.Laws.MakeOwn
import Derived.Laws.CopyRow
import Derived.Laws.Cells
import Derived.Laws.World
import Derived.Laws.Alloc2
import Derived.Laws.NewBlocks
import Derived.Maps.AppendAt
import Derived.Test.YthoboehbadmlmaaProg
import Init.Data.List.Lemmas
import Init.Omega
import Derived.WalkKit
import Derived.ProofKit
import Derived.OpenShut
import Derived.ChangeOld
import Derived.SizedLaws
import Derived.ChangeSlices
import Derived.ChangeArms
import Derived.Deep.Slices
import Derived.Test.YthoboehbadmlmaaRows
import Derived.ShutString
import Derived.Test.YthoboehbadmlmaaFR11
section
namespace Go.Proofs.Ythoboehbadmlmaa
open Go Go.RowKit
abbrev conc0 (t : List SV) : Array Value := (t.map (SV.conc fun _ => 0)).toArray
def YQ (Q : Exit → List SV → World → Prop) : Exit → Act → World → Prop := fun e a W => ∃ t, a.tmps = conc0 t ∧ a.defers = [] ∧ Q e t W
def YW (P : Program) (c : Code) (Q : Exit → List SV → World → Prop) (t : List SV) (W : World) : Prop :=
  ∀ a : Act, a.tmps = conc0 t → a.defers = [] → c.wpIn Fence.wide 0 P (YQ Q) a W
def thenY (K : List SV → World → Prop) (Q : Exit → List SV → World → Prop) : Exit → List SV → World → Prop
  | .normal, t, W => K t W
  | e, t, W => Q e t W
def inBlockY (id : Nat) (Q : Exit → List SV → World → Prop) : Exit → List SV → World → Prop
  | .exit id', t, W => if id' = id then Q .normal t W else Q (.exit id') t W
  | e, t, W => Q e t W
section
variable {P : Program} {Q : Exit → List SV → World → Prop} {t : List SV} {W : World}
theorem YW.apply {c : Code} {t : List SV} {a : Act} (h : YW P c Q t W) (h1 : a.tmps = conc0 t) (h2 : a.defers = []) : c.wpIn Fence.wide 0 P (YQ Q) a W := h a h1 h2
theorem YW.seq {x y : Code} (h : YW P x (thenY (YW P y Q) Q) t W) : YW P (.seq x y) Q t W := fun a h1 h2 =>
  wpIn_seq (wpIn_mono (h a h1 h2) fun e a w hq => by
    obtain ⟨t', h1', h2', q⟩ := hq
    cases e <;> first
      | exact q a h1' h2'
      | exact ⟨t', h1', h2', q⟩)
theorem YW.skip (h : Q .normal t W) : YW P .skip Q t W := fun _ h1 h2 => wpIn_skip ⟨t, h1, h2, h⟩
theorem YW.ret (h : Q .ret t W) : YW P .ret Q t W := fun _ h1 h2 => wpIn_ret ⟨t, h1, h2, h⟩
theorem YW.exit {i : Nat} (h : Q (.exit i) t W) : YW P (.exit i) Q t W := fun _ h1 h2 => wpIn_exit ⟨t, h1, h2, h⟩
theorem YW.block {i : Nat} {c : Code} (h : YW P c (inBlockY i Q) t W) : YW P (.block i c) Q t W := fun a h1 h2 =>
  wpIn_block (wpIn_mono (h a h1 h2) fun e a w hq => by
    obtain ⟨t', h1', h2', q⟩ := hq
    cases e with
    | exit j =>
      simp only [inBlockY] at q
      simp only [Exit.inBlock]
      split <;> rename_i hj
      · exact ⟨t', h1', h2', by simpa [hj] using q⟩
      · exact ⟨t', h1', h2', by simpa [hj] using q⟩
    | _ => exact ⟨t', h1', h2', q⟩)
theorem ev0 {a : Act} (h : a.tmps = conc0 t) (x : Operand) (H : Heap) (V : View) : a.eval x = ((⟨t, [], H, V⟩ : XS).ev x).conc fun _ => 0 := ev_conc (s := ⟨t, [], H, V⟩) h x
theorem YW.cond {c : Operand} {x y : Code} {b : Bool} {V : View} (hc : (⟨t, [], fun _ => none, V⟩ : XS).ev c = .v (.bool b)) (h1 : b = true → YW P x Q t W) (h2 : b = false → YW P y Q t W) : YW P (.cond c x y) Q t W := fun a e1 e2 =>
  wpIn_cond_split (t := b) (by rw [ev0 e1 c (fun _ => none) V, hc]; rfl) (fun e => h1 e a e1 e2) (fun e => h2 e a e1 e2)
theorem YW.loop {c : Code} (I : Nat → List SV → World → Prop) (n : Nat) (h0 : I n t W) (hr : ∀ n t W, I n t W → YW P c (thenY (fun t' W' => ∃ m, m < n ∧ I m t' W') Q) t W) : YW P (.loop c) Q t W := by
  intro a e1 e2
  have key : ∀ n t W a, I n t W → a.tmps = conc0 t → a.defers = [] → ∀ (b : Frame) (k : List Item) (cs : List Frame), b.roundOf = none →
      ∃ e a' w', YQ Q e a' w' ∧ ArrivesIn (Machine.fenced P Fence.wide) P (lone (b.atR a (.code c :: .inLoop c :: k)) cs W) b k cs e a' w' := by
    intro n
    induction n using Nat.strongRecOn with
    | _ n ih =>
      intro t W a hI e1 e2 b k cs hro
      obtain ⟨e, a₁, w₁, ⟨t1, h1, h2, hq⟩, harr⟩ := hr n t W hI a e1 e2 b (.inLoop c :: k) cs hro trivial (room_wide _)
      cases e with
      | normal =>
        obtain ⟨m, hm, hI1⟩ := hq
        obtain ⟨e₂, a₂, w₂, hq₂, harr₂⟩ := ih m hm t1 w₁ a₁ hI1 h1 h2 b k cs hro
        exact ⟨e₂, a₂, w₂, hq₂, .of_steps (StepsIn.trans harr (.one (fenced_calm (F := Fence.wide) (n := 0) (fr := b.atR a₁ (.inLoop c :: k)) trivial (room_wide _) rfl) stepR_inLoop)) harr₂⟩
      | exit id => exact ⟨_, a₁, w₁, ⟨t1, h1, h2, hq⟩, .pass (x := .inLoop c) rfl (fun _ _ => .inl (by simp)) harr⟩
      | goto l => exact ⟨_, a₁, w₁, ⟨t1, h1, h2, hq⟩, .pass (x := .inLoop c) rfl (fun _ _ => .inl (by simp)) harr⟩
      | ret => exact ⟨_, a₁, w₁, ⟨t1, h1, h2, hq⟩, .pass (x := .inLoop c) rfl (fun _ _ => .inl (by simp)) harr⟩
      | panic ch => exact ⟨_, a₁, w₁, ⟨t1, h1, h2, hq⟩, .pass (x := .inLoop c) rfl (fun _ _ => .inl (by simp)) harr⟩
      | outgrown => exact ⟨_, a₁, w₁, ⟨t1, h1, h2, hq⟩, .pass (x := .inLoop c) rfl (fun _ _ => .inl (by simp)) harr⟩
  intro b k cs hro _ _
  obtain ⟨e, a', w', hq, harr⟩ := key n t W a h0 e1 e2 b k cs hro
  exact ⟨e, a', w', hq, .of_steps (.one (fenced_calm (F := Fence.wide) (n := 0) (fr := b.atR a (.code (.loop c) :: k)) trivial (room_wide _) rfl) stepR_loop) harr⟩
/-- operations that read alone -/
theorem reads_in {ops : Array Oper} {V : View} {Q' : Exit → Act → World → Prop} (hV : V.sub W) (rest : List Nat) : ∀ (l : List Oper) (k : Nat) (K : XS → Prop) (t : List SV) (a : Act), (∀ i o, l[i]? = some o → ops[k + i]? = some o) → (l.all fun o => isRead o.op && o.guard.isNone) = true →
    a.tmps = conc0 t → a.defers = [] → (∀ x ∈ t, x.ok 0) → seqX P ops l K ⟨t, [], fun _ => none, V⟩ → (∀ t' a', a'.tmps = conc0 t' → a'.defers = [] → (∀ x ∈ t', x.ok 0) → K ⟨t', [], fun _ => none, V⟩ → wpOpsIn Fence.wide 0 P ops Q' rest a' W) →
    wpOpsIn Fence.wide 0 P ops Q' (List.range' k l.length ++ rest) a W
  | [], k, K, t, a, _, _, e1, e2, hok, h, hk => by simpa using hk t a e1 e2 hok h
  | o :: l, k, K, t, a, hi, hall, e1, e2, hok, h, hk => by
    simp only [List.all_cons, Bool.and_eq_true] at hall
    obtain ⟨⟨hrd, hgd⟩, hall⟩ := hall
    have ho : ops[k]? = some o := by simpa using hi 0 o (by simp)
    have hg : o.guard = none := by cases hx : o.guard <;> simp_all
    simp only [List.length_cons, List.range'_succ, List.cons_append]
    rw [wpOpsIn_cons]
    unfold wpOpIn
    simp only [ho]
    have hw : Region.wanted o (yielded ops a.tmps) = true := by unfold Region.wanted; rw [hg]
    rw [if_pos hw]
    unfold seqX stepX at h
    rw [hg] at h
    dsimp only at h
    unfold opX at h
    rw [if_pos hrd] at h
    obtain ⟨sv, ⟨hsv, hrun⟩, h⟩ := readX_sound (s := ⟨t, [], fun _ => none, V⟩) hok h
    have hr := hrun ⟨W, V, W, none⟩ (fun _ => 0) a W e1 ⟨fun i vs hi => by simp at hi, fun b r hb => (by cases hb), hV, Below.refl _ _⟩
    refine ⟨fun _ _ => trivial, ?_⟩
    have hd : ∀ c, o.op ≠ .defer c := fun c e => by rw [e] at hrd; cases hrd
    rw [Oper.semAt_eq _ _ _ hd, hr]
    have hconc : Conc ⟨W, V, W, none⟩ (fun _ => 0) ⟨t, [], fun _ => none, V⟩ a W := ⟨e1, ⟨⟨[], by rw [e2]; rfl, List.nodup_nil, fun D hD => by simp at hD⟩, KeepsOthers.refl _⟩, ⟨fun i vs hi => by simp at hi, fun b r hb => (by cases hb), hV, Below.refl _ _⟩, ⟨fun i j hi => by simp at hi, fun i hi => by simp at hi, fun b r hb => (by cases hb), View.le_refl _, View.from_refl _ _⟩, hok⟩
    have hput := hconc.put o.dst sv hsv
    have et : (XS.put ⟨t, [], fun _ => none, V⟩ o.dst sv) = ⟨(XS.put ⟨t, [], fun _ => none, V⟩ o.dst sv).t, [], fun _ => none, V⟩ := by cases o.dst <;> rfl
    rw [et] at h
    have hok2 : ∀ x ∈ (XS.put ⟨t, [], fun _ => none, V⟩ o.dst sv).t, x.ok 0 := by
      have := put_ok (s := ⟨t, [], fun _ => none, V⟩) hok o.dst hsv
      rw [XS.put_bx] at this; exact this
    refine reads_in hV rest l (k + 1) K _ _ (fun i o' h' => ?_) hall hput.tm ?_ hok2 h hk
    · have := hi (i + 1) o' (by simpa using h')
      rw [show k + 1 + i = k + (i + 1) by omega]; exact this
    · cases o.dst <;> exact e2
theorem YW.reads {id : Nat} {ops : Array Oper} {V : View} (hV : V.sub W) (hok : ∀ x ∈ t, x.ok 0) (hall : (ops.toList.all fun o => isRead o.op && o.guard.isNone) = true) (h : seqX P ops ops.toList (fun s => (∀ x ∈ s.t, x.ok 0) → Q .normal s.t W) ⟨t, [], fun _ => none, V⟩) : YW P (.region id ops false) Q t W := fun a e1 e2 => by
  refine wpIn_region ?_
  have := reads_in (Q' := YQ Q) hV [] ops.toList 0 _ t a (fun i o h => by simpa using h) hall e1 e2 hok h fun t' a' e1' e2' hok' hk => ⟨t', e1', e2', hk hok'⟩
  rwa [List.append_nil, Array.length_toList, ← List.range_eq_range'] at this
/-- reads, a call of yield, reads -/
theorem YW.yield {id : Nat} {ops : Array Oper} {V : View} {pre post : List Oper} {d : Option Tmp} {x : Tmp} {xs : List Operand} {ts : Array TypeId} {ty pos af} (hops : ops.toList = pre ++ ⟨d, .call ⟨.value (.tmp x), xs.toArray, ts⟩, ty, pos, af, none⟩ :: post) (hV : V.sub W) (hok : ∀ x ∈ t, x.ok 0)
    (hpre : (pre.all fun o => isRead o.op && o.guard.isNone) = true) (hpost : (post.all fun o => isRead o.op && o.guard.isNone) = true)
    (h : seqX P ops pre (fun s => ∃ (l : Nat) (args : List Value) (R : Ending → World → Prop), s.ev (.tmp x) = .v (.func (.yield l) #[] #[]) ∧ xs.map s.ev = args.map .v ∧ YieldAt Fence.wide 0 P l args.toArray W R ∧
      ∀ e W', R e W' → ∃ b, e = .returned (.bool b) ∧ V.sub W' ∧ seqX P ops post (fun s' => (∀ x ∈ s'.t, x.ok 0) → Q .normal s'.t W') (s.put d (.v (.bool b)))) ⟨t, [], fun _ => none, V⟩) : YW P (.region id ops false) Q t W := fun a e1 e2 => by
  refine wpIn_region ?_
  have hlen : List.range ops.size = List.range' 0 pre.length ++ (pre.length :: List.range' (pre.length + 1) post.length) := by
    have : ops.size = pre.length + (post.length + 1) := by rw [← Array.length_toList, hops]; simp
    rw [this, List.range_eq_range', ← List.range'_append_1, Nat.zero_add, List.range'_succ]
  rw [hlen]
  have hget : ∀ i : Nat, ops[i]? = (pre ++ ⟨d, .call ⟨.value (.tmp x), xs.toArray, ts⟩, ty, pos, af, none⟩ :: post)[i]? := fun i => by rw [← hops]; simp
  refine reads_in hV _ pre 0 _ t a (fun i o h => by
    rw [hget, Nat.zero_add, List.getElem?_append_left (List.getElem?_eq_some_iff.1 h).1]; exact h) hpre e1 e2 hok h fun t' a' e1' e2' hok' hk => ?_
  obtain ⟨l, args, R, hx, hxs, ⟨fn, tmps, assign, body, hrun, hround⟩, hR⟩ := hk
  rw [wpOpsIn_cons]
  unfold wpOpIn
  have ho : ops[pre.length]? = some ⟨d, .call ⟨.value (.tmp x), xs.toArray, ts⟩, ty, pos, af, none⟩ := by rw [hget, List.getElem?_append_right (Nat.le_refl _), Nat.sub_self]; rfl
  simp only [ho]
  rw [if_pos (by unfold Region.wanted; rfl)]
  refine ⟨fun _ _ => trivial, ?_⟩
  rw [Oper.semAt_eq _ _ _ (fun c e => by cases e)]
  have hev : a'.eval (.tmp x) = .func (.yield l) #[] #[] := by rw [ev0 e1' _ (fun _ => none) V, hx]; rfl
  have hargs : xs.toArray.map a'.eval = args.toArray := by
    apply Array.ext'
    simp only [Array.toList_map]
    have h2 : xs.map a'.eval = (xs.map (⟨t', [], fun _ => none, V⟩ : XS).ev).map (SV.conc fun _ => 0) := by
      rw [List.map_map]
      exact List.map_congr_left fun q _ => ev0 e1' q (fun _ => none) V
    rw [h2, hxs, List.map_map]
    have : (SV.conc fun _ => 0) ∘ SV.v = fun x => x := rfl
    rw [this, List.map_id']
  have hcall : (execOp a'.eval ⟨d, .call ⟨.value (.tmp x), xs.toArray, ts⟩, ty, pos, af, none⟩).run P W = .ok (.round l fn tmps assign body) W := by
    simp [execOp, resolve, hev, Deferred.ofValue, invoke, callFunc, hargs, hrun]
  rw [hcall]
  refine ⟨fun h => by simp [Fence.wide] at h, hround.mono fun e W' hre => ?_⟩
  obtain ⟨b, rfl, hV', hpo⟩ := hR e W' hre
  dsimp only
  have hokp : ∀ y ∈ (XS.put ⟨t', [], fun _ => none, V⟩ d (.v (.bool b))).t, y.ok 0 := by
    have := put_ok (s := ⟨t', [], fun _ => none, V⟩) hok' d (x := .v (.bool b)) trivial
    rw [XS.put_bx] at this; exact this
  have et : (XS.put ⟨t', [], fun _ => none, V⟩ d (.v (.bool b))) = ⟨(XS.put ⟨t', [], fun _ => none, V⟩ d (.v (.bool b))).t, [], fun _ => none, V⟩ := by cases d <;> rfl
  rw [et] at hpo
  have := reads_in (Q' := YQ Q) hV' [] post (pre.length + 1) _ _ (a'.put d (.bool b)) (fun i o h => by
    rw [hget, List.getElem?_append_right (by omega), show pre.length + 1 + i - pre.length = i + 1 by omega]; simpa using h) hpost (conc_put (s := ⟨t', [], fun _ => none, V⟩) e1' d (.v (.bool b))) (by cases d <;> exact e2') hokp hpo fun t2 a2 e3 e4 hok2 hk => ⟨t2, e3, e4, hk hok2⟩
  rwa [List.append_nil] at this
theorem YW.yieldAt {id : Nat} {ops : Array Oper} {V : View} (k : Nat) {d : Option Tmp} {x : Tmp} {xs : List Operand} {ts : Array TypeId} {ty pos af} (hk : ops.toList[k]? = some ⟨d, .call ⟨.value (.tmp x), xs.toArray, ts⟩, ty, pos, af, none⟩) (hV : V.sub W) (hok : ∀ x ∈ t, x.ok 0)
    (hpre : ((ops.toList.take k).all fun o => isRead o.op && o.guard.isNone) = true) (hpost : ((ops.toList.drop (k + 1)).all fun o => isRead o.op && o.guard.isNone) = true)
    (h : seqX P ops (ops.toList.take k) (fun s => ∃ (l : Nat) (args : List Value) (R : Ending → World → Prop), s.ev (.tmp x) = .v (.func (.yield l) #[] #[]) ∧ xs.map s.ev = args.map .v ∧ YieldAt Fence.wide 0 P l args.toArray W R ∧
      ∀ e W', R e W' → ∃ b, e = .returned (.bool b) ∧ V.sub W' ∧ seqX P ops (ops.toList.drop (k + 1)) (fun s' => (∀ x ∈ s'.t, x.ok 0) → Q .normal s'.t W') (s.put d (.v (.bool b)))) ⟨t, [], fun _ => none, V⟩) : YW P (.region id ops false) Q t W :=
  YW.yield (pre := ops.toList.take k) (post := ops.toList.drop (k + 1)) (d := d) (x := x) (xs := xs) (ts := ts) (ty := ty) (pos := pos) (af := af) (by
    obtain ⟨hlt, he⟩ := List.getElem?_eq_some_iff.1 hk
    rw [← he, List.getElem_cons_drop, List.take_append_drop]) hV hok hpre hpost h
end
end Go.Proofs.Ythoboehbadmlmaa
end
section
namespace Go.Proofs.Ythoboehbadmlmaa
open Go Go.RowKit
set_option linter.unusedSimpArgs false
set_option linter.unusedVariables false
attribute [local irreducible] XWP Spec SpecO XPub XCall seqX clX apX stX ldX iaX slX
attribute [local irreducible] YW
def TIs (F : (Nat → SV) → List SV) (t : List SV) : Prop := F (nth t) = t
theorem TIs.out {F : (Nat → SV) → List SV} {t : List SV} (h : TIs F t) : ∃ u, t = F u := ⟨nth t, h.symm⟩
theorem backward_c (V : View) (v : Value) (h1 : isOne v = true) : Spec Try.prog 118 [v] V fun v' V' => ∃ Bs e, v' = .func (.func 136) #[] #[.pointer (some ⟨Bs, 0, none⟩)] ∧ V' Bs = some (.cells #[v] e (0, 0)) := by
  have hc : v.cells.toList = [v] := by cases v <;> first | rfl | cases h1
  refine (Spec.enter Try.func118 rfl fun Γ => ?_)
  simp only [Try.ntmps118, List.map_cons, List.map_nil, List.length_cons, List.length_nil, Nat.reduceAdd, Nat.reduceSub, List.replicate_succ, List.replicate_zero, List.cons_append, List.nil_append]
  first | refine Gx.a (by kernel_rfl) fun K hK => ?_ | refine Gx.b (by kernel_rfl) fun K hK => ?_ | refine Gx.c (by kernel_rfl) fun K hK => ?_
  simp only [XA, XB, gateX, Nat.reduceAdd, Nat.reduceLeDiff, Nat.reduceSub, Nat.reduceMul, ↓reduceIte, Int.reduceToNat, Int.reduceLE, beq_self_eq_true, bxS, hc]
  refine hK _ ?_
  refine XWP.row1 (bx := []) fun b e hb1 hb2 => ?_
  simp only [List.map_cons, List.map_nil, rowS_v, rowS_p, List.length_nil, List.length_cons, Nat.reduceAdd, Nat.reduceEqDiff, ↓reduceIte]
  first | refine Gx.a (by kernel_rfl) fun K hK => ?_ | refine Gx.b (by kernel_rfl) fun K hK => ?_ | refine Gx.c (by kernel_rfl) fun K hK => ?_
  refine mkf_go [.pointer (some ⟨b, 0, none⟩)] rfl ?_
  simp only [XA, XB, gateX, Nat.reduceAdd, Nat.reduceLeDiff, Nat.reduceSub, Nat.reduceMul, ↓reduceIte, Int.reduceToNat, Int.reduceLE, beq_self_eq_true]
  refine hK _ (XWP.ret ?_)
  try simp only [thenX_ret, inBlockX_ret]
  have hbb : upd (fun _ => none) b (some ⟨e, [v], 1⟩) b = some ⟨e, [v], 1⟩ := upd_at _ _ _
  refine ret_pub b _ hbb fun o ho hle' => ret_go _ rfl ⟨b, e, rfl, ?_⟩
  obtain ⟨ex, rfl, hl⟩ := ho
  have : ex = [] := List.length_eq_zero_iff.1 (by simpa using hl)
  subst this
  simp [addV]
/-- the values that lie in a slice -/
theorem SlAt.vals {α : Type} {E : View → Value → α → Prop} {V : View} {b o n c : Nat} {xs : List α} (h : SlAt E V (.slice (some ⟨b, o, none⟩) n c) xs) : ∃ f : Nat → Value, ∀ i (hi : i < xs.length), E V (f i) xs[i] ∧ (∃ m n d, f i = .agg #[m, n, d] ∧ isOne m = true ∧ isOne n = true ∧ isOne d = true) ∧ ∀ H, Loads Try.prog H V 34 b (o + i * 3) (f i) := by
  refine ⟨fun i => if hi : i < xs.length then (SlAt.load h i hi).choose else undef, fun i hi => ?_⟩
  simp only [dif_pos hi]
  exact (SlAt.load h i hi).choose_spec
def bwL (n : Nat) (f : Nat → Value) : List (Array Value) := (List.range n).map fun r => #[.int .i64 ((n - 1 - r : Nat) : Int), f (n - 1 - r)]
theorem bwL_get {n : Nat} {f : Nat → Value} {r : Nat} (h : r < n) : (bwL n f)[r]? = some #[.int .i64 ((n - 1 - r : Nat) : Int), f (n - 1 - r)] := by simp [bwL, h]
theorem bwL_len (n : Nat) (f : Nat → Value) : (bwL n f).length = n := by simp [bwL]
set_option maxRecDepth 100000 in
theorem backward_it {V : View} {Bs n c e : Nat} {A : Option Addr} {f : Nat → Value} (hB : V Bs = some (.cells #[.slice A n c] e (0, 0))) (hn : n ≤ 1000000) (hf : n = 0 ∨ ∃ b o, A = some ⟨b, o, none⟩ ∧ ∀ i, i < n → Loads Try.prog (fun _ => none) V 34 b (o + i * 3) (f i)) :
    IterX Try.prog 136 #[.pointer (some ⟨Bs, 0, none⟩)] V (bwL n f) := by
  intro l J Jx W hJ0 hJV hJX hY
  refine callsIn_of_wp Try.func136 rfl trivial ?_
  have hld : Loads Try.prog (fun _ => none) V 36 Bs 0 (.slice A n c) := ⟨false, 1, shapeT_36, .inr ⟨rfl, .inr ⟨_, _, _, hB, rfl⟩⟩⟩
  rw [bwL_len]
  simp only [Try.ntmps136, List.size_toArray, List.length_cons, List.length_nil, Nat.reduceAdd, Nat.reduceSub, Array.replicate_succ, Array.replicate_zero, List.push_toArray, List.append_toArray, List.nil_append, List.cons_append]
  refine wpIn_mono (Q := YQ fun e t W' => (e = .normal ∨ e = .ret) ∧ (J n W' ∨ Jx W')) (YW.apply (t := [.v (.func (.yield l) #[] #[]), .v (.pointer (some ⟨Bs, 0, none⟩)), .v undef, .v undef, .v undef, .v undef, .v undef, .v undef, .v undef, .v undef, .v undef, .v undef, .v undef, .v undef, .v undef, .v undef, .v undef, .v undef, .v undef]) ?_ rfl rfl) ?_
  rotate_left
  · rintro e a W' ⟨t, e1, e2, hq, hr⟩
    rcases hq with rfl | rfl
    · exact ⟨e2, _, results_none rfl _ _ _, ⟨_, rfl⟩, hr⟩
    · exact ⟨e2, _, results_none rfl _ _ _, ⟨_, rfl⟩, hr⟩
  have hV := hJV 0 W hJ0
  refine YW.seq (YW.reads hV (by intro x hx; simp only [List.mem_cons, List.not_mem_nil, or_false] at hx; rcases hx with h | h | h | h | h | h | h | h | h | h | h | h | h | h | h | h | h | h | h <;> subst h <;> trivial) (by kernel_rfl) ?_)
  simp only [XA, XB, gateX, Nat.reduceAdd, Nat.reduceLeDiff, Nat.reduceSub, Nat.reduceMul, ↓reduceIte, Int.reduceToNat, Int.reduceLE, beq_self_eq_true]
  refine ld_mem hld ?_
  have w0 : IntKind.i64.wrap ((n : Int) - 1) = (n : Int) - 1 := wrap_id (by omega) (by omega)
  simp only [XA, XB, gateX, Nat.reduceAdd, Nat.reduceLeDiff, Nat.reduceSub, Nat.reduceMul, ↓reduceIte, Int.reduceToNat, Int.reduceLE, beq_self_eq_true, w0]
  intro hok
  refine YW.block (YW.loop (fun m t W' => ∃ (r : Nat) (zi : Int), m + r = n ∧ zi = (n : Int) - 1 - (r : Int) ∧ J r W' ∧ TIs (fun Z => [.v (.func (.yield l) #[] #[]), .v (.pointer (some ⟨Bs, 0, none⟩)), Z 2, .v (.int .i64 zi), Z 4,Z 5,Z 6,Z 7,Z 8,Z 9,Z 10,Z 11,Z 12,Z 13,Z 14,Z 15,Z 16,Z 17,Z 18]) t ∧ ∀ x ∈ t, x.ok 0) n ⟨0, (n : Int) - 1, by omega, by omega, hJ0, by exact rfl, hok⟩ ?_)
  clear hok
  rintro m t W' ⟨r, zi, hm, hz, hJ, ht, hok⟩
  obtain ⟨u, rfl⟩ := ht.out
  clear ht
  try dsimp only at hok ⊢
  have hV := hJV r W' hJ
  by_cases hr : r < n
  rotate_left
  · have b1 : decide (0 ≤ zi) = false := decide_eq_false (by omega)
    refine YW.seq (YW.seq (YW.reads hV hok (by kernel_rfl) ?_))
    simp only [XA, XB, gateX, Nat.reduceAdd, Nat.reduceLeDiff, Nat.reduceSub, Nat.reduceMul, ↓reduceIte, Int.reduceToNat, Int.reduceLE, beq_self_eq_true, b1]
    intro hok2
    refine YW.cond (V := V) (b := false) rfl (fun h => by cases h) (fun _ => YW.exit ?_)
    have : r = n := by omega
    subst this
    exact ⟨.inl rfl, .inl hJ⟩
  have b1 : decide (0 ≤ zi) = true := decide_eq_true (by omega)
  obtain ⟨i, rfl, hi⟩ : ∃ i : Nat, zi = i ∧ n - 1 - r = i := ⟨n - 1 - r, by omega, rfl⟩
  rcases hf with h0 | ⟨b, o, rfl, hf⟩
  · omega
  refine YW.seq (YW.seq (YW.reads hV hok (by kernel_rfl) ?_))
  simp only [XA, XB, gateX, Nat.reduceAdd, Nat.reduceLeDiff, Nat.reduceSub, Nat.reduceMul, ↓reduceIte, Int.reduceToNat, Int.reduceLE, beq_self_eq_true, b1]
  intro hok2
  refine YW.cond (V := V) (b := true) rfl (fun _ => YW.skip ?_) (fun h => by cases h)
  refine YW.seq (YW.block (YW.seq (YW.yieldAt 6 (by rfl) hV hok2 (by kernel_rfl) (by kernel_rfl) ?_)))
  simp only [XA, XB, gateX, Nat.reduceAdd, Nat.reduceLeDiff, Nat.reduceSub, Nat.reduceMul, ↓reduceIte, Int.reduceToNat, Int.reduceLE, beq_self_eq_true]
  refine ld_mem hld ?_
  simp only [XA, XB, gateX, Nat.reduceAdd, Nat.reduceLeDiff, Nat.reduceSub, Nat.reduceMul, ↓reduceIte, Int.reduceToNat, Int.reduceLE, beq_self_eq_true]
  refine ⟨by omega, by omega, ld_mem (hf i (by omega)) ?_⟩
  simp only [XA, XB, gateX, Nat.reduceAdd, Nat.reduceLeDiff, Nat.reduceSub, Nat.reduceMul, ↓reduceIte, Int.reduceToNat, Int.reduceLE, beq_self_eq_true]
  obtain ⟨fn, tmps, asn, bd, hy1, hy2⟩ := hY r W' _ (bwL_get hr) hJ
  rw [hi] at hy1
  refine ⟨l, [.int .i64 (i : Int), f i], _, rfl, rfl, ⟨fn, tmps, asn, bd, hy1, hy2⟩, ?_⟩
  rintro e W3 (⟨rfl, hJ3⟩ | ⟨rfl, hJ3⟩)
  · have hV3 := hJV _ W3 hJ3
    refine ⟨true, rfl, hV3, ?_⟩
    simp only [XA, XB, gateX, Nat.reduceAdd, Nat.reduceLeDiff, Nat.reduceSub, Nat.reduceMul, ↓reduceIte, Int.reduceToNat, Int.reduceLE, beq_self_eq_true]
    intro hok3
    refine YW.cond (V := V) (b := false) rfl (fun h => by cases h) (fun _ => YW.skip ?_)
    refine YW.reads hV3 hok3 (by kernel_rfl) ?_
    have w1 : IntKind.i64.wrap ((i : Int) - 1) = (i : Int) - 1 := wrap_id (by omega) (by omega)
    simp only [XA, XB, gateX, Nat.reduceAdd, Nat.reduceLeDiff, Nat.reduceSub, Nat.reduceMul, ↓reduceIte, Int.reduceToNat, Int.reduceLE, beq_self_eq_true, w1]
    intro hok4
    exact ⟨m - 1, by omega, r + 1, (i : Int) - 1, by omega, by omega, hJ3, by exact rfl, hok4⟩
  · refine ⟨false, rfl, ?_, ?_⟩
    · exact hJX W3 hJ3
    simp only [XA, XB, gateX, Nat.reduceAdd, Nat.reduceLeDiff, Nat.reduceSub, Nat.reduceMul, ↓reduceIte, Int.reduceToNat, Int.reduceLE, beq_self_eq_true]
    intro hok3
    refine YW.cond (V := V) (b := true) rfl (fun _ => YW.ret ?_) (fun h => by cases h)
    exact ⟨.inr rfl, .inr hJ3⟩
theorem loads_row {H : Heap} {V : View} {b e t : Nat} {m n d : Value} (h : H b = some ⟨e, [m, n, d], t⟩) : Loads Try.prog H V 34 b 0 (.agg #[m, n, d]) :=
  ⟨true, 3, shapeT_34, .inl ⟨rfl, [m, n, d], rfl, fun j u hj => .inl ⟨_, h, by rw [Nat.zero_add]; exact hj⟩, rfl⟩⟩
theorem splice3 (a b c d e f : Value) : splice [a, b, c] 0 [d, e, f] = [d, e, f] := by simp [splice]
/-- the program's way: from the highest power down -/
def hor (l : List Rat) (x : Rat) : Nat → Rat
  | 0 => 0
  | r + 1 => hor l x r * x + cf l (l.length - 1 - r)
theorem hor_QB {l : List Rat} {x : Rat} {A B : Nat} (hl : CB A l) (hx : QB B x) (r : Nat) : QB (r * (A + B + 1)) (hor l x r) := by
  induction r with
  | zero => exact QB_zero _
  | succ r ih => exact ((ih.mul hx).add (hl.at _)).mono (by rw [Nat.add_mul]; omega)
theorem eval_c (V : View) (v u : Value) (l : List Rat) (x : Rat) (A B : Nat) (hv : Rats V v l) (hu : RatC V u x) (hA : CB A l) (hB : QB B x) (ll : l.length ≤ 1000) (hfit : (l.length + 1) * (A + B + 1) ≤ 17592186044416) :
    Spec Try.prog 80 [v, u] V fun v' V' => RatC V' v' (hor l x l.length) := by
  obtain ⟨A1, c1, rfl, hc1, hm1⟩ := hv.form
  obtain ⟨ux, uy, rfl, o1, o2⟩ := hu.form
  have hqr : ∀ r, r ≤ l.length → QB ((l.length) * (A + B + 1)) (hor l x r) := fun r hr => (hor_QB hA hB r).mono (Nat.mul_le_mul_right _ hr)
  have hf1 : l.length * (A + B + 1) + A + B + 1 ≤ 17592186044416 := by rw [Nat.add_mul] at hfit; omega
  refine (Spec.enterR Try.func80 rfl fun Γ hΓ => ?_)
  simp only [Try.ntmps80, List.map_cons, List.map_nil, List.length_cons, List.length_nil, Nat.reduceAdd, Nat.reduceSub, List.replicate_succ, List.replicate_zero, List.cons_append, List.nil_append]
  first | refine Gx.a (by kernel_rfl) fun K hK => ?_ | refine Gx.b (by kernel_rfl) fun K hK => ?_ | refine Gx.c (by kernel_rfl) fun K hK => ?_
  simp only [XA, XB, gateX, Nat.reduceAdd, Nat.reduceLeDiff, Nat.reduceSub, Nat.reduceMul, ↓reduceIte, Int.reduceToNat, Int.reduceLE, beq_self_eq_true]
  refine hK _ ?_
  first | refine Gx.a (by kernel_rfl) fun K hK => ?_ | refine Gx.b (by kernel_rfl) fun K hK => ?_ | refine Gx.c (by kernel_rfl) fun K hK => ?_
  simp only [XA, XB, gateX, Nat.reduceAdd, Nat.reduceLeDiff, Nat.reduceSub, Nat.reduceMul, ↓reduceIte, Int.reduceToNat, Int.reduceLE, beq_self_eq_true]
  refine call_go (by kernel_rfl) rfl (qzero_c _) fun v1 V1 hV1 h1 => ?_
  obtain ⟨zx, zy, rfl, o3, o4⟩ := h1.form
  simp only [XA, XB, gateX, Nat.reduceAdd, Nat.reduceLeDiff, Nat.reduceSub, Nat.reduceMul, ↓reduceIte, Int.reduceToNat, Int.reduceLE, beq_self_eq_true]
  refine st_rat rfl rfl rfl o3 o4 ?_
  simp only [XA, XB, gateX, Nat.reduceAdd, Nat.reduceLeDiff, Nat.reduceSub, Nat.reduceMul, ↓reduceIte, Int.reduceToNat, Int.reduceLE, beq_self_eq_true]
  refine hK _ ?_
  refine XWP.cut (fun s => ∃ (V5 : View) (H5 : Heap) (b4 b5 e4 e5 : Nat) (m a b : Value), StIs (fun Z => [Z 0,Z 1,Z 2,Z 3, .v (.pointer (some ⟨b4, 0, none⟩)), .v (.pointer (some ⟨b5, 0, none⟩)), Z 6,Z 7,Z 8,Z 9,Z 10,Z 11,Z 12,Z 13,Z 14,Z 15,Z 16,Z 17,Z 18]) [] H5 V5 s ∧ H5 b4 = some ⟨e4, [.bool false, .slice none 0 0, .slice none 0 0], 3⟩ ∧ H5 b5 = some ⟨e5, [m, a, b], 3⟩ ∧ RatC V5 (.agg #[m, a, b]) (hor l x l.length) ∧ isOne m = true ∧ isOne a = true ∧ isOne b = true) ?_ ?_
  · first | refine Gx.a (by kernel_rfl) fun K hK => ?_ | refine Gx.b (by kernel_rfl) fun K hK => ?_ | refine Gx.c (by kernel_rfl) fun K hK => ?_
    simp only [XA, XB, gateX, Nat.reduceAdd, Nat.reduceLeDiff, Nat.reduceSub, Nat.reduceMul, ↓reduceIte, Int.reduceToNat, Int.reduceLE, beq_self_eq_true]
    refine call_go (by kernel_rfl) rfl (backward_c _ _ rfl) fun v2 V2 hV2 h2 => ?_
    obtain ⟨Bs, eB, rfl, hBs⟩ := h2
    simp only [XA, XB, gateX, Nat.reduceAdd, Nat.reduceLeDiff, Nat.reduceSub, Nat.reduceMul, ↓reduceIte, Int.reduceToNat, Int.reduceLE, beq_self_eq_true]
    refine hK _ ?_
    have hv2 := (hv.up hV1).up hV2
    have hu2 := (hu.mono hV1).mono hV2
    have h12 := h1.mono hV2
    refine XWP.row1 (bx := [_, _]) fun b5 e5 hb5 _ => ?_
    simp only [List.map_cons, List.map_nil, rowS_v, rowS_p, List.length_nil, List.length_cons, Nat.reduceAdd, Nat.reduceEqDiff, ↓reduceIte]
    refine XWP.row1 (bx := [_]) fun b4 e4 hb4 _ => ?_
    simp only [List.map_cons, List.map_nil, rowS_v, rowS_p, List.length_nil, List.length_cons, Nat.reduceAdd, Nat.reduceEqDiff, ↓reduceIte]
    refine XWP.row1 (bx := []) fun b3 e3 hb3 _ => ?_
    simp only [List.map_cons, List.map_nil, rowS_v, rowS_p, List.length_nil, List.length_cons, Nat.reduceAdd, Nat.reduceEqDiff, ↓reduceIte]
    have n45 : b4 ≠ b5 := fun h => by subst h; simp [upd] at hb4
    have n34 : b3 ≠ b4 := fun h => by subst h; simp [upd] at hb3
    have n35 : b3 ≠ b5 := fun h => by subst h; simp [upd, n34] at hb3
    obtain ⟨f, hf, hfv⟩ : ∃ f : Nat → Value, (l.length = 0 ∨ ∃ b o, A1 = some ⟨b, o, none⟩ ∧ ∀ i, i < l.length → Loads Try.prog (fun _ => none) V2 34 b (o + i * 3) (f i)) ∧ ∀ i, i < l.length → RatC V2 (f i) (cf l i) ∧ ∃ m n d, f i = .agg #[m, n, d] ∧ isOne m = true ∧ isOne n = true ∧ isOne d = true := by
      rcases Nat.eq_zero_or_pos l.length with h0 | h0
      · exact ⟨fun _ => undef, .inl h0, fun i hi => by omega⟩
      · obtain ⟨b, o, rfl⟩ := SlAt.addr hv2 h0
        obtain ⟨f, hf⟩ := SlAt.vals hv2
        refine ⟨f, .inr ⟨b, o, rfl, fun i hi => (hf i hi).2.2 _⟩, fun i hi => ⟨?_, (hf i hi).2.1⟩⟩
        have := (hf i hi).1
        rw [cf_get hi] at this
        exact this
    refine XWP.block (XWP.range hΓ (L := bwL l.length f) (I := fun r H' V' => V2.le V' ∧ H' b3 = some ⟨e3, [.bool (ng x), ux, uy], 3⟩ ∧ H' b4 = some ⟨e4, [.bool false, .slice none 0 0, .slice none 0 0], 3⟩ ∧ ∃ m a b, H' b5 = some ⟨e5, [m, a, b], 3⟩ ∧ RatC V' (.agg #[m, a, b]) (hor l x r) ∧ isOne m = true ∧ isOne a = true ∧ isOne b = true) (Ix := fun _ _ => False) rfl (by kernel_rfl) (fun args ha => ?_) (backward_it hBs (by omega) hf) ?_ (fun r H' V' h => h.1) (fun _ _ h => h.elim) ?_ ?_ (fun _ _ h => h.elim))
    · obtain ⟨r, _, rfl⟩ := List.mem_map.1 ha
      rfl
    · refine ⟨View.le_refl _, upd_at _ _ _, ?_, _, _, _, ?_, h12, rfl, o3, o4⟩
      · rw [upd_off (Ne.symm n34), upd_at]
      · rw [upd_off (Ne.symm n35), upd_off (Ne.symm n45), upd_at]
    · rintro Γ' r args H' V' hL ⟨hV', i3, i4, m, a, b, i5, hx5, q1, q2, q3⟩
      have hr : r < l.length := by
        have := (List.getElem?_eq_some_iff.1 hL).1
        rwa [bwL_len] at this
      rw [bwL_get hr] at hL
      cases hL
      obtain ⟨hfi, m6, n6, d6, e6, p1, p2, p3⟩ := hfv (l.length - 1 - r) (by omega)
      rw [e6] at hfi ⊢
      simp only [XA, XB, gateX, Nat.reduceAdd, Nat.reduceLeDiff, Nat.reduceSub, Nat.reduceMul, ↓reduceIte, Int.reduceToNat, Int.reduceLE, beq_self_eq_true, setPs]
      first | refine Gx.a (by kernel_rfl) fun K hK => ?_ | refine Gx.b (by kernel_rfl) fun K hK => ?_ | refine Gx.c (by kernel_rfl) fun K hK => ?_
      simp only [XA, XB, gateX, Nat.reduceAdd, Nat.reduceLeDiff, Nat.reduceSub, Nat.reduceMul, ↓reduceIte, Int.reduceToNat, Int.reduceLE, beq_self_eq_true]
      refine st_rat rfl rfl p1 p2 p3 ?_
      simp only [XA, XB, gateX, Nat.reduceAdd, Nat.reduceLeDiff, Nat.reduceSub, Nat.reduceMul, ↓reduceIte, Int.reduceToNat, Int.reduceLE, beq_self_eq_true]
      refine hK _ ?_
      intro Γ''
      first | refine XWP.block ?_ | refine XWP.seq (XWP.block ?_)
      (first | refine XWP.drw [0, 1, 3, 2, 4, 5] (by kernel_rfl) (by kernel_rfl) (by kernel_rfl) fun K hK => ?_ | refine XWP.seq (XWP.drw [0, 1, 3, 2, 4, 5] (by kernel_rfl) (by kernel_rfl) (by kernel_rfl) fun K hK => ?_) | refine XWP.drw1 [0, 1, 3, 2, 4, 5] (by kernel_rfl) (by kernel_rfl) (by kernel_rfl) fun K hK => ?_) <;> dsimp only [pickOps, List.getElem?_cons_zero, List.getElem?_cons_succ]
      simp only [XA, XB, gateX, Nat.reduceAdd, Nat.reduceLeDiff, Nat.reduceSub, Nat.reduceMul, ↓reduceIte, Int.reduceToNat, Int.reduceLE, beq_self_eq_true]
      refine ld_mem (loads_row i5) ?_
      simp only [XA, XB, gateX, Nat.reduceAdd, Nat.reduceLeDiff, Nat.reduceSub, Nat.reduceMul, ↓reduceIte, Int.reduceToNat, Int.reduceLE, beq_self_eq_true]
      refine ld_mem (loads_row i3) ?_
      simp only [XA, XB, gateX, Nat.reduceAdd, Nat.reduceLeDiff, Nat.reduceSub, Nat.reduceMul, ↓reduceIte, Int.reduceToNat, Int.reduceLE, beq_self_eq_true]
      refine call_go (by kernel_rfl) rfl (qmul_c _ _ _ _ _ hx5 (hu2.mono hV') ((hqr r (by omega)).qf (by omega)) (hB.qf (by omega))) fun v7 V7 hV7 h7 => ?_
      simp only [XA, XB, gateX, Nat.reduceAdd, Nat.reduceLeDiff, Nat.reduceSub, Nat.reduceMul, ↓reduceIte, Int.reduceToNat, Int.reduceLE, beq_self_eq_true]
      refine call_go (by kernel_rfl) rfl (qadd_c _ _ _ _ _ h7 ((hfi.mono hV').mono hV7) (((hqr r (by omega)).mul hB).qf (by omega)) ((hA.at _).qf (by omega))) fun v8 V8 hV8 h8 => ?_
      obtain ⟨x8, y8, rfl, o5, o6⟩ := h8.form
      simp only [XA, XB, gateX, Nat.reduceAdd, Nat.reduceLeDiff, Nat.reduceSub, Nat.reduceMul, ↓reduceIte, Int.reduceToNat, Int.reduceLE, beq_self_eq_true]
      refine st_rowA shapeT_34 (all3 rfl o5 o6) rfl i5 (by simp) ?_
      simp only [XA, XB, gateX, Nat.reduceAdd, Nat.reduceLeDiff, Nat.reduceSub, Nat.reduceMul, ↓reduceIte, Int.reduceToNat, Int.reduceLE, beq_self_eq_true, splice3]
      exact hK _ ⟨View.le_trans hV' (View.le_trans hV7 hV8), (upd_off n35).trans i3, (upd_off n45).trans i4, _, _, _, upd_at _ _ _, h8, rfl, o5, o6⟩
    · rintro H' V' ⟨hV', i3, i4, m, a, b, i5, hx5, q1, q2, q3⟩
      rw [bwL_len] at hx5
      exact ⟨V', H', b4, b5, e4, e5, m, a, b, StIs.of (by exact rfl), i4, i5, hx5, q1, q2, q3⟩
  rintro s ⟨V5, H5, b4, b5, e4, e5, m, a, b, hs, i4, i5, hx5, q1, q2, q3⟩
  obtain ⟨z, rfl⟩ := hs.out
  try dsimp only
  clear hs
  first | refine Gx.a (by kernel_rfl) fun K hK => ?_ | refine Gx.b (by kernel_rfl) fun K hK => ?_ | refine Gx.c (by kernel_rfl) fun K hK => ?_
  simp only [XA, XB, gateX, Nat.reduceAdd, Nat.reduceLeDiff, Nat.reduceSub, Nat.reduceMul, ↓reduceIte, Int.reduceToNat, Int.reduceLE, beq_self_eq_true]
  refine ld_mem (loads_row i5) ?_
  simp only [XA, XB, gateX, Nat.reduceAdd, Nat.reduceLeDiff, Nat.reduceSub, Nat.reduceMul, ↓reduceIte, Int.reduceToNat, Int.reduceLE, beq_self_eq_true]
  refine st_rowA shapeT_34 (all3 q1 q2 q3) rfl i4 (by simp) ?_
  simp only [XA, XB, gateX, Nat.reduceAdd, Nat.reduceLeDiff, Nat.reduceSub, Nat.reduceMul, ↓reduceIte, Int.reduceToNat, Int.reduceLE, beq_self_eq_true, splice3]
  refine hK _ (XWP.ret ?_)
  try simp only [thenX_ret, inBlockX_ret]
  refine ret_go [.agg #[m, a, b]] ?_ hx5
  simp [resAll, resV, cellsV, upd_at, shapeT_34]
end Go.Proofs.Ythoboehbadmlmaa
end
section
namespace Go.Proofs.Ythoboehbadmlmaa
open Go Go.RowKit
set_option linter.unusedSimpArgs false
set_option linter.unusedVariables false
attribute [local irreducible] XWP Spec SpecO XPub XCall seqX clX apX stX ldX iaX slX
def pwr (x : Rat) : Nat → Rat
  | 0 => 1
  | k + 1 => pwr x k * x
def evr (l : List Rat) (x : Rat) : Nat → Rat
  | 0 => 0
  | k + 1 => evr l x k + cf l k * pwr x k
theorem evr_Sm (l : List Rat) (x : Rat) (k : Nat) : evr l x k = Sm (fun j => cf l j * pwr x j) k := by
  induction k with
  | zero => rfl
  | succ k ih => rw [evr, ih]; rfl
theorem hor_evr (l : List Rat) (x : Rat) : hor l x l.length = evr l x l.length := by
  have key : ∀ r, r ≤ l.length → hor l x r = Sm (fun j => cf l (l.length - r + j) * pwr x j) r := by
    intro r
    induction r with
    | zero => intro _; rfl
    | succ r ih =>
      intro hr
      rw [hor, ih (by omega), Sm_front]
      have e1 : Sm (fun j => cf l (l.length - (r + 1) + (j + 1)) * pwr x (j + 1)) r = x * Sm (fun j => cf l (l.length - r + j) * pwr x j) r := by
        rw [← Sm_mul]
        refine Sm_congr _ fun j _ => ?_
        rw [show l.length - (r + 1) + (j + 1) = l.length - r + j by omega, pwr]; grind
      rw [e1, Nat.add_zero, show l.length - (r + 1) = l.length - 1 - r by omega, pwr]; grind
  rw [key _ (Nat.le_refl _), evr_Sm, Nat.sub_self]
  exact Sm_congr _ fun j _ => by rw [Nat.zero_add]
theorem pwr_QB {x : Rat} {B : Nat} (hx : QB B x) (k : Nat) : QB (k * B) (pwr x k) := by
  induction k with
  | zero => exact QB_one _
  | succ k ih => exact (ih.mul hx).mono (by rw [Nat.add_mul]; omega)
theorem evr_QB {l : List Rat} {x : Rat} {A B n : Nat} (hl : CB A l) (hx : QB B x) (k : Nat) (hk : k ≤ n) : QB (k * (A + n * B + 1)) (evr l x k) := by
  induction k with
  | zero => exact QB_zero _
  | succ k ih =>
    have h1 := Nat.mul_le_mul_right B (show k ≤ n by omega)
    exact ((ih (by omega)).add ((hl.at k).mul (pwr_QB hx k))).mono (by rw [Nat.add_mul]; omega)
theorem deval_c (V : View) (v u : Value) (l : List Rat) (x : Rat) (A B : Nat) (hv : Rats V v l) (hu : RatC V u x) (hA : CB A l) (hB : QB B x) (ll : l.length ≤ 1000) (hfit : (l.length + 2) * (A + (l.length + 1) * B + 1) ≤ 17592186044416) :
    Spec Try.prog 81 [v, u] V fun v' V' => RatC V' v' (evr l x l.length) := by
  obtain ⟨A1, c1, rfl, hc1, hm1⟩ := hv.form
  obtain ⟨ux, uy, rfl, o1, o2⟩ := hu.form
  have hp : ∀ k, k ≤ l.length + 1 → QB ((l.length + 1) * B) (pwr x k) := fun k hk => (pwr_QB hB k).mono (Nat.mul_le_mul_right _ hk)
  have he : ∀ k, k ≤ l.length + 1 → QB ((l.length + 1) * (A + (l.length + 1) * B + 1)) (evr l x k) := fun k hk => (evr_QB hA hB k hk).mono (Nat.mul_le_mul_right _ hk)
  have hf1 : (l.length + 1) * (A + (l.length + 1) * B + 1) + (A + (l.length + 1) * B + 1) ≤ 17592186044416 := by rw [show l.length + 2 = l.length + 1 + 1 by omega, Nat.add_mul (l.length + 1)] at hfit; omega
  have hfB : B ≤ (l.length + 1) * B := Nat.le_mul_of_pos_left B (by omega)
  refine (Spec.enter Try.func81 rfl fun Γ => ?_)
  simp only [Try.ntmps81, List.map_cons, List.map_nil, List.length_cons, List.length_nil, Nat.reduceAdd, Nat.reduceSub, List.replicate_succ, List.replicate_zero, List.cons_append, List.nil_append]
  first | refine Gx.a (by kernel_rfl) fun K hK => ?_ | refine Gx.b (by kernel_rfl) fun K hK => ?_ | refine Gx.c (by kernel_rfl) fun K hK => ?_
  simp only [XA, XB, gateX, Nat.reduceAdd, Nat.reduceLeDiff, Nat.reduceSub, Nat.reduceMul, ↓reduceIte, Int.reduceToNat, Int.reduceLE, beq_self_eq_true]
  refine hK _ ?_
  first | refine Gx.a (by kernel_rfl) fun K hK => ?_ | refine Gx.b (by kernel_rfl) fun K hK => ?_ | refine Gx.c (by kernel_rfl) fun K hK => ?_
  simp only [XA, XB, gateX, Nat.reduceAdd, Nat.reduceLeDiff, Nat.reduceSub, Nat.reduceMul, ↓reduceIte, Int.reduceToNat, Int.reduceLE, beq_self_eq_true]
  refine call_go (by kernel_rfl) rfl (pzero_c _) fun v1 V1 hV1 h1 => ?_
  obtain ⟨zx, zy, rfl, o3, o4⟩ := h1.form
  simp only [XA, XB, gateX, Nat.reduceAdd, Nat.reduceLeDiff, Nat.reduceSub, Nat.reduceMul, ↓reduceIte, Int.reduceToNat, Int.reduceLE, beq_self_eq_true]
  refine call_go (by kernel_rfl) rfl (pone_c _) fun v2 V2 hV2 h2 => ?_
  obtain ⟨wx, wy, rfl, o5, o6⟩ := h2.form
  have h1 := h1.mono hV2
  simp only [XA, XB, gateX, Nat.reduceAdd, Nat.reduceLeDiff, Nat.reduceSub, Nat.reduceMul, ↓reduceIte, Int.reduceToNat, Int.reduceLE, beq_self_eq_true]
  refine st_rat rfl rfl rfl o3 o4 ?_
  simp only [XA, XB, gateX, Nat.reduceAdd, Nat.reduceLeDiff, Nat.reduceSub, Nat.reduceMul, ↓reduceIte, Int.reduceToNat, Int.reduceLE, beq_self_eq_true]
  refine st_rat rfl rfl rfl o5 o6 ?_
  simp only [XA, XB, gateX, Nat.reduceAdd, Nat.reduceLeDiff, Nat.reduceSub, Nat.reduceMul, ↓reduceIte, Int.reduceToNat, Int.reduceLE, beq_self_eq_true]
  refine hK _ ?_
  have hV12 := View.le_trans hV1 hV2
  refine XWP.cutD 4 (fun s => ∃ (V5 : View) (m a b m' a' b' : Value), StIs (fun Z => [Z 0,Z 1,Z 2, .p 0 0, .p 1 0, .p 2 0, .p 3 0, Z 7,Z 8,Z 9,Z 10,Z 11,Z 12,Z 13,Z 14,Z 15,Z 16,Z 17,Z 18,Z 19,Z 20,Z 21,Z 22,Z 23,Z 24,Z 25,Z 26]) [[.bool (ng x), ux, uy], [.bool false, .slice none 0 0, .slice none 0 0], [m, a, b], [m', a', b']] (fun _ => none) V5 s ∧ RatC V5 (.agg #[m, a, b]) (evr l x l.length) ∧ isOne m = true ∧ isOne a = true ∧ isOne b = true) ?_ ?_
  · first | refine Gx.a (by kernel_rfl) fun K hK => ?_ | refine Gx.b (by kernel_rfl) fun K hK => ?_ | refine Gx.c (by kernel_rfl) fun K hK => ?_
    simp only [XA, XB, gateX, Nat.reduceAdd, Nat.reduceLeDiff, Nat.reduceSub, Nat.reduceMul, ↓reduceIte, Int.reduceToNat, Int.reduceLE, beq_self_eq_true]
    refine hK _ ?_
    clear hK
    first | refine XWP.block ?_ | refine XWP.seq (XWP.block ?_)
    refine XWP.loopD 4 (fun d s => ∃ (k : Nat) (V5 : View) (m a b m' a' b' : Value), StIs (fun Z => [Z 0,Z 1,Z 2, .p 0 0, .p 1 0, .p 2 0, .p 3 0, Z 7,Z 8,Z 9,Z 10, .v (.slice A1 l.length c1), .v (.int .i64 (l.length : Int)), .v (.int .i64 (k : Int)), Z 14,Z 15,Z 16,Z 17,Z 18,Z 19,Z 20,Z 21,Z 22,Z 23,Z 24,Z 25,Z 26]) [[.bool (ng x), ux, uy], [.bool false, .slice none 0 0, .slice none 0 0], [m, a, b], [m', a', b']] (fun _ => none) V5 s ∧ V2.le V5 ∧ d + k = l.length ∧ RatC V5 (.agg #[m, a, b]) (evr l x k) ∧ RatC V5 (.agg #[m', a', b']) (pwr x k) ∧ isOne m = true ∧ isOne a = true ∧ isOne b = true ∧ isOne m' = true ∧ isOne a' = true ∧ isOne b' = true) l.length ⟨0, V2, _, _, _, _, _, _, StIs.of (by exact rfl), View.le_refl _, by omega, h1, h2, rfl, o3, o4, rfl, o5, o6⟩ ?_
    rintro d s ⟨k, V5, m, a, b, m', a', b', hs, hV5, hd, h5, h6, q1, q2, q3, q4, q5, q6⟩
    obtain ⟨z, rfl⟩ := hs.out
    try dsimp only
    clear hs
    by_cases hk : k < l.length
    rotate_left
    · obtain rfl : k = l.length := by omega
      have b1 : decide ((l.length : Int) < (l.length : Int)) = false := decide_eq_false (by omega)
      first | refine Gx.a (by kernel_rfl) fun K hK => ?_ | refine Gx.b (by kernel_rfl) fun K hK => ?_ | refine Gx.c (by kernel_rfl) fun K hK => ?_
      simp only [XA, XB, gateX, Nat.reduceAdd, Nat.reduceLeDiff, Nat.reduceSub, Nat.reduceMul, ↓reduceIte, Int.reduceToNat, Int.reduceLE, beq_self_eq_true, b1]
      refine hK _ ?_
      first | refine Gx.f rfl ?_ | refine XWP.seq (Gx.f rfl ?_)
      refine XWP.exit ?_
      exact fun f => ⟨V5, m, a, b, m', a', b', StIs.of (by exact rfl), h5, q1, q2, q3⟩
    have b1 : decide ((k : Int) < (l.length : Int)) = true := decide_eq_true (by omega)
    first | refine Gx.a (by kernel_rfl) fun K hK => ?_ | refine Gx.b (by kernel_rfl) fun K hK => ?_ | refine Gx.c (by kernel_rfl) fun K hK => ?_
    simp only [XA, XB, gateX, Nat.reduceAdd, Nat.reduceLeDiff, Nat.reduceSub, Nat.reduceMul, ↓reduceIte, Int.reduceToNat, Int.reduceLE, beq_self_eq_true, b1]
    refine hK _ ?_
    first | refine Gx.t rfl ?_ | refine XWP.seq (Gx.t rfl ?_)
    refine XWP.skip ?_
    refine XWP.seq ?_
    first | refine XWP.block ?_ | refine XWP.seq (XWP.block ?_)
    have hv5 := hv.up (View.le_trans hV12 hV5)
    have hu5 := hu.mono (View.le_trans hV12 hV5)
    obtain ⟨b0, o0, rfl⟩ := SlAt.addr hv5 (by omega)
    obtain ⟨m3, n3, d3, hx3, ⟨p1, p2, p3⟩, hld3⟩ := Rats.get hv5 k (by omega)
    first | refine Gx.a (by kernel_rfl) fun K hK => ?_ | refine Gx.b (by kernel_rfl) fun K hK => ?_ | refine Gx.c (by kernel_rfl) fun K hK => ?_
    simp only [XA, XB, gateX, Nat.reduceAdd, Nat.reduceLeDiff, Nat.reduceSub, Nat.reduceMul, ↓reduceIte, Int.reduceToNat, Int.reduceLE, beq_self_eq_true]
    refine ⟨by omega, by omega, ld_mem (hld3 _) ?_⟩
    simp only [XA, XB, gateX, Nat.reduceAdd, Nat.reduceLeDiff, Nat.reduceSub, Nat.reduceMul, ↓reduceIte, Int.reduceToNat, Int.reduceLE, beq_self_eq_true]
    refine st_rat rfl rfl p1 p2 p3 ?_
    simp only [XA, XB, gateX, Nat.reduceAdd, Nat.reduceLeDiff, Nat.reduceSub, Nat.reduceMul, ↓reduceIte, Int.reduceToNat, Int.reduceLE, beq_self_eq_true]
    refine hK _ ?_
    have qc := hA.at k
    have qp := hp k (by omega)
    have qe := he k (by omega)
    have qm : QB (A + (l.length + 1) * B) (cf l k * pwr x k) := qc.mul qp
    (first | refine XWP.drw [0, 1, 2, 3, 4, 5] (by kernel_rfl) (by kernel_rfl) (by kernel_rfl) fun K hK => ?_ | refine XWP.seq (XWP.drw [0, 1, 2, 3, 4, 5] (by kernel_rfl) (by kernel_rfl) (by kernel_rfl) fun K hK => ?_) | refine XWP.drw1 [0, 1, 2, 3, 4, 5] (by kernel_rfl) (by kernel_rfl) (by kernel_rfl) fun K hK => ?_) <;> dsimp only [pickOps, List.getElem?_cons_zero, List.getElem?_cons_succ]
    simp only [XA, XB, gateX, Nat.reduceAdd, Nat.reduceLeDiff, Nat.reduceSub, Nat.reduceMul, ↓reduceIte, Int.reduceToNat, Int.reduceLE, beq_self_eq_true]
    refine call_go (by kernel_rfl) rfl (pmul_c _ _ _ _ _ (hx3.toV (qc.qf (by omega))) (h6.toV (qp.qf (by omega))) (qc.qf (by omega)) (qp.qf (by omega))) fun v7 V7 hV7 h7 => ?_
    simp only [XA, XB, gateX, Nat.reduceAdd, Nat.reduceLeDiff, Nat.reduceSub, Nat.reduceMul, ↓reduceIte, Int.reduceToNat, Int.reduceLE, beq_self_eq_true]
    refine call_go (by kernel_rfl) rfl (padd_c _ _ _ _ _ ((h5.mono hV7).toV (qe.qf (by omega))) (h7.toV (qm.qf (by omega))) (qe.qf (by omega)) (qm.qf (by omega))) fun v8 V8 hV8 h8 => ?_
    obtain ⟨x8, y8, rfl, o7, o8⟩ := h8.form
    simp only [XA, XB, gateX, Nat.reduceAdd, Nat.reduceLeDiff, Nat.reduceSub, Nat.reduceMul, ↓reduceIte, Int.reduceToNat, Int.reduceLE, beq_self_eq_true]
    refine st_rat rfl rfl rfl o7 o8 ?_
    simp only [XA, XB, gateX, Nat.reduceAdd, Nat.reduceLeDiff, Nat.reduceSub, Nat.reduceMul, ↓reduceIte, Int.reduceToNat, Int.reduceLE, beq_self_eq_true]
    refine hK _ ?_
    have h6 := (h6.mono hV7).mono hV8
    have hu8 := (hu5.mono hV7).mono hV8
    first | refine Gx.a (by kernel_rfl) fun K hK => ?_ | refine Gx.b (by kernel_rfl) fun K hK => ?_ | refine Gx.c (by kernel_rfl) fun K hK => ?_
    simp only [XA, XB, gateX, Nat.reduceAdd, Nat.reduceLeDiff, Nat.reduceSub, Nat.reduceMul, ↓reduceIte, Int.reduceToNat, Int.reduceLE, beq_self_eq_true]
    refine call_go (by kernel_rfl) rfl (pmul_c _ _ _ _ _ (h6.toV (qp.qf (by omega))) (hu8.toV (hB.qf (by omega))) (qp.qf (by omega)) (hB.qf (by omega))) fun v9 V9 hV9 h9 => ?_
    obtain ⟨x9, y9, rfl, o9, o10⟩ := h9.form
    simp only [XA, XB, gateX, Nat.reduceAdd, Nat.reduceLeDiff, Nat.reduceSub, Nat.reduceMul, ↓reduceIte, Int.reduceToNat, Int.reduceLE, beq_self_eq_true]
    refine st_rat rfl rfl rfl o9 o10 ?_
    simp only [XA, XB, gateX, Nat.reduceAdd, Nat.reduceLeDiff, Nat.reduceSub, Nat.reduceMul, ↓reduceIte, Int.reduceToNat, Int.reduceLE, beq_self_eq_true]
    refine hK _ ?_
    first | refine Gx.a (by kernel_rfl) fun K hK => ?_ | refine Gx.b (by kernel_rfl) fun K hK => ?_ | refine Gx.c (by kernel_rfl) fun K hK => ?_
    simp only [XA, XB, gateX, Nat.reduceAdd, Nat.reduceLeDiff, Nat.reduceSub, Nat.reduceMul, ↓reduceIte, Int.reduceToNat, Int.reduceLE, beq_self_eq_true, i64_succ k (by omega)]
    exact hK _ ⟨d - 1, by omega, fun f => ⟨k + 1, V9, _, _, _, _, _, _, StIs.of (by exact rfl), View.le_trans hV5 (View.le_trans hV7 (View.le_trans hV8 hV9)), by omega, h8.mono hV9, h9, rfl, o7, o8, rfl, o9, o10⟩⟩
  rintro s ⟨V5, m, a, b, m', a', b', hs, h5, q1, q2, q3⟩
  obtain ⟨z, rfl⟩ := hs.out
  try dsimp only
  clear hs
  first | refine Gx.a (by kernel_rfl) fun K hK => ?_ | refine Gx.b (by kernel_rfl) fun K hK => ?_ | refine Gx.c (by kernel_rfl) fun K hK => ?_
  simp only [XA, XB, gateX, Nat.reduceAdd, Nat.reduceLeDiff, Nat.reduceSub, Nat.reduceMul, ↓reduceIte, Int.reduceToNat, Int.reduceLE, beq_self_eq_true]
  refine st_rat rfl rfl q1 q2 q3 ?_
  simp only [XA, XB, gateX, Nat.reduceAdd, Nat.reduceLeDiff, Nat.reduceSub, Nat.reduceMul, ↓reduceIte, Int.reduceToNat, Int.reduceLE, beq_self_eq_true]
  refine hK _ (XWP.ret ?_)
  try simp only [thenX_ret, inBlockX_ret]
  exact ret_rat1 rfl rfl rfl h5
end Go.Proofs.Ythoboehbadmlmaa
end
section
namespace Go.Proofs.Ythoboehbadmlmaa
open Go Go.RowKit
set_option linter.unusedSimpArgs false
set_option linter.unusedVariables false
attribute [local irreducible] XWP Spec SpecO XPub XCall seqX clX apX stX ldX iaX slX
section
variable {V : View} {v u : Value} {P Q : List Raw} (hv : Raws V v P) (hu : Raws V u Q) (fP : fewR P) (fQ : fewR Q) (lP : P.length ≤ 9) (lQ : Q.length ≤ 9)
include hv hu fP fQ lP lQ
end
theorem RatV.ones {V : View} {v : Value} {q : Rat} (h : RatV V v q) : ∃ m n d, v = .agg #[.bool m, n, d] ∧ isOne n = true ∧ isOne d = true := by
  obtain ⟨m, a, b, ⟨n, d, e, h1, h2⟩, _⟩ := h
  exact ⟨m, n, d, e, h1.one, h2.one⟩
end Go.Proofs.Ythoboehbadmlmaa
end
section
namespace Go.Proofs.Ythoboehbadmlmaa
open Go Go.RowKit
set_option linter.unusedSimpArgs false
set_option linter.unusedVariables false
attribute [local irreducible] XWP Spec SpecO XPub XCall seqX clX apX stX ldX iaX slX
def sumG (P Q : List Raw) : List Rat := comRP (qs P) (qs Q)
def sumA (P Q : List Raw) : List Rat := (partP (qs P) (sumG P Q)).1
def sumB (P Q : List Raw) : List Rat := (partP (qs Q) (sumG P Q)).1
def ev1 (l : List Rat) : Rat := evr l 1 l.length
def sumE (P Q : List Raw) : Int := if bad2 P Q = true then 1 else if Q.length = 0 then 31 else if ev1 (sumB P Q) = 0 then 31 else 0
def sumQ (P Q : List Raw) : Rat := if sumE P Q = 0 then ev1 (sumA P Q) / ev1 (sumB P Q) else 0
theorem sumQ_err {P Q : List Raw} (h : sumE P Q ≠ 0) : sumQ P Q = 0 := if_neg h
theorem comFit5 {a b M : Nat} (ha : a ≤ 5) (hb : b ≤ 5) (hM : M ≤ 480) : gb M b (max a b + b) ≤ 1539200000 := by
  have h1 : gb M b (max a b + b) ≤ gb M 5 10 := gb_mono hb (by omega)
  have h2 : gb M 5 10 ≤ gb 480 5 10 := Nat.mul_le_mul_left _ (Nat.mul_le_mul_left _ (by omega))
  exact Nat.le_trans h1 (Nat.le_trans h2 (by decide))
/-- what the two divisions need and bear -/
theorem sum_parts {p g : List Rat} (hp : PolQ p) (lp : p.length ≤ 5) (hA : CB 480 p) (hG : CB 1539200000 g) (h0 : 0 < g.length) (h1 : cf g (g.length - 1) ≠ 0) :
    2 ^ (p.length - g.length + 1) * (480 + 2 * 1539200000 + 2) ≤ 17592186044416 ∧ (divP p g).1 = (partP p g).1 ∧ CB 98508815424 (partP p g).1 ∧ (partP p g).1.length ≤ 5 ∧ QB 492544077125 (ev1 (partP p g).1) := by
  have e := partP_len (p := p) h0 h1
  have c := (partP_CB h0 h1 hA hG hp (k := 5) (by omega)).1
  have c : CB 98508815424 (partP p g).1 := c
  refine ⟨?_, by rw [div_part h0 h1], c, by omega, ?_⟩
  · exact Nat.le_trans (Nat.mul_le_mul_right _ (two_mono (show p.length - g.length + 1 ≤ 5 by omega))) (by decide)
  · have := evr_QB (n := (partP p g).1.length) c (QB_one 0) _ (Nat.le_refl _)
    have h2 : (partP p g).1.length * (98508815424 + (partP p g).1.length * 0 + 1) ≤ 5 * (98508815424 + 0 + 1) := Nat.mul_le_mul (by omega) (by omega)
    exact this.mono (Nat.le_trans h2 (by decide))
theorem ev_fit {l : List Rat} (h : l.length ≤ 5) : (l.length + 1) * (98508815424 + 0 + 1) ≤ 17592186044416 ∧ (l.length + 2) * (98508815424 + (l.length + 1) * 0 + 1) ≤ 17592186044416 :=
  ⟨Nat.le_trans (Nat.mul_le_mul_right _ (show l.length + 1 ≤ 6 by omega)) (by decide), Nat.le_trans (Nat.mul_le_mul (show l.length + 2 ≤ 7 by omega) (show 98508815424 + (l.length + 1) * 0 + 1 ≤ 98508815425 by omega)) (by decide)⟩
section
variable {V : View} {v u : Value} {P Q : List Raw} (hv : Raws V v P) (hu : Raws V u Q) (fP : fewR P) (fQ : fewR Q) (lP : P.length ≤ 5) (lQ : Q.length ≤ 5)
include hv hu fP fQ lP lQ
theorem csum_c : Spec Try.prog 44 [v, u] V fun v' V' => (∃ w, v' = .tuple #[w, .int .i64 (sumE P Q)] ∧ RatV V' w (sumQ P Q)) ∧ (bad2 P Q = false → Q.length ≠ 0 → CB 1539200000 (sumG P Q)) := by
  have aP : CB 480 (qs P) := fewR_CBn fP (Raws.dig hv) lP 480 rfl
  have aQ : CB 480 (qs Q) := fewR_CBn fQ (Raws.dig hu) lQ 480 rfl
  obtain ⟨A1, c1, rfl, hc1, hm1⟩ := hv.form
  obtain ⟨A2, c2, rfl, hc2, hm2⟩ := hu.form
  refine (Spec.enter Try.func44 rfl fun Γ => ?_)
  simp only [Try.ntmps44, List.map_cons, List.map_nil, List.length_cons, List.length_nil, Nat.reduceAdd, Nat.reduceSub, List.replicate_succ, List.replicate_zero, List.cons_append, List.nil_append]
  first | refine Gx.a (by kernel_rfl) fun K hK => ?_ | refine Gx.b (by kernel_rfl) fun K hK => ?_ | refine Gx.c (by kernel_rfl) fun K hK => ?_
  simp only [XA, XB, gateX, Nat.reduceAdd, Nat.reduceLeDiff, Nat.reduceSub, Nat.reduceMul, ↓reduceIte, Int.reduceToNat, Int.reduceLE, beq_self_eq_true]
  refine hK _ ?_
  refine XWP.seq ?_
  first | refine Gx.a (by kernel_rfl) fun K hK => ?_ | refine Gx.b (by kernel_rfl) fun K hK => ?_ | refine Gx.c (by kernel_rfl) fun K hK => ?_
  simp only [XA, XB, gateX, Nat.reduceAdd, Nat.reduceLeDiff, Nat.reduceSub, Nat.reduceMul, ↓reduceIte, Int.reduceToNat, Int.reduceLE, beq_self_eq_true]
  refine call_go (by kernel_rfl) rfl (cright_c _ _ _ hv fP.fit (by omega)) fun v1 V1 hV1 h1 => ?_
  subst h1
  by_cases hk : rightP P = true ∧ rightP Q = true
  rotate_left
  · have hbd : bad2 P Q = true := by
      unfold bad2
      cases e1 : rightP P
      · rfl
      · cases e2 : rightP Q
        · rfl
        · exact absurd ⟨e1, e2⟩ hk
    have eE : sumE P Q = 1 := if_pos hbd
    have eQ : sumQ P Q = 0 := sumQ_err (by rw [eE]; decide)
    have eN : bad2 P Q = false → Q.length ≠ 0 → CB 1539200000 (sumG P Q) := fun h => by rw [hbd] at h; cases h
    cases e1 : rightP P
    · simp only [XA, XB, gateX, Nat.reduceAdd, Nat.reduceLeDiff, Nat.reduceSub, Nat.reduceMul, ↓reduceIte, Int.reduceToNat, Int.reduceLE, beq_self_eq_true]
      refine hK _ ?_
      first | refine Gx.t rfl ?_ | refine XWP.seq (Gx.t rfl ?_)
      first | refine Gx.a (by kernel_rfl) fun K hK => ?_ | refine Gx.b (by kernel_rfl) fun K hK => ?_ | refine Gx.c (by kernel_rfl) fun K hK => ?_
      simp only [XA, XB, gateX, Nat.reduceAdd, Nat.reduceLeDiff, Nat.reduceSub, Nat.reduceMul, ↓reduceIte, Int.reduceToNat, Int.reduceLE, beq_self_eq_true]
      refine bd_go (by kernel_rfl) #[] (by simp) bd_rat0 ?_
      simp only [XA, XB, gateX, Nat.reduceAdd, Nat.reduceLeDiff, Nat.reduceSub, Nat.reduceMul, ↓reduceIte, Int.reduceToNat, Int.reduceLE, beq_self_eq_true]
      refine st_rat rfl rfl rfl rfl rfl ?_
      simp only [XA, XB, gateX, Nat.reduceAdd, Nat.reduceLeDiff, Nat.reduceSub, Nat.reduceMul, ↓reduceIte, Int.reduceToNat, Int.reduceLE, beq_self_eq_true]
      refine hK _ (XWP.ret ?_)
      try simp only [thenX_ret, inBlockX_ret]
      exact ret_rat2 rfl rfl rfl rfl ⟨⟨_, by rw [eE], by rw [eQ]; exact RatV.zero _⟩, eN⟩
    · have e2 : rightP Q = false := by
        cases h : rightP Q
        · rfl
        · exact absurd ⟨e1, h⟩ hk
      simp only [XA, XB, gateX, Nat.reduceAdd, Nat.reduceLeDiff, Nat.reduceSub, Nat.reduceMul, ↓reduceIte, Int.reduceToNat, Int.reduceLE, beq_self_eq_true]
      refine call_go (by kernel_rfl) rfl (cright_c _ _ _ (hu.up hV1) fQ.fit (by omega)) fun v2 V2 hV2 h2 => ?_
      subst h2
      rw [e2]
      simp only [XA, XB, gateX, Nat.reduceAdd, Nat.reduceLeDiff, Nat.reduceSub, Nat.reduceMul, ↓reduceIte, Int.reduceToNat, Int.reduceLE, beq_self_eq_true]
      refine hK _ ?_
      first | refine Gx.t rfl ?_ | refine XWP.seq (Gx.t rfl ?_)
      first | refine Gx.a (by kernel_rfl) fun K hK => ?_ | refine Gx.b (by kernel_rfl) fun K hK => ?_ | refine Gx.c (by kernel_rfl) fun K hK => ?_
      simp only [XA, XB, gateX, Nat.reduceAdd, Nat.reduceLeDiff, Nat.reduceSub, Nat.reduceMul, ↓reduceIte, Int.reduceToNat, Int.reduceLE, beq_self_eq_true]
      refine bd_go (by kernel_rfl) #[] (by simp) bd_rat0 ?_
      simp only [XA, XB, gateX, Nat.reduceAdd, Nat.reduceLeDiff, Nat.reduceSub, Nat.reduceMul, ↓reduceIte, Int.reduceToNat, Int.reduceLE, beq_self_eq_true]
      refine st_rat rfl rfl rfl rfl rfl ?_
      simp only [XA, XB, gateX, Nat.reduceAdd, Nat.reduceLeDiff, Nat.reduceSub, Nat.reduceMul, ↓reduceIte, Int.reduceToNat, Int.reduceLE, beq_self_eq_true]
      refine hK _ (XWP.ret ?_)
      try simp only [thenX_ret, inBlockX_ret]
      exact ret_rat2 rfl rfl rfl rfl ⟨⟨_, by rw [eE], by rw [eQ]; exact RatV.zero _⟩, eN⟩
  obtain ⟨e1, e2⟩ := hk
  have hbd : bad2 P Q = false := by unfold bad2; rw [e1, e2]; rfl
  rw [e1]
  simp only [XA, XB, gateX, Nat.reduceAdd, Nat.reduceLeDiff, Nat.reduceSub, Nat.reduceMul, ↓reduceIte, Int.reduceToNat, Int.reduceLE, beq_self_eq_true]
  refine call_go (by kernel_rfl) rfl (cright_c _ _ _ (hu.up hV1) fQ.fit (by omega)) fun v2 V2 hV2 h2 => ?_
  subst h2
  rw [e2]
  simp only [XA, XB, gateX, Nat.reduceAdd, Nat.reduceLeDiff, Nat.reduceSub, Nat.reduceMul, ↓reduceIte, Int.reduceToNat, Int.reduceLE, beq_self_eq_true]
  refine hK _ ?_
  first | refine Gx.f rfl ?_ | refine XWP.seq (Gx.f rfl ?_)
  refine XWP.skip ?_
  have hV12 := View.le_trans hV1 hV2
  refine XWP.seq ?_
  by_cases h0 : Q.length = 0
  · have eE : sumE P Q = 31 := by unfold sumE; rw [if_neg (by rw [hbd]; decide), if_pos h0]
    have eQ : sumQ P Q = 0 := sumQ_err (by rw [eE]; decide)
    have b1 : decide ((Q.length : Int) = 0) = true := decide_eq_true (by omega)
    first | refine Gx.a (by kernel_rfl) fun K hK => ?_ | refine Gx.b (by kernel_rfl) fun K hK => ?_ | refine Gx.c (by kernel_rfl) fun K hK => ?_
    simp only [XA, XB, gateX, Nat.reduceAdd, Nat.reduceLeDiff, Nat.reduceSub, Nat.reduceMul, ↓reduceIte, Int.reduceToNat, Int.reduceLE, beq_self_eq_true, b1]
    refine hK _ ?_
    first | refine Gx.t rfl ?_ | refine XWP.seq (Gx.t rfl ?_)
    first | refine Gx.a (by kernel_rfl) fun K hK => ?_ | refine Gx.b (by kernel_rfl) fun K hK => ?_ | refine Gx.c (by kernel_rfl) fun K hK => ?_
    simp only [XA, XB, gateX, Nat.reduceAdd, Nat.reduceLeDiff, Nat.reduceSub, Nat.reduceMul, ↓reduceIte, Int.reduceToNat, Int.reduceLE, beq_self_eq_true]
    refine bd_go (by kernel_rfl) #[] (by simp) bd_rat0 ?_
    simp only [XA, XB, gateX, Nat.reduceAdd, Nat.reduceLeDiff, Nat.reduceSub, Nat.reduceMul, ↓reduceIte, Int.reduceToNat, Int.reduceLE, beq_self_eq_true]
    refine st_rat rfl rfl rfl rfl rfl ?_
    simp only [XA, XB, gateX, Nat.reduceAdd, Nat.reduceLeDiff, Nat.reduceSub, Nat.reduceMul, ↓reduceIte, Int.reduceToNat, Int.reduceLE, beq_self_eq_true]
    refine hK _ (XWP.ret ?_)
    try simp only [thenX_ret, inBlockX_ret]
    exact ret_rat2 rfl rfl rfl rfl ⟨⟨_, by rw [eE], by rw [eQ]; exact RatV.zero _⟩, fun _ h => absurd h0 h⟩
  have b1 : decide ((Q.length : Int) = 0) = false := decide_eq_false (by omega)
  first | refine Gx.a (by kernel_rfl) fun K hK => ?_ | refine Gx.b (by kernel_rfl) fun K hK => ?_ | refine Gx.c (by kernel_rfl) fun K hK => ?_
  simp only [XA, XB, gateX, Nat.reduceAdd, Nat.reduceLeDiff, Nat.reduceSub, Nat.reduceMul, ↓reduceIte, Int.reduceToNat, Int.reduceLE, beq_self_eq_true, b1]
  refine hK _ ?_
  first | refine Gx.f rfl ?_ | refine XWP.seq (Gx.f rfl ?_)
  refine XWP.skip ?_
  have hP := (Raws.rats hv (rightP_parts e1).1).up hV12
  have hQ := (Raws.rats hu (rightP_parts e2).1).up hV12
  have pP := (rightP_parts e1).2.1
  have pQ := (rightP_parts e2).2.1
  have el := qs_len P
  have er := qs_len Q
  obtain ⟨_, _, pG, lG, kG⟩ := comRP_dv pP pQ (by omega)
  have kG' : cf (comRP (qs P) (qs Q)) ((comRP (qs P) (qs Q)).length - 1) ≠ 0 := by rw [kG]; decide
  have hgb := comFit5 lP lQ (Nat.le_refl 480)
  have hlg := comRP_len (qs P) pQ
  first | refine Gx.a (by kernel_rfl) fun K hK => ?_ | refine Gx.b (by kernel_rfl) fun K hK => ?_ | refine Gx.c (by kernel_rfl) fun K hK => ?_
  simp only [XA, XB, gateX, Nat.reduceAdd, Nat.reduceLeDiff, Nat.reduceSub, Nat.reduceMul, ↓reduceIte, Int.reduceToNat, Int.reduceLE, beq_self_eq_true]
  refine call_go (by kernel_rfl) rfl (cCommon_c _ _ _ P Q (hv.up hV12) (hu.up hV12) fP.fit fQ.fit (by omega) (by omega) 480 (fun _ => ⟨aP, aQ⟩) (Nat.le_trans hgb (by decide)) (by decide)) fun v3 V3 hV3 h3 => ?_
  obtain ⟨w3, rfl, h3, g3⟩ := h3.2.2 hbd (by omega)
  rw [comP_same pQ] at h3 g3
  have g3 := g3.mono hgb
  simp only [XA, XB, gateX, Nat.reduceAdd, Nat.reduceLeDiff, Nat.reduceSub, Nat.reduceMul, ↓reduceIte, Int.reduceToNat, Int.reduceLE, beq_self_eq_true]
  refine hK _ ?_
  obtain ⟨f1, f2, f3, f4, f5⟩ := sum_parts pP (by omega) aP g3 lG kG'
  obtain ⟨g1, g2, g4, g5, g6⟩ := sum_parts pQ (by omega) aQ g3 lG kG'
  first | refine Gx.a (by kernel_rfl) fun K hK => ?_ | refine Gx.b (by kernel_rfl) fun K hK => ?_ | refine Gx.c (by kernel_rfl) fun K hK => ?_
  simp only [XA, XB, gateX, Nat.reduceAdd, Nat.reduceLeDiff, Nat.reduceSub, Nat.reduceMul, ↓reduceIte, Int.reduceToNat, Int.reduceLE, beq_self_eq_true]
  refine call_go (by kernel_rfl) rfl (cdiv_c _ _ _ _ _ 480 1539200000 (hP.up hV3) h3 aP g3 lG kG' f1 (by omega) (by omega)) fun v4 V4 hV4 h4 => ?_
  obtain ⟨wa, wa', rfl, h4, _⟩ := h4
  rw [f2] at h4
  simp only [XA, XB, gateX, Nat.reduceAdd, Nat.reduceLeDiff, Nat.reduceSub, Nat.reduceMul, ↓reduceIte, Int.reduceToNat, Int.reduceLE, beq_self_eq_true]
  refine hK _ ?_
  first | refine Gx.a (by kernel_rfl) fun K hK => ?_ | refine Gx.b (by kernel_rfl) fun K hK => ?_ | refine Gx.c (by kernel_rfl) fun K hK => ?_
  simp only [XA, XB, gateX, Nat.reduceAdd, Nat.reduceLeDiff, Nat.reduceSub, Nat.reduceMul, ↓reduceIte, Int.reduceToNat, Int.reduceLE, beq_self_eq_true]
  refine call_go (by kernel_rfl) rfl (cdiv_c _ _ _ _ _ 480 1539200000 ((hQ.up hV3).up hV4) (h3.up hV4) aQ g3 lG kG' g1 (by omega) (by omega)) fun v5 V5 hV5 h5 => ?_
  obtain ⟨wb, wb', rfl, h5, _⟩ := h5
  rw [g2] at h5
  simp only [XA, XB, gateX, Nat.reduceAdd, Nat.reduceLeDiff, Nat.reduceSub, Nat.reduceMul, ↓reduceIte, Int.reduceToNat, Int.reduceLE, beq_self_eq_true]
  refine hK _ ?_
  have eA : (partP (qs P) (comRP (qs P) (qs Q))).1 = sumA P Q := rfl
  have eB : (partP (qs Q) (comRP (qs P) (qs Q))).1 = sumB P Q := rfl
  have eG : CB 1539200000 (sumG P Q) := g3
  rw [eA] at h4 f3 f4 f5
  rw [eB] at h5 g4 g5 g6
  clear h3 g3 kG kG' pG lG eA eB hlg f1 f2 g1 g2
  first | refine Gx.a (by kernel_rfl) fun K hK => ?_ | refine Gx.b (by kernel_rfl) fun K hK => ?_ | refine Gx.c (by kernel_rfl) fun K hK => ?_
  simp only [XA, XB, gateX, Nat.reduceAdd, Nat.reduceLeDiff, Nat.reduceSub, Nat.reduceMul, ↓reduceIte, Int.reduceToNat, Int.reduceLE, beq_self_eq_true]
  refine call_go (by kernel_rfl) rfl (qone_c _) fun v6 V6 hV6 h6 => ?_
  simp only [XA, XB, gateX, Nat.reduceAdd, Nat.reduceLeDiff, Nat.reduceSub, Nat.reduceMul, ↓reduceIte, Int.reduceToNat, Int.reduceLE, beq_self_eq_true]
  refine call_go (by kernel_rfl) rfl (eval_c _ _ _ _ _ 98508815424 0 ((h4.up hV5).up hV6) h6 f3 (QB_one 0) (by omega) (ev_fit f4).1) fun v7 V7 hV7 h7 => ?_
  rw [hor_evr] at h7
  simp only [XA, XB, gateX, Nat.reduceAdd, Nat.reduceLeDiff, Nat.reduceSub, Nat.reduceMul, ↓reduceIte, Int.reduceToNat, Int.reduceLE, beq_self_eq_true]
  refine call_go (by kernel_rfl) rfl (qone_c _) fun v8 V8 hV8 h8 => ?_
  simp only [XA, XB, gateX, Nat.reduceAdd, Nat.reduceLeDiff, Nat.reduceSub, Nat.reduceMul, ↓reduceIte, Int.reduceToNat, Int.reduceLE, beq_self_eq_true]
  refine call_go (by kernel_rfl) rfl (eval_c _ _ _ _ _ 98508815424 0 (((h5.up hV6).up hV7).up hV8) h8 g4 (QB_one 0) (by omega) (ev_fit g5).1) fun v9 V9 hV9 h9 => ?_
  rw [hor_evr] at h9
  simp only [XA, XB, gateX, Nat.reduceAdd, Nat.reduceLeDiff, Nat.reduceSub, Nat.reduceMul, ↓reduceIte, Int.reduceToNat, Int.reduceLE, beq_self_eq_true]
  refine call_go (by kernel_rfl) rfl (qdiv_c _ _ _ _ _ (h7.mono (View.le_trans hV8 hV9)) h9 (f5.qf (by decide)) (g6.qf (by decide))) fun v10 V10 hV10 h10 => ?_
  by_cases hz : ev1 (sumB P Q) = 0
  · have eE : sumE P Q = 31 := by unfold sumE; rw [if_neg (by rw [hbd]; decide), if_neg h0, if_pos hz]
    have eQ : sumQ P Q = 0 := sumQ_err (by rw [eE]; decide)
    rw [h10.1 hz]
    simp only [XA, XB, gateX, Nat.reduceAdd, Nat.reduceLeDiff, Nat.reduceSub, Nat.reduceMul, ↓reduceIte, Int.reduceToNat, Int.reduceLE, beq_self_eq_true]
    refine st_rat rfl rfl rfl rfl rfl ?_
    simp only [XA, XB, gateX, Nat.reduceAdd, Nat.reduceLeDiff, Nat.reduceSub, Nat.reduceMul, ↓reduceIte, Int.reduceToNat, Int.reduceLE, beq_self_eq_true]
    refine hK _ ?_
    refine XWP.seq ?_
    first | refine Gx.a (by kernel_rfl) fun K hK => ?_ | refine Gx.b (by kernel_rfl) fun K hK => ?_ | refine Gx.c (by kernel_rfl) fun K hK => ?_
    simp only [XA, XB, gateX, Nat.reduceAdd, Nat.reduceLeDiff, Nat.reduceSub, Nat.reduceMul, ↓reduceIte, Int.reduceToNat, Int.reduceLE, beq_self_eq_true, decide_false]
    refine hK _ ?_
    first | refine Gx.t rfl ?_ | refine XWP.seq (Gx.t rfl ?_)
    first | refine Gx.a (by kernel_rfl) fun K hK => ?_ | refine Gx.b (by kernel_rfl) fun K hK => ?_ | refine Gx.c (by kernel_rfl) fun K hK => ?_
    simp only [XA, XB, gateX, Nat.reduceAdd, Nat.reduceLeDiff, Nat.reduceSub, Nat.reduceMul, ↓reduceIte, Int.reduceToNat, Int.reduceLE, beq_self_eq_true]
    refine bd_go (by kernel_rfl) #[] (by simp) bd_rat0 ?_
    simp only [XA, XB, gateX, Nat.reduceAdd, Nat.reduceLeDiff, Nat.reduceSub, Nat.reduceMul, ↓reduceIte, Int.reduceToNat, Int.reduceLE, beq_self_eq_true]
    refine st_rat rfl rfl rfl rfl rfl ?_
    simp only [XA, XB, gateX, Nat.reduceAdd, Nat.reduceLeDiff, Nat.reduceSub, Nat.reduceMul, ↓reduceIte, Int.reduceToNat, Int.reduceLE, beq_self_eq_true]
    refine hK _ (XWP.ret ?_)
    try simp only [thenX_ret, inBlockX_ret]
    exact ret_rat2 rfl rfl rfl rfl ⟨⟨_, by rw [eE], by rw [eQ]; exact RatV.zero _⟩, fun _ _ => eG⟩
  have eE : sumE P Q = 0 := by unfold sumE; rw [if_neg (by rw [hbd]; decide), if_neg h0, if_neg hz]
  have eQ : sumQ P Q = ev1 (sumA P Q) / ev1 (sumB P Q) := if_pos eE
  have qQ : QF (ev1 (sumA P Q) / ev1 (sumB P Q)) := (f5.div g6).qf (by decide)
  obtain ⟨w10, rfl, h10q⟩ := h10.2 hz
  have h10 : RatC _ _ (ev1 (sumA P Q) / ev1 (sumB P Q)) := h10q
  obtain ⟨x, y, rfl, o1, o2⟩ := h10.form
  simp only [XA, XB, gateX, Nat.reduceAdd, Nat.reduceLeDiff, Nat.reduceSub, Nat.reduceMul, ↓reduceIte, Int.reduceToNat, Int.reduceLE, beq_self_eq_true]
  refine st_rat rfl rfl rfl o1 o2 ?_
  simp only [XA, XB, gateX, Nat.reduceAdd, Nat.reduceLeDiff, Nat.reduceSub, Nat.reduceMul, ↓reduceIte, Int.reduceToNat, Int.reduceLE, beq_self_eq_true]
  refine hK _ ?_
  refine XWP.seq ?_
  first | refine Gx.a (by kernel_rfl) fun K hK => ?_ | refine Gx.b (by kernel_rfl) fun K hK => ?_ | refine Gx.c (by kernel_rfl) fun K hK => ?_
  simp only [XA, XB, gateX, Nat.reduceAdd, Nat.reduceLeDiff, Nat.reduceSub, Nat.reduceMul, ↓reduceIte, Int.reduceToNat, Int.reduceLE, beq_self_eq_true, decide_true]
  refine hK _ ?_
  first | refine Gx.f rfl ?_ | refine XWP.seq (Gx.f rfl ?_)
  refine XWP.skip ?_
  first | refine Gx.a (by kernel_rfl) fun K hK => ?_ | refine Gx.b (by kernel_rfl) fun K hK => ?_ | refine Gx.c (by kernel_rfl) fun K hK => ?_
  simp only [XA, XB, gateX, Nat.reduceAdd, Nat.reduceLeDiff, Nat.reduceSub, Nat.reduceMul, ↓reduceIte, Int.reduceToNat, Int.reduceLE, beq_self_eq_true]
  refine st_rat rfl rfl rfl o1 o2 ?_
  simp only [XA, XB, gateX, Nat.reduceAdd, Nat.reduceLeDiff, Nat.reduceSub, Nat.reduceMul, ↓reduceIte, Int.reduceToNat, Int.reduceLE, beq_self_eq_true]
  refine hK _ (XWP.ret ?_)
  try simp only [thenX_ret, inBlockX_ret]
  exact ret_rat2 rfl rfl rfl rfl ⟨⟨_, by rw [eE], by rw [eQ]; exact h10.toV qQ⟩, fun _ _ => eG⟩
theorem sum_qf (hG : bad2 P Q = false → Q.length ≠ 0 → CB 1539200000 (sumG P Q)) : QF (sumQ P Q) := by
  by_cases e : sumE P Q = 0
  · have eQ : sumQ P Q = ev1 (sumA P Q) / ev1 (sumB P Q) := if_pos e
    unfold sumE at e
    split at e
    · cases e
    · rename_i hb
      split at e
      · cases e
      · rename_i h0
        have aP : CB 480 (qs P) := fewR_CBn fP (Raws.dig hv) lP 480 rfl
        have aQ : CB 480 (qs Q) := fewR_CBn fQ (Raws.dig hu) lQ 480 rfl
        have hb : bad2 P Q = false := by simpa using hb
        obtain ⟨e1, e2⟩ := bad2_false hb
        have pP := (rightP_parts e1).2.1
        have pQ := (rightP_parts e2).2.1
        have el := qs_len P
        have er := qs_len Q
        obtain ⟨_, _, pG, lG, kG⟩ := comRP_dv pP pQ (by omega)
        have kG' : cf (comRP (qs P) (qs Q)) ((comRP (qs P) (qs Q)).length - 1) ≠ 0 := by rw [kG]; decide
        have g3 : CB 1539200000 (comRP (qs P) (qs Q)) := hG hb h0
        have a5 := (sum_parts pP (by omega) aP g3 lG kG').2.2.2.2
        have b5 := (sum_parts pQ (by omega) aQ g3 lG kG').2.2.2.2
        rw [eQ]
        exact (a5.div b5).qf (by decide)
  · rw [sumQ_err e]; exact QF_zero
theorem dTot_c (hG : bad2 P Q = false → Q.length ≠ 0 → CB 1539200000 (sumG P Q)) : Spec Try.prog 45 [v, u] V fun v' V' => ∃ w, v' = .tuple #[w, .int .i64 (sumE P Q)] ∧ RatV V' w (sumQ P Q) := by
  have aP : CB 480 (qs P) := fewR_CBn fP (Raws.dig hv) lP 480 rfl
  have aQ : CB 480 (qs Q) := fewR_CBn fQ (Raws.dig hu) lQ 480 rfl
  obtain ⟨A1, c1, rfl, hc1, hm1⟩ := hv.form
  obtain ⟨A2, c2, rfl, hc2, hm2⟩ := hu.form
  refine (Spec.enter Try.func45 rfl fun Γ => ?_)
  simp only [Try.ntmps45, List.map_cons, List.map_nil, List.length_cons, List.length_nil, Nat.reduceAdd, Nat.reduceSub, List.replicate_succ, List.replicate_zero, List.cons_append, List.nil_append]
  first | refine Gx.a (by kernel_rfl) fun K hK => ?_ | refine Gx.b (by kernel_rfl) fun K hK => ?_ | refine Gx.c (by kernel_rfl) fun K hK => ?_
  simp only [XA, XB, gateX, Nat.reduceAdd, Nat.reduceLeDiff, Nat.reduceSub, Nat.reduceMul, ↓reduceIte, Int.reduceToNat, Int.reduceLE, beq_self_eq_true]
  refine hK _ ?_
  refine XWP.cut (fun s => ∃ (V2 : View), StIs (fun Z => [.v (.slice A1 P.length c1), .v (.slice A2 Q.length c2), Z 2,Z 3, .p 0 0, Z 5,Z 6,Z 7,Z 8,Z 9,Z 10,Z 11,Z 12,Z 13,Z 14,Z 15,Z 16,Z 17,Z 18,Z 19,Z 20,Z 21,Z 22,Z 23,Z 24,Z 25,Z 26,Z 27,Z 28,Z 29,Z 30,Z 31,Z 32,Z 33,Z 34,Z 35,Z 36,Z 37,Z 38,Z 39,Z 40,Z 41,Z 42,Z 43,Z 44,Z 45,Z 46,Z 47,Z 48,Z 49,Z 50,Z 51,Z 52,Z 53,Z 54,Z 55,Z 56]) [[.bool false, .slice none 0 0, .slice none 0 0]] (fun _ => none) V2 s ∧ V.le V2 ∧ rightP P = true ∧ rightP Q = true ∧ bad2 P Q = false ∧ Q.length ≠ 0) ?_ ?_
  · first | refine XWP.block ?_ | refine XWP.seq (XWP.block ?_)
    refine XWP.seq ?_
    first | refine Gx.a (by kernel_rfl) fun K hK => ?_ | refine Gx.b (by kernel_rfl) fun K hK => ?_ | refine Gx.c (by kernel_rfl) fun K hK => ?_
    simp only [XA, XB, gateX, Nat.reduceAdd, Nat.reduceLeDiff, Nat.reduceSub, Nat.reduceMul, ↓reduceIte, Int.reduceToNat, Int.reduceLE, beq_self_eq_true]
    refine call_go (by kernel_rfl) rfl (dright_c _ _ _ hv fP.fit (by omega) (fun _ => fewR_qf fP (Raws.dig hv))) fun v1 V1 hV1 h1 => ?_
    subst h1
    by_cases hk : rightP P = true ∧ rightP Q = true
    rotate_left
    · have hbd : bad2 P Q = true := by
        unfold bad2
        cases e1 : rightP P
        · rfl
        · cases e2 : rightP Q
          · rfl
          · exact absurd ⟨e1, e2⟩ hk
      have eE : sumE P Q = 1 := if_pos hbd
      have eQ : sumQ P Q = 0 := sumQ_err (by rw [eE]; decide)
      cases e1 : rightP P
      · simp only [XA, XB, gateX, Nat.reduceAdd, Nat.reduceLeDiff, Nat.reduceSub, Nat.reduceMul, ↓reduceIte, Int.reduceToNat, Int.reduceLE, beq_self_eq_true]
        refine hK _ ?_
        first | refine Gx.t rfl ?_ | refine XWP.seq (Gx.t rfl ?_)
        first | refine Gx.a (by kernel_rfl) fun K hK => ?_ | refine Gx.b (by kernel_rfl) fun K hK => ?_ | refine Gx.c (by kernel_rfl) fun K hK => ?_
        simp only [XA, XB, gateX, Nat.reduceAdd, Nat.reduceLeDiff, Nat.reduceSub, Nat.reduceMul, ↓reduceIte, Int.reduceToNat, Int.reduceLE, beq_self_eq_true]
        refine bd_go (by kernel_rfl) #[] (by simp) bd_rat0 ?_
        simp only [XA, XB, gateX, Nat.reduceAdd, Nat.reduceLeDiff, Nat.reduceSub, Nat.reduceMul, ↓reduceIte, Int.reduceToNat, Int.reduceLE, beq_self_eq_true]
        refine st_rat rfl rfl rfl rfl rfl ?_
        simp only [XA, XB, gateX, Nat.reduceAdd, Nat.reduceLeDiff, Nat.reduceSub, Nat.reduceMul, ↓reduceIte, Int.reduceToNat, Int.reduceLE, beq_self_eq_true]
        refine hK _ (XWP.ret ?_)
        try simp only [thenX_ret, inBlockX_ret]
        exact ret_rat2 rfl rfl rfl rfl ⟨_, by rw [eE], by rw [eQ]; exact RatV.zero _⟩
      · have e2 : rightP Q = false := by
          cases h : rightP Q
          · rfl
          · exact absurd ⟨e1, h⟩ hk
        simp only [XA, XB, gateX, Nat.reduceAdd, Nat.reduceLeDiff, Nat.reduceSub, Nat.reduceMul, ↓reduceIte, Int.reduceToNat, Int.reduceLE, beq_self_eq_true]
        refine call_go (by kernel_rfl) rfl (dright_c _ _ _ (hu.up hV1) fQ.fit (by omega) (fun _ => fewR_qf fQ (Raws.dig hu))) fun v2 V2 hV2 h2 => ?_
        subst h2
        rw [e2]
        simp only [XA, XB, gateX, Nat.reduceAdd, Nat.reduceLeDiff, Nat.reduceSub, Nat.reduceMul, ↓reduceIte, Int.reduceToNat, Int.reduceLE, beq_self_eq_true]
        refine hK _ ?_
        first | refine Gx.t rfl ?_ | refine XWP.seq (Gx.t rfl ?_)
        first | refine Gx.a (by kernel_rfl) fun K hK => ?_ | refine Gx.b (by kernel_rfl) fun K hK => ?_ | refine Gx.c (by kernel_rfl) fun K hK => ?_
        simp only [XA, XB, gateX, Nat.reduceAdd, Nat.reduceLeDiff, Nat.reduceSub, Nat.reduceMul, ↓reduceIte, Int.reduceToNat, Int.reduceLE, beq_self_eq_true]
        refine bd_go (by kernel_rfl) #[] (by simp) bd_rat0 ?_
        simp only [XA, XB, gateX, Nat.reduceAdd, Nat.reduceLeDiff, Nat.reduceSub, Nat.reduceMul, ↓reduceIte, Int.reduceToNat, Int.reduceLE, beq_self_eq_true]
        refine st_rat rfl rfl rfl rfl rfl ?_
        simp only [XA, XB, gateX, Nat.reduceAdd, Nat.reduceLeDiff, Nat.reduceSub, Nat.reduceMul, ↓reduceIte, Int.reduceToNat, Int.reduceLE, beq_self_eq_true]
        refine hK _ (XWP.ret ?_)
        try simp only [thenX_ret, inBlockX_ret]
        exact ret_rat2 rfl rfl rfl rfl ⟨_, by rw [eE], by rw [eQ]; exact RatV.zero _⟩
    obtain ⟨e1, e2⟩ := hk
    have hbd : bad2 P Q = false := by unfold bad2; rw [e1, e2]; rfl
    rw [e1]
    simp only [XA, XB, gateX, Nat.reduceAdd, Nat.reduceLeDiff, Nat.reduceSub, Nat.reduceMul, ↓reduceIte, Int.reduceToNat, Int.reduceLE, beq_self_eq_true]
    refine call_go (by kernel_rfl) rfl (dright_c _ _ _ (hu.up hV1) fQ.fit (by omega) (fun _ => fewR_qf fQ (Raws.dig hu))) fun v2 V2 hV2 h2 => ?_
    subst h2
    rw [e2]
    simp only [XA, XB, gateX, Nat.reduceAdd, Nat.reduceLeDiff, Nat.reduceSub, Nat.reduceMul, ↓reduceIte, Int.reduceToNat, Int.reduceLE, beq_self_eq_true]
    refine hK _ ?_
    first | refine Gx.f rfl ?_ | refine XWP.seq (Gx.f rfl ?_)
    have hV12 := View.le_trans hV1 hV2
    refine XWP.seq ?_
    by_cases h0 : Q.length = 0
    · have eE : sumE P Q = 31 := by unfold sumE; rw [if_neg (by rw [hbd]; decide), if_pos h0]
      have eQ : sumQ P Q = 0 := sumQ_err (by rw [eE]; decide)
      have b1 : decide ((Q.length : Int) = 0) = true := decide_eq_true (by omega)
      first | refine Gx.a (by kernel_rfl) fun K hK => ?_ | refine Gx.b (by kernel_rfl) fun K hK => ?_ | refine Gx.c (by kernel_rfl) fun K hK => ?_
      simp only [XA, XB, gateX, Nat.reduceAdd, Nat.reduceLeDiff, Nat.reduceSub, Nat.reduceMul, ↓reduceIte, Int.reduceToNat, Int.reduceLE, beq_self_eq_true, b1]
      refine hK _ ?_
      first | refine Gx.t rfl ?_ | refine XWP.seq (Gx.t rfl ?_)
      first | refine Gx.a (by kernel_rfl) fun K hK => ?_ | refine Gx.b (by kernel_rfl) fun K hK => ?_ | refine Gx.c (by kernel_rfl) fun K hK => ?_
      simp only [XA, XB, gateX, Nat.reduceAdd, Nat.reduceLeDiff, Nat.reduceSub, Nat.reduceMul, ↓reduceIte, Int.reduceToNat, Int.reduceLE, beq_self_eq_true]
      refine bd_go (by kernel_rfl) #[] (by simp) bd_rat0 ?_
      simp only [XA, XB, gateX, Nat.reduceAdd, Nat.reduceLeDiff, Nat.reduceSub, Nat.reduceMul, ↓reduceIte, Int.reduceToNat, Int.reduceLE, beq_self_eq_true]
      refine st_rat rfl rfl rfl rfl rfl ?_
      simp only [XA, XB, gateX, Nat.reduceAdd, Nat.reduceLeDiff, Nat.reduceSub, Nat.reduceMul, ↓reduceIte, Int.reduceToNat, Int.reduceLE, beq_self_eq_true]
      refine hK _ (XWP.ret ?_)
      try simp only [thenX_ret, inBlockX_ret]
      exact ret_rat2 rfl rfl rfl rfl ⟨_, by rw [eE], by rw [eQ]; exact RatV.zero _⟩
    have b1 : decide ((Q.length : Int) = 0) = false := decide_eq_false (by omega)
    first | refine Gx.a (by kernel_rfl) fun K hK => ?_ | refine Gx.b (by kernel_rfl) fun K hK => ?_ | refine Gx.c (by kernel_rfl) fun K hK => ?_
    simp only [XA, XB, gateX, Nat.reduceAdd, Nat.reduceLeDiff, Nat.reduceSub, Nat.reduceMul, ↓reduceIte, Int.reduceToNat, Int.reduceLE, beq_self_eq_true, b1]
    refine hK _ ?_
    first | refine Gx.f rfl ?_ | refine XWP.seq (Gx.f rfl ?_)
    refine XWP.skip ?_
    exact ⟨V2, StIs.of (by exact rfl), hV12, e1, e2, hbd, h0⟩
  rintro s ⟨V2, hs, hV12, e1, e2, hbd, h0⟩
  obtain ⟨z, rfl⟩ := hs.out
  try dsimp only
  clear hs
  have hP := (Raws.rats hv (rightP_parts e1).1).up hV12
  have hQ := (Raws.rats hu (rightP_parts e2).1).up hV12
  have pP := (rightP_parts e1).2.1
  have pQ := (rightP_parts e2).2.1
  have el := qs_len P
  have er := qs_len Q
  obtain ⟨_, _, pG, lG, kG⟩ := comRP_dv pP pQ (by omega)
  have kG' : cf (comRP (qs P) (qs Q)) ((comRP (qs P) (qs Q)).length - 1) ≠ 0 := by rw [kG]; decide
  have hgb := comFit5 lP lQ (Nat.le_refl 480)
  have hlg := comRP_len (qs P) pQ
  first | refine Gx.a (by kernel_rfl) fun K hK => ?_ | refine Gx.b (by kernel_rfl) fun K hK => ?_ | refine Gx.c (by kernel_rfl) fun K hK => ?_
  simp only [XA, XB, gateX, Nat.reduceAdd, Nat.reduceLeDiff, Nat.reduceSub, Nat.reduceMul, ↓reduceIte, Int.reduceToNat, Int.reduceLE, beq_self_eq_true]
  have g3 : CB 1539200000 (comRP (qs P) (qs Q)) := hG hbd h0
  refine call_go (by kernel_rfl) rfl (dcommon_c _ _ _ (qs P) (qs Q) 480 hP hQ pP pQ aP aQ (by omega) (by omega) (by rw [el, er]; exact Nat.le_trans hgb (by decide)) (by decide) (by omega)) fun v3 V3 hV3 h3 => ?_
  have h3 := h3.1
  simp only [XA, XB, gateX, Nat.reduceAdd, Nat.reduceLeDiff, Nat.reduceSub, Nat.reduceMul, ↓reduceIte, Int.reduceToNat, Int.reduceLE, beq_self_eq_true]
  refine hK _ ?_
  obtain ⟨f1, f2, f3, f4, f5⟩ := sum_parts pP (by omega) aP g3 lG kG'
  obtain ⟨g1, g2, g4, g5, g6⟩ := sum_parts pQ (by omega) aQ g3 lG kG'
  first | refine Gx.a (by kernel_rfl) fun K hK => ?_ | refine Gx.b (by kernel_rfl) fun K hK => ?_ | refine Gx.c (by kernel_rfl) fun K hK => ?_
  simp only [XA, XB, gateX, Nat.reduceAdd, Nat.reduceLeDiff, Nat.reduceSub, Nat.reduceMul, ↓reduceIte, Int.reduceToNat, Int.reduceLE, beq_self_eq_true]
  refine call_go (by kernel_rfl) rfl (dpart_c _ _ _ _ _ 480 1539200000 (hP.up hV3) h3 aP g3 lG kG' f1 (by omega) (by omega)) fun v4 V4 hV4 h4 => ?_
  obtain ⟨wa, wa', rfl, h4, _, _, _⟩ := h4
  simp only [XA, XB, gateX, Nat.reduceAdd, Nat.reduceLeDiff, Nat.reduceSub, Nat.reduceMul, ↓reduceIte, Int.reduceToNat, Int.reduceLE, beq_self_eq_true]
  refine hK _ ?_
  first | refine Gx.a (by kernel_rfl) fun K hK => ?_ | refine Gx.b (by kernel_rfl) fun K hK => ?_ | refine Gx.c (by kernel_rfl) fun K hK => ?_
  simp only [XA, XB, gateX, Nat.reduceAdd, Nat.reduceLeDiff, Nat.reduceSub, Nat.reduceMul, ↓reduceIte, Int.reduceToNat, Int.reduceLE, beq_self_eq_true]
  refine call_go (by kernel_rfl) rfl (dpart_c _ _ _ _ _ 480 1539200000 ((hQ.up hV3).up hV4) (h3.up hV4) aQ g3 lG kG' g1 (by omega) (by omega)) fun v5 V5 hV5 h5 => ?_
  obtain ⟨wb, wb', rfl, h5, _, _, _⟩ := h5
  simp only [XA, XB, gateX, Nat.reduceAdd, Nat.reduceLeDiff, Nat.reduceSub, Nat.reduceMul, ↓reduceIte, Int.reduceToNat, Int.reduceLE, beq_self_eq_true]
  refine hK _ ?_
  have eA : (partP (qs P) (comRP (qs P) (qs Q))).1 = sumA P Q := rfl
  have eB : (partP (qs Q) (comRP (qs P) (qs Q))).1 = sumB P Q := rfl
  rw [eA] at h4 f3 f4 f5
  rw [eB] at h5 g4 g5 g6
  clear h3 g3 kG kG' pG lG eA eB hlg f1 f2 g1 g2
  first | refine Gx.a (by kernel_rfl) fun K hK => ?_ | refine Gx.b (by kernel_rfl) fun K hK => ?_ | refine Gx.c (by kernel_rfl) fun K hK => ?_
  simp only [XA, XB, gateX, Nat.reduceAdd, Nat.reduceLeDiff, Nat.reduceSub, Nat.reduceMul, ↓reduceIte, Int.reduceToNat, Int.reduceLE, beq_self_eq_true]
  refine call_go (by kernel_rfl) rfl (pone_c _) fun v6 V6 hV6 h6 => ?_
  simp only [XA, XB, gateX, Nat.reduceAdd, Nat.reduceLeDiff, Nat.reduceSub, Nat.reduceMul, ↓reduceIte, Int.reduceToNat, Int.reduceLE, beq_self_eq_true]
  refine call_go (by kernel_rfl) rfl (deval_c _ _ _ _ _ 98508815424 0 ((h4.up hV5).up hV6) h6 f3 (QB_one 0) (by omega) (ev_fit f4).2) fun v7 V7 hV7 h7 => ?_
  simp only [XA, XB, gateX, Nat.reduceAdd, Nat.reduceLeDiff, Nat.reduceSub, Nat.reduceMul, ↓reduceIte, Int.reduceToNat, Int.reduceLE, beq_self_eq_true]
  refine call_go (by kernel_rfl) rfl (pone_c _) fun v8 V8 hV8 h8 => ?_
  simp only [XA, XB, gateX, Nat.reduceAdd, Nat.reduceLeDiff, Nat.reduceSub, Nat.reduceMul, ↓reduceIte, Int.reduceToNat, Int.reduceLE, beq_self_eq_true]
  refine call_go (by kernel_rfl) rfl (deval_c _ _ _ _ _ 98508815424 0 (((h5.up hV6).up hV7).up hV8) h8 g4 (QB_one 0) (by omega) (ev_fit g5).2) fun v9 V9 hV9 h9 => ?_
  simp only [XA, XB, gateX, Nat.reduceAdd, Nat.reduceLeDiff, Nat.reduceSub, Nat.reduceMul, ↓reduceIte, Int.reduceToNat, Int.reduceLE, beq_self_eq_true]
  refine call_go (by kernel_rfl) rfl (pdiv_c _ _ _ _ _ ((h7.mono (View.le_trans hV8 hV9)).toV (f5.qf (by decide))) (h9.toV (g6.qf (by decide))) (f5.qf (by decide)) (g6.qf (by decide))) fun v10 V10 hV10 h10 => ?_
  by_cases hz : ev1 (sumB P Q) = 0
  · have eE : sumE P Q = 31 := by unfold sumE; rw [if_neg (by rw [hbd]; decide), if_neg h0, if_pos hz]
    have eQ : sumQ P Q = 0 := sumQ_err (by rw [eE]; decide)
    rw [h10.1 hz]
    simp only [XA, XB, gateX, Nat.reduceAdd, Nat.reduceLeDiff, Nat.reduceSub, Nat.reduceMul, ↓reduceIte, Int.reduceToNat, Int.reduceLE, beq_self_eq_true]
    refine st_rat rfl rfl rfl rfl rfl ?_
    simp only [XA, XB, gateX, Nat.reduceAdd, Nat.reduceLeDiff, Nat.reduceSub, Nat.reduceMul, ↓reduceIte, Int.reduceToNat, Int.reduceLE, beq_self_eq_true]
    refine hK _ ?_
    refine XWP.seq ?_
    first | refine Gx.a (by kernel_rfl) fun K hK => ?_ | refine Gx.b (by kernel_rfl) fun K hK => ?_ | refine Gx.c (by kernel_rfl) fun K hK => ?_
    simp only [XA, XB, gateX, Nat.reduceAdd, Nat.reduceLeDiff, Nat.reduceSub, Nat.reduceMul, ↓reduceIte, Int.reduceToNat, Int.reduceLE, beq_self_eq_true, decide_false]
    refine hK _ ?_
    first | refine Gx.t rfl ?_ | refine XWP.seq (Gx.t rfl ?_)
    first | refine Gx.a (by kernel_rfl) fun K hK => ?_ | refine Gx.b (by kernel_rfl) fun K hK => ?_ | refine Gx.c (by kernel_rfl) fun K hK => ?_
    simp only [XA, XB, gateX, Nat.reduceAdd, Nat.reduceLeDiff, Nat.reduceSub, Nat.reduceMul, ↓reduceIte, Int.reduceToNat, Int.reduceLE, beq_self_eq_true]
    refine bd_go (by kernel_rfl) #[] (by simp) bd_rat0 ?_
    simp only [XA, XB, gateX, Nat.reduceAdd, Nat.reduceLeDiff, Nat.reduceSub, Nat.reduceMul, ↓reduceIte, Int.reduceToNat, Int.reduceLE, beq_self_eq_true]
    refine st_rat rfl rfl rfl rfl rfl ?_
    simp only [XA, XB, gateX, Nat.reduceAdd, Nat.reduceLeDiff, Nat.reduceSub, Nat.reduceMul, ↓reduceIte, Int.reduceToNat, Int.reduceLE, beq_self_eq_true]
    refine hK _ (XWP.ret ?_)
    try simp only [thenX_ret, inBlockX_ret]
    exact ret_rat2 rfl rfl rfl rfl ⟨_, by rw [eE], by rw [eQ]; exact RatV.zero _⟩
  have eE : sumE P Q = 0 := by unfold sumE; rw [if_neg (by rw [hbd]; decide), if_neg h0, if_neg hz]
  have eQ : sumQ P Q = ev1 (sumA P Q) / ev1 (sumB P Q) := if_pos eE
  have qQ : QF (ev1 (sumA P Q) / ev1 (sumB P Q)) := (f5.div g6).qf (by decide)
  obtain ⟨w10, rfl, h10q⟩ := h10.2 hz
  have h10 : RatC _ _ (ev1 (sumA P Q) / ev1 (sumB P Q)) := h10q
  obtain ⟨x, y, rfl, o1, o2⟩ := h10.form
  simp only [XA, XB, gateX, Nat.reduceAdd, Nat.reduceLeDiff, Nat.reduceSub, Nat.reduceMul, ↓reduceIte, Int.reduceToNat, Int.reduceLE, beq_self_eq_true]
  refine st_rat rfl rfl rfl o1 o2 ?_
  simp only [XA, XB, gateX, Nat.reduceAdd, Nat.reduceLeDiff, Nat.reduceSub, Nat.reduceMul, ↓reduceIte, Int.reduceToNat, Int.reduceLE, beq_self_eq_true]
  refine hK _ ?_
  refine XWP.seq ?_
  first | refine Gx.a (by kernel_rfl) fun K hK => ?_ | refine Gx.b (by kernel_rfl) fun K hK => ?_ | refine Gx.c (by kernel_rfl) fun K hK => ?_
  simp only [XA, XB, gateX, Nat.reduceAdd, Nat.reduceLeDiff, Nat.reduceSub, Nat.reduceMul, ↓reduceIte, Int.reduceToNat, Int.reduceLE, beq_self_eq_true, decide_true]
  refine hK _ ?_
  first | refine Gx.f rfl ?_ | refine XWP.seq (Gx.f rfl ?_)
  refine XWP.skip ?_
  first | refine Gx.a (by kernel_rfl) fun K hK => ?_ | refine Gx.b (by kernel_rfl) fun K hK => ?_ | refine Gx.c (by kernel_rfl) fun K hK => ?_
  simp only [XA, XB, gateX, Nat.reduceAdd, Nat.reduceLeDiff, Nat.reduceSub, Nat.reduceMul, ↓reduceIte, Int.reduceToNat, Int.reduceLE, beq_self_eq_true]
  refine st_rat rfl rfl rfl o1 o2 ?_
  simp only [XA, XB, gateX, Nat.reduceAdd, Nat.reduceLeDiff, Nat.reduceSub, Nat.reduceMul, ↓reduceIte, Int.reduceToNat, Int.reduceLE, beq_self_eq_true]
  refine hK _ (XWP.ret ?_)
  try simp only [thenX_ret, inBlockX_ret]
  exact ret_rat2 rfl rfl rfl rfl ⟨_, by rw [eE], by rw [eQ]; exact h10.toV qQ⟩
end
end Go.Proofs.Ythoboehbadmlmaa
end
section
namespace Go.Proofs.Ythoboehbadmlmaa
open Go Go.RowKit
set_option linter.unusedSimpArgs false
set_option linter.unusedVariables false
attribute [local irreducible] XWP Spec SpecO XPub XCall seqX clX apX stX ldX iaX slX
def frpR (L A : List Raw) : List Rat := if listsE L A 0 = 0 then frP (qs L) (qs A) else []
def frqR (L A : List Raw) : List Rat := if listsE L A 0 = 0 then trimQ (frQ (qs A)) else []
def serR (P Q : List Raw) (N : Int) : List Rat := if serE P Q N = 0 then serI (qs P) (qs Q) N.toNat else []
theorem frP_CB {C B : Nat} {l a : List Rat} (hl : CB C l) (ha : CB B a) : CB (a.length * (C + B + 1)) (frP l a) := by
  unfold frP
  have h1 := mulP_CB ((hl.take a.length).trim) ((frQ_CB ha).trim)
  have h2 := trimQ_len (l.take a.length)
  rw [List.length_take] at h2
  exact ((h1.mono (Nat.mul_le_mul_right _ (by omega))).take _).trim
theorem fractions_c (V : View) (v u x y : Value) (L0 A0 P0 Q0 : List Raw) (N : Int) (hv : Raws V v L0) (hu : Raws V u A0) (hx : Raws V x P0) (hy : Raws V y Q0) : Spec Try.prog 10 [v, u, x, y, .int .i64 N] V fun v' V' => v' = .bool true := by
  refine (Spec.enter Try.func10 rfl fun Γ => ?_)
  simp only [Try.ntmps10, List.map_cons, List.map_nil, List.length_cons, List.length_nil, Nat.reduceAdd, Nat.reduceSub, List.replicate_succ, List.replicate_zero, List.cons_append, List.nil_append]
  first | refine Gx.a (by kernel_rfl) fun K hK => ?_ | refine Gx.b (by kernel_rfl) fun K hK => ?_ | refine Gx.c (by kernel_rfl) fun K hK => ?_
  simp only [XA, XB, gateX, Nat.reduceAdd, Nat.reduceLeDiff, Nat.reduceSub, Nat.reduceMul, ↓reduceIte, Int.reduceToNat, Int.reduceLE, beq_self_eq_true]
  refine hK _ ?_
  first | refine Gx.a (by kernel_rfl) fun K hK => ?_ | refine Gx.b (by kernel_rfl) fun K hK => ?_ | refine Gx.c (by kernel_rfl) fun K hK => ?_
  simp only [XA, XB, gateX, Nat.reduceAdd, Nat.reduceLeDiff, Nat.reduceSub, Nat.reduceMul, ↓reduceIte, Int.reduceToNat, Int.reduceLE, beq_self_eq_true]
  refine call_go (by kernel_rfl) rfl (lfew_c _ _ L0 8 hv (by omega)) fun v1 V1 hV1 h1 => ?_
  simp only [XA, XB, gateX, Nat.reduceAdd, Nat.reduceLeDiff, Nat.reduceSub, Nat.reduceMul, ↓reduceIte, Int.reduceToNat, Int.reduceLE, beq_self_eq_true]
  refine call_go (by kernel_rfl) rfl (lfew_c _ _ A0 5 (hu.up hV1) (by omega)) fun v2 V2 hV2 h2 => ?_
  simp only [XA, XB, gateX, Nat.reduceAdd, Nat.reduceLeDiff, Nat.reduceSub, Nat.reduceMul, ↓reduceIte, Int.reduceToNat, Int.reduceLE, beq_self_eq_true]
  refine call_go (by kernel_rfl) rfl (lpoly_c _ _ P0 5 (hx.up (View.le_trans hV1 hV2)) (by omega)) fun v3 V3 hV3 h3 => ?_
  obtain ⟨P, hP, lP, fP⟩ := h3
  simp only [XA, XB, gateX, Nat.reduceAdd, Nat.reduceLeDiff, Nat.reduceSub, Nat.reduceMul, ↓reduceIte, Int.reduceToNat, Int.reduceLE, beq_self_eq_true]
  refine call_go (by kernel_rfl) rfl (lpoly_c _ _ Q0 5 (hy.up (View.le_trans (View.le_trans hV1 hV2) hV3)) (by omega)) fun v4 V4 hV4 h4 => ?_
  obtain ⟨Q, hQ, lQ, fQ⟩ := h4
  simp only [XA, XB, gateX, Nat.reduceAdd, Nat.reduceLeDiff, Nat.reduceSub, Nat.reduceMul, ↓reduceIte, Int.reduceToNat, Int.reduceLE, beq_self_eq_true]
  refine hK _ ?_
  have fL := fewL_few L0 8
  have lL := fewL_len L0 8
  have fA := fewL_few A0 5
  have lA := fewL_len A0 5
  generalize fewL L0 8 = L at *
  generalize fewL A0 5 = A at *
  have dL := Raws.dig h1
  have dA := Raws.dig h2
  have h1 := ((h1.up hV2).up hV3).up hV4
  have h2 := (h2.up hV3).up hV4
  have hP := hP.up hV4
  refine XWP.cut (fun s => ∃ (M : Int), StIs (fun Z => [.v v1, .v v2, .v v3, .v v4, .v (.int .i64 M), Z 5,Z 6,Z 7,Z 8,Z 9,Z 10,Z 11,Z 12,Z 13,Z 14,Z 15,Z 16,Z 17,Z 18,Z 19,Z 20,Z 21,Z 22,Z 23,Z 24,Z 25,Z 26,Z 27,Z 28,Z 29,Z 30,Z 31,Z 32,Z 33,Z 34,Z 35,Z 36,Z 37,Z 38,Z 39,Z 40,Z 41,Z 42,Z 43,Z 44,Z 45,Z 46,Z 47,Z 48,Z 49,Z 50,Z 51,Z 52,Z 53,Z 54,Z 55,Z 56,Z 57,Z 58,Z 59,Z 60,Z 61,Z 62,Z 63,Z 64,Z 65,Z 66,Z 67,Z 68,Z 69,Z 70,Z 71,Z 72,Z 73,Z 74,Z 75,Z 76,Z 77,Z 78,Z 79,Z 80,Z 81,Z 82,Z 83,Z 84,Z 85,Z 86,Z 87,Z 88,Z 89,Z 90,Z 91,Z 92,Z 93,Z 94,Z 95,Z 96,Z 97,Z 98,Z 99,Z 100,Z 101,Z 102,Z 103,Z 104,Z 105,Z 106,Z 107,Z 108,Z 109,Z 110,Z 111,Z 112,Z 113]) [] (fun _ => none) V4 s ∧ (M ≤ 10 ∨ 400 < M)) ?_ ?_
  · by_cases h8 : 10 < N
    · have b1 : decide (10 < N) = true := decide_eq_true h8
      by_cases h4 : N ≤ 400
      · have b2 : decide (N ≤ 400) = true := decide_eq_true h4
        first | refine Gx.a (by kernel_rfl) fun K hK => ?_ | refine Gx.b (by kernel_rfl) fun K hK => ?_ | refine Gx.c (by kernel_rfl) fun K hK => ?_
        simp only [XA, XB, gateX, Nat.reduceAdd, Nat.reduceLeDiff, Nat.reduceSub, Nat.reduceMul, ↓reduceIte, Int.reduceToNat, Int.reduceLE, beq_self_eq_true, b1, b2]
        refine hK _ ?_
        first | refine Gx.t rfl ?_ | refine XWP.seq (Gx.t rfl ?_)
        first | refine Gx.a (by kernel_rfl) fun K hK => ?_ | refine Gx.b (by kernel_rfl) fun K hK => ?_ | refine Gx.c (by kernel_rfl) fun K hK => ?_
        simp only [XA, XB, gateX, Nat.reduceAdd, Nat.reduceLeDiff, Nat.reduceSub, Nat.reduceMul, ↓reduceIte, Int.reduceToNat, Int.reduceLE, beq_self_eq_true, bin_rem _ _ N 10 (by decide)]
        have := Int.tmod_lt_of_pos N (show (0 : Int) < 10 by omega)
        exact hK _ ⟨_, StIs.of (by exact rfl), by omega⟩
      · have b2 : decide (N ≤ 400) = false := decide_eq_false h4
        first | refine Gx.a (by kernel_rfl) fun K hK => ?_ | refine Gx.b (by kernel_rfl) fun K hK => ?_ | refine Gx.c (by kernel_rfl) fun K hK => ?_
        simp only [XA, XB, gateX, Nat.reduceAdd, Nat.reduceLeDiff, Nat.reduceSub, Nat.reduceMul, ↓reduceIte, Int.reduceToNat, Int.reduceLE, beq_self_eq_true, b1, b2]
        refine hK _ ?_
        first | refine Gx.f rfl ?_ | refine XWP.seq (Gx.f rfl ?_)
        refine XWP.skip ?_
        exact ⟨_, StIs.of (by exact rfl), by omega⟩
    · have b1 : decide (10 < N) = false := decide_eq_false h8
      first | refine Gx.a (by kernel_rfl) fun K hK => ?_ | refine Gx.b (by kernel_rfl) fun K hK => ?_ | refine Gx.c (by kernel_rfl) fun K hK => ?_
      simp only [XA, XB, gateX, Nat.reduceAdd, Nat.reduceLeDiff, Nat.reduceSub, Nat.reduceMul, ↓reduceIte, Int.reduceToNat, Int.reduceLE, beq_self_eq_true, b1]
      refine hK _ ?_
      first | refine Gx.f rfl ?_ | refine XWP.seq (Gx.f rfl ?_)
      refine XWP.skip ?_
      exact ⟨_, StIs.of (by exact rfl), by omega⟩
  rintro s ⟨M, hs, hM⟩
  obtain ⟨z, rfl⟩ := hs.out
  try dsimp only
  clear hs
  have aL : CB 768 (qs L) := fewR_CBn fL dL lL 768 rfl
  have aA : CB 480 (qs A) := fewR_CBn fA dA lA 480 rfl
  have aP : CB 480 (qs P) := fewR_CBn fP (Raws.dig hP) lP 480 rfl
  have aQ : CB 480 (qs Q) := fewR_CBn fQ (Raws.dig hQ) lQ 480 rfl
  have eA := qs_len A
  have hS : serE P Q M = 0 → CB 85325805 (serI (qs P) (qs Q) M.toNat) := fun he => by
    obtain ⟨k1, k2, k3, k4, k5⟩ := serE_zero he
    refine (ser_CB aP aQ M.toNat (by omega)).mono ?_
    exact Nat.le_trans (Nat.mul_le_mul_right _ (Nat.pow_le_pow_right (by omega) (show M.toNat ≤ 10 by omega))) (by decide)
  have qS : ∀ x ∈ serR P Q M, QF x := by
    unfold serR
    split
    · rename_i he; exact (hS he).qf (by omega)
    · simp
  have qp : ∀ x ∈ frpR L A, QF x := by
    unfold frpR
    split
    · refine (frP_CB aL aA).qf ?_
      have := Nat.mul_le_mul_right (768 + 480 + 1) (show (qs A).length ≤ 5 by omega)
      omega
    · simp
  have qq : ∀ x ∈ frqR L A, QF x := by
    unfold frqR
    split
    · exact ((frQ_CB aA).trim).qf (by omega)
    · simp
  first | refine Gx.a (by kernel_rfl) fun K hK => ?_ | refine Gx.b (by kernel_rfl) fun K hK => ?_ | refine Gx.c (by kernel_rfl) fun K hK => ?_
  simp only [XA, XB, gateX, Nat.reduceAdd, Nat.reduceLeDiff, Nat.reduceSub, Nat.reduceMul, ↓reduceIte, Int.reduceToNat, Int.reduceLE, beq_self_eq_true]
  refine call_go (by kernel_rfl) rfl (cfrac_c _ _ _ L A h1 h2 fL.fit fA.fit (by omega) (by omega) 768 480 (fun _ => ⟨aL, aA⟩) (by omega)) fun v5 V5 hV5 h5 => ?_
  have h5' : ∃ w1 w2, v5 = .tuple #[w1, w2, .int .i64 (listsE L A 0)] ∧ Rats V5 w1 (frpR L A) ∧ Rats V5 w2 (frqR L A) := by
    unfold frpR frqR
    by_cases he : listsE L A 0 = 0
    · rw [if_pos he, if_pos he, he]; exact h5.2 he
    · rw [if_neg he, if_neg he]; exact ⟨_, _, h5.1 he, SlAt.nil _, SlAt.nil _⟩
  obtain ⟨wp, wq, rfl, hp, hq⟩ := h5'
  simp only [XA, XB, gateX, Nat.reduceAdd, Nat.reduceLeDiff, Nat.reduceSub, Nat.reduceMul, ↓reduceIte, Int.reduceToNat, Int.reduceLE, beq_self_eq_true]
  refine hK _ ?_
  have h1 := h1.up hV5
  have h2 := h2.up hV5
  first | refine Gx.a (by kernel_rfl) fun K hK => ?_ | refine Gx.b (by kernel_rfl) fun K hK => ?_ | refine Gx.c (by kernel_rfl) fun K hK => ?_
  simp only [XA, XB, gateX, Nat.reduceAdd, Nat.reduceLeDiff, Nat.reduceSub, Nat.reduceMul, ↓reduceIte, Int.reduceToNat, Int.reduceLE, beq_self_eq_true]
  refine call_go (by kernel_rfl) rfl (dfrac_c _ _ _ L A h1 h2 fL.fit fA.fit (by omega) (by omega) 768 480 (fun _ => ⟨aL, aA⟩) (by omega)) fun v6 V6 hV6 h6 => ?_
  have h6' : ∃ w1 w2, v6 = .tuple #[w1, w2, .int .i64 (listsE L A 0)] ∧ Rats V6 w1 (frpR L A) ∧ Rats V6 w2 (frqR L A) := by
    unfold frpR frqR
    by_cases he : listsE L A 0 = 0
    · rw [if_pos he, if_pos he, he]; exact h6.2 he
    · rw [if_neg he, if_neg he]; exact ⟨_, _, h6.1 he, SlAt.nil _, SlAt.nil _⟩
  obtain ⟨wp', wq', rfl, hp', hq'⟩ := h6'
  simp only [XA, XB, gateX, Nat.reduceAdd, Nat.reduceLeDiff, Nat.reduceSub, Nat.reduceMul, ↓reduceIte, Int.reduceToNat, Int.reduceLE, beq_self_eq_true]
  refine hK _ ?_
  have hP := (hP.up hV5).up hV6
  have hQ := (hQ.up hV5).up hV6
  first | refine Gx.a (by kernel_rfl) fun K hK => ?_ | refine Gx.b (by kernel_rfl) fun K hK => ?_ | refine Gx.c (by kernel_rfl) fun K hK => ?_
  simp only [XA, XB, gateX, Nat.reduceAdd, Nat.reduceLeDiff, Nat.reduceSub, Nat.reduceMul, ↓reduceIte, Int.reduceToNat, Int.reduceLE, beq_self_eq_true]
  refine call_go (by kernel_rfl) rfl (cser_c _ _ _ P Q M hP hQ fP.fit fQ.fit (by omega) (by omega) 480 480 85325805 (fun he => ⟨aP, aQ, hS he⟩) (by omega)) fun v7 V7 hV7 h7 => ?_
  have h7' : ∃ w, v7 = .tuple #[w, .int .i64 (serE P Q M)] ∧ Rats V7 w (serR P Q M) := by
    unfold serR
    by_cases he : serE P Q M = 0
    · rw [if_pos he, he]; exact h7.2 he
    · rw [if_neg he]; exact ⟨_, h7.1 he, SlAt.nil _⟩
  obtain ⟨ws, rfl, hs⟩ := h7'
  simp only [XA, XB, gateX, Nat.reduceAdd, Nat.reduceLeDiff, Nat.reduceSub, Nat.reduceMul, ↓reduceIte, Int.reduceToNat, Int.reduceLE, beq_self_eq_true]
  refine hK _ ?_
  have hP := hP.up hV7
  have hQ := hQ.up hV7
  first | refine Gx.a (by kernel_rfl) fun K hK => ?_ | refine Gx.b (by kernel_rfl) fun K hK => ?_ | refine Gx.c (by kernel_rfl) fun K hK => ?_
  simp only [XA, XB, gateX, Nat.reduceAdd, Nat.reduceLeDiff, Nat.reduceSub, Nat.reduceMul, ↓reduceIte, Int.reduceToNat, Int.reduceLE, beq_self_eq_true]
  refine call_go (by kernel_rfl) rfl (dser_c _ _ _ P Q M hP hQ fP.fit fQ.fit (fun _ => aP.qf (by omega)) (fun _ => aQ.qf (by omega)) (by omega) (by omega) 480 480 85325805 (fun _ _ => ⟨aP, aQ⟩) hS (by omega)) fun v8 V8 hV8 h8 => ?_
  have h8' : ∃ w, v8 = .tuple #[w, .int .i64 (serE P Q M)] ∧ Rats V8 w (serR P Q M) := by
    unfold serR
    by_cases he : serE P Q M = 0
    · rw [if_pos he, he]; exact h8.2 he
    · rw [if_neg he]; exact ⟨_, h8.1 he, SlAt.nil _⟩
  obtain ⟨ws', rfl, hs'⟩ := h8'
  simp only [XA, XB, gateX, Nat.reduceAdd, Nat.reduceLeDiff, Nat.reduceSub, Nat.reduceMul, ↓reduceIte, Int.reduceToNat, Int.reduceLE, beq_self_eq_true]
  refine hK _ ?_
  have hP := hP.up hV8
  have hQ := hQ.up hV8
  first | refine Gx.a (by kernel_rfl) fun K hK => ?_ | refine Gx.b (by kernel_rfl) fun K hK => ?_ | refine Gx.c (by kernel_rfl) fun K hK => ?_
  simp only [XA, XB, gateX, Nat.reduceAdd, Nat.reduceLeDiff, Nat.reduceSub, Nat.reduceMul, ↓reduceIte, Int.reduceToNat, Int.reduceLE, beq_self_eq_true]
  refine call_go (by kernel_rfl) rfl (csum_c hP hQ fP fQ lP lQ) fun v9 V9 hV9 h9 => ?_
  obtain ⟨⟨w9, rfl, h9⟩, hG⟩ := h9
  obtain ⟨m9, n9, d9, rfl, r1, r2⟩ := h9.ones
  simp only [XA, XB, gateX, Nat.reduceAdd, Nat.reduceLeDiff, Nat.reduceSub, Nat.reduceMul, ↓reduceIte, Int.reduceToNat, Int.reduceLE, beq_self_eq_true]
  refine st_rat rfl rfl rfl r1 r2 ?_
  simp only [XA, XB, gateX, Nat.reduceAdd, Nat.reduceLeDiff, Nat.reduceSub, Nat.reduceMul, ↓reduceIte, Int.reduceToNat, Int.reduceLE, beq_self_eq_true]
  refine hK _ ?_
  first | refine Gx.a (by kernel_rfl) fun K hK => ?_ | refine Gx.b (by kernel_rfl) fun K hK => ?_ | refine Gx.c (by kernel_rfl) fun K hK => ?_
  simp only [XA, XB, gateX, Nat.reduceAdd, Nat.reduceLeDiff, Nat.reduceSub, Nat.reduceMul, ↓reduceIte, Int.reduceToNat, Int.reduceLE, beq_self_eq_true]
  refine call_go (by kernel_rfl) rfl (dTot_c (hP.up hV9) (hQ.up hV9) fP fQ lP lQ hG) fun v10 V10 hV10 h10 => ?_
  obtain ⟨w10, rfl, h10⟩ := h10
  obtain ⟨m10, n10, d10, rfl, r3, r4⟩ := h10.ones
  simp only [XA, XB, gateX, Nat.reduceAdd, Nat.reduceLeDiff, Nat.reduceSub, Nat.reduceMul, ↓reduceIte, Int.reduceToNat, Int.reduceLE, beq_self_eq_true]
  refine st_rat rfl rfl rfl r3 r4 ?_
  simp only [XA, XB, gateX, Nat.reduceAdd, Nat.reduceLeDiff, Nat.reduceSub, Nat.reduceMul, ↓reduceIte, Int.reduceToNat, Int.reduceLE, beq_self_eq_true]
  refine hK _ ?_
  have g6 : V6.le V10 := View.le_trans hV7 (View.le_trans hV8 (View.le_trans hV9 hV10))
  have g5 := View.le_trans hV6 g6
  have g8 := View.le_trans hV9 hV10
  have g7 := View.le_trans hV8 g8
  have qE : QF (sumQ P Q) := sum_qf hP hQ fP fQ lP lQ hG
  first | refine Gx.a (by kernel_rfl) fun K hK => ?_ | refine Gx.b (by kernel_rfl) fun K hK => ?_ | refine Gx.c (by kernel_rfl) fun K hK => ?_
  simp only [XA, XB, gateX, Nat.reduceAdd, Nat.reduceLeDiff, Nat.reduceSub, Nat.reduceMul, ↓reduceIte, Int.reduceToNat, Int.reduceLE, beq_self_eq_true, decide_true]
  refine call_go (by kernel_rfl) rfl (lsameP_c _ _ _ _ _ _ _ (hp.up g5) (hp'.up g6) qp qp) fun v11 V11 hV11 h11 => ?_
  rw [show (decide (listsE L A 0 = listsE L A 0) && decide (frpR L A = frpR L A)) = true by simp] at h11
  subst h11
  simp only [XA, XB, gateX, Nat.reduceAdd, Nat.reduceLeDiff, Nat.reduceSub, Nat.reduceMul, ↓reduceIte, Int.reduceToNat, Int.reduceLE, beq_self_eq_true, decide_true]
  refine call_go (by kernel_rfl) rfl (lsame_c _ _ _ _ _ ((hq.up g5).up hV11) ((hq'.up g6).up hV11) qq qq) fun v12 V12 hV12 h12 => ?_
  subst h12
  simp only [XA, XB, gateX, Nat.reduceAdd, Nat.reduceLeDiff, Nat.reduceSub, Nat.reduceMul, ↓reduceIte, Int.reduceToNat, Int.reduceLE, beq_self_eq_true, decide_true]
  refine call_go (by kernel_rfl) rfl (lsame_c _ _ _ _ _ (((hs.up g7).up hV11).up hV12) (((hs'.up g8).up hV11).up hV12) qS qS) fun v13 V13 hV13 h13 => ?_
  subst h13
  simp only [XA, XB, gateX, Nat.reduceAdd, Nat.reduceLeDiff, Nat.reduceSub, Nat.reduceMul, ↓reduceIte, Int.reduceToNat, Int.reduceLE, beq_self_eq_true, decide_true]
  refine call_go (by kernel_rfl) rfl (psame_c _ _ _ _ _ (h9.mono (View.le_trans hV10 (View.le_trans hV11 (View.le_trans hV12 hV13)))) (h10.mono (View.le_trans hV11 (View.le_trans hV12 hV13))) qE qE) fun v14 V14 hV14 h14 => ?_
  subst h14
  simp only [XA, XB, gateX, Nat.reduceAdd, Nat.reduceLeDiff, Nat.reduceSub, Nat.reduceMul, ↓reduceIte, Int.reduceToNat, Int.reduceLE, beq_self_eq_true, decide_true]
  refine call_go (by kernel_rfl) rfl (alive_c _) fun v15 V15 hV15 h15 => ?_
  subst h15
  simp only [XA, XB, gateX, Nat.reduceAdd, Nat.reduceLeDiff, Nat.reduceSub, Nat.reduceMul, ↓reduceIte, Int.reduceToNat, Int.reduceLE, beq_self_eq_true]
  refine hK _ (XWP.ret ?_)
  try simp only [thenX_ret, inBlockX_ret]
  exact ret_go _ rfl rfl
end Go.Proofs.Ythoboehbadmlmaa
end
section
namespace Go.Proofs.Ythoboehbadmlmaa.recurFractions
open Go.ChangeShapes Go.WideShapes Go.ChangeAt Go.RowKit
set_option linter.unusedVariables false
theorem own : ownKnob Try.prog.godebug = none := by kernel_rfl
theorem laidOut : laidOutB Try.prog = true := by kernel_rfl
set_option maxRecDepth 100000 in
theorem lifted (os : Os) (started : os.Started) (H : Type) (enc : TypeId × Value → H) :
    ReturnsInHanded {} Try.checked os 10 .any (Rows.recurFractionsSpec.pre6 enc Try.prog Try.f10 Rows.recurFractionsRow.domain false) (Rows.recurFractionsSpec.post enc Try.prog Try.f10 false true false false) := by
  refine returnsInHanded_of_change_sized (C := Try.checked) own started (by kernel_rfl) Try.func10
    (ChangeSpec.witness6 (enc := enc) (C := Try.checked) false ⟨#[], #[.slice none 0 0, .slice none 0 0, .slice none 0 0, .slice none 0 0, .int .i64 0], []⟩ 8 (by kernel_rfl) (by kernel_rfl) (by kernel_rfl) (by kernel_rfl)) ?_
  intro W base args ds gs before hval0 hW hcnd hsz0 _
  have hval : ∀ (j : Nat) t v, Try.f10.params[j]? = some t → args[j]? = some v → Value.okWide Try.prog W .any base t v := hval0
  have hW' := hW
  obtain ⟨p, q, hA0, hV, rfl, hfz, hnd⟩ := hW
  have hA : DataW.TrodAll enc Try.prog W 0 (fun _ => true) true Try.f10.params.toList args.toList ds p := hA0
  rw [Try.params10] at hA hval
  obtain ⟨v0, vs0, d0, ds0, p0, q0, hargs, rfl, rfl, h0, r0⟩ := trodAll_cons hA
  obtain ⟨v1, vs1, d1, ds1, p1, q1, rfl, rfl, rfl, h1, r1⟩ := trodAll_cons r0
  obtain ⟨v2, vs2, d2, ds2, p2, q2, rfl, rfl, rfl, h2, r2⟩ := trodAll_cons r1
  obtain ⟨v3, vs3, d3, ds3, p3, q3, rfl, rfl, rfl, h3, r3⟩ := trodAll_cons r2
  obtain ⟨v4, vs4, d4, ds4, p4, q4, rfl, rfl, rfl, h4, r4⟩ := trodAll_cons r3
  obtain ⟨rfl, rfl, rfl⟩ := trodAll_nil r4
  obtain rfl : args = #[v0, v1, v2, v3, v4] := by cases args; simp_all
  obtain ⟨rfl, rfl⟩ := trodVars_none hV
  obtain ⟨a0, len0, cap0, rfl⟩ := okWide_slice (und_elem (P := Try.prog) (e := 34) (by kernel_rfl)) (hval 0 22 v0 rfl rfl)
  have k0 := h0
  have lt0 : ∀ x ∈ p0, x.block < W.heap.size := by obtain ⟨m, hm⟩ := k0; exact DataW.trod_lt m _ _ _ hm
  obtain ⟨fuel0, hf0⟩ := h0
  obtain ⟨L0, hL0⟩ := open_raws (by kernel_rfl) hf0
  obtain ⟨a1, len1, cap1, rfl⟩ := okWide_slice (und_elem (P := Try.prog) (e := 34) (by kernel_rfl)) (hval 1 22 v1 rfl rfl)
  have k1 := h1
  have lt1 : ∀ x ∈ p1, x.block < W.heap.size := by obtain ⟨m, hm⟩ := k1; exact DataW.trod_lt m _ _ _ hm
  obtain ⟨fuel1, hf1⟩ := h1
  obtain ⟨L1, hL1⟩ := open_raws (by kernel_rfl) hf1
  obtain ⟨a2, len2, cap2, rfl⟩ := okWide_slice (und_elem (P := Try.prog) (e := 34) (by kernel_rfl)) (hval 2 36 v2 rfl rfl)
  have k2 := h2
  have lt2 : ∀ x ∈ p2, x.block < W.heap.size := by obtain ⟨m, hm⟩ := k2; exact DataW.trod_lt m _ _ _ hm
  obtain ⟨fuel2, hf2⟩ := h2
  obtain ⟨L2, hL2⟩ := open_raws (by kernel_rfl) hf2
  obtain ⟨a3, len3, cap3, rfl⟩ := okWide_slice (und_elem (P := Try.prog) (e := 34) (by kernel_rfl)) (hval 3 36 v3 rfl rfl)
  have k3 := h3
  have lt3 : ∀ x ∈ p3, x.block < W.heap.size := by obtain ⟨m, hm⟩ := k3; exact DataW.trod_lt m _ _ _ hm
  obtain ⟨fuel3, hf3⟩ := h3
  obtain ⟨L3, hL3⟩ := open_raws (by kernel_rfl) hf3
  obtain ⟨a4, rfl, rfl, rfl, w4⟩ := open_int (k := .i64) (by kernel_rfl) (hval 4 3 v4 rfl rfl) h4
  clear hA0 hval0 hsz0
  refine (fractions_c (viewW W) _ _ _ _ L0 L1 L2 L3 a4 hL0 hL1 hL2 hL3 W (viewW_sub W)).mono fun e W' ⟨v, V', he, _, _, _, bel, hv⟩ => ?_
  subst hv
  subst he
  exact ⟨_, rfl, _, _, _, [], _, [], hW', trodAll_mk1 (shut_bool Try.underlying4 _), (trodAll_cons_mk (Below.trod laidOut (by kernel_rfl) (of_decide_eq_true (by kernel_rfl)) k0 bel lt0) (trodAll_cons_mk (Below.trod laidOut (by kernel_rfl) (of_decide_eq_true (by kernel_rfl)) k1 bel lt1) (trodAll_cons_mk (Below.trod laidOut (by kernel_rfl) (of_decide_eq_true (by kernel_rfl)) k2 bel lt2) (trodAll_cons_mk (Below.trod laidOut (by kernel_rfl) (of_decide_eq_true (by kernel_rfl)) k3 bel lt3) (trodAll_cons_mk (shut_int (k := .i64) (by kernel_rfl) w4) trodAll_mk0))))), rfl, bel.frame _, fun h => by cases h⟩
theorem over : Rows.recurFractionsRow.holds Try.pinned (OpenSpec.ofChange Rows.recurFractionsSpec) :=
  OpenClaim.holds_of_wide 10 Try.f10 rfl rfl rfl rfl rfl rfl rfl ⟨rfl, rfl, rfl, rfl, rfl⟩ rfl rfl rfl rfl rfl (by kernel_rfl) Try.func10 (by kernel_rfl)
    (of_decide_eq_true (by kernel_rfl)) (by unfold Func.isWrapper; first | (rw [if_pos (by decide +kernel)]; kernel_rfl) | (rw [if_neg (by decide +kernel)]; exact ⟨rfl, rfl⟩))
    (fun os started H enc _ => lifted os started H enc)
theorem proved : Rows.RecurFractionsSaid := over
#print axioms proved
end Go.Proofs.Ythoboehbadmlmaa.recurFractions
namespace Go.Proofs.Ythoboehbadmlmaa
/-- The row, under a short name, for the claim. -/
theorem recurFractions_holds : Rows.RecurFractionsSaid := recurFractions.proved
end Go.Proofs.Ythoboehbadmlmaa
end
