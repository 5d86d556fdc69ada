/- The composition and every mixture of two kernels leave the posterior invariant, at every input. (part 1 of 13) -/
import Derived.OrdersHeld
import Derived.Below
import Derived.Tactics
import Derived.KernelRfl
import Derived.RangeFuncCalls
import Derived.RangeFuncFrom
import Derived.RangeFuncLeaves
import Derived.OrdersIn
import Derived.Laws.AppendOwn
import Derived.Laws.MakeOwn
import Derived.Laws.CopyRow
import Derived.Laws.Cells
import Derived.Laws.World
import Derived.Laws.Alloc2
import Derived.Laws.NewBlocks
import Derived.Maps.AppendAt
set_option linter.unusedVariables false
set_option linter.unusedSimpArgs false
section
namespace Go.Proofs.YtobjjdnfgamgcaaGreat
open Go Go.RowKit
abbrev View := Nat → Option Obj
def View.le (V V' : View) : Prop := ∀ k o, V k = some o → V' k = some o
def View.sub (V : View) (w : World) : Prop := ∀ k o, V k = some o → w.heap[k]? = some o
def okObj : Obj → Bool
 | .cells .. | .map .. | .mapIter .. => true
 | _ => false
def View.from (V V' : View) (n : Nat) : Prop := ∀ k o, V' k = some o → V k = some o ∨ (n ≤ k ∧ okObj o = true)
theorem View.le_refl (V : View) : V.le V := fun _ _ h => h
theorem View.le_trans {A B C : View} (h : A.le B) (k : B.le C) : A.le C := fun i o x => k i o (h i o x)
theorem View.from_refl (V : View) (n : Nat) : View.from V V n := fun _ _ h => .inl h
theorem View.from_trans {A B C : View} {n m : Nat} (h : View.from A B n) (k : View.from B C m) (hm : n ≤ m) : View.from A C n := fun i o x => by
 rcases k i o x with h1 | h1
 ·exact h i o h1
 ·exact .inr ⟨by omega, h1.2⟩
structure Blw (B : Nat) (w w' : World) : Prop extends Below B w w' where
 drw : w.drawn ≤ w'.drawn
theorem Blw.refl (B : Nat) (w : World) : Blw B w w := ⟨Below.refl B w, Nat.le_refl _⟩
theorem Blw.trans {B : Nat} {a b c : World} (h : Blw B a b) (k : Blw B b c) : Blw B a c := ⟨h.toBelow.trans k.toBelow, Nat.le_trans h.drw k.drw⟩
theorem Blw.mono {B B' : Nat} {w w' : World} (h : Blw B w w') (hB : B' ≤ B) : Blw B' w w' := ⟨h.toBelow.mono hB, h.drw⟩
theorem Blw.alloc {B : Nat} {w0 w : World} (h : Blw B w0 w) (hB : B ≤ w.heap.size) (o : Obj) : Blw B w0 (w.alloc o) := ⟨h.toBelow.alloc hB o, h.drw⟩
theorem Blw.drew {B : Nat} {w0 w : World} (h : Blw B w0 w) : Blw B w0 w.drew := ⟨h.toBelow.drew, Nat.le_succ_of_le h.drw⟩
theorem Blw.grown {B : Nat} {a w w' : World} {row : Option Nat} (h : Blw B a w) (hg : w.grownBy w' row) (hB : B ≤ w.heap.size) (hr : ∀ k, row = some k → B ≤ k) (hd : w.drawn ≤ w'.drawn := by exact Nat.le_refl _) : Blw B a w' := ⟨h.toBelow.grown hg hB hr, Nat.le_trans h.drw hd⟩
def Spec (P : Program) (f : FuncId) (args : List Value) (V : View) (R : Value → View → Prop) : Prop :=
 ∀ w, V.sub w → Calls P f args.toArray w fun e w' => ∃ v V', e = .returned v ∧ V.le V' ∧ V'.sub w' ∧ View.from V V' w.heap.size ∧ Blw w.heap.size w w' ∧ R v V'
structure Row where
 e : TypeId
 vs : List Value
 tot : Nat
def SpecO (P : Program) (f : FuncId) (args : List Value) (V : View) (R : Value → View → Option (Nat × Row) → Prop) : Prop :=
 ∀ w, V.sub w → Calls P f args.toArray w fun e w' => ∃ v V' o, e = .returned v ∧ V.le V' ∧ V'.sub w' ∧ View.from V V' w.heap.size ∧ Blw w.heap.size w w' ∧
  (∀ g r, o = some (g, r) → w.heap.size ≤ g ∧ V' g = none ∧ ∃ ex, w'.heap[g]? = some (.cells (r.vs ++ ex).toArray r.e (0, 0)) ∧ (r.vs ++ ex).length = r.tot) ∧ R v V' o
theorem Spec.toO {P : Program} {f : FuncId} {args : List Value} {V : View} {R : Value → View → Prop} (h : Spec P f args V R) : SpecO P f args V (fun v V' o => o = none ∧ R v V') :=
 fun w hw => (h w hw).mono fun _ _ ⟨v, V', e, a, b, c, d, r⟩ => ⟨v, V', none, e, a, b, c, d, fun _ _ h => (by cases h), rfl, r⟩
theorem Spec.mono {P : Program} {f : FuncId} {args : List Value} {V : View} {R R' : Value → View → Prop} (h : Spec P f args V R) (hr : ∀ v V', V.le V' → R v V' → R' v V') : Spec P f args V R' :=
 fun w hw => (h w hw).mono fun _ _ ⟨v, V', e, a, b, c, d, r⟩ => ⟨v, V', e, a, b, c, d, hr v V' a r⟩
inductive SV where
 | v (x : Value)
 | p (i off : Nat)
def SV.conc (bl : Nat → Nat) : SV → Value
 | .v x => x
 | .p i off => .pointer (some ⟨bl i, off, none⟩)
abbrev Heap := Nat → Option Row
structure XS where
 t : List SV
 bx : List (List Value)
 H : Heap
 V : View
structure Cx where
 w0 : World
 V0 : View
 w1 : World
 rd : Option Nat
def Cx.F (Γ : Cx) : Fence := { Fence.wide with round := Γ.rd }
theorem Cx.fn (Γ : Cx) (f : FuncId) : Γ.F.fn f := trivial
theorem Cx.room (Γ : Cx) (n : Nat) : Γ.F.room n := fun _ h => by simp [Cx.F, Fence.wide] at h
def Cx.base (Γ : Cx) : Nat := match Γ.rd with
 | none => max Γ.w0.heap.size Γ.w1.heap.size
 | some _ => Γ.w0.heap.size
theorem Cx.base_ge (Γ : Cx) : Γ.w0.heap.size ≤ Γ.base := by unfold Cx.base; split <;> omega
theorem Cx.base_w1 (Γ : Cx) (h : Γ.rd = none) : Γ.w1.heap.size ≤ Γ.base := by unfold Cx.base; rw [h]; dsimp only; omega
theorem Cx.base_le (Γ : Cx) {n : Nat} (h : Γ.w0.heap.size ≤ n) (h' : Γ.w1.heap.size ≤ n) : Γ.base ≤ n := by unfold Cx.base; split <;> omega
def Mk (Γ : Cx) (a : Act) (w : World) : Prop :=
 (∃ ms : List Nat, a.defers = ms.map (fun D => { target := .collected D, args := #[] }) ∧ ms.Nodup ∧ ∀ D ∈ ms, Γ.base ≤ D ∧ w.heap[D]? = some (.deferred (some []))) ∧ KeepsOthers Γ.w1 w
theorem Mk.keep {Γ : Cx} {a : Act} {w w' : World} (h : Mk Γ a w) (hk : KeepsOthers w w') : Mk Γ a w' := by
 obtain ⟨⟨ms, h1, h2, h3⟩, h4⟩ := h
 exact ⟨⟨ms, h1, h2, fun D hD => ⟨(h3 D hD).1, hk.same D _ (h3 D hD).2 rfl⟩⟩, h4.trans hk⟩
theorem Blw.others {w w' : World} (h : Blw w.heap.size w w') : KeepsOthers w w' := ⟨h.size, fun k o hk _ => by
 have hlt := (Array.getElem?_eq_some_iff.1 hk).1
 rw [h.block k hlt]; exact hk⟩
structure CW (Γ : Cx) (bl : Nat → Nat) (bx : List (List Value)) (H : Heap) (V : View) (w : World) : Prop where
 box : ∀ i vs, bx[i]? = some vs → ∃ ty, w.heap[bl i]? = some (.cells vs.toArray ty (0, 0))
 row : ∀ b r, H b = some r → ∃ ex, w.heap[b]? = some (.cells (r.vs ++ ex).toArray r.e (0, 0)) ∧ (r.vs ++ ex).length = r.tot
 view : V.sub w
 below : Blw Γ.w0.heap.size Γ.w0 w
structure CS (Γ : Cx) (bl : Nat → Nat) (bx : List (List Value)) (H : Heap) (V : View) : Prop where
 inj : ∀ i j, i < bx.length → j < bx.length → bl i = bl j → i = j
 bxH : ∀ i, i < bx.length → H (bl i) = none ∧ V (bl i) = none ∧ Γ.w0.heap.size ≤ bl i
 HV : ∀ b r, H b = some r → V b = none ∧ Γ.w0.heap.size ≤ b
 V0 : Γ.V0.le V
 frm : View.from Γ.V0 V Γ.w0.heap.size
def SV.ok (n : Nat) : SV → Prop
 | .v _ => True
 | .p i _ => i < n
theorem SV.ok_mono {n m : Nat} (h : n ≤ m) {x : SV} (hx : x.ok n) : x.ok m := by
 cases x with
 | v _ => trivial
 | p i o => exact Nat.lt_of_lt_of_le hx h
structure Conc (Γ : Cx) (bl : Nat → Nat) (s : XS) (a : Act) (w : World) : Prop where
 tm : a.tmps = (s.t.map (SV.conc bl)).toArray
 df : Mk Γ a w
 cw : CW Γ bl s.bx s.H s.V w
 cs : CS Γ bl s.bx s.H s.V
 ok : ∀ x ∈ s.t, x.ok s.bx.length
def XQ (Γ : Cx) (Q : Exit → XS → Prop) : Exit → Act → World → Prop := fun e a w => ∃ bl s, Conc Γ bl s a w ∧ Q e s
def XWP (Γ : Cx) (P : Program) (c : Code) (Q : Exit → XS → Prop) (s : XS) : Prop := ∀ bl a w, Conc Γ bl s a w → c.wpIn Γ.F 0 P (XQ Γ Q) a w
def thenX (K : XS → Prop) (Q : Exit → XS → Prop) : Exit → XS → Prop
 | .normal, s => K s
 | e, s => Q e s
def inBlockX (id : Nat) (Q : Exit → XS → Prop) : Exit → XS → Prop
 | .exit id', s => if id' = id then Q .normal s else Q (.exit id') s
 | e, s => Q e s
theorem thenX_normal (K : XS → Prop) (Q : Exit → XS → Prop) (s : XS) : thenX K Q .normal s = K s := rfl
theorem thenX_ret (K : XS → Prop) (Q : Exit → XS → Prop) (s : XS) : thenX K Q .ret s = Q .ret s := rfl
theorem inBlockX_ret (id : Nat) (Q : Exit → XS → Prop) (s : XS) : inBlockX id Q .ret s = Q .ret s := rfl
theorem inBlockX_exit (id j : Nat) (Q : Exit → XS → Prop) (s : XS) : inBlockX id Q (.exit j) s = if j = id then Q .normal s else Q (.exit j) s := rfl
section rules
variable {Γ : Cx} {P : Program} {Q : Exit → XS → Prop} {s : XS}
theorem XWP.mono {c : Code} {Q' : Exit → XS → Prop} (h : XWP Γ P c Q s) (hq : ∀ e s, Q e s → Q' e s) : XWP Γ P c Q' s :=
 fun bl a w hc => wpIn_mono (h bl a w hc) fun _ _ _ ⟨bl, s, h, q⟩ => ⟨bl, s, h, hq _ _ q⟩
theorem XWP.seq {x y : Code} (h : XWP Γ P x (thenX (XWP Γ P y Q) Q) s) : XWP Γ P (.seq x y) Q s := fun bl a w hc =>
 wpIn_seq (wpIn_mono (h bl a w hc) fun e a w hq => by
  obtain ⟨bl', s', h', q⟩ := hq
  cases e <;> first
   | exact q bl' a w h'
   | exact ⟨bl', s', h', q⟩)
theorem XWP.skip (h : Q .normal s) : XWP Γ P .skip Q s := fun bl _ _ hc => wpIn_skip ⟨bl, s, hc, h⟩
theorem XWP.ret (h : Q .ret s) : XWP Γ P .ret Q s := fun bl _ _ hc => wpIn_ret ⟨bl, s, hc, h⟩
theorem XWP.exit {i : Nat} (h : Q (.exit i) s) : XWP Γ P (.exit i) Q s := fun bl _ _ hc => wpIn_exit ⟨bl, s, hc, h⟩
theorem XWP.block {i : Nat} {c : Code} (h : XWP Γ P c (inBlockX i Q) s) : XWP Γ P (.block i c) Q s := fun bl a w hc =>
 wpIn_block (wpIn_mono (h bl a w hc) fun e a w hq => by
  obtain ⟨bl', s', h', q⟩ := hq
  cases e with
  | exit j =>
   simp only [inBlockX_exit] at q
   simp only [Exit.inBlock]
   split <;> rename_i hj
   ·exact ⟨bl', s', h', by simpa [hj] using q⟩
   ·exact ⟨bl', s', h', by simpa [hj] using q⟩
  | _ => exact ⟨bl', s', h', q⟩)
def XS.ev (s : XS) : Operand → SV
 | .tmp t => s.t.getD t (.v undef)
 | .const v => .v v
 | .global g => .v (.pointer (some ⟨g, 0, none⟩))
 | .func f => .v (.func (.func f) #[] #[])
def XS.put (s : XS) (d : Option Tmp) (x : SV) : XS :=
 match d with
 | some d => { s with t := s.t.set d x }
 | none => s
theorem Conc.ev {bl : Nat → Nat} {a : Act} {w : World} (h : Conc Γ bl s a w) (x : Operand) : a.eval x = (s.ev x).conc bl := by
 cases x with
 | tmp t =>
  simp only [Act.eval, XS.ev, h.tm]
  simp only [Array.getD_eq_getD_getElem?, List.getElem?_toArray, List.getElem?_map, List.getD_eq_getElem?_getD]
  cases s.t[t]? <;> rfl
 | _ => rfl
theorem conc_put {bl : Nat → Nat} {a : Act} (h : a.tmps = (s.t.map (SV.conc bl)).toArray) (d : Option Tmp) (x : SV) : (a.put d (x.conc bl)).tmps = ((s.put d x).t.map (SV.conc bl)).toArray := by
 cases d with
 | none => exact h
 | some d => simp only [Act.put, XS.put, h]; simp [List.map_set]
theorem XS.put_bx (s : XS) (d : Option Tmp) (x : SV) : (s.put d x).bx = s.bx := by cases d <;> rfl
theorem XS.put_H (s : XS) (d : Option Tmp) (x : SV) : (s.put d x).H = s.H := by cases d <;> rfl
theorem XS.put_V (s : XS) (d : Option Tmp) (x : SV) : (s.put d x).V = s.V := by cases d <;> rfl
theorem put_ok (hok : ∀ y ∈ s.t, y.ok s.bx.length) (d : Option Tmp) {x : SV} (hx : x.ok s.bx.length) : ∀ y ∈ (s.put d x).t, y.ok (s.put d x).bx.length := by
 cases d with
 | none => exact hok
 | some d =>
  intro y hy
  rcases List.mem_or_eq_of_mem_set hy with h1 | rfl
  ·exact hok y h1
  ·exact hx
theorem ev_ok (hok : ∀ y ∈ s.t, y.ok s.bx.length) (x : Operand) : (s.ev x).ok s.bx.length := by
 cases x with
 | tmp t =>
  simp only [XS.ev, List.getD_eq_getElem?_getD]
  cases h : s.t[t]? with
  | none => trivial
  | some y => exact hok y (List.mem_of_getElem? h)
 | _ => trivial
theorem Conc.put {bl : Nat → Nat} {a : Act} {w : World} (h : Conc Γ bl s a w) (d : Option Tmp) (x : SV) (hx : x.ok s.bx.length) : Conc Γ bl (s.put d x) (a.put d (x.conc bl)) w := by
 refine ⟨conc_put h.tm d x, ?_, ?_, ?_, put_ok h.ok d hx⟩
 ·cases d <;> exact h.df
 ·cases d <;> exact h.cw
 ·cases d <;> exact h.cs
theorem XWP.cond {c : Operand} {x y : Code} {t : Bool} (hc : s.ev c = .v (.bool t)) (h1 : t = true → XWP Γ P x Q s) (h2 : t = false → XWP Γ P y Q s) : XWP Γ P (.cond c x y) Q s := fun bl a w h =>
 wpIn_cond_split (t := t) (by rw [h.ev, hc]; rfl) (fun e => h1 e bl a w h) (fun e => h2 e bl a w h)
theorem XWP.loop {c : Code} (I : Nat → XS → Prop) (n : Nat) (h0 : I n s) (hr : ∀ n s, I n s → XWP Γ P c (thenX (fun s' => ∃ m, m < n ∧ I m s') Q) s) : XWP Γ P (.loop c) Q s := by
 intro bl a w hc
 have key : ∀ n bl s a w, I n s → Conc Γ bl s a w → ∀ (b : Frame) (k : List Item) (cs : List Frame), b.roundOf = Γ.F.round →
   ∃ e a' w', XQ Γ Q e a' w' ∧ ArrivesIn (Machine.fenced P Γ.F) P (lone (b.atR a (.code c :: .inLoop c :: k)) cs w) b k cs e a' w' := by
  intro n
  induction n using Nat.strongRecOn with
  | _ n ih =>
   intro bl s a w hI hC b k cs hro
   obtain ⟨e, a₁, w₁, ⟨bl1, s1, hC1, hq⟩, harr⟩ := hr n s hI bl a w hC b (.inLoop c :: k) cs hro (Γ.fn _) (Γ.room _)
   cases e with
   | normal =>
    obtain ⟨m, hm, hI1⟩ := hq
    obtain ⟨e₂, a₂, w₂, hq₂, harr₂⟩ := ih m hm bl1 s1 a₁ w₁ hI1 hC1 b k cs hro
    exact ⟨e₂, a₂, w₂, hq₂, .of_steps (StepsIn.trans harr (.one (fenced_calm (n := 0) (fr := b.atR a₁ (.inLoop c :: k)) (Γ.fn _) (Γ.room _) rfl) stepR_inLoop)) harr₂⟩
   | exit id => exact ⟨_, a₁, w₁, ⟨bl1, s1, hC1, hq⟩, .pass (x := .inLoop c) rfl (fun _ _ => .inl (by simp)) harr⟩
   | goto l => exact ⟨_, a₁, w₁, ⟨bl1, s1, hC1, hq⟩, .pass (x := .inLoop c) rfl (fun _ _ => .inl (by simp)) harr⟩
   | ret => exact ⟨_, a₁, w₁, ⟨bl1, s1, hC1, hq⟩, .pass (x := .inLoop c) rfl (fun _ _ => .inl (by simp)) harr⟩
   | panic ch => exact ⟨_, a₁, w₁, ⟨bl1, s1, hC1, hq⟩, .pass (x := .inLoop c) rfl (fun _ _ => .inl (by simp)) harr⟩
   | outgrown => exact ⟨_, a₁, w₁, ⟨bl1, s1, hC1, hq⟩, .pass (x := .inLoop c) rfl (fun _ _ => .inl (by simp)) harr⟩
 intro b k cs hro _ _
 obtain ⟨e, a', w', hq, harr⟩ := key n bl s a w h0 hc b k cs hro
 exact ⟨e, a', w', hq, .of_steps (.one (fenced_calm (n := 0) (fr := b.atR a (.code (.loop c) :: k)) (Γ.fn _) (Γ.room _) rfl) stepR_loop) harr⟩
end rules
def noDefer (ops : Array Oper) : Bool := ops.all fun o => match o.op with
 | .defer _ => false
 | _ => true
theorem noDefer_spec {ops : Array Oper} (h : noDefer ops = true) {i : Nat} {o : Oper} (hi : ops[i]? = some o) (c : Call) : o.op ≠ .defer c := fun e => by
 have := Array.all_eq_true_iff_forall_mem.1 h o (Array.mem_of_getElem? hi)
 rw [e] at this; cases this
section
variable {Γ : Cx} {P : Program} {ops : Array Oper} {Q : Exit → Act → World → Prop}
theorem calls_in {n : Nat} {f : FuncId} {args : Array Value} {w : World} {R : Ending → World → Prop} (h : Calls P f args w R) : CallsIn Γ.F n P f args w R :=
 ⟨trivial, fun cs _ => (callsIn_wide (n := 0).2 h).2 cs (room_wide _)⟩
theorem op_in {o : Oper} {a : Act} {w : World} {K : Act → World → Prop} (h : o.wp P a w K Q) (hd : ∀ c, o.op ≠ .defer c) : o.wpIn Γ.F 0 P a w K Q := by
 refine ⟨fun _ _ => trivial, ?_⟩
 rw [Oper.semAt_eq _ _ _ hd]
 unfold Oper.wp at h
 generalize (execOp a.eval o).run P w = r at h ⊢
 cases r with
 | ok x w' =>
  cases x <;> simp only [Oper.upon] at h <;> first
   | exact h
   | exact ⟨fun h => (by simp [Cx.F, Fence.wide] at h), calls_in h⟩
   | exact ⟨fun h => (by simp [Cx.F, Fence.wide] at h), fun c cs _ => let ⟨v, w', r, s⟩ := h c cs; ⟨v, w', r, stepsIn_wide.2 s⟩⟩
 | halt x w' => cases x <;> simp only [Oper.upon] at h <;> exact h
theorem wpOp_in (hL : ¬ LetsOut Q) (hd : noDefer ops = true) {i : Nat} {K : Act → World → Prop} {a : Act} {w : World} (h : wpOp P ops Q i K a w) : wpOpIn Γ.F 0 P ops Q i K a w := by
 unfold wpOp at h
 unfold wpOpIn
 cases ho : ops[i]? with
 | none => rw [ho] at h; exact h
 | some o =>
  rw [ho] at h
  dsimp only at h ⊢
  split at h
  ·rename_i hw
   rw [if_pos hw]
   exact op_in (h.resolve_right fun h => hL h.2) (noDefer_spec hd ho)
  ·rename_i hw
   rw [if_neg hw]
   exact ⟨fun _ _ => trivial, h⟩
theorem wpOps_in (hL : ¬ LetsOut Q) (hd : noDefer ops = true) : ∀ (l : List Nat) (a : Act) (w : World), wpOps P ops Q l a w → wpOpsIn Γ.F 0 P ops Q l a w
 | [], _, _, h => h
 | i :: rest, a, w, h => by
  rw [wpOps_cons] at h
  rw [wpOpsIn_cons]
  exact wpOpIn_mono (fun a w => wpOps_in hL hd rest a w) (wpOp_in hL hd h)
theorem wpAny_in (hL : ¬ LetsOut Q) (hd : noDefer ops = true) : ∀ (n : Nat) (listed : Array Bool) (a : Act) (w : World), wpAny P .any ops Q n listed a w → wpAnyIn Γ.F 0 P .any ops Q n listed a w
 | 0, _, _, _, h => h
 | n + 1, _, _, _, h => ⟨h.1, fun i hi => wpOpIn_mono (fun a w => wpAny_in hL hd n _ a w) (wpOp_in hL hd (h.2 i hi))⟩
def onlyN (Q : Exit → XS → Prop) : Exit → XS → Prop
 | .normal, s => Q .normal s
 | _, _ => False
theorem onlyN_out {Q : Exit → XS → Prop} : ¬ LetsOut (XQ Γ (onlyN Q)) := fun ⟨_, _, _, _, _, h⟩ => h
theorem onlyN_all {Q : Exit → XS → Prop} (e : Exit) (a : Act) (w : World) (h : XQ Γ (onlyN Q) e a w) : XQ Γ Q e a w := by
 obtain ⟨bl, s, h1, h2⟩ := h
 cases e with
 | normal => exact ⟨bl, s, h1, h2⟩
 | _ => exact h2.elim
end
def isRead : Op → Bool
 | .move _ | .assign _ | .pick .. | .build .. | .load .. | .binOp .. | .unOp .. | .convert .. | .slice .. | .fieldAddr .. | .field .. | .indexAddr .. | .index .. | .extract .. | .nilCheck _ | .makeFunc .. => true
 | .call { callee := .builtin .len, .. } | .call { callee := .builtin .min, .. } | .call { callee := .builtin .max, .. } | .call { callee := .builtin .cap, .. } => true
 | _ => false
def isStore : Op → Bool
 | .store .. => true
 | _ => false
def closes (ops : Array Oper) (i : Nat) : Bool := ((ops[i]?).map fun o => isStore o.op || o.after.any fun e => Region.binds .any e && ((ops[e.on]?).map fun o' => isStore o'.op).getD false).getD false
def isPure (op : Op) : Bool := isRead op && match op with
 | .load .. => false
 | _ => true
theorem YieldsIf.weaken {P : Program} {ops : Array Oper} {S S' : World → Prop} {o : Oper} {v : Value} {a : Act} (hS : ∀ w, S' w → S w) (h : YieldsIf P ops S o v a) : YieldsIf P ops S' o v a := by
 rcases h with ⟨h1, h2⟩ | h
 ·exact .inl ⟨h1, fun w hw => h2 w (hS w hw)⟩
 ·exact .inr h
section drawn
variable {P : Program} {ops : Array Oper} {Q : Exit → Act → World → Prop} {S S' : World → Prop}
def wpG (P : Program) (ops : Array Oper) (Q : Exit → Act → World → Prop) : Nat → (World → Prop) → Array Bool → Act → World → Prop
 | 0, _, listed, a, w => Region.ready .any ops listed = [] ∧ Q .normal a w
 | n + 1, S, listed, a, w => (Region.ready .any ops listed = [] → Q .normal a w) ∧
  ∀ i ∈ Region.ready .any ops listed, wpOp P ops Q i (fun a' w' => if closes ops i = true then wpG P ops Q n (fun _ => True) (listed.setIfInBounds i true) a' w' else S w' ∧ wpG P ops Q n S (listed.setIfInBounds i true) a' w') a w
theorem wpG_any : ∀ (n : Nat) (S : World → Prop) (listed : Array Bool) (a : Act) (w : World), wpG P ops Q n S listed a w → wpAny P .any ops Q n listed a w
 | 0, _, _, _, _, h => h
 | n + 1, _, _, _, _, h => ⟨h.1, fun i hi => wpOp_mono (fun a' w' k => by
   split at k
   ·exact wpG_any n _ _ a' w' k
   ·exact wpG_any n _ _ a' w' k.2) (h.2 i hi)⟩
theorem wpG_mono (hS : ∀ w, S' w → S w) : ∀ (n : Nat) (listed : Array Bool) (a : Act) (w : World), wpG P ops Q n S' listed a w → wpG P ops Q n S listed a w
 | 0, _, _, _, h => h
 | n + 1, _, _, _, h => ⟨h.1, fun i hi => wpOp_mono (fun a' w' k => by
   split at k
   ·rename_i hc; rw [if_pos hc]; exact k
   ·rename_i hc; rw [if_neg hc]; exact ⟨hS _ k.1, wpG_mono hS n _ a' w' k.2⟩) (h.2 i hi)⟩
theorem wpG_here {i : Nat} {a : Act} {w : World} {n : Nat} {listed : Array Bool} (hS : S w) (H : wpG P ops Q n S listed a w) : if closes ops i = true then wpG P ops Q n (fun _ => True) listed a w else S w ∧ wpG P ops Q n S listed a w := by
 split
 ·exact wpG_mono (fun _ _ => trivial) n _ a w H
 ·exact ⟨hS, H⟩
theorem ready_wait {listed : Array Bool} {i : Nat} {oj : Oper} {W : List Nat} (iu : listed.getD i true = false) (hW : ∀ j ∈ W, listed.getD j true = false) (hall : ∀ e ∈ oj.after, Region.binds .any e = true → listed.getD e.on false = true) (h : ∃ e ∈ oj.after, Region.binds .any e = true ∧ (e.on = i ∨ e.on ∈ W)) : False := by
 have getF : ∀ k, listed.getD k true = false → listed.getD k false = true → False := by
  intro k h1 h2
  simp only [Array.getD_eq_getD_getElem?] at h1 h2
  cases hx : listed[k]? with
  | none => rw [hx] at h1; cases h1
  | some b => rw [hx] at h1 h2; simp only [Option.getD_some] at h1 h2; rw [h1] at h2; cases h2
 obtain ⟨ed, he, hb, hon⟩ := h
 have h1 := hall ed he hb
 rcases hon with hon | hon
 ·rw [hon] at h1; exact getF i iu h1
 ·exact getF _ (hW _ hon) h1
theorem wpG_take {i : Nat} {oi : Oper} {v : Value} (W : List Nat) (p : Bool) (hi : ops[i]? = some oi) (hsel : Region.noSelect ops = true) (hQ : ∀ c a w, Q (.panic c) (a.put oi.dst v) w → Q (.panic c) a w) :
  ∀ (n : Nat) (S : World → Prop) (listed : Array Bool) (a : Act) (w : World), (∀ j ∈ W, listed.getD j true = false) →
   (∀ j oj, ops[j]? = some oj → j ≠ i → listed.getD j true = false → (j ∈ W ∧ ∃ e ∈ oj.after, Region.binds .any e = true ∧ (e.on = i ∨ e.on ∈ W)) ∨ (j ∉ W ∧ oi.apart ops oj = true ∧ (p = true ∨ closes ops j = false))) →
   i ∈ Region.ready .any ops listed → YieldsIf P ops (fun w => p = true ∨ S w) oi v a → S w → wpG P ops Q n S (listed.setIfInBounds i true) (a.put oi.dst v) w → wpG P ops Q (n + 1) S listed a w := by
 intro n
 induction n with
 | zero =>
  intro S listed a w _ _ hr hy hS H
  refine ⟨fun h => absurd hr (by rw [h]; simp), fun j hj => ?_⟩
  by_cases e : j = i
  ·subst e; exact hy.wpOp hi (.inr hS) (wpG_here hS H)
  ·have := ready_mono hj e; rw [H.1] at this; cases this
 | succ n ih =>
  intro S listed a w hW hf hr hy hS H
  refine ⟨fun h => absurd hr (by rw [h]; simp), fun j hj => ?_⟩
  by_cases e : j = i
  ·subst e; exact hy.wpOp hi (.inr hS) (wpG_here hS H)
  ·obtain ⟨ju, oj, hoj, hall⟩ := mem_ready.1 hj
   have iu := (mem_ready.1 hr).1
   rcases hf j oj hoj e ju with ⟨_, hw⟩ | ⟨hjW, hap, hcl⟩
   ·exact (ready_wait iu hW hall hw).elim
   ·have h2 := wpOp_putIf hoj hap (fun cs b => Region.noSelect_spec hsel i oi cs b hi) (fun cs b => Region.noSelect_spec hsel j oj cs b hoj) hQ hy (H.2 j (ready_mono hj e))
    refine wpOp_mono (fun a' w' k => ?_) h2
    have hW' : ∀ m ∈ W, (listed.setIfInBounds j true).getD m true = false := by
     intro m hm
     have : j ≠ m := fun ejm => hjW (ejm ▸ hm)
     rw [getD_set_ne true this]; exact hW m hm
    have hf' : ∀ m om, ops[m]? = some om → m ≠ i → (listed.setIfInBounds j true).getD m true = false → (m ∈ W ∧ ∃ e ∈ om.after, Region.binds .any e = true ∧ (e.on = i ∨ e.on ∈ W)) ∨ (m ∉ W ∧ oi.apart ops om = true ∧ (p = true ∨ closes ops m = false)) := by
     intro m om hm hmi hmu
     refine hf m om hm hmi ?_
     by_cases ejm : j = m
     ·subst ejm; exact ju
     ·rwa [getD_set_ne true ejm] at hmu
    obtain ⟨k1, k2⟩ := k
    split at k2
    ·rename_i hc
     rw [if_pos hc]
     have hp : p = true := by
      rcases hcl with h | h
      ·exact h
      ·rw [h] at hc; cases hc
     refine ih (fun _ => True) _ a' w' hW' hf' (ready_mono hr (Ne.symm e)) ?_ trivial ?_
     ·refine YieldsIf.weaken ?_ k1
      exact fun _ _ => .inl hp
     ·rw [Array.setIfInBounds_comm _ _ e]; exact k2
    ·rename_i hc
     rw [if_neg hc]
     refine ⟨k2.1, ih S _ a' w' hW' hf' (ready_mono hr (Ne.symm e)) k1 k2.1 ?_⟩
     rw [Array.setIfInBounds_comm _ _ e]; exact k2.2
end drawn
def waitsOf (ops : Array Oper) (listed : Array Bool) (i : Nat) : Nat → List Nat → List Nat
 | 0, l => l
 | n + 1, l => waitsOf ops listed i n (l ++ (List.range ops.size).filter fun j => j != i && !l.contains j && !listed.getD j true && match ops[j]? with
   | some o => o.after.any fun e => Region.binds .any e && (e.on == i || l.contains e.on)
   | none => false)
def freeG (ops : Array Oper) (listed : Array Bool) (i : Nat) : Bool :=
 match ops[i]? with
 | none => false
 | some oi => isRead oi.op && ((waitsOf ops listed i 5 []).all fun j => !listed.getD j true) && (List.range ops.size).all fun j => j == i || listed.getD j true || match ops[j]? with
   | some oj => ((waitsOf ops listed i 5 []).contains j && oj.after.any (fun e => Region.binds .any e && (e.on == i || (waitsOf ops listed i 5 []).contains e.on))) || (!(waitsOf ops listed i 5 []).contains j && oi.apart ops oj && (isPure oi.op || !closes ops j))
   | none => true
inductive Ord where
 | nil
 | lin (l : List Nat) (t : Ord)
 | two (a b : Ord)
def Ord.cons (i : Nat) : Ord → Ord
 | .lin l t => .lin (i :: l) t
 | t => .lin [i] t
def Ord.any : List Ord → Ord
 | [] => .nil
 | [a] => a
 | a :: r => .two a (Ord.any r)
def autoTree (ops : Array Oper) : Nat → Array Bool → Option Ord
 | 0, listed => if Region.ready .any ops listed = [] then some .nil else none
 | n + 1, listed =>
  match Region.ready .any ops listed with
  | [] => some .nil
  | i0 :: rs =>
   match (i0 :: rs).find? (freeG ops listed) with
   | some i => (autoTree ops n (listed.setIfInBounds i true)).map (Ord.cons i)
   | none => ((i0 :: rs).mapM fun i => (autoTree ops n (listed.setIfInBounds i true)).map (Ord.cons i)).map Ord.any
def treeOf (ops : Array Oper) : Option Ord := if Region.noSelect ops then autoTree ops ops.size (Array.replicate ops.size false) else none
def orderOf (ops : Array Oper) : Option (List Nat) := match treeOf ops with
 | some (.lin l .nil) => some l
 | _ => none
def intK (P : Program) (t : TypeId) : Option IntKind := match P.underlying t with | some (.int k) => some k | _ => none
def elemT (P : Program) (t : TypeId) : Option TypeId := match P.underlying t with | some (.slice e) => some e | _ => none
def shapeT (P : Program) (t : TypeId) : Option (Bool × Nat) :=
 match P.underlying t, P.info? t with
 | some (.struct _), some i => some (true, i.size)
 | some (.array _ _), some i => some (true, i.size)
 | some _, some i => some (false, i.size)
 | _, _ => none
def fieldT (P : Program) (t : TypeId) (f : Nat) : Option (Nat × Bool × Nat) :=
 match P.underlying t with
 | some (.struct fs) => match fs[f]? with
  | some x => match shapeT P x.type with
   | some (b, n) => some (x.offset, b, n)
   | none => none
  | none => none
 | _ => none
def zeroT (P : Program) (t : TypeId) : Option (List Value × Nat × Nat) :=
 match P.info? t with
 | some i => match i.zero with | some z => some (z.cells.toList, i.size, i.bytes) | none => none
 | none => none
theorem run_intK {P : Program} {t : TypeId} {k : IntKind} (h : intK P t = some k) (w : World) : (underlying t).run P w = .ok (.int k) w := by
 unfold intK at h
 cases hu : P.underlying t with
 | none => simp [hu] at h
 | some d => cases d <;> simp [hu] at h; subst h; simp [underlying, hu]
theorem und_elem {P : Program} {t e : TypeId} (h : elemT P t = some e) : P.underlying t = some (.slice e) := by
 unfold elemT at h
 cases hu : P.underlying t with
 | none => simp [hu] at h
 | some d => cases d <;> simp [hu] at h; subst h; rfl
theorem run_und {P : Program} {t : TypeId} {d : TypeDesc} (h : P.underlying t = some d) (w : World) : (underlying t).run P w = .ok d w := by simp [underlying, h]
theorem shape_parts {P : Program} {t : TypeId} {b : Bool} {n : Nat} (h : shapeT P t = some (b, n)) : (∀ w, (isAgg t).run P w = .ok b w) ∧ ∀ w, (sizeOf t).run P w = .ok n w := by
 unfold shapeT at h
 cases hu : P.underlying t with
 | none => simp [hu] at h
 | some d =>
  cases hi : P.info? t with
  | none => cases d <;> simp [hu, hi] at h
  | some i => cases d <;> simp [hu, hi] at h <;> (obtain ⟨rfl, rfl⟩ := h; exact ⟨fun w => by simp [isAgg, underlying, hu], fun w => by simp [sizeOf, typeInfo, hi]⟩)
theorem field_parts {P : Program} {t : TypeId} {f off n : Nat} {b : Bool} (h : fieldT P t f = some (off, b, n)) :
  ∃ fs x, P.underlying t = some (.struct fs) ∧ fs[f]? = some x ∧ x.offset = off ∧ shapeT P x.type = some (b, n) := by
 unfold fieldT at h
 cases hu : P.underlying t with
 | none => simp [hu] at h
 | some d =>
  cases d <;> simp [hu] at h
  rename_i fs
  cases hx : fs[f]? with
  | none => simp [hx] at h
  | some x =>
   simp [hx] at h
   cases hs : shapeT P x.type with
   | none => simp [hs] at h
   | some y => obtain ⟨b', n'⟩ := y; simp [hs] at h; obtain ⟨rfl, rfl, rfl⟩ := h; exact ⟨fs, x, rfl, hx, rfl, hs⟩
theorem zero_parts {P : Program} {t : TypeId} {z : List Value} {n b : Nat} (h : zeroT P t = some (z, n, b)) : ∃ i v, P.info? t = some i ∧ i.zero = some v ∧ v.cells.toList = z ∧ i.size = n ∧ i.bytes = b := by
 unfold zeroT at h
 cases hi : P.info? t with
 | none => simp [hi] at h
 | some i =>
  simp [hi] at h
  cases hz : i.zero with
  | none => simp [hz] at h
  | some v => simp [hz] at h; obtain ⟨rfl, rfl, rfl⟩ := h; exact ⟨i, v, rfl, hz, rfl, rfl, rfl⟩
def binV : BinOp → Value → Value → Option Value
 | .shl, .int k a, .int _ b => if b < 0 then none else some (.int k (k.wrap (a * 2 ^ (min b.toNat k.bits))))
 | .shr, .int k a, .int _ b => if b < 0 then none else some (.int k (a.fdiv (2 ^ (min b.toNat k.bits))))
 | .add, .int k a, .int k' b => if k = k' then some (.int k (k.wrap (a + b))) else none
 | .sub, .int k a, .int k' b => if k = k' then some (.int k (k.wrap (a - b))) else none
 | .mul, .int k a, .int k' b => if k = k' then some (.int k (k.wrap (a * b))) else none
 | .quo, .int k a, .int k' b => if k = k' ∧ b ≠ 0 then some (.int k (k.wrap (a.tdiv b))) else none
 | .rem, .int k a, .int k' b => if k = k' ∧ b ≠ 0 then some (.int k (a.tmod b)) else none
 | .and, .int k a, .int k' b => if k = k' then some (.int k (k.wrap ((BitVec.ofInt k.bits a &&& BitVec.ofInt k.bits b).toNat))) else none
 | .or, .int k a, .int k' b => if k = k' then some (.int k (k.wrap ((BitVec.ofInt k.bits a ||| BitVec.ofInt k.bits b).toNat))) else none
 | .eql, .int k a, .int k' b => if k = k' then some (.bool (a == b)) else none
 | .neq, .int k a, .int k' b => if k = k' then some (.bool (a != b)) else none
 | .lss, .int k a, .int k' b => if k = k' then some (.bool (decide (a < b))) else none
 | .leq, .int k a, .int k' b => if k = k' then some (.bool (decide (a ≤ b))) else none
 | .gtr, .int k a, .int k' b => if k = k' then some (.bool (decide (a > b))) else none
 | .geq, .int k a, .int k' b => if k = k' then some (.bool (decide (a ≥ b))) else none
 | _, _, _ => none
theorem binV_run {P : Program} {op : BinOp} {a b r : Value} (h : binV op a b = some r) (t : TypeId) (x y : Operand) (w : World) : (do eqGuard op t x y a b; binOp op t a b : Sem Value).run P w = .ok r w := by
 cases a <;> (try (cases op <;> simp [binV] at h; done))
 cases b <;> (try (cases op <;> simp [binV] at h; done))
 rename_i k a k' b
 have hg : ∀ op, eqGuard op t x y (.int k a) (.int k' b) = pure () := fun op => by unfold eqGuard; cases op <;> rfl
 rw [hg]
 cases op <;> simp [binV] at h <;> (try (obtain ⟨rfl, h⟩ := h)) <;> (try (obtain ⟨⟨rfl, hb⟩, h⟩ := h)) <;> (try (obtain ⟨hb, rfl⟩ := h)) <;> (try subst h) <;>
  (try simp [binOp, Op.intArith, Op.intCmp, Op.intBits]; done) <;> (try simp [binOp, Op.intDiv, hb]; done) <;>
  (have hb' : ¬ b < 0 := by omega) <;> simp [binOp, Op.shift, hb']
def isOne : Value → Bool
 | .agg _ | .tuple _ => false
 | _ => true
theorem isOne_oneCell (v : Value) : v.oneCell' = isOne v := by cases v <;> rfl
def kindT (P : Program) (t : TypeId) : Nat := match P.underlying t with | some .bool => 1 | some (.slice _) => 2 | some .string => 3 | _ => 0
theorem kind_bool {P : Program} {t : TypeId} (h : kindT P t = 1) : P.underlying t = some .bool := by
 unfold kindT at h; cases hu : P.underlying t with
 | none => simp [hu] at h
 | some d => cases d <;> simp [hu] at h; rfl
theorem kind_slice {P : Program} {t : TypeId} (h : kindT P t = 2) : ∃ e, P.underlying t = some (.slice e) := by
 unfold kindT at h; cases hu : P.underlying t with
 | none => simp [hu] at h
 | some d => cases d <;> simp [hu] at h; exact ⟨_, rfl⟩
def cmpV (kind : Nat) : BinOp → Value → Value → Option Value
 | .eql, .bool a, .bool b => if kind = 1 then some (.bool (a == b)) else none
 | .neq, .bool a, .bool b => if kind = 1 then some (.bool (a != b)) else none
 | .eql, .slice a _ _, .slice none _ _ => if kind = 2 then some (.bool a.isNone) else none
 | .neq, .slice a _ _, .slice none _ _ => if kind = 2 then some (.bool (!a.isNone)) else none
 | _, _, _ => none
theorem kind_string {P : Program} {t : TypeId} (h : kindT P t = 3) : P.underlying t = some .string := by
 unfold kindT at h; cases hu : P.underlying t with
 | none => simp [hu] at h
 | some d => cases d <;> simp [hu] at h; rfl
theorem run_equal_bool {P : Program} {t : TypeId} (h : P.underlying t = some .bool) (a b : Bool) (w : World) : (Op.equal t (.bool a) (.bool b)).run P w = .ok (a == b) w := by
 have : ∀ d, (Op.equalIn (d + 1) t (.bool a) (.bool b)).run P w = .ok (a == b) w := fun d => by simp [Op.equalIn, run_und h]
 exact this 9999
theorem run_equal_nil {P : Program} {t e : TypeId} (h : P.underlying t = some (.slice e)) (a : Option Addr) (n c m k : Nat) (w : World) : (Op.equal t (.slice a n c) (.slice none m k)).run P w = .ok a.isNone w := by
 have : ∀ d, (Op.equalIn (d + 1) t (.slice a n c) (.slice none m k)).run P w = .ok a.isNone w := fun d => by cases a <;> simp [Op.equalIn, run_und h]
 exact this 9999
theorem cmpV_run {P : Program} {op : BinOp} {t : TypeId} {a b r : Value} (h : cmpV (kindT P t) op a b = some r) (x y : Operand) (w : World) : (do eqGuard op t x y a b; binOp op t a b : Sem Value).run P w = .ok r w := by
 unfold cmpV at h
 split at h
 ·split at h <;> simp at h
  rename_i hk; subst h
  simp [eqGuard, binOp, run_equal_bool (kind_bool hk)]
 ·split at h <;> simp at h
  rename_i hk; subst h
  rename_i a b; cases a <;> cases b <;> simp [eqGuard, binOp, run_equal_bool (kind_bool hk)]
 ·split at h <;> simp at h
  rename_i hk; subst h
  obtain ⟨e, he⟩ := kind_slice hk
  simp [eqGuard, binOp, run_equal_nil he]
 ·split at h <;> simp at h
  rename_i hk; subst h
  obtain ⟨e, he⟩ := kind_slice hk
  simp [eqGuard, binOp, run_equal_nil he]
 ·cases h
def CellAt (H : Heap) (V : View) (b off : Nat) (v : Value) : Prop := (∃ r, H b = some r ∧ r.vs[off]? = some v) ∨ (∃ arr ty fr, V b = some (.cells arr ty fr) ∧ arr[off]? = some v)
def Loads (P : Program) (H : Heap) (V : View) (ty : TypeId) (b off : Nat) (v : Value) : Prop :=
 ∃ ag n, shapeT P ty = some (ag, n) ∧ ((ag = true ∧ ∃ cs : List Value, cs.length = n ∧ (∀ j u, cs[j]? = some u → CellAt H V b (off + j) u) ∧ v = .agg cs.toArray) ∨ (ag = false ∧ CellAt H V b off v))
def sliceV (A : Option Addr) (c sz l h : Nat) : Value := .slice (if c = l then A else A.map (·.add (l * sz))) (h - l) (c - l)
theorem sliceV_zero (A : Option Addr) (c sz h : Nat) : sliceV A c sz 0 h = .slice A h c := by
 unfold sliceV
 have : (fun x : Addr => x.add 0) = id := by funext x; simp [Addr.add]
 simp [this]
def bndV (s : XS) : Option Operand → Nat → Option Int
 | none, d => some d
 | some o, _ => match s.ev o with | .v (.int _ i) => some i | _ => none
def fieldV (cs : Array Value) : Option (Nat × Bool × Nat) → Option Value
 | some (off, true, n) => some (.agg (cs.extract off (off + n)))
 | some (off, false, _) => cs[off]?
 | none => none
def BuildsTo (P : Program) (t : TypeId) (ps : Array (Nat × Value)) (v : Value) : Prop := ∀ w, (Instr.build t ps).run P w = .ok v w
def SV.val : SV → Value
 | .v x => x
 | .p _ _ => undef
def SV.isV : SV → Bool
 | .v _ => true
 | .p _ _ => false
def unV : UnOp → Value → Option Value
 | .not, .bool b => some (.bool (!b))
 | .neg, .int k n => some (.int k (k.wrap (0 - n)))
 | _, _ => none
def arrO (P : Program) (t : TypeId) : Option (Nat × Nat) := match P.underlying t with
 | some (.array n e) => match shapeT P e with
  | some (_, z) => some (n, z)
  | none => none
 | _ => none
theorem arr_parts {P : Program} {t : TypeId} {n z : Nat} (h : arrO P t = some (n, z)) : ∃ e, P.underlying t = some (.array n e) ∧ ∃ b, shapeT P e = some (b, z) := by
 unfold arrO at h
 split at h
 ·rename_i n' e hu
  split at h
  ·rename_i b z' hs
   cases h
   exact ⟨e, hu, b, hs⟩
  ·cases h
 ·cases h
theorem arr_none {P : Program} {t e : TypeId} (h : elemT P t = some e) : arrO P t = none := by
 unfold arrO
 unfold elemT at h
 split
 ·rename_i n e hu
  rw [hu] at h; cases h
 ·rfl
def BinRun (P : Program) (op : BinOp) (t : TypeId) (a b r : Value) : Prop := ∀ (x y : Operand) (w : World), (do eqGuard op t x y a b; binOp op t a b : Sem Value).run P w = .ok r w
def readX (P : Program) (s : XS) (op : Op) (k : SV → Prop) : Prop :=
 match op with
 | .move x | .assign x => k (s.ev x)
 | .pick c a b => match s.ev c with
  | .v (.bool t) => k (if t then s.ev a else s.ev b)
  | _ => False
 | .binOp op ty x y _ => match s.ev x, s.ev y with
  | .v a, .v b => match binV op a b with
   | some r => k (.v r)
   | none => match cmpV (kindT P ty) op a b with
    | some r => k (.v r)
    | none => ∃ r, BinRun P op ty a b r ∧ k (.v r)
  | _, _ => False
 | .unOp op _ x => match s.ev x with
  | .v a => match unV op a with
   | some r => k (.v r)
   | none => False
  | _ => False
 | .convert src dst x => match s.ev x with
  | .v (.int _ n) => match intK P src, intK P dst with
   | some _, some d => k (.v (.int d (d.wrap n)))
   | _, _ => False
  | _ => False
 | .fieldAddr ty x f => match fieldT P ty f with
  | some (fo, _, n) => n ≠ 0 ∧ match s.ev x with
   | .p i off => k (.p i (off + fo))
   | .v (.pointer (some ⟨b, off, none⟩)) => k (.v (.pointer (some ⟨b, off + fo, none⟩)))
   | _ => False
  | none => False
 | .indexAddr ty x i => match s.ev x, s.ev i, elemT P ty with
  | .v (.slice (some ⟨b, off, none⟩) n _), .v (.int _ j), some e => match shapeT P e with
   | some (_, sz) => 0 ≤ j ∧ j < n ∧ k (.v (.pointer (some ⟨b, off + j.toNat * sz, none⟩)))
   | none => False
  | .p b off, .v (.int _ j), none => match arrO P ty with
   | some (n, z) => 0 ≤ j ∧ j < n ∧ k (.p b (off + j.toNat * z))
   | none => False
  | _, _, _ => False
 | .load ty x => match s.ev x with
  | .p i off => match s.bx[i]?, shapeT P ty with
   | some vs, some (true, n) => off + n ≤ vs.length ∧ k (.v (.agg ((vs.drop off).take n).toArray))
   | some vs, some (false, _) => match vs[off]? with
    | some u => k (.v u)
    | none => False
   | _, _ => False
  | .v (.pointer (some ⟨b, off, none⟩)) => ∃ v, Loads P s.H s.V ty b off v ∧ k (.v v)
  | _ => False
 | .slice ty x lo hi none => match s.ev x, elemT P ty with
  | .v (.slice A n c), some e => match shapeT P e, bndV s lo 0, bndV s hi n with
   | some (_, sz), some l, some h => 0 ≤ l ∧ l ≤ h ∧ h ≤ c ∧ k (.v (sliceV A c sz l.toNat h.toNat))
   | _, _, _ => False
  | _, _ => False
 | .field ty x f => match s.ev x with
  | .v (.agg cs) => match fieldV cs (fieldT P ty f) with
   | some v => k (.v v)
   | none => False
  | _ => False
 | .extract x i => match s.ev x with
  | .v (.tuple vs) => match vs[i]? with
   | some v => k (.v v)
   | none => False
  | _ => False
 | .index ty x i => match s.ev x, s.ev i with
  | .v (.string b), .v (.int _ j) => kindT P ty = 3 ∧ 0 ≤ j ∧ ∃ c, b[j.toNat]? = some c ∧ k (.v (.int .u8 (c.toNat : Int)))
  | _, _ => False
 | .build t parts => (parts.all fun q => (s.ev q.2).isV) = true ∧ ∃ v, BuildsTo P t (parts.map fun q => (q.1, (s.ev q.2).val)) v ∧ k (.v v)
 | .nilCheck x => match s.ev x with
  | .p i o => k (.p i o)
  | .v (.pointer (some a)) => k (.v (.pointer (some a)))
  | _ => False
 | .makeFunc fn fi ca => (fi.all fun q => (s.ev q).isV) = true ∧ (ca.all fun q => (s.ev q).isV) = true ∧ k (.v (.func fn (fi.map fun q => (s.ev q).val) (ca.map fun q => (s.ev q).val)))
 | .call c => match c.callee, c.args.toList, c.argTypes.toList with
  | .builtin .len, [x], [ty] => match s.ev x with
   | .v (.slice _ n _) => kindT P ty = 2 ∧ k (.v (.int .i64 n))
   | _ => False
  | .builtin .min, [x, y], _ => match s.ev x, s.ev y with
   | .v (.int q a), .v (.int _ b) => k (.v (.int q (if b < a then b else a)))
   | _, _ => False
  | .builtin .max, [x, y], _ => match s.ev x, s.ev y with
   | .v (.int q a), .v (.int _ b) => k (.v (.int q (if b > a then b else a)))
   | _, _ => False
  | _, _, _ => False
 | _ => False
def Rd (P : Program) (o : Oper) (s : XS) (sv : SV) : Prop :=
 sv.ok s.bx.length ∧ ∀ (Γ : Cx) (bl : Nat → Nat) (a : Act) (w : World), a.tmps = (s.t.map (SV.conc bl)).toArray → CW Γ bl s.bx s.H s.V w → (execOp a.eval o).run P w = .ok (.value (sv.conc bl)) w
theorem cell_of {Γ : Cx} {bl : Nat → Nat} {s : XS} {w : World} (h : CW Γ bl s.bx s.H s.V w) {b off : Nat} {v : Value} (hc : CellAt s.H s.V b off v) : w.cell? ⟨b, off, none⟩ = some v := by
 rcases hc with ⟨r, hr, hv⟩ | ⟨arr, ty, fr, hV, hv⟩
 ·obtain ⟨ex, hh, _⟩ := h.row b r hr
  have hlt : off < r.vs.length := by
   rcases Nat.lt_or_ge off r.vs.length with h1 | h1
   ·exact h1
   ·rw [List.getElem?_eq_none h1] at hv; cases hv
  simp only [World.cell?, hh]
  simp [List.getElem?_append_left hlt, hv]
 ·simp [World.cell?, h.view b _ hV, hv]
theorem boxcell_of {Γ : Cx} {bl : Nat → Nat} {s : XS} {w : World} (h : CW Γ bl s.bx s.H s.V w) {i off : Nat} {vs : List Value} {v : Value} (hb : s.bx[i]? = some vs) (hv : vs[off]? = some v) : w.cell? ⟨bl i, off, none⟩ = some v := by
 obtain ⟨ty, hh⟩ := h.box i vs hb
 simp [World.cell?, hh, hv]
theorem addr_add (b off n : Nat) : (⟨b, off, none⟩ : Addr).add n = ⟨b, off + n, none⟩ := by unfold Addr.add; split <;> simp_all
theorem ev_conc {bl : Nat → Nat} {s : XS} {a : Act} (h : a.tmps = (s.t.map (SV.conc bl)).toArray) (x : Operand) : a.eval x = (s.ev x).conc bl := by
 cases x with
 | tmp t =>
  simp only [Act.eval, XS.ev, h]
  simp only [Array.getD_eq_getD_getElem?, List.getElem?_toArray, List.getElem?_map, List.getD_eq_getElem?_getD]
  cases s.t[t]? <;> rfl
 | _ => rfl
theorem run_loadVar_list {P : Program} {ty : TypeId} {n : Nat} (hs : shapeT P ty = some (true, n)) (w : World) (ad : Addr) (cs : List Value) (hl : cs.length = n) (hc : ∀ j u, cs[j]? = some u → w.cell? (ad.add j) = some u) : (loadVar ty ad).run P w = .ok (.agg cs.toArray) w := by
 obtain ⟨h1, h2⟩ := shape_parts hs
 subst hl
 have := run_loadCells_list (P := P) w ad cs hc
 simp [loadVar, h1, h2, this]
theorem run_loadVar_cell {P : Program} {ty : TypeId} {n : Nat} (hs : shapeT P ty = some (false, n)) (w : World) (ad : Addr) (v : Value) (hc : w.cell? ad = some v) : (loadVar ty ad).run P w = .ok v w := by
 obtain ⟨h1, h2⟩ := shape_parts hs
 simp [loadVar, h1, hc]
theorem run_bound {P : Program} {i : Int} {k : IntKind} {y : Nat} {code : BoundsCode} (w : World) (h0 : 0 ≤ i) (h1 : i ≤ y) : (Instr.sliceBound (.int k i) y code).run P w = .ok i.toNat w := by
 simp [Instr.sliceBound, asIntOf, h0, h1]
theorem map_val {s : XS} {bl : Nat → Nat} {a : Act} (ht : a.tmps = (s.t.map (SV.conc bl)).toArray) {xs : Array Operand} (h : (xs.all fun q => (s.ev q).isV) = true) : xs.map a.eval = xs.map fun q => (s.ev q).val := by
 refine Array.map_congr_left fun q hq => ?_
 have := Array.all_eq_true_iff_forall_mem.1 h _ hq
 rw [ev_conc ht]
 cases hx : s.ev q with
 | v y => rfl
 | p i o => simp [hx, SV.isV] at this
theorem readX_sound {P : Program} {s : XS} {o : Oper} {k : SV → Prop} (hok : ∀ y ∈ s.t, y.ok s.bx.length) (h : readX P s o.op k) : ∃ sv, Rd P o s sv ∧ k sv := by
 obtain ⟨dst, op, type, pos, after, guard⟩ := o
 dsimp only at h
 unfold readX at h
 split at h
 ·exact ⟨_, ⟨ev_ok hok _, fun Γ bl (a : Act) w ht _ => by simp [execOp, ev_conc ht]⟩, h⟩
 ·exact ⟨_, ⟨ev_ok hok _, fun Γ bl (a : Act) w ht _ => by simp [execOp, ev_conc ht]⟩, h⟩
 ·rename_i c x y
  split at h
  ·rename_i t e
   refine ⟨_, ⟨?_, fun Γ bl (a : Act) w ht _ => ?_⟩, h⟩
   ·split <;> exact ev_ok hok _
   ·simp only [execOp, ev_conc ht, e, SV.conc]; cases t <;> simp [asBool]
  ·exact h.elim
 ·rename_i op ty x y yt
  split at h
  ·rename_i va vb ea eb
   split at h
   ·rename_i r er
    refine ⟨.v _, ⟨trivial, fun Γ bl (a : Act) w ht _ => ?_⟩, h⟩
    have := binV_run (P := P) er ty x y w
    simp only [execOp, ev_conc ht, ea, eb, SV.conc]
    rw [Sem.run_bind, this]; rfl
   ·split at h
    ·rename_i r er
     refine ⟨.v _, ⟨trivial, fun Γ bl (a : Act) w ht _ => ?_⟩, h⟩
     have := cmpV_run (P := P) er x y w
     simp only [execOp, ev_conc ht, ea, eb, SV.conc]
     rw [Sem.run_bind, this]; rfl
    ·obtain ⟨r, hr, h⟩ := h
     refine ⟨.v _, ⟨trivial, fun Γ bl (a : Act) w ht _ => ?_⟩, h⟩
     have := hr x y w
     simp only [execOp, ev_conc ht, ea, eb, SV.conc]
     rw [Sem.run_bind, this]; rfl
  ·exact h.elim
 ·rename_i op t x
  split at h
  ·rename_i va ea
   split at h
   ·rename_i r er
    refine ⟨.v _, ⟨trivial, fun Γ bl (a : Act) w ht _ => ?_⟩, h⟩
    simp only [execOp, ev_conc ht, ea, SV.conc]
    cases op <;> cases va <;> simp [unV] at er <;> subst er <;> simp [Op.unary, Op.intArith]
   ·exact h.elim
  ·exact h.elim
 ·rename_i src dst x
  split at h
  ·rename_i kk n ea
   split at h
   ·rename_i d1 d e1 e2
    refine ⟨.v _, ⟨trivial, fun Γ bl (a : Act) w ht _ => ?_⟩, h⟩
    simp [execOp, ev_conc ht, ea, SV.conc, convert, run_intK e1, run_intK e2, Conv.intToInt]
   ·exact h.elim
  ·exact h.elim
 ·rename_i ty x f
  split at h
  ·rename_i fo b n ef
   obtain ⟨hn, h⟩ := h
   obtain ⟨fs, fx, hu, hf, ho, hsh⟩ := field_parts ef
   obtain ⟨_, hsz⟩ := shape_parts hsh
   split at h
   ·rename_i i off ex
    refine ⟨_, ⟨by have := ev_ok hok x; rw [ex] at this; exact this, fun Γ bl (a : Act) w ht _ => ?_⟩, h⟩
    simp [execOp, ev_conc ht, ex, SV.conc, Instr.fieldAt, run_und hu, hf, Instr.sureAddr, fieldPlace, hsz, hn, addr_add, ho]
   ·rename_i b' off ex
    refine ⟨.v _, ⟨trivial, fun Γ bl (a : Act) w ht _ => ?_⟩, h⟩
    simp [execOp, ev_conc ht, ex, SV.conc, Instr.fieldAt, run_und hu, hf, Instr.sureAddr, fieldPlace, hsz, hn, addr_add, ho]
   ·exact h.elim
  ·exact h.elim
 ·rename_i ty x i
  split at h
  ·rename_i b off n c kk j e ex ei ee
   split at h
   ·rename_i bb sz es
    obtain ⟨h0, h1, h⟩ := h
    obtain ⟨_, hsz⟩ := shape_parts es
    refine ⟨.v _, ⟨trivial, fun Γ bl (a : Act) w ht _ => ?_⟩, h⟩
    simp [execOp, ev_conc ht, ex, ei, SV.conc, Instr.indexAt, asIntOf, run_und (und_elem ee), h0, h1, hsz, addr_add]
   ·exact h.elim
  ·rename_i b off kk j ex ei ee
   split at h
   ·rename_i n z ea
    obtain ⟨h0, h1, h⟩ := h
    obtain ⟨e, hu, bb, es⟩ := arr_parts ea
    obtain ⟨_, hsz⟩ := shape_parts es
    refine ⟨_, ⟨by have := ev_ok hok x; rw [ex] at this; exact this, fun Γ bl (a : Act) w ht _ => ?_⟩, h⟩
    simp [execOp, ev_conc ht, ex, ei, SV.conc, Instr.indexAt, Instr.sureAddr, asIntOf, run_und hu, h0, h1, hsz, addr_add]
   ·exact h.elim
  ·exact h.elim
 ·rename_i ty x
  split at h
  ·rename_i i off ex
   split at h
   ·rename_i vs n eb es
    obtain ⟨hl, h⟩ := h
    refine ⟨.v _, ⟨trivial, fun Γ bl (a : Act) w ht hw => ?_⟩, h⟩
    have hr := run_loadVar_list es w ⟨bl i, off, none⟩ ((vs.drop off).take n) (by simp; omega) (fun j u hu => by
     rw [addr_add]
     refine boxcell_of hw eb ?_
     rw [List.getElem?_take] at hu
     split at hu
     ·rw [List.getElem?_drop] at hu; exact hu
     ·cases hu)
    simp only [execOp, ev_conc ht, ex, SV.conc, Instr.loadAt, Instr.sureAddr]
    simp [hr]
   ·rename_i vs n eb es
    split at h
    ·rename_i u eu
     refine ⟨.v _, ⟨trivial, fun Γ bl (a : Act) w ht hw => ?_⟩, h⟩
     have hr := run_loadVar_cell es w ⟨bl i, off, none⟩ u (boxcell_of hw eb eu)
     simp only [execOp, ev_conc ht, ex, SV.conc, Instr.loadAt, Instr.sureAddr]
     simp [hr]
    ·exact h.elim
   ·exact h.elim
  ·rename_i b off ex
   obtain ⟨v, ⟨ag, n, es, hL⟩, h⟩ := h
   refine ⟨.v _, ⟨trivial, fun Γ bl (a : Act) w ht hw => ?_⟩, h⟩
   simp only [execOp, ev_conc ht, ex, SV.conc, Instr.loadAt, Instr.sureAddr]
   rcases hL with ⟨rfl, cs, hl, hc, rfl⟩ | ⟨rfl, hc⟩
   ·have hr := run_loadVar_list es w ⟨b, off, none⟩ cs hl (fun j u hu => by rw [addr_add]; exact cell_of hw (hc j u hu))
    simp [hr]
   ·have hr := run_loadVar_cell es w ⟨b, off, none⟩ v (cell_of hw hc)
    simp [hr]
  ·exact h.elim
 ·rename_i ty x lo hi
  split at h
  ·rename_i A n c e ex ee
   split at h
   ·rename_i bb sz l hh es el eh
    obtain ⟨h0, h1, h2, h⟩ := h
    obtain ⟨_, hsz⟩ := shape_parts es
    refine ⟨.v _, ⟨trivial, fun Γ bl (a : Act) w ht _ => ?_⟩, h⟩
    have hhi : ∃ hv : Option Value, hi.map a.eval = hv ∧ (hv = none ∧ hh = (n : Int) ∨ ∃ kk, hv = some (.int kk hh)) := by
     cases hi with
     | none => simp [bndV] at eh; exact ⟨none, rfl, .inl ⟨rfl, eh.symm⟩⟩
     | some q =>
      simp only [bndV] at eh
      split at eh
      ·rename_i kk ii eq; cases eh; exact ⟨_, rfl, .inr ⟨kk, by simp [ev_conc ht, eq, SV.conc]⟩⟩
      ·cases eh
    have hlo : ∃ lv : Option Value, lo.map a.eval = lv ∧ (lv = none ∧ l = 0 ∨ ∃ kk, lv = some (.int kk l)) := by
     cases lo with
     | none => simp [bndV] at el; exact ⟨none, rfl, .inl ⟨rfl, el.symm⟩⟩
     | some q =>
      simp only [bndV] at el
      split at el
      ·rename_i kk ii eq; cases el; exact ⟨_, rfl, .inr ⟨kk, by simp [ev_conc ht, eq, SV.conc]⟩⟩
      ·cases el
    obtain ⟨hv, ehv, hhv⟩ := hhi
    obtain ⟨lv, elv, hlv⟩ := hlo
    have hb : ((hh.toNat : Nat) : Int) = hh := Int.toNat_of_nonneg (by omega)
    have h0h : (0 : Int) ≤ hh := by omega
    have e1 : ∀ w, (Instr.sliceBounds true n c lv hv none).run P w = .ok (l.toNat, hh.toNat, c) w := by
     intro w
     rcases hhv with ⟨rfl, rfl⟩ | ⟨kk, rfl⟩ <;> rcases hlv with ⟨rfl, rfl⟩ | ⟨kk', rfl⟩ <;> simp [Instr.sliceBounds, run_bound, h0, h1, h2, hb, h0h]
     all_goals (try (rw [run_bound w h0 (by omega)])) <;> simp
    simp only [execOp, ev_conc ht, ex, SV.conc, ehv, elv, Option.map_none, Instr.sliceAt]
    simp [run_und (und_elem ee), Instr.slice, e1, hsz, sliceV]
   ·exact h.elim
  ·exact h.elim
 ·rename_i ty x f
  split at h
  ·rename_i cs ex
   split at h
   ·rename_i v ev
    refine ⟨.v _, ⟨trivial, fun Γ bl (a : Act) w ht _ => ?_⟩, h⟩
    cases ef : fieldT P ty f with
    | none => simp [ef, fieldV] at ev
    | some q =>
     obtain ⟨off, b, n⟩ := q
     obtain ⟨fs, fx, hu, hf, ho, hsh⟩ := field_parts ef
     obtain ⟨hag, hsz⟩ := shape_parts hsh
     rw [ef] at ev
     cases b <;> simp only [fieldV] at ev
     ·simp [execOp, ev_conc ht, ex, SV.conc, Instr.field, run_und hu, hf, asAgg, part, hag, hsz, ho, ev]
     ·cases ev
      simp [execOp, ev_conc ht, ex, SV.conc, Instr.field, run_und hu, hf, asAgg, part, hag, hsz, ho]
   ·exact h.elim
  ·exact h.elim
 ·rename_i x i
  split at h
  ·rename_i vs ex
   split at h
   ·rename_i v ev
    refine ⟨.v _, ⟨trivial, fun Γ bl (a : Act) w ht _ => ?_⟩, h⟩
    simp [execOp, ev_conc ht, ex, SV.conc, Instr.extract, ev]
   ·exact h.elim
  ·exact h.elim
 ·rename_i ty x i
  split at h
  ·rename_i b kk j ex ei
   obtain ⟨hk, h0, c, hc, h⟩ := h
   refine ⟨.v _, ⟨trivial, fun Γ bl (a : Act) w ht _ => ?_⟩, h⟩
   simp [execOp, ev_conc ht, ex, ei, SV.conc, Instr.index, asIntOf, run_und (kind_string hk), h0, hc]
  ·exact h.elim
 ·rename_i t parts
  obtain ⟨hall, v, hb, h⟩ := h
  refine ⟨.v _, ⟨trivial, fun Γ bl (a : Act) w ht _ => ?_⟩, h⟩
  have e : (parts.map fun (i, x) => (i, a.eval x)) = parts.map fun q => (q.1, (s.ev q.2).val) := by
   refine Array.map_congr_left fun q hq => ?_
   obtain ⟨i, x⟩ := q
   have := Array.all_eq_true_iff_forall_mem.1 hall _ hq
   simp only [ev_conc ht]
   cases hx : s.ev x with
   | v y => rfl
   | p i o => simp [hx, SV.isV] at this
  simp only [execOp]
  rw [e]
  have hb' := hb w
  simp [hb']; rfl
 ·rename_i x
  split at h
  ·rename_i i off ex
   refine ⟨_, ⟨by have := ev_ok hok x; rw [ex] at this; exact this, fun Γ bl (a : Act) w ht _ => ?_⟩, h⟩
   simp [execOp, ev_conc ht, ex, SV.conc]
  ·rename_i ad ex
   refine ⟨.v _, ⟨trivial, fun Γ bl (a : Act) w ht _ => ?_⟩, h⟩
   simp [execOp, ev_conc ht, ex, SV.conc]
  ·exact h.elim
 ·rename_i fn fi ca
  obtain ⟨h1, h2, h⟩ := h
  refine ⟨.v _, ⟨trivial, fun Γ bl (a : Act) w ht _ => ?_⟩, h⟩
  simp [execOp, map_val ht h1, map_val ht h2, SV.conc, Instr.makeFunc]
 ·rename_i cl
  obtain ⟨callee, args, argTypes⟩ := cl
  dsimp only at h
  split at h
  ·rename_i x ty eargs etys
   split at h
   ·rename_i A n c ex
    obtain ⟨hk, h⟩ := h
    obtain ⟨e, he⟩ := kind_slice hk
    refine ⟨.v _, ⟨trivial, fun Γ bl (a : Act) w ht _ => ?_⟩, h⟩
    have e1 : args = #[x] := Array.toList_inj.1 eargs
    have e2 : argTypes = #[ty] := Array.toList_inj.1 etys
    simp [execOp, ev_conc ht, ex, e1, e2, SV.conc, resolve, invoke, builtin, Builtin.len_, run_und he, goInt]
   ·exact h.elim
  ·rename_i _ _ x y eargs
   split at h
   ·rename_i q va q' vb ex ey
    refine ⟨.v _, ⟨trivial, fun Γ bl (a : Act) w ht _ => ?_⟩, h⟩
    have e1 : args = #[x, y] := Array.toList_inj.1 eargs
    simp [execOp, ev_conc ht, ex, ey, e1, SV.conc, resolve, invoke, builtin, Builtin.min_, Builtin.min2]
   ·exact h.elim
  ·rename_i _ _ x y eargs
   split at h
   ·rename_i q va q' vb ex ey
    refine ⟨.v _, ⟨trivial, fun Γ bl (a : Act) w ht _ => ?_⟩, h⟩
    have e1 : args = #[x, y] := Array.toList_inj.1 eargs
    simp [execOp, ev_conc ht, ex, ey, e1, SV.conc, resolve, invoke, builtin, Builtin.max_, Builtin.max2]
   ·exact h.elim
  ·exact h.elim
 ·exact h.elim
theorem readX_pure {P : Program} {s : XS} {o : Oper} {k : SV → Prop} (hp : isPure o.op = true) (hok : ∀ y ∈ s.t, y.ok s.bx.length) (h : readX P s o.op k) : ∃ sv, (sv.ok s.bx.length ∧ ∀ (bl : Nat → Nat) (a : Act) (w : World), a.tmps = (s.t.map (SV.conc bl)).toArray → (execOp a.eval o).run P w = .ok (.value (sv.conc bl)) w) ∧ k sv := by
 obtain ⟨dst, op, type, pos, after, guard⟩ := o
 dsimp only at h hp
 unfold readX at h
 split at h
 ·exact ⟨_, ⟨ev_ok hok _, fun bl (a : Act) w ht => by simp [execOp, ev_conc ht]⟩, h⟩
 ·exact ⟨_, ⟨ev_ok hok _, fun bl (a : Act) w ht => by simp [execOp, ev_conc ht]⟩, h⟩
 ·rename_i c x y
  split at h
  ·rename_i t e
   refine ⟨_, ⟨?_, fun bl (a : Act) w ht => ?_⟩, h⟩
   ·split <;> exact ev_ok hok _
   ·simp only [execOp, ev_conc ht, e, SV.conc]; cases t <;> simp [asBool]
  ·exact h.elim
 ·rename_i op ty x y yt
  split at h
  ·rename_i va vb ea eb
   split at h
   ·rename_i r er
    refine ⟨.v _, ⟨trivial, fun bl (a : Act) w ht => ?_⟩, h⟩
    have := binV_run (P := P) er ty x y w
    simp only [execOp, ev_conc ht, ea, eb, SV.conc]
    rw [Sem.run_bind, this]; rfl
   ·split at h
    ·rename_i r er
     refine ⟨.v _, ⟨trivial, fun bl (a : Act) w ht => ?_⟩, h⟩
     have := cmpV_run (P := P) er x y w
     simp only [execOp, ev_conc ht, ea, eb, SV.conc]
     rw [Sem.run_bind, this]; rfl
    ·obtain ⟨r, hr, h⟩ := h
     refine ⟨.v _, ⟨trivial, fun bl (a : Act) w ht => ?_⟩, h⟩
     have := hr x y w
     simp only [execOp, ev_conc ht, ea, eb, SV.conc]
     rw [Sem.run_bind, this]; rfl
  ·exact h.elim
 ·rename_i op t x
  split at h
  ·rename_i va ea
   split at h
   ·rename_i r er
    refine ⟨.v _, ⟨trivial, fun bl (a : Act) w ht => ?_⟩, h⟩
    simp only [execOp, ev_conc ht, ea, SV.conc]
    cases op <;> cases va <;> simp [unV] at er <;> subst er <;> simp [Op.unary, Op.intArith]
   ·exact h.elim
  ·exact h.elim
 ·rename_i src dst x
  split at h
  ·rename_i kk n ea
   split at h
   ·rename_i d1 d e1 e2
    refine ⟨.v _, ⟨trivial, fun bl (a : Act) w ht => ?_⟩, h⟩
    simp [execOp, ev_conc ht, ea, SV.conc, convert, run_intK e1, run_intK e2, Conv.intToInt]
   ·exact h.elim
  ·exact h.elim
 ·rename_i ty x f
  split at h
  ·rename_i fo b n ef
   obtain ⟨hn, h⟩ := h
   obtain ⟨fs, fx, hu, hf, ho, hsh⟩ := field_parts ef
   obtain ⟨_, hsz⟩ := shape_parts hsh
   split at h
   ·rename_i i off ex
    refine ⟨_, ⟨by have := ev_ok hok x; rw [ex] at this; exact this, fun bl (a : Act) w ht => ?_⟩, h⟩
    simp [execOp, ev_conc ht, ex, SV.conc, Instr.fieldAt, run_und hu, hf, Instr.sureAddr, fieldPlace, hsz, hn, addr_add, ho]
   ·rename_i b' off ex
    refine ⟨.v _, ⟨trivial, fun bl (a : Act) w ht => ?_⟩, h⟩
    simp [execOp, ev_conc ht, ex, SV.conc, Instr.fieldAt, run_und hu, hf, Instr.sureAddr, fieldPlace, hsz, hn, addr_add, ho]
   ·exact h.elim
  ·exact h.elim
 ·rename_i ty x i
  split at h
  ·rename_i b off n c kk j e ex ei ee
   split at h
   ·rename_i bb sz es
    obtain ⟨h0, h1, h⟩ := h
    obtain ⟨_, hsz⟩ := shape_parts es
    refine ⟨.v _, ⟨trivial, fun bl (a : Act) w ht => ?_⟩, h⟩
    simp [execOp, ev_conc ht, ex, ei, SV.conc, Instr.indexAt, asIntOf, run_und (und_elem ee), h0, h1, hsz, addr_add]
   ·exact h.elim
  ·rename_i b off kk j ex ei ee
   split at h
   ·rename_i n z ea
    obtain ⟨h0, h1, h⟩ := h
    obtain ⟨e, hu, bb, es⟩ := arr_parts ea
    obtain ⟨_, hsz⟩ := shape_parts es
    refine ⟨_, ⟨by have := ev_ok hok x; rw [ex] at this; exact this, fun bl (a : Act) w ht => ?_⟩, h⟩
    simp [execOp, ev_conc ht, ex, ei, SV.conc, Instr.indexAt, Instr.sureAddr, asIntOf, run_und hu, h0, h1, hsz, addr_add]
   ·exact h.elim
  ·exact h.elim
 ·simp [isPure] at hp
 ·rename_i ty x lo hi
  split at h
  ·rename_i A n c e ex ee
   split at h
   ·rename_i bb sz l hh es el eh
    obtain ⟨h0, h1, h2, h⟩ := h
    obtain ⟨_, hsz⟩ := shape_parts es
    refine ⟨.v _, ⟨trivial, fun bl (a : Act) w ht => ?_⟩, h⟩
    have hhi : ∃ hv : Option Value, hi.map a.eval = hv ∧ (hv = none ∧ hh = (n : Int) ∨ ∃ kk, hv = some (.int kk hh)) := by
     cases hi with
     | none => simp [bndV] at eh; exact ⟨none, rfl, .inl ⟨rfl, eh.symm⟩⟩
     | some q =>
      simp only [bndV] at eh
      split at eh
      ·rename_i kk ii eq; cases eh; exact ⟨_, rfl, .inr ⟨kk, by simp [ev_conc ht, eq, SV.conc]⟩⟩
      ·cases eh
    have hlo : ∃ lv : Option Value, lo.map a.eval = lv ∧ (lv = none ∧ l = 0 ∨ ∃ kk, lv = some (.int kk l)) := by
     cases lo with
     | none => simp [bndV] at el; exact ⟨none, rfl, .inl ⟨rfl, el.symm⟩⟩
     | some q =>
      simp only [bndV] at el
      split at el
      ·rename_i kk ii eq; cases el; exact ⟨_, rfl, .inr ⟨kk, by simp [ev_conc ht, eq, SV.conc]⟩⟩
      ·cases el
    obtain ⟨hv, ehv, hhv⟩ := hhi
    obtain ⟨lv, elv, hlv⟩ := hlo
    have hb : ((hh.toNat : Nat) : Int) = hh := Int.toNat_of_nonneg (by omega)
    have h0h : (0 : Int) ≤ hh := by omega
    have e1 : ∀ w, (Instr.sliceBounds true n c lv hv none).run P w = .ok (l.toNat, hh.toNat, c) w := by
     intro w
     rcases hhv with ⟨rfl, rfl⟩ | ⟨kk, rfl⟩ <;> rcases hlv with ⟨rfl, rfl⟩ | ⟨kk', rfl⟩ <;> simp [Instr.sliceBounds, run_bound, h0, h1, h2, hb, h0h]
     all_goals (try (rw [run_bound w h0 (by omega)])) <;> simp
    simp only [execOp, ev_conc ht, ex, SV.conc, ehv, elv, Option.map_none, Instr.sliceAt]
    simp [run_und (und_elem ee), Instr.slice, e1, hsz, sliceV]
   ·exact h.elim
  ·exact h.elim
 ·rename_i ty x f
  split at h
  ·rename_i cs ex
   split at h
   ·rename_i v ev
    refine ⟨.v _, ⟨trivial, fun bl (a : Act) w ht => ?_⟩, h⟩
    cases ef : fieldT P ty f with
    | none => simp [ef, fieldV] at ev
    | some q =>
     obtain ⟨off, b, n⟩ := q
     obtain ⟨fs, fx, hu, hf, ho, hsh⟩ := field_parts ef
     obtain ⟨hag, hsz⟩ := shape_parts hsh
     rw [ef] at ev
     cases b <;> simp only [fieldV] at ev
     ·simp [execOp, ev_conc ht, ex, SV.conc, Instr.field, run_und hu, hf, asAgg, part, hag, hsz, ho, ev]
     ·cases ev
      simp [execOp, ev_conc ht, ex, SV.conc, Instr.field, run_und hu, hf, asAgg, part, hag, hsz, ho]
   ·exact h.elim
  ·exact h.elim
 ·rename_i x i
  split at h
  ·rename_i vs ex
   split at h
   ·rename_i v ev
    refine ⟨.v _, ⟨trivial, fun bl (a : Act) w ht => ?_⟩, h⟩
    simp [execOp, ev_conc ht, ex, SV.conc, Instr.extract, ev]
   ·exact h.elim
  ·exact h.elim
 ·rename_i ty x i
  split at h
  ·rename_i b kk j ex ei
   obtain ⟨hk, h0, c, hc, h⟩ := h
   refine ⟨.v _, ⟨trivial, fun bl (a : Act) w ht => ?_⟩, h⟩
   simp [execOp, ev_conc ht, ex, ei, SV.conc, Instr.index, asIntOf, run_und (kind_string hk), h0, hc]
  ·exact h.elim
 ·rename_i t parts
  obtain ⟨hall, v, hb, h⟩ := h
  refine ⟨.v _, ⟨trivial, fun bl (a : Act) w ht => ?_⟩, h⟩
  have e : (parts.map fun (i, x) => (i, a.eval x)) = parts.map fun q => (q.1, (s.ev q.2).val) := by
   refine Array.map_congr_left fun q hq => ?_
   obtain ⟨i, x⟩ := q
   have := Array.all_eq_true_iff_forall_mem.1 hall _ hq
   simp only [ev_conc ht]
   cases hx : s.ev x with
   | v y => rfl
   | p i o => simp [hx, SV.isV] at this
  simp only [execOp]
  rw [e]
  have hb' := hb w
  simp [hb']; rfl
 ·rename_i x
  split at h
  ·rename_i i off ex
   refine ⟨_, ⟨by have := ev_ok hok x; rw [ex] at this; exact this, fun bl (a : Act) w ht => ?_⟩, h⟩
   simp [execOp, ev_conc ht, ex, SV.conc]
  ·rename_i ad ex
   refine ⟨.v _, ⟨trivial, fun bl (a : Act) w ht => ?_⟩, h⟩
   simp [execOp, ev_conc ht, ex, SV.conc]
  ·exact h.elim
 ·rename_i fn fi ca
  obtain ⟨h1, h2, h⟩ := h
  refine ⟨.v _, ⟨trivial, fun bl (a : Act) w ht => ?_⟩, h⟩
  simp [execOp, map_val ht h1, map_val ht h2, SV.conc, Instr.makeFunc]
 ·rename_i cl
  obtain ⟨callee, args, argTypes⟩ := cl
  dsimp only at h
  split at h
  ·rename_i x ty eargs etys
   split at h
   ·rename_i A n c ex
    obtain ⟨hk, h⟩ := h
    obtain ⟨e, he⟩ := kind_slice hk
    refine ⟨.v _, ⟨trivial, fun bl (a : Act) w ht => ?_⟩, h⟩
    have e1 : args = #[x] := Array.toList_inj.1 eargs
    have e2 : argTypes = #[ty] := Array.toList_inj.1 etys
    simp [execOp, ev_conc ht, ex, e1, e2, SV.conc, resolve, invoke, builtin, Builtin.len_, run_und he, goInt]
   ·exact h.elim
  ·rename_i _ _ x y eargs
   split at h
   ·rename_i q va q' vb ex ey
    refine ⟨.v _, ⟨trivial, fun bl (a : Act) w ht => ?_⟩, h⟩
    have e1 : args = #[x, y] := Array.toList_inj.1 eargs
    simp [execOp, ev_conc ht, ex, ey, e1, SV.conc, resolve, invoke, builtin, Builtin.min_, Builtin.min2]
   ·exact h.elim
  ·rename_i _ _ x y eargs
   split at h
   ·rename_i q va q' vb ex ey
    refine ⟨.v _, ⟨trivial, fun bl (a : Act) w ht => ?_⟩, h⟩
    have e1 : args = #[x, y] := Array.toList_inj.1 eargs
    simp [execOp, ev_conc ht, ex, ey, e1, SV.conc, resolve, invoke, builtin, Builtin.max_, Builtin.max2]
   ·exact h.elim
  ·exact h.elim
 ·exact h.elim
def upd (H : Heap) (b : Nat) (r : Option Row) : Heap := fun k => if k = b then r else H k
def addV (V : View) (b : Nat) (o : Obj) : View := fun k => if k = b then some o else V k
def splice (l : List Value) (o : Nat) (cs : List Value) : List Value := l.take o ++ cs ++ l.drop (o + cs.length)
def RowObj (r : Row) (o : Obj) : Prop := ∃ ex, o = .cells (r.vs ++ ex).toArray r.e (0, 0) ∧ (r.vs ++ ex).length = r.tot
section
variable {Γ : Cx} {bl : Nat → Nat} {bx : List (List Value)} {H : Heap} {V : View} {w : World}
theorem CW.lt_box (h : CW Γ bl bx H V w) {i : Nat} (hi : i < bx.length) : bl i < w.heap.size := by
 obtain ⟨ty, hh⟩ := h.box i _ (List.getElem?_eq_getElem hi)
 rcases Nat.lt_or_ge (bl i) w.heap.size with h1 | h1
 ·exact h1
 ·rw [Array.getElem?_eq_none h1] at hh; cases hh
theorem CW.lt_row (h : CW Γ bl bx H V w) {b : Nat} {r : Row} (hr : H b = some r) : b < w.heap.size := by
 obtain ⟨ex, hh, _⟩ := h.row b r hr
 rcases Nat.lt_or_ge b w.heap.size with h1 | h1
 ·exact h1
 ·rw [Array.getElem?_eq_none h1] at hh; cases hh
theorem CW.lt_view (h : CW Γ bl bx H V w) {b : Nat} {o : Obj} (hv : V b = some o) : b < w.heap.size := by
 have hh := h.view b o hv
 rcases Nat.lt_or_ge b w.heap.size with h1 | h1
 ·exact h1
 ·rw [Array.getElem?_eq_none h1] at hh; cases hh
theorem CW.fresh_H (h : CW Γ bl bx H V w) {b : Nat} (hb : w.heap.size ≤ b) : H b = none := by
 cases hr : H b with
 | none => rfl
 | some r => have := h.lt_row hr; omega
theorem CW.fresh_V (h : CW Γ bl bx H V w) {b : Nat} (hb : w.heap.size ≤ b) : V b = none := by
 cases hr : V b with
 | none => rfl
 | some r => have := h.lt_view hr; omega
theorem CW.grow (h : CW Γ bl bx H V w) {w' : World} {V' : View} (hb : Blw w.heap.size w w') (hv : V'.sub w') : CW Γ bl bx H V' w' := by
 refine ⟨fun i vs hi => ?_, fun b r hr => ?_, hv, h.below.trans (hb.mono h.below.size)⟩
 ·obtain ⟨ty, hh⟩ := h.box i vs hi
  have hlt := h.lt_box (i := i) (by
   rcases Nat.lt_or_ge i bx.length with h1 | h1
   ·exact h1
   ·rw [List.getElem?_eq_none h1] at hi; cases hi)
  exact ⟨ty, by rw [hb.block _ hlt]; exact hh⟩
 ·obtain ⟨ex, hh, hl⟩ := h.row b r hr
  exact ⟨ex, by rw [hb.block _ (h.lt_row hr)]; exact hh, hl⟩
theorem CW.view_le {V' : View} (h : CW Γ bl bx H V' w) (hv : V.le V') : CW Γ bl bx H V w := ⟨h.box, h.row, fun k o x => h.view k o (hv k o x), h.below⟩
theorem Blw.of_alloc (w : World) (o : Obj) : Blw w.heap.size w (w.alloc o) := (Blw.refl _ _).alloc (Nat.le_refl _) o
theorem heap_alloc_at (w : World) (o : Obj) : (w.alloc o).heap[w.heap.size]? = some o := by show (w.heap.push o)[w.heap.size]? = _; simp
theorem view_alloc (hv : V.sub w) (o : Obj) : V.sub (w.alloc o) := fun k x hk => by
 have h1 := hv k x hk
 rw [Below.heap_alloc w o k (by
  rcases Nat.lt_or_ge k w.heap.size with h2 | h2
  ·exact h2
  ·rw [Array.getElem?_eq_none h2] at h1; cases h1)]
 exact h1
theorem push_box (h : CW Γ bl bx H V w) (hs : CS Γ bl bx H V) (vs : List Value) (ty : TypeId) :
  ∃ bl', (∀ i, i < bx.length → bl' i = bl i) ∧ bl' bx.length = w.heap.size ∧ CW Γ bl' (bx ++ [vs]) H V (w.alloc (.cells vs.toArray ty (0, 0))) ∧ CS Γ bl' (bx ++ [vs]) H V ∧ ∀ x, CW Γ bl' (bx ++ [vs]) H V x → CW Γ bl bx H V x := by
 refine ⟨fun i => if i = bx.length then w.heap.size else bl i, fun i hi => by simp; omega, by simp, ⟨fun i us hi => ?_, fun b r hr => ?_, view_alloc h.view _, h.below.trans ((Blw.of_alloc w _).mono h.below.size)⟩, ⟨fun i j hi hj e => ?_, fun i hi => ?_, hs.HV, hs.V0, hs.frm⟩, fun x hx => ⟨fun i us hi => ?_, hx.row, hx.view, hx.below⟩⟩
 ·by_cases e : i = bx.length
  ·subst e
   simp at hi
   subst hi
   exact ⟨ty, by simp only [if_true]; exact heap_alloc_at w _⟩
  ·have hlt : i < bx.length := by
    rcases Nat.lt_or_ge i (bx ++ [vs]).length with h1 | h1
    ·simp at h1; omega
    ·rw [List.getElem?_eq_none h1] at hi; cases hi
   rw [List.getElem?_append_left hlt] at hi
   obtain ⟨t, hh⟩ := h.box i us hi
   refine ⟨t, ?_⟩
   simp only [e, if_false]
   rw [Below.heap_alloc w _ _ (h.lt_box hlt)]; exact hh
 ·obtain ⟨ex, hh, hl⟩ := h.row b r hr
  exact ⟨ex, by rw [Below.heap_alloc w _ _ (h.lt_row hr)]; exact hh, hl⟩
 ·simp at hi hj
  split at e <;> split at e
  ·omega
  ·have := h.lt_box (i := j) (by omega); omega
  ·have := h.lt_box (i := i) (by omega); omega
  ·exact hs.inj i j (by omega) (by omega) e
 ·simp at hi
  split
  ·exact ⟨h.fresh_H (Nat.le_refl _), h.fresh_V (Nat.le_refl _), h.below.size⟩
  ·exact hs.bxH i (by omega)
 ·have hlt : i < bx.length := by
   rcases Nat.lt_or_ge i bx.length with h1 | h1
   ·exact h1
   ·rw [List.getElem?_eq_none h1] at hi; cases hi
  obtain ⟨t, hh⟩ := hx.box i us (by rw [List.getElem?_append_left hlt]; exact hi)
  have e : i ≠ bx.length := by omega
  simp only [e, if_false] at hh
  exact ⟨t, hh⟩
theorem conc_box {t : List SV} {bl' : Nat → Nat} {n : Nat} (hok : ∀ x ∈ t, x.ok n) (h : ∀ i, i < n → bl' i = bl i) : t.map (SV.conc bl') = t.map (SV.conc bl) := by
 refine List.map_congr_left fun x hx => ?_
 cases x with
 | v _ => rfl
 | p i o => simp only [SV.conc, h i (hok _ hx)]
theorem push_row (h : CW Γ bl bx H V w) (hs : CS Γ bl bx H V) (r : Row) (ex : List Value) (hl : (r.vs ++ ex).length = r.tot) :
  CW Γ bl bx (upd H w.heap.size (some r)) V (w.alloc (.cells (r.vs ++ ex).toArray r.e (0, 0))) ∧ CS Γ bl bx (upd H w.heap.size (some r)) V ∧ ∀ x, CW Γ bl bx (upd H w.heap.size (some r)) V x → CW Γ bl bx H V x := by
 have hf := h.fresh_H (Nat.le_refl w.heap.size)
 refine ⟨⟨fun i us hi => ?_, fun b q hr => ?_, view_alloc h.view _, h.below.trans ((Blw.of_alloc w _).mono h.below.size)⟩, ⟨hs.inj, fun i hi => ?_, fun b q hr => ?_, hs.V0, hs.frm⟩, fun x hx => ⟨hx.box, fun b q hr => hx.row b q ?_, hx.view, hx.below⟩⟩
 ·obtain ⟨t, hh⟩ := h.box i us hi
  have hlt : i < bx.length := by
   rcases Nat.lt_or_ge i bx.length with h1 | h1
   ·exact h1
   ·rw [List.getElem?_eq_none h1] at hi; cases hi
  exact ⟨t, by rw [Below.heap_alloc w _ _ (h.lt_box hlt)]; exact hh⟩
 ·unfold upd at hr
  split at hr
  ·rename_i e; subst e; cases hr
   exact ⟨ex, heap_alloc_at w _, hl⟩
  ·obtain ⟨ex', hh, hl'⟩ := h.row b q hr
   exact ⟨ex', by rw [Below.heap_alloc w _ _ (h.lt_row hr)]; exact hh, hl'⟩
 ·have hlt := h.lt_box hi
  have := hs.bxH i hi
  refine ⟨?_, this.2⟩
  unfold upd
  rw [if_neg (by omega)]; exact this.1
 ·unfold upd at hr
  split at hr
  ·rename_i e; subst e
   exact ⟨h.fresh_V (Nat.le_refl _), h.below.size⟩
  ·exact hs.HV b q hr
 ·unfold upd
  split
  ·rename_i e; subst e; rw [hf] at hr; cases hr
  ·exact hr
theorem set_box (h : CW Γ bl bx H V w) (hs : CS Γ bl bx H V) {i : Nat} {vs : List Value} (hi : bx[i]? = some vs) (us : List Value) :
  CW Γ bl (bx.set i us) H V (w.setRow (bl i) us.toArray) ∧ CS Γ bl (bx.set i us) H V := by
 have hlt : i < bx.length := by
  rcases Nat.lt_or_ge i bx.length with h1 | h1
  ·exact h1
  ·rw [List.getElem?_eq_none h1] at hi; cases hi
 have hb := hs.bxH i hlt
 refine ⟨⟨fun j q hj => ?_, fun b q hr => ?_, fun k o hk => ?_, ?_⟩, ⟨fun j k hj hk e => hs.inj j k (by simpa using hj) (by simpa using hk) e, fun j hj => hs.bxH j (by simpa using hj), hs.HV, hs.V0, hs.frm⟩⟩
 ·obtain ⟨t, hh⟩ := h.box i vs hi
  by_cases e : i = j
  ·subst e
   rw [List.getElem?_set_self hlt] at hj; cases hj
   exact ⟨t, setRow_heap w _ _ _ _ _ hh⟩
  ·rw [List.getElem?_set_ne e] at hj
   have hj' : j < bx.length := by
    rcases Nat.lt_or_ge j bx.length with h1 | h1
    ·exact h1
    ·rw [List.getElem?_eq_none h1] at hj; cases hj
   obtain ⟨t', hh'⟩ := h.box j q hj
   exact ⟨t', by rw [setRow_other w _ _ _ (fun e' => e (hs.inj i j hlt hj' e'.symm))]; exact hh'⟩
 ·obtain ⟨ex, hh, hl⟩ := h.row b q hr
  refine ⟨ex, ?_, hl⟩
  rw [setRow_other w _ _ _ (fun e => by rw [e, hb.1] at hr; cases hr)]; exact hh
 ·rw [setRow_other w _ _ _ (fun e => by rw [e, hb.2.1] at hk; cases hk)]; exact h.view k o hk
 ·refine h.below.trans ⟨⟨rfl, rfl, rfl, by simp, fun k hk => setRow_other w _ _ _ (by omega)⟩, Nat.le_refl _⟩
theorem set_row (h : CW Γ bl bx H V w) (hs : CS Γ bl bx H V) {b : Nat} {r : Row} (hr : H b = some r) (us ex : List Value) (hl : (us ++ ex).length = r.tot) :
  CW Γ bl bx (upd H b (some ⟨r.e, us, r.tot⟩)) V (w.setRow b (us ++ ex).toArray) ∧ CS Γ bl bx (upd H b (some ⟨r.e, us, r.tot⟩)) V := by
 have hb := hs.HV b r hr
 obtain ⟨ex0, hh0, hl0⟩ := h.row b r hr
 refine ⟨⟨fun j q hj => ?_, fun k q hk => ?_, fun k o hk => ?_, ?_⟩, ⟨hs.inj, fun j hj => ?_, fun k q hk => ?_, hs.V0, hs.frm⟩⟩
 ·obtain ⟨t', hh'⟩ := h.box j q hj
  have hj' : j < bx.length := by
   rcases Nat.lt_or_ge j bx.length with h1 | h1
   ·exact h1
   ·rw [List.getElem?_eq_none h1] at hj; cases hj
  exact ⟨t', by rw [setRow_other w _ _ _ (fun e' => by have := (hs.bxH j hj').1; rw [e', hr] at this; cases this)]; exact hh'⟩
 ·unfold upd at hk
  split at hk
  ·rename_i e; subst e; cases hk
   exact ⟨ex, setRow_heap w _ _ _ _ _ hh0, hl⟩
  ·rename_i e
   obtain ⟨ex', hh', hl'⟩ := h.row k q hk
   exact ⟨ex', by rw [setRow_other w _ _ _ e]; exact hh', hl'⟩
 ·rw [setRow_other w _ _ _ (fun e => by rw [e, hb.1] at hk; cases hk)]; exact h.view k o hk
 ·exact h.below.trans ⟨⟨rfl, rfl, rfl, by simp, fun k hk => setRow_other w _ _ _ (by omega)⟩, Nat.le_refl _⟩
 ·have := hs.bxH j hj
  refine ⟨?_, this.2⟩
  unfold upd
  split
  ·rename_i e; rw [e, hr] at this; cases this.1
  ·exact this.1
 ·unfold upd at hk
  split at hk
  ·rename_i e; subst e; exact hb
  ·exact hs.HV k q hk
theorem pub_row (h : CW Γ bl bx H V w) (hs : CS Γ bl bx H V) {b : Nat} {r : Row} (hr : H b = some r) :
  ∃ o, RowObj r o ∧ CW Γ bl bx (upd H b none) (addV V b o) w ∧ CS Γ bl bx (upd H b none) (addV V b o) ∧ (∀ x, CW Γ bl bx (upd H b none) (addV V b o) x → CW Γ bl bx H V x) ∧ V.le (addV V b o) := by
 obtain ⟨ex, hh, hl⟩ := h.row b r hr
 have hb := hs.HV b r hr
 have hle : V.le (addV V b (.cells (r.vs ++ ex).toArray r.e (0, 0))) := fun k o hk => by
  unfold addV
  split
  ·rename_i e; rw [e, hb.1] at hk; cases hk
  ·exact hk
 refine ⟨_, ⟨ex, rfl, hl⟩, ⟨h.box, fun k q hk => ?_, fun k o hk => ?_, h.below⟩, ⟨hs.inj, fun i hi => ?_, fun k q hk => ?_, View.le_trans hs.V0 hle, fun k o hk => ?_⟩, fun x hx => ⟨hx.box, fun k q hk => ?_, fun k o hk => hx.view k o (hle k o hk), hx.below⟩, hle⟩
 ·unfold upd at hk
  split at hk
  ·cases hk
  ·exact h.row k q hk
 ·unfold addV at hk
  split at hk
  ·rename_i e; subst e; cases hk; exact hh
  ·exact h.view k o hk
 ·have := hs.bxH i hi
  refine ⟨?_, ?_, this.2.2⟩
  ·unfold upd; split
   ·rfl
   ·exact this.1
  ·unfold addV; split
   ·rename_i e; rw [e, hr] at this; cases this.1
   ·exact this.2.1
 ·unfold upd at hk
  split at hk
  ·cases hk
  ·rename_i e
   have := hs.HV k q hk
   refine ⟨?_, this.2⟩
   unfold addV; rw [if_neg e]; exact this.1
 ·unfold addV at hk
  split at hk
  ·rename_i e; subst e; cases hk; exact .inr ⟨hb.2, rfl⟩
  ·exact hs.frm k o hk
 ·by_cases e : k = b
  ·subst e
   rw [hr] at hk; cases hk
   exact ⟨ex, hx.view k _ (by unfold addV; simp), hl⟩
  ·exact hx.row k q (by unfold upd; rw [if_neg e]; exact hk)
end
def Ld (P : Program) (o : Oper) (K : XS → Prop) (s : XS) : Prop :=
 ∀ (Γ : Cx) (bl : Nat → Nat) (a : Act) (w : World), Conc Γ bl s a w → ∀ Q : Exit → Act → World → Prop, o.wp P a w (fun a' w' => ∃ bl' s', Conc Γ bl' s' a' w' ∧ (isStore o.op = false → ∀ x, CW Γ bl' s'.bx s'.H s'.V x → CW Γ bl s.bx s.H s.V x) ∧ K s') Q
def XPub (K : XS → Prop) (s : XS) : Prop :=
 ∀ (Γ : Cx) (bl : Nat → Nat) (w : World), CW Γ bl s.bx s.H s.V w → CS Γ bl s.bx s.H s.V →
  ∃ H' V', CW Γ bl s.bx H' V' w ∧ CS Γ bl s.bx H' V' ∧ (∀ x, CW Γ bl s.bx H' V' x → CW Γ bl s.bx s.H s.V x) ∧ s.V.le V' ∧ K ⟨s.t, s.bx, H', V'⟩
theorem XPub.now {K : XS → Prop} {s : XS} (h : K s) : XPub K s := fun _ _ _ h1 h2 => ⟨s.H, s.V, h1, h2, fun _ h => h, View.le_refl _, h⟩
theorem XPub.row {K : XS → Prop} {s : XS} (b : Nat) (r : Row) (hr : s.H b = some r) (h : ∀ o, RowObj r o → s.V.le (addV s.V b o) → XPub K ⟨s.t, s.bx, upd s.H b none, addV s.V b o⟩) : XPub K s := by
 intro Γ bl w h1 h2
 obtain ⟨o, ho, h3, h4, h5, h6⟩ := pub_row h1 h2 hr
 obtain ⟨H', V', h7, h8, h9, h10, hk⟩ := h o ho h6 Γ bl w h3 h4
 exact ⟨H', V', h7, h8, fun x hx => h5 x (h9 x hx), View.le_trans h6 h10, hk⟩
theorem XPub.mono {K K' : XS → Prop} {s : XS} (h : XPub K s) (hk : ∀ s', K s' → K' s') : XPub K' s := fun Γ bl w h1 h2 =>
 let ⟨H', V', a, b, c, d, e⟩ := h Γ bl w h1 h2; ⟨H', V', a, b, c, d, hk _ e⟩
def callable (P : Program) (f : FuncId) : Bool := match P.funcs[f]? with
 | some fn => fn.name != "runtime.NumGoroutine" && fn.body.isSome
 | none => false
def addRow (H : Heap) : Option (Nat × Row) → Heap
 | none => H
 | some (g, r) => upd H g (some r)
def XCall (P : Program) (f : FuncId) (args : List Value) (K : Value → XS → Prop) (s : XS) : Prop :=
 callable P f = true ∧ XPub (fun s1 => ∃ R, SpecO P f args s1.V R ∧ ∀ v V' o, s1.V.le V' → (∀ g r, o = some (g, r) → s1.H g = none ∧ V' g = none) → R v V' o → K v ⟨s1.t, s1.bx, addRow s1.H o, V'⟩) s
def Own (H : Heap) (e : TypeId) (sz : Nat) (v : Value) (n : Nat) (xs : List Value) : Prop :=
 xs.length = n * sz ∧ ((v = .slice none 0 0 ∧ n = 0) ∨ ∃ b cap, v = .slice (some ⟨b, 0, none⟩) n cap ∧ H b = some ⟨e, xs, cap * sz⟩ ∧ n ≤ cap ∧ cap ≤ maxLen)
def Src (H : Heap) (V : View) (sz : Nat) (y : Value) (m : Nat) (news : List Value) : Prop :=
 ∃ A c, y = .slice A m c ∧ news.length = m * sz ∧ (∀ u ∈ news, isOne u = true) ∧ (m = 0 ∨ ∃ b o, A = some ⟨b, o, none⟩ ∧ ∀ j u, news[j]? = some u → CellAt H V b (o + j) u)
def AppRes (H : Heap) (V : View) (e : TypeId) (sz : Nat) (v : Value) (n : Nat) (xs : List Value) (v' : Value) (H' : Heap) : Prop :=
 Own H' e sz v' n xs ∧ (∀ k, v'.ownBlock ≠ some k → H' k = H k) ∧ ∀ g, v'.ownBlock = some g → v.ownBlock = some g ∨ (H g = none ∧ V g = none)
def XApp (P : Program) (t t2 : TypeId) (v y : Value) (K : Value → Heap → Prop) (H : Heap) (V : View) : Prop :=
 ∃ e z sz by_, elemT P t = some e ∧ (elemT P t2).isSome = true ∧ zeroT P e = some (z, sz, by_) ∧ z.length = sz ∧ 0 < sz ∧
  ∃ n xs m news, Own H e sz v n xs ∧ Src H V sz y m news ∧ n + m ≤ maxLen ∧ (n + m) * by_ ≤ 140737488355328 ∧
   ∀ v' H', AppRes H V e sz v (n + m) (xs ++ news) v' H' → K v' H'
def BuildsSlice (P : Program) (t : TypeId) (len : Nat) (ps : Array (Nat × Value)) (e : TypeId) (cells : List Value) : Prop :=
 ∀ w, (Instr.buildSlice t len ps).run P w = .ok (.slice (some ⟨w.heap.size, 0, none⟩) len len) (w.alloc (.cells cells.toArray e (0, 0)))
def loudX (P : Program) (s : XS) (op : Op) (dst : Option Tmp) (K : XS → Prop) : Prop :=
 match op with
 | .alloc ty => match zeroT P ty with
  | some (z, _, _) => K (XS.put ⟨s.t, s.bx ++ [z], s.H, s.V⟩ dst (.p s.bx.length 0))
  | none => False
 | .box _ x => match s.ev x with
  | .v u => K (XS.put ⟨s.t, s.bx ++ [u.cells.toList], s.H, s.V⟩ dst (.p s.bx.length 0))
  | _ => False
 | .store ty x y => match s.ev x, s.ev y, shapeT P ty with
  | .p i off, .v u, some (_, n) => match s.bx[i]? with
   | some vs => u.cells.size = n ∧ u.cells.toList.all isOne = true ∧ off + n ≤ vs.length ∧ K (XS.put ⟨s.t, s.bx.set i (splice vs off u.cells.toList), s.H, s.V⟩ dst (.v undef))
   | none => False
  | .v (.pointer (some ⟨b, off, none⟩)), .v u, some (_, n) => u.cells.size = n ∧ u.cells.toList.all isOne = true ∧ ∃ r, s.H b = some r ∧ off + n ≤ r.vs.length ∧ K (XS.put ⟨s.t, s.bx, upd s.H b (some ⟨r.e, splice r.vs off u.cells.toList, r.tot⟩), s.V⟩ dst (.v undef))
  | _, _, _ => False
 | .makeSlice ty l c => match s.ev l, s.ev c, elemT P ty with
  | .v (.int _ l), .v (.int _ c), some e => match zeroT P e with
   | some (z, sz, by_) => 0 ≤ l ∧ l ≤ c ∧ (by_ : Int) * c ≤ 281474976710656 ∧ c ≤ 9223372036854775807 ∧ z.length = sz ∧ 0 < sz ∧
     ∀ b, s.H b = none → s.V b = none → K (XS.put ⟨s.t, s.bx, upd s.H b (some ⟨e, (List.replicate l.toNat z).flatten, c.toNat * sz⟩), s.V⟩ dst (.v (.slice (some ⟨b, 0, none⟩) l.toNat c.toNat)))
   | none => False
  | _, _, _ => False
 | .buildSlice ty len parts => (parts.all fun q => (s.ev q.2).isV) = true ∧ ∃ e cells, BuildsSlice P ty len (parts.map fun q => (q.1, (s.ev q.2).val)) e cells ∧
   ∀ b, s.H b = none → s.V b = none → K (XS.put ⟨s.t, s.bx, upd s.H b (some ⟨e, cells, cells.length⟩), s.V⟩ dst (.v (.slice (some ⟨b, 0, none⟩) len len)))
 | .call c => match c.callee, c.args.toList, c.argTypes.toList with
  | .builtin .append, [x, y], [t, t2] => match s.ev x, s.ev y with
   | .v v, .v u => XApp P t t2 v u (fun v' H' => K (XS.put ⟨s.t, s.bx, H', s.V⟩ dst (.v v'))) s.H s.V
   | _, _ => False
  | .value x, args, _ => match s.ev x with
   | .v (.func (.func f) a b) => a = #[] ∧ (args.all fun q => (s.ev q).isV) = true ∧ XCall P f ((args.map fun q => (s.ev q).val) ++ b.toList) (fun v s' => K (XS.put s' dst (.v v))) s
   | _ => False
  | _, _, _ => False
 | _ => False
theorem CW.drew {Γ : Cx} {bl : Nat → Nat} {bx : List (List Value)} {H : Heap} {V : View} {w : World} (h : CW Γ bl bx H V w) : CW Γ bl bx H V w.drew := ⟨h.box, h.row, h.view, h.below.drew⟩
theorem val_conc {bl : Nat → Nat} {x : SV} (h : x.isV = true) : x.conc bl = x.val := by cases x <;> first | rfl | cases h
theorem made_flat (z : Array Value) (sz : Nat) (hz : z.size = sz) (h0 : 0 < sz) (n : Nat) : (madeCells z (n * sz)).toList = (List.replicate n z.toList).flatten := by
 subst hz
 apply List.ext_getElem?
 intro j
 have key : ∀ n j, (List.replicate n z.toList).flatten[j]? = if j < n * z.size then z[j % z.size]? else none := by
  intro n
  induction n with
  | zero => intro j; simp
  | succ n ih =>
   intro j
   rw [List.replicate_succ, List.flatten_cons]
   by_cases hj : j < z.size
   ·rw [List.getElem?_append_left (by simpa using hj), if_pos (by rw [Nat.add_mul]; omega), Nat.mod_eq_of_lt hj]; simp
   ·rw [List.getElem?_append_right (by simpa using hj), ih]
    simp only [Array.length_toList]
    have e : (j - z.size) % z.size = j % z.size := (Nat.mod_eq_sub_mod (by omega)).symm
    rw [e]
    by_cases h2 : j < (n + 1) * z.size
    ·rw [if_pos h2, if_pos (by rw [Nat.add_mul] at h2; omega)]
    ·rw [if_neg h2, if_neg (by rw [Nat.add_mul] at h2; omega)]
 rw [key]
 by_cases h : j < n * z.size
 ·rw [if_pos h]
  simp [madeCells, h, Nat.mod_lt _ h0]
 ·rw [if_neg h]
  simp [madeCells]; omega
theorem run_append_types {P : Program} {t t2 ty e e2 : TypeId} (h : P.underlying t = some (.slice e)) (h2 : P.underlying t2 = some (.slice e2)) (v y : Value) (w : World) :
  (Builtin.append_ #[t, t2] ty #[v, y]).run P w = (Builtin.append_ #[t, t] ty #[v, y]).run P w := by
 unfold Builtin.append_
 cases v <;> simp [run_und h, run_und h2]
theorem run_append_none {P : Program} {t ty e : TypeId} {i : TypeInfo} (h : P.underlying t = some (.slice e)) (hi : P.info? e = some i) (A : Option Addr) (n cap c : Nat) (hn : n ≤ cap) (w : World) :
  (Builtin.append_ #[t, t] ty #[.slice A n cap, .slice none 0 c]).run P w = .ok (.slice A n cap) w := by
 cases A <;> simp [Builtin.append_, run_und h, sizeOf, typeInfo, hi, Builtin.lenOf, hn, Builtin.firstCells, storeCells]
section
variable {P : Program} {Γ : Cx} {bl : Nat → Nat} {s : XS} {a : Act} {w : World}
theorem conc_push_box (hc : Conc Γ bl s a w) (vs : List Value) (ty : TypeId) :
  ∃ bl', bl' s.bx.length = w.heap.size ∧ Conc Γ bl' ⟨s.t, s.bx ++ [vs], s.H, s.V⟩ a (w.alloc (.cells vs.toArray ty (0, 0))) ∧ ∀ x, CW Γ bl' (s.bx ++ [vs]) s.H s.V x → CW Γ bl s.bx s.H s.V x := by
 obtain ⟨bl', h1, h2, h3, h4, h5⟩ := push_box hc.cw hc.cs vs ty
 refine ⟨bl', h2, ⟨?_, hc.df.keep (KeepsOthers.alloc _ _), h3, h4, fun x hx => SV.ok_mono (by simp) (hc.ok x hx)⟩, h5⟩
 rw [conc_box hc.ok h1]; exact hc.tm
theorem conc_push_row (hc : Conc Γ bl s a w) (r : Row) (ex : List Value) (hl : (r.vs ++ ex).length = r.tot) :
  Conc Γ bl ⟨s.t, s.bx, upd s.H w.heap.size (some r), s.V⟩ a (w.alloc (.cells (r.vs ++ ex).toArray r.e (0, 0))) ∧ (∀ x, CW Γ bl s.bx (upd s.H w.heap.size (some r)) s.V x → CW Γ bl s.bx s.H s.V x) ∧ s.H w.heap.size = none ∧ s.V w.heap.size = none := by
 obtain ⟨h1, h2, h3⟩ := push_row hc.cw hc.cs r ex hl
 exact ⟨⟨hc.tm, hc.df.keep (KeepsOthers.alloc _ _), h1, h2, hc.ok⟩, h3, hc.cw.fresh_H (Nat.le_refl _), hc.cw.fresh_V (Nat.le_refl _)⟩
theorem Conc.drew (hc : Conc Γ bl s a w) : Conc Γ bl s a w.drew := ⟨hc.tm, hc.df.keep (KeepsOthers.drew _), hc.cw.drew, hc.cs, hc.ok⟩
theorem others_setRow {w : World} {b : Nat} (xs : Array Value) {ys : Array Value} {t : TypeId} {fr : Nat × Nat} (h : w.heap[b]? = some (.cells ys t fr)) : KeepsOthers w (w.setRow b xs) :=
 ⟨by simp, fun k o hk ho => by
  by_cases e : k = b
  ·subst e; rw [h] at hk; cases hk; cases ho
  ·rw [setRow_other w _ _ _ e]; exact hk⟩
theorem run_storeVar_splice {ty n : TypeId} {ag : Bool} (hs : shapeT P ty = some (ag, n)) (w : World) (b off : Nat) (cur : List Value) (t : TypeId) (u : Value) (hg : w.heap[b]? = some (.cells cur.toArray t (0, 0)))
  (hu : u.cells.size = n) (h1 : u.cells.toList.all isOne = true) (hl : off + n ≤ cur.length) : (storeVar ty ⟨b, off, none⟩ u).run P w = .ok () (w.setRow b (splice cur off u.cells.toList).toArray) := by
 obtain ⟨_, hsz⟩ := shape_parts hs
 have hst := run_storeCells_at P b off t u.cells.toList 0 cur.toArray w hg (by simp; omega) (fun v hv => by rw [isOne_oneCell]; exact List.all_eq_true.1 h1 v hv)
 simp only [Nat.add_zero] at hst
 simp [storeVar, hsz, hu, hst, splice]
theorem own_parts {H : Heap} {e sz n : Nat} {v : Value} {xs : List Value} (h : Own H e sz v n xs) : (v = .slice none 0 0 ∧ n = 0 ∧ xs = []) ∨ ∃ b cap, v = .slice (some ⟨b, 0, none⟩) n cap ∧ H b = some ⟨e, xs, cap * sz⟩ ∧ n ≤ cap ∧ cap ≤ maxLen ∧ xs.length = n * sz := by
 rcases h.2 with ⟨h1, h2⟩ | ⟨b, cap, h1, h2, h3, h4⟩
 ·subst h2
  exact .inl ⟨h1, rfl, List.length_eq_zero_iff.1 (by simpa using h.1)⟩
 ·exact .inr ⟨b, cap, h1, h2, h3, h4, h.1⟩
theorem app_sound {t t2 ty : TypeId} {v y : Value} {K : Value → Heap → Prop} (hc : Conc Γ bl s a w) (h : XApp P t t2 v y K s.H s.V) :
  ∃ v' w' H', (Builtin.append_ #[t, t2] ty #[v, y]).run P w = .ok v' w' ∧ Conc Γ bl ⟨s.t, s.bx, H', s.V⟩ a w' ∧ (∀ x, CW Γ bl s.bx H' s.V x → CW Γ bl s.bx s.H s.V x) ∧ K v' H' := by
 obtain ⟨e, z, sz, by_, he, he2, hz, hzl, hsz, n, xs, m, news, hown, ⟨A, c, rfl, hnl, hone, hsrc⟩, h63, h47, hK⟩ := h
 obtain ⟨e2, he2⟩ := Option.isSome_iff_exists.1 he2
 obtain ⟨i, zv, hi, hzv, rfl, rfl, rfl⟩ := zero_parts hz
 rw [run_append_types (und_elem he) (und_elem he2)]
 have hzs : zv.cells.size = i.size := by simpa using hzl
 have h63' : n + m ≤ 9223372036854775807 := by simp only [maxLen] at h63; omega
 have hones : ∀ u ∈ news, u.oneCell' = true := fun u hu => by rw [isOne_oneCell]; exact hone u hu
 have hlen : (xs ++ news).length = (n + m) * i.size := by rw [List.length_append, hown.1, hnl, Nat.add_mul]
 have hsrc' : (A = none ∧ m = 0) ∨ ∃ src, A = some src ∧ ∀ j u, news[j]? = some u → w.cell? (src.add j) = some u := by
  rcases hsrc with h0 | ⟨b, o, rfl, hcell⟩
  ·have hn0 : news = [] := List.length_eq_zero_iff.1 (by rw [hnl, h0, Nat.zero_mul])
   cases A with
   | none => exact .inl ⟨rfl, h0⟩
   | some src => exact .inr ⟨src, rfl, fun j u hj => by rw [hn0] at hj; simp at hj⟩
  ·exact .inr ⟨_, rfl, fun j u hu => by rw [addr_add]; exact cell_of hc.cw (hcell j u hu)⟩
 rcases hsrc' with ⟨rfl, rfl⟩ | ⟨src, rfl, hnews⟩
 ·have hn0 : news = [] := List.length_eq_zero_iff.1 (by simpa using hnl)
  subst hn0
  have hn : ∀ {A n cap}, v = .slice A n cap → n ≤ cap → ∃ v' w' H', (Builtin.append_ #[t, t] ty #[v, .slice none 0 c]).run P w = .ok v' w' ∧ Conc Γ bl ⟨s.t, s.bx, H', s.V⟩ a w' ∧ (∀ x, CW Γ bl s.bx H' s.V x → CW Γ bl s.bx s.H s.V x) ∧ K v' H' := fun hv hle => by
   refine ⟨v, w, s.H, ?_, hc, fun _ h => h, hK v s.H ⟨by simpa using hown, fun _ _ => rfl, fun g hg => .inl hg⟩⟩
   subst hv
   exact run_append_none (und_elem he) hi _ _ _ _ hle w
  rcases own_parts hown with ⟨hv, rfl, rfl⟩ | ⟨b, cap, hv, hb, hle, _, _⟩
  ·exact hn hv (Nat.le_refl _)
  ·exact hn hv hle
 ·rcases own_parts hown with ⟨rfl, rfl, rfl⟩ | ⟨g, cap, rfl, hg, hle, hcap, hxl⟩
  ·rcases Nat.eq_zero_or_pos m with rfl | hm
   ·have hn0 : news = [] := List.length_eq_zero_iff.1 (by simpa using hnl)
    subst hn0
    refine ⟨.slice none 0 0, w, s.H, ?_, hc, fun _ h => h, hK _ s.H ⟨⟨by simp, .inl ⟨rfl, rfl⟩⟩, fun _ _ => rfl, fun g hg => by cases hg⟩⟩
    have hf := run_firstCells_some (P := P) w i.size 0 src 0 c [] (by simp) (by simp)
    simp [Builtin.append_, run_und (und_elem he), sizeOf, typeInfo, hi, Builtin.lenOf, hf]
   ·simp only [Nat.zero_add] at *
    have hr := run_append_nil (P := P) w t ty e i zv (und_elem he) hi hzv src m c news hnl hnews hm (by omega) (by omega)
    have hge := grownCap_ge w m 0 e
    obtain ⟨h1, h2, h3, h4⟩ := conc_push_row hc.drew ⟨e, news, grownCap w m 0 e * i.size⟩ (Builtin.zeroCells zv.cells (grownCap w m 0 e - m)).toList
     (by simp only [List.length_append, Array.length_toList, size_zeroCells, hnl, hzs]; rw [← Nat.add_mul]; congr 1; omega)
    refine ⟨_, _, _, hr, ?_, h2, hK _ (upd s.H w.heap.size (some ⟨e, news, grownCap w m 0 e * i.size⟩)) ⟨⟨by simpa using hnl, .inr ⟨w.heap.size, _, rfl, by simp [upd], hge, grownCap_le_maxLen w m 0 e h63⟩⟩, fun k hk => ?_, fun g hg => .inr ?_⟩⟩
    ·have : (news ++ (Builtin.zeroCells zv.cells (grownCap w m 0 e - m)).toList).toArray = news.toArray ++ Builtin.zeroCells zv.cells (grownCap w m 0 e - m) := by simp
     rw [← this]; exact h1
    ·simp only [Value.ownBlock, ne_eq, Option.some.injEq] at hk
     unfold upd; rw [if_neg (fun e => hk e.symm)]
    ·cases hg; exact ⟨h3, h4⟩
  ·obtain ⟨ex, hh, hl⟩ := hc.cw.row g _ hg
   simp only at hh hl
   by_cases hroom : n + m ≤ cap
   ·have hsum : n * i.size + m * i.size ≤ cap * i.size := by rw [← Nat.add_mul]; exact Nat.mul_le_mul_right _ hroom
    have hr := run_append_room (P := P) w t ty e i (und_elem he) hi g n cap _ hh src m c news hnl hnews hones hroom (by simp only [List.size_toArray]; rw [hl, hnl]; exact hsum)
    have e1 : List.take (n * i.size) (xs ++ ex) = xs := by rw [← hxl]; simp
    have e2 : List.drop (n * i.size + news.length) (xs ++ ex) = ex.drop news.length := by rw [← hxl, ← List.drop_drop]; simp
    simp only [e1, e2] at hr
    obtain ⟨h1, h2⟩ := set_row hc.cw hc.cs hg (xs ++ news) (ex.drop news.length) (by
     simp only [List.length_append, List.length_drop] at hl ⊢
     have : news.length ≤ ex.length := by rw [hnl]; rw [hxl] at hl; omega
     omega)
    refine ⟨_, _, upd s.H g (some ⟨e, xs ++ news, cap * i.size⟩), hr, ⟨hc.tm, hc.df.keep (others_setRow _ hh), h1, h2, hc.ok⟩, fun x hx => ⟨hx.box, fun k q hk => ?_, hx.view, hx.below⟩, hK _ _ ⟨⟨hlen, .inr ⟨g, cap, rfl, by simp [upd], hroom, hcap⟩⟩, fun k hk => ?_, fun g' hg' => .inl hg'⟩⟩
    ·by_cases ek : k = g
     ·subst ek
      rw [hg] at hk; cases hk
      obtain ⟨ex', hh', hl'⟩ := hx.row k ⟨e, xs ++ news, cap * i.size⟩ (by simp [upd])
      exact ⟨news ++ ex', by simpa using hh', by simpa using hl'⟩
     ·exact hx.row k q (by unfold upd; rw [if_neg ek]; exact hk)
    ·simp only [Value.ownBlock, ne_eq, Option.some.injEq] at hk
     unfold upd; rw [if_neg (fun e => hk e.symm)]
   ·have hge := grownCap_ge w (n + m) cap e
    have hr := run_append_grow (P := P) w t ty e i zv (und_elem he) hi hzv ⟨g, 0, none⟩ n cap xs hxl (fun j u hu => by rw [addr_add, Nat.zero_add]; exact cell_of hc.cw (.inl ⟨_, hg, hu⟩)) src m c news hnl hnews (by omega) (by omega) (growslice_fits (by omega) h47)
    obtain ⟨h1, h2, h3, h4⟩ := conc_push_row hc.drew ⟨e, xs ++ news, grownCap w (n + m) cap e * i.size⟩ (Builtin.zeroCells zv.cells (grownCap w (n + m) cap e - (n + m))).toList
     (by rw [List.length_append, hlen]; simp only [Array.length_toList, size_zeroCells, hzs]; rw [← Nat.add_mul]; congr 1; omega)
    refine ⟨_, _, _, hr, ?_, h2, hK _ (upd s.H w.heap.size (some ⟨e, xs ++ news, grownCap w (n + m) cap e * i.size⟩)) ⟨⟨hlen, .inr ⟨w.heap.size, _, rfl, by simp [upd], hge, grownCap_le_maxLen w (n + m) cap e h63⟩⟩, fun k hk => ?_, fun g hg => .inr ?_⟩⟩
    ·have : (xs ++ news ++ (Builtin.zeroCells zv.cells (grownCap w (n + m) cap e - (n + m))).toList).toArray = xs.toArray ++ news.toArray ++ Builtin.zeroCells zv.cells (grownCap w (n + m) cap e - (n + m)) := by simp
     rw [← this]; exact h1
    ·simp only [Value.ownBlock, ne_eq, Option.some.injEq] at hk
     unfold upd; rw [if_neg (fun e => hk e.symm)]
    ·cases hg; exact ⟨h3, h4⟩
end
theorem loudX_sound {P : Program} {s : XS} {o : Oper} {K : XS → Prop} (h : loudX P s o.op o.dst K) : Ld P o K s := by
 intro Γ bl a w hc Q
 obtain ⟨dst, op, type, pos, after, guard⟩ := o
 dsimp only at h
 have run : ∀ {o : Oper} {n : Next} {w' : World} {next : Act → World → Prop} {Q}, (execOp a.eval o).run P w = .ok n w' → o.upon P a next Q (.ok n w') → o.wp P a w next Q := fun hr hn => by
  unfold Oper.wp; rw [hr]; exact hn
 unfold loudX at h
 split at h
 ·rename_i ty
  split at h
  ·rename_i z n1 n2 ez
   obtain ⟨i, zv, hi, hzv, rfl, rfl, rfl⟩ := zero_parts ez
   obtain ⟨bl', hb, hC, hS⟩ := conc_push_box hc zv.cells.toList ty
   refine run (n := .value (.pointer (some ⟨w.heap.size, 0, none⟩))) (w' := w.alloc (.cells zv.cells.toList.toArray ty (0, 0))) ?_ ?_
   ·simp [execOp, Instr.alloc, zeroValue, typeInfo, hi, hzv, newVar, newRow]
   ·refine ⟨bl', _, ?_, fun _ => ?_, h⟩
    ·rw [← hb]; exact hC.put dst (.p s.bx.length 0) (by simp [SV.ok])
    ·rw [XS.put_bx, XS.put_H, XS.put_V]; exact hS
  ·exact h.elim
 ·rename_i ty x
  split at h
  ·rename_i u ex
   obtain ⟨bl', hb, hC, hS⟩ := conc_push_box hc u.cells.toList ty
   refine run (n := .value (.pointer (some ⟨w.heap.size, 0, none⟩))) (w' := w.alloc (.cells u.cells.toList.toArray ty (0, 0))) ?_ ?_
   ·simp [execOp, hc.ev, ex, SV.conc, Instr.box, newVar, newRow]
   ·refine ⟨bl', _, ?_, fun _ => ?_, h⟩
    ·rw [← hb]; exact hC.put dst (.p s.bx.length 0) (by simp [SV.ok])
    ·rw [XS.put_bx, XS.put_H, XS.put_V]; exact hS
  ·exact h.elim
 ·rename_i ty x y
  split at h
  ·rename_i i off u n1 n ex ey es
   split at h
   ·rename_i vs ei
    obtain ⟨hu, h1, hl, h⟩ := h
    obtain ⟨t, hh⟩ := hc.cw.box i vs ei
    have hr := run_storeVar_splice es w (bl i) off vs t u hh hu h1 hl
    obtain ⟨h2, h3⟩ := set_box hc.cw hc.cs ei (splice vs off u.cells.toList)
    refine run (n := .skip) (w' := w.setRow (bl i) (splice vs off u.cells.toList).toArray) ?_ ?_
    ·simp [execOp, hc.ev, ex, ey, SV.conc, Instr.storeAt, Instr.sureAddr, hr]
    ·refine ⟨bl, _, ?_, fun hx => (by simp [isStore] at hx), h⟩
     exact Conc.put (s := ⟨s.t, s.bx.set i (splice vs off u.cells.toList), s.H, s.V⟩) ⟨hc.tm, hc.df.keep (others_setRow _ hh), h2, h3, fun x hx => SV.ok_mono (by simp) (hc.ok x hx)⟩ dst (.v undef) trivial
   ·exact h.elim
  ·rename_i b off u n1 n ex ey es
   obtain ⟨hu, h1, r, hr0, hl, h⟩ := h
   obtain ⟨ex0, hh, hl0⟩ := hc.cw.row b r hr0
   have hr := run_storeVar_splice es w b off (r.vs ++ ex0) r.e u hh hu h1 (by simp; omega)
   have e1 : splice (r.vs ++ ex0) off u.cells.toList = splice r.vs off u.cells.toList ++ ex0 := by
    have hul : u.cells.toList.length = n := by simpa using hu
    unfold splice
    rw [List.take_append_of_le_length (by omega), List.drop_append_of_le_length (by omega)]
    simp
   rw [e1] at hr
   have hul : u.cells.toList.length = n := by simpa using hu
   have hsl : (splice r.vs off u.cells.toList ++ ex0).length = r.tot := by
    rw [← hl0]; unfold splice; simp only [List.length_append, List.length_take, List.length_drop]; omega
   obtain ⟨h2, h3⟩ := set_row hc.cw hc.cs hr0 (splice r.vs off u.cells.toList) ex0 hsl
   refine run (n := .skip) (w' := w.setRow b (splice r.vs off u.cells.toList ++ ex0).toArray) ?_ ?_
   ·simp [execOp, hc.ev, ex, ey, SV.conc, Instr.storeAt, Instr.sureAddr, hr]
   ·refine ⟨bl, _, ?_, fun hx => (by simp [isStore] at hx), h⟩
    exact Conc.put (s := ⟨s.t, s.bx, upd s.H b (some ⟨r.e, splice r.vs off u.cells.toList, r.tot⟩), s.V⟩) ⟨hc.tm, hc.df.keep (others_setRow _ hh), h2, h3, hc.ok⟩ dst (.v undef) trivial
  ·exact h.elim
 ·rename_i ty l c
  split at h
  ·rename_i k1 l1 k2 c1 e el ec ee
   split at h
   ·rename_i z sz by_ ez
    obtain ⟨h0, h1, h2, h3, h4, h5, h⟩ := h
    obtain ⟨i, zv, hi, hzv, rfl, rfl, rfl⟩ := zero_parts ez
    have hr := run_make (P := P) w ty e i zv (und_elem ee) hi hzv k1 k2 l1 c1 h0 h1 h2 h3
    have hm := made_flat zv.cells i.size (by simpa using h4) h5 c1.toNat
    have hsp : (madeCells zv.cells (c1.toNat * i.size)).toList = (List.replicate l1.toNat zv.cells.toList).flatten ++ (List.replicate (c1.toNat - l1.toNat) zv.cells.toList).flatten := by
     rw [hm, ← List.flatten_append, List.replicate_append_replicate]; congr 2; omega
    obtain ⟨hC, hS, hf1, hf2⟩ := conc_push_row hc ⟨e, (List.replicate l1.toNat zv.cells.toList).flatten, c1.toNat * i.size⟩ (List.replicate (c1.toNat - l1.toNat) zv.cells.toList).flatten (by rw [← hsp]; simp [size_madeCells])
    rw [← hsp] at hC
    refine run (n := .value (.slice (some ⟨w.heap.size, 0, none⟩) l1.toNat c1.toNat)) (w' := w.alloc (.cells (madeCells zv.cells (c1.toNat * i.size)).toList.toArray e (0, 0))) ?_ ?_
    ·simp [execOp, hc.ev, el, ec, SV.conc, hr]
    ·refine ⟨bl, _, ?_, fun _ => ?_, h w.heap.size hf1 hf2⟩
     ·exact hC.put dst (.v (.slice (some ⟨w.heap.size, 0, none⟩) l1.toNat c1.toNat)) trivial
     ·rw [XS.put_bx, XS.put_H, XS.put_V]; exact hS
   ·exact h.elim
  ·exact h.elim
 ·rename_i ty len parts
  obtain ⟨hall, e, cells, hb, h⟩ := h
  obtain ⟨hC, hS, hf1, hf2⟩ := conc_push_row hc ⟨e, cells, cells.length⟩ [] (by simp)
  simp only [List.append_nil] at hC
  have e1 : (parts.map fun (i, x) => (i, a.eval x)) = parts.map fun q => (q.1, (s.ev q.2).val) := by
   refine Array.map_congr_left fun q hq => ?_
   obtain ⟨i, x⟩ := q
   have := Array.all_eq_true_iff_forall_mem.1 hall _ hq
   simp only [hc.ev]
   rw [val_conc this]
  refine run (n := .value (.slice (some ⟨w.heap.size, 0, none⟩) len len)) (w' := w.alloc (.cells cells.toArray e (0, 0))) ?_ ?_
  ·simp only [execOp, e1]; simp [hb w]
  ·refine ⟨bl, _, ?_, fun _ => ?_, h w.heap.size hf1 hf2⟩
   ·exact hC.put dst (.v (.slice (some ⟨w.heap.size, 0, none⟩) len len)) trivial
   ·rw [XS.put_bx, XS.put_H, XS.put_V]; exact hS
 ·rename_i cl
  obtain ⟨callee, args, argTypes⟩ := cl
  dsimp only at h
  split at h
  ·rename_i x y t t2 eargs etys
   have e1 : args = #[x, y] := Array.toList_inj.1 eargs
   have e2 : argTypes = #[t, t2] := Array.toList_inj.1 etys
   split at h
   ·rename_i v u ex ey
    obtain ⟨v', w', H', hr, hC, hS, hK⟩ := app_sound (ty := type) hc h
    refine run (n := .value v') (w' := w') ?_ ?_
    ·subst e1; subst e2
     simp [execOp, resolve, invoke, builtin, hc.ev, ex, ey, SV.conc, hr]
    ·refine ⟨bl, _, ?_, fun _ => ?_, hK⟩
     ·exact hC.put dst (.v v') trivial
     ·rw [XS.put_bx, XS.put_H, XS.put_V]; exact hS
   ·exact h.elim
  ·rename_i x
   split at h
   ·rename_i f a1 a2 ex
    obtain ⟨rfl, hall, hcall, hpub⟩ := h
    obtain ⟨H', V', h1, h2, h3, h4, R, hspec, hK⟩ := hpub Γ bl w hc.cw hc.cs
    have eargs : (args.toList.map fun q => (s.ev q).val).toArray = args.map a.eval := by
     apply Array.ext'
     simp only [Array.toList_map]
     refine List.map_congr_left fun q hq => ?_
     rw [hc.ev, val_conc (List.all_eq_true.1 hall q hq)]
    refine run (n := .enter f (args.map a.eval ++ a2)) (w' := w) ?_ ?_
    ·have ef : a.eval x = .func (.func f) #[] a2 := by rw [hc.ev, ex]; rfl
     unfold callable at hcall
     cases hf : P.funcs[f]? with
     | none => simp [hf] at hcall
     | some fn =>
      simp [hf] at hcall
      have hb : fn.body ≠ none := fun hn => by simp [hn] at hcall
      simp [execOp, resolve, ef, Deferred.ofValue, invoke, callFunc, hf, hcall.1, hb]
    ·show Calls P f (args.map a.eval ++ a2) w _
     have ea : ((args.toList.map fun q => (s.ev q).val) ++ a2.toList).toArray = args.map a.eval ++ a2 := by rw [← eargs]; simp
     rw [← ea]
     refine (hspec w h1.view).mono ?_
     rintro e w' ⟨v, V2, o, rfl, hle, hsub, hfrom, hbel, hrow, hR⟩
     dsimp only at hle hfrom
     have hg := h1.grow hbel hsub
     have hsep : ∀ g r, o = some (g, r) → H' g = none ∧ V2 g = none := fun g r e => ⟨h1.fresh_H (hrow g r e).1, (hrow g r e).2.1⟩
     have hbx : ∀ i, i < s.bx.length → V2 (bl i) = none := fun i hi => by
      have := h2.bxH i hi
      cases hv : V2 (bl i) with
      | none => rfl
      | some o =>
       rcases hfrom _ _ hv with h5 | h5
       ·rw [this.2.1] at h5; cases h5
       ·have := h1.lt_box hi; have := h5.1; omega
     have hHV : ∀ b r, H' b = some r → V2 b = none := fun b r hr => by
      have := h2.HV b r hr
      cases hv : V2 b with
      | none => rfl
      | some o =>
       rcases hfrom _ _ hv with h5 | h5
       ·rw [this.1] at h5; cases h5
       ·have := h1.lt_row hr; have := h5.1; omega
     have hmono : ∀ x, CW Γ bl s.bx H' V2 x → CW Γ bl s.bx s.H s.V x := fun x hx => h3 x (hx.view_le hle)
     have main : ∃ H2, H2 = addRow H' o ∧ CW Γ bl s.bx H2 V2 w' ∧ CS Γ bl s.bx H2 V2 ∧ ∀ x, CW Γ bl s.bx H2 V2 x → CW Γ bl s.bx s.H s.V x := by
      refine ⟨_, rfl, ?_⟩
      cases o with
      | none => exact ⟨hg, ⟨h2.inj, fun i hi => ⟨(h2.bxH i hi).1, hbx i hi, (h2.bxH i hi).2.2⟩, fun b r hr => ⟨hHV b r hr, (h2.HV b r hr).2⟩, View.le_trans h2.V0 hle, View.from_trans h2.frm hfrom h1.below.size⟩, hmono⟩
      | some q =>
       obtain ⟨g, r⟩ := q
       obtain ⟨g1, g2, ex, g3, g4⟩ := hrow g r rfl
       have hgn := (hsep g r rfl).1
       refine ⟨⟨hg.box, fun b q hq => ?_, hg.view, hg.below⟩, ⟨h2.inj, fun i hi => ⟨?_, hbx i hi, (h2.bxH i hi).2.2⟩, fun b q hq => ?_, View.le_trans h2.V0 hle, View.from_trans h2.frm hfrom h1.below.size⟩, fun x hx => hmono x ⟨hx.box, fun b q hq => hx.row b q ?_, hx.view, hx.below⟩⟩
       ·simp only [addRow, upd] at hq
        split at hq
        ·rename_i e; subst e; cases hq; exact ⟨ex, g3, g4⟩
        ·exact hg.row b q hq
       ·have := h1.lt_box hi
        simp only [addRow, upd]; rw [if_neg (by omega)]; exact (h2.bxH i hi).1
       ·simp only [addRow, upd] at hq
        split at hq
        ·rename_i e; subst e; exact ⟨g2, Nat.le_trans h1.below.size g1⟩
        ·exact ⟨hHV b q hq, (h2.HV b q hq).2⟩
       ·simp only [addRow, upd]
        rw [if_neg (fun e => by rw [e, hgn] at hq; cases hq)]; exact hq
     obtain ⟨H2, rfl, m1, m2, m3⟩ := main
     refine ⟨bl, _, ?_, fun _ => ?_, hK v V2 o hle hsep hR⟩
     ·exact Conc.put (s := ⟨s.t, s.bx, addRow H' o, V2⟩) ⟨hc.tm, hc.df.keep (Blw.others hbel), m1, m2, hc.ok⟩ dst (.v v) trivial
     ·rw [XS.put_bx, XS.put_H, XS.put_V]; exact m3
   ·exact h.elim
  ·exact h.elim
 ·exact h.elim
def opX (P : Program) (o : Oper) (K : XS → Prop) (s : XS) : Prop := if isRead o.op then readX P s o.op (fun sv => K (s.put o.dst sv)) else loudX P s o.op o.dst K
def gateX (ops : Array Oper) (s : XS) : Option (Nat × Bool) → Bool
 | none => true
 | some (g, want) => match (ops[g]?).bind (·.dst) with
  | some d => match s.ev (.tmp d) with
   | .v (.bool b) => b == want
   | _ => false
  | none => false
def stepX (P : Program) (ops : Array Oper) (o : Oper) (K : XS → Prop) (s : XS) : Prop :=
 match o.guard with
 | none => opX P o K s
 | some g => if gateX ops s (some g) = true then opX P o K s else K (s.put o.dst (.v undef))
def seqX (P : Program) (ops : Array Oper) : List Oper → (XS → Prop) → XS → Prop
 | [], K, s => K s
 | o :: rest, K, s => stepX P ops o (seqX P ops rest K) s
def pickOps (ops : List Oper) : List Nat → List Oper
 | [] => []
 | i :: r => match ops[i]? with
  | some o => o :: pickOps ops r
  | none => pickOps ops r
section
variable {Γ : Cx} {P : Program} {ops : Array Oper} {bl : Nat → Nat} {s : XS} {a : Act} {w : World}
theorem gate_wanted (hc : a.tmps = (s.t.map (SV.conc bl)).toArray) (o : Oper) (hlen : ∀ g want d, o.guard = some (g, want) → (ops[g]?).bind (·.dst) = some d → d < s.t.length) : Region.wanted o (yielded ops a.tmps) = gateX ops s o.guard := by
 unfold Region.wanted gateX
 cases hg : o.guard with
 | none => rfl
 | some q =>
  obtain ⟨g, want⟩ := q
  simp only [yielded]
  cases hd : (ops[g]?).bind (·.dst) with
  | none => simp
  | some d =>
   have hl := hlen g want d hg hd
   simp only [Option.bind_some]
   have e1 : a.tmps[d]? = some ((s.ev (.tmp d)).conc bl) := by
    rw [hc]; simp [XS.ev, hl]
   rw [e1]
   cases hx : s.ev (.tmp d) with
   | p i o => simp [SV.conc]
   | v x => cases x <;> simp [SV.conc]
theorem stepX_wp {o : Oper} {i : Nat} {K : XS → Prop} (hi : ops[i]? = some o) (hlen : ∀ g want d, o.guard = some (g, want) → (ops[g]?).bind (·.dst) = some d → d < s.t.length) (hc : Conc Γ bl s a w) (h : stepX P ops o K s) (Q : Exit → Act → World → Prop) :
  wpOp P ops Q i (fun a' w' => ∃ bl' s', Conc Γ bl' s' a' w' ∧ (isStore o.op = false → ∀ x, CW Γ bl' s'.bx s'.H s'.V x → CW Γ bl s.bx s.H s.V x) ∧ K s') a w := by
 unfold wpOp
 simp only [hi]
 have hgw := gate_wanted (ops := ops) hc.tm o hlen
 have body : opX P o K s → o.wp P a w (fun a' w' => ∃ bl' s', Conc Γ bl' s' a' w' ∧ (isStore o.op = false → ∀ x, CW Γ bl' s'.bx s'.H s'.V x → CW Γ bl s.bx s.H s.V x) ∧ K s') Q := by
  intro h
  unfold opX at h
  split at h
  ·obtain ⟨sv, ⟨hok, hr⟩, hk⟩ := readX_sound hc.ok h
   unfold Oper.wp
   rw [hr Γ bl a w hc.tm hc.cw]
   refine ⟨bl, _, hc.put o.dst sv hok, fun _ => ?_, hk⟩
   rw [XS.put_bx, XS.put_H, XS.put_V]; exact fun _ h => h
  ·exact loudX_sound h Γ bl a w hc Q
 unfold stepX at h
 cases hg : o.guard with
 | none =>
  rw [hg] at h hgw
  rw [if_pos (by rw [hgw]; rfl)]
  exact .inl (body h)
 | some q =>
  rw [hg] at h hgw
  dsimp only at h
  rw [hgw]
  split at h
  ·rename_i hw; rw [if_pos hw]; exact .inl (body h)
  ·rename_i hw
   rw [if_neg hw]
   refine ⟨bl, _, hc.put o.dst (.v undef) trivial, fun _ => ?_, h⟩
   rw [XS.put_bx, XS.put_H, XS.put_V]; exact fun _ h => h
end
def guardsIn (ops : Array Oper) (n : Nat) : Bool := noDefer ops && ops.all fun o => match o.guard with
 | none => true
 | some (g, _) => match (ops[g]?).bind (·.dst) with
  | some d => decide (d < n)
  | none => true
theorem guardsIn_spec {ops : Array Oper} {n : Nat} (h : guardsIn ops n = true) {i : Nat} {o : Oper} (hi : ops[i]? = some o) : ∀ g want d, o.guard = some (g, want) → (ops[g]?).bind (·.dst) = some d → d < n := by
 intro g want d hg hd
 unfold guardsIn at h
 rw [Bool.and_eq_true] at h
 have := Array.all_eq_true_iff_forall_mem.1 h.2 o (Array.mem_of_getElem? hi)
 rw [hg] at this
 dsimp only at this
 rw [hd] at this
 simpa using this
theorem put_len (s : XS) (d : Option Tmp) (x : SV) : (s.put d x).t.length = s.t.length := by cases d <;> simp [XS.put]
theorem Conc.len {Γ : Cx} {bl : Nat → Nat} {s : XS} {a : Act} {w : World} (h : Conc Γ bl s a w) : a.tmps.size = s.t.length := by rw [h.tm]; simp
theorem put_size (a : Act) (d : Option Tmp) (v : Value) : (a.put d v).tmps.size = a.tmps.size := by cases d <;> simp [Act.put]
theorem upon_size {P : Program} {o : Oper} {a : Act} {n : Nat} (hn : a.tmps.size = n) {next : Act → World → Prop} {Q : Exit → Act → World → Prop} {r : Result Next} (h : o.upon P a next Q r) : o.upon P a (fun a' w' => a'.tmps.size = n ∧ next a' w') Q r := by
 unfold Oper.upon at h ⊢
 split at h
 ·exact ⟨by rw [put_size]; exact hn, h⟩
 ·exact ⟨by rw [put_size]; exact hn, h⟩
 ·exact ⟨by rw [put_size]; exact hn, h⟩
 ·refine Calls.mono h fun e w'' he => ?_
  cases e with
  | returned v => exact ⟨by rw [put_size]; exact hn, he⟩
  | panicked c => exact he
  | outgrown => exact he
 ·exact Rows.mono h fun v w'' he => ⟨by rw [put_size]; exact hn, he⟩
 ·exact h
 ·exact h
theorem wpOp_size {P : Program} {ops : Array Oper} {Q : Exit → Act → World → Prop} {i : Nat} {K : Act → World → Prop} {a : Act} {w : World} {n : Nat} (hn : a.tmps.size = n) (h : wpOp P ops Q i K a w) : wpOp P ops Q i (fun a' w' => a'.tmps.size = n ∧ K a' w') a w := by
 unfold wpOp at h ⊢
 cases ho : ops[i]? with
 | none => rw [ho] at h; exact ⟨hn, h⟩
 | some o =>
  rw [ho] at h
  dsimp only at h ⊢
  split at h
  ·rename_i hw
   rw [if_pos hw]
   exact h.imp (fun h => upon_size hn h) id
  ·rename_i hw
   rw [if_neg hw]
   exact ⟨by rw [put_size]; exact hn, h⟩
theorem XWP.region {Γ : Cx} {P : Program} {id : Nat} {ops : Array Oper} {Q : Exit → XS → Prop} {s : XS} (hg : guardsIn ops s.t.length = true) (h : seqX P ops ops.toList (fun s' => Q .normal s') s) : XWP Γ P (.region id ops false) Q s := by
 intro bl a w hc
 have hnd : noDefer ops = true := by unfold guardsIn at hg; rw [Bool.and_eq_true] at hg; exact hg.1
 refine wpIn_mono (wpIn_region (wpOps_in onlyN_out hnd _ _ _ ?_)) (onlyN_all (Q := Q))
 have key : ∀ (l : List Oper) (k : Nat), ops.toList.drop k = l → ∀ bl s a w, Conc Γ bl s a w → guardsIn ops s.t.length = true → seqX P ops l (fun s' => Q .normal s') s → wpOps P ops (XQ Γ (onlyN Q)) (List.range' k l.length) a w := by
  intro l
  induction l with
  | nil => intro k _ bl s a w hc _ h; exact ⟨bl, s, hc, h⟩
  | cons o rest ih =>
   intro k hk bl s a w hc hg h
   have hi : ops[k]? = some o := by
    rw [← Array.getElem?_toList, ← List.head?_drop, hk]; rfl
   simp only [List.length_cons, List.range'_succ]
   rw [wpOps_cons]
   refine wpOp_mono ?_ (wpOp_size hc.len (stepX_wp hi (guardsIn_spec hg hi) hc h (XQ Γ (onlyN Q))))
   rintro a' w' ⟨hsz, bl', s', hc', _, hk'⟩
   refine ih (k + 1) (by rw [← List.drop_drop, hk]; rfl) bl' s' a' w' hc' ?_ hk'
   rw [← hc'.len, hsz]; exact hg
 have := key ops.toList 0 (by simp) bl s a w hc hg h
 rwa [Array.length_toList, ← List.range_eq_range'] at this
theorem freeG_spec {ops : Array Oper} {listed : Array Bool} {i : Nat} {oi : Oper} (hi : ops[i]? = some oi) (h : freeG ops listed i = true) :
  isRead oi.op = true ∧ ∃ W : List Nat, (∀ j ∈ W, listed.getD j true = false) ∧ ∀ j oj, ops[j]? = some oj → j ≠ i → listed.getD j true = false → (j ∈ W ∧ ∃ e ∈ oj.after, Region.binds .any e = true ∧ (e.on = i ∨ e.on ∈ W)) ∨ (j ∉ W ∧ oi.apart ops oj = true ∧ (isPure oi.op = true ∨ closes ops j = false)) := by
 unfold freeG at h
 simp only [hi, Bool.and_eq_true] at h
 obtain ⟨⟨h0, h1⟩, h2⟩ := h
 refine ⟨h0, waitsOf ops listed i 5 [], fun j hj => ?_, fun j oj hj hji hl => ?_⟩
 ·have := List.all_eq_true.1 h1 j hj
  simpa using this
 ·have hlt : j < ops.size := by
   rcases Nat.lt_or_ge j ops.size with h1 | h1
   ·exact h1
   ·rw [Array.getElem?_eq_none h1] at hj; cases hj
  have h3 := List.all_eq_true.1 h2 j (List.mem_range.2 hlt)
  simp only [hj, hl, Bool.or_false, Bool.or_eq_true, beq_iff_eq, hji, false_or, Bool.and_eq_true, Bool.not_eq_true'] at h3
  rcases h3 with ⟨h3, h4⟩ | ⟨⟨h3, h4⟩, h5⟩
  ·obtain ⟨e, he, hb⟩ := Array.any_eq_true'.1 h4
   simp only [Bool.and_eq_true, Bool.or_eq_true, beq_iff_eq] at hb
   refine .inl ⟨by simpa using h3, e, he, hb.1, ?_⟩
   rcases hb.2 with h | h
   ·exact .inl h
   ·exact .inr (by simpa using h)
  ·exact .inr ⟨by simpa using h3, h4, h5⟩
end Go.Proofs.YtobjjdnfgamgcaaGreat
end
