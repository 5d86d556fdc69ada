/- The law RecurOwn answers true at every input: every square matrix is a root of its characteristic polynomial. (part 7 of 11) -/
import Derived.OrdersHeld
import Derived.Below
import Derived.Tactics
import Derived.KernelRfl
import Derived.RangeFuncCalls
import Derived.RangeFuncFrom
import Derived.RangeFuncLeaves
import Derived.OrdersIn
import Derived.Laws.AppendOwn
import Derived.Laws.MakeOwn
import Derived.Laws.CopyRow
import Derived.Laws.Cells
import Derived.Laws.World
import Derived.Laws.Alloc2
import Derived.Laws.NewBlocks
import Derived.Maps.AppendAt
import Derived.Test.YthoboehbadmlmaaGreatProg
import Init.Data.List.Lemmas
import Init.Omega
import Derived.WalkKit
import Derived.ProofKit
import Derived.OpenShut
import Derived.ChangeOld
import Derived.SizedLaws
import Derived.ChangeSlices
import Derived.ChangeArms
import Derived.Deep.Slices
import Derived.Test.YthoboehbadmlmaaGreatOW6
section
namespace Go.Proofs.YthoboehbadmlmaaGreat
open Go Go.RowKit
set_option linter.unusedSimpArgs false
set_option linter.unusedVariables false
attribute [local irreducible] XWP Spec SpecO XPub XCall seqX clX apX stX ldX iaX slX
def Raw.q (r : Raw) : Rat := rv r.m (nv r.nd) (nv r.dd)
def Raw.ok (r : Raw) : Bool := rawOk r.m r.nd r.dd
def Raw.fit (r : Raw) : Prop := r.nd.length ≤ 4398046511104 ∧ r.dd.length ≤ 4398046511104
abbrev Raws (V : View) (v : Value) (l : List Raw) : Prop := SlAt rawE V v l
def okR (l : List Raw) : Bool := l.all Raw.ok
def fitR (l : List Raw) : Prop := ∀ r ∈ l, r.fit
def qs (l : List Raw) : List Rat := l.map Raw.q
theorem qs_len (l : List Raw) : (qs l).length = l.length := by simp [qs]
theorem Raws.up {V V' : View} {v : Value} {l : List Raw} (h : Raws V v l) (hV : V.le V') : Raws V' v l := SlAt.mono rawE_ok h hV
/-- valid fractions are fractions -/
theorem Raws.rats {V : View} {v : Value} {l : List Raw} (h : Raws V v l) (hk : okR l = true) : Rats V v (qs l) := by
  obtain ⟨A, c, rfl, h1, h2, h3⟩ := h
  refine ⟨A, c, by rw [qs_len], by rw [qs_len]; exact h1, h2, ?_⟩
  rcases h3 with rfl | ⟨b, o, arr, ty, fr, e1, e2, h4⟩
  · exact .inl rfl
  · refine .inr ⟨b, o, arr, ty, fr, e1, e2, fun i x hi => ?_⟩
    unfold qs at hi
    rw [List.getElem?_map] at hi
    cases hr : l[i]? with
    | none => rw [hr] at hi; cases hi
    | some r =>
      rw [hr] at hi; cases hi
      obtain ⟨m, n, d, g1, g2, g3, o1, o2, o3, hE⟩ := h4 i r hr
      exact ⟨m, n, d, g1, g2, g3, o1, o2, o3, RawAt.rat hE (List.all_eq_true.1 hk r (List.mem_of_getElem? hr))⟩
def toRaw (q : Rat) : Raw := ⟨ng q, dg q.num.natAbs, dg q.den⟩
theorem rightB_dg (n : Nat) : rightB (dg n) = true := by
  unfold rightB
  cases hl : (dg n).getLast? with
  | none => rfl
  | some d => have := dg_last n d hl; simp [this]
theorem toRaw_ok (q : Rat) : (toRaw q).ok = true := by
  show rawOk (ng q) (dg q.num.natAbs) (dg q.den) = true
  unfold rawOk
  rw [rightB_dg, rightB_dg, nv_dg, nv_dg]
  have h1 : (dg q.den).length ≠ 0 := fun e => q.den_nz (sz_eq_zero e)
  have h2 : Nat.gcd q.num.natAbs q.den = 1 := q.reduced
  have h3 : (decide ((dg q.num.natAbs).length = 0) && ng q) = false := by
    by_cases e : (dg q.num.natAbs).length = 0
    · have e2 : q.num.natAbs = 0 := sz_eq_zero e
      unfold ng
      rw [decide_eq_false (p := q.num < 0) (by omega)]; simp
    · rw [decide_eq_false e]; rfl
  rw [h3, decide_eq_false h1, decide_eq_true h2]; rfl
theorem toRaw_q (q : Rat) : (toRaw q).q = q := by
  show rv (ng q) (nv (dg q.num.natAbs)) (nv (dg q.den)) = q
  rw [nv_dg, nv_dg, rv_self]
theorem Rats.raws {V : View} {v : Value} {l : List Rat} (h : Rats V v l) : Raws V v (l.map toRaw) := by
  obtain ⟨A, c, rfl, h1, h2, h3⟩ := h
  refine ⟨A, c, by rw [List.length_map], by rw [List.length_map]; exact h1, h2, ?_⟩
  rcases h3 with rfl | ⟨b, o, arr, ty, fr, e1, e2, h4⟩
  · exact .inl rfl
  · refine .inr ⟨b, o, arr, ty, fr, e1, e2, fun i x hi => ?_⟩
    rw [List.getElem?_map] at hi
    cases hr : l[i]? with
    | none => rw [hr] at hi; cases hi
    | some r =>
      rw [hr] at hi; cases hi
      obtain ⟨m, n, d, g1, g2, g3, o1, o2, o3, hE⟩ := h4 i r hr
      exact ⟨m, n, d, g1, g2, g3, o1, o2, o3, hE⟩
theorem okR_toRaw (l : List Rat) : okR (l.map toRaw) = true := by
  unfold okR
  rw [List.all_map]
  exact List.all_eq_true.2 fun q _ => toRaw_ok q
theorem qs_toRaw (l : List Rat) : qs (l.map toRaw) = l := by
  unfold qs
  rw [List.map_map]
  have : Raw.q ∘ toRaw = id := by funext q; exact toRaw_q q
  rw [this, List.map_id]
theorem fitR_toRaw {l : List Rat} (h : ∀ x ∈ l, QF x) : fitR (l.map toRaw) := fun r hr => by
  obtain ⟨q, hq, rfl⟩ := List.mem_map.1 hr
  exact ⟨(h q hq).fits.1, (h q hq).fits.2⟩

theorem fine1_c (V : View) (v : Value) (r : Raw) (h : rawE V v r) (f : r.fit) : Spec Tryz.prog 128 [v] V fun v' V' => v' = .bool (!r.ok) := by
  have h0 := h
  obtain ⟨n, d, rfl, hn, hd⟩ := h
  refine (Spec.enter Tryz.func128 rfl fun Γ => ?_)
  simp only [Tryz.ntmps128, List.map_cons, List.map_nil, List.length_cons, List.length_nil, Nat.reduceAdd, Nat.reduceSub, List.replicate_succ, List.replicate_zero, List.cons_append, List.nil_append]
  first | refine Gx.a (by kernel_rfl) fun K hK => ?_ | refine Gx.b (by kernel_rfl) fun K hK => ?_ | refine Gx.c (by kernel_rfl) fun K hK => ?_
  simp only [XA, XB, gateX, Nat.reduceAdd, Nat.reduceLeDiff, Nat.reduceSub, Nat.reduceMul, ↓reduceIte, Int.reduceToNat, Int.reduceLE, beq_self_eq_true]
  refine hK _ ?_
  first | refine Gx.a (by kernel_rfl) fun K hK => ?_ | refine Gx.b (by kernel_rfl) fun K hK => ?_ | refine Gx.c (by kernel_rfl) fun K hK => ?_
  simp only [XA, XB, gateX, Nat.reduceAdd, Nat.reduceLeDiff, Nat.reduceSub, Nat.reduceMul, ↓reduceIte, Int.reduceToNat, Int.reduceLE, beq_self_eq_true]
  refine call_go (by kernel_rfl) rfl (qright_c _ _ _ _ _ h0 f.1 f.2) fun v1 V1 hV1 h1 => ?_
  subst h1
  simp only [XA, XB, gateX, Nat.reduceAdd, Nat.reduceLeDiff, Nat.reduceSub, Nat.reduceMul, ↓reduceIte, Int.reduceToNat, Int.reduceLE, beq_self_eq_true]
  refine hK _ (XWP.ret ?_)
  try simp only [thenX_ret, inBlockX_ret]
  refine ret_go _ rfl ?_
  rfl
theorem index_c (V : View) (v : Value) (l : List Raw) (h : Raws V v l) (f : fitR l) (ll : l.length ≤ 1000000) : Spec Tryz.prog 151 [v, .func (.func 128) #[] #[]] V fun v' V' => ∃ r : Int, v' = .int .i64 r ∧ decide (0 ≤ r) = !okR l := by
  obtain ⟨A, c, rfl, hc, hm⟩ := h.form
  refine (Spec.enter Tryz.func151 rfl fun Γ => ?_)
  simp only [Tryz.ntmps151, List.map_cons, List.map_nil, List.length_cons, List.length_nil, Nat.reduceAdd, Nat.reduceSub, List.replicate_succ, List.replicate_zero, List.cons_append, List.nil_append]
  first | refine Gx.a (by kernel_rfl) fun K hK => ?_ | refine Gx.b (by kernel_rfl) fun K hK => ?_ | refine Gx.c (by kernel_rfl) fun K hK => ?_
  simp only [XA, XB, gateX, Nat.reduceAdd, Nat.reduceLeDiff, Nat.reduceSub, Nat.reduceMul, ↓reduceIte, Int.reduceToNat, Int.reduceLE, beq_self_eq_true]
  refine hK _ ?_
  refine XWP.cut (fun s => StIs (fun Z => [Z 0,Z 1,Z 2,Z 3,Z 4,Z 5,Z 6,Z 7,Z 8,Z 9,Z 10,Z 11,Z 12,Z 13,Z 14,Z 15,Z 16,Z 17,Z 18]) [] (fun _ => none) s.V s ∧ okR l = true) ?_ ?_
  · first | refine Gx.a (by kernel_rfl) fun K hK => ?_ | refine Gx.b (by kernel_rfl) fun K hK => ?_ | refine Gx.c (by kernel_rfl) fun K hK => ?_
    simp only [XA, XB, gateX, Nat.reduceAdd, Nat.reduceLeDiff, Nat.reduceSub, Nat.reduceMul, ↓reduceIte, Int.reduceToNat, Int.reduceLE, beq_self_eq_true]
    refine hK _ ?_
    clear hK
    first | refine XWP.block ?_ | refine XWP.seq (XWP.block ?_)
    refine XWP.loop (fun n s => ∃ (k : Nat) (V2 : View), StIs (fun Z => [.v (.slice A l.length c), .v (.func (.func 128) #[] #[]), Z 2,Z 3,Z 4,Z 5,Z 6, .v (.int .i64 (l.length : Int)), .v (.int .i64 (k : Int)), Z 9,Z 10,Z 11,Z 12,Z 13,Z 14,Z 15,Z 16,Z 17,Z 18]) [] (fun _ => none) V2 s ∧ V.le V2 ∧ n + k = l.length ∧ okR (l.take k) = true) l.length ⟨0, V, StIs.of (by exact rfl), View.le_refl _, rfl, by simp [okR]⟩ ?_
    rintro n s ⟨k, V2, hs, hV2, hn, hk⟩
    obtain ⟨u, rfl⟩ := hs.out
    try dsimp only
    by_cases hlt : k < l.length
    · have b1 : decide ((k : Int) < (l.length : Int)) = true := decide_eq_true (by omega)
      first | refine Gx.a (by kernel_rfl) fun K hK => ?_ | refine Gx.b (by kernel_rfl) fun K hK => ?_ | refine Gx.c (by kernel_rfl) fun K hK => ?_
      simp only [XA, XB, gateX, Nat.reduceAdd, Nat.reduceLeDiff, Nat.reduceSub, Nat.reduceMul, ↓reduceIte, Int.reduceToNat, Int.reduceLE, beq_self_eq_true, b1]
      refine hK _ ?_
      first | refine Gx.t rfl ?_ | refine XWP.seq (Gx.t rfl ?_)
      refine XWP.skip ?_
      refine XWP.seq ?_
      first | refine XWP.block ?_ | refine XWP.seq (XWP.block ?_)
      first | refine Gx.a (by kernel_rfl) fun K hK => ?_ | refine Gx.b (by kernel_rfl) fun K hK => ?_ | refine Gx.c (by kernel_rfl) fun K hK => ?_
      simp only [XA, XB, gateX, Nat.reduceAdd, Nat.reduceLeDiff, Nat.reduceSub, Nat.reduceMul, ↓reduceIte, Int.reduceToNat, Int.reduceLE, beq_self_eq_true]
      refine hK _ ?_
      first | refine Gx.a (by kernel_rfl) fun K hK => ?_ | refine Gx.b (by kernel_rfl) fun K hK => ?_ | refine Gx.c (by kernel_rfl) fun K hK => ?_
      have hv2 := Raws.up h hV2
      obtain ⟨b, o, rfl⟩ := SlAt.addr hv2 (by omega)
      obtain ⟨x, hx, ⟨m3, n3, d3, rfl, p1, p2, p3⟩, hld⟩ := SlAt.load hv2 k hlt
      simp only [XA, XB, gateX, Nat.reduceAdd, Nat.reduceLeDiff, Nat.reduceSub, Nat.reduceMul, ↓reduceIte, Int.reduceToNat, Int.reduceLE, beq_self_eq_true]
      refine ⟨by omega, by omega, ld_mem (hld _) ?_⟩
      simp only [XA, XB, gateX, Nat.reduceAdd, Nat.reduceLeDiff, Nat.reduceSub, Nat.reduceMul, ↓reduceIte, Int.reduceToNat, Int.reduceLE, beq_self_eq_true]
      refine call_go (by kernel_rfl) rfl (fine1_c _ _ _ hx (f _ (List.getElem_mem hlt))) fun v3 V3 hV3 h3 => ?_
      subst h3
      have et : l.take (k + 1) = l.take k ++ [l[k]] := by rw [List.take_succ_eq_append_getElem hlt]
      cases hr : l[k].ok
      · simp only [XA, XB, gateX, Nat.reduceAdd, Nat.reduceLeDiff, Nat.reduceSub, Nat.reduceMul, ↓reduceIte, Int.reduceToNat, Int.reduceLE, beq_self_eq_true]
        refine hK _ ?_
        first | refine Gx.t rfl ?_ | refine XWP.seq (Gx.t rfl ?_)
        first | refine Gx.a (by kernel_rfl) fun K hK => ?_ | refine Gx.b (by kernel_rfl) fun K hK => ?_ | refine Gx.c (by kernel_rfl) fun K hK => ?_
        simp only [XA, XB, gateX, Nat.reduceAdd, Nat.reduceLeDiff, Nat.reduceSub, Nat.reduceMul, ↓reduceIte, Int.reduceToNat, Int.reduceLE, beq_self_eq_true]
        refine hK _ (XWP.ret ?_)
        try simp only [thenX_ret, inBlockX_ret]
        refine ret_go _ rfl ?_
        refine ⟨k, rfl, ?_⟩
        have : okR l = false := by
          unfold okR
          rw [List.all_eq_false]
          exact ⟨l[k], List.getElem_mem hlt, by rw [hr]; simp⟩
        rw [this, decide_eq_true (by omega)]; rfl
      · simp only [XA, XB, gateX, Nat.reduceAdd, Nat.reduceLeDiff, Nat.reduceSub, Nat.reduceMul, ↓reduceIte, Int.reduceToNat, Int.reduceLE, beq_self_eq_true]
        refine hK _ ?_
        first | refine Gx.f rfl ?_ | refine XWP.seq (Gx.f rfl ?_)
        refine XWP.skip ?_
        first | refine Gx.a (by kernel_rfl) fun K hK => ?_ | refine Gx.b (by kernel_rfl) fun K hK => ?_ | refine Gx.c (by kernel_rfl) fun K hK => ?_
        simp only [XA, XB, gateX, Nat.reduceAdd, Nat.reduceLeDiff, Nat.reduceSub, Nat.reduceMul, ↓reduceIte, Int.reduceToNat, Int.reduceLE, beq_self_eq_true, i64_succ k (by omega)]
        refine hK _ ⟨n - 1, by omega, k + 1, V3, StIs.of (by exact rfl), View.le_trans hV2 hV3, by omega, ?_⟩
        unfold okR at hk ⊢
        rw [et, List.all_append, hk]
        simp [hr]
    · have b1 : decide ((k : Int) < (l.length : Int)) = false := decide_eq_false (by omega)
      first | refine Gx.a (by kernel_rfl) fun K hK => ?_ | refine Gx.b (by kernel_rfl) fun K hK => ?_ | refine Gx.c (by kernel_rfl) fun K hK => ?_
      simp only [XA, XB, gateX, Nat.reduceAdd, Nat.reduceLeDiff, Nat.reduceSub, Nat.reduceMul, ↓reduceIte, Int.reduceToNat, Int.reduceLE, beq_self_eq_true, b1]
      refine hK _ ?_
      first | refine Gx.f rfl ?_ | refine XWP.seq (Gx.f rfl ?_)
      refine XWP.exit ?_
      rw [List.take_of_length_le (by omega)] at hk
      exact ⟨StIs.of (by exact rfl), hk⟩
  rintro s ⟨hs, hk⟩
  obtain ⟨t, bx, H, V2⟩ := s
  obtain ⟨u, e⟩ := hs.out
  cases e
  try dsimp only
  first | refine Gx.a (by kernel_rfl) fun K hK => ?_ | refine Gx.b (by kernel_rfl) fun K hK => ?_ | refine Gx.c (by kernel_rfl) fun K hK => ?_
  simp only [XA, XB, gateX, Nat.reduceAdd, Nat.reduceLeDiff, Nat.reduceSub, Nat.reduceMul, ↓reduceIte, Int.reduceToNat, Int.reduceLE, beq_self_eq_true]
  refine hK _ (XWP.ret ?_)
  try simp only [thenX_ret, inBlockX_ret]
  refine ret_go _ rfl ?_
  exact ⟨-1, rfl, by rw [hk]; rfl⟩
theorem contains_c (V : View) (v : Value) (l : List Raw) (h : Raws V v l) (f : fitR l) (ll : l.length ≤ 1000000) : Spec Tryz.prog 125 [v, .func (.func 128) #[] #[]] V fun v' V' => v' = .bool (!okR l) := by
  refine (Spec.enter Tryz.func125 rfl fun Γ => ?_)
  simp only [Tryz.ntmps125, List.map_cons, List.map_nil, List.length_cons, List.length_nil, Nat.reduceAdd, Nat.reduceSub, List.replicate_succ, List.replicate_zero, List.cons_append, List.nil_append]
  first | refine Gx.a (by kernel_rfl) fun K hK => ?_ | refine Gx.b (by kernel_rfl) fun K hK => ?_ | refine Gx.c (by kernel_rfl) fun K hK => ?_
  simp only [XA, XB, gateX, Nat.reduceAdd, Nat.reduceLeDiff, Nat.reduceSub, Nat.reduceMul, ↓reduceIte, Int.reduceToNat, Int.reduceLE, beq_self_eq_true]
  refine hK _ ?_
  first | refine Gx.a (by kernel_rfl) fun K hK => ?_ | refine Gx.b (by kernel_rfl) fun K hK => ?_ | refine Gx.c (by kernel_rfl) fun K hK => ?_
  simp only [XA, XB, gateX, Nat.reduceAdd, Nat.reduceLeDiff, Nat.reduceSub, Nat.reduceMul, ↓reduceIte, Int.reduceToNat, Int.reduceLE, beq_self_eq_true]
  refine call_go (by kernel_rfl) rfl (index_c _ _ _ h f ll) fun v1 V1 hV1 h1 => ?_
  obtain ⟨r, rfl, hr⟩ := h1
  simp only [XA, XB, gateX, Nat.reduceAdd, Nat.reduceLeDiff, Nat.reduceSub, Nat.reduceMul, ↓reduceIte, Int.reduceToNat, Int.reduceLE, beq_self_eq_true, hr]
  refine hK _ (XWP.ret ?_)
  try simp only [thenX_ret, inBlockX_ret]
  refine ret_go _ rfl ?_
  rfl
theorem fine_c (V : View) (v : Value) (l : List Raw) (h : Raws V v l) (f : fitR l) (ll : l.length ≤ 1000000) : Spec Tryz.prog 66 [v] V fun v' V' => v' = .bool (okR l) := by
  refine (Spec.enter Tryz.func66 rfl fun Γ => ?_)
  simp only [Tryz.ntmps66, List.map_cons, List.map_nil, List.length_cons, List.length_nil, Nat.reduceAdd, Nat.reduceSub, List.replicate_succ, List.replicate_zero, List.cons_append, List.nil_append]
  first | refine Gx.a (by kernel_rfl) fun K hK => ?_ | refine Gx.b (by kernel_rfl) fun K hK => ?_ | refine Gx.c (by kernel_rfl) fun K hK => ?_
  simp only [XA, XB, gateX, Nat.reduceAdd, Nat.reduceLeDiff, Nat.reduceSub, Nat.reduceMul, ↓reduceIte, Int.reduceToNat, Int.reduceLE, beq_self_eq_true]
  refine hK _ ?_
  first | refine Gx.a (by kernel_rfl) fun K hK => ?_ | refine Gx.b (by kernel_rfl) fun K hK => ?_ | refine Gx.c (by kernel_rfl) fun K hK => ?_
  simp only [XA, XB, gateX, Nat.reduceAdd, Nat.reduceLeDiff, Nat.reduceSub, Nat.reduceMul, ↓reduceIte, Int.reduceToNat, Int.reduceLE, beq_self_eq_true]
  refine call_go (by kernel_rfl) rfl (contains_c _ _ _ h f ll) fun v1 V1 hV1 h1 => ?_
  subst h1
  simp only [XA, XB, gateX, Nat.reduceAdd, Nat.reduceLeDiff, Nat.reduceSub, Nat.reduceMul, ↓reduceIte, Int.reduceToNat, Int.reduceLE, beq_self_eq_true]
  refine hK _ (XWP.ret ?_)
  try simp only [thenX_ret, inBlockX_ret]
  refine ret_go _ rfl ?_
  show Value.bool _ = _
  rw [Bool.not_not]
def polB (l : List Rat) : Bool := decide (l.length = 0) || !decide (cf l (l.length - 1) = 0)
def rightP (l : List Raw) : Bool := decide (l.length ≤ 1000) && okR l && polB (qs l)
theorem polB_iff (l : List Rat) : polB l = true ↔ PolQ l := by
  unfold polB PolQ
  rw [Bool.or_eq_true, decide_eq_true_eq, Bool.not_eq_true', decide_eq_false_iff_not]
  constructor
  · rintro (h | h) h0
    · omega
    · exact h
  · intro h
    rcases Nat.eq_zero_or_pos l.length with h0 | h0
    · exact .inl h0
    · exact .inr (h h0)
theorem cright_c (V : View) (v : Value) (l : List Raw) (h : Raws V v l) (f : fitR l) (ll : l.length ≤ 1000000) : Spec Tryz.prog 47 [v] V fun v' V' => v' = .bool (rightP l) := by
  obtain ⟨A, c, rfl, hc, hm⟩ := h.form
  refine (Spec.enter Tryz.func47 rfl fun Γ => ?_)
  simp only [Tryz.ntmps47, List.map_cons, List.map_nil, List.length_cons, List.length_nil, Nat.reduceAdd, Nat.reduceSub, List.replicate_succ, List.replicate_zero, List.cons_append, List.nil_append]
  first | refine Gx.a (by kernel_rfl) fun K hK => ?_ | refine Gx.b (by kernel_rfl) fun K hK => ?_ | refine Gx.c (by kernel_rfl) fun K hK => ?_
  simp only [XA, XB, gateX, Nat.reduceAdd, Nat.reduceLeDiff, Nat.reduceSub, Nat.reduceMul, ↓reduceIte, Int.reduceToNat, Int.reduceLE, beq_self_eq_true]
  refine hK _ ?_
  first | refine Gx.a (by kernel_rfl) fun K hK => ?_ | refine Gx.b (by kernel_rfl) fun K hK => ?_ | refine Gx.c (by kernel_rfl) fun K hK => ?_
  by_cases h1 : l.length ≤ 1000
  · have b1 : decide ((l.length : Int) ≤ 1000) = true := decide_eq_true (by omega)
    simp only [XA, XB, gateX, Nat.reduceAdd, Nat.reduceLeDiff, Nat.reduceSub, Nat.reduceMul, ↓reduceIte, Int.reduceToNat, Int.reduceLE, beq_self_eq_true, b1]
    refine call_go (by kernel_rfl) rfl (fine_c _ _ _ h f ll) fun v1 V1 hV1 h1' => ?_
    subst h1'
    cases hk : okR l
    · simp only [XA, XB, gateX, Nat.reduceAdd, Nat.reduceLeDiff, Nat.reduceSub, Nat.reduceMul, ↓reduceIte, Int.reduceToNat, Int.reduceLE, beq_self_eq_true]
      refine hK _ (XWP.ret ?_)
      try simp only [thenX_ret, inBlockX_ret]
      refine ret_go _ rfl ?_
      unfold rightP; rw [hk, decide_eq_true h1]; rfl
    by_cases h0 : l.length = 0
    · have b2 : decide ((l.length : Int) = 0) = true := decide_eq_true (by omega)
      simp only [XA, XB, gateX, Nat.reduceAdd, Nat.reduceLeDiff, Nat.reduceSub, Nat.reduceMul, ↓reduceIte, Int.reduceToNat, Int.reduceLE, beq_self_eq_true, b2]
      refine hK _ (XWP.ret ?_)
      try simp only [thenX_ret, inBlockX_ret]
      refine ret_go _ rfl ?_
      unfold rightP polB; rw [hk, decide_eq_true h1, decide_eq_true (p := (qs l).length = 0) (by rw [qs_len]; exact h0)]; rfl
    · have b2 : decide ((l.length : Int) = 0) = false := decide_eq_false (by omega)
      have w1 := i64_pred l.length (by omega) (by omega)
      have hr := (Raws.rats h hk).up hV1
      obtain ⟨b, o, rfl⟩ := h.addr (by omega)
      obtain ⟨m3, n3, d3, hx, ⟨p1, p2, p3⟩, hld⟩ := Rats.get hr (l.length - 1) (by rw [qs_len]; omega)
      simp only [XA, XB, gateX, Nat.reduceAdd, Nat.reduceLeDiff, Nat.reduceSub, Nat.reduceMul, ↓reduceIte, Int.reduceToNat, Int.reduceLE, beq_self_eq_true, b2, w1]
      refine ⟨by omega, by omega, ld_mem (hld _) ?_⟩
      simp only [XA, XB, gateX, Nat.reduceAdd, Nat.reduceLeDiff, Nat.reduceSub, Nat.reduceMul, ↓reduceIte, Int.reduceToNat, Int.reduceLE, beq_self_eq_true]
      refine call_go (by kernel_rfl) rfl (czero_c _ _ _ hx) fun v2 V2 hV2 h2 => ?_
      subst h2
      simp only [XA, XB, gateX, Nat.reduceAdd, Nat.reduceLeDiff, Nat.reduceSub, Nat.reduceMul, ↓reduceIte, Int.reduceToNat, Int.reduceLE, beq_self_eq_true]
      refine hK _ (XWP.ret ?_)
      try simp only [thenX_ret, inBlockX_ret]
      refine ret_go _ rfl ?_
      unfold rightP polB; rw [hk, decide_eq_true h1, qs_len, decide_eq_false (p := l.length = 0) h0]; rfl
  · have b1 : decide ((l.length : Int) ≤ 1000) = false := decide_eq_false (by omega)
    simp only [XA, XB, gateX, Nat.reduceAdd, Nat.reduceLeDiff, Nat.reduceSub, Nat.reduceMul, ↓reduceIte, Int.reduceToNat, Int.reduceLE, beq_self_eq_true, b1]
    refine hK _ (XWP.ret ?_)
    try simp only [thenX_ret, inBlockX_ret]
    refine ret_go _ rfl ?_
    unfold rightP; rw [decide_eq_false h1]; rfl
end Go.Proofs.YthoboehbadmlmaaGreat
end
section
namespace Go.Proofs.YthoboehbadmlmaaGreat
set_option linter.unusedVariables false
/-- x is a whole number over D -/
def Over (D : Nat) (B : Nat) (x : Rat) : Prop := ∃ n : Int, n.natAbs ≤ 2 ^ B ∧ x = mkRat n D
/-- one denominator for all -/
def CB (B : Nat) (l : List Rat) : Prop := ∃ D : Nat, 0 < D ∧ D ≤ 2 ^ B ∧ ∀ i, Over D B (cf l i)
theorem mkRat_sg (n : Int) (d : Nat) : mkRat n d = rv (decide (n < 0)) n.natAbs d := by unfold rv; rw [sg_self]
theorem Over.qb {D B : Nat} {x : Rat} (h : Over D B x) (hD : D ≤ 2 ^ B) : QB B x := by
  obtain ⟨n, h1, rfl⟩ := h
  rw [mkRat_sg]; exact QB_rv _ h1 hD
theorem CB.at {B : Nat} {l : List Rat} (h : CB B l) (i : Nat) : QB B (cf l i) := by
  obtain ⟨D, _, h2, h3⟩ := h; exact (h3 i).qb h2
theorem CB.mem {B : Nat} {l : List Rat} (h : CB B l) : ∀ x ∈ l, QB B x := fun x hx => by
  obtain ⟨i, hi, rfl⟩ := List.mem_iff_getElem.1 hx
  rw [cf_get hi]; exact h.at i
theorem CB.mono {A B : Nat} {l : List Rat} (h : CB A l) (hB : A ≤ B) : CB B l := by
  obtain ⟨D, h1, h2, h3⟩ := h
  refine ⟨D, h1, Nat.le_trans h2 (two_mono hB), fun i => ?_⟩
  obtain ⟨n, h4, h5⟩ := h3 i
  exact ⟨n, Nat.le_trans h4 (two_mono hB), h5⟩
theorem Over.zero (D B : Nat) : Over D B 0 := ⟨0, by simp, by simp⟩
theorem CB_nil (B : Nat) : CB B [] := ⟨1, by omega, Nat.succ_le_of_lt (two_pos B), fun i => by rw [cf_none (by simp)]; exact Over.zero _ _⟩
/-- another denominator -/
theorem Over.scale {D E B C : Nat} {x : Rat} (h : Over D B x) (hE : 0 < E) (hC : E ≤ 2 ^ C) : Over (D * E) (B + C) x := by
  obtain ⟨n, h1, rfl⟩ := h
  refine ⟨n * E, ?_, ?_⟩
  · rw [Int.natAbs_mul, Int.natAbs_natCast]; exact two_mul_le h1 hC
  · rw [Rat.mkRat_mul_right (by omega)]
theorem Over.mul {D E B C : Nat} {x y : Rat} (hx : Over D B x) (hy : Over E C y) : Over (D * E) (B + C) (x * y) := by
  obtain ⟨n, h1, rfl⟩ := hx
  obtain ⟨m, h2, rfl⟩ := hy
  exact ⟨n * m, by rw [Int.natAbs_mul]; exact two_mul_le h1 h2, Rat.mkRat_mul_mkRat _ _ _ _⟩
theorem mkRat_add_same (n m : Int) {D : Nat} (hD : 0 < D) : mkRat n D + mkRat m D = mkRat (n + m) D := by
  rw [Rat.mkRat_add_mkRat _ _ (by omega) (by omega), ← Int.add_mul, Rat.mkRat_mul_right (by omega)]
theorem Over.add {D B : Nat} {x y : Rat} (hD : 0 < D) (hx : Over D B x) (hy : Over D B y) : Over D (B + 1) (x + y) := by
  obtain ⟨n, h1, rfl⟩ := hx
  obtain ⟨m, h2, rfl⟩ := hy
  exact ⟨n + m, Nat.le_trans (Int.natAbs_add_le _ _) (two_add_le h1 h2), mkRat_add_same n m hD⟩
theorem Over.mono {D A B : Nat} {x : Rat} (h : Over D A x) (hB : A ≤ B) : Over D B x := by
  obtain ⟨n, h1, h2⟩ := h; exact ⟨n, Nat.le_trans h1 (two_mono hB), h2⟩
theorem QB.over {B : Nat} {x : Rat} (h : QB B x) : Over x.den B x := ⟨x.num, h.1, (Rat.mkRat_self x).symm⟩
theorem den_pos (x : Rat) : 0 < x.den := Nat.pos_of_ne_zero x.den_nz
theorem CB_one {B : Nat} {x : Rat} (h : QB B x) : CB B [x] := ⟨x.den, den_pos x, h.2, fun i => by
  cases i with
  | zero => exact h.over
  | succ i => rw [cf_none (by simp)]; exact Over.zero _ _⟩
theorem cf_append_left {l m : List Rat} {i : Nat} (h : i < l.length) : cf (l ++ m) i = cf l i := by
  unfold cf; simp only [List.getD_eq_getElem?_getD]; rw [List.getElem?_append_left h]
theorem cf_append_right {l m : List Rat} {i : Nat} (h : l.length ≤ i) : cf (l ++ m) i = cf m (i - l.length) := by
  unfold cf; simp only [List.getD_eq_getElem?_getD]; rw [List.getElem?_append_right h]
theorem CB.append {A B : Nat} {l m : List Rat} (hl : CB A l) (hm : CB B m) : CB (A + B) (l ++ m) := by
  obtain ⟨D, d1, d2, d3⟩ := hl
  obtain ⟨E, e1, e2, e3⟩ := hm
  refine ⟨D * E, Nat.mul_pos d1 e1, two_mul_le d2 e2, fun i => ?_⟩
  by_cases hi : i < l.length
  · rw [cf_append_left hi]; exact (d3 i).scale e1 e2
  · rw [cf_append_right (by omega)]
    have := (e3 (i - l.length)).scale d1 d2
    rw [Nat.mul_comm, Nat.add_comm]; exact this
/-- of single fractions -/
theorem CB_of {B : Nat} : ∀ (l : List Rat), (∀ x ∈ l, QB B x) → CB (l.length * B) l
  | [], _ => CB_nil _
  | x :: l, h => by
    have h1 := CB_one (h x (by simp))
    have h2 := CB_of l fun y hy => h y (by simp [hy])
    have := h1.append h2
    have e : (x :: l).length * B = B + l.length * B := by rw [List.length_cons, Nat.add_mul, Nat.one_mul, Nat.add_comm]
    rw [e]; exact this
theorem CB.padd {A B C : Nat} {p q : List Rat} {c : Rat} (hp : CB A p) (hq : CB B q) (hc : QB C c) (up : Nat) : CB (A + B + C + 1) (pAdd p q c up) := by
  obtain ⟨D, d1, d2, d3⟩ := hp
  obtain ⟨E, e1, e2, e3⟩ := hq
  have hEc : E * c.den ≤ 2 ^ (B + C) := two_mul_le e2 hc.2
  have pEc : 0 < E * c.den := Nat.mul_pos e1 (den_pos c)
  refine ⟨D * (E * c.den), Nat.mul_pos d1 pEc, Nat.le_trans (two_mul_le d2 hEc) (two_mono (by omega)), fun i => ?_⟩
  rw [cf_pAdd]
  unfold pAt
  have h1 : Over (D * (E * c.den)) (A + (B + C)) (cf p i) := (d3 i).scale pEc hEc
  have h2 : Over (D * (E * c.den)) (A + (B + C)) (if up ≤ i then cf q (i - up) * c else 0) := by
    split
    · have := ((e3 (i - up)).mul hc.over).scale d1 d2
      rw [Nat.mul_comm, Nat.add_comm A]; exact this
    · exact Over.zero _ _
  have := h1.add (Nat.mul_pos d1 pEc) h2
  exact this.mono (by omega)
/-- sums of products: e: the number of them is at most 2^e -/
theorem Over.offs {D E A B : Nat} {l q : List Rat} (hD : 0 < D) (hE : 0 < E) (hl : ∀ i, Over D A (cf l i)) (hq : ∀ i, Over E B (cf q i)) (t k e : Nat) (hk : k ≤ 2 ^ e) : Over (D * E) (A + B + e) (offS l q t k) := by
  have key : ∀ k, ∃ n : Int, n.natAbs ≤ k * 2 ^ (A + B) ∧ offS l q t k = mkRat n (D * E) := by
    intro k
    induction k with
    | zero => exact ⟨0, by simp, by simp [offS]⟩
    | succ k ih =>
      obtain ⟨n, h1, h2⟩ := ih
      have h3 := (hq k).mul (hl (t - k))
      rw [Nat.mul_comm E D, Nat.add_comm B A] at h3
      obtain ⟨m, h4, h5⟩ := h3
      refine ⟨n + m, ?_, ?_⟩
      · have := Int.natAbs_add_le n m
        rw [Nat.add_mul, Nat.one_mul]; omega
      · rw [offS, h2, h5, mkRat_add_same _ _ (Nat.mul_pos hD hE)]
  obtain ⟨n, h1, h2⟩ := key k
  refine ⟨n, ?_, h2⟩
  rw [Nat.add_comm (A + B) e, Nat.pow_add]
  exact Nat.le_trans h1 (Nat.mul_le_mul_right _ hk)
theorem CB.offs {A B : Nat} {l q : List Rat} (hl : CB A l) (hq : CB B q) (t k e : Nat) (hk : k ≤ 2 ^ e) : QB (A + B + e) (offS l q t k) := by
  obtain ⟨D, d1, d2, d3⟩ := hl
  obtain ⟨E, e1, e2, e3⟩ := hq
  exact (Over.offs d1 e1 d3 e3 t k e hk).qb (Nat.le_trans (two_mul_le d2 e2) (two_mono (by omega)))
theorem QB.qf {B : Nat} {q : Rat} (h : QB B q) (hB : B ≤ 17592186044416) : QF q := QF.of h hB
theorem CB.qf {B : Nat} {l : List Rat} (h : CB B l) (hB : B ≤ 17592186044416) : ∀ x ∈ l, QF x := fun x hx => QF.of (h.mem x hx) hB

end Go.Proofs.YthoboehbadmlmaaGreat
end
section
namespace Go.Proofs.YthoboehbadmlmaaGreat
set_option linter.unusedVariables false
theorem one_ne : (1 : Rat) ≠ 0 := by decide
/-- the bound of a round -/
def gb (M r s : Nat) : Nat := 5 ^ r * (2 ^ s * (M + 1))
end Go.Proofs.YthoboehbadmlmaaGreat
end
section
namespace Go.Proofs.YthoboehbadmlmaaGreat
open Go Go.RowKit
set_option linter.unusedSimpArgs false
set_option linter.unusedVariables false
attribute [local irreducible] XWP Spec SpecO XPub XCall seqX clX apX stX ldX iaX slX
end Go.Proofs.YthoboehbadmlmaaGreat
end
section
namespace Go.Proofs.YthoboehbadmlmaaGreat
open Go Go.RowKit
set_option linter.unusedSimpArgs false
set_option linter.unusedVariables false
attribute [local irreducible] XWP Spec SpecO XPub XCall seqX clX apX stX ldX iaX slX
end Go.Proofs.YthoboehbadmlmaaGreat
end
section
namespace Go.Proofs.YthoboehbadmlmaaGreat
open Go Go.RowKit
set_option linter.unusedSimpArgs false
set_option linter.unusedVariables false
attribute [local irreducible] XWP Spec SpecO XPub XCall seqX clX apX stX ldX iaX slX
theorem rightP_parts {P : List Raw} (h : rightP P = true) : okR P = true ∧ PolQ (qs P) ∧ P.length ≤ 1000 := by
  unfold rightP at h
  rw [Bool.and_eq_true, Bool.and_eq_true, decide_eq_true_eq] at h
  exact ⟨h.1.2, (polB_iff _).1 h.2, h.1.1⟩
end Go.Proofs.YthoboehbadmlmaaGreat
end
section
namespace Go.Proofs.YthoboehbadmlmaaGreat
open Go Go.RowKit
set_option linter.unusedSimpArgs false
set_option linter.unusedVariables false
attribute [local irreducible] XWP Spec SpecO XPub XCall seqX clX apX stX ldX iaX slX
end Go.Proofs.YthoboehbadmlmaaGreat
end
section
namespace Go.Proofs.YthoboehbadmlmaaGreat
set_option linter.unusedVariables false
theorem mk_succ (n : Nat) (f : Nat → Rat) : mk (n + 1) f = mk n f ++ [f n] := by unfold mk; rw [List.range_succ, List.map_append]; rfl
end Go.Proofs.YthoboehbadmlmaaGreat
end
section
namespace Go.Proofs.YthoboehbadmlmaaGreat
open Go Go.RowKit
set_option linter.unusedSimpArgs false
set_option linter.unusedVariables false
attribute [local irreducible] XWP Spec SpecO XPub XCall seqX clX apX stX ldX iaX slX
theorem src3 {H : Heap} {V : View} {b e tot : Nat} {m n d : Value} (hr : H b = some ⟨e, [m, n, d], tot⟩) (h1 : isOne m = true) (h2 : isOne n = true) (h3 : isOne d = true) : Src H V 3 (.slice (some ⟨b, 0, none⟩) 1 1) 1 [m, n, d] :=
  RowAt.src (E := optE ratE) (xs := [none]) (RowAt.snoc (RowAt.nil V) (x := none) h1 h2 h3 trivial) hr rfl
end Go.Proofs.YthoboehbadmlmaaGreat
end
section
namespace Go.Proofs.YthoboehbadmlmaaGreat
open Go Go.RowKit
set_option linter.unusedSimpArgs false
set_option linter.unusedVariables false
attribute [local irreducible] XWP Spec SpecO XPub XCall seqX clX apX stX ldX iaX slX
end Go.Proofs.YthoboehbadmlmaaGreat
end
section
namespace Go.Proofs.YthoboehbadmlmaaGreat
open Go Go.RowKit
set_option linter.unusedSimpArgs false
set_option linter.unusedVariables false
attribute [local irreducible] XWP Spec SpecO XPub XCall seqX clX apX stX ldX iaX slX
end Go.Proofs.YthoboehbadmlmaaGreat
end
section
namespace Go.Proofs.YthoboehbadmlmaaGreat
set_option linter.unusedVariables false
structure BM where
  q : List Rat
  last : List Rat
  size : Nat
  ago : Nat
  was : Rat
  deriving DecidableEq
def bm0 : BM := ⟨[1], [1], 0, 1, 1⟩
def bmNext (l : List Rat) (s : BM) (i : Nat) : List Rat := pAdd s.q s.last (-(off l s.q i / s.was)) s.ago
def bmStep (l : List Rat) (s : BM) (i : Nat) : BM :=
  if off l s.q i = 0 then { s with ago := s.ago + 1 } else
  if 2 * s.size ≤ i then ⟨bmNext l s i, s.q, i + 1 - s.size, 1, off l s.q i⟩ else ⟨bmNext l s i, s.last, s.size, s.ago + 1, s.was⟩
def bmI (l : List Rat) : Nat → BM
  | 0 => bm0
  | i + 1 => bmStep l (bmI l i) i
def bmOut (s : BM) : List Rat := mk s.size fun j => -(cf s.q (j + 1))
theorem bm_len (l : List Rat) (i : Nat) : (bmI l i).q.length ≤ i + 1 ∧ (bmI l i).last.length + (bmI l i).ago ≤ i + 2 ∧ (bmI l i).size ≤ i ∧ (bmI l i).was ≠ 0 := by
  induction i with
  | zero => exact ⟨by simp [bmI, bm0], by simp [bmI, bm0], by simp [bmI, bm0], one_ne⟩
  | succ i ih =>
    obtain ⟨h1, h2, h3, h4⟩ := ih
    unfold bmI bmStep
    have h5 := pAdd_len (bmI l i).q (bmI l i).last (-(off l (bmI l i).q i / (bmI l i).was)) (bmI l i).ago
    split
    · exact ⟨by dsimp only; omega, by dsimp only; omega, by dsimp only; omega, h4⟩
    · rename_i hd
      split
      · exact ⟨by unfold bmNext; dsimp only; omega, by dsimp only; omega, by dsimp only; omega, hd⟩
      · exact ⟨by unfold bmNext; dsimp only; omega, by dsimp only; omega, by dsimp only; omega, h4⟩
/-- all numbers of a step are small enough -/
structure BMFit (l : List Rat) (s : BM) (i : Nat) : Prop where
  hq : ∀ x ∈ s.q, QF x
  sum : ∀ k, k < min s.q.length (i + 1) → QF (offS l s.q i k) ∧ QF (cf s.q k * cf l (i - k))
  d : QF (off l s.q i)
  was : QF s.was
  by_ : QF (off l s.q i / s.was)
  add : ∃ A B C, (∀ x ∈ s.q, QB A x) ∧ (∀ x ∈ s.last, QB B x) ∧ QB C (off l s.q i / s.was) ∧ A + B + C + 2 ≤ 17592186044416
def bb (B : Nat) : Nat → Nat
  | 0 => 0
  | i + 1 => 4 * bb B i + 2 * B + 1
theorem bb_mono (B : Nat) {i j : Nat} (h : i ≤ j) : bb B i ≤ bb B j := by
  induction j with
  | zero => have : i = 0 := by omega
            subst this; exact Nat.le_refl _
  | succ j ih =>
    rcases Nat.eq_or_lt_of_le h with h1 | h1
    · subst h1; exact Nat.le_refl _
    · have := ih (by omega)
      simp only [bb]; omega
theorem bm_CB {l : List Rat} {B e : Nat} (hl : CB B l) (N : Nat) (he : N ≤ 2 ^ e) (i : Nat) (hi : i ≤ N) : CB (bb (B + e) i) (bmI l i).q ∧ CB (bb (B + e) i) (bmI l i).last ∧ QB (bb (B + e) i + B + e) (bmI l i).was := by
  induction i with
  | zero => exact ⟨CB_one (QB_one 0), CB_one (QB_one 0), QB_one _⟩
  | succ i ih =>
    obtain ⟨h1, h2, h3⟩ := ih (by omega)
    have hm : bb (B + e) i ≤ bb (B + e) (i + 1) := bb_mono (B + e) (Nat.le_succ i)
    have hd : QB (B + bb (B + e) i + e) (off l (bmI l i).q i) := CB.offs hl h1 i _ e (by omega)
    have hby := hd.div h3
    have hn := (CB.padd h1 h2 hby.neg (bmI l i).ago).mono (show _ ≤ bb (B + e) (i + 1) by simp only [bb]; omega)
    rw [bmI]
    unfold bmStep
    split
    · exact ⟨h1.mono hm, h2.mono hm, h3.mono (by omega)⟩
    · split
      · exact ⟨hn, h1.mono hm, hd.mono (by omega)⟩
      · exact ⟨hn, h2.mono hm, h3.mono (by omega)⟩
theorem bm_fit {l : List Rat} {B e : Nat} (hl : CB B l) (he : l.length ≤ 2 ^ e) (hfit : bb (B + e) l.length + B + e + 2 ≤ 17592186044416) (i : Nat) (hi : i < l.length) : BMFit l (bmI l i) i := by
  obtain ⟨h1, h2, h3⟩ := bm_CB hl l.length he i (by omega)
  have hm := bb_mono (B + e) (show i + 1 ≤ l.length from hi)
  simp only [bb] at hm
  have hS : ∀ k, k ≤ i + 1 → QB (B + bb (B + e) i + e) (offS l (bmI l i).q i k) := fun k hk => CB.offs hl h1 i k e (by omega)
  have hd : QB (B + bb (B + e) i + e) (off l (bmI l i).q i) := hS _ (by omega)
  have hby := hd.div h3
  exact ⟨h1.qf (by omega), fun k hk => ⟨QF.of (hS k (by omega)) (by omega), QF.of ((h1.at k).mul (hl.at (i - k))) (by omega)⟩, QF.of hd (by omega), QF.of h3 (by omega), QF.of hby (by omega), ⟨_, _, _, h1.mem, h2.mem, hby, by omega⟩⟩
end Go.Proofs.YthoboehbadmlmaaGreat
end
section
namespace Go.Proofs.YthoboehbadmlmaaGreat
open Go Go.RowKit
set_option linter.unusedSimpArgs false
set_option linter.unusedVariables false
attribute [local irreducible] XWP Spec SpecO XPub XCall seqX clX apX stX ldX iaX slX
theorem upd_pub2 (b c : Nat) (r r' : Option Row) : upd (upd (upd (upd (fun _ => none) b r) c r') b none) c none = fun _ => none := by
  funext k; unfold upd; split
  · rfl
  · split
    · rfl
    · rfl
theorem crec_c (V : View) (v : Value) (L : List Raw) (hv : Raws V v L) (f : fitR L) (ll : L.length ≤ 400) (hfit : okR L = true → ∀ i, i < L.length → BMFit (qs L) (bmI (qs L) i) i) (hql : okR L = true → ∀ x ∈ qs L, QF x) (hqe : okR L = true → ∀ i, QF (cf (bmI (qs L) L.length).q i)) :
    Spec Tryz.prog 28 [v] V fun v' V' => (okR L = false → v' = .tuple #[.slice none 0 0, .int .i64 1]) ∧ (okR L = true → L.length < 2 * (bmI (qs L) L.length).size → v' = .tuple #[.slice none 0 0, .int .i64 3]) ∧ (okR L = true → 2 * (bmI (qs L) L.length).size ≤ L.length → ∃ w, v' = .tuple #[w, .int .i64 0] ∧ Rats V' w (bmOut (bmI (qs L) L.length))) := by
  obtain ⟨A1, c1, rfl, hc1, hm1⟩ := hv.form
  refine (Spec.enter Tryz.func28 rfl fun Γ => ?_)
  simp only [Tryz.ntmps28, List.map_cons, List.map_nil, List.length_cons, List.length_nil, Nat.reduceAdd, Nat.reduceSub, List.replicate_succ, List.replicate_zero, List.cons_append, List.nil_append]
  first | refine Gx.a (by kernel_rfl) fun K hK => ?_ | refine Gx.b (by kernel_rfl) fun K hK => ?_ | refine Gx.c (by kernel_rfl) fun K hK => ?_
  simp only [XA, XB, gateX, Nat.reduceAdd, Nat.reduceLeDiff, Nat.reduceSub, Nat.reduceMul, ↓reduceIte, Int.reduceToNat, Int.reduceLE, beq_self_eq_true]
  refine hK _ ?_
  refine XWP.seq ?_
  first | refine Gx.a (by kernel_rfl) fun K hK => ?_ | refine Gx.b (by kernel_rfl) fun K hK => ?_ | refine Gx.c (by kernel_rfl) fun K hK => ?_
  simp only [XA, XB, gateX, Nat.reduceAdd, Nat.reduceLeDiff, Nat.reduceSub, Nat.reduceMul, ↓reduceIte, Int.reduceToNat, Int.reduceLE, beq_self_eq_true]
  refine call_go (by kernel_rfl) rfl (fine_c _ _ _ hv f (by omega)) fun v1 V1 hV1 h1 => ?_
  subst h1
  cases hk : okR L
  · simp only [XA, XB, gateX, Nat.reduceAdd, Nat.reduceLeDiff, Nat.reduceSub, Nat.reduceMul, ↓reduceIte, Int.reduceToNat, Int.reduceLE, beq_self_eq_true]
    refine hK _ ?_
    first | refine Gx.t rfl ?_ | refine XWP.seq (Gx.t rfl ?_)
    first | refine Gx.a (by kernel_rfl) fun K hK => ?_ | refine Gx.b (by kernel_rfl) fun K hK => ?_ | refine Gx.c (by kernel_rfl) fun K hK => ?_
    simp only [XA, XB, gateX, Nat.reduceAdd, Nat.reduceLeDiff, Nat.reduceSub, Nat.reduceMul, ↓reduceIte, Int.reduceToNat, Int.reduceLE, beq_self_eq_true]
    refine hK _ (XWP.ret ?_)
    try simp only [thenX_ret, inBlockX_ret]
    refine ret_go _ rfl ?_
    exact ⟨fun _ => rfl, fun h => (by rw [hk] at h; cases h), fun h => by rw [hk] at h; cases h⟩
  simp only [XA, XB, gateX, Nat.reduceAdd, Nat.reduceLeDiff, Nat.reduceSub, Nat.reduceMul, ↓reduceIte, Int.reduceToNat, Int.reduceLE, beq_self_eq_true]
  refine hK _ ?_
  first | refine Gx.f rfl ?_ | refine XWP.seq (Gx.f rfl ?_)
  refine XWP.skip ?_
  refine XWP.seq ?_
  have b1 : decide ((400 : Int) < (L.length : Int)) = false := decide_eq_false (by omega)
  first | refine Gx.a (by kernel_rfl) fun K hK => ?_ | refine Gx.b (by kernel_rfl) fun K hK => ?_ | refine Gx.c (by kernel_rfl) fun K hK => ?_
  simp only [XA, XB, gateX, Nat.reduceAdd, Nat.reduceLeDiff, Nat.reduceSub, Nat.reduceMul, ↓reduceIte, Int.reduceToNat, Int.reduceLE, beq_self_eq_true, b1]
  refine hK _ ?_
  first | refine Gx.f rfl ?_ | refine XWP.seq (Gx.f rfl ?_)
  refine XWP.skip ?_
  have hr := (Raws.rats hv hk).up hV1
  have hfit := hfit hk
  have hql := hql hk
  have hqe := hqe hk
  have hlen : (qs L).length = L.length := qs_len L
  generalize hqs : qs L = l at *
  generalize hN : L.length = N at *
  first | refine Gx.a (by kernel_rfl) fun K hK => ?_ | refine Gx.b (by kernel_rfl) fun K hK => ?_ | refine Gx.c (by kernel_rfl) fun K hK => ?_
  simp only [XA, XB, gateX, Nat.reduceAdd, Nat.reduceLeDiff, Nat.reduceSub, Nat.reduceMul, ↓reduceIte, Int.reduceToNat, Int.reduceLE, beq_self_eq_true]
  refine call_go (by kernel_rfl) rfl (qone_c _) fun v2 V2 hV2 h2 => ?_
  obtain ⟨x2, y2, rfl, o1, o2⟩ := h2.form
  simp only [XA, XB, gateX, Nat.reduceAdd, Nat.reduceLeDiff, Nat.reduceSub, Nat.reduceMul, ↓reduceIte, Int.reduceToNat, Int.reduceLE, beq_self_eq_true]
  refine bs_go (by kernel_rfl) #[(0, .agg #[.bool (ng 1), x2, y2])] (by simp [ev_tmp, SV.val]) (bs_rat elemT_25) fun b3 hb3 hb4 => ?_
  simp only [XA, XB, gateX, Nat.reduceAdd, Nat.reduceLeDiff, Nat.reduceSub, Nat.reduceMul, ↓reduceIte, Int.reduceToNat, Int.reduceLE, beq_self_eq_true]
  refine call_go (by kernel_rfl) rfl (qone_c _) fun v3 V3 hV3 h3 => ?_
  obtain ⟨x3, y3, rfl, o3, o4⟩ := h3.form
  simp only [XA, XB, gateX, Nat.reduceAdd, Nat.reduceLeDiff, Nat.reduceSub, Nat.reduceMul, ↓reduceIte, Int.reduceToNat, Int.reduceLE, beq_self_eq_true]
  refine bs_go (by kernel_rfl) #[(0, .agg #[.bool (ng 1), x3, y3])] (by simp [ev_tmp, SV.val]) (bs_rat elemT_25) fun b4 hb5 hb6 => ?_
  have hne : b4 ≠ b3 := fun e => by subst e; simp [upd] at hb5
  simp only [XA, XB, gateX, Nat.reduceAdd, Nat.reduceLeDiff, Nat.reduceSub, Nat.reduceMul, ↓reduceIte, Int.reduceToNat, Int.reduceLE, beq_self_eq_true]
  refine hK _ ?_
  first | refine Gx.a (by kernel_rfl) fun K hK => ?_ | refine Gx.b (by kernel_rfl) fun K hK => ?_ | refine Gx.c (by kernel_rfl) fun K hK => ?_
  simp only [XA, XB, gateX, Nat.reduceAdd, Nat.reduceLeDiff, Nat.reduceSub, Nat.reduceMul, ↓reduceIte, Int.reduceToNat, Int.reduceLE, beq_self_eq_true]
  refine call_pub b3 ⟨48, [.bool (ng 1), x2, y2], 3⟩ (by simp [upd, hne.symm]) (fun ob hob hle3 => ?_) (by kernel_rfl) rfl
  refine call_pub b4 ⟨48, [.bool (ng 1), x3, y3], 3⟩ (by simp [upd, hne]) (fun oc hoc hle4 => ?_) (by kernel_rfl) rfl
  have hq0 : Rats _ _ [1] := Rats.up ((RowAt.snoc (RowAt.nil (E := ratE) V3) (x := 1) (show isOne (.bool (ng 1)) = true from rfl) o1 o2 (h2.mono hV3)).pub ratE_ok hob hle3 (n := 1) (c := 1) rfl (Nat.le_refl _) (by omega)) hle4
  have hl0 : Rats _ _ [1] := (RowAt.snoc (RowAt.nil (E := ratE) _) (x := 1) (show isOne (.bool (ng 1)) = true from rfl) o3 o4 (h3.mono hle3)).pub ratE_ok hoc hle4 (n := 1) (c := 1) rfl (Nat.le_refl _) (by omega)
  refine call_go (by kernel_rfl) rfl (qone_c _) fun v4 V4 hV4 h4 => ?_
  obtain ⟨x4, y4, rfl, o5, o6⟩ := h4.form
  have hr := (((hr.up hV2).up hV3).up hle3).up hle4
  have hr := hr.up hV4
  simp only [XA, XB, gateX, Nat.reduceAdd, Nat.reduceLeDiff, Nat.reduceSub, Nat.reduceMul, ↓reduceIte, Int.reduceToNat, Int.reduceLE, beq_self_eq_true, upd_pub2]
  refine st_rat rfl rfl rfl o5 o6 ?_
  simp only [XA, XB, gateX, Nat.reduceAdd, Nat.reduceLeDiff, Nat.reduceSub, Nat.reduceMul, ↓reduceIte, Int.reduceToNat, Int.reduceLE, beq_self_eq_true]
  refine hK _ ?_
  clear hK
  have hq0 := hq0.up hV4
  have hl0 := hl0.up hV4
  have hV4t := View.le_trans hV1 (View.le_trans hV2 (View.le_trans hV3 (View.le_trans hle3 (View.le_trans hle4 hV4))))
  refine XWP.cutD 1 (fun s => ∃ (V5 : View) (wq : Value) (m x y : Value), StIs (fun Z => [.v (.slice A1 N c1), Z 1,Z 2,Z 3, .v wq, Z 5, .v (.int .i64 ((bmI l N).size : Int)), Z 7, .p 0 0, Z 9,Z 10,Z 11,Z 12,Z 13,Z 14,Z 15,Z 16,Z 17,Z 18,Z 19,Z 20,Z 21,Z 22,Z 23,Z 24,Z 25,Z 26,Z 27,Z 28,Z 29,Z 30,Z 31,Z 32,Z 33,Z 34,Z 35,Z 36,Z 37,Z 38,Z 39,Z 40,Z 41,Z 42,Z 43,Z 44,Z 45,Z 46,Z 47,Z 48,Z 49,Z 50,Z 51,Z 52,Z 53,Z 54,Z 55,Z 56,Z 57,Z 58,Z 59,Z 60,Z 61,Z 62,Z 63,Z 64,Z 65,Z 66,Z 67,Z 68,Z 69,Z 70,Z 71,Z 72,Z 73,Z 74,Z 75,Z 76,Z 77,Z 78,Z 79,Z 80,Z 81,Z 82,Z 83,Z 84,Z 85]) [[m, x, y]] (fun _ => none) V5 s ∧ Rats V5 wq (bmI l N).q) ?_ ?_
  · first | refine Gx.a (by kernel_rfl) fun K hK => ?_ | refine Gx.b (by kernel_rfl) fun K hK => ?_ | refine Gx.c (by kernel_rfl) fun K hK => ?_
    simp only [XA, XB, gateX, Nat.reduceAdd, Nat.reduceLeDiff, Nat.reduceSub, Nat.reduceMul, ↓reduceIte, Int.reduceToNat, Int.reduceLE, beq_self_eq_true]
    refine hK _ ?_
    clear hK
    first | refine XWP.block ?_ | refine XWP.seq (XWP.block ?_)
    refine XWP.loopD 1 (fun n s => ∃ (i : Nat) (V5 : View) (wq wl : Value) (m x y : Value), StIs (fun Z => [.v (.slice A1 N c1), Z 1,Z 2,Z 3, .v wq, .v wl, .v (.int .i64 ((bmI l i).size : Int)), .v (.int .i64 ((bmI l i).ago : Int)), .p 0 0, Z 9,Z 10,Z 11,Z 12,Z 13,Z 14,Z 15,Z 16,Z 17,Z 18,Z 19,Z 20,Z 21,Z 22,Z 23,Z 24,Z 25,Z 26,Z 27, .v (.int .i64 (N : Int)), .v (.int .i64 (i : Int)), Z 30,Z 31,Z 32,Z 33,Z 34,Z 35,Z 36,Z 37,Z 38,Z 39,Z 40,Z 41,Z 42,Z 43,Z 44,Z 45,Z 46,Z 47,Z 48,Z 49,Z 50,Z 51,Z 52,Z 53,Z 54,Z 55,Z 56,Z 57,Z 58,Z 59,Z 60,Z 61,Z 62,Z 63,Z 64,Z 65,Z 66,Z 67,Z 68,Z 69,Z 70,Z 71,Z 72,Z 73,Z 74,Z 75,Z 76,Z 77,Z 78,Z 79,Z 80,Z 81,Z 82,Z 83,Z 84,Z 85]) [[m, x, y]] (fun _ => none) V5 s ∧ n + i = N ∧ Rats V5 (.slice A1 N c1) l ∧ Rats V5 wq (bmI l i).q ∧ Rats V5 wl (bmI l i).last ∧ RatC V5 (.agg #[m, x, y]) (bmI l i).was ∧ isOne m = true ∧ isOne x = true ∧ isOne y = true) N ⟨0, _, _, _, _, x4, y4, StIs.of (by exact rfl), rfl, hr, hq0, hl0, h4, rfl, o5, o6⟩ ?_
    clear hr hq0 hl0 h4 o5 o6
    rintro n s ⟨i, V5, wq, wl, m, x, y, hs, hn, hr, hwq, hwl, hwas, om, ox, oy⟩
    obtain ⟨z, rfl⟩ := hs.out
    try dsimp only
    obtain ⟨g1, g2, g3, g4⟩ := bm_len l i
    by_cases hi : i < N
    · have b2 : decide ((i : Int) < (N : Int)) = true := decide_eq_true (by omega)
      first | refine Gx.a (by kernel_rfl) fun K hK => ?_ | refine Gx.b (by kernel_rfl) fun K hK => ?_ | refine Gx.c (by kernel_rfl) fun K hK => ?_
      simp only [XA, XB, gateX, Nat.reduceAdd, Nat.reduceLeDiff, Nat.reduceSub, Nat.reduceMul, ↓reduceIte, Int.reduceToNat, Int.reduceLE, beq_self_eq_true, b2]
      refine hK _ ?_
      first | refine Gx.t rfl ?_ | refine XWP.seq (Gx.t rfl ?_)
      refine XWP.skip ?_
      have hF := hfit i hi
      refine XWP.seq ?_
      first | refine XWP.block ?_ | refine XWP.seq (XWP.block ?_)
      first | refine Gx.a (by kernel_rfl) fun K hK => ?_ | refine Gx.b (by kernel_rfl) fun K hK => ?_ | refine Gx.c (by kernel_rfl) fun K hK => ?_
      simp only [XA, XB, gateX, Nat.reduceAdd, Nat.reduceLeDiff, Nat.reduceSub, Nat.reduceMul, ↓reduceIte, Int.reduceToNat, Int.reduceLE, beq_self_eq_true]
      refine hK _ ?_
      first | refine Gx.a (by kernel_rfl) fun K hK => ?_ | refine Gx.b (by kernel_rfl) fun K hK => ?_ | refine Gx.c (by kernel_rfl) fun K hK => ?_
      simp only [XA, XB, gateX, Nat.reduceAdd, Nat.reduceLeDiff, Nat.reduceSub, Nat.reduceMul, ↓reduceIte, Int.reduceToNat, Int.reduceLE, beq_self_eq_true]
      refine call_go (by kernel_rfl) rfl (off_c _ _ _ l (bmI l i).q i hr hwq (by omega) (by omega) (by omega) hql hF.hq hF.sum) fun v6 V6 hV6 h6 => ?_
      obtain ⟨x6, y6, rfl, o7, o8⟩ := h6.form
      simp only [XA, XB, gateX, Nat.reduceAdd, Nat.reduceLeDiff, Nat.reduceSub, Nat.reduceMul, ↓reduceIte, Int.reduceToNat, Int.reduceLE, beq_self_eq_true]
      refine st_rat rfl rfl rfl o7 o8 ?_
      simp only [XA, XB, gateX, Nat.reduceAdd, Nat.reduceLeDiff, Nat.reduceSub, Nat.reduceMul, ↓reduceIte, Int.reduceToNat, Int.reduceLE, beq_self_eq_true]
      refine hK _ ?_
      refine XWP.seq ?_
      first | refine Gx.a (by kernel_rfl) fun K hK => ?_ | refine Gx.b (by kernel_rfl) fun K hK => ?_ | refine Gx.c (by kernel_rfl) fun K hK => ?_
      simp only [XA, XB, gateX, Nat.reduceAdd, Nat.reduceLeDiff, Nat.reduceSub, Nat.reduceMul, ↓reduceIte, Int.reduceToNat, Int.reduceLE, beq_self_eq_true]
      refine call_go (by kernel_rfl) rfl (czero_c _ _ _ h6) fun v7 V7 hV7 h7 => ?_
      subst h7
      by_cases hz : off l (bmI l i).q i = 0
      · have b3 : decide (off l (bmI l i).q i = 0) = true := decide_eq_true hz
        have es : bmI l (i + 1) = { bmI l i with ago := (bmI l i).ago + 1 } := by rw [bmI]; unfold bmStep; rw [if_pos hz]
        simp only [XA, XB, gateX, Nat.reduceAdd, Nat.reduceLeDiff, Nat.reduceSub, Nat.reduceMul, ↓reduceIte, Int.reduceToNat, Int.reduceLE, beq_self_eq_true, b3]
        refine hK _ ?_
        first | refine Gx.t rfl ?_ | refine XWP.seq (Gx.t rfl ?_)
        first | refine Gx.a (by kernel_rfl) fun K hK => ?_ | refine Gx.b (by kernel_rfl) fun K hK => ?_ | refine Gx.c (by kernel_rfl) fun K hK => ?_
        simp only [XA, XB, gateX, Nat.reduceAdd, Nat.reduceLeDiff, Nat.reduceSub, Nat.reduceMul, ↓reduceIte, Int.reduceToNat, Int.reduceLE, beq_self_eq_true, i64_succ (bmI l i).ago (by omega)]
        refine hK _ ?_
        refine XWP.exit ?_
        show XWP _ _ _ _ _
        first | refine Gx.a (by kernel_rfl) fun K hK => ?_ | refine Gx.b (by kernel_rfl) fun K hK => ?_ | refine Gx.c (by kernel_rfl) fun K hK => ?_
        simp only [XA, XB, gateX, Nat.reduceAdd, Nat.reduceLeDiff, Nat.reduceSub, Nat.reduceMul, ↓reduceIte, Int.reduceToNat, Int.reduceLE, beq_self_eq_true, i64_succ i (by omega)]
        have hV67 := View.le_trans hV6 hV7
        refine hK _ ⟨n - 1, by omega, fun f => ⟨i + 1, V7, wq, wl, m, x, y, ?_, by omega, hr.up hV67, by rw [es]; exact hwq.up hV67, by rw [es]; exact hwl.up hV67, by rw [es]; exact hwas.mono hV67, om, ox, oy⟩⟩
        rw [es]
        exact StIs.of (by exact rfl)
      · have b3 : decide (off l (bmI l i).q i = 0) = false := decide_eq_false hz
        simp only [XA, XB, gateX, Nat.reduceAdd, Nat.reduceLeDiff, Nat.reduceSub, Nat.reduceMul, ↓reduceIte, Int.reduceToNat, Int.reduceLE, beq_self_eq_true, b3]
        refine hK _ ?_
        first | refine Gx.f rfl ?_ | refine XWP.seq (Gx.f rfl ?_)
        refine XWP.skip ?_
        first | refine Gx.a (by kernel_rfl) fun K hK => ?_ | refine Gx.b (by kernel_rfl) fun K hK => ?_ | refine Gx.c (by kernel_rfl) fun K hK => ?_
        simp only [XA, XB, gateX, Nat.reduceAdd, Nat.reduceLeDiff, Nat.reduceSub, Nat.reduceMul, ↓reduceIte, Int.reduceToNat, Int.reduceLE, beq_self_eq_true]
        have hV67 := View.le_trans hV6 hV7
        refine call_go (by kernel_rfl) rfl (qdiv_c _ _ _ _ _ (h6.mono hV7) (hwas.mono hV67) hF.d hF.was) fun v8 V8 hV8 h8 => ?_
        obtain ⟨r8, rfl, h8'⟩ := h8.2 g4
        obtain ⟨x8, y8, rfl, o9, o10⟩ := h8'.form
        simp only [XA, XB, gateX, Nat.reduceAdd, Nat.reduceLeDiff, Nat.reduceSub, Nat.reduceMul, ↓reduceIte, Int.reduceToNat, Int.reduceLE, beq_self_eq_true]
        refine st_rat rfl rfl rfl o9 o10 ?_
        simp only [XA, XB, gateX, Nat.reduceAdd, Nat.reduceLeDiff, Nat.reduceSub, Nat.reduceMul, ↓reduceIte, Int.reduceToNat, Int.reduceLE, beq_self_eq_true]
        refine hK _ ?_
        first | refine Gx.a (by kernel_rfl) fun K hK => ?_ | refine Gx.b (by kernel_rfl) fun K hK => ?_ | refine Gx.c (by kernel_rfl) fun K hK => ?_
        simp only [XA, XB, gateX, Nat.reduceAdd, Nat.reduceLeDiff, Nat.reduceSub, Nat.reduceMul, ↓reduceIte, Int.reduceToNat, Int.reduceLE, beq_self_eq_true]
        refine call_go (by kernel_rfl) rfl (qneg_c _ _ _ h8' hF.by_) fun v9 V9 hV9 h9 => ?_
        simp only [XA, XB, gateX, Nat.reduceAdd, Nat.reduceLeDiff, Nat.reduceSub, Nat.reduceMul, ↓reduceIte, Int.reduceToNat, Int.reduceLE, beq_self_eq_true]
        have hV69 := View.le_trans hV67 (View.le_trans hV8 hV9)
        obtain ⟨A, B, C, a1, a2, a3, a4⟩ := hF.add
        refine call_go (by kernel_rfl) rfl (cadd_c _ _ _ _ (bmI l i).q (bmI l i).last _ (bmI l i).ago A B C (hwq.up hV69) (hwl.up hV69) h9 a1 a2 a3.neg a4 (by omega) (by omega)) fun v10 V10 hV10 h10 => ?_
        have hV610 := View.le_trans hV69 hV10
        simp only [XA, XB, gateX, Nat.reduceAdd, Nat.reduceLeDiff, Nat.reduceSub, Nat.reduceMul, ↓reduceIte, Int.reduceToNat, Int.reduceLE, beq_self_eq_true]
        refine hK _ ?_
        clear hK
        have hnx : pAdd (bmI l i).q (bmI l i).last (-(off l (bmI l i).q i / (bmI l i).was)) (bmI l i).ago = bmNext l (bmI l i) i := rfl
        rw [hnx] at h10
        refine XWP.cutD 1 (fun s => ∃ (V11 : View) (wl' : Value) (m' x' y' : Value) (ag : Nat), StIs (fun Z => [.v (.slice A1 N c1), Z 1,Z 2,Z 3, Z 4, .v wl', .v (.int .i64 ((bmI l (i + 1)).size : Int)), .v (.int .i64 (ag : Int)), .p 0 0, Z 9,Z 10,Z 11,Z 12, .v v10, Z 14,Z 15,Z 16,Z 17,Z 18,Z 19,Z 20,Z 21,Z 22,Z 23,Z 24,Z 25,Z 26,Z 27, .v (.int .i64 (N : Int)), .v (.int .i64 (i : Int)), Z 30,Z 31,Z 32,Z 33,Z 34,Z 35,Z 36,Z 37,Z 38,Z 39,Z 40,Z 41,Z 42,Z 43,Z 44,Z 45,Z 46,Z 47,Z 48,Z 49,Z 50,Z 51,Z 52,Z 53,Z 54,Z 55,Z 56,Z 57,Z 58,Z 59,Z 60,Z 61,Z 62,Z 63,Z 64,Z 65,Z 66,Z 67,Z 68,Z 69,Z 70,Z 71,Z 72,Z 73,Z 74,Z 75,Z 76,Z 77,Z 78,Z 79,Z 80,Z 81,Z 82,Z 83,Z 84,Z 85]) [[m', x', y']] (fun _ => none) V11 s ∧ V10.le V11 ∧ (bmI l (i + 1)).q = bmNext l (bmI l i) i ∧ (bmI l (i + 1)).ago = ag + 1 ∧ Rats V11 wl' (bmI l (i + 1)).last ∧ RatC V11 (.agg #[m', x', y']) (bmI l (i + 1)).was ∧ isOne m' = true ∧ isOne x' = true ∧ isOne y' = true) ?_ ?_
        · first | refine Gx.a (by kernel_rfl) fun K hK => ?_ | refine Gx.b (by kernel_rfl) fun K hK => ?_ | refine Gx.c (by kernel_rfl) fun K hK => ?_
          have w1 : IntKind.i64.wrap (2 * ((bmI l i).size : Int)) = ((2 * (bmI l i).size : Nat) : Int) := by rw [wrap_id (by omega) (by omega)]; omega
          by_cases hs2 : 2 * (bmI l i).size ≤ i
          · have b4 : decide (((2 * (bmI l i).size : Nat) : Int) ≤ (i : Int)) = true := decide_eq_true (by omega)
            have es : bmI l (i + 1) = ⟨bmNext l (bmI l i) i, (bmI l i).q, i + 1 - (bmI l i).size, 1, off l (bmI l i).q i⟩ := by rw [bmI]; unfold bmStep; rw [if_neg hz, if_pos hs2]
            have w2 := i64_succ i (by omega)
            have w3 := i64_sub (i + 1) (bmI l i).size (by omega) (by omega)
            simp only [XA, XB, gateX, Nat.reduceAdd, Nat.reduceLeDiff, Nat.reduceSub, Nat.reduceMul, ↓reduceIte, Int.reduceToNat, Int.reduceLE, beq_self_eq_true, w1, b4]
            refine hK _ ?_
            first | refine Gx.t rfl ?_ | refine XWP.seq (Gx.t rfl ?_)
            (first | refine XWP.drw [0, 1, 2, 3, 4, 5, 6, 7, 8, 9] (by kernel_rfl) (by kernel_rfl) (by kernel_rfl) fun K hK => ?_ | refine XWP.seq (XWP.drw [0, 1, 2, 3, 4, 5, 6, 7, 8, 9] (by kernel_rfl) (by kernel_rfl) (by kernel_rfl) fun K hK => ?_) | refine XWP.drw1 [0, 1, 2, 3, 4, 5, 6, 7, 8, 9] (by kernel_rfl) (by kernel_rfl) (by kernel_rfl) fun K hK => ?_) <;> dsimp only [pickOps, List.getElem?_cons_zero, List.getElem?_cons_succ]
            simp only [XA, XB, gateX, Nat.reduceAdd, Nat.reduceLeDiff, Nat.reduceSub, Nat.reduceMul, ↓reduceIte, Int.reduceToNat, Int.reduceLE, beq_self_eq_true, w2, w3]
            refine st_rat rfl rfl rfl o7 o8 ?_
            simp only [XA, XB, gateX, Nat.reduceAdd, Nat.reduceLeDiff, Nat.reduceSub, Nat.reduceMul, ↓reduceIte, Int.reduceToNat, Int.reduceLE, beq_self_eq_true]
            refine hK _ fun f => ⟨V10, wq, _, x6, y6, 0, ?_, View.le_refl _, by rw [es], by rw [es], by rw [es]; exact hwq.up hV610, by rw [es]; exact h6.mono (View.le_trans hV7 (View.le_trans hV8 (View.le_trans hV9 hV10))), rfl, o7, o8⟩
            rw [es]
            exact StIs.of (by exact rfl)
          · have b4 : decide (((2 * (bmI l i).size : Nat) : Int) ≤ (i : Int)) = false := decide_eq_false (by omega)
            have es : bmI l (i + 1) = ⟨bmNext l (bmI l i) i, (bmI l i).last, (bmI l i).size, (bmI l i).ago + 1, (bmI l i).was⟩ := by rw [bmI]; unfold bmStep; rw [if_neg hz, if_neg hs2]
            simp only [XA, XB, gateX, Nat.reduceAdd, Nat.reduceLeDiff, Nat.reduceSub, Nat.reduceMul, ↓reduceIte, Int.reduceToNat, Int.reduceLE, beq_self_eq_true, w1, b4]
            refine hK _ ?_
            first | refine Gx.f rfl ?_ | refine XWP.seq (Gx.f rfl ?_)
            refine XWP.skip ?_
            refine fun f => ⟨V10, wl, m, x, y, (bmI l i).ago, ?_, View.le_refl _, by rw [es], by rw [es], by rw [es]; exact hwl.up hV610, by rw [es]; exact hwas.mono hV610, om, ox, oy⟩
            rw [es]
            exact StIs.of (by exact rfl)
        rintro s ⟨V11, wl', m', x', y', ag, hs, hV11, e1, e2, hwl', hwas', om', ox', oy'⟩
        obtain ⟨z, rfl⟩ := hs.out
        try dsimp only
        have g5 := (bm_len l (i + 1)).2.1
        first | refine Gx.a (by kernel_rfl) fun K hK => ?_ | refine Gx.b (by kernel_rfl) fun K hK => ?_ | refine Gx.c (by kernel_rfl) fun K hK => ?_
        simp only [XA, XB, gateX, Nat.reduceAdd, Nat.reduceLeDiff, Nat.reduceSub, Nat.reduceMul, ↓reduceIte, Int.reduceToNat, Int.reduceLE, beq_self_eq_true]
        refine hK _ ?_
        first | refine Gx.a (by kernel_rfl) fun K hK => ?_ | refine Gx.b (by kernel_rfl) fun K hK => ?_ | refine Gx.c (by kernel_rfl) fun K hK => ?_
        simp only [XA, XB, gateX, Nat.reduceAdd, Nat.reduceLeDiff, Nat.reduceSub, Nat.reduceMul, ↓reduceIte, Int.reduceToNat, Int.reduceLE, beq_self_eq_true, i64_succ ag (by omega)]
        refine hK _ ?_
        first | refine Gx.a (by kernel_rfl) fun K hK => ?_ | refine Gx.b (by kernel_rfl) fun K hK => ?_ | refine Gx.c (by kernel_rfl) fun K hK => ?_
        simp only [XA, XB, gateX, Nat.reduceAdd, Nat.reduceLeDiff, Nat.reduceSub, Nat.reduceMul, ↓reduceIte, Int.reduceToNat, Int.reduceLE, beq_self_eq_true, i64_succ i (by omega)]
        refine hK _ ⟨n - 1, by omega, fun f => ⟨i + 1, V11, v10, wl', m', x', y', ?_, by omega, hr.up (View.le_trans hV610 hV11), by rw [e1]; exact h10.up hV11, hwl', hwas', om', ox', oy'⟩⟩
        rw [e2]
        exact StIs.of (by exact rfl)
    · have b2 : decide ((i : Int) < (N : Int)) = false := decide_eq_false (by omega)
      obtain rfl : i = N := by omega
      first | refine Gx.a (by kernel_rfl) fun K hK => ?_ | refine Gx.b (by kernel_rfl) fun K hK => ?_ | refine Gx.c (by kernel_rfl) fun K hK => ?_
      simp only [XA, XB, gateX, Nat.reduceAdd, Nat.reduceLeDiff, Nat.reduceSub, Nat.reduceMul, ↓reduceIte, Int.reduceToNat, Int.reduceLE, beq_self_eq_true, b2]
      refine hK _ ?_
      first | refine Gx.f rfl ?_ | refine XWP.seq (Gx.f rfl ?_)
      refine XWP.exit ?_
      exact fun f => ⟨V5, wq, m, x, y, StIs.of (by exact rfl), hwq⟩
  clear hr hq0 hl0 h4 o5 o6
  rintro s ⟨V5, wq, m, x, y, hs, hwq⟩
  obtain ⟨z, rfl⟩ := hs.out
  try dsimp only
  obtain ⟨g1, g2, g3, g4⟩ := bm_len l N
  generalize bmI l N = bm at *
  have w1 : IntKind.i64.wrap (2 * (bm.size : Int)) = ((2 * bm.size : Nat) : Int) := by rw [wrap_id (by omega) (by omega)]; omega
  refine XWP.seq ?_
  by_cases hs2 : N < 2 * bm.size
  · have b4 : decide ((N : Int) < ((2 * bm.size : Nat) : Int)) = true := decide_eq_true (by omega)
    first | refine Gx.a (by kernel_rfl) fun K hK => ?_ | refine Gx.b (by kernel_rfl) fun K hK => ?_ | refine Gx.c (by kernel_rfl) fun K hK => ?_
    simp only [XA, XB, gateX, Nat.reduceAdd, Nat.reduceLeDiff, Nat.reduceSub, Nat.reduceMul, ↓reduceIte, Int.reduceToNat, Int.reduceLE, beq_self_eq_true, w1, b4]
    refine hK _ ?_
    first | refine Gx.t rfl ?_ | refine XWP.seq (Gx.t rfl ?_)
    first | refine Gx.a (by kernel_rfl) fun K hK => ?_ | refine Gx.b (by kernel_rfl) fun K hK => ?_ | refine Gx.c (by kernel_rfl) fun K hK => ?_
    simp only [XA, XB, gateX, Nat.reduceAdd, Nat.reduceLeDiff, Nat.reduceSub, Nat.reduceMul, ↓reduceIte, Int.reduceToNat, Int.reduceLE, beq_self_eq_true]
    refine hK _ (XWP.ret ?_)
    try simp only [thenX_ret, inBlockX_ret]
    refine ret_go _ rfl ?_
    exact ⟨fun h => (by rw [hk] at h; cases h), fun _ _ => rfl, fun _ h => by omega⟩
  have b4 : decide ((N : Int) < ((2 * bm.size : Nat) : Int)) = false := decide_eq_false (by omega)
  first | refine Gx.a (by kernel_rfl) fun K hK => ?_ | refine Gx.b (by kernel_rfl) fun K hK => ?_ | refine Gx.c (by kernel_rfl) fun K hK => ?_
  simp only [XA, XB, gateX, Nat.reduceAdd, Nat.reduceLeDiff, Nat.reduceSub, Nat.reduceMul, ↓reduceIte, Int.reduceToNat, Int.reduceLE, beq_self_eq_true, w1, b4]
  refine hK _ ?_
  first | refine Gx.f rfl ?_ | refine XWP.seq (Gx.f rfl ?_)
  refine XWP.skip ?_
  first | refine Gx.a (by kernel_rfl) fun K hK => ?_ | refine Gx.b (by kernel_rfl) fun K hK => ?_ | refine Gx.c (by kernel_rfl) fun K hK => ?_
  refine bs_go (by kernel_rfl) #[] (by simp) (bs_zero elemT_22 zeroT_48) fun b hb1 hb2 => ?_
  simp only [XA, XB, gateX, Nat.reduceAdd, Nat.reduceLeDiff, Nat.reduceSub, Nat.reduceMul, ↓reduceIte, Int.reduceToNat, Int.reduceLE, beq_self_eq_true]
  refine hK _ ?_
  clear hK
  refine XWP.cut (fun s => ∃ (V6 : View) (H5 : Heap) (cells : List Value) (wo : Value), StIs (fun Z => [Z 0,Z 1,Z 2,Z 3,Z 4,Z 5,Z 6,Z 7,Z 8,Z 9,Z 10,Z 11,Z 12,Z 13, .v wo, Z 15,Z 16,Z 17,Z 18,Z 19,Z 20,Z 21,Z 22,Z 23,Z 24,Z 25,Z 26,Z 27,Z 28,Z 29,Z 30,Z 31,Z 32,Z 33,Z 34,Z 35,Z 36,Z 37,Z 38,Z 39,Z 40,Z 41,Z 42,Z 43,Z 44,Z 45,Z 46,Z 47,Z 48,Z 49,Z 50,Z 51,Z 52,Z 53,Z 54,Z 55,Z 56,Z 57,Z 58,Z 59,Z 60,Z 61,Z 62,Z 63,Z 64,Z 65,Z 66,Z 67,Z 68,Z 69,Z 70,Z 71,Z 72,Z 73,Z 74,Z 75,Z 76,Z 77,Z 78,Z 79,Z 80,Z 81,Z 82,Z 83,Z 84,Z 85]) [[m, x, y]] H5 V6 s ∧ Own H5 48 3 wo bm.size cells ∧ RowAt ratE V6 cells (bmOut bm)) ?_ ?_
  · first | refine Gx.a (by kernel_rfl) fun K hK => ?_ | refine Gx.b (by kernel_rfl) fun K hK => ?_ | refine Gx.c (by kernel_rfl) fun K hK => ?_
    simp only [XA, XB, gateX, Nat.reduceAdd, Nat.reduceLeDiff, Nat.reduceSub, Nat.reduceMul, ↓reduceIte, Int.reduceToNat, Int.reduceLE, beq_self_eq_true]
    refine hK _ ?_
    clear hK
    first | refine XWP.block ?_ | refine XWP.seq (XWP.block ?_)
    refine XWP.loop (fun n s => ∃ (j : Nat) (V6 : View) (H5 : Heap) (cells : List Value) (wo : Value), StIs (fun Z => [Z 0,Z 1,Z 2,Z 3, .v wq, Z 5,Z 6,Z 7,Z 8,Z 9,Z 10,Z 11,Z 12,Z 13, .v wo, Z 15,Z 16,Z 17,Z 18,Z 19,Z 20,Z 21,Z 22,Z 23,Z 24,Z 25,Z 26,Z 27,Z 28,Z 29,Z 30,Z 31,Z 32,Z 33,Z 34,Z 35,Z 36,Z 37,Z 38,Z 39,Z 40,Z 41,Z 42,Z 43,Z 44,Z 45,Z 46,Z 47,Z 48,Z 49,Z 50,Z 51,Z 52,Z 53,Z 54,Z 55,Z 56,Z 57,Z 58,Z 59,Z 60,Z 61,Z 62,Z 63,Z 64,Z 65,Z 66,Z 67,Z 68,Z 69,Z 70,Z 71, .v (.int .i64 (bm.size : Int)), .v (.int .i64 (j : Int)), Z 74,Z 75,Z 76,Z 77,Z 78,Z 79,Z 80,Z 81,Z 82,Z 83,Z 84,Z 85]) [[m, x, y]] H5 V6 s ∧ V5.le V6 ∧ n + j = bm.size ∧ Own H5 48 3 wo j cells ∧ RowAt ratE V6 cells (mk j fun j => -(cf bm.q (j + 1)))) bm.size ⟨0, V5, _, [], _, StIs.of (by exact rfl), View.le_refl _, rfl, own3 (by simp [upd]) rfl (Nat.le_refl _) (by omega), RowAt.nil _⟩ ?_
    rintro n s ⟨j, V6, H5, cells, wo, hs, hV6, hn, hown, hrow⟩
    obtain ⟨z, rfl⟩ := hs.out
    try dsimp only
    by_cases hj : j < bm.size
    · have b5 : decide ((j : Int) < (bm.size : Int)) = true := decide_eq_true (by omega)
      first | refine Gx.a (by kernel_rfl) fun K hK => ?_ | refine Gx.b (by kernel_rfl) fun K hK => ?_ | refine Gx.c (by kernel_rfl) fun K hK => ?_
      simp only [XA, XB, gateX, Nat.reduceAdd, Nat.reduceLeDiff, Nat.reduceSub, Nat.reduceMul, ↓reduceIte, Int.reduceToNat, Int.reduceLE, beq_self_eq_true, b5]
      refine hK _ ?_
      first | refine Gx.t rfl ?_ | refine XWP.seq (Gx.t rfl ?_)
      refine XWP.skip ?_
      refine XWP.seq ?_
      first | refine XWP.block ?_ | refine XWP.seq (XWP.block ?_)
      first | refine Gx.a (by kernel_rfl) fun K hK => ?_ | refine Gx.b (by kernel_rfl) fun K hK => ?_ | refine Gx.c (by kernel_rfl) fun K hK => ?_
      simp only [XA, XB, gateX, Nat.reduceAdd, Nat.reduceLeDiff, Nat.reduceSub, Nat.reduceMul, ↓reduceIte, Int.reduceToNat, Int.reduceLE, beq_self_eq_true]
      refine hK _ ?_
      first | refine Gx.a (by kernel_rfl) fun K hK => ?_ | refine Gx.b (by kernel_rfl) fun K hK => ?_ | refine Gx.c (by kernel_rfl) fun K hK => ?_
      simp only [XA, XB, gateX, Nat.reduceAdd, Nat.reduceLeDiff, Nat.reduceSub, Nat.reduceMul, ↓reduceIte, Int.reduceToNat, Int.reduceLE, beq_self_eq_true, i64_succ j (by omega)]
      refine call_go (by kernel_rfl) rfl (cget_c _ _ _ (j + 1) (hwq.up hV6) (by omega)) fun v7 V7 hV7 h7 => ?_
      simp only [XA, XB, gateX, Nat.reduceAdd, Nat.reduceLeDiff, Nat.reduceSub, Nat.reduceMul, ↓reduceIte, Int.reduceToNat, Int.reduceLE, beq_self_eq_true]
      refine call_go (by kernel_rfl) rfl (qneg_c _ _ _ h7 (hqe _)) fun v8 V8 hV8 h8 => ?_
      obtain ⟨x8, y8, rfl, o1, o2⟩ := h8.form
      simp only [XA, XB, gateX, Nat.reduceAdd, Nat.reduceLeDiff, Nat.reduceSub, Nat.reduceMul, ↓reduceIte, Int.reduceToNat, Int.reduceLE, beq_self_eq_true]
      refine bs_go (by kernel_rfl) #[(0, .agg #[.bool (ng (-(cf bm.q (j + 1)))), x8, y8])] (by simp [ev_tmp, SV.val]) (bs_rat elemT_22) fun b3 hb3 hb4 => ?_
      simp only [XA, XB, gateX, Nat.reduceAdd, Nat.reduceLeDiff, Nat.reduceSub, Nat.reduceMul, ↓reduceIte, Int.reduceToNat, Int.reduceLE, beq_self_eq_true]
      refine ap_go elemT_22 (by kernel_rfl) zeroT_48 rfl (by omega) (own_upd hown hb3) (src3 (upd_at _ _ _) rfl o1 o2) (by omega) (by omega) fun v' H' hres => ?_
      simp only [XA, XB, gateX, Nat.reduceAdd, Nat.reduceLeDiff, Nat.reduceSub, Nat.reduceMul, ↓reduceIte, Int.reduceToNat, Int.reduceLE, beq_self_eq_true]
      refine hK _ ?_
      first | refine Gx.a (by kernel_rfl) fun K hK => ?_ | refine Gx.b (by kernel_rfl) fun K hK => ?_ | refine Gx.c (by kernel_rfl) fun K hK => ?_
      simp only [XA, XB, gateX, Nat.reduceAdd, Nat.reduceLeDiff, Nat.reduceSub, Nat.reduceMul, ↓reduceIte, Int.reduceToNat, Int.reduceLE, beq_self_eq_true, i64_succ j (by omega)]
      have hrow' := (hrow.mono ratE_ok (View.le_trans hV7 hV8)).snoc (x := -(cf bm.q (j + 1))) (show isOne (.bool (ng (-(cf bm.q (j + 1))))) = true from rfl) o1 o2 h8
      have em := mk_succ j fun j => -(cf bm.q (j + 1))
      rw [← em] at hrow'
      exact hK _ ⟨n - 1, by omega, j + 1, V8, _, _, _, StIs.of (by exact rfl), View.le_trans hV6 (View.le_trans hV7 hV8), by omega, hres.1, hrow'⟩
    · have b5 : decide ((j : Int) < (bm.size : Int)) = false := decide_eq_false (by omega)
      obtain rfl : j = bm.size := by omega
      first | refine Gx.a (by kernel_rfl) fun K hK => ?_ | refine Gx.b (by kernel_rfl) fun K hK => ?_ | refine Gx.c (by kernel_rfl) fun K hK => ?_
      simp only [XA, XB, gateX, Nat.reduceAdd, Nat.reduceLeDiff, Nat.reduceSub, Nat.reduceMul, ↓reduceIte, Int.reduceToNat, Int.reduceLE, beq_self_eq_true, b5]
      refine hK _ ?_
      first | refine Gx.f rfl ?_ | refine XWP.seq (Gx.f rfl ?_)
      refine XWP.exit ?_
      exact ⟨V6, H5, cells, wo, StIs.of (by exact rfl), hown, hrow⟩
  rintro s ⟨V6, H5, cells, wo, hs, hown, hrow⟩
  obtain ⟨z, rfl⟩ := hs.out
  try dsimp only
  first | refine Gx.a (by kernel_rfl) fun K hK => ?_ | refine Gx.b (by kernel_rfl) fun K hK => ?_ | refine Gx.c (by kernel_rfl) fun K hK => ?_
  simp only [XA, XB, gateX, Nat.reduceAdd, Nat.reduceLeDiff, Nat.reduceSub, Nat.reduceMul, ↓reduceIte, Int.reduceToNat, Int.reduceLE, beq_self_eq_true]
  refine hK _ (XWP.ret ?_)
  try simp only [thenX_ret, inBlockX_ret]
  rcases own_parts hown with ⟨rfl, hn0, rfl⟩ | ⟨g, cap, rfl, hg, hle, hcap, _⟩
  · refine ret_go _ rfl ⟨fun h => (by rw [hk] at h; cases h), fun _ h => absurd h (by omega), fun _ _ => ⟨_, rfl, ?_⟩⟩
    have : bmOut bm = [] := List.length_eq_zero_iff.1 (by unfold bmOut; rw [mk_len]; exact hn0)
    rw [this]; exact SlAt.nil _
  · refine ret_pub g _ hg fun o ho hle' => ret_go _ rfl ⟨fun h => (by rw [hk] at h; cases h), fun _ h => absurd h (by omega), fun _ _ => ⟨_, rfl, ?_⟩⟩
    exact hrow.pub ratE_ok ho hle' (mk_len _ _) hle (by unfold maxLen at hcap; omega)
end Go.Proofs.YthoboehbadmlmaaGreat
end
section
namespace Go.Proofs.YthoboehbadmlmaaGreat
open Go Go.RowKit
set_option linter.unusedSimpArgs false
set_option linter.unusedVariables false
attribute [local irreducible] XWP Spec SpecO XPub XCall seqX clX apX stX ldX iaX slX
theorem min_3 (n : Nat) : (if (3 : Int) < (n : Int) then (3 : Int) else (n : Int)) = ((min n 3 : Nat) : Int) := by split <;> omega
theorem min_nat (a b : Nat) : (if (b : Int) < (a : Int) then (b : Int) else (a : Int)) = ((min a b : Nat) : Int) := by split <;> omega
theorem lnat_c (V : View) (v : Value) (ds : List Nat) (h : NatAt V v ds) : Spec Tryz.prog 83 [v] V fun v' V' => NatAt V' v' (ds.take 3) := by
  obtain ⟨A, c, rfl, hc, hm⟩ := h.form
  refine (Spec.enter Tryz.func83 rfl fun Γ => ?_)
  simp only [Tryz.ntmps83, List.map_cons, List.map_nil, List.length_cons, List.length_nil, Nat.reduceAdd, Nat.reduceSub, List.replicate_succ, List.replicate_zero, List.cons_append, List.nil_append]
  first | refine Gx.a (by kernel_rfl) fun K hK => ?_ | refine Gx.b (by kernel_rfl) fun K hK => ?_ | refine Gx.c (by kernel_rfl) fun K hK => ?_
  simp only [XA, XB, gateX, Nat.reduceAdd, Nat.reduceLeDiff, Nat.reduceSub, Nat.reduceMul, ↓reduceIte, Int.reduceToNat, Int.reduceLE, beq_self_eq_true]
  refine hK _ ?_
  first | refine Gx.a (by kernel_rfl) fun K hK => ?_ | refine Gx.b (by kernel_rfl) fun K hK => ?_ | refine Gx.c (by kernel_rfl) fun K hK => ?_
  simp only [XA, XB, gateX, Nat.reduceAdd, Nat.reduceLeDiff, Nat.reduceSub, Nat.reduceMul, ↓reduceIte, Int.reduceToNat, Int.reduceLE, beq_self_eq_true, min_3]
  refine ⟨by omega, by omega, by omega, ?_⟩
  refine hK _ (XWP.ret ?_)
  try simp only [thenX_ret, inBlockX_ret]
  refine ret_go _ rfl ?_
  have := NatAt.take h (k := min ds.length 3) (by omega)
  have e : ds.take (min ds.length 3) = ds.take 3 := by
    by_cases h3 : ds.length ≤ 3
    · rw [Nat.min_eq_left h3, List.take_of_length_le h3, List.take_of_length_le (Nat.le_refl _)]
    · rw [Nat.min_eq_right (by omega)]
  rw [e] at this
  exact this
def cutR (r : Raw) : Raw := ⟨r.m, r.nd.take 3, r.dd.take 3⟩
def fewL (L : List Raw) (n : Nat) : List Raw := (L.take n).map cutR
/-- few digits -/
def fewR (l : List Raw) : Prop := ∀ r ∈ l, r.nd.length ≤ 3 ∧ r.dd.length ≤ 3
theorem fewL_few (L : List Raw) (n : Nat) : fewR (fewL L n) := fun r hr => by
  obtain ⟨x, _, rfl⟩ := List.mem_map.1 hr
  exact ⟨by simp [cutR]; omega, by simp [cutR]; omega⟩
theorem fewR.fit {l : List Raw} (h : fewR l) : fitR l := fun r hr => ⟨by have := (h r hr).1; omega, by have := (h r hr).2; omega⟩
theorem fewL_len (L : List Raw) (n : Nat) : (fewL L n).length ≤ n := by simp [fewL]; omega
theorem BB_two : BB = 2 ^ 32 := rfl
theorem dig3 {ds : List Nat} (h : Dig ds) (hl : ds.length ≤ 3) : nv ds ≤ 2 ^ 96 := by
  have h1 := nv_lt h
  have h2 : BB ^ ds.length ≤ BB ^ 3 := Nat.pow_le_pow_right (by unfold BB; omega) hl
  have h3 : BB ^ 3 = 2 ^ 96 := by rw [BB_two, ← Nat.pow_mul]
  omega
/-- digits are digits -/
def digR (l : List Raw) : Prop := ∀ r ∈ l, Dig r.nd ∧ Dig r.dd
theorem Raws.dig {V : View} {v : Value} {l : List Raw} (h : Raws V v l) : digR l := fun r hr => by
  obtain ⟨A, c, rfl, h1, h2, h3⟩ := h
  rcases h3 with rfl | ⟨b, o, arr, ty, fr, e1, e2, h4⟩
  · cases hr
  · obtain ⟨i, hi⟩ := List.getElem?_of_mem hr
    obtain ⟨m, n, d, g1, g2, g3, o1, o2, o3, hE⟩ := h4 i r hi
    obtain ⟨n', d', _, k1, k2⟩ := hE
    exact ⟨k1.dig, k2.dig⟩
theorem fewR_QB {l : List Raw} (h : fewR l) (hd : digR l) : ∀ x ∈ qs l, QB 96 x := fun x hx => by
  obtain ⟨r, hr, rfl⟩ := List.mem_map.1 hx
  exact QB_rv _ (dig3 (hd r hr).1 (h r hr).1) (dig3 (hd r hr).2 (h r hr).2)
theorem lfew_c (V : View) (v : Value) (L : List Raw) (n : Nat) (hv : Raws V v L) (hn : n ≤ 1000000) : Spec Tryz.prog 34 [v, .int .i64 (n : Int)] V fun v' V' => Raws V' v' (fewL L n) := by
  obtain ⟨A1, c1, rfl, hc1, hm1⟩ := hv.form
  refine (Spec.enter Tryz.func34 rfl fun Γ => ?_)
  simp only [Tryz.ntmps34, List.map_cons, List.map_nil, List.length_cons, List.length_nil, Nat.reduceAdd, Nat.reduceSub, List.replicate_succ, List.replicate_zero, List.cons_append, List.nil_append]
  first | refine Gx.a (by kernel_rfl) fun K hK => ?_ | refine Gx.b (by kernel_rfl) fun K hK => ?_ | refine Gx.c (by kernel_rfl) fun K hK => ?_
  simp only [XA, XB, gateX, Nat.reduceAdd, Nat.reduceLeDiff, Nat.reduceSub, Nat.reduceMul, ↓reduceIte, Int.reduceToNat, Int.reduceLE, beq_self_eq_true]
  refine hK _ ?_
  first | refine Gx.a (by kernel_rfl) fun K hK => ?_ | refine Gx.b (by kernel_rfl) fun K hK => ?_ | refine Gx.c (by kernel_rfl) fun K hK => ?_
  refine bs_go (by kernel_rfl) #[] (by simp) (bs_zero elemT_22 zeroT_48) fun b hb1 hb2 => ?_
  simp only [XA, XB, gateX, Nat.reduceAdd, Nat.reduceLeDiff, Nat.reduceSub, Nat.reduceMul, ↓reduceIte, Int.reduceToNat, Int.reduceLE, beq_self_eq_true]
  refine hK _ ?_
  clear hK
  obtain ⟨N, hN⟩ : ∃ N, N = min L.length n := ⟨_, rfl⟩
  have eN : L.take N = L.take n := by
    rw [hN]
    by_cases h : L.length ≤ n
    · rw [Nat.min_eq_left h, List.take_of_length_le h, List.take_of_length_le (Nat.le_refl _)]
    · rw [Nat.min_eq_right (by omega)]
  have hvN := SlAt.take hv (k := N) (by omega)
  have hlN : (L.take N).length = N := by simp; omega
  refine XWP.cutD 0 (fun s => ∃ (V6 : View) (H5 : Heap) (cells : List Value) (wo : Value), StIs (fun Z => [Z 0,Z 1,Z 2,Z 3,Z 4, .v wo, Z 6,Z 7,Z 8,Z 9,Z 10,Z 11,Z 12,Z 13,Z 14,Z 15,Z 16,Z 17,Z 18,Z 19,Z 20,Z 21,Z 22,Z 23,Z 24,Z 25,Z 26,Z 27,Z 28,Z 29,Z 30,Z 31,Z 32,Z 33]) [] H5 V6 s ∧ Own H5 48 3 wo N cells ∧ RowAt rawE V6 cells ((L.take N).map cutR)) ?_ ?_
  · first | refine Gx.a (by kernel_rfl) fun K hK => ?_ | refine Gx.b (by kernel_rfl) fun K hK => ?_ | refine Gx.c (by kernel_rfl) fun K hK => ?_
    simp only [XA, XB, gateX, Nat.reduceAdd, Nat.reduceLeDiff, Nat.reduceSub, Nat.reduceMul, ↓reduceIte, Int.reduceToNat, Int.reduceLE, beq_self_eq_true, min_nat]
    rw [← hN]
    refine ⟨by omega, by omega, by omega, ?_⟩
    refine hK _ ?_
    clear hK
    first | refine XWP.block ?_ | refine XWP.seq (XWP.block ?_)
    refine XWP.loopD 0 (fun m s => ∃ (k : Nat) (V6 : View) (H5 : Heap) (cells : List Value) (wo : Value), StIs (fun Z => [Z 0,Z 1,Z 2,Z 3,Z 4, .v wo, Z 6,Z 7,Z 8,Z 9,Z 10,Z 11,Z 12,Z 13, .v (.slice A1 N c1), .v (.int .i64 (N : Int)), .v (.int .i64 (k : Int)), Z 17,Z 18,Z 19,Z 20,Z 21,Z 22,Z 23,Z 24,Z 25,Z 26,Z 27,Z 28,Z 29,Z 30,Z 31,Z 32,Z 33]) [] H5 V6 s ∧ V.le V6 ∧ m + k = N ∧ Own H5 48 3 wo k cells ∧ RowAt rawE V6 cells ((L.take k).map cutR)) N ⟨0, V, _, [], _, StIs.of (by exact rfl), View.le_refl _, rfl, own3 (by simp [upd]) rfl (Nat.le_refl _) (by omega), RowAt.nil _⟩ ?_
    rintro m s ⟨k, V6, H5, cells, wo, hs, hV6, hm, hown, hrow⟩
    obtain ⟨z, rfl⟩ := hs.out
    try dsimp only
    by_cases hk : k < N
    · have b1 : decide ((k : Int) < (N : Int)) = true := decide_eq_true (by omega)
      first | refine Gx.a (by kernel_rfl) fun K hK => ?_ | refine Gx.b (by kernel_rfl) fun K hK => ?_ | refine Gx.c (by kernel_rfl) fun K hK => ?_
      simp only [XA, XB, gateX, Nat.reduceAdd, Nat.reduceLeDiff, Nat.reduceSub, Nat.reduceMul, ↓reduceIte, Int.reduceToNat, Int.reduceLE, beq_self_eq_true, b1]
      refine hK _ ?_
      first | refine Gx.t rfl ?_ | refine XWP.seq (Gx.t rfl ?_)
      refine XWP.skip ?_
      refine XWP.seq ?_
      first | refine XWP.block ?_ | refine XWP.seq (XWP.block ?_)
      first | refine Gx.a (by kernel_rfl) fun K hK => ?_ | refine Gx.b (by kernel_rfl) fun K hK => ?_ | refine Gx.c (by kernel_rfl) fun K hK => ?_
      have hv6 := Raws.up hvN hV6
      obtain ⟨b', o', rfl⟩ := SlAt.addr hv6 (by omega)
      obtain ⟨x, hx, ⟨m3, n3, d3, rfl, p1, p2, p3⟩, hld⟩ := SlAt.load hv6 k (by omega)
      obtain ⟨n4, d4, e4, hn4, hd4⟩ := hx
      cases e4
      have ek : (L.take N)[k]'(by omega) = L[k]'(by omega) := by simp
      rw [ek] at hn4 hd4
      simp only [XA, XB, gateX, Nat.reduceAdd, Nat.reduceLeDiff, Nat.reduceSub, Nat.reduceMul, ↓reduceIte, Int.reduceToNat, Int.reduceLE, beq_self_eq_true]
      refine ⟨by omega, by omega, ld_mem (hld _) ?_⟩
      simp only [XA, XB, gateX, Nat.reduceAdd, Nat.reduceLeDiff, Nat.reduceSub, Nat.reduceMul, ↓reduceIte, Int.reduceToNat, Int.reduceLE, beq_self_eq_true]
      refine st_rat rfl rfl rfl p2 p3 ?_
      simp only [XA, XB, gateX, Nat.reduceAdd, Nat.reduceLeDiff, Nat.reduceSub, Nat.reduceMul, ↓reduceIte, Int.reduceToNat, Int.reduceLE, beq_self_eq_true]
      refine hK _ ?_
      (first | refine XWP.drw [0, 1, 2, 3, 4, 6, 7, 5, 8, 9, 10, 11, 12] (by kernel_rfl) (by kernel_rfl) (by kernel_rfl) fun K hK => ?_ | refine XWP.seq (XWP.drw [0, 1, 2, 3, 4, 6, 7, 5, 8, 9, 10, 11, 12] (by kernel_rfl) (by kernel_rfl) (by kernel_rfl) fun K hK => ?_) | refine XWP.drw1 [0, 1, 2, 3, 4, 6, 7, 5, 8, 9, 10, 11, 12] (by kernel_rfl) (by kernel_rfl) (by kernel_rfl) fun K hK => ?_) <;> dsimp only [pickOps, List.getElem?_cons_zero, List.getElem?_cons_succ]
      simp only [XA, XB, gateX, Nat.reduceAdd, Nat.reduceLeDiff, Nat.reduceSub, Nat.reduceMul, ↓reduceIte, Int.reduceToNat, Int.reduceLE, beq_self_eq_true]
      refine call_go (by kernel_rfl) rfl (lnat_c _ _ _ hn4) fun v7 V7 hV7 h7 => ?_
      simp only [XA, XB, gateX, Nat.reduceAdd, Nat.reduceLeDiff, Nat.reduceSub, Nat.reduceMul, ↓reduceIte, Int.reduceToNat, Int.reduceLE, beq_self_eq_true]
      refine call_go (by kernel_rfl) rfl (lnat_c _ _ _ (hd4.mono hV7)) fun v8 V8 hV8 h8 => ?_
      have h7 := h7.mono hV8
      simp only [XA, XB, gateX, Nat.reduceAdd, Nat.reduceLeDiff, Nat.reduceSub, Nat.reduceMul, ↓reduceIte, Int.reduceToNat, Int.reduceLE, beq_self_eq_true]
      rw [ek]
      refine bd_go (by kernel_rfl) #[(0, .bool (L[k]'(by omega)).m), (1, v7), (2, v8)] (by simp [ev_tmp, SV.val]) (bd_rat3 rfl h7.one h8.one) ?_
      simp only [XA, XB, gateX, Nat.reduceAdd, Nat.reduceLeDiff, Nat.reduceSub, Nat.reduceMul, ↓reduceIte, Int.reduceToNat, Int.reduceLE, beq_self_eq_true]
      refine bs_go (by kernel_rfl) #[(0, .agg #[.bool (L[k]'(by omega)).m, v7, v8])] (by simp [ev_tmp, SV.val]) (bs_rat elemT_22) fun b3 hb3 hb4 => ?_
      simp only [XA, XB, gateX, Nat.reduceAdd, Nat.reduceLeDiff, Nat.reduceSub, Nat.reduceMul, ↓reduceIte, Int.reduceToNat, Int.reduceLE, beq_self_eq_true]
      refine ap_go elemT_22 (by kernel_rfl) zeroT_48 rfl (by omega) (own_upd hown hb3) (src3 (upd_at _ _ _) rfl h7.one h8.one) (by omega) (by omega) fun v' H' hres => ?_
      simp only [XA, XB, gateX, Nat.reduceAdd, Nat.reduceLeDiff, Nat.reduceSub, Nat.reduceMul, ↓reduceIte, Int.reduceToNat, Int.reduceLE, beq_self_eq_true]
      refine hK _ ?_
      first | refine Gx.a (by kernel_rfl) fun K hK => ?_ | refine Gx.b (by kernel_rfl) fun K hK => ?_ | refine Gx.c (by kernel_rfl) fun K hK => ?_
      simp only [XA, XB, gateX, Nat.reduceAdd, Nat.reduceLeDiff, Nat.reduceSub, Nat.reduceMul, ↓reduceIte, Int.reduceToNat, Int.reduceLE, beq_self_eq_true, i64_succ k (by omega)]
      have hrow' := (hrow.mono rawE_ok (View.le_trans hV7 hV8)).snoc (x := cutR (L[k]'(by omega))) (show isOne (.bool (L[k]'(by omega)).m) = true from rfl) h7.one h8.one ⟨_, _, rfl, h7, h8⟩
      have em : (L.take (k + 1)).map cutR = (L.take k).map cutR ++ [cutR (L[k]'(by omega))] := by rw [List.take_succ_eq_append_getElem (by omega), List.map_append]; rfl
      rw [← em] at hrow'
      exact hK _ ⟨m - 1, by omega, fun f => ⟨k + 1, V8, _, _, _, StIs.of (by exact rfl), View.le_trans hV6 (View.le_trans hV7 hV8), by omega, hres.1, hrow'⟩⟩
    · have b1 : decide ((k : Int) < (N : Int)) = false := decide_eq_false (by omega)
      obtain rfl : k = N := by omega
      first | refine Gx.a (by kernel_rfl) fun K hK => ?_ | refine Gx.b (by kernel_rfl) fun K hK => ?_ | refine Gx.c (by kernel_rfl) fun K hK => ?_
      simp only [XA, XB, gateX, Nat.reduceAdd, Nat.reduceLeDiff, Nat.reduceSub, Nat.reduceMul, ↓reduceIte, Int.reduceToNat, Int.reduceLE, beq_self_eq_true, b1]
      refine hK _ ?_
      first | refine Gx.f rfl ?_ | refine XWP.seq (Gx.f rfl ?_)
      refine XWP.exit ?_
      exact fun f => ⟨V6, H5, cells, wo, StIs.of (by exact rfl), hown, hrow⟩
  rintro s ⟨V6, H5, cells, wo, hs, hown, hrow⟩
  obtain ⟨z, rfl⟩ := hs.out
  try dsimp only
  rw [eN] at hrow
  have hl : ((L.take n).map cutR).length = N := by rw [List.length_map, ← eN, hlN]
  first | refine Gx.a (by kernel_rfl) fun K hK => ?_ | refine Gx.b (by kernel_rfl) fun K hK => ?_ | refine Gx.c (by kernel_rfl) fun K hK => ?_
  simp only [XA, XB, gateX, Nat.reduceAdd, Nat.reduceLeDiff, Nat.reduceSub, Nat.reduceMul, ↓reduceIte, Int.reduceToNat, Int.reduceLE, beq_self_eq_true]
  refine hK _ (XWP.ret ?_)
  try simp only [thenX_ret, inBlockX_ret]
  rcases own_parts hown with ⟨rfl, hn0, rfl⟩ | ⟨g, cap, rfl, hg, hle, hcap, _⟩
  · refine ret_go _ rfl ?_
    have : fewL L n = [] := List.length_eq_zero_iff.1 (by unfold fewL; rw [hl]; exact hn0)
    rw [this]; exact SlAt.nil _
  · refine ret_pub g _ hg fun o ho hle' => ret_go _ rfl ?_
    exact hrow.pub rawE_ok ho hle' hl hle (by unfold maxLen at hcap; omega)
theorem lsame_c (V : View) (v u : Value) (l m : List Rat) (hv : Rats V v l) (hu : Rats V u m) (hl : ∀ x ∈ l, QF x) (hm : ∀ x ∈ m, QF x) : Spec Tryz.prog 30 [v, u] V fun v' V' => v' = .bool (decide (l = m)) := by
  obtain ⟨A1, c1, rfl, hc1, hm1⟩ := hv.form
  obtain ⟨A2, c2, rfl, hc2, hm2⟩ := hu.form
  refine (Spec.enter Tryz.func30 rfl fun Γ => ?_)
  simp only [Tryz.ntmps30, List.map_cons, List.map_nil, List.length_cons, List.length_nil, Nat.reduceAdd, Nat.reduceSub, List.replicate_succ, List.replicate_zero, List.cons_append, List.nil_append]
  first | refine Gx.a (by kernel_rfl) fun K hK => ?_ | refine Gx.b (by kernel_rfl) fun K hK => ?_ | refine Gx.c (by kernel_rfl) fun K hK => ?_
  simp only [XA, XB, gateX, Nat.reduceAdd, Nat.reduceLeDiff, Nat.reduceSub, Nat.reduceMul, ↓reduceIte, Int.reduceToNat, Int.reduceLE, beq_self_eq_true]
  refine hK _ ?_
  refine XWP.seq ?_
  by_cases hlen : l.length = m.length
  · have b1 : (!decide ((l.length : Int) = (m.length : Int))) = false := by rw [decide_eq_true (by omega)]; rfl
    first | refine Gx.a (by kernel_rfl) fun K hK => ?_ | refine Gx.b (by kernel_rfl) fun K hK => ?_ | refine Gx.c (by kernel_rfl) fun K hK => ?_
    simp only [XA, XB, gateX, Nat.reduceAdd, Nat.reduceLeDiff, Nat.reduceSub, Nat.reduceMul, ↓reduceIte, Int.reduceToNat, Int.reduceLE, beq_self_eq_true, b1]
    refine hK _ ?_
    first | refine Gx.f rfl ?_ | refine XWP.seq (Gx.f rfl ?_)
    refine XWP.skip ?_
    refine XWP.cut (fun s => ∃ V2, StIs (fun Z => [Z 0,Z 1,Z 2,Z 3,Z 4,Z 5,Z 6,Z 7,Z 8,Z 9,Z 10,Z 11,Z 12,Z 13,Z 14,Z 15,Z 16,Z 17,Z 18,Z 19,Z 20,Z 21,Z 22,Z 23,Z 24,Z 25,Z 26]) [] (fun _ => none) V2 s ∧ l = m) ?_ ?_
    · first | refine Gx.a (by kernel_rfl) fun K hK => ?_ | refine Gx.b (by kernel_rfl) fun K hK => ?_ | refine Gx.c (by kernel_rfl) fun K hK => ?_
      simp only [XA, XB, gateX, Nat.reduceAdd, Nat.reduceLeDiff, Nat.reduceSub, Nat.reduceMul, ↓reduceIte, Int.reduceToNat, Int.reduceLE, beq_self_eq_true]
      refine hK _ ?_
      clear hK
      first | refine XWP.block ?_ | refine XWP.seq (XWP.block ?_)
      refine XWP.loop (fun n s => ∃ (k : Nat) (V2 : View), StIs (fun Z => [.v (.slice A1 l.length c1), .v (.slice A2 m.length c2), Z 2,Z 3,Z 4,Z 5,Z 6,Z 7,Z 8,Z 9,Z 10,Z 11, .v (.int .i64 (l.length : Int)), .v (.int .i64 (k : Int)), Z 14,Z 15,Z 16,Z 17,Z 18,Z 19,Z 20,Z 21,Z 22,Z 23,Z 24,Z 25,Z 26]) [] (fun _ => none) V2 s ∧ V.le V2 ∧ n + k = l.length ∧ ∀ i, i < k → cf l i = cf m i) l.length ⟨0, V, StIs.of (by exact rfl), View.le_refl _, rfl, fun i hi => by omega⟩ ?_
      rintro n s ⟨k, V2, hs, hV2, hn, hk⟩
      obtain ⟨z, rfl⟩ := hs.out
      try dsimp only
      by_cases hlt : k < l.length
      · have b2 : decide ((k : Int) < (l.length : Int)) = true := decide_eq_true (by omega)
        first | refine Gx.a (by kernel_rfl) fun K hK => ?_ | refine Gx.b (by kernel_rfl) fun K hK => ?_ | refine Gx.c (by kernel_rfl) fun K hK => ?_
        simp only [XA, XB, gateX, Nat.reduceAdd, Nat.reduceLeDiff, Nat.reduceSub, Nat.reduceMul, ↓reduceIte, Int.reduceToNat, Int.reduceLE, beq_self_eq_true, b2]
        refine hK _ ?_
        first | refine Gx.t rfl ?_ | refine XWP.seq (Gx.t rfl ?_)
        refine XWP.skip ?_
        refine XWP.seq ?_
        first | refine XWP.block ?_ | refine XWP.seq (XWP.block ?_)
        first | refine Gx.a (by kernel_rfl) fun K hK => ?_ | refine Gx.b (by kernel_rfl) fun K hK => ?_ | refine Gx.c (by kernel_rfl) fun K hK => ?_
        simp only [XA, XB, gateX, Nat.reduceAdd, Nat.reduceLeDiff, Nat.reduceSub, Nat.reduceMul, ↓reduceIte, Int.reduceToNat, Int.reduceLE, beq_self_eq_true]
        refine hK _ ?_
        (first | refine XWP.drw [0, 1, 2, 3, 4, 5, 6, 7, 8, 9] (by kernel_rfl) (by kernel_rfl) (by kernel_rfl) fun K hK => ?_ | refine XWP.seq (XWP.drw [0, 1, 2, 3, 4, 5, 6, 7, 8, 9] (by kernel_rfl) (by kernel_rfl) (by kernel_rfl) fun K hK => ?_) | refine XWP.drw1 [0, 1, 2, 3, 4, 5, 6, 7, 8, 9] (by kernel_rfl) (by kernel_rfl) (by kernel_rfl) fun K hK => ?_) <;> dsimp only [pickOps, List.getElem?_cons_zero, List.getElem?_cons_succ]
        have hv2 := Rats.up hv hV2
        have hu2 := Rats.up hu hV2
        obtain ⟨b, o, rfl⟩ := SlAt.addr hv2 (by omega)
        obtain ⟨b', o', rfl⟩ := SlAt.addr hu2 (by omega)
        obtain ⟨m3, n3, d3, hx3, ⟨p1, p2, p3⟩, hld3⟩ := Rats.get hv2 k (by omega)
        obtain ⟨m4, n4, d4, hx4, ⟨r1, r2, r3⟩, hld4⟩ := Rats.get hu2 k (by omega)
        simp only [XA, XB, gateX, Nat.reduceAdd, Nat.reduceLeDiff, Nat.reduceSub, Nat.reduceMul, ↓reduceIte, Int.reduceToNat, Int.reduceLE, beq_self_eq_true]
        refine ⟨by omega, by omega, ld_mem (hld3 _) ?_⟩
        simp only [XA, XB, gateX, Nat.reduceAdd, Nat.reduceLeDiff, Nat.reduceSub, Nat.reduceMul, ↓reduceIte, Int.reduceToNat, Int.reduceLE, beq_self_eq_true]
        refine ⟨by omega, by omega, ld_mem (hld4 _) ?_⟩
        simp only [XA, XB, gateX, Nat.reduceAdd, Nat.reduceLeDiff, Nat.reduceSub, Nat.reduceMul, ↓reduceIte, Int.reduceToNat, Int.reduceLE, beq_self_eq_true]
        have f3 := hl _ (cf_mem hlt)
        have f4 := hm _ (cf_mem (show k < m.length by omega))
        refine call_go (by kernel_rfl) rfl (psame_c _ _ _ _ _ (hx3.toV f3) (hx4.toV f4) f3 f4) fun v5 V5 hV5 h5 => ?_
        subst h5
        by_cases he : cf l k = cf m k
        · have b3 : decide (cf l k = cf m k) = true := decide_eq_true he
          simp only [XA, XB, gateX, Nat.reduceAdd, Nat.reduceLeDiff, Nat.reduceSub, Nat.reduceMul, ↓reduceIte, Int.reduceToNat, Int.reduceLE, beq_self_eq_true, b3]
          refine hK _ ?_
          first | refine Gx.f rfl ?_ | refine XWP.seq (Gx.f rfl ?_)
          refine XWP.skip ?_
          first | refine Gx.a (by kernel_rfl) fun K hK => ?_ | refine Gx.b (by kernel_rfl) fun K hK => ?_ | refine Gx.c (by kernel_rfl) fun K hK => ?_
          simp only [XA, XB, gateX, Nat.reduceAdd, Nat.reduceLeDiff, Nat.reduceSub, Nat.reduceMul, ↓reduceIte, Int.reduceToNat, Int.reduceLE, beq_self_eq_true, i64_succ k (by omega)]
          refine hK _ ⟨n - 1, by omega, k + 1, V5, StIs.of (by exact rfl), View.le_trans hV2 hV5, by omega, fun i hi => ?_⟩
          by_cases e : i = k
          · rw [e]; exact he
          · exact hk i (by omega)
        · have b3 : decide (cf l k = cf m k) = false := decide_eq_false he
          simp only [XA, XB, gateX, Nat.reduceAdd, Nat.reduceLeDiff, Nat.reduceSub, Nat.reduceMul, ↓reduceIte, Int.reduceToNat, Int.reduceLE, beq_self_eq_true, b3]
          refine hK _ ?_
          first | refine Gx.t rfl ?_ | refine XWP.seq (Gx.t rfl ?_)
          first | refine Gx.a (by kernel_rfl) fun K hK => ?_ | refine Gx.b (by kernel_rfl) fun K hK => ?_ | refine Gx.c (by kernel_rfl) fun K hK => ?_
          simp only [XA, XB, gateX, Nat.reduceAdd, Nat.reduceLeDiff, Nat.reduceSub, Nat.reduceMul, ↓reduceIte, Int.reduceToNat, Int.reduceLE, beq_self_eq_true]
          refine hK _ (XWP.ret ?_)
          try simp only [thenX_ret, inBlockX_ret]
          refine ret_go _ rfl ?_
          rw [decide_eq_false (fun e => he (by rw [e]))]; rfl
      · have b2 : decide ((k : Int) < (l.length : Int)) = false := decide_eq_false (by omega)
        first | refine Gx.a (by kernel_rfl) fun K hK => ?_ | refine Gx.b (by kernel_rfl) fun K hK => ?_ | refine Gx.c (by kernel_rfl) fun K hK => ?_
        simp only [XA, XB, gateX, Nat.reduceAdd, Nat.reduceLeDiff, Nat.reduceSub, Nat.reduceMul, ↓reduceIte, Int.reduceToNat, Int.reduceLE, beq_self_eq_true, b2]
        refine hK _ ?_
        first | refine Gx.f rfl ?_ | refine XWP.seq (Gx.f rfl ?_)
        refine XWP.exit ?_
        refine ⟨V2, StIs.of (by exact rfl), List.ext_getElem hlen fun i h1 h2 => ?_⟩
        rw [cf_get h1, cf_get h2]; exact hk i (by omega)
    rintro s ⟨V2, hs, he⟩
    obtain ⟨z, rfl⟩ := hs.out
    try dsimp only
    first | refine Gx.a (by kernel_rfl) fun K hK => ?_ | refine Gx.b (by kernel_rfl) fun K hK => ?_ | refine Gx.c (by kernel_rfl) fun K hK => ?_
    simp only [XA, XB, gateX, Nat.reduceAdd, Nat.reduceLeDiff, Nat.reduceSub, Nat.reduceMul, ↓reduceIte, Int.reduceToNat, Int.reduceLE, beq_self_eq_true]
    refine hK _ (XWP.ret ?_)
    try simp only [thenX_ret, inBlockX_ret]
    refine ret_go _ rfl ?_
    rw [decide_eq_true he]; rfl
  · have b1 : (!decide ((l.length : Int) = (m.length : Int))) = true := by rw [decide_eq_false (by omega)]; rfl
    first | refine Gx.a (by kernel_rfl) fun K hK => ?_ | refine Gx.b (by kernel_rfl) fun K hK => ?_ | refine Gx.c (by kernel_rfl) fun K hK => ?_
    simp only [XA, XB, gateX, Nat.reduceAdd, Nat.reduceLeDiff, Nat.reduceSub, Nat.reduceMul, ↓reduceIte, Int.reduceToNat, Int.reduceLE, beq_self_eq_true, b1]
    refine hK _ ?_
    first | refine Gx.t rfl ?_ | refine XWP.seq (Gx.t rfl ?_)
    first | refine Gx.a (by kernel_rfl) fun K hK => ?_ | refine Gx.b (by kernel_rfl) fun K hK => ?_ | refine Gx.c (by kernel_rfl) fun K hK => ?_
    simp only [XA, XB, gateX, Nat.reduceAdd, Nat.reduceLeDiff, Nat.reduceSub, Nat.reduceMul, ↓reduceIte, Int.reduceToNat, Int.reduceLE, beq_self_eq_true]
    refine hK _ (XWP.ret ?_)
    try simp only [thenX_ret, inBlockX_ret]
    refine ret_go _ rfl ?_
    rw [decide_eq_false (fun e => hlen (by rw [e]))]; rfl
end Go.Proofs.YthoboehbadmlmaaGreat
end
section
namespace Go.Proofs.YthoboehbadmlmaaGreat
open Go Go.RowKit
set_option linter.unusedSimpArgs false
set_option linter.unusedVariables false
attribute [local irreducible] XWP Spec SpecO XPub XCall seqX clX apX stX ldX iaX slX
end Go.Proofs.YthoboehbadmlmaaGreat
end
section
namespace Go.Proofs.YthoboehbadmlmaaGreat
set_option linter.unusedVariables false
/-! the product -/
/-- the sum of the products that meet at a place -/
def meet (p q : List Rat) (i : Nat) : Nat → Rat
  | 0 => 0
  | k + 1 => meet p q i k + if k ≤ i then cf p k * cf q (i - k) else 0
end Go.Proofs.YthoboehbadmlmaaGreat
end
section
namespace Go.Proofs.YthoboehbadmlmaaGreat
open Go Go.RowKit
set_option linter.unusedSimpArgs false
set_option linter.unusedVariables false
attribute [local irreducible] XWP Spec SpecO XPub XCall seqX clX apX stX ldX iaX slX
theorem bs_rat2 {t : Nat} {a b c a' b' c' : Value} (he : elemT Tryz.prog t = some 48) : BuildsSlice Tryz.prog t 2 #[(0, .agg #[a, b, c]), (1, .agg #[a', b', c'])] 48 [a, b, c, a', b', c'] := by
  obtain ⟨i, zv, hi, hzv, h1, h2, _⟩ := zero_parts zeroT_48
  have hc : zv.cells = #[.bool false, .slice none 0 0, .slice none 0 0] := Array.toList_inj.1 h1
  refine bs_run (cells := #[a, b, c, a', b', c']) he hi hzv (by omega) (by omega) ?_
  rw [h2, hc]
  have : madeCells #[.bool false, .slice none 0 0, .slice none 0 0] (2 * 3) = #[.bool false, .slice none 0 0, .slice none 0 0, .bool false, .slice none 0 0, .slice none 0 0] := Array.toList_inj.1 (by rw [made_flat _ 3 rfl (by omega)]; rfl)
  rw [this, fill_three (off := 0) rfl (by simp), fill_three (off := 3) rfl (by simp)]; rfl
theorem bs_rat4 {t : Nat} {a b c a' b' c' d e f d' e' f' : Value} (he : elemT Tryz.prog t = some 48) : BuildsSlice Tryz.prog t 4 #[(0, .agg #[a, b, c]), (1, .agg #[a', b', c']), (2, .agg #[d, e, f]), (3, .agg #[d', e', f'])] 48 [a, b, c, a', b', c', d, e, f, d', e', f'] := by
  obtain ⟨i, zv, hi, hzv, h1, h2, _⟩ := zero_parts zeroT_48
  have hc : zv.cells = #[.bool false, .slice none 0 0, .slice none 0 0] := Array.toList_inj.1 h1
  refine bs_run (cells := #[a, b, c, a', b', c', d, e, f, d', e', f']) he hi hzv (by omega) (by omega) ?_
  rw [h2, hc]
  have : madeCells #[.bool false, .slice none 0 0, .slice none 0 0] (4 * 3) = #[.bool false, .slice none 0 0, .slice none 0 0, .bool false, .slice none 0 0, .slice none 0 0, .bool false, .slice none 0 0, .slice none 0 0, .bool false, .slice none 0 0, .slice none 0 0] := Array.toList_inj.1 (by rw [made_flat _ 3 rfl (by omega)]; rfl)
  rw [this, fill_three (off := 0) rfl (by simp), fill_three (off := 3) rfl (by simp), fill_three (off := 6) rfl (by simp), fill_three (off := 9) rfl (by simp)]
  simp [Instr.fill]
def fib : List Rat := [1, 1, 1 + 1, 1 + (1 + 1)]
theorem fib_bm : bmOut (bmI fib 4) = [1, 1] ∧ (bmI fib 4).size = 2 := by
  have s1 : bmI fib 1 = ⟨[1, -1], [1], 1, 1, 1⟩ := by
    show bmStep fib ⟨[1], [1], 0, 1, 1⟩ 0 = _
    decide +kernel
  have s2 : bmI fib 2 = ⟨[1, -1], [1], 1, 2, 1⟩ := by rw [bmI, s1]; decide +kernel
  have s3 : bmI fib 3 = ⟨[1, -1, -1], [1, -1], 2, 1, 1⟩ := by rw [bmI, s2]; decide +kernel
  have s4 : bmI fib 4 = ⟨[1, -1, -1], [1, -1], 2, 2, 1⟩ := by rw [bmI, s3]; decide +kernel
  rw [s4]
  decide +kernel
theorem fib_QB : ∀ x ∈ fib, QB 2 x := by
  intro x hx
  have h2 : QB 1 ((1 : Rat) + 1) := (QB_one 0).add (QB_one 0)
  simp only [fib, List.mem_cons, List.not_mem_nil, or_false] at hx
  rcases hx with rfl | rfl | rfl | rfl
  · exact QB_one 2
  · exact QB_one 2
  · exact h2.mono (by omega)
  · exact (QB_one 0).add h2
theorem fib_CB : CB 8 fib := CB_of fib fib_QB
theorem fib_fit (i : Nat) (hi : i < 4) : BMFit fib (bmI fib i) i := bm_fit (e := 2) fib_CB (by simp [fib]) (by simp [bb, fib]) i (by simpa [fib] using hi)
theorem fib_q (i : Nat) : QF (cf (bmI fib 4).q i) := by
  obtain ⟨h1, _, _⟩ := bm_CB (e := 2) fib_CB 4 (by omega) 4 (by omega)
  exact QF.of (h1.at i) (by simp [bb])
theorem fib_len : fib.length = 4 := rfl
theorem fib_eq : [] ++ [1] ++ [1] ++ [1 + 1] ++ [1 + (1 + 1)] = fib := rfl
theorem fib_rec (V : View) (v : Value) (hl : Rats V v fib) : Spec Tryz.prog 28 [v] V fun v' V' => ∃ w, v' = .tuple #[w, .int .i64 0] ∧ Rats V' w [1, 1] := by
  have eq : qs (fib.map toRaw) = fib := qs_toRaw fib
  have el : (fib.map toRaw).length = 4 := by rw [List.length_map]; exact fib_len
  refine (crec_c V v (fib.map toRaw) (Rats.raws hl) (fitR_toRaw (fun x hx => QF.of (fib_QB x hx) (by omega))) (by omega) (fun _ i hi => ?_) (fun _ x hx => ?_) (fun _ i => ?_)).mono fun v' V' hV h => ?_
  · rw [eq]; exact fib_fit i (by omega)
  · rw [eq] at hx; exact QF.of (fib_QB x hx) (by omega)
  · rw [eq, el]; exact fib_q i
  · have h5 := h.2.2 (okR_toRaw _)
    rw [eq, el, fib_bm.1, fib_bm.2] at h5
    exact h5 (by omega)
attribute [local irreducible] fib
theorem alive_c (V : View) : Spec Tryz.prog 14 [] V fun v' V' => v' = .bool true := by
  refine (Spec.enter Tryz.func14 rfl fun Γ => ?_)
  simp only [Tryz.ntmps14, List.map_cons, List.map_nil, List.length_cons, List.length_nil, Nat.reduceAdd, Nat.reduceSub, List.replicate_succ, List.replicate_zero, List.cons_append, List.nil_append]
  first | refine Gx.a (by kernel_rfl) fun K hK => ?_ | refine Gx.b (by kernel_rfl) fun K hK => ?_ | refine Gx.c (by kernel_rfl) fun K hK => ?_
  simp only [XA, XB, gateX, Nat.reduceAdd, Nat.reduceLeDiff, Nat.reduceSub, Nat.reduceMul, ↓reduceIte, Int.reduceToNat, Int.reduceLE, beq_self_eq_true]
  refine hK _ ?_
  first | refine Gx.a (by kernel_rfl) fun K hK => ?_ | refine Gx.b (by kernel_rfl) fun K hK => ?_ | refine Gx.c (by kernel_rfl) fun K hK => ?_
  simp only [XA, XB, gateX, Nat.reduceAdd, Nat.reduceLeDiff, Nat.reduceSub, Nat.reduceMul, ↓reduceIte, Int.reduceToNat, Int.reduceLE, beq_self_eq_true]
  refine call_go (by kernel_rfl) rfl (pone_c _) fun v1 V1 hV1 h1 => ?_
  obtain ⟨x1, y1, rfl, o1, o2⟩ := h1.form
  simp only [XA, XB, gateX, Nat.reduceAdd, Nat.reduceLeDiff, Nat.reduceSub, Nat.reduceMul, ↓reduceIte, Int.reduceToNat, Int.reduceLE, beq_self_eq_true]
  refine st_rat rfl rfl rfl o1 o2 ?_
  simp only [XA, XB, gateX, Nat.reduceAdd, Nat.reduceLeDiff, Nat.reduceSub, Nat.reduceMul, ↓reduceIte, Int.reduceToNat, Int.reduceLE, beq_self_eq_true]
  refine hK _ ?_
  (first | refine XWP.drw [0, 1, 2, 3, 5, 6, 7, 4, 8, 9, 10, 11, 12, 13, 14, 15, 16] (by kernel_rfl) (by kernel_rfl) (by kernel_rfl) fun K hK => ?_ | refine XWP.seq (XWP.drw [0, 1, 2, 3, 5, 6, 7, 4, 8, 9, 10, 11, 12, 13, 14, 15, 16] (by kernel_rfl) (by kernel_rfl) (by kernel_rfl) fun K hK => ?_) | refine XWP.drw1 [0, 1, 2, 3, 5, 6, 7, 4, 8, 9, 10, 11, 12, 13, 14, 15, 16] (by kernel_rfl) (by kernel_rfl) (by kernel_rfl) fun K hK => ?_) <;> dsimp only [pickOps, List.getElem?_cons_zero, List.getElem?_cons_succ]
  simp only [XA, XB, gateX, Nat.reduceAdd, Nat.reduceLeDiff, Nat.reduceSub, Nat.reduceMul, ↓reduceIte, Int.reduceToNat, Int.reduceLE, beq_self_eq_true]
  refine call_go (by kernel_rfl) rfl (padd_c _ _ _ _ _ (h1.toV QF_one) (h1.toV QF_one) QF_one QF_one) fun v2 V2 hV2 h2 => ?_
  have h1 := h1.mono hV2
  simp only [XA, XB, gateX, Nat.reduceAdd, Nat.reduceLeDiff, Nat.reduceSub, Nat.reduceMul, ↓reduceIte, Int.reduceToNat, Int.reduceLE, beq_self_eq_true]
  refine call_go (by kernel_rfl) rfl (padd_c _ _ _ _ _ (h1.toV QF_one) (h1.toV QF_one) QF_one QF_one) fun v3 V3 hV3 h3 => ?_
  have h1 := h1.mono hV3
  have h2 := h2.mono hV3
  have f2 : QF ((1 : Rat) + 1) := QF.of ((QB_one 0).add (QB_one 0)) (by omega)
  simp only [XA, XB, gateX, Nat.reduceAdd, Nat.reduceLeDiff, Nat.reduceSub, Nat.reduceMul, ↓reduceIte, Int.reduceToNat, Int.reduceLE, beq_self_eq_true]
  refine call_go (by kernel_rfl) rfl (padd_c _ _ _ _ _ (h1.toV QF_one) (h3.toV f2) QF_one f2) fun v4 V4 hV4 h4 => ?_
  have h1 := h1.mono hV4
  have h2 := h2.mono hV4
  obtain ⟨x2, y2, rfl, o3, o4⟩ := h2.form
  obtain ⟨x4, y4, rfl, o5, o6⟩ := h4.form
  simp only [XA, XB, gateX, Nat.reduceAdd, Nat.reduceLeDiff, Nat.reduceSub, Nat.reduceMul, ↓reduceIte, Int.reduceToNat, Int.reduceLE, beq_self_eq_true]
  refine bs_go (by kernel_rfl) #[(0, .agg #[.bool (ng 1), x1, y1]), (1, .agg #[.bool (ng 1), x1, y1]), (2, .agg #[.bool (ng (1 + 1)), x2, y2]), (3, .agg #[.bool (ng (1 + (1 + 1))), x4, y4])] (by simp [ev_tmp, SV.val]) (bs_rat4 elemT_22) fun b hb1 hb2 => ?_
  simp only [XA, XB, gateX, Nat.reduceAdd, Nat.reduceLeDiff, Nat.reduceSub, Nat.reduceMul, ↓reduceIte, Int.reduceToNat, Int.reduceLE, beq_self_eq_true]
  refine call_pub b ⟨48, [.bool (ng 1), x1, y1, .bool (ng 1), x1, y1, .bool (ng (1 + 1)), x2, y2, .bool (ng (1 + (1 + 1))), x4, y4], 12⟩ (by simp only [upd_at]) (fun o ho hle' => ?_) (by kernel_rfl) rfl
  have hrow := ((((RowAt.nil (E := ratE) V4).snoc (x := 1) (show isOne (.bool (ng 1)) = true from rfl) o1 o2 h1).snoc (x := 1) (show isOne (.bool (ng 1)) = true from rfl) o1 o2 h1).snoc (x := 1 + 1) (show isOne (.bool (ng (1 + 1))) = true from rfl) o3 o4 h2).snoc (x := 1 + (1 + 1)) (show isOne (.bool (ng (1 + (1 + 1)))) = true from rfl) o5 o6 h4
  rw [fib_eq] at hrow
  simp only [List.nil_append, List.cons_append] at hrow
  have hl := hrow.pub ratE_ok ho hle' (n := 4) (c := 4) fib_len (Nat.le_refl _) (by omega)
  refine call_go (by kernel_rfl) rfl (fib_rec _ _ hl) fun v5 V5 hV5 h5 => ?_
  obtain ⟨w, rfl, hw⟩ := h5
  simp only [XA, XB, gateX, Nat.reduceAdd, Nat.reduceLeDiff, Nat.reduceSub, Nat.reduceMul, ↓reduceIte, Int.reduceToNat, Int.reduceLE, beq_self_eq_true]
  refine hK _ ?_
  have h1 := (h1.mono hle').mono hV5
  first | refine Gx.a (by kernel_rfl) fun K hK => ?_ | refine Gx.b (by kernel_rfl) fun K hK => ?_ | refine Gx.c (by kernel_rfl) fun K hK => ?_
  simp only [XA, XB, gateX, Nat.reduceAdd, Nat.reduceLeDiff, Nat.reduceSub, Nat.reduceMul, ↓reduceIte, Int.reduceToNat, Int.reduceLE, beq_self_eq_true, decide_true]
  refine bs_go (by kernel_rfl) #[(0, .agg #[.bool (ng 1), x1, y1]), (1, .agg #[.bool (ng 1), x1, y1])] (by simp [ev_tmp, SV.val]) (bs_rat2 elemT_22) fun b3 hb3 hb4 => ?_
  simp only [XA, XB, gateX, Nat.reduceAdd, Nat.reduceLeDiff, Nat.reduceSub, Nat.reduceMul, ↓reduceIte, Int.reduceToNat, Int.reduceLE, beq_self_eq_true]
  refine call_pub b3 ⟨48, [.bool (ng 1), x1, y1, .bool (ng 1), x1, y1], 6⟩ (by simp only [upd_at]) (fun o2' ho2 hle2 => ?_) (by kernel_rfl) rfl
  have hrow2 := (((RowAt.nil (E := ratE) V5).snoc (x := 1) (show isOne (.bool (ng 1)) = true from rfl) o1 o2 h1).snoc (x := 1) (show isOne (.bool (ng 1)) = true from rfl) o1 o2 h1)
  simp only [List.nil_append, List.cons_append] at hrow2
  have q11 : ∀ x ∈ [(1 : Rat), 1], QF x := fun x hx => by
    simp only [List.mem_cons, List.not_mem_nil, or_false, or_self] at hx
    rw [hx]; exact QF_one
  refine call_go (by kernel_rfl) rfl (lsame_c _ _ _ [1, 1] [1, 1] (hw.up hle2) (hrow2.pub ratE_ok ho2 hle2 (n := 2) (c := 2) rfl (Nat.le_refl _) (by omega)) q11 q11) fun v6 V6 hV6 h6 => ?_
  subst h6
  simp only [XA, XB, gateX, Nat.reduceAdd, Nat.reduceLeDiff, Nat.reduceSub, Nat.reduceMul, ↓reduceIte, Int.reduceToNat, Int.reduceLE, beq_self_eq_true]
  refine hK _ (XWP.ret ?_)
  try simp only [thenX_ret, inBlockX_ret]
  refine ret_go _ rfl ?_
  show Value.bool _ = _
  simp
end Go.Proofs.YthoboehbadmlmaaGreat
end
section
namespace Go.Proofs.YthoboehbadmlmaaGreat
open Go Go.RowKit
set_option linter.unusedSimpArgs false
set_option linter.unusedVariables false
attribute [local irreducible] XWP Spec SpecO XPub XCall seqX clX apX stX ldX iaX slX
end Go.Proofs.YthoboehbadmlmaaGreat
end
section
namespace Go.Proofs.YthoboehbadmlmaaGreat
open Go Go.RowKit Go.ChangeShapes
set_option linter.unusedVariables false
/-- the whole world, as what is published -/
def viewW (w : World) : View := fun k => w.heap[k]?
theorem viewW_sub (w : World) : View.sub (viewW w) w := fun _ _ h => h
theorem cell_view {w : World} {a : Addr} {v : Value} (h : w.cell? a = some v) : a.spot = none ∧ ∃ arr ty fr, viewW w a.block = some (.cells arr ty fr) ∧ arr[a.off]? = some v := by
  unfold World.cell? at h
  split at h
  · rename_i c t f hb
    split at h
    · cases h
    · rename_i hs
      refine ⟨?_, c, t, f, hb, h⟩
      cases hsp : a.spot with
      | none => rfl
      | some x => rw [hsp] at hs; simp at hs
  · cases h
theorem add_off (a : Addr) (n : Nat) : (a.add n).block = a.block ∧ (a.add n).off = a.off + n := by
  unfold Addr.add; split
  · rename_i h; subst h; exact ⟨rfl, rfl⟩
  · exact ⟨rfl, rfl⟩
theorem cells_view {w : World} {a : Addr} {n : Nat} {f : Nat → Value} (hn : 0 < n) (h : ∀ i, i < n → w.cell? (a.add i) = some (f i)) : a.spot = none ∧ ∃ arr ty fr, viewW w a.block = some (.cells arr ty fr) ∧ ∀ i, i < n → arr[a.off + i]? = some (f i) := by
  have h0 := h 0 hn
  have e0 : a.add 0 = a := by simp [Addr.add]
  rw [e0] at h0
  obtain ⟨hs, arr, ty, fr, hb, _⟩ := cell_view h0
  refine ⟨hs, arr, ty, fr, hb, fun i hi => ?_⟩
  obtain ⟨_, arr', ty', fr', hb', hv⟩ := cell_view (h i hi)
  obtain ⟨e1, e2⟩ := add_off a i
  rw [e1, hb] at hb'
  cases hb'
  rw [e2] at hv; exact hv
theorem addr_eta (a : Addr) (h : a.spot = none) : a = ⟨a.block, a.off, none⟩ := by cases a; simp at h; subst h; rfl
section
variable {H : Type} {enc : TypeId × Value → H} {w : World} {base : Nat} {spare : Nat → Bool} {held : Bool}
theorem und_nat : (Tryz.prog).underlying 46 = some (.slice 147) := und_elem elemT_46
theorem und_u32 : (Tryz.prog).underlying 147 = some (.int .u32) := by kernel_rfl
theorem cells_u32 : (Tryz.prog).cellsOf 147 = 1 := by kernel_rfl
theorem cells_rat : (Tryz.prog).cellsOf 48 = 3 := by kernel_rfl
theorem open_nat {fuel : Nat} {v : Value} {x : DataW H × List MemPlace} (h : DataW.trod enc Tryz.prog w base spare held fuel 46 [v] = some x) : ∃ ds, NatAt (viewW w) v ds := by
  rcases open_ints und_nat und_u32 cells_u32 h with ⟨hcs, _⟩ | ⟨a, len, cap, zs, hcs, _, hl, hm, hz, _, hcell, hwz⟩
  · cases hcs; exact ⟨[], NatAt.nil _⟩
  · cases hcs
    have hzl : len ≤ zs.length := by rw [hz]; split <;> omega
    have hwf : ∀ z ∈ zs, 0 ≤ z ∧ z < 4294967296 := fun z hz => by
      have := hwz z hz
      simp [Lit.wf, IntKind.min, IntKind.max, IntKind.signed, IntKind.bits] at this
      omega
    refine ⟨(zs.take len).map Int.toNat, some a, cap, by simp [Nat.min_eq_left hzl], by simp; omega, by unfold maxLen at hm; omega, fun d hd => ?_, ?_⟩
    · obtain ⟨z, hz, rfl⟩ := List.mem_map.1 hd
      have := hwf z (List.mem_of_mem_take hz)
      unfold BB; omega
    · rcases Nat.eq_zero_or_pos len with h0 | h0
      · subst h0; exact .inl (by simp)
      · obtain ⟨hs, arr, ty, fr, hb, hv⟩ := cells_view (f := fun i => .int .u32 (zs.getD i 0)) (by omega) hcell
        refine .inr ⟨a.block, a.off, arr, ty, fr, by rw [← addr_eta a hs], hb, fun i d hd => ?_⟩
        rw [List.getElem?_map, List.getElem?_take] at hd
        split at hd
        · rename_i hi
          rw [hv i (by omega)]
          have hiz : i < zs.length := by omega
          rw [List.getElem?_eq_getElem hiz] at hd
          simp at hd
          have := hwf zs[i] (List.getElem_mem hiz)
          simp [hiz]
          omega
        · cases hd
noncomputable def ratFields : Array Field := match (Tryz.prog).underlying 48 with
  | some (.struct fs) => fs
  | _ => #[]
theorem und_rat : (Tryz.prog).underlying 48 = some (.struct ratFields) := by kernel_rfl
theorem ratFields_map : ratFields.toList.map (fun f => (f.type, f.offset)) = [(4, 0), (46, 1), (46, 2)] := by kernel_rfl
theorem und_bool : (Tryz.prog).underlying 4 = some .bool := by kernel_rfl
theorem cells_bool : (Tryz.prog).cellsOf 4 = 1 := by kernel_rfl
theorem cells_nat : (Tryz.prog).cellsOf 46 = 1 := by kernel_rfl
theorem ratField (i : Nat) (t o : Nat) (h : [(4, 0), (46, 1), (46, 2)][i]? = some (t, o)) : ∃ f, ratFields[i]? = some f ∧ f.type = t ∧ f.offset = o := by
  rw [← ratFields_map, List.getElem?_map] at h
  cases hf : ratFields.toList[i]? with
  | none => rw [hf] at h; cases h
  | some f =>
    rw [hf] at h
    simp at h
    exact ⟨f, by rw [← Array.getElem?_toList]; exact hf, h.1, h.2⟩
theorem three_of {α : Type} {l : List α} (h : l.length = 3) : ∃ a b c, l = [a, b, c] := by
  rcases l with _ | ⟨a, _ | ⟨b, _ | ⟨c, _ | ⟨d, l⟩⟩⟩⟩ <;> simp at h
  exact ⟨a, b, c, rfl⟩
theorem open_rat {fuel : Nat} {cs : List Value} {x : DataW H × List MemPlace} (h : DataW.trod enc Tryz.prog w base spare held fuel 48 cs = some x) : ∃ (r : Raw) (n d : Value), cs = [.bool r.m, n, d] ∧ NatAt (viewW w) n r.nd ∧ NatAt (viewW w) d r.dd := by
  obtain ⟨xs, m, _, _, hl, hxl, hf⟩ := DataW.trod_struct und_rat h
  rw [cells_rat] at hl
  have hsz : ratFields.size = 3 := by
    have := congrArg List.length ratFields_map
    simpa using this
  obtain ⟨c0, c1, c2, rfl⟩ := three_of hl
  obtain ⟨f0, a0, t0, o0⟩ := ratField 0 _ _ rfl
  obtain ⟨f1, a1, t1, o1⟩ := ratField 1 _ _ rfl
  obtain ⟨f2, a2, t2, o2⟩ := ratField 2 _ _ rfl
  have h0 := hf 0 f0 a0
  have h1 := hf 1 f1 a1
  have h2 := hf 2 f2 a2
  rw [t0, o0, cells_bool, List.getElem?_eq_getElem (by omega)] at h0
  rw [t1, o1, cells_nat, List.getElem?_eq_getElem (by omega)] at h1
  rw [t2, o2, cells_nat, List.getElem?_eq_getElem (by omega)] at h2
  obtain ⟨b, e, _⟩ := DataW.trod_bool und_bool h0
  have e' : c0 = .bool b := by simpa using e
  subst e'
  obtain ⟨ds, hn⟩ := open_nat h1
  obtain ⟨es, hd⟩ := open_nat h2
  exact ⟨⟨b, ds, es⟩, c1, c2, rfl, hn, hd⟩
theorem choose_list {α : Type} {Q : Nat → α → Prop} : ∀ n, (∀ i, i < n → ∃ x, Q i x) → ∃ xs : List α, xs.length = n ∧ ∀ i x, xs[i]? = some x → Q i x
  | 0, _ => ⟨[], rfl, fun i x h => by simp at h⟩
  | n + 1, h => by
    obtain ⟨xs, hl, hq⟩ := choose_list n fun i hi => h i (by omega)
    obtain ⟨x, hx⟩ := h n (by omega)
    refine ⟨xs ++ [x], by simp [hl], fun i y hi => ?_⟩
    by_cases hlt : i < n
    · rw [List.getElem?_append_left (by omega)] at hi; exact hq i y hi
    · rw [List.getElem?_append_right (by omega)] at hi
      have : i = n := by
        rcases Nat.eq_zero_or_pos (i - xs.length) with h0 | h0
        · omega
        · rw [List.getElem?_eq_none (by simp; omega)] at hi; cases hi
      subst this
      rw [hl, Nat.sub_self] at hi
      simp at hi
      subst hi; exact hx
theorem open_raws {t fuel : Nat} {v : Value} {x : DataW H × List MemPlace} (ht : elemT Tryz.prog t = some 48) (h : DataW.trod enc Tryz.prog w base spare held fuel t [v] = some x) : ∃ l, Raws (viewW w) v l := by
  rcases Go.Deep.open_slice (und_elem ht) h with ⟨hcs, _⟩ | ⟨a, len, cap, m, n, D, Pl, hcs, _, hl, hm, hmm, _, hel⟩
  · cases hcs; exact ⟨[], SlAt.nil _⟩
  · cases hcs
    have hlm : len ≤ m := by rw [hmm]; split <;> omega
    have key : ∀ i, i < len → ∃ r : Raw, ∃ n d : Value, w.cell? (a.add (i * 3)) = some (.bool r.m) ∧ w.cell? (a.add (i * 3 + 1)) = some n ∧ w.cell? (a.add (i * 3 + 2)) = some d ∧ NatAt (viewW w) n r.nd ∧ NatAt (viewW w) d r.dd := fun i hi => by
      obtain ⟨cs', h1, h2⟩ := hel i (by omega)
      obtain ⟨r, n', d, rfl, k1, k2⟩ := open_rat h2
      rw [cells_rat] at h1
      obtain ⟨_, _, h3⟩ := World.cells?_some h1
      have g0 := h3 0 (by omega)
      have g1 := h3 1 (by omega)
      have g2 := h3 2 (by omega)
      rw [Go.Deep.add_add] at g0 g1 g2
      exact ⟨r, n', d, g0, g1, g2, k1, k2⟩
    obtain ⟨l, hll, hq⟩ := choose_list len key
    refine ⟨l, some a, cap, by rw [hll], by omega, by unfold maxLen at hm; omega, ?_⟩
    rcases Nat.eq_zero_or_pos len with h0 | h0
    · exact .inl (List.length_eq_zero_iff.1 (by omega))
    · obtain ⟨nn, dd, g0, _⟩ := hq 0 l[0] (List.getElem?_eq_getElem (by omega))
      have e0 : a.add (0 * 3) = a := by simp [Addr.add]
      rw [e0] at g0
      obtain ⟨hs, arr, ty, fr, hb, _⟩ := cell_view g0
      refine .inr ⟨a.block, a.off, arr, ty, fr, by rw [← addr_eta a hs], hb, fun i x hi => ?_⟩
      obtain ⟨n', d, g0, g1, g2, k1, k2⟩ := hq i x hi
      have at_ : ∀ k v, w.cell? (a.add k) = some v → arr[a.off + k]? = some v := fun k v hk => by
        obtain ⟨_, arr', ty', fr', hb', hv⟩ := cell_view hk
        obtain ⟨e1, e2⟩ := add_off a k
        rw [e1, hb] at hb'
        cases hb'
        rw [e2] at hv; exact hv
      exact ⟨.bool x.m, n', d, at_ _ _ g0, at_ _ _ g1, at_ _ _ g2, rfl, k1.one, k2.one, n', d, rfl, k1, k2⟩
end
end Go.Proofs.YthoboehbadmlmaaGreat
end
section
namespace Go.Proofs.YthoboehbadmlmaaGreat
open Go Go.RowKit Go.ChangeShapes
set_option linter.unusedVariables false
section
variable {H : Type} {enc : TypeId × Value → H} {w : World} {base : Nat} {spare : Nat → Bool} {held : Bool}
noncomputable def matFields : Array Field := match (Tryz.prog).underlying 24 with
  | some (.struct fs) => fs
  | _ => #[]
theorem und_mat : (Tryz.prog).underlying 24 = some (.struct matFields) := by kernel_rfl
theorem matFields_map : matFields.toList.map (fun f => (f.type, f.offset)) = [(3, 0), (3, 1), (22, 2)] := by kernel_rfl
theorem cells_int : (Tryz.prog).cellsOf 3 = 1 := by kernel_rfl
theorem cells_rats : (Tryz.prog).cellsOf 22 = 1 := by kernel_rfl
theorem cells_mat : (Tryz.prog).cellsOf 24 = 3 := by kernel_rfl
theorem und_int : (Tryz.prog).underlying 3 = some (.int .i64) := by kernel_rfl
theorem fieldOf {fs : Array Field} {m : List (Nat × Nat)} (hm : fs.toList.map (fun f => (f.type, f.offset)) = m) (i : Nat) (t o : Nat) (h : m[i]? = some (t, o)) : ∃ f, fs[i]? = some f ∧ f.type = t ∧ f.offset = o := by
  rw [← hm, List.getElem?_map] at h
  cases hf : fs.toList[i]? with
  | none => rw [hf] at h; cases h
  | some f =>
    rw [hf] at h
    simp at h
    exact ⟨f, by rw [← Array.getElem?_toList]; exact hf, h.1, h.2⟩
theorem open_mat {fuel : Nat} {cs : List Value} {x : DataW H × List MemPlace} (h : DataW.trod enc Tryz.prog w base spare held fuel 24 cs = some x) : ∃ (r c : Int) (s : Value) (l : List Raw), cs = [.int .i64 r, .int .i64 c, s] ∧ Raws (viewW w) s l := by
  obtain ⟨xs, m, _, _, hl, hxl, hf⟩ := DataW.trod_struct und_mat h
  rw [cells_mat] at hl
  have hsz : matFields.size = 3 := by
    have := congrArg List.length matFields_map
    simpa using this
  obtain ⟨v0, v1, v2, rfl⟩ := three_of hl
  obtain ⟨f0, a0, t0, o0⟩ := fieldOf matFields_map 0 _ _ rfl
  obtain ⟨f1, a1, t1, o1⟩ := fieldOf matFields_map 1 _ _ rfl
  obtain ⟨f2, a2, t2, o2⟩ := fieldOf matFields_map 2 _ _ rfl
  have h0 := hf 0 f0 a0
  have h1 := hf 1 f1 a1
  have h2 := hf 2 f2 a2
  rw [t0, o0, cells_int, List.getElem?_eq_getElem (by omega)] at h0
  rw [t1, o1, cells_int, List.getElem?_eq_getElem (by omega)] at h1
  rw [t2, o2, cells_rats, List.getElem?_eq_getElem (by omega)] at h2
  obtain ⟨r, e0, _⟩ := DataW.trod_int und_int h0
  obtain ⟨c, e1, _⟩ := DataW.trod_int und_int h1
  have e0' : v0 = .int .i64 r := by simpa using e0
  have e1' : v1 = .int .i64 c := by simpa using e1
  subst e0'
  subst e1'
  obtain ⟨l, hl2⟩ := open_raws (v := v2) (by kernel_rfl) h2
  exact ⟨r, c, v2, l, rfl, hl2⟩
end
end Go.Proofs.YthoboehbadmlmaaGreat
end
section
namespace Go.Proofs.YthoboehbadmlmaaGreat
theorem XM : type_of% (And.intro (And.intro (And.intro (And.intro (@shapeT_24) (And.intro (@zeroT_24) (@fieldT_24_0))) (And.intro (@fieldT_24_1) (And.intro (@fieldT_24_2) (@shapeT_57)))) (And.intro (And.intro (@zeroT_57) (And.intro (@fieldT_57_0) (@fieldT_57_1))) (And.intro (@shapeT_34) (And.intro (@zeroT_34) (@fieldT_34_0))))) (And.intro (And.intro (And.intro (@fieldT_34_1) (And.intro (@fieldT_34_2) (@shapeT_62))) (And.intro (@zeroT_62) (And.intro (@fieldT_62_0) (@fieldT_62_1)))) (And.intro (And.intro (@elemT_149) (And.intro (@kindT_149) (@shapeT_149))) (And.intro (@elemT_103) (And.intro (@kindT_103) (@shapeT_103)))))) := And.intro (And.intro (And.intro (And.intro (@shapeT_24) (And.intro (@zeroT_24) (@fieldT_24_0))) (And.intro (@fieldT_24_1) (And.intro (@fieldT_24_2) (@shapeT_57)))) (And.intro (And.intro (@zeroT_57) (And.intro (@fieldT_57_0) (@fieldT_57_1))) (And.intro (@shapeT_34) (And.intro (@zeroT_34) (@fieldT_34_0))))) (And.intro (And.intro (And.intro (@fieldT_34_1) (And.intro (@fieldT_34_2) (@shapeT_62))) (And.intro (@zeroT_62) (And.intro (@fieldT_62_0) (@fieldT_62_1)))) (And.intro (And.intro (@elemT_149) (And.intro (@kindT_149) (@shapeT_149))) (And.intro (@elemT_103) (And.intro (@kindT_103) (@shapeT_103)))))
end Go.Proofs.YthoboehbadmlmaaGreat
end
section
namespace Go.Proofs.YthoboehbadmlmaaGreat
theorem XN : type_of% (And.intro (And.intro (And.intro (@elemT_155) (And.intro (@kindT_155) (@shapeT_155))) (And.intro (@zeroT_155) (And.intro (@elemT_94) (@kindT_94)))) (And.intro (And.intro (@shapeT_94) (And.intro (@zeroT_94) (@elemT_97))) (And.intro (@kindT_97) (And.intro (@shapeT_97) (@zeroT_97))))) := And.intro (And.intro (And.intro (@elemT_155) (And.intro (@kindT_155) (@shapeT_155))) (And.intro (@zeroT_155) (And.intro (@elemT_94) (@kindT_94)))) (And.intro (And.intro (@shapeT_94) (And.intro (@zeroT_94) (@elemT_97))) (And.intro (@kindT_97) (And.intro (@shapeT_97) (@zeroT_97))))
end Go.Proofs.YthoboehbadmlmaaGreat
end
section
namespace Go.Proofs.YthoboehbadmlmaaGreat
set_option linter.unusedVariables false
def Sm (f : Nat → Rat) : Nat → Rat
  | 0 => 0
  | n + 1 => Sm f n + f n
theorem Sm_congr {f g : Nat → Rat} : ∀ (n : Nat), (∀ j, j < n → f j = g j) → Sm f n = Sm g n
  | 0, _ => rfl
  | n + 1, h => by
    have := Sm_congr n (fun j hj => h j (by omega))
    simp only [Sm, this, h n (by omega)]
theorem Sm_zero {f : Nat → Rat} (n : Nat) (h : ∀ j, j < n → f j = 0) : Sm f n = 0 := by
  induction n with
  | zero => rfl
  | succ n ih =>
    simp only [Sm, ih fun j hj => h j (by omega), h n (by omega)]
    grind
theorem Sm_add (f g : Nat → Rat) (n : Nat) : Sm (fun j => f j + g j) n = Sm f n + Sm g n := by
  induction n with
  | zero => simp only [Sm]; grind
  | succ n ih => simp only [Sm, ih]; grind
theorem Sm_mul (c : Rat) (f : Nat → Rat) (n : Nat) : Sm (fun j => c * f j) n = c * Sm f n := by
  induction n with
  | zero => simp only [Sm]; grind
  | succ n ih => simp only [Sm, ih]; grind
theorem Sm_front (f : Nat → Rat) (n : Nat) : Sm f (n + 1) = f 0 + Sm (fun j => f (j + 1)) n := by
  induction n with
  | zero => simp only [Sm]; grind
  | succ n ih =>
    have e : Sm f (n + 1 + 1) = Sm f (n + 1) + f (n + 1) := rfl
    rw [e, ih]; simp only [Sm]; grind
theorem Sm_one {f : Nat → Rat} {n k : Nat} (hk : k < n) (h : ∀ j, j < n → j ≠ k → f j = 0) : Sm f n = f k := by
  induction n with
  | zero => omega
  | succ n ih =>
    by_cases hn : k = n
    · subst hn
      simp only [Sm, Sm_zero k fun j hj => h j (by omega) (by omega)]; grind
    · simp only [Sm, ih (by omega) fun j hj => h j (by omega), h n (by omega) (by omega)]; grind
theorem Sm_more {f : Nat → Rat} {n m : Nat} (hn : n ≤ m) (h : ∀ j, n ≤ j → j < m → f j = 0) : Sm f m = Sm f n := by
  induction m with
  | zero => rw [show n = 0 by omega]
  | succ m ih =>
    by_cases hm : n = m + 1
    · rw [hm]
    · simp only [Sm, ih (by omega) fun j h1 h2 => h j h1 (by omega), h m (by omega) (by omega)]; grind
end Go.Proofs.YthoboehbadmlmaaGreat
end
section
namespace Go.Proofs.YthoboehbadmlmaaGreat
set_option linter.unusedVariables false
end Go.Proofs.YthoboehbadmlmaaGreat
end
section
namespace Go.Proofs.YthoboehbadmlmaaGreat
set_option linter.unusedVariables false
end Go.Proofs.YthoboehbadmlmaaGreat
end
section
namespace Go.Proofs.YthoboehbadmlmaaGreat
set_option linter.unusedVariables false
set_option linter.unusedSimpArgs false
end Go.Proofs.YthoboehbadmlmaaGreat
end
section
namespace Go.Proofs.YthoboehbadmlmaaGreat
set_option linter.unusedVariables false
set_option linter.unusedSimpArgs false
end Go.Proofs.YthoboehbadmlmaaGreat
end
section
namespace Go.Proofs.YthoboehbadmlmaaGreat
set_option linter.unusedVariables false
set_option linter.unusedSimpArgs false
end Go.Proofs.YthoboehbadmlmaaGreat
end
section
namespace Go.Proofs.YthoboehbadmlmaaGreat
set_option linter.unusedVariables false
set_option linter.unusedSimpArgs false
end Go.Proofs.YthoboehbadmlmaaGreat
end
section
namespace Go.Proofs.YthoboehbadmlmaaGreat
set_option linter.unusedVariables false
end Go.Proofs.YthoboehbadmlmaaGreat
end
section
namespace Go.Proofs.YthoboehbadmlmaaGreat
set_option linter.unusedVariables false
end Go.Proofs.YthoboehbadmlmaaGreat
end
