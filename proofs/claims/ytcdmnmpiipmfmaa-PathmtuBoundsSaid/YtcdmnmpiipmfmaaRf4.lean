/-
  The reference's Get, Drop and All by the pure model. Conditions: fewer than 2^20 entries, rising by their addresses (for Drop).
-/
import Derived.Test.YtcdmnmpiipmfmaaRf3
namespace Go.Proofs.Ytcdmnmpiipmfmaa
open Go.Fm

/-- a row's slice; nil if there is none -/
def sv (p : Nat) : List En → Value
  | [] => sN
  | e :: E => sB p (e :: E).length
theorem sv_some {p : Nat} {E : List En} (h : E ≠ []) : sv p E = sB p E.length := by cases E with | nil => exact absurd rfl h | cons => rfl
/-- behind a call of the reference: one object more; the row is gone, where it was (b), or new -/
def PJ (h0 : AHeap) (a : Nat) (b : Option Nat) (x : Cf) (v : Value) (n' : Int) (E' : List En) (r : Res) (h' : AHeap) : Prop :=
  r = .ret v ∧ ∃ p o, ((E' = [] ∧ o = .dead) ∨ (E' ≠ [] ∧ o = .dead ∧ b = some p ∧ h0[p]? = some (oR E')) ∨ (E' ≠ [] ∧ o = oR E' ∧ p = h0.length)) ∧ h' = h0.set a (oS x n' (sv p E')) ++ [o]
theorem row_inj : ∀ {E E' : List En}, rwl rowE E = rwl rowE E' → E = E'
  | [], [], _ => rfl
  | [], e :: E', h => by rw [rwl_cons] at h; exact absurd (congrArg List.length h) (by rw [List.length_append, rowE_len, rwl_nil, List.length_nil]; omega)
  | e :: E, [], h => by rw [rwl_cons] at h; exact absurd (congrArg List.length h) (by rw [List.length_append, rowE_len, rwl_nil, List.length_nil]; omega)
  | e :: E, e' :: E', h => by
    rw [rwl_cons, rwl_cons] at h
    obtain ⟨h1, h2⟩ := List.append_inj h rfl
    rw [row_inj h2]
    have : e = e' := by
      obtain ⟨⟨_, _, _, _, _, _, _, _, _, _, _, _, _, _, _, _⟩, _, _⟩ := e
      obtain ⟨⟨_, _, _, _, _, _, _, _, _, _, _, _, _, _, _, _⟩, _, _⟩ := e'
      simp only [rowE, List.cons.injEq, Value.int.injEq, true_and, and_true] at h1
      obtain ⟨rfl, rfl, rfl, rfl, rfl, rfl, rfl, rfl, rfl, rfl, rfl, rfl, rfl, rfl, rfl, rfl, rfl, rfl⟩ := h1
      rfl
    rw [this]
theorem oR_inj {E E' : List En} (h : oR E = oR E') : E = E' := by injection h with h; exact row_inj h
/-- what 'Spec.re' asks for at an end -/
def End (h0 : AHeap) (Q : Res → AHeap → Prop) (v : Value) (h' : AHeap) : Prop :=
  ∃ (m : List Nat) (v1 v' : Value) (h'' : AHeap), Res.ret v = .ret v1 ∧ m.Nodup ∧ (List.range h0.length).all (fun b => m[b]? == some b) = true ∧ h0.length ≤ m.length ∧ HeapRen (ren m) h' m h'' ∧ RV (ren m) v' v1 ∧ Q (.ret v') h''
section
variable {x : Cf} {now n' : Int} {E E' : List En} {n : Nat} {v : Value} {o o2 : AObj} {rest : AHeap}
theorem jN0 (hv : scopeV 0 8 v = true) : End (hN x now) (PJ (hN x now) 0 none x v n' []) v (oS x n' sN :: o :: rest) :=
  ⟨[0, 1], v, v, [oS x n' sN, .dead], rfl, by decide, rfl, Nat.le_succ _, ⟨⟨_, rfl, ro_s (.snil _ _)⟩, ⟨_, rfl, .dead _⟩, trivial⟩, rv_flat hv, rfl, 0, .dead, .inl ⟨rfl, rfl⟩, rfl⟩
theorem jN1 {k : Nat} {h : AHeap} (hv : scopeV 0 8 v = true) (hk : k ≠ 0) (h0 : h[0]? = some (oS x n' (sB k E'.length))) (h1 : h[k]? = some (oR E')) (hne : E' ≠ []) : End (hN x now) (PJ (hN x now) 0 none x v n' E') v h := by
  refine ⟨[0, k], v, v, [oS x n' (sv 1 E'), oR E'], rfl, ?_, rfl, Nat.le_succ _, ⟨⟨_, h0, ro_s ?_⟩, ⟨_, h1, ro_r _⟩, trivial⟩, rv_flat hv, rfl, 1, oR E', .inr (.inr ⟨hne, rfl, rfl⟩), rfl⟩
  · rw [List.nodup_cons]; exact ⟨fun h => hk (List.mem_singleton.1 h).symm, by simp⟩
  · rw [sv_some hne]; exact .slice _ _ _ _ rfl
theorem jB0 (hv : scopeV 0 8 v = true) : End (hB x now E n) (PJ (hB x now E n) 0 (some 1) x v n' []) v (oS x n' sN :: oR E :: o :: rest) :=
  ⟨[0, 1, 2], v, v, [oS x n' sN, oR E, .dead], rfl, by decide, rfl, Nat.le_succ _, ⟨⟨_, rfl, ro_s (.snil _ _)⟩, ⟨_, rfl, ro_r _⟩, ⟨_, rfl, .dead _⟩, trivial⟩, rv_flat hv, rfl, 0, .dead, .inl ⟨rfl, rfl⟩, rfl⟩
theorem jBs (hv : scopeV 0 8 v = true) (hl : E.length = n) (hn : 1 ≤ n) : End (hB x now E n) (PJ (hB x now E n) 0 (some 1) x v n' E) v (oS x n' (sB 1 n) :: oR E :: o :: rest) := by
  have hne : E ≠ [] := fun e => by rw [e] at hl; simp at hl; omega
  refine ⟨[0, 1, 2], v, v, [oS x n' (sB 1 n), oR E, .dead], rfl, by decide, rfl, Nat.le_succ _, ⟨⟨_, rfl, ro_s (.slice _ _ _ _ rfl)⟩, ⟨_, rfl, ro_r _⟩, ⟨_, rfl, .dead _⟩, trivial⟩, rv_flat hv, rfl, 1, .dead, .inr (.inl ⟨hne, rfl, rfl, rfl⟩), ?_⟩
  rw [sv_some hne, hl]; rfl
theorem jB1 {k : Nat} {h : AHeap} (hv : scopeV 0 8 v = true) (hk : 2 ≤ k) (h0 : h[0]? = some (oS x n' (sB k E'.length))) (hr : h[1]? = some (oR E)) (h1 : h[k]? = some (oR E')) (hne : E' ≠ []) : End (hB x now E n) (PJ (hB x now E n) 0 (some 1) x v n' E') v h := by
  refine ⟨[0, 1, k], v, v, [oS x n' (sv 2 E'), oR E, oR E'], rfl, ?_, rfl, Nat.le_succ _, ⟨⟨_, h0, ro_s ?_⟩, ⟨_, hr, ro_r _⟩, ⟨_, h1, ro_r _⟩, trivial⟩, rv_flat hv, rfl, 2, oR E', .inr (.inr ⟨hne, rfl, rfl⟩), rfl⟩
  · simp; omega
  · rw [sv_some hne]; exact .slice _ _ _ _ rfl
end
/-- the entry at the found place is the one of the address -/
theorem wo_at {D : Ad} : ∀ {E : List En}, Up E → 0 ≤ atM D E → wo E (atM D E) = butE D E
  | [], _, h => absurd (show (0 : Int) ≤ -1 from h) (by decide)
  | a :: E, hu, h => by
    have hn : isD D a = true → ∀ y ∈ E, isD D y = false := fun ha y hy => by
      cases hd : isD D y with
      | false => rfl
      | true => have := hu.head hy; rw [nkE_of ((isD_iff.1 ha).trans (isD_iff.1 hd).symm)] at this; omega
    unfold atM at h ⊢
    rw [List.findIdx?_cons] at h ⊢
    unfold butE
    rw [List.filter_cons]
    cases ha : isD D a with
    | true =>
      show wo (a :: E) ((0 : Nat) : Int) = _
      unfold wo
      rw [show (List.filter (fun y => !isD D y) E) = E by rw [List.filter_eq_self]; exact fun y hy => by rw [hn ha y hy]; rfl]
      rfl
    | false =>
      rw [ha] at h
      have ih := wo_at (D := D) hu.tail
      unfold atM butE at ih
      cases hf : E.findIdx? (isD D) with
      | none => rw [hf] at h; exact absurd (show (0 : Int) ≤ -1 from h) (by decide)
      | some i =>
        rw [hf] at ih
        have ih := ih (Int.natCast_nonneg i)
        show wo (a :: E) ((i + 1 : Nat) : Int) = a :: _
        rw [← ih]
        unfold wo
        rw [Int.toNat_natCast, Int.toNat_natCast]
        rfl
theorem Up.tidy {t : Int} {E : List En} (h : Up E) : Up (tidyE t E) := h.filter _
theorem has_at {D : Ad} {E : List En} (h : ¬ atM D E < 0) : hasE D E = true := by
  obtain ⟨h1, h2, h3⟩ := at_yes h
  unfold hasE
  rw [List.any_eq_true]
  exact ⟨_, List.mem_of_find?_eq_some h3, List.find?_some h3⟩
theorem has_no {D : Ad} {E : List En} (h : atM D E < 0) : hasE D E = false := by
  unfold hasE
  rw [List.any_eq_false]
  exact List.find?_eq_none.1 (at_no h).1
theorem at_nil {D : Ad} : atM D [] < 0 := show (-1 : Int) < 0 by decide
theorem lookE_nil {D : Ad} {x : Cf} : lookE D x [] = x.link := rfl
theorem hasE_nil {D : Ad} : hasE D [] = false := rfl
theorem butE_nil {D : Ad} : butE D [] = [] := rfl

/-! ## laid into a greater heap -/
theorem get_set {h : AHeap} {a p : Nat} {o o2 : AObj} (hp : h[p]? = some o) (hap : p ≠ a) : (h.set a o2)[p]? = some o := by rw [List.getElem?_set_ne hap.symm]; exact hp
theorem upd_s {f : Nat → Nat} {N : Nat} {x : Cf} {n' : Int} {p : Nat} {E' : List En} (old : Option AObj) (ho : ∀ c, old ≠ some (.cells c true)) (hp : E' = [] ∨ p < N) : updO f N old (some (oS x n' (sv p E'))) = oS x n' (sv (f p) E') := by
  have h2 : updO f N old (some (oS x n' (sv p E'))) = renO f N (oS x n' (sv p E')) := by
    unfold updO
    split
    · rename_i c; exact absurd rfl (ho c)
    · rfl
  rw [h2]
  cases E' with
  | nil => rfl
  | cons e E =>
    have hp : p < N := hp.resolve_left (by simp)
    show cond (scopeV N 8 _ && (scopeV N 8 _ && (scopeV N 8 _ && (scopeV N 8 _ && (scopeV N 8 _ && (scopeV N 8 (sB p (e :: E).length) && true)))))) _ _ = _
    rw [show scopeV N 8 (sB p (e :: E).length) = true from by show Nat.blt p N = true; simpa using hp]
    rfl
theorem oS_ne {x : Cf} {n : Int} {v : Value} (c : List Value) : some (oS x n v) ≠ some (.cells c true) := fun h => by injection h with h; injection h with _ h; cases h
theorem oR_ne {E : List En} (c : List Value) : some (oR E) ≠ some (.cells c true) := fun h => by injection h with h; injection h
theorem fr_jn {f : FuncId} {args0 args : List Value} {x : Cf} {now n' : Int} {v : Value} {h : AHeap} {a : Nat} {E' : List En} (hs : Fm.Spec Try.prog [] f args0 (hN x now) (PJ (hN x now) 0 none x v n' E'))
    (hv : scopeV 0 8 v = true) (ha : h[a]? = some (oS x now sN)) (he : h.all noE = true) (hr : RVs (one a) args0 args) : Fm.Spec Try.prog [] f args h (PJ h a none x v n' E') := by
  refine Spec.mono (Spec.frame (gs' := []) hs (emb_n ha he) hr (by simp) ?_) ?_
  · rintro r h0' ⟨rfl, _⟩
    exact scope8 hv _
  · rintro r h' ⟨r0, h0', ⟨rfl, p, o, hp, rfl⟩, rfl, rfl⟩
    have hq : E' = [] ∨ p < 2 := by
      rcases hp with h | h | h
      · exact .inl h.1
      · cases h.2.2.1
      · exact .inr (by rw [h.2.2]; exact (by decide : (1 : Nat) < 2))
    have hh : putH (one a) (hN x now).length ((hN x now).set 0 (oS x n' (sv p E')) ++ [o]) h = h.set a (oS x n' (sv (renB (one a) 1 h.length p) E')) ++ [updO (renB (one a) 1 h.length) 2 none (some o)] := by
      show h.set a (updO (renB (one a) 1 h.length) 2 h[a]? (some (oS x n' (sv p E')))) ++ _ = _
      rw [ha, upd_s _ oS_ne hq]; rfl
    refine ⟨?_, _, _, ?_, hh⟩
    · show Res.ret (renV _ 8 v) = _
      rw [renV_flat 8 hv]
    · rcases hp with ⟨h1, rfl⟩ | h | ⟨h1, rfl, rfl⟩
      · exact .inl ⟨h1, rfl⟩
      · cases h.2.2.1
      · exact .inr (.inr ⟨h1, upd_r E', rfl⟩)
theorem fr_jb {f : FuncId} {args0 args : List Value} {x : Cf} {now n' : Int} {v : Value} {h : AHeap} {a b : Nat} {E E' : List En} {n : Nat} (hs : Fm.Spec Try.prog [] f args0 (hB x now E n) (PJ (hB x now E n) 0 (some 1) x v n' E'))
    (hv : scopeV 0 8 v = true) (hab : b ≠ a) (ha : h[a]? = some (oS x now (sB b n))) (hb : h[b]? = some (oR E)) (he : h.all noE = true) (hr : RVs (two a b) args0 args) : Fm.Spec Try.prog [] f args h (PJ h a (some b) x v n' E') := by
  have hbs : ∀ o, (h.set a o).set b (oR E) = h.set a o := fun o => by
    have h1 := get_set (o2 := o) hb hab
    obtain ⟨hlt2, e2⟩ := List.getElem?_eq_some_iff.1 h1
    conv => lhs; rw [← e2]
    exact List.set_getElem_self hlt2
  refine Spec.mono (Spec.frame (gs' := []) hs (emb_b hab.symm ha hb he) hr (by simp) ?_) ?_
  · rintro r h0' ⟨rfl, _⟩
    exact scope8 hv _
  · rintro r h' ⟨r0, h0', ⟨rfl, p, o, hp, rfl⟩, rfl, rfl⟩
    have hq : E' = [] ∨ p < 3 := by
      rcases hp with h | h | h
      · exact .inl h.1
      · have := h.2.2.1; injection this with this; exact .inr (by omega)
      · exact .inr (by rw [h.2.2]; exact (by decide : (2 : Nat) < 3))
    have hrr : ∀ f N, updO f N h[b]? (some (oR E)) = oR E := fun f N => by rw [hb]; exact upd_r (f := f) (n := N) E
    have hh : putH (two a b) (hB x now E n).length ((hB x now E n).set 0 (oS x n' (sv p E')) ++ [o]) h = h.set a (oS x n' (sv (renB (two a b) 2 h.length p) E')) ++ [updO (renB (two a b) 2 h.length) 3 none (some o)] := by
      show (h.set a (updO (renB (two a b) 2 h.length) 3 h[a]? (some (oS x n' (sv p E'))))).set b (updO (renB (two a b) 2 h.length) 3 h[b]? (some (oR E))) ++ _ = _
      rw [hrr, ha, upd_s _ oS_ne hq, hbs]; rfl
    refine ⟨?_, _, _, ?_, hh⟩
    · show Res.ret (renV _ 8 v) = _
      rw [renV_flat 8 hv]
    · rcases hp with ⟨h1, rfl⟩ | ⟨h1, rfl, h2, h3⟩ | ⟨h1, rfl, rfl⟩
      · exact .inl ⟨h1, rfl⟩
      · injection h2 with h2; subst h2
        have h3 : some (oR E) = some (oR E') := h3
        have e3 : E = E' := oR_inj (by injection h3)
        subst e3
        exact .inr (.inl ⟨h1, rfl, rfl, hb⟩)
      · exact .inr (.inr ⟨h1, upd_r E', rfl⟩)
theorem run_rgetN (x : Cf) (now : Int) (t : Int) (D : Ad) (Q : Res → AHeap → Prop) : (((kBgN (oA D) x now t).asks Try.prog [] 25 ∧
(∀ _ : Unit, (errT t now) →
 Q (.ret (.tuple ⟨[(iv 0), (iv 153)]⟩)) [oS x now sN, oA D]) ∧
(∀ _ : Unit, (¬errT t now) →
((kMtN (oA D) x t D).asks Try.prog [] 26 ∧
∀ _ : Unit, (True) →
 Q (.ret (.tuple ⟨[(iv (lookE D x [])), (iv 0)]⟩)) [oS x t sN, oA D])))) =
    runS Try.prog [] false [25, 26] 0 (SpecC Try.prog []) 20 11 [pR, .int .i64 t, .agg ⟨rowA D⟩] (hN x now) .norm (.skip 5 (.callN (Unit) (kBgN (oA D) x now t).posts (fun k => match k with | 0 => fun _i1 => .go | _ => fun _i1 => .skip 6 (.call (Unit) (kMtN (oA D) x t D).post fun _ => .go)))) (fun r _ h _ => Q r h) := by kernel_rfl

theorem rgetN_ok {x : Cf} {now t : Int} {D : Ad} : Fm.Spec Try.prog [] 11 [pR, .int .i64 t, .agg ⟨rowA D⟩] (hN x now) (PJ (hN x now) 0 none x (vI (getM x now [] t D).1) (getM x now [] t D).2.1 (getM x now [] t D).2.2) := by
  refine Spec.re (spec_T (run_rgetN x now t D _) ?_)
  refine ⟨bgN_ok rfl, ?_⟩
  refine ⟨?_, ?_⟩
  intro _ he
  rw [getM_err he]; exact jN0 rfl
  intro _ he
  refine ⟨mtN_ok rfl, ?_⟩
  intro _ _
  rw [getM_ok he]; exact jN0 rfl
theorem run_rgetB (x : Cf) (now : Int) (E : List En) (n : Nat) (t : Int) (D : Ad) (Q : Res → AHeap → Prop) : (((kBgB (oA D) x now t E n).asks Try.prog [] 25 ∧
(∀ _ : List En, (errT t now) →
 Q (.ret (.tuple ⟨[(iv 0), (iv 153)]⟩)) [oS x now (sB 1 n), oR E, oA D]) ∧
(∀ _ : List En, (¬errT t now ∧
 tidyE t E = []) →
((kMtN2 (oR E) (oA D) x t D).asks Try.prog [] 26 ∧
∀ _ : Unit, (True) →
 Q (.ret (.tuple ⟨[(iv (lookE D x [])), (iv 0)]⟩)) [oS x t sN, oR E, oA D])) ∧
(∀ i1 : List En, (¬errT t now ∧
 i1 = tidyE t E ∧
 i1 ≠ []) →
((kMtB (oR E) (oA D) x t i1 i1.length D).asks Try.prog [] 26 ∧
∀ _ : Unit, (True) →
 Q (.ret (.tuple ⟨[(iv (lookE D x i1)), (iv 0)]⟩)) [oS x t (sB 3 i1.length), oR E, oA D, oR i1])))) =
    runS Try.prog [] false [25, 26] 0 (SpecC Try.prog []) 20 11 [pR, .int .i64 t, .agg ⟨rowA D⟩] (hB x now E n) .norm (.skip 5 (.callN (List En) (kBgB (oA D) x now t E n).posts (fun k => match k with | 0 => fun _i1 => .go | 1 => fun _i1 => .skip 6 (.call (Unit) (kMtN2 (oR E) (oA D) x t D).post fun _ => .go) | _ => fun i1 => .skip 6 (.call (Unit) (kMtB (oR E) (oA D) x t i1 i1.length D).post fun _ => .go)))) (fun r _ h _ => Q r h) := by kernel_rfl

theorem rgetB_ok {x : Cf} {now t : Int} {D : Ad} {E : List En} {n : Nat} (hl : E.length = n) (hn : 1 ≤ n) (hb : n < 2 ^ 20) : Fm.Spec Try.prog [] 11 [pR, .int .i64 t, .agg ⟨rowA D⟩] (hB x now E n) (PJ (hB x now E n) 0 (some 1) x (vI (getM x now E t D).1) (getM x now E t D).2.1 (getM x now E t D).2.2) := by
  refine Spec.re (spec_T (run_rgetB x now E n t D _) ?_)
  refine ⟨bgB_ok hl hb rfl, ?_⟩
  refine ⟨?_, ?_⟩
  intro _ he
  rw [getM_err he]; exact jBs rfl hl hn
  refine ⟨?_, ?_⟩
  rintro _ ⟨he, e0⟩
  refine ⟨mtN2_ok rfl rfl, ?_⟩
  intro _ _
  rw [getM_ok he, e0]; exact jB0 rfl
  rintro i1 ⟨he, rfl, hne⟩
  have hb1 : (tidyE t E).length < 2 ^ 20 := by have := tidy_len (t := t) (E := E); omega
  have hl1 : 1 ≤ (tidyE t E).length := List.length_pos_iff.2 hne
  refine ⟨mtB_ok rfl hb1 rfl rfl, ?_⟩
  intro _ _
  rw [getM_ok he]; exact jB1 rfl (by decide) rfl rfl rfl hne
theorem run_rdropN (x : Cf) (now : Int) (t : Int) (D : Ad) (Q : Res → AHeap → Prop) : (((kBgN (oA D) x now t).asks Try.prog [] 25 ∧
(∀ _ : Unit, (errT t now) →
 Q (.ret (.tuple ⟨[(.bool false), (iv 153)]⟩)) [oS x now sN, oA D]) ∧
(∀ _ : Unit, (¬errT t now) →
((kAtN (oA D) x t D).asks Try.prog [] 33 ∧
∀ _ : Unit, (True) →
(((decide (atM D [] < 0)) = true →
 Q (.ret (.tuple ⟨[(.bool false), (iv 0)]⟩)) [oS x t sN, oA D]) ∧
((decide (atM D [] < 0)) = false →
((kWoF (atM D []) [oS x t sN, oA D]).asks Try.prog [] 34 ∧
∀ _ : Unit, (False) →
 Q (.ret (.tuple ⟨[(.bool true), (iv 0)]⟩)) [oS x t sN, oA D]))))))) =
    runS Try.prog [] false [25, 33, 34] 0 (SpecC Try.prog []) 20 17 [pR, .int .i64 t, .agg ⟨rowA D⟩] (hN x now) .norm (.skip 5 (.callN (Unit) (kBgN (oA D) x now t).posts (fun k => match k with | 0 => fun _i1 => .go | _ => fun _i1 => .skip 6 (.call (Unit) (kAtN (oA D) x t D).post fun _ => .skip 2 (.ask (.go) (.skip 3 (.call (Unit) (kWoF (atM D []) [oS x t sN, oA D]).post fun _ => .go))))))) (fun r _ h _ => Q r h) := by kernel_rfl

theorem rdropN_ok {x : Cf} {now t : Int} {D : Ad} : Fm.Spec Try.prog [] 17 [pR, .int .i64 t, .agg ⟨rowA D⟩] (hN x now) (PJ (hN x now) 0 none x (vB (dropM now [] t D).1) (dropM now [] t D).2.1 (dropM now [] t D).2.2) := by
  refine Spec.re (spec_T (run_rdropN x now t D _) ?_)
  refine ⟨bgN_ok rfl, ?_⟩
  refine ⟨?_, ?_⟩
  intro _ he
  rw [dropM_err he]; exact jN0 rfl
  intro _ he
  refine ⟨atN1_ok rfl, ?_⟩
  intro _ _
  refine ⟨fun h0 => ?_, fun h0 => ?_⟩
  replace h0 := of_decide_eq_true h0
  rw [dropM_ok he]; exact jN0 rfl
  replace h0 := of_decide_eq_false h0
  obtain ⟨g1, g2, _⟩ := at_yes h0
  refine ⟨(absurd at_nil h0), ?_⟩
  intro _ hf
  exact hf.elim
theorem run_rdropB (x : Cf) (now : Int) (E : List En) (n : Nat) (t : Int) (D : Ad) (Q : Res → AHeap → Prop) : (((kBgB (oA D) x now t E n).asks Try.prog [] 25 ∧
(∀ _ : List En, (errT t now) →
 Q (.ret (.tuple ⟨[(.bool false), (iv 153)]⟩)) [oS x now (sB 1 n), oR E, oA D]) ∧
(∀ _ : List En, (¬errT t now ∧
 tidyE t E = []) →
((kAtN2 (oR E) (oA D) x t D).asks Try.prog [] 33 ∧
∀ _ : Unit, (True) →
(((decide (atM D [] < 0)) = true →
 Q (.ret (.tuple ⟨[(.bool false), (iv 0)]⟩)) [oS x t sN, oR E, oA D]) ∧
((decide (atM D [] < 0)) = false →
((kWoF (atM D []) [oS x t sN, oR E, oA D]).asks Try.prog [] 34 ∧
∀ _ : Unit, (False) →
 Q (.ret (.tuple ⟨[(.bool true), (iv 0)]⟩)) [oS x t sN, oR E, oA D]))))) ∧
(∀ i1 : List En, (¬errT t now ∧
 i1 = tidyE t E ∧
 i1 ≠ []) →
((kAtB3 (oR E) (oA D) x t i1 i1.length D).asks Try.prog [] 33 ∧
∀ _ : Unit, (True) →
(((decide (atM D i1 < 0)) = true →
 Q (.ret (.tuple ⟨[(.bool false), (iv 0)]⟩)) [oS x t (sB 3 i1.length), oR E, oA D, oR i1]) ∧
((decide (atM D i1 < 0)) = false →
((kWoB (oR E) (oA D) x t i1 i1.length (atM D i1)).asks Try.prog [] 34 ∧
(∀ _ : List En, (wo i1 (atM D i1) = []) →
 Q (.ret (.tuple ⟨[(.bool true), (iv 0)]⟩)) [oS x t sN, oR E, oA D, oR i1]) ∧
(∀ i2 : List En, (i2 = wo i1 (atM D i1) ∧
 i2 ≠ []) →
 Q (.ret (.tuple ⟨[(.bool true), (iv 0)]⟩)) [oS x t (sB 4 i2.length), oR E, oA D, oR i1, oR i2])))))))) =
    runS Try.prog [] false [25, 33, 34] 0 (SpecC Try.prog []) 20 17 [pR, .int .i64 t, .agg ⟨rowA D⟩] (hB x now E n) .norm (.skip 5 (.callN (List En) (kBgB (oA D) x now t E n).posts (fun k => match k with | 0 => fun _i1 => .go | 1 => fun _i1 => .skip 6 (.call (Unit) (kAtN2 (oR E) (oA D) x t D).post fun _ => .skip 2 (.ask (.go) (.skip 3 (.call (Unit) (kWoF (atM D []) [oS x t sN, oR E, oA D]).post fun _ => .go)))) | _ => fun i1 => .skip 6 (.call (Unit) (kAtB3 (oR E) (oA D) x t i1 i1.length D).post fun _ => .skip 2 (.ask (.go) (.skip 3 (.callN (List En) (kWoB (oR E) (oA D) x t i1 i1.length (atM D i1)).posts (fun k => match k with | 0 => fun _i2 => .go | _ => fun _i2 => .go)))))))) (fun r _ h _ => Q r h) := by kernel_rfl

theorem rdropB_ok {x : Cf} {now t : Int} {D : Ad} {E : List En} {n : Nat} (hl : E.length = n) (hn : 1 ≤ n) (hb : n < 2 ^ 20) (hu : Up E) : Fm.Spec Try.prog [] 17 [pR, .int .i64 t, .agg ⟨rowA D⟩] (hB x now E n) (PJ (hB x now E n) 0 (some 1) x (vB (dropM now E t D).1) (dropM now E t D).2.1 (dropM now E t D).2.2) := by
  refine Spec.re (spec_T (run_rdropB x now E n t D _) ?_)
  refine ⟨bgB_ok hl hb rfl, ?_⟩
  refine ⟨?_, ?_⟩
  intro _ he
  rw [dropM_err he]; exact jBs rfl hl hn
  refine ⟨?_, ?_⟩
  rintro _ ⟨he, e0⟩
  refine ⟨atN2_ok rfl rfl, ?_⟩
  intro _ _
  refine ⟨fun h0 => ?_, fun h0 => ?_⟩
  replace h0 := of_decide_eq_true h0
  rw [dropM_ok he, e0]; exact jB0 rfl
  replace h0 := of_decide_eq_false h0
  obtain ⟨g1, g2, _⟩ := at_yes h0
  refine ⟨(absurd at_nil h0), ?_⟩
  intro _ hf
  exact hf.elim
  rintro i1 ⟨he, rfl, hne⟩
  have hb1 : (tidyE t E).length < 2 ^ 20 := by have := tidy_len (t := t) (E := E); omega
  have hl1 : 1 ≤ (tidyE t E).length := List.length_pos_iff.2 hne
  refine ⟨atB3_ok rfl hb1 rfl rfl, ?_⟩
  intro _ _
  refine ⟨fun h0 => ?_, fun h0 => ?_⟩
  replace h0 := of_decide_eq_true h0
  rw [dropM_ok he, has_no h0, butE_no (has_no h0)]; exact jB1 rfl (by decide) rfl rfl rfl hne
  replace h0 := of_decide_eq_false h0
  obtain ⟨g1, g2, _⟩ := at_yes h0
  refine ⟨woB3_ok rfl hb1 g1 (by omega) rfl rfl, ?_⟩
  refine ⟨?_, ?_⟩
  intro _ ew
  rw [dropM_ok he, has_at h0, ← wo_at (E := tidyE t E) (Up.tidy hu) g1, ew]; exact jB0 rfl
  rintro i2 ⟨rfl, hnw⟩
  rw [dropM_ok he, has_at h0, ← wo_at (E := tidyE t E) (Up.tidy hu) g1]
  exact jB1 rfl (by decide) rfl rfl rfl hnw

/-! ## All -/
/-- behind the reference's All -/
def PA (h0 : AHeap) (a : Nat) (x : Cf) (now t : Int) (v0 : Value) (E' : List En) (r : Res) (h' : AHeap) : Prop :=
  (errT t now ∧ r = .ret (.tuple ⟨[sN, .int .i64 153]⟩) ∧ h' = h0.set a (oS x now v0)) ∨ (¬ errT t now ∧ E' = [] ∧ r = .ret (.tuple ⟨[.slice (some ⟨0, 0, none⟩) 0 0, .int .i64 0]⟩) ∧ h' = h0.set a (oS x t sN)) ∨
    (¬ errT t now ∧ E' ≠ [] ∧ r = .ret (.tuple ⟨[sB (h0.length + 1) E'.length, .int .i64 0]⟩) ∧ h' = h0.set a (oS x t (sB h0.length E'.length)) ++ [oR E', oR E'])
theorem app_empty {h : AHeap} {l : List En} {b c : Nat} (hc : h[c]? = some (oR l)) (h0 : 0 < l.length) (hl : l.length ≤ 2 ^ 30) :
    aAppend Try.prog 41 41 (.slice (some ⟨b, 0, none⟩) 0 0) (.slice (some ⟨c, 0, some 18⟩) l.length l.length) h = some (sB h.length l.length, h ++ [oR (l.take l.length)]) := by
  rw [List.take_length]
  obtain ⟨i, h1, h2, h3, h4⟩ := info66
  refine aAppend_rw_empty (c := rowE) (y := l) rowE_len (by omega) xu41 h1 h2 h3 h4 ?_ rowE_cell h0 hl rfl
  have := aNew_rw (P := Try.prog) (e := 66) (xt := 41) (h := h) (b := c) (o := 0) (i := 0) (n := l.length) (cap := l.length) (sp := some 18) rowE_len xu41 (fun _ h => by cases h) hc (by omega) (by omega)
  rw [List.drop_zero, List.take_length] at this
  exact this
theorem rv_cons {i : Nat → Option Nat} {x y x' y' : Value} (h : RV i x' x) (h2 : RV i y' y) : RV i (.tuple ⟨[x', y']⟩) (.tuple ⟨[x, y]⟩) := by
  refine .tuple rfl fun k v v' e e' => ?_
  match k with
  | 0 => injection e with e; injection e' with e'; rw [← e, ← e']; exact h
  | 1 => injection e with e; injection e' with e'; rw [← e, ← e']; exact h2
  | k + 2 => cases e
theorem run_rallN (x : Cf) (now : Int) (t : Int) (Q : Res → AHeap → Prop) : (((kBgN0 x now t).asks Try.prog [] 25 ∧
(∀ _ : Unit, (errT t now) →
 Q (.ret (.tuple ⟨[sN, (iv 153)]⟩)) [oS x now sN]) ∧
(∀ _ : Unit, (¬errT t now) →
 Q (.ret (.tuple ⟨[(.slice (some ⟨1, 0, none⟩) 0 0), (iv 0)]⟩)) [oS x t sN, .tcells [] 66 (some 0)]))) =
    runS Try.prog [] false [25] 0 (SpecC Try.prog []) 20 19 [pR, .int .i64 t] (hN x now) .norm (.skip 4 (.callN (Unit) (kBgN0 x now t).posts (fun k => match k with | 0 => fun _i1 => .go | _ => fun _i1 => .go))) (fun r _ h _ => Q r h) := by kernel_rfl

theorem rallN_ok {x : Cf} {now t : Int} : Fm.Spec Try.prog [] 19 [pR, .int .i64 t] (hN x now) (PA (hN x now) 0 x now t sN []) := by
  refine Spec.re (spec_T (run_rallN x now t _) ?_)
  refine ⟨bgN0_ok, ?_⟩
  refine ⟨?_, ?_⟩
  intro _ he
  exact ⟨[0], _, _, hN x now, rfl, by decide, rfl, Nat.le_refl _, ⟨⟨_, rfl, ro_s (.snil _ _)⟩, trivial⟩, rv_cons (.snil _ _) (.int _ _), .inl ⟨he, rfl, rfl⟩⟩
  intro _ he
  exact ⟨[0], _, _, hN x t, rfl, by decide, rfl, Nat.le_refl _, ⟨⟨_, rfl, ro_s (.snil _ _)⟩, trivial⟩, rv_cons (.slice0 _ _ _) (.int _ _), .inr (.inl ⟨he, rfl, rfl, rfl⟩)⟩
theorem run_rallB (x : Cf) (now : Int) (E : List En) (n : Nat) (t : Int) (Q : Res → AHeap → Prop) : (((kBgB0 x now t E n).asks Try.prog [] 25 ∧
(∀ _ : List En, (errT t now) →
 Q (.ret (.tuple ⟨[sN, (iv 153)]⟩)) [oS x now (sB 1 n), oR E]) ∧
(∀ _ : List En, (¬errT t now ∧
 tidyE t E = []) →
 Q (.ret (.tuple ⟨[(.slice (some ⟨2, 0, none⟩) 0 0), (iv 0)]⟩)) [oS x t sN, oR E, .tcells [] 66 (some 0)]) ∧
(∀ i1 : List En, (¬errT t now ∧
 i1 = tidyE t E ∧
 i1 ≠ []) →
(((i1.length.beq 0) = true →
((aAppend Try.prog 41 41 (.slice (some ⟨3, 0, none⟩) 0 0) (sB 2 i1.length) [oS x t (sB 2 i1.length), oR E, oR i1, .tcells [] 66 (some 0)] = some ((.slice (some ⟨3, 0, none⟩) 0 0), ([oS x t (sB 2 i1.length), oR E, oR i1, .tcells [] 66 (some 0)] : AHeap))) ∧
 Q (.ret (.tuple ⟨[(.slice (some ⟨3, 0, none⟩) 0 0), (iv 0)]⟩)) [oS x t (sB 2 i1.length), oR E, oR i1, .tcells [] 66 (some 0)])) ∧
((i1.length.beq 0) = false →
((aAppend Try.prog 41 41 (.slice (some ⟨3, 0, none⟩) 0 0) (sB 2 i1.length) [oS x t (sB 2 i1.length), oR E, oR i1, .tcells [] 66 (some 0)] = some ((sB 4 i1.length), ([oS x t (sB 2 i1.length), oR E, oR i1, .tcells [] 66 (some 0), oR (List.take i1.length i1)] : AHeap))) ∧
 Q (.ret (.tuple ⟨[(sB 4 i1.length), (iv 0)]⟩)) [oS x t (sB 2 i1.length), oR E, oR i1, .tcells [] 66 (some 0), oR (List.take i1.length i1)])))))) =
    runS Try.prog [] false [25] 0 (SpecC Try.prog []) 20 19 [pR, .int .i64 t] (hB x now E n) .norm (.skip 4 (.callN (List En) (kBgB0 x now t E n).posts (fun k => match k with | 0 => fun _i1 => .go | 1 => fun _i1 => .go | _ => fun i1 => .skip 9 (.byB (i1.length.beq 0) (.skip 0 (.put (.slice (some ⟨3, 0, none⟩) 0 0) [oS x t (sB 2 i1.length), oR E, oR i1, .tcells [] 66 (some 0)] (.go))) (.skip 0 (.put (sB 4 i1.length) [oS x t (sB 2 i1.length), oR E, oR i1, .tcells [] 66 (some 0), oR (List.take i1.length i1)] (.go))))))) (fun r _ h _ => Q r h) := by kernel_rfl

theorem rallB_ok {x : Cf} {now t : Int} {E : List En} {n : Nat} (hl : E.length = n) (hn : 1 ≤ n) (hb : n < 2 ^ 20) : Fm.Spec Try.prog [] 19 [pR, .int .i64 t] (hB x now E n) (PA (hB x now E n) 0 x now t (sB 1 n) (tidyE t E)) := by
  refine Spec.re (spec_T (run_rallB x now E n t _) ?_)
  refine ⟨bgB0_ok hl hb, ?_⟩
  refine ⟨?_, ?_⟩
  intro _ he
  exact ⟨[0, 1], _, _, hB x now E n, rfl, by decide, rfl, Nat.le_refl _, ⟨⟨_, rfl, ro_s (.slice _ _ _ _ rfl)⟩, ⟨_, rfl, ro_r _⟩, trivial⟩, rv_cons (.snil _ _) (.int _ _), .inl ⟨he, rfl, rfl⟩⟩
  refine ⟨?_, ?_⟩
  rintro _ ⟨he, e0⟩
  exact ⟨[0, 1], _, _, [oS x t sN, oR E], rfl, by decide, rfl, Nat.le_refl _, ⟨⟨_, rfl, ro_s (.snil _ _)⟩, ⟨_, rfl, ro_r _⟩, trivial⟩, rv_cons (.slice0 _ _ _) (.int _ _), .inr (.inl ⟨he, e0, rfl, rfl⟩)⟩
  rintro i1 ⟨he, rfl, hne⟩
  have hb1 : (tidyE t E).length < 2 ^ 20 := by have := tidy_len (t := t) (E := E); omega
  have hl1 : 1 ≤ (tidyE t E).length := List.length_pos_iff.2 hne
  refine ⟨fun hz => ?_, fun hz => ?_⟩
  exact absurd (Nat.eq_of_beq_eq_true hz) (by omega)
  refine ⟨app_empty (l := tidyE t E) rfl hl1 (by omega), ?_⟩
  rw [List.take_length]
  exact ⟨[0, 1, 2, 4], _, _, [oS x t (sB 2 (tidyE t E).length), oR E, oR (tidyE t E), oR (tidyE t E)], rfl, by decide, rfl, Nat.le_add_right 2 2, ⟨⟨_, rfl, ro_s (.slice _ _ _ _ rfl)⟩, ⟨_, rfl, ro_r _⟩, ⟨_, rfl, ro_r _⟩, ⟨_, rfl, ro_r _⟩, trivial⟩, rv_cons (.slice _ _ _ _ rfl) (.int _ _), .inr (.inr ⟨he, hne, rfl, rfl⟩)⟩

end Go.Proofs.Ytcdmnmpiipmfmaa
