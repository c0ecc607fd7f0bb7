/-
  FmDrawRun: whatever order is drawn, the machine comes to where the eager order leads.
-/
import Derived.Test.YtopladipgobpjaaDoorFmDrawSound
namespace Go.Fm

variable {P : Program}

theorem nodup_of : ∀ {l : List Nat}, nodupB l = true → l.Nodup
  | [], _ => List.nodup_nil
  | x :: r, h => by
    simp only [nodupB, Bool.and_eq_true, Bool.not_eq_true', List.contains_eq_mem, decide_eq_false_iff_not] at h
    exact List.nodup_cons.2 ⟨h.1, nodup_of h.2⟩

structure Tame (P : Program) (n : Nat) (L : List Oper) : Prop where
  back : backB L 0 = true
  nodup : (dstsOf L).Nodup
  small : ∀ d ∈ dstsOf L, d < n
  chain : chainB (masks L []) (effs P L) = true
  reads : ∀ (i : Nat) (o : Oper), L[i]? = some o → ∀ t ∈ opReads o.op, ∀ (k : Nat) (o' : Oper), k ≠ i → L[k]? = some o' → o'.dst = some t → bitAt (masks L []) i k = true ∨ bitAt (masks L []) k i = true
  guards : ∀ (i : Nat) (o : Oper), L[i]? = some o → ∀ g want, o.guard = some (g, want) → bitAt (masks L []) i g = true ∧ ∃ og d, L[g]? = some og ∧ og.dst = some d

theorem tame_of {n : Nat} {L : List Oper} (h : tameB P n L = true) : Tame P n L := by
  simp only [tameB, Bool.and_eq_true] at h
  obtain ⟨⟨⟨⟨⟨h1, h2⟩, h3⟩, h4⟩, h5⟩, h6⟩ := h
  refine ⟨h1, nodup_of h2, ?_, h4, ?_, ?_⟩
  · intro d hd
    have := (List.all_eq_true.1 h3) d hd
    rw [Nat.blt_eq] at this; exact this
  · intro i o ho t ht k o' hki hk hdst
    simp only [readsB, List.all_eq_true, List.mem_range] at h5
    have hi : i < L.length := (List.getElem?_eq_some_iff.1 ho).1
    have hkl : k < L.length := (List.getElem?_eq_some_iff.1 hk).1
    have := h5 i hi
    rw [ho] at this
    simp only [Option.all_some, List.all_eq_true, List.mem_range] at this
    have := this t (by unfold readsOf; exact List.mem_append_left _ ht) k hkl
    rw [hk] at this
    simp only [Option.all_some, hdst, BEq.rfl, Bool.not_true, Bool.false_or, Bool.or_eq_true] at this
    rcases this with h | h | h
    · exact absurd (Nat.eq_of_beq_eq_true h).symm hki
    · exact .inl h
    · exact .inr h
  · intro i o ho g want hg
    simp only [guardsB, List.all_eq_true, List.mem_range] at h6
    have hi : i < L.length := (List.getElem?_eq_some_iff.1 ho).1
    have := h6 i hi
    rw [ho] at this
    simp only [Option.all_some, hg, Bool.and_eq_true] at this
    refine ⟨this.1, ?_⟩
    cases hog : L[g]? with
    | none => rw [hog] at this; simp at this
    | some og =>
      rw [hog] at this
      simp only [Option.any_some] at this
      obtain ⟨d, hd⟩ := Option.isSome_iff_exists.1 this.2
      exact ⟨og, d, rfl, hd⟩

theorem dst_unique {L : List Oper} (hnd : (dstsOf L).Nodup) {i k : Nat} {o o' : Oper} {d : Nat} (hi : L[i]? = some o) (hk : L[k]? = some o') (h1 : o.dst = some d) (h2 : o'.dst = some d) : i = k := by
  induction L generalizing i k with
  | nil => simp at hi
  | cons x r ih =>
    have hmem : ∀ (m : Nat) (y : Oper), r[m]? = some y → y.dst = some d → d ∈ dstsOf r := by
      intro m y hm hy
      exact List.mem_filterMap.2 ⟨y, List.mem_of_getElem? hm, hy⟩
    cases i with
    | zero =>
      simp at hi; subst hi
      cases k with
      | zero => rfl
      | succ k =>
        exfalso
        simp only [dstsOf, List.filterMap_cons, h1] at hnd
        exact (List.nodup_cons.1 hnd).1 (hmem k o' (by simpa using hk) h2)
    | succ i =>
      cases k with
      | zero =>
        exfalso
        simp at hk; subst hk
        simp only [dstsOf, List.filterMap_cons, h2] at hnd
        exact (List.nodup_cons.1 hnd).1 (hmem i o (by simpa using hi) h1)
      | succ k =>
        have hnd' : (dstsOf r).Nodup := by
          unfold dstsOf at hnd ⊢
          rw [List.filterMap_cons] at hnd
          split at hnd
          · exact hnd
          · exact (List.nodup_cons.1 hnd).2
        have hi' : r[i]? = some o := by simpa using hi
        have hk' : r[k]? = some o' := by simpa using hk
        rw [ih hnd' hi' hk']

section
variable (P)
/-- where the eager order stands: all that floats at this stage is done -/
def CanonRest (gs : List Nat) (S : FSpec) (L : List Oper) (ms ws : List Nat) (e0 : AEnv) (wr : List Nat) (st : Nat) (R : AEnv) (pend : List Pd) (s : St) (k : AEnv → St → Prop) (pan : Chain → St → Prop) : Prop :=
  match wr with
  | [] => k R s
  | w :: wr' => effK P gs S L ms e0 w R s (fun v s'' => checks pend (st + 1) s''.h (stagesW P gs S L ms ws e0 (stagesOf P L ms ws wr' (st + 1)) (st + 1) ((w, v) :: R) pend s'' k pan)) pan
end

theorem floatsAt_nodup (P : Program) (L : List Oper) (ms ws : List Nat) (st : Nat) : (floatsAt P L ms ws st).Nodup := List.Nodup.sublist List.filter_sublist List.nodup_range

theorem mem_floatsAt {L : List Oper} {ms ws : List Nat} {st i : Nat} : i ∈ floatsAt P L ms ws st ↔ ∃ o, L[i]? = some o ∧ isEff P o = false ∧ loOf ms ws i = st := by
  unfold floatsAt
  simp only [List.mem_filter, List.mem_range, Bool.and_eq_true, Bool.not_eq_true']
  constructor
  · rintro ⟨h1, h2, h3⟩
    refine ⟨L[i], List.getElem?_eq_getElem h1, ?_, Nat.eq_of_beq_eq_true h3⟩
    rw [List.getElem?_eq_getElem h1] at h2; simpa using h2
  · rintro ⟨o, h1, h2, h3⟩
    refine ⟨(List.getElem?_eq_some_iff.1 h1).1, by rw [h1]; simpa using h2, by rw [h3]; exact Nat.beq_refl _⟩

theorem mem_effs {L : List Oper} {i : Nat} : i ∈ effs P L ↔ ∃ o, L[i]? = some o ∧ isEff P o = true := by
  unfold effs
  simp only [List.mem_filter, List.mem_range]
  constructor
  · rintro ⟨h1, h2⟩
    rw [List.getElem?_eq_getElem h1] at h2
    exact ⟨L[i], List.getElem?_eq_getElem h1, by simpa using h2⟩
  · rintro ⟨o, h1, h2⟩
    exact ⟨(List.getElem?_eq_some_iff.1 h1).1, by rw [h1]; simpa using h2⟩

theorem stages_rest {gs : List Nat} {S : FSpec} {L : List Oper} {ms ws : List Nat} {e0 : AEnv} {wr : List Nat} {st : Nat} {R : AEnv} {pend : List Pd} {s : St} {k : AEnv → St → Prop} {pan : Chain → St → Prop}
    (hn : ∀ i ∈ floatsAt P L ms ws st, R.get i = none) (h : stagesW P gs S L ms ws e0 (stagesOf P L ms ws wr st) st R pend s k pan) :
    ∃ R' pend' s' A, CanonRest P gs S L ms ws e0 wr st R' pend' s' k pan ∧ Floated P gs L ms ws e0 st (floatsAt P L ms ws st) R pend s R' pend' s' A := by
  cases wr with
  | nil => exact floatsW_elim (floatsAt_nodup P L ms ws st) hn h
  | cons w r => exact floatsW_elim (floatsAt_nodup P L ms ws st) hn h

theorem chain_bit {ms : List Nat} : ∀ {l : List Nat}, chainB ms l = true → ∀ {a b c : List Nat} {x y : Nat}, l = a ++ x :: b ++ y :: c → bitAt ms y x = true
  | [], _, a, b, c, x, y, h => by simp at h
  | z :: r, hc, a, b, c, x, y, h => by
    simp only [chainB, Bool.and_eq_true, List.all_eq_true] at hc
    cases a with
    | nil =>
      simp at h
      obtain ⟨h1, h2⟩ := h
      subst h1
      exact hc.1 y (by rw [h2]; simp)
    | cons a0 a =>
      simp at h
      obtain ⟨h1, h2⟩ := h
      exact chain_bit hc.2 (a := a) (b := b) (c := c) (by simp [h2])

theorem filter_prefix_le {α : Type} (p : α → Bool) : ∀ (a b : List α), (∀ x ∈ b, p x = false) → ((a ++ b).filter p).length ≤ a.length := by
  intro a b hb
  rw [List.filter_append]
  have : b.filter p = [] := List.filter_eq_nil_iff.2 (fun x hx => by simp [hb x hx])
  rw [this, List.append_nil]
  exact List.length_filter_le _ _

theorem filter_prefix_ge {α : Type} (p : α → Bool) : ∀ (a b : List α), (∀ x ∈ a, p x = true) → a.length ≤ ((a ++ b).filter p).length := by
  intro a b ha
  rw [List.filter_append, List.filter_eq_self.2 ha]
  simp

/-- objects that no block stands for yet -/
theorem Sim.more {F : Nat → Nat → Prop} {w0 w : World} {j : Inj} {h : AHeap} (S : Sim F w0 j h w) (t : List AObj) : Sim F w0 j (h ++ t) w := by
  have hget : ∀ b M, j b = some M → (h ++ t)[b]? = h[b]? := fun b M e => List.getElem?_append_left (S.dom b M e)
  refine ⟨S.io, S.size, S.kept, S.below, fun b M e => by have := S.dom b M e; simp; omega, fun b M e => ?_, fun b M e => ?_, fun b b' M M' hne e e' => ?_⟩
  · rw [hget b M e]; exact S.obj b M e
  · rw [hget b M e]; exact S.own b M e
  · rw [hget b M e, hget b' M' e']; exact S.apart b b' M M' hne e e'

/-- between two steps of a drawn order -/
structure Inv (P : Program) (X : Cx) (L : List Oper) (e0 : AEnv) (D : Nat → Prop) (done wr : List Nat) (R : AEnv) (pend : List Pd) (A : List (Nat × Nat)) (s : St) (j : Inj) (a : Act) (cs : List Frame) (w : World) : Prop where
  ws : effs P L = done ++ wr
  closed : ∀ (i : Nat) (o : Oper), L[i]? = some o → D i → ∀ e ∈ o.after.toList, Region.binds .any e = true → D e.on
  eff : ∀ x ∈ effs P L, D x ↔ x ∈ done
  floatR : ∀ (i : Nat) (o : Oper), L[i]? = some o → isEff P o = false → loOf (masks L []) (effs P L) i ≤ done.length → ∃ v, R.get i = some v
  fact : ∀ (i : Nat) (o : Oper), L[i]? = some o → isEff P o = false → loOf (masks L []) (effs P L) i ≤ done.length → ¬ D i →
    ∃ v ρ, Fact P X.gs L (masks L []) (effs P L) e0 done.length R pend A s.h i o v ρ
  doneR : ∀ x ∈ done, ∃ v, R.get x = some v
  domR : ∀ i v, R.get i = some v → i ∈ done ∨ ∃ o, L[i]? = some o ∧ isEff P o = false ∧ loOf (masks L []) (effs P L) i ≤ done.length
  ids : ∀ p ∈ A, ¬ D p.1 → j p.2 = none ∧ X.h0.length ≤ p.2 ∧ p.2 < s.h.length
  inj : ∀ p ∈ A, ∀ q ∈ A, p.2 = q.2 → p = q
  vals : ∀ (i : Nat) (o : Oper) (v : Value), D i → L[i]? = some o → R.get i = some v → ∀ d, o.dst = some d → ∃ v', a.tmps[d]? = some v' ∧ VR j v v'
  rest : ∀ t v, e0.get t = some v → (∀ (i : Nat) (o : Oper), D i → L[i]? = some o → o.dst ≠ some t) → ∃ v', a.tmps[t]? = some v' ∧ VR j v v'
  size : a.tmps.size = X.n
  rel : RelM X j s a.defers cs w
  env : s.e = e0

section
variable {X : Cx} {L : List Oper} {e0 : AEnv} {D : Nat → Prop} {done wr : List Nat} {R : AEnv} {pend : List Pd} {A : List (Nat × Nat)} {s : St} {j : Inj} {a : Act} {cs : List Frame} {w : World}

theorem Inv.bit (T : Tame P X.n L) (I : Inv P X L e0 D done wr R pend A s j a cs w) {i : Nat} {o : Oper} (ho : L[i]? = some o) (hp : ∀ e ∈ o.after.toList, Region.binds .any e = true → D e.on) {k : Nat}
    (hb : bitAt (masks L []) i k = true) : D k := closed_bit T.back I.closed i o k ho hp hb

theorem Inv.lo (T : Tame P X.n L) (I : Inv P X L e0 D done wr R pend A s j a cs w) (hnd : (effs P L).Nodup) {i : Nat} {o : Oper} (ho : L[i]? = some o) (hp : ∀ e ∈ o.after.toList, Region.binds .any e = true → D e.on) :
    loOf (masks L []) (effs P L) i ≤ done.length := by
  unfold loOf
  rw [I.ws]
  refine filter_prefix_le _ _ _ fun x hx => ?_
  cases hb : bitAt (masks L []) i x with
  | false => rfl
  | true =>
    exfalso
    have hD := I.bit T ho hp hb
    have hxw : x ∈ effs P L := by rw [I.ws]; exact List.mem_append_right _ hx
    have := (I.eff x hxw).1 hD
    rw [I.ws] at hnd
    exact (List.nodup_append.1 hnd).2.2 x this x hx rfl

/-- the operands of an operation that may be done now -/
theorem Inv.operands (T : Tame P X.n L) (I : Inv P X L e0 D done wr R pend A s j a cs w) {i : Nat} {o : Oper} (ho : L[i]? = some o) (hni : ¬ D i) (hp : ∀ e ∈ o.after.toList, Region.binds .any e = true → D e.on) :
    RR j (evF X.gs L (masks L []) e0 R i (opReads o.op)) a.eval := by
  intro x v hx
  cases x with
  | tmp t =>
    simp only [evF] at hx
    cases hc : (opReads o.op).contains t with
    | false => rw [hc] at hx; simp at hx
    | true =>
      rw [hc] at hx
      simp only [cond_true] at hx
      have ht : t ∈ opReads o.op := by simpa using hc
      have key : ∃ v', a.tmps[t]? = some v' ∧ VR j v v' := by
        cases hs : srcOf (masks L []) i t L 0 with
        | some k =>
          rw [hs] at hx
          simp only at hx
          obtain ⟨ok, h1, _, h2, h3⟩ := srcOf_some hs
          exact I.vals k ok v (I.bit T ho hp h3) (by simpa using h1) hx t h2
        | none =>
          rw [hs] at hx
          simp only at hx
          refine I.rest t v hx fun k ok hk hok hd => ?_
          have hki : k ≠ i := fun e => hni (e ▸ hk)
          rcases T.reads i o ho t ht k ok hki hok hd with hb | hb
          · have := srcOf_none hs k ok hok hd
            rw [Nat.zero_add] at this
            rw [this] at hb; simp at hb
          · exact hni (I.bit T hok (I.closed k ok hok hk) hb)
      obtain ⟨v', h1, h2⟩ := key
      simpa [Act.eval, Array.getD_eq_getD_getElem?, h1] using h2
  | const c =>
    have hx' : ev X.gs [] (.const c) = some v := hx
    simp only [ev] at hx'
    split at hx'
    · rename_i hf; injection hx' with hx'; subst hx'; exact (flatB_flat hf).vr j
    · simp at hx'
  | global g =>
    have hx' : ev X.gs [] (.global g) = some v := hx
    simp only [ev] at hx'
    split at hx'
    · rename_i hgg
      injection hx' with hx'; subst hx'
      obtain ⟨Lc, h1, h2, h3⟩ := I.rel.glob g (by simpa using hgg)
      have := VR.ptr (j := j) (o := 0) h1
      rw [h2, h3] at this
      exact this
    · simp at hx'
  | func f =>
    have hx' : ev X.gs [] (.func f) = some v := hx
    simp only [ev] at hx'
    injection hx' with hx'; subst hx'
    exact .func f rfl (by simp) rfl (by simp)

theorem Inv.guard (T : Tame P X.n L) (I : Inv P X L e0 D done wr R pend A s j a cs w) {ops : Array Oper} (hops : ops.toList = L) {i : Nat} {o : Oper} (ho : L[i]? = some o) (hp : ∀ e ∈ o.after.toList, Region.binds .any e = true → D e.on)
    {g : Nat} {want b : Bool} (hg : o.guard = some (g, want)) (hb : R.get g = some (.bool b)) : Region.wanted o (yielded ops a.tmps) = (b == want) := by
  obtain ⟨h1, og, d, h2, h3⟩ := T.guards i o ho g want hg
  obtain ⟨v', h4, h5⟩ := I.vals g og _ (I.bit T ho hp h1) h2 hb d h3
  have hog : ops[g]? = some og := by rw [← Array.getElem?_toList, hops]; exact h2
  cases h5
  simp [Region.wanted, hg, yielded, hog, h3, h4]

theorem Inv.guardOff (T : Tame P X.n L) (I : Inv P X L e0 D done wr R pend A s j a cs w) {ops : Array Oper} (hops : ops.toList = L) {i : Nat} {o : Oper} (ho : L[i]? = some o) (hp : ∀ e ∈ o.after.toList, Region.binds .any e = true → D e.on)
    {g : Nat} {want : Bool} {u : Value} (hg : o.guard = some (g, want)) (hb : R.get g = some u) (hu : offG u want) : Region.wanted o (yielded ops a.tmps) = false := by
  rcases hu with ⟨b, rfl, hbw⟩ | ⟨x, rfl⟩
  · rw [I.guard T hops ho hp hg hb]
    cases b <;> cases want <;> simp_all
  · obtain ⟨h1, og, d, h2, h3⟩ := T.guards i o ho g want hg
    obtain ⟨v', h4, h5⟩ := I.vals g og _ (I.bit T ho hp h1) h2 hb d h3
    have hog : ops[g]? = some og := by rw [← Array.getElem?_toList, hops]; exact h2
    cases h5
    simp [Region.wanted, hg, yielded, hog, h3, h4]

/-- the state behind a step that floats -/
theorem Inv.floated (T : Tame P X.n L) (I : Inv P X L e0 D done wr R pend A s j a cs w) {i : Nat} {o : Oper} (ho : L[i]? = some o) (hne : isEff P o = false) (hni : ¬ D i) (hp : ∀ e ∈ o.after.toList, Region.binds .any e = true → D e.on)
    {v v' : Value} (hv : R.get i = some v) {j' : Inj} {w' : World} (hj : j.le j') (hvv : VR j' v v') (hrel : RelM X j' s a.defers cs w') (hids : ∀ p ∈ A, ¬ D p.1 → p.1 ≠ i → j' p.2 = none) :
    Inv P X L e0 (fun x => x = i ∨ D x) done wr R pend A s j' (a.put o.dst v') cs w' := by
  have hput : ∀ t v0, (∃ u, a.tmps[t]? = some u ∧ VR j v0 u) → o.dst ≠ some t → ∃ u, (a.put o.dst v').tmps[t]? = some u ∧ VR j' v0 u := by
    rintro t v0 ⟨u, h1, h2⟩ hd
    refine ⟨u, ?_, h2.mono hj⟩
    cases hdst : o.dst with
    | none => simpa [Act.put] using h1
    | some d =>
      have : d ≠ t := by intro e; subst e; exact hd hdst
      simp [Act.put, this, h1]
  refine ⟨I.ws, ?_, ?_, I.floatR, ?_, I.doneR, I.domR, ?_, I.inj, ?_, ?_, ?_, ?_, I.env⟩
  · intro x ox hx hD e he hbd
    rcases hD with rfl | hD
    · rw [ho] at hx; injection hx with hx; subst hx; exact .inr (hp e he hbd)
    · exact .inr (I.closed x ox hx hD e he hbd)
  · intro x hx
    constructor
    · rintro (rfl | hD)
      · obtain ⟨o', h1, h2⟩ := mem_effs.1 hx
        rw [ho] at h1; injection h1 with h1; subst h1; rw [hne] at h2; simp at h2
      · exact (I.eff x hx).1 hD
    · intro hd; exact .inr ((I.eff x hx).2 hd)
  · intro x ox hx h1 h2 h3
    exact I.fact x ox hx h1 h2 (fun h => h3 (.inr h))
  · intro p hpm hnd
    have hD : ¬ D p.1 := fun h => hnd (.inr h)
    have := I.ids p hpm hD
    exact ⟨hids p hpm hD (fun e => hnd (.inl e)), this.2⟩
  · intro x ox u hD hx hu d hd
    by_cases hxi : x = i
    · subst hxi
      rw [ho] at hx; injection hx with hx; subst hx
      rw [hv] at hu; injection hu with hu; subst hu
      have hdn : d < X.n := T.small d (List.mem_filterMap.2 ⟨o, List.mem_of_getElem? ho, hd⟩)
      refine ⟨v', ?_, hvv⟩
      simp [Act.put, hd, I.size, hdn]
    · have hD' : D x := by rcases hD with h | h; exact absurd h hxi; exact h
      refine hput d u (I.vals x ox u hD' hx hu d hd) fun he => hxi ?_
      exact dst_unique T.nodup hx ho hd he
  · intro t u hu hno
    refine hput t u (I.rest t u hu fun x ox hx hox => hno x ox (.inr hx) hox) (hno i o (.inl rfl) ho)
  · cases hdst : o.dst with
    | none => simpa [Act.put] using I.size
    | some d => simpa [Act.put] using I.size
  · have : (a.put o.dst v').defers = a.defers := by cases o.dst <;> rfl
    rw [this]; exact hrel

/-- what floats and has been done in the eager order goes the same way now -/
theorem Inv.float_step (T : Tame P X.n L) (I : Inv P X L e0 D done wr R pend A s j a cs w) (hnd : (effs P L).Nodup) {ops : Array Oper} (hops : ops.toList = L) {i : Nat} {o : Oper} (ho : L[i]? = some o) (hne : isEff P o = false)
    (hni : ¬ D i) (hp : ∀ e ∈ o.after.toList, Region.binds .any e = true → D e.on) {rest : List Nat} {k : List Item} {G : Machine → Prop}
    (hgo : ∀ j' a' w', Inv P X L e0 (fun x => x = i ∨ D x) done wr R pend A s j' a' cs w' → Ends P G (lone (Fm.mk X.b a' (.inRegion ops rest :: k)) cs w')) :
    Ends P G (lone (Fm.mk X.b a (.inRegion ops (i :: rest) :: k)) cs w) := by
  have hio : ops[i]? = some o := by rw [← Array.getElem?_toList, hops]; exact ho
  obtain ⟨v, ρ, hf⟩ := I.fact i o ho hne (I.lo T hnd ho hp) hni
  have hops' := I.operands T ho hni hp
  have hr : RR j ρ a.eval := fun x u hx => hops' x u (hf.sub x u hx)
  have hnd' : ∀ c, o.op ≠ .defer c := by
    intro c hc; simp [isEff, hc, cls] at hne
  rcases hf.how with ⟨g, want, u, h1, h2, h3, h4⟩ | ⟨h1, h2⟩
  · subst h4
    have hw' : Region.wanted o (yielded ops a.tmps) = false := I.guardOff T hops ho hp h1 h2 h3
    have hstep := st_opSkip (P := P) (b := X.b) (a := a) (k := k) (cs := cs) (w := w) (ops := ops) (i := i) (rest := rest) (by rw [hio]; simpa using hw')
    rw [hio] at hstep
    simp only [Option.bind_some] at hstep
    refine .step hstep (hgo j _ w (I.floated T ho hne hni hp hf.get (j' := j) (v' := undef) j.le_refl (VR.tuple' .nil) I.rel fun p hpm hD _ => (I.ids p hpm hD).1))
  · have hw : Region.wanted o (yielded ops a.tmps) = true := by
      rcases h1 with h1 | ⟨g, want, h1, h3⟩
      · simp [Region.wanted, h1]
      · rw [I.guard T hops ho hp h1 h3]; simp
    rcases h2 with h2 | ⟨h2, _⟩ | ⟨id, ob, hA, h2, h3, _⟩
    · obtain ⟨v', q1, q2⟩ := aPure_sim hr o h2
      exact .step (st_value hio hw (.inr hnd') (q2 w) rfl) (hgo j _ w (I.floated T ho hne hni hp hf.get j.le_refl q1 I.rel fun p hpm hD _ => (I.ids p hpm hD).1))
    · obtain ⟨v', q1, q2⟩ := aRead_sim I.rel.sim hr o h2
      exact .step (st_value hio hw (.inr hnd') q2 rfl) (hgo j _ w (I.floated T ho hne hni hp hf.get j.le_refl q1 I.rel fun p hpm hD _ => (I.ids p hpm hD).1))
    · obtain ⟨v', w', q1, hIo, Lc, x, q2, q3, q4, q5⟩ := aAlloc_sim hr o h2 w
      obtain ⟨i1, i2, i3⟩ := I.ids (i, id) hA hni
      simp only at i1 i2 i3
      have hle : j.le (j.put id Lc) := Inj.put_le i1
      have S' := I.rel.sim.adopt h3 i1 q3 hIo q2 (q4 _ hle)
      have hext : j.ext X.h0.length (j.put id Lc) := Inj.put_ext i1 i2
      have hrel : RelM X (j.put id Lc) s a.defers cs w' :=
        ⟨S', I.rel.ds.mono hle, I.rel.um.mono hle, I.rel.callers, I.rel.norm, I.rel.glob.mono hle, Inj.ext_trans I.rel.ext (Nat.le_refl _) hext, I.rel.len⟩
      refine .step (st_value hio hw (.inr hnd') q1 rfl) (hgo _ _ w' (I.floated T ho hne hni hp hf.get hle (q5 _ hle (Inj.put_same _ _ _)) hrel fun p hpm hD hpi => ?_))
      have hpid : p.2 ≠ id := by
        intro e
        have := I.inj p hpm (i, id) hA e
        rw [this] at hpi; exact hpi rfl
      unfold Inj.put; rw [if_neg hpid]; exact (I.ids p hpm hD).1

/-- the state behind an effect, once what floats behind it has been done in the eager order -/
theorem Inv.effected (T : Tame P X.n L) {wd : Nat} (I : Inv P X L e0 D done (wd :: wr) R pend A s j a cs w) (hnd : (effs P L).Nodup) {o : Oper} (ho : L[wd]? = some o) (hie : isEff P o = true) (hni : ¬ D wd)
    (hp : ∀ e ∈ o.after.toList, Region.binds .any e = true → D e.on) {v v' : Value} {s1 s2 : St} {j' : Inj} {df' : List Deferred} {cs' : List Frame} {w' : World} {R' : AEnv} {pend' : List Pd} {A' : List (Nat × Nat)}
    (hext : j.ext s.h.length j') (hlen : s.h.length ≤ s1.h.length) (hrel : RelM X j' s1 df' cs' w') (he1 : s1.e = s.e) (hvv : VR j' v v')
    (hchk : ∀ pd ∈ pend, done.length + 1 ≤ pd.hi → pd.chk s1.h)
    (hF : Floated P X.gs L (masks L []) (effs P L) e0 (done.length + 1) (floatsAt P L (masks L []) (effs P L) (done.length + 1)) ((wd, v) :: R) pend s1 R' pend' s2 A') :
    Inv P X L e0 (fun x => x = wd ∨ D x) (done ++ [wd]) wr R' pend' (A.filter (fun p => p.2 < s.h.length) ++ A') s2 j' (Act.put ⟨a.tmps, df'⟩ o.dst v') cs' w' := by
  have hwn : R.get wd = none := by
    cases hq : R.get wd with
    | none => rfl
    | some u =>
      exfalso
      rcases I.domR wd u hq with h | ⟨o', h1, h2, _⟩
      · exact hni ((I.eff wd (by rw [I.ws]; simp)).2 h)
      · rw [ho] at h1; injection h1 with h1; subst h1; rw [hie] at h2; simp at h2
  have hsub : Sub R R' := (Sub.cons hwn).trans hF.sub
  have hRw : R'.get wd = some v := hF.sub wd v (by rw [AEnv.get_cons]; simp)
  have hdl : (done ++ [wd]).length = done.length + 1 := by simp
  obtain ⟨t2, ht2⟩ := hF.h
  -- what still floats is not before what has been done
  have hhi : ∀ i, ¬ (i = wd ∨ D i) → done.length + 1 ≤ hiOf (masks L []) (effs P L) i := by
    intro i hi
    unfold hiOf
    rw [I.ws, show done ++ wd :: wr = (done ++ [wd]) ++ wr by simp, ← hdl]
    refine filter_prefix_ge _ _ _ fun x hx => ?_
    simp only [Bool.not_eq_true']
    cases hb : bitAt (masks L []) x i with
    | false => rfl
    | true =>
      exfalso
      rcases List.mem_append.1 hx with hx | hx
      · have hxw : x ∈ effs P L := by rw [I.ws]; exact List.mem_append_left _ hx
        have hDx := (I.eff x hxw).2 hx
        obtain ⟨ox, q1, _⟩ := mem_effs.1 hxw
        exact hi (.inr (I.bit T q1 (I.closed x ox q1 hDx) hb))
      · simp at hx; subst hx
        exact hi (.inr (I.bit T ho hp hb))
  have hput : ∀ t v0, (∃ u, a.tmps[t]? = some u ∧ VR j v0 u) → o.dst ≠ some t → ∃ u, (Act.put ⟨a.tmps, df'⟩ o.dst v').tmps[t]? = some u ∧ VR j' v0 u := by
    rintro t v0 ⟨u, h1, h2⟩ hd
    refine ⟨u, ?_, h2.mono hext.1⟩
    cases hdst : o.dst with
    | none => simpa [Act.put] using h1
    | some d =>
      have : d ≠ t := by intro e; subst e; exact hd hdst
      simp [Act.put, this, h1]
  have heff : ∀ x ∈ effs P L, (x = wd ∨ D x) ↔ x ∈ done ++ [wd] := by
    intro x hx
    rw [List.mem_append, List.mem_singleton, I.eff x hx]
    exact ⟨fun h => h.symm, fun h => h.symm⟩
  refine ⟨by rw [I.ws]; simp, ?_, heff, ?_, ?_, ?_, ?_, ?_, ?_, ?_, ?_, ?_, ?_, ?_⟩
  · intro x ox hx hD e he hbd
    rcases hD with rfl | hD
    · rw [ho] at hx; injection hx with hx; subst hx; exact .inr (hp e he hbd)
    · exact .inr (I.closed x ox hx hD e he hbd)
  · intro x ox hx h1 h2
    rw [hdl] at h2
    rcases Nat.lt_or_ge done.length (loOf (masks L []) (effs P L) x) with hlt | hge
    · obtain ⟨ox', v0, ρ, q1, q2⟩ := hF.facts x (mem_floatsAt.2 ⟨ox, hx, h1, by omega⟩)
      exact ⟨v0, q2.get⟩
    · obtain ⟨v0, q⟩ := I.floatR x ox hx h1 hge
      exact ⟨v0, hsub _ _ q⟩
  · intro x ox hx h1 h2 h3
    rw [hdl] at h2 ⊢
    rcases Nat.lt_or_ge done.length (loOf (masks L []) (effs P L) x) with hlt | hge
    · obtain ⟨ox', v0, ρ, q1, q2⟩ := hF.facts x (mem_floatsAt.2 ⟨ox, hx, h1, by omega⟩)
      rw [hx] at q1; injection q1 with q1; subst q1
      have := q2.mono (t := []) (fun _ _ h => h) (fun _ h => h) (fun p hp => List.mem_append_right (A.filter (fun p => p.2 < s.h.length)) hp)
      exact ⟨v0, ρ, by simpa using this⟩
    · have hDx : ¬ D x := fun h => h3 (.inr h)
      obtain ⟨v0, ρ, q⟩ := I.fact x ox hx h1 hge hDx
      have hh := hhi x h3
      refine ⟨v0, ρ, ?_⟩
      -- the same fact behind the effect
      have q' : Fact P X.gs L (masks L []) (effs P L) e0 (done.length + 1) R pend (A.filter (fun p => p.2 < s.h.length)) s1.h x ox v0 ρ := by
        refine ⟨q.get, q.sub, ?_⟩
        rcases q.how with h | ⟨h, h'⟩
        · exact .inl h
        · refine .inr ⟨h, ?_⟩
          rcases h' with h' | ⟨h', h''⟩ | ⟨id, ob, g1, g2, g3, g4⟩
          · exact .inl h'
          · rcases h'' with h'' | ⟨pd, p1, p2, p3⟩
            · omega
            · exact .inr (.inl ⟨p3 _ (hchk pd p1 (by omega)), .inr ⟨pd, p1, p2, p3⟩⟩)
          · rcases g4 with g4 | ⟨pd, p1, p2, p3⟩
            · omega
            · have := (I.ids (x, id) g1 hDx).2.2
              refine .inr (.inr ⟨id, ob, List.mem_filter.2 ⟨g1, by simpa using this⟩, g2, p3 _ (hchk pd p1 (by omega)), .inr ⟨pd, p1, p2, p3⟩⟩)
      rw [ht2]
      exact q'.mono hsub hF.pend (fun p hp => List.mem_append_left _ hp)
  · intro x hx
    rcases List.mem_append.1 hx with hx | hx
    · obtain ⟨u, hu⟩ := I.doneR x hx; exact ⟨u, hsub _ _ hu⟩
    · simp at hx; subst hx; exact ⟨v, hRw⟩
  · intro x u hu
    rw [hdl]
    rcases hF.dom x u hu with ⟨u', hu'⟩ | hm
    · rw [AEnv.get_cons] at hu'
      split at hu'
      · rename_i e; subst e; left; simp
      · rcases I.domR x u' hu' with h | ⟨ox, h1, h2, h3⟩
        · left; exact List.mem_append_left _ h
        · right; exact ⟨ox, h1, h2, by omega⟩
    · obtain ⟨ox, h1, h2, h3⟩ := mem_floatsAt.1 hm
      right; exact ⟨ox, h1, h2, by omega⟩
  · intro p hpm hnD
    have hs2 : s1.h.length ≤ s2.h.length := by rw [ht2]; simp
    have hD : ¬ D p.1 := fun h => hnD (.inr h)
    rcases List.mem_append.1 hpm with hpm | hpm
    · have hpA := (List.mem_filter.1 hpm).1
      have := I.ids p hpA hD
      exact ⟨by rw [hext.2 p.2 this.2.2]; exact this.1, this.2.1, by omega⟩
    · have := hF.ids p hpm
      refine ⟨?_, by have := I.rel.len; omega, this.2⟩
      cases hj : j' p.2 with
      | none => rfl
      | some Lc => have := hrel.sim.dom _ _ hj; omega
  · intro p hp1 q hq1 hpq
    rcases List.mem_append.1 hp1 with hp1 | hp1
    · have hpl : p.2 < s.h.length := by simpa using (List.mem_filter.1 hp1).2
      rcases List.mem_append.1 hq1 with hq1 | hq1
      · exact I.inj p (List.mem_filter.1 hp1).1 q (List.mem_filter.1 hq1).1 hpq
      · have := hF.ids q hq1; omega
    · rcases List.mem_append.1 hq1 with hq1 | hq1
      · have hql : q.2 < s.h.length := by simpa using (List.mem_filter.1 hq1).2
        have := hF.ids p hp1; omega
      · exact hF.inj p hp1 q hq1 hpq
  · intro x ox u hD hx hu d hd
    by_cases hxi : x = wd
    · subst hxi
      rw [ho] at hx; injection hx with hx; subst hx
      rw [hRw] at hu; injection hu with hu; subst hu
      have hdn : d < X.n := T.small d (List.mem_filterMap.2 ⟨o, List.mem_of_getElem? ho, hd⟩)
      refine ⟨v', ?_, hvv⟩
      simp [Act.put, hd, I.size, hdn]
    · have hD' : D x := by rcases hD with h | h; exact absurd h hxi; exact h
      -- it was known before
      have hRx : R.get x = some u := by
        by_cases hie' : isEff P ox = true
        · obtain ⟨u', hu'⟩ := I.doneR x ((I.eff x (mem_effs.2 ⟨ox, hx, hie'⟩)).1 hD')
          have := hsub _ _ hu'; rw [hu] at this; injection this with this; rw [this]; exact hu'
        · have hne : isEff P ox = false := by simpa using hie'
          obtain ⟨u', hu'⟩ := I.floatR x ox hx hne (I.lo T hnd hx (I.closed x ox hx hD'))
          have := hsub _ _ hu'; rw [hu] at this; injection this with this; rw [this]; exact hu'
      refine hput d u (I.vals x ox u hD' hx hRx d hd) fun he => hxi ?_
      exact dst_unique T.nodup hx ho hd he
  · intro t u hu hno
    exact hput t u (I.rest t u hu fun x ox hx hox => hno x ox (.inr hx) hox) (hno wd o (.inl rfl) ho)
  · cases hdst : o.dst with
    | none => simpa [Act.put] using I.size
    | some d => simpa [Act.put] using I.size
  · have : (Act.put ⟨a.tmps, df'⟩ o.dst v').defers = df' := by cases o.dst <;> rfl
    rw [this]
    refine ⟨?_, ?_, ?_, hrel.callers, ?_, hrel.glob, hrel.ext, ?_⟩
    · rw [ht2]
      exact Sim.more hrel.sim t2
    · rw [hF.ds]; exact hrel.ds
    · rw [hF.u]; exact hrel.um
    · rw [hF.u]; exact hrel.norm
    · rw [ht2]; have := hrel.len; simp; omega
  · rw [hF.e, he1, I.env]

end
end Go.Fm
