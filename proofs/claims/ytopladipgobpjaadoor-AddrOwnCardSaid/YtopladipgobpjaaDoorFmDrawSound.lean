/-
  FmDrawSound: the eager order speaks for every order that may be drawn.
-/
import Derived.Test.YtopladipgobpjaaDoorFmDraw
namespace Go.Fm

variable {P : Program}

/-! ## reads and new blocks -/

theorem app_get {h : AHeap} {b : Nat} {o : AObj} (hb : h[b]? = some o) (t : List AObj) : (h ++ t)[b]? = some o := by
  rw [List.getElem?_append_left (List.getElem?_eq_some_iff.1 hb).1]; exact hb

theorem aCells_app {h : AHeap} {a : Addr} {n : Nat} {l : List Value} (e : aCells h a n = some l) (t : List AObj) : aCells (h ++ t) a n = some l := by
  unfold aCells at e ⊢
  split at e
  · simp at e
  · rename_i hs
    rw [if_neg hs]
    split at e
    · rename_i c ro hc; rw [app_get hc t]; exact e
    · rename_i c ro hc; rw [app_get hc t]; exact e
    · simp at e

theorem aCell_app {h : AHeap} {a : Addr} {v : Value} (e : aCell h a = some v) (t : List AObj) : aCell (h ++ t) a = some v := by
  unfold aCell at e ⊢
  split at e
  · simp at e
  · rename_i hs
    rw [if_neg hs]
    split at e
    · rename_i c ro hc; rw [app_get hc t]; exact e
    · rename_i c ro hc; rw [app_get hc t]; exact e
    · simp at e

theorem aEntries_app {h : AHeap} {m : Value} {es : List MapEntry} (e : aEntries m h = some es) (t : List AObj) : aEntries m (h ++ t) = some es := by
  unfold aEntries at e ⊢
  split at e
  · exact e
  · split at e
    · rename_i es0 c hc; simp only [app_get hc t]; exact e
    · simp at e
  · simp at e

theorem aPlaceOk_app {h : AHeap} {b o : Nat} {t0 : TypeId} (e : aPlaceOk P b o t0 h = true) (t : List AObj) : aPlaceOk P b o t0 (h ++ t) = true := by
  unfold aPlaceOk at e ⊢
  split at e
  · rename_i c ro n hc hs; simp only [app_get hc t, hs]; exact e
  · rename_i c ty z n hc hs; simp only [app_get hc t, hs]; exact e
  · simp at e

theorem aRead_app {h : AHeap} {ρ : Operand → Option Value} {op : Op} {v : Value} (e : aRead P ρ h op = some v) (t : List AObj) : aRead P ρ (h ++ t) op = some v := by
  unfold aRead at e ⊢
  split at e
  · obtain ⟨a, ha, e⟩ := bind_some' e
    rw [ha, Option.bind_some]
    unfold aLoad at e ⊢
    split at e
    · split at e
      · obtain ⟨m, hm, e⟩ := bind_some' e
        rw [hm, Option.bind_some]
        obtain ⟨l, hl, e2⟩ := Option.map_eq_some_iff.1 e
        rw [aCells_app hl t]; simpa using e2
      · exact aCell_app e t
      · simp at e
    · simp at e
  · obtain ⟨a, ha, e⟩ := bind_some' e
    obtain ⟨k, hk, e⟩ := bind_some' e
    rw [ha, hk, Option.bind_some, Option.bind_some]
    unfold aLookup at e ⊢
    split at e
    · obtain ⟨es, hes, e⟩ := bind_some' e
      rw [aEntries_app hes t, Option.bind_some]; exact e
    · simp at e
  · obtain ⟨a, ha, e⟩ := bind_some' e
    rw [ha, Option.bind_some]
    unfold aConvRead at e ⊢
    split at e
    · split at e
      · exact e
      · split at e
        · rename_i hok; rw [if_pos (aPlaceOk_app hok t)]; exact e
        · simp at e
      · simp at e
    · split at e
      · exact e
      · split at e
        · rename_i c ty z n hc hs; simp only [app_get hc t, hs]; exact e
        · simp at e
      · simp at e
    · split at e
      · obtain ⟨l, hl, e⟩ := bind_some' e
        have : ∀ {v : Value} {n : Nat} {l : List Value}, aView 1 v n h = some l → aView 1 v n (h ++ t) = some l := by
          intro v n l hv
          unfold aView at hv ⊢
          split at hv
          · split at hv
            · rename_i hz; rw [if_pos hz]; exact hv
            · rename_i hz; rw [if_neg hz]
              split at hv
              · rename_i hle; rw [if_pos hle]; exact aCells_app hv t
              · simp at hv
          · exact hv
          · simp at hv
        rw [this hl, Option.bind_some]; exact e
      · simp at e
    · simp at e
  · split at e
    · obtain ⟨a, ha, e⟩ := bind_some' e
      rw [ha, Option.bind_some]
      unfold aLenMap at e ⊢
      split at e
      · obtain ⟨es, hes, e2⟩ := Option.map_eq_some_iff.1 e
        rw [aEntries_app hes t]; simpa using e2
      · simp at e
    · simp at e
  · simp at e

/-- a block that the machine makes late stands for an object that was there -/
theorem Sim.adopt {F : Nat → Nat → Prop} {w0 w w' : World} {j : Inj} {h : AHeap} (S : Sim F w0 j h w) {id : Nat} {ob : AObj} (hid : h[id]? = some ob) (hn : j id = none) {L : Loc}
    (hL : L.blk = w.heap.size) {x : Obj} (hio : Io w w') (hw : w'.heap = w.heap.push x) (ho : ObjR (j.put id L) L w' (some ob)) : Sim F w0 (j.put id L) h w' := by
  have hle : j.le (j.put id L) := Inj.put_le hn
  have hget : ∀ B, B < w.heap.size → w'.heap[B]? = w.heap[B]? := by
    intro B hB; rw [hw, Array.getElem?_push]; simp; omega
  have hput : ∀ b M, j.put id L b = some M → (b = id ∧ M = L) ∨ (b ≠ id ∧ j b = some M) := by
    intro b M e; unfold Inj.put at e; split at e
    · injection e with e; exact .inl ⟨‹_›, e.symm⟩
    · exact .inr ⟨‹_›, e⟩
  have hnewown : ∀ B y, owns L (some ob) B y → B = w.heap.size := by
    intro B y h'; unfold owns at h'; split at h'
    · exact h'.1.trans hL
    · rw [h', hL]
    · rw [h', hL]
    · rw [h', hL]
    · rw [h', hL]
    · rw [h', hL]
    · exact h'.elim
  refine ⟨S.io.trans hio, by rw [hw]; have := S.size; simp; omega, ?_, S.below, ?_, ?_, ?_, ?_⟩
  · intro B y hF
    have hB := S.below B y hF
    have hs := S.size
    have := S.kept B y hF
    unfold keptAt at this ⊢
    rw [hget B (by omega)]; exact this
  · intro b M e
    rcases hput b M e with ⟨rfl, _⟩ | ⟨_, hj⟩
    · exact (List.getElem?_eq_some_iff.1 hid).1
    · exact S.dom _ _ hj
  · intro b M e
    rcases hput b M e with ⟨rfl, rfl⟩ | ⟨_, hj⟩
    · rw [hid]; exact ho
    · have hob := S.obj _ _ hj
      revert hob; generalize h[b]? = o2; intro hob
      have key : ∀ {y : Obj}, w.heap[M.blk]? = some y → w'.heap[M.blk]? = w.heap[M.blk]? := fun h => hget _ (Array.getElem?_eq_some_iff.1 h).1
      match o2, hob with
      | some (.cells c2 ro2), ⟨d2, T2, f2, k1, k⟩ => exact ObjR.mono hle (ObjR.world (o := some (.cells c2 ro2)) (key k1) ⟨d2, T2, f2, k1, k⟩)
      | some (.tcells c2 t2 z2), ⟨d2, f2, k1, k⟩ => exact ObjR.mono hle (ObjR.world (o := some (.tcells c2 t2 z2)) (key k1) ⟨d2, f2, k1, k⟩)
      | some (.map es clock), ⟨es', k1, k⟩ => exact ObjR.mono hle (ObjR.world (o := some (.map es clock)) (key k1) ⟨es', k1, k⟩)
      | some (.mapIter _ _ _ _), ⟨k0, m', k1, k⟩ => exact ObjR.mono hle (ObjR.world (o := some (.mapIter _ _ _ _)) (key k1) ⟨k0, m', k1, k⟩)
      | some (.strIter _ _), ⟨k0, k1⟩ => exact ObjR.mono hle (ObjR.world (o := some (.strIter _ _)) (key k1) ⟨k0, k1⟩)
      | some (.spec x), ⟨k0, y, k1, k2⟩ => exact ObjR.mono hle (ObjR.world (o := some (.spec x)) (key k1) ⟨k0, y, k1, k2⟩)
      | some .dead, _ => trivial
      | none, hob => exact hob.elim
  · intro b M e hr B y hx hF
    have hB := S.below B y hF
    have hs := S.size
    rcases hput b M e with ⟨rfl, rfl⟩ | ⟨_, hj⟩
    · rw [hid] at hx
      have := hnewown B y hx; omega
    · exact S.own b M hj hr B y hx hF
  · intro b1 b2 L1 L2 hne e1 e2 hr B y h1 h2
    rcases hput b1 L1 e1 with ⟨rfl, rfl⟩ | ⟨hb1, hj1⟩
    · rcases hput b2 L2 e2 with ⟨rfl, rfl⟩ | ⟨hb2, hj2⟩
      · exact hne rfl
      · rw [hid] at h1
        have := hnewown B y h1
        have := (S.obj _ _ hj2).lt B y h2
        omega
    · rcases hput b2 L2 e2 with ⟨rfl, rfl⟩ | ⟨hb2, hj2⟩
      · rw [hid] at h2
        have := hnewown B y h2
        have := (S.obj _ _ hj1).lt B y h1
        omega
      · exact S.apart b1 b2 L1 L2 hne hj1 hj2 hr B y h1 h2

/-! ## what floats, once it has been done in the eager order -/

section
variable (P) (gs : List Nat) (L : List Oper) (ms ws : List Nat) (e0 : AEnv)

structure Fact (st : Nat) (R : AEnv) (pend : List Pd) (A : List (Nat × Nat)) (h : AHeap) (i : Nat) (o : Oper) (v : Value) (ρ : Operand → Option Value) : Prop where
  get : R.get i = some v
  sub : ∀ x u, ρ x = some u → evF gs L ms e0 R i (opReads o.op) x = some u
  how : (∃ g want u, o.guard = some (g, want) ∧ R.get g = some u ∧ offG u want ∧ v = undefV) ∨
    ((o.guard = none ∨ ∃ g want, o.guard = some (g, want) ∧ R.get g = some (.bool want)) ∧
      (aPure P ρ o.op = some v ∨
       (aRead P ρ h o.op = some v ∧ (hiOf ms ws i ≤ st ∨ ∃ pd ∈ pend, pd.hi = hiOf ms ws i ∧ ∀ h', pd.chk h' → aRead P ρ h' o.op = some v)) ∨
       (∃ id ob, (i, id) ∈ A ∧ aAlloc P ρ id o.op = some (ob, v) ∧ h[id]? = some ob ∧ (hiOf ms ws i ≤ st ∨ ∃ pd ∈ pend, pd.hi = hiOf ms ws i ∧ ∀ h', pd.chk h' → h'[id]? = some ob))))

def Sub (R R' : AEnv) : Prop := ∀ k v, R.get k = some v → R'.get k = some v

theorem evF_sub {R R' : AEnv} (h : Sub R R') {i : Nat} {rs : List Nat} {x : Operand} {u : Value} (e : evF gs L ms e0 R i rs x = some u) : evF gs L ms e0 R' i rs x = some u := by
  cases x with
  | tmp t =>
    simp only [evF] at e ⊢
    cases hc : rs.contains t with
    | false => rw [hc] at e; simp at e
    | true =>
      rw [hc] at e
      simp only [cond_true] at e ⊢
      cases hs : srcOf ms i t L 0 with
      | some k => rw [hs] at e; exact h _ _ e
      | none => rw [hs] at e; exact e
  | const c => exact e
  | global g => exact e
  | func f => exact e

theorem Fact.mono {P : Program} {gs : List Nat} {L : List Oper} {ms ws : List Nat} {e0 : AEnv} {st : Nat} {R R' : AEnv} {pend pend' : List Pd} {A A' : List (Nat × Nat)} {h : AHeap} {t : List AObj} {i : Nat} {o : Oper} {v : Value} {ρ : Operand → Option Value}
    (hf : Fact P gs L ms ws e0 st R pend A h i o v ρ) (hR : Sub R R') (hp : ∀ x ∈ pend, x ∈ pend') (hA : ∀ x ∈ A, x ∈ A') : Fact P gs L ms ws e0 st R' pend' A' (h ++ t) i o v ρ := by
  refine ⟨hR _ _ hf.get, fun x u hx => evF_sub gs L ms e0 hR (hf.sub x u hx), ?_⟩
  rcases hf.how with ⟨g, want, b, h1, h2, h3⟩ | ⟨h1, h2⟩
  · exact .inl ⟨g, want, b, h1, hR _ _ h2, h3⟩
  · refine .inr ⟨?_, ?_⟩
    · rcases h1 with h1 | ⟨g, want, h1, h3⟩
      · exact .inl h1
      · exact .inr ⟨g, want, h1, hR _ _ h3⟩
    · rcases h2 with h2 | ⟨h2, h3⟩ | ⟨id, ob, h2, h3, h4, h5⟩
      · exact .inl h2
      · refine .inr (.inl ⟨aRead_app h2 t, h3.imp _root_.id ?_⟩)
        rintro ⟨pd, q1, q2⟩; exact ⟨pd, hp _ q1, q2⟩
      · refine .inr (.inr ⟨id, ob, hA _ h2, h3, app_get h4 t, h5.imp _root_.id ?_⟩)
        rintro ⟨pd, q1, q2⟩; exact ⟨pd, hp _ q1, q2⟩

end

section
variable {gs : List Nat} {L : List Oper} {ms ws : List Nat} {e0 : AEnv}

theorem addPd_sub {st hi : Nat} {chk : AHeap → Prop} {pend : List Pd} : ∀ x ∈ pend, x ∈ addPd st hi chk pend := by
  intro x hx; unfold addPd
  cases Nat.blt st hi
  · exact hx
  · exact List.mem_cons_of_mem _ hx

theorem addPd_new (st hi : Nat) (chk : AHeap → Prop) (pend : List Pd) : hi ≤ st ∨ ∃ pd ∈ addPd st hi chk pend, pd.hi = hi ∧ ∀ h', pd.chk h' → chk h' := by
  by_cases h : st < hi
  · right
    have : Nat.blt st hi = true := by rw [Nat.blt_eq]; exact h
    exact ⟨⟨hi, chk⟩, by unfold addPd; rw [this]; simp, rfl, fun _ h => h⟩
  · left; omega

theorem Sub.cons {R : AEnv} {i : Nat} {v : Value} (h : R.get i = none) : Sub R ((i, v) :: R) := by
  intro k u hk
  rw [AEnv.get_cons]
  split
  · rename_i e; subst e; rw [h] at hk; simp at hk
  · exact hk

theorem Sub.trans {R R' R'' : AEnv} (h : Sub R R') (h' : Sub R' R'') : Sub R R'' := fun k v hk => h' k v (h k v hk)

/-- what a row of floating operations leaves -/
structure Floated (P : Program) (gs : List Nat) (L : List Oper) (ms ws : List Nat) (e0 : AEnv) (st : Nat) (fl : List Nat) (R : AEnv) (pend : List Pd) (s : St) (R' : AEnv) (pend' : List Pd) (s' : St) (A : List (Nat × Nat)) : Prop where
  sub : Sub R R'
  dom : ∀ i v, R'.get i = some v → (∃ u, R.get i = some u) ∨ i ∈ fl
  pend : ∀ x ∈ pend, x ∈ pend'
  e : s'.e = s.e
  ds : s'.ds = s.ds
  u : s'.u = s.u
  h : ∃ t, s'.h = s.h ++ t
  facts : ∀ i ∈ fl, ∃ o v ρ, L[i]? = some o ∧ Fact P gs L ms ws e0 st R' pend' A s'.h i o v ρ
  ids : ∀ p ∈ A, s.h.length ≤ p.2 ∧ p.2 < s'.h.length
  inj : ∀ p ∈ A, ∀ q ∈ A, p.2 = q.2 → p = q

/-- one floating operation in the eager order -/
theorem floatK_elim {ρ : Operand → Option Value} {i st : Nat} {o : Oper} {R : AEnv} {pend : List Pd} {s : St} {k : AEnv → List Pd → St → Prop} (ho : L[i]? = some o) (hn : R.get i = none)
    (hρ : ρ = evF gs L ms e0 R i (opReads o.op)) (hg : o.guard = none ∨ ∃ g want, o.guard = some (g, want) ∧ R.get g = some (.bool want))
    (h : floatK P ρ i (hiOf ms ws i) st o.op R pend s k) : ∃ R' pend' s' A, k R' pend' s' ∧ Floated P gs L ms ws e0 st [i] R pend s R' pend' s' A := by
  have hdom : ∀ (v : Value) (x : Nat) (u : Value), AEnv.get ((i, v) :: R) x = some u → (∃ u, R.get x = some u) ∨ x ∈ [i] := by
    intro v x u hx
    rw [AEnv.get_cons] at hx
    split at hx
    · rename_i e; subst e; right; simp
    · left; exact ⟨u, hx⟩
  have hgg : ∀ v : Value, (o.guard = none ∨ ∃ g want, o.guard = some (g, want) ∧ AEnv.get ((i, v) :: R) g = some (.bool want)) := by
    intro v; rcases hg with hg | ⟨g, want, h1, h2⟩
    · exact .inl hg
    · exact .inr ⟨g, want, h1, Sub.cons hn _ _ h2⟩
  have hsub : ∀ (v : Value) (x : Operand) (u : Value), ρ x = some u → evF gs L ms e0 ((i, v) :: R) i (opReads o.op) x = some u := by
    intro v x u hx; rw [hρ] at hx; exact evF_sub gs L ms e0 (Sub.cons hn) hx
  unfold floatK at h
  split at h
  · obtain ⟨v, hv, hk⟩ := bnd_some' h
    refine ⟨_, _, _, [], hk, Sub.cons hn, hdom v, fun x hx => hx, rfl, rfl, rfl, ⟨[], by simp⟩, ?_, by simp, by simp⟩
    intro x hx; simp at hx; subst hx
    exact ⟨o, v, ρ, ho, by rw [AEnv.get_cons]; simp, hsub v, .inr ⟨hgg v, .inl hv⟩⟩
  · obtain ⟨v, hv, hk⟩ := bnd_some' h
    refine ⟨_, _, _, [], hk, Sub.cons hn, hdom v, addPd_sub, rfl, rfl, rfl, ⟨[], by simp⟩, ?_, by simp, by simp⟩
    intro x hx; simp at hx; subst hx
    exact ⟨o, v, ρ, ho, by rw [AEnv.get_cons]; simp, hsub v, .inr ⟨hgg v, .inr (.inl ⟨hv, addPd_new _ _ _ _⟩)⟩⟩
  · obtain ⟨⟨ob, v⟩, hv, hk⟩ := bnd_some' h
    refine ⟨_, _, _, [(i, s.h.length)], hk, Sub.cons hn, hdom v, addPd_sub, rfl, rfl, rfl, ⟨[ob], rfl⟩, ?_, by simp, by simp⟩
    intro x hx; simp at hx; subst hx
    exact ⟨o, v, ρ, ho, by rw [AEnv.get_cons]; simp, hsub v, .inr ⟨hgg v, .inr (.inr ⟨s.h.length, ob, by simp, hv, by simp, addPd_new _ _ _ _⟩)⟩⟩
  · exact h.elim

theorem floatsW_elim {st : Nat} : ∀ {fl : List Nat} {R : AEnv} {pend : List Pd} {s : St} {k : AEnv → List Pd → St → Prop}, fl.Nodup → (∀ i ∈ fl, R.get i = none) →
    floatsW P gs L ms ws e0 st fl R pend s k → ∃ R' pend' s' A, k R' pend' s' ∧ Floated P gs L ms ws e0 st fl R pend s R' pend' s' A
  | [], R, pend, s, k, _, _, h => ⟨R, pend, s, [], h, fun _ _ h => h, fun i v h => .inl ⟨v, h⟩, fun _ h => h, rfl, rfl, rfl, ⟨[], by simp⟩, by simp, by simp, by simp⟩
  | i :: r, R, pend, s, k, hnd, hn, h => by
    simp only [floatsW] at h
    cases ho : L[i]? with
    | none => rw [ho] at h; exact h.elim
    | some o =>
      rw [ho] at h
      simp only at h
      have hni := hn i (by simp)
      have hone : ∃ R1 pend1 s1 A1, floatsW P gs L ms ws e0 st r R1 pend1 s1 k ∧ Floated P gs L ms ws e0 st [i] R pend s R1 pend1 s1 A1 := by
        split at h
        · rename_i hg
          exact floatK_elim ho hni rfl (.inl hg) h
        · rename_i g want hg
          unfold guardF at h
          split at h
          · rename_i b hb
            split at h
            · rename_i hbw
              subst hbw
              exact floatK_elim ho hni rfl (.inr ⟨g, _, hg, hb⟩) h
            · rename_i hbw
              refine ⟨_, _, _, [], h, Sub.cons hni, ?_, fun x hx => hx, rfl, rfl, rfl, ⟨[], by simp⟩, ?_, by simp, by simp⟩
              · intro x u hx
                rw [AEnv.get_cons] at hx
                split at hx
                · rename_i e; subst e; right; simp
                · left; exact ⟨u, hx⟩
              · intro x hx; simp at hx; subst hx
                exact ⟨o, undefV, fun _ => none, ho, by rw [AEnv.get_cons]; simp, by simp, .inl ⟨g, want, _, hg, Sub.cons hni _ _ hb, .inl ⟨b, rfl, hbw⟩, rfl⟩⟩
          · rename_i y hb
            refine ⟨_, _, _, [], h, Sub.cons hni, ?_, fun x hx => hx, rfl, rfl, rfl, ⟨[], by simp⟩, ?_, by simp, by simp⟩
            · intro x u hx
              rw [AEnv.get_cons] at hx
              split at hx
              · rename_i e; subst e; right; simp
              · left; exact ⟨u, hx⟩
            · intro x hx; simp at hx; subst hx
              exact ⟨o, undefV, fun _ => none, ho, by rw [AEnv.get_cons]; simp, by simp, .inl ⟨g, want, _, hg, Sub.cons hni _ _ hb, .inr ⟨y, rfl⟩, rfl⟩⟩
          · exact h.elim
      obtain ⟨R1, pend1, s1, A1, h1, F1⟩ := hone
      have hnd' := List.nodup_cons.1 hnd
      have hn1 : ∀ x ∈ r, R1.get x = none := by
        intro x hx
        cases hq : R1.get x with
        | none => rfl
        | some u =>
          rcases F1.dom x u hq with ⟨u', hu'⟩ | hm
          · rw [hn x (List.mem_cons_of_mem _ hx)] at hu'; simp at hu'
          · simp at hm; subst hm; exact absurd hx hnd'.1
      obtain ⟨R2, pend2, s2, A2, h2, F2⟩ := floatsW_elim hnd'.2 hn1 h1
      obtain ⟨t1, ht1⟩ := F1.h
      obtain ⟨t2, ht2⟩ := F2.h
      refine ⟨R2, pend2, s2, A1 ++ A2, h2, F1.sub.trans F2.sub, ?_, fun x hx => F2.pend _ (F1.pend _ hx), F2.e.trans F1.e, F2.ds.trans F1.ds, F2.u.trans F1.u, ⟨t1 ++ t2, by rw [ht2, ht1, List.append_assoc]⟩, ?_, ?_, ?_⟩
      · intro x u hx
        rcases F2.dom x u hx with ⟨u', hu'⟩ | hm
        · rcases F1.dom x u' hu' with h' | h'
          · exact .inl h'
          · right; simp at h'; subst h'; simp
        · right; exact List.mem_cons_of_mem _ hm
      · intro x hx
        rcases List.mem_cons.1 hx with e | e
        · subst e
          obtain ⟨o', v, ρ, q1, q2⟩ := F1.facts x (by simp)
          refine ⟨o', v, ρ, q1, ?_⟩
          rw [ht2]
          exact q2.mono F2.sub F2.pend (fun p hp => List.mem_append_left _ hp)
        · obtain ⟨o', v, ρ, q1, q2⟩ := F2.facts x e
          refine ⟨o', v, ρ, q1, ?_⟩
          have := q2.mono (t := []) (fun _ _ h => h) (fun _ h => h) (fun p hp => List.mem_append_right A1 hp)
          simpa using this
      · intro p hp
        have hl1 : s.h.length ≤ s1.h.length := by rw [ht1]; simp
        have hl2 : s1.h.length ≤ s2.h.length := by rw [ht2]; simp
        rcases List.mem_append.1 hp with hp | hp
        · have := F1.ids p hp; omega
        · have := F2.ids p hp; omega
      · intro p hp q hq hpq
        rcases List.mem_append.1 hp with hp | hp
        · rcases List.mem_append.1 hq with hq | hq
          · exact F1.inj p hp q hq hpq
          · have := F1.ids p hp; have := F2.ids q hq; omega
        · rcases List.mem_append.1 hq with hq | hq
          · have := F2.ids p hp; have := F1.ids q hq; omega
          · exact F2.inj p hp q hq hpq

theorem checks_elim : ∀ {pend : List Pd} {st : Nat} {h : AHeap} {p : Prop}, checks pend st h p → p ∧ ∀ pd ∈ pend, st ≤ pd.hi → pd.chk h
  | [], _, _, _, hc => ⟨hc, by simp⟩
  | d :: r, st, h, p, hc => by
    simp only [checks] at hc
    cases hb : Nat.ble st d.hi with
    | true =>
      rw [hb] at hc
      simp only [cond_true] at hc
      obtain ⟨q1, q2⟩ := checks_elim hc.2
      refine ⟨q1, fun pd hpd hle => ?_⟩
      rcases List.mem_cons.1 hpd with e | e
      · subst e; exact hc.1
      · exact q2 pd e hle
    | false =>
      rw [hb] at hc
      simp only [cond_false] at hc
      obtain ⟨q1, q2⟩ := checks_elim hc
      refine ⟨q1, fun pd hpd hle => ?_⟩
      rcases List.mem_cons.1 hpd with e | e
      · subst e
        have : Nat.ble st pd.hi = true := by rw [Nat.ble_eq]; exact hle
        rw [hb] at this; simp at this
      · exact q2 pd e hle

theorem srcOf_some : ∀ {L : List Oper} {ms : List Nat} {i t k0 k : Nat}, srcOf ms i t L k0 = some k → ∃ o, L[k - k0]? = some o ∧ k0 ≤ k ∧ o.dst = some t ∧ bitAt ms i k = true
  | [], _, _, _, _, _, h => by simp [srcOf] at h
  | o :: r, ms, i, t, k0, k, h => by
    unfold srcOf at h
    split at h
    · rename_i hc
      simp at h; subst h
      simp only [Bool.and_eq_true, beq_iff_eq] at hc
      exact ⟨o, by simp, Nat.le_refl _, hc.1, hc.2⟩
    · obtain ⟨o', h1, h2, h3⟩ := srcOf_some h
      refine ⟨o', ?_, by omega, h3⟩
      rw [show k - k0 = (k - (k0 + 1)) + 1 by omega]; simpa using h1

theorem srcOf_none : ∀ {L : List Oper} {ms : List Nat} {i t k0 : Nat}, srcOf ms i t L k0 = none → ∀ (k : Nat) (o : Oper), L[k]? = some o → o.dst = some t → bitAt ms i (k0 + k) = false
  | [], _, _, _, _, _, k, o, h, _ => by simp at h
  | o :: r, ms, i, t, k0, hn, k, o', h, hd => by
    unfold srcOf at hn
    split at hn
    · simp at hn
    · rename_i hc
      cases k with
      | zero =>
        simp at h; subst h
        simp only [hd, BEq.rfl, Bool.true_and, Bool.not_eq_true] at hc
        simpa using hc
      | succ k =>
        have := srcOf_none hn k o' (by simpa using h) hd
        rw [show k0 + (k + 1) = k0 + 1 + k by omega]; exact this

end
end Go.Fm
