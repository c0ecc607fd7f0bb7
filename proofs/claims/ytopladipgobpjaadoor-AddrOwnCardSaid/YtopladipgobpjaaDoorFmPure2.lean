/-
  FmPure2: the rest of what asks nothing of memory, and all of it under one name, 'aPure'.
-/
import Derived.Test.YtopladipgobpjaaDoorFmPure
namespace Go.Fm

variable {P : Program} {j : Inj}

theorem aUn_sim {op : UnOp} {v v' r : Value} (hv : VR j v v') (h : aUn P op v = some r) : (∃ r', VR j r r' ∧ ∀ w, (Op.unary op v').run P w = .ok r' w) := by
  unfold aUn at h
  split at h
  · rename_i hf
    have hfl := flatB_flat hf
    have := hfl.eq hv; subst this
    refine ⟨r, ?_, semPure_run h⟩
    unfold Op.unary at h
    split at h
    · simp [Op.intArith, semPure, pure] at h; subst h; exact .int _ _
    · simp [Op.intBits, semPure, pure] at h; subst h; exact .int _ _
    · simp [semPure, pure] at h; subst h; exact .float _ _
    · simp [semPure, pure] at h; subst h; exact .complex _ _ _
    · simp [semPure, pure] at h; subst h; exact .bool _
    · simp [semPure, unsupported] at h
    · simp [semPure, unsupported] at h
    · simp [semPure, stuck] at h
  · simp at h

/-- what comes out of a plain operation is plain: asked, not proved, operation by operation -/
def semFlat (P : Program) (s : Sem Value) : Option Value :=
  match semPure P s with
  | some v => if flatB v then some v else none
  | none => none

theorem semFlat_run {s : Sem Value} {v : Value} (h : semFlat P s = some v) : Flat v ∧ ∀ w, s.run P w = .ok v w := by
  unfold semFlat at h
  split at h
  · rename_i u hu
    split at h
    · rename_i hf; simp at h; subst h; exact ⟨flatB_flat hf, semPure_run hu⟩
    · simp at h
  · simp at h

/-- a plain operation of two operands -/
def aBin2 (P : Program) (op : BinOp) (t : TypeId) (x y : Operand) (a b : Value) : Option Value :=
  if flatB a && flatB b then semFlat P (do eqGuard op t x y a b; binOp op t a b) else
  match op with
  | .eql => (aSame P t a b).map .bool
  | .neq => (aSame P t a b).map fun r => .bool !r
  | _ => none

set_option maxHeartbeats 1000000 in
theorem aSame_in {t : TypeId} {a a' b b' : Value} {r : Bool} (ha : VR j a a') (hb : VR j b b') (h : aSame P t a b = some r) (w : World) (d : Nat) :
    (Op.equalIn (d + 1) t a' b').run P w = .ok r w := by
  unfold aSame at h
  split at h
  · rename_i hu; simp at h; subst h; cases ha; cases hb; simp [Op.equalIn, run_underlying hu]
  · rename_i hu; simp at h; subst h; cases ha; cases hb; simp [Op.equalIn, run_underlying hu]
  · rename_i e b1 o1 b2 o2 hu
    cases ha with
    | ptr hj1 =>
      cases hb with
      | ptr hj2 =>
        split at h
        · rename_i hbb
          subst hbb
          rename_i L L2; rw [hj1] at hj2; injection hj2 with hL; subst hL
          cases hs : aSize P e with
          | none => simp [hs] at h
          | some n =>
            simp only [hs, Option.bind_some] at h
            split at h
            · simp at h
            · rename_i hn
              simp at h; subst h
              simp [Op.equalIn, run_underlying hu, run_sizeOf' hs, hn, sameAddr]
              by_cases e' : o1 = o2
              · subst e'; simp
              · have hne : ¬ (Addr.mk L.blk (L.off + o1) none = Addr.mk L.blk (L.off + o2) none) := fun hh => by injection hh with _ hh _; omega
                rw [beq_eq_false_iff_ne.2 hne, beq_eq_false_iff_ne.2 e']
        · simp at h
  · rename_i hu; simp at h; subst h; cases hb; cases ha <;> simp [Op.equalIn, run_underlying hu]
  · rename_i hu; simp at h; subst h; cases ha; cases hb <;> simp [Op.equalIn, run_underlying hu]
  · rename_i hu; simp at h; subst h; cases ha; cases hb; simp [Op.equalIn, run_underlying hu]
  · rename_i hu; simp at h; subst h; cases ha; cases hb; simp [Op.equalIn, run_underlying hu]
  · rename_i hu; simp at h; subst h; cases hb; cases ha <;> simp [Op.equalIn, run_underlying hu]
  · rename_i hu; simp at h; subst h; cases ha; cases hb <;> simp [Op.equalIn, run_underlying hu]
  · rename_i hu; simp at h; subst h; cases ha; cases hb; simp [Op.equalIn, run_underlying hu]
  · rename_i hu; simp at h; subst h; cases ha; cases hb; simp [Op.equalIn, run_underlying hu]
  · rename_i t1 v1 t2 v2 hu
    split at h
    · simp at h
    · rename_i hne
      simp at h; subst h; cases ha; cases hb; simp [Op.equalIn, run_underlying hu, hne]
  · simp at h

theorem aSame_guard {t : TypeId} {a a' b b' : Value} {r : Bool} (ha : VR j a a') (hb : VR j b b') (h : aSame P t a b = some r) :
    (∀ (op : BinOp) (x y : Operand), eqGuard op t x y a' b' = pure ()) ∧ binOp .eql t a' b' = (do pure (.bool (← Op.equal t a' b'))) ∧
      binOp .neq t a' b' = (do pure (.bool (!(← Op.equal t a' b')))) := by
  unfold aSame at h
  split at h
  · cases ha; cases hb; exact ⟨fun op x y => by cases op <;> rfl, rfl, rfl⟩
  · cases ha; cases hb; exact ⟨fun op x y => by cases op <;> rfl, rfl, rfl⟩
  · cases ha; cases hb; exact ⟨fun op x y => by cases op <;> rfl, rfl, rfl⟩
  · cases hb; cases ha <;> exact ⟨fun op x y => by cases op <;> rfl, rfl, rfl⟩
  · cases ha; cases hb <;> exact ⟨fun op x y => by cases op <;> rfl, rfl, rfl⟩
  · cases ha; cases hb; exact ⟨fun op x y => by cases op <;> rfl, rfl, rfl⟩
  · cases ha; cases hb; exact ⟨fun op x y => by cases op <;> rfl, rfl, rfl⟩
  · cases hb; cases ha <;> exact ⟨fun op x y => by cases op <;> rfl, rfl, rfl⟩
  · cases ha; cases hb <;> exact ⟨fun op x y => by cases op <;> rfl, rfl, rfl⟩
  · cases ha; cases hb; exact ⟨fun op x y => by cases op <;> rfl, rfl, rfl⟩
  · cases ha; cases hb; exact ⟨fun op x y => by cases op <;> rfl, rfl, rfl⟩
  · cases ha; cases hb; exact ⟨fun op x y => by cases op <;> rfl, rfl, rfl⟩
  · simp at h

theorem aSame_sim {t : TypeId} {a a' b b' : Value} {r : Bool} (ha : VR j a a') (hb : VR j b b') (h : aSame P t a b = some r) (w : World) :
    (Op.equal t a' b').run P w = .ok r w ∧ (∀ (op : BinOp) (x y : Operand), eqGuard op t x y a' b' = pure ()) ∧ binOp .eql t a' b' = (do pure (.bool (← Op.equal t a' b'))) ∧
      binOp .neq t a' b' = (do pure (.bool (!(← Op.equal t a' b')))) :=
  ⟨aSame_in ha hb h w 9999, aSame_guard ha hb h⟩

theorem aBin2_sim {op : BinOp} {t : TypeId} {x y : Operand} {a a' b b' r : Value} (ha : VR j a a') (hb : VR j b b') (h : aBin2 P op t x y a b = some r) :
    VR j r r ∧ ∀ w, (do eqGuard op t x y a' b'; binOp op t a' b' : Sem Value).run P w = .ok r w := by
  unfold aBin2 at h
  split at h
  · rename_i hf
    simp only [Bool.and_eq_true] at hf
    have e1 := (flatB_flat hf.1).eq ha
    have e2 := (flatB_flat hf.2).eq hb
    subst e1 e2
    obtain ⟨h1, h2⟩ := semFlat_run h
    exact ⟨h1.vr j, h2⟩
  · split at h
    · cases hs : aSame P t a b with
      | none => simp [hs] at h
      | some q =>
        simp [hs] at h; subst h
        refine ⟨.bool _, fun w => ?_⟩
        obtain ⟨h1, h2, h3, _⟩ := aSame_sim ha hb hs w
        rw [h2, h3]; simp [h1]
    · cases hs : aSame P t a b with
      | none => simp [hs] at h
      | some q =>
        simp [hs] at h; subst h
        refine ⟨.bool _, fun w => ?_⟩
        obtain ⟨h1, h2, _, h4⟩ := aSame_sim ha hb hs w
        rw [h2, h4]; simp [h1]
    · simp at h

def aConv2 (P : Program) (src dst : TypeId) (a : Value) : Option Value := if flatB a then semFlat P (convert src dst a) else none

theorem aConv2_sim {src dst : TypeId} {a a' r : Value} (ha : VR j a a') (h : aConv2 P src dst a = some r) :
    VR j r r ∧ ∀ w, (convert src dst a').run P w = .ok r w := by
  unfold aConv2 at h
  split at h
  · rename_i hf
    have e1 := (flatB_flat hf).eq ha
    subst e1
    obtain ⟨h1, h2⟩ := semFlat_run h
    exact ⟨h1.vr j, h2⟩
  · simp at h

theorem aLen_sim {t ty : TypeId} {v v' r : Value} (hv : VR j v v') (h : aLen P t v = some r) :
    VR j r r ∧ ∀ w, (Builtin.len_ #[t] ty #[v']).run P w = .ok r w := by
  unfold aLen at h
  split at h
  · rename_i s hu; simp at h; subst h; cases hv
    exact ⟨.int _ _, fun w => by simp [Builtin.len_, run_underlying hu]⟩
  · rename_i n e hu; simp at h; subst h
    exact ⟨.int _ _, fun w => by simp [Builtin.len_, run_underlying hu]⟩
  · rename_i arr hu
    split at h
    · rename_i n e hu2; simp at h; subst h
      exact ⟨.int _ _, fun w => by simp [Builtin.len_, run_underlying hu, run_underlying hu2]⟩
    · simp at h
  · rename_i e a n c hu; simp at h; subst h
    refine ⟨.int _ _, fun w => ?_⟩
    cases hv with
    | _ => simp [Builtin.len_, run_underlying hu]
  · simp at h

/-- min and max of plain values -/
def aMinMax (P : Program) (b : Builtin) (t : TypeId) (args : Array Value) : Option Value :=
  if args.toList.all flatB then
    match b with
    | .min => semFlat P (Builtin.min_ #[] t args)
    | .max => semFlat P (Builtin.max_ #[] t args)
    | _ => none
  else none

theorem flat_args {args args' : Array Value} (hf : args.toList.all flatB = true) (h : AR j args args') : args' = args := by
  apply Array.ext h.1.symm
  intro i hi hi'
  simp only [List.all_eq_true] at hf
  exact (flatB_flat (hf _ (by simp))).eq (h.2 i _ _ (Array.getElem?_eq_getElem hi') (Array.getElem?_eq_getElem hi))

theorem aAssertTo_sim {x v v' r : Value} {asserted : TypeId} {commaOk ok : Bool} (hv : VR j v v') (h : aAssertTo P x asserted commaOk v ok = some r) :
    ∃ r', VR j r r' ∧ (ok = true → r' = if commaOk then .tuple #[v', .bool true] else v') ∧
      (ok = false → commaOk = true ∧ ∃ z, Flat z ∧ (∀ w, (zeroValue asserted).run P w = .ok z w) ∧ r' = .tuple #[z, .bool false]) := by
  unfold aAssertTo at h
  split at h
  · rename_i hok
    simp at h; subst h
    cases commaOk with
    | true => exact ⟨_, VR.tuple' (.cons hv (.cons (.bool _) .nil)), fun _ => rfl, fun h => by simp [hok] at h⟩
    | false => exact ⟨v', hv, fun _ => rfl, fun h => by simp [hok] at h⟩
  · rename_i hok
    split at h
    · rename_i hc
      cases hz : aZero P asserted with
      | none => simp [hz] at h
      | some z =>
        simp [hz] at h; subst h
        have hr := run_zero' hz
        refine ⟨_, VR.tuple' (.cons ((hr default).2.vr j) (.cons (.bool _) .nil)), fun h => absurd h hok, fun _ => ⟨hc, z, (hr default).2, fun w => (hr w).1, rfl⟩⟩
    · simp at h

theorem aTypeAssert_sim {x x' r : Value} {xT asserted : TypeId} {commaOk : Bool} (hx : VR j x x') (h : aTypeAssert P x asserted commaOk = some r) :
    ∃ r', VR j r r' ∧ ∀ w, (Instr.typeAssert x' xT asserted commaOk).run P w = .ok r' w := by
  unfold aTypeAssert at h
  split at h
  · rename_i ms hu
    cases hx
    obtain ⟨r', h1, _, h3⟩ := aAssertTo_sim VR.nilIface h
    obtain ⟨hc, z, hz, hr, e⟩ := h3 rfl
    refine ⟨r', h1, fun w => ?_⟩
    subst e hc
    simp [Instr.typeAssert, run_underlying hu, hr]
  · rename_i want t v hu
    cases hx with
    | iface _ hv =>
      split at h
      · rename_i i hi
        obtain ⟨r', h1, h2, h3⟩ := aAssertTo_sim (VR.iface t hv) h
        refine ⟨r', h1, fun w => ?_⟩
        cases hm : Instr.missingMethod want i.methods with
        | none =>
          have := h2 (by simp [hm]); subst this
          simp [Instr.typeAssert, run_underlying hu, typeInfo, hi, hm]
        | some m =>
          obtain ⟨hc, z, hz, hr, e⟩ := h3 (by simp [hm])
          subst e hc
          simp [Instr.typeAssert, run_underlying hu, typeInfo, hi, hm, hr]
      · simp at h
  · rename_i d hnot hu
    cases hx
    obtain ⟨r', h1, _, h3⟩ := aAssertTo_sim VR.nilIface h
    obtain ⟨hc, z, hz, hr, e⟩ := h3 rfl
    refine ⟨r', h1, fun w => ?_⟩
    subst e hc
    unfold Instr.typeAssert
    simp only [Sem.run_bind, run_underlying hu, Result.andThen_ok]
    cases d <;> simp_all
  · rename_i d t v hnot hu
    cases hx with
    | iface _ hv =>
      obtain ⟨r', h1, h2, h3⟩ := aAssertTo_sim hv h
      refine ⟨r', h1, fun w => ?_⟩
      unfold Instr.typeAssert
      simp only [Sem.run_bind, run_underlying hu, Result.andThen_ok]
      by_cases ht : t = asserted
      · have := h2 (by simp [ht]); subst this; subst ht
        cases d <;> simp_all
      · obtain ⟨hc, z, hz, hr, e⟩ := h3 (by simp [ht])
        subst e hc
        cases d <;> simp_all
  · simp at h

end Go.Fm
