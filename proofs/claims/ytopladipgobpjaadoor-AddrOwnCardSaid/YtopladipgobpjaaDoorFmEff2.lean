/-
  FmEff2: append, copy, clear, iterators; all effects under one name.
-/
import Derived.Test.YtopladipgobpjaaDoorFmEff
namespace Go.Fm

variable {P : Program} {F : Nat → Nat → Prop} {w0 w : World} {j : Inj} {h : AHeap} {ρ : Operand → Option Value} {ρ' : Operand → Value}

theorem aLenOf_sim {v v' : Value} (hv : VR j v v') {n : Nat} (e : aLenOf v = some n) (w : World) : (Builtin.lenOf v').run P w = .ok n w := by
  unfold aLenOf at e
  split at e
  · simp at e; subst e; cases hv <;> rfl
  · simp at e; subst e; cases hv; rfl
  · simp at e

theorem aFirst_sim (S : Sim F w0 j h w) {size n : Nat} {v v' : Value} (hv : VR j v v') {l : List Value} (e : aFirst size n v h = some l) :
    ∃ l', (Builtin.firstCells size n v').run P w = .ok l'.toArray w ∧ LR j l l' := by
  unfold aFirst at e
  split at e
  · rename_i s
    simp only [Option.some.injEq] at e; subst e
    cases hv
    refine ⟨(s.extract 0 n).data.toList.map fun b => .int .u8 b.toNat, ?_, ?_⟩
    · simp only [Builtin.firstCells, Sem.run_pure]; congr 1; apply Array.ext'; simp only [Array.toList_map]
    · induction (s.extract 0 n).data.toList with
      | nil => exact .nil
      | cons b l ih => exact .cons (.int _ _) ih
  · exact aView_sim S hv e

theorem storeNone {P : Program} (a : Addr) (w : World) : (storeCells a []).run P w = .ok () w := rfl

theorem aCopy_sim (S : Sim F w0 j h w) {t ty : TypeId} {ts : Array TypeId} (ht : ts[0]? = some t) {d d' s s' r : Value} (hd : VR j d d') (hs : VR j s s') {h' : AHeap}
    (e : aCopy P t d s h = some (r, h')) : VR j r r ∧ ∃ w', (Builtin.copy_ ts ty #[d', s']).run P w = .ok r w' ∧ Sim F w0 j h' w' := by
  unfold aCopy at e
  split at e
  · rename_i el base dl cap hu
    obtain ⟨size, hsz, e⟩ := bind_some' e
    obtain ⟨sl, hsl, e⟩ := bind_some' e
    obtain ⟨cs, hcs, e⟩ := bind_some' e
    obtain ⟨cs', k1, k2⟩ := aFirst_sim (P := P) S hs hcs
    have hl := aLenOf_sim (P := P) hs hsl w
    obtain ⟨n, hn⟩ : ∃ n, n = Nat.min sl dl := ⟨_, rfl⟩
    rw [← hn] at hcs k1 e
    have hrun : ∀ (b' : Option Addr) (c' : Nat) (w' : World), (match b' with | some a => (storeCells a cs').run P w | none => .ok () w) = .ok () w' →
        (Builtin.copy_ ts ty #[.slice b' dl c', s']).run P w = .ok (goInt n) w' := by
      intro b' c' w' hq
      have hn' : Nat.min sl dl = n := hn.symm
      cases b' with
      | none =>
        simp only [Result.ok.injEq, true_and] at hq; subst hq
        simp only [Builtin.copy_, ht, List.getElem?_toArray, List.getElem?_cons_zero, List.getElem?_cons_succ, Sem.run_bind, run_underlying hu, Result.andThen_ok, hl, run_sizeOf' hsz, hn', k1, Sem.run_pure]
      | some a =>
        simp only at hq
        simp only [Builtin.copy_, ht, List.getElem?_toArray, List.getElem?_cons_zero, List.getElem?_cons_succ, Sem.run_bind, run_underlying hu, Result.andThen_ok, hl, run_sizeOf' hsz, hn', k1, hq, Sem.run_pure]
    cases base with
    | none =>
      simp at e
      obtain ⟨e1, e2⟩ := e; subst e1 e2
      refine ⟨.int _ _, w, ?_, S⟩
      cases hd
      exact hrun none _ w rfl
    | some a =>
      obtain ⟨b, o, sp⟩ := a
      simp only at e
      split at e
      · rename_i hz
        simp at e
        obtain ⟨e1, e2⟩ := e; subst e1 e2
        have : cs = [] := List.eq_nil_of_length_eq_zero hz
        subst this; cases k2
        refine ⟨.int _ _, w, ?_, S⟩
        cases hd with
        | slice => exact hrun (some _) _ w rfl
        | oslice => exact hrun (some _) _ w rfl
        | slice0 => exact hrun (some _) _ w rfl
      · rename_i hz
        cases hst : aStore h ⟨b, o, none⟩ cs with
        | none => rw [hst] at e; simp at e
        | some h2 =>
          rw [hst] at e; simp at e
          obtain ⟨e1, e2⟩ := e; subst e1 e2
          refine ⟨.int _ _, ?_⟩
          cases hd with
          | slice _ _ hj =>
            obtain ⟨w', q1, q2⟩ := aStore_sim (P := P) S (a := ⟨b, o, none⟩) hj k2 hst
            exact ⟨w', hrun (some _) _ w' q1, q2⟩
          | oslice _ _ hj _ _ =>
            obtain ⟨w', q1, q2⟩ := aStore_sim (P := P) S (a := ⟨b, o, none⟩) hj k2 hst
            exact ⟨w', hrun (some _) _ w' q1, q2⟩
          | slice0 a a' =>
            exfalso
            apply hz
            have hn0 : n = 0 := by rw [hn]; simp
            subst hn0
            unfold aFirst at hcs
            split at hcs
            · simp at hcs; subst hcs; simp
            · unfold aView at hcs
              split at hcs
              · simp at hcs; subst hcs; rfl
              · simp at hcs; subst hcs; rfl
              · simp at hcs
  · simp at e

def isIntD : TypeDesc → Bool
  | .int _ => true
  | _ => false

/-- what an append takes: how many, which cells -/
def Taken (P : Program) (w : World) (el xt : TypeId) (size n : Nat) (x' : Value) (new' : List Value) : Prop :=
  ∃ d, P.underlying xt = some d ∧
    ((isIntD d = false ∧ (Builtin.lenOf x').run P w = .ok n w ∧ (Builtin.firstCells size n x').run P w = .ok new'.toArray w) ∨
       (isIntD d = true ∧ ∃ k z, x' = .int k (n : Int) ∧ n < 2 ^ 31 ∧ (∀ w, (zeroValue el).run P w = .ok z w) ∧ z.cells.size = size ∧ (n * size = 0 → new' = []) ∧
          Builtin.zeroCells z.cells n = new'.toArray))

/-- what the new cells of an append are, in the machine -/
theorem aNew_sim (S : Sim F w0 j h w) {el xt : TypeId} {size n : Nat} {x x' : Value} (hx : VR j x x') {new : List Value} (e : aNew P el size xt x h = some (n, new)) :
    ∃ new', LR j new new' ∧ Taken P w el xt size n x' new' := by
  unfold aNew at e
  split at e
  · rename_i k hu
    split at e
    · rename_i kk m
      cases hx
      split at e
      · rename_i hn
        obtain ⟨z, hz, e⟩ := bind_some' e
        split at e
        · rename_i hzs
          cases hrow : zeroRow z.cells (m.toNat * size) with
          | none => simp [hrow] at e
          | some row =>
            simp [hrow] at e
            obtain ⟨e1, e2⟩ := e; subst e1 e2
            have hz1 := fun w => run_zero' hz w
            obtain ⟨r1, r2, r3⟩ := zeroRow_flat (hz1 default).2 hrow j
            refine ⟨row, r1, _, hu, .inr ⟨rfl, kk, z, by rw [Int.toNat_of_nonneg hn.1], by omega, fun w => (hz1 w).1, hzs, ?_, ?_⟩⟩
            · intro h0; rw [h0] at r2; exact List.eq_nil_of_length_eq_zero r2
            · rw [← r3, ← hzs]; rfl
        · simp at e
      · simp at e
    · simp at e
  · rename_i d hnot hu
    obtain ⟨m, hm, e⟩ := bind_some' e
    cases hf : aFirst size m x h with
    | none => simp [hf] at e
    | some cs =>
      simp [hf] at e
      obtain ⟨e1, e2⟩ := e; subst e1 e2
      obtain ⟨cs', k1, k2⟩ := aFirst_sim (P := P) S hx hf
      refine ⟨cs', k2, d, hu, .inl ⟨?_, aLenOf_sim hx hm w, k1⟩⟩
      cases d <;> simp_all [isIntD]
  · simp at e

/-- the machine's append: in place -/
theorem run_append_in {t ty xt el : TypeId} {i : TypeInfo} (hu : P.underlying t = some (.slice el)) (hi : P.info? el = some i) {base : Option Addr} {len cap n : Nat} {x' : Value}
    {new' : List Value} (hT : Taken P w el xt i.size n x' new') (hb : (n : Int) * i.bytes ≤ 2 ^ 48) (hfit : len + n ≤ cap) {w' : World}
    (hst : (match base with | some a => (storeCells (a.add (len * i.size)) new').run P w | none => .ok () w) = .ok () w') :
    (Builtin.append_ #[t, xt] ty #[.slice base len cap, x']).run P w = .ok (.slice base (len + n) cap) w' := by
  have hs : aSize P el = some i.size := by simp [aSize, hi]
  obtain ⟨d, hd, hcase⟩ := hT
  rcases hcase with ⟨h0, h1, h2⟩ | ⟨h0, k, z, rfl, hn, h2, h3, h4, h5⟩
  · cases d with
    | int k => simp [isIntD] at h0
    | _ =>
      cases base with
      | none =>
        simp only [Result.ok.injEq, true_and] at hst; subst hst
        simp only [Builtin.append_, List.getElem?_toArray, List.getElem?_cons_zero, List.getElem?_cons_succ, Sem.run_bind, run_underlying hu, Result.andThen_ok, run_sizeOf' hs, run_underlying hd, Sem.run_pure, h1,
          Bool.false_eq_true, if_false, if_pos hfit, Bool.not_false, if_true, h2]
      | some a =>
        simp only at hst
        simp only [Builtin.append_, List.getElem?_toArray, List.getElem?_cons_zero, List.getElem?_cons_succ, Sem.run_bind, run_underlying hu, Result.andThen_ok, run_sizeOf' hs, run_underlying hd, Sem.run_pure, h1,
          Bool.false_eq_true, if_false, if_pos hfit, Bool.not_false, if_true, h2, hst]
  · have hw : IntKind.i64.wrap (n : Int) = n := by simp [IntKind.wrap, IntKind.bits, IntKind.signed]; omega
    have hti : (typeInfo el).run P w = .ok i w := by simp [typeInfo, hi]
    have hnn : ¬ ((n : Int) < 0) := by omega
    have hb2 : ¬ ((n : Int) * i.bytes > 2 ^ 48) := by omega
    cases d with
    | int k =>
      by_cases hz : n * i.size = 0
      · have hnew := h4 hz
        subst hnew
        cases base with
        | none =>
          simp only [Result.ok.injEq, true_and] at hst; subst hst
          simp only [Builtin.append_, List.getElem?_toArray, List.getElem?_cons_zero, List.getElem?_cons_succ, Sem.run_bind, run_underlying hu, Result.andThen_ok, run_sizeOf' hs, run_underlying hd,
            if_true, asInt, asIntOf, Sem.run_pure, hw, if_neg hnn, hti, if_neg hb2, Int.toNat_natCast, if_pos hfit, Bool.not_true, Bool.false_eq_true, if_false, if_pos hz]
        | some a =>
          simp only at hst
          simp only [Builtin.append_, List.getElem?_toArray, List.getElem?_cons_zero, List.getElem?_cons_succ, Sem.run_bind, run_underlying hu, Result.andThen_ok, run_sizeOf' hs, run_underlying hd,
            if_true, asInt, asIntOf, Sem.run_pure, hw, if_neg hnn, hti, if_neg hb2, Int.toNat_natCast, if_pos hfit, Bool.not_true, Bool.false_eq_true, if_false, if_pos hz, hst]
      · cases base with
        | none =>
          simp only [Result.ok.injEq, true_and] at hst; subst hst
          simp only [Builtin.append_, List.getElem?_toArray, List.getElem?_cons_zero, List.getElem?_cons_succ, Sem.run_bind, run_underlying hu, Result.andThen_ok, run_sizeOf' hs, run_underlying hd,
            if_true, asInt, asIntOf, Sem.run_pure, hw, if_neg hnn, hti, if_neg hb2, Int.toNat_natCast, if_pos hfit, Bool.not_true, Bool.false_eq_true, if_false, if_neg hz, h2, h5]
        | some a =>
          simp only at hst
          simp only [Builtin.append_, List.getElem?_toArray, List.getElem?_cons_zero, List.getElem?_cons_succ, Sem.run_bind, run_underlying hu, Result.andThen_ok, run_sizeOf' hs, run_underlying hd,
            if_true, asInt, asIntOf, Sem.run_pure, hw, if_neg hnn, hti, if_neg hb2, Int.toNat_natCast, if_pos hfit, Bool.not_true, Bool.false_eq_true, if_false, if_neg hz, h2, h5, hst]
    | _ => simp [isIntD] at h0

end Go.Fm
