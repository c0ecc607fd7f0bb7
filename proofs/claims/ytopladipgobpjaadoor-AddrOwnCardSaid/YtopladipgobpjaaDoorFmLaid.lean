/-
  FmLaid: package-level tables of integers that a row lists ('laid'): what stands for them.
-/
import Derived.Test.YtopladipgobpjaaDoorFmRead2
import Derived.LaidMore
namespace Go.Fm
open Go.RowKit

variable {P : Program} {H : Type} {enc : TypeId × Value → H} {W : World} {base : Nat} {sp : Nat → Bool} {held : Bool}

theorem ints_sound {m : Nat} {e : TypeId} {k : IntKind} (he : P.underlying e = some (.int k)) (hc : P.cellsOf e = 1) {cs : List Value} : ∀ (n i0 : Nat) (xs : List (DataW H × List MemPlace)) (zs : List Int),
    (List.range' i0 n).mapM (fun i => DataW.trod enc P W base sp held m e ((cs.drop (i * P.cellsOf e)).take (P.cellsOf e))) = some xs → xs.map (·.1) = zs.map (fun z => DataW.lit (.int k z)) →
    (cs.drop i0).take n = zs.map (Value.int k)
  | 0, i0, xs, zs, h, hz => by
    simp at h; subst h
    have : zs = [] := by simpa using hz.symm
    subst this; simp
  | n + 1, i0, xs, zs, h, hz => by
    rw [List.range'_succ, List.mapM_cons] at h
    simp only [bind, Option.bind_eq_some_iff, pure, Option.some.injEq] at h
    obtain ⟨y, hy, ys, hys, rfl⟩ := h
    cases zs with
    | nil => simp at hz
    | cons z zs =>
      simp only [List.map_cons, List.cons.injEq] at hz
      have ih := ints_sound he hc n (i0 + 1) ys zs hys hz.2
      rw [hc, Nat.mul_one] at hy
      obtain ⟨v, h1, h2, _⟩ := DataW.trod_int he hy
      have hv : v = z := by
        have := hz.1
        rw [h2] at this
        injection this with this; injection this
      subst hv
      have hd : cs.drop i0 = .int k v :: cs.drop (i0 + 1) := by
        cases hcs : cs.drop i0 with
        | nil => rw [hcs] at h1; simp at h1
        | cons a r =>
          rw [hcs] at h1
          simp at h1; subst h1
          have : cs.drop (i0 + 1) = r := by rw [← List.drop_drop, hcs]; rfl
          rw [this]
      rw [hd, List.take_succ_cons, ih]; rfl

theorem laid_ints {m n : Nat} {t e : TypeId} {k : IntKind} {cs : List Value} {d : DataW H} {ps : List MemPlace} {zs : List Int} (hu : P.underlying t = some (.array n e)) (he : P.underlying e = some (.int k)) (hc : P.cellsOf e = 1)
    (ht : DataW.trod enc P W base sp held m t cs = some (d, ps)) (hd : d = .agg (zs.map fun z => DataW.lit (.int k z))) : cs.take n = zs.map (Value.int k) := by
  cases m with
  | zero => simp [DataW.trod] at ht
  | succ m =>
    unfold DataW.trod at ht
    rw [hu] at ht
    have ht' : (if cs.length = P.cellsOf t then ((List.range n).mapM fun i => DataW.trod enc P W base sp held m e ((cs.drop (i * P.cellsOf e)).take (P.cellsOf e))).map fun xs => (DataW.agg (xs.map (·.1)), xs.flatMap (·.2)) else none) = some (d, ps) := by
      revert ht; simp only; exact id
    split at ht'
    · obtain ⟨xs, hx, hxe⟩ := Option.map_eq_some_iff.1 ht'
      simp only [Prod.mk.injEq] at hxe
      rw [List.range_eq_range'] at hx
      rw [hd] at hxe
      have := hxe.1
      injection this with this
      have := ints_sound he hc n 0 xs zs hx this
      simpa using this
    · simp at ht'

/-- a table in the world -/
theorem laid_obj {g n : Nat} {name : String} {cs : Array Value} {tab : List Value} (hf : ∀ v ∈ tab, Flat v) (hg : P.globalNamed name = some g) (hv : W.var? P name = some cs) (ht : cs.toList.take n = tab) (hn : tab.length = n) (j : Inj) :
    ObjR j ⟨g, 0, n, 1, 0⟩ W (some (.cells tab true)) := by
  unfold World.var? at hv
  rw [hg] at hv
  simp only [Option.bind_some] at hv
  split at hv
  · rename_i c T fz hb
    injection hv with hv; subst hv
    refine ⟨c, T, fz, hb, hn, ?_, ?_, by simp, fun _ => rfl⟩
    · have := congrArg List.length ht
      simp at this
      simp [Loc.ext]; omega
    · rw [List.drop_zero, ht]; exact Flat.lr hf j
  · cases hv

theorem Sim.ro {j : Inj} {h : AHeap} (W : World) (hd : ∀ b L, j b = some L → b < h.length) (ho : ∀ b L, j b = some L → ObjR j L W h[b]?) (hn : ∀ b : Nat, ¬ isRw h[b]?) : Sim (allBelow W) W j h W :=
  ⟨Io.refl W, Nat.le_refl _, fun B o _ => keptAt_refl W B o, fun _ _ h => h, hd, ho, fun b _ _ hr => absurd hr (hn b), fun b _ _ _ _ _ _ hr => absurd hr (hn b)⟩

end Go.Fm
