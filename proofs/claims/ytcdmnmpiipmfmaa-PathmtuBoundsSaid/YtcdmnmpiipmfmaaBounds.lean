/-
  'ferrymanlaw16.PathmtuBounds': whatever the settings and the row of calls, the law returns true, and they read as they did. No condition.
-/
import Derived.Test.YtcdmnmpiipmfmaaRd
namespace Go.Proofs.Ytcdmnmpiipmfmaa
open Go.ChangeShapes Go.WideShapes Go.ChangeAt Go.RowKit Go.Fm

set_option maxRecDepth 100000 in
theorem bounds_lifted (os : Os) (started : os.Started) (H : Type) (enc : TypeId × Value → H) :
    ReturnsInHanded {} Try.checked os 3 .any (Rows.pathmtuBoundsSpec.pre6 enc Try.prog Try.f3 Rows.pathmtuBoundsRow.domain false) (Rows.pathmtuBoundsSpec.post enc Try.prog Try.f3 false true false false) := by
  refine returnsInHanded_of_change (C := Try.checked) Try.own started (by kernel_rfl) Try.func3
    (ChangeSpec.witness6 (enc := enc) (C := Try.checked) false ⟨#[], #[.agg #[.int .i64 0, .int .i64 0, .int .i64 0, .int .i64 0], .slice none 0 0], []⟩ 8 (by kernel_rfl) (by kernel_rfl) (by kernel_rfl) (by kernel_rfl)) ?_
  intro W base args ds gs before hval0 hW hcnd _
  have hval : ∀ (j : Nat) t v, Try.f3.params[j]? = some t → args[j]? = some v → Value.okWide Try.prog W .any base t v := hval0
  have hW' := hW
  obtain ⟨p, q, hA0, hV, rfl, hfz, hnd⟩ := hW
  have hA : DataW.TrodAll enc Try.prog W 0 (fun _ => true) true Try.f3.params.toList args.toList ds p := hA0
  rw [Try.params3] at hA hval
  obtain ⟨v0, v1, e0, e1, p0, p1, rfl, rfl, rfl, h0, h1⟩ := trodAll_two hA
  obtain ⟨rfl, rfl⟩ := trodVars_none hV
  obtain ⟨l0, rfl, k0, _⟩ := open_agg (n := 4) (ks := repK 4 [.int .i64]) (by kernel_rfl) (by kernel_rfl) (hval 0 23 v0 rfl rfl) h0
  have k1 := open_cell (k := .slice) (by kernel_rfl) (hval 1 24 v1 rfl rfl)
  refine close_row (tb := 4) hW' rfl rfl Try.laidOut (by kernel_rfl) (by kernel_rfl) (by kernel_rfl) ?_
  exact calls_of W k0 k1 h1 (fun L x n cap h1 h2 h3 => bounds_spec h1 h2 h3) (fun L x h => bounds_nil h)

theorem bounds_holds : Rows.PathmtuBoundsSaid :=
  OpenClaim.holds_of_wide 3 Try.f3 rfl rfl rfl rfl rfl rfl rfl ⟨rfl, rfl, rfl, rfl, rfl⟩ rfl rfl rfl rfl rfl (by kernel_rfl) Try.func3 (by kernel_rfl)
    (of_decide_eq_true (by kernel_rfl)) (by unfold Func.isWrapper; rw [if_neg (of_decide_eq_false (by kernel_rfl))]; exact ⟨rfl, rfl⟩)
    (fun os started H enc _ => bounds_lifted os started H enc)

#print axioms bounds_holds

end Go.Proofs.Ytcdmnmpiipmfmaa
