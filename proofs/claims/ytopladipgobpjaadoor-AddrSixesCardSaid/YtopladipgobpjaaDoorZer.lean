/-
  The reference's zeros: how many groups of zeros stand from a place on. No condition but that the place is among the groups.
-/
import Derived.Test.YtopladipgobpjaaDoorGrp
import Derived.Test.YtopladipgobpjaaDoorFmE
namespace Go.Proofs.YtopladipgobpjaaDoor
open Go.Fm

theorem gen_step {o : Option Value} {k : IntKind} {x : Int} (ho : o = some (.int k x)) {X : Int → Prop} (hX : X x) : (∃ z : Int, o = some (.int k z)) ∧ ∀ z : Int, o = some (.int k z) → X z := by
  subst ho
  refine ⟨⟨_, rfl⟩, fun z hz => ?_⟩
  injection hz with hz
  injection hz with _ hz
  rw [← hz]; exact hX

end Go.Proofs.YtopladipgobpjaaDoor
