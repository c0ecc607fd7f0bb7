/-
  addr.groups: the eight groups of an address. No condition but that bytes are bytes.
-/
import Derived.Test.YtopladipgobpjaaDoorWords
namespace Go.Proofs.YtopladipgobpjaaDoor
open Go.Fm

theorem wrapi {x : Int} (h0 : 0 ≤ x) (h1 : x < 2 ^ 40) : IntKind.i64.wrap x = x := by
  simp only [IntKind.wrap, IntKind.bits, IntKind.signed]
  simp; omega

end Go.Proofs.YtopladipgobpjaaDoor
