/-
  The reference's text of an IPv6 address: tx of its groups. No condition but that bytes are bytes.
-/
import Derived.Test.YtopladipgobpjaaDoorTx
namespace Go.Proofs.YtopladipgobpjaaDoor
open Go.Fm
instance : UF := ⟨[5]⟩
end Go.Proofs.YtopladipgobpjaaDoor
