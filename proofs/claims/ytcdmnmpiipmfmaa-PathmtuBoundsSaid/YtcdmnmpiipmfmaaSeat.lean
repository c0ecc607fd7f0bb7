/- Small facts on the given program: its knobs, its layout, that it draws orders as the framework asks. -/
import Derived.Test.YtcdmnmpiipmfmaaRows
import Derived.Test.YtcdmnmpiipmfmaaFmE
namespace Go.Proofs.Ytcdmnmpiipmfmaa
open Go.ChangeShapes Go.WideShapes Go.ChangeAt Go.RowKit Go.Fm

theorem Try.own : ownKnob Try.prog.godebug = none := by kernel_rfl
theorem Try.laidOut : laidOutB Try.prog = true := by kernel_rfl
theorem Try.mixed : Try.prog.follows .mixedOrders = true := by kernel_rfl

end Go.Proofs.Ytcdmnmpiipmfmaa
