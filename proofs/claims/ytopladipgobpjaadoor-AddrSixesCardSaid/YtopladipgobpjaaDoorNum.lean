/-
  The reader's number: digits from a place on, without a zero ahead, up to a number. Conditions: the place is within the text, the greatest number below 1000.
-/
import Derived.Test.YtopladipgobpjaaDoorPlain4
import Derived.Test.YtopladipgobpjaaDoorSix0
import Derived.Test.YtopladipgobpjaaDoorZer
namespace Go.Proofs.YtopladipgobpjaaDoor
open Go.Fm

def p4V (l : List UInt8) : Value := match p4R l with
  | (some [a, b, c, d], _) => .tuple ⟨[.agg ⟨[.int .u8 a, .int .u8 b, .int .u8 c, .int .u8 d]⟩, .int .i64 0, .int .i64 0]⟩
  | (_, n) => .tuple ⟨[.agg ⟨[.int .u8 0, .int .u8 0, .int .u8 0, .int .u8 0]⟩, .int .i64 n, .int .i64 20]⟩
def noE : AObj → Bool
  | .cells [] _ => false
  | _ => true

theorem wrap8 {x : Int} (h0 : 0 ≤ x) (h1 : x < 256) : IntKind.u8.wrap x = x := by
  simp only [IntKind.wrap, IntKind.bits, IntKind.signed, Bool.false_and, Bool.false_eq_true, if_false]
  omega
theorem wrap62 {x : Int} (h0 : 0 ≤ x) (h1 : x < 2 ^ 63) : IntKind.i64.wrap x = x := by
  simp only [IntKind.wrap, IntKind.bits, IntKind.signed]
  simp; omega

end Go.Proofs.YtopladipgobpjaaDoor
