/-
  NARROWER THAN 'FOR EVERY INPUT', by the rows' own cells (each row's printed sentence says how): AddrFours: laid · AddrSixes: laid · AddrOwn: laid · AddrBack: laid · AddrSets: laid · AddrSetsSix: laid · AddrChecksSix: laid · AddrChecks: laid · AddrPrefixes: laid · AddrAgain: laid.
  DERIVED. THE GIVEN ROWS OF THIS SEAT. 10 by the template 'for every input the law returns true; each argument reads behind the call as it read before'; 0 by the template 'total and deterministic' (their statements: YtopladipgobpjaaDoorTotals.lean).
  GIVEN WITH THE SEED: the statements are not yours to turn. If you find one false, say at which input.
  Laid BY PROGRAM, IN A SANDBOX (cutbox-rows.mjs): the forced cells as the released guide's own fill.sh prints them over the translation bd08b2d6445cce28… (all of the seat's roots in one cut). By AI agents, Wed Nov 11 2026. No macro, syntax, notation, axiom, sorry.
-/
import Derived.Test.YtopladipgobpjaaDoorChecked
import GoSem.Claim
import GoSem.ClaimJoined
import GoSem.ClaimMapViews
import Derived.JoinedTies
import Derived.KernelRfl
namespace Go.Proofs.YtopladipgobpjaaDoor
/- THE CELL 'sum', in the pinned program and in every row, IS THE sha256 OF THE DUMP (.gsa) THAT YtopladipgobpjaaDoorProg.lean LOADS. Nothing in Lean hashes anything: it is a label: what it is worth is what the hold of that sum in a sandbox is worth. -/
noncomputable def Tryd.pinned : Pinned := { name := "ytopladipgobpjaadoor", sum := "bd08b2d6445cce2823f91aedcf3c1d361399b92c48f5fbbf408ccbe52d306fdf", checked := Tryd.checked }
namespace Rows
def none {H : Type} : Left H := { results := [], args := [] }

/- WHAT THE LISTED PACKAGE-LEVEL VARIABLES READ AS WHEN THE CALL BEGINS. Each datum BY PROGRAM (the guide's laid-datum.mjs) off the statement by which the dump's own 'gosem.cut.vars' lays the variable. In a bare row this is a premise. The card (YtopladipgobpjaaDoorCards.lean) ties it to the program's text. -/
def laid_math_bits_deBruijn32tab {H : Type} : DataW H := .agg [.lit (.int .u8 0), .lit (.int .u8 1), .lit (.int .u8 28), .lit (.int .u8 2), .lit (.int .u8 29), .lit (.int .u8 14), .lit (.int .u8 24), .lit (.int .u8 3), .lit (.int .u8 30), .lit (.int .u8 22), .lit (.int .u8 20), .lit (.int .u8 15), .lit (.int .u8 25), .lit (.int .u8 17), .lit (.int .u8 4), .lit (.int .u8 8), .lit (.int .u8 31), .lit (.int .u8 27), .lit (.int .u8 13), .lit (.int .u8 23), .lit (.int .u8 21), .lit (.int .u8 19), .lit (.int .u8 16), .lit (.int .u8 7), .lit (.int .u8 26), .lit (.int .u8 12), .lit (.int .u8 18), .lit (.int .u8 6), .lit (.int .u8 11), .lit (.int .u8 5), .lit (.int .u8 10), .lit (.int .u8 9)]
def laid_math_bits_deBruijn64tab {H : Type} : DataW H := .agg [.lit (.int .u8 0), .lit (.int .u8 1), .lit (.int .u8 56), .lit (.int .u8 2), .lit (.int .u8 57), .lit (.int .u8 49), .lit (.int .u8 28), .lit (.int .u8 3), .lit (.int .u8 61), .lit (.int .u8 58), .lit (.int .u8 42), .lit (.int .u8 50), .lit (.int .u8 38), .lit (.int .u8 29), .lit (.int .u8 17), .lit (.int .u8 4), .lit (.int .u8 62), .lit (.int .u8 47), .lit (.int .u8 59), .lit (.int .u8 36), .lit (.int .u8 45), .lit (.int .u8 43), .lit (.int .u8 51), .lit (.int .u8 22), .lit (.int .u8 53), .lit (.int .u8 39), .lit (.int .u8 33), .lit (.int .u8 30), .lit (.int .u8 24), .lit (.int .u8 18), .lit (.int .u8 12), .lit (.int .u8 5), .lit (.int .u8 63), .lit (.int .u8 55), .lit (.int .u8 48), .lit (.int .u8 27), .lit (.int .u8 60), .lit (.int .u8 41), .lit (.int .u8 37), .lit (.int .u8 16), .lit (.int .u8 46), .lit (.int .u8 35), .lit (.int .u8 44), .lit (.int .u8 21), .lit (.int .u8 52), .lit (.int .u8 32), .lit (.int .u8 23), .lit (.int .u8 11), .lit (.int .u8 54), .lit (.int .u8 26), .lit (.int .u8 40), .lit (.int .u8 15), .lit (.int .u8 34), .lit (.int .u8 20), .lit (.int .u8 31), .lit (.int .u8 10), .lit (.int .u8 25), .lit (.int .u8 14), .lit (.int .u8 19), .lit (.int .u8 9), .lit (.int .u8 13), .lit (.int .u8 8), .lit (.int .u8 7), .lit (.int .u8 6)]
def laid_internal_strconv_uint64pow10 {H : Type} : DataW H := .agg [.lit (.int .u64 1), .lit (.int .u64 10), .lit (.int .u64 100), .lit (.int .u64 1000), .lit (.int .u64 10000), .lit (.int .u64 100000), .lit (.int .u64 1000000), .lit (.int .u64 10000000), .lit (.int .u64 100000000), .lit (.int .u64 1000000000), .lit (.int .u64 10000000000), .lit (.int .u64 100000000000), .lit (.int .u64 1000000000000), .lit (.int .u64 10000000000000), .lit (.int .u64 100000000000000), .lit (.int .u64 1000000000000000), .lit (.int .u64 10000000000000000), .lit (.int .u64 100000000000000000), .lit (.int .u64 1000000000000000000), .lit (.int .u64 10000000000000000000)]

/-- 'ferrymanlaw02.AddrFours': WHATEVER THE INPUT: true; the input reads as it did. -/
def addrFoursSpec : ChangeSpec := { name := "addrFours", fn := fun _ => fun
  | [d1, d2] => { results := [.lit (.bool true)], args := [d1, d2] }
  | _ => none }
def addrFoursRow : OpenClaim := { program := "ytopladipgobpjaadoor", sum := "bd08b2d6445cce2823f91aedcf3c1d361399b92c48f5fbbf408ccbe52d306fdf", func := "ferryman/ferrymanlaw02.AddrFours", spec := "addrFours", inPlace := ["internal/abi.NoEscape", "internal/bytealg.MakeNoZero", "internal/bytealg.IndexByteString", "internal/bytealg.IndexString"], unfollowed := true, recurses := true, named := ["internal/strconv.uint64pow10", "math/bits.deBruijn32tab", "math/bits.deBruijn64tab", "internal/bytealg.MaxLen"], apart := false, laid := [("math/bits.deBruijn32tab", laid_math_bits_deBruijn32tab), ("math/bits.deBruijn64tab", laid_math_bits_deBruijn64tab), ("internal/strconv.uint64pow10", laid_internal_strconv_uint64pow10)] }
def AddrFoursSaid : Prop := addrFoursRow.holds Tryd.pinned (OpenSpec.ofChange addrFoursSpec)

/-- ITS FALSE NEIGHBOUR: 'it returns false'. Refute it at one input. -/
def addrFoursWrong : ChangeSpec := { name := "addrFours", fn := fun _ => fun
  | [d1, d2] => { results := [.lit (.bool false)], args := [d1, d2] }
  | _ => none }
def AddrFoursWrongFalsely : Prop := addrFoursRow.holds Tryd.pinned (OpenSpec.ofChange addrFoursWrong)

/-- 'ferrymanlaw02.AddrSixes': WHATEVER THE INPUT: true; the input reads as it did. -/
def addrSixesSpec : ChangeSpec := { name := "addrSixes", fn := fun _ => fun
  | [d] => { results := [.lit (.bool true)], args := [d] }
  | _ => none }
def addrSixesRow : OpenClaim := { program := "ytopladipgobpjaadoor", sum := "bd08b2d6445cce2823f91aedcf3c1d361399b92c48f5fbbf408ccbe52d306fdf", func := "ferryman/ferrymanlaw02.AddrSixes", spec := "addrSixes", inPlace := ["internal/bytealg.IndexByteString", "internal/bytealg.IndexString", "internal/abi.NoEscape", "internal/bytealg.MakeNoZero"], unfollowed := true, recurses := true, named := ["internal/bytealg.MaxLen", "internal/strconv.uint64pow10", "math/bits.deBruijn32tab", "math/bits.deBruijn64tab"], apart := false, laid := [("math/bits.deBruijn32tab", laid_math_bits_deBruijn32tab), ("math/bits.deBruijn64tab", laid_math_bits_deBruijn64tab), ("internal/strconv.uint64pow10", laid_internal_strconv_uint64pow10)] }
def AddrSixesSaid : Prop := addrSixesRow.holds Tryd.pinned (OpenSpec.ofChange addrSixesSpec)

/-- ITS FALSE NEIGHBOUR: 'it returns false'. Refute it at one input. -/
def addrSixesWrong : ChangeSpec := { name := "addrSixes", fn := fun _ => fun
  | [d] => { results := [.lit (.bool false)], args := [d] }
  | _ => none }
def AddrSixesWrongFalsely : Prop := addrSixesRow.holds Tryd.pinned (OpenSpec.ofChange addrSixesWrong)

/-- 'ferrymanlaw02.AddrOwn': WHATEVER THE INPUT: true; the input reads as it did. -/
def addrOwnSpec : ChangeSpec := { name := "addrOwn", fn := fun _ => fun
  | [d] => { results := [.lit (.bool true)], args := [d] }
  | _ => none }
def addrOwnRow : OpenClaim := { program := "ytopladipgobpjaadoor", sum := "bd08b2d6445cce2823f91aedcf3c1d361399b92c48f5fbbf408ccbe52d306fdf", func := "ferryman/ferrymanlaw02.AddrOwn", spec := "addrOwn", inPlace := ["internal/abi.NoEscape", "internal/bytealg.IndexByteString", "internal/bytealg.IndexString", "internal/bytealg.MakeNoZero"], unfollowed := true, recurses := true, named := ["internal/strconv.uint64pow10", "math/bits.deBruijn32tab", "math/bits.deBruijn64tab", "internal/bytealg.MaxLen"], apart := false, laid := [("math/bits.deBruijn32tab", laid_math_bits_deBruijn32tab), ("math/bits.deBruijn64tab", laid_math_bits_deBruijn64tab), ("internal/strconv.uint64pow10", laid_internal_strconv_uint64pow10)] }
def AddrOwnSaid : Prop := addrOwnRow.holds Tryd.pinned (OpenSpec.ofChange addrOwnSpec)

/-- ITS FALSE NEIGHBOUR: 'it returns false'. Refute it at one input. -/
def addrOwnWrong : ChangeSpec := { name := "addrOwn", fn := fun _ => fun
  | [d] => { results := [.lit (.bool false)], args := [d] }
  | _ => none }
def AddrOwnWrongFalsely : Prop := addrOwnRow.holds Tryd.pinned (OpenSpec.ofChange addrOwnWrong)

/-- 'ferrymanlaw02.AddrBack': WHATEVER THE INPUT: true; the input reads as it did. -/
def addrBackSpec : ChangeSpec := { name := "addrBack", fn := fun _ => fun
  | [d1, d2, d3] => { results := [.lit (.bool true)], args := [d1, d2, d3] }
  | _ => none }
def addrBackRow : OpenClaim := { program := "ytopladipgobpjaadoor", sum := "bd08b2d6445cce2823f91aedcf3c1d361399b92c48f5fbbf408ccbe52d306fdf", func := "ferryman/ferrymanlaw02.AddrBack", spec := "addrBack", inPlace := ["internal/abi.NoEscape", "internal/bytealg.MakeNoZero", "internal/bytealg.IndexByteString", "internal/bytealg.IndexString"], unfollowed := true, recurses := true, named := ["internal/strconv.uint64pow10", "math/bits.deBruijn32tab", "math/bits.deBruijn64tab", "internal/bytealg.MaxLen"], apart := false, laid := [("math/bits.deBruijn32tab", laid_math_bits_deBruijn32tab), ("math/bits.deBruijn64tab", laid_math_bits_deBruijn64tab), ("internal/strconv.uint64pow10", laid_internal_strconv_uint64pow10)] }
def AddrBackSaid : Prop := addrBackRow.holds Tryd.pinned (OpenSpec.ofChange addrBackSpec)

/-- ITS FALSE NEIGHBOUR: 'it returns false'. Refute it at one input. -/
def addrBackWrong : ChangeSpec := { name := "addrBack", fn := fun _ => fun
  | [d1, d2, d3] => { results := [.lit (.bool false)], args := [d1, d2, d3] }
  | _ => none }
def AddrBackWrongFalsely : Prop := addrBackRow.holds Tryd.pinned (OpenSpec.ofChange addrBackWrong)

/-- 'ferrymanlaw02.AddrSets': WHATEVER THE INPUT: true; the input reads as it did. -/
def addrSetsSpec : ChangeSpec := { name := "addrSets", fn := fun _ => fun
  | [d1, d2, d3, d4] => { results := [.lit (.bool true)], args := [d1, d2, d3, d4] }
  | _ => none }
def addrSetsRow : OpenClaim := { program := "ytopladipgobpjaadoor", sum := "bd08b2d6445cce2823f91aedcf3c1d361399b92c48f5fbbf408ccbe52d306fdf", func := "ferryman/ferrymanlaw02.AddrSets", spec := "addrSets", inPlace := ["internal/bytealg.IndexByteString", "internal/bytealg.IndexString", "internal/abi.NoEscape", "internal/bytealg.MakeNoZero"], unfollowed := true, recurses := true, named := ["internal/bytealg.MaxLen", "internal/strconv.uint64pow10", "math/bits.deBruijn32tab", "math/bits.deBruijn64tab"], apart := false, laid := [("math/bits.deBruijn32tab", laid_math_bits_deBruijn32tab), ("math/bits.deBruijn64tab", laid_math_bits_deBruijn64tab), ("internal/strconv.uint64pow10", laid_internal_strconv_uint64pow10)] }
def AddrSetsSaid : Prop := addrSetsRow.holds Tryd.pinned (OpenSpec.ofChange addrSetsSpec)

/-- ITS FALSE NEIGHBOUR: 'it returns false'. Refute it at one input. -/
def addrSetsWrong : ChangeSpec := { name := "addrSets", fn := fun _ => fun
  | [d1, d2, d3, d4] => { results := [.lit (.bool false)], args := [d1, d2, d3, d4] }
  | _ => none }
def AddrSetsWrongFalsely : Prop := addrSetsRow.holds Tryd.pinned (OpenSpec.ofChange addrSetsWrong)

/-- 'ferrymanlaw02.AddrSetsSix': WHATEVER THE INPUT: true; the input reads as it did. -/
def addrSetsSixSpec : ChangeSpec := { name := "addrSetsSix", fn := fun _ => fun
  | [d1, d2, d3, d4] => { results := [.lit (.bool true)], args := [d1, d2, d3, d4] }
  | _ => none }
def addrSetsSixRow : OpenClaim := { program := "ytopladipgobpjaadoor", sum := "bd08b2d6445cce2823f91aedcf3c1d361399b92c48f5fbbf408ccbe52d306fdf", func := "ferryman/ferrymanlaw02.AddrSetsSix", spec := "addrSetsSix", inPlace := ["internal/bytealg.IndexByteString", "internal/bytealg.IndexString", "internal/abi.NoEscape", "internal/bytealg.MakeNoZero"], unfollowed := true, recurses := true, named := ["internal/bytealg.MaxLen", "internal/strconv.uint64pow10", "math/bits.deBruijn32tab", "math/bits.deBruijn64tab"], apart := false, laid := [("math/bits.deBruijn32tab", laid_math_bits_deBruijn32tab), ("math/bits.deBruijn64tab", laid_math_bits_deBruijn64tab), ("internal/strconv.uint64pow10", laid_internal_strconv_uint64pow10)] }
def AddrSetsSixSaid : Prop := addrSetsSixRow.holds Tryd.pinned (OpenSpec.ofChange addrSetsSixSpec)

/-- ITS FALSE NEIGHBOUR: 'it returns false'. Refute it at one input. -/
def addrSetsSixWrong : ChangeSpec := { name := "addrSetsSix", fn := fun _ => fun
  | [d1, d2, d3, d4] => { results := [.lit (.bool false)], args := [d1, d2, d3, d4] }
  | _ => none }
def AddrSetsSixWrongFalsely : Prop := addrSetsSixRow.holds Tryd.pinned (OpenSpec.ofChange addrSetsSixWrong)

/-- 'ferrymanlaw02.AddrChecksSix': WHATEVER THE INPUT: true; the input reads as it did. -/
def addrChecksSixSpec : ChangeSpec := { name := "addrChecksSix", fn := fun _ => fun
  | [d1, d2, d3, d4] => { results := [.lit (.bool true)], args := [d1, d2, d3, d4] }
  | _ => none }
def addrChecksSixRow : OpenClaim := { program := "ytopladipgobpjaadoor", sum := "bd08b2d6445cce2823f91aedcf3c1d361399b92c48f5fbbf408ccbe52d306fdf", func := "ferryman/ferrymanlaw02.AddrChecksSix", spec := "addrChecksSix", inPlace := ["internal/bytealg.IndexByteString", "internal/bytealg.IndexString", "internal/abi.NoEscape", "internal/bytealg.MakeNoZero"], unfollowed := true, recurses := true, named := ["internal/bytealg.MaxLen", "internal/strconv.uint64pow10", "math/bits.deBruijn32tab", "math/bits.deBruijn64tab"], apart := false, laid := [("math/bits.deBruijn32tab", laid_math_bits_deBruijn32tab), ("math/bits.deBruijn64tab", laid_math_bits_deBruijn64tab), ("internal/strconv.uint64pow10", laid_internal_strconv_uint64pow10)] }
def AddrChecksSixSaid : Prop := addrChecksSixRow.holds Tryd.pinned (OpenSpec.ofChange addrChecksSixSpec)

/-- ITS FALSE NEIGHBOUR: 'it returns false'. Refute it at one input. -/
def addrChecksSixWrong : ChangeSpec := { name := "addrChecksSix", fn := fun _ => fun
  | [d1, d2, d3, d4] => { results := [.lit (.bool false)], args := [d1, d2, d3, d4] }
  | _ => none }
def AddrChecksSixWrongFalsely : Prop := addrChecksSixRow.holds Tryd.pinned (OpenSpec.ofChange addrChecksSixWrong)

/-- 'ferrymanlaw02.AddrChecks': WHATEVER THE INPUT: true; the input reads as it did. -/
def addrChecksSpec : ChangeSpec := { name := "addrChecks", fn := fun _ => fun
  | [d1, d2, d3, d4] => { results := [.lit (.bool true)], args := [d1, d2, d3, d4] }
  | _ => none }
def addrChecksRow : OpenClaim := { program := "ytopladipgobpjaadoor", sum := "bd08b2d6445cce2823f91aedcf3c1d361399b92c48f5fbbf408ccbe52d306fdf", func := "ferryman/ferrymanlaw02.AddrChecks", spec := "addrChecks", inPlace := ["internal/bytealg.IndexByteString", "internal/bytealg.IndexString", "internal/abi.NoEscape", "internal/bytealg.MakeNoZero"], unfollowed := true, recurses := true, named := ["internal/bytealg.MaxLen", "internal/strconv.uint64pow10", "math/bits.deBruijn32tab", "math/bits.deBruijn64tab"], apart := false, laid := [("math/bits.deBruijn32tab", laid_math_bits_deBruijn32tab), ("math/bits.deBruijn64tab", laid_math_bits_deBruijn64tab), ("internal/strconv.uint64pow10", laid_internal_strconv_uint64pow10)] }
def AddrChecksSaid : Prop := addrChecksRow.holds Tryd.pinned (OpenSpec.ofChange addrChecksSpec)

/-- ITS FALSE NEIGHBOUR: 'it returns false'. Refute it at one input. -/
def addrChecksWrong : ChangeSpec := { name := "addrChecks", fn := fun _ => fun
  | [d1, d2, d3, d4] => { results := [.lit (.bool false)], args := [d1, d2, d3, d4] }
  | _ => none }
def AddrChecksWrongFalsely : Prop := addrChecksRow.holds Tryd.pinned (OpenSpec.ofChange addrChecksWrong)

/-- 'ferrymanlaw02.AddrPrefixes': WHATEVER THE INPUT: true; the input reads as it did. -/
def addrPrefixesSpec : ChangeSpec := { name := "addrPrefixes", fn := fun _ => fun
  | [d1, d2, d3] => { results := [.lit (.bool true)], args := [d1, d2, d3] }
  | _ => none }
def addrPrefixesRow : OpenClaim := { program := "ytopladipgobpjaadoor", sum := "bd08b2d6445cce2823f91aedcf3c1d361399b92c48f5fbbf408ccbe52d306fdf", func := "ferryman/ferrymanlaw02.AddrPrefixes", spec := "addrPrefixes", inPlace := ["internal/bytealg.IndexByteString", "internal/bytealg.IndexString", "internal/abi.NoEscape", "internal/bytealg.MakeNoZero"], unfollowed := true, recurses := true, named := ["internal/bytealg.MaxLen", "internal/strconv.uint64pow10", "math/bits.deBruijn32tab", "math/bits.deBruijn64tab"], apart := false, laid := [("math/bits.deBruijn32tab", laid_math_bits_deBruijn32tab), ("math/bits.deBruijn64tab", laid_math_bits_deBruijn64tab), ("internal/strconv.uint64pow10", laid_internal_strconv_uint64pow10)] }
def AddrPrefixesSaid : Prop := addrPrefixesRow.holds Tryd.pinned (OpenSpec.ofChange addrPrefixesSpec)

/-- ITS FALSE NEIGHBOUR: 'it returns false'. Refute it at one input. -/
def addrPrefixesWrong : ChangeSpec := { name := "addrPrefixes", fn := fun _ => fun
  | [d1, d2, d3] => { results := [.lit (.bool false)], args := [d1, d2, d3] }
  | _ => none }
def AddrPrefixesWrongFalsely : Prop := addrPrefixesRow.holds Tryd.pinned (OpenSpec.ofChange addrPrefixesWrong)

/-- 'ferrymanlaw02.AddrAgain': WHATEVER THE INPUT: true; the input reads as it did. -/
def addrAgainSpec : ChangeSpec := { name := "addrAgain", fn := fun _ => fun
  | [d] => { results := [.lit (.bool true)], args := [d] }
  | _ => none }
def addrAgainRow : OpenClaim := { program := "ytopladipgobpjaadoor", sum := "bd08b2d6445cce2823f91aedcf3c1d361399b92c48f5fbbf408ccbe52d306fdf", func := "ferryman/ferrymanlaw02.AddrAgain", spec := "addrAgain", inPlace := ["internal/bytealg.IndexByteString", "internal/bytealg.IndexString", "internal/abi.NoEscape", "internal/bytealg.MakeNoZero"], unfollowed := true, recurses := true, named := ["internal/bytealg.MaxLen", "internal/strconv.uint64pow10", "math/bits.deBruijn32tab", "math/bits.deBruijn64tab"], apart := false, laid := [("math/bits.deBruijn32tab", laid_math_bits_deBruijn32tab), ("math/bits.deBruijn64tab", laid_math_bits_deBruijn64tab), ("internal/strconv.uint64pow10", laid_internal_strconv_uint64pow10)] }
def AddrAgainSaid : Prop := addrAgainRow.holds Tryd.pinned (OpenSpec.ofChange addrAgainSpec)

/-- ITS FALSE NEIGHBOUR: 'it returns false'. Refute it at one input. -/
def addrAgainWrong : ChangeSpec := { name := "addrAgain", fn := fun _ => fun
  | [d] => { results := [.lit (.bool false)], args := [d] }
  | _ => none }
def AddrAgainWrongFalsely : Prop := addrAgainRow.holds Tryd.pinned (OpenSpec.ofChange addrAgainWrong)

/- THE SECOND FORM. 'bulk': how many values and letters a reading holds, each counted each time it is reached (what is shared counts as often as it is met; a slice's spare places count too). A statement '..UptoSaid' is the law's where the arguments, and the package variables that the reading takes, are together of bulk at most 1048576: NARROWER than '..Said'. Prove '..Said' where nothing that the law and all that it calls make is longer than what came in: it says more and counts as full. Else prove '..UptoSaid'. A law counts once. -/
mutual
def uptoBulk {H : Type} : DataW H → Nat
  | .lit (.string bytes) => bytes.length + 1
  | .lit _ => 1
  | .nil => 1
  | .ptr d => uptoBulk d + 1
  | .slice elems spare => uptoBulkAll elems + uptoBulkAll spare + 1
  | .agg parts => uptoBulkAll parts + 1
  | .iface _ d => uptoBulk d + 1
  | .map entries => uptoBulkEntries entries + 1
  | .held _ => 1
def uptoBulkAll {H : Type} : List (DataW H) → Nat
  | [] => 0
  | d :: r => uptoBulk d + uptoBulkAll r
def uptoBulkEntries {H : Type} : List (Lit × DataW H) → Nat
  | [] => 0
  | x :: r => uptoBulkEntry x + uptoBulkEntries r
def uptoBulkEntry {H : Type} : Lit × DataW H → Nat
  | (.string bytes, d) => bytes.length + uptoBulk d + 1
  | (_, d) => uptoBulk d + 1
 end
def uptoSmall : (H : Type) → List (DataW H) → Bool := fun _ ds => decide (uptoBulkAll ds ≤ 1048576)
def OpenSpec.upto (s : _root_.Go.ChangeSpec) : _root_.Go.OpenSpec := { _root_.Go.OpenSpec.ofChange s with cond := some uptoSmall }

/-- 'ferrymanlaw02.AddrFours', WHERE WHAT IT READS IS OF BULK AT MOST 1048576: true; the input reads as it did. -/
def addrFoursUptoRow : OpenClaim := { program := "ytopladipgobpjaadoor", sum := "bd08b2d6445cce2823f91aedcf3c1d361399b92c48f5fbbf408ccbe52d306fdf", func := "ferryman/ferrymanlaw02.AddrFours", spec := "addrFours", inPlace := ["internal/abi.NoEscape", "internal/bytealg.MakeNoZero", "internal/bytealg.IndexByteString", "internal/bytealg.IndexString"], unfollowed := true, recurses := true, named := ["internal/strconv.uint64pow10", "math/bits.deBruijn32tab", "math/bits.deBruijn64tab", "internal/bytealg.MaxLen"], apart := false, laid := [("math/bits.deBruijn32tab", laid_math_bits_deBruijn32tab), ("math/bits.deBruijn64tab", laid_math_bits_deBruijn64tab), ("internal/strconv.uint64pow10", laid_internal_strconv_uint64pow10)], narrowed := true }
def AddrFoursUptoSaid : Prop := addrFoursUptoRow.holds Tryd.pinned (OpenSpec.upto addrFoursSpec)

/-- 'ferrymanlaw02.AddrSixes', WHERE WHAT IT READS IS OF BULK AT MOST 1048576: true; the input reads as it did. -/
def addrSixesUptoRow : OpenClaim := { program := "ytopladipgobpjaadoor", sum := "bd08b2d6445cce2823f91aedcf3c1d361399b92c48f5fbbf408ccbe52d306fdf", func := "ferryman/ferrymanlaw02.AddrSixes", spec := "addrSixes", inPlace := ["internal/bytealg.IndexByteString", "internal/bytealg.IndexString", "internal/abi.NoEscape", "internal/bytealg.MakeNoZero"], unfollowed := true, recurses := true, named := ["internal/bytealg.MaxLen", "internal/strconv.uint64pow10", "math/bits.deBruijn32tab", "math/bits.deBruijn64tab"], apart := false, laid := [("math/bits.deBruijn32tab", laid_math_bits_deBruijn32tab), ("math/bits.deBruijn64tab", laid_math_bits_deBruijn64tab), ("internal/strconv.uint64pow10", laid_internal_strconv_uint64pow10)], narrowed := true }
def AddrSixesUptoSaid : Prop := addrSixesUptoRow.holds Tryd.pinned (OpenSpec.upto addrSixesSpec)

/-- 'ferrymanlaw02.AddrOwn', WHERE WHAT IT READS IS OF BULK AT MOST 1048576: true; the input reads as it did. -/
def addrOwnUptoRow : OpenClaim := { program := "ytopladipgobpjaadoor", sum := "bd08b2d6445cce2823f91aedcf3c1d361399b92c48f5fbbf408ccbe52d306fdf", func := "ferryman/ferrymanlaw02.AddrOwn", spec := "addrOwn", inPlace := ["internal/abi.NoEscape", "internal/bytealg.IndexByteString", "internal/bytealg.IndexString", "internal/bytealg.MakeNoZero"], unfollowed := true, recurses := true, named := ["internal/strconv.uint64pow10", "math/bits.deBruijn32tab", "math/bits.deBruijn64tab", "internal/bytealg.MaxLen"], apart := false, laid := [("math/bits.deBruijn32tab", laid_math_bits_deBruijn32tab), ("math/bits.deBruijn64tab", laid_math_bits_deBruijn64tab), ("internal/strconv.uint64pow10", laid_internal_strconv_uint64pow10)], narrowed := true }
def AddrOwnUptoSaid : Prop := addrOwnUptoRow.holds Tryd.pinned (OpenSpec.upto addrOwnSpec)

/-- 'ferrymanlaw02.AddrBack', WHERE WHAT IT READS IS OF BULK AT MOST 1048576: true; the input reads as it did. -/
def addrBackUptoRow : OpenClaim := { program := "ytopladipgobpjaadoor", sum := "bd08b2d6445cce2823f91aedcf3c1d361399b92c48f5fbbf408ccbe52d306fdf", func := "ferryman/ferrymanlaw02.AddrBack", spec := "addrBack", inPlace := ["internal/abi.NoEscape", "internal/bytealg.MakeNoZero", "internal/bytealg.IndexByteString", "internal/bytealg.IndexString"], unfollowed := true, recurses := true, named := ["internal/strconv.uint64pow10", "math/bits.deBruijn32tab", "math/bits.deBruijn64tab", "internal/bytealg.MaxLen"], apart := false, laid := [("math/bits.deBruijn32tab", laid_math_bits_deBruijn32tab), ("math/bits.deBruijn64tab", laid_math_bits_deBruijn64tab), ("internal/strconv.uint64pow10", laid_internal_strconv_uint64pow10)], narrowed := true }
def AddrBackUptoSaid : Prop := addrBackUptoRow.holds Tryd.pinned (OpenSpec.upto addrBackSpec)

/-- 'ferrymanlaw02.AddrSets', WHERE WHAT IT READS IS OF BULK AT MOST 1048576: true; the input reads as it did. -/
def addrSetsUptoRow : OpenClaim := { program := "ytopladipgobpjaadoor", sum := "bd08b2d6445cce2823f91aedcf3c1d361399b92c48f5fbbf408ccbe52d306fdf", func := "ferryman/ferrymanlaw02.AddrSets", spec := "addrSets", inPlace := ["internal/bytealg.IndexByteString", "internal/bytealg.IndexString", "internal/abi.NoEscape", "internal/bytealg.MakeNoZero"], unfollowed := true, recurses := true, named := ["internal/bytealg.MaxLen", "internal/strconv.uint64pow10", "math/bits.deBruijn32tab", "math/bits.deBruijn64tab"], apart := false, laid := [("math/bits.deBruijn32tab", laid_math_bits_deBruijn32tab), ("math/bits.deBruijn64tab", laid_math_bits_deBruijn64tab), ("internal/strconv.uint64pow10", laid_internal_strconv_uint64pow10)], narrowed := true }
def AddrSetsUptoSaid : Prop := addrSetsUptoRow.holds Tryd.pinned (OpenSpec.upto addrSetsSpec)

/-- 'ferrymanlaw02.AddrSetsSix', WHERE WHAT IT READS IS OF BULK AT MOST 1048576: true; the input reads as it did. -/
def addrSetsSixUptoRow : OpenClaim := { program := "ytopladipgobpjaadoor", sum := "bd08b2d6445cce2823f91aedcf3c1d361399b92c48f5fbbf408ccbe52d306fdf", func := "ferryman/ferrymanlaw02.AddrSetsSix", spec := "addrSetsSix", inPlace := ["internal/bytealg.IndexByteString", "internal/bytealg.IndexString", "internal/abi.NoEscape", "internal/bytealg.MakeNoZero"], unfollowed := true, recurses := true, named := ["internal/bytealg.MaxLen", "internal/strconv.uint64pow10", "math/bits.deBruijn32tab", "math/bits.deBruijn64tab"], apart := false, laid := [("math/bits.deBruijn32tab", laid_math_bits_deBruijn32tab), ("math/bits.deBruijn64tab", laid_math_bits_deBruijn64tab), ("internal/strconv.uint64pow10", laid_internal_strconv_uint64pow10)], narrowed := true }
def AddrSetsSixUptoSaid : Prop := addrSetsSixUptoRow.holds Tryd.pinned (OpenSpec.upto addrSetsSixSpec)

/-- 'ferrymanlaw02.AddrChecksSix', WHERE WHAT IT READS IS OF BULK AT MOST 1048576: true; the input reads as it did. -/
def addrChecksSixUptoRow : OpenClaim := { program := "ytopladipgobpjaadoor", sum := "bd08b2d6445cce2823f91aedcf3c1d361399b92c48f5fbbf408ccbe52d306fdf", func := "ferryman/ferrymanlaw02.AddrChecksSix", spec := "addrChecksSix", inPlace := ["internal/bytealg.IndexByteString", "internal/bytealg.IndexString", "internal/abi.NoEscape", "internal/bytealg.MakeNoZero"], unfollowed := true, recurses := true, named := ["internal/bytealg.MaxLen", "internal/strconv.uint64pow10", "math/bits.deBruijn32tab", "math/bits.deBruijn64tab"], apart := false, laid := [("math/bits.deBruijn32tab", laid_math_bits_deBruijn32tab), ("math/bits.deBruijn64tab", laid_math_bits_deBruijn64tab), ("internal/strconv.uint64pow10", laid_internal_strconv_uint64pow10)], narrowed := true }
def AddrChecksSixUptoSaid : Prop := addrChecksSixUptoRow.holds Tryd.pinned (OpenSpec.upto addrChecksSixSpec)

/-- 'ferrymanlaw02.AddrChecks', WHERE WHAT IT READS IS OF BULK AT MOST 1048576: true; the input reads as it did. -/
def addrChecksUptoRow : OpenClaim := { program := "ytopladipgobpjaadoor", sum := "bd08b2d6445cce2823f91aedcf3c1d361399b92c48f5fbbf408ccbe52d306fdf", func := "ferryman/ferrymanlaw02.AddrChecks", spec := "addrChecks", inPlace := ["internal/bytealg.IndexByteString", "internal/bytealg.IndexString", "internal/abi.NoEscape", "internal/bytealg.MakeNoZero"], unfollowed := true, recurses := true, named := ["internal/bytealg.MaxLen", "internal/strconv.uint64pow10", "math/bits.deBruijn32tab", "math/bits.deBruijn64tab"], apart := false, laid := [("math/bits.deBruijn32tab", laid_math_bits_deBruijn32tab), ("math/bits.deBruijn64tab", laid_math_bits_deBruijn64tab), ("internal/strconv.uint64pow10", laid_internal_strconv_uint64pow10)], narrowed := true }
def AddrChecksUptoSaid : Prop := addrChecksUptoRow.holds Tryd.pinned (OpenSpec.upto addrChecksSpec)

/-- 'ferrymanlaw02.AddrPrefixes', WHERE WHAT IT READS IS OF BULK AT MOST 1048576: true; the input reads as it did. -/
def addrPrefixesUptoRow : OpenClaim := { program := "ytopladipgobpjaadoor", sum := "bd08b2d6445cce2823f91aedcf3c1d361399b92c48f5fbbf408ccbe52d306fdf", func := "ferryman/ferrymanlaw02.AddrPrefixes", spec := "addrPrefixes", inPlace := ["internal/bytealg.IndexByteString", "internal/bytealg.IndexString", "internal/abi.NoEscape", "internal/bytealg.MakeNoZero"], unfollowed := true, recurses := true, named := ["internal/bytealg.MaxLen", "internal/strconv.uint64pow10", "math/bits.deBruijn32tab", "math/bits.deBruijn64tab"], apart := false, laid := [("math/bits.deBruijn32tab", laid_math_bits_deBruijn32tab), ("math/bits.deBruijn64tab", laid_math_bits_deBruijn64tab), ("internal/strconv.uint64pow10", laid_internal_strconv_uint64pow10)], narrowed := true }
def AddrPrefixesUptoSaid : Prop := addrPrefixesUptoRow.holds Tryd.pinned (OpenSpec.upto addrPrefixesSpec)

/-- 'ferrymanlaw02.AddrAgain', WHERE WHAT IT READS IS OF BULK AT MOST 1048576: true; the input reads as it did. -/
def addrAgainUptoRow : OpenClaim := { program := "ytopladipgobpjaadoor", sum := "bd08b2d6445cce2823f91aedcf3c1d361399b92c48f5fbbf408ccbe52d306fdf", func := "ferryman/ferrymanlaw02.AddrAgain", spec := "addrAgain", inPlace := ["internal/bytealg.IndexByteString", "internal/bytealg.IndexString", "internal/abi.NoEscape", "internal/bytealg.MakeNoZero"], unfollowed := true, recurses := true, named := ["internal/bytealg.MaxLen", "internal/strconv.uint64pow10", "math/bits.deBruijn32tab", "math/bits.deBruijn64tab"], apart := false, laid := [("math/bits.deBruijn32tab", laid_math_bits_deBruijn32tab), ("math/bits.deBruijn64tab", laid_math_bits_deBruijn64tab), ("internal/strconv.uint64pow10", laid_internal_strconv_uint64pow10)], narrowed := true }
def AddrAgainUptoSaid : Prop := addrAgainUptoRow.holds Tryd.pinned (OpenSpec.upto addrAgainSpec)

end Rows
end Go.Proofs.YtopladipgobpjaaDoor
