/-
  No cell of these rows narrows 'for every input' (looked for: loops, veiled, ifaces, maps, wideKeys, modest, calm, conditions, laid).
  DERIVED. THE GIVEN ROWS OF THIS SEAT. 4 by the template 'for every input the law returns true; each argument reads behind the call as it read before'; 0 by the template 'total and deterministic' (their statements: YtheaklgkfagdiaaTotals.lean).
  GIVEN WITH THE SEED: the statements are not yours to turn. If you find one false, say at which input.
  Laid BY PROGRAM, IN A SANDBOX (cutbox-rows.mjs): the forced cells as the released guide's own fill.sh prints them over the translation cb87989d181614ff… (all of the seat's roots in one cut). By AI agents, Wed Nov 11 2026. No macro, syntax, notation, axiom, sorry.
-/
import Derived.Test.YtheaklgkfagdiaaChecked
import GoSem.Claim
import GoSem.ClaimJoined
import GoSem.ClaimMapViews
import Derived.JoinedTies
import Derived.KernelRfl
namespace Go.Proofs.Ytheaklgkfagdiaa
/- THE CELL 'sum', in the pinned program and in every row, IS THE sha256 OF THE DUMP (.gsa) THAT YtheaklgkfagdiaaProg.lean LOADS. Nothing in Lean hashes anything: it is a label: what it is worth is what the hold of that sum in a sandbox is worth. -/
noncomputable def Try.pinned : Pinned := { name := "ytheaklgkfagdiaa", sum := "cb87989d181614ffbe4d0eeb0d68859184736b86a3cf5f1d5a581e23351acab5", checked := Try.checked }
namespace Rows
def none {H : Type} : Left H := { results := [], args := [] }

/-- 'ferrymanlaw16.PathmtuFalls': WHATEVER THE INPUT: true; the input reads as it did. -/
def pathmtuFallsSpec : ChangeSpec := { name := "pathmtuFalls", fn := fun _ => fun
  | [d1, d2, d3] => { results := [.lit (.bool true)], args := [d1, d2, d3] }
  | _ => none }
def pathmtuFallsRow : OpenClaim := { program := "ytheaklgkfagdiaa", sum := "cb87989d181614ffbe4d0eeb0d68859184736b86a3cf5f1d5a581e23351acab5", func := "ferryman/ferrymanlaw16.PathmtuFalls", spec := "pathmtuFalls", inPlace := ["internal/bytealg.Compare"], unfollowed := true, recurses := true, plainKeys := false, apart := false }
def PathmtuFallsSaid : Prop := pathmtuFallsRow.holds Try.pinned (OpenSpec.ofChange pathmtuFallsSpec)

/-- ITS FALSE NEIGHBOUR: 'it returns false'. Refute it at one input. -/
def pathmtuFallsWrong : ChangeSpec := { name := "pathmtuFalls", fn := fun _ => fun
  | [d1, d2, d3] => { results := [.lit (.bool false)], args := [d1, d2, d3] }
  | _ => none }
def PathmtuFallsWrongFalsely : Prop := pathmtuFallsRow.holds Try.pinned (OpenSpec.ofChange pathmtuFallsWrong)

/-- 'ferrymanlaw16.PathmtuBounds': WHATEVER THE INPUT: true; the input reads as it did. -/
def pathmtuBoundsSpec : ChangeSpec := { name := "pathmtuBounds", fn := fun _ => fun
  | [d1, d2] => { results := [.lit (.bool true)], args := [d1, d2] }
  | _ => none }
def pathmtuBoundsRow : OpenClaim := { program := "ytheaklgkfagdiaa", sum := "cb87989d181614ffbe4d0eeb0d68859184736b86a3cf5f1d5a581e23351acab5", func := "ferryman/ferrymanlaw16.PathmtuBounds", spec := "pathmtuBounds", inPlace := ["internal/bytealg.Compare"], unfollowed := true, recurses := true, plainKeys := false, apart := false }
def PathmtuBoundsSaid : Prop := pathmtuBoundsRow.holds Try.pinned (OpenSpec.ofChange pathmtuBoundsSpec)

/-- ITS FALSE NEIGHBOUR: 'it returns false'. Refute it at one input. -/
def pathmtuBoundsWrong : ChangeSpec := { name := "pathmtuBounds", fn := fun _ => fun
  | [d1, d2] => { results := [.lit (.bool false)], args := [d1, d2] }
  | _ => none }
def PathmtuBoundsWrongFalsely : Prop := pathmtuBoundsRow.holds Try.pinned (OpenSpec.ofChange pathmtuBoundsWrong)

/-- 'ferrymanlaw16.PathmtuRuns': WHATEVER THE INPUT: true; the input reads as it did. -/
def pathmtuRunsSpec : ChangeSpec := { name := "pathmtuRuns", fn := fun _ => fun
  | [d1, d2] => { results := [.lit (.bool true)], args := [d1, d2] }
  | _ => none }
def pathmtuRunsRow : OpenClaim := { program := "ytheaklgkfagdiaa", sum := "cb87989d181614ffbe4d0eeb0d68859184736b86a3cf5f1d5a581e23351acab5", func := "ferryman/ferrymanlaw16.PathmtuRuns", spec := "pathmtuRuns", inPlace := ["internal/bytealg.Compare"], unfollowed := true, recurses := true, plainKeys := false, apart := false }
def PathmtuRunsSaid : Prop := pathmtuRunsRow.holds Try.pinned (OpenSpec.ofChange pathmtuRunsSpec)

/-- ITS FALSE NEIGHBOUR: 'it returns false'. Refute it at one input. -/
def pathmtuRunsWrong : ChangeSpec := { name := "pathmtuRuns", fn := fun _ => fun
  | [d1, d2] => { results := [.lit (.bool false)], args := [d1, d2] }
  | _ => none }
def PathmtuRunsWrongFalsely : Prop := pathmtuRunsRow.holds Try.pinned (OpenSpec.ofChange pathmtuRunsWrong)

/-- 'ferrymanlaw16.PathmtuNobody': WHATEVER THE INPUT: true; the input reads as it did. -/
def pathmtuNobodySpec : ChangeSpec := { name := "pathmtuNobody", fn := fun _ => fun
  | [d] => { results := [.lit (.bool true)], args := [d] }
  | _ => none }
def pathmtuNobodyRow : OpenClaim := { program := "ytheaklgkfagdiaa", sum := "cb87989d181614ffbe4d0eeb0d68859184736b86a3cf5f1d5a581e23351acab5", func := "ferryman/ferrymanlaw16.PathmtuNobody", spec := "pathmtuNobody", inPlace := ["internal/bytealg.Compare"], unfollowed := true, recurses := true, plainKeys := false, apart := false }
def PathmtuNobodySaid : Prop := pathmtuNobodyRow.holds Try.pinned (OpenSpec.ofChange pathmtuNobodySpec)

/-- ITS FALSE NEIGHBOUR: 'it returns false'. Refute it at one input. -/
def pathmtuNobodyWrong : ChangeSpec := { name := "pathmtuNobody", fn := fun _ => fun
  | [d] => { results := [.lit (.bool false)], args := [d] }
  | _ => none }
def PathmtuNobodyWrongFalsely : Prop := pathmtuNobodyRow.holds Try.pinned (OpenSpec.ofChange pathmtuNobodyWrong)

/- THE SECOND FORM. 'bulk': how many values and letters a reading holds, each counted each time it is reached (what is shared counts as often as it is met; a slice's spare places count too). A statement '..UptoSaid' is the law's where the arguments, and the package variables that the reading takes, are together of bulk at most 1048576: NARROWER than '..Said'. Prove '..Said' where nothing that the law and all that it calls make is longer than what came in: it says more and counts as full. Else prove '..UptoSaid'. A law counts once. -/
mutual
def uptoBulk {H : Type} : DataW H → Nat
  | .lit (.string bytes) => bytes.length + 1
  | .lit _ => 1
  | .nil => 1
  | .ptr d => uptoBulk d + 1
  | .slice elems spare => uptoBulkAll elems + uptoBulkAll spare + 1
  | .agg parts => uptoBulkAll parts + 1
  | .iface _ d => uptoBulk d + 1
  | .map entries => uptoBulkEntries entries + 1
  | .held _ => 1
def uptoBulkAll {H : Type} : List (DataW H) → Nat
  | [] => 0
  | d :: r => uptoBulk d + uptoBulkAll r
def uptoBulkEntries {H : Type} : List (Lit × DataW H) → Nat
  | [] => 0
  | x :: r => uptoBulkEntry x + uptoBulkEntries r
def uptoBulkEntry {H : Type} : Lit × DataW H → Nat
  | (.string bytes, d) => bytes.length + uptoBulk d + 1
  | (_, d) => uptoBulk d + 1
 end
def uptoSmall : (H : Type) → List (DataW H) → Bool := fun _ ds => decide (uptoBulkAll ds ≤ 1048576)
def OpenSpec.upto (s : _root_.Go.ChangeSpec) : _root_.Go.OpenSpec := { _root_.Go.OpenSpec.ofChange s with cond := some uptoSmall }

/-- 'ferrymanlaw16.PathmtuFalls', WHERE WHAT IT READS IS OF BULK AT MOST 1048576: true; the input reads as it did. -/
def pathmtuFallsUptoRow : OpenClaim := { program := "ytheaklgkfagdiaa", sum := "cb87989d181614ffbe4d0eeb0d68859184736b86a3cf5f1d5a581e23351acab5", func := "ferryman/ferrymanlaw16.PathmtuFalls", spec := "pathmtuFalls", inPlace := ["internal/bytealg.Compare"], unfollowed := true, recurses := true, plainKeys := false, apart := false, narrowed := true }
def PathmtuFallsUptoSaid : Prop := pathmtuFallsUptoRow.holds Try.pinned (OpenSpec.upto pathmtuFallsSpec)

/-- 'ferrymanlaw16.PathmtuBounds', WHERE WHAT IT READS IS OF BULK AT MOST 1048576: true; the input reads as it did. -/
def pathmtuBoundsUptoRow : OpenClaim := { program := "ytheaklgkfagdiaa", sum := "cb87989d181614ffbe4d0eeb0d68859184736b86a3cf5f1d5a581e23351acab5", func := "ferryman/ferrymanlaw16.PathmtuBounds", spec := "pathmtuBounds", inPlace := ["internal/bytealg.Compare"], unfollowed := true, recurses := true, plainKeys := false, apart := false, narrowed := true }
def PathmtuBoundsUptoSaid : Prop := pathmtuBoundsUptoRow.holds Try.pinned (OpenSpec.upto pathmtuBoundsSpec)

/-- 'ferrymanlaw16.PathmtuRuns', WHERE WHAT IT READS IS OF BULK AT MOST 1048576: true; the input reads as it did. -/
def pathmtuRunsUptoRow : OpenClaim := { program := "ytheaklgkfagdiaa", sum := "cb87989d181614ffbe4d0eeb0d68859184736b86a3cf5f1d5a581e23351acab5", func := "ferryman/ferrymanlaw16.PathmtuRuns", spec := "pathmtuRuns", inPlace := ["internal/bytealg.Compare"], unfollowed := true, recurses := true, plainKeys := false, apart := false, narrowed := true }
def PathmtuRunsUptoSaid : Prop := pathmtuRunsUptoRow.holds Try.pinned (OpenSpec.upto pathmtuRunsSpec)

/-- 'ferrymanlaw16.PathmtuNobody', WHERE WHAT IT READS IS OF BULK AT MOST 1048576: true; the input reads as it did. -/
def pathmtuNobodyUptoRow : OpenClaim := { program := "ytheaklgkfagdiaa", sum := "cb87989d181614ffbe4d0eeb0d68859184736b86a3cf5f1d5a581e23351acab5", func := "ferryman/ferrymanlaw16.PathmtuNobody", spec := "pathmtuNobody", inPlace := ["internal/bytealg.Compare"], unfollowed := true, recurses := true, plainKeys := false, apart := false, narrowed := true }
def PathmtuNobodyUptoSaid : Prop := pathmtuNobodyUptoRow.holds Try.pinned (OpenSpec.upto pathmtuNobodySpec)

end Rows
end Go.Proofs.Ytheaklgkfagdiaa
