/-
  AddrFours: whatever the text and the address, the law returns true, and the arguments read as they did. Condition (the card's own): the three listed tables read as the program's text lays them.
-/
import Derived.Test.YtopladipgobpjaaDoorRParse4
import Derived.Test.YtopladipgobpjaaDoorCards
import Derived.Test.YtopladipgobpjaaDoorTie
import Derived.SevenTiedAt
import Derived.ChangeMaps
namespace Go.Proofs.YtopladipgobpjaaDoor
open Go Go.Fm Go.ChangeShapes Go.WideShapes Go.ChangeAt Go.RowKit

/-- the answer's bytes, place and error -/
def pb (l : List UInt8) (i : Nat) : Int := match p4R l with
  | (some v, _) => v.getD i 0
  | (none, _) => 0
def pn (l : List UInt8) : Int := match p4R l with
  | (some _, _) => 0
  | (none, n) => n
def pe (l : List UInt8) : Int := match p4R l with
  | (some _, _) => 0
  | (none, _) => 20

theorem p4R_four {l : List UInt8} {v : List Int} {n : Nat} (h : p4R l = (some v, n)) : v.length = 4 := by
  unfold p4R at h
  split at h
  · cases h
  · split at h
    · rename_i w hg
      injection h with h1 _
      injection h1 with h1
      subst h1
      exact gv_some_len _ _ _ _ _ hg
    · cases h

theorem p4V_eq (l : List UInt8) : p4V l = .tuple ⟨[.agg ⟨[.int .u8 (pb l 0), .int .u8 (pb l 1), .int .u8 (pb l 2), .int .u8 (pb l 3)]⟩, .int .i64 (pn l), .int .i64 (pe l)]⟩ := by
  unfold p4V pb pn pe
  cases h : p4R l with
  | mk o n =>
    cases o with
    | none => rfl
    | some v =>
      have h4 := p4R_four h
      match v, h4 with
      | [a, b, c, d], _ => rfl

theorem flat_p4 (l : List UInt8) : Flat (.tuple ⟨[.agg ⟨[.int .u8 (pb l 0), .int .u8 (pb l 1), .int .u8 (pb l 2), .int .u8 (pb l 3)]⟩, .int .i64 (pn l), .int .i64 (pe l)]⟩) := by
  refine .tuple fun i v e => ?_
  have hm := List.mem_of_getElem? (show ([.agg ⟨[.int .u8 (pb l 0), .int .u8 (pb l 1), .int .u8 (pb l 2), .int .u8 (pb l 3)]⟩, .int .i64 (pn l), .int .i64 (pe l)] : List Value)[i]? = some v by simpa using e)
  simp only [List.mem_cons, List.not_mem_nil, or_false] at hm
  rcases hm with rfl | rfl | rfl
  · exact flat_bytes [pb l 0, pb l 1, pb l 2, pb l 3] [] none_mem
  · exact .int _ _
  · exact .int _ _

theorem fours_T (l : List UInt8) (a0 a1 a2 a3 : Int) (Q : Res → Prop) : ((SpecC Tryd.prog [0, 2, 3] (.fn 13) [(.string (bs (l)))] [.cells pow10 true, .dead, .cells tab32 true, .cells tab64 true, .cells [(.int .u8 a0), (.int .u8 a1), (.int .u8 a2), (.int .u8 a3)] false] (fun r h' => ∃ ia, ((fun _ : Unit => (True, Res.ret (.tuple ⟨[(.agg ⟨[(.int .u8 (pb l 0)), (.int .u8 (pb l 1)), (.int .u8 (pb l 2)), (.int .u8 (pb l 3))]⟩), (.int .i64 (pn l)), (.int .i64 (pe l))]⟩), ([.cells pow10 true, .dead, .cells tab32 true, .cells tab64 true, .cells [(.int .u8 a0), (.int .u8 a1), (.int .u8 a2), (.int .u8 a3)] false] : AHeap))) ia).1 ∧ r = ((fun _ : Unit => (True, Res.ret (.tuple ⟨[(.agg ⟨[(.int .u8 (pb l 0)), (.int .u8 (pb l 1)), (.int .u8 (pb l 2)), (.int .u8 (pb l 3))]⟩), (.int .i64 (pn l)), (.int .i64 (pe l))]⟩), ([.cells pow10 true, .dead, .cells tab32 true, .cells tab64 true, .cells [(.int .u8 a0), (.int .u8 a1), (.int .u8 a2), (.int .u8 a3)] false] : AHeap))) ia).2.1 ∧ h' = ((fun _ : Unit => (True, Res.ret (.tuple ⟨[(.agg ⟨[(.int .u8 (pb l 0)), (.int .u8 (pb l 1)), (.int .u8 (pb l 2)), (.int .u8 (pb l 3))]⟩), (.int .i64 (pn l)), (.int .i64 (pe l))]⟩), ([.cells pow10 true, .dead, .cells tab32 true, .cells tab64 true, .cells [(.int .u8 a0), (.int .u8 a1), (.int .u8 a2), (.int .u8 a3)] false] : AHeap))) ia).2.2) ∧ ∀ _ : Unit, True → 
  (SpecC Tryd.prog [0, 2, 3] (.fn 14) [(.string (bs (l)))] [.cells pow10 true, .dead, .cells tab32 true, .cells tab64 true, .cells [(.int .u8 a0), (.int .u8 a1), (.int .u8 a2), (.int .u8 a3)] false, .tcells [(.int .u8 (pb l 0)), (.int .u8 (pb l 1)), (.int .u8 (pb l 2)), (.int .u8 (pb l 3))] 23 (some 0)] (fun r h' => ∃ ia, ((fun _ : Unit => (True, Res.ret (.tuple ⟨[(.agg ⟨[(.int .u8 (pb l 0)), (.int .u8 (pb l 1)), (.int .u8 (pb l 2)), (.int .u8 (pb l 3))]⟩), (.int .i64 (pn l)), (.int .i64 (pe l))]⟩), ([.cells pow10 true, .dead, .cells tab32 true, .cells tab64 true, .cells [(.int .u8 a0), (.int .u8 a1), (.int .u8 a2), (.int .u8 a3)] false, .tcells [(.int .u8 (pb l 0)), (.int .u8 (pb l 1)), (.int .u8 (pb l 2)), (.int .u8 (pb l 3))] 23 (some 0)] : AHeap))) ia).1 ∧ r = ((fun _ : Unit => (True, Res.ret (.tuple ⟨[(.agg ⟨[(.int .u8 (pb l 0)), (.int .u8 (pb l 1)), (.int .u8 (pb l 2)), (.int .u8 (pb l 3))]⟩), (.int .i64 (pn l)), (.int .i64 (pe l))]⟩), ([.cells pow10 true, .dead, .cells tab32 true, .cells tab64 true, .cells [(.int .u8 a0), (.int .u8 a1), (.int .u8 a2), (.int .u8 a3)] false, .tcells [(.int .u8 (pb l 0)), (.int .u8 (pb l 1)), (.int .u8 (pb l 2)), (.int .u8 (pb l 3))] 23 (some 0)] : AHeap))) ia).2.1 ∧ h' = ((fun _ : Unit => (True, Res.ret (.tuple ⟨[(.agg ⟨[(.int .u8 (pb l 0)), (.int .u8 (pb l 1)), (.int .u8 (pb l 2)), (.int .u8 (pb l 3))]⟩), (.int .i64 (pn l)), (.int .i64 (pe l))]⟩), ([.cells pow10 true, .dead, .cells tab32 true, .cells tab64 true, .cells [(.int .u8 a0), (.int .u8 a1), (.int .u8 a2), (.int .u8 a3)] false, .tcells [(.int .u8 (pb l 0)), (.int .u8 (pb l 1)), (.int .u8 (pb l 2)), (.int .u8 (pb l 3))] 23 (some 0)] : AHeap))) ia).2.2) ∧ ∀ _ : Unit, True → 
  ((∃ z1 : Bool, aBin2 Tryd.prog BinOp.eql 23 (Operand.tmp 23) (Operand.tmp 24) (.agg ⟨[(.int .u8 (pb l 0)), (.int .u8 (pb l 1)), (.int .u8 (pb l 2)), (.int .u8 (pb l 3))]⟩) (.agg ⟨[(.int .u8 (pb l 0)), (.int .u8 (pb l 1)), (.int .u8 (pb l 2)), (.int .u8 (pb l 3))]⟩) = some (.bool z1)) ∧
   (aBin2 Tryd.prog BinOp.eql 23 (Operand.tmp 23) (Operand.tmp 24) (.agg ⟨[(.int .u8 (pb l 0)), (.int .u8 (pb l 1)), (.int .u8 (pb l 2)), (.int .u8 (pb l 3))]⟩) (.agg ⟨[(.int .u8 (pb l 0)), (.int .u8 (pb l 1)), (.int .u8 (pb l 2)), (.int .u8 (pb l 3))]⟩) = some (.bool true) → 
    (((pn l == pn l) = true → 
      (((pe l == pe l) = true → 
        (SpecC Tryd.prog [0, 2, 3] (.fn 15) [(.agg ⟨[(.int .u8 a0), (.int .u8 a1), (.int .u8 a2), (.int .u8 a3)]⟩)] [.cells pow10 true, .dead, .cells tab32 true, .cells tab64 true, .cells [(.int .u8 a0), (.int .u8 a1), (.int .u8 a2), (.int .u8 a3)] false, .tcells [(.int .u8 (pb l 0)), (.int .u8 (pb l 1)), (.int .u8 (pb l 2)), (.int .u8 (pb l 3))] 23 (some 0), .tcells [(.int .u8 (pb l 0)), (.int .u8 (pb l 1)), (.int .u8 (pb l 2)), (.int .u8 (pb l 3))] 23 (some 0)] (fun r h' => ∃ ia, ((fun _ : Unit => (True, Res.ret (.string (bs (t4L a0 a1 a2 a3))), ([.cells pow10 true, .dead, .cells tab32 true, .cells tab64 true, .cells [(.int .u8 a0), (.int .u8 a1), (.int .u8 a2), (.int .u8 a3)] false, .tcells [(.int .u8 (pb l 0)), (.int .u8 (pb l 1)), (.int .u8 (pb l 2)), (.int .u8 (pb l 3))] 23 (some 0), .tcells [(.int .u8 (pb l 0)), (.int .u8 (pb l 1)), (.int .u8 (pb l 2)), (.int .u8 (pb l 3))] 23 (some 0)] : AHeap))) ia).1 ∧ r = ((fun _ : Unit => (True, Res.ret (.string (bs (t4L a0 a1 a2 a3))), ([.cells pow10 true, .dead, .cells tab32 true, .cells tab64 true, .cells [(.int .u8 a0), (.int .u8 a1), (.int .u8 a2), (.int .u8 a3)] false, .tcells [(.int .u8 (pb l 0)), (.int .u8 (pb l 1)), (.int .u8 (pb l 2)), (.int .u8 (pb l 3))] 23 (some 0), .tcells [(.int .u8 (pb l 0)), (.int .u8 (pb l 1)), (.int .u8 (pb l 2)), (.int .u8 (pb l 3))] 23 (some 0)] : AHeap))) ia).2.1 ∧ h' = ((fun _ : Unit => (True, Res.ret (.string (bs (t4L a0 a1 a2 a3))), ([.cells pow10 true, .dead, .cells tab32 true, .cells tab64 true, .cells [(.int .u8 a0), (.int .u8 a1), (.int .u8 a2), (.int .u8 a3)] false, .tcells [(.int .u8 (pb l 0)), (.int .u8 (pb l 1)), (.int .u8 (pb l 2)), (.int .u8 (pb l 3))] 23 (some 0), .tcells [(.int .u8 (pb l 0)), (.int .u8 (pb l 1)), (.int .u8 (pb l 2)), (.int .u8 (pb l 3))] 23 (some 0)] : AHeap))) ia).2.2) ∧ ∀ _ : Unit, True → (((some (.agg ⟨[(.int .u8 a0), (.int .u8 a1), (.int .u8 a2), (.int .u8 a3)]⟩)) : Option Value) = (some (.agg ⟨[(.int .u8 a0), (.int .u8 a1), (.int .u8 a2), (.int .u8 a3)]⟩))) ∧ 
        (SpecC Tryd.prog [0, 2, 3] (.fn 16) [(.agg ⟨[(.int .u8 a0), (.int .u8 a1), (.int .u8 a2), (.int .u8 a3)]⟩)] [.cells pow10 true, .dead, .cells tab32 true, .cells tab64 true, .cells [(.int .u8 a0), (.int .u8 a1), (.int .u8 a2), (.int .u8 a3)] false, .tcells [(.int .u8 (pb l 0)), (.int .u8 (pb l 1)), (.int .u8 (pb l 2)), (.int .u8 (pb l 3))] 23 (some 0), .tcells [(.int .u8 (pb l 0)), (.int .u8 (pb l 1)), (.int .u8 (pb l 2)), (.int .u8 (pb l 3))] 23 (some 0)] (fun r h' => ∃ ia, ((fun _ : Unit => (True, Res.ret (.string (bs (t4L a0 a1 a2 a3))), ([.cells pow10 true, .dead, .cells tab32 true, .cells tab64 true, .cells [(.int .u8 a0), (.int .u8 a1), (.int .u8 a2), (.int .u8 a3)] false, .tcells [(.int .u8 (pb l 0)), (.int .u8 (pb l 1)), (.int .u8 (pb l 2)), (.int .u8 (pb l 3))] 23 (some 0), .tcells [(.int .u8 (pb l 0)), (.int .u8 (pb l 1)), (.int .u8 (pb l 2)), (.int .u8 (pb l 3))] 23 (some 0)] : AHeap))) ia).1 ∧ r = ((fun _ : Unit => (True, Res.ret (.string (bs (t4L a0 a1 a2 a3))), ([.cells pow10 true, .dead, .cells tab32 true, .cells tab64 true, .cells [(.int .u8 a0), (.int .u8 a1), (.int .u8 a2), (.int .u8 a3)] false, .tcells [(.int .u8 (pb l 0)), (.int .u8 (pb l 1)), (.int .u8 (pb l 2)), (.int .u8 (pb l 3))] 23 (some 0), .tcells [(.int .u8 (pb l 0)), (.int .u8 (pb l 1)), (.int .u8 (pb l 2)), (.int .u8 (pb l 3))] 23 (some 0)] : AHeap))) ia).2.1 ∧ h' = ((fun _ : Unit => (True, Res.ret (.string (bs (t4L a0 a1 a2 a3))), ([.cells pow10 true, .dead, .cells tab32 true, .cells tab64 true, .cells [(.int .u8 a0), (.int .u8 a1), (.int .u8 a2), (.int .u8 a3)] false, .tcells [(.int .u8 (pb l 0)), (.int .u8 (pb l 1)), (.int .u8 (pb l 2)), (.int .u8 (pb l 3))] 23 (some 0), .tcells [(.int .u8 (pb l 0)), (.int .u8 (pb l 1)), (.int .u8 (pb l 2)), (.int .u8 (pb l 3))] 23 (some 0)] : AHeap))) ia).2.2) ∧ ∀ _ : Unit, True → 
        ((((bs (t4L a0 a1 a2 a3)).toList == (bs (t4L a0 a1 a2 a3)).toList) = true → 
          (SpecC Tryd.prog [0, 2, 3] (.fn 17) [] [.cells pow10 true, .dead, .cells tab32 true, .cells tab64 true, .cells [(.int .u8 a0), (.int .u8 a1), (.int .u8 a2), (.int .u8 a3)] false, .tcells [(.int .u8 (pb l 0)), (.int .u8 (pb l 1)), (.int .u8 (pb l 2)), (.int .u8 (pb l 3))] 23 (some 0), .tcells [(.int .u8 (pb l 0)), (.int .u8 (pb l 1)), (.int .u8 (pb l 2)), (.int .u8 (pb l 3))] 23 (some 0)] (fun r h' => ∃ ia, ((fun _ : Unit => (True, Res.ret (.bool true), ([.cells pow10 true, .dead, .cells tab32 true, .cells tab64 true, .cells [(.int .u8 a0), (.int .u8 a1), (.int .u8 a2), (.int .u8 a3)] false, .tcells [(.int .u8 (pb l 0)), (.int .u8 (pb l 1)), (.int .u8 (pb l 2)), (.int .u8 (pb l 3))] 23 (some 0), .tcells [(.int .u8 (pb l 0)), (.int .u8 (pb l 1)), (.int .u8 (pb l 2)), (.int .u8 (pb l 3))] 23 (some 0)] : AHeap))) ia).1 ∧ r = ((fun _ : Unit => (True, Res.ret (.bool true), ([.cells pow10 true, .dead, .cells tab32 true, .cells tab64 true, .cells [(.int .u8 a0), (.int .u8 a1), (.int .u8 a2), (.int .u8 a3)] false, .tcells [(.int .u8 (pb l 0)), (.int .u8 (pb l 1)), (.int .u8 (pb l 2)), (.int .u8 (pb l 3))] 23 (some 0), .tcells [(.int .u8 (pb l 0)), (.int .u8 (pb l 1)), (.int .u8 (pb l 2)), (.int .u8 (pb l 3))] 23 (some 0)] : AHeap))) ia).2.1 ∧ h' = ((fun _ : Unit => (True, Res.ret (.bool true), ([.cells pow10 true, .dead, .cells tab32 true, .cells tab64 true, .cells [(.int .u8 a0), (.int .u8 a1), (.int .u8 a2), (.int .u8 a3)] false, .tcells [(.int .u8 (pb l 0)), (.int .u8 (pb l 1)), (.int .u8 (pb l 2)), (.int .u8 (pb l 3))] 23 (some 0), .tcells [(.int .u8 (pb l 0)), (.int .u8 (pb l 1)), (.int .u8 (pb l 2)), (.int .u8 (pb l 3))] 23 (some 0)] : AHeap))) ia).2.2) ∧ ∀ _ : Unit, True → Q (.ret (.bool true)))) ∧
         (((bs (t4L a0 a1 a2 a3)).toList == (bs (t4L a0 a1 a2 a3)).toList) = false → Q (.ret (.bool false))))))) ∧
       ((pe l == pe l) = false → Q (.ret (.bool false))))) ∧
     ((pn l == pn l) = false → Q (.ret (.bool false))))) ∧
   (aBin2 Tryd.prog BinOp.eql 23 (Operand.tmp 23) (Operand.tmp 24) (.agg ⟨[(.int .u8 (pb l 0)), (.int .u8 (pb l 1)), (.int .u8 (pb l 2)), (.int .u8 (pb l 3))]⟩) (.agg ⟨[(.int .u8 (pb l 0)), (.int .u8 (pb l 1)), (.int .u8 (pb l 2)), (.int .u8 (pb l 3))]⟩) = some (.bool false) → Q (.ret (.bool false))))))) =
    runS Tryd.prog [0, 2, 3] false [13, 14, 15, 16, 17] 0 (SpecC Tryd.prog [0, 2, 3]) 20 3 [.string (bs l), .agg ⟨[.int .u8 a0, .int .u8 a1, .int .u8 a2, .int .u8 a3]⟩] gh .norm (.skip 3 (.call Unit (fun _ : Unit => (True, Res.ret (.tuple ⟨[(.agg ⟨[(.int .u8 (pb l 0)), (.int .u8 (pb l 1)), (.int .u8 (pb l 2)), (.int .u8 (pb l 3))]⟩), (.int .i64 (pn l)), (.int .i64 (pe l))]⟩), ([.cells pow10 true, .dead, .cells tab32 true, .cells tab64 true, .cells [(.int .u8 a0), (.int .u8 a1), (.int .u8 a2), (.int .u8 a3)] false] : AHeap))) fun _ => .skip 9 (.call Unit (fun _ : Unit => (True, Res.ret (.tuple ⟨[(.agg ⟨[(.int .u8 (pb l 0)), (.int .u8 (pb l 1)), (.int .u8 (pb l 2)), (.int .u8 (pb l 3))]⟩), (.int .i64 (pn l)), (.int .i64 (pe l))]⟩), ([.cells pow10 true, .dead, .cells tab32 true, .cells tab64 true, .cells [(.int .u8 a0), (.int .u8 a1), (.int .u8 a2), (.int .u8 a3)] false, .tcells [(.int .u8 (pb l 0)), (.int .u8 (pb l 1)), (.int .u8 (pb l 2)), (.int .u8 (pb l 3))] 23 (some 0)] : AHeap))) fun _ => .skip 10 (.two (.skip 6 (.ask (.skip 7 (.ask (.skip 7 (.call Unit (fun _ : Unit => (True, Res.ret (.string (bs (t4L a0 a1 a2 a3))), ([.cells pow10 true, .dead, .cells tab32 true, .cells tab64 true, .cells [(.int .u8 a0), (.int .u8 a1), (.int .u8 a2), (.int .u8 a3)] false, .tcells [(.int .u8 (pb l 0)), (.int .u8 (pb l 1)), (.int .u8 (pb l 2)), (.int .u8 (pb l 3))] 23 (some 0), .tcells [(.int .u8 (pb l 0)), (.int .u8 (pb l 1)), (.int .u8 (pb l 2)), (.int .u8 (pb l 3))] 23 (some 0)] : AHeap))) fun _ => .skip 1 (.call Unit (fun _ : Unit => (True, Res.ret (.string (bs (t4L a0 a1 a2 a3))), ([.cells pow10 true, .dead, .cells tab32 true, .cells tab64 true, .cells [(.int .u8 a0), (.int .u8 a1), (.int .u8 a2), (.int .u8 a3)] false, .tcells [(.int .u8 (pb l 0)), (.int .u8 (pb l 1)), (.int .u8 (pb l 2)), (.int .u8 (pb l 3))] 23 (some 0), .tcells [(.int .u8 (pb l 0)), (.int .u8 (pb l 1)), (.int .u8 (pb l 2)), (.int .u8 (pb l 3))] 23 (some 0)] : AHeap))) fun _ => .skip 1 (.ask (.skip 3 (.call Unit (fun _ : Unit => (True, Res.ret (.bool true), ([.cells pow10 true, .dead, .cells tab32 true, .cells tab64 true, .cells [(.int .u8 a0), (.int .u8 a1), (.int .u8 a2), (.int .u8 a3)] false, .tcells [(.int .u8 (pb l 0)), (.int .u8 (pb l 1)), (.int .u8 (pb l 2)), (.int .u8 (pb l 3))] 23 (some 0), .tcells [(.int .u8 (pb l 0)), (.int .u8 (pb l 1)), (.int .u8 (pb l 2)), (.int .u8 (pb l 3))] 23 (some 0)] : AHeap))) fun _ => .go)) (.go))))) (.go))) (.go))) (.go))))) (fun r _ _ _ => Q r) := by kernel_rfl

theorem as_flatv {f : FuncId} {args : List Value} {v : Value} (h : Fm.Spec Tryd.prog [0, 2, 3] f args gh fun u _ => u = .ret v) (hv : Flat v) : Fm.Spec Tryd.prog [0, 2, 3] f args gh fun r _ => ∃ u, r = .ret u ∧ Flat u ∧ u = v :=
  Spec.mono h (by rintro r h' rfl; exact ⟨_, rfl, hv, rfl⟩)

set_option maxRecDepth 20000 in
theorem fours_spec {l : List UInt8} {a0 a1 a2 a3 : Int} (hl : l.length < 2 ^ 63) (h0 : 0 ≤ a0 ∧ a0 < 256) (h1 : 0 ≤ a1 ∧ a1 < 256) (h2 : 0 ≤ a2 ∧ a2 < 256) (h3 : 0 ≤ a3 ∧ a3 < 256) :
    Fm.Spec Tryd.prog [0, 2, 3] 3 [.string (bs l), .agg ⟨[.int .u8 a0, .int .u8 a1, .int .u8 a2, .int .u8 a3]⟩] gh fun r _ => r = .ret (.bool true) := by
  refine spec_of_script Tryd.mixed (Eq.mp (fours_T l a0 a1 a2 a3 fun r => r = .ret (.bool true)) ?_)
  have fa : Flat (.agg ⟨[.int .u8 a0, .int .u8 a1, .int .u8 a2, .int .u8 a3]⟩) := flat_bytes [a0, a1, a2, a3] [] none_mem
  have p1 := as_flatv (p4V_eq l ▸ parse4_spec hl) (flat_p4 l)
  have p2 : Fun 14 [.string (bs l)] (.tuple ⟨[.agg ⟨[.int .u8 (pb l 0), .int .u8 (pb l 1), .int .u8 (pb l 2), .int .u8 (pb l 3)]⟩, .int .i64 (pn l), .int .i64 (pe l)]⟩) := fun_of (p4V_eq l ▸ rparse4_spec hl) (flat_p4 l)
  refine lift_gh_call p1 (one_mem (.string _)) _ ?_
  refine p2.call (one_mem (.string _)) ?_
  refine two_of (arr4 (pb l 0) (pb l 1) (pb l 2) (pb l 3) (pb l 0) (pb l 1) (pb l 2) (pb l 3)) (fun _ => ?_) (fun h => ?_)
  · refine ⟨fun _ => ⟨fun _ => ?_, fun h => ?_⟩, fun h => ?_⟩
    · refine lift_gh_call (as_flatv (text4_spec h0 h1 h2 h3) (.string _)) (one_mem fa) _ ?_
      refine ⟨rfl, ?_⟩
      refine lift_gh_call (as_flatv (rtext4_spec h0 h1 h2 h3) (.string _)) (one_mem fa) _ ?_
      refine ⟨fun _ => ?_, fun h => ?_⟩
      · exact awake_call _ rfl
      · rw [beq_self_eq_true] at h; cases h
    · rw [beq_self_eq_true] at h; cases h
    · rw [beq_self_eq_true] at h; cases h
  · rw [decide_eq_true rfl] at h; cases h

theorem fours_any {s : ByteArray} {l1 : List Value} (hs : s.size ≤ maxLen) (h1 : CKs (repK 4 [.int .u8]) l1) : Fm.Spec Tryd.prog [0, 2, 3] 3 [.string s, .agg ⟨l1⟩] gh fun r _ => r = .ret (.bool true) := by
  obtain ⟨a0, a1, a2, a3, rfl, ha⟩ := adr_of4 h1
  rw [← bs_of s]
  refine fours_spec ?_ (ha a0 (by simp)) (ha a1 (by simp)) (ha a2 (by simp)) (ha a3 (by simp))
  have : s.data.toList.length = s.size := rfl
  unfold maxLen at hs
  omega

set_option maxRecDepth 100000 in
theorem fours_lifted (os : Os) (started : os.Started) (H : Type) (enc : TypeId × Value → H) :
    ReturnsInHanded {} Tryd.checked os 3 .any (fun w args => (Rows.addrFoursSpec.pre enc Tryd.prog Tryd.f3 [] false w args ∧ laidMetH Tryd.prog laidL w) ∧ sizedMet enc Tryd.prog Tryd.f3 (OpenSpec.ofChange Rows.addrFoursSpec) false w args)
      (Rows.addrFoursSpec.post enc Tryd.prog Tryd.f3 false true false false) := by
  refine returnsInHanded_of_change_and (C := Tryd.checked) (X := fun w _ => laidMetH Tryd.prog laidL w) (fun _ _ _ hh h => h.of_heap hh) Tryd.own started (by kernel_rfl) Tryd.func3
    (ChangeSpec.witness_shaped (enc := enc) (C := Tryd.checked) (os := os) (X := fun w _ => laidMetH Tryd.prog laidL w) false (World.doorLaid Tryd.prog 400 os) #[.string ⟨#[]⟩, .agg #[.int .u8 0, .int .u8 0, .int .u8 0, .int .u8 0]] 8 rfl (World.shaped_of_RefB (by kernel_rfl) (by kernel_rfl)) (by kernel_rfl) (by kernel_rfl) (by kernel_rfl) (door_met os _)) ?_
  intro W base args ds gs before hval0 hW _ _ hL _
  have hval : ∀ (j : Nat) t v, Tryd.f3.params[j]? = some t → args[j]? = some v → Value.okWide Tryd.prog W .any base t v := hval0
  have hW' := hW
  obtain ⟨p, q, hA0, hV, rfl, hfz, hnd⟩ := hW
  have hA : DataW.TrodAll enc Tryd.prog W 0 (fun _ => true) true Tryd.f3.params.toList args.toList ds p := hA0
  rw [Tryd.params3] at hA hval
  obtain ⟨v0, v1, d0, d1, p0, p1, rfl, rfl, rfl, h0, h1⟩ := trodAll_two hA
  obtain ⟨s, rfl, rfl, rfl, hs⟩ := Go.ChangeMaps.open_string ty_u9 (hval 0 9 v0 rfl rfl) h0
  obtain ⟨l1, rfl, hl1, rfl⟩ := open_agg (n := 3) (ks := repK 4 [.int .u8]) (by kernel_rfl) (by kernel_rfl) (hval 1 23 v1 rfl rfl) h1

  obtain ⟨rfl, rfl⟩ := trodVars_none hV
  refine close_row (tb := 4) hW' rfl rfl Tryd.laidOut (by kernel_rfl) (by kernel_rfl) (by kernel_rfl) ?_
  exact calls_of_spec (fours_any hs hl1) (.bool true) (begins hL) (Flat.lr (by
    intro v hv
    simp only [List.mem_cons, List.not_mem_nil, or_false] at hv
    rcases hv with rfl | rfl
    · exact .string _
    · exact .agg fun i v e => CKs.flat hl1 v (List.mem_of_getElem? (by simpa using e))) _) begins_glob

theorem fours_holds : Rows.AddrFoursSaid :=
  OpenClaim.holds_of_wide 3 Tryd.f3 rfl rfl rfl rfl rfl rfl rfl ⟨rfl, rfl, rfl, rfl, rfl⟩ rfl rfl rfl rfl rfl (by kernel_rfl) Tryd.func3 (by kernel_rfl)
    (of_decide_eq_true (by kernel_rfl)) (by unfold Func.isWrapper; rw [if_neg (of_decide_eq_false (by kernel_rfl))]; exact ⟨rfl, rfl⟩)
    (fun os started H enc _ => fours_lifted os started H enc)

theorem fours_card : Rows.AddrFoursCardSaid :=
  Claim7.holds_tied_plain_at .later [] [.data, .data, .data] true (true, "2c2e10dfad521d8a68acca1e017bcd51af26f7f93c44638cb4d6de8cacc7ccee") true
    fours_holds (fun _ h => by cases h) (by kernel_rfl) (fun _ h => by cases h) addrFours_row_tie rfl ⟨rfl, rfl⟩ (by kernel_rfl) rfl
    (fun f fn hf hfn => by
      obtain rfl : f = 3 := Option.some.inj ((show Tryd.prog.funcNamed "ferryman/ferrymanlaw02.AddrFours" = some 3 by kernel_rfl).symm.trans hf) |>.symm
      obtain rfl : fn = Tryd.f3 := (Option.some.inj (Tryd.func3.symm.trans hfn)).symm
      exact ⟨by kernel_rfl, fun j t ht => by
        rw [Tryd.params3] at ht
        have hm : t ∈ [9, 23] := by simpa using Array.mem_of_getElem? ht
        have hall : ([9, 23].all fun u => !Tryd.prog.wantsStandIn u) = true := by kernel_rfl
        exact (show Tryd.prog.wantsStandIn t = false by simpa using List.all_eq_true.1 hall t hm)⟩)
    (by kernel_rfl)

#print axioms fours_card

end Go.Proofs.YtopladipgobpjaaDoor
