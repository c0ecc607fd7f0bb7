/-
  AddrSets: whatever the three prefixes and the address, the law returns true, and the arguments read as they did. Condition (the card's own): the three listed tables read as the program's text lays them.
-/
import Derived.Test.YtopladipgobpjaaDoorBase
import Derived.Test.YtopladipgobpjaaDoorHas
import Derived.Test.YtopladipgobpjaaDoorCover
import Derived.Test.YtopladipgobpjaaDoorRChk
import Derived.Test.YtopladipgobpjaaDoorCards
import Derived.Test.YtopladipgobpjaaDoorTie
import Derived.SevenTiedAt
namespace Go.Proofs.YtopladipgobpjaaDoor
open Go Go.Fm Go.ChangeShapes Go.WideShapes Go.ChangeAt Go.RowKit

abbrev setshp0 (p0 p1 p2 p3 pn q0 q1 q2 q3 qn r0 r1 r2 r3 rn a0 a1 a2 a3 : Int) : AHeap := [.cells pow10 true, .dead, .cells tab32 true, .cells tab64 true, .cells [(.int .u8 p0), (.int .u8 p1), (.int .u8 p2), (.int .u8 p3), (.int .i64 pn)] false, .cells [(.int .u8 q0), (.int .u8 q1), (.int .u8 q2), (.int .u8 q3), (.int .i64 qn)] false, .cells [(.int .u8 r0), (.int .u8 r1), (.int .u8 r2), (.int .u8 r3), (.int .i64 rn)] false, .cells [(.int .u8 a0), (.int .u8 a1), (.int .u8 a2), (.int .u8 a3)] false]

theorem sets_T (p0 p1 p2 p3 pn q0 q1 q2 q3 qn r0 r1 r2 r3 rn a0 a1 a2 a3 : Int) (Q : Res → Prop) : ((SpecC Tryd.prog [0, 2, 3] (.fn 17) [] (setshp0 p0 p1 p2 p3 pn q0 q1 q2 q3 qn r0 r1 r2 r3 rn a0 a1 a2 a3) (fun r h' => ∃ ia, ((fun _ : Unit => (True, Res.ret (.bool true), ((setshp0 p0 p1 p2 p3 pn q0 q1 q2 q3 qn r0 r1 r2 r3 rn a0 a1 a2 a3) : AHeap))) ia).1 ∧ r = ((fun _ : Unit => (True, Res.ret (.bool true), ((setshp0 p0 p1 p2 p3 pn q0 q1 q2 q3 qn r0 r1 r2 r3 rn a0 a1 a2 a3) : AHeap))) ia).2.1 ∧ h' = ((fun _ : Unit => (True, Res.ret (.bool true), ((setshp0 p0 p1 p2 p3 pn q0 q1 q2 q3 qn r0 r1 r2 r3 rn a0 a1 a2 a3) : AHeap))) ia).2.2) ∧ ∀ _ : Unit, True → 
  (SpecC Tryd.prog [0, 2, 3] (.fn 22) [(.agg ⟨[(.int .u8 p0), (.int .u8 p1), (.int .u8 p2), (.int .u8 p3), (.int .i64 pn)]⟩), (.agg ⟨[(.int .u8 q0), (.int .u8 q1), (.int .u8 q2), (.int .u8 q3), (.int .i64 qn)]⟩)] (setshp0 p0 p1 p2 p3 pn q0 q1 q2 q3 qn r0 r1 r2 r3 rn a0 a1 a2 a3) (fun r h' => ∃ ia, ((fun _ : Unit => (True, Res.ret (.tuple ⟨[(.bool (coverV [p0, p1, p2, p3] pn [q0, q1, q2, q3] qn)), (.int .i64 (coverE [p0, p1, p2, p3] pn [q0, q1, q2, q3] qn))]⟩), ((setshp0 p0 p1 p2 p3 pn q0 q1 q2 q3 qn r0 r1 r2 r3 rn a0 a1 a2 a3) : AHeap))) ia).1 ∧ r = ((fun _ : Unit => (True, Res.ret (.tuple ⟨[(.bool (coverV [p0, p1, p2, p3] pn [q0, q1, q2, q3] qn)), (.int .i64 (coverE [p0, p1, p2, p3] pn [q0, q1, q2, q3] qn))]⟩), ((setshp0 p0 p1 p2 p3 pn q0 q1 q2 q3 qn r0 r1 r2 r3 rn a0 a1 a2 a3) : AHeap))) ia).2.1 ∧ h' = ((fun _ : Unit => (True, Res.ret (.tuple ⟨[(.bool (coverV [p0, p1, p2, p3] pn [q0, q1, q2, q3] qn)), (.int .i64 (coverE [p0, p1, p2, p3] pn [q0, q1, q2, q3] qn))]⟩), ((setshp0 p0 p1 p2 p3 pn q0 q1 q2 q3 qn r0 r1 r2 r3 rn a0 a1 a2 a3) : AHeap))) ia).2.2) ∧ ∀ _ : Unit, True → 
  (SpecC Tryd.prog [0, 2, 3] (.fn 22) [(.agg ⟨[(.int .u8 q0), (.int .u8 q1), (.int .u8 q2), (.int .u8 q3), (.int .i64 qn)]⟩), (.agg ⟨[(.int .u8 p0), (.int .u8 p1), (.int .u8 p2), (.int .u8 p3), (.int .i64 pn)]⟩)] (setshp0 p0 p1 p2 p3 pn q0 q1 q2 q3 qn r0 r1 r2 r3 rn a0 a1 a2 a3) (fun r h' => ∃ ia, ((fun _ : Unit => (True, Res.ret (.tuple ⟨[(.bool (coverV [q0, q1, q2, q3] qn [p0, p1, p2, p3] pn)), (.int .i64 (coverE [q0, q1, q2, q3] qn [p0, p1, p2, p3] pn))]⟩), ((setshp0 p0 p1 p2 p3 pn q0 q1 q2 q3 qn r0 r1 r2 r3 rn a0 a1 a2 a3) : AHeap))) ia).1 ∧ r = ((fun _ : Unit => (True, Res.ret (.tuple ⟨[(.bool (coverV [q0, q1, q2, q3] qn [p0, p1, p2, p3] pn)), (.int .i64 (coverE [q0, q1, q2, q3] qn [p0, p1, p2, p3] pn))]⟩), ((setshp0 p0 p1 p2 p3 pn q0 q1 q2 q3 qn r0 r1 r2 r3 rn a0 a1 a2 a3) : AHeap))) ia).2.1 ∧ h' = ((fun _ : Unit => (True, Res.ret (.tuple ⟨[(.bool (coverV [q0, q1, q2, q3] qn [p0, p1, p2, p3] pn)), (.int .i64 (coverE [q0, q1, q2, q3] qn [p0, p1, p2, p3] pn))]⟩), ((setshp0 p0 p1 p2 p3 pn q0 q1 q2 q3 qn r0 r1 r2 r3 rn a0 a1 a2 a3) : AHeap))) ia).2.2) ∧ ∀ _ : Unit, True → 
  (SpecC Tryd.prog [0, 2, 3] (.fn 22) [(.agg ⟨[(.int .u8 q0), (.int .u8 q1), (.int .u8 q2), (.int .u8 q3), (.int .i64 qn)]⟩), (.agg ⟨[(.int .u8 r0), (.int .u8 r1), (.int .u8 r2), (.int .u8 r3), (.int .i64 rn)]⟩)] (setshp0 p0 p1 p2 p3 pn q0 q1 q2 q3 qn r0 r1 r2 r3 rn a0 a1 a2 a3) (fun r h' => ∃ ia, ((fun _ : Unit => (True, Res.ret (.tuple ⟨[(.bool (coverV [q0, q1, q2, q3] qn [r0, r1, r2, r3] rn)), (.int .i64 (coverE [q0, q1, q2, q3] qn [r0, r1, r2, r3] rn))]⟩), ((setshp0 p0 p1 p2 p3 pn q0 q1 q2 q3 qn r0 r1 r2 r3 rn a0 a1 a2 a3) : AHeap))) ia).1 ∧ r = ((fun _ : Unit => (True, Res.ret (.tuple ⟨[(.bool (coverV [q0, q1, q2, q3] qn [r0, r1, r2, r3] rn)), (.int .i64 (coverE [q0, q1, q2, q3] qn [r0, r1, r2, r3] rn))]⟩), ((setshp0 p0 p1 p2 p3 pn q0 q1 q2 q3 qn r0 r1 r2 r3 rn a0 a1 a2 a3) : AHeap))) ia).2.1 ∧ h' = ((fun _ : Unit => (True, Res.ret (.tuple ⟨[(.bool (coverV [q0, q1, q2, q3] qn [r0, r1, r2, r3] rn)), (.int .i64 (coverE [q0, q1, q2, q3] qn [r0, r1, r2, r3] rn))]⟩), ((setshp0 p0 p1 p2 p3 pn q0 q1 q2 q3 qn r0 r1 r2 r3 rn a0 a1 a2 a3) : AHeap))) ia).2.2) ∧ ∀ _ : Unit, True → 
  (SpecC Tryd.prog [0, 2, 3] (.fn 22) [(.agg ⟨[(.int .u8 p0), (.int .u8 p1), (.int .u8 p2), (.int .u8 p3), (.int .i64 pn)]⟩), (.agg ⟨[(.int .u8 r0), (.int .u8 r1), (.int .u8 r2), (.int .u8 r3), (.int .i64 rn)]⟩)] (setshp0 p0 p1 p2 p3 pn q0 q1 q2 q3 qn r0 r1 r2 r3 rn a0 a1 a2 a3) (fun r h' => ∃ ia, ((fun _ : Unit => (True, Res.ret (.tuple ⟨[(.bool (coverV [p0, p1, p2, p3] pn [r0, r1, r2, r3] rn)), (.int .i64 (coverE [p0, p1, p2, p3] pn [r0, r1, r2, r3] rn))]⟩), ((setshp0 p0 p1 p2 p3 pn q0 q1 q2 q3 qn r0 r1 r2 r3 rn a0 a1 a2 a3) : AHeap))) ia).1 ∧ r = ((fun _ : Unit => (True, Res.ret (.tuple ⟨[(.bool (coverV [p0, p1, p2, p3] pn [r0, r1, r2, r3] rn)), (.int .i64 (coverE [p0, p1, p2, p3] pn [r0, r1, r2, r3] rn))]⟩), ((setshp0 p0 p1 p2 p3 pn q0 q1 q2 q3 qn r0 r1 r2 r3 rn a0 a1 a2 a3) : AHeap))) ia).2.1 ∧ h' = ((fun _ : Unit => (True, Res.ret (.tuple ⟨[(.bool (coverV [p0, p1, p2, p3] pn [r0, r1, r2, r3] rn)), (.int .i64 (coverE [p0, p1, p2, p3] pn [r0, r1, r2, r3] rn))]⟩), ((setshp0 p0 p1 p2 p3 pn q0 q1 q2 q3 qn r0 r1 r2 r3 rn a0 a1 a2 a3) : AHeap))) ia).2.2) ∧ ∀ _ : Unit, True → 
  (((coverE [p0, p1, p2, p3] pn [q0, q1, q2, q3] qn != 0) = true → 
    (SpecC Tryd.prog [0, 2, 3] (.fn 23) [(.agg ⟨[(.int .u8 p0), (.int .u8 p1), (.int .u8 p2), (.int .u8 p3), (.int .i64 pn)]⟩)] (setshp0 p0 p1 p2 p3 pn q0 q1 q2 q3 qn r0 r1 r2 r3 rn a0 a1 a2 a3) (fun r h' => ∃ ia, ((fun _ : Unit => (True, Res.ret (.int .i64 (chk [p0, p1, p2, p3] pn)), ((setshp0 p0 p1 p2 p3 pn q0 q1 q2 q3 qn r0 r1 r2 r3 rn a0 a1 a2 a3) : AHeap))) ia).1 ∧ r = ((fun _ : Unit => (True, Res.ret (.int .i64 (chk [p0, p1, p2, p3] pn)), ((setshp0 p0 p1 p2 p3 pn q0 q1 q2 q3 qn r0 r1 r2 r3 rn a0 a1 a2 a3) : AHeap))) ia).2.1 ∧ h' = ((fun _ : Unit => (True, Res.ret (.int .i64 (chk [p0, p1, p2, p3] pn)), ((setshp0 p0 p1 p2 p3 pn q0 q1 q2 q3 qn r0 r1 r2 r3 rn a0 a1 a2 a3) : AHeap))) ia).2.2) ∧ ∀ _ : Unit, True → 
    (((chk [p0, p1, p2, p3] pn != 0) = true → Q (.ret (.bool true))) ∧
     ((chk [p0, p1, p2, p3] pn != 0) = false → 
      (SpecC Tryd.prog [0, 2, 3] (.fn 23) [(.agg ⟨[(.int .u8 q0), (.int .u8 q1), (.int .u8 q2), (.int .u8 q3), (.int .i64 qn)]⟩)] (setshp0 p0 p1 p2 p3 pn q0 q1 q2 q3 qn r0 r1 r2 r3 rn a0 a1 a2 a3) (fun r h' => ∃ ia, ((fun _ : Unit => (True, Res.ret (.int .i64 (chk [q0, q1, q2, q3] qn)), ((setshp0 p0 p1 p2 p3 pn q0 q1 q2 q3 qn r0 r1 r2 r3 rn a0 a1 a2 a3) : AHeap))) ia).1 ∧ r = ((fun _ : Unit => (True, Res.ret (.int .i64 (chk [q0, q1, q2, q3] qn)), ((setshp0 p0 p1 p2 p3 pn q0 q1 q2 q3 qn r0 r1 r2 r3 rn a0 a1 a2 a3) : AHeap))) ia).2.1 ∧ h' = ((fun _ : Unit => (True, Res.ret (.int .i64 (chk [q0, q1, q2, q3] qn)), ((setshp0 p0 p1 p2 p3 pn q0 q1 q2 q3 qn r0 r1 r2 r3 rn a0 a1 a2 a3) : AHeap))) ia).2.2) ∧ ∀ _ : Unit, True → 
      (((chk [q0, q1, q2, q3] qn != 0) = true → Q (.ret (.bool true))) ∧
       ((chk [q0, q1, q2, q3] qn != 0) = false → 
        (SpecC Tryd.prog [0, 2, 3] (.fn 23) [(.agg ⟨[(.int .u8 r0), (.int .u8 r1), (.int .u8 r2), (.int .u8 r3), (.int .i64 rn)]⟩)] (setshp0 p0 p1 p2 p3 pn q0 q1 q2 q3 qn r0 r1 r2 r3 rn a0 a1 a2 a3) (fun r h' => ∃ ia, ((fun _ : Unit => (True, Res.ret (.int .i64 (chk [r0, r1, r2, r3] rn)), ((setshp0 p0 p1 p2 p3 pn q0 q1 q2 q3 qn r0 r1 r2 r3 rn a0 a1 a2 a3) : AHeap))) ia).1 ∧ r = ((fun _ : Unit => (True, Res.ret (.int .i64 (chk [r0, r1, r2, r3] rn)), ((setshp0 p0 p1 p2 p3 pn q0 q1 q2 q3 qn r0 r1 r2 r3 rn a0 a1 a2 a3) : AHeap))) ia).2.1 ∧ h' = ((fun _ : Unit => (True, Res.ret (.int .i64 (chk [r0, r1, r2, r3] rn)), ((setshp0 p0 p1 p2 p3 pn q0 q1 q2 q3 qn r0 r1 r2 r3 rn a0 a1 a2 a3) : AHeap))) ia).2.2) ∧ ∀ _ : Unit, True → 
        (((chk [r0, r1, r2, r3] rn != 0) = true → Q (.ret (.bool true))) ∧
         ((chk [r0, r1, r2, r3] rn != 0) = false → Q (.ret (.bool false)))))))))))) ∧
   ((coverE [p0, p1, p2, p3] pn [q0, q1, q2, q3] qn != 0) = false → 
    (((coverE [q0, q1, q2, q3] qn [p0, p1, p2, p3] pn != 0) = true → 
      (SpecC Tryd.prog [0, 2, 3] (.fn 23) [(.agg ⟨[(.int .u8 p0), (.int .u8 p1), (.int .u8 p2), (.int .u8 p3), (.int .i64 pn)]⟩)] (setshp0 p0 p1 p2 p3 pn q0 q1 q2 q3 qn r0 r1 r2 r3 rn a0 a1 a2 a3) (fun r h' => ∃ ia, ((fun _ : Unit => (True, Res.ret (.int .i64 (chk [p0, p1, p2, p3] pn)), ((setshp0 p0 p1 p2 p3 pn q0 q1 q2 q3 qn r0 r1 r2 r3 rn a0 a1 a2 a3) : AHeap))) ia).1 ∧ r = ((fun _ : Unit => (True, Res.ret (.int .i64 (chk [p0, p1, p2, p3] pn)), ((setshp0 p0 p1 p2 p3 pn q0 q1 q2 q3 qn r0 r1 r2 r3 rn a0 a1 a2 a3) : AHeap))) ia).2.1 ∧ h' = ((fun _ : Unit => (True, Res.ret (.int .i64 (chk [p0, p1, p2, p3] pn)), ((setshp0 p0 p1 p2 p3 pn q0 q1 q2 q3 qn r0 r1 r2 r3 rn a0 a1 a2 a3) : AHeap))) ia).2.2) ∧ ∀ _ : Unit, True → 
      (((chk [p0, p1, p2, p3] pn != 0) = true → Q (.ret (.bool true))) ∧
       ((chk [p0, p1, p2, p3] pn != 0) = false → 
        (SpecC Tryd.prog [0, 2, 3] (.fn 23) [(.agg ⟨[(.int .u8 q0), (.int .u8 q1), (.int .u8 q2), (.int .u8 q3), (.int .i64 qn)]⟩)] (setshp0 p0 p1 p2 p3 pn q0 q1 q2 q3 qn r0 r1 r2 r3 rn a0 a1 a2 a3) (fun r h' => ∃ ia, ((fun _ : Unit => (True, Res.ret (.int .i64 (chk [q0, q1, q2, q3] qn)), ((setshp0 p0 p1 p2 p3 pn q0 q1 q2 q3 qn r0 r1 r2 r3 rn a0 a1 a2 a3) : AHeap))) ia).1 ∧ r = ((fun _ : Unit => (True, Res.ret (.int .i64 (chk [q0, q1, q2, q3] qn)), ((setshp0 p0 p1 p2 p3 pn q0 q1 q2 q3 qn r0 r1 r2 r3 rn a0 a1 a2 a3) : AHeap))) ia).2.1 ∧ h' = ((fun _ : Unit => (True, Res.ret (.int .i64 (chk [q0, q1, q2, q3] qn)), ((setshp0 p0 p1 p2 p3 pn q0 q1 q2 q3 qn r0 r1 r2 r3 rn a0 a1 a2 a3) : AHeap))) ia).2.2) ∧ ∀ _ : Unit, True → 
        (((chk [q0, q1, q2, q3] qn != 0) = true → Q (.ret (.bool true))) ∧
         ((chk [q0, q1, q2, q3] qn != 0) = false → 
          (SpecC Tryd.prog [0, 2, 3] (.fn 23) [(.agg ⟨[(.int .u8 r0), (.int .u8 r1), (.int .u8 r2), (.int .u8 r3), (.int .i64 rn)]⟩)] (setshp0 p0 p1 p2 p3 pn q0 q1 q2 q3 qn r0 r1 r2 r3 rn a0 a1 a2 a3) (fun r h' => ∃ ia, ((fun _ : Unit => (True, Res.ret (.int .i64 (chk [r0, r1, r2, r3] rn)), ((setshp0 p0 p1 p2 p3 pn q0 q1 q2 q3 qn r0 r1 r2 r3 rn a0 a1 a2 a3) : AHeap))) ia).1 ∧ r = ((fun _ : Unit => (True, Res.ret (.int .i64 (chk [r0, r1, r2, r3] rn)), ((setshp0 p0 p1 p2 p3 pn q0 q1 q2 q3 qn r0 r1 r2 r3 rn a0 a1 a2 a3) : AHeap))) ia).2.1 ∧ h' = ((fun _ : Unit => (True, Res.ret (.int .i64 (chk [r0, r1, r2, r3] rn)), ((setshp0 p0 p1 p2 p3 pn q0 q1 q2 q3 qn r0 r1 r2 r3 rn a0 a1 a2 a3) : AHeap))) ia).2.2) ∧ ∀ _ : Unit, True → 
          (((chk [r0, r1, r2, r3] rn != 0) = true → Q (.ret (.bool true))) ∧
           ((chk [r0, r1, r2, r3] rn != 0) = false → Q (.ret (.bool false)))))))))))) ∧
     ((coverE [q0, q1, q2, q3] qn [p0, p1, p2, p3] pn != 0) = false → 
      (((coverE [q0, q1, q2, q3] qn [r0, r1, r2, r3] rn != 0) = true → 
        (SpecC Tryd.prog [0, 2, 3] (.fn 23) [(.agg ⟨[(.int .u8 p0), (.int .u8 p1), (.int .u8 p2), (.int .u8 p3), (.int .i64 pn)]⟩)] (setshp0 p0 p1 p2 p3 pn q0 q1 q2 q3 qn r0 r1 r2 r3 rn a0 a1 a2 a3) (fun r h' => ∃ ia, ((fun _ : Unit => (True, Res.ret (.int .i64 (chk [p0, p1, p2, p3] pn)), ((setshp0 p0 p1 p2 p3 pn q0 q1 q2 q3 qn r0 r1 r2 r3 rn a0 a1 a2 a3) : AHeap))) ia).1 ∧ r = ((fun _ : Unit => (True, Res.ret (.int .i64 (chk [p0, p1, p2, p3] pn)), ((setshp0 p0 p1 p2 p3 pn q0 q1 q2 q3 qn r0 r1 r2 r3 rn a0 a1 a2 a3) : AHeap))) ia).2.1 ∧ h' = ((fun _ : Unit => (True, Res.ret (.int .i64 (chk [p0, p1, p2, p3] pn)), ((setshp0 p0 p1 p2 p3 pn q0 q1 q2 q3 qn r0 r1 r2 r3 rn a0 a1 a2 a3) : AHeap))) ia).2.2) ∧ ∀ _ : Unit, True → 
        (((chk [p0, p1, p2, p3] pn != 0) = true → Q (.ret (.bool true))) ∧
         ((chk [p0, p1, p2, p3] pn != 0) = false → 
          (SpecC Tryd.prog [0, 2, 3] (.fn 23) [(.agg ⟨[(.int .u8 q0), (.int .u8 q1), (.int .u8 q2), (.int .u8 q3), (.int .i64 qn)]⟩)] (setshp0 p0 p1 p2 p3 pn q0 q1 q2 q3 qn r0 r1 r2 r3 rn a0 a1 a2 a3) (fun r h' => ∃ ia, ((fun _ : Unit => (True, Res.ret (.int .i64 (chk [q0, q1, q2, q3] qn)), ((setshp0 p0 p1 p2 p3 pn q0 q1 q2 q3 qn r0 r1 r2 r3 rn a0 a1 a2 a3) : AHeap))) ia).1 ∧ r = ((fun _ : Unit => (True, Res.ret (.int .i64 (chk [q0, q1, q2, q3] qn)), ((setshp0 p0 p1 p2 p3 pn q0 q1 q2 q3 qn r0 r1 r2 r3 rn a0 a1 a2 a3) : AHeap))) ia).2.1 ∧ h' = ((fun _ : Unit => (True, Res.ret (.int .i64 (chk [q0, q1, q2, q3] qn)), ((setshp0 p0 p1 p2 p3 pn q0 q1 q2 q3 qn r0 r1 r2 r3 rn a0 a1 a2 a3) : AHeap))) ia).2.2) ∧ ∀ _ : Unit, True → 
          (((chk [q0, q1, q2, q3] qn != 0) = true → Q (.ret (.bool true))) ∧
           ((chk [q0, q1, q2, q3] qn != 0) = false → 
            (SpecC Tryd.prog [0, 2, 3] (.fn 23) [(.agg ⟨[(.int .u8 r0), (.int .u8 r1), (.int .u8 r2), (.int .u8 r3), (.int .i64 rn)]⟩)] (setshp0 p0 p1 p2 p3 pn q0 q1 q2 q3 qn r0 r1 r2 r3 rn a0 a1 a2 a3) (fun r h' => ∃ ia, ((fun _ : Unit => (True, Res.ret (.int .i64 (chk [r0, r1, r2, r3] rn)), ((setshp0 p0 p1 p2 p3 pn q0 q1 q2 q3 qn r0 r1 r2 r3 rn a0 a1 a2 a3) : AHeap))) ia).1 ∧ r = ((fun _ : Unit => (True, Res.ret (.int .i64 (chk [r0, r1, r2, r3] rn)), ((setshp0 p0 p1 p2 p3 pn q0 q1 q2 q3 qn r0 r1 r2 r3 rn a0 a1 a2 a3) : AHeap))) ia).2.1 ∧ h' = ((fun _ : Unit => (True, Res.ret (.int .i64 (chk [r0, r1, r2, r3] rn)), ((setshp0 p0 p1 p2 p3 pn q0 q1 q2 q3 qn r0 r1 r2 r3 rn a0 a1 a2 a3) : AHeap))) ia).2.2) ∧ ∀ _ : Unit, True → 
            (((chk [r0, r1, r2, r3] rn != 0) = true → Q (.ret (.bool true))) ∧
             ((chk [r0, r1, r2, r3] rn != 0) = false → Q (.ret (.bool false)))))))))))) ∧
       ((coverE [q0, q1, q2, q3] qn [r0, r1, r2, r3] rn != 0) = false → 
        (((coverE [p0, p1, p2, p3] pn [r0, r1, r2, r3] rn != 0) = true → 
          (SpecC Tryd.prog [0, 2, 3] (.fn 23) [(.agg ⟨[(.int .u8 p0), (.int .u8 p1), (.int .u8 p2), (.int .u8 p3), (.int .i64 pn)]⟩)] (setshp0 p0 p1 p2 p3 pn q0 q1 q2 q3 qn r0 r1 r2 r3 rn a0 a1 a2 a3) (fun r h' => ∃ ia, ((fun _ : Unit => (True, Res.ret (.int .i64 (chk [p0, p1, p2, p3] pn)), ((setshp0 p0 p1 p2 p3 pn q0 q1 q2 q3 qn r0 r1 r2 r3 rn a0 a1 a2 a3) : AHeap))) ia).1 ∧ r = ((fun _ : Unit => (True, Res.ret (.int .i64 (chk [p0, p1, p2, p3] pn)), ((setshp0 p0 p1 p2 p3 pn q0 q1 q2 q3 qn r0 r1 r2 r3 rn a0 a1 a2 a3) : AHeap))) ia).2.1 ∧ h' = ((fun _ : Unit => (True, Res.ret (.int .i64 (chk [p0, p1, p2, p3] pn)), ((setshp0 p0 p1 p2 p3 pn q0 q1 q2 q3 qn r0 r1 r2 r3 rn a0 a1 a2 a3) : AHeap))) ia).2.2) ∧ ∀ _ : Unit, True → 
          (((chk [p0, p1, p2, p3] pn != 0) = true → Q (.ret (.bool true))) ∧
           ((chk [p0, p1, p2, p3] pn != 0) = false → 
            (SpecC Tryd.prog [0, 2, 3] (.fn 23) [(.agg ⟨[(.int .u8 q0), (.int .u8 q1), (.int .u8 q2), (.int .u8 q3), (.int .i64 qn)]⟩)] (setshp0 p0 p1 p2 p3 pn q0 q1 q2 q3 qn r0 r1 r2 r3 rn a0 a1 a2 a3) (fun r h' => ∃ ia, ((fun _ : Unit => (True, Res.ret (.int .i64 (chk [q0, q1, q2, q3] qn)), ((setshp0 p0 p1 p2 p3 pn q0 q1 q2 q3 qn r0 r1 r2 r3 rn a0 a1 a2 a3) : AHeap))) ia).1 ∧ r = ((fun _ : Unit => (True, Res.ret (.int .i64 (chk [q0, q1, q2, q3] qn)), ((setshp0 p0 p1 p2 p3 pn q0 q1 q2 q3 qn r0 r1 r2 r3 rn a0 a1 a2 a3) : AHeap))) ia).2.1 ∧ h' = ((fun _ : Unit => (True, Res.ret (.int .i64 (chk [q0, q1, q2, q3] qn)), ((setshp0 p0 p1 p2 p3 pn q0 q1 q2 q3 qn r0 r1 r2 r3 rn a0 a1 a2 a3) : AHeap))) ia).2.2) ∧ ∀ _ : Unit, True → 
            (((chk [q0, q1, q2, q3] qn != 0) = true → Q (.ret (.bool true))) ∧
             ((chk [q0, q1, q2, q3] qn != 0) = false → 
              (SpecC Tryd.prog [0, 2, 3] (.fn 23) [(.agg ⟨[(.int .u8 r0), (.int .u8 r1), (.int .u8 r2), (.int .u8 r3), (.int .i64 rn)]⟩)] (setshp0 p0 p1 p2 p3 pn q0 q1 q2 q3 qn r0 r1 r2 r3 rn a0 a1 a2 a3) (fun r h' => ∃ ia, ((fun _ : Unit => (True, Res.ret (.int .i64 (chk [r0, r1, r2, r3] rn)), ((setshp0 p0 p1 p2 p3 pn q0 q1 q2 q3 qn r0 r1 r2 r3 rn a0 a1 a2 a3) : AHeap))) ia).1 ∧ r = ((fun _ : Unit => (True, Res.ret (.int .i64 (chk [r0, r1, r2, r3] rn)), ((setshp0 p0 p1 p2 p3 pn q0 q1 q2 q3 qn r0 r1 r2 r3 rn a0 a1 a2 a3) : AHeap))) ia).2.1 ∧ h' = ((fun _ : Unit => (True, Res.ret (.int .i64 (chk [r0, r1, r2, r3] rn)), ((setshp0 p0 p1 p2 p3 pn q0 q1 q2 q3 qn r0 r1 r2 r3 rn a0 a1 a2 a3) : AHeap))) ia).2.2) ∧ ∀ _ : Unit, True → 
              (((chk [r0, r1, r2, r3] rn != 0) = true → Q (.ret (.bool true))) ∧
               ((chk [r0, r1, r2, r3] rn != 0) = false → Q (.ret (.bool false)))))))))))) ∧
         ((coverE [p0, p1, p2, p3] pn [r0, r1, r2, r3] rn != 0) = false → 
          (SpecC Tryd.prog [0, 2, 3] (.fn 24) [(.agg ⟨[(.int .u8 p0), (.int .u8 p1), (.int .u8 p2), (.int .u8 p3), (.int .i64 pn)]⟩), (.agg ⟨[(.int .u8 a0), (.int .u8 a1), (.int .u8 a2), (.int .u8 a3)]⟩)] (setshp0 p0 p1 p2 p3 pn q0 q1 q2 q3 qn r0 r1 r2 r3 rn a0 a1 a2 a3) (fun r h' => ∃ ia, ((fun _ : Unit => (True, Res.ret (.tuple ⟨[(.bool (hasV [p0, p1, p2, p3] pn [a0, a1, a2, a3])), (.int .i64 (chk [p0, p1, p2, p3] pn))]⟩), ((setshp0 p0 p1 p2 p3 pn q0 q1 q2 q3 qn r0 r1 r2 r3 rn a0 a1 a2 a3) : AHeap))) ia).1 ∧ r = ((fun _ : Unit => (True, Res.ret (.tuple ⟨[(.bool (hasV [p0, p1, p2, p3] pn [a0, a1, a2, a3])), (.int .i64 (chk [p0, p1, p2, p3] pn))]⟩), ((setshp0 p0 p1 p2 p3 pn q0 q1 q2 q3 qn r0 r1 r2 r3 rn a0 a1 a2 a3) : AHeap))) ia).2.1 ∧ h' = ((fun _ : Unit => (True, Res.ret (.tuple ⟨[(.bool (hasV [p0, p1, p2, p3] pn [a0, a1, a2, a3])), (.int .i64 (chk [p0, p1, p2, p3] pn))]⟩), ((setshp0 p0 p1 p2 p3 pn q0 q1 q2 q3 qn r0 r1 r2 r3 rn a0 a1 a2 a3) : AHeap))) ia).2.2) ∧ ∀ _ : Unit, True → 
          (SpecC Tryd.prog [0, 2, 3] (.fn 24) [(.agg ⟨[(.int .u8 q0), (.int .u8 q1), (.int .u8 q2), (.int .u8 q3), (.int .i64 qn)]⟩), (.agg ⟨[(.int .u8 a0), (.int .u8 a1), (.int .u8 a2), (.int .u8 a3)]⟩)] (setshp0 p0 p1 p2 p3 pn q0 q1 q2 q3 qn r0 r1 r2 r3 rn a0 a1 a2 a3) (fun r h' => ∃ ia, ((fun _ : Unit => (True, Res.ret (.tuple ⟨[(.bool (hasV [q0, q1, q2, q3] qn [a0, a1, a2, a3])), (.int .i64 (chk [q0, q1, q2, q3] qn))]⟩), ((setshp0 p0 p1 p2 p3 pn q0 q1 q2 q3 qn r0 r1 r2 r3 rn a0 a1 a2 a3) : AHeap))) ia).1 ∧ r = ((fun _ : Unit => (True, Res.ret (.tuple ⟨[(.bool (hasV [q0, q1, q2, q3] qn [a0, a1, a2, a3])), (.int .i64 (chk [q0, q1, q2, q3] qn))]⟩), ((setshp0 p0 p1 p2 p3 pn q0 q1 q2 q3 qn r0 r1 r2 r3 rn a0 a1 a2 a3) : AHeap))) ia).2.1 ∧ h' = ((fun _ : Unit => (True, Res.ret (.tuple ⟨[(.bool (hasV [q0, q1, q2, q3] qn [a0, a1, a2, a3])), (.int .i64 (chk [q0, q1, q2, q3] qn))]⟩), ((setshp0 p0 p1 p2 p3 pn q0 q1 q2 q3 qn r0 r1 r2 r3 rn a0 a1 a2 a3) : AHeap))) ia).2.2) ∧ ∀ _ : Unit, True → 
          (SpecC Tryd.prog [0, 2, 3] (.fn 24) [(.agg ⟨[(.int .u8 p0), (.int .u8 p1), (.int .u8 p2), (.int .u8 p3), (.int .i64 pn)]⟩), (.agg ⟨[(.int .u8 q0), (.int .u8 q1), (.int .u8 q2), (.int .u8 q3)]⟩)] (setshp0 p0 p1 p2 p3 pn q0 q1 q2 q3 qn r0 r1 r2 r3 rn a0 a1 a2 a3) (fun r h' => ∃ ia, ((fun _ : Unit => (True, Res.ret (.tuple ⟨[(.bool (hasV [p0, p1, p2, p3] pn [q0, q1, q2, q3])), (.int .i64 (chk [p0, p1, p2, p3] pn))]⟩), ((setshp0 p0 p1 p2 p3 pn q0 q1 q2 q3 qn r0 r1 r2 r3 rn a0 a1 a2 a3) : AHeap))) ia).1 ∧ r = ((fun _ : Unit => (True, Res.ret (.tuple ⟨[(.bool (hasV [p0, p1, p2, p3] pn [q0, q1, q2, q3])), (.int .i64 (chk [p0, p1, p2, p3] pn))]⟩), ((setshp0 p0 p1 p2 p3 pn q0 q1 q2 q3 qn r0 r1 r2 r3 rn a0 a1 a2 a3) : AHeap))) ia).2.1 ∧ h' = ((fun _ : Unit => (True, Res.ret (.tuple ⟨[(.bool (hasV [p0, p1, p2, p3] pn [q0, q1, q2, q3])), (.int .i64 (chk [p0, p1, p2, p3] pn))]⟩), ((setshp0 p0 p1 p2 p3 pn q0 q1 q2 q3 qn r0 r1 r2 r3 rn a0 a1 a2 a3) : AHeap))) ia).2.2) ∧ ∀ _ : Unit, True → 
          (SpecC Tryd.prog [0, 2, 3] (.fn 24) [(.agg ⟨[(.int .u8 q0), (.int .u8 q1), (.int .u8 q2), (.int .u8 q3), (.int .i64 qn)]⟩), (.agg ⟨[(.int .u8 p0), (.int .u8 p1), (.int .u8 p2), (.int .u8 p3)]⟩)] (setshp0 p0 p1 p2 p3 pn q0 q1 q2 q3 qn r0 r1 r2 r3 rn a0 a1 a2 a3) (fun r h' => ∃ ia, ((fun _ : Unit => (True, Res.ret (.tuple ⟨[(.bool (hasV [q0, q1, q2, q3] qn [p0, p1, p2, p3])), (.int .i64 (chk [q0, q1, q2, q3] qn))]⟩), ((setshp0 p0 p1 p2 p3 pn q0 q1 q2 q3 qn r0 r1 r2 r3 rn a0 a1 a2 a3) : AHeap))) ia).1 ∧ r = ((fun _ : Unit => (True, Res.ret (.tuple ⟨[(.bool (hasV [q0, q1, q2, q3] qn [p0, p1, p2, p3])), (.int .i64 (chk [q0, q1, q2, q3] qn))]⟩), ((setshp0 p0 p1 p2 p3 pn q0 q1 q2 q3 qn r0 r1 r2 r3 rn a0 a1 a2 a3) : AHeap))) ia).2.1 ∧ h' = ((fun _ : Unit => (True, Res.ret (.tuple ⟨[(.bool (hasV [q0, q1, q2, q3] qn [p0, p1, p2, p3])), (.int .i64 (chk [q0, q1, q2, q3] qn))]⟩), ((setshp0 p0 p1 p2 p3 pn q0 q1 q2 q3 qn r0 r1 r2 r3 rn a0 a1 a2 a3) : AHeap))) ia).2.2) ∧ ∀ _ : Unit, True → 
          (((hasV [p0, p1, p2, p3] pn [a0, a1, a2, a3]) = true → 
            (((hasV [q0, q1, q2, q3] qn [a0, a1, a2, a3]) = true → 
              (((coverV [p0, p1, p2, p3] pn [q0, q1, q2, q3] qn) = true → 
                (((coverV [p0, p1, p2, p3] pn [q0, q1, q2, q3] qn) = true → 
                  (((coverV [q0, q1, q2, q3] qn [p0, p1, p2, p3] pn) = true → 
                    ((∃ z1 : Bool, aBin2 Tryd.prog BinOp.neq 39 (Operand.tmp 122) (Operand.tmp 123) (.agg ⟨[(.int .u8 p0), (.int .u8 p1), (.int .u8 p2), (.int .u8 p3), (.int .i64 pn)]⟩) (.agg ⟨[(.int .u8 q0), (.int .u8 q1), (.int .u8 q2), (.int .u8 q3), (.int .i64 qn)]⟩) = some (.bool z1)) ∧
                     (aBin2 Tryd.prog BinOp.neq 39 (Operand.tmp 122) (Operand.tmp 123) (.agg ⟨[(.int .u8 p0), (.int .u8 p1), (.int .u8 p2), (.int .u8 p3), (.int .i64 pn)]⟩) (.agg ⟨[(.int .u8 q0), (.int .u8 q1), (.int .u8 q2), (.int .u8 q3), (.int .i64 qn)]⟩) = some (.bool true) → Q (.ret (.bool false))) ∧
                     (aBin2 Tryd.prog BinOp.neq 39 (Operand.tmp 122) (Operand.tmp 123) (.agg ⟨[(.int .u8 p0), (.int .u8 p1), (.int .u8 p2), (.int .u8 p3), (.int .i64 pn)]⟩) (.agg ⟨[(.int .u8 q0), (.int .u8 q1), (.int .u8 q2), (.int .u8 q3), (.int .i64 qn)]⟩) = some (.bool false) → 
                      (((coverV [p0, p1, p2, p3] pn [q0, q1, q2, q3] qn) = true → 
                        (((coverV [q0, q1, q2, q3] qn [r0, r1, r2, r3] rn) = true → 
                          (((coverV [p0, p1, p2, p3] pn [r0, r1, r2, r3] rn) = true → 
                            (((coverV [p0, p1, p2, p3] pn [q0, q1, q2, q3] qn) = true → 
                              (((hasV [p0, p1, p2, p3] pn [q0, q1, q2, q3]) = true → Q (.ret (.bool true))) ∧
                               ((hasV [p0, p1, p2, p3] pn [q0, q1, q2, q3]) = false → 
                                (((hasV [q0, q1, q2, q3] qn [p0, p1, p2, p3]) = true → Q (.ret (.bool true))) ∧
                                 ((hasV [q0, q1, q2, q3] qn [p0, p1, p2, p3]) = false → Q (.ret (.bool false))))))) ∧
                             ((coverV [p0, p1, p2, p3] pn [q0, q1, q2, q3] qn) = false → False))) ∧
                           ((coverV [p0, p1, p2, p3] pn [r0, r1, r2, r3] rn) = false → Q (.ret (.bool false))))) ∧
                         ((coverV [q0, q1, q2, q3] qn [r0, r1, r2, r3] rn) = false → 
                          (((coverV [p0, p1, p2, p3] pn [q0, q1, q2, q3] qn) = true → 
                            (((hasV [p0, p1, p2, p3] pn [q0, q1, q2, q3]) = true → Q (.ret (.bool true))) ∧
                             ((hasV [p0, p1, p2, p3] pn [q0, q1, q2, q3]) = false → 
                              (((hasV [q0, q1, q2, q3] qn [p0, p1, p2, p3]) = true → Q (.ret (.bool true))) ∧
                               ((hasV [q0, q1, q2, q3] qn [p0, p1, p2, p3]) = false → Q (.ret (.bool false))))))) ∧
                           ((coverV [p0, p1, p2, p3] pn [q0, q1, q2, q3] qn) = false → False))))) ∧
                       ((coverV [p0, p1, p2, p3] pn [q0, q1, q2, q3] qn) = false → False))))) ∧
                   ((coverV [q0, q1, q2, q3] qn [p0, p1, p2, p3] pn) = false → 
                    (((coverV [p0, p1, p2, p3] pn [q0, q1, q2, q3] qn) = true → 
                      (((coverV [q0, q1, q2, q3] qn [r0, r1, r2, r3] rn) = true → 
                        (((coverV [p0, p1, p2, p3] pn [r0, r1, r2, r3] rn) = true → 
                          (((coverV [p0, p1, p2, p3] pn [q0, q1, q2, q3] qn) = true → 
                            (((hasV [p0, p1, p2, p3] pn [q0, q1, q2, q3]) = true → Q (.ret (.bool true))) ∧
                             ((hasV [p0, p1, p2, p3] pn [q0, q1, q2, q3]) = false → 
                              (((hasV [q0, q1, q2, q3] qn [p0, p1, p2, p3]) = true → Q (.ret (.bool true))) ∧
                               ((hasV [q0, q1, q2, q3] qn [p0, p1, p2, p3]) = false → Q (.ret (.bool false))))))) ∧
                           ((coverV [p0, p1, p2, p3] pn [q0, q1, q2, q3] qn) = false → False))) ∧
                         ((coverV [p0, p1, p2, p3] pn [r0, r1, r2, r3] rn) = false → Q (.ret (.bool false))))) ∧
                       ((coverV [q0, q1, q2, q3] qn [r0, r1, r2, r3] rn) = false → 
                        (((coverV [p0, p1, p2, p3] pn [q0, q1, q2, q3] qn) = true → 
                          (((hasV [p0, p1, p2, p3] pn [q0, q1, q2, q3]) = true → Q (.ret (.bool true))) ∧
                           ((hasV [p0, p1, p2, p3] pn [q0, q1, q2, q3]) = false → 
                            (((hasV [q0, q1, q2, q3] qn [p0, p1, p2, p3]) = true → Q (.ret (.bool true))) ∧
                             ((hasV [q0, q1, q2, q3] qn [p0, p1, p2, p3]) = false → Q (.ret (.bool false))))))) ∧
                         ((coverV [p0, p1, p2, p3] pn [q0, q1, q2, q3] qn) = false → False))))) ∧
                     ((coverV [p0, p1, p2, p3] pn [q0, q1, q2, q3] qn) = false → False))))) ∧
                 ((coverV [p0, p1, p2, p3] pn [q0, q1, q2, q3] qn) = false → False))) ∧
               ((coverV [p0, p1, p2, p3] pn [q0, q1, q2, q3] qn) = false → 
                (((coverV [q0, q1, q2, q3] qn [p0, p1, p2, p3] pn) = true → 
                  (((coverV [p0, p1, p2, p3] pn [q0, q1, q2, q3] qn) = true → False) ∧
                   ((coverV [p0, p1, p2, p3] pn [q0, q1, q2, q3] qn) = false → 
                    (((coverV [p0, p1, p2, p3] pn [q0, q1, q2, q3] qn) = true → False) ∧
                     ((coverV [p0, p1, p2, p3] pn [q0, q1, q2, q3] qn) = false → 
                      (((coverV [p0, p1, p2, p3] pn [q0, q1, q2, q3] qn) = true → False) ∧
                       ((coverV [p0, p1, p2, p3] pn [q0, q1, q2, q3] qn) = false → 
                        (((coverV [q0, q1, q2, q3] qn [p0, p1, p2, p3] pn) = true → 
                          (((hasV [p0, p1, p2, p3] pn [q0, q1, q2, q3]) = true → Q (.ret (.bool true))) ∧
                           ((hasV [p0, p1, p2, p3] pn [q0, q1, q2, q3]) = false → 
                            (((hasV [q0, q1, q2, q3] qn [p0, p1, p2, p3]) = true → Q (.ret (.bool true))) ∧
                             ((hasV [q0, q1, q2, q3] qn [p0, p1, p2, p3]) = false → Q (.ret (.bool false))))))) ∧
                         ((coverV [q0, q1, q2, q3] qn [p0, p1, p2, p3] pn) = false → False))))))))) ∧
                 ((coverV [q0, q1, q2, q3] qn [p0, p1, p2, p3] pn) = false → Q (.ret (.bool false))))))) ∧
             ((hasV [q0, q1, q2, q3] qn [a0, a1, a2, a3]) = false → 
              (((coverV [p0, p1, p2, p3] pn [q0, q1, q2, q3] qn) = true → 
                (((coverV [q0, q1, q2, q3] qn [p0, p1, p2, p3] pn) = true → 
                  ((∃ z1 : Bool, aBin2 Tryd.prog BinOp.neq 39 (Operand.tmp 122) (Operand.tmp 123) (.agg ⟨[(.int .u8 p0), (.int .u8 p1), (.int .u8 p2), (.int .u8 p3), (.int .i64 pn)]⟩) (.agg ⟨[(.int .u8 q0), (.int .u8 q1), (.int .u8 q2), (.int .u8 q3), (.int .i64 qn)]⟩) = some (.bool z1)) ∧
                   (aBin2 Tryd.prog BinOp.neq 39 (Operand.tmp 122) (Operand.tmp 123) (.agg ⟨[(.int .u8 p0), (.int .u8 p1), (.int .u8 p2), (.int .u8 p3), (.int .i64 pn)]⟩) (.agg ⟨[(.int .u8 q0), (.int .u8 q1), (.int .u8 q2), (.int .u8 q3), (.int .i64 qn)]⟩) = some (.bool true) → Q (.ret (.bool false))) ∧
                   (aBin2 Tryd.prog BinOp.neq 39 (Operand.tmp 122) (Operand.tmp 123) (.agg ⟨[(.int .u8 p0), (.int .u8 p1), (.int .u8 p2), (.int .u8 p3), (.int .i64 pn)]⟩) (.agg ⟨[(.int .u8 q0), (.int .u8 q1), (.int .u8 q2), (.int .u8 q3), (.int .i64 qn)]⟩) = some (.bool false) → 
                    (((coverV [p0, p1, p2, p3] pn [q0, q1, q2, q3] qn) = true → 
                      (((coverV [q0, q1, q2, q3] qn [r0, r1, r2, r3] rn) = true → 
                        (((coverV [p0, p1, p2, p3] pn [r0, r1, r2, r3] rn) = true → 
                          (((coverV [p0, p1, p2, p3] pn [q0, q1, q2, q3] qn) = true → 
                            (((hasV [p0, p1, p2, p3] pn [q0, q1, q2, q3]) = true → Q (.ret (.bool true))) ∧
                             ((hasV [p0, p1, p2, p3] pn [q0, q1, q2, q3]) = false → 
                              (((hasV [q0, q1, q2, q3] qn [p0, p1, p2, p3]) = true → Q (.ret (.bool true))) ∧
                               ((hasV [q0, q1, q2, q3] qn [p0, p1, p2, p3]) = false → Q (.ret (.bool false))))))) ∧
                           ((coverV [p0, p1, p2, p3] pn [q0, q1, q2, q3] qn) = false → False))) ∧
                         ((coverV [p0, p1, p2, p3] pn [r0, r1, r2, r3] rn) = false → Q (.ret (.bool false))))) ∧
                       ((coverV [q0, q1, q2, q3] qn [r0, r1, r2, r3] rn) = false → 
                        (((coverV [p0, p1, p2, p3] pn [q0, q1, q2, q3] qn) = true → 
                          (((hasV [p0, p1, p2, p3] pn [q0, q1, q2, q3]) = true → Q (.ret (.bool true))) ∧
                           ((hasV [p0, p1, p2, p3] pn [q0, q1, q2, q3]) = false → 
                            (((hasV [q0, q1, q2, q3] qn [p0, p1, p2, p3]) = true → Q (.ret (.bool true))) ∧
                             ((hasV [q0, q1, q2, q3] qn [p0, p1, p2, p3]) = false → Q (.ret (.bool false))))))) ∧
                         ((coverV [p0, p1, p2, p3] pn [q0, q1, q2, q3] qn) = false → False))))) ∧
                     ((coverV [p0, p1, p2, p3] pn [q0, q1, q2, q3] qn) = false → False))))) ∧
                 ((coverV [q0, q1, q2, q3] qn [p0, p1, p2, p3] pn) = false → 
                  (((coverV [p0, p1, p2, p3] pn [q0, q1, q2, q3] qn) = true → 
                    (((coverV [q0, q1, q2, q3] qn [r0, r1, r2, r3] rn) = true → 
                      (((coverV [p0, p1, p2, p3] pn [r0, r1, r2, r3] rn) = true → 
                        (((coverV [p0, p1, p2, p3] pn [q0, q1, q2, q3] qn) = true → 
                          (((hasV [p0, p1, p2, p3] pn [q0, q1, q2, q3]) = true → Q (.ret (.bool true))) ∧
                           ((hasV [p0, p1, p2, p3] pn [q0, q1, q2, q3]) = false → 
                            (((hasV [q0, q1, q2, q3] qn [p0, p1, p2, p3]) = true → Q (.ret (.bool true))) ∧
                             ((hasV [q0, q1, q2, q3] qn [p0, p1, p2, p3]) = false → Q (.ret (.bool false))))))) ∧
                         ((coverV [p0, p1, p2, p3] pn [q0, q1, q2, q3] qn) = false → False))) ∧
                       ((coverV [p0, p1, p2, p3] pn [r0, r1, r2, r3] rn) = false → Q (.ret (.bool false))))) ∧
                     ((coverV [q0, q1, q2, q3] qn [r0, r1, r2, r3] rn) = false → 
                      (((coverV [p0, p1, p2, p3] pn [q0, q1, q2, q3] qn) = true → 
                        (((hasV [p0, p1, p2, p3] pn [q0, q1, q2, q3]) = true → Q (.ret (.bool true))) ∧
                         ((hasV [p0, p1, p2, p3] pn [q0, q1, q2, q3]) = false → 
                          (((hasV [q0, q1, q2, q3] qn [p0, p1, p2, p3]) = true → Q (.ret (.bool true))) ∧
                           ((hasV [q0, q1, q2, q3] qn [p0, p1, p2, p3]) = false → Q (.ret (.bool false))))))) ∧
                       ((coverV [p0, p1, p2, p3] pn [q0, q1, q2, q3] qn) = false → False))))) ∧
                   ((coverV [p0, p1, p2, p3] pn [q0, q1, q2, q3] qn) = false → False))))) ∧
               ((coverV [p0, p1, p2, p3] pn [q0, q1, q2, q3] qn) = false → 
                (((coverV [p0, p1, p2, p3] pn [q0, q1, q2, q3] qn) = true → False) ∧
                 ((coverV [p0, p1, p2, p3] pn [q0, q1, q2, q3] qn) = false → 
                  (((coverV [p0, p1, p2, p3] pn [q0, q1, q2, q3] qn) = true → False) ∧
                   ((coverV [p0, p1, p2, p3] pn [q0, q1, q2, q3] qn) = false → 
                    (((coverV [q0, q1, q2, q3] qn [p0, p1, p2, p3] pn) = true → 
                      (((hasV [p0, p1, p2, p3] pn [q0, q1, q2, q3]) = true → Q (.ret (.bool true))) ∧
                       ((hasV [p0, p1, p2, p3] pn [q0, q1, q2, q3]) = false → 
                        (((hasV [q0, q1, q2, q3] qn [p0, p1, p2, p3]) = true → Q (.ret (.bool true))) ∧
                         ((hasV [q0, q1, q2, q3] qn [p0, p1, p2, p3]) = false → Q (.ret (.bool false))))))) ∧
                     ((coverV [q0, q1, q2, q3] qn [p0, p1, p2, p3] pn) = false → 
                      (((hasV [p0, p1, p2, p3] pn [q0, q1, q2, q3]) = true → Q (.ret (.bool false))) ∧
                       ((hasV [p0, p1, p2, p3] pn [q0, q1, q2, q3]) = false → 
                        (((hasV [q0, q1, q2, q3] qn [p0, p1, p2, p3]) = true → Q (.ret (.bool false))) ∧
                         ((hasV [q0, q1, q2, q3] qn [p0, p1, p2, p3]) = false → Q (.ret (.bool true))))))))))))))))) ∧
           ((hasV [p0, p1, p2, p3] pn [a0, a1, a2, a3]) = false → 
            (((coverV [p0, p1, p2, p3] pn [q0, q1, q2, q3] qn) = true → 
              (((coverV [q0, q1, q2, q3] qn [p0, p1, p2, p3] pn) = true → 
                ((∃ z1 : Bool, aBin2 Tryd.prog BinOp.neq 39 (Operand.tmp 122) (Operand.tmp 123) (.agg ⟨[(.int .u8 p0), (.int .u8 p1), (.int .u8 p2), (.int .u8 p3), (.int .i64 pn)]⟩) (.agg ⟨[(.int .u8 q0), (.int .u8 q1), (.int .u8 q2), (.int .u8 q3), (.int .i64 qn)]⟩) = some (.bool z1)) ∧
                 (aBin2 Tryd.prog BinOp.neq 39 (Operand.tmp 122) (Operand.tmp 123) (.agg ⟨[(.int .u8 p0), (.int .u8 p1), (.int .u8 p2), (.int .u8 p3), (.int .i64 pn)]⟩) (.agg ⟨[(.int .u8 q0), (.int .u8 q1), (.int .u8 q2), (.int .u8 q3), (.int .i64 qn)]⟩) = some (.bool true) → Q (.ret (.bool false))) ∧
                 (aBin2 Tryd.prog BinOp.neq 39 (Operand.tmp 122) (Operand.tmp 123) (.agg ⟨[(.int .u8 p0), (.int .u8 p1), (.int .u8 p2), (.int .u8 p3), (.int .i64 pn)]⟩) (.agg ⟨[(.int .u8 q0), (.int .u8 q1), (.int .u8 q2), (.int .u8 q3), (.int .i64 qn)]⟩) = some (.bool false) → 
                  (((coverV [p0, p1, p2, p3] pn [q0, q1, q2, q3] qn) = true → 
                    (((coverV [q0, q1, q2, q3] qn [r0, r1, r2, r3] rn) = true → 
                      (((coverV [p0, p1, p2, p3] pn [r0, r1, r2, r3] rn) = true → 
                        (((coverV [p0, p1, p2, p3] pn [q0, q1, q2, q3] qn) = true → 
                          (((hasV [p0, p1, p2, p3] pn [q0, q1, q2, q3]) = true → Q (.ret (.bool true))) ∧
                           ((hasV [p0, p1, p2, p3] pn [q0, q1, q2, q3]) = false → 
                            (((hasV [q0, q1, q2, q3] qn [p0, p1, p2, p3]) = true → Q (.ret (.bool true))) ∧
                             ((hasV [q0, q1, q2, q3] qn [p0, p1, p2, p3]) = false → Q (.ret (.bool false))))))) ∧
                         ((coverV [p0, p1, p2, p3] pn [q0, q1, q2, q3] qn) = false → False))) ∧
                       ((coverV [p0, p1, p2, p3] pn [r0, r1, r2, r3] rn) = false → Q (.ret (.bool false))))) ∧
                     ((coverV [q0, q1, q2, q3] qn [r0, r1, r2, r3] rn) = false → 
                      (((coverV [p0, p1, p2, p3] pn [q0, q1, q2, q3] qn) = true → 
                        (((hasV [p0, p1, p2, p3] pn [q0, q1, q2, q3]) = true → Q (.ret (.bool true))) ∧
                         ((hasV [p0, p1, p2, p3] pn [q0, q1, q2, q3]) = false → 
                          (((hasV [q0, q1, q2, q3] qn [p0, p1, p2, p3]) = true → Q (.ret (.bool true))) ∧
                           ((hasV [q0, q1, q2, q3] qn [p0, p1, p2, p3]) = false → Q (.ret (.bool false))))))) ∧
                       ((coverV [p0, p1, p2, p3] pn [q0, q1, q2, q3] qn) = false → False))))) ∧
                   ((coverV [p0, p1, p2, p3] pn [q0, q1, q2, q3] qn) = false → False))))) ∧
               ((coverV [q0, q1, q2, q3] qn [p0, p1, p2, p3] pn) = false → 
                (((coverV [p0, p1, p2, p3] pn [q0, q1, q2, q3] qn) = true → 
                  (((coverV [q0, q1, q2, q3] qn [r0, r1, r2, r3] rn) = true → 
                    (((coverV [p0, p1, p2, p3] pn [r0, r1, r2, r3] rn) = true → 
                      (((coverV [p0, p1, p2, p3] pn [q0, q1, q2, q3] qn) = true → 
                        (((hasV [p0, p1, p2, p3] pn [q0, q1, q2, q3]) = true → Q (.ret (.bool true))) ∧
                         ((hasV [p0, p1, p2, p3] pn [q0, q1, q2, q3]) = false → 
                          (((hasV [q0, q1, q2, q3] qn [p0, p1, p2, p3]) = true → Q (.ret (.bool true))) ∧
                           ((hasV [q0, q1, q2, q3] qn [p0, p1, p2, p3]) = false → Q (.ret (.bool false))))))) ∧
                       ((coverV [p0, p1, p2, p3] pn [q0, q1, q2, q3] qn) = false → False))) ∧
                     ((coverV [p0, p1, p2, p3] pn [r0, r1, r2, r3] rn) = false → Q (.ret (.bool false))))) ∧
                   ((coverV [q0, q1, q2, q3] qn [r0, r1, r2, r3] rn) = false → 
                    (((coverV [p0, p1, p2, p3] pn [q0, q1, q2, q3] qn) = true → 
                      (((hasV [p0, p1, p2, p3] pn [q0, q1, q2, q3]) = true → Q (.ret (.bool true))) ∧
                       ((hasV [p0, p1, p2, p3] pn [q0, q1, q2, q3]) = false → 
                        (((hasV [q0, q1, q2, q3] qn [p0, p1, p2, p3]) = true → Q (.ret (.bool true))) ∧
                         ((hasV [q0, q1, q2, q3] qn [p0, p1, p2, p3]) = false → Q (.ret (.bool false))))))) ∧
                     ((coverV [p0, p1, p2, p3] pn [q0, q1, q2, q3] qn) = false → False))))) ∧
                 ((coverV [p0, p1, p2, p3] pn [q0, q1, q2, q3] qn) = false → False))))) ∧
             ((coverV [p0, p1, p2, p3] pn [q0, q1, q2, q3] qn) = false → 
              (((coverV [p0, p1, p2, p3] pn [q0, q1, q2, q3] qn) = true → False) ∧
               ((coverV [p0, p1, p2, p3] pn [q0, q1, q2, q3] qn) = false → 
                (((coverV [p0, p1, p2, p3] pn [q0, q1, q2, q3] qn) = true → False) ∧
                 ((coverV [p0, p1, p2, p3] pn [q0, q1, q2, q3] qn) = false → 
                  (((coverV [q0, q1, q2, q3] qn [p0, p1, p2, p3] pn) = true → 
                    (((hasV [p0, p1, p2, p3] pn [q0, q1, q2, q3]) = true → Q (.ret (.bool true))) ∧
                     ((hasV [p0, p1, p2, p3] pn [q0, q1, q2, q3]) = false → 
                      (((hasV [q0, q1, q2, q3] qn [p0, p1, p2, p3]) = true → Q (.ret (.bool true))) ∧
                       ((hasV [q0, q1, q2, q3] qn [p0, p1, p2, p3]) = false → Q (.ret (.bool false))))))) ∧
                   ((coverV [q0, q1, q2, q3] qn [p0, p1, p2, p3] pn) = false → 
                    (((hasV [p0, p1, p2, p3] pn [q0, q1, q2, q3]) = true → Q (.ret (.bool false))) ∧
                     ((hasV [p0, p1, p2, p3] pn [q0, q1, q2, q3]) = false → 
                      (((hasV [q0, q1, q2, q3] qn [p0, p1, p2, p3]) = true → Q (.ret (.bool false))) ∧
                       ((hasV [q0, q1, q2, q3] qn [p0, p1, p2, p3]) = false → Q (.ret (.bool true)))))))))))))))))))))))))))))))))) =
    runS Tryd.prog [0, 2, 3] false [17, 22, 24, 23] 0 (SpecC Tryd.prog [0, 2, 3]) 20 7 [.agg ⟨[.int .u8 p0, .int .u8 p1, .int .u8 p2, .int .u8 p3, .int .i64 pn]⟩, .agg ⟨[.int .u8 q0, .int .u8 q1, .int .u8 q2, .int .u8 q3, .int .i64 qn]⟩, .agg ⟨[.int .u8 r0, .int .u8 r1, .int .u8 r2, .int .u8 r3, .int .i64 rn]⟩, .agg ⟨[.int .u8 a0, .int .u8 a1, .int .u8 a2, .int .u8 a3]⟩] gh .norm (.skip 5 (.call Unit (fun _ : Unit => (True, Res.ret (.bool true), ([.cells pow10 true, .dead, .cells tab32 true, .cells tab64 true, .cells [(.int .u8 p0), (.int .u8 p1), (.int .u8 p2), (.int .u8 p3), (.int .i64 pn)] false, .cells [(.int .u8 q0), (.int .u8 q1), (.int .u8 q2), (.int .u8 q3), (.int .i64 qn)] false, .cells [(.int .u8 r0), (.int .u8 r1), (.int .u8 r2), (.int .u8 r3), (.int .i64 rn)] false, .cells [(.int .u8 a0), (.int .u8 a1), (.int .u8 a2), (.int .u8 a3)] false] : AHeap))) fun _ => .skip 4 (.call Unit (fun _ : Unit => (True, Res.ret (.tuple ⟨[(.bool (coverV [p0, p1, p2, p3] pn [q0, q1, q2, q3] qn)), (.int .i64 (coverE [p0, p1, p2, p3] pn [q0, q1, q2, q3] qn))]⟩), ([.cells pow10 true, .dead, .cells tab32 true, .cells tab64 true, .cells [(.int .u8 p0), (.int .u8 p1), (.int .u8 p2), (.int .u8 p3), (.int .i64 pn)] false, .cells [(.int .u8 q0), (.int .u8 q1), (.int .u8 q2), (.int .u8 q3), (.int .i64 qn)] false, .cells [(.int .u8 r0), (.int .u8 r1), (.int .u8 r2), (.int .u8 r3), (.int .i64 rn)] false, .cells [(.int .u8 a0), (.int .u8 a1), (.int .u8 a2), (.int .u8 a3)] false] : AHeap))) fun _ => .skip 7 (.call Unit (fun _ : Unit => (True, Res.ret (.tuple ⟨[(.bool (coverV [q0, q1, q2, q3] qn [p0, p1, p2, p3] pn)), (.int .i64 (coverE [q0, q1, q2, q3] qn [p0, p1, p2, p3] pn))]⟩), ([.cells pow10 true, .dead, .cells tab32 true, .cells tab64 true, .cells [(.int .u8 p0), (.int .u8 p1), (.int .u8 p2), (.int .u8 p3), (.int .i64 pn)] false, .cells [(.int .u8 q0), (.int .u8 q1), (.int .u8 q2), (.int .u8 q3), (.int .i64 qn)] false, .cells [(.int .u8 r0), (.int .u8 r1), (.int .u8 r2), (.int .u8 r3), (.int .i64 rn)] false, .cells [(.int .u8 a0), (.int .u8 a1), (.int .u8 a2), (.int .u8 a3)] false] : AHeap))) fun _ => .skip 7 (.call Unit (fun _ : Unit => (True, Res.ret (.tuple ⟨[(.bool (coverV [q0, q1, q2, q3] qn [r0, r1, r2, r3] rn)), (.int .i64 (coverE [q0, q1, q2, q3] qn [r0, r1, r2, r3] rn))]⟩), ([.cells pow10 true, .dead, .cells tab32 true, .cells tab64 true, .cells [(.int .u8 p0), (.int .u8 p1), (.int .u8 p2), (.int .u8 p3), (.int .i64 pn)] false, .cells [(.int .u8 q0), (.int .u8 q1), (.int .u8 q2), (.int .u8 q3), (.int .i64 qn)] false, .cells [(.int .u8 r0), (.int .u8 r1), (.int .u8 r2), (.int .u8 r3), (.int .i64 rn)] false, .cells [(.int .u8 a0), (.int .u8 a1), (.int .u8 a2), (.int .u8 a3)] false] : AHeap))) fun _ => .skip 7 (.call Unit (fun _ : Unit => (True, Res.ret (.tuple ⟨[(.bool (coverV [p0, p1, p2, p3] pn [r0, r1, r2, r3] rn)), (.int .i64 (coverE [p0, p1, p2, p3] pn [r0, r1, r2, r3] rn))]⟩), ([.cells pow10 true, .dead, .cells tab32 true, .cells tab64 true, .cells [(.int .u8 p0), (.int .u8 p1), (.int .u8 p2), (.int .u8 p3), (.int .i64 pn)] false, .cells [(.int .u8 q0), (.int .u8 q1), (.int .u8 q2), (.int .u8 q3), (.int .i64 qn)] false, .cells [(.int .u8 r0), (.int .u8 r1), (.int .u8 r2), (.int .u8 r3), (.int .i64 rn)] false, .cells [(.int .u8 a0), (.int .u8 a1), (.int .u8 a2), (.int .u8 a3)] false] : AHeap))) fun _ => .skip 6 (.ask (.skip 14 (.call Unit (fun _ : Unit => (True, Res.ret (.int .i64 (chk [p0, p1, p2, p3] pn)), ([.cells pow10 true, .dead, .cells tab32 true, .cells tab64 true, .cells [(.int .u8 p0), (.int .u8 p1), (.int .u8 p2), (.int .u8 p3), (.int .i64 pn)] false, .cells [(.int .u8 q0), (.int .u8 q1), (.int .u8 q2), (.int .u8 q3), (.int .i64 qn)] false, .cells [(.int .u8 r0), (.int .u8 r1), (.int .u8 r2), (.int .u8 r3), (.int .i64 rn)] false, .cells [(.int .u8 a0), (.int .u8 a1), (.int .u8 a2), (.int .u8 a3)] false] : AHeap))) fun _ => .skip 0 (.ask (.go) (.skip 4 (.call Unit (fun _ : Unit => (True, Res.ret (.int .i64 (chk [q0, q1, q2, q3] qn)), ([.cells pow10 true, .dead, .cells tab32 true, .cells tab64 true, .cells [(.int .u8 p0), (.int .u8 p1), (.int .u8 p2), (.int .u8 p3), (.int .i64 pn)] false, .cells [(.int .u8 q0), (.int .u8 q1), (.int .u8 q2), (.int .u8 q3), (.int .i64 qn)] false, .cells [(.int .u8 r0), (.int .u8 r1), (.int .u8 r2), (.int .u8 r3), (.int .i64 rn)] false, .cells [(.int .u8 a0), (.int .u8 a1), (.int .u8 a2), (.int .u8 a3)] false] : AHeap))) fun _ => .skip 1 (.ask (.go) (.skip 5 (.call Unit (fun _ : Unit => (True, Res.ret (.int .i64 (chk [r0, r1, r2, r3] rn)), ([.cells pow10 true, .dead, .cells tab32 true, .cells tab64 true, .cells [(.int .u8 p0), (.int .u8 p1), (.int .u8 p2), (.int .u8 p3), (.int .i64 pn)] false, .cells [(.int .u8 q0), (.int .u8 q1), (.int .u8 q2), (.int .u8 q3), (.int .i64 qn)] false, .cells [(.int .u8 r0), (.int .u8 r1), (.int .u8 r2), (.int .u8 r3), (.int .i64 rn)] false, .cells [(.int .u8 a0), (.int .u8 a1), (.int .u8 a2), (.int .u8 a3)] false] : AHeap))) fun _ => .skip 1 (.ask (.go) (.go)))))))))) (.skip 4 (.ask (.skip 11 (.call Unit (fun _ : Unit => (True, Res.ret (.int .i64 (chk [p0, p1, p2, p3] pn)), ([.cells pow10 true, .dead, .cells tab32 true, .cells tab64 true, .cells [(.int .u8 p0), (.int .u8 p1), (.int .u8 p2), (.int .u8 p3), (.int .i64 pn)] false, .cells [(.int .u8 q0), (.int .u8 q1), (.int .u8 q2), (.int .u8 q3), (.int .i64 qn)] false, .cells [(.int .u8 r0), (.int .u8 r1), (.int .u8 r2), (.int .u8 r3), (.int .i64 rn)] false, .cells [(.int .u8 a0), (.int .u8 a1), (.int .u8 a2), (.int .u8 a3)] false] : AHeap))) fun _ => .skip 0 (.ask (.go) (.skip 4 (.call Unit (fun _ : Unit => (True, Res.ret (.int .i64 (chk [q0, q1, q2, q3] qn)), ([.cells pow10 true, .dead, .cells tab32 true, .cells tab64 true, .cells [(.int .u8 p0), (.int .u8 p1), (.int .u8 p2), (.int .u8 p3), (.int .i64 pn)] false, .cells [(.int .u8 q0), (.int .u8 q1), (.int .u8 q2), (.int .u8 q3), (.int .i64 qn)] false, .cells [(.int .u8 r0), (.int .u8 r1), (.int .u8 r2), (.int .u8 r3), (.int .i64 rn)] false, .cells [(.int .u8 a0), (.int .u8 a1), (.int .u8 a2), (.int .u8 a3)] false] : AHeap))) fun _ => .skip 1 (.ask (.go) (.skip 5 (.call Unit (fun _ : Unit => (True, Res.ret (.int .i64 (chk [r0, r1, r2, r3] rn)), ([.cells pow10 true, .dead, .cells tab32 true, .cells tab64 true, .cells [(.int .u8 p0), (.int .u8 p1), (.int .u8 p2), (.int .u8 p3), (.int .i64 pn)] false, .cells [(.int .u8 q0), (.int .u8 q1), (.int .u8 q2), (.int .u8 q3), (.int .i64 qn)] false, .cells [(.int .u8 r0), (.int .u8 r1), (.int .u8 r2), (.int .u8 r3), (.int .i64 rn)] false, .cells [(.int .u8 a0), (.int .u8 a1), (.int .u8 a2), (.int .u8 a3)] false] : AHeap))) fun _ => .skip 1 (.ask (.go) (.go)))))))))) (.skip 5 (.ask (.skip 7 (.call Unit (fun _ : Unit => (True, Res.ret (.int .i64 (chk [p0, p1, p2, p3] pn)), ([.cells pow10 true, .dead, .cells tab32 true, .cells tab64 true, .cells [(.int .u8 p0), (.int .u8 p1), (.int .u8 p2), (.int .u8 p3), (.int .i64 pn)] false, .cells [(.int .u8 q0), (.int .u8 q1), (.int .u8 q2), (.int .u8 q3), (.int .i64 qn)] false, .cells [(.int .u8 r0), (.int .u8 r1), (.int .u8 r2), (.int .u8 r3), (.int .i64 rn)] false, .cells [(.int .u8 a0), (.int .u8 a1), (.int .u8 a2), (.int .u8 a3)] false] : AHeap))) fun _ => .skip 0 (.ask (.go) (.skip 4 (.call Unit (fun _ : Unit => (True, Res.ret (.int .i64 (chk [q0, q1, q2, q3] qn)), ([.cells pow10 true, .dead, .cells tab32 true, .cells tab64 true, .cells [(.int .u8 p0), (.int .u8 p1), (.int .u8 p2), (.int .u8 p3), (.int .i64 pn)] false, .cells [(.int .u8 q0), (.int .u8 q1), (.int .u8 q2), (.int .u8 q3), (.int .i64 qn)] false, .cells [(.int .u8 r0), (.int .u8 r1), (.int .u8 r2), (.int .u8 r3), (.int .i64 rn)] false, .cells [(.int .u8 a0), (.int .u8 a1), (.int .u8 a2), (.int .u8 a3)] false] : AHeap))) fun _ => .skip 1 (.ask (.go) (.skip 5 (.call Unit (fun _ : Unit => (True, Res.ret (.int .i64 (chk [r0, r1, r2, r3] rn)), ([.cells pow10 true, .dead, .cells tab32 true, .cells tab64 true, .cells [(.int .u8 p0), (.int .u8 p1), (.int .u8 p2), (.int .u8 p3), (.int .i64 pn)] false, .cells [(.int .u8 q0), (.int .u8 q1), (.int .u8 q2), (.int .u8 q3), (.int .i64 qn)] false, .cells [(.int .u8 r0), (.int .u8 r1), (.int .u8 r2), (.int .u8 r3), (.int .i64 rn)] false, .cells [(.int .u8 a0), (.int .u8 a1), (.int .u8 a2), (.int .u8 a3)] false] : AHeap))) fun _ => .skip 1 (.ask (.go) (.go)))))))))) (.skip 5 (.ask (.skip 3 (.call Unit (fun _ : Unit => (True, Res.ret (.int .i64 (chk [p0, p1, p2, p3] pn)), ([.cells pow10 true, .dead, .cells tab32 true, .cells tab64 true, .cells [(.int .u8 p0), (.int .u8 p1), (.int .u8 p2), (.int .u8 p3), (.int .i64 pn)] false, .cells [(.int .u8 q0), (.int .u8 q1), (.int .u8 q2), (.int .u8 q3), (.int .i64 qn)] false, .cells [(.int .u8 r0), (.int .u8 r1), (.int .u8 r2), (.int .u8 r3), (.int .i64 rn)] false, .cells [(.int .u8 a0), (.int .u8 a1), (.int .u8 a2), (.int .u8 a3)] false] : AHeap))) fun _ => .skip 0 (.ask (.go) (.skip 4 (.call Unit (fun _ : Unit => (True, Res.ret (.int .i64 (chk [q0, q1, q2, q3] qn)), ([.cells pow10 true, .dead, .cells tab32 true, .cells tab64 true, .cells [(.int .u8 p0), (.int .u8 p1), (.int .u8 p2), (.int .u8 p3), (.int .i64 pn)] false, .cells [(.int .u8 q0), (.int .u8 q1), (.int .u8 q2), (.int .u8 q3), (.int .i64 qn)] false, .cells [(.int .u8 r0), (.int .u8 r1), (.int .u8 r2), (.int .u8 r3), (.int .i64 rn)] false, .cells [(.int .u8 a0), (.int .u8 a1), (.int .u8 a2), (.int .u8 a3)] false] : AHeap))) fun _ => .skip 1 (.ask (.go) (.skip 5 (.call Unit (fun _ : Unit => (True, Res.ret (.int .i64 (chk [r0, r1, r2, r3] rn)), ([.cells pow10 true, .dead, .cells tab32 true, .cells tab64 true, .cells [(.int .u8 p0), (.int .u8 p1), (.int .u8 p2), (.int .u8 p3), (.int .i64 pn)] false, .cells [(.int .u8 q0), (.int .u8 q1), (.int .u8 q2), (.int .u8 q3), (.int .i64 qn)] false, .cells [(.int .u8 r0), (.int .u8 r1), (.int .u8 r2), (.int .u8 r3), (.int .i64 rn)] false, .cells [(.int .u8 a0), (.int .u8 a1), (.int .u8 a2), (.int .u8 a3)] false] : AHeap))) fun _ => .skip 1 (.ask (.go) (.go)))))))))) (.skip 4 (.call Unit (fun _ : Unit => (True, Res.ret (.tuple ⟨[(.bool (hasV [p0, p1, p2, p3] pn [a0, a1, a2, a3])), (.int .i64 (chk [p0, p1, p2, p3] pn))]⟩), ([.cells pow10 true, .dead, .cells tab32 true, .cells tab64 true, .cells [(.int .u8 p0), (.int .u8 p1), (.int .u8 p2), (.int .u8 p3), (.int .i64 pn)] false, .cells [(.int .u8 q0), (.int .u8 q1), (.int .u8 q2), (.int .u8 q3), (.int .i64 qn)] false, .cells [(.int .u8 r0), (.int .u8 r1), (.int .u8 r2), (.int .u8 r3), (.int .i64 rn)] false, .cells [(.int .u8 a0), (.int .u8 a1), (.int .u8 a2), (.int .u8 a3)] false] : AHeap))) fun _ => .skip 7 (.call Unit (fun _ : Unit => (True, Res.ret (.tuple ⟨[(.bool (hasV [q0, q1, q2, q3] qn [a0, a1, a2, a3])), (.int .i64 (chk [q0, q1, q2, q3] qn))]⟩), ([.cells pow10 true, .dead, .cells tab32 true, .cells tab64 true, .cells [(.int .u8 p0), (.int .u8 p1), (.int .u8 p2), (.int .u8 p3), (.int .i64 pn)] false, .cells [(.int .u8 q0), (.int .u8 q1), (.int .u8 q2), (.int .u8 q3), (.int .i64 qn)] false, .cells [(.int .u8 r0), (.int .u8 r1), (.int .u8 r2), (.int .u8 r3), (.int .i64 rn)] false, .cells [(.int .u8 a0), (.int .u8 a1), (.int .u8 a2), (.int .u8 a3)] false] : AHeap))) fun _ => .skip 8 (.call Unit (fun _ : Unit => (True, Res.ret (.tuple ⟨[(.bool (hasV [p0, p1, p2, p3] pn [q0, q1, q2, q3])), (.int .i64 (chk [p0, p1, p2, p3] pn))]⟩), ([.cells pow10 true, .dead, .cells tab32 true, .cells tab64 true, .cells [(.int .u8 p0), (.int .u8 p1), (.int .u8 p2), (.int .u8 p3), (.int .i64 pn)] false, .cells [(.int .u8 q0), (.int .u8 q1), (.int .u8 q2), (.int .u8 q3), (.int .i64 qn)] false, .cells [(.int .u8 r0), (.int .u8 r1), (.int .u8 r2), (.int .u8 r3), (.int .i64 rn)] false, .cells [(.int .u8 a0), (.int .u8 a1), (.int .u8 a2), (.int .u8 a3)] false] : AHeap))) fun _ => .skip 8 (.call Unit (fun _ : Unit => (True, Res.ret (.tuple ⟨[(.bool (hasV [q0, q1, q2, q3] qn [p0, p1, p2, p3])), (.int .i64 (chk [q0, q1, q2, q3] qn))]⟩), ([.cells pow10 true, .dead, .cells tab32 true, .cells tab64 true, .cells [(.int .u8 p0), (.int .u8 p1), (.int .u8 p2), (.int .u8 p3), (.int .i64 pn)] false, .cells [(.int .u8 q0), (.int .u8 q1), (.int .u8 q2), (.int .u8 q3), (.int .i64 qn)] false, .cells [(.int .u8 r0), (.int .u8 r1), (.int .u8 r2), (.int .u8 r3), (.int .i64 rn)] false, .cells [(.int .u8 a0), (.int .u8 a1), (.int .u8 a2), (.int .u8 a3)] false] : AHeap))) fun _ => .skip 5 (.ask (.skip 2 (.ask (.skip 3 (.ask (.skip 9 (.ask (.skip 3 (.ask (.skip 9 (.two (.go) (.skip 5 (.ask (.skip 3 (.ask (.skip 5 (.ask (.skip 6 (.ask (.skip 3 (.ask (.go) (.skip 2 (.ask (.go) (.go))))) (.skip 0 .go))) (.go))) (.skip 10 (.ask (.skip 3 (.ask (.go) (.skip 2 (.ask (.go) (.go))))) (.skip 0 .go))))) (.skip 0 .go))))) (.skip 12 (.ask (.skip 3 (.ask (.skip 5 (.ask (.skip 6 (.ask (.skip 3 (.ask (.go) (.skip 2 (.ask (.go) (.go))))) (.skip 0 .go))) (.go))) (.skip 10 (.ask (.skip 3 (.ask (.go) (.skip 2 (.ask (.go) (.go))))) (.skip 0 .go))))) (.skip 0 .go))))) (.skip 0 .go))) (.skip 5 (.ask (.skip 5 (.ask (.skip 0 .go) (.skip 15 (.ask (.skip 0 .go) (.skip 13 (.ask (.skip 0 .go) (.skip 2 (.ask (.skip 1 (.ask (.go) (.skip 2 (.ask (.go) (.go))))) (.skip 0 .go))))))))) (.go))))) (.skip 11 (.ask (.skip 3 (.ask (.skip 9 (.two (.go) (.skip 5 (.ask (.skip 3 (.ask (.skip 5 (.ask (.skip 6 (.ask (.skip 3 (.ask (.go) (.skip 2 (.ask (.go) (.go))))) (.skip 0 .go))) (.go))) (.skip 10 (.ask (.skip 3 (.ask (.go) (.skip 2 (.ask (.go) (.go))))) (.skip 0 .go))))) (.skip 0 .go))))) (.skip 12 (.ask (.skip 3 (.ask (.skip 5 (.ask (.skip 6 (.ask (.skip 3 (.ask (.go) (.skip 2 (.ask (.go) (.go))))) (.skip 0 .go))) (.go))) (.skip 10 (.ask (.skip 3 (.ask (.go) (.skip 2 (.ask (.go) (.go))))) (.skip 0 .go))))) (.skip 0 .go))))) (.skip 15 (.ask (.skip 0 .go) (.skip 13 (.ask (.skip 0 .go) (.skip 2 (.ask (.skip 1 (.ask (.go) (.skip 2 (.ask (.go) (.go))))) (.skip 1 (.ask (.go) (.skip 2 (.ask (.go) (.go))))))))))))))) (.skip 13 (.ask (.skip 3 (.ask (.skip 9 (.two (.go) (.skip 5 (.ask (.skip 3 (.ask (.skip 5 (.ask (.skip 6 (.ask (.skip 3 (.ask (.go) (.skip 2 (.ask (.go) (.go))))) (.skip 0 .go))) (.go))) (.skip 10 (.ask (.skip 3 (.ask (.go) (.skip 2 (.ask (.go) (.go))))) (.skip 0 .go))))) (.skip 0 .go))))) (.skip 12 (.ask (.skip 3 (.ask (.skip 5 (.ask (.skip 6 (.ask (.skip 3 (.ask (.go) (.skip 2 (.ask (.go) (.go))))) (.skip 0 .go))) (.go))) (.skip 10 (.ask (.skip 3 (.ask (.go) (.skip 2 (.ask (.go) (.go))))) (.skip 0 .go))))) (.skip 0 .go))))) (.skip 15 (.ask (.skip 0 .go) (.skip 13 (.ask (.skip 0 .go) (.skip 2 (.ask (.skip 1 (.ask (.go) (.skip 2 (.ask (.go) (.go))))) (.skip 1 (.ask (.go) (.skip 2 (.ask (.go) (.go)))))))))))))))))))))))))))))))) (fun r _ _ _ => Q r) := by kernel_rfl

/-- the law in plain words -/
theorem sets_law {p q r a : List Int} {pn qn rn : Int} (hp : Bytes p) (hq : Bytes q) (hr : Bytes r) (lq : p.length = q.length) (lr : p.length = r.length)
    (h1 : chk p pn = 0) (h2 : chk q qn = 0) (h3 : chk r rn = 0) :
    ((hasV p pn a && hasV q qn a) = true → (coverV p pn q qn || coverV q qn p pn) = true) ∧ ((coverV p pn q qn && coverV q qn p pn) = true → (decide (p = q) && decide (pn = qn)) = true) ∧
    ((coverV p pn q qn && coverV q qn r rn) = true → coverV p pn r rn = true) ∧ (coverV p pn q qn || coverV q qn p pn) = (hasV p pn q || hasV q qn p) := by
  rw [cover_has hp hq lq h1 h2, cover_has hq hp lq.symm h2 h1, cover_has hq hr (by omega) h2 h3, cover_has hp hr lr h1 h3]
  have e1 : ∀ l, hasV p pn l = sameB p l pn.toNat := fun l => by unfold hasV; rw [decide_eq_true h1, Bool.true_and]
  have e2 : ∀ l, hasV q qn l = sameB q l qn.toNat := fun l => by unfold hasV; rw [decide_eq_true h2, Bool.true_and]
  simp only [e1, e2]
  have p0 := (chk_zero.1 h1).1
  have q0 := (chk_zero.1 h2).1
  have sym : ∀ (x y : List Int) (n : Nat), sameB x y n = true → sameB y x n = true := fun x y n h => sameB_iff.2 fun k hk => (sameB_iff.1 h k hk).symm
  have le : ∀ (x y : List Int) (n m : Nat), m ≤ n → sameB x y n = true → sameB x y m = true := fun x y n m hm h => sameB_iff.2 fun k hk => sameB_iff.1 h k (by omega)
  have tr : ∀ (x y z : List Int) (n : Nat), sameB x y n = true → sameB y z n = true → sameB x z n = true := fun x y z n h h' => sameB_iff.2 fun k hk => (sameB_iff.1 h k hk).trans (sameB_iff.1 h' k hk)
  refine ⟨fun h => ?_, fun h => ?_, fun h => ?_, ?_⟩
  · simp only [Bool.and_eq_true, Bool.or_eq_true, decide_eq_true_eq] at h ⊢
    rcases Int.le_total pn qn with hle | hle
    · exact .inl ⟨tr _ _ _ _ h.1 (sym _ _ _ (le _ _ _ _ (by omega) h.2)), hle⟩
    · exact .inr ⟨tr _ _ _ _ h.2 (sym _ _ _ (le _ _ _ _ (by omega) h.1)), hle⟩
  · simp only [Bool.and_eq_true, decide_eq_true_eq] at h ⊢
    have hn : pn = qn := by omega
    subst hn
    exact ⟨same_low hp hq lq h1 h2 h.1.1, rfl⟩
  · simp only [Bool.and_eq_true, decide_eq_true_eq] at h ⊢
    exact ⟨tr _ _ _ _ h.1.1 (le _ _ _ _ (by omega) h.2.1), by omega⟩
  · rw [Bool.eq_iff_iff]
    simp only [Bool.and_eq_true, Bool.or_eq_true, decide_eq_true_eq]
    constructor
    · rintro (h | h)
      · exact .inl h.1
      · exact .inr h.1
    · rintro (h | h)
      · rcases Int.le_total pn qn with hle | hle
        · exact .inl ⟨h, hle⟩
        · exact .inr ⟨le _ _ _ _ (by omega) (sym _ _ _ h), hle⟩
      · rcases Int.le_total pn qn with hle | hle
        · exact .inl ⟨le _ _ _ _ (by omega) (sym _ _ _ h), hle⟩
        · exact .inr ⟨h, hle⟩

theorem sets_two {o : Option Value} {b : Bool} (ho : o = some (.bool b)) {X Y : Prop} (hx : b = true → X) (hy : b = false → Y) : (∃ z : Bool, o = some (.bool z)) ∧ (o = some (.bool true) → X) ∧ (o = some (.bool false) → Y) := by
  subst ho
  exact ⟨⟨b, rfl⟩, fun e => hx (by injection e with e; injection e), fun e => hy (by injection e with e; injection e)⟩

theorem sets_ne {n : Int} (h : (n != 0) = true) : n ≠ 0 := by simpa using h
theorem sets_eq {n : Int} (h : (n != 0) = false) : n = 0 := by simpa using h
theorem sets_cov {p q : List Int} {pn qn : Int} (h : coverE p pn q qn = 0) : chk p pn = 0 ∧ chk q qn = 0 := by
  unfold coverE at h; split at h
  · assumption
  · cases h
theorem sets_cov' {p q : List Int} {pn qn : Int} (h1 : chk p pn = 0) (h2 : chk q qn = 0) : coverE p pn q qn = 0 := if_pos ⟨h1, h2⟩

set_option maxRecDepth 100000 in
set_option maxHeartbeats 4000000 in
theorem sets_spec (p0 p1 p2 p3 pn q0 q1 q2 q3 qn r0 r1 r2 r3 rn a0 a1 a2 a3 : Int) (hp : Bytes [p0, p1, p2, p3]) (hq : Bytes [q0, q1, q2, q3]) (hr : Bytes [r0, r1, r2, r3]) (ha : Bytes [a0, a1, a2, a3]) : Fm.Spec Tryd.prog [0, 2, 3] 7 [.agg ⟨[.int .u8 p0, .int .u8 p1, .int .u8 p2, .int .u8 p3, .int .i64 pn]⟩, .agg ⟨[.int .u8 q0, .int .u8 q1, .int .u8 q2, .int .u8 q3, .int .i64 qn]⟩, .agg ⟨[.int .u8 r0, .int .u8 r1, .int .u8 r2, .int .u8 r3, .int .i64 rn]⟩, .agg ⟨[.int .u8 a0, .int .u8 a1, .int .u8 a2, .int .u8 a3]⟩] gh fun r _ => r = .ret (.bool true) := by
  refine spec_of_script Tryd.mixed (Eq.mp (sets_T p0 p1 p2 p3 pn q0 q1 q2 q3 qn r0 r1 r2 r3 rn a0 a1 a2 a3 fun r => r = .ret (.bool true)) ?_)
  have fp : Flat (.agg ⟨[.int .u8 p0, .int .u8 p1, .int .u8 p2, .int .u8 p3, .int .i64 pn]⟩) := flat_bytes [p0, p1, p2, p3] [.int .i64 pn] (flat_int _ _)
  have fq : Flat (.agg ⟨[.int .u8 q0, .int .u8 q1, .int .u8 q2, .int .u8 q3, .int .i64 qn]⟩) := flat_bytes [q0, q1, q2, q3] [.int .i64 qn] (flat_int _ _)
  have fr : Flat (.agg ⟨[.int .u8 r0, .int .u8 r1, .int .u8 r2, .int .u8 r3, .int .i64 rn]⟩) := flat_bytes [r0, r1, r2, r3] [.int .i64 rn] (flat_int _ _)
  have fa : Flat (.agg ⟨[.int .u8 a0, .int .u8 a1, .int .u8 a2, .int .u8 a3]⟩) := flat_bytes [a0, a1, a2, a3] [] none_mem
  have fp' : Flat (.agg ⟨[.int .u8 p0, .int .u8 p1, .int .u8 p2, .int .u8 p3]⟩) := flat_bytes [p0, p1, p2, p3] [] none_mem
  have fq' : Flat (.agg ⟨[.int .u8 q0, .int .u8 q1, .int .u8 q2, .int .u8 q3]⟩) := flat_bytes [q0, q1, q2, q3] [] none_mem
  refine awake_call _ ?_
  refine (cover_fun p0 p1 p2 p3 pn q0 q1 q2 q3 qn hp hq).call (two_mem fp fq) ?_
  refine (cover_fun q0 q1 q2 q3 qn p0 p1 p2 p3 pn hq hp).call (two_mem fq fp) ?_
  refine (cover_fun q0 q1 q2 q3 qn r0 r1 r2 r3 rn hq hr).call (two_mem fq fr) ?_
  refine (cover_fun p0 p1 p2 p3 pn r0 r1 r2 r3 rn hp hr).call (two_mem fp fr) ?_
  refine ⟨fun e => ?_, fun e1 => ?_⟩
  · refine (rchk_fun p0 p1 p2 p3 pn hp).call (one_mem fp) ⟨fun _ => rfl, fun h1 => ?_⟩
    refine (rchk_fun q0 q1 q2 q3 qn hq).call (one_mem fq) ⟨fun _ => rfl, fun h2 => ?_⟩
    refine (rchk_fun r0 r1 r2 r3 rn hr).call (one_mem fr) ⟨fun _ => rfl, fun h3 => ?_⟩
    exact absurd (sets_cov' (sets_eq h1) (sets_eq h2)) (sets_ne e)
  refine ⟨fun e => ?_, fun e2 => ?_⟩
  · refine (rchk_fun p0 p1 p2 p3 pn hp).call (one_mem fp) ⟨fun _ => rfl, fun h1 => ?_⟩
    refine (rchk_fun q0 q1 q2 q3 qn hq).call (one_mem fq) ⟨fun _ => rfl, fun h2 => ?_⟩
    refine (rchk_fun r0 r1 r2 r3 rn hr).call (one_mem fr) ⟨fun _ => rfl, fun h3 => ?_⟩
    exact absurd (sets_cov' (sets_eq h2) (sets_eq h1)) (sets_ne e)
  refine ⟨fun e => ?_, fun e3 => ?_⟩
  · refine (rchk_fun p0 p1 p2 p3 pn hp).call (one_mem fp) ⟨fun _ => rfl, fun h1 => ?_⟩
    refine (rchk_fun q0 q1 q2 q3 qn hq).call (one_mem fq) ⟨fun _ => rfl, fun h2 => ?_⟩
    refine (rchk_fun r0 r1 r2 r3 rn hr).call (one_mem fr) ⟨fun _ => rfl, fun h3 => ?_⟩
    exact absurd (sets_cov' (sets_eq h2) (sets_eq h3)) (sets_ne e)
  refine ⟨fun e => ?_, fun e4 => ?_⟩
  · refine (rchk_fun p0 p1 p2 p3 pn hp).call (one_mem fp) ⟨fun _ => rfl, fun h1 => ?_⟩
    refine (rchk_fun q0 q1 q2 q3 qn hq).call (one_mem fq) ⟨fun _ => rfl, fun h2 => ?_⟩
    refine (rchk_fun r0 r1 r2 r3 rn hr).call (one_mem fr) ⟨fun _ => rfl, fun h3 => ?_⟩
    exact absurd (sets_cov' (sets_eq h1) (sets_eq h3)) (sets_ne e)
  obtain ⟨h1, h2⟩ := sets_cov (sets_eq e1)
  obtain ⟨_, h3⟩ := sets_cov (sets_eq e3)
  refine (has_fun p0 p1 p2 p3 pn a0 a1 a2 a3 hp ha).call (two_mem fp fa) ?_
  refine (has_fun q0 q1 q2 q3 qn a0 a1 a2 a3 hq ha).call (two_mem fq fa) ?_
  refine (has_fun p0 p1 p2 p3 pn q0 q1 q2 q3 hp hq).call (two_mem fp fq') ?_
  refine (has_fun q0 q1 q2 q3 qn p0 p1 p2 p3 hq hp).call (two_mem fq fp') ?_
  have law := sets_law (a := [a0, a1, a2, a3]) hp hq hr rfl rfl h1 h2 h3
  simp only [pfxn4]
  clear e1 e2 e3 e4 h1 h2 h3 fp fq fr fa fp' fq' hp hq hr ha
  generalize coverV [p0, p1, p2, p3] pn [q0, q1, q2, q3] qn = x at law ⊢
  generalize coverV [q0, q1, q2, q3] qn [p0, p1, p2, p3] pn = y at law ⊢
  generalize coverV [q0, q1, q2, q3] qn [r0, r1, r2, r3] rn = z at law ⊢
  generalize coverV [p0, p1, p2, p3] pn [r0, r1, r2, r3] rn = v at law ⊢
  generalize hasV [p0, p1, p2, p3] pn [a0, a1, a2, a3] = i at law ⊢
  generalize hasV [q0, q1, q2, q3] qn [a0, a1, a2, a3] = t at law ⊢
  generalize hasV [p0, p1, p2, p3] pn [q0, q1, q2, q3] = o at law ⊢
  generalize hasV [q0, q1, q2, q3] qn [p0, p1, p2, p3] = k at law ⊢
  generalize (decide ([p0, p1, p2, p3] = [q0, q1, q2, q3]) && decide (pn = qn)) = b at law ⊢
  obtain ⟨l1, l2, l3, l4⟩ := law
  repeat' first
    | exact rfl
    | refine sets_two rfl (fun _ => ?_) (fun _ => ?_)
    | (apply And.intro <;> intro _)
  all_goals simp_all

theorem sets_any {l0 l1 l2 l3 : List Value} (h0 : CKs (repK 4 [.int .u8] ++ [.int .i64]) l0) (h1 : CKs (repK 4 [.int .u8] ++ [.int .i64]) l1) (h2 : CKs (repK 4 [.int .u8] ++ [.int .i64]) l2) (h3 : CKs (repK 4 [.int .u8]) l3) : Fm.Spec Tryd.prog [0, 2, 3] 7 [.agg ⟨l0⟩, .agg ⟨l1⟩, .agg ⟨l2⟩, .agg ⟨l3⟩] gh fun r _ => r = .ret (.bool true) := by
  obtain ⟨p0, p1, p2, p3, pn, rfl, hp⟩ := pfx_of4 h0
  obtain ⟨q0, q1, q2, q3, qn, rfl, hq⟩ := pfx_of4 h1
  obtain ⟨r0, r1, r2, r3, rn, rfl, hr⟩ := pfx_of4 h2
  obtain ⟨a0, a1, a2, a3, rfl, ha⟩ := adr_of4 h3
  exact sets_spec p0 p1 p2 p3 pn q0 q1 q2 q3 qn r0 r1 r2 r3 rn a0 a1 a2 a3 hp hq hr ha

set_option maxRecDepth 100000 in
theorem sets_lifted (os : Os) (started : os.Started) (H : Type) (enc : TypeId × Value → H) :
    ReturnsInHanded {} Tryd.checked os 7 .any (fun w args => (Rows.addrSetsSpec.pre enc Tryd.prog Tryd.f7 [] false w args ∧ laidMetH Tryd.prog laidL w) ∧ sizedMet enc Tryd.prog Tryd.f7 (OpenSpec.ofChange Rows.addrSetsSpec) false w args)
      (Rows.addrSetsSpec.post enc Tryd.prog Tryd.f7 false true false false) := by
  refine returnsInHanded_of_change_and (C := Tryd.checked) (X := fun w _ => laidMetH Tryd.prog laidL w) (fun _ _ _ hh h => h.of_heap hh) Tryd.own started (by kernel_rfl) Tryd.func7
    (ChangeSpec.witness_shaped (enc := enc) (C := Tryd.checked) (os := os) (X := fun w _ => laidMetH Tryd.prog laidL w) false (World.doorLaid Tryd.prog 400 os) #[.agg #[.int .u8 0, .int .u8 0, .int .u8 0, .int .u8 0, .int .i64 0], .agg #[.int .u8 0, .int .u8 0, .int .u8 0, .int .u8 0, .int .i64 0], .agg #[.int .u8 0, .int .u8 0, .int .u8 0, .int .u8 0, .int .i64 0], .agg #[.int .u8 0, .int .u8 0, .int .u8 0, .int .u8 0]] 8 rfl (World.shaped_of_RefB (by kernel_rfl) (by kernel_rfl)) (by kernel_rfl) (by kernel_rfl) (by kernel_rfl) (door_met os _)) ?_
  intro W base args ds gs before hval0 hW _ _ hL _
  have hval : ∀ (j : Nat) t v, Tryd.f7.params[j]? = some t → args[j]? = some v → Value.okWide Tryd.prog W .any base t v := hval0
  have hW' := hW
  obtain ⟨p, q, hA0, hV, rfl, hfz, hnd⟩ := hW
  have hA : DataW.TrodAll enc Tryd.prog W 0 (fun _ => true) true Tryd.f7.params.toList args.toList ds p := hA0
  rw [Tryd.params7] at hA hval
  obtain ⟨v0, v1, v2, v3, d0, d1, d2, d3, p0, p1, p2, p3, rfl, rfl, rfl, h0, h1, h2, h3⟩ := trodAll_four hA
  obtain ⟨l0, rfl, hl0, rfl⟩ := open_agg (n := 3) (ks := repK 4 [.int .u8] ++ [.int .i64]) (by kernel_rfl) (by kernel_rfl) (hval 0 39 v0 rfl rfl) h0
  obtain ⟨l1, rfl, hl1, rfl⟩ := open_agg (n := 3) (ks := repK 4 [.int .u8] ++ [.int .i64]) (by kernel_rfl) (by kernel_rfl) (hval 1 39 v1 rfl rfl) h1
  obtain ⟨l2, rfl, hl2, rfl⟩ := open_agg (n := 3) (ks := repK 4 [.int .u8] ++ [.int .i64]) (by kernel_rfl) (by kernel_rfl) (hval 2 39 v2 rfl rfl) h2
  obtain ⟨l3, rfl, hl3, rfl⟩ := open_agg (n := 3) (ks := repK 4 [.int .u8]) (by kernel_rfl) (by kernel_rfl) (hval 3 23 v3 rfl rfl) h3

  obtain ⟨rfl, rfl⟩ := trodVars_none hV
  refine close_row (tb := 4) hW' rfl rfl Tryd.laidOut (by kernel_rfl) (by kernel_rfl) (by kernel_rfl) ?_
  exact calls_of_spec (sets_any hl0 hl1 hl2 hl3) (.bool true) (begins hL) (Flat.lr (by
    intro v hv
    simp only [List.mem_cons, List.not_mem_nil, or_false] at hv
    rcases hv with rfl | rfl | rfl | rfl
    · exact .agg fun i v e => CKs.flat hl0 v (List.mem_of_getElem? (by simpa using e))
    · exact .agg fun i v e => CKs.flat hl1 v (List.mem_of_getElem? (by simpa using e))
    · exact .agg fun i v e => CKs.flat hl2 v (List.mem_of_getElem? (by simpa using e))
    · exact .agg fun i v e => CKs.flat hl3 v (List.mem_of_getElem? (by simpa using e))) _) begins_glob

theorem sets_holds : Rows.AddrSetsSaid :=
  OpenClaim.holds_of_wide 7 Tryd.f7 rfl rfl rfl rfl rfl rfl rfl ⟨rfl, rfl, rfl, rfl, rfl⟩ rfl rfl rfl rfl rfl (by kernel_rfl) Tryd.func7 (by kernel_rfl)
    (of_decide_eq_true (by kernel_rfl)) (by unfold Func.isWrapper; rw [if_neg (of_decide_eq_false (by kernel_rfl))]; exact ⟨rfl, rfl⟩)
    (fun os started H enc _ => sets_lifted os started H enc)

theorem sets_card : Rows.AddrSetsCardSaid :=
  Claim7.holds_tied_plain_at .later [] [.data, .data, .data] true (true, "2c2e10dfad521d8a68acca1e017bcd51af26f7f93c44638cb4d6de8cacc7ccee") true
    sets_holds (fun _ h => by cases h) (by kernel_rfl) (fun _ h => by cases h) addrSets_row_tie rfl ⟨rfl, rfl⟩ (by kernel_rfl) rfl
    (fun f fn hf hfn => by
      obtain rfl : f = 7 := Option.some.inj ((show Tryd.prog.funcNamed "ferryman/ferrymanlaw02.AddrSets" = some 7 by kernel_rfl).symm.trans hf) |>.symm
      obtain rfl : fn = Tryd.f7 := (Option.some.inj (Tryd.func7.symm.trans hfn)).symm
      exact ⟨by kernel_rfl, fun j t ht => by
        rw [Tryd.params7] at ht
        have hm : t ∈ [39, 39, 39, 23] := by simpa using Array.mem_of_getElem? ht
        have hall : ([39, 39, 39, 23].all fun u => !Tryd.prog.wantsStandIn u) = true := by kernel_rfl
        exact (show Tryd.prog.wantsStandIn t = false by simpa using List.all_eq_true.1 hall t hm)⟩)
    (by kernel_rfl)

#print axioms sets_card

end Go.Proofs.YtopladipgobpjaaDoor
