/-
  The two Text4: an IPv4 address's text. No condition but that bytes are bytes.
-/
import Derived.Test.YtopladipgobpjaaDoorJoin
import Derived.Test.YtopladipgobpjaaDoorGrp
namespace Go.Proofs.YtopladipgobpjaaDoor
open Go.Fm
def t4L (a0 a1 a2 a3 : Int) : List UInt8 := decL a0 ++ [46] ++ decL a1 ++ [46] ++ decL a2 ++ [46] ++ decL a3
abbrev ckT (v : Value) (h : AHeap) : Unit → Prop × Res × AHeap := fun _ => (True, .ret v, h)
abbrev xqText4h0 (tp : List Value) (tq : List Value) (tr : List Value) (a0 : Int) (a1 : Int) (a2 : Int) (a3 : Int) (z1 : Int) (z2 : Int) (z3 : Int) (z4 : Int) : AHeap := [.cells (tp) true, .dead, .cells (tq) true, .cells (tr) true, .cells [(.int .u8 a0), (.int .u8 a1), (.int .u8 a2), (.int .u8 a3)] false, .tcells [(.string (bs (decL z1)))] 9 (some 0), .dead, .tcells [(.string (bs (decL z2)))] 9 (some 0), .dead, .tcells [(.string (bs (decL z3)))] 9 (some 0), .dead, .tcells [(.string (bs (decL z4)))] 9 (some 0), .tcells [(.string (bs (decL z1))), (.string (bs (decL z2))), (.string (bs (decL z3))), (.string (bs (decL z4)))] 9 (some 0)]
abbrev xqText4h1 (tp : List Value) (tq : List Value) (tr : List Value) (a0 : Int) (a1 : Int) (a2 : Int) (a3 : Int) (z1 : Int) (z2 : Int) (z3 : Int) : AHeap := [.cells (tp) true, .dead, .cells (tq) true, .cells (tr) true, .cells [(.int .u8 a0), (.int .u8 a1), (.int .u8 a2), (.int .u8 a3)] false, .tcells [(.string (bs (decL z1)))] 9 (some 0), .dead, .tcells [(.string (bs (decL z2)))] 9 (some 0), .dead, .tcells [(.string (bs (decL z3)))] 9 (some 0), .tcells [(.string (bs (decL z1))), (.string (bs (decL z2))), (.string (bs (decL z3)))] 9 (some 0)]
abbrev xqText4h2 (tp : List Value) (tq : List Value) (tr : List Value) (a0 : Int) (a1 : Int) (a2 : Int) (a3 : Int) (z1 : Int) (z2 : Int) : AHeap := [.cells (tp) true, .dead, .cells (tq) true, .cells (tr) true, .cells [(.int .u8 a0), (.int .u8 a1), (.int .u8 a2), (.int .u8 a3)] false, .tcells [(.string (bs (decL z1)))] 9 (some 0), .dead, .tcells [(.string (bs (decL z2)))] 9 (some 0), .tcells [(.string (bs (decL z1))), (.string (bs (decL z2)))] 9 (some 0)]
abbrev xqText4h3 (tp : List Value) (tq : List Value) (tr : List Value) (a0 : Int) (a1 : Int) (a2 : Int) (a3 : Int) (z1 : Int) : AHeap := [.cells (tp) true, .dead, .cells (tq) true, .cells (tr) true, .cells [(.int .u8 a0), (.int .u8 a1), (.int .u8 a2), (.int .u8 a3)] false, .tcells [(.string (bs (decL z1)))] 9 (some 0), .tcells [(.string (bs (decL z1)))] 9 (some 0)]
abbrev xqText4h4 (tp : List Value) (tq : List Value) (tr : List Value) (a0 : Int) (a1 : Int) (a2 : Int) (a3 : Int) : AHeap := [.cells (tp) true, .dead, .cells (tq) true, .cells (tr) true, .cells [(.int .u8 a0), (.int .u8 a1), (.int .u8 a2), (.int .u8 a3)] false]
theorem run_text4 (tp tq tr : List Value) (a0 a1 a2 a3 : Int) (Q : Res → Prop) : (∀ z1 : Int, z1 = (IntKind.i64.wrap a0) →
(SpecC Tryd.prog [0, 2, 3] (.fn 56) [(.int .i64 z1)] (xqText4h4 tp tq tr a0 a1 a2 a3) (fun r h' => ∃ ia, ((fun _ : Unit => (True, Res.ret (.string (bs (decL z1))), ((xqText4h4 tp tq tr a0 a1 a2 a3) : AHeap))) ia).1 ∧
 r = ((fun _ : Unit => (True, Res.ret (.string (bs (decL z1))), ((xqText4h4 tp tq tr a0 a1 a2 a3) : AHeap))) ia).2.1 ∧
 h' = ((fun _ : Unit => (True, Res.ret (.string (bs (decL z1))), ((xqText4h4 tp tq tr a0 a1 a2 a3) : AHeap))) ia).2.2) ∧
∀ _ : Unit, True →
∀ z2 : Int, z2 = (IntKind.i64.wrap a1) →
(SpecC Tryd.prog [0, 2, 3] (.fn 56) [(.int .i64 z2)] (xqText4h3 tp tq tr a0 a1 a2 a3 z1) (fun r h' => ∃ ia, ((fun _ : Unit => (True, Res.ret (.string (bs (decL z2))), ((xqText4h3 tp tq tr a0 a1 a2 a3 z1) : AHeap))) ia).1 ∧
 r = ((fun _ : Unit => (True, Res.ret (.string (bs (decL z2))), ((xqText4h3 tp tq tr a0 a1 a2 a3 z1) : AHeap))) ia).2.1 ∧
 h' = ((fun _ : Unit => (True, Res.ret (.string (bs (decL z2))), ((xqText4h3 tp tq tr a0 a1 a2 a3 z1) : AHeap))) ia).2.2) ∧
∀ _ : Unit, True →
∀ z3 : Int, z3 = (IntKind.i64.wrap a2) →
(SpecC Tryd.prog [0, 2, 3] (.fn 56) [(.int .i64 z3)] (xqText4h2 tp tq tr a0 a1 a2 a3 z1 z2) (fun r h' => ∃ ia, ((fun _ : Unit => (True, Res.ret (.string (bs (decL z3))), ((xqText4h2 tp tq tr a0 a1 a2 a3 z1 z2) : AHeap))) ia).1 ∧
 r = ((fun _ : Unit => (True, Res.ret (.string (bs (decL z3))), ((xqText4h2 tp tq tr a0 a1 a2 a3 z1 z2) : AHeap))) ia).2.1 ∧
 h' = ((fun _ : Unit => (True, Res.ret (.string (bs (decL z3))), ((xqText4h2 tp tq tr a0 a1 a2 a3 z1 z2) : AHeap))) ia).2.2) ∧
∀ _ : Unit, True →
∀ z4 : Int, z4 = (IntKind.i64.wrap a3) →
(SpecC Tryd.prog [0, 2, 3] (.fn 56) [(.int .i64 z4)] (xqText4h1 tp tq tr a0 a1 a2 a3 z1 z2 z3) (fun r h' => ∃ ia, ((fun _ : Unit => (True, Res.ret (.string (bs (decL z4))), ((xqText4h1 tp tq tr a0 a1 a2 a3 z1 z2 z3) : AHeap))) ia).1 ∧
 r = ((fun _ : Unit => (True, Res.ret (.string (bs (decL z4))), ((xqText4h1 tp tq tr a0 a1 a2 a3 z1 z2 z3) : AHeap))) ia).2.1 ∧
 h' = ((fun _ : Unit => (True, Res.ret (.string (bs (decL z4))), ((xqText4h1 tp tq tr a0 a1 a2 a3 z1 z2 z3) : AHeap))) ia).2.2) ∧
∀ _ : Unit, True →
(SpecC Tryd.prog [0, 2, 3] (.fn 57) [(.slice (some ⟨12, 0, (some 1)⟩) 4 4), (.string (bs ([46])))] (xqText4h0 tp tq tr a0 a1 a2 a3 z1 z2 z3 z4) (fun r h' => ∃ ia, ((fun _ : Unit => (True, Res.ret (.string (bs (decL z1 ++ [46] ++ decL z2 ++ [46] ++ decL z3 ++ [46] ++ decL z4))), ((xqText4h0 tp tq tr a0 a1 a2 a3 z1 z2 z3 z4) : AHeap))) ia).1 ∧
 r = ((fun _ : Unit => (True, Res.ret (.string (bs (decL z1 ++ [46] ++ decL z2 ++ [46] ++ decL z3 ++ [46] ++ decL z4))), ((xqText4h0 tp tq tr a0 a1 a2 a3 z1 z2 z3 z4) : AHeap))) ia).2.1 ∧
 h' = ((fun _ : Unit => (True, Res.ret (.string (bs (decL z1 ++ [46] ++ decL z2 ++ [46] ++ decL z3 ++ [46] ++ decL z4))), ((xqText4h0 tp tq tr a0 a1 a2 a3 z1 z2 z3 z4) : AHeap))) ia).2.2) ∧
∀ _ : Unit, True →
 Q (.ret (.string (bs (decL z1 ++ [46] ++ decL z2 ++ [46] ++ decL z3 ++ [46] ++ decL z4)))))))))) =
    runS Tryd.prog [0, 2, 3] false [56, 57] 1000 (SpecC Tryd.prog [0, 2, 3]) 20 15 [.agg ⟨[.int .u8 a0, .int .u8 a1, .int .u8 a2, .int .u8 a3]⟩] [.cells tp true, .dead, .cells tq true, .cells tr true] .norm (.skip 12 (.all (fun z1 => .skip 0 (.call Unit (ckT (.string (bs (decL z1))) (xqText4h4 tp tq tr a0 a1 a2 a3)) fun _ => .skip 11 (.all (fun z2 => .skip 0 (.call Unit (ckT (.string (bs (decL z2))) (xqText4h3 tp tq tr a0 a1 a2 a3 z1)) fun _ => .skip 11 (.all (fun z3 => .skip 0 (.call Unit (ckT (.string (bs (decL z3))) (xqText4h2 tp tq tr a0 a1 a2 a3 z1 z2)) fun _ => .skip 11 (.all (fun z4 => .skip 0 (.call Unit (ckT (.string (bs (decL z4))) (xqText4h1 tp tq tr a0 a1 a2 a3 z1 z2 z3)) fun _ => .skip 8 (.call Unit (ckT (.string (bs (decL z1 ++ [46] ++ decL z2 ++ [46] ++ decL z3 ++ [46] ++ decL z4))) (xqText4h0 tp tq tr a0 a1 a2 a3 z1 z2 z3 z4)) fun _ => .go)))))))))))))) (fun r _ _ _ => Q r) := by kernel_rfl
set_option maxRecDepth 20000 in
theorem text4_spec {a0 a1 a2 a3 : Int} (h0 : 0 ≤ a0 ∧ a0 < 256) (h1 : 0 ≤ a1 ∧ a1 < 256) (h2 : 0 ≤ a2 ∧ a2 < 256) (h3 : 0 ≤ a3 ∧ a3 < 256) :
    Fm.Spec Tryd.prog [0, 2, 3] 15 [.agg ⟨[.int .u8 a0, .int .u8 a1, .int .u8 a2, .int .u8 a3]⟩] gh fun u _ => u = .ret (.string (bs (t4L a0 a1 a2 a3))) := by
  refine spec_of_script Tryd.mixed (Eq.mp (run_text4 pow10 tab32 tab64 a0 a1 a2 a3 fun u => u = .ret (.string (bs (t4L a0 a1 a2 a3)))) ?_)
  dsimp only [xqText4h4, xqText4h3, xqText4h2, xqText4h1, xqText4h0]
  intro z0 hz0
  rw [wrapi h0.1 (by omega)] at hz0; subst hz0
  refine lift_gh_call (itoa_spec h0.1 h0.2) (one_mem (.int _ _)) _ ?_
  intro z1 hz1
  rw [wrapi h1.1 (by omega)] at hz1; subst hz1
  refine lift_gh_call (itoa_spec h1.1 h1.2) (one_mem (.int _ _)) _ ?_
  intro z2 hz2
  rw [wrapi h2.1 (by omega)] at hz2; subst hz2
  refine lift_gh_call (itoa_spec h2.1 h2.2) (one_mem (.int _ _)) _ ?_
  intro z3 hz3
  rw [wrapi h3.1 (by omega)] at hz3; subst hz3
  refine lift_gh_call (itoa_spec h3.1 h3.2) (one_mem (.int _ _)) _ ?_
  exact ⟨.inl (Spec.mono (join_call (decL_ne _) (decL_len _) (decL_ne _) (decL_len _) (decL_ne _) (decL_len _) (decL_ne _) (decL_len _)) (by rintro r h' ⟨rfl, rfl⟩; exact ⟨(), trivial, rfl, rfl⟩)), fun _ _ => rfl⟩
end Go.Proofs.YtopladipgobpjaaDoor
