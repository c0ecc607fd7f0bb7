/-
  The reference's Parse6: what its run asks for. No condition.
-/
import Derived.Test.YtopladipgobpjaaDoorSix2
import Derived.Test.YtopladipgobpjaaDoorPlainO
namespace Go.Proofs.YtopladipgobpjaaDoor
open Go.Fm

/-- what Read6 has read; what Whole6 makes of it -/
def rE (l : List UInt8) : Bool := decide ((rY l).l = [])
def rL (l : List UInt8) : List Int := (rY l).l
def rG (l : List UInt8) : Int := (rY l).gap
def rP (l : List UInt8) : List UInt8 := (rY l).part
def wS (g : List Int) (gap : Int) (p : List UInt8) : Bool := (whole6 ⟨g, gap, p⟩).isSome
def wI (g : List Int) (gap : Int) (p : List UInt8) (j : Nat) : Int := ((whole6 ⟨g, gap, p⟩).getD []).getD j 0

abbrev xRx7s0 : Scr := .skip 12 (.unr 60 (.skip 12 (.all (fun _z2 => .skip 0 (.all (fun _z3 => .skip 4 (.all (fun _z4 => .skip 0 (.all (fun _z5 => .skip 19 (.all (fun _z6 => .skip 0 (.all (fun _z7 => .skip 4 (.all (fun _z8 => .skip 0 (.all (fun _z9 => .skip 19 (.all (fun _z10 => .skip 0 (.all (fun _z11 => .skip 4 (.all (fun _z12 => .skip 0 (.all (fun _z13 => .skip 19 (.all (fun _z14 => .skip 0 (.all (fun _z15 => .skip 4 (.all (fun _z16 => .skip 0 (.all (fun _z17 => .skip 19 (.all (fun _z18 => .skip 0 (.all (fun _z19 => .skip 4 (.all (fun _z20 => .skip 0 (.all (fun _z21 => .skip 19 (.all (fun _z22 => .skip 0 (.all (fun _z23 => .skip 4 (.all (fun _z24 => .skip 0 (.all (fun _z25 => .skip 19 (.all (fun _z26 => .skip 0 (.all (fun _z27 => .skip 4 (.all (fun _z28 => .skip 0 (.all (fun _z29 => .skip 19 (.all (fun _z30 => .skip 0 (.all (fun _z31 => .skip 4 (.all (fun _z32 => .skip 0 (.all (fun _z33 => .go))))))))))))))))))))))))))))))))))))))))))))))))))))))))))))))))))

theorem run_rparse6 (l : List UInt8) (Q : Res → Prop) : ((SpecC Tryd.prog [] (.fn 60) [(.string (bs (l)))] [zA] (fun r h' => ((rE l) = true →
 r = (((.ret (.tuple ⟨[(.agg ⟨[(.slice none 0 0), (.int .i64 (rG l)), (.string (bs (rP l)))]⟩), (.int .i64 ((((rN l) : Nat) : Int)))]⟩)), ([zA] : AHeap)) : Res × AHeap).1 ∧
 h' = (((.ret (.tuple ⟨[(.agg ⟨[(.slice none 0 0), (.int .i64 (rG l)), (.string (bs (rP l)))]⟩), (.int .i64 ((((rN l) : Nat) : Int)))]⟩)), ([zA] : AHeap)) : Res × AHeap).2) ∧
((rE l) = false →
 r = (((.ret (.tuple ⟨[(.agg ⟨[(.slice (some ⟨1, 0, (some 1)⟩) ((rL l).length) ((rL l).length)), (.int .i64 (rG l)), (.string (bs (rP l)))]⟩), (.int .i64 ((((rN l) : Nat) : Int)))]⟩)), ([zA, .tcells (ic (rL l)) 3 (some 0)] : AHeap)) : Res × AHeap).1 ∧
 h' = (((.ret (.tuple ⟨[(.agg ⟨[(.slice (some ⟨1, 0, (some 1)⟩) ((rL l).length) ((rL l).length)), (.int .i64 (rG l)), (.string (bs (rP l)))]⟩), (.int .i64 ((((rN l) : Nat) : Int)))]⟩)), ([zA, .tcells (ic (rL l)) 3 (some 0)] : AHeap)) : Res × AHeap).2)) ∧
(((rE l) = true →
∀ z1 : Int, z1 = ((((bs l).size : Nat) : Int)) →
(((decide ((((rN l) : Nat) : Int) < z1)) = true →
 Q (.ret (.tuple ⟨[zG, (.int .i64 ((((rN l) : Nat) : Int))), (.int .i64 20)]⟩))) ∧
((decide ((((rN l) : Nat) : Int) < z1)) = false →
(SpecC Tryd.prog [] (.fn 61) [(.string (bs (l))), (.agg ⟨[(.slice none 0 0), (.int .i64 (rG l)), (.string (bs (rP l)))]⟩)] [zA, .tcells [(.slice none 0 0), (.int .i64 (rG l)), (.string (bs (rP l)))] 82 (some 0)] (fun r h' => ((wS [] (rG l) (rP l)) = true →
 r = (((.ret (.tuple ⟨[(.slice (some ⟨2, 0, (some 1)⟩) 8 8), (.bool true)]⟩)), ([zA, .tcells [(.slice none 0 0), (.int .i64 (rG l)), (.string (bs (rP l)))] 82 (some 0), .tcells [(.int .i64 (wI [] (rG l) (rP l) 0)), (.int .i64 (wI [] (rG l) (rP l) 1)), (.int .i64 (wI [] (rG l) (rP l) 2)), (.int .i64 (wI [] (rG l) (rP l) 3)), (.int .i64 (wI [] (rG l) (rP l) 4)), (.int .i64 (wI [] (rG l) (rP l) 5)), (.int .i64 (wI [] (rG l) (rP l) 6)), (.int .i64 (wI [] (rG l) (rP l) 7))] 3 (some 0)] : AHeap)) : Res × AHeap).1 ∧
 h' = (((.ret (.tuple ⟨[(.slice (some ⟨2, 0, (some 1)⟩) 8 8), (.bool true)]⟩)), ([zA, .tcells [(.slice none 0 0), (.int .i64 (rG l)), (.string (bs (rP l)))] 82 (some 0), .tcells [(.int .i64 (wI [] (rG l) (rP l) 0)), (.int .i64 (wI [] (rG l) (rP l) 1)), (.int .i64 (wI [] (rG l) (rP l) 2)), (.int .i64 (wI [] (rG l) (rP l) 3)), (.int .i64 (wI [] (rG l) (rP l) 4)), (.int .i64 (wI [] (rG l) (rP l) 5)), (.int .i64 (wI [] (rG l) (rP l) 6)), (.int .i64 (wI [] (rG l) (rP l) 7))] 3 (some 0)] : AHeap)) : Res × AHeap).2) ∧
((wS [] (rG l) (rP l)) = false →
 r = (((.ret (.tuple ⟨[(Go.Value.chan (Option.some 0)), (.bool false)]⟩)), ([zA, .tcells [(.slice none 0 0), (.int .i64 (rG l)), (.string (bs (rP l)))] 82 (some 0)] : AHeap)) : Res × AHeap).1 ∧
 h' = (((.ret (.tuple ⟨[(Go.Value.chan (Option.some 0)), (.bool false)]⟩)), ([zA, .tcells [(.slice none 0 0), (.int .i64 (rG l)), (.string (bs (rP l)))] 82 (some 0)] : AHeap)) : Res × AHeap).2)) ∧
(((wS [] (rG l) (rP l)) = true →
∀ z2 : Int, z2 = (IntKind.i64.wrap ((wI [] (rG l) (rP l) 0).tdiv 256)) →
∀ z3 : Int, z3 = (IntKind.u8.wrap z2) →
∀ z4 : Int, z4 = ((wI [] (rG l) (rP l) 0).tmod 256) →
∀ z5 : Int, z5 = (IntKind.u8.wrap z4) →
(((some (.int .i64 (wI [] (rG l) (rP l) 0))) : Option Value) = (some (.int .i64 (wI [] (rG l) (rP l) 0)))) ∧
∀ z6 : Int, z6 = (IntKind.i64.wrap ((wI [] (rG l) (rP l) 1).tdiv 256)) →
∀ z7 : Int, z7 = (IntKind.u8.wrap z6) →
∀ z8 : Int, z8 = ((wI [] (rG l) (rP l) 1).tmod 256) →
∀ z9 : Int, z9 = (IntKind.u8.wrap z8) →
(((some (.int .i64 (wI [] (rG l) (rP l) 1))) : Option Value) = (some (.int .i64 (wI [] (rG l) (rP l) 1)))) ∧
∀ z10 : Int, z10 = (IntKind.i64.wrap ((wI [] (rG l) (rP l) 2).tdiv 256)) →
∀ z11 : Int, z11 = (IntKind.u8.wrap z10) →
∀ z12 : Int, z12 = ((wI [] (rG l) (rP l) 2).tmod 256) →
∀ z13 : Int, z13 = (IntKind.u8.wrap z12) →
(((some (.int .i64 (wI [] (rG l) (rP l) 2))) : Option Value) = (some (.int .i64 (wI [] (rG l) (rP l) 2)))) ∧
∀ z14 : Int, z14 = (IntKind.i64.wrap ((wI [] (rG l) (rP l) 3).tdiv 256)) →
∀ z15 : Int, z15 = (IntKind.u8.wrap z14) →
∀ z16 : Int, z16 = ((wI [] (rG l) (rP l) 3).tmod 256) →
∀ z17 : Int, z17 = (IntKind.u8.wrap z16) →
(((some (.int .i64 (wI [] (rG l) (rP l) 3))) : Option Value) = (some (.int .i64 (wI [] (rG l) (rP l) 3)))) ∧
∀ z18 : Int, z18 = (IntKind.i64.wrap ((wI [] (rG l) (rP l) 4).tdiv 256)) →
∀ z19 : Int, z19 = (IntKind.u8.wrap z18) →
∀ z20 : Int, z20 = ((wI [] (rG l) (rP l) 4).tmod 256) →
∀ z21 : Int, z21 = (IntKind.u8.wrap z20) →
(((some (.int .i64 (wI [] (rG l) (rP l) 4))) : Option Value) = (some (.int .i64 (wI [] (rG l) (rP l) 4)))) ∧
∀ z22 : Int, z22 = (IntKind.i64.wrap ((wI [] (rG l) (rP l) 5).tdiv 256)) →
∀ z23 : Int, z23 = (IntKind.u8.wrap z22) →
∀ z24 : Int, z24 = ((wI [] (rG l) (rP l) 5).tmod 256) →
∀ z25 : Int, z25 = (IntKind.u8.wrap z24) →
(((some (.int .i64 (wI [] (rG l) (rP l) 5))) : Option Value) = (some (.int .i64 (wI [] (rG l) (rP l) 5)))) ∧
∀ z26 : Int, z26 = (IntKind.i64.wrap ((wI [] (rG l) (rP l) 6).tdiv 256)) →
∀ z27 : Int, z27 = (IntKind.u8.wrap z26) →
∀ z28 : Int, z28 = ((wI [] (rG l) (rP l) 6).tmod 256) →
∀ z29 : Int, z29 = (IntKind.u8.wrap z28) →
(((some (.int .i64 (wI [] (rG l) (rP l) 6))) : Option Value) = (some (.int .i64 (wI [] (rG l) (rP l) 6)))) ∧
∀ z30 : Int, z30 = (IntKind.i64.wrap ((wI [] (rG l) (rP l) 7).tdiv 256)) →
∀ z31 : Int, z31 = (IntKind.u8.wrap z30) →
∀ z32 : Int, z32 = ((wI [] (rG l) (rP l) 7).tmod 256) →
∀ z33 : Int, z33 = (IntKind.u8.wrap z32) →
(((some (.int .i64 (wI [] (rG l) (rP l) 7))) : Option Value) = (some (.int .i64 (wI [] (rG l) (rP l) 7)))) ∧
 Q (.ret (.tuple ⟨[(.agg ⟨[(.int .u8 z3), (.int .u8 z5), (.int .u8 z7), (.int .u8 z9), (.int .u8 z11), (.int .u8 z13), (.int .u8 z15), (.int .u8 z17), (.int .u8 z19), (.int .u8 z21), (.int .u8 z23), (.int .u8 z25), (.int .u8 z27), (.int .u8 z29), (.int .u8 z31), (.int .u8 z33)]⟩), (.int .i64 0), (.int .i64 0)]⟩))) ∧
((wS [] (rG l) (rP l)) = false →
 Q (.ret (.tuple ⟨[zG, (.int .i64 ((((rN l) : Nat) : Int))), (.int .i64 20)]⟩)))))))) ∧
((rE l) = false →
∀ z1 : Int, z1 = ((((bs l).size : Nat) : Int)) →
(((decide ((((rN l) : Nat) : Int) < z1)) = true →
 Q (.ret (.tuple ⟨[zG, (.int .i64 ((((rN l) : Nat) : Int))), (.int .i64 20)]⟩))) ∧
((decide ((((rN l) : Nat) : Int) < z1)) = false →
(SpecC Tryd.prog [] (.fn 61) [(.string (bs (l))), (.agg ⟨[(.slice (some ⟨1, 0, (some 1)⟩) ((rL l).length) ((rL l).length)), (.int .i64 (rG l)), (.string (bs (rP l)))]⟩)] [zA, .tcells (ic (rL l)) 3 (some 0), .tcells [(.slice (some ⟨1, 0, (some 1)⟩) ((rL l).length) ((rL l).length)), (.int .i64 (rG l)), (.string (bs (rP l)))] 82 (some 0)] (fun r h' => ((wS (unI (ic (rL l))) (rG l) (rP l)) = true →
 r = (((.ret (.tuple ⟨[(.slice (some ⟨3, 0, (some 1)⟩) 8 8), (.bool true)]⟩)), ([zA, .tcells (ic (rL l)) 3 (some 0), .tcells [(.slice (some ⟨1, 0, (some 1)⟩) ((rL l).length) ((rL l).length)), (.int .i64 (rG l)), (.string (bs (rP l)))] 82 (some 0), .tcells [(.int .i64 (wI (unI (ic (rL l))) (rG l) (rP l) 0)), (.int .i64 (wI (unI (ic (rL l))) (rG l) (rP l) 1)), (.int .i64 (wI (unI (ic (rL l))) (rG l) (rP l) 2)), (.int .i64 (wI (unI (ic (rL l))) (rG l) (rP l) 3)), (.int .i64 (wI (unI (ic (rL l))) (rG l) (rP l) 4)), (.int .i64 (wI (unI (ic (rL l))) (rG l) (rP l) 5)), (.int .i64 (wI (unI (ic (rL l))) (rG l) (rP l) 6)), (.int .i64 (wI (unI (ic (rL l))) (rG l) (rP l) 7))] 3 (some 0)] : AHeap)) : Res × AHeap).1 ∧
 h' = (((.ret (.tuple ⟨[(.slice (some ⟨3, 0, (some 1)⟩) 8 8), (.bool true)]⟩)), ([zA, .tcells (ic (rL l)) 3 (some 0), .tcells [(.slice (some ⟨1, 0, (some 1)⟩) ((rL l).length) ((rL l).length)), (.int .i64 (rG l)), (.string (bs (rP l)))] 82 (some 0), .tcells [(.int .i64 (wI (unI (ic (rL l))) (rG l) (rP l) 0)), (.int .i64 (wI (unI (ic (rL l))) (rG l) (rP l) 1)), (.int .i64 (wI (unI (ic (rL l))) (rG l) (rP l) 2)), (.int .i64 (wI (unI (ic (rL l))) (rG l) (rP l) 3)), (.int .i64 (wI (unI (ic (rL l))) (rG l) (rP l) 4)), (.int .i64 (wI (unI (ic (rL l))) (rG l) (rP l) 5)), (.int .i64 (wI (unI (ic (rL l))) (rG l) (rP l) 6)), (.int .i64 (wI (unI (ic (rL l))) (rG l) (rP l) 7))] 3 (some 0)] : AHeap)) : Res × AHeap).2) ∧
((wS (unI (ic (rL l))) (rG l) (rP l)) = false →
 r = (((.ret (.tuple ⟨[(Go.Value.chan (Option.some 0)), (.bool false)]⟩)), ([zA, .tcells (ic (rL l)) 3 (some 0), .tcells [(.slice (some ⟨1, 0, (some 1)⟩) ((rL l).length) ((rL l).length)), (.int .i64 (rG l)), (.string (bs (rP l)))] 82 (some 0)] : AHeap)) : Res × AHeap).1 ∧
 h' = (((.ret (.tuple ⟨[(Go.Value.chan (Option.some 0)), (.bool false)]⟩)), ([zA, .tcells (ic (rL l)) 3 (some 0), .tcells [(.slice (some ⟨1, 0, (some 1)⟩) ((rL l).length) ((rL l).length)), (.int .i64 (rG l)), (.string (bs (rP l)))] 82 (some 0)] : AHeap)) : Res × AHeap).2)) ∧
(((wS (unI (ic (rL l))) (rG l) (rP l)) = true →
∀ z2 : Int, z2 = (IntKind.i64.wrap ((wI (unI (ic (rL l))) (rG l) (rP l) 0).tdiv 256)) →
∀ z3 : Int, z3 = (IntKind.u8.wrap z2) →
∀ z4 : Int, z4 = ((wI (unI (ic (rL l))) (rG l) (rP l) 0).tmod 256) →
∀ z5 : Int, z5 = (IntKind.u8.wrap z4) →
(((some (.int .i64 (wI (unI (ic (rL l))) (rG l) (rP l) 0))) : Option Value) = (some (.int .i64 (wI (unI (ic (rL l))) (rG l) (rP l) 0)))) ∧
∀ z6 : Int, z6 = (IntKind.i64.wrap ((wI (unI (ic (rL l))) (rG l) (rP l) 1).tdiv 256)) →
∀ z7 : Int, z7 = (IntKind.u8.wrap z6) →
∀ z8 : Int, z8 = ((wI (unI (ic (rL l))) (rG l) (rP l) 1).tmod 256) →
∀ z9 : Int, z9 = (IntKind.u8.wrap z8) →
(((some (.int .i64 (wI (unI (ic (rL l))) (rG l) (rP l) 1))) : Option Value) = (some (.int .i64 (wI (unI (ic (rL l))) (rG l) (rP l) 1)))) ∧
∀ z10 : Int, z10 = (IntKind.i64.wrap ((wI (unI (ic (rL l))) (rG l) (rP l) 2).tdiv 256)) →
∀ z11 : Int, z11 = (IntKind.u8.wrap z10) →
∀ z12 : Int, z12 = ((wI (unI (ic (rL l))) (rG l) (rP l) 2).tmod 256) →
∀ z13 : Int, z13 = (IntKind.u8.wrap z12) →
(((some (.int .i64 (wI (unI (ic (rL l))) (rG l) (rP l) 2))) : Option Value) = (some (.int .i64 (wI (unI (ic (rL l))) (rG l) (rP l) 2)))) ∧
∀ z14 : Int, z14 = (IntKind.i64.wrap ((wI (unI (ic (rL l))) (rG l) (rP l) 3).tdiv 256)) →
∀ z15 : Int, z15 = (IntKind.u8.wrap z14) →
∀ z16 : Int, z16 = ((wI (unI (ic (rL l))) (rG l) (rP l) 3).tmod 256) →
∀ z17 : Int, z17 = (IntKind.u8.wrap z16) →
(((some (.int .i64 (wI (unI (ic (rL l))) (rG l) (rP l) 3))) : Option Value) = (some (.int .i64 (wI (unI (ic (rL l))) (rG l) (rP l) 3)))) ∧
∀ z18 : Int, z18 = (IntKind.i64.wrap ((wI (unI (ic (rL l))) (rG l) (rP l) 4).tdiv 256)) →
∀ z19 : Int, z19 = (IntKind.u8.wrap z18) →
∀ z20 : Int, z20 = ((wI (unI (ic (rL l))) (rG l) (rP l) 4).tmod 256) →
∀ z21 : Int, z21 = (IntKind.u8.wrap z20) →
(((some (.int .i64 (wI (unI (ic (rL l))) (rG l) (rP l) 4))) : Option Value) = (some (.int .i64 (wI (unI (ic (rL l))) (rG l) (rP l) 4)))) ∧
∀ z22 : Int, z22 = (IntKind.i64.wrap ((wI (unI (ic (rL l))) (rG l) (rP l) 5).tdiv 256)) →
∀ z23 : Int, z23 = (IntKind.u8.wrap z22) →
∀ z24 : Int, z24 = ((wI (unI (ic (rL l))) (rG l) (rP l) 5).tmod 256) →
∀ z25 : Int, z25 = (IntKind.u8.wrap z24) →
(((some (.int .i64 (wI (unI (ic (rL l))) (rG l) (rP l) 5))) : Option Value) = (some (.int .i64 (wI (unI (ic (rL l))) (rG l) (rP l) 5)))) ∧
∀ z26 : Int, z26 = (IntKind.i64.wrap ((wI (unI (ic (rL l))) (rG l) (rP l) 6).tdiv 256)) →
∀ z27 : Int, z27 = (IntKind.u8.wrap z26) →
∀ z28 : Int, z28 = ((wI (unI (ic (rL l))) (rG l) (rP l) 6).tmod 256) →
∀ z29 : Int, z29 = (IntKind.u8.wrap z28) →
(((some (.int .i64 (wI (unI (ic (rL l))) (rG l) (rP l) 6))) : Option Value) = (some (.int .i64 (wI (unI (ic (rL l))) (rG l) (rP l) 6)))) ∧
∀ z30 : Int, z30 = (IntKind.i64.wrap ((wI (unI (ic (rL l))) (rG l) (rP l) 7).tdiv 256)) →
∀ z31 : Int, z31 = (IntKind.u8.wrap z30) →
∀ z32 : Int, z32 = ((wI (unI (ic (rL l))) (rG l) (rP l) 7).tmod 256) →
∀ z33 : Int, z33 = (IntKind.u8.wrap z32) →
(((some (.int .i64 (wI (unI (ic (rL l))) (rG l) (rP l) 7))) : Option Value) = (some (.int .i64 (wI (unI (ic (rL l))) (rG l) (rP l) 7)))) ∧
 Q (.ret (.tuple ⟨[(.agg ⟨[(.int .u8 z3), (.int .u8 z5), (.int .u8 z7), (.int .u8 z9), (.int .u8 z11), (.int .u8 z13), (.int .u8 z15), (.int .u8 z17), (.int .u8 z19), (.int .u8 z21), (.int .u8 z23), (.int .u8 z25), (.int .u8 z27), (.int .u8 z29), (.int .u8 z31), (.int .u8 z33)]⟩), (.int .i64 0), (.int .i64 0)]⟩))) ∧
((wS (unI (ic (rL l))) (rG l) (rP l)) = false →
 Q (.ret (.tuple ⟨[zG, (.int .i64 ((((rN l) : Nat) : Int))), (.int .i64 20)]⟩))))))))))) =
    runS Tryd.prog [] false [60, 61] 0 (SpecC Tryd.prog []) 20 19 [.string (bs l)] [] .norm (.skip 4 (.call2 (rE l) ((.ret (.tuple ⟨[(.agg ⟨[(.slice none 0 0), (.int .i64 (rG l)), (.string (bs (rP l)))]⟩), (.int .i64 ((((rN l) : Nat) : Int)))]⟩)), ([zA] : AHeap)) ((.ret (.tuple ⟨[(.agg ⟨[(.slice (some ⟨1, 0, (some 1)⟩) ((rL l).length) ((rL l).length)), (.int .i64 (rG l)), (.string (bs (rP l)))]⟩), (.int .i64 ((((rN l) : Nat) : Int)))]⟩)), ([zA, .tcells (ic (rL l)) 3 (some 0)] : AHeap)) (.skip 8 (.all (fun _z1 => .skip 0 (.ask (.go) (.skip 3 (.call2 (wS [] (rG l) (rP l)) ((.ret (.tuple ⟨[(.slice (some ⟨2, 0, (some 1)⟩) 8 8), (.bool true)]⟩)), ([zA, .tcells [(.slice none 0 0), (.int .i64 (rG l)), (.string (bs (rP l)))] 82 (some 0), .tcells [(.int .i64 (wI [] (rG l) (rP l) 0)), (.int .i64 (wI [] (rG l) (rP l) 1)), (.int .i64 (wI [] (rG l) (rP l) 2)), (.int .i64 (wI [] (rG l) (rP l) 3)), (.int .i64 (wI [] (rG l) (rP l) 4)), (.int .i64 (wI [] (rG l) (rP l) 5)), (.int .i64 (wI [] (rG l) (rP l) 6)), (.int .i64 (wI [] (rG l) (rP l) 7))] 3 (some 0)] : AHeap)) ((.ret (.tuple ⟨[(Go.Value.chan (Option.some 0)), (.bool false)]⟩)), ([zA, .tcells [(.slice none 0 0), (.int .i64 (rG l)), (.string (bs (rP l)))] 82 (some 0)] : AHeap)) xRx7s0 (.go))))))) (.skip 8 (.all (fun _z1 => .skip 0 (.ask (.go) (.skip 3 (.call2 (wS (unI (ic (rL l))) (rG l) (rP l)) ((.ret (.tuple ⟨[(.slice (some ⟨3, 0, (some 1)⟩) 8 8), (.bool true)]⟩)), ([zA, .tcells (ic (rL l)) 3 (some 0), .tcells [(.slice (some ⟨1, 0, (some 1)⟩) ((rL l).length) ((rL l).length)), (.int .i64 (rG l)), (.string (bs (rP l)))] 82 (some 0), .tcells [(.int .i64 (wI (unI (ic (rL l))) (rG l) (rP l) 0)), (.int .i64 (wI (unI (ic (rL l))) (rG l) (rP l) 1)), (.int .i64 (wI (unI (ic (rL l))) (rG l) (rP l) 2)), (.int .i64 (wI (unI (ic (rL l))) (rG l) (rP l) 3)), (.int .i64 (wI (unI (ic (rL l))) (rG l) (rP l) 4)), (.int .i64 (wI (unI (ic (rL l))) (rG l) (rP l) 5)), (.int .i64 (wI (unI (ic (rL l))) (rG l) (rP l) 6)), (.int .i64 (wI (unI (ic (rL l))) (rG l) (rP l) 7))] 3 (some 0)] : AHeap)) ((.ret (.tuple ⟨[(Go.Value.chan (Option.some 0)), (.bool false)]⟩)), ([zA, .tcells (ic (rL l)) 3 (some 0), .tcells [(.slice (some ⟨1, 0, (some 1)⟩) ((rL l).length) ((rL l).length)), (.int .i64 (rG l)), (.string (bs (rP l)))] 82 (some 0)] : AHeap)) xRx7s0 (.go))))))))) (fun r _ _ _ => Q r) := by kernel_rfl

end Go.Proofs.YtopladipgobpjaaDoor
