/-
  The reference's Whole6: what its runs ask for. No condition.
-/
import Derived.Test.YtopladipgobpjaaDoorRx1
import Derived.Test.YtopladipgobpjaaDoorPlainO
namespace Go.Proofs.YtopladipgobpjaaDoor
open Go.Fm

/-- what the reference's Parse4 gives: bytes, place, error -/
def p4b (l : List UInt8) (i : Nat) : Int := ((p4R l).1.getD []).getD i 0
def p4n (l : List UInt8) : Int := match p4R l with
  | (some _, _) => 0
  | (none, n) => n
def p4e (l : List UInt8) : Int := match p4R l with
  | (some _, _) => 0
  | (none, _) => 20

structure WS where
  L : List Int
  i : Nat
  k : Nat
def wqa (l p : List UInt8) (g : List Int) (gap : Nat) (s : WS) : Prop × St := (wOK g gap p s.L ∧ s.i = 0, ⟨[(11, .int .i64 0), (10, .slice none 0 0), (6, .slice (some ⟨2, 0, some 1⟩) s.L.length s.L.length), (5, .bool false), (4, .slice none 0 0), (3, .pointer (some ⟨1, 0, none⟩)), (0, .string (bs l))], [], [.tcells (ic g) 3 (some 0), .cells [.slice (some ⟨0, 0, some 1⟩) g.length g.length, .int .i64 gap, .string (bs p)] false, .tcells (ic s.L) 3 (some 0)], .norm⟩)
def wqb (l p : List UInt8) (g : List Int) (gap : Nat) (s : WS) : Prop × St := (wOK g gap p s.L ∧ 0 < s.i ∧ s.i ≤ s.L.length + 1, ⟨[(11, .int .i64 s.i), (10, .slice (some ⟨3, 0, some 1⟩) (outI gap s.L s.i).length (outI gap s.L s.i).length), (6, .slice (some ⟨2, 0, some 1⟩) s.L.length s.L.length), (5, .bool false), (4, .slice none 0 0), (3, .pointer (some ⟨1, 0, none⟩)), (0, .string (bs l))], [], [.tcells (ic g) 3 (some 0), .cells [.slice (some ⟨0, 0, some 1⟩) g.length g.length, .int .i64 gap, .string (bs p)] false, .tcells (ic s.L) 3 (some 0), .tcells (ic (outI gap s.L s.i)) 3 (some 0)], .norm⟩)
def wra (l p : List UInt8) (g : List Int) (gap : Nat) (z : WS) (s : WS) : Prop × St := (wOK g gap p s.L ∧ s.i = 0 ∧ s.k = s.L.length ∧ s.L = z.L ∧ s.i = z.i, ⟨[(12, .int .i64 s.k), (11, .int .i64 0), (10, .slice none 0 0), (6, .slice (some ⟨2, 0, some 1⟩) s.L.length s.L.length), (5, .bool false), (4, .slice none 0 0), (3, .pointer (some ⟨1, 0, none⟩)), (0, .string (bs l))], [], [.tcells (ic g) 3 (some 0), .cells [.slice (some ⟨0, 0, some 1⟩) g.length g.length, .int .i64 gap, .string (bs p)] false, .tcells (ic s.L) 3 (some 0)], .norm⟩)
def wrb (l p : List UInt8) (g : List Int) (gap : Nat) (z : WS) (s : WS) : Prop × St := (wOK g gap p s.L ∧ s.i ≤ s.L.length ∧ s.L.length ≤ s.k ∧ (s.k ≤ 8 ∨ s.k = s.L.length) ∧ s.L = z.L ∧ s.i = z.i, ⟨[(12, .int .i64 s.k), (11, .int .i64 s.i), (10, .slice (some ⟨3, 0, some 1⟩) (outK gap s.L s.i s.k).length (outK gap s.L s.i s.k).length), (6, .slice (some ⟨2, 0, some 1⟩) s.L.length s.L.length), (5, .bool false), (4, .slice none 0 0), (3, .pointer (some ⟨1, 0, none⟩)), (0, .string (bs l))], [], [.tcells (ic g) 3 (some 0), .cells [.slice (some ⟨0, 0, some 1⟩) g.length g.length, .int .i64 gap, .string (bs p)] false, .tcells (ic s.L) 3 (some 0), .tcells (ic (outK gap s.L s.i s.k)) 3 (some 0)], .norm⟩)
def wmo (_ _ : List UInt8) (_ : List Int) (_ : Nat) (s : WS) : Nat := s.L.length + 1 - s.i
def wmi (_ _ : List UInt8) (_ : List Int) (_ : Nat) (_ : WS) (s : WS) : Nat := 8 - s.k


abbrev xRx5h0 (p : List UInt8) (g : List Int) (gap : Nat) (i4 : WS) (z6 : Int) : AHeap := [.tcells (ic g) 3 (some 0), .cells [(.slice (some ⟨0, 0, (some 1)⟩) g.length g.length), (.int .i64 ((gap : Nat) : Int)), (.string (bs (p)))] false, .tcells (ic i4.L) 3 (some 0), .dead, .tcells [(.int .i64 z6)] 3 (some 0), .tcells (ic (outK gap i4.L i4.i i4.k ++ [z6])) 3 (some 0)]
abbrev xRx5h1 (p : List UInt8) (g : List Int) (gap : Nat) (i4 : WS) : AHeap := [.tcells (ic g) 3 (some 0), .cells [(.slice (some ⟨0, 0, (some 1)⟩) g.length g.length), (.int .i64 ((gap : Nat) : Int)), (.string (bs (p)))] false, .tcells (ic i4.L) 3 (some 0), .dead, .tcells [(.int .i64 0)] 3 (some 0), .tcells (ic (outK gap i4.L i4.i i4.k ++ [0])) 3 (some 0)]
abbrev xRx5h2 (p : List UInt8) (g : List Int) (gap : Nat) : AHeap := [.tcells (ic g) 3 (some 0), .cells [(.slice (some ⟨0, 0, (some 1)⟩) g.length g.length), (.int .i64 ((gap : Nat) : Int)), (.string (bs (p)))] false, .tcells [] 3 (some 0), .tcells (ic (List.take g.length g)) 3 (some 0)]
abbrev xRx5h3 (p : List UInt8) (g : List Int) : AHeap := [.tcells (ic g) 3 (some 0), .cells [(.slice (some ⟨0, 0, (some 1)⟩) g.length g.length), (.int .i64 (-1)), (.string (bs (p)))] false, .tcells [] 3 (some 0), .tcells (ic (List.take g.length g)) 3 (some 0)]
abbrev xRx5h4 (p : List UInt8) : AHeap := [.cells [(.slice none 0 0), (.int .i64 (-1)), (.string (bs (p)))] false, .tcells [] 3 (some 0)]
abbrev xRx5h5 (p : List UInt8) : AHeap := [.cells [(.slice none 0 0), (.int .i64 0), (.string (bs (p)))] false, .tcells [] 3 (some 0)]
abbrev xRx5s3 (p : List UInt8) (g : List Int) (gap : Nat) (i4 : WS) : Scr := .skip 4 (.val (.pointer (some ⟨2, (0 + (((i4.i : Nat) : Int)).toNat * 1), none⟩)) (.skip 0 (.gen (Int) (fun x => .int .i64 x) fun z6 => .skip 1 (.put (.slice (some ⟨5, 0, (some 1)⟩) ((outK gap i4.L i4.i i4.k).length + 1) ((outK gap i4.L i4.i i4.k).length + 1)) (xRx5h0 p g gap i4 z6) (.skip 2 (.all (fun _z7 => .go)))))))
abbrev xRx5s4 : Scr := .skip 4 (.val (.pointer (some ⟨2, 0, none⟩)) (.skip 0 (.gen (Int) (fun x => .int .i64 x) fun _z6 => .go)))
abbrev xRx5s0 (l : List UInt8) (p : List UInt8) (g : List Int) (gap : Nat) (i1 : WS) : Scr := .skip 2 (.all (fun _z3 => .skip 1 (.invN [12, 11, 10, 6, 5, 4, 3, 0] _ (wmi l p g gap i1) [(wra l p g gap i1), (wrb l p g gap i1)] (fun k => match k with | 0 => fun i4 => .skip 3 (.ask (.skip 4 (.ask (.skip 7 (.all (fun _z5 => .go))) (.skip 4 (.all (fun _z5 => .skip 0 (.ask xRx5s4 (.go))))))) (.skip 7 (.all (fun _z5 => .skip 0 (.ask xRx5s4 (.go)))))) | _ => fun i4 => .skip 3 (.ask (.skip 4 (.ask (.skip 4 (.put (.slice (some ⟨5, 0, (some 1)⟩) ((outK gap i4.L i4.i i4.k).length + 1) ((outK gap i4.L i4.i i4.k).length + 1)) (xRx5h1 p g gap i4) (.skip 2 (.all (fun _z5 => .go))))) (.skip 4 (.all (fun _z5 => .skip 0 (.ask (xRx5s3 p g gap i4) (.skip 2 (.all (fun _z6 => .go))))))))) (.skip 7 (.all (fun _z5 => .skip 0 (.ask (xRx5s3 p g gap i4) (.skip 2 (.all (fun _z6 => .go))))))))))))
abbrev xRx5s1 (l : List UInt8) (p : List UInt8) (g : List Int) (gap : Nat) : Scr := .skip 18 (.all (fun _z1 => .skip 1 (.ask (.skip 9 (.invN [11, 10, 6, 5, 4, 3, 0] _ (wmo l p g gap) [(wqa l p g gap), (wqb l p g gap)] (fun k => match k with | 0 => fun i2 => .skip 2 (.all (fun _z3 => .skip 0 (.ask (xRx5s0 l p g gap i2) (.skip 3 (.all (fun _z4 => .skip 0 (.ask (.go) (.go)))))))) | _ => fun i2 => .skip 2 (.all (fun _z3 => .skip 0 (.ask (xRx5s0 l p g gap i2) (.skip 3 (.all (fun _z4 => .skip 0 (.ask (.go) (.go))))))))))) (.go))))
abbrev xRx5s2 (l : List UInt8) (p : List UInt8) (g : List Int) (gap : Nat) : Scr := .skip 7 (.invN [11, 10, 6, 5, 4, 3, 0] _ (wmo l p g gap) [(wqa l p g gap), (wqb l p g gap)] (fun k => match k with | 0 => fun i1 => .skip 2 (.all (fun _z2 => .skip 0 (.ask (xRx5s0 l p g gap i1) (.skip 3 (.all (fun _z3 => .skip 0 (.ask (.go) (.go)))))))) | _ => fun i1 => .skip 2 (.all (fun _z2 => .skip 0 (.ask (xRx5s0 l p g gap i1) (.skip 3 (.all (fun _z3 => .skip 0 (.ask (.go) (.go))))))))))

theorem run_w0z (l p : List UInt8) (Q : Res → AHeap → Prop) : ((SpecK Tryd.prog 87 [(.string (bs (p)))] [.cells [(.slice none 0 0), (.int .i64 (-1)), (.string (bs (p)))] false, .tcells [] 3 (some 0)] (.bool (grp p)) ∧
∀ _ : Unit, True →
(((grp p) = true →
(SpecK Tryd.prog 89 [(.string (bs (p)))] [.cells [(.slice none 0 0), (.int .i64 (-1)), (.string (bs (p)))] false, .tcells [] 3 (some 0)] (.int .i64 (valH p)) ∧
∀ _ : Unit, True →
 Q (.ret (.tuple ⟨[(.slice (some ⟨3, 0, (some 1)⟩) 1 1), (.bool false)]⟩)) [.cells [(.slice none 0 0), (.int .i64 (-1)), (.string (bs (p)))] false, .tcells [] 3 (some 0), .tcells [(.int .i64 (valH p))] 3 (some 0), .tcells [(.int .i64 (valH p))] 3 (some 0)])) ∧
((grp p) = false →
(((!(bs p).toList == (bs []).toList) = true →
(SpecK Tryd.prog 53 [(.string (bs (p)))] [.cells [(.slice none 0 0), (.int .i64 (-1)), (.string (bs (p)))] false, .tcells [] 3 (some 0)] (.bool (w4 p)) ∧
∀ _ : Unit, True →
(((w4 p) = true →
(SpecK Tryd.prog 14 [(.string (bs (p)))] [.cells [(.slice none 0 0), (.int .i64 (-1)), (.string (bs (p)))] false, .tcells [] 3 (some 0)] (.tuple ⟨[(.agg ⟨[(.int .u8 (p4b p 0)), (.int .u8 (p4b p 1)), (.int .u8 (p4b p 2)), (.int .u8 (p4b p 3))]⟩), (.int .i64 (p4n p)), (.int .i64 (p4e p))]⟩) ∧
∀ _ : Unit, True →
∀ z1 : Int, z1 = (IntKind.i64.wrap (p4b p 0)) →
∀ z2 : Int, z2 = (IntKind.i64.wrap (z1 * 256)) →
∀ z3 : Int, z3 = (IntKind.i64.wrap (p4b p 1)) →
∀ z4 : Int, z4 = (IntKind.i64.wrap (z2 + z3)) →
∀ z5 : Int, z5 = (IntKind.i64.wrap (p4b p 2)) →
∀ z6 : Int, z6 = (IntKind.i64.wrap (z5 * 256)) →
∀ z7 : Int, z7 = (IntKind.i64.wrap (p4b p 3)) →
∀ z8 : Int, z8 = (IntKind.i64.wrap (z6 + z7)) →
 Q (.ret (.tuple ⟨[(.slice (some ⟨4, 0, (some 1)⟩) 2 2), (.bool false)]⟩)) [.cells [(.slice none 0 0), (.int .i64 (-1)), (.string (bs (p)))] false, .tcells [] 3 (some 0), .tcells [(.int .u8 (p4b p 0)), (.int .u8 (p4b p 1)), (.int .u8 (p4b p 2)), (.int .u8 (p4b p 3))] 23 (some 0), .tcells [(.int .i64 z4), (.int .i64 z8)] 3 (some 0), .tcells [(.int .i64 z4), (.int .i64 z8)] 3 (some 0)])) ∧
((w4 p) = false →
((((bs p).toList == (bs []).toList) = true →
 Q (.ret (.tuple ⟨[(.slice none 0 0), (.bool false)]⟩)) [.cells [(.slice none 0 0), (.int .i64 (-1)), (.string (bs (p)))] false, .tcells [] 3 (some 0)]) ∧
(((bs p).toList == (bs []).toList) = false →
 Q (.ret (.tuple ⟨[(.slice none 0 0), (.bool false)]⟩)) [.cells [(.slice none 0 0), (.int .i64 (-1)), (.string (bs (p)))] false, .tcells [] 3 (some 0)])))))) ∧
((!(bs p).toList == (bs []).toList) = false →
((((bs p).toList == (bs []).toList) = true →
 Q (.ret (.tuple ⟨[(.slice none 0 0), (.bool false)]⟩)) [.cells [(.slice none 0 0), (.int .i64 (-1)), (.string (bs (p)))] false, .tcells [] 3 (some 0)]) ∧
(((bs p).toList == (bs []).toList) = false →
 Q (.ret (.tuple ⟨[(.slice none 0 0), (.bool false)]⟩)) [.cells [(.slice none 0 0), (.int .i64 (-1)), (.string (bs (p)))] false, .tcells [] 3 (some 0)])))))))) =
    runS Tryd.prog [] false [87, 53, 89, 14] 0 (SpecC Tryd.prog []) 20 61 [.string (bs l), .agg ⟨[.slice none 0 0, .int .i64 (-1), .string (bs p)]⟩] [] .norm (.skip 10 (.call Unit (ck (.bool (grp p)) (xRx5h4 p)) fun _ => .skip 1 (.ask (.skip 3 (.call Unit (ck (.int .i64 (valH p)) (xRx5h4 p)) fun _ => .go)) (.skip 2 (.ask (.skip 6 (.call Unit (ck (.bool (w4 p)) (xRx5h4 p)) fun _ => .skip 2 (.ask (.skip 2 (.call Unit (ck (.tuple ⟨[(.agg ⟨[(.int .u8 (p4b p 0)), (.int .u8 (p4b p 1)), (.int .u8 (p4b p 2)), (.int .u8 (p4b p 3))]⟩), (.int .i64 (p4n p)), (.int .i64 (p4e p))]⟩) (xRx5h4 p)) fun _ => .skip 11 (.all (fun _z1 => .skip 0 (.all (fun _z2 => .skip 2 (.all (fun _z3 => .skip 0 (.all (fun _z4 => .skip 2 (.all (fun _z5 => .skip 0 (.all (fun _z6 => .skip 2 (.all (fun _z7 => .skip 0 (.all (fun _z8 => .go)))))))))))))))))) (.skip 2 (.ask (.go) (.go)))))) (.skip 9 (.ask (.go) (.go)))))))) (fun r _ h _ => Q r h) := by kernel_rfl
abbrev cw0o0 (p : List UInt8) (Q : Res →
 AHeap →
 Prop) : Prop := (((bs p).toList == (bs []).toList) = true →
 Q (.ret (.tuple ⟨[(.slice (some ⟨17, 0, (some 1)⟩) 8 8), (.bool true)]⟩)) [.cells [(.slice none 0 0), (.int .i64 0), (.string (bs (p)))] false, .tcells [] 3 (some 0), .tcells [(.int .i64 0)] 3 (some 0), .dead, .tcells [(.int .i64 0)] 3 (some 0), .dead, .tcells [(.int .i64 0)] 3 (some 0), .dead, .tcells [(.int .i64 0)] 3 (some 0), .dead, .tcells [(.int .i64 0)] 3 (some 0), .dead, .tcells [(.int .i64 0)] 3 (some 0), .dead, .tcells [(.int .i64 0)] 3 (some 0), .dead, .tcells [(.int .i64 0)] 3 (some 0), .tcells [(.int .i64 0), (.int .i64 0), (.int .i64 0), (.int .i64 0), (.int .i64 0), (.int .i64 0), (.int .i64 0), (.int .i64 0)] 3 (some 0)]) ∧
(((bs p).toList == (bs []).toList) = false →
 Q (.ret (.tuple ⟨[(.slice none 0 0), (.bool false)]⟩)) [.cells [(.slice none 0 0), (.int .i64 0), (.string (bs (p)))] false, .tcells [] 3 (some 0)])

theorem run_w0o (l p : List UInt8) (Q : Res → AHeap → Prop) : ((SpecK Tryd.prog 87 [(.string (bs (p)))] [.cells [(.slice none 0 0), (.int .i64 0), (.string (bs (p)))] false, .tcells [] 3 (some 0)] (.bool (grp p)) ∧
∀ _ : Unit, True →
(((grp p) = true →
(SpecK Tryd.prog 89 [(.string (bs (p)))] [.cells [(.slice none 0 0), (.int .i64 0), (.string (bs (p)))] false, .tcells [] 3 (some 0)] (.int .i64 (valH p)) ∧
∀ _ : Unit, True →
 Q (.ret (.tuple ⟨[(.slice (some ⟨19, 0, (some 1)⟩) 8 8), (.bool true)]⟩)) [.cells [(.slice none 0 0), (.int .i64 0), (.string (bs (p)))] false, .tcells [] 3 (some 0), .tcells [(.int .i64 (valH p))] 3 (some 0), .tcells [(.int .i64 (valH p))] 3 (some 0), .tcells [(.int .i64 0)] 3 (some 0), .dead, .tcells [(.int .i64 0)] 3 (some 0), .dead, .tcells [(.int .i64 0)] 3 (some 0), .dead, .tcells [(.int .i64 0)] 3 (some 0), .dead, .tcells [(.int .i64 0)] 3 (some 0), .dead, .tcells [(.int .i64 0)] 3 (some 0), .dead, .tcells [(.int .i64 0)] 3 (some 0), .dead, .tcells [(.int .i64 (valH p))] 3 (some 0), .tcells [(.int .i64 0), (.int .i64 0), (.int .i64 0), (.int .i64 0), (.int .i64 0), (.int .i64 0), (.int .i64 0), (.int .i64 (valH p))] 3 (some 0)])) ∧
((grp p) = false →
(((!(bs p).toList == (bs []).toList) = true →
(SpecK Tryd.prog 53 [(.string (bs (p)))] [.cells [(.slice none 0 0), (.int .i64 0), (.string (bs (p)))] false, .tcells [] 3 (some 0)] (.bool (w4 p)) ∧
∀ _ : Unit, True →
(((w4 p) = true →
(SpecK Tryd.prog 14 [(.string (bs (p)))] [.cells [(.slice none 0 0), (.int .i64 0), (.string (bs (p)))] false, .tcells [] 3 (some 0)] (.tuple ⟨[(.agg ⟨[(.int .u8 (p4b p 0)), (.int .u8 (p4b p 1)), (.int .u8 (p4b p 2)), (.int .u8 (p4b p 3))]⟩), (.int .i64 (p4n p)), (.int .i64 (p4e p))]⟩) ∧
∀ _ : Unit, True →
∀ z1 : Int, z1 = (IntKind.i64.wrap (p4b p 0)) →
∀ z2 : Int, z2 = (IntKind.i64.wrap (z1 * 256)) →
∀ z3 : Int, z3 = (IntKind.i64.wrap (p4b p 1)) →
∀ z4 : Int, z4 = (IntKind.i64.wrap (z2 + z3)) →
∀ z5 : Int, z5 = (IntKind.i64.wrap (p4b p 2)) →
∀ z6 : Int, z6 = (IntKind.i64.wrap (z5 * 256)) →
∀ z7 : Int, z7 = (IntKind.i64.wrap (p4b p 3)) →
∀ z8 : Int, z8 = (IntKind.i64.wrap (z6 + z7)) →
 Q (.ret (.tuple ⟨[(.slice (some ⟨20, 0, (some 1)⟩) 8 8), (.bool true)]⟩)) [.cells [(.slice none 0 0), (.int .i64 0), (.string (bs (p)))] false, .tcells [] 3 (some 0), .tcells [(.int .u8 (p4b p 0)), (.int .u8 (p4b p 1)), (.int .u8 (p4b p 2)), (.int .u8 (p4b p 3))] 23 (some 0), .tcells [(.int .i64 z4), (.int .i64 z8)] 3 (some 0), .tcells [(.int .i64 z4), (.int .i64 z8)] 3 (some 0), .tcells [(.int .i64 0)] 3 (some 0), .dead, .tcells [(.int .i64 0)] 3 (some 0), .dead, .tcells [(.int .i64 0)] 3 (some 0), .dead, .tcells [(.int .i64 0)] 3 (some 0), .dead, .tcells [(.int .i64 0)] 3 (some 0), .dead, .tcells [(.int .i64 0)] 3 (some 0), .dead, .tcells [(.int .i64 z4)] 3 (some 0), .dead, .tcells [(.int .i64 z8)] 3 (some 0), .tcells [(.int .i64 0), (.int .i64 0), (.int .i64 0), (.int .i64 0), (.int .i64 0), (.int .i64 0), (.int .i64 z4), (.int .i64 z8)] 3 (some 0)])) ∧
((w4 p) = false →
((cw0o0 p Q)))))) ∧
((!(bs p).toList == (bs []).toList) = false →
((cw0o0 p Q)))))))) =
    runS Tryd.prog [] false [87, 53, 89, 14] 0 (SpecC Tryd.prog []) 20 61 [.string (bs l), .agg ⟨[.slice none 0 0, .int .i64 0, .string (bs p)]⟩] [] .norm (.skip 10 (.call Unit (ck (.bool (grp p)) (xRx5h5 p)) fun _ => .skip 1 (.ask (.skip 3 (.call Unit (ck (.int .i64 (valH p)) (xRx5h5 p)) fun _ => .skip 9 (.unr 60 (.skip 8 (.unr 60 (.skip 161 (.unr 60 (.go)))))))) (.skip 2 (.ask (.skip 6 (.call Unit (ck (.bool (w4 p)) (xRx5h5 p)) fun _ => .skip 2 (.ask (.skip 2 (.call Unit (ck (.tuple ⟨[(.agg ⟨[(.int .u8 (p4b p 0)), (.int .u8 (p4b p 1)), (.int .u8 (p4b p 2)), (.int .u8 (p4b p 3))]⟩), (.int .i64 (p4n p)), (.int .i64 (p4e p))]⟩) (xRx5h5 p)) fun _ => .skip 11 (.all (fun _z1 => .skip 0 (.all (fun _z2 => .skip 2 (.all (fun _z3 => .skip 0 (.all (fun _z4 => .skip 2 (.all (fun _z5 => .skip 0 (.all (fun _z6 => .skip 2 (.all (fun _z7 => .skip 0 (.all (fun _z8 => .skip 9 (.unr 60 (.skip 8 (.unr 60 (.skip 143 (.unr 60 (.skip 33 (.unr 60 (.go)))))))))))))))))))))))))) (.skip 2 (.ask (.skip 30 (.unr 60 (.skip 8 (.unr 60 (.go))))) (.go)))))) (.skip 9 (.ask (.skip 30 (.unr 60 (.skip 8 (.unr 60 (.go))))) (.go)))))))) (fun r _ h _ => Q r h) := by kernel_rfl
abbrev cw1z0 (p : List UInt8) (g : List Int) (Q : Res →
 AHeap →
 Prop) : Prop := (((bs p).toList == (bs []).toList) = true →
 Q (.ret (.tuple ⟨[(.slice none 0 0), (.bool false)]⟩)) [.tcells (ic g) 3 (some 0), .cells [(.slice (some ⟨0, 0, (some 1)⟩) g.length g.length), (.int .i64 (-1)), (.string (bs (p)))] false, .tcells [] 3 (some 0), .tcells (ic (List.take g.length g)) 3 (some 0)]) ∧
(((bs p).toList == (bs []).toList) = false →
 Q (.ret (.tuple ⟨[(.slice none 0 0), (.bool false)]⟩)) [.tcells (ic g) 3 (some 0), .cells [(.slice (some ⟨0, 0, (some 1)⟩) g.length g.length), (.int .i64 (-1)), (.string (bs (p)))] false, .tcells [] 3 (some 0), .tcells (ic (List.take g.length g)) 3 (some 0)])

theorem run_w1z (l p : List UInt8) (g : List Int) (Q : Res → AHeap → Prop) : (((aAppend Tryd.prog 80 80 (.slice (some ⟨2, 0, none⟩) 0 0) (.slice (some ⟨0, 0, (some 1)⟩) g.length g.length) [.tcells (ic g) 3 (some 0), .cells [(.slice (some ⟨0, 0, (some 1)⟩) g.length g.length), (.int .i64 (-1)), (.string (bs (p)))] false, .tcells [] 3 (some 0)] = some ((.slice (some ⟨3, 0, (some 1)⟩) g.length g.length), ([.tcells (ic g) 3 (some 0), .cells [(.slice (some ⟨0, 0, (some 1)⟩) g.length g.length), (.int .i64 (-1)), (.string (bs (p)))] false, .tcells [] 3 (some 0), .tcells (ic (List.take g.length g)) 3 (some 0)] : AHeap))) ∧
(SpecK Tryd.prog 87 [(.string (bs (p)))] [.tcells (ic g) 3 (some 0), .cells [(.slice (some ⟨0, 0, (some 1)⟩) g.length g.length), (.int .i64 (-1)), (.string (bs (p)))] false, .tcells [] 3 (some 0), .tcells (ic (List.take g.length g)) 3 (some 0)] (.bool (grp p)) ∧
∀ _ : Unit, True →
(((grp p) = true →
(SpecK Tryd.prog 89 [(.string (bs (p)))] [.tcells (ic g) 3 (some 0), .cells [(.slice (some ⟨0, 0, (some 1)⟩) g.length g.length), (.int .i64 (-1)), (.string (bs (p)))] false, .tcells [] 3 (some 0), .tcells (ic (List.take g.length g)) 3 (some 0)] (.int .i64 (valH p)) ∧
∀ _ : Unit, True →
((aAppend Tryd.prog 80 80 (.slice (some ⟨3, 0, (some 1)⟩) g.length g.length) (.slice (some ⟨4, 0, none⟩) 1 1) [.tcells (ic g) 3 (some 0), .cells [(.slice (some ⟨0, 0, (some 1)⟩) g.length g.length), (.int .i64 (-1)), (.string (bs (p)))] false, .tcells [] 3 (some 0), .tcells (ic (List.take g.length g)) 3 (some 0), .tcells [(.int .i64 (valH p))] 3 (some 0)] = some ((.slice (some ⟨5, 0, (some 1)⟩) (g.length + 1) (g.length + 1)), ([.tcells (ic g) 3 (some 0), .cells [(.slice (some ⟨0, 0, (some 1)⟩) g.length g.length), (.int .i64 (-1)), (.string (bs (p)))] false, .tcells [] 3 (some 0), .dead, .tcells [(.int .i64 (valH p))] 3 (some 0), .tcells (ic (List.take g.length g ++ [valH p])) 3 (some 0)] : AHeap))) ∧
(((((g.length + 1 : Nat) : Int) == 8) = true →
 Q (.ret (.tuple ⟨[(.slice (some ⟨5, 0, (some 1)⟩) (g.length + 1) (g.length + 1)), (.bool true)]⟩)) [.tcells (ic g) 3 (some 0), .cells [(.slice (some ⟨0, 0, (some 1)⟩) g.length g.length), (.int .i64 (-1)), (.string (bs (p)))] false, .tcells [] 3 (some 0), .dead, .tcells [(.int .i64 (valH p))] 3 (some 0), .tcells (ic (List.take g.length g ++ [valH p])) 3 (some 0)]) ∧
((((g.length + 1 : Nat) : Int) == 8) = false →
 Q (.ret (.tuple ⟨[(.slice (some ⟨5, 0, (some 1)⟩) (g.length + 1) (g.length + 1)), (.bool false)]⟩)) [.tcells (ic g) 3 (some 0), .cells [(.slice (some ⟨0, 0, (some 1)⟩) g.length g.length), (.int .i64 (-1)), (.string (bs (p)))] false, .tcells [] 3 (some 0), .dead, .tcells [(.int .i64 (valH p))] 3 (some 0), .tcells (ic (List.take g.length g ++ [valH p])) 3 (some 0)]))))) ∧
((grp p) = false →
(((!(bs p).toList == (bs []).toList) = true →
(SpecK Tryd.prog 53 [(.string (bs (p)))] [.tcells (ic g) 3 (some 0), .cells [(.slice (some ⟨0, 0, (some 1)⟩) g.length g.length), (.int .i64 (-1)), (.string (bs (p)))] false, .tcells [] 3 (some 0), .tcells (ic (List.take g.length g)) 3 (some 0)] (.bool (w4 p)) ∧
∀ _ : Unit, True →
(((w4 p) = true →
(SpecK Tryd.prog 14 [(.string (bs (p)))] [.tcells (ic g) 3 (some 0), .cells [(.slice (some ⟨0, 0, (some 1)⟩) g.length g.length), (.int .i64 (-1)), (.string (bs (p)))] false, .tcells [] 3 (some 0), .tcells (ic (List.take g.length g)) 3 (some 0)] (.tuple ⟨[(.agg ⟨[(.int .u8 (p4b p 0)), (.int .u8 (p4b p 1)), (.int .u8 (p4b p 2)), (.int .u8 (p4b p 3))]⟩), (.int .i64 (p4n p)), (.int .i64 (p4e p))]⟩) ∧
∀ _ : Unit, True →
∀ z1 : Int, z1 = (IntKind.i64.wrap (p4b p 0)) →
∀ z2 : Int, z2 = (IntKind.i64.wrap (z1 * 256)) →
∀ z3 : Int, z3 = (IntKind.i64.wrap (p4b p 1)) →
∀ z4 : Int, z4 = (IntKind.i64.wrap (z2 + z3)) →
∀ z5 : Int, z5 = (IntKind.i64.wrap (p4b p 2)) →
∀ z6 : Int, z6 = (IntKind.i64.wrap (z5 * 256)) →
∀ z7 : Int, z7 = (IntKind.i64.wrap (p4b p 3)) →
∀ z8 : Int, z8 = (IntKind.i64.wrap (z6 + z7)) →
((aAppend Tryd.prog 80 80 (.slice (some ⟨3, 0, (some 1)⟩) g.length g.length) (.slice (some ⟨5, 0, none⟩) 2 2) [.tcells (ic g) 3 (some 0), .cells [(.slice (some ⟨0, 0, (some 1)⟩) g.length g.length), (.int .i64 (-1)), (.string (bs (p)))] false, .tcells [] 3 (some 0), .tcells (ic (List.take g.length g)) 3 (some 0), .tcells [(.int .u8 (p4b p 0)), (.int .u8 (p4b p 1)), (.int .u8 (p4b p 2)), (.int .u8 (p4b p 3))] 23 (some 0), .tcells [(.int .i64 z4), (.int .i64 z8)] 3 (some 0)] = some ((.slice (some ⟨6, 0, (some 1)⟩) (g.length + 2) (g.length + 2)), ([.tcells (ic g) 3 (some 0), .cells [(.slice (some ⟨0, 0, (some 1)⟩) g.length g.length), (.int .i64 (-1)), (.string (bs (p)))] false, .tcells [] 3 (some 0), .dead, .tcells [(.int .u8 (p4b p 0)), (.int .u8 (p4b p 1)), (.int .u8 (p4b p 2)), (.int .u8 (p4b p 3))] 23 (some 0), .tcells [(.int .i64 z4), (.int .i64 z8)] 3 (some 0), .tcells (ic (List.take g.length g ++ [z4, z8])) 3 (some 0)] : AHeap))) ∧
(((((g.length + 2 : Nat) : Int) == 8) = true →
 Q (.ret (.tuple ⟨[(.slice (some ⟨6, 0, (some 1)⟩) (g.length + 2) (g.length + 2)), (.bool true)]⟩)) [.tcells (ic g) 3 (some 0), .cells [(.slice (some ⟨0, 0, (some 1)⟩) g.length g.length), (.int .i64 (-1)), (.string (bs (p)))] false, .tcells [] 3 (some 0), .dead, .tcells [(.int .u8 (p4b p 0)), (.int .u8 (p4b p 1)), (.int .u8 (p4b p 2)), (.int .u8 (p4b p 3))] 23 (some 0), .tcells [(.int .i64 z4), (.int .i64 z8)] 3 (some 0), .tcells (ic (List.take g.length g ++ [z4, z8])) 3 (some 0)]) ∧
((((g.length + 2 : Nat) : Int) == 8) = false →
 Q (.ret (.tuple ⟨[(.slice (some ⟨6, 0, (some 1)⟩) (g.length + 2) (g.length + 2)), (.bool false)]⟩)) [.tcells (ic g) 3 (some 0), .cells [(.slice (some ⟨0, 0, (some 1)⟩) g.length g.length), (.int .i64 (-1)), (.string (bs (p)))] false, .tcells [] 3 (some 0), .dead, .tcells [(.int .u8 (p4b p 0)), (.int .u8 (p4b p 1)), (.int .u8 (p4b p 2)), (.int .u8 (p4b p 3))] 23 (some 0), .tcells [(.int .i64 z4), (.int .i64 z8)] 3 (some 0), .tcells (ic (List.take g.length g ++ [z4, z8])) 3 (some 0)]))))) ∧
((w4 p) = false →
((cw1z0 p g Q)))))) ∧
((!(bs p).toList == (bs []).toList) = false →
((cw1z0 p g Q))))))))) =
    runS Tryd.prog [] false [87, 53, 89, 14] 0 (SpecC Tryd.prog []) 20 61 [.string (bs l), .agg ⟨[.slice (some ⟨0, 0, some 1⟩) g.length g.length, .int .i64 (-1), .string (bs p)]⟩] [.tcells (ic g) 3 (some 0)] .norm (.skip 6 (.put (.slice (some ⟨3, 0, (some 1)⟩) g.length g.length) (xRx5h3 p g) (.skip 3 (.call Unit (ck (.bool (grp p)) (xRx5h3 p g)) fun _ => .skip 1 (.ask (.skip 3 (.call Unit (ck (.int .i64 (valH p)) (xRx5h3 p g)) fun _ => .skip 1 (.put (.slice (some ⟨5, 0, (some 1)⟩) (g.length + 1) (g.length + 1)) [.tcells (ic g) 3 (some 0), .cells [(.slice (some ⟨0, 0, (some 1)⟩) g.length g.length), (.int .i64 (-1)), (.string (bs (p)))] false, .tcells [] 3 (some 0), .dead, .tcells [(.int .i64 (valH p))] 3 (some 0), .tcells (ic (List.take g.length g ++ [valH p])) 3 (some 0)] (.skip 8 (.ask (.go) (.go)))))) (.skip 2 (.ask (.skip 6 (.call Unit (ck (.bool (w4 p)) (xRx5h3 p g)) fun _ => .skip 2 (.ask (.skip 2 (.call Unit (ck (.tuple ⟨[(.agg ⟨[(.int .u8 (p4b p 0)), (.int .u8 (p4b p 1)), (.int .u8 (p4b p 2)), (.int .u8 (p4b p 3))]⟩), (.int .i64 (p4n p)), (.int .i64 (p4e p))]⟩) (xRx5h3 p g)) fun _ => .skip 11 (.all (fun _z1 => .skip 0 (.all (fun _z2 => .skip 2 (.all (fun _z3 => .skip 0 (.all (fun z4 => .skip 2 (.all (fun _z5 => .skip 0 (.all (fun _z6 => .skip 2 (.all (fun _z7 => .skip 0 (.all (fun z8 => .skip 1 (.put (.slice (some ⟨6, 0, (some 1)⟩) (g.length + 2) (g.length + 2)) [.tcells (ic g) 3 (some 0), .cells [(.slice (some ⟨0, 0, (some 1)⟩) g.length g.length), (.int .i64 (-1)), (.string (bs (p)))] false, .tcells [] 3 (some 0), .dead, .tcells [(.int .u8 (p4b p 0)), (.int .u8 (p4b p 1)), (.int .u8 (p4b p 2)), (.int .u8 (p4b p 3))] 23 (some 0), .tcells [(.int .i64 z4), (.int .i64 z8)] 3 (some 0), .tcells (ic (List.take g.length g ++ [z4, z8])) 3 (some 0)] (.skip 8 (.ask (.go) (.go)))))))))))))))))))))) (.skip 2 (.ask (.go) (.go)))))) (.skip 9 (.ask (.go) (.go)))))))))) (fun r _ h _ => Q r h) := by kernel_rfl
abbrev cw1g2 (l : List UInt8) (p : List UInt8) (g : List Int) (gap : Nat) (i4 : WS) (i1 : WS) : Prop := ∀ z5 : Int, z5 = (((i4.L.length : Nat) : Int)) →
(((decide (((i4.i : Nat) : Int) < z5)) = true →
((aIndexAddr Tryd.prog 80 (.slice (some ⟨2, 0, (some 1)⟩) i4.L.length i4.L.length) (.int .i64 ((i4.i : Nat) : Int)) = some (.pointer (some ⟨2, (0 + (((i4.i : Nat) : Int)).toNat * 1), none⟩))) ∧
((∃ z6 : Int, aLoad Tryd.prog 3 (.pointer (some ⟨0, (0 + (((i4.i : Nat) : Int)).toNat * 1), none⟩)) [.tcells (ic i4.L) 3 (some 0)] = some (.int .i64 z6)) ∧
∀ z6 : Int, aLoad Tryd.prog 3 (.pointer (some ⟨0, (0 + (((i4.i : Nat) : Int)).toNat * 1), none⟩)) [.tcells (ic i4.L) 3 (some 0)] = some (.int .i64 z6) →
((aAppend Tryd.prog 80 80 (.slice (some ⟨3, 0, (some 1)⟩) ((outK gap i4.L i4.i i4.k).length) ((outK gap i4.L i4.i i4.k).length)) (.slice (some ⟨4, 0, none⟩) 1 1) [.tcells (ic g) 3 (some 0), .cells [(.slice (some ⟨0, 0, (some 1)⟩) g.length g.length), (.int .i64 ((gap : Nat) : Int)), (.string (bs (p)))] false, .tcells (ic i4.L) 3 (some 0), .tcells (ic (outK gap i4.L i4.i i4.k)) 3 (some 0), .tcells [(.int .i64 z6)] 3 (some 0)] = some ((.slice (some ⟨5, 0, (some 1)⟩) ((outK gap i4.L i4.i i4.k).length + 1) ((outK gap i4.L i4.i i4.k).length + 1)), ([.tcells (ic g) 3 (some 0), .cells [(.slice (some ⟨0, 0, (some 1)⟩) g.length g.length), (.int .i64 ((gap : Nat) : Int)), (.string (bs (p)))] false, .tcells (ic i4.L) 3 (some 0), .dead, .tcells [(.int .i64 z6)] 3 (some 0), .tcells (ic (outK gap i4.L i4.i i4.k ++ [z6])) 3 (some 0)] : AHeap))) ∧
∀ z7 : Int, z7 = (IntKind.i64.wrap (((i4.i : Nat) : Int) + 1)) →
(someN [] 1 (fun a' => (wmo l p g gap) a' < (wmo l p g gap) i1) ⟨[(11, (.int .i64 z7)), (10, (.slice (some ⟨5, 0, (some 1)⟩) ((outK gap i4.L i4.i i4.k).length + 1) ((outK gap i4.L i4.i i4.k).length + 1))), (6, (.slice (some ⟨2, 0, (some 1)⟩) i4.L.length i4.L.length)), (5, (.bool false)), (4, (.slice none 0 0)), (3, (.pointer (some ⟨1, 0, none⟩))), (0, (.string (bs (l))))], [], [.tcells (ic g) 3 (some 0), .cells [(.slice (some ⟨0, 0, (some 1)⟩) g.length g.length), (.int .i64 ((gap : Nat) : Int)), (.string (bs (p)))] false, .tcells (ic i4.L) 3 (some 0), .dead, .tcells [(.int .i64 z6)] 3 (some 0), .tcells (ic (outK gap i4.L i4.i i4.k ++ [z6])) 3 (some 0)], .norm⟩ [(wqa l p g gap), (wqb l p g gap)]))))) ∧
((decide (((i4.i : Nat) : Int) < z5)) = false →
∀ z6 : Int, z6 = (IntKind.i64.wrap (((i4.i : Nat) : Int) + 1)) →
(someN [] 1 (fun a' => (wmo l p g gap) a' < (wmo l p g gap) i1) ⟨[(11, (.int .i64 z6)), (10, (.slice (some ⟨3, 0, (some 1)⟩) ((outK gap i4.L i4.i i4.k).length) ((outK gap i4.L i4.i i4.k).length))), (6, (.slice (some ⟨2, 0, (some 1)⟩) i4.L.length i4.L.length)), (5, (.bool false)), (4, (.slice none 0 0)), (3, (.pointer (some ⟨1, 0, none⟩))), (0, (.string (bs (l))))], [], [.tcells (ic g) 3 (some 0), .cells [(.slice (some ⟨0, 0, (some 1)⟩) g.length g.length), (.int .i64 ((gap : Nat) : Int)), (.string (bs (p)))] false, .tcells (ic i4.L) 3 (some 0), .tcells (ic (outK gap i4.L i4.i i4.k)) 3 (some 0)], .norm⟩ [(wqa l p g gap), (wqb l p g gap)])))
abbrev cw1g3 (l : List UInt8) (p : List UInt8) (g : List Int) (gap : Nat) (i4 : WS) (i1 : WS) : Prop := ∀ z5 : Int, z5 = (((i4.L.length : Nat) : Int)) →
(((decide (0 < z5)) = true →
((aIndexAddr Tryd.prog 80 (.slice (some ⟨2, 0, (some 1)⟩) i4.L.length i4.L.length) (.int .i64 0) = some (.pointer (some ⟨2, 0, none⟩))) ∧
((∃ z6 : Int, aLoad Tryd.prog 3 (.pointer (some ⟨0, 0, none⟩)) [.tcells (ic i4.L) 3 (some 0)] = some (.int .i64 z6)) ∧
∀ z6 : Int, aLoad Tryd.prog 3 (.pointer (some ⟨0, 0, none⟩)) [.tcells (ic i4.L) 3 (some 0)] = some (.int .i64 z6) →
(someN [] 1 (fun a' => (wmo l p g gap) a' < (wmo l p g gap) i1) ⟨[(11, (.int .i64 1)), (10, (.slice (some ⟨4, 0, (some 1)⟩) 1 1)), (6, (.slice (some ⟨2, 0, (some 1)⟩) i4.L.length i4.L.length)), (5, (.bool false)), (4, (.slice none 0 0)), (3, (.pointer (some ⟨1, 0, none⟩))), (0, (.string (bs (l))))], [], [.tcells (ic g) 3 (some 0), .cells [(.slice (some ⟨0, 0, (some 1)⟩) g.length g.length), (.int .i64 ((gap : Nat) : Int)), (.string (bs (p)))] false, .tcells (ic i4.L) 3 (some 0), .tcells [(.int .i64 z6)] 3 (some 0), .tcells [(.int .i64 z6)] 3 (some 0)], .norm⟩ [(wqa l p g gap), (wqb l p g gap)])))) ∧
((decide (0 < z5)) = false →
(someN [] 1 (fun a' => (wmo l p g gap) a' < (wmo l p g gap) i1) ⟨[(11, (.int .i64 1)), (10, (.slice none 0 0)), (6, (.slice (some ⟨2, 0, (some 1)⟩) i4.L.length i4.L.length)), (5, (.bool false)), (4, (.slice none 0 0)), (3, (.pointer (some ⟨1, 0, none⟩))), (0, (.string (bs (l))))], [], [.tcells (ic g) 3 (some 0), .cells [(.slice (some ⟨0, 0, (some 1)⟩) g.length g.length), (.int .i64 ((gap : Nat) : Int)), (.string (bs (p)))] false, .tcells (ic i4.L) 3 (some 0)], .norm⟩ [(wqa l p g gap), (wqb l p g gap)])))
abbrev cw1g0 (l : List UInt8) (p : List UInt8) (g : List Int) (gap : Nat) (i1 : WS) : Prop := (∀ i4, (wra l p g gap i1 i4).fst →
(((0 == ((gap : Nat) : Int)) = true →
(((decide (((i4.k : Nat) : Int) < 8)) = true →
∀ z5 : Int, z5 = (IntKind.i64.wrap (((i4.k : Nat) : Int) + 1)) →
(someN [] 1 (fun a' => (wmi l p g gap i1) a' < (wmi l p g gap i1) i4) ⟨[(12, (.int .i64 z5)), (11, (.int .i64 0)), (10, (.slice (some ⟨4, 0, (some 1)⟩) 1 1)), (6, (.slice (some ⟨2, 0, (some 1)⟩) i4.L.length i4.L.length)), (5, (.bool false)), (4, (.slice none 0 0)), (3, (.pointer (some ⟨1, 0, none⟩))), (0, (.string (bs (l))))], [], [.tcells (ic g) 3 (some 0), .cells [(.slice (some ⟨0, 0, (some 1)⟩) g.length g.length), (.int .i64 ((gap : Nat) : Int)), (.string (bs (p)))] false, .tcells (ic i4.L) 3 (some 0), .tcells [(.int .i64 0)] 3 (some 0), .tcells [(.int .i64 0)] 3 (some 0)], .norm⟩ [(wra l p g gap i1), (wrb l p g gap i1)])) ∧
((decide (((i4.k : Nat) : Int) < 8)) = false →
(cw1g3 l p g gap i4 i1)))) ∧
((0 == ((gap : Nat) : Int)) = false →
(cw1g3 l p g gap i4 i1)))) ∧
(∀ i4, (wrb l p g gap i1 i4).fst →
(((((i4.i : Nat) : Int) == ((gap : Nat) : Int)) = true →
(((decide (((i4.k : Nat) : Int) < 8)) = true →
((aAppend Tryd.prog 80 80 (.slice (some ⟨3, 0, (some 1)⟩) ((outK gap i4.L i4.i i4.k).length) ((outK gap i4.L i4.i i4.k).length)) (.slice (some ⟨4, 0, none⟩) 1 1) [.tcells (ic g) 3 (some 0), .cells [(.slice (some ⟨0, 0, (some 1)⟩) g.length g.length), (.int .i64 ((gap : Nat) : Int)), (.string (bs (p)))] false, .tcells (ic i4.L) 3 (some 0), .tcells (ic (outK gap i4.L i4.i i4.k)) 3 (some 0), .tcells [(.int .i64 0)] 3 (some 0)] = some ((.slice (some ⟨5, 0, (some 1)⟩) ((outK gap i4.L i4.i i4.k).length + 1) ((outK gap i4.L i4.i i4.k).length + 1)), ([.tcells (ic g) 3 (some 0), .cells [(.slice (some ⟨0, 0, (some 1)⟩) g.length g.length), (.int .i64 ((gap : Nat) : Int)), (.string (bs (p)))] false, .tcells (ic i4.L) 3 (some 0), .dead, .tcells [(.int .i64 0)] 3 (some 0), .tcells (ic (outK gap i4.L i4.i i4.k ++ [0])) 3 (some 0)] : AHeap))) ∧
∀ z5 : Int, z5 = (IntKind.i64.wrap (((i4.k : Nat) : Int) + 1)) →
(someN [] 1 (fun a' => (wmi l p g gap i1) a' < (wmi l p g gap i1) i4) ⟨[(12, (.int .i64 z5)), (11, (.int .i64 ((i4.i : Nat) : Int))), (10, (.slice (some ⟨5, 0, (some 1)⟩) ((outK gap i4.L i4.i i4.k).length + 1) ((outK gap i4.L i4.i i4.k).length + 1))), (6, (.slice (some ⟨2, 0, (some 1)⟩) i4.L.length i4.L.length)), (5, (.bool false)), (4, (.slice none 0 0)), (3, (.pointer (some ⟨1, 0, none⟩))), (0, (.string (bs (l))))], [], [.tcells (ic g) 3 (some 0), .cells [(.slice (some ⟨0, 0, (some 1)⟩) g.length g.length), (.int .i64 ((gap : Nat) : Int)), (.string (bs (p)))] false, .tcells (ic i4.L) 3 (some 0), .dead, .tcells [(.int .i64 0)] 3 (some 0), .tcells (ic (outK gap i4.L i4.i i4.k ++ [0])) 3 (some 0)], .norm⟩ [(wra l p g gap i1), (wrb l p g gap i1)]))) ∧
((decide (((i4.k : Nat) : Int) < 8)) = false →
(cw1g2 l p g gap i4 i1)))) ∧
((((i4.i : Nat) : Int) == ((gap : Nat) : Int)) = false →
(cw1g2 l p g gap i4 i1))))
abbrev cw1g1 (l : List UInt8) (p : List UInt8) (g : List Int) (gap : Nat) (Q : Res →
 AHeap →
 Prop) : Prop := (∀ i1, (wqa l p g gap i1).fst →
∀ z2 : Int, z2 = (((i1.L.length : Nat) : Int)) →
(((decide (0 ≤ z2)) = true →
∀ z3 : Int, z3 = (((i1.L.length : Nat) : Int)) →
((someN [] 1 (fun _ => True) ⟨[(12, (.int .i64 z3)), (11, (.int .i64 0)), (10, (.slice none 0 0)), (6, (.slice (some ⟨2, 0, (some 1)⟩) i1.L.length i1.L.length)), (5, (.bool false)), (4, (.slice none 0 0)), (3, (.pointer (some ⟨1, 0, none⟩))), (0, (.string (bs (l))))], [], [.tcells (ic g) 3 (some 0), .cells [(.slice (some ⟨0, 0, (some 1)⟩) g.length g.length), (.int .i64 ((gap : Nat) : Int)), (.string (bs (p)))] false, .tcells (ic i1.L) 3 (some 0)], .norm⟩ [(wra l p g gap i1), (wrb l p g gap i1)]) ∧
(cw1g0 l p g gap i1))) ∧
((decide (0 ≤ z2)) = false →
∀ z3 : Int, z3 = (((i1.L.length : Nat) : Int)) →
(((decide (z3 ≤ 7)) = true →
 Q (.ret (.tuple ⟨[(.slice none 0 0), (.bool true)]⟩)) [.tcells (ic g) 3 (some 0), .cells [(.slice (some ⟨0, 0, (some 1)⟩) g.length g.length), (.int .i64 ((gap : Nat) : Int)), (.string (bs (p)))] false, .tcells (ic i1.L) 3 (some 0)]) ∧
((decide (z3 ≤ 7)) = false →
 Q (.ret (.tuple ⟨[(.slice none 0 0), (.bool false)]⟩)) [.tcells (ic g) 3 (some 0), .cells [(.slice (some ⟨0, 0, (some 1)⟩) g.length g.length), (.int .i64 ((gap : Nat) : Int)), (.string (bs (p)))] false, .tcells (ic i1.L) 3 (some 0)]))))) ∧
(∀ i1, (wqb l p g gap i1).fst →
∀ z2 : Int, z2 = (((i1.L.length : Nat) : Int)) →
(((decide (((i1.i : Nat) : Int) ≤ z2)) = true →
∀ z3 : Int, z3 = (((i1.L.length : Nat) : Int)) →
((someN [] 1 (fun _ => True) ⟨[(12, (.int .i64 z3)), (11, (.int .i64 ((i1.i : Nat) : Int))), (10, (.slice (some ⟨3, 0, (some 1)⟩) ((outI gap i1.L i1.i).length) ((outI gap i1.L i1.i).length))), (6, (.slice (some ⟨2, 0, (some 1)⟩) i1.L.length i1.L.length)), (5, (.bool false)), (4, (.slice none 0 0)), (3, (.pointer (some ⟨1, 0, none⟩))), (0, (.string (bs (l))))], [], [.tcells (ic g) 3 (some 0), .cells [(.slice (some ⟨0, 0, (some 1)⟩) g.length g.length), (.int .i64 ((gap : Nat) : Int)), (.string (bs (p)))] false, .tcells (ic i1.L) 3 (some 0), .tcells (ic (outI gap i1.L i1.i)) 3 (some 0)], .norm⟩ [(wra l p g gap i1), (wrb l p g gap i1)]) ∧
(cw1g0 l p g gap i1))) ∧
((decide (((i1.i : Nat) : Int) ≤ z2)) = false →
∀ z3 : Int, z3 = (((i1.L.length : Nat) : Int)) →
(((decide (z3 ≤ 7)) = true →
 Q (.ret (.tuple ⟨[(.slice (some ⟨3, 0, (some 1)⟩) ((outI gap i1.L i1.i).length) ((outI gap i1.L i1.i).length)), (.bool true)]⟩)) [.tcells (ic g) 3 (some 0), .cells [(.slice (some ⟨0, 0, (some 1)⟩) g.length g.length), (.int .i64 ((gap : Nat) : Int)), (.string (bs (p)))] false, .tcells (ic i1.L) 3 (some 0), .tcells (ic (outI gap i1.L i1.i)) 3 (some 0)]) ∧
((decide (z3 ≤ 7)) = false →
 Q (.ret (.tuple ⟨[(.slice (some ⟨3, 0, (some 1)⟩) ((outI gap i1.L i1.i).length) ((outI gap i1.L i1.i).length)), (.bool false)]⟩)) [.tcells (ic g) 3 (some 0), .cells [(.slice (some ⟨0, 0, (some 1)⟩) g.length g.length), (.int .i64 ((gap : Nat) : Int)), (.string (bs (p)))] false, .tcells (ic i1.L) 3 (some 0), .tcells (ic (outI gap i1.L i1.i)) 3 (some 0)])))))
abbrev cw1g4 (l : List UInt8) (p : List UInt8) (g : List Int) (gap : Nat) (Q : Res →
 AHeap →
 Prop) : Prop := (((bs p).toList == (bs []).toList) = true →
∀ z1 : Int, z1 = (((g.length : Nat) : Int)) →
(((((gap : Nat) : Int) == z1) = true →
((someN [] 1 (fun _ => True) ⟨[(11, (.int .i64 0)), (10, (.slice none 0 0)), (6, (.slice (some ⟨3, 0, (some 1)⟩) g.length g.length)), (5, (.bool false)), (4, (.slice none 0 0)), (3, (.pointer (some ⟨1, 0, none⟩))), (0, (.string (bs (l))))], [], [.tcells (ic g) 3 (some 0), .cells [(.slice (some ⟨0, 0, (some 1)⟩) g.length g.length), (.int .i64 ((gap : Nat) : Int)), (.string (bs (p)))] false, .tcells [] 3 (some 0), .tcells (ic (List.take g.length g)) 3 (some 0)], .norm⟩ [(wqa l p g gap), (wqb l p g gap)]) ∧
(cw1g1 l p g gap Q))) ∧
((((gap : Nat) : Int) == z1) = false →
 Q (.ret (.tuple ⟨[(.slice none 0 0), (.bool false)]⟩)) [.tcells (ic g) 3 (some 0), .cells [(.slice (some ⟨0, 0, (some 1)⟩) g.length g.length), (.int .i64 ((gap : Nat) : Int)), (.string (bs (p)))] false, .tcells [] 3 (some 0), .tcells (ic (List.take g.length g)) 3 (some 0)]))) ∧
(((bs p).toList == (bs []).toList) = false →
 Q (.ret (.tuple ⟨[(.slice none 0 0), (.bool false)]⟩)) [.tcells (ic g) 3 (some 0), .cells [(.slice (some ⟨0, 0, (some 1)⟩) g.length g.length), (.int .i64 ((gap : Nat) : Int)), (.string (bs (p)))] false, .tcells [] 3 (some 0), .tcells (ic (List.take g.length g)) 3 (some 0)])

theorem run_w1g (l p : List UInt8) (g : List Int) (gap : Nat) (Q : Res → AHeap → Prop) : (((aAppend Tryd.prog 80 80 (.slice (some ⟨2, 0, none⟩) 0 0) (.slice (some ⟨0, 0, (some 1)⟩) g.length g.length) [.tcells (ic g) 3 (some 0), .cells [(.slice (some ⟨0, 0, (some 1)⟩) g.length g.length), (.int .i64 ((gap : Nat) : Int)), (.string (bs (p)))] false, .tcells [] 3 (some 0)] = some ((.slice (some ⟨3, 0, (some 1)⟩) g.length g.length), ([.tcells (ic g) 3 (some 0), .cells [(.slice (some ⟨0, 0, (some 1)⟩) g.length g.length), (.int .i64 ((gap : Nat) : Int)), (.string (bs (p)))] false, .tcells [] 3 (some 0), .tcells (ic (List.take g.length g)) 3 (some 0)] : AHeap))) ∧
(SpecK Tryd.prog 87 [(.string (bs (p)))] [.tcells (ic g) 3 (some 0), .cells [(.slice (some ⟨0, 0, (some 1)⟩) g.length g.length), (.int .i64 ((gap : Nat) : Int)), (.string (bs (p)))] false, .tcells [] 3 (some 0), .tcells (ic (List.take g.length g)) 3 (some 0)] (.bool (grp p)) ∧
∀ _ : Unit, True →
(((grp p) = true →
(SpecK Tryd.prog 89 [(.string (bs (p)))] [.tcells (ic g) 3 (some 0), .cells [(.slice (some ⟨0, 0, (some 1)⟩) g.length g.length), (.int .i64 ((gap : Nat) : Int)), (.string (bs (p)))] false, .tcells [] 3 (some 0), .tcells (ic (List.take g.length g)) 3 (some 0)] (.int .i64 (valH p)) ∧
∀ _ : Unit, True →
((aAppend Tryd.prog 80 80 (.slice (some ⟨3, 0, (some 1)⟩) g.length g.length) (.slice (some ⟨4, 0, none⟩) 1 1) [.tcells (ic g) 3 (some 0), .cells [(.slice (some ⟨0, 0, (some 1)⟩) g.length g.length), (.int .i64 ((gap : Nat) : Int)), (.string (bs (p)))] false, .tcells [] 3 (some 0), .tcells (ic (List.take g.length g)) 3 (some 0), .tcells [(.int .i64 (valH p))] 3 (some 0)] = some ((.slice (some ⟨5, 0, (some 1)⟩) (g.length + 1) (g.length + 1)), ([.tcells (ic g) 3 (some 0), .cells [(.slice (some ⟨0, 0, (some 1)⟩) g.length g.length), (.int .i64 ((gap : Nat) : Int)), (.string (bs (p)))] false, .tcells [] 3 (some 0), .dead, .tcells [(.int .i64 (valH p))] 3 (some 0), .tcells (ic (List.take g.length g ++ [valH p])) 3 (some 0)] : AHeap))) ∧
((someN [] 1 (fun _ => True) ⟨[(11, (.int .i64 0)), (10, (.slice none 0 0)), (6, (.slice (some ⟨5, 0, (some 1)⟩) (g.length + 1) (g.length + 1))), (5, (.bool false)), (4, (.slice none 0 0)), (3, (.pointer (some ⟨1, 0, none⟩))), (0, (.string (bs (l))))], [], [.tcells (ic g) 3 (some 0), .cells [(.slice (some ⟨0, 0, (some 1)⟩) g.length g.length), (.int .i64 ((gap : Nat) : Int)), (.string (bs (p)))] false, .tcells [] 3 (some 0), .dead, .tcells [(.int .i64 (valH p))] 3 (some 0), .tcells (ic (List.take g.length g ++ [valH p])) 3 (some 0)], .norm⟩ [(wqa l p g gap), (wqb l p g gap)]) ∧
(cw1g1 l p g gap Q))))) ∧
((grp p) = false →
(((!(bs p).toList == (bs []).toList) = true →
(SpecK Tryd.prog 53 [(.string (bs (p)))] [.tcells (ic g) 3 (some 0), .cells [(.slice (some ⟨0, 0, (some 1)⟩) g.length g.length), (.int .i64 ((gap : Nat) : Int)), (.string (bs (p)))] false, .tcells [] 3 (some 0), .tcells (ic (List.take g.length g)) 3 (some 0)] (.bool (w4 p)) ∧
∀ _ : Unit, True →
(((w4 p) = true →
(SpecK Tryd.prog 14 [(.string (bs (p)))] [.tcells (ic g) 3 (some 0), .cells [(.slice (some ⟨0, 0, (some 1)⟩) g.length g.length), (.int .i64 ((gap : Nat) : Int)), (.string (bs (p)))] false, .tcells [] 3 (some 0), .tcells (ic (List.take g.length g)) 3 (some 0)] (.tuple ⟨[(.agg ⟨[(.int .u8 (p4b p 0)), (.int .u8 (p4b p 1)), (.int .u8 (p4b p 2)), (.int .u8 (p4b p 3))]⟩), (.int .i64 (p4n p)), (.int .i64 (p4e p))]⟩) ∧
∀ _ : Unit, True →
∀ z1 : Int, z1 = (IntKind.i64.wrap (p4b p 0)) →
∀ z2 : Int, z2 = (IntKind.i64.wrap (z1 * 256)) →
∀ z3 : Int, z3 = (IntKind.i64.wrap (p4b p 1)) →
∀ z4 : Int, z4 = (IntKind.i64.wrap (z2 + z3)) →
∀ z5 : Int, z5 = (IntKind.i64.wrap (p4b p 2)) →
∀ z6 : Int, z6 = (IntKind.i64.wrap (z5 * 256)) →
∀ z7 : Int, z7 = (IntKind.i64.wrap (p4b p 3)) →
∀ z8 : Int, z8 = (IntKind.i64.wrap (z6 + z7)) →
((aAppend Tryd.prog 80 80 (.slice (some ⟨3, 0, (some 1)⟩) g.length g.length) (.slice (some ⟨5, 0, none⟩) 2 2) [.tcells (ic g) 3 (some 0), .cells [(.slice (some ⟨0, 0, (some 1)⟩) g.length g.length), (.int .i64 ((gap : Nat) : Int)), (.string (bs (p)))] false, .tcells [] 3 (some 0), .tcells (ic (List.take g.length g)) 3 (some 0), .tcells [(.int .u8 (p4b p 0)), (.int .u8 (p4b p 1)), (.int .u8 (p4b p 2)), (.int .u8 (p4b p 3))] 23 (some 0), .tcells [(.int .i64 z4), (.int .i64 z8)] 3 (some 0)] = some ((.slice (some ⟨6, 0, (some 1)⟩) (g.length + 2) (g.length + 2)), ([.tcells (ic g) 3 (some 0), .cells [(.slice (some ⟨0, 0, (some 1)⟩) g.length g.length), (.int .i64 ((gap : Nat) : Int)), (.string (bs (p)))] false, .tcells [] 3 (some 0), .dead, .tcells [(.int .u8 (p4b p 0)), (.int .u8 (p4b p 1)), (.int .u8 (p4b p 2)), (.int .u8 (p4b p 3))] 23 (some 0), .tcells [(.int .i64 z4), (.int .i64 z8)] 3 (some 0), .tcells (ic (List.take g.length g ++ [z4, z8])) 3 (some 0)] : AHeap))) ∧
((someN [] 1 (fun _ => True) ⟨[(11, (.int .i64 0)), (10, (.slice none 0 0)), (6, (.slice (some ⟨6, 0, (some 1)⟩) (g.length + 2) (g.length + 2))), (5, (.bool false)), (4, (.slice none 0 0)), (3, (.pointer (some ⟨1, 0, none⟩))), (0, (.string (bs (l))))], [], [.tcells (ic g) 3 (some 0), .cells [(.slice (some ⟨0, 0, (some 1)⟩) g.length g.length), (.int .i64 ((gap : Nat) : Int)), (.string (bs (p)))] false, .tcells [] 3 (some 0), .dead, .tcells [(.int .u8 (p4b p 0)), (.int .u8 (p4b p 1)), (.int .u8 (p4b p 2)), (.int .u8 (p4b p 3))] 23 (some 0), .tcells [(.int .i64 z4), (.int .i64 z8)] 3 (some 0), .tcells (ic (List.take g.length g ++ [z4, z8])) 3 (some 0)], .norm⟩ [(wqa l p g gap), (wqb l p g gap)]) ∧
(cw1g1 l p g gap Q))))) ∧
((w4 p) = false →
((cw1g4 l p g gap Q)))))) ∧
((!(bs p).toList == (bs []).toList) = false →
((cw1g4 l p g gap Q))))))))) =
    runS Tryd.prog [] false [87, 53, 89, 14] 0 (SpecC Tryd.prog []) 20 61 [.string (bs l), .agg ⟨[.slice (some ⟨0, 0, some 1⟩) g.length g.length, .int .i64 gap, .string (bs p)]⟩] [.tcells (ic g) 3 (some 0)] .norm (.skip 6 (.put (.slice (some ⟨3, 0, (some 1)⟩) g.length g.length) (xRx5h2 p g gap) (.skip 3 (.call Unit (ck (.bool (grp p)) (xRx5h2 p g gap)) fun _ => .skip 1 (.ask (.skip 3 (.call Unit (ck (.int .i64 (valH p)) (xRx5h2 p g gap)) fun _ => .skip 1 (.put (.slice (some ⟨5, 0, (some 1)⟩) (g.length + 1) (g.length + 1)) [.tcells (ic g) 3 (some 0), .cells [(.slice (some ⟨0, 0, (some 1)⟩) g.length g.length), (.int .i64 ((gap : Nat) : Int)), (.string (bs (p)))] false, .tcells [] 3 (some 0), .dead, .tcells [(.int .i64 (valH p))] 3 (some 0), .tcells (ic (List.take g.length g ++ [valH p])) 3 (some 0)] (xRx5s2 l p g gap)))) (.skip 2 (.ask (.skip 6 (.call Unit (ck (.bool (w4 p)) (xRx5h2 p g gap)) fun _ => .skip 2 (.ask (.skip 2 (.call Unit (ck (.tuple ⟨[(.agg ⟨[(.int .u8 (p4b p 0)), (.int .u8 (p4b p 1)), (.int .u8 (p4b p 2)), (.int .u8 (p4b p 3))]⟩), (.int .i64 (p4n p)), (.int .i64 (p4e p))]⟩) (xRx5h2 p g gap)) fun _ => .skip 11 (.all (fun _z1 => .skip 0 (.all (fun _z2 => .skip 2 (.all (fun _z3 => .skip 0 (.all (fun z4 => .skip 2 (.all (fun _z5 => .skip 0 (.all (fun _z6 => .skip 2 (.all (fun _z7 => .skip 0 (.all (fun z8 => .skip 1 (.put (.slice (some ⟨6, 0, (some 1)⟩) (g.length + 2) (g.length + 2)) [.tcells (ic g) 3 (some 0), .cells [(.slice (some ⟨0, 0, (some 1)⟩) g.length g.length), (.int .i64 ((gap : Nat) : Int)), (.string (bs (p)))] false, .tcells [] 3 (some 0), .dead, .tcells [(.int .u8 (p4b p 0)), (.int .u8 (p4b p 1)), (.int .u8 (p4b p 2)), (.int .u8 (p4b p 3))] 23 (some 0), .tcells [(.int .i64 z4), (.int .i64 z8)] 3 (some 0), .tcells (ic (List.take g.length g ++ [z4, z8])) 3 (some 0)] (xRx5s2 l p g gap)))))))))))))))))))) (.skip 2 (.ask (xRx5s1 l p g gap) (.go)))))) (.skip 9 (.ask (xRx5s1 l p g gap) (.go)))))))))) (fun r _ h _ => Q r h) := by kernel_rfl

end Go.Proofs.YtopladipgobpjaaDoor
