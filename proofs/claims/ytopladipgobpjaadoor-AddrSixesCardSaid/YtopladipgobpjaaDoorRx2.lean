/-
  The reference's Read6: what its run asks for. No condition.
-/
import Derived.Test.YtopladipgobpjaaDoorRx1
import Derived.Test.YtopladipgobpjaaDoorPlainR
namespace Go.Proofs.YtopladipgobpjaaDoor
open Go.Fm

def q6r0 (l : List UInt8) (s : Nat × R6) : Prop × St := (rOK l s.1 s.2 ∧ s.2.l = [],
  ⟨[(5, .int .i64 s.1), (4, .pointer (some ⟨1, 0, none⟩)), (3, .int .i64 0), (2, .pointer (some ⟨0, 0, none⟩)), (0, .string (bs l))], [],
  [.tcells [.slice none 0 0, .int .i64 0, .string (bs [])] 82 (some 0), .tcells [.slice none 0 0, .int .i64 s.2.gap, .string (bs s.2.part)] 82 (some 0)], .norm⟩)
def q6r1 (l : List UInt8) (s : Nat × R6) : Prop × St := (rOK l s.1 s.2 ∧ s.2.l ≠ [],
  ⟨[(5, .int .i64 s.1), (4, .pointer (some ⟨1, 0, none⟩)), (3, .int .i64 0), (2, .pointer (some ⟨0, 0, none⟩)), (0, .string (bs l))], [],
  [.tcells [.slice none 0 0, .int .i64 0, .string (bs [])] 82 (some 0), .tcells [.slice (some ⟨2, 0, some 1⟩) s.2.l.length s.2.l.length, .int .i64 s.2.gap, .string (bs s.2.part)] 82 (some 0), .tcells (ic s.2.l) 3 (some 0)], .norm⟩)
def m6r (l : List UInt8) (s : Nat × R6) : Nat := l.length - s.1

abbrev ce2 (l : List UInt8) (i1 : Nat × R6) (z5 : Int) : Prop := ∀ z10 : Int, z10 = (IntKind.i64.wrap (((i1.fst : Nat) : Int) + 1)) →
(someN [] 0 (fun a' => (m6r l) a' < (m6r l) i1) ⟨[(5, (.int .i64 z10)), (4, (.pointer (some ⟨1, 0, none⟩))), (3, (.int .i64 0)), (2, (.pointer (some ⟨0, 0, none⟩))), (0, (.string (bs (l))))], [], [.tcells [(.slice none 0 0), (.int .i64 0), (.string (bs ([])))] 82 (some 0), .tcells [(.slice (some ⟨2, 0, (some 1)⟩) i1.snd.l.length i1.snd.l.length), (.int .i64 i1.snd.gap), (.string (bs (i1.snd.part ++ List.take (z5.toNat - (((i1.fst : Nat) : Int)).toNat) (List.drop (((i1.fst : Nat) : Int)).toNat l))))] 82 (some 0), .tcells (ic i1.snd.l) 3 (some 0), .cells [(.slice (some ⟨2, 0, (some 1)⟩) i1.snd.l.length i1.snd.l.length), (.int .i64 i1.snd.gap), (.string (bs (i1.snd.part)))] false, .cells [(.slice (some ⟨2, 0, (some 1)⟩) i1.snd.l.length i1.snd.l.length), (.int .i64 i1.snd.gap), (.string (bs (i1.snd.part)))] false], .norm⟩ [(q6r0 l), (q6r1 l)])
abbrev ce3 (Q : Res →
 AHeap →
 Prop) (i1 : Nat × R6) : Prop := Q (.ret (.tuple ⟨[(.agg ⟨[(.slice (some ⟨2, 0, (some 1)⟩) i1.snd.l.length i1.snd.l.length), (.int .i64 i1.snd.gap), (.string (bs (i1.snd.part)))]⟩), (.int .i64 ((i1.fst : Nat) : Int))]⟩)) [.tcells [(.slice (some ⟨2, 0, (some 1)⟩) i1.snd.l.length i1.snd.l.length), (.int .i64 i1.snd.gap), (.string (bs (i1.snd.part)))] 82 (some 0), .tcells [(.slice (some ⟨2, 0, (some 1)⟩) i1.snd.l.length i1.snd.l.length), (.int .i64 i1.snd.gap), (.string (bs (i1.snd.part)))] 82 (some 0), .tcells (ic i1.snd.l) 3 (some 0), .cells [(.slice (some ⟨2, 0, (some 1)⟩) i1.snd.l.length i1.snd.l.length), (.int .i64 i1.snd.gap), (.string (bs (i1.snd.part)))] false]
abbrev ce4 (Q : Res →
 AHeap →
 Prop) (i1 : Nat × R6) : Prop := Q (.ret (.tuple ⟨[(.agg ⟨[(.slice (some ⟨2, 0, (some 1)⟩) i1.snd.l.length i1.snd.l.length), (.int .i64 i1.snd.gap), (.string (bs (i1.snd.part)))]⟩), (.int .i64 ((i1.fst : Nat) : Int))]⟩)) [.tcells [(.slice (some ⟨2, 0, (some 1)⟩) i1.snd.l.length i1.snd.l.length), (.int .i64 i1.snd.gap), (.string (bs (i1.snd.part)))] 82 (some 0), .tcells [(.slice (some ⟨2, 0, (some 1)⟩) i1.snd.l.length i1.snd.l.length), (.int .i64 i1.snd.gap), (.string (bs (i1.snd.part)))] 82 (some 0), .tcells (ic i1.snd.l) 3 (some 0)]
abbrev ce5 (l : List UInt8) (i1 : Nat × R6) (z5 : Int) : Prop := SpecK Tryd.prog 87 [(.string (bs (i1.snd.part ++ List.take (z5.toNat - (((i1.fst : Nat) : Int)).toNat) (List.drop (((i1.fst : Nat) : Int)).toNat l))))] [.tcells [(.slice none 0 0), (.int .i64 0), (.string (bs ([])))] 82 (some 0), .tcells [(.slice (some ⟨2, 0, (some 1)⟩) i1.snd.l.length i1.snd.l.length), (.int .i64 i1.snd.gap), (.string (bs (i1.snd.part)))] 82 (some 0), .tcells (ic i1.snd.l) 3 (some 0), .cells [(.slice (some ⟨2, 0, (some 1)⟩) i1.snd.l.length i1.snd.l.length), (.int .i64 i1.snd.gap), (.string (bs (i1.snd.part)))] false] (.bool (grp (i1.snd.part ++ List.take (z5.toNat - (((i1.fst : Nat) : Int)).toNat) (List.drop (((i1.fst : Nat) : Int)).toNat l))))
abbrev ce6 (l : List UInt8) (i1 : Nat × R6) : Prop := SpecK Tryd.prog 89 [(.string (bs (i1.snd.part)))] [.tcells [(.slice none 0 0), (.int .i64 0), (.string (bs ([])))] 82 (some 0), .tcells [(.slice (some ⟨2, 0, (some 1)⟩) i1.snd.l.length i1.snd.l.length), (.int .i64 i1.snd.gap), (.string (bs (i1.snd.part)))] 82 (some 0), .tcells (ic i1.snd.l) 3 (some 0), .cells [(.slice (some ⟨2, 0, (some 1)⟩) i1.snd.l.length i1.snd.l.length), (.int .i64 i1.snd.gap), (.string (bs (i1.snd.part)))] false] (.int .i64 (valH i1.snd.part)) ∧
∀ _ : Unit, True →
(((some (.slice (some ⟨2, 0, (some 1)⟩) i1.snd.l.length i1.snd.l.length)) : Option Value) = (some (.slice (some ⟨2, 0, (some 1)⟩) i1.snd.l.length i1.snd.l.length))) ∧
((aAppend Tryd.prog 80 80 (.slice (some ⟨2, 0, (some 1)⟩) i1.snd.l.length i1.snd.l.length) (.slice (some ⟨4, 0, none⟩) 1 1) [.tcells [(.slice none 0 0), (.int .i64 0), (.string (bs ([])))] 82 (some 0), .tcells [(.slice (some ⟨2, 0, (some 1)⟩) i1.snd.l.length i1.snd.l.length), (.int .i64 i1.snd.gap), (.string (bs (i1.snd.part)))] 82 (some 0), .tcells (ic i1.snd.l) 3 (some 0), .cells [(.slice (some ⟨2, 0, (some 1)⟩) i1.snd.l.length i1.snd.l.length), (.int .i64 i1.snd.gap), (.string (bs (i1.snd.part)))] false, .tcells [(.int .i64 (valH i1.snd.part))] 3 (some 0)] = some ((.slice (some ⟨5, 0, (some 1)⟩) (i1.snd.l.length + 1) (i1.snd.l.length + 1)), ([.tcells [(.slice none 0 0), (.int .i64 0), (.string (bs ([])))] 82 (some 0), .tcells [(.slice (some ⟨2, 0, (some 1)⟩) i1.snd.l.length i1.snd.l.length), (.int .i64 i1.snd.gap), (.string (bs (i1.snd.part)))] 82 (some 0), .dead, .cells [(.slice (some ⟨2, 0, (some 1)⟩) i1.snd.l.length i1.snd.l.length), (.int .i64 i1.snd.gap), (.string (bs (i1.snd.part)))] false, .tcells [(.int .i64 (valH i1.snd.part))] 3 (some 0), .tcells (ic (i1.snd.l ++ [valH i1.snd.part])) 3 (some 0)] : AHeap))) ∧
∀ z6 : Int, z6 = (IntKind.i64.wrap (((i1.fst : Nat) : Int) + 1)) →
(someN [] 0 (fun a' => (m6r l) a' < (m6r l) i1) ⟨[(5, (.int .i64 z6)), (4, (.pointer (some ⟨1, 0, none⟩))), (3, (.int .i64 0)), (2, (.pointer (some ⟨0, 0, none⟩))), (0, (.string (bs (l))))], [], [.tcells [(.slice none 0 0), (.int .i64 0), (.string (bs ([])))] 82 (some 0), .tcells [(.slice (some ⟨5, 0, (some 1)⟩) (i1.snd.l.length + 1) (i1.snd.l.length + 1)), (.int .i64 i1.snd.gap), (.string (bs ([])))] 82 (some 0), .dead, .cells [(.slice (some ⟨2, 0, (some 1)⟩) i1.snd.l.length i1.snd.l.length), (.int .i64 i1.snd.gap), (.string (bs (i1.snd.part)))] false, .tcells [(.int .i64 (valH i1.snd.part))] 3 (some 0), .tcells (ic (i1.snd.l ++ [valH i1.snd.part])) 3 (some 0)], .norm⟩ [(q6r0 l), (q6r1 l)]))
abbrev ce7 (l : List UInt8) (i1 : Nat × R6) (z5 : Int) : Prop := ∀ z8 : Int, z8 = (IntKind.i64.wrap (((i1.fst : Nat) : Int) + 1)) →
(someN [] 0 (fun a' => (m6r l) a' < (m6r l) i1) ⟨[(5, (.int .i64 z8)), (4, (.pointer (some ⟨1, 0, none⟩))), (3, (.int .i64 0)), (2, (.pointer (some ⟨0, 0, none⟩))), (0, (.string (bs (l))))], [], [.tcells [(.slice none 0 0), (.int .i64 0), (.string (bs ([])))] 82 (some 0), .tcells [(.slice (some ⟨2, 0, (some 1)⟩) i1.snd.l.length i1.snd.l.length), (.int .i64 i1.snd.gap), (.string (bs (i1.snd.part ++ List.take (z5.toNat - (((i1.fst : Nat) : Int)).toNat) (List.drop (((i1.fst : Nat) : Int)).toNat l))))] 82 (some 0), .tcells (ic i1.snd.l) 3 (some 0), .cells [(.slice (some ⟨2, 0, (some 1)⟩) i1.snd.l.length i1.snd.l.length), (.int .i64 i1.snd.gap), (.string (bs (i1.snd.part)))] false], .norm⟩ [(q6r0 l), (q6r1 l)])
abbrev ce8 (l : List UInt8) (i1 : Nat × R6) : Prop := ∀ z7 : Int, z7 = (IntKind.i64.wrap (((i1.fst : Nat) : Int) + 1)) →
(someN [] 0 (fun a' => (m6r l) a' < (m6r l) i1) ⟨[(5, (.int .i64 z7)), (4, (.pointer (some ⟨1, 0, none⟩))), (3, (.int .i64 0)), (2, (.pointer (some ⟨0, 0, none⟩))), (0, (.string (bs (l))))], [], [.tcells [(.slice none 0 0), (.int .i64 0), (.string (bs ([])))] 82 (some 0), .tcells [(.slice (some ⟨2, 0, (some 1)⟩) i1.snd.l.length i1.snd.l.length), (.int .i64 i1.snd.gap), (.string (bs (i1.snd.part)))] 82 (some 0), .tcells (ic i1.snd.l) 3 (some 0)], .norm⟩ [(q6r0 l), (q6r1 l)])
abbrev ce9 (Q : Res →
 AHeap →
 Prop) (i1 : Nat × R6) : Prop := Q (.ret (.tuple ⟨[(.agg ⟨[(.slice (some ⟨2, 0, (some 1)⟩) i1.snd.l.length i1.snd.l.length), (.int .i64 i1.snd.gap), (.string (bs (i1.snd.part)))]⟩), (.int .i64 ((i1.fst : Nat) : Int))]⟩)) [.tcells [(.slice (some ⟨2, 0, (some 1)⟩) i1.snd.l.length i1.snd.l.length), (.int .i64 i1.snd.gap), (.string (bs (i1.snd.part)))] 82 (some 0), .tcells [(.slice (some ⟨2, 0, (some 1)⟩) i1.snd.l.length i1.snd.l.length), (.int .i64 i1.snd.gap), (.string (bs (i1.snd.part)))] 82 (some 0), .tcells (ic i1.snd.l) 3 (some 0), .cells [(.slice (some ⟨2, 0, (some 1)⟩) i1.snd.l.length i1.snd.l.length), (.int .i64 i1.snd.gap), (.string (bs (i1.snd.part)))] false, .cells [(.slice (some ⟨2, 0, (some 1)⟩) i1.snd.l.length i1.snd.l.length), (.int .i64 i1.snd.gap), (.string (bs (i1.snd.part)))] false]
abbrev ce10 (l : List UInt8) (i1 : Nat × R6) (z5 : Int) : Prop := ∀ z6 : Int, z6 = (IntKind.i64.wrap (((i1.fst : Nat) : Int) + 1)) →
(someN [] 0 (fun a' => (m6r l) a' < (m6r l) i1) ⟨[(5, (.int .i64 z6)), (4, (.pointer (some ⟨1, 0, none⟩))), (3, (.int .i64 0)), (2, (.pointer (some ⟨0, 0, none⟩))), (0, (.string (bs (l))))], [], [.tcells [(.slice none 0 0), (.int .i64 0), (.string (bs ([])))] 82 (some 0), .tcells [(.slice none 0 0), (.int .i64 i1.snd.gap), (.string (bs (i1.snd.part ++ List.take (z5.toNat - (((i1.fst : Nat) : Int)).toNat) (List.drop (((i1.fst : Nat) : Int)).toNat l))))] 82 (some 0), .cells [(.slice none 0 0), (.int .i64 i1.snd.gap), (.string (bs (i1.snd.part)))] false], .norm⟩ [(q6r0 l), (q6r1 l)])
abbrev ce11 (l : List UInt8) (i1 : Nat × R6) : Prop := (((some (.slice none 0 0)) : Option Value) = (some (.slice none 0 0))) ∧
(SpecK Tryd.prog 89 [(.string (bs (i1.snd.part)))] [.tcells [(.slice none 0 0), (.int .i64 0), (.string (bs ([])))] 82 (some 0), .tcells [(.slice none 0 0), (.int .i64 i1.snd.gap), (.string (bs (i1.snd.part)))] 82 (some 0), .cells [(.slice none 0 0), (.int .i64 i1.snd.gap), (.string (bs (i1.snd.part)))] false] (.int .i64 (valH i1.snd.part)) ∧
∀ _ : Unit, True →
(((some (.slice none 0 0)) : Option Value) = (some (.slice none 0 0))) ∧
∀ z4 : Int, z4 = (IntKind.i64.wrap (((i1.fst : Nat) : Int) + 1)) →
(someN [] 0 (fun a' => (m6r l) a' < (m6r l) i1) ⟨[(5, (.int .i64 z4)), (4, (.pointer (some ⟨1, 0, none⟩))), (3, (.int .i64 0)), (2, (.pointer (some ⟨0, 0, none⟩))), (0, (.string (bs (l))))], [], [.tcells [(.slice none 0 0), (.int .i64 0), (.string (bs ([])))] 82 (some 0), .tcells [(.slice (some ⟨4, 0, (some 1)⟩) 1 1), (.int .i64 i1.snd.gap), (.string (bs ([])))] 82 (some 0), .cells [(.slice none 0 0), (.int .i64 i1.snd.gap), (.string (bs (i1.snd.part)))] false, .tcells [(.int .i64 (valH i1.snd.part))] 3 (some 0), .tcells [(.int .i64 (valH i1.snd.part))] 3 (some 0)], .norm⟩ [(q6r0 l), (q6r1 l)]))
abbrev ce12 (l : List UInt8) (i1 : Nat × R6) : Prop := ∀ z6 : Int, z6 = (IntKind.i64.wrap (((i1.fst : Nat) : Int) + 1)) →
(someN [] 0 (fun a' => (m6r l) a' < (m6r l) i1) ⟨[(5, (.int .i64 z6)), (4, (.pointer (some ⟨1, 0, none⟩))), (3, (.int .i64 0)), (2, (.pointer (some ⟨0, 0, none⟩))), (0, (.string (bs (l))))], [], [.tcells [(.slice none 0 0), (.int .i64 0), (.string (bs ([])))] 82 (some 0), .tcells [(.slice none 0 0), (.int .i64 i1.snd.gap), (.string (bs (i1.snd.part)))] 82 (some 0)], .norm⟩ [(q6r0 l), (q6r1 l)])
abbrev ce13 (l : List UInt8) (i1 : Nat × R6) (z5 : Int) : Prop := (((some (.slice none 0 0)) : Option Value) = (some (.slice none 0 0))) ∧
∀ z6 : Int, z6 = (IntKind.i64.wrap (((i1.fst : Nat) : Int) + 1)) →
(someN [] 0 (fun a' => (m6r l) a' < (m6r l) i1) ⟨[(5, (.int .i64 z6)), (4, (.pointer (some ⟨1, 0, none⟩))), (3, (.int .i64 0)), (2, (.pointer (some ⟨0, 0, none⟩))), (0, (.string (bs (l))))], [], [.tcells [(.slice none 0 0), (.int .i64 0), (.string (bs ([])))] 82 (some 0), .tcells [(.slice none 0 0), (.int .i64 i1.snd.gap), (.string (bs (i1.snd.part ++ List.take (z5.toNat - (((i1.fst : Nat) : Int)).toNat) (List.drop (((i1.fst : Nat) : Int)).toNat l))))] 82 (some 0), .cells [(.slice none 0 0), (.int .i64 i1.snd.gap), (.string (bs (i1.snd.part)))] false, .cells [(.slice none 0 0), (.int .i64 i1.snd.gap), (.string (bs (i1.snd.part)))] false], .norm⟩ [(q6r0 l), (q6r1 l)])
abbrev ce14 (l : List UInt8) (Q : Res →
 AHeap →
 Prop) (i1 : Nat × R6) (z5 : Int) : Prop := (ce5 l i1 z5) ∧
∀ _ : Unit, True →
(((grp (i1.snd.part ++ List.take (z5.toNat - (((i1.fst : Nat) : Int)).toNat) (List.drop (((i1.fst : Nat) : Int)).toNat l))) = true →
∀ z9 : Int, z9 = (((i1.snd.l.length : Nat) : Int)) →
∀ z10 : Int, z10 = (IntKind.i64.wrap (z9 + 1)) →
(((decide (i1.snd.gap ≥ 0)) = true →
 False) ∧
((decide (i1.snd.gap ≥ 0)) = false →
(((some (.slice (some ⟨2, 0, (some 1)⟩) i1.snd.l.length i1.snd.l.length)) : Option Value) = (some (.slice (some ⟨2, 0, (some 1)⟩) i1.snd.l.length i1.snd.l.length))) ∧
(((decide (z10 ≤ 8)) = true →
(ce2 l i1 z5)) ∧
((decide (z10 ≤ 8)) = false →
(ce9 Q i1)))))) ∧
((grp (i1.snd.part ++ List.take (z5.toNat - (((i1.fst : Nat) : Int)).toNat) (List.drop (((i1.fst : Nat) : Int)).toNat l))) = false →
(ce3 Q i1)))
abbrev ce0 (l : List UInt8) (Q : Res →
 AHeap →
 Prop) (i1 : Nat × R6) : Prop := ∀ z5 : Int, z5 = (IntKind.i64.wrap (((i1.fst : Nat) : Int) + 1)) →
((aSlice Tryd.prog 9 (.string (bs (l))) (some (.int .i64 ((i1.fst : Nat) : Int))) (some (.int .i64 z5)) none = some (.string (bs (List.take (z5.toNat - (((i1.fst : Nat) : Int)).toNat) (List.drop (((i1.fst : Nat) : Int)).toNat l))))) ∧
((aBin2 Tryd.prog BinOp.add 9 (Operand.tmp 20) (Operand.tmp 25) (.string (bs (i1.snd.part))) (.string (bs (List.take (z5.toNat - (((i1.fst : Nat) : Int)).toNat) (List.drop (((i1.fst : Nat) : Int)).toNat l)))) = some (.string (bs (i1.snd.part ++ List.take (z5.toNat - (((i1.fst : Nat) : Int)).toNat) (List.drop (((i1.fst : Nat) : Int)).toNat l))))) ∧
(SpecK Tryd.prog 52 [(.string (bs (i1.snd.part ++ List.take (z5.toNat - (((i1.fst : Nat) : Int)).toNat) (List.drop (((i1.fst : Nat) : Int)).toNat l))))] [.tcells [(.slice none 0 0), (.int .i64 0), (.string (bs ([])))] 82 (some 0), .tcells [(.slice (some ⟨2, 0, (some 1)⟩) i1.snd.l.length i1.snd.l.length), (.int .i64 i1.snd.gap), (.string (bs (i1.snd.part)))] 82 (some 0), .tcells (ic i1.snd.l) 3 (some 0)] (.bool (b4 (i1.snd.part ++ List.take (z5.toNat - (((i1.fst : Nat) : Int)).toNat) (List.drop (((i1.fst : Nat) : Int)).toNat l)))) ∧
∀ _ : Unit, True →
(((b4 (i1.snd.part ++ List.take (z5.toNat - (((i1.fst : Nat) : Int)).toNat) (List.drop (((i1.fst : Nat) : Int)).toNat l))) = true →
∀ z6 : Int, z6 = (((i1.snd.l.length : Nat) : Int)) →
∀ z7 : Int, z7 = (IntKind.i64.wrap (z6 + 2)) →
(((decide (i1.snd.gap ≥ 0)) = true →
(((some (.slice (some ⟨2, 0, (some 1)⟩) i1.snd.l.length i1.snd.l.length)) : Option Value) = (some (.slice (some ⟨2, 0, (some 1)⟩) i1.snd.l.length i1.snd.l.length))) ∧
(((decide (z7 ≤ 7)) = true →
(((decide (i1.snd.gap ≥ 0)) = true →
((ce5 l i1 z5) ∧
∀ _ : Unit, True →
(((grp (i1.snd.part ++ List.take (z5.toNat - (((i1.fst : Nat) : Int)).toNat) (List.drop (((i1.fst : Nat) : Int)).toNat l))) = true →
∀ z8 : Int, z8 = (((i1.snd.l.length : Nat) : Int)) →
∀ z9 : Int, z9 = (IntKind.i64.wrap (z8 + 1)) →
(((decide (i1.snd.gap ≥ 0)) = true →
(((some (.slice (some ⟨2, 0, (some 1)⟩) i1.snd.l.length i1.snd.l.length)) : Option Value) = (some (.slice (some ⟨2, 0, (some 1)⟩) i1.snd.l.length i1.snd.l.length))) ∧
(((decide (z9 ≤ 7)) = true →
(ce2 l i1 z5)) ∧
((decide (z9 ≤ 7)) = false →
(ce2 l i1 z5)))) ∧
((decide (i1.snd.gap ≥ 0)) = false →
 False))) ∧
((grp (i1.snd.part ++ List.take (z5.toNat - (((i1.fst : Nat) : Int)).toNat) (List.drop (((i1.fst : Nat) : Int)).toNat l))) = false →
(ce7 l i1 z5))))) ∧
((decide (i1.snd.gap ≥ 0)) = false →
 False))) ∧
((decide (z7 ≤ 7)) = false →
((ce5 l i1 z5) ∧
∀ _ : Unit, True →
(((grp (i1.snd.part ++ List.take (z5.toNat - (((i1.fst : Nat) : Int)).toNat) (List.drop (((i1.fst : Nat) : Int)).toNat l))) = true →
∀ z8 : Int, z8 = (((i1.snd.l.length : Nat) : Int)) →
∀ z9 : Int, z9 = (IntKind.i64.wrap (z8 + 1)) →
(((decide (i1.snd.gap ≥ 0)) = true →
(((some (.slice (some ⟨2, 0, (some 1)⟩) i1.snd.l.length i1.snd.l.length)) : Option Value) = (some (.slice (some ⟨2, 0, (some 1)⟩) i1.snd.l.length i1.snd.l.length))) ∧
(((decide (z9 ≤ 7)) = true →
(ce2 l i1 z5)) ∧
((decide (z9 ≤ 7)) = false →
(ce9 Q i1)))) ∧
((decide (i1.snd.gap ≥ 0)) = false →
 False))) ∧
((grp (i1.snd.part ++ List.take (z5.toNat - (((i1.fst : Nat) : Int)).toNat) (List.drop (((i1.fst : Nat) : Int)).toNat l))) = false →
(ce3 Q i1))))))) ∧
((decide (i1.snd.gap ≥ 0)) = false →
(((some (.slice (some ⟨2, 0, (some 1)⟩) i1.snd.l.length i1.snd.l.length)) : Option Value) = (some (.slice (some ⟨2, 0, (some 1)⟩) i1.snd.l.length i1.snd.l.length))) ∧
(((decide (z7 ≤ 8)) = true →
(((decide (i1.snd.gap ≥ 0)) = true →
 False) ∧
((decide (i1.snd.gap ≥ 0)) = false →
∀ z8 : Int, z8 = (((i1.snd.l.length : Nat) : Int)) →
(((z8 == 6) = true →
((ce5 l i1 z5) ∧
∀ _ : Unit, True →
(((grp (i1.snd.part ++ List.take (z5.toNat - (((i1.fst : Nat) : Int)).toNat) (List.drop (((i1.fst : Nat) : Int)).toNat l))) = true →
∀ z9 : Int, z9 = (((i1.snd.l.length : Nat) : Int)) →
∀ z10 : Int, z10 = (IntKind.i64.wrap (z9 + 1)) →
(((decide (i1.snd.gap ≥ 0)) = true →
 False) ∧
((decide (i1.snd.gap ≥ 0)) = false →
(((some (.slice (some ⟨2, 0, (some 1)⟩) i1.snd.l.length i1.snd.l.length)) : Option Value) = (some (.slice (some ⟨2, 0, (some 1)⟩) i1.snd.l.length i1.snd.l.length))) ∧
(((decide (z10 ≤ 8)) = true →
(ce2 l i1 z5)) ∧
((decide (z10 ≤ 8)) = false →
(ce2 l i1 z5)))))) ∧
((grp (i1.snd.part ++ List.take (z5.toNat - (((i1.fst : Nat) : Int)).toNat) (List.drop (((i1.fst : Nat) : Int)).toNat l))) = false →
(ce7 l i1 z5))))) ∧
((z8 == 6) = false →
((ce14 l Q i1 z5))))))) ∧
((decide (z7 ≤ 8)) = false →
((ce14 l Q i1 z5))))))) ∧
((b4 (i1.snd.part ++ List.take (z5.toNat - (((i1.fst : Nat) : Int)).toNat) (List.drop (((i1.fst : Nat) : Int)).toNat l))) = false →
(SpecK Tryd.prog 87 [(.string (bs (i1.snd.part ++ List.take (z5.toNat - (((i1.fst : Nat) : Int)).toNat) (List.drop (((i1.fst : Nat) : Int)).toNat l))))] [.tcells [(.slice none 0 0), (.int .i64 0), (.string (bs ([])))] 82 (some 0), .tcells [(.slice (some ⟨2, 0, (some 1)⟩) i1.snd.l.length i1.snd.l.length), (.int .i64 i1.snd.gap), (.string (bs (i1.snd.part)))] 82 (some 0), .tcells (ic i1.snd.l) 3 (some 0)] (.bool (grp (i1.snd.part ++ List.take (z5.toNat - (((i1.fst : Nat) : Int)).toNat) (List.drop (((i1.fst : Nat) : Int)).toNat l)))) ∧
∀ _ : Unit, True →
(((grp (i1.snd.part ++ List.take (z5.toNat - (((i1.fst : Nat) : Int)).toNat) (List.drop (((i1.fst : Nat) : Int)).toNat l))) = true →
∀ z6 : Int, z6 = (((i1.snd.l.length : Nat) : Int)) →
∀ z7 : Int, z7 = (IntKind.i64.wrap (z6 + 1)) →
(((decide (i1.snd.gap ≥ 0)) = true →
(((some (.slice (some ⟨2, 0, (some 1)⟩) i1.snd.l.length i1.snd.l.length)) : Option Value) = (some (.slice (some ⟨2, 0, (some 1)⟩) i1.snd.l.length i1.snd.l.length))) ∧
(((decide (z7 ≤ 7)) = true →
(ce7 l i1 z5)) ∧
((decide (z7 ≤ 7)) = false →
(ce3 Q i1)))) ∧
((decide (i1.snd.gap ≥ 0)) = false →
(((some (.slice (some ⟨2, 0, (some 1)⟩) i1.snd.l.length i1.snd.l.length)) : Option Value) = (some (.slice (some ⟨2, 0, (some 1)⟩) i1.snd.l.length i1.snd.l.length))) ∧
(((decide (z7 ≤ 8)) = true →
(ce7 l i1 z5)) ∧
((decide (z7 ≤ 8)) = false →
(ce3 Q i1)))))) ∧
((grp (i1.snd.part ++ List.take (z5.toNat - (((i1.fst : Nat) : Int)).toNat) (List.drop (((i1.fst : Nat) : Int)).toNat l))) = false →
(ce4 Q i1)))))))))
abbrev ce15 (l : List UInt8) (z6 : Int) (i1 : Nat × R6) : Prop := (decide (z6 ≤ 7)) = true →
∀ z7 : Int, z7 = (((i1.snd.l.length : Nat) : Int)) →
∀ z8 : Int, z8 = (IntKind.i64.wrap (((i1.fst : Nat) : Int) + 1)) →
(someN [] 0 (fun a' => (m6r l) a' < (m6r l) i1) ⟨[(5, (.int .i64 z8)), (4, (.pointer (some ⟨1, 0, none⟩))), (3, (.int .i64 0)), (2, (.pointer (some ⟨0, 0, none⟩))), (0, (.string (bs (l))))], [], [.tcells [(.slice none 0 0), (.int .i64 0), (.string (bs ([])))] 82 (some 0), .tcells [(.slice (some ⟨2, 0, (some 1)⟩) i1.snd.l.length i1.snd.l.length), (.int .i64 z7), (.string (bs (i1.snd.part)))] 82 (some 0), .tcells (ic i1.snd.l) 3 (some 0)], .norm⟩ [(q6r0 l), (q6r1 l)])
abbrev ce16 (l : List UInt8) (i1 : Nat × R6) (z5 : Int) : Prop := SpecK Tryd.prog 87 [(.string (bs (i1.snd.part ++ List.take (z5.toNat - (((i1.fst : Nat) : Int)).toNat) (List.drop (((i1.fst : Nat) : Int)).toNat l))))] [.tcells [(.slice none 0 0), (.int .i64 0), (.string (bs ([])))] 82 (some 0), .tcells [(.slice none 0 0), (.int .i64 i1.snd.gap), (.string (bs (i1.snd.part)))] 82 (some 0), .cells [(.slice none 0 0), (.int .i64 i1.snd.gap), (.string (bs (i1.snd.part)))] false] (.bool (grp (i1.snd.part ++ List.take (z5.toNat - (((i1.fst : Nat) : Int)).toNat) (List.drop (((i1.fst : Nat) : Int)).toNat l))))
abbrev ce1 (l : List UInt8) (Q : Res →
 AHeap →
 Prop) (i1 : Nat × R6) : Prop := ∀ z5 : Int, z5 = (IntKind.i64.wrap (((i1.fst : Nat) : Int) + 1)) →
((aSlice Tryd.prog 9 (.string (bs (l))) (some (.int .i64 ((i1.fst : Nat) : Int))) (some (.int .i64 z5)) none = some (.string (bs (List.take (z5.toNat - (((i1.fst : Nat) : Int)).toNat) (List.drop (((i1.fst : Nat) : Int)).toNat l))))) ∧
((aBin2 Tryd.prog BinOp.add 9 (Operand.tmp 20) (Operand.tmp 25) (.string (bs (i1.snd.part))) (.string (bs (List.take (z5.toNat - (((i1.fst : Nat) : Int)).toNat) (List.drop (((i1.fst : Nat) : Int)).toNat l)))) = some (.string (bs (i1.snd.part ++ List.take (z5.toNat - (((i1.fst : Nat) : Int)).toNat) (List.drop (((i1.fst : Nat) : Int)).toNat l))))) ∧
(SpecK Tryd.prog 52 [(.string (bs (i1.snd.part ++ List.take (z5.toNat - (((i1.fst : Nat) : Int)).toNat) (List.drop (((i1.fst : Nat) : Int)).toNat l))))] [.tcells [(.slice none 0 0), (.int .i64 0), (.string (bs ([])))] 82 (some 0), .tcells [(.slice none 0 0), (.int .i64 i1.snd.gap), (.string (bs (i1.snd.part)))] 82 (some 0)] (.bool (b4 (i1.snd.part ++ List.take (z5.toNat - (((i1.fst : Nat) : Int)).toNat) (List.drop (((i1.fst : Nat) : Int)).toNat l)))) ∧
∀ _ : Unit, True →
(((b4 (i1.snd.part ++ List.take (z5.toNat - (((i1.fst : Nat) : Int)).toNat) (List.drop (((i1.fst : Nat) : Int)).toNat l))) = true →
(((decide (i1.snd.gap ≥ 0)) = true →
(((some (.slice none 0 0)) : Option Value) = (some (.slice none 0 0))) ∧
(((decide (i1.snd.gap ≥ 0)) = true →
((ce16 l i1 z5) ∧
∀ _ : Unit, True →
(((grp (i1.snd.part ++ List.take (z5.toNat - (((i1.fst : Nat) : Int)).toNat) (List.drop (((i1.fst : Nat) : Int)).toNat l))) = true →
(((decide (i1.snd.gap ≥ 0)) = true →
(ce13 l i1 z5)) ∧
((decide (i1.snd.gap ≥ 0)) = false →
 False))) ∧
((grp (i1.snd.part ++ List.take (z5.toNat - (((i1.fst : Nat) : Int)).toNat) (List.drop (((i1.fst : Nat) : Int)).toNat l))) = false →
(ce10 l i1 z5))))) ∧
((decide (i1.snd.gap ≥ 0)) = false →
 False))) ∧
((decide (i1.snd.gap ≥ 0)) = false →
(((some (.slice none 0 0)) : Option Value) = (some (.slice none 0 0))) ∧
(((decide (i1.snd.gap ≥ 0)) = true →
 False) ∧
((decide (i1.snd.gap ≥ 0)) = false →
((ce16 l i1 z5) ∧
∀ _ : Unit, True →
(((grp (i1.snd.part ++ List.take (z5.toNat - (((i1.fst : Nat) : Int)).toNat) (List.drop (((i1.fst : Nat) : Int)).toNat l))) = true →
(((decide (i1.snd.gap ≥ 0)) = true →
 False) ∧
((decide (i1.snd.gap ≥ 0)) = false →
(ce13 l i1 z5)))) ∧
((grp (i1.snd.part ++ List.take (z5.toNat - (((i1.fst : Nat) : Int)).toNat) (List.drop (((i1.fst : Nat) : Int)).toNat l))) = false →
 Q (.ret (.tuple ⟨[(.agg ⟨[(.slice none 0 0), (.int .i64 i1.snd.gap), (.string (bs (i1.snd.part)))]⟩), (.int .i64 ((i1.fst : Nat) : Int))]⟩)) [.tcells [(.slice none 0 0), (.int .i64 i1.snd.gap), (.string (bs (i1.snd.part)))] 82 (some 0), .tcells [(.slice none 0 0), (.int .i64 i1.snd.gap), (.string (bs (i1.snd.part)))] 82 (some 0), .cells [(.slice none 0 0), (.int .i64 i1.snd.gap), (.string (bs (i1.snd.part)))] false])))))))) ∧
((b4 (i1.snd.part ++ List.take (z5.toNat - (((i1.fst : Nat) : Int)).toNat) (List.drop (((i1.fst : Nat) : Int)).toNat l))) = false →
(SpecK Tryd.prog 87 [(.string (bs (i1.snd.part ++ List.take (z5.toNat - (((i1.fst : Nat) : Int)).toNat) (List.drop (((i1.fst : Nat) : Int)).toNat l))))] [.tcells [(.slice none 0 0), (.int .i64 0), (.string (bs ([])))] 82 (some 0), .tcells [(.slice none 0 0), (.int .i64 i1.snd.gap), (.string (bs (i1.snd.part)))] 82 (some 0)] (.bool (grp (i1.snd.part ++ List.take (z5.toNat - (((i1.fst : Nat) : Int)).toNat) (List.drop (((i1.fst : Nat) : Int)).toNat l)))) ∧
∀ _ : Unit, True →
(((grp (i1.snd.part ++ List.take (z5.toNat - (((i1.fst : Nat) : Int)).toNat) (List.drop (((i1.fst : Nat) : Int)).toNat l))) = true →
(((decide (i1.snd.gap ≥ 0)) = true →
(((some (.slice none 0 0)) : Option Value) = (some (.slice none 0 0))) ∧
(ce10 l i1 z5)) ∧
((decide (i1.snd.gap ≥ 0)) = false →
(((some (.slice none 0 0)) : Option Value) = (some (.slice none 0 0))) ∧
(ce10 l i1 z5)))) ∧
((grp (i1.snd.part ++ List.take (z5.toNat - (((i1.fst : Nat) : Int)).toNat) (List.drop (((i1.fst : Nat) : Int)).toNat l))) = false →
 Q (.ret (.tuple ⟨[(.agg ⟨[(.slice none 0 0), (.int .i64 i1.snd.gap), (.string (bs (i1.snd.part)))]⟩), (.int .i64 ((i1.fst : Nat) : Int))]⟩)) [.tcells [(.slice none 0 0), (.int .i64 i1.snd.gap), (.string (bs (i1.snd.part)))] 82 (some 0), .tcells [(.slice none 0 0), (.int .i64 i1.snd.gap), (.string (bs (i1.snd.part)))] 82 (some 0)]))))))))
abbrev ce17 (l : List UInt8) (i1 : Nat × R6) : Prop := (decide (i1.snd.gap < 0)) = true →
∀ z6 : Int, z6 = (IntKind.i64.wrap (((i1.fst : Nat) : Int) + 1)) →
(someN [] 0 (fun a' => (m6r l) a' < (m6r l) i1) ⟨[(5, (.int .i64 z6)), (4, (.pointer (some ⟨1, 0, none⟩))), (3, (.int .i64 0)), (2, (.pointer (some ⟨0, 0, none⟩))), (0, (.string (bs (l))))], [], [.tcells [(.slice none 0 0), (.int .i64 0), (.string (bs ([])))] 82 (some 0), .tcells [(.slice none 0 0), (.int .i64 0), (.string (bs (i1.snd.part)))] 82 (some 0)], .norm⟩ [(q6r0 l), (q6r1 l)])

abbrev xRx2h0 (i1 : Nat × R6) : AHeap := [.tcells [(.slice none 0 0), (.int .i64 0), (.string (bs ([])))] 82 (some 0), .tcells [(.slice (some ⟨2, 0, (some 1)⟩) i1.snd.l.length i1.snd.l.length), (.int .i64 i1.snd.gap), (.string (bs (i1.snd.part)))] 82 (some 0), .tcells (ic i1.snd.l) 3 (some 0), .cells [(.slice (some ⟨2, 0, (some 1)⟩) i1.snd.l.length i1.snd.l.length), (.int .i64 i1.snd.gap), (.string (bs (i1.snd.part)))] false]
abbrev xRx2h1 (i1 : Nat × R6) : AHeap := [.tcells [(.slice none 0 0), (.int .i64 0), (.string (bs ([])))] 82 (some 0), .tcells [(.slice none 0 0), (.int .i64 i1.snd.gap), (.string (bs (i1.snd.part)))] 82 (some 0), .cells [(.slice none 0 0), (.int .i64 i1.snd.gap), (.string (bs (i1.snd.part)))] false]
abbrev xRx2h2 (i1 : Nat × R6) : AHeap := [.tcells [(.slice none 0 0), (.int .i64 0), (.string (bs ([])))] 82 (some 0), .tcells [(.slice (some ⟨2, 0, (some 1)⟩) i1.snd.l.length i1.snd.l.length), (.int .i64 i1.snd.gap), (.string (bs (i1.snd.part)))] 82 (some 0), .tcells (ic i1.snd.l) 3 (some 0)]
abbrev xRx2h3 (i1 : Nat × R6) : AHeap := [.tcells [(.slice none 0 0), (.int .i64 0), (.string (bs ([])))] 82 (some 0), .tcells [(.slice none 0 0), (.int .i64 i1.snd.gap), (.string (bs (i1.snd.part)))] 82 (some 0)]
abbrev xRx2h4 (i1 : Nat × R6) : AHeap := [.tcells [(.slice none 0 0), (.int .i64 0), (.string (bs ([])))] 82 (some 0), .tcells [(.slice (some ⟨2, 0, (some 1)⟩) i1.snd.l.length i1.snd.l.length), (.int .i64 i1.snd.gap), (.string (bs (i1.snd.part)))] 82 (some 0), .dead, .cells [(.slice (some ⟨2, 0, (some 1)⟩) i1.snd.l.length i1.snd.l.length), (.int .i64 i1.snd.gap), (.string (bs (i1.snd.part)))] false, .tcells [(.int .i64 (valH i1.snd.part))] 3 (some 0), .tcells (ic (i1.snd.l ++ [valH i1.snd.part])) 3 (some 0)]
abbrev xRx2s1 (l : List UInt8) (i1 : Nat × R6) (z5 : Int) : Scr := .skip 0 (.val (.string (bs (i1.snd.part ++ List.take (z5.toNat - (((i1.fst : Nat) : Int)).toNat) (List.drop (((i1.fst : Nat) : Int)).toNat l)))) (.skip 2 (.call Unit (ck (.bool (b4 (i1.snd.part ++ List.take (z5.toNat - (((i1.fst : Nat) : Int)).toNat) (List.drop (((i1.fst : Nat) : Int)).toNat l)))) (xRx2h3 i1)) fun _ => .skip 0 (.ask (.skip 16 (.ask (.skip 11 (.ask (.skip 11 (.call Unit (ck (.bool (grp (i1.snd.part ++ List.take (z5.toNat - (((i1.fst : Nat) : Int)).toNat) (List.drop (((i1.fst : Nat) : Int)).toNat l)))) (xRx2h1 i1)) fun _ => .skip 0 (.ask (.skip 16 (.ask (.skip 15 (.all (fun _z6 => .go))) (.skip 0 .go))) (.skip 20 (.all (fun _z6 => .go)))))) (.skip 0 .go))) (.skip 11 (.ask (.skip 0 .go) (.skip 15 (.call Unit (ck (.bool (grp (i1.snd.part ++ List.take (z5.toNat - (((i1.fst : Nat) : Int)).toNat) (List.drop (((i1.fst : Nat) : Int)).toNat l)))) (xRx2h1 i1)) fun _ => .skip 0 (.ask (.skip 16 (.ask (.skip 0 .go) (.skip 15 (.all (fun _z6 => .go))))) (.go)))))))) (.skip 17 (.call Unit (ck (.bool (grp (i1.snd.part ++ List.take (z5.toNat - (((i1.fst : Nat) : Int)).toNat) (List.drop (((i1.fst : Nat) : Int)).toNat l)))) (xRx2h3 i1)) fun _ => .skip 0 (.ask (.skip 16 (.ask (.skip 15 (.all (fun _z6 => .go))) (.skip 15 (.all (fun _z6 => .go))))) (.go))))))))
abbrev xRx2s2 (i1 : Nat × R6) : Scr := .skip 3 (.ask (.go) (.skip 6 (.call Unit (ck (.int .i64 (valH i1.snd.part)) (xRx2h0 i1)) fun _ => .skip 0 (.put (.slice (some ⟨5, 0, (some 1)⟩) (i1.snd.l.length + 1) (i1.snd.l.length + 1)) (xRx2h4 i1) (.skip 5 (.all (fun _z6 => .go)))))))
abbrev xRx2s3 : Scr := .skip 5 (.all (fun _z9 => .skip 1 (.all (fun _z10 => .skip 8 (.ask (.skip 0 .go) (.skip 3 (.ask (.skip 11 (.all (fun _z11 => .go))) (.go))))))))
abbrev xRx2s0 (l : List UInt8) (i1 : Nat × R6) (z5 : Int) : Scr := .skip 0 (.val (.string (bs (i1.snd.part ++ List.take (z5.toNat - (((i1.fst : Nat) : Int)).toNat) (List.drop (((i1.fst : Nat) : Int)).toNat l)))) (.skip 2 (.call Unit (ck (.bool (b4 (i1.snd.part ++ List.take (z5.toNat - (((i1.fst : Nat) : Int)).toNat) (List.drop (((i1.fst : Nat) : Int)).toNat l)))) (xRx2h2 i1)) fun _ => .skip 0 (.ask (.skip 5 (.all (fun _z6 => .skip 1 (.all (fun _z7 => .skip 8 (.ask (.skip 3 (.ask (.skip 7 (.ask (.skip 11 (.call Unit (ck (.bool (grp (i1.snd.part ++ List.take (z5.toNat - (((i1.fst : Nat) : Int)).toNat) (List.drop (((i1.fst : Nat) : Int)).toNat l)))) (xRx2h0 i1)) fun _ => .skip 0 (.ask (.skip 5 (.all (fun _z8 => .skip 1 (.all (fun _z9 => .skip 8 (.ask (.skip 3 (.ask (.skip 11 (.all (fun _z10 => .go))) (.skip 13 (.all (fun _z10 => .go))))) (.skip 0 .go))))))) (.skip 20 (.all (fun _z8 => .go)))))) (.skip 0 .go))) (.skip 10 (.call Unit (ck (.bool (grp (i1.snd.part ++ List.take (z5.toNat - (((i1.fst : Nat) : Int)).toNat) (List.drop (((i1.fst : Nat) : Int)).toNat l)))) (xRx2h0 i1)) fun _ => .skip 0 (.ask (.skip 5 (.all (fun _z8 => .skip 1 (.all (fun _z9 => .skip 8 (.ask (.skip 3 (.ask (.skip 11 (.all (fun _z10 => .go))) (.go))) (.skip 0 .go))))))) (.go)))))) (.skip 3 (.ask (.skip 7 (.ask (.skip 0 .go) (.skip 7 (.all (fun _z8 => .skip 1 (.ask (.skip 5 (.call Unit (ck (.bool (grp (i1.snd.part ++ List.take (z5.toNat - (((i1.fst : Nat) : Int)).toNat) (List.drop (((i1.fst : Nat) : Int)).toNat l)))) (xRx2h0 i1)) fun _ => .skip 0 (.ask (.skip 5 (.all (fun _z9 => .skip 1 (.all (fun _z10 => .skip 8 (.ask (.skip 0 .go) (.skip 3 (.ask (.skip 11 (.all (fun _z11 => .go))) (.skip 13 (.all (fun _z11 => .go))))))))))) (.skip 20 (.all (fun _z9 => .go)))))) (.skip 5 (.call Unit (ck (.bool (grp (i1.snd.part ++ List.take (z5.toNat - (((i1.fst : Nat) : Int)).toNat) (List.drop (((i1.fst : Nat) : Int)).toNat l)))) (xRx2h0 i1)) fun _ => .skip 0 (.ask xRx2s3 (.go)))))))))) (.skip 10 (.call Unit (ck (.bool (grp (i1.snd.part ++ List.take (z5.toNat - (((i1.fst : Nat) : Int)).toNat) (List.drop (((i1.fst : Nat) : Int)).toNat l)))) (xRx2h0 i1)) fun _ => .skip 0 (.ask xRx2s3 (.go)))))))))))) (.skip 17 (.call Unit (ck (.bool (grp (i1.snd.part ++ List.take (z5.toNat - (((i1.fst : Nat) : Int)).toNat) (List.drop (((i1.fst : Nat) : Int)).toNat l)))) (xRx2h2 i1)) fun _ => .skip 0 (.ask (.skip 5 (.all (fun _z6 => .skip 1 (.all (fun _z7 => .skip 8 (.ask (.skip 3 (.ask (.skip 11 (.all (fun _z8 => .go))) (.go))) (.skip 3 (.ask (.skip 11 (.all (fun _z8 => .go))) (.go))))))))) (.go))))))))
abbrev xRx2s4 (i1 : Nat × R6) : Scr := .skip 10 (.call Unit (ck (.int .i64 (valH i1.snd.part)) (xRx2h1 i1)) fun _ => .skip 6 (.all (fun _z4 => .go)))

theorem run_read6 (l : List UInt8) (Q : Res → AHeap → Prop) : (((someN [] 0 (fun _ => True) ⟨[(5, (.int .i64 0)), (4, (.pointer (some ⟨1, 0, none⟩))), (3, (.int .i64 0)), (2, (.pointer (some ⟨0, 0, none⟩))), (0, (.string (bs (l))))], [], [.tcells [(.slice none 0 0), (.int .i64 0), (.string (bs ([])))] 82 (some 0), .tcells [(.slice none 0 0), (.int .i64 (-1)), (.string (bs ([])))] 82 (some 0)], .norm⟩ [(q6r0 l), (q6r1 l)]) ∧
(∀ i1, (q6r0 l i1).fst →
∀ z2 : Int, z2 = ((((bs l).size : Nat) : Int)) →
(((decide (((i1.fst : Nat) : Int) < z2)) = true →
((∃ z3 : Int, aIndex Tryd.prog 9 (.string (bs (l))) (.int .i64 ((i1.fst : Nat) : Int)) = some (.int .u8 z3)) ∧
∀ z3 : Int, aIndex Tryd.prog 9 (.string (bs (l))) (.int .i64 ((i1.fst : Nat) : Int)) = some (.int .u8 z3) →
(((z3 == 58) = true →
((((bs i1.snd.part).toList == (bs []).toList) = true →
(((((i1.fst : Nat) : Int) == 0) = true →
(((decide (((i1.fst : Nat) : Int) > 0)) = true →
∀ z4 : Int, z4 = (IntKind.i64.wrap (((i1.fst : Nat) : Int) - 1)) →
((∃ z5 : Int, aIndex Tryd.prog 9 (.string (bs (l))) (.int .i64 z4) = some (.int .u8 z5)) ∧
∀ z5 : Int, aIndex Tryd.prog 9 (.string (bs (l))) (.int .i64 z4) = some (.int .u8 z5) →
(((z5 == 58) = true →
(((ce17 l i1)) ∧
((decide (i1.snd.gap < 0)) = false →
(ce12 l i1)))) ∧
((z5 == 58) = false →
(ce12 l i1))))) ∧
((decide (((i1.fst : Nat) : Int) > 0)) = false →
(ce12 l i1)))) ∧
((((i1.fst : Nat) : Int) == 0) = false →
(((decide (((i1.fst : Nat) : Int) > 0)) = true →
∀ z4 : Int, z4 = (IntKind.i64.wrap (((i1.fst : Nat) : Int) - 1)) →
((∃ z5 : Int, aIndex Tryd.prog 9 (.string (bs (l))) (.int .i64 z4) = some (.int .u8 z5)) ∧
∀ z5 : Int, aIndex Tryd.prog 9 (.string (bs (l))) (.int .i64 z4) = some (.int .u8 z5) →
(((z5 == 58) = true →
(((ce17 l i1)) ∧
((decide (i1.snd.gap < 0)) = false →
 Q (.ret (.tuple ⟨[(.agg ⟨[(.slice none 0 0), (.int .i64 i1.snd.gap), (.string (bs (i1.snd.part)))]⟩), (.int .i64 ((i1.fst : Nat) : Int))]⟩)) [.tcells [(.slice none 0 0), (.int .i64 i1.snd.gap), (.string (bs (i1.snd.part)))] 82 (some 0), .tcells [(.slice none 0 0), (.int .i64 i1.snd.gap), (.string (bs (i1.snd.part)))] 82 (some 0)]))) ∧
((z5 == 58) = false →
 Q (.ret (.tuple ⟨[(.agg ⟨[(.slice none 0 0), (.int .i64 i1.snd.gap), (.string (bs (i1.snd.part)))]⟩), (.int .i64 ((i1.fst : Nat) : Int))]⟩)) [.tcells [(.slice none 0 0), (.int .i64 i1.snd.gap), (.string (bs (i1.snd.part)))] 82 (some 0), .tcells [(.slice none 0 0), (.int .i64 i1.snd.gap), (.string (bs (i1.snd.part)))] 82 (some 0)])))) ∧
((decide (((i1.fst : Nat) : Int) > 0)) = false →
 Q (.ret (.tuple ⟨[(.agg ⟨[(.slice none 0 0), (.int .i64 i1.snd.gap), (.string (bs (i1.snd.part)))]⟩), (.int .i64 ((i1.fst : Nat) : Int))]⟩)) [.tcells [(.slice none 0 0), (.int .i64 i1.snd.gap), (.string (bs (i1.snd.part)))] 82 (some 0), .tcells [(.slice none 0 0), (.int .i64 i1.snd.gap), (.string (bs (i1.snd.part)))] 82 (some 0)]))))) ∧
(((bs i1.snd.part).toList == (bs []).toList) = false →
(((z3 == 58) = true →
(SpecK Tryd.prog 87 [(.string (bs (i1.snd.part)))] [.tcells [(.slice none 0 0), (.int .i64 0), (.string (bs ([])))] 82 (some 0), .tcells [(.slice none 0 0), (.int .i64 i1.snd.gap), (.string (bs (i1.snd.part)))] 82 (some 0)] (.bool (grp i1.snd.part)) ∧
∀ _ : Unit, True →
(((!grp i1.snd.part) = true →
 Q (.ret (.tuple ⟨[(.agg ⟨[(.slice none 0 0), (.int .i64 i1.snd.gap), (.string (bs (i1.snd.part)))]⟩), (.int .i64 ((i1.fst : Nat) : Int))]⟩)) [.tcells [(.slice none 0 0), (.int .i64 i1.snd.gap), (.string (bs (i1.snd.part)))] 82 (some 0), .tcells [(.slice none 0 0), (.int .i64 i1.snd.gap), (.string (bs (i1.snd.part)))] 82 (some 0)]) ∧
((!grp i1.snd.part) = false →
(((decide (i1.snd.gap ≥ 0)) = true →
(ce11 l i1)) ∧
((decide (i1.snd.gap ≥ 0)) = false →
(ce11 l i1))))))) ∧
((z3 == 58) = false →
 False))))) ∧
((z3 == 58) = false →
(((z3 == 58) = true →
 False) ∧
((z3 == 58) = false →
(((((i1.fst : Nat) : Int) == 1) = true →
((∃ z4 : Int, aIndex Tryd.prog 9 (.string (bs (l))) (.int .i64 0) = some (.int .u8 z4)) ∧
∀ z4 : Int, aIndex Tryd.prog 9 (.string (bs (l))) (.int .i64 0) = some (.int .u8 z4) →
(((z4 == 58) = true →
 Q (.ret (.tuple ⟨[(.agg ⟨[(.slice none 0 0), (.int .i64 i1.snd.gap), (.string (bs (i1.snd.part)))]⟩), (.int .i64 ((i1.fst : Nat) : Int))]⟩)) [.tcells [(.slice none 0 0), (.int .i64 i1.snd.gap), (.string (bs (i1.snd.part)))] 82 (some 0), .tcells [(.slice none 0 0), (.int .i64 i1.snd.gap), (.string (bs (i1.snd.part)))] 82 (some 0)]) ∧
((z4 == 58) = false →
(ce1 l Q i1))))) ∧
((((i1.fst : Nat) : Int) == 1) = false →
(ce1 l Q i1))))))))) ∧
((decide (((i1.fst : Nat) : Int) < z2)) = false →
 Q (.ret (.tuple ⟨[(.agg ⟨[(.slice none 0 0), (.int .i64 i1.snd.gap), (.string (bs (i1.snd.part)))]⟩), (.int .i64 ((i1.fst : Nat) : Int))]⟩)) [.tcells [(.slice none 0 0), (.int .i64 i1.snd.gap), (.string (bs (i1.snd.part)))] 82 (some 0), .tcells [(.slice none 0 0), (.int .i64 i1.snd.gap), (.string (bs (i1.snd.part)))] 82 (some 0)]))) ∧
(∀ i1, (q6r1 l i1).fst →
∀ z2 : Int, z2 = ((((bs l).size : Nat) : Int)) →
(((decide (((i1.fst : Nat) : Int) < z2)) = true →
((∃ z3 : Int, aIndex Tryd.prog 9 (.string (bs (l))) (.int .i64 ((i1.fst : Nat) : Int)) = some (.int .u8 z3)) ∧
∀ z3 : Int, aIndex Tryd.prog 9 (.string (bs (l))) (.int .i64 ((i1.fst : Nat) : Int)) = some (.int .u8 z3) →
(((z3 == 58) = true →
((((bs i1.snd.part).toList == (bs []).toList) = true →
(((((i1.fst : Nat) : Int) == 0) = true →
(((decide (((i1.fst : Nat) : Int) > 0)) = true →
∀ z4 : Int, z4 = (IntKind.i64.wrap (((i1.fst : Nat) : Int) - 1)) →
((∃ z5 : Int, aIndex Tryd.prog 9 (.string (bs (l))) (.int .i64 z4) = some (.int .u8 z5)) ∧
∀ z5 : Int, aIndex Tryd.prog 9 (.string (bs (l))) (.int .i64 z4) = some (.int .u8 z5) →
(((z5 == 58) = true →
(((decide (i1.snd.gap < 0)) = true →
∀ z6 : Int, z6 = (((i1.snd.l.length : Nat) : Int)) →
(((ce15 l z6 i1)) ∧
((decide (z6 ≤ 7)) = false →
(ce8 l i1)))) ∧
((decide (i1.snd.gap < 0)) = false →
(ce8 l i1)))) ∧
((z5 == 58) = false →
(ce8 l i1))))) ∧
((decide (((i1.fst : Nat) : Int) > 0)) = false →
(ce8 l i1)))) ∧
((((i1.fst : Nat) : Int) == 0) = false →
(((decide (((i1.fst : Nat) : Int) > 0)) = true →
∀ z4 : Int, z4 = (IntKind.i64.wrap (((i1.fst : Nat) : Int) - 1)) →
((∃ z5 : Int, aIndex Tryd.prog 9 (.string (bs (l))) (.int .i64 z4) = some (.int .u8 z5)) ∧
∀ z5 : Int, aIndex Tryd.prog 9 (.string (bs (l))) (.int .i64 z4) = some (.int .u8 z5) →
(((z5 == 58) = true →
(((decide (i1.snd.gap < 0)) = true →
∀ z6 : Int, z6 = (((i1.snd.l.length : Nat) : Int)) →
(((ce15 l z6 i1)) ∧
((decide (z6 ≤ 7)) = false →
(ce4 Q i1)))) ∧
((decide (i1.snd.gap < 0)) = false →
(ce4 Q i1)))) ∧
((z5 == 58) = false →
(ce4 Q i1))))) ∧
((decide (((i1.fst : Nat) : Int) > 0)) = false →
(ce4 Q i1)))))) ∧
(((bs i1.snd.part).toList == (bs []).toList) = false →
(((z3 == 58) = true →
(SpecK Tryd.prog 87 [(.string (bs (i1.snd.part)))] [.tcells [(.slice none 0 0), (.int .i64 0), (.string (bs ([])))] 82 (some 0), .tcells [(.slice (some ⟨2, 0, (some 1)⟩) i1.snd.l.length i1.snd.l.length), (.int .i64 i1.snd.gap), (.string (bs (i1.snd.part)))] 82 (some 0), .tcells (ic i1.snd.l) 3 (some 0)] (.bool (grp i1.snd.part)) ∧
∀ _ : Unit, True →
(((!grp i1.snd.part) = true →
(ce4 Q i1)) ∧
((!grp i1.snd.part) = false →
∀ z4 : Int, z4 = (((i1.snd.l.length : Nat) : Int)) →
∀ z5 : Int, z5 = (IntKind.i64.wrap (z4 + 1)) →
(((decide (i1.snd.gap ≥ 0)) = true →
(((some (.slice (some ⟨2, 0, (some 1)⟩) i1.snd.l.length i1.snd.l.length)) : Option Value) = (some (.slice (some ⟨2, 0, (some 1)⟩) i1.snd.l.length i1.snd.l.length))) ∧
(((decide (z5 ≥ 7)) = true →
(ce3 Q i1)) ∧
((decide (z5 ≥ 7)) = false →
((ce6 l i1))))) ∧
((decide (i1.snd.gap ≥ 0)) = false →
(((some (.slice (some ⟨2, 0, (some 1)⟩) i1.snd.l.length i1.snd.l.length)) : Option Value) = (some (.slice (some ⟨2, 0, (some 1)⟩) i1.snd.l.length i1.snd.l.length))) ∧
(((decide (z5 ≥ 8)) = true →
(ce3 Q i1)) ∧
((decide (z5 ≥ 8)) = false →
((ce6 l i1)))))))))) ∧
((z3 == 58) = false →
 False))))) ∧
((z3 == 58) = false →
(((z3 == 58) = true →
 False) ∧
((z3 == 58) = false →
(((((i1.fst : Nat) : Int) == 1) = true →
((∃ z4 : Int, aIndex Tryd.prog 9 (.string (bs (l))) (.int .i64 0) = some (.int .u8 z4)) ∧
∀ z4 : Int, aIndex Tryd.prog 9 (.string (bs (l))) (.int .i64 0) = some (.int .u8 z4) →
(((z4 == 58) = true →
(ce4 Q i1)) ∧
((z4 == 58) = false →
(ce0 l Q i1))))) ∧
((((i1.fst : Nat) : Int) == 1) = false →
(ce0 l Q i1))))))))) ∧
((decide (((i1.fst : Nat) : Int) < z2)) = false →
(ce4 Q i1)))))) =
    runS Tryd.prog [] false [87, 52, 89] 0 (SpecC Tryd.prog []) 20 60 [.string (bs l)] [] .norm (.skip 6 (.invN [5, 4, 3, 2, 0] _ (m6r l) [(q6r0 l), (q6r1 l)] (fun k => match k with | 0 => fun i1 => .skip 2 (.all (fun _z2 => .skip 0 (.ask (.skip 3 (.gen (Int) (fun x => .int .u8 x) fun _z3 => .skip 2 (.ask (.skip 6 (.ask (.skip 4 (.ask (.skip 2 (.ask (.skip 6 (.all (fun _z4 => .skip 1 (.gen (Int) (fun x => .int .u8 x) fun _z5 => .skip 1 (.ask (.skip 7 (.ask (.skip 27 (.all (fun _z6 => .go))) (.skip 18 (.all (fun _z6 => .go))))) (.skip 23 (.all (fun _z6 => .go)))))))) (.skip 29 (.all (fun _z4 => .go))))) (.skip 2 (.ask (.skip 6 (.all (fun _z4 => .skip 1 (.gen (Int) (fun x => .int .u8 x) fun _z5 => .skip 1 (.ask (.skip 7 (.ask (.skip 29 (.all (fun _z6 => .go))) (.go))) (.go)))))) (.go))))) (.skip 4 (.ask (.skip 4 (.call Unit (ck (.bool (grp i1.snd.part)) (xRx2h3 i1)) fun _ => .skip 0 (.ask (.go) (.skip 17 (.ask (xRx2s4 i1) (xRx2s4 i1)))))) (.skip 0 .go))))) (.skip 8 (.ask (.skip 0 .go) (.skip 3 (.ask (.skip 4 (.gen (Int) (fun x => .int .u8 x) fun _z4 => .skip 1 (.ask (.go) (.skip 8 (.all (fun z5 => .skip 0 (.val (.string (bs (List.take (z5.toNat - (((i1.fst : Nat) : Int)).toNat) (List.drop (((i1.fst : Nat) : Int)).toNat l)))) (xRx2s1 l i1 z5)))))))) (.skip 12 (.all (fun z4 => .skip 0 (.val (.string (bs (List.take (z4.toNat - (((i1.fst : Nat) : Int)).toNat) (List.drop (((i1.fst : Nat) : Int)).toNat l)))) (xRx2s1 l i1 z4)))))))))))) (.go)))) | _ => fun i1 => .skip 2 (.all (fun _z2 => .skip 0 (.ask (.skip 3 (.gen (Int) (fun x => .int .u8 x) fun _z3 => .skip 2 (.ask (.skip 6 (.ask (.skip 4 (.ask (.skip 2 (.ask (.skip 6 (.all (fun _z4 => .skip 1 (.gen (Int) (fun x => .int .u8 x) fun _z5 => .skip 1 (.ask (.skip 7 (.ask (.skip 7 (.all (fun _z6 => .skip 1 (.ask (.skip 13 (.all (fun _z7 => .skip 3 (.all (fun _z8 => .go))))) (.skip 12 (.all (fun _z7 => .go))))))) (.skip 18 (.all (fun _z6 => .go))))) (.skip 23 (.all (fun _z6 => .go)))))))) (.skip 29 (.all (fun _z4 => .go))))) (.skip 2 (.ask (.skip 6 (.all (fun _z4 => .skip 1 (.gen (Int) (fun x => .int .u8 x) fun _z5 => .skip 1 (.ask (.skip 7 (.ask (.skip 7 (.all (fun _z6 => .skip 1 (.ask (.skip 15 (.all (fun _z7 => .skip 3 (.all (fun _z8 => .go))))) (.go))))) (.go))) (.go)))))) (.go))))) (.skip 4 (.ask (.skip 4 (.call Unit (ck (.bool (grp i1.snd.part)) (xRx2h2 i1)) fun _ => .skip 0 (.ask (.go) (.skip 6 (.all (fun _z4 => .skip 1 (.all (fun _z5 => .skip 8 (.ask (xRx2s2 i1) (xRx2s2 i1)))))))))) (.skip 0 .go))))) (.skip 8 (.ask (.skip 0 .go) (.skip 3 (.ask (.skip 4 (.gen (Int) (fun x => .int .u8 x) fun _z4 => .skip 1 (.ask (.go) (.skip 8 (.all (fun z5 => .skip 0 (.val (.string (bs (List.take (z5.toNat - (((i1.fst : Nat) : Int)).toNat) (List.drop (((i1.fst : Nat) : Int)).toNat l)))) (xRx2s0 l i1 z5)))))))) (.skip 12 (.all (fun z4 => .skip 0 (.val (.string (bs (List.take (z4.toNat - (((i1.fst : Nat) : Int)).toNat) (List.drop (((i1.fst : Nat) : Int)).toNat l)))) (xRx2s0 l i1 z4)))))))))))) (.go))))))) (fun r _ h _ => Q r h) := by kernel_rfl

end Go.Proofs.YtopladipgobpjaaDoor
