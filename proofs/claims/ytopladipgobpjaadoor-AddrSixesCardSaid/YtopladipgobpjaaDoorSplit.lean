/-
  The reference's split at a point: a text's parts. Condition: the text's length is at most 1000.
-/
import Derived.Test.YtopladipgobpjaaDoorOct
import Derived.Test.YtopladipgobpjaaDoorFmE
namespace Go.Proofs.YtopladipgobpjaaDoor
open Go.Fm

instance ufS : UF := ⟨[5, 9]⟩

structure S7 where
  i : Nat
  f : Nat
  ps : List (List UInt8)
def qa (l : List UInt8) (i : Nat) : Prop × St := (i ≤ l.length ∧ splitL 46 [] l = splitL 46 (l.take i) (l.drop i),
  ⟨[(7, .int .i64 i), (6, .int .i64 0), (5, .slice none 0 0), (4, .slice none 0 0), (0, .string (bs l)), (1, .int .u8 46)], [], [], .norm⟩)
def ma (l : List UInt8) (i : Nat) : Nat := 2 * l.length + 10 - i
def qb (l : List UInt8) (s : S7) : Prop × St := (s.i ≤ l.length + 1 ∧ s.f ≤ s.i ∧ s.ps ≠ [] ∧ s.ps.length ≤ s.i ∧ (s.i ≤ l.length → splitL 46 [] l = s.ps ++ splitL 46 ((l.drop s.f).take (s.i - s.f)) (l.drop s.i)) ∧ (s.i = l.length + 1 → splitL 46 [] l = s.ps),
  ⟨[(7, .int .i64 s.i), (6, .int .i64 s.f), (5, .slice (some ⟨0, 0, some 1⟩) s.ps.length s.ps.length), (4, .slice none 0 0), (0, .string (bs l)), (1, .int .u8 46)], [], [.tcells (sc s.ps) 9 (some 0)], .norm⟩)
def mb (l : List UInt8) (s : S7) : Nat := l.length + 1 - s.i

abbrev xSplith0 (l : List UInt8) (i1 : S7) : AHeap := [.dead, .tcells [(.string (bs (List.take ((((i1.i : Nat) : Int)).toNat - (((i1.f : Nat) : Int)).toNat) (List.drop (((i1.f : Nat) : Int)).toNat l))))] 9 (some 0), .tcells (sc (i1.ps ++ [List.take ((((i1.i : Nat) : Int)).toNat - (((i1.f : Nat) : Int)).toNat) (List.drop (((i1.f : Nat) : Int)).toNat l)])) 9 (some 0)]
abbrev xSplits0 (l : List UInt8) (i1 : S7) : Scr := .skip 1 (.put (.slice (some ⟨2, 0, (some 1)⟩) (i1.ps.length + 1) (i1.ps.length + 1)) (xSplith0 l i1) (.skip 2 (.all (fun _z4 => .skip 2 (.all (fun _z5 => .go))))))

theorem run_split (l : List UInt8) (Q : Res → AHeap → Prop) : ((((∃ ia, ((qa l ia).fst) ∧ Gc [] 0 ⟨[(7, (.int .i64 0)), (6, (.int .i64 0)), (5, (.slice none 0 0)), (4, (.slice none 0 0)), (0, (.string (bs (l)))), (1, (.int .u8 46))], [], [], .norm⟩ ((qa l ia).snd)) ∨ (∃ ia, ((qb l ia).fst) ∧ Gc [] 0 ⟨[(7, (.int .i64 0)), (6, (.int .i64 0)), (5, (.slice none 0 0)), (4, (.slice none 0 0)), (0, (.string (bs (l)))), (1, (.int .u8 46))], [], [], .norm⟩ ((qb l ia).snd))) ∧
   (∀ i1, (qa l i1).fst → 
    ∀ z2 : Int, z2 = ((((bs l).size : Nat) : Int)) → 
    (((decide (((i1 : Nat) : Int) ≤ z2)) = true → 
      ∀ z3 : Int, z3 = ((((bs l).size : Nat) : Int)) → 
      (((((i1 : Nat) : Int) == z3) = true → 
        ((aSlice Tryd.prog 9 (.string (bs (l))) (some (.int .i64 0)) (some (.int .i64 ((i1 : Nat) : Int))) none = some (.string (bs (List.take ((((i1 : Nat) : Int)).toNat - 0) (List.drop 0 l))))) ∧ 
        ∀ z4 : Int, z4 = (IntKind.i64.wrap (((i1 : Nat) : Int) + 1)) → 
        ∀ z5 : Int, z5 = (IntKind.i64.wrap (((i1 : Nat) : Int) + 1)) → ((∃ ia', ((qa l ia').fst) ∧ (ma l ia' < ma l i1) ∧ Gc [] 0 ⟨[(7, (.int .i64 z5)), (13, (.int .i64 z5)), (12, (.int .i64 ((i1 : Nat) : Int))), (6, (.int .i64 z4)), (33, (.int .i64 z4)), (32, (.int .i64 ((i1 : Nat) : Int))), (5, (.slice (some ⟨1, 0, (some 1)⟩) 1 1)), (31, (.slice (some ⟨1, 0, (some 1)⟩) 1 1)), (30, (.slice (some ⟨0, 0, none⟩) 1 1)), (29, (.string (bs (List.take ((((i1 : Nat) : Int)).toNat - 0) (List.drop 0 l))))), (28, (.int .i64 ((i1 : Nat) : Int))), (27, (.int .i64 0)), (26, (.string (bs (l)))), (25, (.slice none 0 0)), (24, (.bool true)), (23, (.tuple ⟨[]⟩)), (22, (.tuple ⟨[]⟩)), (21, (.tuple ⟨[]⟩)), (20, (.tuple ⟨[]⟩)), (19, (.tuple ⟨[]⟩)), (18, (.bool true)), (17, (.bool true)), (16, (.int .i64 z3)), (15, (.string (bs (l)))), (14, (.int .i64 ((i1 : Nat) : Int))), (11, (.bool true)), (10, (.int .i64 z2)), (9, (.string (bs (l)))), (8, (.int .i64 ((i1 : Nat) : Int))), (7, (.int .i64 ((i1 : Nat) : Int))), (6, (.int .i64 0)), (5, (.slice none 0 0)), (4, (.slice none 0 0)), (0, (.string (bs (l)))), (1, (.int .u8 46))], [], [.tcells [(.string (bs (List.take ((((i1 : Nat) : Int)).toNat - 0) (List.drop 0 l))))] 9 (some 0), .tcells [(.string (bs (List.take ((((i1 : Nat) : Int)).toNat - 0) (List.drop 0 l))))] 9 (some 0)], .norm⟩ ((qa l ia').snd)) ∨ (∃ ia', ((qb l ia').fst) ∧ (mb l ia' < ma l i1) ∧ Gc [] 0 ⟨[(7, (.int .i64 z5)), (13, (.int .i64 z5)), (12, (.int .i64 ((i1 : Nat) : Int))), (6, (.int .i64 z4)), (33, (.int .i64 z4)), (32, (.int .i64 ((i1 : Nat) : Int))), (5, (.slice (some ⟨1, 0, (some 1)⟩) 1 1)), (31, (.slice (some ⟨1, 0, (some 1)⟩) 1 1)), (30, (.slice (some ⟨0, 0, none⟩) 1 1)), (29, (.string (bs (List.take ((((i1 : Nat) : Int)).toNat - 0) (List.drop 0 l))))), (28, (.int .i64 ((i1 : Nat) : Int))), (27, (.int .i64 0)), (26, (.string (bs (l)))), (25, (.slice none 0 0)), (24, (.bool true)), (23, (.tuple ⟨[]⟩)), (22, (.tuple ⟨[]⟩)), (21, (.tuple ⟨[]⟩)), (20, (.tuple ⟨[]⟩)), (19, (.tuple ⟨[]⟩)), (18, (.bool true)), (17, (.bool true)), (16, (.int .i64 z3)), (15, (.string (bs (l)))), (14, (.int .i64 ((i1 : Nat) : Int))), (11, (.bool true)), (10, (.int .i64 z2)), (9, (.string (bs (l)))), (8, (.int .i64 ((i1 : Nat) : Int))), (7, (.int .i64 ((i1 : Nat) : Int))), (6, (.int .i64 0)), (5, (.slice none 0 0)), (4, (.slice none 0 0)), (0, (.string (bs (l)))), (1, (.int .u8 46))], [], [.tcells [(.string (bs (List.take ((((i1 : Nat) : Int)).toNat - 0) (List.drop 0 l))))] 9 (some 0), .tcells [(.string (bs (List.take ((((i1 : Nat) : Int)).toNat - 0) (List.drop 0 l))))] 9 (some 0)], .norm⟩ ((qb l ia').snd))))) ∧
       ((((i1 : Nat) : Int) == z3) = false → 
        ((∃ z4 : Int, aIndex Tryd.prog 9 (.string (bs (l))) (.int .i64 ((i1 : Nat) : Int)) = some (.int .u8 z4)) ∧ ∀ z4 : Int, aIndex Tryd.prog 9 (.string (bs (l))) (.int .i64 ((i1 : Nat) : Int)) = some (.int .u8 z4) → 
        (((z4 == 46) = true → 
          ((aSlice Tryd.prog 9 (.string (bs (l))) (some (.int .i64 0)) (some (.int .i64 ((i1 : Nat) : Int))) none = some (.string (bs (List.take ((((i1 : Nat) : Int)).toNat - 0) (List.drop 0 l))))) ∧ 
          ∀ z5 : Int, z5 = (IntKind.i64.wrap (((i1 : Nat) : Int) + 1)) → 
          ∀ z6 : Int, z6 = (IntKind.i64.wrap (((i1 : Nat) : Int) + 1)) → ((∃ ia', ((qa l ia').fst) ∧ (ma l ia' < ma l i1) ∧ Gc [] 0 ⟨[(7, (.int .i64 z6)), (13, (.int .i64 z6)), (12, (.int .i64 ((i1 : Nat) : Int))), (6, (.int .i64 z5)), (33, (.int .i64 z5)), (32, (.int .i64 ((i1 : Nat) : Int))), (5, (.slice (some ⟨1, 0, (some 1)⟩) 1 1)), (31, (.slice (some ⟨1, 0, (some 1)⟩) 1 1)), (30, (.slice (some ⟨0, 0, none⟩) 1 1)), (29, (.string (bs (List.take ((((i1 : Nat) : Int)).toNat - 0) (List.drop 0 l))))), (28, (.int .i64 ((i1 : Nat) : Int))), (27, (.int .i64 0)), (26, (.string (bs (l)))), (25, (.slice none 0 0)), (24, (.bool true)), (23, (.bool true)), (22, (.int .u8 46)), (21, (.int .u8 z4)), (20, (.int .i64 ((i1 : Nat) : Int))), (19, (.string (bs (l)))), (18, (.bool false)), (17, (.bool false)), (16, (.int .i64 z3)), (15, (.string (bs (l)))), (14, (.int .i64 ((i1 : Nat) : Int))), (11, (.bool true)), (10, (.int .i64 z2)), (9, (.string (bs (l)))), (8, (.int .i64 ((i1 : Nat) : Int))), (7, (.int .i64 ((i1 : Nat) : Int))), (6, (.int .i64 0)), (5, (.slice none 0 0)), (4, (.slice none 0 0)), (0, (.string (bs (l)))), (1, (.int .u8 46))], [], [.tcells [(.string (bs (List.take ((((i1 : Nat) : Int)).toNat - 0) (List.drop 0 l))))] 9 (some 0), .tcells [(.string (bs (List.take ((((i1 : Nat) : Int)).toNat - 0) (List.drop 0 l))))] 9 (some 0)], .norm⟩ ((qa l ia').snd)) ∨ (∃ ia', ((qb l ia').fst) ∧ (mb l ia' < ma l i1) ∧ Gc [] 0 ⟨[(7, (.int .i64 z6)), (13, (.int .i64 z6)), (12, (.int .i64 ((i1 : Nat) : Int))), (6, (.int .i64 z5)), (33, (.int .i64 z5)), (32, (.int .i64 ((i1 : Nat) : Int))), (5, (.slice (some ⟨1, 0, (some 1)⟩) 1 1)), (31, (.slice (some ⟨1, 0, (some 1)⟩) 1 1)), (30, (.slice (some ⟨0, 0, none⟩) 1 1)), (29, (.string (bs (List.take ((((i1 : Nat) : Int)).toNat - 0) (List.drop 0 l))))), (28, (.int .i64 ((i1 : Nat) : Int))), (27, (.int .i64 0)), (26, (.string (bs (l)))), (25, (.slice none 0 0)), (24, (.bool true)), (23, (.bool true)), (22, (.int .u8 46)), (21, (.int .u8 z4)), (20, (.int .i64 ((i1 : Nat) : Int))), (19, (.string (bs (l)))), (18, (.bool false)), (17, (.bool false)), (16, (.int .i64 z3)), (15, (.string (bs (l)))), (14, (.int .i64 ((i1 : Nat) : Int))), (11, (.bool true)), (10, (.int .i64 z2)), (9, (.string (bs (l)))), (8, (.int .i64 ((i1 : Nat) : Int))), (7, (.int .i64 ((i1 : Nat) : Int))), (6, (.int .i64 0)), (5, (.slice none 0 0)), (4, (.slice none 0 0)), (0, (.string (bs (l)))), (1, (.int .u8 46))], [], [.tcells [(.string (bs (List.take ((((i1 : Nat) : Int)).toNat - 0) (List.drop 0 l))))] 9 (some 0), .tcells [(.string (bs (List.take ((((i1 : Nat) : Int)).toNat - 0) (List.drop 0 l))))] 9 (some 0)], .norm⟩ ((qb l ia').snd))))) ∧
         ((z4 == 46) = false → 
          ∀ z5 : Int, z5 = (IntKind.i64.wrap (((i1 : Nat) : Int) + 1)) → ((∃ ia', ((qa l ia').fst) ∧ (ma l ia' < ma l i1) ∧ Gc [] 0 ⟨[(7, (.int .i64 z5)), (13, (.int .i64 z5)), (12, (.int .i64 ((i1 : Nat) : Int))), (24, (.bool false)), (23, (.bool false)), (22, (.int .u8 46)), (21, (.int .u8 z4)), (20, (.int .i64 ((i1 : Nat) : Int))), (19, (.string (bs (l)))), (18, (.bool false)), (17, (.bool false)), (16, (.int .i64 z3)), (15, (.string (bs (l)))), (14, (.int .i64 ((i1 : Nat) : Int))), (11, (.bool true)), (10, (.int .i64 z2)), (9, (.string (bs (l)))), (8, (.int .i64 ((i1 : Nat) : Int))), (7, (.int .i64 ((i1 : Nat) : Int))), (6, (.int .i64 0)), (5, (.slice none 0 0)), (4, (.slice none 0 0)), (0, (.string (bs (l)))), (1, (.int .u8 46))], [], [], .norm⟩ ((qa l ia').snd)) ∨ (∃ ia', ((qb l ia').fst) ∧ (mb l ia' < ma l i1) ∧ Gc [] 0 ⟨[(7, (.int .i64 z5)), (13, (.int .i64 z5)), (12, (.int .i64 ((i1 : Nat) : Int))), (24, (.bool false)), (23, (.bool false)), (22, (.int .u8 46)), (21, (.int .u8 z4)), (20, (.int .i64 ((i1 : Nat) : Int))), (19, (.string (bs (l)))), (18, (.bool false)), (17, (.bool false)), (16, (.int .i64 z3)), (15, (.string (bs (l)))), (14, (.int .i64 ((i1 : Nat) : Int))), (11, (.bool true)), (10, (.int .i64 z2)), (9, (.string (bs (l)))), (8, (.int .i64 ((i1 : Nat) : Int))), (7, (.int .i64 ((i1 : Nat) : Int))), (6, (.int .i64 0)), (5, (.slice none 0 0)), (4, (.slice none 0 0)), (0, (.string (bs (l)))), (1, (.int .u8 46))], [], [], .norm⟩ ((qb l ia').snd))))))))) ∧
     ((decide (((i1 : Nat) : Int) ≤ z2)) = false → Q (.ret (.slice none 0 0)) []))) ∧
   (∀ i1, (qb l i1).fst → 
    ∀ z2 : Int, z2 = ((((bs l).size : Nat) : Int)) → 
    (((decide (((i1.i : Nat) : Int) ≤ z2)) = true → 
      ∀ z3 : Int, z3 = ((((bs l).size : Nat) : Int)) → 
      (((((i1.i : Nat) : Int) == z3) = true → 
        ((aSlice Tryd.prog 9 (.string (bs (l))) (some (.int .i64 ((i1.f : Nat) : Int))) (some (.int .i64 ((i1.i : Nat) : Int))) none = some (.string (bs (List.take ((((i1.i : Nat) : Int)).toNat - (((i1.f : Nat) : Int)).toNat) (List.drop (((i1.f : Nat) : Int)).toNat l))))) ∧ 
        ((aAppend Tryd.prog 74 74 (.slice (some ⟨0, 0, (some 1)⟩) i1.ps.length i1.ps.length) (.slice (some ⟨1, 0, none⟩) 1 1) [.tcells (sc i1.ps) 9 (some 0), .tcells [(.string (bs (List.take ((((i1.i : Nat) : Int)).toNat - (((i1.f : Nat) : Int)).toNat) (List.drop (((i1.f : Nat) : Int)).toNat l))))] 9 (some 0)] = some ((.slice (some ⟨2, 0, (some 1)⟩) (i1.ps.length + 1) (i1.ps.length + 1)), ([.dead, .tcells [(.string (bs (List.take ((((i1.i : Nat) : Int)).toNat - (((i1.f : Nat) : Int)).toNat) (List.drop (((i1.f : Nat) : Int)).toNat l))))] 9 (some 0), .tcells (sc (i1.ps ++ [List.take ((((i1.i : Nat) : Int)).toNat - (((i1.f : Nat) : Int)).toNat) (List.drop (((i1.f : Nat) : Int)).toNat l)])) 9 (some 0)] : AHeap))) ∧ 
        ∀ z4 : Int, z4 = (IntKind.i64.wrap (((i1.i : Nat) : Int) + 1)) → 
        ∀ z5 : Int, z5 = (IntKind.i64.wrap (((i1.i : Nat) : Int) + 1)) → ((∃ ia', ((qa l ia').fst) ∧ (ma l ia' < mb l i1) ∧ Gc [] 0 ⟨[(7, (.int .i64 z5)), (13, (.int .i64 z5)), (12, (.int .i64 ((i1.i : Nat) : Int))), (6, (.int .i64 z4)), (33, (.int .i64 z4)), (32, (.int .i64 ((i1.i : Nat) : Int))), (5, (.slice (some ⟨2, 0, (some 1)⟩) (i1.ps.length + 1) (i1.ps.length + 1))), (31, (.slice (some ⟨2, 0, (some 1)⟩) (i1.ps.length + 1) (i1.ps.length + 1))), (30, (.slice (some ⟨1, 0, none⟩) 1 1)), (29, (.string (bs (List.take ((((i1.i : Nat) : Int)).toNat - (((i1.f : Nat) : Int)).toNat) (List.drop (((i1.f : Nat) : Int)).toNat l))))), (28, (.int .i64 ((i1.i : Nat) : Int))), (27, (.int .i64 ((i1.f : Nat) : Int))), (26, (.string (bs (l)))), (25, (.slice (some ⟨0, 0, (some 1)⟩) i1.ps.length i1.ps.length)), (24, (.bool true)), (23, (.tuple ⟨[]⟩)), (22, (.tuple ⟨[]⟩)), (21, (.tuple ⟨[]⟩)), (20, (.tuple ⟨[]⟩)), (19, (.tuple ⟨[]⟩)), (18, (.bool true)), (17, (.bool true)), (16, (.int .i64 z3)), (15, (.string (bs (l)))), (14, (.int .i64 ((i1.i : Nat) : Int))), (11, (.bool true)), (10, (.int .i64 z2)), (9, (.string (bs (l)))), (8, (.int .i64 ((i1.i : Nat) : Int))), (7, (.int .i64 ((i1.i : Nat) : Int))), (6, (.int .i64 ((i1.f : Nat) : Int))), (5, (.slice (some ⟨0, 0, (some 1)⟩) i1.ps.length i1.ps.length)), (4, (.slice none 0 0)), (0, (.string (bs (l)))), (1, (.int .u8 46))], [], [.dead, .tcells [(.string (bs (List.take ((((i1.i : Nat) : Int)).toNat - (((i1.f : Nat) : Int)).toNat) (List.drop (((i1.f : Nat) : Int)).toNat l))))] 9 (some 0), .tcells (sc (i1.ps ++ [List.take ((((i1.i : Nat) : Int)).toNat - (((i1.f : Nat) : Int)).toNat) (List.drop (((i1.f : Nat) : Int)).toNat l)])) 9 (some 0)], .norm⟩ ((qa l ia').snd)) ∨ (∃ ia', ((qb l ia').fst) ∧ (mb l ia' < mb l i1) ∧ Gc [] 0 ⟨[(7, (.int .i64 z5)), (13, (.int .i64 z5)), (12, (.int .i64 ((i1.i : Nat) : Int))), (6, (.int .i64 z4)), (33, (.int .i64 z4)), (32, (.int .i64 ((i1.i : Nat) : Int))), (5, (.slice (some ⟨2, 0, (some 1)⟩) (i1.ps.length + 1) (i1.ps.length + 1))), (31, (.slice (some ⟨2, 0, (some 1)⟩) (i1.ps.length + 1) (i1.ps.length + 1))), (30, (.slice (some ⟨1, 0, none⟩) 1 1)), (29, (.string (bs (List.take ((((i1.i : Nat) : Int)).toNat - (((i1.f : Nat) : Int)).toNat) (List.drop (((i1.f : Nat) : Int)).toNat l))))), (28, (.int .i64 ((i1.i : Nat) : Int))), (27, (.int .i64 ((i1.f : Nat) : Int))), (26, (.string (bs (l)))), (25, (.slice (some ⟨0, 0, (some 1)⟩) i1.ps.length i1.ps.length)), (24, (.bool true)), (23, (.tuple ⟨[]⟩)), (22, (.tuple ⟨[]⟩)), (21, (.tuple ⟨[]⟩)), (20, (.tuple ⟨[]⟩)), (19, (.tuple ⟨[]⟩)), (18, (.bool true)), (17, (.bool true)), (16, (.int .i64 z3)), (15, (.string (bs (l)))), (14, (.int .i64 ((i1.i : Nat) : Int))), (11, (.bool true)), (10, (.int .i64 z2)), (9, (.string (bs (l)))), (8, (.int .i64 ((i1.i : Nat) : Int))), (7, (.int .i64 ((i1.i : Nat) : Int))), (6, (.int .i64 ((i1.f : Nat) : Int))), (5, (.slice (some ⟨0, 0, (some 1)⟩) i1.ps.length i1.ps.length)), (4, (.slice none 0 0)), (0, (.string (bs (l)))), (1, (.int .u8 46))], [], [.dead, .tcells [(.string (bs (List.take ((((i1.i : Nat) : Int)).toNat - (((i1.f : Nat) : Int)).toNat) (List.drop (((i1.f : Nat) : Int)).toNat l))))] 9 (some 0), .tcells (sc (i1.ps ++ [List.take ((((i1.i : Nat) : Int)).toNat - (((i1.f : Nat) : Int)).toNat) (List.drop (((i1.f : Nat) : Int)).toNat l)])) 9 (some 0)], .norm⟩ ((qb l ia').snd)))))) ∧
       ((((i1.i : Nat) : Int) == z3) = false → 
        ((∃ z4 : Int, aIndex Tryd.prog 9 (.string (bs (l))) (.int .i64 ((i1.i : Nat) : Int)) = some (.int .u8 z4)) ∧ ∀ z4 : Int, aIndex Tryd.prog 9 (.string (bs (l))) (.int .i64 ((i1.i : Nat) : Int)) = some (.int .u8 z4) → 
        (((z4 == 46) = true → 
          ((aSlice Tryd.prog 9 (.string (bs (l))) (some (.int .i64 ((i1.f : Nat) : Int))) (some (.int .i64 ((i1.i : Nat) : Int))) none = some (.string (bs (List.take ((((i1.i : Nat) : Int)).toNat - (((i1.f : Nat) : Int)).toNat) (List.drop (((i1.f : Nat) : Int)).toNat l))))) ∧ 
          ((aAppend Tryd.prog 74 74 (.slice (some ⟨0, 0, (some 1)⟩) i1.ps.length i1.ps.length) (.slice (some ⟨1, 0, none⟩) 1 1) [.tcells (sc i1.ps) 9 (some 0), .tcells [(.string (bs (List.take ((((i1.i : Nat) : Int)).toNat - (((i1.f : Nat) : Int)).toNat) (List.drop (((i1.f : Nat) : Int)).toNat l))))] 9 (some 0)] = some ((.slice (some ⟨2, 0, (some 1)⟩) (i1.ps.length + 1) (i1.ps.length + 1)), ([.dead, .tcells [(.string (bs (List.take ((((i1.i : Nat) : Int)).toNat - (((i1.f : Nat) : Int)).toNat) (List.drop (((i1.f : Nat) : Int)).toNat l))))] 9 (some 0), .tcells (sc (i1.ps ++ [List.take ((((i1.i : Nat) : Int)).toNat - (((i1.f : Nat) : Int)).toNat) (List.drop (((i1.f : Nat) : Int)).toNat l)])) 9 (some 0)] : AHeap))) ∧ 
          ∀ z5 : Int, z5 = (IntKind.i64.wrap (((i1.i : Nat) : Int) + 1)) → 
          ∀ z6 : Int, z6 = (IntKind.i64.wrap (((i1.i : Nat) : Int) + 1)) → ((∃ ia', ((qa l ia').fst) ∧ (ma l ia' < mb l i1) ∧ Gc [] 0 ⟨[(7, (.int .i64 z6)), (13, (.int .i64 z6)), (12, (.int .i64 ((i1.i : Nat) : Int))), (6, (.int .i64 z5)), (33, (.int .i64 z5)), (32, (.int .i64 ((i1.i : Nat) : Int))), (5, (.slice (some ⟨2, 0, (some 1)⟩) (i1.ps.length + 1) (i1.ps.length + 1))), (31, (.slice (some ⟨2, 0, (some 1)⟩) (i1.ps.length + 1) (i1.ps.length + 1))), (30, (.slice (some ⟨1, 0, none⟩) 1 1)), (29, (.string (bs (List.take ((((i1.i : Nat) : Int)).toNat - (((i1.f : Nat) : Int)).toNat) (List.drop (((i1.f : Nat) : Int)).toNat l))))), (28, (.int .i64 ((i1.i : Nat) : Int))), (27, (.int .i64 ((i1.f : Nat) : Int))), (26, (.string (bs (l)))), (25, (.slice (some ⟨0, 0, (some 1)⟩) i1.ps.length i1.ps.length)), (24, (.bool true)), (23, (.bool true)), (22, (.int .u8 46)), (21, (.int .u8 z4)), (20, (.int .i64 ((i1.i : Nat) : Int))), (19, (.string (bs (l)))), (18, (.bool false)), (17, (.bool false)), (16, (.int .i64 z3)), (15, (.string (bs (l)))), (14, (.int .i64 ((i1.i : Nat) : Int))), (11, (.bool true)), (10, (.int .i64 z2)), (9, (.string (bs (l)))), (8, (.int .i64 ((i1.i : Nat) : Int))), (7, (.int .i64 ((i1.i : Nat) : Int))), (6, (.int .i64 ((i1.f : Nat) : Int))), (5, (.slice (some ⟨0, 0, (some 1)⟩) i1.ps.length i1.ps.length)), (4, (.slice none 0 0)), (0, (.string (bs (l)))), (1, (.int .u8 46))], [], [.dead, .tcells [(.string (bs (List.take ((((i1.i : Nat) : Int)).toNat - (((i1.f : Nat) : Int)).toNat) (List.drop (((i1.f : Nat) : Int)).toNat l))))] 9 (some 0), .tcells (sc (i1.ps ++ [List.take ((((i1.i : Nat) : Int)).toNat - (((i1.f : Nat) : Int)).toNat) (List.drop (((i1.f : Nat) : Int)).toNat l)])) 9 (some 0)], .norm⟩ ((qa l ia').snd)) ∨ (∃ ia', ((qb l ia').fst) ∧ (mb l ia' < mb l i1) ∧ Gc [] 0 ⟨[(7, (.int .i64 z6)), (13, (.int .i64 z6)), (12, (.int .i64 ((i1.i : Nat) : Int))), (6, (.int .i64 z5)), (33, (.int .i64 z5)), (32, (.int .i64 ((i1.i : Nat) : Int))), (5, (.slice (some ⟨2, 0, (some 1)⟩) (i1.ps.length + 1) (i1.ps.length + 1))), (31, (.slice (some ⟨2, 0, (some 1)⟩) (i1.ps.length + 1) (i1.ps.length + 1))), (30, (.slice (some ⟨1, 0, none⟩) 1 1)), (29, (.string (bs (List.take ((((i1.i : Nat) : Int)).toNat - (((i1.f : Nat) : Int)).toNat) (List.drop (((i1.f : Nat) : Int)).toNat l))))), (28, (.int .i64 ((i1.i : Nat) : Int))), (27, (.int .i64 ((i1.f : Nat) : Int))), (26, (.string (bs (l)))), (25, (.slice (some ⟨0, 0, (some 1)⟩) i1.ps.length i1.ps.length)), (24, (.bool true)), (23, (.bool true)), (22, (.int .u8 46)), (21, (.int .u8 z4)), (20, (.int .i64 ((i1.i : Nat) : Int))), (19, (.string (bs (l)))), (18, (.bool false)), (17, (.bool false)), (16, (.int .i64 z3)), (15, (.string (bs (l)))), (14, (.int .i64 ((i1.i : Nat) : Int))), (11, (.bool true)), (10, (.int .i64 z2)), (9, (.string (bs (l)))), (8, (.int .i64 ((i1.i : Nat) : Int))), (7, (.int .i64 ((i1.i : Nat) : Int))), (6, (.int .i64 ((i1.f : Nat) : Int))), (5, (.slice (some ⟨0, 0, (some 1)⟩) i1.ps.length i1.ps.length)), (4, (.slice none 0 0)), (0, (.string (bs (l)))), (1, (.int .u8 46))], [], [.dead, .tcells [(.string (bs (List.take ((((i1.i : Nat) : Int)).toNat - (((i1.f : Nat) : Int)).toNat) (List.drop (((i1.f : Nat) : Int)).toNat l))))] 9 (some 0), .tcells (sc (i1.ps ++ [List.take ((((i1.i : Nat) : Int)).toNat - (((i1.f : Nat) : Int)).toNat) (List.drop (((i1.f : Nat) : Int)).toNat l)])) 9 (some 0)], .norm⟩ ((qb l ia').snd)))))) ∧
         ((z4 == 46) = false → 
          ∀ z5 : Int, z5 = (IntKind.i64.wrap (((i1.i : Nat) : Int) + 1)) → ((∃ ia', ((qa l ia').fst) ∧ (ma l ia' < mb l i1) ∧ Gc [] 0 ⟨[(7, (.int .i64 z5)), (13, (.int .i64 z5)), (12, (.int .i64 ((i1.i : Nat) : Int))), (24, (.bool false)), (23, (.bool false)), (22, (.int .u8 46)), (21, (.int .u8 z4)), (20, (.int .i64 ((i1.i : Nat) : Int))), (19, (.string (bs (l)))), (18, (.bool false)), (17, (.bool false)), (16, (.int .i64 z3)), (15, (.string (bs (l)))), (14, (.int .i64 ((i1.i : Nat) : Int))), (11, (.bool true)), (10, (.int .i64 z2)), (9, (.string (bs (l)))), (8, (.int .i64 ((i1.i : Nat) : Int))), (7, (.int .i64 ((i1.i : Nat) : Int))), (6, (.int .i64 ((i1.f : Nat) : Int))), (5, (.slice (some ⟨0, 0, (some 1)⟩) i1.ps.length i1.ps.length)), (4, (.slice none 0 0)), (0, (.string (bs (l)))), (1, (.int .u8 46))], [], [.tcells (sc i1.ps) 9 (some 0)], .norm⟩ ((qa l ia').snd)) ∨ (∃ ia', ((qb l ia').fst) ∧ (mb l ia' < mb l i1) ∧ Gc [] 0 ⟨[(7, (.int .i64 z5)), (13, (.int .i64 z5)), (12, (.int .i64 ((i1.i : Nat) : Int))), (24, (.bool false)), (23, (.bool false)), (22, (.int .u8 46)), (21, (.int .u8 z4)), (20, (.int .i64 ((i1.i : Nat) : Int))), (19, (.string (bs (l)))), (18, (.bool false)), (17, (.bool false)), (16, (.int .i64 z3)), (15, (.string (bs (l)))), (14, (.int .i64 ((i1.i : Nat) : Int))), (11, (.bool true)), (10, (.int .i64 z2)), (9, (.string (bs (l)))), (8, (.int .i64 ((i1.i : Nat) : Int))), (7, (.int .i64 ((i1.i : Nat) : Int))), (6, (.int .i64 ((i1.f : Nat) : Int))), (5, (.slice (some ⟨0, 0, (some 1)⟩) i1.ps.length i1.ps.length)), (4, (.slice none 0 0)), (0, (.string (bs (l)))), (1, (.int .u8 46))], [], [.tcells (sc i1.ps) 9 (some 0)], .norm⟩ ((qb l ia').snd))))))))) ∧
     ((decide (((i1.i : Nat) : Int) ≤ z2)) = false → Q (.ret (.slice (some ⟨0, 0, (some 1)⟩) i1.ps.length i1.ps.length)) [.tcells (sc i1.ps) 9 (some 0)]))))) =
    runS Tryd.prog [] false [] 0 (SpecC Tryd.prog []) 20 54 [.string (bs l), .int .u8 46] [] .norm (.skip 4 (.inv2 _ _ (qa l) (ma l) (fun i1 => .skip 2 (.all (fun _z2 => .skip 0 (.ask (.skip 3 (.all (fun _z3 => .skip 0 (.ask (.skip 12 (.val (.string (bs (List.take ((((i1 : Nat) : Int)).toNat - 0) (List.drop 0 l)))) (.skip 4 (.all (fun _z4 => .skip 2 (.all (fun _z5 => .go))))))) (.skip 6 (.gen (Int) (fun x => .int .u8 x) fun _z4 => .skip 3 (.ask (.skip 6 (.val (.string (bs (List.take ((((i1 : Nat) : Int)).toNat - 0) (List.drop 0 l)))) (.skip 4 (.all (fun _z5 => .skip 2 (.all (fun _z6 => .go))))))) (.skip 3 (.all (fun _z5 => .go)))))))))) (.go))))) (qb l) (mb l) (fun i1 => .skip 2 (.all (fun _z2 => .skip 0 (.ask (.skip 3 (.all (fun _z3 => .skip 0 (.ask (.skip 12 (.val (.string (bs (List.take ((((i1.i : Nat) : Int)).toNat - (((i1.f : Nat) : Int)).toNat) (List.drop (((i1.f : Nat) : Int)).toNat l)))) (xSplits0 l i1))) (.skip 6 (.gen (Int) (fun x => .int .u8 x) fun _z4 => .skip 3 (.ask (.skip 6 (.val (.string (bs (List.take ((((i1.i : Nat) : Int)).toNat - (((i1.f : Nat) : Int)).toNat) (List.drop (((i1.f : Nat) : Int)).toNat l)))) (xSplits0 l i1))) (.skip 3 (.all (fun _z5 => .go)))))))))) (.go))))))) (fun r _ h _ => Q r h) := by kernel_rfl

theorem spec_of_eq9 {T : Prop} {fg : Bool} {kn gs : List Nat} {lf m : Nat} {f : FuncId} {args : List Value} {h : AHeap} {c : Scr} {Q : Res → AHeap → Prop}
    (e : T = runS Tryd.prog gs fg kn lf (SpecC Tryd.prog gs) m f args h .norm c (fun r _ h _ => Q r h)) (t : T) : Fm.Spec Tryd.prog gs f args h Q := spec_of_script Tryd.mixed (Eq.mp e t)

theorem ty_u74 : Tryd.prog.underlying 74 = some (.slice 9) := by kernel_rfl
theorem ty_i9 : (Tryd.prog.info? 9).map (fun i => (i.size, i.bytes)) = some (1, 16) := by kernel_rfl
theorem ty_z9 : ((aZero Tryd.prog 9).map fun z => z.cells.size) = some 1 := by kernel_rfl
theorem rv_slice {i : Nat → Option Nat} {b c o n m : Nat} {sp : Option Nat} (h : n = m) (hb : i b = some c) : RV i (.slice (some ⟨b, o, sp⟩) n n) (.slice (some ⟨c, o, sp⟩) m m) := by
  subst h; exact .slice _ _ _ _ hb

theorem app_s {x : Value} {h : AHeap} {xt : TypeId} {l m : List (List UInt8)} {b : Nat} {z : Option Nat} (hn : aNew Tryd.prog 9 1 xt x h = some (l.length, sc l)) (hc : h[b]? = some (.tcells (sc m) 9 z)) (hm : z.getD 0 ≤ m.length) (h0 : l ≠ []) (hl : m.length + l.length ≤ 2 ^ 40) :
    aAppend Tryd.prog 74 xt (.slice (some ⟨b, 0, some 1⟩) m.length m.length) x h = some (.slice (some ⟨h.length, 0, some 1⟩) (m.length + l.length) (m.length + l.length), h.set b .dead ++ [.tcells (sc (m ++ l)) 9 z]) := by
  obtain ⟨i, hi, e⟩ := Option.map_eq_some_iff.1 ty_i9
  have e1 : i.size = 1 := congrArg Prod.fst e
  have e2 : i.bytes = 16 := congrArg Prod.snd e
  exact aAppend_sc_next ty_u74 hi e1 (by omega) (by rw [e1]; exact ty_z9) hn hc hm h0 hl

/-- what split leaves -/
def spost (l : List UInt8) (r : Res) (h : AHeap) : Prop := r = .ret (.slice (some ⟨0, 0, some 1⟩) (splitL 46 [] l).length (splitL 46 [] l).length) ∧ h = [.tcells (sc (splitL 46 [] l)) 9 (some 0)]

theorem drop_get {l : List UInt8} {i : Nat} (h : i < l.length) : l.drop i = l.getD i 0 :: l.drop (i + 1) := by
  rw [List.drop_eq_getElem_cons h, List.getD_eq_getElem?_getD, List.getElem?_eq_getElem h]; rfl

set_option maxRecDepth 20000 in
theorem split_spec {l : List UInt8} (hl : l.length ≤ 1000) : Fm.Spec Tryd.prog [] 54 [.string (bs l), .int .u8 46] [] (spost l) := by
  refine spec_of_eq9 (run_split l (spost l)) ?_
  refine ⟨.inl ⟨0, ⟨Nat.zero_le _, rfl⟩, Gc.env ⟨rfl, rfl, rfl, rfl, rfl, rfl, trivial⟩⟩, fun i hi => ?_, fun s hs => ?_⟩
  · obtain ⟨a1, a2⟩ := hi
    intro z hz
    have hz : z = ((l.length : Nat) : Int) := hz
    subst hz
    refine ⟨fun _ => ?_, fun hd => by have := of_decide_eq_false hd; omega⟩
    intro z hz
    have hz : z = ((l.length : Nat) : Int) := hz
    subst hz
    refine ⟨fun he => ?_, fun he => ?_⟩
    · have he : (i : Int) = l.length := by simpa using he
      have hi : i = l.length := by omega
      refine ⟨aSlice_bs (l := l) xu9 (by omega) (by omega) (by omega), ?_⟩
      intro z4 hz4 z5 hz5
      have hz4 : z4 = ((i + 1 : Nat) : Int) := by rw [hz4, wrapi (by omega) (by omega)]; omega
      have hz5 : z5 = ((i + 1 : Nat) : Int) := by rw [hz5, wrapi (by omega) (by omega)]; omega
      subst hz4 hz5
      have hc : (List.take (((i : Nat) : Int).toNat - 0) (List.drop 0 l)) = l.take i := by rw [Int.toNat_natCast]; rfl
      refine .inr ⟨⟨i + 1, i + 1, [(List.take (((i : Nat) : Int).toNat - 0) (List.drop 0 l))]⟩, ⟨by show i + 1 ≤ l.length + 1; omega, Nat.le_refl _, by simp, by show 1 ≤ i + 1; omega, ?_, ?_⟩, by show l.length + 1 - (i + 1) < 2 * l.length + 10 - i; omega,
        Gc.ren [1] (by decide) rfl rfl rfl ⟨⟨_, rfl, ro_sc [(List.take (((i : Nat) : Int).toNat - 0) (List.drop 0 l))] 9 (some 0)⟩, trivial⟩ ⟨⟨_, rfl, .int _ _⟩, ⟨_, rfl, .int _ _⟩, ⟨_, rfl, .slice _ _ _ _ rfl⟩, ⟨_, rfl, .snil _ _⟩, ⟨_, rfl, .string _⟩, ⟨_, rfl, .int _ _⟩, trivial⟩ rfl⟩
      · intro h
        have h : i + 1 ≤ l.length := h
        omega
      · intro _
        show splitL 46 [] l = [(List.take (((i : Nat) : Int).toNat - 0) (List.drop 0 l))]
        rw [hc, a2, hi, List.drop_length, List.take_length, splitL]
    · have he : (i : Int) ≠ l.length := by simpa using he
      have hlt : i < l.length := by omega
      have hdrop := drop_get hlt
      refine gen_step (aIndex_bs (l := l) (i := (i : Int)) xu9 (by omega) (by omega)) ?_
      rw [Int.toNat_natCast]
      refine ⟨fun h => ?_, fun h => ?_⟩
      · have h : (((l.getD i 0).toNat : Nat) : Int) = 46 := by simpa using h
        have h46 : l.getD i 0 = 46 := UInt8.toNat.inj (by show _ = 46; omega)
        refine ⟨aSlice_bs (l := l) xu9 (by omega) (by omega) (by omega), ?_⟩
        intro z4 hz4 z5 hz5
        have hz4 : z4 = ((i + 1 : Nat) : Int) := by rw [hz4, wrapi (by omega) (by omega)]; omega
        have hz5 : z5 = ((i + 1 : Nat) : Int) := by rw [hz5, wrapi (by omega) (by omega)]; omega
        subst hz4 hz5
        have hc : (List.take (((i : Nat) : Int).toNat - 0) (List.drop 0 l)) = l.take i := by rw [Int.toNat_natCast]; rfl
        refine .inr ⟨⟨i + 1, i + 1, [(List.take (((i : Nat) : Int).toNat - 0) (List.drop 0 l))]⟩, ⟨by show i + 1 ≤ l.length + 1; omega, Nat.le_refl _, by simp, by show 1 ≤ i + 1; omega, ?_, ?_⟩, by show l.length + 1 - (i + 1) < 2 * l.length + 10 - i; omega,
          Gc.ren [1] (by decide) rfl rfl rfl ⟨⟨_, rfl, ro_sc [(List.take (((i : Nat) : Int).toNat - 0) (List.drop 0 l))] 9 (some 0)⟩, trivial⟩ ⟨⟨_, rfl, .int _ _⟩, ⟨_, rfl, .int _ _⟩, ⟨_, rfl, .slice _ _ _ _ rfl⟩, ⟨_, rfl, .snil _ _⟩, ⟨_, rfl, .string _⟩, ⟨_, rfl, .int _ _⟩, trivial⟩ rfl⟩
        · intro _
          show splitL 46 [] l = [(List.take (((i : Nat) : Int).toNat - 0) (List.drop 0 l))] ++ splitL 46 ((l.drop (i + 1)).take (i + 1 - (i + 1))) (l.drop (i + 1))
          rw [hc, a2, hdrop, splitL, if_pos h46, Nat.sub_self, List.take_zero]; rfl
        · intro h
          have h : i + 1 = l.length + 1 := h
          omega
      · have h : (((l.getD i 0).toNat : Nat) : Int) ≠ 46 := by simpa using h
        have h46 : ¬ l.getD i 0 = 46 := fun e => h (by rw [e]; rfl)
        intro z5 hz5
        have hz5 : z5 = ((i + 1 : Nat) : Int) := by rw [hz5, wrapi (by omega) (by omega)]; omega
        subst hz5
        refine .inl ⟨i + 1, ⟨by omega, ?_⟩, by show 2 * l.length + 10 - (i + 1) < 2 * l.length + 10 - i; omega, Gc.env ⟨rfl, rfl, rfl, rfl, rfl, rfl, trivial⟩⟩
        rw [a2, hdrop, splitL, if_neg h46, take_succ hlt]
  · obtain ⟨b1, b2, b3, b4, b5, b6⟩ := hs
    intro z hz
    have hz : z = ((l.length : Nat) : Int) := hz
    subst hz
    refine ⟨fun hd => ?_, fun hd => ?_⟩
    · have hile : s.i ≤ l.length := by have := of_decide_eq_true hd; omega
      clear hd
      intro z hz
      have hz : z = ((l.length : Nat) : Int) := hz
      subst hz
      refine ⟨fun he => ?_, fun he => ?_⟩
      · have he : (s.i : Int) = l.length := by simpa using he
        have hi : s.i = l.length := by omega
        refine ⟨aSlice_bs (l := l) xu9 (by omega) (by omega) (by omega), ?_⟩
        refine ⟨app_s (l := [(List.take (((s.i : Nat) : Int).toNat - ((s.f : Nat) : Int).toNat) (List.drop ((s.f : Nat) : Int).toNat l))]) (m := s.ps) rfl rfl (Nat.zero_le _) (by simp) (by show s.ps.length + 1 ≤ 2 ^ 40; omega), ?_⟩
        intro z4 hz4 z5 hz5
        have hz4 : z4 = ((s.i + 1 : Nat) : Int) := by rw [hz4, wrapi (by omega) (by omega)]; omega
        have hz5 : z5 = ((s.i + 1 : Nat) : Int) := by rw [hz5, wrapi (by omega) (by omega)]; omega
        subst hz4 hz5
        have hc : (List.take (((s.i : Nat) : Int).toNat - ((s.f : Nat) : Int).toNat) (List.drop ((s.f : Nat) : Int).toNat l)) = (l.drop s.f).take (s.i - s.f) := by rw [Int.toNat_natCast, Int.toNat_natCast]
        refine .inr ⟨⟨s.i + 1, s.i + 1, s.ps ++ [(List.take (((s.i : Nat) : Int).toNat - ((s.f : Nat) : Int).toNat) (List.drop ((s.f : Nat) : Int).toNat l))]⟩, ⟨by show s.i + 1 ≤ l.length + 1; omega, Nat.le_refl _, by simp, by show (s.ps ++ [(List.take (((s.i : Nat) : Int).toNat - ((s.f : Nat) : Int).toNat) (List.drop ((s.f : Nat) : Int).toNat l))]).length ≤ s.i + 1; rw [List.length_append]; show s.ps.length + 1 ≤ s.i + 1; omega, ?_, ?_⟩, by show l.length + 1 - (s.i + 1) < l.length + 1 - s.i; omega,
          Gc.ren [2] (by decide) rfl rfl rfl ⟨⟨_, rfl, ro_sc _ 9 (some 0)⟩, trivial⟩ ⟨⟨_, rfl, .int _ _⟩, ⟨_, rfl, .int _ _⟩, ⟨_, rfl, rv_slice (show (s.ps ++ [(List.take (((s.i : Nat) : Int).toNat - ((s.f : Nat) : Int).toNat) (List.drop ((s.f : Nat) : Int).toNat l))]).length = s.ps.length + 1 by rw [List.length_append]; rfl) rfl⟩, ⟨_, rfl, .snil _ _⟩, ⟨_, rfl, .string _⟩, ⟨_, rfl, .int _ _⟩, trivial⟩ rfl⟩
        · intro h
          have h : s.i + 1 ≤ l.length := h
          omega
        · intro _
          show splitL 46 [] l = s.ps ++ [(List.take (((s.i : Nat) : Int).toNat - ((s.f : Nat) : Int).toNat) (List.drop ((s.f : Nat) : Int).toNat l))]
          rw [hc, b5 (by omega), show l.drop s.i = [] from List.drop_eq_nil_of_le (by omega), splitL]
      · have he : (s.i : Int) ≠ l.length := by simpa using he
        have hlt : s.i < l.length := by omega
        have hdrop := drop_get hlt
        refine gen_step (aIndex_bs (l := l) (i := (s.i : Int)) xu9 (by omega) (by omega)) ?_
        rw [Int.toNat_natCast]
        refine ⟨fun h => ?_, fun h => ?_⟩
        · have h : (((l.getD s.i 0).toNat : Nat) : Int) = 46 := by simpa using h
          have h46 : l.getD s.i 0 = 46 := UInt8.toNat.inj (by show _ = 46; omega)
          refine ⟨aSlice_bs (l := l) xu9 (by omega) (by omega) (by omega), ?_⟩
          refine ⟨app_s (l := [(List.take (((s.i : Nat) : Int).toNat - ((s.f : Nat) : Int).toNat) (List.drop ((s.f : Nat) : Int).toNat l))]) (m := s.ps) rfl rfl (Nat.zero_le _) (by simp) (by show s.ps.length + 1 ≤ 2 ^ 40; omega), ?_⟩
          intro z4 hz4 z5 hz5
          have hz4 : z4 = ((s.i + 1 : Nat) : Int) := by rw [hz4, wrapi (by omega) (by omega)]; omega
          have hz5 : z5 = ((s.i + 1 : Nat) : Int) := by rw [hz5, wrapi (by omega) (by omega)]; omega
          subst hz4 hz5
          have hc : (List.take (((s.i : Nat) : Int).toNat - ((s.f : Nat) : Int).toNat) (List.drop ((s.f : Nat) : Int).toNat l)) = (l.drop s.f).take (s.i - s.f) := by rw [Int.toNat_natCast, Int.toNat_natCast]
          refine .inr ⟨⟨s.i + 1, s.i + 1, s.ps ++ [(List.take (((s.i : Nat) : Int).toNat - ((s.f : Nat) : Int).toNat) (List.drop ((s.f : Nat) : Int).toNat l))]⟩, ⟨by show s.i + 1 ≤ l.length + 1; omega, Nat.le_refl _, by simp, by show (s.ps ++ [(List.take (((s.i : Nat) : Int).toNat - ((s.f : Nat) : Int).toNat) (List.drop ((s.f : Nat) : Int).toNat l))]).length ≤ s.i + 1; rw [List.length_append]; show s.ps.length + 1 ≤ s.i + 1; omega, ?_, ?_⟩, by show l.length + 1 - (s.i + 1) < l.length + 1 - s.i; omega,
            Gc.ren [2] (by decide) rfl rfl rfl ⟨⟨_, rfl, ro_sc _ 9 (some 0)⟩, trivial⟩ ⟨⟨_, rfl, .int _ _⟩, ⟨_, rfl, .int _ _⟩, ⟨_, rfl, rv_slice (show (s.ps ++ [(List.take (((s.i : Nat) : Int).toNat - ((s.f : Nat) : Int).toNat) (List.drop ((s.f : Nat) : Int).toNat l))]).length = s.ps.length + 1 by rw [List.length_append]; rfl) rfl⟩, ⟨_, rfl, .snil _ _⟩, ⟨_, rfl, .string _⟩, ⟨_, rfl, .int _ _⟩, trivial⟩ rfl⟩
          · intro _
            show splitL 46 [] l = (s.ps ++ [(List.take (((s.i : Nat) : Int).toNat - ((s.f : Nat) : Int).toNat) (List.drop ((s.f : Nat) : Int).toNat l))]) ++ splitL 46 ((l.drop (s.i + 1)).take (s.i + 1 - (s.i + 1))) (l.drop (s.i + 1))
            rw [hc, b5 (by omega), hdrop, splitL, if_pos h46, Nat.sub_self, List.take_zero, List.append_assoc]; rfl
          · intro h
            have h : s.i + 1 = l.length + 1 := h
            omega
        · have h : (((l.getD s.i 0).toNat : Nat) : Int) ≠ 46 := by simpa using h
          have h46 : ¬ l.getD s.i 0 = 46 := fun e => h (by rw [e]; rfl)
          intro z5 hz5
          have hz5 : z5 = ((s.i + 1 : Nat) : Int) := by rw [hz5, wrapi (by omega) (by omega)]; omega
          subst hz5
          refine .inr ⟨⟨s.i + 1, s.f, s.ps⟩, ⟨by show s.i + 1 ≤ l.length + 1; omega, by show s.f ≤ s.i + 1; omega, b3, by show s.ps.length ≤ s.i + 1; omega, ?_, ?_⟩, by show l.length + 1 - (s.i + 1) < l.length + 1 - s.i; omega, Gc.env ⟨rfl, rfl, rfl, rfl, rfl, rfl, trivial⟩⟩
          · intro _
            show splitL 46 [] l = s.ps ++ splitL 46 ((l.drop s.f).take (s.i + 1 - s.f)) (l.drop (s.i + 1))
            rw [b5 (by omega), hdrop, splitL, if_neg h46, show s.i + 1 - s.f = s.i - s.f + 1 by omega, take_succ (l := l.drop s.f) (i := s.i - s.f) (by rw [List.length_drop]; omega)]
            congr 3
            rw [List.getD_eq_getElem?_getD, List.getD_eq_getElem?_getD, List.getElem?_drop, show s.f + (s.i - s.f) = s.i by omega]
          · intro h
            have h : s.i + 1 = l.length + 1 := h
            omega
    · have hi : s.i = l.length + 1 := by have := of_decide_eq_false hd; omega
      show spost l _ _
      unfold spost
      rw [b6 hi]
      exact ⟨rfl, rfl⟩

end Go.Proofs.YtopladipgobpjaaDoor
