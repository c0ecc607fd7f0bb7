/-
  The reference's Parse4: its contract. Condition: the text's length is below 2^62.
-/
import Derived.Test.YtopladipgobpjaaDoorBeg
import Derived.Test.YtopladipgobpjaaDoorFmE
namespace Go.Proofs.YtopladipgobpjaaDoor
open Go.Fm

def qp (l : List UInt8) (n : Nat) : Prop × St := (n ≤ scanP 3 0 0 l,
  ⟨[(5, .int .i64 n), (4, .int .i64 0), (3, .int .i64 0), (2, .pointer (some ⟨0, 0, none⟩)), (0, .string (bs l))], [], [.tcells [.int .u8 0, .int .u8 0, .int .u8 0, .int .u8 0] 23 (some 0)], .norm⟩)
def mp (l : List UInt8) (n : Nat) : Nat := scanP 3 0 0 l - n

abbrev xRParse4h0 (l : List UInt8) (z6 : Int) (z8 : Int) (z10 : Int) : AHeap := [.tcells [(.int .u8 0), (.int .u8 0), (.int .u8 0), (.int .u8 0)] 23 (some 0), .tcells (sc (splitL 46 [] l)) 9 (some 0), .tcells [(.int .u8 z6), (.int .u8 z8), (.int .u8 z10), (.int .u8 0)] 23 (some 0)]
abbrev xRParse4h1 (l : List UInt8) (z6 : Int) (z8 : Int) : AHeap := [.tcells [(.int .u8 0), (.int .u8 0), (.int .u8 0), (.int .u8 0)] 23 (some 0), .tcells (sc (splitL 46 [] l)) 9 (some 0), .tcells [(.int .u8 z6), (.int .u8 z8), (.int .u8 0), (.int .u8 0)] 23 (some 0)]
abbrev xRParse4h2 (l : List UInt8) (z6 : Int) : AHeap := [.tcells [(.int .u8 0), (.int .u8 0), (.int .u8 0), (.int .u8 0)] 23 (some 0), .tcells (sc (splitL 46 [] l)) 9 (some 0), .tcells [(.int .u8 z6), (.int .u8 0), (.int .u8 0), (.int .u8 0)] 23 (some 0)]
abbrev xRParse4h3 (l : List UInt8) : AHeap := [.tcells [(.int .u8 0), (.int .u8 0), (.int .u8 0), (.int .u8 0)] 23 (some 0), .tcells (sc (splitL 46 [] l)) 9 (some 0), .tcells [(.int .u8 0), (.int .u8 0), (.int .u8 0), (.int .u8 0)] 23 (some 0)]
abbrev xRParse4h4 (l : List UInt8) : AHeap := [.tcells [(.int .u8 0), (.int .u8 0), (.int .u8 0), (.int .u8 0)] 23 (some 0), .tcells (sc (splitL 46 [] l)) 9 (some 0)]
abbrev xRParse4s0 (l : List UInt8) : Scr := .skip 4 (.call Unit (ck (.bool (w4 l)) [.tcells [(.int .u8 0), (.int .u8 0), (.int .u8 0), (.int .u8 0)] 23 (some 0)]) fun _ => .skip 1 (.ask (.go) (.skip 3 (.call2 (true) ((.ret (.slice (some ⟨1, 0, (some 1)⟩) ((splitL 46 [] l).length) ((splitL 46 [] l).length))), ((xRParse4h4 l) : AHeap)) ((.ret .nilIface), ([] : AHeap)) (.skip 5 (.unr 60 (.skip 6 (.val (.pointer (some ⟨1, 0, none⟩)) (.skip 0 (.gen (List UInt8) (fun x => .string (bs x)) fun z5 => .skip 0 (.call Unit (ck (.int .i64 (val z5)) (xRParse4h3 l)) fun _ => .skip 0 (.all (fun z6 => .skip 11 (.val (.pointer (some ⟨1, 1, none⟩)) (.skip 0 (.gen (List UInt8) (fun x => .string (bs x)) fun z7 => .skip 0 (.call Unit (ck (.int .i64 (val z7)) (xRParse4h2 l z6)) fun _ => .skip 0 (.all (fun z8 => .skip 11 (.val (.pointer (some ⟨1, 2, none⟩)) (.skip 0 (.gen (List UInt8) (fun x => .string (bs x)) fun z9 => .skip 0 (.call Unit (ck (.int .i64 (val z9)) (xRParse4h1 l z6 z8)) fun _ => .skip 0 (.all (fun z10 => .skip 11 (.val (.pointer (some ⟨1, 3, none⟩)) (.skip 0 (.gen (List UInt8) (fun x => .string (bs x)) fun z11 => .skip 0 (.call Unit (ck (.int .i64 (val z11)) (xRParse4h0 l z6 z8 z10)) fun _ => .skip 0 (.all (fun _z12 => .go))))))))))))))))))))))))))) (.skip 0 .go)))))

theorem run_rparse4 (l : List UInt8) (Q : Res → Prop) : (((∃ ia, ((qp l ia).fst) ∧ Gc [] 0 ⟨[(5, (.int .i64 0)), (4, (.int .i64 0)), (3, (.int .i64 0)), (2, (.pointer (some ⟨0, 0, none⟩))), (0, (.string (bs (l))))], [], [.tcells [(.int .u8 0), (.int .u8 0), (.int .u8 0), (.int .u8 0)] 23 (some 0)], .norm⟩ ((qp l ia).snd)) ∧
   ∀ i1, (qp l i1).fst → 
    ∀ z2 : Int, z2 = ((((bs l).size : Nat) : Int)) → 
    (((decide (((i1 : Nat) : Int) < z2)) = true → 
      ∀ z3 : Int, z3 = (IntKind.i64.wrap (((i1 : Nat) : Int) + 1)) → 
      ((aSlice Tryd.prog 9 (.string (bs (l))) none (some (.int .i64 z3)) none = some (.string (bs (List.take z3.toNat l)))) ∧ 
      (SpecC Tryd.prog [] (.fn 52) [(.string (bs (List.take z3.toNat l)))] [.tcells [(.int .u8 0), (.int .u8 0), (.int .u8 0), (.int .u8 0)] 23 (some 0)] (fun r h' => ∃ ia, ((fun _ : Unit => (True, Res.ret (.bool (b4 (List.take z3.toNat l))), ([.tcells [(.int .u8 0), (.int .u8 0), (.int .u8 0), (.int .u8 0)] 23 (some 0)] : AHeap))) ia).1 ∧ r = ((fun _ : Unit => (True, Res.ret (.bool (b4 (List.take z3.toNat l))), ([.tcells [(.int .u8 0), (.int .u8 0), (.int .u8 0), (.int .u8 0)] 23 (some 0)] : AHeap))) ia).2.1 ∧ h' = ((fun _ : Unit => (True, Res.ret (.bool (b4 (List.take z3.toNat l))), ([.tcells [(.int .u8 0), (.int .u8 0), (.int .u8 0), (.int .u8 0)] 23 (some 0)] : AHeap))) ia).2.2) ∧ ∀ _ : Unit, True → 
      (((b4 (List.take z3.toNat l)) = true → 
        ∀ z4 : Int, z4 = (IntKind.i64.wrap (((i1 : Nat) : Int) + 1)) → (∃ ia', ((qp l ia').fst) ∧ (mp l ia' < mp l i1) ∧ Gc [] 0 ⟨[(5, (.int .i64 z4)), (21, (.int .i64 z4)), (20, (.int .i64 ((i1 : Nat) : Int))), (19, (.bool (b4 (List.take z3.toNat l)))), (18, (.bool (b4 (List.take z3.toNat l)))), (17, (.string (bs (List.take z3.toNat l)))), (16, (.int .i64 z3)), (15, (.int .i64 ((i1 : Nat) : Int))), (14, (.string (bs (l)))), (13, (.bool true)), (12, (.bool true)), (11, (.int .i64 z2)), (10, (.string (bs (l)))), (9, (.int .i64 ((i1 : Nat) : Int))), (5, (.int .i64 ((i1 : Nat) : Int))), (4, (.int .i64 0)), (3, (.int .i64 0)), (2, (.pointer (some ⟨0, 0, none⟩))), (0, (.string (bs (l))))], [], [.tcells [(.int .u8 0), (.int .u8 0), (.int .u8 0), (.int .u8 0)] 23 (some 0)], .norm⟩ ((qp l ia').snd))) ∧
       ((b4 (List.take z3.toNat l)) = false → 
        ∀ z4 : Int, z4 = ((((bs l).size : Nat) : Int)) → 
        (((decide (((i1 : Nat) : Int) < z4)) = true → Q (.ret (.tuple ⟨[(.agg ⟨[(.int .u8 0), (.int .u8 0), (.int .u8 0), (.int .u8 0)]⟩), (.int .i64 ((i1 : Nat) : Int)), (.int .i64 20)]⟩))) ∧
         ((decide (((i1 : Nat) : Int) < z4)) = false → 
          (SpecC Tryd.prog [] (.fn 53) [(.string (bs (l)))] [.tcells [(.int .u8 0), (.int .u8 0), (.int .u8 0), (.int .u8 0)] 23 (some 0)] (fun r h' => ∃ ia, ((fun _ : Unit => (True, Res.ret (.bool (w4 l)), ([.tcells [(.int .u8 0), (.int .u8 0), (.int .u8 0), (.int .u8 0)] 23 (some 0)] : AHeap))) ia).1 ∧ r = ((fun _ : Unit => (True, Res.ret (.bool (w4 l)), ([.tcells [(.int .u8 0), (.int .u8 0), (.int .u8 0), (.int .u8 0)] 23 (some 0)] : AHeap))) ia).2.1 ∧ h' = ((fun _ : Unit => (True, Res.ret (.bool (w4 l)), ([.tcells [(.int .u8 0), (.int .u8 0), (.int .u8 0), (.int .u8 0)] 23 (some 0)] : AHeap))) ia).2.2) ∧ ∀ _ : Unit, True → 
          (((!w4 l) = true → Q (.ret (.tuple ⟨[(.agg ⟨[(.int .u8 0), (.int .u8 0), (.int .u8 0), (.int .u8 0)]⟩), (.int .i64 ((i1 : Nat) : Int)), (.int .i64 20)]⟩))) ∧
           ((!w4 l) = false → 
            (SpecC Tryd.prog [] (.fn 54) [(.string (bs (l))), (.int .u8 46)] [.tcells [(.int .u8 0), (.int .u8 0), (.int .u8 0), (.int .u8 0)] 23 (some 0)] (fun r h' => ((true) = true → r = (((.ret (.slice (some ⟨1, 0, (some 1)⟩) ((splitL 46 [] l).length) ((splitL 46 [] l).length))), ([.tcells [(.int .u8 0), (.int .u8 0), (.int .u8 0), (.int .u8 0)] 23 (some 0), .tcells (sc (splitL 46 [] l)) 9 (some 0)] : AHeap)) : Res × AHeap).1 ∧ h' = (((.ret (.slice (some ⟨1, 0, (some 1)⟩) ((splitL 46 [] l).length) ((splitL 46 [] l).length))), ([.tcells [(.int .u8 0), (.int .u8 0), (.int .u8 0), (.int .u8 0)] 23 (some 0), .tcells (sc (splitL 46 [] l)) 9 (some 0)] : AHeap)) : Res × AHeap).2) ∧ ((true) = false → r = (((.ret .nilIface), ([] : AHeap)) : Res × AHeap).1 ∧ h' = (((.ret .nilIface), ([] : AHeap)) : Res × AHeap).2)) ∧
             (((true) = true → 
              ((aIndexAddr Tryd.prog 74 (.slice (some ⟨1, 0, (some 1)⟩) ((splitL 46 [] l).length) ((splitL 46 [] l).length)) (.int .i64 0) = some (.pointer (some ⟨1, 0, none⟩))) ∧ 
              ((∃ z5 : List UInt8, aLoad Tryd.prog 9 (.pointer (some ⟨1, 0, none⟩)) [.tcells [(.int .u8 0), (.int .u8 0), (.int .u8 0), (.int .u8 0)] 23 (some 0), .tcells (sc (splitL 46 [] l)) 9 (some 0), .tcells [(.int .u8 0), (.int .u8 0), (.int .u8 0), (.int .u8 0)] 23 (some 0)] = some (.string (bs z5))) ∧ ∀ z5 : List UInt8, aLoad Tryd.prog 9 (.pointer (some ⟨1, 0, none⟩)) [.tcells [(.int .u8 0), (.int .u8 0), (.int .u8 0), (.int .u8 0)] 23 (some 0), .tcells (sc (splitL 46 [] l)) 9 (some 0), .tcells [(.int .u8 0), (.int .u8 0), (.int .u8 0), (.int .u8 0)] 23 (some 0)] = some (.string (bs z5)) → 
              (SpecC Tryd.prog [] (.fn 55) [(.string (bs (z5)))] [.tcells [(.int .u8 0), (.int .u8 0), (.int .u8 0), (.int .u8 0)] 23 (some 0), .tcells (sc (splitL 46 [] l)) 9 (some 0), .tcells [(.int .u8 0), (.int .u8 0), (.int .u8 0), (.int .u8 0)] 23 (some 0)] (fun r h' => ∃ ia, ((fun _ : Unit => (True, Res.ret (.int .i64 (val z5)), ([.tcells [(.int .u8 0), (.int .u8 0), (.int .u8 0), (.int .u8 0)] 23 (some 0), .tcells (sc (splitL 46 [] l)) 9 (some 0), .tcells [(.int .u8 0), (.int .u8 0), (.int .u8 0), (.int .u8 0)] 23 (some 0)] : AHeap))) ia).1 ∧ r = ((fun _ : Unit => (True, Res.ret (.int .i64 (val z5)), ([.tcells [(.int .u8 0), (.int .u8 0), (.int .u8 0), (.int .u8 0)] 23 (some 0), .tcells (sc (splitL 46 [] l)) 9 (some 0), .tcells [(.int .u8 0), (.int .u8 0), (.int .u8 0), (.int .u8 0)] 23 (some 0)] : AHeap))) ia).2.1 ∧ h' = ((fun _ : Unit => (True, Res.ret (.int .i64 (val z5)), ([.tcells [(.int .u8 0), (.int .u8 0), (.int .u8 0), (.int .u8 0)] 23 (some 0), .tcells (sc (splitL 46 [] l)) 9 (some 0), .tcells [(.int .u8 0), (.int .u8 0), (.int .u8 0), (.int .u8 0)] 23 (some 0)] : AHeap))) ia).2.2) ∧ ∀ _ : Unit, True → 
              ∀ z6 : Int, z6 = (IntKind.u8.wrap (val z5)) → 
              ((aIndexAddr Tryd.prog 74 (.slice (some ⟨1, 0, (some 1)⟩) ((splitL 46 [] l).length) ((splitL 46 [] l).length)) (.int .i64 1) = some (.pointer (some ⟨1, 1, none⟩))) ∧ 
              ((∃ z7 : List UInt8, aLoad Tryd.prog 9 (.pointer (some ⟨1, 1, none⟩)) [.tcells [(.int .u8 0), (.int .u8 0), (.int .u8 0), (.int .u8 0)] 23 (some 0), .tcells (sc (splitL 46 [] l)) 9 (some 0), .tcells [(.int .u8 z6), (.int .u8 0), (.int .u8 0), (.int .u8 0)] 23 (some 0)] = some (.string (bs z7))) ∧ ∀ z7 : List UInt8, aLoad Tryd.prog 9 (.pointer (some ⟨1, 1, none⟩)) [.tcells [(.int .u8 0), (.int .u8 0), (.int .u8 0), (.int .u8 0)] 23 (some 0), .tcells (sc (splitL 46 [] l)) 9 (some 0), .tcells [(.int .u8 z6), (.int .u8 0), (.int .u8 0), (.int .u8 0)] 23 (some 0)] = some (.string (bs z7)) → 
              (SpecC Tryd.prog [] (.fn 55) [(.string (bs (z7)))] [.tcells [(.int .u8 0), (.int .u8 0), (.int .u8 0), (.int .u8 0)] 23 (some 0), .tcells (sc (splitL 46 [] l)) 9 (some 0), .tcells [(.int .u8 z6), (.int .u8 0), (.int .u8 0), (.int .u8 0)] 23 (some 0)] (fun r h' => ∃ ia, ((fun _ : Unit => (True, Res.ret (.int .i64 (val z7)), ([.tcells [(.int .u8 0), (.int .u8 0), (.int .u8 0), (.int .u8 0)] 23 (some 0), .tcells (sc (splitL 46 [] l)) 9 (some 0), .tcells [(.int .u8 z6), (.int .u8 0), (.int .u8 0), (.int .u8 0)] 23 (some 0)] : AHeap))) ia).1 ∧ r = ((fun _ : Unit => (True, Res.ret (.int .i64 (val z7)), ([.tcells [(.int .u8 0), (.int .u8 0), (.int .u8 0), (.int .u8 0)] 23 (some 0), .tcells (sc (splitL 46 [] l)) 9 (some 0), .tcells [(.int .u8 z6), (.int .u8 0), (.int .u8 0), (.int .u8 0)] 23 (some 0)] : AHeap))) ia).2.1 ∧ h' = ((fun _ : Unit => (True, Res.ret (.int .i64 (val z7)), ([.tcells [(.int .u8 0), (.int .u8 0), (.int .u8 0), (.int .u8 0)] 23 (some 0), .tcells (sc (splitL 46 [] l)) 9 (some 0), .tcells [(.int .u8 z6), (.int .u8 0), (.int .u8 0), (.int .u8 0)] 23 (some 0)] : AHeap))) ia).2.2) ∧ ∀ _ : Unit, True → 
              ∀ z8 : Int, z8 = (IntKind.u8.wrap (val z7)) → 
              ((aIndexAddr Tryd.prog 74 (.slice (some ⟨1, 0, (some 1)⟩) ((splitL 46 [] l).length) ((splitL 46 [] l).length)) (.int .i64 2) = some (.pointer (some ⟨1, 2, none⟩))) ∧ 
              ((∃ z9 : List UInt8, aLoad Tryd.prog 9 (.pointer (some ⟨1, 2, none⟩)) [.tcells [(.int .u8 0), (.int .u8 0), (.int .u8 0), (.int .u8 0)] 23 (some 0), .tcells (sc (splitL 46 [] l)) 9 (some 0), .tcells [(.int .u8 z6), (.int .u8 z8), (.int .u8 0), (.int .u8 0)] 23 (some 0)] = some (.string (bs z9))) ∧ ∀ z9 : List UInt8, aLoad Tryd.prog 9 (.pointer (some ⟨1, 2, none⟩)) [.tcells [(.int .u8 0), (.int .u8 0), (.int .u8 0), (.int .u8 0)] 23 (some 0), .tcells (sc (splitL 46 [] l)) 9 (some 0), .tcells [(.int .u8 z6), (.int .u8 z8), (.int .u8 0), (.int .u8 0)] 23 (some 0)] = some (.string (bs z9)) → 
              (SpecC Tryd.prog [] (.fn 55) [(.string (bs (z9)))] [.tcells [(.int .u8 0), (.int .u8 0), (.int .u8 0), (.int .u8 0)] 23 (some 0), .tcells (sc (splitL 46 [] l)) 9 (some 0), .tcells [(.int .u8 z6), (.int .u8 z8), (.int .u8 0), (.int .u8 0)] 23 (some 0)] (fun r h' => ∃ ia, ((fun _ : Unit => (True, Res.ret (.int .i64 (val z9)), ([.tcells [(.int .u8 0), (.int .u8 0), (.int .u8 0), (.int .u8 0)] 23 (some 0), .tcells (sc (splitL 46 [] l)) 9 (some 0), .tcells [(.int .u8 z6), (.int .u8 z8), (.int .u8 0), (.int .u8 0)] 23 (some 0)] : AHeap))) ia).1 ∧ r = ((fun _ : Unit => (True, Res.ret (.int .i64 (val z9)), ([.tcells [(.int .u8 0), (.int .u8 0), (.int .u8 0), (.int .u8 0)] 23 (some 0), .tcells (sc (splitL 46 [] l)) 9 (some 0), .tcells [(.int .u8 z6), (.int .u8 z8), (.int .u8 0), (.int .u8 0)] 23 (some 0)] : AHeap))) ia).2.1 ∧ h' = ((fun _ : Unit => (True, Res.ret (.int .i64 (val z9)), ([.tcells [(.int .u8 0), (.int .u8 0), (.int .u8 0), (.int .u8 0)] 23 (some 0), .tcells (sc (splitL 46 [] l)) 9 (some 0), .tcells [(.int .u8 z6), (.int .u8 z8), (.int .u8 0), (.int .u8 0)] 23 (some 0)] : AHeap))) ia).2.2) ∧ ∀ _ : Unit, True → 
              ∀ z10 : Int, z10 = (IntKind.u8.wrap (val z9)) → 
              ((aIndexAddr Tryd.prog 74 (.slice (some ⟨1, 0, (some 1)⟩) ((splitL 46 [] l).length) ((splitL 46 [] l).length)) (.int .i64 3) = some (.pointer (some ⟨1, 3, none⟩))) ∧ 
              ((∃ z11 : List UInt8, aLoad Tryd.prog 9 (.pointer (some ⟨1, 3, none⟩)) [.tcells [(.int .u8 0), (.int .u8 0), (.int .u8 0), (.int .u8 0)] 23 (some 0), .tcells (sc (splitL 46 [] l)) 9 (some 0), .tcells [(.int .u8 z6), (.int .u8 z8), (.int .u8 z10), (.int .u8 0)] 23 (some 0)] = some (.string (bs z11))) ∧ ∀ z11 : List UInt8, aLoad Tryd.prog 9 (.pointer (some ⟨1, 3, none⟩)) [.tcells [(.int .u8 0), (.int .u8 0), (.int .u8 0), (.int .u8 0)] 23 (some 0), .tcells (sc (splitL 46 [] l)) 9 (some 0), .tcells [(.int .u8 z6), (.int .u8 z8), (.int .u8 z10), (.int .u8 0)] 23 (some 0)] = some (.string (bs z11)) → 
              (SpecC Tryd.prog [] (.fn 55) [(.string (bs (z11)))] [.tcells [(.int .u8 0), (.int .u8 0), (.int .u8 0), (.int .u8 0)] 23 (some 0), .tcells (sc (splitL 46 [] l)) 9 (some 0), .tcells [(.int .u8 z6), (.int .u8 z8), (.int .u8 z10), (.int .u8 0)] 23 (some 0)] (fun r h' => ∃ ia, ((fun _ : Unit => (True, Res.ret (.int .i64 (val z11)), ([.tcells [(.int .u8 0), (.int .u8 0), (.int .u8 0), (.int .u8 0)] 23 (some 0), .tcells (sc (splitL 46 [] l)) 9 (some 0), .tcells [(.int .u8 z6), (.int .u8 z8), (.int .u8 z10), (.int .u8 0)] 23 (some 0)] : AHeap))) ia).1 ∧ r = ((fun _ : Unit => (True, Res.ret (.int .i64 (val z11)), ([.tcells [(.int .u8 0), (.int .u8 0), (.int .u8 0), (.int .u8 0)] 23 (some 0), .tcells (sc (splitL 46 [] l)) 9 (some 0), .tcells [(.int .u8 z6), (.int .u8 z8), (.int .u8 z10), (.int .u8 0)] 23 (some 0)] : AHeap))) ia).2.1 ∧ h' = ((fun _ : Unit => (True, Res.ret (.int .i64 (val z11)), ([.tcells [(.int .u8 0), (.int .u8 0), (.int .u8 0), (.int .u8 0)] 23 (some 0), .tcells (sc (splitL 46 [] l)) 9 (some 0), .tcells [(.int .u8 z6), (.int .u8 z8), (.int .u8 z10), (.int .u8 0)] 23 (some 0)] : AHeap))) ia).2.2) ∧ ∀ _ : Unit, True → 
              ∀ z12 : Int, z12 = (IntKind.u8.wrap (val z11)) → Q (.ret (.tuple ⟨[(.agg ⟨[(.int .u8 z6), (.int .u8 z8), (.int .u8 z10), (.int .u8 z12)]⟩), (.int .i64 0), (.int .i64 0)]⟩))))))))))))))) ∧
             ((true) = false → False))))))))))))) ∧
     ((decide (((i1 : Nat) : Int) < z2)) = false → 
      ∀ z3 : Int, z3 = ((((bs l).size : Nat) : Int)) → 
      (((decide (((i1 : Nat) : Int) < z3)) = true → Q (.ret (.tuple ⟨[(.agg ⟨[(.int .u8 0), (.int .u8 0), (.int .u8 0), (.int .u8 0)]⟩), (.int .i64 ((i1 : Nat) : Int)), (.int .i64 20)]⟩))) ∧
       ((decide (((i1 : Nat) : Int) < z3)) = false → 
        (SpecC Tryd.prog [] (.fn 53) [(.string (bs (l)))] [.tcells [(.int .u8 0), (.int .u8 0), (.int .u8 0), (.int .u8 0)] 23 (some 0)] (fun r h' => ∃ ia, ((fun _ : Unit => (True, Res.ret (.bool (w4 l)), ([.tcells [(.int .u8 0), (.int .u8 0), (.int .u8 0), (.int .u8 0)] 23 (some 0)] : AHeap))) ia).1 ∧ r = ((fun _ : Unit => (True, Res.ret (.bool (w4 l)), ([.tcells [(.int .u8 0), (.int .u8 0), (.int .u8 0), (.int .u8 0)] 23 (some 0)] : AHeap))) ia).2.1 ∧ h' = ((fun _ : Unit => (True, Res.ret (.bool (w4 l)), ([.tcells [(.int .u8 0), (.int .u8 0), (.int .u8 0), (.int .u8 0)] 23 (some 0)] : AHeap))) ia).2.2) ∧ ∀ _ : Unit, True → 
        (((!w4 l) = true → Q (.ret (.tuple ⟨[(.agg ⟨[(.int .u8 0), (.int .u8 0), (.int .u8 0), (.int .u8 0)]⟩), (.int .i64 ((i1 : Nat) : Int)), (.int .i64 20)]⟩))) ∧
         ((!w4 l) = false → 
          (SpecC Tryd.prog [] (.fn 54) [(.string (bs (l))), (.int .u8 46)] [.tcells [(.int .u8 0), (.int .u8 0), (.int .u8 0), (.int .u8 0)] 23 (some 0)] (fun r h' => ((true) = true → r = (((.ret (.slice (some ⟨1, 0, (some 1)⟩) ((splitL 46 [] l).length) ((splitL 46 [] l).length))), ([.tcells [(.int .u8 0), (.int .u8 0), (.int .u8 0), (.int .u8 0)] 23 (some 0), .tcells (sc (splitL 46 [] l)) 9 (some 0)] : AHeap)) : Res × AHeap).1 ∧ h' = (((.ret (.slice (some ⟨1, 0, (some 1)⟩) ((splitL 46 [] l).length) ((splitL 46 [] l).length))), ([.tcells [(.int .u8 0), (.int .u8 0), (.int .u8 0), (.int .u8 0)] 23 (some 0), .tcells (sc (splitL 46 [] l)) 9 (some 0)] : AHeap)) : Res × AHeap).2) ∧ ((true) = false → r = (((.ret .nilIface), ([] : AHeap)) : Res × AHeap).1 ∧ h' = (((.ret .nilIface), ([] : AHeap)) : Res × AHeap).2)) ∧
           (((true) = true → 
            ((aIndexAddr Tryd.prog 74 (.slice (some ⟨1, 0, (some 1)⟩) ((splitL 46 [] l).length) ((splitL 46 [] l).length)) (.int .i64 0) = some (.pointer (some ⟨1, 0, none⟩))) ∧ 
            ((∃ z4 : List UInt8, aLoad Tryd.prog 9 (.pointer (some ⟨1, 0, none⟩)) [.tcells [(.int .u8 0), (.int .u8 0), (.int .u8 0), (.int .u8 0)] 23 (some 0), .tcells (sc (splitL 46 [] l)) 9 (some 0), .tcells [(.int .u8 0), (.int .u8 0), (.int .u8 0), (.int .u8 0)] 23 (some 0)] = some (.string (bs z4))) ∧ ∀ z4 : List UInt8, aLoad Tryd.prog 9 (.pointer (some ⟨1, 0, none⟩)) [.tcells [(.int .u8 0), (.int .u8 0), (.int .u8 0), (.int .u8 0)] 23 (some 0), .tcells (sc (splitL 46 [] l)) 9 (some 0), .tcells [(.int .u8 0), (.int .u8 0), (.int .u8 0), (.int .u8 0)] 23 (some 0)] = some (.string (bs z4)) → 
            (SpecC Tryd.prog [] (.fn 55) [(.string (bs (z4)))] [.tcells [(.int .u8 0), (.int .u8 0), (.int .u8 0), (.int .u8 0)] 23 (some 0), .tcells (sc (splitL 46 [] l)) 9 (some 0), .tcells [(.int .u8 0), (.int .u8 0), (.int .u8 0), (.int .u8 0)] 23 (some 0)] (fun r h' => ∃ ia, ((fun _ : Unit => (True, Res.ret (.int .i64 (val z4)), ([.tcells [(.int .u8 0), (.int .u8 0), (.int .u8 0), (.int .u8 0)] 23 (some 0), .tcells (sc (splitL 46 [] l)) 9 (some 0), .tcells [(.int .u8 0), (.int .u8 0), (.int .u8 0), (.int .u8 0)] 23 (some 0)] : AHeap))) ia).1 ∧ r = ((fun _ : Unit => (True, Res.ret (.int .i64 (val z4)), ([.tcells [(.int .u8 0), (.int .u8 0), (.int .u8 0), (.int .u8 0)] 23 (some 0), .tcells (sc (splitL 46 [] l)) 9 (some 0), .tcells [(.int .u8 0), (.int .u8 0), (.int .u8 0), (.int .u8 0)] 23 (some 0)] : AHeap))) ia).2.1 ∧ h' = ((fun _ : Unit => (True, Res.ret (.int .i64 (val z4)), ([.tcells [(.int .u8 0), (.int .u8 0), (.int .u8 0), (.int .u8 0)] 23 (some 0), .tcells (sc (splitL 46 [] l)) 9 (some 0), .tcells [(.int .u8 0), (.int .u8 0), (.int .u8 0), (.int .u8 0)] 23 (some 0)] : AHeap))) ia).2.2) ∧ ∀ _ : Unit, True → 
            ∀ z5 : Int, z5 = (IntKind.u8.wrap (val z4)) → 
            ((aIndexAddr Tryd.prog 74 (.slice (some ⟨1, 0, (some 1)⟩) ((splitL 46 [] l).length) ((splitL 46 [] l).length)) (.int .i64 1) = some (.pointer (some ⟨1, 1, none⟩))) ∧ 
            ((∃ z6 : List UInt8, aLoad Tryd.prog 9 (.pointer (some ⟨1, 1, none⟩)) [.tcells [(.int .u8 0), (.int .u8 0), (.int .u8 0), (.int .u8 0)] 23 (some 0), .tcells (sc (splitL 46 [] l)) 9 (some 0), .tcells [(.int .u8 z5), (.int .u8 0), (.int .u8 0), (.int .u8 0)] 23 (some 0)] = some (.string (bs z6))) ∧ ∀ z6 : List UInt8, aLoad Tryd.prog 9 (.pointer (some ⟨1, 1, none⟩)) [.tcells [(.int .u8 0), (.int .u8 0), (.int .u8 0), (.int .u8 0)] 23 (some 0), .tcells (sc (splitL 46 [] l)) 9 (some 0), .tcells [(.int .u8 z5), (.int .u8 0), (.int .u8 0), (.int .u8 0)] 23 (some 0)] = some (.string (bs z6)) → 
            (SpecC Tryd.prog [] (.fn 55) [(.string (bs (z6)))] [.tcells [(.int .u8 0), (.int .u8 0), (.int .u8 0), (.int .u8 0)] 23 (some 0), .tcells (sc (splitL 46 [] l)) 9 (some 0), .tcells [(.int .u8 z5), (.int .u8 0), (.int .u8 0), (.int .u8 0)] 23 (some 0)] (fun r h' => ∃ ia, ((fun _ : Unit => (True, Res.ret (.int .i64 (val z6)), ([.tcells [(.int .u8 0), (.int .u8 0), (.int .u8 0), (.int .u8 0)] 23 (some 0), .tcells (sc (splitL 46 [] l)) 9 (some 0), .tcells [(.int .u8 z5), (.int .u8 0), (.int .u8 0), (.int .u8 0)] 23 (some 0)] : AHeap))) ia).1 ∧ r = ((fun _ : Unit => (True, Res.ret (.int .i64 (val z6)), ([.tcells [(.int .u8 0), (.int .u8 0), (.int .u8 0), (.int .u8 0)] 23 (some 0), .tcells (sc (splitL 46 [] l)) 9 (some 0), .tcells [(.int .u8 z5), (.int .u8 0), (.int .u8 0), (.int .u8 0)] 23 (some 0)] : AHeap))) ia).2.1 ∧ h' = ((fun _ : Unit => (True, Res.ret (.int .i64 (val z6)), ([.tcells [(.int .u8 0), (.int .u8 0), (.int .u8 0), (.int .u8 0)] 23 (some 0), .tcells (sc (splitL 46 [] l)) 9 (some 0), .tcells [(.int .u8 z5), (.int .u8 0), (.int .u8 0), (.int .u8 0)] 23 (some 0)] : AHeap))) ia).2.2) ∧ ∀ _ : Unit, True → 
            ∀ z7 : Int, z7 = (IntKind.u8.wrap (val z6)) → 
            ((aIndexAddr Tryd.prog 74 (.slice (some ⟨1, 0, (some 1)⟩) ((splitL 46 [] l).length) ((splitL 46 [] l).length)) (.int .i64 2) = some (.pointer (some ⟨1, 2, none⟩))) ∧ 
            ((∃ z8 : List UInt8, aLoad Tryd.prog 9 (.pointer (some ⟨1, 2, none⟩)) [.tcells [(.int .u8 0), (.int .u8 0), (.int .u8 0), (.int .u8 0)] 23 (some 0), .tcells (sc (splitL 46 [] l)) 9 (some 0), .tcells [(.int .u8 z5), (.int .u8 z7), (.int .u8 0), (.int .u8 0)] 23 (some 0)] = some (.string (bs z8))) ∧ ∀ z8 : List UInt8, aLoad Tryd.prog 9 (.pointer (some ⟨1, 2, none⟩)) [.tcells [(.int .u8 0), (.int .u8 0), (.int .u8 0), (.int .u8 0)] 23 (some 0), .tcells (sc (splitL 46 [] l)) 9 (some 0), .tcells [(.int .u8 z5), (.int .u8 z7), (.int .u8 0), (.int .u8 0)] 23 (some 0)] = some (.string (bs z8)) → 
            (SpecC Tryd.prog [] (.fn 55) [(.string (bs (z8)))] [.tcells [(.int .u8 0), (.int .u8 0), (.int .u8 0), (.int .u8 0)] 23 (some 0), .tcells (sc (splitL 46 [] l)) 9 (some 0), .tcells [(.int .u8 z5), (.int .u8 z7), (.int .u8 0), (.int .u8 0)] 23 (some 0)] (fun r h' => ∃ ia, ((fun _ : Unit => (True, Res.ret (.int .i64 (val z8)), ([.tcells [(.int .u8 0), (.int .u8 0), (.int .u8 0), (.int .u8 0)] 23 (some 0), .tcells (sc (splitL 46 [] l)) 9 (some 0), .tcells [(.int .u8 z5), (.int .u8 z7), (.int .u8 0), (.int .u8 0)] 23 (some 0)] : AHeap))) ia).1 ∧ r = ((fun _ : Unit => (True, Res.ret (.int .i64 (val z8)), ([.tcells [(.int .u8 0), (.int .u8 0), (.int .u8 0), (.int .u8 0)] 23 (some 0), .tcells (sc (splitL 46 [] l)) 9 (some 0), .tcells [(.int .u8 z5), (.int .u8 z7), (.int .u8 0), (.int .u8 0)] 23 (some 0)] : AHeap))) ia).2.1 ∧ h' = ((fun _ : Unit => (True, Res.ret (.int .i64 (val z8)), ([.tcells [(.int .u8 0), (.int .u8 0), (.int .u8 0), (.int .u8 0)] 23 (some 0), .tcells (sc (splitL 46 [] l)) 9 (some 0), .tcells [(.int .u8 z5), (.int .u8 z7), (.int .u8 0), (.int .u8 0)] 23 (some 0)] : AHeap))) ia).2.2) ∧ ∀ _ : Unit, True → 
            ∀ z9 : Int, z9 = (IntKind.u8.wrap (val z8)) → 
            ((aIndexAddr Tryd.prog 74 (.slice (some ⟨1, 0, (some 1)⟩) ((splitL 46 [] l).length) ((splitL 46 [] l).length)) (.int .i64 3) = some (.pointer (some ⟨1, 3, none⟩))) ∧ 
            ((∃ z10 : List UInt8, aLoad Tryd.prog 9 (.pointer (some ⟨1, 3, none⟩)) [.tcells [(.int .u8 0), (.int .u8 0), (.int .u8 0), (.int .u8 0)] 23 (some 0), .tcells (sc (splitL 46 [] l)) 9 (some 0), .tcells [(.int .u8 z5), (.int .u8 z7), (.int .u8 z9), (.int .u8 0)] 23 (some 0)] = some (.string (bs z10))) ∧ ∀ z10 : List UInt8, aLoad Tryd.prog 9 (.pointer (some ⟨1, 3, none⟩)) [.tcells [(.int .u8 0), (.int .u8 0), (.int .u8 0), (.int .u8 0)] 23 (some 0), .tcells (sc (splitL 46 [] l)) 9 (some 0), .tcells [(.int .u8 z5), (.int .u8 z7), (.int .u8 z9), (.int .u8 0)] 23 (some 0)] = some (.string (bs z10)) → 
            (SpecC Tryd.prog [] (.fn 55) [(.string (bs (z10)))] [.tcells [(.int .u8 0), (.int .u8 0), (.int .u8 0), (.int .u8 0)] 23 (some 0), .tcells (sc (splitL 46 [] l)) 9 (some 0), .tcells [(.int .u8 z5), (.int .u8 z7), (.int .u8 z9), (.int .u8 0)] 23 (some 0)] (fun r h' => ∃ ia, ((fun _ : Unit => (True, Res.ret (.int .i64 (val z10)), ([.tcells [(.int .u8 0), (.int .u8 0), (.int .u8 0), (.int .u8 0)] 23 (some 0), .tcells (sc (splitL 46 [] l)) 9 (some 0), .tcells [(.int .u8 z5), (.int .u8 z7), (.int .u8 z9), (.int .u8 0)] 23 (some 0)] : AHeap))) ia).1 ∧ r = ((fun _ : Unit => (True, Res.ret (.int .i64 (val z10)), ([.tcells [(.int .u8 0), (.int .u8 0), (.int .u8 0), (.int .u8 0)] 23 (some 0), .tcells (sc (splitL 46 [] l)) 9 (some 0), .tcells [(.int .u8 z5), (.int .u8 z7), (.int .u8 z9), (.int .u8 0)] 23 (some 0)] : AHeap))) ia).2.1 ∧ h' = ((fun _ : Unit => (True, Res.ret (.int .i64 (val z10)), ([.tcells [(.int .u8 0), (.int .u8 0), (.int .u8 0), (.int .u8 0)] 23 (some 0), .tcells (sc (splitL 46 [] l)) 9 (some 0), .tcells [(.int .u8 z5), (.int .u8 z7), (.int .u8 z9), (.int .u8 0)] 23 (some 0)] : AHeap))) ia).2.2) ∧ ∀ _ : Unit, True → 
            ∀ z11 : Int, z11 = (IntKind.u8.wrap (val z10)) → Q (.ret (.tuple ⟨[(.agg ⟨[(.int .u8 z5), (.int .u8 z7), (.int .u8 z9), (.int .u8 z11)]⟩), (.int .i64 0), (.int .i64 0)]⟩))))))))))))))) ∧
           ((true) = false → False)))))))))))) =
    runS Tryd.prog [] false [52, 53, 54, 55] 0 (SpecC Tryd.prog []) 20 14 [.string (bs l)] [] .norm (.skip 4 (.inv _ (qp l) (mp l) fun _i1 => .skip 2 (.all (fun _z2 => .skip 0 (.ask (.skip 6 (.all (fun z3 => .skip 1 (.val (.string (bs (List.take z3.toNat l))) (.skip 1 (.call Unit (ck (.bool (b4 (List.take z3.toNat l))) [.tcells [(.int .u8 0), (.int .u8 0), (.int .u8 0), (.int .u8 0)] 23 (some 0)]) fun _ => .skip 1 (.ask (.skip 1 (.all (fun _z4 => .go))) (.skip 2 (.all (fun _z4 => .skip 0 (.ask (.go) (xRParse4s0 l)))))))))))) (.skip 10 (.all (fun _z3 => .skip 0 (.ask (.go) (xRParse4s0 l)))))))))) (fun r _ _ _ => Q r) := by kernel_rfl

/-- how far a scan can go -/
def fit (cnt : Nat) (n : Int) : Prop := (cnt = 0 ∧ n = 0) ∨ (cnt = 1 ∧ 0 ≤ n ∧ n ≤ 9) ∨ (cnt = 2 ∧ 10 ≤ n ∧ n ≤ 99) ∨ (cnt = 3 ∧ 100 ≤ n ∧ n ≤ 255)

theorem fit_next {cnt : Nat} {n : Int} {c : UInt8} (h : fit cnt n) (ho : okd 255 cnt n c = true) : fit (cnt + 1) (n * 10 + dv c) := by
  obtain ⟨h1, h2, h3⟩ := okd_iff.1 ho
  have := isD_dv h1
  unfold fit at h ⊢
  omega

theorem scanP_max : ∀ (l : List UInt8) (k cnt : Nat) (n : Int), fit cnt n → scanP k cnt n l + cnt ≤ 4 * k + 3
  | [], k, cnt, n, h => by unfold scanP; unfold fit at h; omega
  | c :: r, k, cnt, n, h => by
    unfold scanP
    split
    · split
      · rename_i hk
        have := scanP_max r (k - 1) 0 0 (.inl ⟨rfl, rfl⟩)
        unfold fit at h
        omega
      · unfold fit at h; omega
    · split
      · rename_i ho
        have := scanP_max r k (cnt + 1) (n * 10 + dv c) (fit_next h ho)
        omega
      · unfold fit at h; omega

theorem oct_parts {l : List UInt8} (h : oct 255 l = true) : l.all isD = true ∧ l.length ≤ 3 ∧ 0 ≤ val l ∧ val l ≤ 255 := by
  unfold oct at h
  by_cases hl : l = []
  · subst hl; exact ⟨rfl, by simp, by decide, by decide⟩
  · rw [decide_eq_false hl, Bool.false_or] at h
    simp only [Bool.and_eq_true, decide_eq_true_eq] at h
    exact ⟨h.1.2, h.1.1.2, (val_bound l h.1.2 h.1.1.2).1, h.2⟩

theorem split_at {H : AHeap} {l : List UInt8} (hl : l.length ≤ 1000) (he : H.all noE = true) :
    Fm.Spec Tryd.prog [] 54 [.string (bs l), .int .u8 46] H fun r h' => r = .ret (.slice (some ⟨H.length, 0, some 1⟩) (splitL 46 [] l).length (splitL 46 [] l).length) ∧ h' = H ++ [.tcells (sc (splitL 46 [] l)) 9 (some 0)] := by
  have E : Emb [] (fun _ => none) [] H := by
    refine ⟨fun x y q hx _ => (by cases hx), by simp, fun x q hx => (by cases hx), fun q ro hq => ?_⟩
    have := List.all_eq_true.1 he _ (List.mem_of_getElem? hq)
    cases this
  refine Spec.mono (Spec.frame (gs' := []) (split_spec hl) E (.cons (.string _) (.cons (.int _ _) .nil)) (by simp) ?_) ?_
  · rintro r h0' ⟨rfl, rfl⟩; rfl
  · rintro r h' ⟨r0, h0', ⟨rfl, rfl⟩, rfl, rfl⟩
    refine ⟨rfl, ?_⟩
    have hs : ∀ (N : Nat) (P : List (List UInt8)), (sc P).all (scopeV N 8) = true := by
      intro N P
      rw [List.all_eq_true]
      intro v hv
      obtain ⟨p, _, rfl⟩ := List.mem_map.1 hv
      rfl
    have hm : ∀ (f : Nat → Nat) (P : List (List UInt8)), (sc P).map (renV f 8) = sc P := by
      intro f P
      induction P with
      | nil => rfl
      | cons a r ih =>
        show renV f 8 (.string (bs a)) :: (sc r).map (renV f 8) = .string (bs a) :: sc r
        rw [ih]; rfl
    show H ++ [renO _ 1 (.tcells (sc (splitL 46 [] l)) 9 (some 0))] = _
    unfold renO
    simp only [hs, hm, cond_true]

theorem split_call_at {H H1 : AHeap} {k : Nat} {l : List UInt8} (hl : l.length ≤ 1000) (he : H.all noE = true) (hk : k = H.length) (h1 : H1 = H ++ [.tcells (sc (splitL 46 [] l)) 9 (some 0)]) {X : Prop} (hX : X) :
    SpecC Tryd.prog [] (.fn 54) [.string (bs l), .int .u8 46] H (fun r h' => ((true) = true → r = (((.ret (.slice (some ⟨k, 0, (some 1)⟩) ((splitL 46 [] l).length) ((splitL 46 [] l).length))), (H1 : AHeap)) : Res × AHeap).1 ∧ h' = (((.ret (.slice (some ⟨k, 0, (some 1)⟩) ((splitL 46 [] l).length) ((splitL 46 [] l).length))), (H1 : AHeap)) : Res × AHeap).2) ∧
      ((true) = false → r = (((.ret .nilIface), ([] : AHeap)) : Res × AHeap).1 ∧ h' = (((.ret .nilIface), ([] : AHeap)) : Res × AHeap).2)) ∧ (((true) = true → X) ∧ ((true) = false → False)) := by
  subst hk h1
  exact ⟨.inl (Spec.mono (split_at hl he) (by rintro r h' ⟨rfl, rfl⟩; exact ⟨fun _ => ⟨rfl, rfl⟩, fun h => by cases h⟩)), fun _ => hX, fun h => by cases h⟩

theorem list_four {α : Type} {l : List α} {d : α} (h : l.length = 4) : l = [l.getD 0 d, l.getD 1 d, l.getD 2 d, l.getD 3 d] := by
  match l, h with
  | [a, b, c, e], _ => rfl

set_option maxRecDepth 20000 in
theorem rparse4_spec {l : List UInt8} (hl : l.length < 2 ^ 63) : Fm.Spec Tryd.prog [] 14 [.string (bs l)] [] fun r _ => r = .ret (p4V l) := by
  refine spec_of_eqr9 (run_rparse4 l fun r => r = .ret (p4V l)) ?_
  have hN := scanP_le l 3 0 0
  have hM := scanP_max l 3 0 0 (.inl ⟨rfl, rfl⟩)
  refine ⟨⟨0, Nat.zero_le _, Gc.env ⟨rfl, rfl, rfl, rfl, rfl, trivial⟩⟩, fun n hn => ?_⟩
  have hn : n ≤ scanP 3 0 0 l := hn
  intro z hz
  have hz : z = ((l.length : Nat) : Int) := hz
  subst hz
  refine ⟨fun hd => ?_, fun hd => ?_⟩
  · have hlt : n < l.length := by have := of_decide_eq_true hd; omega
    clear hd
    intro z3 hz3
    rw [wrap62 (by omega) (by omega)] at hz3
    have hz3 : z3 = ((n + 1 : Nat) : Int) := by omega
    subst hz3
    refine ⟨aSlice_bs_to (l := l) xu9 (by omega) (by omega), ?_⟩
    rw [Int.toNat_natCast]
    refine (fun_of (beg_spec (l := l.take (n + 1)) (by rw [List.length_take]; omega)) (.bool _)).call (one_mem (.string _)) ?_
    rw [b4_take l (n + 1) (by omega)]
    refine ⟨fun hb => ?_, fun hb => ?_⟩
    · have hb := of_decide_eq_true hb
      intro z4 hz4
      rw [wrap62 (by omega) (by omega)] at hz4
      have hz4 : z4 = ((n + 1 : Nat) : Int) := by omega
      subst hz4
      exact ⟨n + 1, hb, by show scanP 3 0 0 l - (n + 1) < scanP 3 0 0 l - n; omega, Gc.env ⟨rfl, rfl, rfl, rfl, rfl, trivial⟩⟩
    · have hb := of_decide_eq_false hb
      intro z4 hz4
      have hz4 : z4 = ((l.length : Nat) : Int) := hz4
      subst hz4
      refine ⟨fun _ => ?_, fun hd => by have := of_decide_eq_false hd; omega⟩
      have he : p4R l = (none, n) := by unfold p4R; rw [if_pos (by omega), show scanP 3 0 0 l = n by omega]
      unfold p4V; rw [he]
  · have hge : n = l.length := by have := of_decide_eq_false hd; omega
    have hS : scanP 3 0 0 l = l.length := by omega
    intro z3 hz3
    have hz3 : z3 = ((l.length : Nat) : Int) := hz3
    subst hz3
    refine ⟨fun hd => by have := of_decide_eq_true hd; omega, fun _ => ?_⟩
    refine (fun_of (who_spec (l := l) (by omega)) (.bool _)).call (one_mem (.string _)) ?_
    refine ⟨fun hw => ?_, fun hw => ?_⟩
    · have hw : w4 l = false := by simpa using hw
      rw [w4_gv, decide_eq_true hS, Bool.true_and] at hw
      have hg : gv 3 0 0 l = none := by simpa using hw
      have he : p4R l = (none, n) := by unfold p4R; rw [if_neg (by omega), hg, hS, hge]
      unfold p4V; rw [he]
    have hw : w4 l = true := by simpa using hw
    obtain ⟨_, hg, h4, hall⟩ := w4_parts hw
    have ho : ∀ j < 4, oct 255 ((splitL 46 [] l).getD j []) = true := fun j hj => hall _ (by
      rw [List.getD_eq_getElem?_getD, List.getElem?_eq_getElem (by omega)]; exact List.getElem_mem _)
    refine split_call_at (by omega) rfl rfl rfl ?_
    refine ⟨aIndexAddr_slice (n := 0) ty_u74 ty_s9 (by omega) (by omega), ?_⟩
    refine gen_stepS (aLoad_sc (l := (splitL 46 [] l)) (k := 0) ty_a9 rfl (by omega)) ?_
    have o0 := oct_parts (ho 0 (by omega))
    refine (fun_of (rnum_spec o0.1 o0.2.1) (.int _ _)).call (one_mem (.string _)) ?_
    intro y0 hy0
    rw [wrap8 o0.2.2.1 (by omega)] at hy0
    refine ⟨aIndexAddr_slice (n := 1) ty_u74 ty_s9 (by omega) (by omega), ?_⟩
    refine gen_stepS (aLoad_sc (l := (splitL 46 [] l)) (k := 1) ty_a9 rfl (by omega)) ?_
    have o1 := oct_parts (ho 1 (by omega))
    refine (fun_of (rnum_spec o1.1 o1.2.1) (.int _ _)).call (one_mem (.string _)) ?_
    intro y1 hy1
    rw [wrap8 o1.2.2.1 (by omega)] at hy1
    refine ⟨aIndexAddr_slice (n := 2) ty_u74 ty_s9 (by omega) (by omega), ?_⟩
    refine gen_stepS (aLoad_sc (l := (splitL 46 [] l)) (k := 2) ty_a9 rfl (by omega)) ?_
    have o2 := oct_parts (ho 2 (by omega))
    refine (fun_of (rnum_spec o2.1 o2.2.1) (.int _ _)).call (one_mem (.string _)) ?_
    intro y2 hy2
    rw [wrap8 o2.2.2.1 (by omega)] at hy2
    refine ⟨aIndexAddr_slice (n := 3) ty_u74 ty_s9 (by omega) (by omega), ?_⟩
    refine gen_stepS (aLoad_sc (l := (splitL 46 [] l)) (k := 3) ty_a9 rfl (by omega)) ?_
    have o3 := oct_parts (ho 3 (by omega))
    refine (fun_of (rnum_spec o3.1 o3.2.1) (.int _ _)).call (one_mem (.string _)) ?_
    intro y3 hy3
    rw [wrap8 o3.2.2.1 (by omega)] at hy3
    have he : p4R l = (some [y0, y1, y2, y3], 0) := by
      unfold p4R
      rw [if_neg (by omega), hg, hy0, hy1, hy2, hy3]
      have := congrArg (List.map val) (list_four (d := []) h4)
      rw [this]; rfl
    unfold p4V; rw [he]

end Go.Proofs.YtopladipgobpjaaDoor
