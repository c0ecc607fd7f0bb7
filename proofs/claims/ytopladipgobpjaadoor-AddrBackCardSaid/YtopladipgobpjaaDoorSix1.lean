/-
  The program's digit, value and decimal: their contracts. Conditions: digit: a byte; value: at most four digits; decimal: none.
-/
import Derived.Test.YtopladipgobpjaaDoorSix0
namespace Go.Proofs.YtopladipgobpjaaDoor
open Go.Fm
def hxI (c : Int) : Int := if 48 ≤ c ∧ c ≤ 57 then c - 48 else if 97 ≤ c ∧ c ≤ 102 then c - 97 + 10 else if 65 ≤ c ∧ c ≤ 70 then c - 65 + 10 else -1
def valB (b : Int) (l : List UInt8) : Int := l.foldl (fun n c => n * b + hx c) 0
theorem hxI_hx (c : UInt8) : hxI (c.toNat : Int) = hx c := by
  unfold hxI hx
  have h1 : (48 ≤ (c.toNat : Int) ∧ (c.toNat : Int) ≤ 57) ↔ (48 ≤ c.toNat ∧ c.toNat ≤ 57) := by omega
  have h2 : (97 ≤ (c.toNat : Int) ∧ (c.toNat : Int) ≤ 102) ↔ (97 ≤ c.toNat ∧ c.toNat ≤ 102) := by omega
  have h3 : (65 ≤ (c.toNat : Int) ∧ (c.toNat : Int) ≤ 70) ↔ (65 ≤ c.toNat ∧ c.toNat ≤ 70) := by omega
  simp only [h1, h2, h3]
theorem hx_max (c : UInt8) : hx c ≤ 15 := by
  unfold hx; split
  · omega
  · split
    · omega
    · split <;> omega
def qv (l : List UInt8) (b : Int) (i : Nat) : Prop × St := (i ≤ l.length,
  ⟨[(11, .int .i64 i), (10, .int .i64 l.length), (9, .slice (some ⟨0, 0, some 1⟩) l.length l.length), (5, .int .i64 (valB b (l.take i))), (4, .int .i64 0), (0, .string (bs l)), (1, .int .i64 b)], [], [.tcells (bc l) 5 none], .norm⟩)
def mv (l : List UInt8) (_ : Int) (i : Nat) : Nat := l.length - i
def qd (l : List UInt8) (i : Nat) : Prop × St := (i ≤ l.length ∧ l.length ≤ 3 ∧ (l.take i).all isD = true,
  ⟨[(26, .int .i64 i), (25, .int .i64 l.length), (24, .slice (some ⟨0, 0, some 1⟩) l.length l.length), (3, .int .i64 (val (l.take i))), (2, .bool false), (0, .string (bs l))], [], [.tcells (bc l) 5 none], .norm⟩)
def md (l : List UInt8) (i : Nat) : Nat := l.length - i
abbrev xSix1s0 (l : List UInt8) : Scr := .skip 0 (.all (fun _z4 => .skip 1 (.inv _ (qd l) (md l) fun i5 => .skip 0 (.ask (.skip 1 (.val (.pointer (some ⟨0, (0 + (((i5 : Nat) : Int)).toNat * 1), none⟩)) (.skip 0 (.gen (Int) (fun x => .int .u8 x) fun _z6 => .skip 2 (.ask (.go) (.skip 4 (.ask (.go) (.skip 3 (.all (fun _z7 => .skip 1 (.all (fun _z8 => .skip 0 (.all (fun _z9 => .skip 0 (.all (fun _z10 => .skip 1 (.all (fun _z11 => .go)))))))))))))))))) (.skip 2 (.ask (.go) (.go)))))))
abbrev xSix1s1 : Scr := .skip 4 (.ask (.skip 4 (.all (fun _z1 => .skip 0 (.all (fun _z2 => .skip 0 (.all (fun _z3 => .go))))))) (.go))
abbrev xSix1s2 : Scr := .skip 4 (.ask (.skip 4 (.all (fun _z1 => .skip 0 (.all (fun _z2 => .skip 0 (.all (fun _z3 => .go))))))) (.skip 4 (.ask xSix1s1 (.go))))
abbrev xff0 (l : List UInt8) (Q : Res →
 Prop) : Prop := ∀ i5, (qd l i5).fst →
(((decide (((i5 : Nat) : Int) < ((l.length : Nat) : Int))) = true →
((aIndexAddr Tryd.prog 90 (.slice (some ⟨0, 0, (some 1)⟩) l.length l.length) (.int .i64 ((i5 : Nat) : Int)) = some (.pointer (some ⟨0, (0 + (((i5 : Nat) : Int)).toNat * 1), none⟩))) ∧
((∃ z6 : Int, aLoad Tryd.prog 5 (.pointer (some ⟨0, (0 + (((i5 : Nat) : Int)).toNat * 1), none⟩)) [.tcells (bc l) 5 none] = some (.int .u8 z6)) ∧
∀ z6 : Int, aLoad Tryd.prog 5 (.pointer (some ⟨0, (0 + (((i5 : Nat) : Int)).toNat * 1), none⟩)) [.tcells (bc l) 5 none] = some (.int .u8 z6) →
(((decide (z6 < 48)) = true →
 Q (.ret (.bool false))) ∧
((decide (z6 < 48)) = false →
(((decide (z6 > 57)) = true →
 Q (.ret (.bool false))) ∧
((decide (z6 > 57)) = false →
∀ z7 : Int, z7 = (IntKind.i64.wrap (val (List.take i5 l) * 10)) →
∀ z8 : Int, z8 = (IntKind.u8.wrap (z6 - 48)) →
∀ z9 : Int, z9 = (IntKind.i64.wrap z8) →
∀ z10 : Int, z10 = (IntKind.i64.wrap (z7 + z9)) →
∀ z11 : Int, z11 = (IntKind.i64.wrap (((i5 : Nat) : Int) + 1)) →
(∃ ia', ((qd l ia').fst) ∧
(md l ia' < md l i5) ∧
 Gc [] 0 ⟨[(26, (.int .i64 z11)), (42, (.int .i64 z11)), (3, (.int .i64 z10)), (41, (.int .i64 z10)), (40, (.int .i64 z9)), (39, (.int .u8 z8)), (38, (.int .u8 z6)), (37, (.int .i64 z7)), (36, (.int .i64 (val (List.take i5 l)))), (35, (.bool false)), (34, (.bool false)), (33, (.int .u8 z6)), (32, (.bool false)), (31, (.bool false)), (30, (.int .u8 z6)), (5, (.int .u8 z6)), (29, (.int .u8 z6)), (28, (.pointer (some ⟨0, (0 + (((i5 : Nat) : Int)).toNat * 1), none⟩))), (27, (.bool true)), (26, (.int .i64 ((i5 : Nat) : Int))), (25, (.int .i64 ((l.length : Nat) : Int))), (24, (.slice (some ⟨0, 0, (some 1)⟩) l.length l.length)), (3, (.int .i64 (val (List.take i5 l)))), (2, (.bool false)), (0, (.string (bs (l))))], [], [.tcells (bc l) 5 none], .norm⟩ ((qd l ia').snd))))))))) ∧
((decide (((i5 : Nat) : Int) < ((l.length : Nat) : Int))) = false →
(((decide (val (List.take i5 l) ≤ 255)) = true →
 Q (.ret (.bool true))) ∧
((decide (val (List.take i5 l) ≤ 255)) = false →
 Q (.ret (.bool false))))))
abbrev xff1 (c : Int) (Q : Res →
 Prop) : Prop := ((decide (c ≥ 65)) = true →
(((decide (c ≤ 70)) = true →
∀ z1 : Int, z1 = (IntKind.u8.wrap (c - 65)) →
∀ z2 : Int, z2 = (IntKind.i64.wrap z1) →
∀ z3 : Int, z3 = (IntKind.i64.wrap (z2 + 10)) →
 Q (.ret (.int .i64 z3))) ∧
((decide (c ≤ 70)) = false →
 Q (.ret (.int .i64 (-1)))))) ∧
((decide (c ≥ 65)) = false →
 Q (.ret (.int .i64 (-1))))
abbrev xff2 (c : Int) (Q : Res →
 Prop) : Prop := ((decide (c ≥ 97)) = true →
(((decide (c ≤ 102)) = true →
∀ z1 : Int, z1 = (IntKind.u8.wrap (c - 97)) →
∀ z2 : Int, z2 = (IntKind.i64.wrap z1) →
∀ z3 : Int, z3 = (IntKind.i64.wrap (z2 + 10)) →
 Q (.ret (.int .i64 z3))) ∧
((decide (c ≤ 102)) = false →
((xff1 c Q))))) ∧
((decide (c ≥ 97)) = false →
((xff1 c Q)))
theorem run_digit (c : Int) (Q : Res → Prop) : ((((decide (c ≥ 48)) = true →
(((decide (c ≤ 57)) = true →
∀ z1 : Int, z1 = (IntKind.u8.wrap (c - 48)) →
∀ z2 : Int, z2 = (IntKind.i64.wrap z1) →
 Q (.ret (.int .i64 z2))) ∧
((decide (c ≤ 57)) = false →
((xff2 c Q))))) ∧
((decide (c ≥ 48)) = false →
((xff2 c Q))))) =
    runS Tryd.prog [] false [] 0 (SpecC Tryd.prog []) 20 102 [.int .u8 c] [] .norm (.skip 2 (.ask (.skip 4 (.ask (.skip 4 (.all (fun _z1 => .skip 0 (.all (fun _z2 => .go))))) (.skip 4 (.ask xSix1s2 (.skip 7 (.ask xSix1s1 (.go))))))) (.skip 7 (.ask xSix1s2 (.skip 7 (.ask xSix1s1 (.go))))))) (fun r _ _ _ => Q r) := by kernel_rfl
theorem run_value (l : List UInt8) (b : Int) (Q : Res → Prop) : ((((some ((.slice (some ⟨0, 0, (some 1)⟩) l.length l.length), ([.tcells (bc l) 5 none] : AHeap)) : Option (Value × AHeap)) = some ((.slice (some ⟨0, 0, (some 1)⟩) l.length l.length), ([.tcells (bc l) 5 none] : AHeap))) ∧
∀ z1 : Int, z1 = (((l.length : Nat) : Int)) →
((∃ ia, ((qv l b ia).fst) ∧
 Gc [] 0 ⟨[(11, (.int .i64 0)), (10, (.int .i64 z1)), (9, (.slice (some ⟨0, 0, (some 1)⟩) l.length l.length)), (8, (.string (bs (l)))), (5, (.int .i64 0)), (4, (.int .i64 0)), (0, (.string (bs (l)))), (1, (.int .i64 b))], [], [.tcells (bc l) 5 none], .norm⟩ ((qv l b ia).snd)) ∧
∀ i2, (qv l b i2).fst →
(((decide (((i2 : Nat) : Int) < ((l.length : Nat) : Int))) = true →
((aIndexAddr Tryd.prog 90 (.slice (some ⟨0, 0, (some 1)⟩) l.length l.length) (.int .i64 ((i2 : Nat) : Int)) = some (.pointer (some ⟨0, (0 + (((i2 : Nat) : Int)).toNat * 1), none⟩))) ∧
((∃ z3 : Int, aLoad Tryd.prog 5 (.pointer (some ⟨0, (0 + (((i2 : Nat) : Int)).toNat * 1), none⟩)) [.tcells (bc l) 5 none] = some (.int .u8 z3)) ∧
∀ z3 : Int, aLoad Tryd.prog 5 (.pointer (some ⟨0, (0 + (((i2 : Nat) : Int)).toNat * 1), none⟩)) [.tcells (bc l) 5 none] = some (.int .u8 z3) →
∀ z4 : Int, z4 = (IntKind.i64.wrap (valB b (List.take i2 l) * b)) →
(SpecC Tryd.prog [] (.fn 102) [(.int .u8 z3)] [.tcells (bc l) 5 none] (fun r h' => ∃ ia, ((fun _ : Unit => (True, Res.ret (.int .i64 (hxI z3)), ([.tcells (bc l) 5 none] : AHeap))) ia).1 ∧
 r = ((fun _ : Unit => (True, Res.ret (.int .i64 (hxI z3)), ([.tcells (bc l) 5 none] : AHeap))) ia).2.1 ∧
 h' = ((fun _ : Unit => (True, Res.ret (.int .i64 (hxI z3)), ([.tcells (bc l) 5 none] : AHeap))) ia).2.2) ∧
∀ _ : Unit, True →
∀ z5 : Int, z5 = (IntKind.i64.wrap (z4 + hxI z3)) →
∀ z6 : Int, z6 = (IntKind.i64.wrap (((i2 : Nat) : Int) + 1)) →
(∃ ia', ((qv l b ia').fst) ∧
(mv l b ia' < mv l b i2) ∧
 Gc [] 0 ⟨[(11, (.int .i64 z6)), (21, (.int .i64 z6)), (5, (.int .i64 z5)), (20, (.int .i64 z5)), (19, (.int .i64 (hxI z3))), (18, (.int .u8 z3)), (17, (.int .i64 z4)), (16, (.int .i64 b)), (15, (.int .i64 (valB b (List.take i2 l)))), (7, (.int .u8 z3)), (14, (.int .u8 z3)), (13, (.pointer (some ⟨0, (0 + (((i2 : Nat) : Int)).toNat * 1), none⟩))), (12, (.bool true)), (11, (.int .i64 ((i2 : Nat) : Int))), (10, (.int .i64 ((l.length : Nat) : Int))), (9, (.slice (some ⟨0, 0, (some 1)⟩) l.length l.length)), (5, (.int .i64 (valB b (List.take i2 l)))), (4, (.int .i64 0)), (0, (.string (bs (l)))), (1, (.int .i64 b))], [], [.tcells (bc l) 5 none], .norm⟩ ((qv l b ia').snd)))))) ∧
((decide (((i2 : Nat) : Int) < ((l.length : Nat) : Int))) = false →
 Q (.ret (.int .i64 (valB b (List.take i2 l))))))))) =
    runS Tryd.prog [] false [102] 0 (SpecC Tryd.prog []) 20 101 [.string (bs l), .int .i64 b] [] .norm (.skip 3 (.put (.slice (some ⟨0, 0, (some 1)⟩) l.length l.length) [.tcells (bc l) 5 none] (.skip 0 (.all (fun _z1 => .skip 1 (.inv _ (qv l b) (mv l b) fun i2 => .skip 0 (.ask (.skip 1 (.val (.pointer (some ⟨0, (0 + (((i2 : Nat) : Int)).toNat * 1), none⟩)) (.skip 0 (.gen (Int) (fun x => .int .u8 x) fun z3 => .skip 3 (.all (fun _z4 => .skip 1 (.call Unit (ck (.int .i64 (hxI z3)) [.tcells (bc l) 5 none]) fun _ => .skip 0 (.all (fun _z5 => .skip 1 (.all (fun _z6 => .go))))))))))) (.go)))))))) (fun r _ _ _ => Q r) := by kernel_rfl
theorem run_decimal (l : List UInt8) (Q : Res → Prop) : (((((bs l).toList == (bs []).toList) = true →
 Q (.ret (.bool false))) ∧
(((bs l).toList == (bs []).toList) = false →
∀ z1 : Int, z1 = ((((bs l).size : Nat) : Int)) →
(((decide (z1 > 3)) = true →
 Q (.ret (.bool false))) ∧
((decide (z1 > 3)) = false →
∀ z2 : Int, z2 = ((((bs l).size : Nat) : Int)) →
(((decide (z2 > 1)) = true →
((∃ z3 : Int, aIndex Tryd.prog 9 (.string (bs (l))) (.int .i64 0) = some (.int .u8 z3)) ∧
∀ z3 : Int, aIndex Tryd.prog 9 (.string (bs (l))) (.int .i64 0) = some (.int .u8 z3) →
(((z3 == 48) = true →
 Q (.ret (.bool false))) ∧
((z3 == 48) = false →
(((some ((.slice (some ⟨0, 0, (some 1)⟩) l.length l.length), ([.tcells (bc l) 5 none] : AHeap)) : Option (Value × AHeap)) = some ((.slice (some ⟨0, 0, (some 1)⟩) l.length l.length), ([.tcells (bc l) 5 none] : AHeap))) ∧
∀ z4 : Int, z4 = (((l.length : Nat) : Int)) →
((∃ ia, ((qd l ia).fst) ∧
 Gc [] 0 ⟨[(26, (.int .i64 0)), (25, (.int .i64 z4)), (24, (.slice (some ⟨0, 0, (some 1)⟩) l.length l.length)), (23, (.string (bs (l)))), (3, (.int .i64 0)), (22, (.bool false)), (21, (.bool false)), (20, (.bool false)), (19, (.int .u8 z3)), (18, (.string (bs (l)))), (17, (.bool true)), (16, (.bool true)), (15, (.int .i64 z2)), (14, (.string (bs (l)))), (13, (.bool false)), (12, (.bool false)), (11, (.bool false)), (10, (.int .i64 z1)), (9, (.string (bs (l)))), (8, (.bool false)), (7, (.bool false)), (6, (.string (bs (l)))), (2, (.bool false)), (0, (.string (bs (l))))], [], [.tcells (bc l) 5 none], .norm⟩ ((qd l ia).snd)) ∧
(xff0 l Q))))))) ∧
((decide (z2 > 1)) = false →
(((some ((.slice (some ⟨0, 0, (some 1)⟩) l.length l.length), ([.tcells (bc l) 5 none] : AHeap)) : Option (Value × AHeap)) = some ((.slice (some ⟨0, 0, (some 1)⟩) l.length l.length), ([.tcells (bc l) 5 none] : AHeap))) ∧
∀ z3 : Int, z3 = (((l.length : Nat) : Int)) →
((∃ ia, ((qd l ia).fst) ∧
 Gc [] 0 ⟨[(26, (.int .i64 0)), (25, (.int .i64 z3)), (24, (.slice (some ⟨0, 0, (some 1)⟩) l.length l.length)), (23, (.string (bs (l)))), (3, (.int .i64 0)), (22, (.bool false)), (21, (.bool false)), (20, (.tuple ⟨[]⟩)), (19, (.tuple ⟨[]⟩)), (18, (.tuple ⟨[]⟩)), (17, (.bool false)), (16, (.bool false)), (15, (.int .i64 z2)), (14, (.string (bs (l)))), (13, (.bool false)), (12, (.bool false)), (11, (.bool false)), (10, (.int .i64 z1)), (9, (.string (bs (l)))), (8, (.bool false)), (7, (.bool false)), (6, (.string (bs (l)))), (2, (.bool false)), (0, (.string (bs (l))))], [], [.tcells (bc l) 5 none], .norm⟩ ((qd l ia).snd)) ∧
(xff0 l Q)))))))))) =
    runS Tryd.prog [] false [102] 0 (SpecC Tryd.prog []) 20 99 [.string (bs l)] [] .norm (.skip 2 (.ask (.go) (.skip 4 (.all (fun _z1 => .skip 1 (.ask (.go) (.skip 5 (.all (fun _z2 => .skip 1 (.ask (.skip 5 (.gen (Int) (fun x => .int .u8 x) fun _z3 => .skip 1 (.ask (.go) (.skip 6 (.put (.slice (some ⟨0, 0, (some 1)⟩) l.length l.length) [.tcells (bc l) 5 none] (xSix1s0 l)))))) (.skip 11 (.put (.slice (some ⟨0, 0, (some 1)⟩) l.length l.length) [.tcells (bc l) 5 none] (xSix1s0 l))))))))))))) (fun r _ _ _ => Q r) := by kernel_rfl
theorem digit_spec {c : Int} (h0 : 0 ≤ c) (h1 : c < 256) : Fm.Spec Tryd.prog [] 102 [.int .u8 c] [] fun r _ => r = .ret (.int .i64 (hxI c)) := by
  refine xspecr (run_digit c fun r => r = .ret (.int .i64 (hxI c))) ?_
  dsimp only [xff2, xff1]
  have low : (c ≥ 48 ∧ c ≤ 57) → ∀ z1 : Int, z1 = IntKind.u8.wrap (c - 48) → ∀ z2 : Int, z2 = IntKind.i64.wrap z1 → Res.ret (.int .i64 z2) = .ret (.int .i64 (hxI c)) := by
    intro h z1 hz1 z2 hz2
    rw [xwrap8 (by omega) (by omega)] at hz1
    rw [hz1, xwrapi (by omega) (by omega)] at hz2
    rw [hz2]; unfold hxI; rw [if_pos h]
  have mid : (c ≥ 97 ∧ c ≤ 102) → ∀ z1 : Int, z1 = IntKind.u8.wrap (c - 97) → ∀ z2 : Int, z2 = IntKind.i64.wrap z1 → ∀ z3 : Int, z3 = IntKind.i64.wrap (z2 + 10) → Res.ret (.int .i64 z3) = .ret (.int .i64 (hxI c)) := by
    intro h z1 hz1 z2 hz2 z3 hz3
    rw [xwrap8 (by omega) (by omega)] at hz1
    rw [hz1, xwrapi (by omega) (by omega)] at hz2
    rw [hz2, xwrapi (by omega) (by omega)] at hz3
    rw [hz3]; unfold hxI; rw [if_neg (by omega), if_pos h]
  have up : (c ≥ 65 ∧ c ≤ 70) → ∀ z1 : Int, z1 = IntKind.u8.wrap (c - 65) → ∀ z2 : Int, z2 = IntKind.i64.wrap z1 → ∀ z3 : Int, z3 = IntKind.i64.wrap (z2 + 10) → Res.ret (.int .i64 z3) = .ret (.int .i64 (hxI c)) := by
    intro h z1 hz1 z2 hz2 z3 hz3
    rw [xwrap8 (by omega) (by omega)] at hz1
    rw [hz1, xwrapi (by omega) (by omega)] at hz2
    rw [hz2, xwrapi (by omega) (by omega)] at hz3
    rw [hz3]; unfold hxI; rw [if_neg (by omega), if_neg (by omega), if_pos h]
  have none' : ¬ (c ≥ 48 ∧ c ≤ 57) → ¬ (c ≥ 97 ∧ c ≤ 102) → ¬ (c ≥ 65 ∧ c ≤ 70) → Res.ret (.int .i64 (-1)) = .ret (.int .i64 (hxI c)) := by
    intro a b d; unfold hxI; rw [if_neg (by omega), if_neg (by omega), if_neg (by omega)]
  by_cases a1 : c ≥ 48 <;> by_cases a2 : c ≤ 57 <;> by_cases b1 : c ≥ 97 <;> by_cases b2 : c ≤ 102 <;> by_cases d1 : c ≥ 65 <;> by_cases d2 : c ≤ 70 <;>
    first
      | (exfalso; omega)
      | (simp only [a1, a2, b1, b2, d1, d2, decide_true, decide_false, false_implies, and_true, true_and, Bool.false_eq_true, Bool.true_eq_false, forall_const]
         first
          | exact low ⟨by omega, by omega⟩
          | exact mid ⟨by omega, by omega⟩
          | exact up ⟨by omega, by omega⟩
          | exact none' (by omega) (by omega) (by omega))
theorem xval_bound : ∀ l : List UInt8, l.all isD = true → l.length ≤ 3 → 0 ≤ val l ∧ val l ≤ 999
  | [], _, _ => ⟨by decide, by decide⟩
  | [a], h, _ => by
    simp only [List.all_cons, List.all_nil, Bool.and_true] at h
    have := isD_dv h
    have hv : val [a] = 0 * 10 + dv a := rfl
    omega
  | [a, b], h, _ => by
    simp only [List.all_cons, List.all_nil, Bool.and_true, Bool.and_eq_true] at h
    have := isD_dv h.1; have := isD_dv h.2
    have hv : val [a, b] = (0 * 10 + dv a) * 10 + dv b := rfl
    omega
  | [a, b, c], h, _ => by
    simp only [List.all_cons, List.all_nil, Bool.and_true, Bool.and_eq_true] at h
    have := isD_dv h.1; have := isD_dv h.2.1; have := isD_dv h.2.2
    have hv : val [a, b, c] = ((0 * 10 + dv a) * 10 + dv b) * 10 + dv c := rfl
    omega
  | _ :: _ :: _ :: _ :: _, _, h => by simp only [List.length_cons] at h; omega
set_option maxRecDepth 20000 in
theorem decimal_spec {l : List UInt8} : Fm.Spec Tryd.prog [] 99 [.string (bs l)] [] fun r _ => r = .ret (.bool (dec l)) := by
  refine xspecr (run_decimal l fun r => r = .ret (.bool (dec l))) ?_
  dsimp only [xff0]
  rw [bs_toList, bs_toList]
  refine ⟨fun h => ?_, fun h => ?_⟩
  · have h : l = [] := by simpa using h
    subst h; rfl
  have hne : ¬ l = [] := by simpa using h
  have hl0 : 0 < l.length := List.length_pos_iff.2 hne
  clear h
  have hhead : l.head? = some (l.getD 0 0) := by
    cases l with
    | nil => exact absurd rfl hne
    | cons c r => rfl
  intro z hz
  have hz : z = ((l.length : Nat) : Int) := hz
  subst hz
  refine ⟨fun hg => ?_, fun hg => ?_⟩
  · have hg := of_decide_eq_true hg
    have : dec l = false := by
      unfold dec oct; rw [decide_eq_false hne, decide_eq_false (show ¬ l.length ≤ 3 by omega)]; simp
    rw [this]
  have hg := of_decide_eq_false hg
  intro z hz
  have hz : z = ((l.length : Nat) : Int) := hz
  subst hz
  refine ⟨fun hg1 => ?_, fun hg1 => ?_⟩
  · have hg1 := of_decide_eq_true hg1
    refine xstep (aIndex_bs (l := l) (i := 0) xu9 (by omega) (by omega)) ?_
    refine ⟨fun h => ?_, fun h => ?_⟩
    · have h : (((l.getD 0 0).toNat : Nat) : Int) = 48 := by simpa using h
      have h48 : l.getD 0 0 = 48 := UInt8.toNat.inj (by show _ = 48; omega)
      rw [h48] at hhead
      have : dec l = false := by
        unfold dec oct; rw [hhead, decide_eq_false hne, decide_eq_true (show 1 < l.length by omega)]; simp
      rw [this]
    have h : (((l.getD 0 0).toNat : Nat) : Int) ≠ 48 := by simpa using h
    have hz0 : (!(decide (l.head? = some 48) && decide (1 < l.length))) = true := by
      rw [hhead, decide_eq_false (fun e => h (by rw [Option.some.inj e]; rfl)), Bool.false_and]; rfl
    refine ⟨rfl, ?_⟩
    intro z hz
    have hz : z = ((l.length : Nat) : Int) := hz
    subst hz
    refine ⟨⟨0, ⟨Nat.zero_le _, by omega, rfl⟩, Gc.env ⟨rfl, rfl, rfl, rfl, rfl, rfl, trivial⟩⟩, fun i hi => ?_⟩
    obtain ⟨i1, i2, i3⟩ := hi
    refine ⟨fun hd => ?_, fun hd => ?_⟩
    · have hlt : i < l.length := by have := of_decide_eq_true hd; omega
      clear hd
      refine ⟨aIndexAddr_slice (n := (i : Int)) xu90 xs5 (by omega) (by omega), ?_⟩
      rw [Int.toNat_natCast]
      refine xstep (xbyte (l := l) rfl hlt) ?_
      have hb := (l.getD i 0).toNat_lt
      have bad : isD (l.getD i 0) = false → Res.ret (.bool false) = .ret (.bool (dec l)) := fun h => by
        have : l.all isD = false := by
          cases ha : l.all isD with
          | false => rfl
          | true => rw [List.all_eq_true.1 ha _ (xmem hlt)] at h; cases h
        unfold dec oct; rw [this]; simp [hne]
      refine ⟨fun h48 => bad ?_, fun h48 => ⟨fun h57 => bad ?_, fun h57 => ?_⟩⟩
      · have h48 := of_decide_eq_true h48
        unfold isD; rw [Bool.and_eq_false_iff]; exact .inl (decide_eq_false (by omega))
      · have h57 := of_decide_eq_true h57
        unfold isD; rw [Bool.and_eq_false_iff]; exact .inr (decide_eq_false (by omega))
      have h48 := of_decide_eq_false h48
      have h57 := of_decide_eq_false h57
      have hD : isD (l.getD i 0) = true := by unfold isD; rw [decide_eq_true (by omega), decide_eq_true (by omega)]; rfl
      have hv := xval_bound (l.take i) i3 (by rw [List.length_take]; omega)
      have hdv : dv (l.getD i 0) = ((l.getD i 0).toNat : Int) - 48 := rfl
      intro w1 hw1 w2 hw2 w3 hw3 w4 hw4 w5 hw5
      rw [xwrapi (by omega) (by omega)] at hw1
      rw [xwrap8 (by omega) (by omega)] at hw2
      rw [hw2, xwrapi (by omega) (by omega)] at hw3
      rw [hw1, hw3, xwrapi (by omega) (by omega)] at hw4
      rw [xwrapi (by omega) (by omega)] at hw5
      have hw4 : w4 = val (l.take (i + 1)) := by rw [xtake hlt, val_append, hw4]; rfl
      have hw5 : w5 = ((i + 1 : Nat) : Int) := by omega
      subst hw4 hw5
      exact ⟨i + 1, ⟨by omega, i2, by rw [xtake hlt, List.all_append, i3]; show (true && (isD (l.getD i 0) && true)) = true; rw [hD]; rfl⟩, by show l.length - (i + 1) < l.length - i; omega, Gc.env ⟨rfl, rfl, rfl, rfl, rfl, rfl, trivial⟩⟩
    · have hge : i = l.length := by have := of_decide_eq_false hd; omega
      rw [hge, List.take_length] at i3 ⊢
      have ho : dec l = decide (val l ≤ 255) := by
        unfold dec oct; rw [i3, decide_eq_true i2, decide_eq_false hne, Bool.false_or, hz0, decide_eq_true hne]; simp
      rw [ho]
      exact ⟨fun h => by rw [h], fun h => by rw [h]⟩
  · have hg1 := of_decide_eq_false hg1
    have hz0 : (!(decide (l.head? = some 48) && decide (1 < l.length))) = true := by rw [decide_eq_false (show ¬ 1 < l.length by omega), Bool.and_false]; rfl
    refine ⟨rfl, ?_⟩
    intro z hz
    have hz : z = ((l.length : Nat) : Int) := hz
    subst hz
    refine ⟨⟨0, ⟨Nat.zero_le _, by omega, rfl⟩, Gc.env ⟨rfl, rfl, rfl, rfl, rfl, rfl, trivial⟩⟩, fun i hi => ?_⟩
    obtain ⟨i1, i2, i3⟩ := hi
    refine ⟨fun hd => ?_, fun hd => ?_⟩
    · have hlt : i < l.length := by have := of_decide_eq_true hd; omega
      clear hd
      refine ⟨aIndexAddr_slice (n := (i : Int)) xu90 xs5 (by omega) (by omega), ?_⟩
      rw [Int.toNat_natCast]
      refine xstep (xbyte (l := l) rfl hlt) ?_
      have hb := (l.getD i 0).toNat_lt
      have bad : isD (l.getD i 0) = false → Res.ret (.bool false) = .ret (.bool (dec l)) := fun h => by
        have : l.all isD = false := by
          cases ha : l.all isD with
          | false => rfl
          | true => rw [List.all_eq_true.1 ha _ (xmem hlt)] at h; cases h
        unfold dec oct; rw [this]; simp [hne]
      refine ⟨fun h48 => bad ?_, fun h48 => ⟨fun h57 => bad ?_, fun h57 => ?_⟩⟩
      · have h48 := of_decide_eq_true h48
        unfold isD; rw [Bool.and_eq_false_iff]; exact .inl (decide_eq_false (by omega))
      · have h57 := of_decide_eq_true h57
        unfold isD; rw [Bool.and_eq_false_iff]; exact .inr (decide_eq_false (by omega))
      have h48 := of_decide_eq_false h48
      have h57 := of_decide_eq_false h57
      have hD : isD (l.getD i 0) = true := by unfold isD; rw [decide_eq_true (by omega), decide_eq_true (by omega)]; rfl
      have hv := xval_bound (l.take i) i3 (by rw [List.length_take]; omega)
      have hdv : dv (l.getD i 0) = ((l.getD i 0).toNat : Int) - 48 := rfl
      intro w1 hw1 w2 hw2 w3 hw3 w4 hw4 w5 hw5
      rw [xwrapi (by omega) (by omega)] at hw1
      rw [xwrap8 (by omega) (by omega)] at hw2
      rw [hw2, xwrapi (by omega) (by omega)] at hw3
      rw [hw1, hw3, xwrapi (by omega) (by omega)] at hw4
      rw [xwrapi (by omega) (by omega)] at hw5
      have hw4 : w4 = val (l.take (i + 1)) := by rw [xtake hlt, val_append, hw4]; rfl
      have hw5 : w5 = ((i + 1 : Nat) : Int) := by omega
      subst hw4 hw5
      exact ⟨i + 1, ⟨by omega, i2, by rw [xtake hlt, List.all_append, i3]; show (true && (isD (l.getD i 0) && true)) = true; rw [hD]; rfl⟩, by show l.length - (i + 1) < l.length - i; omega, Gc.env ⟨rfl, rfl, rfl, rfl, rfl, rfl, trivial⟩⟩
    · have hge : i = l.length := by have := of_decide_eq_false hd; omega
      rw [hge, List.take_length] at i3 ⊢
      have ho : dec l = decide (val l ≤ 255) := by
        unfold dec oct; rw [i3, decide_eq_true i2, decide_eq_false hne, Bool.false_or, hz0, decide_eq_true hne]; simp
      rw [ho]
      exact ⟨fun h => by rw [h], fun h => by rw [h]⟩
theorem valB_append (b : Int) (l : List UInt8) (c : UInt8) : valB b (l ++ [c]) = valB b l * b + hx c := by
  unfold valB; rw [List.foldl_append]; rfl
theorem valB_bound {b : Int} (h0 : 0 ≤ b) (h1 : b ≤ 16) : ∀ l : List UInt8, (∀ c ∈ l, 0 ≤ hx c) → l.length ≤ 4 → 0 ≤ valB b l ∧ valB b l ≤ 100000 := by
  have key : ∀ (n : Int) (c : UInt8), 0 ≤ n → 0 ≤ hx c → 0 ≤ n * b + hx c ∧ n * b + hx c ≤ n * 16 + 15 := by
    intro n c hn hc
    have := hx_max c
    have a := Int.mul_le_mul_of_nonneg_left h1 hn
    have d := Int.mul_nonneg hn h0
    omega
  intro l hl hlen
  match l, hlen with
  | [], _ =>
    have e : valB b [] = 0 := rfl
    omega
  | [p], _ =>
    have := key 0 p (by omega) (hl p (by simp))
    have e : valB b [p] = 0 * b + hx p := rfl
    omega
  | [p, q], _ =>
    have k1 := key 0 p (by omega) (hl p (by simp))
    have k2 := key _ q k1.1 (hl q (by simp))
    have e : valB b [p, q] = (0 * b + hx p) * b + hx q := rfl
    omega
  | [p, q, r], _ =>
    have k1 := key 0 p (by omega) (hl p (by simp))
    have k2 := key _ q k1.1 (hl q (by simp))
    have k3 := key _ r k2.1 (hl r (by simp))
    have e : valB b [p, q, r] = ((0 * b + hx p) * b + hx q) * b + hx r := rfl
    omega
  | [p, q, r, s], _ =>
    have k1 := key 0 p (by omega) (hl p (by simp))
    have k2 := key _ q k1.1 (hl q (by simp))
    have k3 := key _ r k2.1 (hl r (by simp))
    have k4 := key _ s k3.1 (hl s (by simp))
    have e : valB b [p, q, r, s] = (((0 * b + hx p) * b + hx q) * b + hx r) * b + hx s := rfl
    omega
  | _ :: _ :: _ :: _ :: _ :: _, h => simp only [List.length_cons] at h; omega
theorem value_spec {l : List UInt8} {b : Int} (hb0 : 0 ≤ b) (hb1 : b ≤ 16) (hl : ∀ c ∈ l, 0 ≤ hx c) (hlen : l.length ≤ 4) : Fm.Spec Tryd.prog [] 101 [.string (bs l), .int .i64 b] [] fun r _ => r = .ret (.int .i64 (valB b l)) := by
  refine xspecr (run_value l b fun r => r = .ret (.int .i64 (valB b l))) ?_
  refine ⟨rfl, ?_⟩
  intro z hz
  subst hz
  refine ⟨⟨0, Nat.zero_le _, Gc.env ⟨rfl, rfl, rfl, rfl, rfl, rfl, rfl, trivial⟩⟩, fun i hi => ?_⟩
  have hi : i ≤ l.length := hi
  refine ⟨fun hd => ?_, fun hd => ?_⟩
  · have hlt : i < l.length := by have := of_decide_eq_true hd; omega
    clear hd
    refine ⟨aIndexAddr_slice (n := (i : Int)) xu90 xs5 (by omega) (by omega), ?_⟩
    rw [Int.toNat_natCast]
    refine xstep (xbyte (l := l) rfl hlt) ?_
    have hb := (l.getD i 0).toNat_lt
    have hc := hl _ (xmem hlt)
    have hm := hx_max (l.getD i 0)
    have hv := valB_bound hb0 hb1 (l.take i) (fun c h => hl c (List.mem_of_mem_take h)) (by rw [List.length_take]; omega)
    have hmul := Int.mul_le_mul_of_nonneg_left hb1 hv.1
    have hmul0 := Int.mul_nonneg hv.1 hb0
    intro w1 hw1
    rw [xwrapi hmul0 (by omega)] at hw1
    refine (xfun_of (digit_spec (c := ((l.getD i 0).toNat : Int)) (by omega) (by omega)) (.int _ _)).call (by intro u hu; rw [List.mem_singleton] at hu; subst hu; exact .int _ _) ?_
    rw [hxI_hx]
    intro w4 hw4 w5 hw5
    rw [hw1, xwrapi (by omega) (by omega)] at hw4
    rw [xwrapi (by omega) (by omega)] at hw5
    have hw4 : w4 = valB b (l.take (i + 1)) := by rw [xtake hlt, valB_append, hw4]
    have hw5 : w5 = ((i + 1 : Nat) : Int) := by omega
    subst hw4 hw5
    exact ⟨i + 1, by show i + 1 ≤ l.length; omega, by show l.length - (i + 1) < l.length - i; omega, Gc.env ⟨rfl, rfl, rfl, rfl, rfl, rfl, rfl, trivial⟩⟩
  · have hge : i = l.length := by have := of_decide_eq_false hd; omega
    rw [hge, List.take_length]
theorem valB_16 (l : List UInt8) : valB 16 l = valH l := rfl
theorem valB_10 : ∀ l : List UInt8, l.all isD = true → valB 10 l = val l := by
  have key : ∀ (l : List UInt8) (n : Int), l.all isD = true → l.foldl (fun n c => n * 10 + hx c) n = l.foldl (fun n c => n * 10 + dv c) n := by
    intro l
    induction l with
    | nil => intro n _; rfl
    | cons c r ih =>
      intro n h
      rw [List.all_cons, Bool.and_eq_true] at h
      have e : hx c = dv c := by
        have h1 := h.1
        unfold isD at h1
        simp only [Bool.and_eq_true, decide_eq_true_eq] at h1
        unfold hx dv; rw [if_pos h1]
      rw [List.foldl_cons, List.foldl_cons, e]
      exact ih _ h.2
  exact fun l h => key l 0 h
end Go.Proofs.YtopladipgobpjaaDoor
