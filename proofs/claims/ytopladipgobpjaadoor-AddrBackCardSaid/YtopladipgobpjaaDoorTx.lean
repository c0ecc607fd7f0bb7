/-
  An IPv6 address's own text, from its groups. No program in sight.
-/
import Derived.Test.YtopladipgobpjaaDoorHex
import Derived.Test.YtopladipgobpjaaDoorZer
namespace Go.Proofs.YtopladipgobpjaaDoor
open Go.Fm
def scan (g : List Int) : Nat → Int × Int
  | 0 => (-1, 1)
  | k + 1 => if (scan g k).2 < zrun (g.drop k) then (k, zrun (g.drop k)) else scan g k
def colon (l : List UInt8) : Bool := l.getLast? == some 58
def tx (g : List Int) (fr mo : Int) : Nat → Nat → List UInt8 → List UInt8
  | 0, _, l => l
  | f + 1, i, l => if i < 8 then if (i : Int) = fr then tx g fr mo f (i + mo.toNat) (l ++ [58, 58]) else
    tx g fr mo f (i + 1) ((if 0 < i ∧ colon l = false then l ++ [58] else l) ++ hexL (g.getD i 0)) else l
theorem zrun_le : ∀ l : List Int, zrun l ≤ l.length
  | [] => Nat.le_refl 0
  | x :: l => by
    unfold zrun
    split
    · have := zrun_le l; simp only [List.length_cons]; omega
    · omega
theorem scan_ok (g : List Int) : ∀ k ≤ g.length, ((scan g k).1 = -1 ∧ (scan g k).2 = 1) ∨ ∃ j m : Nat, (scan g k).1 = j ∧ (scan g k).2 = m ∧ j < k ∧ 2 ≤ m ∧ j + m ≤ g.length
  | 0, _ => .inl ⟨rfl, rfl⟩
  | k + 1, h => by
    have ih := scan_ok g k (by omega)
    unfold scan
    split
    · rename_i hlt
      have hz := zrun_le (g.drop k)
      rw [List.length_drop] at hz
      refine .inr ⟨k, zrun (g.drop k), rfl, rfl, by omega, ?_, by omega⟩
      rcases ih with ⟨_, h2⟩ | ⟨j, m, _, h2, _, h4, _⟩
      · rw [h2] at hlt; omega
      · rw [h2] at hlt; omega
    · rcases ih with h1 | ⟨j, m, h1, h2, h3, h4, h5⟩
      · exact .inl h1
      · exact .inr ⟨j, m, h1, h2, by omega, h4, h5⟩
theorem scan_pos {g : List Int} {k : Nat} (h : (scan g k).2 < zrun (g.drop k)) : scan g (k + 1) = ((k : Int), (zrun (g.drop k) : Int)) := by
  rw [scan, if_pos h]
theorem scan_neg {g : List Int} {k : Nat} (h : ¬ (scan g k).2 < zrun (g.drop k)) : scan g (k + 1) = scan g k := by
  rw [scan, if_neg h]
theorem tx_end {g : List Int} {fr mo : Int} {f k : Nat} {l : List UInt8} (h : 8 ≤ k) : tx g fr mo f k l = l := by
  cases f with
  | zero => rfl
  | succ f => rw [tx, if_neg (by omega)]
theorem tx_gap {g : List Int} {fr mo : Int} {f k : Nat} {l : List UInt8} (h : k < 8) (hf : (k : Int) = fr) : tx g fr mo (f + 1) k l = tx g fr mo f (k + mo.toNat) (l ++ [58, 58]) := by
  rw [tx, if_pos h, if_pos hf]
theorem tx_col {g : List Int} {fr mo : Int} {f k : Nat} {l : List UInt8} (h : k < 8) (hf : (k : Int) ≠ fr) (h0 : 0 < k) (hc : colon l = false) : tx g fr mo (f + 1) k l = tx g fr mo f (k + 1) (l ++ [58] ++ hexL (g.getD k 0)) := by
  rw [tx, if_pos h, if_neg hf, if_pos ⟨h0, hc⟩]
theorem tx_no {g : List Int} {fr mo : Int} {f k : Nat} {l : List UInt8} (h : k < 8) (hf : (k : Int) ≠ fr) (h0 : ¬ (0 < k ∧ colon l = false)) : tx g fr mo (f + 1) k l = tx g fr mo f (k + 1) (l ++ hexL (g.getD k 0)) := by
  rw [tx, if_pos h, if_neg hf, if_neg h0]
end Go.Proofs.YtopladipgobpjaaDoor
