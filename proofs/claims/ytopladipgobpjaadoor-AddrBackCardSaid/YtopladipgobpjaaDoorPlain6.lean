/-
  The text of an IPv6 address, read letter by letter in two ways that come to the same. No program in sight.
-/
import Derived.Test.YtopladipgobpjaaDoorPlain4
namespace Go.Proofs.YtopladipgobpjaaDoor
def hx (c : UInt8) : Int :=
  if 48 ≤ c.toNat ∧ c.toNat ≤ 57 then (c.toNat : Int) - 48 else if 97 ≤ c.toNat ∧ c.toNat ≤ 102 then (c.toNat : Int) - 97 + 10 else if 65 ≤ c.toNat ∧ c.toNat ≤ 70 then (c.toNat : Int) - 65 + 10 else -1
def valH (l : List UInt8) : Int := l.foldl (fun n c => n * 16 + hx c) 0
def dec (l : List UInt8) : Bool := decide (l ≠ []) && oct 255 l
structure P6 where
  g : List Int
  part : List UInt8
  gap : Nat
  colon : Bool
  first : Bool
  dots : List Int
  dotted : Bool
def P6.init : P6 := ⟨[], [], 0, false, false, [], false⟩
def most (gap : Nat) : Nat := if gap = 0 then 8 else 7
def dot6 (x : P6) (c : UInt8) : Option P6 :=
  if c = 46 then if x.part = [] ∨ x.dots.length = 3 then none else some { x with dots := x.dots ++ [val x.part], part := [] }
  else if isD c = true ∧ dec (x.part ++ [c]) = true then some { x with part := x.part ++ [c] } else none
def sep6 (x : P6) : Option P6 :=
  if x.part ≠ [] then if most x.gap ≤ x.g.length + 1 then none else some { x with g := x.g ++ [valH x.part], part := [], colon := true }
  else if x.g = [] ∧ x.gap = 0 ∧ x.colon = false then some { x with first := true }
  else if x.colon = true ∧ x.gap = 0 then some { x with colon := false, gap := x.g.length + 1 } else none
def take6 (x : P6) (c : UInt8) : Option P6 :=
  if x.first = true then if c = 58 then some { x with first := false, gap := 1 } else none
  else if x.dotted = true then dot6 x c
  else if c = 58 then sep6 x
  else if c = 46 then if dec x.part = true ∧ (if x.gap = 0 then x.g.length = 6 else x.g.length ≤ 5) then some { x with dotted := true, dots := [val x.part], part := [] } else none
  else if hx c < 0 ∨ most x.gap ≤ x.g.length then none
  else if x.part.length < 4 then some { x with colon := false, part := x.part ++ [c] } else none
def mid6 (x : P6) : Option (List Int) :=
  if x.dotted = true then if x.dots.length = 3 ∧ x.part ≠ [] then some (x.g ++ [x.dots.getD 0 0 * 256 + x.dots.getD 1 0, x.dots.getD 2 0 * 256 + val x.part]) else none
  else if x.part ≠ [] then some (x.g ++ [valH x.part]) else some x.g
def fin6 (gap : Nat) (g : List Int) : Option (List Int) :=
  if gap = 0 then if g.length = 8 then some g else none else some (g.take (gap - 1) ++ List.replicate (8 - g.length) 0 ++ g.drop (gap - 1))
def addr6 (x : P6) : Option (List Int) := if x.first = true ∨ x.colon = true then none else (mid6 x).bind (fin6 x.gap)
theorem isD_hx {c : UInt8} (h : isD c = true) : 0 ≤ hx c := by
  unfold isD at h
  simp only [Bool.and_eq_true, decide_eq_true_eq] at h
  unfold hx; rw [if_pos h]; omega
theorem oct_hex {l : List UInt8} (h : oct 255 l = true) : (∀ c ∈ l, 0 ≤ hx c) ∧ l.length ≤ 3 := by
  by_cases hl : l = []
  · subst hl; exact ⟨by simp, by simp⟩
  · unfold oct at h
    rw [decide_eq_false hl, Bool.false_or] at h
    simp only [Bool.and_eq_true, decide_eq_true_eq] at h
    exact ⟨fun c hc => isD_hx (List.all_eq_true.1 h.1.2 c hc), h.1.1.2⟩
theorem dec_snoc (l : List UInt8) (c : UInt8) : dec (l ++ [c]) = oct 255 (l ++ [c]) := by
  unfold dec; rw [decide_eq_true (by simp), Bool.true_and]
def scan6 : P6 → List UInt8 → P6 × Nat
  | x, [] => (x, 0)
  | x, c :: r => match take6 x c with
    | some y => ((scan6 y r).1, (scan6 y r).2 + 1)
    | none => (x, 0)
def p6R (s : List UInt8) : Option (List Int) × Nat :=
  if (scan6 .init s).2 < s.length then (none, (scan6 .init s).2) else match addr6 (scan6 .init s).1 with
    | some g => (some g, 0)
    | none => (none, (scan6 .init s).2)
end Go.Proofs.YtopladipgobpjaaDoor
