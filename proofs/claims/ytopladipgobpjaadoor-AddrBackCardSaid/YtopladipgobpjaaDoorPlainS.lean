/-
  The steps of reading an IPv6 address, case by case, and where it stands. No program in sight.
-/
import Derived.Test.YtopladipgobpjaaDoorPlainW
namespace Go.Proofs.YtopladipgobpjaaDoor
def sOK (l : List UInt8) (i : Nat) (x : P6) : Prop :=
  i ≤ l.length ∧ W6 x ∧ (scan6 .init l).1 = (scan6 x (l.drop i)).1 ∧ (scan6 .init l).2 = i + (scan6 x (l.drop i)).2
theorem sOK_init (l : List UInt8) : sOK l 0 .init := ⟨Nat.zero_le _, W6_init, rfl, by rw [Nat.zero_add]; rfl⟩
theorem drop_cons {l : List UInt8} {i : Nat} (h : i < l.length) : l.drop i = l.getD i 0 :: l.drop (i + 1) := by
  rw [List.drop_eq_getElem_cons h, List.getD_eq_getElem?_getD, List.getElem?_eq_getElem h]; rfl
theorem sOK_next {l : List UInt8} {i : Nat} {x y : P6} (h : sOK l i x) (hi : i < l.length) (ht : take6 x (l.getD i 0) = some y) : sOK l (i + 1) y := by
  obtain ⟨_, w, a, b⟩ := h
  rw [drop_cons hi, scan6, ht] at a b
  exact ⟨hi, take6_W w ht, a, by rw [b]; show i + ((scan6 y (l.drop (i + 1))).2 + 1) = _; omega⟩
theorem sOK_stop {l : List UInt8} {i : Nat} {x : P6} (h : sOK l i x) (hi : i < l.length) (ht : take6 x (l.getD i 0) = none) : p6R l = (none, i) := by
  obtain ⟨_, _, _, b⟩ := h
  rw [drop_cons hi, scan6, ht] at b
  have b : (scan6 .init l).2 = i := b
  unfold p6R
  rw [if_pos (by omega), b]
theorem sOK_end {l : List UInt8} {i : Nat} {x : P6} (h : sOK l i x) (hi : i = l.length) : p6R l = match addr6 x with
    | some g => (some g, 0)
    | none => (none, l.length) := by
  obtain ⟨_, _, a, b⟩ := h
  rw [hi, List.drop_length, scan6] at a b
  have b : (scan6 .init l).2 = l.length := b
  have a : (scan6 .init l).1 = x := a
  unfold p6R
  rw [if_neg (by omega), a, b]
  cases addr6 x <;> rfl
theorem t_first_yes {x : P6} (h : x.first = true) : take6 x 58 = some { x with first := false, gap := 1 } := by
  unfold take6; rw [if_pos h, if_pos rfl]
theorem t_first_no {x : P6} {c : UInt8} (h : x.first = true) (hc : c ≠ 58) : take6 x c = none := by
  unfold take6; rw [if_pos h, if_neg hc]
theorem t_dd_yes {x : P6} (h : x.first = false) (hd : x.dotted = true) (h1 : x.part ≠ []) (h2 : x.dots.length ≠ 3) : take6 x 46 = some { x with dots := x.dots ++ [val x.part], part := [] } := by
  unfold take6; rw [if_neg (by simp [h]), if_pos hd]
  unfold dot6; rw [if_pos rfl, if_neg (by rintro (e | e); exact h1 e; exact h2 e)]
theorem t_dd_no {x : P6} (h : x.first = false) (hd : x.dotted = true) (h1 : x.part = [] ∨ x.dots.length = 3) : take6 x 46 = none := by
  unfold take6; rw [if_neg (by simp [h]), if_pos hd]
  unfold dot6; rw [if_pos rfl, if_pos h1]
theorem t_dc_yes {x : P6} {c : UInt8} (h : x.first = false) (hd : x.dotted = true) (hc : c ≠ 46) (h1 : isD c = true) (h2 : dec (x.part ++ [c]) = true) : take6 x c = some { x with part := x.part ++ [c] } := by
  unfold take6; rw [if_neg (by simp [h]), if_pos hd]
  unfold dot6; rw [if_neg hc, if_pos ⟨h1, h2⟩]
theorem t_dc_no {x : P6} {c : UInt8} (h : x.first = false) (hd : x.dotted = true) (hc : c ≠ 46) (h1 : isD c = false ∨ dec (x.part ++ [c]) = false) : take6 x c = none := by
  unfold take6; rw [if_neg (by simp [h]), if_pos hd]
  unfold dot6; rw [if_neg hc, if_neg]
  rintro ⟨a, b⟩
  rcases h1 with e | e
  · rw [e] at a; cases a
  · rw [e] at b; cases b
theorem t_sep {x : P6} (h : x.first = false) (hd : x.dotted = false) : take6 x 58 = sep6 x := by
  unfold take6; rw [if_neg (by simp [h]), if_neg (by simp [hd]), if_pos rfl]
theorem t_group_yes {x : P6} (h : x.first = false) (hd : x.dotted = false) (hp : x.part ≠ []) (hm : ¬ most x.gap ≤ x.g.length + 1) : take6 x 58 = some { x with g := x.g ++ [valH x.part], part := [], colon := true } := by
  rw [t_sep h hd]; unfold sep6; rw [if_pos hp, if_neg hm]
theorem t_group_no {x : P6} (h : x.first = false) (hd : x.dotted = false) (hp : x.part ≠ []) (hm : most x.gap ≤ x.g.length + 1) : take6 x 58 = none := by
  rw [t_sep h hd]; unfold sep6; rw [if_pos hp, if_pos hm]
theorem t_begin {x : P6} (h : x.first = false) (hd : x.dotted = false) (hp : x.part = []) (h1 : x.g = []) (h2 : x.gap = 0) (h3 : x.colon = false) : take6 x 58 = some { x with first := true } := by
  rw [t_sep h hd]; unfold sep6; rw [if_neg (by simp [hp]), if_pos ⟨h1, h2, h3⟩]
theorem t_gap {x : P6} (h : x.first = false) (hd : x.dotted = false) (hp : x.part = []) (h1 : x.colon = true) (h2 : x.gap = 0) : take6 x 58 = some { x with colon := false, gap := x.g.length + 1 } := by
  rw [t_sep h hd]; unfold sep6; rw [if_neg (by simp [hp]), if_neg (by simp [h1]), if_pos ⟨h1, h2⟩]
theorem t_colon_no {x : P6} (h : x.first = false) (hd : x.dotted = false) (hp : x.part = []) (h1 : ¬ (x.g = [] ∧ x.gap = 0 ∧ x.colon = false)) (h2 : ¬ (x.colon = true ∧ x.gap = 0)) : take6 x 58 = none := by
  rw [t_sep h hd]; unfold sep6; rw [if_neg (by simp [hp]), if_neg h1, if_neg h2]
theorem t_point_yes {x : P6} (h : x.first = false) (hd : x.dotted = false) (h1 : dec x.part = true) (h2 : if x.gap = 0 then x.g.length = 6 else x.g.length ≤ 5) : take6 x 46 = some { x with dotted := true, dots := [val x.part], part := [] } := by
  unfold take6; rw [if_neg (by simp [h]), if_neg (by simp [hd]), if_neg (by decide), if_pos rfl, if_pos ⟨h1, h2⟩]
theorem t_point_no {x : P6} (h : x.first = false) (hd : x.dotted = false) (h1 : ¬ (dec x.part = true ∧ (if x.gap = 0 then x.g.length = 6 else x.g.length ≤ 5))) : take6 x 46 = none := by
  unfold take6; rw [if_neg (by simp [h]), if_neg (by simp [hd]), if_neg (by decide), if_pos rfl, if_neg h1]
theorem t_hex_yes {x : P6} {c : UInt8} (h : x.first = false) (hd : x.dotted = false) (h58 : c ≠ 58) (h46 : c ≠ 46) (h1 : 0 ≤ hx c) (h2 : ¬ most x.gap ≤ x.g.length) (h3 : x.part.length < 4) : take6 x c = some { x with colon := false, part := x.part ++ [c] } := by
  unfold take6; rw [if_neg (by simp [h]), if_neg (by simp [hd]), if_neg h58, if_neg h46, if_neg (by rintro (e | e); omega; exact h2 e), if_pos h3]
theorem t_hex_no {x : P6} {c : UInt8} (h : x.first = false) (hd : x.dotted = false) (h58 : c ≠ 58) (h46 : c ≠ 46) (h1 : hx c < 0 ∨ most x.gap ≤ x.g.length ∨ 4 ≤ x.part.length) : take6 x c = none := by
  unfold take6; rw [if_neg (by simp [h]), if_neg (by simp [hd]), if_neg h58, if_neg h46]
  by_cases e : hx c < 0 ∨ most x.gap ≤ x.g.length
  · rw [if_pos e]
  · rw [if_neg e, if_neg (by rcases h1 with a | a | a; exact absurd (.inl a) e; exact absurd (.inr a) e; omega)]
end Go.Proofs.YtopladipgobpjaaDoor
