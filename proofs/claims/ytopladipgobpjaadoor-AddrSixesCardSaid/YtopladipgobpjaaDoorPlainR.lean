/-
  The reference's reading of an IPv6 address, step by step: what stands good, and where it stands. No program in sight.
-/
import Derived.Test.YtopladipgobpjaaDoorPlainA
namespace Go.Proofs.YtopladipgobpjaaDoor

structure RW (y : R6) : Prop where
  len : y.l.length ≤ 7
  plen : y.part.length ≤ 15
  g0 : -1 ≤ y.gap
  gl : y.gap ≤ y.l.length
  lok : okG y.l

theorem RW_init : RW .init := ⟨by decide, by decide, by decide, by decide, fun n h => by cases h⟩

theorem rroom_ge {y : R6} (h : 0 ≤ y.gap) : rroom y = 7 := by unfold rroom; rw [if_pos h]
theorem rroom_lt {y : R6} (h : ¬ 0 ≤ y.gap) : rroom y = 8 := by unfold rroom; rw [if_neg h]
theorem rroom_le (y : R6) : rroom y ≤ 8 := by unfold rroom; split <;> omega

theorem rtake_RW (hb4 : ∀ p : List UInt8, b4 p = true → p.length ≤ 15) {s : List UInt8} {i : Nat} {y z : R6} {c : UInt8} (w : RW y) (h : rtake s i y c = some z) : RW z := by
  unfold rtake at h
  split at h
  · split at h
    · injection h with h; subst h
      have := w.len
      exact ⟨w.len, w.plen, by show (-1 : Int) ≤ (y.l.length : Int); omega, by show (y.l.length : Int) ≤ y.l.length; omega, w.lok⟩
    · split at h
      · injection h with h; subst h; exact w
      · cases h
  · split at h
    · split at h
      · cases h
      · rename_i hn
        injection h with h; subst h
        have hg : grp y.part = true := by
          cases e : grp y.part with
          | true => rfl
          | false => exact absurd (.inl e) hn
        have hr : ¬ rroom y ≤ y.l.length + 1 := fun e => hn (.inr e)
        have := rroom_le y
        have g := w.gl
        obtain ⟨g1, _, g3⟩ := grp_iff.1 hg
        refine ⟨by rw [List.length_append]; show y.l.length + 1 ≤ 7; omega, by show 0 ≤ 15; omega, w.g0, by rw [List.length_append]; show y.gap ≤ ((y.l.length + 1 : Nat) : Int); omega, okG_app w.lok ?_⟩
        intro n hm
        rw [List.mem_singleton] at hm; subst hm
        exact valH_bound y.part g1 g3
    · split at h
      · cases h
      · split at h
        · rename_i hd
          injection h with h; subst h
          refine ⟨w.len, ?_, w.g0, w.gl, w.lok⟩
          show (y.part ++ [c]).length ≤ 15
          rcases hd with ⟨hg, _⟩ | ⟨hb, _⟩
          · have := (grp_iff.1 hg).2.2
            omega
          · exact hb4 _ hb
        · cases h

/-- what is known ahead of the i-th letter -/
def rOK (l : List UInt8) (i : Nat) (y : R6) : Prop :=
  i ≤ l.length ∧ RW y ∧ (rscan l 0 .init l).1 = (rscan l i y (l.drop i)).1 ∧ (rscan l 0 .init l).2 = i + (rscan l i y (l.drop i)).2

/-- what is read, and how far -/
def rY (l : List UInt8) : R6 := (rscan l 0 .init l).1
def rN (l : List UInt8) : Nat := (rscan l 0 .init l).2

theorem rOK_init (l : List UInt8) : rOK l 0 .init := ⟨Nat.zero_le _, RW_init, rfl, by rw [Nat.zero_add]; rfl⟩

theorem rOK_next (hb4 : ∀ p : List UInt8, b4 p = true → p.length ≤ 15) {l : List UInt8} {i : Nat} {y z : R6} (h : rOK l i y) (hi : i < l.length) (ht : rtake l i y (l.getD i 0) = some z) : rOK l (i + 1) z := by
  obtain ⟨_, w, a, b⟩ := h
  rw [drop_cons hi, rscan, ht] at a b
  exact ⟨hi, rtake_RW hb4 w ht, a, by rw [b]; show i + ((rscan l (i + 1) z (l.drop (i + 1))).2 + 1) = _; omega⟩

theorem rOK_stop {l : List UInt8} {i : Nat} {y : R6} (h : rOK l i y) (hi : i < l.length) (ht : rtake l i y (l.getD i 0) = none) : rY l = y ∧ rN l = i := by
  obtain ⟨_, _, a, b⟩ := h
  rw [drop_cons hi, rscan, ht] at a b
  exact ⟨a, b⟩

theorem rOK_end {l : List UInt8} {i : Nat} {y : R6} (h : rOK l i y) (hi : i = l.length) : rY l = y ∧ rN l = i := by
  obtain ⟨_, _, a, b⟩ := h
  rw [hi, List.drop_length, rscan] at a b
  exact ⟨a, by rw [hi]; exact b⟩

theorem rscan_RW (hb4 : ∀ p : List UInt8, b4 p = true → p.length ≤ 15) (s : List UInt8) : ∀ (r : List UInt8) (i : Nat) (y : R6), RW y → RW (rscan s i y r).1
  | [], _, _, w => w
  | c :: r, i, y, w => by
    unfold rscan
    cases h : rtake s i y c with
    | none => exact w
    | some z => exact rscan_RW hb4 s r (i + 1) z (rtake_RW hb4 w h)

theorem rscan_le (s : List UInt8) : ∀ (r : List UInt8) (i : Nat) (y : R6), (rscan s i y r).2 ≤ r.length
  | [], _, _ => Nat.zero_le _
  | c :: r, i, y => by
    unfold rscan
    cases h : rtake s i y c with
    | none => exact Nat.zero_le _
    | some z =>
      have := rscan_le s r (i + 1) z
      show (rscan s (i + 1) z r).2 + 1 ≤ r.length + 1
      omega

theorem getD_some {l : List UInt8} {i : Nat} (h : i < l.length) : l[i]? = some (l.getD i 0) := by
  rw [List.getD_eq_getElem?_getD, List.getElem?_eq_getElem h]; rfl

/-! ## a letter, case by case -/

section
variable {s : List UInt8} {i : Nat} {L : List Int} {gap : Int} {part : List UInt8} {c : UInt8}

theorem rA_first (hi : i = 0) : rtake s i ⟨L, gap, []⟩ 58 = some ⟨L, gap, []⟩ := by
  unfold rtake; rw [if_pos ⟨rfl, rfl⟩, if_neg (by unfold second; rintro ⟨h, _⟩; omega), if_pos hi]
theorem rA_sec (h0 : 0 < i) (h1 : s[i - 1]? = some 58) (h2 : gap < 0) (h3 : L.length ≤ 7) : rtake s i ⟨L, gap, []⟩ 58 = some ⟨L, (L.length : Nat), []⟩ := by
  unfold rtake; rw [if_pos ⟨rfl, rfl⟩, if_pos ⟨h0, h1, h2, h3⟩]
theorem rA_no (h0 : i ≠ 0) (h : ¬ (s[i - 1]? = some 58 ∧ gap < 0 ∧ L.length ≤ 7)) : rtake s i ⟨L, gap, []⟩ 58 = none := by
  unfold rtake; rw [if_pos ⟨rfl, rfl⟩, if_neg (by rintro ⟨_, a, b, d⟩; exact h ⟨a, b, d⟩), if_neg h0]
theorem rB_no1 (hp : part ≠ []) (hg : grp part = false) : rtake s i ⟨L, gap, part⟩ 58 = none := by
  unfold rtake; rw [if_neg (fun h => hp h.2), if_pos rfl, if_pos (.inl hg)]
theorem rB_no2 (hp : part ≠ []) (h : rroom ⟨L, gap, part⟩ ≤ L.length + 1) : rtake s i ⟨L, gap, part⟩ 58 = none := by
  unfold rtake; rw [if_neg (fun h => hp h.2), if_pos rfl, if_pos (.inr h)]
theorem rB_yes (hp : part ≠ []) (hg : grp part = true) (h : ¬ rroom ⟨L, gap, part⟩ ≤ L.length + 1) : rtake s i ⟨L, gap, part⟩ 58 = some ⟨L ++ [valH part], gap, []⟩ := by
  unfold rtake; rw [if_neg (fun h => hp h.2), if_pos rfl, if_neg (by rintro (e | e); rw [hg] at e; cases e; exact h e)]
theorem rC_no1 (h : c ≠ 58) (hi : i = 1) (h0 : s[0]? = some 58) : rtake s i ⟨L, gap, part⟩ c = none := by
  unfold rtake; rw [if_neg (fun e => h e.1), if_neg h, if_pos ⟨hi, h0⟩]
theorem rC_no {B G : Bool} (h : c ≠ 58) (hi : ¬ (i = 1 ∧ s[0]? = some 58)) (hb : b4 (part ++ [c]) = B) (hg : grp (part ++ [c]) = G) (hn : ¬ ((G = true ∧ L.length + 1 ≤ rroom ⟨L, gap, part⟩) ∨ (B = true ∧ L.length + 2 ≤ rroom ⟨L, gap, part⟩ ∧ (0 ≤ gap ∨ L.length = 6)))) : rtake s i ⟨L, gap, part⟩ c = none := by
  unfold rtake; rw [if_neg (fun e => h e.1), if_neg h, if_neg hi, hb, hg, if_neg hn]
theorem rC_yes {B G : Bool} (h : c ≠ 58) (hi : ¬ (i = 1 ∧ s[0]? = some 58)) (hb : b4 (part ++ [c]) = B) (hg : grp (part ++ [c]) = G) (hn : (G = true ∧ L.length + 1 ≤ rroom ⟨L, gap, part⟩) ∨ (B = true ∧ L.length + 2 ≤ rroom ⟨L, gap, part⟩ ∧ (0 ≤ gap ∨ L.length = 6))) : rtake s i ⟨L, gap, part⟩ c = some ⟨L, gap, part ++ [c]⟩ := by
  unfold rtake; rw [if_neg (fun e => h e.1), if_neg h, if_neg hi, hb, hg, if_pos hn]
end

end Go.Proofs.YtopladipgobpjaaDoor
