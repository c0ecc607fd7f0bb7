/-
  The text of an IPv6 address, read letter by letter in two ways that come to the same. No program in sight.
-/
import Derived.Test.YtopladipgobpjaaDoorPlain4
namespace Go.Proofs.YtopladipgobpjaaDoor

/-- a hex digit's worth; below 0: it is none -/
def hx (c : UInt8) : Int :=
  if 48 ≤ c.toNat ∧ c.toNat ≤ 57 then (c.toNat : Int) - 48 else if 97 ≤ c.toNat ∧ c.toNat ≤ 102 then (c.toNat : Int) - 97 + 10 else if 65 ≤ c.toNat ∧ c.toNat ≤ 70 then (c.toNat : Int) - 65 + 10 else -1

def valH (l : List UInt8) : Int := l.foldl (fun n c => n * 16 + hx c) 0

/-- a number of an IPv4 address -/
def dec (l : List UInt8) : Bool := decide (l ≠ []) && oct 255 l

/-- what the program has read -/
structure P6 where
  g : List Int
  part : List UInt8
  gap : Nat
  colon : Bool
  first : Bool
  dots : List Int
  dotted : Bool

def P6.init : P6 := ⟨[], [], 0, false, false, [], false⟩

/-- how many groups there are at most, beside a gap -/
def most (gap : Nat) : Nat := if gap = 0 then 8 else 7

def dot6 (x : P6) (c : UInt8) : Option P6 :=
  if c = 46 then if x.part = [] ∨ x.dots.length = 3 then none else some { x with dots := x.dots ++ [val x.part], part := [] }
  else if isD c = true ∧ dec (x.part ++ [c]) = true then some { x with part := x.part ++ [c] } else none

def sep6 (x : P6) : Option P6 :=
  if x.part ≠ [] then if most x.gap ≤ x.g.length + 1 then none else some { x with g := x.g ++ [valH x.part], part := [], colon := true }
  else if x.g = [] ∧ x.gap = 0 ∧ x.colon = false then some { x with first := true }
  else if x.colon = true ∧ x.gap = 0 then some { x with colon := false, gap := x.g.length + 1 } else none

def take6 (x : P6) (c : UInt8) : Option P6 :=
  if x.first = true then if c = 58 then some { x with first := false, gap := 1 } else none
  else if x.dotted = true then dot6 x c
  else if c = 58 then sep6 x
  else if c = 46 then if dec x.part = true ∧ (if x.gap = 0 then x.g.length = 6 else x.g.length ≤ 5) then some { x with dotted := true, dots := [val x.part], part := [] } else none
  else if hx c < 0 ∨ most x.gap ≤ x.g.length then none
  else if x.part.length < 4 then some { x with colon := false, part := x.part ++ [c] } else none

/-- what is whole, and what stands behind it -/
def mid6 (x : P6) : Option (List Int) :=
  if x.dotted = true then if x.dots.length = 3 ∧ x.part ≠ [] then some (x.g ++ [x.dots.getD 0 0 * 256 + x.dots.getD 1 0, x.dots.getD 2 0 * 256 + val x.part]) else none
  else if x.part ≠ [] then some (x.g ++ [valH x.part]) else some x.g

def fin6 (gap : Nat) (g : List Int) : Option (List Int) :=
  if gap = 0 then if g.length = 8 then some g else none else some (g.take (gap - 1) ++ List.replicate (8 - g.length) 0 ++ g.drop (gap - 1))

/-- the groups, where it may end so -/
def addr6 (x : P6) : Option (List Int) := if x.first = true ∨ x.colon = true then none else (mid6 x).bind (fin6 x.gap)

/-- what the reference has read -/
structure R6 where
  l : List Int
  gap : Int
  part : List UInt8

def R6.init : R6 := ⟨[], -1, []⟩

def rroom (y : R6) : Nat := if 0 ≤ y.gap then 7 else 8
def grp (s : List UInt8) : Bool := s.all (fun c => decide (0 ≤ hx c)) && decide (1 ≤ s.length) && decide (s.length ≤ 4)

def second (s : List UInt8) (i : Nat) (y : R6) : Prop := 0 < i ∧ s[i - 1]? = some 58 ∧ y.gap < 0 ∧ y.l.length ≤ 7
instance (s : List UInt8) (i : Nat) (y : R6) : Decidable (second s i y) := by unfold second; infer_instance

def rtake (s : List UInt8) (i : Nat) (y : R6) (c : UInt8) : Option R6 :=
  if c = 58 ∧ y.part = [] then
    if second s i y then some { y with gap := y.l.length } else if i = 0 then some y else none
  else if c = 58 then if grp y.part = false ∨ rroom y ≤ y.l.length + 1 then none else some { y with l := y.l ++ [valH y.part], part := [] }
  else if i = 1 ∧ s[0]? = some 58 then none
  else if (grp (y.part ++ [c]) = true ∧ y.l.length + 1 ≤ rroom y) ∨ (b4 (y.part ++ [c]) = true ∧ y.l.length + 2 ≤ rroom y ∧ (0 ≤ y.gap ∨ y.l.length = 6)) then some { y with part := y.part ++ [c] } else none

def rmid (y : R6) : Option (List Int) :=
  if grp y.part = true then some (y.l ++ [valH y.part]) else if y.part ≠ [] ∧ w4 y.part = true then
      some (y.l ++ [((splitL 46 [] y.part).map val).getD 0 0 * 256 + ((splitL 46 [] y.part).map val).getD 1 0, ((splitL 46 [] y.part).map val).getD 2 0 * 256 + ((splitL 46 [] y.part).map val).getD 3 0])
    else if y.part = [] ∧ 0 ≤ y.gap ∧ y.gap = y.l.length then some y.l else none

def rfin (gap : Int) (l : List Int) : Option (List Int) :=
  if gap < 0 then if l.length = 8 then some l else none else if l.length ≤ 7 then some (l.take gap.toNat ++ List.replicate (8 - l.length) 0 ++ l.drop gap.toNat) else none

/-- the reference's groups -/
def whole6 (y : R6) : Option (List Int) := (rmid y).bind (rfin y.gap)

/-! ## parts with points -/

def dj : List (List UInt8) → List UInt8 → List UInt8
  | [], p => p
  | q :: qs, p => q ++ 46 :: dj qs p

def noP (l : List UInt8) : Prop := ∀ c ∈ l, c ≠ 46

theorem splitL_noP : ∀ (q cur r : List UInt8), noP q → splitL 46 cur (q ++ r) = splitL 46 (cur ++ q) r
  | [], cur, r, _ => by rw [List.nil_append, List.append_nil]
  | c :: q, cur, r, h => by
    rw [List.cons_append, splitL, if_neg (h c (by simp)), splitL_noP q (cur ++ [c]) r (fun x hx => h x (by simp [hx])), List.append_assoc]; rfl

theorem splitL_dj : ∀ (ps : List (List UInt8)) (p : List UInt8), (∀ q ∈ ps, noP q) → noP p → splitL 46 [] (dj ps p) = ps ++ [p]
  | [], p, _, h => by
    show splitL 46 [] p = [p]
    have := splitL_noP p [] [] h
    rw [List.append_nil, List.nil_append] at this
    rw [this, splitL]
  | q :: ps, p, hq, hp => by
    show splitL 46 [] (q ++ 46 :: dj ps p) = _
    rw [splitL_noP q [] _ (hq q (by simp)), splitL, if_pos rfl, splitL_dj ps p (fun x hx => hq x (by simp [hx])) hp, List.nil_append]; rfl

theorem dj_snoc : ∀ (ps : List (List UInt8)) (p : List UInt8) (c : UInt8), dj ps p ++ [c] = dj ps (p ++ [c])
  | [], _, _ => rfl
  | q :: ps, p, c => by
    show (q ++ 46 :: dj ps p) ++ [c] = q ++ 46 :: dj ps (p ++ [c])
    rw [← dj_snoc ps p c]; simp

theorem dj_dot : ∀ (ps : List (List UInt8)) (p : List UInt8), dj ps p ++ [46] = dj (ps ++ [p]) []
  | [], p => rfl
  | q :: ps, p => by
    show (q ++ 46 :: dj ps p) ++ [46] = q ++ 46 :: dj (ps ++ [p]) []
    rw [← dj_dot ps p]; simp

theorem b4_dj {ps : List (List UInt8)} {p : List UInt8} (hq : ∀ q ∈ ps, noP q) (hp : noP p) : b4 (dj ps p) = true ↔ ps.length + 1 ≤ 4 ∧ (∀ q ∈ ps, dec q = true) ∧ oct 255 p = true := by
  unfold b4
  rw [splitL_dj ps p hq hp, List.dropLast_concat]
  simp only [Bool.and_eq_true, decide_eq_true_eq, List.all_eq_true, List.length_append, List.length_singleton, List.mem_append, List.mem_singleton, dec]
  constructor
  · rintro ⟨⟨h1, h2⟩, h3⟩
    exact ⟨h1, fun q hq => ⟨h3 q hq, h2 q (.inl hq)⟩, h2 p (.inr rfl)⟩
  · rintro ⟨h1, h2, h3⟩
    exact ⟨⟨h1, fun q hq => by rcases hq with hq | rfl; exact (h2 q hq).2; exact h3⟩, fun q hq => (h2 q hq).1⟩

theorem w4_dj {ps : List (List UInt8)} {p : List UInt8} (hq : ∀ q ∈ ps, noP q) (hp : noP p) : w4 (dj ps p) = true ↔ ps.length = 3 ∧ (∀ q ∈ ps, dec q = true) ∧ dec p = true := by
  have hb := b4_dj hq hp
  unfold w4
  rw [splitL_dj ps p hq hp]
  simp only [Bool.and_eq_true, decide_eq_true_eq, List.length_append, List.length_singleton]
  constructor
  · rintro ⟨⟨h1, h2⟩, h3⟩
    obtain ⟨_, h4, h5⟩ := hb.1 h1
    have h6 : ps.length = 3 := by omega
    refine ⟨h6, h4, ?_⟩
    have : (ps ++ [p]).getD 3 [] = p := by
      rw [List.getD_eq_getElem?_getD, List.getElem?_append_right (by omega), h6]; rfl
    rw [this] at h3
    unfold dec; rw [h5, decide_eq_true h3]; rfl
  · rintro ⟨h1, h2, h3⟩
    unfold dec at h3
    rw [Bool.and_eq_true, decide_eq_true_eq] at h3
    refine ⟨⟨hb.2 ⟨by omega, h2, h3.2⟩, by omega⟩, ?_⟩
    have : (ps ++ [p]).getD 3 [] = p := by
      rw [List.getD_eq_getElem?_getD, List.getElem?_append_right (by omega), h1]; rfl
    rw [this]; exact h3.1

theorem oct_noP {l : List UInt8} (h : oct 255 l = true) : noP l := by
  unfold oct at h
  intro c hc
  have hl : l ≠ [] := by rintro rfl; cases hc
  rw [decide_eq_false hl, Bool.false_or] at h
  simp only [Bool.and_eq_true] at h
  rintro rfl
  have := List.all_eq_true.1 h.1.2 46 hc
  cases this

theorem dec_noP {l : List UInt8} (h : dec l = true) : noP l := by
  unfold dec at h; rw [Bool.and_eq_true] at h; exact oct_noP h.2

theorem hex_noP {l : List UInt8} (h : ∀ c ∈ l, 0 ≤ hx c) : noP l := by
  intro c hc e
  subst e
  have := h 46 hc
  revert this; decide

theorem isD_hx {c : UInt8} (h : isD c = true) : 0 ≤ hx c := by
  unfold isD at h
  simp only [Bool.and_eq_true, decide_eq_true_eq] at h
  unfold hx; rw [if_pos h]; omega

theorem oct_hex {l : List UInt8} (h : oct 255 l = true) : (∀ c ∈ l, 0 ≤ hx c) ∧ l.length ≤ 3 := by
  by_cases hl : l = []
  · subst hl; exact ⟨by simp, by simp⟩
  · unfold oct at h
    rw [decide_eq_false hl, Bool.false_or] at h
    simp only [Bool.and_eq_true, decide_eq_true_eq] at h
    exact ⟨fun c hc => isD_hx (List.all_eq_true.1 h.1.2 c hc), h.1.1.2⟩

theorem grp_iff {l : List UInt8} : grp l = true ↔ (∀ c ∈ l, 0 ≤ hx c) ∧ 1 ≤ l.length ∧ l.length ≤ 4 := by
  unfold grp
  simp only [Bool.and_eq_true, List.all_eq_true, decide_eq_true_eq]
  exact ⟨fun h => ⟨h.1.1, h.1.2, h.2⟩, fun h => ⟨⟨h.1, h.2.1⟩, h.2.2⟩⟩

/-! ## the two are alike -/

structure Rel (s : List UInt8) (i : Nat) (x : P6) (y : R6) : Prop where
  hl : y.l = x.g
  hgap : y.gap = (x.gap : Int) - 1
  hlen : x.g.length ≤ 7
  hpart : x.part ≠ [] → x.dotted = false → x.g.length + 1 ≤ most x.gap
  hfirst : x.first = true → i = 1 ∧ s[0]? = some 58 ∧ x.g = [] ∧ x.gap = 0 ∧ x.part = [] ∧ x.dotted = false ∧ x.colon = false
  hnot : x.first = false → i = 1 → s[0]? ≠ some 58
  hplain : x.dotted = false → y.part = x.part ∧ x.part.length ≤ 4 ∧ ∀ c ∈ x.part, 0 ≤ hx c
  hdot : x.dotted = true → ∃ ps : List (List UInt8), y.part = dj ps x.part ∧ x.dots = ps.map val ∧ ps ≠ [] ∧ ps.length ≤ 3 ∧ (∀ q ∈ ps, dec q = true) ∧ (x.part = [] ∨ dec x.part = true) ∧ (if x.gap = 0 then x.g.length = 6 else x.g.length ≤ 5)
  hcolon : x.colon = true → x.part = [] ∧ x.dotted = false ∧ x.g ≠ [] ∧ x.gap ≤ x.g.length ∧ 0 < i ∧ s[i - 1]? = some 58
  hnone : x.colon = false → x.part = [] → x.dotted = false → x.first = false → (x.gap = 0 ∧ i = 0 ∧ x.g = []) ∨ x.gap = x.g.length + 1
  hgl : x.gap ≤ x.g.length + 1
  hzero : i = 0 → x.gap = 0 ∧ x.part = [] ∧ x.dotted = false ∧ x.colon = false ∧ x.first = false ∧ x.g = []

def Both (s : List UInt8) (i : Nat) : Option P6 → Option R6 → Prop
  | some x, some y => Rel s i x y
  | none, none => True
  | _, _ => False

theorem dj_ne {ps : List (List UInt8)} {p : List UInt8} (h : ps ≠ []) : 46 ∈ dj ps p := by
  match ps, h with
  | q :: qs, _ => show 46 ∈ q ++ 46 :: dj qs p; simp

theorem grp_no {l : List UInt8} (h : 46 ∈ l) : grp l = false := by
  cases hg : grp l with
  | false => rfl
  | true => exact absurd rfl (hex_noP (grp_iff.1 hg).1 46 h)

theorem rroom_most {y : R6} {n : Nat} (h : y.gap = (n : Int) - 1) : rroom y = most n := by
  unfold rroom most
  by_cases hn : n = 0
  · rw [if_pos hn, if_neg (by omega)]
  · rw [if_neg hn, if_pos (by omega)]

theorem mayDot_iff {y : R6} {n len : Nat} (h : y.gap = (n : Int) - 1) (hl : y.l.length = len) : (y.l.length + 2 ≤ rroom y ∧ (0 ≤ y.gap ∨ y.l.length = 6)) ↔ (if n = 0 then len = 6 else len ≤ 5) := by
  rw [rroom_most h, hl]
  unfold most
  by_cases hn : n = 0
  · rw [if_pos hn, if_pos hn]; omega
  · rw [if_neg hn, if_neg hn]; omega

theorem oct_nil : oct 255 [] = true := rfl

theorem dec_snoc (l : List UInt8) (c : UInt8) : dec (l ++ [c]) = oct 255 (l ++ [c]) := by
  unfold dec; rw [decide_eq_true (by simp), Bool.true_and]

theorem step_rel {s : List UInt8} {i : Nat} {x : P6} {y : R6} {c : UInt8} (h : Rel s i x y) (hc : s[i]? = some c) : Both s (i + 1) (take6 x c) (rtake s i y c) := by
  obtain ⟨hl, hgap, hlen, hpart, hfirst, hnot, hplain, hdot, hcolon, hnone, hgl, hzero⟩ := h
  obtain ⟨g, part, gap, colon, first, dots, dotted⟩ := x
  obtain ⟨l, rgap, rpart⟩ := y
  simp only at hl hgap hlen hpart hfirst hnot hplain hdot hcolon hnone hgl hzero
  subst hl
  cases first with
  | true =>
    obtain ⟨h1, h2, h3, h4, h5, h6, h7⟩ := hfirst rfl
    subst h1 h3 h4 h5 h6 h7
    obtain ⟨e1, _, _⟩ := hplain rfl
    subst e1
    unfold take6
    rw [if_pos rfl]
    by_cases h58 : c = 58
    · have hs : second s 1 ⟨[], rgap, []⟩ := ⟨by omega, h2, by show rgap < 0; omega, by show 0 ≤ 7; omega⟩
      have er : rtake s 1 ⟨[], rgap, []⟩ c = some ⟨[], 0, []⟩ := by
        unfold rtake; rw [if_pos ⟨h58, rfl⟩, if_pos hs]; rfl
      rw [if_pos h58, er]
      exact ⟨rfl, by simp, by simp, by simp, by simp, by simp, by simp, by simp, by simp, by simp, by simp, by simp⟩
    · have er : rtake s 1 ⟨[], rgap, []⟩ c = none := by
        unfold rtake; rw [if_neg (fun h => h58 h.1), if_neg h58, if_pos ⟨rfl, h2⟩]
      rw [if_neg h58, er]; trivial
  | false =>
    have hskip : ¬ (i = 1 ∧ s[0]? = some 58) := fun h => hnot rfl h.1 h.2
    cases dotted with
    | true =>
      obtain ⟨ps, e1, e2, e3, e4, e5, e6, e7⟩ := hdot rfl
      subst e1 e2
      have hcf : colon = false := by
        cases colon with
        | false => rfl
        | true => have := (hcolon rfl).2.1; cases this
      subst hcf
      have h46 := dj_ne (p := part) e3
      have hq : ∀ q ∈ ps, noP q := fun q hq => dec_noP (e5 q hq)
      have hp : noP part := by
        rcases e6 with rfl | h
        · intro c hc; cases hc
        · exact dec_noP h
      have hi : i ≠ 0 := fun h => by have := (hzero h).2.2.1; cases this
      have et : take6 ⟨l, part, gap, false, false, ps.map val, true⟩ c = dot6 ⟨l, part, gap, false, false, ps.map val, true⟩ c := by
        unfold take6; rw [if_neg (by simp), if_pos rfl]
      rw [et]
      unfold dot6
      by_cases hd : c = 46
      · subst hd
        rw [if_pos rfl]
        have er : rtake s i ⟨l, rgap, dj ps part⟩ 46 = if ps.length ≤ 2 ∧ dec part = true then some ⟨l, rgap, dj (ps ++ [part]) []⟩ else none := by
          unfold rtake
          rw [if_neg (fun h => absurd h.1 (by decide)), if_neg (by decide), if_neg hskip]
          have hb : b4 (dj ps part ++ [46]) = true ↔ ps.length ≤ 2 ∧ dec part = true := by
            rw [dj_dot, b4_dj (by
              intro q hq'
              rcases List.mem_append.1 hq' with h | h
              · exact hq q h
              · rw [List.mem_singleton] at h; subst h; exact hp) (by intro c hc; cases hc)]
            rw [List.length_append, List.length_singleton]
            constructor
            · rintro ⟨a, b, _⟩; exact ⟨by omega, b part (by simp)⟩
            · rintro ⟨a, b⟩
              refine ⟨by omega, fun q hq' => ?_, oct_nil⟩
              rcases List.mem_append.1 hq' with h | h
              · exact e5 q h
              · rw [List.mem_singleton] at h; subst h; exact b
          have hm := (mayDot_iff (y := ⟨l, rgap, dj ps part⟩) hgap rfl).2 e7
          have hg : grp (dj ps part ++ [46]) = false := grp_no (by simp)
          by_cases hcond : ps.length ≤ 2 ∧ dec part = true
          · rw [if_pos hcond, if_pos (.inr ⟨hb.2 hcond, hm⟩), dj_dot]
          · rw [if_neg hcond, if_neg]
            rintro (h | h)
            · rw [hg] at h; cases h.1
            · exact hcond (hb.1 h.1)
        rw [er, List.length_map]
        by_cases hcond : ps.length ≤ 2 ∧ dec part = true
        · have hpe : part ≠ [] := by rintro rfl; have := hcond.2; cases this
          rw [if_pos hcond, if_neg (by rintro (h | h); exact hpe h; omega)]
          refine ⟨rfl, hgap, hlen, by simp, by simp, fun _ h => absurd h (by omega), by simp, fun _ => ⟨ps ++ [part], rfl, by simp, by simp, by rw [List.length_append]; show ps.length + 1 ≤ 3; omega, ?_, .inl rfl, e7⟩, by simp, by simp, hgl, by simp⟩
          intro q hq'
          rcases List.mem_append.1 hq' with h | h
          · exact e5 q h
          · rw [List.mem_singleton] at h; subst h; exact hcond.2
        · rw [if_neg hcond, if_pos]
          · trivial
          · by_cases hpe : part = []
            · exact .inl hpe
            · right
              have : dec part = true := by rcases e6 with h | h; exact absurd h hpe; exact h
              have : ¬ ps.length ≤ 2 := fun h => hcond ⟨h, this⟩
              omega
      · rw [if_neg hd]
        by_cases h58 : c = 58
        · subst h58
          have er : rtake s i ⟨l, rgap, dj ps part⟩ 58 = none := by
            unfold rtake
            rw [if_neg (fun h => by have : dj ps part = [] := h.2; rw [this] at h46; cases h46), if_pos rfl, if_pos (.inl (grp_no h46))]
          rw [er, if_neg (fun h => by have := h.1; revert this; decide)]
          trivial
        · have hp' : noP (part ++ [c]) := by
            intro d hd'
            rcases List.mem_append.1 hd' with h | h
            · exact hp d h
            · rw [List.mem_singleton] at h; subst h; exact hd
          have hb : b4 (dj ps part ++ [c]) = true ↔ dec (part ++ [c]) = true := by
            rw [dj_snoc, b4_dj hq hp', dec_snoc]
            exact ⟨fun h => h.2.2, fun h => ⟨by omega, e5, h⟩⟩
          have hm := (mayDot_iff (y := ⟨l, rgap, dj ps part⟩) hgap rfl).2 e7
          have hg : grp (dj ps part ++ [c]) = false := grp_no (by simp [h46])
          have er : rtake s i ⟨l, rgap, dj ps part⟩ c = if dec (part ++ [c]) = true then some ⟨l, rgap, dj ps (part ++ [c])⟩ else none := by
            unfold rtake
            rw [if_neg (fun h => h58 h.1), if_neg h58, if_neg hskip]
            by_cases hcond : dec (part ++ [c]) = true
            · rw [if_pos hcond, if_pos (.inr ⟨hb.2 hcond, hm⟩), dj_snoc]
            · rw [if_neg hcond, if_neg]
              rintro (h | h)
              · rw [hg] at h; cases h.1
              · exact hcond (hb.1 h.1)
          rw [er]
          by_cases hcond : dec (part ++ [c]) = true
          · have hD : isD c = true := by
              have hx := hcond
              rw [dec_snoc] at hx
              unfold oct at hx
              rw [decide_eq_false (by simp), Bool.false_or] at hx
              simp only [Bool.and_eq_true] at hx
              exact List.all_eq_true.1 hx.1.2 c (by simp)
            rw [if_pos hcond, if_pos ⟨hD, hcond⟩]
            exact ⟨rfl, hgap, hlen, by simp, by simp, fun _ h => absurd h (by omega), by simp, fun _ => ⟨ps, rfl, rfl, e3, e4, e5, .inr hcond, e7⟩, by simp, by simp, hgl, by simp⟩
          · rw [if_neg hcond, if_neg (fun h => hcond h.2)]; trivial
    | false =>
      obtain ⟨e1, e2, e3⟩ := hplain rfl
      subst e1
      have hrm : rroom ⟨l, rgap, rpart⟩ = most gap := rroom_most hgap
      unfold take6
      rw [if_neg (by simp), if_neg (by simp)]
      by_cases h58 : c = 58
      · rw [if_pos h58]
        unfold sep6
        by_cases hpe : rpart = []
        · rw [if_neg (fun h => h hpe)]
          by_cases hini : l = [] ∧ gap = 0 ∧ colon = false
          · rw [if_pos hini]
            obtain ⟨h1, h2, h3⟩ := hini
            have hi : i = 0 := by
              rcases hnone h3 hpe rfl rfl with h | h
              · exact h.2.1
              · rw [h1] at h; simp at h; omega
            subst hi
            have er : rtake s 0 ⟨l, rgap, rpart⟩ c = some ⟨l, rgap, rpart⟩ := by
              unfold rtake
              rw [if_pos ⟨h58, hpe⟩, if_neg (fun h => by have := h.1; omega), if_pos rfl]
            rw [er]
            exact ⟨rfl, hgap, hlen, fun h => absurd hpe h, fun _ => ⟨rfl, by rw [hc, h58], h1, h2, hpe, rfl, h3⟩, by simp, fun _ => ⟨rfl, e2, e3⟩, by simp, fun h => (by rw [h3] at h; cases h), by simp, hgl, by simp⟩
          · rw [if_neg hini]
            by_cases hcg : colon = true ∧ gap = 0
            · rw [if_pos hcg]
              obtain ⟨_, _, _, _, h5, h6⟩ := hcolon hcg.1
              have hs : second s i ⟨l, rgap, rpart⟩ := ⟨h5, h6, by show rgap < 0; omega, hlen⟩
              have er : rtake s i ⟨l, rgap, rpart⟩ c = some ⟨l, l.length, rpart⟩ := by
                unfold rtake; rw [if_pos ⟨h58, hpe⟩, if_pos hs]
              rw [er]
              exact ⟨rfl, by show (l.length : Int) = ((l.length + 1 : Nat) : Int) - 1; omega, hlen, fun h => absurd hpe h, by simp, fun _ h => absurd h (by omega), fun _ => ⟨rfl, e2, e3⟩, by simp, by simp, fun _ _ _ _ => .inr rfl, Nat.le_refl _, by simp⟩
            · rw [if_neg hcg]
              have hi : i ≠ 0 := by
                intro h
                obtain ⟨a, _, _, b, _, d⟩ := hzero h
                exact hini ⟨d, a, b⟩
              have hgp : gap ≠ 0 := by
                intro hg
                cases hcc : colon with
                | true => exact hcg ⟨hcc, hg⟩
                | false =>
                  rcases hnone hcc hpe rfl rfl with h | h
                  · exact hi h.2.1
                  · omega
              have er : rtake s i ⟨l, rgap, rpart⟩ c = none := by
                unfold rtake
                rw [if_pos ⟨h58, hpe⟩, if_neg (fun h => by have : rgap < 0 := h.2.2.1; omega), if_neg hi]
              rw [er]; trivial
        · rw [if_pos hpe]
          have hg : grp rpart = true := grp_iff.2 ⟨e3, List.length_pos_iff.2 hpe, e2⟩
          by_cases hm : most gap ≤ l.length + 1
          · have er : rtake s i ⟨l, rgap, rpart⟩ c = none := by
              unfold rtake
              rw [if_neg (fun h => hpe h.2), if_pos h58, if_pos (.inr (by rw [hrm]; exact hm))]
            rw [if_pos hm, er]; trivial
          · have er : rtake s i ⟨l, rgap, rpart⟩ c = some ⟨l ++ [valH rpart], rgap, []⟩ := by
              unfold rtake
              rw [if_neg (fun h => hpe h.2), if_pos h58, if_neg]
              rintro (h | h)
              · have h : grp rpart = false := h
                rw [hg] at h; cases h
              · rw [hrm] at h; exact hm h
            rw [if_neg hm, er]
            have hmm : most gap ≤ 8 := by unfold most; split <;> omega
            have hi : i ≠ 0 := fun h => hpe (hzero h).2.1
            exact ⟨rfl, hgap, by show (l ++ [valH rpart]).length ≤ 7; rw [List.length_append]; show l.length + 1 ≤ 7; omega, by simp, by simp, fun _ h => absurd h (by omega), fun _ => ⟨rfl, by simp, by simp⟩, by simp,
              fun _ => ⟨rfl, rfl, by simp, by show gap ≤ (l ++ [valH rpart]).length; rw [List.length_append]; exact hgl, by omega, by rw [Nat.add_sub_cancel, hc, h58]⟩, by simp, by show gap ≤ (l ++ [valH rpart]).length + 1; rw [List.length_append]; show gap ≤ l.length + 1 + 1; omega, by simp⟩
      · rw [if_neg h58]
        by_cases h46 : c = 46
        · rw [if_pos h46]
          have hnp : noP rpart := hex_noP e3
          have hb : b4 (rpart ++ [46]) = true ↔ dec rpart = true := by
            have := b4_dj (ps := [rpart]) (p := []) (by intro q hq; rw [List.mem_singleton] at hq; subst hq; exact hnp) (by intro c hc; cases hc)
            have e : dj [rpart] [] = rpart ++ [46] := rfl
            rw [e] at this
            rw [this]
            exact ⟨fun h => h.2.1 rpart (by simp), fun h => ⟨by simp, fun q hq => by rw [List.mem_singleton] at hq; subst hq; exact h, oct_nil⟩⟩
          have hm := mayDot_iff (y := ⟨l, rgap, rpart⟩) hgap rfl
          have hg : grp (rpart ++ [46]) = false := grp_no (by simp)
          have er : rtake s i ⟨l, rgap, rpart⟩ c = if dec rpart = true ∧ (if gap = 0 then l.length = 6 else l.length ≤ 5) then some ⟨l, rgap, rpart ++ [46]⟩ else none := by
            subst h46
            unfold rtake
            rw [if_neg (fun h => h58 h.1), if_neg h58, if_neg hskip]
            by_cases hcond : dec rpart = true ∧ (if gap = 0 then l.length = 6 else l.length ≤ 5)
            · rw [if_pos hcond, if_pos (.inr ⟨hb.2 hcond.1, hm.2 hcond.2⟩)]
            · rw [if_neg hcond, if_neg]
              rintro (h | h)
              · rw [hg] at h; cases h.1
              · exact hcond ⟨hb.1 h.1, hm.1 h.2⟩
          rw [er]
          by_cases hcond : dec rpart = true ∧ (if gap = 0 then l.length = 6 else l.length ≤ 5)
          · rw [if_pos hcond, if_pos hcond]
            have hpe : rpart ≠ [] := by rintro rfl; have := hcond.1; cases this
            have hi : i ≠ 0 := fun h => hpe (hzero h).2.1
            have hcf : colon = false := by
              cases colon with
              | false => rfl
              | true => exact absurd (hcolon rfl).1 hpe
            subst hcf
            exact ⟨rfl, hgap, hlen, by simp, by simp, fun _ h => absurd h (by omega), by simp, fun _ => ⟨[rpart], rfl, rfl, by simp, by simp, by intro q hq; rw [List.mem_singleton] at hq; subst hq; exact hcond.1, .inl rfl, hcond.2⟩, by simp, by simp, hgl, by simp⟩
          · rw [if_neg hcond, if_neg hcond]; trivial
        · rw [if_neg h46]
          have hgrp : grp (rpart ++ [c]) = true ↔ 0 ≤ hx c ∧ rpart.length < 4 := by
            rw [grp_iff, List.length_append, List.length_singleton]
            constructor
            · rintro ⟨a, _, b⟩; exact ⟨a c (by simp), by omega⟩
            · rintro ⟨a, b⟩
              refine ⟨fun d hd => ?_, by omega, by omega⟩
              rcases List.mem_append.1 hd with h | h
              · exact e3 d h
              · rw [List.mem_singleton] at h; subst h; exact a
          have hb : b4 (rpart ++ [c]) = true → grp (rpart ++ [c]) = true := by
            intro hb
            have hnp : noP (rpart ++ [c]) := by
              intro d hd
              rcases List.mem_append.1 hd with h | h
              · exact hex_noP e3 d h
              · rw [List.mem_singleton] at h; subst h; exact h46
            have ho := ((b4_dj (ps := []) (p := rpart ++ [c]) (by simp) hnp).1 hb).2.2
            obtain ⟨a, b⟩ := oct_hex ho
            exact grp_iff.2 ⟨a, by simp, by omega⟩
          have er : rtake s i ⟨l, rgap, rpart⟩ c = if (0 ≤ hx c ∧ rpart.length < 4) ∧ l.length + 1 ≤ most gap then some ⟨l, rgap, rpart ++ [c]⟩ else none := by
            unfold rtake
            rw [if_neg (fun h => h58 h.1), if_neg h58, if_neg hskip]
            by_cases hcond : (0 ≤ hx c ∧ rpart.length < 4) ∧ l.length + 1 ≤ most gap
            · rw [if_pos hcond, if_pos (.inl ⟨hgrp.2 hcond.1, by rw [hrm]; exact hcond.2⟩)]
            · rw [if_neg hcond, if_neg]
              rintro (h | h)
              · exact hcond ⟨hgrp.1 h.1, by rw [← hrm]; exact h.2⟩
              · exact hcond ⟨hgrp.1 (hb h.1), by rw [← hrm]; have : l.length + 2 ≤ rroom ⟨l, rgap, rpart⟩ := h.2.1; omega⟩
          rw [er]
          by_cases hcond : (0 ≤ hx c ∧ rpart.length < 4) ∧ l.length + 1 ≤ most gap
          · rw [if_pos hcond, if_neg (show ¬ (hx c < 0 ∨ most gap ≤ l.length) by omega), if_pos hcond.1.2]
            exact ⟨rfl, hgap, hlen, fun _ _ => hcond.2, by simp, fun _ h => by
                have hi : i = 0 := by omega
                subst hi
                rw [hc]; exact fun e => h58 (Option.some.inj e), fun _ => ⟨rfl, by rw [List.length_append]; show rpart.length + 1 ≤ 4; omega, (grp_iff.1 (hgrp.2 hcond.1)).1⟩, by simp, by simp, fun _ h => absurd h (by simp), hgl, by simp⟩
          · rw [if_neg hcond]
            by_cases hb1 : hx c < 0 ∨ most gap ≤ l.length
            · rw [if_pos hb1]; trivial
            · rw [if_neg hb1, if_neg (show ¬ rpart.length < 4 by omega)]; trivial

/-! ## the whole -/

theorem addr_rel {s : List UInt8} {i : Nat} {x : P6} {y : R6} (h : Rel s i x y) : addr6 x = whole6 y := by
  obtain ⟨hl, hgap, hlen, hpart, hfirst, hnot, hplain, hdot, hcolon, hnone, hgl, hzero⟩ := h
  obtain ⟨g, part, gap, colon, first, dots, dotted⟩ := x
  obtain ⟨l, rgap, rpart⟩ := y
  simp only at hl hgap hlen hpart hfirst hnot hplain hdot hcolon hnone hgl hzero
  subst hl
  have hlast : ∀ r : List Int, (gap ≠ 0 → r.length ≤ 7) → fin6 gap r = rfin rgap r := by
    intro r h2
    unfold fin6 rfin
    by_cases hg : gap = 0
    · rw [if_pos hg, if_pos (show rgap < 0 by omega)]
    · rw [if_neg hg, if_neg (show ¬ rgap < 0 by omega), if_pos (h2 hg), show rgap.toNat = gap - 1 by omega]
  unfold addr6 whole6
  cases first with
  | true =>
    obtain ⟨h1, h2, h3, h4, h5, h6, h7⟩ := hfirst rfl
    subst h3 h4 h5 h6 h7
    obtain ⟨e1, _, _⟩ := hplain rfl
    subst e1
    have m2 : rmid ⟨[], rgap, []⟩ = none := by
      unfold rmid
      rw [if_neg (show ¬ grp [] = true by decide), if_neg (fun h => h.1 rfl), if_neg (fun h => by have : (0 : Int) ≤ rgap := h.2.1; omega)]
    rw [if_pos (.inl rfl), m2]; rfl
  | false =>
    cases dotted with
    | true =>
      obtain ⟨ps, e1, e2, e3, e4, e5, e6, e7⟩ := hdot rfl
      subst e1 e2
      have hcf : colon = false := by
        cases colon with
        | false => rfl
        | true => have := (hcolon rfl).2.1; cases this
      subst hcf
      have h46 := dj_ne (p := part) e3
      have hq : ∀ q ∈ ps, noP q := fun q hq => dec_noP (e5 q hq)
      have hp : noP part := by
        rcases e6 with rfl | h
        · intro c hc; cases hc
        · exact dec_noP h
      have hne : dj ps part ≠ [] := fun h => by rw [h] at h46; cases h46
      have hgn : ¬ grp (dj ps part) = true := by rw [grp_no h46]; simp
      have hw := w4_dj hq hp
      rw [if_neg (show ¬ (false = true ∨ false = true) by simp)]
      by_cases hcond : ps.length = 3 ∧ part ≠ []
      · have hdp : dec part = true := by rcases e6 with h | h; exact absurd h hcond.2; exact h
        obtain ⟨p0, p1, p2, rfl⟩ : ∃ p0 p1 p2, ps = [p0, p1, p2] := by
          match ps, hcond.1 with
          | [a, b, c], _ => exact ⟨a, b, c, rfl⟩
        have m1 : mid6 ⟨l, part, gap, false, false, [p0, p1, p2].map val, true⟩ = some (l ++ [val p0 * 256 + val p1, val p2 * 256 + val part]) := by
          unfold mid6; rw [if_pos rfl, if_pos ⟨rfl, hcond.2⟩]; rfl
        have m2 : rmid ⟨l, rgap, dj [p0, p1, p2] part⟩ = some (l ++ [val p0 * 256 + val p1, val p2 * 256 + val part]) := by
          unfold rmid
          rw [if_neg hgn, if_pos ⟨hne, hw.2 ⟨hcond.1, e5, hdp⟩⟩, splitL_dj _ part hq hp]; rfl
        rw [m1, m2]
        refine hlast _ (fun h => ?_)
        rw [if_neg h] at e7; rw [List.length_append]; show l.length + 2 ≤ 7; omega
      · have m1 : mid6 ⟨l, part, gap, false, false, ps.map val, true⟩ = none := by
          unfold mid6; rw [if_pos rfl, if_neg (by rw [List.length_map]; exact hcond)]
        have m2 : rmid ⟨l, rgap, dj ps part⟩ = none := by
          unfold rmid
          rw [if_neg hgn, if_neg, if_neg (fun h => hne h.1)]
          intro h
          obtain ⟨a, _, b⟩ := hw.1 h.2
          exact hcond ⟨a, fun e => by rw [e] at b; cases b⟩
        rw [m1, m2]; rfl
    | false =>
      obtain ⟨e1, e2, e3⟩ := hplain rfl
      subst e1
      by_cases hpe : rpart = []
      · subst hpe
        have hgn : ¬ grp [] = true := by decide
        cases colon with
        | true =>
          have hc := hcolon rfl
          have m2 : rmid ⟨l, rgap, []⟩ = none := by
            unfold rmid
            rw [if_neg hgn, if_neg (fun h => h.1 rfl), if_neg (fun h => by have h2 : rgap = (l.length : Int) := h.2.2; have := hc.2.2.2.1; omega)]
          rw [if_pos (.inr rfl), m2]; rfl
        | false =>
          have m1 : mid6 ⟨l, [], gap, false, false, dots, false⟩ = some l := by
            unfold mid6; rw [if_neg (by simp), if_neg (by simp)]
          rw [if_neg (show ¬ (false = true ∨ false = true) by simp), m1]
          rcases hnone rfl rfl rfl rfl with ⟨a, b, c⟩ | h
          · subst a c
            have m2 : rmid ⟨[], rgap, []⟩ = none := by
              unfold rmid
              rw [if_neg hgn, if_neg (fun h => h.1 rfl), if_neg (fun h => by have : (0 : Int) ≤ rgap := h.2.1; omega)]
            rw [m2]; rfl
          · have m2 : rmid ⟨l, rgap, []⟩ = some l := by
              unfold rmid
              rw [if_neg hgn, if_neg (fun h => h.1 rfl), if_pos ⟨rfl, show (0 : Int) ≤ rgap by omega, show rgap = (l.length : Int) by omega⟩]
            rw [m2]
            exact hlast l (fun _ => hlen)
      · have hcf : colon = false := by
          cases colon with
          | false => rfl
          | true => exact absurd (hcolon rfl).1 hpe
        subst hcf
        have hg : grp rpart = true := grp_iff.2 ⟨e3, List.length_pos_iff.2 hpe, e2⟩
        have hm := hpart hpe rfl
        have m1 : mid6 ⟨l, rpart, gap, false, false, dots, false⟩ = some (l ++ [valH rpart]) := by
          unfold mid6; rw [if_neg (by simp), if_pos hpe]
        have m2 : rmid ⟨l, rgap, rpart⟩ = some (l ++ [valH rpart]) := by
          unfold rmid; rw [if_pos hg]
        rw [if_neg (show ¬ (false = true ∨ false = true) by simp), m1, m2]
        refine hlast _ (fun h => ?_)
        unfold most at hm; rw [if_neg h] at hm; rw [List.length_append]; exact hm

theorem rel_init (s : List UInt8) : Rel s 0 P6.init R6.init :=
  ⟨rfl, rfl, by decide, by simp [P6.init], by simp [P6.init], by simp, fun _ => ⟨rfl, by decide, by simp [P6.init]⟩, by simp [P6.init], by simp [P6.init], fun _ _ _ _ => .inl ⟨rfl, rfl, rfl⟩, by decide, fun _ => ⟨rfl, rfl, rfl, rfl, rfl, rfl⟩⟩

/-- letters taken one by one: what is read at last, and how many -/
def scan6 : P6 → List UInt8 → P6 × Nat
  | x, [] => (x, 0)
  | x, c :: r => match take6 x c with
    | some y => ((scan6 y r).1, (scan6 y r).2 + 1)
    | none => (x, 0)

def rscan (s : List UInt8) : Nat → R6 → List UInt8 → R6 × Nat
  | _, y, [] => (y, 0)
  | i, y, c :: r => match rtake s i y c with
    | some z => ((rscan s (i + 1) z r).1, (rscan s (i + 1) z r).2 + 1)
    | none => (y, 0)

theorem scan_rel (s : List UInt8) : ∀ (r : List UInt8) (i : Nat) (x : P6) (y : R6), s.drop i = r → Rel s i x y →
    (scan6 x r).2 = (rscan s i y r).2 ∧ Rel s (i + (scan6 x r).2) (scan6 x r).1 (rscan s i y r).1
  | [], i, x, y, _, h => ⟨rfl, h⟩
  | c :: r, i, x, y, hd, h => by
    have hc : s[i]? = some c := by rw [← List.head?_drop, hd]; rfl
    have hd' : s.drop (i + 1) = r := by rw [← List.drop_drop, hd]; rfl
    have := step_rel h hc
    unfold scan6 rscan
    cases h1 : take6 x c with
    | none =>
      cases h2 : rtake s i y c with
      | none => exact ⟨rfl, h⟩
      | some z => rw [h1, h2] at this; exact this.elim
    | some x' =>
      cases h2 : rtake s i y c with
      | none => rw [h1, h2] at this; exact this.elim
      | some y' =>
        rw [h1, h2] at this
        obtain ⟨a, b⟩ := scan_rel s r (i + 1) x' y' hd' this
        refine ⟨by simp only; rw [a], ?_⟩
        simp only
        rw [show i + ((scan6 x' r).2 + 1) = i + 1 + (scan6 x' r).2 by omega]
        exact b

/-- the answer: the groups, or the place -/
def p6R (s : List UInt8) : Option (List Int) × Nat :=
  if (scan6 .init s).2 < s.length then (none, (scan6 .init s).2) else match addr6 (scan6 .init s).1 with
    | some g => (some g, 0)
    | none => (none, (scan6 .init s).2)

theorem p6_ref (s : List UInt8) : p6R s = if (rscan s 0 .init s).2 < s.length then (none, (rscan s 0 .init s).2) else match whole6 (rscan s 0 .init s).1 with
    | some g => (some g, 0)
    | none => (none, (rscan s 0 .init s).2) := by
  obtain ⟨a, b⟩ := scan_rel s s 0 .init .init rfl (rel_init s)
  unfold p6R
  rw [a, addr_rel b]

end Go.Proofs.YtopladipgobpjaaDoor
