/-
  The text of an IPv4 address, read from the left and by its parts. No program in sight.
-/
namespace Go.Proofs.YtopladipgobpjaaDoor
def isD (c : UInt8) : Bool := decide (48 ≤ c.toNat) && decide (c.toNat ≤ 57)
def dv (c : UInt8) : Int := (c.toNat : Int) - 48
def okd (most : Int) (cnt : Nat) (n : Int) (c : UInt8) : Bool := isD c && !(decide (0 < cnt) && decide (n = 0)) && decide (n * 10 + dv c ≤ most)
def numG (most : Int) : Nat → Int → List UInt8 → Int × Nat
  | cnt, n, [] => (n, cnt)
  | cnt, n, c :: r => if okd most cnt n c then numG most (cnt + 1) (n * 10 + dv c) r else (n, cnt)
def num (most : Int) (l : List UInt8) : Int × Nat := numG most 0 0 l
def scanP : Nat → Nat → Int → List UInt8 → Nat
  | _, _, _, [] => 0
  | k, cnt, n, c :: r => if c = 46 then if 0 < cnt ∧ 0 < k then scanP (k - 1) 0 0 r + 1 else 0 else if okd 255 cnt n c then scanP k (cnt + 1) (n * 10 + dv c) r + 1 else 0
def gv : Nat → Nat → Int → List UInt8 → Option (List Int)
  | k, cnt, n, [] => if 0 < cnt ∧ k = 0 then some [n] else none
  | k, cnt, n, c :: r => if c = 46 then if 0 < cnt ∧ 0 < k then (gv (k - 1) 0 0 r).map (n :: ·) else none else if okd 255 cnt n c then gv k (cnt + 1) (n * 10 + dv c) r else none
def fourG (l : List UInt8) : Nat → Nat → Option (List Int) × Nat
  | 0, at' => (some [], at')
  | k + 1, at' => if (num 255 (l.drop at')).2 = 0 then (none, at') else
    if k = 0 then (some [(num 255 (l.drop at')).1], at' + (num 255 (l.drop at')).2) else
    if l[at' + (num 255 (l.drop at')).2]? = some 46 then ((fourG l k (at' + (num 255 (l.drop at')).2 + 1)).1.map ((num 255 (l.drop at')).1 :: ·), (fourG l k (at' + (num 255 (l.drop at')).2 + 1)).2)
    else (none, at' + (num 255 (l.drop at')).2)
def val (l : List UInt8) : Int := l.foldl (fun n c => n * 10 + dv c) 0
def oct (most : Int) (l : List UInt8) : Bool := decide (l = []) || (!(decide (l.head? = some 48) && decide (1 < l.length)) && decide (l.length ≤ 3) && l.all isD && decide (val l ≤ most))
theorem not_digit46 (most : Int) (cnt : Nat) (n : Int) : okd most cnt n 46 = false := by
  have : isD 46 = false := by decide
  unfold okd; rw [this]; simp
theorem numG_scan (k : Nat) : ∀ (l : List UInt8) (cnt : Nat) (n : Int),
    ∃ m, numG 255 cnt n l = ((numG 255 cnt n l).1, cnt + m) ∧ m ≤ l.length ∧
      (l.drop m = [] → scanP k cnt n l = m ∧ gv k cnt n l = if 0 < cnt + m ∧ k = 0 then some [(numG 255 cnt n l).1] else none) ∧
      (∀ c r, l.drop m = c :: r → c = 46 → scanP k cnt n l = (if 0 < cnt + m ∧ 0 < k then scanP (k - 1) 0 0 r + 1 else 0) + m ∧ gv k cnt n l = if 0 < cnt + m ∧ 0 < k then (gv (k - 1) 0 0 r).map ((numG 255 cnt n l).1 :: ·) else none) ∧
      (∀ c r, l.drop m = c :: r → c ≠ 46 → scanP k cnt n l = m ∧ gv k cnt n l = none)
  | [], cnt, n => ⟨0, rfl, Nat.le_refl 0, fun _ => ⟨rfl, rfl⟩, fun c r h => (by cases h), fun c r h => (by cases h)⟩
  | c :: r, cnt, n => by
    cases ho : okd 255 cnt n c with
    | true =>
      have h46 : c ≠ 46 := by rintro rfl; rw [not_digit46] at ho; cases ho
      obtain ⟨m, e1, e2, e3, e4, e5⟩ := numG_scan k r (cnt + 1) (n * 10 + dv c)
      have en : numG 255 cnt n (c :: r) = numG 255 (cnt + 1) (n * 10 + dv c) r := by rw [numG, if_pos ho]
      have es : scanP k cnt n (c :: r) = scanP k (cnt + 1) (n * 10 + dv c) r + 1 := by rw [scanP, if_neg h46, if_pos ho]
      have eg : gv k cnt n (c :: r) = gv k (cnt + 1) (n * 10 + dv c) r := by rw [gv, if_neg h46, if_pos ho]
      have ea : cnt + 1 + m = cnt + (m + 1) := by omega
      rw [ea] at e1 e3 e4
      refine ⟨m + 1, by rw [en]; exact e1, by simp only [List.length_cons]; omega, ?_, ?_, ?_⟩
      · intro h
        obtain ⟨a, b⟩ := e3 h
        exact ⟨by rw [es, a], by rw [eg, en, b]⟩
      · intro c' r' h h'
        obtain ⟨a, b⟩ := e4 c' r' h h'
        exact ⟨by rw [es, a]; omega, by rw [eg, en, b]⟩
      · intro c' r' h h'
        obtain ⟨a, b⟩ := e5 c' r' h h'
        exact ⟨by rw [es, a], by rw [eg, b]⟩
    | false =>
      have en : numG 255 cnt n (c :: r) = (n, cnt) := by rw [numG, if_neg (by rw [ho]; simp)]
      refine ⟨0, by rw [en]; rfl, Nat.zero_le _, fun h => (by cases h), ?_, ?_⟩
      · intro c' r' h h'
        injection h with h1 h2; subst h1 h2
        refine ⟨by rw [scanP, if_pos h']; rfl, ?_⟩
        rw [gv, if_pos h', en]; rfl
      · intro c' r' h h'
        injection h with h1 h2; subst h1 h2
        exact ⟨by rw [scanP, if_neg h', if_neg (by rw [ho]; simp)], by rw [gv, if_neg h', if_neg (by rw [ho]; simp)]⟩
theorem fourG_scan (l : List UInt8) : ∀ (k : Nat) (a : Nat), a ≤ l.length →
    (fourG l (k + 1) a).2 = a + scanP k 0 0 (l.drop a) ∧ (fourG l (k + 1) a).2 ≤ l.length ∧
      ((fourG l (k + 1) a).2 = l.length → gv k 0 0 (l.drop a) = (fourG l (k + 1) a).1) ∧ ((fourG l (k + 1) a).2 < l.length → gv k 0 0 (l.drop a) = none)
  | k, a, ha => by
    obtain ⟨m, e1, e2, e3, e4, e5⟩ := numG_scan k (l.drop a) 0 0
    have hm : (num 255 (l.drop a)).2 = m := by unfold num; rw [e1]; simp
    rw [List.length_drop] at e2
    rw [Nat.zero_add] at e3 e4
    have hd : (l.drop a).drop m = l.drop (a + m) := by rw [List.drop_drop]
    rw [hd] at e3 e4 e5
    unfold fourG
    rw [hm]
    cases hr : l.drop (a + m) with
    | nil =>
      have hlen : l.length ≤ a + m := by
        have := congrArg List.length hr
        simp only [List.length_drop, List.length_nil] at this
        omega
      obtain ⟨s1, s2⟩ := e3 hr
      have hnone : l[a + m]? = none := List.getElem?_eq_none hlen
      by_cases h0 : m = 0
      · subst h0
        rw [if_pos rfl, s1, s2]
        exact ⟨rfl, ha, fun _ => by simp, fun _ => by simp⟩
      · rw [if_neg h0, s1, s2]
        by_cases hk : k = 0
        · rw [if_pos hk]
          refine ⟨rfl, by show a + m ≤ l.length; omega, fun _ => ?_, fun h => ?_⟩
          · rw [if_pos ⟨by omega, hk⟩]; rfl
          · have : a + m < l.length := h
            omega
        · rw [if_neg hk, hnone, if_neg (by simp)]
          refine ⟨rfl, by show a + m ≤ l.length; omega, fun _ => ?_, fun h => ?_⟩
          · rw [if_neg (by omega)]
          · have : a + m < l.length := h
            omega
    | cons c r =>
      have hlen : a + m < l.length := by
        have := congrArg List.length hr
        simp only [List.length_drop, List.length_cons] at this
        omega
      have hget : l[a + m]? = some c := by
        rw [← List.head?_drop, hr]; rfl
      have hr' : r = l.drop (a + m + 1) := by
        rw [← List.drop_drop, hr]; rfl
      by_cases hc : c = 46
      · obtain ⟨s1, s2⟩ := e4 c r hr hc
        by_cases h0 : m = 0
        · subst h0
          rw [if_pos rfl, s1, s2]
          rw [if_neg (by omega), if_neg (by omega)]
          exact ⟨rfl, ha, fun h => by have : a = l.length := h; omega, fun _ => rfl⟩
        · rw [if_neg h0, s1, s2]
          by_cases hk : k = 0
          · rw [if_pos hk, if_neg (by omega), if_neg (by omega)]
            refine ⟨by show a + m = _; omega, by show a + m ≤ _; omega, fun h => ?_, fun _ => rfl⟩
            have : a + m = l.length := h
            omega
          · obtain ⟨k', rfl⟩ : ∃ k', k = k' + 1 := ⟨k - 1, by omega⟩
            rw [if_neg hk, hget, hc, if_pos rfl, if_pos ⟨by omega, by omega⟩, if_pos ⟨by omega, by omega⟩, Nat.add_sub_cancel, hr']
            obtain ⟨i1, i2, i3, i4⟩ := fourG_scan l k' (a + m + 1) (by omega)
            refine ⟨by show (fourG l (k' + 1) (a + m + 1)).2 = _; rw [i1]; omega, i2, fun h => ?_, fun h => ?_⟩
            · rw [i3 h]; unfold num; rfl
            · rw [i4 h]; rfl
      · obtain ⟨s1, s2⟩ := e5 c r hr hc
        have hne : ¬ (some c = some (46 : UInt8)) := fun h => hc (Option.some.inj h)
        by_cases h0 : m = 0
        · subst h0
          rw [if_pos rfl, s1, s2]
          exact ⟨rfl, ha, fun h => by have : a = l.length := h; omega, fun _ => rfl⟩
        · rw [if_neg h0, s1, s2]
          by_cases hk : k = 0
          · rw [if_pos hk]
            refine ⟨rfl, by show a + m ≤ _; omega, fun h => ?_, fun _ => rfl⟩
            have : a + m = l.length := h
            omega
          · rw [if_neg hk, hget, if_neg hne]
            refine ⟨rfl, by show a + m ≤ _; omega, fun h => ?_, fun _ => rfl⟩
            have : a + m = l.length := h
            omega
  termination_by k => k
theorem val_append (l : List UInt8) (c : UInt8) : val (l ++ [c]) = val l * 10 + dv c := by
  unfold val; rw [List.foldl_append]; rfl
theorem isD_dv {c : UInt8} (h : isD c = true) : 0 ≤ dv c ∧ dv c ≤ 9 := by
  unfold isD at h
  simp only [Bool.and_eq_true, decide_eq_true_eq] at h
  unfold dv; omega
theorem okd_iff {most : Int} {cnt : Nat} {n : Int} {c : UInt8} : okd most cnt n c = true ↔ isD c = true ∧ ¬ (0 < cnt ∧ n = 0) ∧ n * 10 + dv c ≤ most := by
  unfold okd
  simp only [Bool.and_eq_true, Bool.not_eq_true', Bool.and_eq_false_iff, decide_eq_true_eq, decide_eq_false_iff_not]
  constructor
  · rintro ⟨⟨h1, h2⟩, h3⟩; exact ⟨h1, by rintro ⟨a, b⟩; rcases h2 with h | h <;> contradiction, h3⟩
  · rintro ⟨h1, h2, h3⟩
    refine ⟨⟨h1, ?_⟩, h3⟩
    by_cases a : 0 < cnt
    · exact .inr fun b => h2 ⟨a, b⟩
    · exact .inl a
def p4R (l : List UInt8) : Option (List Int) × Nat :=
  if scanP 3 0 0 l < l.length then (none, scanP 3 0 0 l) else match gv 3 0 0 l with
    | some v => (some v, 0)
    | none => (none, scanP 3 0 0 l)
theorem p4_prog (l : List UInt8) : (match fourG l 4 0 with
    | (some v, a) => if a < l.length then (none, a) else (some v, 0)
    | (none, a) => (none, a)) = p4R l := by
  obtain ⟨h1, h2, h3, h4⟩ := fourG_scan l 3 0 (Nat.zero_le _)
  rw [List.drop_zero, Nat.zero_add] at h1
  rw [List.drop_zero] at h3 h4
  unfold p4R
  rw [← h1]
  cases hf : fourG l (3 + 1) 0 with
  | mk o a =>
    rw [hf] at h2 h3 h4
    simp only at h2 h3 h4
    by_cases ha : a < l.length
    · rw [if_pos ha]
      cases o with
      | none => rfl
      | some v => show (if a < l.length then _ else _) = _; rw [if_pos ha]
    · rw [if_neg ha, h3 (by omega)]
      cases o with
      | none => rfl
      | some v => show (if a < l.length then _ else _) = _; rw [if_neg ha]
end Go.Proofs.YtopladipgobpjaaDoor
