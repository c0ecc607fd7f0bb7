/-
  The text of an IPv4 address, read from the left and by its parts. No program in sight.
-/
namespace Go.Proofs.YtopladipgobpjaaDoor

def isD (c : UInt8) : Bool := decide (48 ≤ c.toNat) && decide (c.toNat ≤ 57)
def dv (c : UInt8) : Int := (c.toNat : Int) - 48

/-- may a digit come behind cnt digits that are n? -/
def okd (most : Int) (cnt : Nat) (n : Int) (c : UInt8) : Bool := isD c && !(decide (0 < cnt) && decide (n = 0)) && decide (n * 10 + dv c ≤ most)

/-- how many more letters there may be -/
def scanP : Nat → Nat → Int → List UInt8 → Nat
  | _, _, _, [] => 0
  | k, cnt, n, c :: r => if c = 46 then if 0 < cnt ∧ 0 < k then scanP (k - 1) 0 0 r + 1 else 0 else if okd 255 cnt n c then scanP k (cnt + 1) (n * 10 + dv c) r + 1 else 0

/-- the numbers of the whole -/
def gv : Nat → Nat → Int → List UInt8 → Option (List Int)
  | k, cnt, n, [] => if 0 < cnt ∧ k = 0 then some [n] else none
  | k, cnt, n, c :: r => if c = 46 then if 0 < cnt ∧ 0 < k then (gv (k - 1) 0 0 r).map (n :: ·) else none else if okd 255 cnt n c then gv k (cnt + 1) (n * 10 + dv c) r else none

/-- a text's parts -/
def splitL (x : UInt8) : List UInt8 → List UInt8 → List (List UInt8)
  | cur, [] => [cur]
  | cur, c :: r => if c = x then cur :: splitL x [] r else splitL x (cur ++ [c]) r

def val (l : List UInt8) : Int := l.foldl (fun n c => n * 10 + dv c) 0

def oct (most : Int) (l : List UInt8) : Bool := decide (l = []) || (!(decide (l.head? = some 48) && decide (1 < l.length)) && decide (l.length ≤ 3) && l.all isD && decide (val l ≤ most))

def b4 (l : List UInt8) : Bool := decide ((splitL 46 [] l).length ≤ 4) && (splitL 46 [] l).all (oct 255) && (splitL 46 [] l).dropLast.all (fun p => decide (p ≠ []))
def w4 (l : List UInt8) : Bool := b4 l && decide ((splitL 46 [] l).length = 4) && decide ((splitL 46 [] l).getD 3 [] ≠ [])

/-! ## the program's way -/

/-! ## the parts' way -/

theorem splitL_ne (x : UInt8) : ∀ (l cur : List UInt8), splitL x cur l ≠ []
  | [], _ => by simp [splitL]
  | c :: r, cur => by
    unfold splitL
    split
    · simp
    · exact splitL_ne x r _

/-- digits that may stand so -/
def goes (most : Int) : Nat → Int → List UInt8 → Bool
  | _, _, [] => true
  | cnt, n, c :: r => okd most cnt n c && goes most (cnt + 1) (n * 10 + dv c) r

theorem goes_append (most : Int) : ∀ (l r : List UInt8) (cnt : Nat) (n : Int), goes most cnt n (l ++ r) = (goes most cnt n l && goes most (cnt + l.length) (l.foldl (fun n c => n * 10 + dv c) n) r)
  | [], r, cnt, n => by simp [goes]
  | c :: l, r, cnt, n => by
    rw [List.cons_append, goes, goes, goes_append most l r, Bool.and_assoc, List.length_cons, List.foldl_cons]
    rw [show cnt + 1 + l.length = cnt + (l.length + 1) by omega]

theorem val_append (l : List UInt8) (c : UInt8) : val (l ++ [c]) = val l * 10 + dv c := by
  unfold val; rw [List.foldl_append]; rfl

theorem isD_dv {c : UInt8} (h : isD c = true) : 0 ≤ dv c ∧ dv c ≤ 9 := by
  unfold isD at h
  simp only [Bool.and_eq_true, decide_eq_true_eq] at h
  unfold dv; omega

theorem okd_iff {most : Int} {cnt : Nat} {n : Int} {c : UInt8} : okd most cnt n c = true ↔ isD c = true ∧ ¬ (0 < cnt ∧ n = 0) ∧ n * 10 + dv c ≤ most := by
  unfold okd
  simp only [Bool.and_eq_true, Bool.not_eq_true', Bool.and_eq_false_iff, decide_eq_true_eq, decide_eq_false_iff_not]
  constructor
  · rintro ⟨⟨h1, h2⟩, h3⟩; exact ⟨h1, by rintro ⟨a, b⟩; rcases h2 with h | h <;> contradiction, h3⟩
  · rintro ⟨h1, h2, h3⟩
    refine ⟨⟨h1, ?_⟩, h3⟩
    by_cases a : 0 < cnt
    · exact .inr fun b => h2 ⟨a, b⟩
    · exact .inl a

/-- four digits are too many -/
theorem oct_goes {most : Int} (hm : 0 ≤ most) (hm' : most ≤ 999) (l : List UInt8) : oct most l = goes most 0 0 l := by
  rw [Bool.eq_iff_iff]
  match l with
  | [] => simp [oct, goes]
  | [a] =>
    have hv : val [a] = 0 * 10 + dv a := rfl
    simp only [hv, oct, goes, Bool.and_true, okd_iff, List.all_cons, List.all_nil, Bool.or_eq_true, Bool.and_eq_true, Bool.not_eq_true', Bool.and_eq_false_iff, decide_eq_true_eq, decide_eq_false_iff_not, List.length_cons, List.length_nil]
    simp
  | [a, b] =>
    have hv : val [a, b] = dv a * 10 + dv b := by show (0 * 10 + dv a) * 10 + dv b = _; omega
    simp only [hv, oct, goes, Bool.and_true, okd_iff, List.all_cons, List.all_nil, Bool.or_eq_true, Bool.and_eq_true, Bool.not_eq_true', Bool.and_eq_false_iff, decide_eq_true_eq, decide_eq_false_iff_not, List.length_cons, List.length_nil]
    simp only [List.head?_cons, Option.some.injEq, reduceCtorEq, false_or]
    have ha : dv a = 0 ↔ a = 48 := by
      unfold dv
      constructor
      · intro h; exact UInt8.toNat.inj (by show _ = 48; omega)
      · rintro rfl; rfl
    constructor
    · rintro ⟨⟨⟨h1, h2⟩, h3, h4⟩, h5⟩
      have := isD_dv h3; have := isD_dv h4
      refine ⟨⟨h3, by omega, by omega⟩, h4, ?_, by omega⟩
      rcases h1 with h1 | h1
      · rintro ⟨_, h⟩; exact h1 (ha.1 (by omega))
      · omega
    · rintro ⟨⟨h3, _, h6⟩, h4, h1, h5⟩
      have := isD_dv h3; have := isD_dv h4
      refine ⟨⟨⟨.inl fun h => h1 ⟨by omega, by rw [ha.2 h]; rfl⟩, by omega⟩, h3, h4⟩, by omega⟩
  | [a, b, c] =>
    have hv : val [a, b, c] = dv a * 100 + dv b * 10 + dv c := by show ((0 * 10 + dv a) * 10 + dv b) * 10 + dv c = _; omega
    simp only [hv, oct, goes, Bool.and_true, okd_iff, List.all_cons, List.all_nil, Bool.or_eq_true, Bool.and_eq_true, Bool.not_eq_true', Bool.and_eq_false_iff, decide_eq_true_eq, decide_eq_false_iff_not, List.length_cons, List.length_nil]
    simp only [List.head?_cons, Option.some.injEq, reduceCtorEq, false_or]
    have ha : dv a = 0 ↔ a = 48 := by
      unfold dv
      constructor
      · intro h; exact UInt8.toNat.inj (by show _ = 48; omega)
      · rintro rfl; rfl
    constructor
    · rintro ⟨⟨⟨h1, h2⟩, h3, h4, h6⟩, h5⟩
      have := isD_dv h3; have := isD_dv h4; have := isD_dv h6
      have h0 : dv a ≠ 0 := by
        rcases h1 with h1 | h1
        · exact fun h => h1 (ha.1 h)
        · omega
      exact ⟨⟨h3, by omega, by omega⟩, ⟨h4, by omega, by omega⟩, h6, by omega, by omega⟩
    · rintro ⟨⟨h3, _, h7⟩, ⟨h4, h1, h8⟩, h6, h9, h5⟩
      have := isD_dv h3; have := isD_dv h4; have := isD_dv h6
      refine ⟨⟨⟨.inl fun h => h1 ⟨by omega, by rw [ha.2 h]; rfl⟩, by omega⟩, h3, h4, h6⟩, by omega⟩
  | a :: b :: c :: d :: r =>
    simp only [oct, goes, Bool.and_eq_true, okd_iff, Bool.or_eq_true, decide_eq_true_eq, List.length_cons]
    constructor
    · rintro (h | h)
      · cases h
      · omega
    · rintro ⟨⟨h1, _, _⟩, ⟨h2, h2', _⟩, ⟨h3, h3', _⟩, ⟨h4, h4', h4''⟩, _⟩
      have := isD_dv h1; have := isD_dv h2; have := isD_dv h3; have := isD_dv h4
      omega

theorem splitL_head (x : UInt8) : ∀ (l cur : List UInt8), ∃ t p, splitL x cur l = (cur ++ t) :: p
  | [], cur => ⟨[], [], by simp [splitL]⟩
  | c :: r, cur => by
    unfold splitL
    split
    · exact ⟨[], _, by rw [List.append_nil]⟩
    · obtain ⟨t, p, e⟩ := splitL_head x r (cur ++ [c])
      exact ⟨c :: t, p, by rw [e]; simp⟩

theorem gv_some_len : ∀ (l : List UInt8) (k cnt : Nat) (n : Int) (v : List Int), gv k cnt n l = some v → v.length = k + 1
  | [], k, cnt, n, v, h => by
    unfold gv at h
    split at h
    · injection h with h; subst h; simp; omega
    · cases h
  | c :: r, k, cnt, n, v, h => by
    unfold gv at h
    split at h
    · split at h
      · obtain ⟨w, h1, rfl⟩ := Option.map_eq_some_iff.1 h
        have := gv_some_len r _ _ _ _ h1
        simp only [List.length_cons]; omega
      · cases h
    · split at h
      · exact gv_some_len r _ _ _ _ h
      · cases h

theorem scanP_le : ∀ (l : List UInt8) (k cnt : Nat) (n : Int), scanP k cnt n l ≤ l.length
  | [], k, cnt, n => by simp [scanP]
  | c :: r, k, cnt, n => by
    unfold scanP
    rw [List.length_cons]
    split
    · split
      · have := scanP_le r (k - 1) 0 0; omega
      · omega
    · split
      · have := scanP_le r k (cnt + 1) (n * 10 + dv c); omega
      · omega

theorem scanP_take : ∀ (l : List UInt8) (k cnt : Nat) (n : Int) (m : Nat), scanP k cnt n (l.take m) = min m (scanP k cnt n l)
  | [], k, cnt, n, m => by simp [scanP]
  | c :: r, k, cnt, n, 0 => by simp [scanP]
  | c :: r, k, cnt, n, m + 1 => by
    rw [List.take_succ_cons]
    unfold scanP
    split
    · split
      · rw [scanP_take]; omega
      · omega
    · split
      · rw [scanP_take]; omega
      · omega

/-- the parts are as the scan says -/
theorem parts_scan : ∀ (l cur : List UInt8) (k : Nat), goes 255 0 0 cur = true →
    (scanP k cur.length (val cur) l = l.length ↔ (splitL 46 cur l).length ≤ k + 1 ∧ (splitL 46 cur l).all (oct 255) = true ∧ (splitL 46 cur l).dropLast.all (fun p => decide (p ≠ [])) = true) ∧
      (scanP k cur.length (val cur) l = l.length → gv k cur.length (val cur) l = if (splitL 46 cur l).length = k + 1 ∧ (splitL 46 cur l).getLast (splitL_ne 46 l cur) ≠ [] then some ((splitL 46 cur l).map val) else none)
  | [], cur, k, hc => by
    have ho : oct 255 cur = true := by rw [oct_goes (by omega) (by omega)]; exact hc
    refine ⟨by simp [splitL, scanP, ho], fun _ => ?_⟩
    simp only [gv, splitL, List.length_cons, List.length_nil, List.getLast_singleton, List.map_cons, List.map_nil]
    by_cases hk : k = 0
    · by_cases hcur : cur = []
      · rw [if_neg (by rw [hcur]; simp), if_neg (by rw [hcur]; simp)]
      · rw [if_pos ⟨List.length_pos_iff.2 hcur, hk⟩, if_pos ⟨by omega, hcur⟩]
    · rw [if_neg (by omega), if_neg (by omega)]
  | c :: r, cur, k, hc => by
    have ho : oct 255 cur = true := by rw [oct_goes (by omega) (by omega)]; exact hc
    by_cases h46 : c = 46
    · have es : splitL 46 cur (c :: r) = cur :: splitL 46 [] r := by rw [splitL, if_pos h46]
      have hne := splitL_ne 46 r []
      have hpos : 0 < (splitL 46 [] r).length := List.length_pos_iff.2 hne
      have hle := scanP_le r (k - 1) 0 0
      have e1 : scanP k cur.length (val cur) (c :: r) = if 0 < cur.length ∧ 0 < k then scanP (k - 1) 0 0 r + 1 else 0 := by rw [scanP, if_pos h46]
      have e2 : gv k cur.length (val cur) (c :: r) = if 0 < cur.length ∧ 0 < k then (gv (k - 1) 0 0 r).map (val cur :: ·) else none := by rw [gv, if_pos h46]
      have hdl : (splitL 46 cur (c :: r)).dropLast = cur :: (splitL 46 [] r).dropLast := by rw [es, List.dropLast_cons_of_ne_nil hne]
      have hgl : (splitL 46 cur (c :: r)).getLast (splitL_ne 46 (c :: r) cur) = (splitL 46 [] r).getLast hne := by
        simp only [es]; exact List.getLast_cons hne
      rw [e1, e2, hdl, hgl, es]
      simp only [List.length_cons, List.all_cons, ho, Bool.true_and, Bool.and_eq_true, decide_eq_true_eq, List.map_cons]
      by_cases hg : 0 < cur.length ∧ 0 < k
      · obtain ⟨k', rfl⟩ : ∃ k', k = k' + 1 := ⟨k - 1, by omega⟩
        obtain ⟨i1, i2⟩ := parts_scan r [] k' rfl
        rw [if_pos hg, if_pos hg, Nat.add_sub_cancel]
        have hcur : cur ≠ [] := List.length_pos_iff.1 hg.1
        have hv0 : val [] = 0 := rfl
        simp only [List.length_nil, hv0] at i1 i2
        refine ⟨⟨fun h => ?_, fun h => ?_⟩, fun h => ?_⟩
        · obtain ⟨a, b, d⟩ := i1.1 (by omega)
          exact ⟨by omega, b, hcur, d⟩
        · have := i1.2 ⟨by omega, h.2.1, h.2.2.2⟩
          omega
        · rw [i2 (by omega)]
          by_cases hx : (splitL 46 [] r).length = k' + 1 ∧ (splitL 46 [] r).getLast hne ≠ []
          · rw [if_pos hx, if_pos ⟨by omega, hx.2⟩]; rfl
          · rw [if_neg hx, if_neg (fun h => hx ⟨by omega, h.2⟩)]; rfl
      · rw [if_neg hg, if_neg hg]
        refine ⟨⟨fun h => by omega, fun h => ?_⟩, fun h => by omega⟩
        have : 0 < cur.length := List.length_pos_iff.2 h.2.2.1
        omega
    · have es : splitL 46 cur (c :: r) = splitL 46 (cur ++ [c]) r := by rw [splitL, if_neg h46]
      have hga : goes 255 0 0 (cur ++ [c]) = okd 255 cur.length (val cur) c := by
        rw [goes_append, hc, Bool.true_and, Nat.zero_add]
        show (okd 255 cur.length (val cur) c && true) = _
        rw [Bool.and_true]
      cases hk : okd 255 cur.length (val cur) c with
      | true =>
        obtain ⟨i1, i2⟩ := parts_scan r (cur ++ [c]) k (hga.trans hk)
        have e1 : scanP k cur.length (val cur) (c :: r) = scanP k (cur ++ [c]).length (val (cur ++ [c])) r + 1 := by
          rw [scanP, if_neg h46, if_pos hk, val_append, List.length_append]; rfl
        have e2 : gv k cur.length (val cur) (c :: r) = gv k (cur ++ [c]).length (val (cur ++ [c])) r := by
          rw [gv, if_neg h46, if_pos hk, val_append, List.length_append]; rfl
        rw [e1, e2]
        simp only [es, List.length_cons]
        exact ⟨⟨fun h => i1.1 (by omega), fun h => by have := i1.2 h; omega⟩, fun h => i2 (by omega)⟩
      | false =>
        have e1 : scanP k cur.length (val cur) (c :: r) = 0 := by rw [scanP, if_neg h46, if_neg (by rw [hk]; simp)]
        rw [e1]
        refine ⟨⟨fun h => by simp at h, fun h => ?_⟩, fun h => by simp at h⟩
        obtain ⟨t, p, e⟩ := splitL_head 46 r (cur ++ [c])
        have h2 := h.2.1
        rw [es, e, List.all_cons, oct_goes (by omega) (by omega), goes_append, hga, hk] at h2
        cases h2

theorem b4_scan (l : List UInt8) : b4 l = decide (scanP 3 0 0 l = l.length) := by
  have := (parts_scan l [] 3 rfl).1
  unfold b4
  rw [Bool.eq_iff_iff]
  simp only [Bool.and_eq_true, decide_eq_true_eq]
  exact ⟨fun h => this.2 ⟨h.1.1, h.1.2, h.2⟩, fun h => by obtain ⟨a, b, c⟩ := this.1 h; exact ⟨⟨a, b⟩, c⟩⟩

/-- a beginning may be just when it is not longer than the scan goes -/
theorem b4_take (l : List UInt8) (m : Nat) (hm : m ≤ l.length) : b4 (l.take m) = decide (m ≤ scanP 3 0 0 l) := by
  rw [b4_scan, scanP_take, List.length_take, Nat.min_eq_left hm, Bool.eq_iff_iff, decide_eq_true_eq, decide_eq_true_eq]
  omega

theorem w4_gv (l : List UInt8) : w4 l = (decide (scanP 3 0 0 l = l.length) && (gv 3 0 0 l).isSome) := by
  unfold w4
  rw [b4_scan]
  by_cases hs : scanP 3 0 0 l = l.length
  · have h2 := (parts_scan l [] 3 rfl).2 hs
    have h2 : gv 3 0 0 l = _ := h2
    rw [h2]
    have hne := splitL_ne 46 l []
    by_cases h4 : (splitL 46 [] l).length = 4
    · have hg : (splitL 46 [] l).getLast hne = (splitL 46 [] l).getD 3 [] := by
        rw [List.getLast_eq_getElem, List.getD_eq_getElem?_getD, List.getElem?_eq_getElem (by omega)]
        simp [h4]
      rw [hg]
      by_cases hx : (splitL 46 [] l).getD 3 [] = []
      · rw [if_neg (fun h => h.2 hx), show decide ((splitL 46 [] l).getD 3 [] ≠ []) = false from decide_eq_false (fun h => h hx)]; simp
      · rw [if_pos ⟨h4, hx⟩, decide_eq_true hs, decide_eq_true h4, decide_eq_true hx]; rfl
    · rw [if_neg (fun h => h4 h.1)]; simp [h4]
  · simp [hs]

theorem w4_parts {l : List UInt8} (h : w4 l = true) : scanP 3 0 0 l = l.length ∧ gv 3 0 0 l = some ((splitL 46 [] l).map val) ∧ (splitL 46 [] l).length = 4 ∧ ∀ p ∈ splitL 46 [] l, oct 255 p = true := by
  rw [w4_gv, Bool.and_eq_true, decide_eq_true_eq] at h
  obtain ⟨hs, hg⟩ := h
  obtain ⟨h1, h2⟩ := parts_scan l [] 3 rfl
  obtain ⟨_, ha, _⟩ := h1.1 hs
  have h2 := h2 hs
  have h2 : gv 3 0 0 l = _ := h2
  refine ⟨hs, ?_, ?_, fun p hp => List.all_eq_true.1 ha p hp⟩
  · rw [h2] at hg ⊢
    split
    · rfl
    · rename_i hx; rw [if_neg hx] at hg; cases hg
  · by_cases h4 : (splitL 46 [] l).length = 4
    · exact h4
    · rw [h2, if_neg (fun h => h4 h.1)] at hg; cases hg

/-- the answer: the numbers, or the place -/
def p4R (l : List UInt8) : Option (List Int) × Nat :=
  if scanP 3 0 0 l < l.length then (none, scanP 3 0 0 l) else match gv 3 0 0 l with
    | some v => (some v, 0)
    | none => (none, scanP 3 0 0 l)

end Go.Proofs.YtopladipgobpjaaDoor
