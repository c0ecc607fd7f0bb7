/-
  Sorting a row by swaps, in plain Lean: what the parts of slices.SortFunc keep, on rows of records that a number orders. Conditions stand with each theorem.
-/
import Derived.Test.YtcdmnmpiipmfmaaFmE
namespace Go.Proofs.Ytcdmnmpiipmfmaa

section
variable {E : Type} [Inhabited E]

def ix (l : List E) (z : Int) : E := l.getD z.toNat default
def swp (l : List E) (i j : Int) : List E := (l.set i.toNat (l.getD j.toNat default)).set j.toNat (l.getD i.toNat default)
def K (nk : E → Int) (l : List E) (z : Int) : Int := nk (ix l z)

theorem swp_len (l : List E) (i j : Int) : (swp l i j).length = l.length := by simp [swp]

omit [Inhabited E] in
theorem getD_set (l : List E) (i k : Nat) (x d : E) (hi : i < l.length) : (l.set i x).getD k d = if k = i then x else l.getD k d := by
  simp only [List.getD_eq_getElem?_getD, List.getElem?_set]
  by_cases h : i = k
  · subst h; simp [hi]
  · rw [if_neg h, if_neg (Ne.symm h)]

theorem ix_swp {l : List E} {i j k : Int} (hi : 0 ≤ i ∧ i < l.length) (hj : 0 ≤ j ∧ j < l.length) (hk : 0 ≤ k) : ix (swp l i j) k = if k = j then ix l i else if k = i then ix l j else ix l k := by
  unfold ix swp
  rw [getD_set _ _ _ _ _ (by simp; omega), getD_set _ _ _ _ _ (by omega)]
  have e1 : (k.toNat = j.toNat) = (k = j) := by apply propext; omega
  have e2 : (k.toNat = i.toNat) = (k = i) := by apply propext; omega
  simp only [e1, e2]

theorem swp_perm {l : List E} {i j : Int} (hi : 0 ≤ i ∧ i < l.length) (hj : 0 ≤ j ∧ j < l.length) : (swp l i j).Perm l := by
  have h1 : i.toNat < l.length := by omega
  have h2 : j.toNat < l.length := by omega
  have e1 : l.getD i.toNat default = l[i.toNat] := by simp [List.getD_eq_getElem?_getD, List.getElem?_eq_getElem h1]
  have e2 : l.getD j.toNat default = l[j.toNat] := by simp [List.getD_eq_getElem?_getD, List.getElem?_eq_getElem h2]
  unfold swp
  rw [e1, e2]
  exact List.set_set_perm h1 h2

/-- l2 is l but for swaps of items from a on, below b -/
inductive Sw (a b : Int) (l : List E) : List E → Prop
  | refl : Sw a b l l
  | step {l2 : List E} {i j : Int} : Sw a b l l2 → a ≤ i → i < b → a ≤ j → j < b → Sw a b l (swp l2 i j)

variable {nk : E → Int} {l l2 l3 : List E} {a b : Int}

theorem Sw.len (h : Sw a b l l2) : l2.length = l.length := by
  induction h with
  | refl => rfl
  | step _ _ _ _ _ ih => rw [swp_len, ih]

theorem Sw.trans (h : Sw a b l l2) (h' : Sw a b l2 l3) : Sw a b l l3 := by
  induction h' with
  | refl => exact h
  | step _ h1 h2 h3 h4 ih => exact .step ih h1 h2 h3 h4

theorem Sw.mono {a' b' : Int} (h : Sw a b l l2) (ha : a' ≤ a) (hb : b ≤ b') : Sw a' b' l l2 := by
  induction h with
  | refl => exact .refl
  | step _ h1 h2 h3 h4 ih => exact .step ih (by omega) (by omega) (by omega) (by omega)

theorem Sw.perm (h : Sw a b l l2) (ha : 0 ≤ a) (hb : b ≤ l.length) : l2.Perm l := by
  induction h with
  | refl => exact .refl _
  | step h0 h1 h2 h3 h4 ih => exact (swp_perm (by have := h0.len; omega) (by have := h0.len; omega)).trans ih

theorem Sw.out (h : Sw a b l l2) (ha : 0 ≤ a) (hb : b ≤ l.length) {k : Int} (hk : 0 ≤ k) (ho : k < a ∨ b ≤ k) : ix l2 k = ix l k := by
  induction h with
  | refl => rfl
  | step h0 h1 h2 h3 h4 ih =>
    have := h0.len
    rw [ix_swp (by omega) (by omega) hk, if_neg (by omega), if_neg (by omega), ih]

theorem Sw.all (h : Sw a b l l2) (ha : 0 ≤ a) (hb : b ≤ l.length) {p : E → Prop} (hp : ∀ k, a ≤ k → k < b → p (ix l k)) : ∀ k, a ≤ k → k < b → p (ix l2 k) := by
  induction h with
  | refl => exact hp
  | step h0 h1 h2 h3 h4 ih =>
    have := h0.len
    intro k hk hk'
    rw [ix_swp (by omega) (by omega) (by omega)]
    split
    · exact ih _ h1 h2
    · split
      · exact ih _ h3 h4
      · exact ih _ hk hk'

theorem Sw.outK (h : Sw a b l l2) (ha : 0 ≤ a) (hb : b ≤ l.length) {k : Int} (hk : 0 ≤ k) (ho : k < a ∨ b ≤ k) : K nk l2 k = K nk l k := by
  unfold K; rw [h.out ha hb hk ho]

theorem K_swp {i j k : Int} (hi : 0 ≤ i ∧ i < l.length) (hj : 0 ≤ j ∧ j < l.length) (hk : 0 ≤ k) : K nk (swp l i j) k = if k = j then K nk l i else if k = i then K nk l j else K nk l k := by
  unfold K; rw [ix_swp hi hj hk]; split
  · rfl
  · split <;> rfl

/-- no two items of one number -/
def Dis (nk : E → Int) (l : List E) : Prop := ∀ i j : Int, 0 ≤ i → i < l.length → 0 ≤ j → j < l.length → K nk l i = K nk l j → i = j
def Srt (nk : E → Int) (a b : Int) (l : List E) : Prop := ∀ x y : Int, a ≤ x → x < y → y < b → K nk l x < K nk l y
def Low (nk : E → Int) (a b : Int) (l : List E) : Prop := 0 < a → ∀ k, a ≤ k → k < b → K nk l (a - 1) < K nk l k

theorem Dis.swp {i j : Int} (h : Dis nk l) (hi : 0 ≤ i ∧ i < l.length) (hj : 0 ≤ j ∧ j < l.length) : Dis nk (Go.Proofs.Ytcdmnmpiipmfmaa.swp l i j) := by
  intro x y hx hx' hy hy' e
  rw [swp_len] at hx' hy'
  rw [K_swp hi hj hx, K_swp hi hj hy] at e
  have d := fun x y hx hx' hy hy' => h x y hx hx' hy hy'
  split at e
  · split at e
    · omega
    · split at e
      · have := d _ _ hi.1 hi.2 hj.1 hj.2 e; omega
      · have := d _ _ hi.1 hi.2 hy hy' e; omega
  · split at e
    · split at e
      · have := d _ _ hj.1 hj.2 hi.1 hi.2 e; omega
      · split at e
        · omega
        · have := d _ _ hj.1 hj.2 hy hy' e; omega
    · split at e
      · have := d _ _ hx hx' hi.1 hi.2 e; omega
      · split at e
        · have := d _ _ hx hx' hj.1 hj.2 e; omega
        · exact d _ _ hx hx' hy hy' e

theorem Sw.dis (h : Sw a b l l2) (ha : 0 ≤ a) (hb : b ≤ l.length) (hd : Dis nk l) : Dis nk l2 := by
  induction h with
  | refl => exact hd
  | step h0 h1 h2 h3 h4 ih => have := h0.len; exact ih.swp (by omega) (by omega)

theorem Low.sw (hl : Low nk a b l) (h : Sw a b l l2) (ha : 0 ≤ a) (hb : b ≤ l.length) : Low nk a b l2 := by
  intro h0 k h1 h2
  rw [h.outK ha hb (by omega) (by omega)]
  exact h.all ha hb (p := fun e => K nk l (a - 1) < nk e) (fun k h1 h2 => hl h0 k h1 h2) k h1 h2

/-- what the sort's parts ask for -/
structure Pre (nk : E → Int) (l : List E) (n : Nat) (a b : Int) : Prop where
  len : l.length = n
  big : n < 2 ^ 40
  a0 : 0 ≤ a
  ab : a ≤ b
  bn : b ≤ n
  dis : Dis nk l

theorem Pre.sw {n : Nat} {a' b' : Int} (h : Pre nk l n a b) (hs : Sw a' b' l l2) (h0 : 0 ≤ a') (h1 : b' ≤ n) : Pre nk l2 n a b :=
  ⟨by rw [hs.len, h.len], h.big, h.a0, h.ab, h.bn, hs.dis h0 (by rw [h.len]; exact h1) h.dis⟩

def pSort (nk : E → Int) (l : List E) (a b : Int) (l2 : List E) : Prop := Sw a b l l2 ∧ Srt nk a b l2

/-! ## insertion -/

def iI1 (nk : E → Int) (l : List E) (a b : Int) (p : List E × Int) : Prop := Sw a b l p.1 ∧ a < p.2 ∧ (p.2 ≤ b ∨ p.2 = a + 1) ∧ Srt nk a p.2 p.1
def iI2 (nk : E → Int) (l : List E) (a b : Int) (o p : List E × Int) : Prop := Sw a b l p.1 ∧ a ≤ p.2 ∧ p.2 ≤ o.2 ∧ o.2 < b ∧ a < o.2 ∧ ∀ x y : Int, a ≤ x → x < y → y ≤ o.2 → y ≠ p.2 → K nk p.1 x < K nk p.1 y

variable {n : Nat}

theorem I1_first (_h : Pre nk l n a b) : iI1 nk l a b (l, a + 1) := ⟨.refl, by simp; omega, .inr rfl, fun x y h1 h2 h3 => by simp at h3; omega⟩
theorem I2_first {p : List E × Int} (h : iI1 nk l a b p) (hb : p.2 < b) : iI2 nk l a b p p := by
  obtain ⟨h1, h2, h3, h4⟩ := h
  exact ⟨h1, by omega, by omega, hb, h2, fun x y hx hxy hy hne => h4 x y hx hxy (by omega)⟩
theorem I2_step {o p : List E × Int} (H : Pre nk l n a b) (h : iI2 nk l a b o p) (ha : a < p.2) (hc : K nk p.1 p.2 < K nk p.1 (p.2 - 1)) : iI2 nk l a b o (swp p.1 p.2 (p.2 - 1), p.2 - 1) := by
  obtain ⟨h1, h2, h3, h4, h5, h6⟩ := h
  have hl := h1.len
  have hL := H.len
  have hb := H.bn
  have h0 := H.a0
  refine ⟨.step h1 (by omega) (by omega) (by omega) (by omega), by simp; omega, by simp; omega, h4, h5, ?_⟩
  intro x y hx hxy hy hne
  simp only at hne ⊢
  rw [K_swp (by omega) (by omega) (by omega), K_swp (by omega) (by omega) (by omega)]
  have i1 := h6 x y hx hxy hy
  have i2 := h6 x (p.2 - 1) hx
  have i3 := h6 (p.2 - 1) y (by omega)
  repeat' split
  all_goals omega
theorem I2_done {o p : List E × Int} (H : Pre nk l n a b) (h : iI2 nk l a b o p) (hc : p.2 ≤ a ∨ ¬ K nk p.1 p.2 < K nk p.1 (p.2 - 1)) : iI1 nk l a b (p.1, o.2 + 1) := by
  obtain ⟨h1, h2, h3, h4, h5, h6⟩ := h
  refine ⟨h1, by simp; omega, .inl (by simp; omega), ?_⟩
  intro x y hx hxy hy
  simp only at hy ⊢
  by_cases hne : y = p.2
  · subst hne
    rcases hc with hc | hc
    · omega
    · have hd := (h1.dis (nk := nk) H.a0 (by rw [H.len]; exact H.bn) H.dis)
      have hl := h1.len
      have hL := H.len
      have hb := H.bn
      have h0 := H.a0
      have hne : K nk p.1 p.2 ≠ K nk p.1 (p.2 - 1) := fun e => by have := hd _ _ (by omega) (by omega) (by omega) (by omega) e; omega
      by_cases hx1 : x = p.2 - 1
      · subst hx1; omega
      · have := h6 x (p.2 - 1) hx (by omega) (by omega) (by omega); omega
  · exact h6 x y hx hxy (by omega) hne
theorem I1_done {p : List E × Int} (h : iI1 nk l a b p) (hb : ¬ p.2 < b) : pSort nk l a b p.1 := ⟨h.1, fun x y hx hxy hy => h.2.2.2 x y hx hxy (by omega)⟩

/-! ## turning round -/

def iR (l : List E) (a b : Int) (p : List E × Int × Int) : Prop := Sw a b l p.1 ∧ a ≤ p.2.1 ∧ p.2.1 ≤ b ∧ a - 1 ≤ p.2.2 ∧ p.2.2 < b
theorem R_first (h : Pre nk l n a b) : iR l a b (l, a, b - 1) := ⟨.refl, Int.le_refl _, h.ab, by have := h.ab; show a - 1 ≤ b - 1; omega, by show b - 1 < b; omega⟩
theorem R_step {p : List E × Int × Int} (h : iR l a b p) (hc : p.2.1 < p.2.2) : iR l a b (swp p.1 p.2.1 p.2.2, p.2.1 + 1, p.2.2 - 1) := by
  obtain ⟨h1, h2, h3, h4, h5⟩ := h
  exact ⟨.step h1 h2 (by omega) (by omega) h5, by simp; omega, by simp; omega, by simp; omega, by simp; omega⟩

/-! ## heaps -/

structure PreF (nk : E → Int) (l : List E) (n : Nat) (lo hi f : Int) : Prop where
  len : l.length = n
  big : n < 2 ^ 40
  f0 : 0 ≤ f
  lo0 : 0 ≤ lo
  hi0 : 0 ≤ hi
  fn : f + hi ≤ n
  ln : f + lo ≤ n
  dis : Dis nk l

def iS (nk : E → Int) (l : List E) (lo hi f : Int) (p : List E × Int) : Prop := Sw (f + lo) (f + hi) l p.1 ∧ lo ≤ p.2 ∧ (p.2 < hi ∨ p.2 = lo) ∧
  (∀ x c : Int, lo ≤ x → x ≠ p.2 → (c = 2 * x + 1 ∨ c = 2 * x + 2) → c < hi → K nk p.1 (f + c) < K nk p.1 (f + x)) ∧
  (∀ x c : Int, lo ≤ x → (p.2 = 2 * x + 1 ∨ p.2 = 2 * x + 2) → (c = 2 * p.2 + 1 ∨ c = 2 * p.2 + 2) → c < hi → K nk p.1 (f + c) < K nk p.1 (f + x))
def pSift (nk : E → Int) (l : List E) (lo hi f : Int) (l2 : List E) : Prop := Sw (f + lo) (f + hi) l l2 ∧ ∀ x c : Int, lo ≤ x → (c = 2 * x + 1 ∨ c = 2 * x + 2) → c < hi → K nk l2 (f + c) < K nk l2 (f + x)

variable {lo hi f : Int}
theorem S_first (H : PreF nk l n lo hi f) (h : ∀ x c : Int, lo < x → (c = 2 * x + 1 ∨ c = 2 * x + 2) → c < hi → K nk l (f + c) < K nk l (f + x)) : iS nk l lo hi f (l, lo) :=
  ⟨.refl, Int.le_refl _, .inr rfl, fun x c h1 h2 h3 h4 => h x c (by simp at h2; omega) h3 h4, fun x c h1 h2 => by have := H.lo0; simp at h2; omega⟩
theorem S_step {p : List E × Int} (H : PreF nk l n lo hi f) (h : iS nk l lo hi f p) {ch : Int} (hch : ch = 2 * p.2 + 1 ∨ ch = 2 * p.2 + 2) (hlt : ch < hi)
    (ho : ∀ o : Int, (o = 2 * p.2 + 1 ∨ o = 2 * p.2 + 2) → o < hi → o ≠ ch → ¬ K nk p.1 (f + ch) < K nk p.1 (f + o)) (hr : K nk p.1 (f + p.2) < K nk p.1 (f + ch)) : iS nk l lo hi f (swp p.1 (f + p.2) (f + ch), ch) := by
  obtain ⟨h1, h2, h3, h4, h5⟩ := h
  have hl := h1.len
  have hL := H.len
  have hf := H.f0
  have hlo := H.lo0
  have hfn := H.fn
  have hd := h1.dis (nk := nk) (by omega) (by omega) H.dis
  refine ⟨.step h1 (by omega) (by omega) (by omega) (by omega), by simp; omega, .inl hlt, ?_, ?_⟩
  · intro x c hx hne hc hlt2
    simp only at hne ⊢
    rw [K_swp (by omega) (by omega) (by omega), K_swp (by omega) (by omega) (by omega), if_neg (show ¬ f + x = f + ch by omega)]
    by_cases hxr : x = p.2
    · subst hxr
      rw [if_pos (show f + p.2 = f + p.2 from rfl)]
      by_cases hcc : c = ch
      · subst hcc; rw [if_pos rfl]; exact hr
      · rw [if_neg (by omega), if_neg (by omega)]
        have i3 := ho c hc hlt2 hcc
        have i4 := hd (f + c) (f + ch) (by omega) (by omega) (by omega) (by omega)
        omega
    · rw [if_neg (show ¬ f + x = f + p.2 by omega), if_neg (show ¬ f + c = f + ch by omega)]
      by_cases hcr : c = p.2
      · subst hcr
        rw [if_pos rfl]
        exact h5 x ch hx hc hch hlt
      · rw [if_neg (by omega)]
        exact h4 x c hx hxr hc hlt2
  · intro x c hx hpar hc hlt2
    simp only at hpar hc ⊢
    have i1 := h4 ch c (by omega) (by omega) hc hlt2
    have e : x = p.2 := by omega
    subst e
    rw [K_swp (by omega) (by omega) (by omega), K_swp (by omega) (by omega) (by omega), if_neg (by omega), if_neg (by omega), if_neg (by omega), if_pos rfl]
    exact i1
theorem S_done {p : List E × Int} (H : PreF nk l n lo hi f) (h : iS nk l lo hi f p)
    (ho : ∀ o : Int, (o = 2 * p.2 + 1 ∨ o = 2 * p.2 + 2) → o < hi → ¬ K nk p.1 (f + p.2) < K nk p.1 (f + o)) : pSift nk l lo hi f p.1 := by
  obtain ⟨h1, h2, h3, h4, h5⟩ := h
  have hl := h1.len
  have hL := H.len
  have hf := H.f0
  have hlo := H.lo0
  have hfn := H.fn
  have hln := H.ln
  refine ⟨h1, fun x c hx hc hlt => ?_⟩
  by_cases hne : x = p.2
  · subst hne
    have hd := h1.dis (nk := nk) (by omega) (by omega) H.dis
    have i1 := ho c hc hlt
    have i2 := hd (f + c) (f + p.2) (by omega) (by omega) (by omega) (by omega)
    omega
  · exact h4 x c hx hne hc hlt

theorem S_oneG {p : List E × Int} (H : PreF nk l n lo hi f) (h : iS nk l lo hi f p) (hlt : ¬ 2 * p.2 + 1 ≥ hi) (h2 : ¬ 2 * p.2 + 1 + 1 < hi) (hr : K nk p.1 (f + p.2) < K nk p.1 (f + (2 * p.2 + 1))) : iS nk l lo hi f (swp p.1 (f + p.2) (f + (2 * p.2 + 1)), 2 * p.2 + 1) :=
  S_step H h (.inl rfl) (by omega) (fun o ho hlt hne => by omega) hr
theorem S_leftG {p : List E × Int} (H : PreF nk l n lo hi f) (h : iS nk l lo hi f p) (hlt : ¬ 2 * p.2 + 1 ≥ hi) (hc : ¬ K nk p.1 (f + (2 * p.2 + 1)) < K nk p.1 (f + (2 * p.2 + 1) + 1)) (hr : K nk p.1 (f + p.2) < K nk p.1 (f + (2 * p.2 + 1))) : iS nk l lo hi f (swp p.1 (f + p.2) (f + (2 * p.2 + 1)), 2 * p.2 + 1) :=
  S_step H h (.inl rfl) (by omega) (fun o ho hlt hne => by
    have e : o = 2 * p.2 + 1 + 1 := by omega
    subst e; rwa [show f + (2 * p.2 + 1 + 1) = f + (2 * p.2 + 1) + 1 by omega]) hr
theorem S_rightG {p : List E × Int} (H : PreF nk l n lo hi f) (h : iS nk l lo hi f p) (h2 : 2 * p.2 + 1 + 1 < hi) (hc : K nk p.1 (f + (2 * p.2 + 1)) < K nk p.1 (f + (2 * p.2 + 1) + 1)) (hr : K nk p.1 (f + p.2) < K nk p.1 (f + (2 * p.2 + 1 + 1))) : iS nk l lo hi f (swp p.1 (f + p.2) (f + (2 * p.2 + 1 + 1)), 2 * p.2 + 1 + 1) :=
  S_step H h (.inr (by omega)) h2 (fun o ho hlt hne => by
    have e : o = 2 * p.2 + 1 := by omega
    subst e; rw [show f + (2 * p.2 + 1 + 1) = f + (2 * p.2 + 1) + 1 by omega]; omega) hr
theorem S_doneE {p : List E × Int} (H : PreF nk l n lo hi f) (h : iS nk l lo hi f p) (hlt : 2 * p.2 + 1 ≥ hi) : pSift nk l lo hi f p.1 := S_done H h (fun o ho hlt => by omega)
theorem S_doneO {p : List E × Int} (H : PreF nk l n lo hi f) (h : iS nk l lo hi f p) (h2 : ¬ 2 * p.2 + 1 + 1 < hi) (hr : ¬ K nk p.1 (f + p.2) < K nk p.1 (f + (2 * p.2 + 1))) : pSift nk l lo hi f p.1 :=
  S_done H h (fun o ho hlt => by
    have e : o = 2 * p.2 + 1 := by omega
    subst e; exact hr)
theorem S_doneL {p : List E × Int} (H : PreF nk l n lo hi f) (h : iS nk l lo hi f p) (hc : ¬ K nk p.1 (f + (2 * p.2 + 1)) < K nk p.1 (f + (2 * p.2 + 1) + 1)) (hr : ¬ K nk p.1 (f + p.2) < K nk p.1 (f + (2 * p.2 + 1))) : pSift nk l lo hi f p.1 :=
  S_done H h (fun o ho hlt => by
    rcases ho with ho | ho
    · subst ho; exact hr
    · have e : o = 2 * p.2 + 1 + 1 := by omega
      subst e; rw [show f + (2 * p.2 + 1 + 1) = f + (2 * p.2 + 1) + 1 by omega]; omega)
theorem S_doneR {p : List E × Int} (H : PreF nk l n lo hi f) (h : iS nk l lo hi f p) (hc : K nk p.1 (f + (2 * p.2 + 1)) < K nk p.1 (f + (2 * p.2 + 1) + 1)) (hr : ¬ K nk p.1 (f + p.2) < K nk p.1 (f + (2 * p.2 + 1 + 1))) : pSift nk l lo hi f p.1 :=
  S_done H h (fun o ho hlt => by
    rcases ho with ho | ho
    · subst ho; rw [show f + (2 * p.2 + 1 + 1) = f + (2 * p.2 + 1) + 1 by omega] at hr; omega
    · have e : o = 2 * p.2 + 1 + 1 := by omega
      subst e; exact hr)

def iH1 (nk : E → Int) (l : List E) (a b : Int) (p : List E × Int) : Prop := Sw a b l p.1 ∧ -1 ≤ p.2 ∧ (p.2 < b - a ∨ p.2 = 0) ∧ ∀ x c : Int, p.2 < x → (c = 2 * x + 1 ∨ c = 2 * x + 2) → c < b - a → K nk p.1 (a + c) < K nk p.1 (a + x)
def iH2 (nk : E → Int) (l : List E) (a b : Int) (p : List E × Int) : Prop := Sw a b l p.1 ∧ -1 ≤ p.2 ∧ p.2 < b - a ∧ (∀ x c : Int, 0 ≤ x → (c = 2 * x + 1 ∨ c = 2 * x + 2) → c ≤ p.2 → K nk p.1 (a + c) < K nk p.1 (a + x)) ∧
  ∀ x y : Int, 0 ≤ x → x < y → p.2 < y → y < b - a → K nk p.1 (a + x) < K nk p.1 (a + y)
theorem H1_first (H : Pre nk l n a b) : iH1 nk l a b (l, (b - a - 1).tdiv 2) := by
  have hab := H.ab
  refine ⟨.refl, ?_, ?_, ?_⟩
  · simp only; by_cases h : b - a = 0
    · rw [h]; decide
    · rw [Int.tdiv_eq_ediv_of_nonneg (by omega)]; omega
  · simp only; by_cases h : b - a = 0
    · right; rw [h]; decide
    · left; rw [Int.tdiv_eq_ediv_of_nonneg (by omega)]; omega
  · intro x c hx hc hlt
    simp only at hx
    by_cases h : b - a = 0
    · rw [h] at hx; have : (0 - 1 : Int).tdiv 2 = 0 := by decide
      rw [this] at hx; omega
    · rw [Int.tdiv_eq_ediv_of_nonneg (by omega)] at hx; omega
theorem H1_pre {p : List E × Int} (H : Pre nk l n a b) (h : iH1 nk l a b p) (hp : 0 ≤ p.2) : PreF nk p.1 n p.2 (b - a) a ∧ ∀ x c : Int, p.2 < x → (c = 2 * x + 1 ∨ c = 2 * x + 2) → c < b - a → K nk p.1 (a + c) < K nk p.1 (a + x) := by
  obtain ⟨h1, h2, h3, h4⟩ := h
  have P := H.sw h1 H.a0 H.bn
  have := H.ab
  have := H.bn
  exact ⟨⟨P.len, P.big, P.a0, hp, by omega, by omega, by omega, P.dis⟩, h4⟩
theorem H1_step {p : List E × Int} (H : Pre nk l n a b) (h : iH1 nk l a b p) (hp : 0 ≤ p.2) (hs : pSift nk p.1 p.2 (b - a) a l2) : iH1 nk l a b (l2, p.2 - 1) := by
  obtain ⟨h1, h2, h3, h4⟩ := h
  have := H.ab
  refine ⟨h1.trans (hs.1.mono (by omega) (by omega)), by simp; omega, by simp; omega, fun x c hx hc hlt => hs.2 x c (by simp at hx; omega) hc hlt⟩
theorem H2_first {p : List E × Int} (H : Pre nk l n a b) (h : iH1 nk l a b p) (hp : ¬ 0 ≤ p.2) : iH2 nk l a b (p.1, b - a - 1) := by
  obtain ⟨h1, h2, h3, h4⟩ := h
  have := H.ab
  exact ⟨h1, by simp; omega, by simp; omega, fun x c hx hc hlt => h4 x c (by omega) hc (by simp at hlt; omega), fun x y _ _ h5 h6 => by simp at h5; omega⟩
theorem heap_max {m : Int} (h : ∀ x c : Int, 0 ≤ x → (c = 2 * x + 1 ∨ c = 2 * x + 2) → c ≤ m → K nk l (a + c) < K nk l (a + x)) : ∀ k : Nat, 0 < k → (k : Int) ≤ m → K nk l (a + k) < K nk l (a + 0) := by
  intro k
  induction k using Nat.strongRecOn with
  | _ k ih =>
    intro h0 hm
    have h1 := h ((k - 1 : Nat) / 2 : Nat) k (by omega) (by omega) hm
    by_cases hz : (k - 1) / 2 = 0
    · rw [hz] at h1; exact h1
    · have := ih ((k - 1) / 2) (by omega) (by omega) (by omega); omega
theorem H2_pre {p : List E × Int} (H : Pre nk l n a b) (h : iH2 nk l a b p) (hp : 0 ≤ p.2) : PreF nk (swp p.1 a (a + p.2)) n 0 p.2 a ∧
    ∀ x c : Int, 0 < x → (c = 2 * x + 1 ∨ c = 2 * x + 2) → c < p.2 → K nk (swp p.1 a (a + p.2)) (a + c) < K nk (swp p.1 a (a + p.2)) (a + x) := by
  obtain ⟨h1, h2, h3, h4, h5⟩ := h
  have P := H.sw h1 H.a0 H.bn
  have ha := H.a0
  have hb := H.bn
  have hL := P.len
  refine ⟨⟨by rw [swp_len, hL], P.big, ha, by omega, hp, by omega, by omega, P.dis.swp (by omega) (by omega)⟩, fun x c hx hc hlt => ?_⟩
  rw [K_swp (by omega) (by omega) (by omega), K_swp (by omega) (by omega) (by omega), if_neg (by omega), if_neg (by omega), if_neg (by omega), if_neg (by omega)]
  exact h4 x c (by omega) hc (by omega)
theorem H2_step {p : List E × Int} (H : Pre nk l n a b) (h : iH2 nk l a b p) (hp : 0 ≤ p.2) (hs : pSift nk (swp p.1 a (a + p.2)) 0 p.2 a l2) : iH2 nk l a b (l2, p.2 - 1) := by
  obtain ⟨h1, h2, h3, h4, h5⟩ := h
  have P := H.sw h1 H.a0 H.bn
  have ha := H.a0
  have hb := H.bn
  have hL := P.len
  obtain ⟨s1, s2⟩ := hs
  have hlen : (swp p.1 a (a + p.2)).length = n := by rw [swp_len, hL]
  refine ⟨(Sw.step h1 (by omega) (by omega) (by omega) (by omega)).trans (s1.mono (by omega) (by omega)), by simp; omega, by simp; omega, fun x c hx hc hlt => s2 x c hx hc (by simp at hlt; omega), ?_⟩
  intro x y hx hxy hy hlt
  simp only at hy
  have hmax : ∀ k : Int, 0 < k → k ≤ p.2 → K nk p.1 (a + k) < K nk p.1 (a + 0) := fun k h0 hm => by
    have := heap_max h4 k.toNat (by omega) (by omega)
    rwa [show ((k.toNat : Nat) : Int) = k by omega] at this
  rw [s1.outK (nk := nk) (k := a + y) (by omega) (by omega) (by omega) (by omega)]
  have hy' : K nk (swp p.1 a (a + p.2)) (a + y) = if y = p.2 then K nk p.1 (a + 0) else K nk p.1 (a + y) := by
    rw [K_swp (by omega) (by omega) (by omega)]
    by_cases e : y = p.2
    · subst e; rw [if_pos rfl, if_pos rfl, Int.add_zero]
    · rw [if_neg (by omega), if_neg (by omega), if_neg e]
  rw [hy']
  have key : ∀ k : Int, 0 ≤ k → k < y → K nk (swp p.1 a (a + p.2)) (a + k) < if y = p.2 then K nk p.1 (a + 0) else K nk p.1 (a + y) := by
    intro k hk hky
    rw [K_swp (by omega) (by omega) (by omega)]
    have i1 := hmax k
    have i2 := h5 k y hk hky
    have i3 := hmax p.2
    have i4 := h5 0 y
    have i5 := h5 p.2 y
    rw [Int.add_zero] at i1 i3 i4 ⊢
    repeat' split
    all_goals first
      | omega
      | (have e : k = 0 := by omega
         subst e; omega)
  by_cases hxp : x < p.2
  · have hq : ∀ k, a + 0 ≤ k → k < a + p.2 → nk (ix (swp p.1 a (a + p.2)) k) < if y = p.2 then K nk p.1 (a + 0) else K nk p.1 (a + y) := by
      intro k h1 h2
      have := key (k - a) (by omega) (by omega)
      rwa [show a + (k - a) = k by omega] at this
    exact s1.all (by omega) (by omega) (p := fun e => nk e < if y = p.2 then K nk p.1 (a + 0) else K nk p.1 (a + y)) hq (a + x) (by omega) (by omega)
  · rw [s1.outK (nk := nk) (k := a + x) (by omega) (by omega) (by omega) (by omega)]
    exact key x hx hxy
theorem H2_done {p : List E × Int} (h : iH2 nk l a b p) (hp : ¬ 0 ≤ p.2) : pSort nk l a b p.1 := by
  obtain ⟨h1, h2, h3, h4, h5⟩ := h
  refine ⟨h1, fun x y hx hxy hy => ?_⟩
  have := h5 (x - a) (y - a) (by omega) (by omega) (by omega) (by omega)
  rwa [show a + (x - a) = x by omega, show a + (y - a) = y by omega] at this

/-! ## breaking patterns, pivots -/

def iB (l : List E) (a b : Int) (p : List E × Int × Int × Int) : Prop := Sw a b l p.1 ∧ a + (b - a).tdiv 4 * 2 - 1 ≤ p.2.1 ∧ p.2.1 ≤ a + (b - a).tdiv 4 * 2 + 2 ∧ (0 ≤ p.2.2.1 ∧ p.2.2.1 < 2 ^ 64) ∧ ∃ k : Nat, p.2.2.2 = 2 ^ k ∧ k ≤ 40 ∧ p.2.2.2 ≤ 2 * (b - a)
theorem B_step {p : List E × Int × Int × Int} (H : Pre nk l n a b) (h : iB l a b p) (h8 : 8 ≤ b - a) (hle : p.2.1 ≤ a + (b - a).tdiv 4 * 2 + 1) {o r : Int} (ho : 0 ≤ o ∧ o < b - a) (hr : 0 ≤ r ∧ r < 2 ^ 64) :
    iB l a b (swp p.1 p.2.1 (a + o), p.2.1 + 1, r, p.2.2.2) := by
  obtain ⟨h1, h2, h3, h4, h5⟩ := h
  have hab := H.ab
  rw [Int.tdiv_eq_ediv_of_nonneg (by omega)] at h2 h3 hle
  refine ⟨.step h1 (by omega) (by omega) (by omega) (by omega), ?_, ?_, hr, h5⟩
  · rw [Int.tdiv_eq_ediv_of_nonneg (by omega)]; simp only; omega
  · rw [Int.tdiv_eq_ediv_of_nonneg (by omega)]; simp only; omega

def pCho (a b : Int) (p : Int × Int) : Prop := a ≤ p.1 ∧ p.1 < b
def pOrd (a b : Int) (p : Int × Int × Int) : Prop := (p.1 = a ∧ p.2.1 = b) ∨ (p.1 = b ∧ p.2.1 = a)
def pMed (a b c : Int) (p : Int × Int) : Prop := p.1 = a ∨ p.1 = b ∨ p.1 = c

/-! ## a partial insertion -/

abbrev TP (E : Type) := List E × Int × Int × Int
def iP1 (nk : E → Int) (l : List E) (a b : Int) (p : TP E) : Prop := Sw a b l p.1 ∧ a < p.2.1 ∧ p.2.1 ≤ b ∧ (0 ≤ p.2.2.1 ∧ p.2.2.1 ≤ 5) ∧ Srt nk a p.2.1 p.1
def iP2 (nk : E → Int) (l : List E) (a b : Int) (o p : TP E) : Prop := iP1 nk l a b p ∧ o.2.1 ≤ p.2.1 ∧ p.2.2.1 = o.2.2.1 ∧ p.2.2.1 < 5
def iP3 (nk : E → Int) (l : List E) (a b : Int) (o p : TP E) : Prop := Sw a b l p.1 ∧ a < p.2.1 ∧ p.2.1 < b ∧ p.2.1 = o.2.1 ∧ p.2.2.1 = o.2.2.1 ∧ a ≤ p.2.2.2 ∧ p.2.2.2 < p.2.1 ∧
  ∀ x y : Int, a ≤ x → x < y → y < p.2.1 → y ≠ p.2.2.2 → K nk p.1 x < K nk p.1 y
def iP4 (nk : E → Int) (l : List E) (a b : Int) (o p : TP E) : Prop := Sw a b l p.1 ∧ a < p.2.1 ∧ p.2.1 < b ∧ p.2.1 = o.2.1 ∧ p.2.2.1 = o.2.2.1 ∧ p.2.1 < p.2.2.2 ∧ p.2.2.2 ≤ b ∧ Srt nk a p.2.1 p.1
def pPar (nk : E → Int) (l : List E) (a b : Int) (p : Bool × List E) : Prop := Sw a b l p.2 ∧ (p.1 = true → Srt nk a b p.2)

theorem P1_first (_H : Pre nk l n a b) (hab : a < b) : iP1 nk l a b (l, a + 1, 0, 0) := ⟨.refl, by show a < a + 1; omega, by show a + 1 ≤ b; omega, by simp, fun x y h1 h2 h3 => by simp at h3; omega⟩
theorem P2_first {p : TP E} (h : iP1 nk l a b p) (h5 : p.2.2.1 < 5) : iP2 nk l a b p p := ⟨h, Int.le_refl _, rfl, h5⟩
theorem P2_step {o p : TP E} (H : Pre nk l n a b) (h : iP2 nk l a b o p) (hb : p.2.1 < b) (hc : ¬ K nk p.1 p.2.1 < K nk p.1 (p.2.1 - 1)) : iP2 nk l a b o (p.1, p.2.1 + 1, p.2.2.1, p.2.2.2) := by
  obtain ⟨⟨h1, h2, h3, h4, h5⟩, h6, h7, h8⟩ := h
  have hl := h1.len
  have hL := H.len
  have h0 := H.a0
  have hn := H.bn
  have hd := h1.dis (nk := nk) H.a0 (by omega) H.dis
  refine ⟨⟨h1, by show a < p.2.1 + 1; omega, by show p.2.1 + 1 ≤ b; omega, h4, fun x y hx hxy hy => ?_⟩, by show o.2.1 ≤ p.2.1 + 1; omega, h7, h8⟩
  simp only at hy ⊢
  by_cases hy1 : y < p.2.1
  · exact h5 x y hx hxy hy1
  · have e : y = p.2.1 := by omega
    subst e
    have i1 := hd p.2.1 (p.2.1 - 1) (by omega) (by omega) (by omega) (by omega)
    by_cases hx1 : x = p.2.1 - 1
    · subst hx1; omega
    · have i2 := h5 x (p.2.1 - 1) hx (by omega) (by omega); omega
theorem P3_first {o p : TP E} (H : Pre nk l n a b) (h : iP2 nk l a b o p) (hb : p.2.1 < b) : iP3 nk l a b p (swp p.1 p.2.1 (p.2.1 - 1), p.2.1, p.2.2.1, p.2.1 - 1) := by
  obtain ⟨⟨h1, h2, h3, h4, h5⟩, h6, h7, h8⟩ := h
  have hl := h1.len
  have hL := H.len
  have h0 := H.a0
  have hn := H.bn
  refine ⟨.step h1 (by omega) (by omega) (by omega) (by omega), h2, hb, rfl, rfl, by show a ≤ p.2.1 - 1; omega, by show p.2.1 - 1 < p.2.1; omega, fun x y hx hxy hy hne => ?_⟩
  simp only at hy hne ⊢
  rw [K_swp (by omega) (by omega) (by omega), K_swp (by omega) (by omega) (by omega), if_neg (by omega), if_neg (by omega), if_neg (by omega), if_neg (by omega)]
  exact h5 x y hx hxy hy
theorem P3_step {o p : TP E} (H : Pre nk l n a b) (h : iP3 nk l a b o p) (ha : a < p.2.2.2) (hc : K nk p.1 p.2.2.2 < K nk p.1 (p.2.2.2 - 1)) : iP3 nk l a b o (swp p.1 p.2.2.2 (p.2.2.2 - 1), p.2.1, p.2.2.1, p.2.2.2 - 1) := by
  obtain ⟨h1, h2, h3, h4, h5, h6, h7, h8⟩ := h
  have hl := h1.len
  have hL := H.len
  have h0 := H.a0
  have hn := H.bn
  refine ⟨.step h1 (by omega) (by omega) (by omega) (by omega), h2, h3, h4, h5, by show a ≤ p.2.2.2 - 1; omega, by show p.2.2.2 - 1 < p.2.1; omega, fun x y hx hxy hy hne => ?_⟩
  simp only at hy hne ⊢
  rw [K_swp (by omega) (by omega) (by omega), K_swp (by omega) (by omega) (by omega)]
  have i1 := h8 x y hx hxy hy
  have i2 := h8 x (p.2.2.2 - 1) hx
  have i3 := h8 (p.2.2.2 - 1) y (by omega)
  repeat' split
  all_goals omega
theorem P3_low {o p : TP E} (H : Pre nk l n a b) (hw : Low nk a b l) (h : iP3 nk l a b o p) (h1 : 1 ≤ p.2.2.2) (hc : K nk p.1 p.2.2.2 < K nk p.1 (p.2.2.2 - 1)) : a < p.2.2.2 := by
  obtain ⟨h1, h2, h3, h4, h5, h6, h7, h8⟩ := h
  have hL := H.len
  have hn := H.bn
  by_cases e : p.2.2.2 = a
  · have := hw.sw h1 H.a0 (by omega) (by omega) p.2.2.2 (by omega) (by omega)
    rw [e] at this hc; omega
  · omega
theorem P3_done {o p : TP E} (H : Pre nk l n a b) (h : iP3 nk l a b o p) (hc : p.2.2.2 < 1 ∨ ¬ K nk p.1 p.2.2.2 < K nk p.1 (p.2.2.2 - 1)) : Srt nk a p.2.1 p.1 := by
  obtain ⟨h1, h2, h3, h4, h5, h6, h7, h8⟩ := h
  have hl := h1.len
  have hL := H.len
  have h0 := H.a0
  have hn := H.bn
  intro x y hx hxy hy
  by_cases hne : y = p.2.2.2
  · subst hne
    rcases hc with hc | hc
    · omega
    · have hd := h1.dis (nk := nk) H.a0 (by omega) H.dis
      have i1 := hd p.2.2.2 (p.2.2.2 - 1) (by omega) (by omega) (by omega) (by omega)
      by_cases hx1 : x = p.2.2.2 - 1
      · subst hx1; omega
      · have i2 := h8 x (p.2.2.2 - 1) hx (by omega) (by omega) (by omega); omega
  · exact h8 x y hx hxy hy hne
/-- no shifting: one item ahead -/
theorem P3_none {o p : TP E} (h : iP2 nk l a b o p) (hb : p.2.1 < b) (h2 : p.2.1 - a < 2) : Sw a b l (swp p.1 p.2.1 (p.2.1 - 1)) ∧ Srt nk a p.2.1 (swp p.1 p.2.1 (p.2.1 - 1)) := by
  obtain ⟨⟨h1, h2, h3, h4, h5⟩, h6, h7, h8⟩ := h
  exact ⟨.step h1 (by omega) (by omega) (by omega) (by omega), fun x y hx hxy hy => by omega⟩
theorem P4_first {p : TP E} {l' : List E} {i c j : Int} (hs : Sw a b l l') (h3 : a < i) (h4 : i < b) (hi : i = p.2.1) (hc : c = p.2.2.1) (hS : Srt nk a i l') (hj : j = i + 1) : iP4 nk l a b p (l', i, c, j) :=
  ⟨hs, h3, h4, hi, hc, by show i < j; omega, by show j ≤ b; omega, hS⟩
theorem P4_step {o p : TP E} (H : Pre nk l n a b) (h : iP4 nk l a b o p) (hb : p.2.2.2 < b) : iP4 nk l a b o (swp p.1 p.2.2.2 (p.2.2.2 - 1), p.2.1, p.2.2.1, p.2.2.2 + 1) := by
  obtain ⟨h1, h2, h3, h4, h5, h6, h7, h8⟩ := h
  have hl := h1.len
  have hL := H.len
  have h0 := H.a0
  have hn := H.bn
  refine ⟨.step h1 (by omega) (by omega) (by omega) (by omega), h2, h3, h4, h5, by show p.2.1 < p.2.2.2 + 1; omega, by show p.2.2.2 + 1 ≤ b; omega, fun x y hx hxy hy => ?_⟩
  simp only at hy ⊢
  rw [K_swp (by omega) (by omega) (by omega), K_swp (by omega) (by omega) (by omega), if_neg (by omega), if_neg (by omega), if_neg (by omega), if_neg (by omega)]
  exact h8 x y hx hxy hy
theorem P1_next {l' : List E} {i c j : Int} (hs : Sw a b l l') (h3 : a < i) (h4 : i ≤ b) (h5 : 0 ≤ c ∧ c ≤ 5) (hS : Srt nk a i l') : iP1 nk l a b (l', i, c, j) := ⟨hs, h3, h4, h5, hS⟩

/-! ## partition -/

abbrev TT (E : Type) := List E × Int × Int
def iT3 (nk : E → Int) (l : List E) (a b : Int) (p : TT E) : Prop := Sw a b l p.1 ∧ a < p.2.1 ∧ p.2.1 ≤ p.2.2 + 1 ∧ p.2.2 < b ∧ (∀ x, a < x → x < p.2.1 → K nk p.1 x < K nk p.1 a) ∧ ∀ x, p.2.2 < x → x < b → K nk p.1 a < K nk p.1 x
def iT4 (nk : E → Int) (l : List E) (a b : Int) (o p : TT E) : Prop := iT3 nk l a b p ∧ o.2.1 ≤ p.2.1 ∧ p.2.2 ≤ o.2.2
def iT5 (nk : E → Int) (l : List E) (a b : Int) (o p : TT E) : Prop := iT3 nk l a b p ∧ o.2.1 ≤ p.2.1 ∧ p.2.2 ≤ o.2.2 ∧ (p.2.1 ≤ p.2.2 → ¬ K nk p.1 p.2.1 < K nk p.1 a)
def pPrt (nk : E → Int) (l : List E) (a b : Int) (p : Int × Bool × List E) : Prop := (a ≤ p.1 ∧ p.1 < b) ∧ Sw a b l p.2.2 ∧ (∀ x, a ≤ x → x < p.1 → K nk p.2.2 x < K nk p.2.2 p.1) ∧ ∀ x, p.1 < x → x < b → K nk p.2.2 p.1 < K nk p.2.2 x

theorem T_first {pv : Int} (hp : a ≤ pv ∧ pv < b) : iT3 nk l a b (swp l a pv, a + 1, b - 1) :=
  ⟨.step .refl (by omega) (by omega) hp.1 hp.2, by show a < a + 1; omega, by show a + 1 ≤ b - 1 + 1; omega, by show b - 1 < b; omega, fun x h1 h2 => by simp at h2; omega, fun x h1 h2 => by simp at h1; omega⟩
theorem T_right {p : TT E} (h : iT3 nk l a b p) (hi : p.2.1 ≤ p.2.2) (hc : K nk p.1 p.2.1 < K nk p.1 a) : iT3 nk l a b (p.1, p.2.1 + 1, p.2.2) := by
  obtain ⟨h1, h2, h3, h4, h5, h6⟩ := h
  refine ⟨h1, by show a < p.2.1 + 1; omega, by show p.2.1 + 1 ≤ p.2.2 + 1; omega, h4, fun x hx hx2 => ?_, h6⟩
  simp only at hx2 ⊢
  by_cases e : x = p.2.1
  · subst e; exact hc
  · exact h5 x hx (by omega)
theorem T_left {p : TT E} (H : Pre nk l n a b) (h : iT3 nk l a b p) (hi : p.2.1 ≤ p.2.2) (hc : ¬ K nk p.1 p.2.2 < K nk p.1 a) : iT3 nk l a b (p.1, p.2.1, p.2.2 - 1) := by
  obtain ⟨h1, h2, h3, h4, h5, h6⟩ := h
  have hl := h1.len
  have hL := H.len
  have h0 := H.a0
  have hn := H.bn
  have hd := h1.dis (nk := nk) H.a0 (by omega) H.dis
  refine ⟨h1, h2, by show p.2.1 ≤ p.2.2 - 1 + 1; omega, by show p.2.2 - 1 < b; omega, h5, fun x hx hx2 => ?_⟩
  simp only at hx ⊢
  by_cases e : x = p.2.2
  · subst e
    have i1 := hd p.2.2 a (by omega) (by omega) (by omega) (by omega)
    omega
  · exact h6 x (by omega) hx2
theorem T_swap {p : TT E} (H : Pre nk l n a b) (h : iT3 nk l a b p) (hi : p.2.1 ≤ p.2.2) (hc : ¬ K nk p.1 p.2.1 < K nk p.1 a) (hd : K nk p.1 p.2.2 < K nk p.1 a) : iT3 nk l a b (swp p.1 p.2.1 p.2.2, p.2.1 + 1, p.2.2 - 1) ∧ p.2.1 < p.2.2 := by
  obtain ⟨h1, h2, h3, h4, h5, h6⟩ := h
  have hl := h1.len
  have hL := H.len
  have h0 := H.a0
  have hn := H.bn
  have hD := h1.dis (nk := nk) H.a0 (by omega) H.dis
  have i1 := hD p.2.1 a (by omega) (by omega) (by omega) (by omega)
  have hij : p.2.1 < p.2.2 := by
    by_cases e : p.2.1 = p.2.2
    · rw [e] at hc; exact absurd hd hc
    · omega
  have ka : K nk (swp p.1 p.2.1 p.2.2) a = K nk p.1 a := by rw [K_swp (by omega) (by omega) (by omega), if_neg (by omega), if_neg (by omega)]
  refine ⟨⟨.step h1 (by omega) (by omega) (by omega) (by omega), by show a < p.2.1 + 1; omega, by show p.2.1 + 1 ≤ p.2.2 - 1 + 1; omega, by show p.2.2 - 1 < b; omega, fun x hx hx2 => ?_, fun x hx hx2 => ?_⟩, hij⟩
  · simp only at hx2 ⊢
    rw [ka, K_swp (by omega) (by omega) (by omega)]
    have i2 := h5 x hx
    repeat' split
    all_goals omega
  · simp only at hx ⊢
    rw [ka, K_swp (by omega) (by omega) (by omega)]
    have i2 := h6 x
    repeat' split
    all_goals omega
theorem T_done {p : TT E} (H : Pre nk l n a b) (h : iT3 nk l a b p) (hi : ¬ p.2.1 ≤ p.2.2) {w : Bool} : pPrt nk l a b (p.2.2, w, swp p.1 p.2.2 a) := by
  obtain ⟨h1, h2, h3, h4, h5, h6⟩ := h
  have hl := h1.len
  have hL := H.len
  have h0 := H.a0
  have hn := H.bn
  have kj : K nk (swp p.1 p.2.2 a) p.2.2 = K nk p.1 a := by
    rw [K_swp (by omega) (by omega) (by omega)]
    by_cases e : p.2.2 = a
    · rw [if_pos e, e]
    · rw [if_neg e, if_pos rfl]
  refine ⟨⟨by show a ≤ p.2.2; omega, h4⟩, .step h1 (by omega) (by omega) (by omega) (by omega), fun x hx hx2 => ?_, fun x hx hx2 => ?_⟩
  · simp only at hx2 ⊢
    rw [kj, K_swp (by omega) (by omega) (by omega)]
    have i2 := h5 x
    have i3 := h5 p.2.2
    repeat' split
    all_goals omega
  · simp only at hx ⊢
    rw [kj, K_swp (by omega) (by omega) (by omega), if_neg (by omega), if_neg (by omega)]
    exact h6 x hx hx2

/-! ## the whole -/

structure PQ (E : Type) where
  (l : List E)
  (a b lim : Int)
  (wb wp : Bool)

def iQ (nk : E → Int) (l : List E) (a b : Int) (p : PQ E) : Prop := Sw a b l p.l ∧ a ≤ p.a ∧ p.a ≤ p.b ∧ p.b ≤ b ∧ ∀ x y : Int, a ≤ x → x < y → y < b → ¬ (p.a ≤ x ∧ y < p.b) → K nk p.l x < K nk p.l y

theorem Q_first (H : Pre nk l n a b) {lim : Int} {wb wp : Bool} : iQ nk l a b ⟨l, a, b, lim, wb, wp⟩ := ⟨.refl, Int.le_refl _, H.ab, Int.le_refl _, fun x y h1 h2 h3 h4 => by simp at h4; omega⟩
theorem Q_pre {p : PQ E} (H : Pre nk l n a b) (h : iQ nk l a b p) : Pre nk p.l n p.a p.b := by
  obtain ⟨h1, h2, h3, h4, h5⟩ := h
  have P := H.sw h1 H.a0 H.bn
  exact ⟨P.len, P.big, by have := H.a0; omega, h3, by have := H.bn; omega, P.dis⟩
theorem Q_low {p : PQ E} (H : Pre nk l n a b) (hw : Low nk a b l) (h : iQ nk l a b p) : Low nk p.a p.b p.l := by
  obtain ⟨h1, h2, h3, h4, h5⟩ := h
  have hL := H.len
  have hn := H.bn
  intro h0 k hk hk2
  by_cases e : p.a = a
  · rw [e] at hk h0 ⊢
    exact hw.sw h1 H.a0 (by omega) h0 k hk (by omega)
  · exact h5 (p.a - 1) k (by omega) (by omega) (by omega) (by omega)
/-- swaps between the bounds keep it -/
theorem Q_sw {p : PQ E} (H : Pre nk l n a b) (h : iQ nk l a b p) {l' : List E} (hs : Sw p.a p.b p.l l') {lim : Int} {wb wp : Bool} : iQ nk l a b ⟨l', p.a, p.b, lim, wb, wp⟩ := by
  have P := Q_pre H h
  obtain ⟨h1, h2, h3, h4, h5⟩ := h
  have hL := P.len
  have hn := H.bn
  have h0 := H.a0
  refine ⟨h1.trans (hs.mono h2 h4), h2, h3, h4, fun x y hx hxy hy hne => ?_⟩
  simp only at hne ⊢
  have o : ∀ k, a ≤ k → k < b → (k < p.a ∨ p.b ≤ k) → K nk l' k = K nk p.l k := fun k h1 h2 h3 => hs.outK (by omega) (by omega) (by omega) h3
  by_cases hx1 : p.a ≤ x ∧ x < p.b
  · rw [o y (by omega) hy (by omega)]
    exact hs.all (by omega) (by omega) (p := fun e => nk e < K nk p.l y) (fun k h1 h2 => h5 k y (by omega) (by omega) hy (by omega)) x hx1.1 hx1.2
  · rw [o x hx (by omega) (by omega)]
    by_cases hy1 : p.a ≤ y ∧ y < p.b
    · exact hs.all (by omega) (by omega) (p := fun e => K nk p.l x < nk e) (fun k h1 h2 => h5 x k hx (by omega) (by omega) (by omega)) y hy1.1 hy1.2
    · rw [o y (by omega) hy (by omega)]
      exact h5 x y hx hxy hy hne
theorem Q_done {p : PQ E} (H : Pre nk l n a b) (h : iQ nk l a b p) (hs : pSort nk p.l p.a p.b l2) : pSort nk l a b l2 := by
  have h' := Q_sw H h hs.1 (lim := 0) (wb := true) (wp := true)
  obtain ⟨h1, h2, h3, h4, h5⟩ := h'
  refine ⟨h1, fun x y hx hxy hy => ?_⟩
  by_cases e : p.a ≤ x ∧ y < p.b
  · exact hs.2 x y e.1 hxy e.2
  · exact h5 x y hx hxy hy e
theorem Q_one {p : PQ E} (H : Pre nk l n a b) (h : iQ nk l a b p) (hp : Srt nk p.a p.b p.l) : pSort nk l a b p.l := Q_done H h ⟨.refl, hp⟩
theorem Q_pre1 {p : PQ E} (H : Pre nk l n a b) (h : iQ nk l a b p) {r : Int × Bool × List E} (hr : pPrt nk p.l p.a p.b r) : Pre nk r.2.2 n p.a r.1 := by
  have P := (Q_pre H h).sw hr.2.1 (Q_pre H h).a0 (Q_pre H h).bn
  exact ⟨P.len, P.big, P.a0, hr.1.1, by have := P.bn; have := hr.1.2; omega, P.dis⟩
theorem Q_pre2 {p : PQ E} (H : Pre nk l n a b) (h : iQ nk l a b p) {r : Int × Bool × List E} (hr : pPrt nk p.l p.a p.b r) : Pre nk r.2.2 n (r.1 + 1) p.b := by
  have P := (Q_pre H h).sw hr.2.1 (Q_pre H h).a0 (Q_pre H h).bn
  exact ⟨P.len, P.big, by have := P.a0; have := hr.1.1; omega, by have := hr.1.2; omega, P.bn, P.dis⟩
theorem Q_low1 {p : PQ E} (H : Pre nk l n a b) (hw : Low nk a b l) (h : iQ nk l a b p) {r : Int × Bool × List E} (hr : pPrt nk p.l p.a p.b r) : Low nk p.a r.1 r.2.2 := by
  have P := Q_pre H h
  have L := P.len
  have B := P.bn
  intro h0 k hk hk2
  exact ((Q_low H hw h).sw hr.2.1 P.a0 (by omega)) h0 k hk (by have := hr.1.2; omega)
theorem Q_low2 {p : PQ E} (_h : iQ nk l a b p) {r : Int × Bool × List E} (hr : pPrt nk p.l p.a p.b r) : Low nk (r.1 + 1) p.b r.2.2 := by
  intro h0 k hk hk2
  rw [show r.1 + 1 - 1 = r.1 by omega]
  exact hr.2.2.2 k (by omega) hk2
/-- what one part's sort leaves to do -/
theorem Q_left {p : PQ E} (H : Pre nk l n a b) (h : iQ nk l a b p) {r : Int × Bool × List E} (hr : pPrt nk p.l p.a p.b r) (hs : pSort nk r.2.2 p.a r.1 l2) {lim : Int} {wb wp : Bool} : iQ nk l a b ⟨l2, r.1 + 1, p.b, lim, wb, wp⟩ := by
  have P := Q_pre H h
  have P1 := Q_pre1 H h hr
  have L := P.len
  have B := P.bn
  have A := P.a0
  have L1 := P1.len
  obtain ⟨⟨r1, r2⟩, r3, r4, r5⟩ := hr
  have hA := Q_sw H h (r3.trans (hs.1.mono (Int.le_refl _) (by omega))) (lim := lim) (wb := wb) (wp := wp)
  obtain ⟨h1, h2, h3, h4, h5⟩ := hA
  simp only at h2 h3 h4 h5
  refine ⟨h1, by show a ≤ r.1 + 1; omega, by show r.1 + 1 ≤ p.b; omega, h4, fun x y hx hxy hy hne => ?_⟩
  simp only at hne ⊢
  by_cases e : p.a ≤ x ∧ y < p.b
  · have o : ∀ k, r.1 ≤ k → k < p.b → K nk l2 k = K nk r.2.2 k := fun k h1 h2 => hs.1.outK (by omega) (by omega) (by omega) (by omega)
    by_cases e1 : y < r.1
    · exact hs.2 x y e.1 hxy e1
    · rw [o y (by omega) e.2]
      have hlow : ∀ k, p.a ≤ k → k < r.1 → K nk l2 k < K nk r.2.2 r.1 := fun k h1 h2 =>
        hs.1.all (by omega) (by omega) (p := fun e => nk e < K nk r.2.2 r.1) (fun k h1 h2 => r4 k h1 h2) k h1 h2
      by_cases e2 : x < r.1
      · have i1 := hlow x e.1 e2
        by_cases e3 : y = r.1
        · subst e3; exact i1
        · have i2 := r5 y (by omega) e.2; omega
      · rw [o x (by omega) (by omega)]
        have e4 : x = r.1 := by omega
        subst e4
        exact r5 y hxy e.2
  · exact h5 x y hx hxy hy e
theorem Q_right {p : PQ E} (H : Pre nk l n a b) (h : iQ nk l a b p) {r : Int × Bool × List E} (hr : pPrt nk p.l p.a p.b r) (hs : pSort nk r.2.2 (r.1 + 1) p.b l2) {lim : Int} {wb wp : Bool} : iQ nk l a b ⟨l2, p.a, r.1, lim, wb, wp⟩ := by
  have P := Q_pre H h
  have P1 := Q_pre1 H h hr
  have L := P.len
  have B := P.bn
  have A := P.a0
  have L1 := P1.len
  obtain ⟨⟨r1, r2⟩, r3, r4, r5⟩ := hr
  have hA := Q_sw H h (r3.trans (hs.1.mono (by omega) (Int.le_refl _))) (lim := lim) (wb := wb) (wp := wp)
  obtain ⟨h1, h2, h3, h4, h5⟩ := hA
  simp only at h2 h3 h4 h5
  refine ⟨h1, h2, by show p.a ≤ r.1; omega, by show r.1 ≤ b; omega, fun x y hx hxy hy hne => ?_⟩
  simp only at hne ⊢
  by_cases e : p.a ≤ x ∧ y < p.b
  · have o : ∀ k, p.a ≤ k → k ≤ r.1 → K nk l2 k = K nk r.2.2 k := fun k h1 h2 => hs.1.outK (by omega) (by omega) (by omega) (by omega)
    by_cases e1 : r.1 < x
    · exact hs.2 x y (by omega) hxy e.2
    · rw [o x e.1 (by omega)]
      have hup : ∀ k, r.1 < k → k < p.b → K nk r.2.2 r.1 < K nk l2 k := fun k h1 h2 =>
        hs.1.all (by omega) (by omega) (p := fun e => K nk r.2.2 r.1 < nk e) (fun k h1 h2 => r5 k (by omega) h2) k (by omega) h2
      by_cases e2 : r.1 < y
      · have i1 := hup y e2 e.2
        by_cases e3 : x = r.1
        · subst e3; exact i1
        · have i2 := r4 x e.1 (by omega); omega
      · rw [o y (by omega) (by omega)]
        have e4 : y = r.1 := by omega
        subst e4
        exact r4 x e.1 hxy
  · exact h5 x y hx hxy hy e

end
end Go.Proofs.Ytcdmnmpiipmfmaa
