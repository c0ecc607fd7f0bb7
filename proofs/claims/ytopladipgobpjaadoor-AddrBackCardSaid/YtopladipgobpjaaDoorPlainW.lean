/-
  What stands good of an IPv6 address while it is read. No program in sight.
-/
import Derived.Test.YtopladipgobpjaaDoorPlain6
namespace Go.Proofs.YtopladipgobpjaaDoor
structure W6 (x : P6) : Prop where
  glen : x.g.length ≤ 8
  gok : ∀ n ∈ x.g, 0 ≤ n ∧ n < 65536
  plen : x.part.length ≤ 4
  phex : ∀ c ∈ x.part, 0 ≤ hx c
  pdec : x.dotted = true → x.part = [] ∨ dec x.part = true
  gap : x.gap ≤ x.g.length + 1
  room : x.g.length + (if x.part = [] then 0 else if x.dotted = true then 0 else 1) ≤ most x.gap + 0 ∨ x.part = []
  dlen : x.dots.length ≤ 3
  dok : ∀ n ∈ x.dots, 0 ≤ n ∧ n ≤ 255
  dpos : x.dotted = true → x.dots ≠ [] ∧ (if x.gap = 0 then x.g.length = 6 else x.g.length ≤ 5)
  fst : x.first = true → x.g = [] ∧ x.gap = 0 ∧ x.part = [] ∧ x.dotted = false ∧ x.colon = false ∧ x.dots = []
  col : x.colon = true → x.part = [] ∧ x.dotted = false ∧ x.g ≠ []
  nodots : x.dotted = false → x.dots = []
  stand : x.part = [] → x.dotted = false → x.colon = false → x.first = false → x.g ≠ [] → x.gap = x.g.length + 1
  g7 : x.g.length ≤ 7
theorem valH_bound : ∀ l : List UInt8, (∀ c ∈ l, 0 ≤ hx c) → l.length ≤ 4 → 0 ≤ valH l ∧ valH l < 65536 := by
  have hm : ∀ c : UInt8, hx c ≤ 15 := by
    intro c; unfold hx; split
    · omega
    · split
      · omega
      · split <;> omega
  intro l hl hlen
  match l, hlen with
  | [], _ => exact ⟨by decide, by decide⟩
  | [p], _ =>
    have := hl p (by simp); have := hm p
    have e : valH [p] = 0 * 16 + hx p := rfl
    omega
  | [p, q], _ =>
    have := hl p (by simp); have := hm p; have := hl q (by simp); have := hm q
    have e : valH [p, q] = (0 * 16 + hx p) * 16 + hx q := rfl
    omega
  | [p, q, r], _ =>
    have := hl p (by simp); have := hm p; have := hl q (by simp); have := hm q; have := hl r (by simp); have := hm r
    have e : valH [p, q, r] = ((0 * 16 + hx p) * 16 + hx q) * 16 + hx r := rfl
    omega
  | [p, q, r, s], _ =>
    have := hl p (by simp); have := hm p; have := hl q (by simp); have := hm q; have := hl r (by simp); have := hm r; have := hl s (by simp); have := hm s
    have e : valH [p, q, r, s] = (((0 * 16 + hx p) * 16 + hx q) * 16 + hx r) * 16 + hx s := rfl
    omega
  | _ :: _ :: _ :: _ :: _ :: _, h => simp only [List.length_cons] at h; omega
theorem dec_val {l : List UInt8} (h : dec l = true) : 0 ≤ val l ∧ val l ≤ 255 ∧ l ≠ [] ∧ l.length ≤ 3 ∧ l.all isD = true := by
  unfold dec at h
  rw [Bool.and_eq_true, decide_eq_true_eq] at h
  obtain ⟨hne, ho⟩ := h
  unfold oct at ho
  rw [decide_eq_false hne, Bool.false_or] at ho
  simp only [Bool.and_eq_true, decide_eq_true_eq] at ho
  obtain ⟨⟨⟨_, h3⟩, hd⟩, hv⟩ := ho
  refine ⟨?_, hv, hne, h3, hd⟩
  match l, h3, hd with
  | [], _, _ => decide
  | [a], _, hd =>
    simp only [List.all_cons, List.all_nil, Bool.and_true] at hd
    have := isD_dv hd
    have e : val [a] = 0 * 10 + dv a := rfl
    omega
  | [a, b], _, hd =>
    simp only [List.all_cons, List.all_nil, Bool.and_true, Bool.and_eq_true] at hd
    have := isD_dv hd.1; have := isD_dv hd.2
    have e : val [a, b] = (0 * 10 + dv a) * 10 + dv b := rfl
    omega
  | [a, b, c], _, hd =>
    simp only [List.all_cons, List.all_nil, Bool.and_true, Bool.and_eq_true] at hd
    have := isD_dv hd.1; have := isD_dv hd.2.1; have := isD_dv hd.2.2
    have e : val [a, b, c] = ((0 * 10 + dv a) * 10 + dv b) * 10 + dv c := rfl
    omega
  | _ :: _ :: _ :: _ :: _, h, _ => simp only [List.length_cons] at h; omega
theorem W6_init : W6 .init :=
  ⟨by decide, by simp [P6.init], by decide, by simp [P6.init], by simp [P6.init], by decide, .inr rfl, by decide, by simp [P6.init], by simp [P6.init], by simp [P6.init], by simp [P6.init], fun _ => rfl, by simp [P6.init], by simp [P6.init]⟩
theorem take6_W {x y : P6} {c : UInt8} (w : W6 x) (h : take6 x c = some y) : W6 y := by
  obtain ⟨g, part, gap, colon, first, dots, dotted⟩ := x
  obtain ⟨w1, w2, w3, w4, w5, w6, w7, w8, w9, w10, w11, w12, w13, w14, w15⟩ := w
  simp only at w1 w2 w3 w4 w5 w6 w7 w8 w9 w10 w11 w12 w13 w14 w15
  have hmost : ∀ n, most n ≤ 8 := fun n => by unfold most; split <;> omega
  unfold take6 at h
  simp only at h
  split at h
  · rename_i hf
    obtain ⟨a, b, d, e, f, k⟩ := w11 hf
    subst a b d e f k
    split at h
    · injection h with h; subst h
      exact ⟨w1, w2, w3, w4, by simp, by simp, .inr rfl, w8, w9, by simp, by simp, by simp, by simp, by simp, by simp⟩
    · cases h
  split at h
  · rename_i hf hd
    have hcol : colon = false := by
      cases colon with
      | false => rfl
      | true => have := (w12 rfl).2.1; rw [hd] at this; cases this
    unfold dot6 at h
    simp only at h
    split at h
    · split at h
      · cases h
      · rename_i hn
        injection h with h; subst h
        have hpe : part ≠ [] := fun e => hn (.inl e)
        have hdec : dec part = true := by rcases w5 hd with e | e; exact absurd e hpe; exact e
        have hv := dec_val hdec
        have hl3 : dots.length ≠ 3 := fun e => hn (.inr e)
        refine ⟨w1, w2, by simp, by simp, fun _ => .inl rfl, w6, .inr rfl, by rw [List.length_append]; show dots.length + 1 ≤ 3; omega, ?_, fun _ => ⟨by simp, (w10 hd).2⟩, fun e => absurd e hf, fun e => (by rw [hcol] at e; cases e), fun e => (by rw [hd] at e; cases e), by simp [hd], w15⟩
        intro n hn'
        rcases List.mem_append.1 hn' with e | e
        · exact w9 n e
        · rw [List.mem_singleton] at e; subst e; exact ⟨hv.1, hv.2.1⟩
    · split at h
      · rename_i hc
        injection h with h; subst h
        have hv := dec_val hc.2
        have ho : oct 255 (part ++ [c]) = true := by have := hc.2; rw [dec_snoc] at this; exact this
        refine ⟨w1, w2, by have := hv.2.2.2.1; show (part ++ [c]).length ≤ 4; omega, (oct_hex ho).1, fun _ => .inr hc.2, w6, ?_, w8, w9, w10, fun e => absurd e hf, fun e => (by rw [hcol] at e; cases e), w13, by simp [hd], w15⟩
        left
        show g.length + (if part ++ [c] = [] then 0 else if dotted = true then 0 else 1) ≤ most gap + 0
        rw [if_neg (by simp), if_pos hd]
        have := (w10 hd).2
        unfold most
        by_cases hg : gap = 0
        · rw [if_pos hg] at this ⊢; omega
        · rw [if_neg hg] at this ⊢; omega
      · cases h
  rename_i hf hd
  have hd' : dotted = false := by cases dotted with
    | false => rfl
    | true => exact absurd rfl hd
  have hf' : first = false := by cases first with
    | false => rfl
    | true => exact absurd rfl hf
  split at h
  · unfold sep6 at h
    simp only at h
    split at h
    · rename_i hpe
      split at h
      · cases h
      · rename_i hm
        injection h with h; subst h
        have hv := valH_bound part w4 w3
        have hm8 := hmost gap
        refine ⟨by rw [List.length_append]; show g.length + 1 ≤ 8; omega, ?_, by simp, by simp, fun e => absurd e hd, by rw [List.length_append]; show gap ≤ g.length + 1 + 1; omega, .inr rfl, w8, w9, fun e => absurd e hd, fun e => absurd e hf, fun _ => ⟨rfl, hd', by simp⟩, w13, by simp, by rw [List.length_append]; show g.length + 1 ≤ 7; omega⟩
        intro n hn'
        rcases List.mem_append.1 hn' with e | e
        · exact w2 n e
        · rw [List.mem_singleton] at e; subst e; exact hv
    · rename_i hpe
      have hpe : part = [] := by cases part with
        | nil => rfl
        | cons a r => exact absurd (by simp) hpe
      split at h
      · rename_i hi
        injection h with h; subst h
        exact ⟨w1, w2, w3, w4, w5, w6, .inr hpe, w8, w9, w10, fun _ => ⟨hi.1, hi.2.1, hpe, hd', hi.2.2, w13 hd'⟩, w12, w13, by simp, w15⟩
      · split at h
        · injection h with h; subst h
          exact ⟨w1, w2, w3, w4, w5, Nat.le_refl _, .inr hpe, w8, w9, fun e => absurd e hd, fun e => absurd e hf, by simp, w13, fun _ _ _ _ _ => rfl, w15⟩
        · cases h
  split at h
  · by_cases hc : dec part = true ∧ (if gap = 0 then g.length = 6 else g.length ≤ 5)
    · rw [if_pos hc] at h
      injection h with h; subst h
      have hv := dec_val hc.1
      have hcol : colon = false := by
        cases colon with
        | false => rfl
        | true => exact absurd (w12 rfl).1 hv.2.2.1
      refine ⟨w1, w2, by simp, by simp, fun _ => .inl rfl, w6, .inr rfl, by simp, ?_, fun _ => ⟨by simp, hc.2⟩, fun e => absurd e hf, fun e => (by rw [hcol] at e; cases e), by simp, by simp, w15⟩
      intro n hn'
      rw [List.mem_singleton] at hn'; subst hn'; exact ⟨hv.1, hv.2.1⟩
    · rw [if_neg hc] at h; cases h
  split at h
  · cases h
  · rename_i hr
    split at h
    · rename_i h4
      injection h with h; subst h
      refine ⟨w1, w2, by rw [List.length_append]; show part.length + 1 ≤ 4; omega, ?_, fun e => absurd e hd, w6, ?_, w8, w9, fun e => absurd e hd, fun e => absurd e hf, by simp, w13, by simp, w15⟩
      · intro d hd2
        rcases List.mem_append.1 hd2 with e | e
        · exact w4 d e
        · rw [List.mem_singleton] at e; subst e; omega
      · left
        show g.length + (if part ++ [c] = [] then 0 else if dotted = true then 0 else 1) ≤ most gap + 0
        rw [if_neg (by simp), if_neg hd]; omega
    · cases h
end Go.Proofs.YtopladipgobpjaaDoor
