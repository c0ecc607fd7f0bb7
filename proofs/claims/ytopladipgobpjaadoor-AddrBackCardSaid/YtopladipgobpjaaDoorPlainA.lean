/-
  The groups that are answered: how many, and how great. No program in sight.
-/
import Derived.Test.YtopladipgobpjaaDoorPlainS
namespace Go.Proofs.YtopladipgobpjaaDoor
def okG (l : List Int) : Prop := ∀ n ∈ l, 0 ≤ n ∧ n < 65536
theorem okG_app {a b : List Int} (ha : okG a) (hb : okG b) : okG (a ++ b) := by
  intro n hn
  rcases List.mem_append.1 hn with h | h
  · exact ha n h
  · exact hb n h
theorem okG_get {l : List Int} (h : okG l) (i : Nat) : 0 ≤ l.getD i 0 ∧ l.getD i 0 < 65536 := by
  rw [List.getD_eq_getElem?_getD]
  cases hi : l[i]? with
  | none => exact ⟨by decide, by decide⟩
  | some v => exact h v (List.mem_of_getElem? hi)
theorem okG_rep (n : Nat) : okG (List.replicate n 0) := by
  intro m hm
  rw [List.mem_replicate] at hm
  rw [hm.2]; exact ⟨by decide, by decide⟩
theorem dots_get {l : List Int} (h : ∀ n ∈ l, 0 ≤ n ∧ n ≤ 255) (i : Nat) : 0 ≤ l.getD i 0 ∧ l.getD i 0 ≤ 255 := by
  rw [List.getD_eq_getElem?_getD]
  cases hi : l[i]? with
  | none => exact ⟨by decide, by decide⟩
  | some v => exact h v (List.mem_of_getElem? hi)
theorem mid6_ok {x : P6} (w : W6 x) {G : List Int} (h : mid6 x = some G) : okG G ∧ (if x.gap = 0 then G.length ≤ 8 else G.length ≤ 7) := by
  have hg : okG x.g := w.gok
  have h7 := w.g7
  unfold mid6 at h
  by_cases hd : x.dotted = true
  · rw [if_pos hd] at h
    split at h
    · rename_i hc
      injection h with h; subst h
      have hp : dec x.part = true := by rcases w.pdec hd with e | e; exact absurd e hc.2; exact e
      have hv := dec_val hp
      have h0 := dots_get w.dok 0
      have h1 := dots_get w.dok 1
      have h2 := dots_get w.dok 2
      refine ⟨okG_app hg ?_, ?_⟩
      · intro n hn
        simp only [List.mem_cons, List.not_mem_nil, or_false] at hn
        rcases hn with e | e <;> subst e <;> omega
      · have := (w.dpos hd).2
        rw [List.length_append]
        show if x.gap = 0 then x.g.length + 2 ≤ 8 else x.g.length + 2 ≤ 7
        split at this
        · rename_i e; rw [if_pos e]; omega
        · rename_i e; rw [if_neg e]; omega
    · cases h
  · rw [if_neg hd] at h
    split at h
    · rename_i hp
      injection h with h; subst h
      have hv := valH_bound x.part w.phex w.plen
      refine ⟨okG_app hg ?_, ?_⟩
      · intro n hn
        rw [List.mem_singleton] at hn; subst hn; exact hv
      · rw [List.length_append]
        show if x.gap = 0 then x.g.length + 1 ≤ 8 else x.g.length + 1 ≤ 7
        rcases w.room with e | e
        · rw [if_neg hp, if_neg hd] at e
          unfold most at e
          split
          · omega
          · rename_i e1; rw [if_neg e1] at e; omega
        · exact absurd e hp
    · injection h with h; subst h
      refine ⟨hg, ?_⟩
      split <;> omega
theorem okG_take {l : List Int} (h : okG l) (n : Nat) : okG (l.take n) := fun m hm => h m (List.mem_of_mem_take hm)
theorem okG_drop {l : List Int} (h : okG l) (n : Nat) : okG (l.drop n) := fun m hm => h m (List.mem_of_mem_drop hm)
theorem addr6_ok {x : P6} (w : W6 x) {L : List Int} (h : addr6 x = some L) : L.length = 8 ∧ okG L := by
  unfold addr6 at h
  split at h
  · cases h
  cases hm : mid6 x with
  | none => rw [hm] at h; cases h
  | some G =>
    rw [hm] at h
    obtain ⟨hG, hl⟩ := mid6_ok w hm
    have h : fin6 x.gap G = some L := h
    unfold fin6 at h
    split at h
    · split at h
      · rename_i h8
        injection h with h; subst h; exact ⟨h8, hG⟩
      · cases h
    · rename_i hg
      rw [if_neg hg] at hl
      injection h with h; subst h
      refine ⟨?_, okG_app (okG_app (okG_take hG _) (okG_rep _)) (okG_drop hG _)⟩
      simp only [List.length_append, List.length_take, List.length_replicate, List.length_drop]
      omega
theorem addr6_gap {g : List Int} {part : List UInt8} {gap : Nat} {dots : List Int} {d : Bool} {G : List Int} (hm : mid6 ⟨g, part, gap, false, false, dots, d⟩ = some G) (hg : gap ≠ 0) :
    addr6 ⟨g, part, gap, false, false, dots, d⟩ = some (G.take (gap - 1) ++ List.replicate (8 - G.length) 0 ++ G.drop (gap - 1)) := by
  unfold addr6
  rw [if_neg (by simp), hm]
  show fin6 gap G = _
  unfold fin6
  rw [if_neg hg]
theorem addr6_whole {g : List Int} {part : List UInt8} {dots : List Int} {d : Bool} {G : List Int} (hm : mid6 ⟨g, part, 0, false, false, dots, d⟩ = some G) (hg : G.length = 8) :
    addr6 ⟨g, part, 0, false, false, dots, d⟩ = some G := by
  unfold addr6
  rw [if_neg (by simp), hm]
  show fin6 0 G = _
  unfold fin6
  rw [if_pos rfl, if_pos hg]
theorem addr6_short {g : List Int} {part : List UInt8} {dots : List Int} {d : Bool} {G : List Int} (hm : mid6 ⟨g, part, 0, false, false, dots, d⟩ = some G) (hg : G.length ≠ 8) :
    addr6 ⟨g, part, 0, false, false, dots, d⟩ = none := by
  unfold addr6
  rw [if_neg (by simp), hm]
  show fin6 0 G = _
  unfold fin6
  rw [if_pos rfl, if_neg hg]
theorem addr6_none {x : P6} (hm : mid6 x = none) : addr6 x = none := by
  unfold addr6
  split
  · rfl
  · rw [hm]; rfl
theorem addr6_fc {x : P6} (h : x.first = true ∨ x.colon = true) : addr6 x = none := by
  unfold addr6
  rw [if_pos h]
theorem mid6_part {g : List Int} {part : List UInt8} {gap : Nat} (h : part ≠ []) : mid6 ⟨g, part, gap, false, false, [], false⟩ = some (g ++ [valH part]) := by
  unfold mid6
  rw [if_neg (by simp), if_pos h]
theorem mid6_nil {g : List Int} {gap : Nat} : mid6 ⟨g, [], gap, false, false, [], false⟩ = some g := by
  unfold mid6
  rw [if_neg (by simp), if_neg (by simp)]
theorem mid6_dots {g : List Int} {part : List UInt8} {gap : Nat} {dots : List Int} (h : dots.length = 3) (hp : part ≠ []) : mid6 ⟨g, part, gap, false, false, dots, true⟩ = some (g ++ [dots.getD 0 0 * 256 + dots.getD 1 0, dots.getD 2 0 * 256 + val part]) := by
  unfold mid6
  rw [if_pos rfl, if_pos ⟨h, hp⟩]
theorem mid6_dno {g : List Int} {part : List UInt8} {gap : Nat} {dots : List Int} (h : dots.length ≠ 3 ∨ part = []) : mid6 ⟨g, part, gap, false, false, dots, true⟩ = none := by
  unfold mid6
  rw [if_pos rfl, if_neg]
  rintro ⟨a, b⟩
  rcases h with e | e
  · exact e a
  · exact b e
end Go.Proofs.YtopladipgobpjaaDoor
