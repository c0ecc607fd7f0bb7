/-
  The reference's Told: plain facts on the row that it leaves; its steps' lemmas. Conditions stand with each theorem.
-/
import Derived.Test.YtcdmnmpiipmfmaaRf4
namespace Go.Proofs.Ytcdmnmpiipmfmaa
open Go.Fm

/-! ## the least end, the place of an address -/
abbrev uE (E : List En) (j : Int) : Int := (E.getD j.toNat default).u
def iK (x : Cf) (E : List En) (_n : Nat) (t : Int) (_D : Ad) (mtu : Int) (p : Int × Int × Int) : Prop :=
  p.1 = maxE x mtu ∧ 0 ≤ p.2.2 ∧ p.2.2 < (tidyE t E).length ∧ 0 ≤ p.2.1 ∧ p.2.1 ≤ (tidyE t E).length ∧ (∀ j : Int, 0 ≤ j → j < p.2.1 → uE (tidyE t E) p.2.2 ≤ uE (tidyE t E) j) ∧ ∀ j : Int, 0 ≤ j → j < p.2.2 → uE (tidyE t E) p.2.2 < uE (tidyE t E) j
def iJ (x : Cf) (E : List En) (_n : Nat) (t : Int) (D : Ad) (mtu : Int) (p : Int × Int × List En) : Prop :=
  p.1 = maxE x mtu ∧ p.2.2 = roomE x D (tidyE t E) ∧ 0 ≤ p.2.1 ∧ p.2.1 ≤ p.2.2.length ∧ ∀ j : Nat, (j : Int) < p.2.1 → numB (bytesA (p.2.2.getD j default).d) < numB (bytesA D)
section
variable {x : Cf} {E L : List En} {n : Nat} {t mtu : Int} {D : Ad}
theorem K_first {z : Int} (hz : z = maxE x mtu) (h1 : 1 ≤ (tidyE t E).length) : iK x E n t D mtu (z, 0, 0) :=
  ⟨hz, Int.le_refl _, (by show (0 : Int) < _; omega), Int.le_refl _, Int.natCast_nonneg _, fun j a b => absurd (show j < 0 from b) (by omega), fun j a b => absurd (show j < 0 from b) (by omega)⟩
theorem K_less {p : Int × Int × Int} (h : iK x E n t D mtu p) (hp : p.2.1 < (tidyE t E).length) (hc : uE (tidyE t E) p.2.1 < uE (tidyE t E) p.2.2) : iK x E n t D mtu (p.1, p.2.1 + 1, p.2.1) := by
  obtain ⟨h1, h2, h3, h4, h5, h6, h7⟩ := h
  refine ⟨h1, h4, hp, by show 0 ≤ p.2.1 + 1; omega, by show p.2.1 + 1 ≤ _; omega, fun j a b => ?_, fun j a b => ?_⟩
  · have b : j < p.2.1 + 1 := b
    by_cases e : j = p.2.1
    · subst e; exact Int.le_refl _
    · have := h6 j a (by omega)
      show uE _ p.2.1 ≤ _; omega
  · have b : j < p.2.1 := b
    have := h6 j a b
    show uE _ p.2.1 < _; omega
theorem K_more {p : Int × Int × Int} (h : iK x E n t D mtu p) (hp : p.2.1 < (tidyE t E).length) (hc : ¬ uE (tidyE t E) p.2.1 < uE (tidyE t E) p.2.2) : iK x E n t D mtu (p.1, p.2.1 + 1, p.2.2) := by
  obtain ⟨h1, h2, h3, h4, h5, h6, h7⟩ := h
  refine ⟨h1, h2, h3, by show 0 ≤ p.2.1 + 1; omega, by show p.2.1 + 1 ≤ _; omega, fun j a b => ?_, h7⟩
  have b : j < p.2.1 + 1 := b
  by_cases e : j = p.2.1
  · subst e; show uE _ p.2.2 ≤ uE _ p.2.1; omega
  · exact h6 j a (by omega)
theorem K_done {p : Int × Int × Int} (h : iK x E n t D mtu p) (hp : ¬ p.2.1 < (tidyE t E).length) : (tidyE t E).getD p.2.2.toNat default = minE (tidyE t E) := by
  obtain ⟨h1, h2, h3, h4, h5, h6, h7⟩ := h
  refine pMin_minE ⟨p.2.2, h2, h3, rfl, fun j a b => ?_, fun j a b => ?_⟩
  · have := h6 j a (by omega)
    show uE _ p.2.2 ≤ uE _ j; omega
  · have := h7 j a b
    show uE _ p.2.2 < uE _ j; omega
/-- a row but the one at a place: but the ones of its address -/
theorem wo_d : ∀ {E : List En} {k : Nat}, Up E → k < E.length → wo E (k : Int) = butE (E.getD k default).d E
  | [], _, _, h => by simp at h
  | a :: E, 0, hu, _ => by
    unfold butE
    show wo (a :: E) ((0 : Nat) : Int) = List.filter (fun y => !isD a.d y) (a :: E)
    rw [List.filter_cons, show isD a.d a = true from isD_iff.2 rfl, show (List.filter (fun y => !isD a.d y) E) = E from ?_]
    · rfl
    · rw [List.filter_eq_self]
      intro y hy
      cases hd : isD a.d y with
      | false => rfl
      | true => have := hu.head hy; rw [nkE_of (isD_iff.1 hd).symm] at this; omega
  | a :: E, k + 1, hu, h => by
    have hk : k < E.length := by simpa using h
    have ih := wo_d (k := k) hu.tail hk
    have hm : E.getD k default ∈ E := by rw [List.getD_eq_getElem?_getD, List.getElem?_eq_getElem hk]; exact List.getElem_mem hk
    unfold butE at ih ⊢
    rw [List.getD_cons_succ, List.filter_cons]
    have hf : isD (E.getD k default).d a = false := by
      cases hd : isD (E.getD k default).d a with
      | false => rfl
      | true => have := hu.head hm; rw [nkE_of (isD_iff.1 hd)] at this; omega
    rw [hf, ← ih]
    unfold wo
    rw [Int.toNat_natCast, Int.toNat_natCast]; rfl
theorem room_at (hu : Up E) (h : ¬ atM D (tidyE t E) < 0) : wo (tidyE t E) (atM D (tidyE t E)) = roomE x D (tidyE t E) := by
  unfold roomE
  rw [if_pos (has_at h)]
  exact wo_at hu.tidy (at_yes h).1
theorem room_min {p : Int × Int × Int} (hu : Up E) (h0 : atM D (tidyE t E) < 0) (hf : ((tidyE t E).length : Int) ≥ x.lim) (h : iK x E n t D mtu p) (hp : ¬ p.2.1 < (tidyE t E).length) : wo (tidyE t E) p.2.2 = roomE x D (tidyE t E) := by
  rw [room_full (has_no h0) hf, ← K_done h hp]
  have h2 := h.2.1
  have h3 := h.2.2.1
  have := wo_d (E := tidyE t E) (k := p.2.2.toNat) hu.tidy (by omega)
  rw [Int.toNat_of_nonneg h2] at this
  exact this
theorem room_len {E : List En} : (roomE x D E).length ≤ E.length := by
  unfold roomE
  split
  · exact List.length_filter_le _ _
  · split
    · exact List.length_filter_le _ _
    · exact Nat.le_refl _
theorem J_first {z : Int} (hz : z = maxE x mtu) (hr : L = roomE x D (tidyE t E)) : iJ x E n t D mtu (z, 0, L) :=
  ⟨hz, hr, Int.le_refl _, Int.natCast_nonneg _, fun j a => absurd (show (j : Int) < 0 from a) (by omega)⟩
theorem bytes_lt : ∀ (l l' : List UInt8) (s : Int), l.length = l'.length → Op.bytesLess l l' = decide (l.foldl stp s < l'.foldl stp s)
  | [], [], s, _ => by simp [Op.bytesLess]
  | [], _ :: _, _, h => by simp at h
  | _ :: _, [], _, h => by simp at h
  | a :: l, b :: l', s, h => by
    have hl : l.length = l'.length := by simpa using h
    unfold Op.bytesLess
    rw [List.foldl_cons, List.foldl_cons]
    by_cases h1 : a < b
    · have h1' : a.toNat < b.toNat := h1
      have := fold_lt l l' (stp s a) (stp s b) hl (by show s * 256 + (a.toNat : Int) < s * 256 + (b.toNat : Int); omega)
      simp [h1, this]
    · by_cases h2 : a = b
      · subst h2
        rw [bytes_lt l l' (stp s a) hl]; simp
      · have h3 : b.toNat < a.toNat := by
          have : ¬ a.toNat < b.toNat := h1
          have : a.toNat ≠ b.toNat := fun e => h2 (UInt8.toNat.inj e)
          omega
        have := fold_lt l' l (stp s b) (stp s a) hl.symm (by show s * 256 + (b.toNat : Int) < s * 256 + (a.toNat : Int); omega)
        have h4 : ¬ l.foldl stp (stp s a) < l'.foldl stp (stp s b) := by omega
        simp [h1, h2, h4]
theorem bytes_num (A B : Ad) : Op.bytesLess (bytesA A) (bytesA B) = decide (numB (bytesA A) < numB (bytesA B)) := bytes_lt _ _ 0 rfl
theorem bsl (l : List UInt8) : (bs l).toList = l := bs_toList l
theorem J_step {p : Int × Int × List En} (h : iJ x E n t D mtu p) (hp : p.2.1 < p.2.2.length) (hc : numB (bytesA (p.2.2.getD p.2.1.toNat default).d) < numB (bytesA D)) : iJ x E n t D mtu (p.1, p.2.1 + 1, p.2.2) := by
  obtain ⟨h1, h2, h3, h4, h5⟩ := h
  refine ⟨h1, h2, by show 0 ≤ p.2.1 + 1; omega, by show p.2.1 + 1 ≤ (p.2.2.length : Int); omega, fun j a => ?_⟩
  have a : (j : Int) < p.2.1 + 1 := a
  by_cases e : (j : Int) = p.2.1
  · have : j = p.2.1.toNat := by omega
    subst this; exact hc
  · exact h5 j (by omega)
/-- the part ahead of a place, and the rest -/
theorem take_while {p : En → Bool} : ∀ {L : List En} {i : Nat}, i ≤ L.length → (∀ j, j < i → p (L.getD j default) = true) → (i = L.length ∨ p (L.getD i default) = false) → L.takeWhile p = L.take i ∧ L.dropWhile p = L.drop i
  | [], i, h, _, _ => by simp
  | a :: L, 0, _, _, h => by
    have ha : p a = false := h.resolve_left (by simp)
    exact ⟨by rw [List.takeWhile_cons, ha]; rfl, by rw [List.dropWhile_cons, ha]; rfl⟩
  | a :: L, i + 1, h, h1, h2 => by
    have ha : p a = true := h1 0 (by omega)
    have ih := take_while (p := p) (L := L) (i := i) (by simpa using h) (fun j hj => h1 (j + 1) (by omega)) (by simpa using h2)
    rw [List.takeWhile_cons, List.dropWhile_cons, ha]
    exact ⟨by rw [if_pos rfl, ih.1]; rfl, by rw [if_pos rfl, ih.2]; rfl⟩
theorem ins_at {e : En} {i : Int} (h0 : 0 ≤ i) (h1 : i ≤ L.length) (h2 : ∀ j : Nat, (j : Int) < i → numB (bytesA (L.getD j default).d) < numB (bytesA e.d)) (h3 : ¬ i < L.length ∨ ¬ numB (bytesA (L.getD i.toNat default).d) < numB (bytesA e.d)) :
    insE e L = L.take i.toNat ++ e :: L.drop i.toNat := by
  have := take_while (p := fun y => decide (nkE y < nkE e)) (L := L) (i := i.toNat) (by omega) (fun j hj => decide_eq_true (h2 j (by omega))) (h3.imp (fun h => by omega) (fun h => decide_eq_false h))
  unfold insE
  rw [this.1, this.2]
end

/-! ## steps -/
section
variable {h : AHeap} {l L : List En} {b c k m o : Nat} {i : Int} {sp : Option Nat} {cap : Nat} {e : En}
theorem conv_row (hc : h[c]? = some (oR L)) (hi : i.toNat < L.length) : aConvRead Try.prog 69 9 (.slice (some ⟨c, 0 + i.toNat * 18, none⟩) 16 16) h = some (.string (bs (bytesA (L.getD i.toNat default).d))) := by
  have h1 := aCells_rw (c := rowE) (m := 18) (n := 16) (k := 0) (i := i.toNat) (d := default) (o := 0 + i.toNat * 18) (h := h) (b := c) rowE_len hc hi (by omega) (by omega)
  have hv : aView 1 (.slice (some ⟨c, 0 + i.toNat * 18, none⟩) 16 16) 16 h = some (((rowE (L.getD i.toNat default)).drop 0).take 16) := h1
  have e1 : Try.prog.underlying 69 = some (.slice 5) := by kernel_rfl
  have e2 : Try.prog.underlying 9 = some .string := by kernel_rfl
  unfold aConvRead
  simp only [e1, e2, xu5, hv, Option.bind_some]
  rfl
theorem sl_to (h0 : 0 ≤ i) (h1 : i ≤ k) : aSlice Try.prog 41 (sB b k) none (some (.int .i64 i)) none = some (.slice (some ⟨b, 0, some 18⟩) i.toNat k) := by
  unfold aSlice
  rw [xu41]
  show ((some k).bind fun m => (aBound m (some (.int .i64 i)) k).bind fun h => (some 0).bind fun l => (aSize Try.prog 66).bind fun s => _) = _
  rw [xs66]
  simp only [Option.bind_some, aBound, if_pos (And.intro h0 h1)]
  simp
theorem sl_from (h0 : 0 ≤ i) (h1 : i ≤ k) : aSlice Try.prog 41 (sB b k) (some (.int .i64 i)) none none = some (.slice (some ⟨b, 0 + i.toNat * 18, some 18⟩) (k - i.toNat) (k - i.toNat)) := by
  unfold aSlice
  rw [xu41]
  show ((some k).bind fun m => (some k).bind fun h => (aBound h (some (.int .i64 i)) 0).bind fun l => (aSize Try.prog 66).bind fun s => _) = _
  rw [xs66]
  simp only [Option.bind_some, aBound, if_pos (And.intro h0 h1)]
  simp
theorem app_nil {s : Option Addr} {q r : Nat} (hm : m = 0) (hc : h[c]? = some (oR L)) (ho : o = k * 18) (hk : k ≤ L.length) (hq : q ≤ r) :
    aAppend Try.prog 41 41 (.slice s q r) (.slice (some ⟨c, o, sp⟩) m cap) h = some (.slice s q r, h) := by
  subst hm
  obtain ⟨i, h1, h2, h3, h4⟩ := info66
  refine aAppend_rw_none xu41 h1 (by omega) hq ?_
  rw [h2]
  exact aNew_rw (i := k) (n := 0) rowE_len xu41 (fun _ h => by cases h) hc ho hk
theorem app_rows {q : Nat} (hb : h[b]? = some (oR l)) (hq : l.length = q) (hc : h[c]? = some (oR L)) (ho : o = k * 18) (hm : 0 < m) (hk : k + m ≤ L.length) (hl : l.length + m ≤ 2 ^ 30) :
    aAppend Try.prog 41 41 (sB b q) (.slice (some ⟨c, o, sp⟩) m cap) h = some (sB h.length (q + m), h.set b .dead ++ [oR (l ++ (L.drop k).take m)]) := by
  subst hq
  obtain ⟨i, h1, h2, h3, h4⟩ := info66
  have hy : ((L.drop k).take m).length = m := by rw [List.length_take, List.length_drop]; omega
  have h5 := aAppend_rw_next (P := Try.prog) (c := rowE) (y := (L.drop k).take m) (l := l) (h := h) (b := b) (x := .slice (some ⟨c, o, sp⟩) m cap) (xt := 41) rowE_len (by omega) xu41 h1 h2 h3 h4
    (by rw [hy]; exact aNew_rw rowE_len xu41 (fun _ h => by cases h) hc ho hk) rowE_cell hb rfl (by omega) (by omega)
  rw [hy] at h5
  exact h5
theorem app_rows0 (hc : h[c]? = some (oR L)) (hm : 0 < m) (hk : m ≤ L.length) (hl : m ≤ 2 ^ 30) :
    aAppend Try.prog 41 41 (.slice (some ⟨b, 0, none⟩) 0 0) (.slice (some ⟨c, 0, sp⟩) m cap) h = some (sB h.length m, h ++ [oR (L.take m)]) := by
  obtain ⟨i, h1, h2, h3, h4⟩ := info66
  have hy : (L.take m).length = m := by rw [List.length_take]; omega
  have hn := aNew_rw (P := Try.prog) (e := 66) (xt := 41) (i := 0) (o := 0) (n := m) (cap := cap) (sp := sp) rowE_len xu41 (fun _ h => by cases h) hc (by omega) (by omega)
  rw [List.drop_zero] at hn
  have h5 := aAppend_rw_empty (P := Try.prog) (c := rowE) (y := L.take m) (h := h) (b := b) (sp := none) (x := .slice (some ⟨c, 0, sp⟩) m cap) (xt := 41) rowE_len (by omega) xu41 h1 h2 h3 h4 (by rw [hy]; exact hn) rowE_cell (by omega) (by omega) rfl
  rw [hy] at h5
  exact h5
theorem app_one {q : Nat} (hb : h[b]? = some (oR l)) (hq : l.length = q) (hc : h[c]? = some (.tcells (rowE e) 66 (some 0))) (hl : l.length + 1 ≤ 2 ^ 30) :
    aAppend Try.prog 41 41 (sB b q) (.slice (some ⟨c, 0, none⟩) 1 1) h = some (sB h.length (q + 1), h.set b .dead ++ [oR (l ++ [e])]) := by
  subst hq; exact app_row hb hc hl
end

/-! ## begin -/
section
variable {o : AObj} {x : Cf} {now t : Int} {E : List En} {n : Nat}
theorem btN_ok (ho : noE o = true) (he : ¬ errT t now) : (kBtN o x now t).asks Try.prog [] 25 :=
  asks_of (Spec.mono (fr_n (h := [oS x now sN, o]) (a := 0) beginN_ok rfl rfl (noE2 ho) (argT rfl)) (by rintro r h' ⟨rfl, rfl⟩; rw [bgE_ok he, bgT_ok he]; exact ⟨(), trivial, rfl, rfl⟩))
theorem bt0_ok (hl : E.length = n) (hb : n < 2 ^ 20) (ho : noE o = true) (he : ¬ errT t now) (e0 : tidyE t E = []) : (kBt0 o x now t E n).asks Try.prog [] 25 := by
  refine asks_of (Spec.mono (fr_b (h := [oS x now (sB 1 n), oR E, o]) (a := 0) (b := 1) (beginB_ok hl hb) rfl (by decide) rfl rfl (noE3 (noER E) ho) (argT rfl)) ?_)
  rintro r h' ⟨rfl, (⟨h0, h1, rfl⟩ | ⟨h0, h1, rfl⟩ | ⟨h0, rfl⟩)⟩
  · rw [bgE_ok he, bgT_ok he]; exact ⟨(), trivial, rfl, rfl⟩
  · exact absurd e0 h1
  · exact absurd he (of_decide_eq_false h0)
theorem bt1_ok (hl : E.length = n) (hb : n < 2 ^ 20) (ho : noE o = true) (he : ¬ errT t now) (hne : tidyE t E ≠ []) : (kBt1 o x now t E n).asks Try.prog [] 25 := by
  refine asks_of (Spec.mono (fr_b (h := [oS x now (sB 1 n), oR E, o]) (a := 0) (b := 1) (beginB_ok hl hb) rfl (by decide) rfl rfl (noE3 (noER E) ho) (argT rfl)) ?_)
  rintro r h' ⟨rfl, (⟨h0, h1, rfl⟩ | ⟨h0, h1, rfl⟩ | ⟨h0, rfl⟩)⟩
  · exact absurd h1 hne
  · rw [bgE_ok he, bgT_ok he]; exact ⟨(), trivial, rfl, rfl⟩
  · exact absurd he (of_decide_eq_false h0)
end

end Go.Proofs.Ytcdmnmpiipmfmaa
