/-
  The pure model of a cache: its time and its entries, rising by their addresses; what its calls give. A map stands for such a row (Rep). Conditions stand with each theorem.
-/
import Derived.Test.YtcdmnmpiipmfmaaPm4
namespace Go.Proofs.Ytcdmnmpiipmfmaa
open Go.Fm

def errT (t now : Int) : Prop := t < now ∨ t > 1099511627776
def tidyE (t : Int) (E : List En) : List En := E.filter fun e => decide (t < e.u)
noncomputable def lookE (D : Ad) (x : Cf) (E : List En) : Int := ((E.find? (isD D)).map (·.m)).getD x.link
noncomputable def hasE (D : Ad) (E : List En) : Bool := E.any (isD D)
noncomputable def butE (D : Ad) (E : List En) : List En := E.filter fun y => !isD D y
def insE (e : En) (E : List En) : List En := (E.takeWhile fun y => decide (nkE y < nkE e)) ++ e :: E.dropWhile fun y => decide (nkE y < nkE e)
def minE : List En → En
  | [] => default
  | [e] => e
  | e :: r => if (minE r).u < e.u then minE r else e
def endE (x : Cf) (t : Int) : Int := if 1099511627776 < t + x.life then 1099511627776 else t + x.life
def maxE (x : Cf) (mtu : Int) : Int := if x.least > mtu then x.least else mtu
noncomputable def roomE (x : Cf) (D : Ad) (E : List En) : List En := if hasE D E = true then butE D E else if (E.length : Int) ≥ x.lim then butE (minE E).d E else E

def Up (E : List En) : Prop := E.Pairwise fun a b => nkE a < nkE b

/-- a map's entries are those of a row -/
structure Rep (cl : Nat) (l : List (En × Nat)) (E : List En) : Prop where
  wf : WF cl l
  mem : ∀ e, e ∈ E ↔ ∃ x ∈ l, x.1 = e
  up : Up E

theorem nkE_of {x y : En} (h : x.d = y.d) : nkE x = nkE y := by unfold nkE; rw [h]
theorem Up.tail {e : En} {E : List En} (h : Up (e :: E)) : Up E := (List.pairwise_cons.1 h).2
theorem Up.head {e y : En} {E : List En} (h : Up (e :: E)) (hy : y ∈ E) : nkE e < nkE y := (List.pairwise_cons.1 h).1 y hy
theorem Up.filter {E : List En} (h : Up E) (p : En → Bool) : Up (E.filter p) := List.Pairwise.filter p h
theorem Up.eq : ∀ {E E' : List En}, Up E → Up E' → (∀ e, e ∈ E ↔ e ∈ E') → E = E'
  | [], [], _, _, _ => rfl
  | [], e :: E', _, _, h => by have := (h e).2 (by simp); cases this
  | e :: E, [], _, _, h => by have := (h e).1 (by simp); cases this
  | e :: E, e' :: E', hu, hu', h => by
    have he : e = e' := by
      have h1 := (h e).1 (by simp)
      have h2 := (h e').2 (by simp)
      rcases List.mem_cons.1 h1 with h1 | h1
      · exact h1
      · rcases List.mem_cons.1 h2 with h2 | h2
        · exact h2.symm
        · have a1 := hu'.head h1
          have a2 := hu.head h2
          omega
    subst he
    rw [Up.eq hu.tail hu'.tail fun y => ?_]
    have hy := h y
    rw [List.mem_cons, List.mem_cons] at hy
    constructor
    · intro hm
      rcases hy.1 (.inr hm) with e1 | e1
      · subst e1; have := hu.head hm; omega
      · exact e1
    · intro hm
      rcases hy.2 (.inr hm) with e1 | e1
      · subst e1; have := hu'.head hm; omega
      · exact e1
theorem up_of {E : List En} (h : Srt nkE 0 E.length E) : Up E := by
  unfold Up
  rw [List.pairwise_iff_getElem]
  intro i j hi hj hij
  have := h i j (by omega) (by omega) (by omega)
  unfold K at this
  rw [ix_get (by omega) (by omega), ix_get (by omega) (by omega)] at this
  exact this

section
variable {cl : Nat} {l : List (En × Nat)} {E : List En}

theorem Rep.tidy {t : Int} {l2 : List (En × Nat)} (h : Rep cl l E) (ht : pAt t l cl l2) : Rep cl l2 (tidyE t E) := by
  refine ⟨ht.1, fun e => ?_, h.up.filter _⟩
  unfold tidyE
  rw [List.mem_filter, h.mem, decide_eq_true_iff]
  constructor
  · rintro ⟨⟨x, hx, rfl⟩, hu⟩; exact ⟨x, (ht.2 x).2 ⟨hx, hu⟩, rfl⟩
  · rintro ⟨x, hx, rfl⟩
    obtain ⟨h1, h2⟩ := (ht.2 x).1 hx
    exact ⟨⟨x, h1, rfl⟩, h2⟩

theorem Rep.has (h : Rep cl l E) (D : Ad) : Go.Proofs.Ytcdmnmpiipmfmaa.has D l = hasE D E := by
  unfold Go.Proofs.Ytcdmnmpiipmfmaa.has hasE
  rw [Bool.eq_iff_iff, List.any_eq_true, List.any_eq_true]
  constructor
  · rintro ⟨x, hx, hd⟩; exact ⟨x.1, (h.mem _).2 ⟨x, hx, rfl⟩, hd⟩
  · rintro ⟨e, he, hd⟩
    obtain ⟨x, hx, rfl⟩ := (h.mem e).1 he
    exact ⟨x, hx, hd⟩

theorem Rep.look (h : Rep cl l E) (D : Ad) (x : Cf) : (if Go.Proofs.Ytcdmnmpiipmfmaa.has D l = true then (fnd D l).m else x.link) = lookE D x E := by
  unfold lookE
  rw [h.has]
  cases hf : E.find? (isD D) with
  | none =>
    rw [List.find?_eq_none] at hf
    have : hasE D E = false := by unfold hasE; rw [List.any_eq_false]; exact hf
    rw [this]; rfl
  | some e =>
    have he := List.mem_of_find?_eq_some hf
    have hd := List.find?_some hf
    have : hasE D E = true := by unfold hasE; rw [List.any_eq_true]; exact ⟨e, he, hd⟩
    rw [if_pos this]
    obtain ⟨y, hy, rfl⟩ := (h.mem e).1 he
    unfold fnd
    cases hg : l.find? fun e => isD D e.1 with
    | none =>
      rw [List.find?_eq_none] at hg
      exact absurd hd (hg y hy)
    | some z =>
      have hz := List.mem_of_find?_eq_some hg
      have hzd : isD D z.1 = true := by have := List.find?_some hg; exact this
      have : z = y := h.wf.key hz hy (by rw [isD_iff.1 hzd, isD_iff.1 hd])
      rw [this]; rfl

theorem Up.nodup {E : List En} (h : Up E) : E.Nodup := h.imp fun {a b} hab e => by rw [e] at hab; omega
theorem Rep.len (h : Rep cl l E) : l.length = E.length := by
  have h1 : (l.map (·.1)).Nodup := by
    have := h.wf.nd
    rw [show (l.map (·.1.d)) = (l.map (·.1)).map (·.d) by rw [List.map_map]; rfl] at this
    exact nodup_of_map this
  have d : DecidableEq En := fun _ _ => Classical.propDecidable _
  have a1 := nodup_sub E (l.map (·.1)) h1 (fun x hx => by
    obtain ⟨y, hy, rfl⟩ := List.mem_map.1 hx
    exact (h.mem _).2 ⟨y, hy, rfl⟩)
  have a2 := nodup_sub (l.map (·.1)) E h.up.nodup (fun x hx => by
    obtain ⟨y, hy, rfl⟩ := (h.mem x).1 hx
    exact List.mem_map.2 ⟨y, hy, rfl⟩)
  rw [List.length_map] at a1 a2
  omega

theorem eraseP_mem {D : Ad} (hw : WF cl l) (x : En × Nat) : x ∈ l.eraseP (fun e => isD D e.1) ↔ x ∈ l ∧ isD D x.1 = false := by
  by_cases hh : ∃ y ∈ l, isD D y.1 = true
  · obtain ⟨y, hy, hd⟩ := hh
    have e := isD_iff.1 hd
    subst e
    rw [hw.erase hy]
    constructor
    · rintro ⟨h1, h2⟩
      refine ⟨h1, ?_⟩
      cases hx : isD y.1.d x.1 with
      | false => rfl
      | true => exact absurd (hw.key h1 hy (isD_iff.1 hx)) h2
    · rintro ⟨h1, h2⟩
      refine ⟨h1, fun e => ?_⟩
      subst e; rw [isD_iff.2 rfl] at h2; cases h2
  · have hn : ∀ y ∈ l, isD D y.1 = false := fun y hy => by
      cases hx : isD D y.1 with
      | false => rfl
      | true => exact absurd ⟨y, hy, hx⟩ hh
    rw [List.eraseP_of_forall_not (fun a ha => by rw [hn a ha]; simp)]
    exact ⟨fun h => ⟨h, hn x h⟩, fun h => h.1⟩

theorem Rep.erase (h : Rep cl l E) (D : Ad) : Rep cl (l.eraseP fun e => isD D e.1) (butE D E) := by
  refine ⟨h.wf.sub List.eraseP_sublist, fun e => ?_, h.up.filter _⟩
  unfold butE
  rw [List.mem_filter, h.mem]
  constructor
  · rintro ⟨⟨x, hx, rfl⟩, hd⟩
    exact ⟨x, (eraseP_mem h.wf x).2 ⟨hx, by simpa using hd⟩, rfl⟩
  · rintro ⟨x, hx, rfl⟩
    obtain ⟨h1, h2⟩ := (eraseP_mem h.wf x).1 hx
    exact ⟨⟨x, h1, rfl⟩, by simpa using h2⟩

theorem takeW_mem {e y : En} : ∀ {E : List En}, Up E → (y ∈ (E.takeWhile fun y => decide (nkE y < nkE e)) ↔ y ∈ E ∧ nkE y < nkE e)
  | [], _ => by simp
  | a :: E, hu => by
    have ih := takeW_mem (e := e) (y := y) hu.tail
    rw [List.takeWhile_cons]
    by_cases ha : nkE a < nkE e
    · rw [decide_eq_true ha]
      simp only [if_true, List.mem_cons, ih]
      constructor
      · rintro (rfl | h)
        · exact ⟨.inl rfl, ha⟩
        · exact ⟨.inr h.1, h.2⟩
      · rintro ⟨rfl | h, h2⟩
        · exact .inl rfl
        · exact .inr ⟨h, h2⟩
    · rw [decide_eq_false ha]
      simp only [Bool.false_eq_true, if_false, List.not_mem_nil, false_iff, not_and, List.mem_cons]
      rintro (rfl | h)
      · exact ha
      · have := hu.head h; omega
theorem dropW_mem {e y : En} : ∀ {E : List En}, Up E → (y ∈ (E.dropWhile fun y => decide (nkE y < nkE e)) ↔ y ∈ E ∧ ¬ nkE y < nkE e)
  | [], _ => by simp
  | a :: E, hu => by
    have ih := dropW_mem (e := e) (y := y) hu.tail
    rw [List.dropWhile_cons]
    by_cases ha : nkE a < nkE e
    · rw [decide_eq_true ha]
      simp only [if_true, List.mem_cons, ih]
      constructor
      · rintro ⟨h, h2⟩; exact ⟨.inr h, h2⟩
      · rintro ⟨rfl | h, h2⟩
        · exact absurd ha h2
        · exact ⟨h, h2⟩
    · rw [decide_eq_false ha]
      simp only [Bool.false_eq_true, if_false]
      constructor
      · intro h
        refine ⟨h, ?_⟩
        rcases List.mem_cons.1 h with rfl | h
        · exact ha
        · have := hu.head h; omega
      · exact fun h => h.1
theorem insE_mem {e y : En} {E : List En} (hu : Up E) : y ∈ insE e E ↔ y = e ∨ y ∈ E := by
  unfold insE
  rw [List.mem_append, List.mem_cons, takeW_mem hu, dropW_mem hu]
  constructor
  · rintro (h | h | h)
    · exact .inr h.1
    · exact .inl h
    · exact .inr h.1
  · rintro (h | h)
    · exact .inr (.inl h)
    · by_cases hk : nkE y < nkE e
      · exact .inl ⟨h, hk⟩
      · exact .inr (.inr ⟨h, hk⟩)
theorem insE_up {e : En} {E : List En} (hu : Up E) (hn : ∀ y ∈ E, nkE y ≠ nkE e) : Up (insE e E) := by
  unfold insE Up
  rw [List.pairwise_append, List.pairwise_cons]
  refine ⟨hu.sublist (List.takeWhile_sublist _), ⟨fun y hy => ?_, hu.sublist (List.dropWhile_sublist _)⟩, fun a ha b hb => ?_⟩
  · obtain ⟨h1, h2⟩ := (dropW_mem hu).1 hy
    have := hn y h1; omega
  · obtain ⟨h1, h2⟩ := (takeW_mem hu).1 ha
    rcases List.mem_cons.1 hb with rfl | hb
    · exact h2
    · obtain ⟨h3, h4⟩ := (dropW_mem hu).1 hb
      have := hn b h3; omega

end
end Go.Proofs.Ytcdmnmpiipmfmaa
