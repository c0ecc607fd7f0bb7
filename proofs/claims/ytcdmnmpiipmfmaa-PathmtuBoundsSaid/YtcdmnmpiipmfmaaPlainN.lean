/-
  The pure model of a cache, gone on: what its calls give and leave; a map that stands for the row keeps standing for it. Conditions stand with each theorem.
-/
import Derived.Test.YtcdmnmpiipmfmaaPlainM
namespace Go.Proofs.Ytcdmnmpiipmfmaa
open Go.Fm

instance (t now : Int) : Decidable (errT t now) := by unfold errT; exact inferInstance

/-- what a call gives, the time, the entries behind it -/
noncomputable def getM (x : Cf) (now : Int) (E : List En) (t : Int) (D : Ad) : (Int × Int) × Int × List En :=
  if errT t now then ((0, 153), now, E) else ((lookE D x (tidyE t E), 0), t, tidyE t E)
noncomputable def toldM (x : Cf) (now : Int) (E : List En) (t : Int) (D : Ad) (mtu : Int) : (Bool × Int) × Int × List En :=
  if errT t now then ((false, 153), now, E) else if mtu < 0 ∨ mtu > 65535 then ((false, 131), now, E) else
    if maxE x mtu ≥ lookE D x (tidyE t E) then ((false, 0), t, tidyE t E) else ((true, 0), t, insE ⟨D, maxE x mtu, endE x t⟩ (roomE x D (tidyE t E)))
noncomputable def dropM (now : Int) (E : List En) (t : Int) (D : Ad) : (Bool × Int) × Int × List En :=
  if errT t now then ((false, 153), now, E) else ((hasE D (tidyE t E), 0), t, butE D (tidyE t E))
def allM (now : Int) (E : List En) (t : Int) : Int × Int × List En := if errT t now then (153, now, E) else (0, t, tidyE t E)
/-- the least time at which an entry ends -/
def leastE : List En → Int
  | [] => 0
  | [e] => e.u
  | e :: r => if leastE r < e.u then leastE r else e.u

section
variable {cl : Nat} {l : List (En × Nat)} {E : List En}

theorem mset_mem {q : En → Bool} {e : En} {y : En × Nat} : ∀ {l : List (En × Nat)}, (∀ a ∈ l, ∀ b ∈ l, q a.1 = true → q b.1 = true → a = b) → l.Nodup → l.any (fun e => q e.1) = true →
    (y ∈ mset q e l ↔ (y ∈ l ∧ q y.1 = false) ∨ ∃ a ∈ l, q a.1 = true ∧ y = (e, a.2))
  | [], _, _, h => by simp at h
  | a :: l, hu, hn, h => by
    unfold mset
    cases hq : q a.1 with
    | true =>
      simp only [cond_true, List.mem_cons]
      have hno : ∀ b ∈ l, q b.1 = false := fun b hb => by
        cases hb' : q b.1 with
        | false => rfl
        | true => have := hu a (by simp) b (by simp [hb]) hq hb'; subst this; exact absurd hb (List.nodup_cons.1 hn).1
      constructor
      · rintro (rfl | hy)
        · exact .inr ⟨a, .inl rfl, hq, rfl⟩
        · exact .inl ⟨.inr hy, hno y hy⟩
      · rintro (⟨rfl | hy, h2⟩ | ⟨b, rfl | hb, h1, h2⟩)
        · rw [hq] at h2; cases h2
        · exact .inr hy
        · exact .inl h2
        · rw [hno b hb] at h1; cases h1
    | false =>
      simp only [List.any_cons, hq, Bool.false_or] at h
      have ih := mset_mem (q := q) (e := e) (y := y) (l := l) (fun a ha b hb => hu a (by simp [ha]) b (by simp [hb])) (List.nodup_cons.1 hn).2 h
      simp only [cond_false, List.mem_cons, ih]
      constructor
      · rintro (rfl | ⟨h1, h2⟩ | ⟨b, hb, h1, h2⟩)
        · exact .inl ⟨.inl rfl, hq⟩
        · exact .inl ⟨.inr h1, h2⟩
        · exact .inr ⟨b, .inr hb, h1, h2⟩
      · rintro (⟨rfl | h1, h2⟩ | ⟨b, rfl | hb, h1, h2⟩)
        · exact .inl rfl
        · exact .inr (.inl ⟨h1, h2⟩)
        · rw [hq] at h1; cases h1
        · exact .inr (.inr ⟨b, hb, h1, h2⟩)

theorem mset_map {β : Type} {q : En → Bool} {e : En} {f : En × Nat → β} (hf : ∀ a, q a.1 = true → f (e, a.2) = f a) : ∀ l : List (En × Nat), (mset q e l).map f = l.map f
  | [] => rfl
  | a :: l => by
    unfold mset
    cases hq : q a.1 with
    | true => simp only [cond_true, List.map_cons, hf a hq]
    | false => simp only [cond_false, List.map_cons, mset_map hf l]

theorem Rep.put {e : En} (h : Rep cl l E) (ho : okA e.d) : Rep (clk e.d cl l) (Go.Proofs.Ytcdmnmpiipmfmaa.put e cl l) (insE e (butE e.d E)) := by
  have hub : Up (butE e.d E) := h.up.filter _
  have hmb : ∀ y, y ∈ butE e.d E ↔ y ∈ E ∧ isD e.d y = false := fun y => by unfold butE; rw [List.mem_filter]; simp
  have hne : ∀ y ∈ butE e.d E, nkE y ≠ nkE e := fun y hy hk => by
    obtain ⟨h1, h2⟩ := (hmb y).1 hy
    obtain ⟨z, hz, rfl⟩ := (h.mem y).1 h1
    have := isD_iff.2 (nkE_inj (h.wf.ok z hz) ho hk)
    rw [this] at h2; cases h2
  unfold clk Go.Proofs.Ytcdmnmpiipmfmaa.put
  by_cases hh : Go.Proofs.Ytcdmnmpiipmfmaa.has e.d l = true
  · rw [if_pos hh, if_pos hh]
    have hmem := fun y => mset_mem (q := isD e.d) (e := e) (y := y) (l := l) (fun a ha b hb h1 h2 => h.wf.key ha hb (by rw [isD_iff.1 h1, isD_iff.1 h2])) (nodup_of_map h.wf.nd) hh
    refine ⟨⟨fun y hy => ?_, fun y hy => ?_, ?_, ?_⟩, fun y => ?_, insE_up hub hne⟩
    · rcases (hmem y).1 hy with ⟨h1, _⟩ | ⟨a, ha, _, rfl⟩
      · exact h.wf.ok y h1
      · exact ho
    · rcases (hmem y).1 hy with ⟨h1, _⟩ | ⟨a, ha, _, rfl⟩
      · exact h.wf.born y h1
      · exact h.wf.born a ha
    · rw [mset_map (fun a _ => rfl)]; exact h.wf.nb
    · rw [mset_map (fun a ha => (isD_iff.1 ha).symm)]; exact h.wf.nd
    · rw [insE_mem hub, hmb, h.mem]
      constructor
      · rintro (rfl | ⟨⟨z, hz, rfl⟩, h2⟩)
        · unfold Go.Proofs.Ytcdmnmpiipmfmaa.has at hh
          rw [List.any_eq_true] at hh
          obtain ⟨a, ha, hd⟩ := hh
          exact ⟨(y, a.2), (hmem _).2 (.inr ⟨a, ha, hd, rfl⟩), rfl⟩
        · exact ⟨z, (hmem _).2 (.inl ⟨hz, h2⟩), rfl⟩
      · rintro ⟨z, hz, rfl⟩
        rcases (hmem z).1 hz with ⟨h1, h2⟩ | ⟨a, ha, _, rfl⟩
        · exact .inr ⟨⟨z, h1, rfl⟩, h2⟩
        · exact .inl rfl
  · rw [if_neg hh, if_neg hh]
    have hn : ∀ y ∈ l, isD e.d y.1 = false := fun y hy => by
      cases hx : isD e.d y.1 with
      | false => rfl
      | true => exact absurd (List.any_eq_true.2 ⟨y, hy, hx⟩) hh
    refine ⟨⟨fun y hy => ?_, fun y hy => ?_, ?_, ?_⟩, fun y => ?_, insE_up hub hne⟩
    · rcases List.mem_append.1 hy with hy | hy
      · exact h.wf.ok y hy
      · rw [List.mem_singleton] at hy; subst hy; exact ho
    · rcases List.mem_append.1 hy with hy | hy
      · have := h.wf.born y hy; omega
      · rw [List.mem_singleton] at hy; subst hy; exact Nat.lt_succ_self _
    · rw [List.map_append, List.nodup_append]
      refine ⟨h.wf.nb, by simp, fun a ha b hb => ?_⟩
      obtain ⟨y, hy, rfl⟩ := List.mem_map.1 ha
      have hb : b = cl := by simpa using hb
      have := h.wf.born y hy
      omega
    · rw [List.map_append, List.nodup_append]
      refine ⟨h.wf.nd, by simp, fun a ha b hb => ?_⟩
      obtain ⟨y, hy, rfl⟩ := List.mem_map.1 ha
      have hb : b = e.d := by simpa using hb
      subst hb
      intro hd
      have := hn y hy
      rw [isD_iff.2 hd] at this; cases this
    · rw [insE_mem hub, hmb, h.mem]
      constructor
      · rintro (rfl | ⟨⟨z, hz, rfl⟩, _⟩)
        · exact ⟨(y, cl), by simp, rfl⟩
        · exact ⟨z, by simp [hz], rfl⟩
      · rintro ⟨z, hz, rfl⟩
        rcases List.mem_append.1 hz with hz | hz
        · exact .inr ⟨⟨z, hz, rfl⟩, hn z hz⟩
        · rw [List.mem_singleton] at hz; subst hz; exact .inl rfl

theorem minE_cons {e a : En} {r : List En} : minE (e :: a :: r) = if (minE (a :: r)).u < e.u then minE (a :: r) else e := rfl
theorem pMin_minE : ∀ {E : List En} {e : En}, pMin E e → e = minE E
  | [], e, ⟨k, h0, h1, _⟩ => by simp at h1; omega
  | [a], e, ⟨k, h0, h1, h2, _⟩ => by
    have : k = 0 := by simp at h1; omega
    subst this; exact h2
  | a :: b :: r, e, ⟨k, h0, h1, h2, h3, h4⟩ => by
    rw [minE_cons]
    have tl : ∀ j : Int, 0 ≤ j → ix (a :: b :: r) (j + 1) = ix (b :: r) j := fun j hj => by
      unfold ix; rw [show (j + 1).toNat = j.toNat + 1 by omega]; rfl
    have hl : ((a :: b :: r).length : Int) = (b :: r).length + 1 := by simp
    rw [hl] at h1
    by_cases hk : k = 0
    · subst hk
      have e0 : e = a := h2
      have : ¬ (minE (b :: r)).u < a.u := by
        -- the least of the rest is one of the rest
        have hm : ∃ j : Int, 0 ≤ j ∧ j < (b :: r).length ∧ minE (b :: r) = ix (b :: r) j := by
          clear h1 h2 h3 h4 tl hl
          induction r generalizing b with
          | nil => exact ⟨0, by omega, by simp, rfl⟩
          | cons c r ih =>
            rw [minE_cons]
            split
            · obtain ⟨j, a1, a2, a3⟩ := ih c
              refine ⟨j + 1, by omega, by simp at a2 ⊢; omega, ?_⟩
              rw [a3]; unfold ix; rw [show (j + 1).toNat = j.toNat + 1 by omega]; rfl
            · exact ⟨0, by omega, by simp; omega, rfl⟩
        obtain ⟨j, a1, a2, a3⟩ := hm
        have := h3 (j + 1) (by omega) (by rw [hl]; omega)
        rw [tl j a1] at this
        rw [a3, ← e0]; omega
      rw [if_neg this, e0]
    · have hp : pMin (b :: r) e := by
        refine ⟨k - 1, by omega, by omega, ?_, fun j a1 a2 => ?_, fun j a1 a2 => ?_⟩
        · rw [h2, ← tl (k - 1) (by omega), show k - 1 + 1 = k by omega]
        · have := h3 (j + 1) (by omega) (by rw [hl]; omega); rw [tl j a1] at this; exact this
        · have := h4 (j + 1) (by omega) (by omega); rw [tl j a1] at this; exact this
      have em := pMin_minE hp
      have h5 : e.u < a.u := by have := h4 0 (by omega) (by omega); exact this
      rw [← em, if_pos h5]

theorem Rep.all {r : List En} (h : Rep cl l E) (hr : pAll l r) : r = E :=
  Up.eq (up_of hr.2.1) h.up fun e => by rw [hr.1, h.mem]
theorem butE_no {D : Ad} (h : hasE D E = false) : butE D E = E := by
  unfold butE
  rw [List.filter_eq_self]
  intro y hy
  unfold hasE at h
  rw [List.any_eq_false] at h
  have := h y hy
  simpa using this
theorem minE_mem : ∀ {E : List En}, E ≠ [] → minE E ∈ E
  | [], h => absurd rfl h
  | [a], _ => by simp [minE]
  | a :: b :: r, _ => by
    rw [minE_cons]
    split
    · exact List.mem_cons_of_mem _ (minE_mem (by simp))
    · simp
theorem hasE_sub {D D' : Ad} (h : hasE D E = false) : hasE D (butE D' E) = false := by
  unfold hasE butE at *
  rw [List.any_eq_false] at h ⊢
  intro y hy
  exact h y (List.mem_filter.1 hy).1

end
end Go.Proofs.Ytcdmnmpiipmfmaa
