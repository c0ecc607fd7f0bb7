/-
  FmRead2: arguments with slices that nobody looks into: what stands in for them.
-/
import Derived.Test.YtopladipgobpjaaDoorFmRead
namespace Go.Fm
open Go.ChangeShapes Go.WideShapes Go.ChangeAt Go.RowKit

/-- a cell, by its kind -/
inductive XK where
  | bool
  | int (k : IntKind)
  | str
  | slice

def XK.ok : XK → Value → Prop
  | .bool, v => ∃ b, v = .bool b
  | .int k, v => ∃ n, v = .int k n
  | .str, v => ∃ s : ByteArray, v = .string s
  | .slice, v => v = .slice none 0 0 ∨ ∃ b o l c, v = .slice (some ⟨b, o, none⟩) l c

inductive XKs : List XK → List Value → Prop
  | nil : XKs [] []
  | cons {k : XK} {v : Value} {ks : List XK} {vs : List Value} : k.ok v → XKs ks vs → XKs (k :: ks) (v :: vs)

def kindX (P : Program) (t : TypeId) : Option XK :=
  match P.underlying t with
  | some .bool => some .bool
  | some (.int k) => some (.int k)
  | some .string => some .str
  | some (.slice _) => some .slice
  | _ => none

def kindsX (P : Program) : List TypeId → Option (List XK)
  | [] => some []
  | t :: r => (kindX P t).bind fun k => (kindsX P r).map (k :: ·)

section
variable {P : Program} {W : World} {r : Reach} {b0 : Nat}

theorem kindX_ok {t : TypeId} {k : XK} {v : Value} (hk : kindX P t = some k) (h : Cell.okWide P W r b0 t v) : k.ok v := by
  unfold kindX at hk
  split at hk
  · rename_i hu
    injection hk with hk; subst hk
    unfold Cell.okWide Cell.ok at h
    rw [hu] at h
    cases v <;> simp_all [XK.ok]
  · rename_i k' hu
    injection hk with hk; subst hk
    unfold Cell.okWide Cell.ok at h
    rw [hu] at h
    cases v <;> simp_all [XK.ok]
  · rename_i hu
    injection hk with hk; subst hk
    unfold Cell.okWide Cell.ok at h
    rw [hu] at h
    cases v <;> simp_all [XK.ok]
  · rename_i e hu
    injection hk with hk; subst hk
    unfold Cell.okWide Cell.ok at h
    rw [hu] at h
    cases v with
    | slice a l c =>
      cases a with
      | none =>
        left
        revert h
        cases l <;> cases c <;> simp
      | some a =>
        right
        obtain ⟨b, o, s⟩ := a
        obtain ⟨_, _, _, hs, _⟩ := h
        simp only at hs
        subst hs
        exact ⟨b, o, l, c, rfl⟩
    | _ => simp at h
  · simp at hk

theorem kindsX_ok : ∀ {ts : List TypeId} {ks : List XK} {vs : List Value}, kindsX P ts = some ks → vs.length = ts.length → (∀ (i : Nat) (t : TypeId) (v : Value), ts[i]? = some t → vs[i]? = some v → Cell.okWide P W r b0 t v) → XKs ks vs
  | [], ks, vs, h, hl, _ => by
    simp [kindsX] at h; subst h
    cases vs with
    | nil => exact .nil
    | cons _ _ => simp at hl
  | t :: ts, ks, [], h, hl, _ => by simp at hl
  | t :: ts, ks, v :: vs, h, hl, hv => by
    simp only [kindsX] at h
    obtain ⟨k, hk, h⟩ := bind_some' h
    obtain ⟨ks', hks, rfl⟩ := Option.map_eq_some_iff.1 h
    exact .cons (kindX_ok hk (hv 0 t v rfl rfl)) (kindsX_ok hks (by simpa using hl) fun i t v ht hv' => hv (i + 1) t v (by simpa using ht) (by simpa using hv'))

/-- an argument that is an array or a struct: its cells -/
theorem open_cells {t : TypeId} {v : Value} {ts : List TypeId} {ks : List XK} (hu : (match P.underlying t with | some (.struct _) | some (.array _ _) => true | _ => false) = true)
    (ht : P.cellTypes P.depth t = some ts) (hn : Nat.beq (P.cellsOf t) ts.length = true) (hk : kindsX P ts = some ks) (hval : Value.okWide P W r b0 t v) : ∃ l : List Value, v = .agg ⟨l⟩ ∧ XKs ks l := by
  rw [Nat.beq_eq] at hn
  have h1 : ∃ cs, v = .agg cs ∧ cs.size = P.cellsOf t ∧ Row.okWide P W r b0 t cs := by
    unfold Value.okWide at hval
    split at hval
    · exact hval
    · exact hval
    · split at hu <;> simp_all
  obtain ⟨cs, rfl, hsz, ts', ht', _, hc⟩ := h1
  rw [ht] at ht'; injection ht' with ht'; subst ht'
  refine ⟨cs.toList, rfl, kindsX_ok (W := W) (r := r) (b0 := b0) hk (by simpa using hsz.trans hn) fun i t v hti hvi => ?_⟩
  have hlt : i < ts.length := (List.getElem?_eq_some_iff.1 hti).1
  obtain ⟨u, hu1, hu2⟩ := hc i v (by simpa using hvi)
  rw [Nat.mod_eq_of_lt hlt, hti] at hu1
  injection hu1 with hu1; subst hu1
  exact hu2

/-- the kinds of a type's cells -/
def kindsOfX (P : Program) (t : TypeId) : Option (List XK) :=
  match P.cellTypes P.depth t with
  | some ts => cond (Nat.beq (P.cellsOf t) ts.length) (kindsX P ts) none
  | none => none

theorem open_agg_cells {t : TypeId} {v : Value} {ks : List XK} (hu : (match P.underlying t with | some (.struct _) | some (.array _ _) => true | _ => false) = true)
    (hk : kindsOfX P t = some ks) (hval : Value.okWide P W r b0 t v) : ∃ l : List Value, v = .agg ⟨l⟩ ∧ XKs ks l := by
  unfold kindsOfX at hk
  split at hk
  · rename_i ts ht
    cases hn : Nat.beq (P.cellsOf t) ts.length with
    | true => rw [hn, cond_true] at hk; exact open_cells hu ht hn hk hval
    | false => rw [hn] at hk; cases hk
  · cases hk

/-- an argument that is one cell -/
theorem open_cell {t : TypeId} {v : Value} {k : XK} (hk : kindX P t = some k) (hval : Value.okWide P W r b0 t v) : k.ok v := by
  refine kindX_ok (W := W) (r := r) (b0 := b0) hk ?_
  unfold Value.okWide at hval
  unfold kindX at hk
  split at hval
  · rename_i hu; rw [hu] at hk; simp at hk
  · rename_i hu; rw [hu] at hk; simp at hk
  · exact hval

end

/-- places that stand for nothing that is looked at -/
def standJ (bs : List (Nat × Nat)) : Inj := fun i => (bs[i]?).map fun p => ⟨p.1, p.2, 0, 0, 0⟩

theorem Sim.standins (W : World) (bs : List (Nat × Nat)) : Sim (allBelow W) W (standJ bs) (List.replicate bs.length .dead) W := by
  have hdom : ∀ b L, standJ bs b = some L → b < bs.length := by
    intro b L h
    unfold standJ at h
    obtain ⟨p, hp, _⟩ := Option.map_eq_some_iff.1 h
    exact (List.getElem?_eq_some_iff.1 hp).1
  have hget : ∀ b L, standJ bs b = some L → (List.replicate bs.length AObj.dead)[b]? = some .dead := by
    intro b L h
    rw [List.getElem?_replicate]
    simp [hdom b L h]
  refine ⟨Io.refl W, Nat.le_refl _, fun B o _ => keptAt_refl W B o, fun _ _ h => h, ?_, ?_, ?_, ?_⟩
  · intro b L h; simpa using hdom b L h
  · intro b L h; rw [hget b L h]; trivial
  · intro b L h hr; rw [hget b L h] at hr; exact hr.elim
  · intro b b' L L' _ h _ hr; rw [hget b L h] at hr; exact hr.elim

theorem VR.stand {bs : List (Nat × Nat)} {i b o : Nat} (h : bs[i]? = some (b, o)) (l c : Nat) : VR (standJ bs) (.slice (some ⟨i, 0, none⟩) l c) (.slice (some ⟨b, o, none⟩) l c) := by
  have : standJ bs i = some ⟨b, o, 0, 0, 0⟩ := by unfold standJ; rw [h]; rfl
  exact VR.slice (o := 0) l c this

end Go.Fm
