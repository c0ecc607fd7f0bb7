/-
  FmSim: when a concrete world stands for an abstract heap; loads, stores and new blocks keep it so.
-/
import Derived.Test.YtopladipgobpjaaDoorFmBase
import Derived.Laws.IdiomCopy
namespace Go.Fm

def Loc.ext (L : Loc) : Nat := L.size + L.extra * L.esz

def ERow (j : Inj) (e e' : MapEntry) : Prop := VR j e.key e'.key ∧ VR j e.val e'.val ∧ e.born = e'.born

inductive ER (j : Inj) : List MapEntry → List MapEntry → Prop
  | nil : ER j [] []
  | cons {e e' : MapEntry} {l l' : List MapEntry} : ERow j e e' → ER j l l' → ER j (e :: l) (e' :: l')

theorem ER.mono {j j' : Inj} (hj : j.le j') {x x' : List MapEntry} (h : ER j x x') : ER j' x x' := by
  induction h with
  | nil => exact .nil
  | cons h _ ih => exact .cons ⟨h.1.mono hj, h.2.1.mono hj, h.2.2⟩ ih

/-- a slot that is known holds what stands for it -/
def EnvR (j : Inj) (n : Nat) (e : AEnv) (tmps : Array Value) : Prop := tmps.size = n ∧ ∀ t v, e.get t = some v → ∃ v', tmps[t]? = some v' ∧ VR j v v'

theorem EnvR.mono {j j' : Inj} (hj : j.le j') {n : Nat} {e : AEnv} {tmps : Array Value} (h : EnvR j n e tmps) : EnvR j' n e tmps :=
  ⟨h.1, fun t v ht => let ⟨v', h1, h2⟩ := h.2 t v ht; ⟨v', h1, h2.mono hj⟩⟩

def SpecR (j : Inj) : ASpec → Obj → Prop
  | .loop e n m ps a b st pd dq, y => ∃ fn tmps L, fn < m ∧ y = .loop { state := st, pending := pd, fn, tmps, params := ps.toArray, assign := a, body := b, defers := L.blk } ∧ EnvR j n e tmps ∧ j dq = some L
  | .defq, y => y = .deferred (some [])
  | .over, y => ∀ d T f, y ≠ .cells d T f

theorem SpecR.mono {j j' : Inj} (hj : j.le j') {x : ASpec} {y : Obj} (h : SpecR j x y) : SpecR j' x y := by
  cases x with
  | loop e n m ps a b st pd dq => obtain ⟨fn, tmps, L, h0, h1, h2, h3⟩ := h; exact ⟨fn, tmps, L, h0, h1, h2.mono hj, hj _ _ h3⟩
  | defq => exact h
  | over => exact h

theorem SpecR.cells {j : Inj} {x : ASpec} {d : Array Value} {T : TypeId} {f : Nat × Nat} : ¬ SpecR j x (.cells d T f) := by
  cases x with
  | loop e n m ps a b st pd dq => rintro ⟨fn, tmps, L, _, h1, _⟩; cases h1
  | defq => intro h; cases h
  | over => intro h; exact h _ _ _ rfl

/-- what of a block of n cells may be frozen -/
def fzOk (z : Option Nat) (f : Nat × Nat) (n : Nat) : Prop :=
  match z with
  | some k => f.1 ≤ f.2 ∧ f.2 ≤ k
  | none => f = (0, 0) ∨ f = (n, n + 1)

theorem fzOk.free {z : Option Nat} {f : Nat × Nat} {n o : Nat} (h : fzOk z f n) (ho : o < n) (hz : z.getD 0 ≤ o) : (f.1 ≤ o && o < f.2) = false := by
  cases z with
  | some k =>
    obtain ⟨h1, h2⟩ := h
    simp only [Option.getD_some] at hz
    simp; omega
  | none => rcases h with h | h <;> subst h <;> simp <;> omega

def ObjR (j : Inj) (L : Loc) (w : World) : Option AObj → Prop
  | some (.cells c ro) => ∃ d T f, w.heap[L.blk]? = some (.cells d T f) ∧ c.length = L.size ∧ L.off + L.ext ≤ d.size ∧
      LR j c ((d.toList.drop L.off).take L.size) ∧ (ro = false → ∀ o, L.off ≤ o → o < L.off + L.ext → (f.1 ≤ o && o < f.2) = false) ∧ (ro = true → L.extra = 0)
  | some (.tcells c t z) => ∃ d f, w.heap[L.blk]? = some (.cells d t f) ∧ c.length = L.size ∧ L.off + L.ext ≤ d.size ∧
      LR j c ((d.toList.drop L.off).take L.size) ∧ fzOk z f d.size ∧ L.off = 0 ∧ d.size = L.ext
  | some (.map es clock) => ∃ es', w.heap[L.blk]? = some (.map es' clock) ∧ ER j es es'.toList ∧ L.off = 0
  | some (.mapIter m since seen stepped) => L.off = 0 ∧ ∃ m', w.heap[L.blk]? = some (.mapIter m' since seen.toArray stepped) ∧
      ((m = none ∧ m' = none) ∨ ∃ r L', m = some r ∧ j r = some L' ∧ m' = some L'.blk)
  | some (.strIter s pos) => L.off = 0 ∧ w.heap[L.blk]? = some (.stringIter s pos)
  | some (.spec x) => L.off = 0 ∧ ∃ y, w.heap[L.blk]? = some y ∧ SpecR j x y
  | some .dead => True
  | none => False

/-- the concrete places that an abstract block has for its own -/
def owns (L : Loc) : Option AObj → Nat → Nat → Prop
  | some (.cells _ _), B, o => B = L.blk ∧ L.off ≤ o ∧ o < L.off + L.ext
  | some (.tcells _ _ _), B, _ | some (.map _ _), B, _ | some (.mapIter _ _ _ _), B, _ | some (.strIter _ _), B, _ | some (.spec _), B, _ => B = L.blk
  | _, _, _ => False

def isRw : Option AObj → Prop
  | some (.cells _ ro) => ro = false
  | some (.tcells _ _ _) | some (.map _ _) | some (.mapIter _ _ _ _) | some (.strIter _ _) | some (.spec _) => True
  | _ => False

def keptAt (w0 w : World) (B o : Nat) : Prop :=
  match w0.heap[B]? with
  | some (.cells d T f) => ∃ d', w.heap[B]? = some (.cells d' T f) ∧ d'.size = d.size ∧ d'[o]? = d[o]?
  | some x => w.heap[B]? = some x
  | none => True

theorem keptAt_refl (w : World) (B o : Nat) : keptAt w w B o := by
  unfold keptAt; split
  · exact ⟨_, ‹_›, rfl, rfl⟩
  · assumption
  · trivial

/-- the streams are as they were -/
def Io (w w' : World) : Prop := w'.os = w.os ∧ w'.tape = w.tape ∧ w'.output = w.output

theorem Io.refl (w : World) : Io w w := ⟨rfl, rfl, rfl⟩
theorem Io.trans {a b c : World} (h : Io a b) (h' : Io b c) : Io a c := ⟨h'.1.trans h.1, h'.2.1.trans h.2.1, h'.2.2.trans h.2.2⟩

structure Sim (F : Nat → Nat → Prop) (w0 : World) (j : Inj) (h : AHeap) (w : World) : Prop where
  io : Io w0 w
  size : w0.heap.size ≤ w.heap.size
  kept : ∀ B o, F B o → keptAt w0 w B o
  below : ∀ B o, F B o → B < w0.heap.size
  dom : ∀ b L, j b = some L → b < h.length
  obj : ∀ b L, j b = some L → ObjR j L w h[b]?
  own : ∀ b L, j b = some L → isRw h[b]? → ∀ B o, owns L h[b]? B o → ¬ F B o
  apart : ∀ b b' L L', b ≠ b' → j b = some L → j b' = some L' → isRw h[b]? → ∀ B o, owns L h[b]? B o → ¬ owns L' h[b']? B o

variable {F : Nat → Nat → Prop} {w0 w : World} {j : Inj} {h : AHeap}

theorem World.cell?_of {w : World} {B o : Nat} {d : Array Value} {T : TypeId} {f : Nat × Nat} (hb : w.heap[B]? = some (.cells d T f)) :
    w.cell? ⟨B, o, none⟩ = d[o]? := by simp [World.cell?, hb]

/-! ## loads -/

theorem LR.slot {c d : List Value} {off n : Nat} (h : LR j c ((d.drop off).take n)) (i : Nat) (v : Value) (e : c[i]? = some v) :
    ∃ v', d[off + i]? = some v' ∧ VR j v v' := by
  obtain ⟨v', h1, h2⟩ := h.get e
  refine ⟨v', ?_, h2⟩
  rw [List.getElem?_take] at h1
  split at h1
  · simpa [List.getElem?_drop] using h1
  · simp at h1

theorem aCell_sim (S : Sim F w0 j h w) {a : Addr} {L : Loc} (hj : j a.block = some L) {v : Value} (e : aCell h a = some v) :
    ∃ v', w.cell? ⟨L.blk, L.off + a.off, none⟩ = some v' ∧ VR j v v' := by
  unfold aCell at e
  split at e
  · simp at e
  · rename_i hs
    have hs' : a.spot = none := by simpa using hs
    split at e
    · rename_i c ro hc
      have := S.obj _ _ hj
      rw [hc] at this
      obtain ⟨d, T, f, hb, hl, hd, hr, _, _⟩ := this
      obtain ⟨v', h1, h2⟩ := LR.slot hr _ _ e
      refine ⟨v', ?_, h2⟩
      rw [World.cell?_of hb]
      simpa using h1
    · rename_i c t z hc
      have := S.obj _ _ hj
      rw [hc] at this
      obtain ⟨d, f, hb, hl, hd, hr, _⟩ := this
      obtain ⟨v', h1, h2⟩ := LR.slot hr _ _ e
      refine ⟨v', ?_, h2⟩
      rw [World.cell?_of hb]
      simpa using h1
    · simp at e

theorem Addr.add_none (B o n : Nat) : Addr.add ⟨B, o, none⟩ n = ⟨B, o + n, none⟩ := by unfold Addr.add; split <;> simp_all

theorem aCells_sim {P : Program} (S : Sim F w0 j h w) {a : Addr} {L : Loc} (hj : j a.block = some L) {n : Nat} {vs : List Value} (e : aCells h a n = some vs) :
    ∃ vs', (loadCells ⟨L.blk, L.off + a.off, none⟩ n).run P w = .ok vs'.toArray w ∧ LR j vs vs' := by
  unfold aCells at e
  split at e
  · simp at e
  · rename_i hs
    have hs' : a.spot = none := by simpa using hs
    split at e
    · rename_i c ro hc
      split at e
      · rename_i hle
        simp at e
        have := S.obj _ _ hj
        rw [hc] at this
        obtain ⟨d, T, f, hb, hl, hd, hr, _, _⟩ := this
        refine ⟨((d.toList.drop L.off).take L.size).drop a.off |>.take n, ?_, ?_⟩
        · have hlen : (List.take n (List.drop a.off (List.take L.size (List.drop L.off d.toList)))).length = n := by
            unfold Loc.ext at hd
            simp; omega
          have := run_loadCells_list (P := P) w ⟨L.blk, L.off + a.off, none⟩ (List.take n (List.drop a.off (List.take L.size (List.drop L.off d.toList)))) (fun i v hv => by
            rw [Addr.add_none, World.cell?_of hb]
            simp only [List.getElem?_take, List.getElem?_drop] at hv
            split at hv
            · split at hv
              · simpa [Nat.add_assoc] using hv
              · simp at hv
            · simp at hv)
          rw [hlen] at this
          rw [this]
        · rw [← e]; exact (hr.drop _).take _
      · simp at e
    · rename_i c t z hc
      split at e
      · rename_i hle
        simp at e
        have := S.obj _ _ hj
        rw [hc] at this
        obtain ⟨d, f, hb, hl, hd, hr, _⟩ := this
        refine ⟨((d.toList.drop L.off).take L.size).drop a.off |>.take n, ?_, ?_⟩
        · have hlen : (List.take n (List.drop a.off (List.take L.size (List.drop L.off d.toList)))).length = n := by
            unfold Loc.ext at hd
            simp; omega
          have := run_loadCells_list (P := P) w ⟨L.blk, L.off + a.off, none⟩ (List.take n (List.drop a.off (List.take L.size (List.drop L.off d.toList)))) (fun i v hv => by
            rw [Addr.add_none, World.cell?_of hb]
            simp only [List.getElem?_take, List.getElem?_drop] at hv
            split at hv
            · split at hv
              · simpa [Nat.add_assoc] using hv
              · simp at hv
            · simp at hv)
          rw [hlen] at this
          rw [this]
        · rw [← e]; exact (hr.drop _).take _
      · simp at e
    · simp at e

/-! ## the heap of 'setCells' -/

theorem heap_setCell (w : World) (B o : Nat) (v : Value) :
    (w.setCell ⟨B, o, none⟩ v).heap = w.heap.modify B fun | .cells c elem fz => .cells (c.setIfInBounds o v) elem fz | x => x := by
  unfold World.setCell
  simp only [Option.isSome_none, Bool.false_eq_true, if_false]
  congr 1

theorem heap_setCells_size (B : Nat) : ∀ (vs : List Value) (o : Nat) (w : World), (w.setCells B o vs).heap.size = w.heap.size
  | [], _, _ => rfl
  | v :: r, o, w => by rw [World.setCells, heap_setCells_size B r, heap_setCell]; simp

theorem io_setCells (B : Nat) : ∀ (vs : List Value) (o : Nat) (w : World), Io w (w.setCells B o vs)
  | [], _, w => Io.refl w
  | v :: r, o, w => Io.trans (b := w.setCell ⟨B, o, none⟩ v) ⟨rfl, rfl, rfl⟩ (io_setCells B r _ _)

theorem heap_setCells_other (B : Nat) : ∀ (vs : List Value) (o : Nat) (w : World) (B' : Nat), B' ≠ B → (w.setCells B o vs).heap[B']? = w.heap[B']?
  | [], _, _, _, _ => rfl
  | v :: r, o, w, B', hne => by
    rw [World.setCells, heap_setCells_other B r _ _ _ hne, heap_setCell, Array.getElem?_modify]
    simp [Ne.symm hne]

theorem heap_setCells_same (B : Nat) (T : TypeId) (f : Nat × Nat) : ∀ (vs : List Value) (o : Nat) (w : World) (d : Array Value), w.heap[B]? = some (.cells d T f) →
    ∃ d' : Array Value, (w.setCells B o vs).heap[B]? = some (.cells d' T f) ∧ d'.size = d.size ∧
      ∀ i, d'[i]? = if o ≤ i ∧ i < o + vs.length ∧ i < d.size then vs[i - o]? else d[i]?
  | [], o, w, d, hb => ⟨d, hb, rfl, fun i => by simp; omega⟩
  | v :: r, o, w, d, hb => by
    have h1 : (w.setCell ⟨B, o, none⟩ v).heap[B]? = some (.cells (d.setIfInBounds o v) T f) := by
      rw [heap_setCell, Array.getElem?_modify]; simp [hb]
    obtain ⟨d', h2, h3, h4⟩ := heap_setCells_same B T f r (o + 1) _ _ h1
    refine ⟨d', h2, by simpa using h3, fun i => ?_⟩
    rw [h4 i]
    simp only [List.length_cons, Array.size_setIfInBounds]
    by_cases hio : i = o
    · subst hio
      rw [if_neg (by omega)]
      by_cases hs : i < d.size
      · simp [hs]
      · simp [hs]
    · by_cases hc : o ≤ i ∧ i < o + (r.length + 1) ∧ i < d.size
      · rw [if_pos hc, if_pos (by omega)]
        rw [show i - o = (i - (o + 1)) + 1 by omega]; simp
      · rw [if_neg hc, if_neg (by omega), Array.getElem?_setIfInBounds]
        simp [Ne.symm hio]

theorem isCell_oneCell {v : Value} (h : Value.isCell v = true) : v.oneCell' = true := by cases v <;> simp_all [Value.isCell, Value.oneCell']

theorem splice_length {c vs : List Value} {off : Nat} (h : off + vs.length ≤ c.length) : (splice c off vs).length = c.length := by
  unfold splice; simp; omega

theorem splice_get {c vs : List Value} {off : Nat} (h : off + vs.length ≤ c.length) (i : Nat) :
    (splice c off vs)[i]? = if off ≤ i ∧ i < off + vs.length then vs[i - off]? else c[i]? := by
  unfold splice
  rw [List.append_assoc]
  by_cases h1 : i < off
  · rw [List.getElem?_append_left (by simp; omega), if_neg (by omega), List.getElem?_take, if_pos h1]
  · rw [List.getElem?_append_right (by simp; omega)]
    simp only [List.length_take, Nat.min_eq_left (show off ≤ c.length by omega)]
    by_cases h2 : i < off + vs.length
    · rw [List.getElem?_append_left (by omega), if_pos (by omega)]
    · rw [List.getElem?_append_right (by omega), if_neg (by omega), List.getElem?_drop]
      congr 1; omega

/-! ## one block's cells turn -/

/-- objects of cells that may be written -/
def CellsLike (mk : List Value → AObj) : Prop := (mk = fun c => .cells c false) ∨ ∃ t z, mk = fun c => .tcells c t z

theorem CellsLike.rw {mk : List Value → AObj} (hm : CellsLike mk) (c : List Value) : isRw (some (mk c)) := by
  rcases hm with rfl | ⟨t, z, rfl⟩
  · rfl
  · trivial

theorem CellsLike.owns {mk : List Value → AObj} (hm : CellsLike mk) (c : List Value) (L : Loc) (x : Nat) (h : L.off ≤ x ∧ x < L.off + L.ext) : Fm.owns L (some (mk c)) L.blk x := by
  rcases hm with rfl | ⟨t, z, rfl⟩
  · exact ⟨rfl, h⟩
  · rfl

theorem CellsLike.owns_iff {mk : List Value → AObj} (hm : CellsLike mk) (c c' : List Value) (L : Loc) (B x : Nat) : Fm.owns L (some (mk c)) B x ↔ Fm.owns L (some (mk c')) B x := by
  rcases hm with rfl | ⟨t, z, rfl⟩ <;> exact Iff.rfl

theorem CellsLike.obj {mk : List Value → AObj} (hm : CellsLike mk) {c : List Value} {j : Inj} {L : Loc} {w : World} (h : ObjR j L w (some (mk c))) :
    ∃ d T f, w.heap[L.blk]? = some (.cells d T f) ∧ c.length = L.size ∧ L.off + L.ext ≤ d.size ∧ LR j c ((d.toList.drop L.off).take L.size) ∧
      ∀ (c' : List Value) (w' : World) (d' : Array Value), w'.heap[L.blk]? = some (.cells d' T f) → d'.size = d.size → c'.length = L.size → LR j c' ((d'.toList.drop L.off).take L.size) → ObjR j L w' (some (mk c')) := by
  rcases hm with rfl | ⟨t, z, rfl⟩
  · obtain ⟨d, T, f, h1, h2, h3, h4, h5, h6⟩ := h
    exact ⟨d, T, f, h1, h2, h3, h4, fun c' w' d' k1 k2 k3 k4 => ⟨d', T, f, k1, k3, by omega, k4, h5, h6⟩⟩
  · obtain ⟨d, f, h1, h2, h3, h4, h5, h6, h7⟩ := h
    exact ⟨d, t, f, h1, h2, h3, h4, fun c' w' d' k1 k2 k3 k4 => ⟨d', f, k1, k3, by omega, k4, by rw [k2]; exact h5, h6, by omega⟩⟩

/-- the general step: block b's cells turn within what it owns -/
theorem Sim.turnG (S : Sim F w0 j h w) {b : Nat} {L : Loc} (hj : j b = some L) {mk : List Value → AObj} (hm : CellsLike mk) {c c' : List Value} (hc : h[b]? = some (mk c))
    {w' : World} {d d' : Array Value} {T : TypeId} {f : Nat × Nat} (hb : w.heap[L.blk]? = some (.cells d T f)) (hb' : w'.heap[L.blk]? = some (.cells d' T f))
    (hio : Io w w') (hsz : d'.size = d.size) (hws : w'.heap.size = w.heap.size) (hoth : ∀ B, B ≠ L.blk → w'.heap[B]? = w.heap[B]?) (hlen : c'.length = c.length)
    (hin : ∀ i v, c'[i]? = some v → ∃ v', d'[L.off + i]? = some v' ∧ VR j v v')
    (hout : ∀ o, ¬ (L.off ≤ o ∧ o < L.off + L.ext) → d'[o]? = d[o]?) :
    Sim F w0 j (h.set b (mk c')) w' := by
  have hblt : b < h.length := S.dom _ _ hj
  have hget : ∀ b' : Nat, (h.set b (mk c'))[b']? = if b' = b then some (mk c') else h[b']? := by
    intro b'
    rw [List.getElem?_set]
    by_cases e : b = b'
    · subst e; simp [hblt]
    · simp [e, Ne.symm e]
  have hrw : ∀ b' : Nat, isRw (h.set b (mk c'))[b']? ↔ isRw h[b']? := by
    intro b'; rw [hget]; split
    · rename_i e; subst e; rw [hc]; exact ⟨fun _ => hm.rw c, fun _ => hm.rw c'⟩
    · rfl
  have hown : ∀ (b' : Nat) (L' : Loc) (B o : Nat), owns L' (h.set b (mk c'))[b']? B o ↔ owns L' h[b']? B o := by
    intro b' L' B o; rw [hget]; split
    · rename_i e; subst e; rw [hc]; exact hm.owns_iff _ _ _ _ _
    · rfl
  have hobj := S.obj _ _ hj
  rw [hc] at hobj
  obtain ⟨d1, T1, f1, e1, hl, hd, hr, hmk⟩ := hm.obj hobj
  rw [hb] at e1; injection e1 with e1; injection e1 with ed eT ef; subst ed eT ef
  refine ⟨S.io.trans hio, by rw [hws]; exact S.size, ?_, S.below, ?_, ?_, ?_, ?_⟩
  · intro B o hF
    have hk := S.kept B o hF
    by_cases e : B = L.blk
    · subst e
      have hno : ¬ (L.off ≤ o ∧ o < L.off + L.ext) := fun ho => S.own b L hj (by rw [hc]; exact hm.rw c) L.blk o (by rw [hc]; exact hm.owns _ _ _ ho) hF
      unfold keptAt at hk ⊢
      split at hk
      · rename_i d0 T0 f0 h0
        obtain ⟨dx, k1, k2, k3⟩ := hk
        rw [hb] at k1; injection k1 with k1; injection k1 with k1 k1' k1''; subst k1 k1' k1''
        exact ⟨d', hb', hsz.trans k2, (hout o hno).trans k3⟩
      · rename_i x hx hx'; rw [hb] at hk; injection hk with hk; subst hk; exact (hx _ _ _ rfl).elim
      · trivial
    · unfold keptAt at hk ⊢
      rw [hoth B e]; exact hk
  · intro b' L' h'; simp; exact S.dom _ _ h'
  · intro b' L' h'
    rw [hget]
    split
    · rename_i e; subst e
      rw [hj] at h'; injection h' with h'; subst h'
      refine hmk c' w' d' hb' hsz (by omega) ?_
      refine LR.of_get (by unfold Loc.ext at hd; simp; omega) ?_
      intro i v v' ev ev'
      obtain ⟨v'', k1, k2⟩ := hin i v ev
      rw [List.getElem?_take] at ev'
      split at ev'
      · simp at ev'; rw [k1] at ev'; injection ev' with ev'; subst ev'; exact k2
      · simp at ev'
    · rename_i hne
      have ho := S.obj _ _ h'
      by_cases e : L'.blk = L.blk
      · -- the same concrete block: what it holds there is not touched
        have hap := S.apart b b' L L' (Ne.symm hne) hj h' (by rw [hc]; exact hm.rw c)
        revert ho hap
        generalize h[b']? = ob
        intro ho hap
        match ob, ho, hap with
        | some (.cells c2 ro2), ⟨d2, T2, f2, k1, k2, k3, k4, k5, k6⟩, hap =>
          rw [e, hb] at k1; injection k1 with k1; injection k1 with k1 k1' k1''; subst k1 k1' k1''
          refine ⟨d', T, f, by rw [e]; exact hb', k2, by omega, ?_, k5, k6⟩
          have hsame : (d'.toList.drop L'.off).take L'.size = (d.toList.drop L'.off).take L'.size := by
            apply List.ext_getElem?
            intro i
            simp only [List.getElem?_take, List.getElem?_drop]
            split
            · rename_i hi
              have := hout (L'.off + i) (fun hin' => hap L.blk (L'.off + i) (by rw [hc]; exact hm.owns _ _ _ hin') ⟨e.symm, by omega, by unfold Loc.ext; omega⟩)
              simpa using this
            · rfl
          rw [hsame]; exact k4
        | some (.tcells c2 t2 z2), ⟨d2, f2, k1, k2, k3, k4, k5, k6, k7⟩, hap =>
          rw [e, hb] at k1; injection k1 with k1; injection k1 with k1 k1' k1''; subst k1 k1' k1''
          refine ⟨d', f, by rw [e]; exact hb', k2, by omega, ?_, by rw [hsz]; exact k5, k6, by omega⟩
          have hsame : (d'.toList.drop L'.off).take L'.size = (d.toList.drop L'.off).take L'.size := by
            apply List.ext_getElem?
            intro i
            simp only [List.getElem?_take, List.getElem?_drop]
            split
            · rename_i hi
              have := hout (L'.off + i) (fun hin' => hap L.blk (L'.off + i) (by rw [hc]; exact hm.owns _ _ _ hin') e.symm)
              simpa using this
            · rfl
          rw [hsame]; exact k4
        | some (.map es clock), ⟨es', k1, _⟩, _ => rw [e, hb] at k1; simp at k1
        | some (.mapIter _ _ _ _), ⟨_, m', k1, _⟩, _ => rw [e, hb] at k1; simp at k1
        | some (.strIter _ _), ⟨_, k1⟩, _ => rw [e, hb] at k1; simp at k1
        | some (.spec _), ⟨_, y, k1, k2⟩, _ => rw [e, hb] at k1; injection k1 with k1; subst k1; exact (SpecR.cells k2).elim
        | some .dead, _, _ => trivial
        | none, ho, _ => exact ho.elim
      · revert ho
        generalize h[b']? = ob
        intro ho
        match ob, ho with
        | some (.cells c2 ro2), ⟨d2, T2, f2, k1, k⟩ => exact ⟨d2, T2, f2, by rw [hoth _ e]; exact k1, k⟩
        | some (.tcells c2 t2 z2), ⟨d2, f2, k1, k⟩ => exact ⟨d2, f2, by rw [hoth _ e]; exact k1, k⟩
        | some (.map es clock), ⟨es', k1, k⟩ => exact ⟨es', by rw [hoth _ e]; exact k1, k⟩
        | some (.mapIter _ _ _ _), ⟨k0, m', k1, k⟩ => exact ⟨k0, m', by rw [hoth _ e]; exact k1, k⟩
        | some (.strIter _ _), ⟨k0, k1⟩ => exact ⟨k0, by rw [hoth _ e]; exact k1⟩
        | some (.spec _), ⟨k0, y, k1, k2⟩ => exact ⟨k0, y, by rw [hoth _ e]; exact k1, k2⟩
        | some .dead, _ => trivial
        | none, ho => exact ho.elim
  · intro b' L' h' hr' B o ho
    exact S.own b' L' h' ((hrw b').1 hr') B o ((hown _ _ _ _).1 ho)
  · intro b1 b2 L1 L2 hne h1 h2 hr' B o ho ho'
    exact S.apart b1 b2 L1 L2 hne h1 h2 ((hrw b1).1 hr') B o ((hown _ _ _ _).1 ho) ((hown _ _ _ _).1 ho')

theorem Sim.turn (S : Sim F w0 j h w) {b : Nat} {L : Loc} (hj : j b = some L) {c c' : List Value} (hc : h[b]? = some (.cells c false))
    {w' : World} {d d' : Array Value} {T : TypeId} {f : Nat × Nat} (hb : w.heap[L.blk]? = some (.cells d T f)) (hb' : w'.heap[L.blk]? = some (.cells d' T f))
    (hio : Io w w') (hsz : d'.size = d.size) (hws : w'.heap.size = w.heap.size) (hoth : ∀ B, B ≠ L.blk → w'.heap[B]? = w.heap[B]?) (hlen : c'.length = c.length)
    (hin : ∀ i v, c'[i]? = some v → ∃ v', d'[L.off + i]? = some v' ∧ VR j v v')
    (hout : ∀ o, ¬ (L.off ≤ o ∧ o < L.off + L.ext) → d'[o]? = d[o]?) :
    Sim F w0 j (h.set b (.cells c' false)) w' := S.turnG hj (mk := fun c => .cells c false) (.inl rfl) hc hb hb' hio hsz hws hoth hlen hin hout

theorem aStore_sim {P : Program} (S : Sim F w0 j h w) {a : Addr} {L : Loc} (hj : j a.block = some L) {vs vs' : List Value} (hvs : LR j vs vs') {h' : AHeap}
    (e : aStore h a vs = some h') : ∃ w', (storeCells ⟨L.blk, L.off + a.off, none⟩ vs').run P w = .ok () w' ∧ Sim F w0 j h' w' := by
  unfold aStore at e
  split at e
  · simp at e
  · rename_i hs
    have hs' : a.spot = none := by simpa using hs
    split at e
    · rename_i c hc
      split at e
      · rename_i hle
        obtain ⟨hle, hcell⟩ := hle
        simp at e; subst e
        have hobj := S.obj _ _ hj
        rw [hc] at hobj
        obtain ⟨d, T, f, hb, hl, hd, hr, hfz, _⟩ := hobj
        have hlv := hvs.length
        unfold Loc.ext at hd hfz
        have hrun := run_storeCells_cells (P := P) L.blk (L.off + a.off) vs' 0 w
          (fun i hi => by rw [World.cell?_of hb]; simp; omega)
          (fun i hi => by
            have := hfz rfl (L.off + a.off + 0 + i) (by omega) (by omega)
            simp only [World.frozen?, hb]; exact this)
          (fun v hv => by
            obtain ⟨i, hi⟩ := List.getElem?_of_mem hv
            have hlt : i < vs.length := by rw [hlv]; exact (List.getElem?_eq_some_iff.1 hi).1
            have hrel := hvs.rel i _ _ (List.getElem?_eq_getElem hlt) hi
            refine isCell_oneCell ?_
            rw [hrel.isCell]
            exact (List.all_eq_true.1 hcell) _ (List.getElem_mem hlt))
        refine ⟨_, hrun, ?_⟩
        obtain ⟨d', g1, g2, g3⟩ := heap_setCells_same L.blk T f vs' (L.off + a.off + 0) w d hb
        refine S.turnG hj (mk := fun c => .cells c false) (.inl rfl) hc hb g1 (io_setCells _ _ _ _) g2 (heap_setCells_size _ _ _ _) (fun B hB => heap_setCells_other _ _ _ _ _ hB) (splice_length hle) ?_ ?_
        · intro i v hv
          rw [splice_get hle] at hv
          split at hv
          · rename_i hi
            obtain ⟨v', k1, k2⟩ := hvs.get hv
            refine ⟨v', ?_, k2⟩
            rw [g3, if_pos (by omega), ← k1]
            congr 1; omega
          · rename_i hi
            have hilt : i < c.length := (List.getElem?_eq_some_iff.1 hv).1
            obtain ⟨v', k1, k2⟩ := LR.slot hr i v hv
            refine ⟨v', ?_, k2⟩
            rw [g3, if_neg (by omega)]
            simpa using k1
        · intro o ho
          unfold Loc.ext at ho
          rw [g3, if_neg (by omega)]
      · simp at e
    · rename_i c t z hc
      split at e
      · rename_i hle
        obtain ⟨hle, hcell, hz⟩ := hle
        simp at e; subst e
        have hobj := S.obj _ _ hj
        rw [hc] at hobj
        obtain ⟨d, f, hb, hl, hd, hr, hfz, h0, _⟩ := hobj
        have hlv := hvs.length
        unfold Loc.ext at hd
        have hrun := run_storeCells_cells (P := P) L.blk (L.off + a.off) vs' 0 w
          (fun i hi => by rw [World.cell?_of hb]; simp; omega)
          (fun i hi => by
            have := hfz.free (o := L.off + a.off + 0 + i) (by omega) (by omega)
            simp only [World.frozen?, hb]; exact this)
          (fun v hv => by
            obtain ⟨i, hi⟩ := List.getElem?_of_mem hv
            have hlt : i < vs.length := by rw [hlv]; exact (List.getElem?_eq_some_iff.1 hi).1
            have hrel := hvs.rel i _ _ (List.getElem?_eq_getElem hlt) hi
            refine isCell_oneCell ?_
            rw [hrel.isCell]
            exact (List.all_eq_true.1 hcell) _ (List.getElem_mem hlt))
        refine ⟨_, hrun, ?_⟩
        obtain ⟨d', g1, g2, g3⟩ := heap_setCells_same L.blk t f vs' (L.off + a.off + 0) w d hb
        refine S.turnG hj (mk := fun c => .tcells c t z) (.inr ⟨t, z, rfl⟩) hc hb g1 (io_setCells _ _ _ _) g2 (heap_setCells_size _ _ _ _) (fun B hB => heap_setCells_other _ _ _ _ _ hB) (splice_length hle) ?_ ?_
        · intro i v hv
          rw [splice_get hle] at hv
          split at hv
          · rename_i hi
            obtain ⟨v', k1, k2⟩ := hvs.get hv
            refine ⟨v', ?_, k2⟩
            rw [g3, if_pos (by omega), ← k1]
            congr 1; omega
          · rename_i hi
            have hilt : i < c.length := (List.getElem?_eq_some_iff.1 hv).1
            obtain ⟨v', k1, k2⟩ := LR.slot hr i v hv
            refine ⟨v', ?_, k2⟩
            rw [g3, if_neg (by omega)]
            simpa using k1
        · intro o ho
          unfold Loc.ext at ho
          rw [g3, if_neg (by omega)]
      · simp at e
    · simp at e

/-! ## a new block -/

def Inj.put (j : Inj) (b : Nat) (L : Loc) : Inj := fun x => if x = b then some L else j x

theorem Inj.put_le {j : Inj} {b : Nat} {L : Loc} (hn : j b = none) : j.le (j.put b L) := by
  intro x M hx; unfold Inj.put; split
  · rename_i e; subst e; rw [hn] at hx; simp at hx
  · exact hx

theorem Inj.put_same (j : Inj) (b : Nat) (L : Loc) : j.put b L b = some L := by simp [Inj.put]

theorem Sim.fresh (S : Sim F w0 j h w) : j h.length = none := by
  cases e : j h.length with
  | none => rfl
  | some L => have := S.dom _ _ e; omega

theorem ObjR.world {j : Inj} {L : Loc} {w w' : World} (hw : w'.heap[L.blk]? = w.heap[L.blk]?) {o : Option AObj} (h : ObjR j L w o) : ObjR j L w' o := by
  match o, h with
  | some (.cells c2 ro2), ⟨d2, T2, f2, k1, k⟩ => exact ⟨d2, T2, f2, by rw [hw]; exact k1, k⟩
  | some (.tcells c2 t2 z2), ⟨d2, f2, k1, k⟩ => exact ⟨d2, f2, by rw [hw]; exact k1, k⟩
  | some (.map es clock), ⟨es', k1, k⟩ => exact ⟨es', by rw [hw]; exact k1, k⟩
  | some (.mapIter _ _ _ _), ⟨k0, m', k1, k⟩ => exact ⟨k0, m', by rw [hw]; exact k1, k⟩
  | some (.strIter _ _), ⟨k0, k1⟩ => exact ⟨k0, by rw [hw]; exact k1⟩
  | some (.spec _), ⟨k0, y, k1, k2⟩ => exact ⟨k0, y, by rw [hw]; exact k1, k2⟩
  | some .dead, _ => trivial
  | none, ho => exact ho.elim

theorem ObjR.mono {j j' : Inj} (hj : j.le j') {L : Loc} {w : World} {o : Option AObj} (h : ObjR j L w o) : ObjR j' L w o := by
  match o, h with
  | some (.cells c2 ro2), ⟨d2, T2, f2, k1, k2, k3, k4, k5⟩ => exact ⟨d2, T2, f2, k1, k2, k3, k4.mono hj, k5⟩
  | some (.tcells c2 t2 z2), ⟨d2, f2, k1, k2, k3, k4, k5⟩ => exact ⟨d2, f2, k1, k2, k3, k4.mono hj, k5⟩
  | some (.map es clock), ⟨es', k1, k2, k3⟩ => exact ⟨es', k1, k2.mono hj, k3⟩
  | some (.mapIter _ _ _ _), ⟨k0, m', k1, k⟩ =>
    refine ⟨k0, m', k1, ?_⟩
    rcases k with k | ⟨r, L', k, k', k''⟩
    · exact .inl k
    · exact .inr ⟨r, L', k, hj _ _ k', k''⟩
  | some (.strIter _ _), k => exact k
  | some (.spec _), ⟨k0, y, k1, k2⟩ => exact ⟨k0, y, k1, k2.mono hj⟩
  | some .dead, _ => trivial
  | none, ho => exact ho.elim

theorem ObjR.lt {j : Inj} {L : Loc} {w : World} {o : Option AObj} (h : ObjR j L w o) (B x : Nat) (ho : owns L o B x) : B < w.heap.size := by
  have key : ∀ {y : Obj}, w.heap[L.blk]? = some y → L.blk < w.heap.size := fun h => (Array.getElem?_eq_some_iff.1 h).1
  match o, h, ho with
  | some (.cells c2 ro2), ⟨d2, T2, f2, k1, k⟩, ⟨e, _⟩ => subst e; exact key k1
  | some (.tcells c2 t2 z2), ⟨d2, f2, k1, k⟩, e => cases e; exact key k1
  | some (.map es clock), ⟨es', k1, k⟩, e => cases e; exact key k1
  | some (.mapIter _ _ _ _), ⟨k0, m', k1, k⟩, e => cases e; exact key k1
  | some (.strIter _ _), ⟨k0, k1⟩, e => cases e; exact key k1
  | some (.spec _), ⟨k0, y, k1, _⟩, e => cases e; exact key k1

/-- a new concrete block stands for a new abstract one -/
theorem Sim.new (S : Sim F w0 j h w) {L : Loc} (hL : L.blk = w.heap.size) (o : AObj) {w' : World} {x : Obj} (hio : Io w w') (hw : w'.heap = w.heap.push x)
    (ho : ObjR (j.put h.length L) L w' (some o)) : Sim F w0 (j.put h.length L) (h ++ [o]) w' := by
  have hle : j.le (j.put h.length L) := Inj.put_le S.fresh
  have hget : ∀ B, B < w.heap.size → w'.heap[B]? = w.heap[B]? := by
    intro B hB; rw [hw, Array.getElem?_push]; simp; omega
  have hold : ∀ b, b < h.length → (h ++ [o])[b]? = h[b]? := fun b hb => List.getElem?_append_left hb
  have hnew : (h ++ [o])[h.length]? = some o := by simp
  have hput : ∀ b M, j.put h.length L b = some M → (b = h.length ∧ M = L) ∨ (b < h.length ∧ j b = some M) := by
    intro b M e; unfold Inj.put at e; split at e
    · injection e with e; exact .inl ⟨‹_›, e.symm⟩
    · exact .inr ⟨S.dom _ _ e, e⟩
  have hnewown : ∀ B x, owns L (some o) B x → B = w.heap.size := by
    intro B x h'; unfold owns at h'; split at h'
    · exact h'.1.trans hL
    · rw [h', hL]
    · rw [h', hL]
    · rw [h', hL]
    · rw [h', hL]
    · rw [h', hL]
    · exact h'.elim
  refine ⟨S.io.trans hio, by rw [hw]; have := S.size; simp; omega, ?_, S.below, ?_, ?_, ?_, ?_⟩
  · intro B x hF
    have hB := S.below B x hF
    have hs := S.size
    have := S.kept B x hF
    unfold keptAt at this ⊢
    rw [hget B (by omega)]; exact this
  · intro b M e
    rcases hput b M e with ⟨rfl, _⟩ | ⟨hb, _⟩ <;> simp <;> omega
  · intro b M e
    rcases hput b M e with ⟨rfl, rfl⟩ | ⟨hb, hj⟩
    · rw [hnew]; exact ho
    · rw [hold b hb]
      have hob := S.obj _ _ hj
      by_cases hd : ∃ B x, owns M h[b]? B x
      · obtain ⟨B, x, hx⟩ := hd
        refine (hob.mono hle).world (hget _ ?_)
        have := hob.lt B x hx
        revert hx; generalize h[b]? = ob; intro hx
        unfold owns at hx; split at hx
        · rw [← hx.1]; exact this
        · rw [← hx]; exact this
        · rw [← hx]; exact this
        · rw [← hx]; exact this
        · rw [← hx]; exact this
        · rw [← hx]; exact this
        · exact hx.elim
      · revert hob hd; generalize h[b]? = ob; intro hob hd
        have key : ∀ {y : Obj}, w.heap[M.blk]? = some y → w'.heap[M.blk]? = w.heap[M.blk]? := fun h => hget _ (Array.getElem?_eq_some_iff.1 h).1
        match ob, hob, hd with
        | some (.cells c2 ro2), ⟨d2, T2, f2, k1, k⟩, _ => exact ObjR.mono hle (ObjR.world (o := some (.cells c2 ro2)) (key k1) ⟨d2, T2, f2, k1, k⟩)
        | some (.tcells c2 t2 z2), ⟨d2, f2, k1, k⟩, _ => exact ObjR.mono hle (ObjR.world (o := some (.tcells c2 t2 z2)) (key k1) ⟨d2, f2, k1, k⟩)
        | some (.map es clock), ⟨es', k1, k⟩, _ => exact ObjR.mono hle (ObjR.world (o := some (.map es clock)) (key k1) ⟨es', k1, k⟩)
        | some (.mapIter _ _ _ _), ⟨k0, m', k1, k⟩, _ => exact ObjR.mono hle (ObjR.world (o := some (.mapIter _ _ _ _)) (key k1) ⟨k0, m', k1, k⟩)
        | some (.strIter _ _), ⟨k0, k1⟩, _ => exact ObjR.mono hle (ObjR.world (o := some (.strIter _ _)) (key k1) ⟨k0, k1⟩)
        | some (.spec x), ⟨k0, y, k1, k2⟩, _ => exact ObjR.mono hle (ObjR.world (o := some (.spec x)) (key k1) ⟨k0, y, k1, k2⟩)
        | some .dead, _, _ => trivial
        | none, hob, _ => exact hob.elim
  · intro b M e hr B x hx hF
    have hB := S.below B x hF
    have hs := S.size
    rcases hput b M e with ⟨rfl, rfl⟩ | ⟨hb, hj⟩
    · rw [hnew] at hx
      have := hnewown B x hx; omega
    · rw [hold b hb] at hr hx; exact S.own b M hj hr B x hx hF
  · intro b1 b2 L1 L2 hne e1 e2 hr B x h1 h2
    rcases hput b1 L1 e1 with ⟨rfl, rfl⟩ | ⟨hb1, hj1⟩
    · rcases hput b2 L2 e2 with ⟨rfl, rfl⟩ | ⟨hb2, hj2⟩
      · exact hne rfl
      · rw [hnew] at h1; rw [hold b2 hb2] at h2
        have := hnewown B x h1
        have := (S.obj _ _ hj2).lt B x h2
        omega
    · rcases hput b2 L2 e2 with ⟨rfl, rfl⟩ | ⟨hb2, hj2⟩
      · rw [hnew] at h2; rw [hold b1 hb1] at h1
        have := hnewown B x h2
        have := (S.obj _ _ hj1).lt B x h1
        omega
      · rw [hold b1 hb1] at h1 hr; rw [hold b2 hb2] at h2
        exact S.apart b1 b2 L1 L2 hne hj1 hj2 hr B x h1 h2

end Go.Fm
