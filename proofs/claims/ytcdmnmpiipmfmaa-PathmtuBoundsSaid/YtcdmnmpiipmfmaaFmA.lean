/-
  FmBase: the abstract heap, the relation between abstract and concrete values, and what a concrete world must hold to stand for an abstract heap.
  FmSim: when a concrete world stands for an abstract heap; loads, stores and new blocks keep it so.
  FmPure: what an operation without memory comes to, on abstract values; on related concrete values it comes to the related one.
  FmPure2: the rest of what asks nothing of memory, and all of it under one name, 'aPure'.
  FmOps: an operation's meaning on abstract values and an abstract heap, and that the machine's own operation follows it.
  FmSim2: more steps that keep a concrete world standing for an abstract heap: a block dies, a region is claimed, an object turns, only the tape's count turns.
  FmMem: operations that read memory, and operations that make memory.
  FmAlloc: operations that make a new block.
-/
import Derived.WalkKit
import Derived.WideLaws
import Derived.Laws.IdiomCopy
import Derived.Laws.BytesString

namespace Go.Fm

/-! ## The abstract heap -/

abbrev AEnv := List (Nat × Value)

def AEnv.get : AEnv → Nat → Option Value
  | [], _ => none
  | (a, v) :: r, t => cond (Nat.beq a t) (some v) (AEnv.get r t)

/-- what a loop over a function keeps: its rounds' start; the block of its deferred calls -/
inductive ASpec where
  | loop (e : AEnv) (n m : Nat) (ps : List Nat) (assign body : Code) (state : LoopState) (pending : Option Code) (dq : Nat)
  | defq
  | over

inductive AObj where
  | cells (c : List Value) (ro : Bool)
  /- a whole block of a variable of type t; z: only what lies below may be frozen (none: what Go's '[]byte(..)' marks) -/
  | tcells (c : List Value) (t : TypeId) (z : Option Nat)
  | map (es : List MapEntry) (clock : Nat)
  | mapIter (m : Option Nat) (since : Nat) (seen : List Nat) (stepped : Nat)
  | strIter (s : ByteArray) (pos : Nat)
  | spec (x : ASpec)
  | dead

abbrev AHeap := List AObj

def aCells (h : AHeap) (a : Addr) (n : Nat) : Option (List Value) :=
  if a.spot.isSome then none else
  match h[a.block]? with
  | some (.cells c _) | some (.tcells c _ _) => if a.off + n ≤ c.length then some ((c.drop a.off).take n) else none
  | _ => none

def aCell (h : AHeap) (a : Addr) : Option Value :=
  if a.spot.isSome then none else
  match h[a.block]? with
  | some (.cells c _) | some (.tcells c _ _) => c[a.off]?
  | _ => none

def Value.isCell : Value → Bool
  | .agg _ | .tuple _ => false
  | _ => true

def splice (c : List Value) (off : Nat) (vs : List Value) : List Value := c.take off ++ vs ++ c.drop (off + vs.length)

def aStore (h : AHeap) (a : Addr) (vs : List Value) : Option AHeap :=
  if a.spot.isSome then none else
  match h[a.block]? with
  | some (.cells c false) =>
    if a.off + vs.length ≤ c.length ∧ vs.all Value.isCell = true then some (h.set a.block (.cells (splice c a.off vs) false)) else none
  | some (.tcells c t z) =>
    if a.off + vs.length ≤ c.length ∧ vs.all Value.isCell = true ∧ z.getD 0 ≤ a.off then some (h.set a.block (.tcells (splice c a.off vs) t z)) else none
  | _ => none

/-! ## Where abstract blocks lie -/

structure Loc where
  blk : Nat
  off : Nat
  size : Nat
  esz : Nat
  extra : Nat

abbrev Inj := Nat → Option Loc

def Inj.le (j j' : Inj) : Prop := ∀ b L, j b = some L → j' b = some L

theorem Inj.le_refl (j : Inj) : j.le j := fun _ _ h => h
theorem Inj.le_trans {j j' j'' : Inj} (h : j.le j') (h' : j'.le j'') : j.le j'' := fun b L e => h' b L (h b L e)

inductive VR (j : Inj) : Value → Value → Prop
  | bool (b : Bool) : VR j (.bool b) (.bool b)
  | int (k : IntKind) (n : Int) : VR j (.int k n) (.int k n)
  | float (k : FloatKind) (n : Nat) : VR j (.float k n) (.float k n)
  | complex (k : FloatKind) (x y : Nat) : VR j (.complex k x y) (.complex k x y)
  | string (s : ByteArray) : VR j (.string s) (.string s)
  | pnil : VR j (.pointer none) (.pointer none)
  | ptr {b o : Nat} {L : Loc} : j b = some L → VR j (.pointer (some ⟨b, o, none⟩)) (.pointer (some ⟨L.blk, L.off + o, none⟩))
  | snil (l c : Nat) : VR j (.slice none l c) (.slice none l c)
  /- a slice whose capacity is known -/
  | slice {b o : Nat} {L : Loc} (l c : Nat) : j b = some L → VR j (.slice (some ⟨b, o, none⟩) l c) (.slice (some ⟨L.blk, L.off + o, none⟩) l c)
  /- a slice of elements of e cells that reaches to the block's end: its capacity may be greater than what is known -/
  | oslice {b o e : Nat} {L : Loc} (l c : Nat) : j b = some L → e = L.esz → o + c * e = L.size → VR j (.slice (some ⟨b, o, some e⟩) l c) (.slice (some ⟨L.blk, L.off + o, none⟩) l (c + L.extra))
  | slice0 (a a' : Addr) : VR j (.slice (some a) 0 0) (.slice (some a') 0 0)
  | mnil : VR j (.map none) (.map none)
  | map {r : Nat} {L : Loc} : j r = some L → VR j (.map (some r)) (.map (some L.blk))
  | cnil : VR j (.chan none) (.chan none)
  /- a cell of which nothing is known -/
  | hole {v : Value} : Value.isCell v = true → VR j (.chan (some 0)) v
  | func (f : FuncId) {x x' y y' : Array Value} : x.size = x'.size → (∀ (i : Nat) (v v' : Value), x[i]? = some v → x'[i]? = some v' → VR j v v') →
      y.size = y'.size → (∀ (i : Nat) (v v' : Value), y[i]? = some v → y'[i]? = some v' → VR j v v') → VR j (.func (.func f) x y) (.func (.func f) x' y')
  | method (m : String) {x x' y y' : Array Value} : x.size = x'.size → (∀ (i : Nat) (v v' : Value), x[i]? = some v → x'[i]? = some v' → VR j v v') →
      y.size = y'.size → (∀ (i : Nat) (v v' : Value), y[i]? = some v → y'[i]? = some v' → VR j v v') → VR j (.func (.method m) x y) (.func (.method m) x' y')
  /- a loop's yield -/
  | yield {l : Nat} {L : Loc} : j l = some L → VR j (.func (.yield l) #[] #[]) (.func (.yield L.blk) #[] #[])
  | nilFunc : VR j .nilFunc .nilFunc
  | iface (t : TypeId) {v v' : Value} : VR j v v' → VR j (.iface t v) (.iface t v')
  | nilIface : VR j .nilIface .nilIface
  | agg {x x' : Array Value} : x.size = x'.size → (∀ (i : Nat) (v v' : Value), x[i]? = some v → x'[i]? = some v' → VR j v v') → VR j (.agg x) (.agg x')
  | tuple {x x' : Array Value} : x.size = x'.size → (∀ (i : Nat) (v v' : Value), x[i]? = some v → x'[i]? = some v' → VR j v v') → VR j (.tuple x) (.tuple x')

def AR (j : Inj) (x x' : Array Value) : Prop := x.size = x'.size ∧ ∀ (i : Nat) (v v' : Value), x[i]? = some v → x'[i]? = some v' → VR j v v'

theorem VR.mono {j j' : Inj} (hj : j.le j') {v v' : Value} (h : VR j v v') : VR j' v v' := by
  induction h with
  | bool b => exact .bool b
  | int k n => exact .int k n
  | float k n => exact .float k n
  | complex k x y => exact .complex k x y
  | string s => exact .string s
  | pnil => exact .pnil
  | ptr h => exact .ptr (hj _ _ h)
  | snil l c => exact .snil l c
  | slice l c h => exact .slice l c (hj _ _ h)
  | oslice l c h he hc => exact .oslice l c (hj _ _ h) he hc
  | slice0 a a' => exact .slice0 a a'
  | mnil => exact .mnil
  | map h => exact .map (hj _ _ h)
  | cnil => exact .cnil
  | hole h => exact .hole h
  | func f h1 _ h3 _ ih1 ih2 => exact .func f h1 ih1 h3 ih2
  | method f h1 _ h3 _ ih1 ih2 => exact .method f h1 ih1 h3 ih2
  | yield h => exact .yield (hj _ _ h)
  | nilFunc => exact .nilFunc
  | iface t _ ih => exact .iface t ih
  | nilIface => exact .nilIface
  | agg h1 _ ih => exact .agg h1 ih
  | tuple h1 _ ih => exact .tuple h1 ih

/-- lists, cell by cell -/
inductive LR (j : Inj) : List Value → List Value → Prop
  | nil : LR j [] []
  | cons {v v' : Value} {l l' : List Value} : VR j v v' → LR j l l' → LR j (v :: l) (v' :: l')

theorem LR.mono {j j' : Inj} (hj : j.le j') {x x' : List Value} (h : LR j x x') : LR j' x x' := by
  induction h with
  | nil => exact .nil
  | cons h _ ih => exact .cons (h.mono hj) ih

theorem LR.length {j : Inj} {x x' : List Value} (h : LR j x x') : x.length = x'.length := by
  induction h with
  | nil => rfl
  | cons _ _ ih => simp [ih]

theorem LR.get {j : Inj} {x x' : List Value} (h : LR j x x') {i : Nat} {v : Value} (e : x[i]? = some v) : ∃ v', x'[i]? = some v' ∧ VR j v v' := by
  induction h generalizing i with
  | nil => simp at e
  | cons hv _ ih =>
    cases i with
    | zero => simp at e; subst e; exact ⟨_, by simp, hv⟩
    | succ i => simp at e; simpa using ih e

theorem LR.of_get {j : Inj} : ∀ {x x' : List Value}, x.length = x'.length → (∀ (i : Nat) (v v' : Value), x[i]? = some v → x'[i]? = some v' → VR j v v') → LR j x x'
  | [], [], _, _ => .nil
  | [], _ :: _, h, _ => by simp at h
  | _ :: _, [], h, _ => by simp at h
  | v :: x, v' :: x', h, f => .cons (f 0 v v' (by simp) (by simp)) (LR.of_get (by simpa using h) fun i w w' e e' => f (i + 1) w w' (by simpa using e) (by simpa using e'))

theorem LR.rel {j : Inj} {x x' : List Value} (h : LR j x x') (i : Nat) (v v' : Value) (e : x[i]? = some v) (e' : x'[i]? = some v') : VR j v v' := by
  obtain ⟨w, hw, hr⟩ := h.get e
  rw [hw] at e'; cases e'; exact hr

theorem LR.app {j : Inj} {x x' y y' : List Value} (h : LR j x x') (h' : LR j y y') : LR j (x ++ y) (x' ++ y') := by
  induction h with
  | nil => exact h'
  | cons hv _ ih => exact .cons hv ih

theorem LR.take {j : Inj} {x x' : List Value} (h : LR j x x') (n : Nat) : LR j (x.take n) (x'.take n) := by
  induction h generalizing n with
  | nil => simpa using .nil
  | cons hv _ ih => cases n with
    | zero => simpa using .nil
    | succ n => simpa using .cons hv (ih n)

theorem LR.drop {j : Inj} {x x' : List Value} (h : LR j x x') (n : Nat) : LR j (x.drop n) (x'.drop n) := by
  induction h generalizing n with
  | nil => simpa using .nil
  | cons hv hl ih => cases n with
    | zero => simpa using .cons hv hl
    | succ n => simpa using ih n

theorem AR.toLR {j : Inj} {x x' : Array Value} (h : AR j x x') : LR j x.toList x'.toList :=
  LR.of_get (by simpa using h.1) fun i v v' e e' => h.2 i v v' (by simpa using e) (by simpa using e')

theorem LR.toAR {j : Inj} {x x' : List Value} (h : LR j x x') : AR j x.toArray x'.toArray :=
  ⟨by simpa using h.length, fun i v v' e e' => h.rel i v v' (by simpa using e) (by simpa using e')⟩

theorem AR.of_lists {j : Inj} {x x' : Array Value} (h : LR j x.toList x'.toList) : AR j x x' := by
  have := h.toAR; simpa using this

theorem VR.agg' {j : Inj} {x x' : Array Value} (h : LR j x.toList x'.toList) : VR j (.agg x) (.agg x') := .agg (AR.of_lists h).1 (AR.of_lists h).2
theorem VR.tuple' {j : Inj} {x x' : Array Value} (h : LR j x.toList x'.toList) : VR j (.tuple x) (.tuple x') := .tuple (AR.of_lists h).1 (AR.of_lists h).2

theorem VR.isCell {j : Inj} {v v' : Value} (h : VR j v v') : Value.isCell v' = Value.isCell v := by
  cases h with
  | hole h => exact h
  | _ => rfl

theorem VR.cells {j : Inj} {v v' : Value} (h : VR j v v') : LR j v.cells.toList v'.cells.toList := by
  cases h with
  | agg h1 h2 => exact AR.toLR ⟨h1, h2⟩
  | bool b => exact .cons (.bool b) .nil
  | int k n => exact .cons (.int k n) .nil
  | float k n => exact .cons (.float k n) .nil
  | complex k x y => exact .cons (.complex k x y) .nil
  | string s => exact .cons (.string s) .nil
  | pnil => exact .cons .pnil .nil
  | ptr h => exact .cons (.ptr h) .nil
  | snil l c => exact .cons (.snil l c) .nil
  | slice l c h => exact .cons (.slice l c h) .nil
  | oslice l c h he hc => exact .cons (.oslice l c h he hc) .nil
  | slice0 a a' => exact .cons (.slice0 a a') .nil
  | mnil => exact .cons .mnil .nil
  | map h => exact .cons (.map h) .nil
  | cnil => exact .cons .cnil .nil
  | hole h =>
    have : v'.cells = #[v'] := by cases v' <;> simp_all [Value.isCell, Value.cells]
    rw [this]; exact .cons (.hole h) .nil
  | func f h1 h2 h3 h4 => exact .cons (.func f h1 h2 h3 h4) .nil
  | method f h1 h2 h3 h4 => exact .cons (.method f h1 h2 h3 h4) .nil
  | yield h => exact .cons (.yield h) .nil
  | nilFunc => exact .cons .nilFunc .nil
  | iface t h => exact .cons (.iface t h) .nil
  | nilIface => exact .cons .nilIface .nil
  | tuple h1 h2 => exact .cons (.tuple h1 h2) .nil

/-- values without an address: they stand for themselves -/
inductive Flat : Value → Prop
  | bool (b : Bool) : Flat (.bool b)
  | int (k : IntKind) (n : Int) : Flat (.int k n)
  | float (k : FloatKind) (n : Nat) : Flat (.float k n)
  | complex (k : FloatKind) (x y : Nat) : Flat (.complex k x y)
  | string (s : ByteArray) : Flat (.string s)
  | pnil : Flat (.pointer none)
  | snil (l c : Nat) : Flat (.slice none l c)
  | mnil : Flat (.map none)
  | cnil : Flat (.chan none)
  | nilFunc : Flat .nilFunc
  | iface (t : TypeId) {v : Value} : Flat v → Flat (.iface t v)
  | nilIface : Flat .nilIface
  | agg {x : Array Value} : (∀ (i : Nat) (v : Value), x[i]? = some v → Flat v) → Flat (.agg x)
  | tuple {x : Array Value} : (∀ (i : Nat) (v : Value), x[i]? = some v → Flat v) → Flat (.tuple x)

theorem Flat.vr {v : Value} (h : Flat v) (j : Inj) : VR j v v := by
  induction h with
  | bool b => exact .bool b
  | int k n => exact .int k n
  | float k n => exact .float k n
  | complex k x y => exact .complex k x y
  | string s => exact .string s
  | pnil => exact .pnil
  | snil l c => exact .snil l c
  | mnil => exact .mnil
  | cnil => exact .cnil
  | nilFunc => exact .nilFunc
  | iface t _ ih => exact .iface t ih
  | nilIface => exact .nilIface
  | agg _ ih => exact .agg rfl fun i v v' e e' => by rw [e] at e'; cases e'; exact ih i v e
  | tuple _ ih => exact .tuple rfl fun i v v' e e' => by rw [e] at e'; cases e'; exact ih i v e

theorem Flat.eq {v : Value} (h : Flat v) {j : Inj} {v' : Value} (r : VR j v v') : v' = v := by
  induction h generalizing v' with
  | agg _ ih =>
    cases r with
    | agg h1 h2 =>
      congr 1
      apply Array.ext h1.symm
      intro i hi hi'
      exact ih i _ (Array.getElem?_eq_getElem hi') (h2 i _ _ (Array.getElem?_eq_getElem hi') (Array.getElem?_eq_getElem hi))
  | tuple _ ih =>
    cases r with
    | tuple h1 h2 =>
      congr 1
      apply Array.ext h1.symm
      intro i hi hi'
      exact ih i _ (Array.getElem?_eq_getElem hi') (h2 i _ _ (Array.getElem?_eq_getElem hi') (Array.getElem?_eq_getElem hi))
  | iface t _ ih => cases r with | iface _ h => rw [ih h]
  | _ => cases r; rfl

end Go.Fm

namespace Go.Fm

def Loc.ext (L : Loc) : Nat := L.size + L.extra * L.esz

def ERow (j : Inj) (e e' : MapEntry) : Prop := VR j e.key e'.key ∧ VR j e.val e'.val ∧ e.born = e'.born

inductive ER (j : Inj) : List MapEntry → List MapEntry → Prop
  | nil : ER j [] []
  | cons {e e' : MapEntry} {l l' : List MapEntry} : ERow j e e' → ER j l l' → ER j (e :: l) (e' :: l')

theorem ER.mono {j j' : Inj} (hj : j.le j') {x x' : List MapEntry} (h : ER j x x') : ER j' x x' := by
  induction h with
  | nil => exact .nil
  | cons h _ ih => exact .cons ⟨h.1.mono hj, h.2.1.mono hj, h.2.2⟩ ih

/-- a slot that is known holds what stands for it -/
def EnvR (j : Inj) (n : Nat) (e : AEnv) (tmps : Array Value) : Prop := tmps.size = n ∧ ∀ t v, e.get t = some v → ∃ v', tmps[t]? = some v' ∧ VR j v v'

theorem EnvR.mono {j j' : Inj} (hj : j.le j') {n : Nat} {e : AEnv} {tmps : Array Value} (h : EnvR j n e tmps) : EnvR j' n e tmps :=
  ⟨h.1, fun t v ht => let ⟨v', h1, h2⟩ := h.2 t v ht; ⟨v', h1, h2.mono hj⟩⟩

def SpecR (j : Inj) : ASpec → Obj → Prop
  | .loop e n m ps a b st pd dq, y => ∃ fn tmps L, fn < m ∧ y = .loop { state := st, pending := pd, fn, tmps, params := ps.toArray, assign := a, body := b, defers := L.blk } ∧ EnvR j n e tmps ∧ j dq = some L
  | .defq, y => y = .deferred (some [])
  | .over, y => ∀ d T f, y ≠ .cells d T f

theorem SpecR.mono {j j' : Inj} (hj : j.le j') {x : ASpec} {y : Obj} (h : SpecR j x y) : SpecR j' x y := by
  cases x with
  | loop e n m ps a b st pd dq => obtain ⟨fn, tmps, L, h0, h1, h2, h3⟩ := h; exact ⟨fn, tmps, L, h0, h1, h2.mono hj, hj _ _ h3⟩
  | defq => exact h
  | over => exact h

theorem SpecR.cells {j : Inj} {x : ASpec} {d : Array Value} {T : TypeId} {f : Nat × Nat} : ¬ SpecR j x (.cells d T f) := by
  cases x with
  | loop e n m ps a b st pd dq => rintro ⟨fn, tmps, L, _, h1, _⟩; cases h1
  | defq => intro h; cases h
  | over => intro h; exact h _ _ _ rfl

/-- what of a block of n cells may be frozen -/
def fzOk (z : Option Nat) (f : Nat × Nat) (n : Nat) : Prop :=
  match z with
  | some k => f.1 ≤ f.2 ∧ f.2 ≤ k
  | none => f = (0, 0) ∨ f = (n, n + 1)

theorem fzOk.free {z : Option Nat} {f : Nat × Nat} {n o : Nat} (h : fzOk z f n) (ho : o < n) (hz : z.getD 0 ≤ o) : (f.1 ≤ o && o < f.2) = false := by
  cases z with
  | some k =>
    obtain ⟨h1, h2⟩ := h
    simp only [Option.getD_some] at hz
    simp; omega
  | none => rcases h with h | h <;> subst h <;> simp <;> omega

def ObjR (j : Inj) (L : Loc) (w : World) : Option AObj → Prop
  | some (.cells c ro) => ∃ d T f, w.heap[L.blk]? = some (.cells d T f) ∧ c.length = L.size ∧ L.off + L.ext ≤ d.size ∧
      LR j c ((d.toList.drop L.off).take L.size) ∧ (ro = false → ∀ o, L.off ≤ o → o < L.off + L.ext → (f.1 ≤ o && o < f.2) = false) ∧ (ro = true → L.extra = 0)
  | some (.tcells c t z) => ∃ d f, w.heap[L.blk]? = some (.cells d t f) ∧ c.length = L.size ∧ L.off + L.ext ≤ d.size ∧
      LR j c ((d.toList.drop L.off).take L.size) ∧ fzOk z f d.size ∧ L.off = 0 ∧ d.size = L.ext
  | some (.map es clock) => ∃ es', w.heap[L.blk]? = some (.map es' clock) ∧ ER j es es'.toList ∧ L.off = 0
  | some (.mapIter m since seen stepped) => L.off = 0 ∧ ∃ m', w.heap[L.blk]? = some (.mapIter m' since seen.toArray stepped) ∧
      ((m = none ∧ m' = none) ∨ ∃ r L', m = some r ∧ j r = some L' ∧ m' = some L'.blk)
  | some (.strIter s pos) => L.off = 0 ∧ w.heap[L.blk]? = some (.stringIter s pos)
  | some (.spec x) => L.off = 0 ∧ ∃ y, w.heap[L.blk]? = some y ∧ SpecR j x y
  | some .dead => True
  | none => False

/-- the concrete places that an abstract block has for its own -/
def owns (L : Loc) : Option AObj → Nat → Nat → Prop
  | some (.cells _ _), B, o => B = L.blk ∧ L.off ≤ o ∧ o < L.off + L.ext
  | some (.tcells _ _ _), B, _ | some (.map _ _), B, _ | some (.mapIter _ _ _ _), B, _ | some (.strIter _ _), B, _ | some (.spec _), B, _ => B = L.blk
  | _, _, _ => False

def isRw : Option AObj → Prop
  | some (.cells _ ro) => ro = false
  | some (.tcells _ _ _) | some (.map _ _) | some (.mapIter _ _ _ _) | some (.strIter _ _) | some (.spec _) => True
  | _ => False

def keptAt (w0 w : World) (B o : Nat) : Prop :=
  match w0.heap[B]? with
  | some (.cells d T f) => ∃ d', w.heap[B]? = some (.cells d' T f) ∧ d'.size = d.size ∧ d'[o]? = d[o]?
  | some x => w.heap[B]? = some x
  | none => True

theorem keptAt_refl (w : World) (B o : Nat) : keptAt w w B o := by
  unfold keptAt; split
  · exact ⟨_, ‹_›, rfl, rfl⟩
  · assumption
  · trivial

/-- the streams are as they were -/
def Io (w w' : World) : Prop := w'.os = w.os ∧ w'.tape = w.tape ∧ w'.output = w.output

theorem Io.refl (w : World) : Io w w := ⟨rfl, rfl, rfl⟩
theorem Io.trans {a b c : World} (h : Io a b) (h' : Io b c) : Io a c := ⟨h'.1.trans h.1, h'.2.1.trans h.2.1, h'.2.2.trans h.2.2⟩

structure Sim (F : Nat → Nat → Prop) (w0 : World) (j : Inj) (h : AHeap) (w : World) : Prop where
  io : Io w0 w
  size : w0.heap.size ≤ w.heap.size
  kept : ∀ B o, F B o → keptAt w0 w B o
  below : ∀ B o, F B o → B < w0.heap.size
  dom : ∀ b L, j b = some L → b < h.length
  obj : ∀ b L, j b = some L → ObjR j L w h[b]?
  own : ∀ b L, j b = some L → isRw h[b]? → ∀ B o, owns L h[b]? B o → ¬ F B o
  apart : ∀ b b' L L', b ≠ b' → j b = some L → j b' = some L' → isRw h[b]? → ∀ B o, owns L h[b]? B o → ¬ owns L' h[b']? B o

variable {F : Nat → Nat → Prop} {w0 w : World} {j : Inj} {h : AHeap}

theorem World.cell?_of {w : World} {B o : Nat} {d : Array Value} {T : TypeId} {f : Nat × Nat} (hb : w.heap[B]? = some (.cells d T f)) :
    w.cell? ⟨B, o, none⟩ = d[o]? := by simp [World.cell?, hb]

/-! ## loads -/

theorem LR.slot {c d : List Value} {off n : Nat} (h : LR j c ((d.drop off).take n)) (i : Nat) (v : Value) (e : c[i]? = some v) :
    ∃ v', d[off + i]? = some v' ∧ VR j v v' := by
  obtain ⟨v', h1, h2⟩ := h.get e
  refine ⟨v', ?_, h2⟩
  rw [List.getElem?_take] at h1
  split at h1
  · simpa [List.getElem?_drop] using h1
  · simp at h1

theorem aCell_sim (S : Sim F w0 j h w) {a : Addr} {L : Loc} (hj : j a.block = some L) {v : Value} (e : aCell h a = some v) :
    ∃ v', w.cell? ⟨L.blk, L.off + a.off, none⟩ = some v' ∧ VR j v v' := by
  unfold aCell at e
  split at e
  · simp at e
  · rename_i hs
    have hs' : a.spot = none := by simpa using hs
    split at e
    · rename_i c ro hc
      have := S.obj _ _ hj
      rw [hc] at this
      obtain ⟨d, T, f, hb, hl, hd, hr, _, _⟩ := this
      obtain ⟨v', h1, h2⟩ := LR.slot hr _ _ e
      refine ⟨v', ?_, h2⟩
      rw [World.cell?_of hb]
      simpa using h1
    · rename_i c t z hc
      have := S.obj _ _ hj
      rw [hc] at this
      obtain ⟨d, f, hb, hl, hd, hr, _⟩ := this
      obtain ⟨v', h1, h2⟩ := LR.slot hr _ _ e
      refine ⟨v', ?_, h2⟩
      rw [World.cell?_of hb]
      simpa using h1
    · simp at e

theorem Addr.add_none (B o n : Nat) : Addr.add ⟨B, o, none⟩ n = ⟨B, o + n, none⟩ := by unfold Addr.add; split <;> simp_all

theorem aCells_sim {P : Program} (S : Sim F w0 j h w) {a : Addr} {L : Loc} (hj : j a.block = some L) {n : Nat} {vs : List Value} (e : aCells h a n = some vs) :
    ∃ vs', (loadCells ⟨L.blk, L.off + a.off, none⟩ n).run P w = .ok vs'.toArray w ∧ LR j vs vs' := by
  unfold aCells at e
  split at e
  · simp at e
  · rename_i hs
    have hs' : a.spot = none := by simpa using hs
    split at e
    · rename_i c ro hc
      split at e
      · rename_i hle
        simp at e
        have := S.obj _ _ hj
        rw [hc] at this
        obtain ⟨d, T, f, hb, hl, hd, hr, _, _⟩ := this
        refine ⟨((d.toList.drop L.off).take L.size).drop a.off |>.take n, ?_, ?_⟩
        · have hlen : (List.take n (List.drop a.off (List.take L.size (List.drop L.off d.toList)))).length = n := by
            unfold Loc.ext at hd
            simp; omega
          have := run_loadCells_list (P := P) w ⟨L.blk, L.off + a.off, none⟩ (List.take n (List.drop a.off (List.take L.size (List.drop L.off d.toList)))) (fun i v hv => by
            rw [Addr.add_none, World.cell?_of hb]
            simp only [List.getElem?_take, List.getElem?_drop] at hv
            split at hv
            · split at hv
              · simpa [Nat.add_assoc] using hv
              · simp at hv
            · simp at hv)
          rw [hlen] at this
          rw [this]
        · rw [← e]; exact (hr.drop _).take _
      · simp at e
    · rename_i c t z hc
      split at e
      · rename_i hle
        simp at e
        have := S.obj _ _ hj
        rw [hc] at this
        obtain ⟨d, f, hb, hl, hd, hr, _⟩ := this
        refine ⟨((d.toList.drop L.off).take L.size).drop a.off |>.take n, ?_, ?_⟩
        · have hlen : (List.take n (List.drop a.off (List.take L.size (List.drop L.off d.toList)))).length = n := by
            unfold Loc.ext at hd
            simp; omega
          have := run_loadCells_list (P := P) w ⟨L.blk, L.off + a.off, none⟩ (List.take n (List.drop a.off (List.take L.size (List.drop L.off d.toList)))) (fun i v hv => by
            rw [Addr.add_none, World.cell?_of hb]
            simp only [List.getElem?_take, List.getElem?_drop] at hv
            split at hv
            · split at hv
              · simpa [Nat.add_assoc] using hv
              · simp at hv
            · simp at hv)
          rw [hlen] at this
          rw [this]
        · rw [← e]; exact (hr.drop _).take _
      · simp at e
    · simp at e

/-! ## the heap of 'setCells' -/

theorem heap_setCell (w : World) (B o : Nat) (v : Value) :
    (w.setCell ⟨B, o, none⟩ v).heap = w.heap.modify B fun | .cells c elem fz => .cells (c.setIfInBounds o v) elem fz | x => x := by
  unfold World.setCell
  simp only [Option.isSome_none, Bool.false_eq_true, if_false]
  congr 1

theorem heap_setCells_size (B : Nat) : ∀ (vs : List Value) (o : Nat) (w : World), (w.setCells B o vs).heap.size = w.heap.size
  | [], _, _ => rfl
  | v :: r, o, w => by rw [World.setCells, heap_setCells_size B r, heap_setCell]; simp

theorem io_setCells (B : Nat) : ∀ (vs : List Value) (o : Nat) (w : World), Io w (w.setCells B o vs)
  | [], _, w => Io.refl w
  | v :: r, o, w => Io.trans (b := w.setCell ⟨B, o, none⟩ v) ⟨rfl, rfl, rfl⟩ (io_setCells B r _ _)

theorem heap_setCells_other (B : Nat) : ∀ (vs : List Value) (o : Nat) (w : World) (B' : Nat), B' ≠ B → (w.setCells B o vs).heap[B']? = w.heap[B']?
  | [], _, _, _, _ => rfl
  | v :: r, o, w, B', hne => by
    rw [World.setCells, heap_setCells_other B r _ _ _ hne, heap_setCell, Array.getElem?_modify]
    simp [Ne.symm hne]

theorem heap_setCells_same (B : Nat) (T : TypeId) (f : Nat × Nat) : ∀ (vs : List Value) (o : Nat) (w : World) (d : Array Value), w.heap[B]? = some (.cells d T f) →
    ∃ d' : Array Value, (w.setCells B o vs).heap[B]? = some (.cells d' T f) ∧ d'.size = d.size ∧
      ∀ i, d'[i]? = if o ≤ i ∧ i < o + vs.length ∧ i < d.size then vs[i - o]? else d[i]?
  | [], o, w, d, hb => ⟨d, hb, rfl, fun i => by simp; omega⟩
  | v :: r, o, w, d, hb => by
    have h1 : (w.setCell ⟨B, o, none⟩ v).heap[B]? = some (.cells (d.setIfInBounds o v) T f) := by
      rw [heap_setCell, Array.getElem?_modify]; simp [hb]
    obtain ⟨d', h2, h3, h4⟩ := heap_setCells_same B T f r (o + 1) _ _ h1
    refine ⟨d', h2, by simpa using h3, fun i => ?_⟩
    rw [h4 i]
    simp only [List.length_cons, Array.size_setIfInBounds]
    by_cases hio : i = o
    · subst hio
      rw [if_neg (by omega)]
      by_cases hs : i < d.size
      · simp [hs]
      · simp [hs]
    · by_cases hc : o ≤ i ∧ i < o + (r.length + 1) ∧ i < d.size
      · rw [if_pos hc, if_pos (by omega)]
        rw [show i - o = (i - (o + 1)) + 1 by omega]; simp
      · rw [if_neg hc, if_neg (by omega), Array.getElem?_setIfInBounds]
        simp [Ne.symm hio]

theorem isCell_oneCell {v : Value} (h : Value.isCell v = true) : v.oneCell' = true := by cases v <;> simp_all [Value.isCell, Value.oneCell']

theorem splice_length {c vs : List Value} {off : Nat} (h : off + vs.length ≤ c.length) : (splice c off vs).length = c.length := by
  unfold splice; simp; omega

theorem splice_get {c vs : List Value} {off : Nat} (h : off + vs.length ≤ c.length) (i : Nat) :
    (splice c off vs)[i]? = if off ≤ i ∧ i < off + vs.length then vs[i - off]? else c[i]? := by
  unfold splice
  rw [List.append_assoc]
  by_cases h1 : i < off
  · rw [List.getElem?_append_left (by simp; omega), if_neg (by omega), List.getElem?_take, if_pos h1]
  · rw [List.getElem?_append_right (by simp; omega)]
    simp only [List.length_take, Nat.min_eq_left (show off ≤ c.length by omega)]
    by_cases h2 : i < off + vs.length
    · rw [List.getElem?_append_left (by omega), if_pos (by omega)]
    · rw [List.getElem?_append_right (by omega), if_neg (by omega), List.getElem?_drop]
      congr 1; omega

/-! ## one block's cells turn -/

/-- objects of cells that may be written -/
def CellsLike (mk : List Value → AObj) : Prop := (mk = fun c => .cells c false) ∨ ∃ t z, mk = fun c => .tcells c t z

theorem CellsLike.rw {mk : List Value → AObj} (hm : CellsLike mk) (c : List Value) : isRw (some (mk c)) := by
  rcases hm with rfl | ⟨t, z, rfl⟩
  · rfl
  · trivial

theorem CellsLike.owns {mk : List Value → AObj} (hm : CellsLike mk) (c : List Value) (L : Loc) (x : Nat) (h : L.off ≤ x ∧ x < L.off + L.ext) : Fm.owns L (some (mk c)) L.blk x := by
  rcases hm with rfl | ⟨t, z, rfl⟩
  · exact ⟨rfl, h⟩
  · rfl

theorem CellsLike.owns_iff {mk : List Value → AObj} (hm : CellsLike mk) (c c' : List Value) (L : Loc) (B x : Nat) : Fm.owns L (some (mk c)) B x ↔ Fm.owns L (some (mk c')) B x := by
  rcases hm with rfl | ⟨t, z, rfl⟩ <;> exact Iff.rfl

theorem CellsLike.obj {mk : List Value → AObj} (hm : CellsLike mk) {c : List Value} {j : Inj} {L : Loc} {w : World} (h : ObjR j L w (some (mk c))) :
    ∃ d T f, w.heap[L.blk]? = some (.cells d T f) ∧ c.length = L.size ∧ L.off + L.ext ≤ d.size ∧ LR j c ((d.toList.drop L.off).take L.size) ∧
      ∀ (c' : List Value) (w' : World) (d' : Array Value), w'.heap[L.blk]? = some (.cells d' T f) → d'.size = d.size → c'.length = L.size → LR j c' ((d'.toList.drop L.off).take L.size) → ObjR j L w' (some (mk c')) := by
  rcases hm with rfl | ⟨t, z, rfl⟩
  · obtain ⟨d, T, f, h1, h2, h3, h4, h5, h6⟩ := h
    exact ⟨d, T, f, h1, h2, h3, h4, fun c' w' d' k1 k2 k3 k4 => ⟨d', T, f, k1, k3, by omega, k4, h5, h6⟩⟩
  · obtain ⟨d, f, h1, h2, h3, h4, h5, h6, h7⟩ := h
    exact ⟨d, t, f, h1, h2, h3, h4, fun c' w' d' k1 k2 k3 k4 => ⟨d', f, k1, k3, by omega, k4, by rw [k2]; exact h5, h6, by omega⟩⟩

/-- the general step: block b's cells turn within what it owns -/
theorem Sim.turnG (S : Sim F w0 j h w) {b : Nat} {L : Loc} (hj : j b = some L) {mk : List Value → AObj} (hm : CellsLike mk) {c c' : List Value} (hc : h[b]? = some (mk c))
    {w' : World} {d d' : Array Value} {T : TypeId} {f : Nat × Nat} (hb : w.heap[L.blk]? = some (.cells d T f)) (hb' : w'.heap[L.blk]? = some (.cells d' T f))
    (hio : Io w w') (hsz : d'.size = d.size) (hws : w'.heap.size = w.heap.size) (hoth : ∀ B, B ≠ L.blk → w'.heap[B]? = w.heap[B]?) (hlen : c'.length = c.length)
    (hin : ∀ i v, c'[i]? = some v → ∃ v', d'[L.off + i]? = some v' ∧ VR j v v')
    (hout : ∀ o, ¬ (L.off ≤ o ∧ o < L.off + L.ext) → d'[o]? = d[o]?) :
    Sim F w0 j (h.set b (mk c')) w' := by
  have hblt : b < h.length := S.dom _ _ hj
  have hget : ∀ b' : Nat, (h.set b (mk c'))[b']? = if b' = b then some (mk c') else h[b']? := by
    intro b'
    rw [List.getElem?_set]
    by_cases e : b = b'
    · subst e; simp [hblt]
    · simp [e, Ne.symm e]
  have hrw : ∀ b' : Nat, isRw (h.set b (mk c'))[b']? ↔ isRw h[b']? := by
    intro b'; rw [hget]; split
    · rename_i e; subst e; rw [hc]; exact ⟨fun _ => hm.rw c, fun _ => hm.rw c'⟩
    · rfl
  have hown : ∀ (b' : Nat) (L' : Loc) (B o : Nat), owns L' (h.set b (mk c'))[b']? B o ↔ owns L' h[b']? B o := by
    intro b' L' B o; rw [hget]; split
    · rename_i e; subst e; rw [hc]; exact hm.owns_iff _ _ _ _ _
    · rfl
  have hobj := S.obj _ _ hj
  rw [hc] at hobj
  obtain ⟨d1, T1, f1, e1, hl, hd, hr, hmk⟩ := hm.obj hobj
  rw [hb] at e1; injection e1 with e1; injection e1 with ed eT ef; subst ed eT ef
  refine ⟨S.io.trans hio, by rw [hws]; exact S.size, ?_, S.below, ?_, ?_, ?_, ?_⟩
  · intro B o hF
    have hk := S.kept B o hF
    by_cases e : B = L.blk
    · subst e
      have hno : ¬ (L.off ≤ o ∧ o < L.off + L.ext) := fun ho => S.own b L hj (by rw [hc]; exact hm.rw c) L.blk o (by rw [hc]; exact hm.owns _ _ _ ho) hF
      unfold keptAt at hk ⊢
      split at hk
      · rename_i d0 T0 f0 h0
        obtain ⟨dx, k1, k2, k3⟩ := hk
        rw [hb] at k1; injection k1 with k1; injection k1 with k1 k1' k1''; subst k1 k1' k1''
        exact ⟨d', hb', hsz.trans k2, (hout o hno).trans k3⟩
      · rename_i x hx hx'; rw [hb] at hk; injection hk with hk; subst hk; exact (hx _ _ _ rfl).elim
      · trivial
    · unfold keptAt at hk ⊢
      rw [hoth B e]; exact hk
  · intro b' L' h'; simp; exact S.dom _ _ h'
  · intro b' L' h'
    rw [hget]
    split
    · rename_i e; subst e
      rw [hj] at h'; injection h' with h'; subst h'
      refine hmk c' w' d' hb' hsz (by omega) ?_
      refine LR.of_get (by unfold Loc.ext at hd; simp; omega) ?_
      intro i v v' ev ev'
      obtain ⟨v'', k1, k2⟩ := hin i v ev
      rw [List.getElem?_take] at ev'
      split at ev'
      · simp at ev'; rw [k1] at ev'; injection ev' with ev'; subst ev'; exact k2
      · simp at ev'
    · rename_i hne
      have ho := S.obj _ _ h'
      by_cases e : L'.blk = L.blk
      · -- the same concrete block: what it holds there is not touched
        have hap := S.apart b b' L L' (Ne.symm hne) hj h' (by rw [hc]; exact hm.rw c)
        revert ho hap
        generalize h[b']? = ob
        intro ho hap
        match ob, ho, hap with
        | some (.cells c2 ro2), ⟨d2, T2, f2, k1, k2, k3, k4, k5, k6⟩, hap =>
          rw [e, hb] at k1; injection k1 with k1; injection k1 with k1 k1' k1''; subst k1 k1' k1''
          refine ⟨d', T, f, by rw [e]; exact hb', k2, by omega, ?_, k5, k6⟩
          have hsame : (d'.toList.drop L'.off).take L'.size = (d.toList.drop L'.off).take L'.size := by
            apply List.ext_getElem?
            intro i
            simp only [List.getElem?_take, List.getElem?_drop]
            split
            · rename_i hi
              have := hout (L'.off + i) (fun hin' => hap L.blk (L'.off + i) (by rw [hc]; exact hm.owns _ _ _ hin') ⟨e.symm, by omega, by unfold Loc.ext; omega⟩)
              simpa using this
            · rfl
          rw [hsame]; exact k4
        | some (.tcells c2 t2 z2), ⟨d2, f2, k1, k2, k3, k4, k5, k6, k7⟩, hap =>
          rw [e, hb] at k1; injection k1 with k1; injection k1 with k1 k1' k1''; subst k1 k1' k1''
          refine ⟨d', f, by rw [e]; exact hb', k2, by omega, ?_, by rw [hsz]; exact k5, k6, by omega⟩
          have hsame : (d'.toList.drop L'.off).take L'.size = (d.toList.drop L'.off).take L'.size := by
            apply List.ext_getElem?
            intro i
            simp only [List.getElem?_take, List.getElem?_drop]
            split
            · rename_i hi
              have := hout (L'.off + i) (fun hin' => hap L.blk (L'.off + i) (by rw [hc]; exact hm.owns _ _ _ hin') e.symm)
              simpa using this
            · rfl
          rw [hsame]; exact k4
        | some (.map es clock), ⟨es', k1, _⟩, _ => rw [e, hb] at k1; simp at k1
        | some (.mapIter _ _ _ _), ⟨_, m', k1, _⟩, _ => rw [e, hb] at k1; simp at k1
        | some (.strIter _ _), ⟨_, k1⟩, _ => rw [e, hb] at k1; simp at k1
        | some (.spec _), ⟨_, y, k1, k2⟩, _ => rw [e, hb] at k1; injection k1 with k1; subst k1; exact (SpecR.cells k2).elim
        | some .dead, _, _ => trivial
        | none, ho, _ => exact ho.elim
      · revert ho
        generalize h[b']? = ob
        intro ho
        match ob, ho with
        | some (.cells c2 ro2), ⟨d2, T2, f2, k1, k⟩ => exact ⟨d2, T2, f2, by rw [hoth _ e]; exact k1, k⟩
        | some (.tcells c2 t2 z2), ⟨d2, f2, k1, k⟩ => exact ⟨d2, f2, by rw [hoth _ e]; exact k1, k⟩
        | some (.map es clock), ⟨es', k1, k⟩ => exact ⟨es', by rw [hoth _ e]; exact k1, k⟩
        | some (.mapIter _ _ _ _), ⟨k0, m', k1, k⟩ => exact ⟨k0, m', by rw [hoth _ e]; exact k1, k⟩
        | some (.strIter _ _), ⟨k0, k1⟩ => exact ⟨k0, by rw [hoth _ e]; exact k1⟩
        | some (.spec _), ⟨k0, y, k1, k2⟩ => exact ⟨k0, y, by rw [hoth _ e]; exact k1, k2⟩
        | some .dead, _ => trivial
        | none, ho => exact ho.elim
  · intro b' L' h' hr' B o ho
    exact S.own b' L' h' ((hrw b').1 hr') B o ((hown _ _ _ _).1 ho)
  · intro b1 b2 L1 L2 hne h1 h2 hr' B o ho ho'
    exact S.apart b1 b2 L1 L2 hne h1 h2 ((hrw b1).1 hr') B o ((hown _ _ _ _).1 ho) ((hown _ _ _ _).1 ho')

theorem aStore_sim {P : Program} (S : Sim F w0 j h w) {a : Addr} {L : Loc} (hj : j a.block = some L) {vs vs' : List Value} (hvs : LR j vs vs') {h' : AHeap}
    (e : aStore h a vs = some h') : ∃ w', (storeCells ⟨L.blk, L.off + a.off, none⟩ vs').run P w = .ok () w' ∧ Sim F w0 j h' w' := by
  unfold aStore at e
  split at e
  · simp at e
  · rename_i hs
    have hs' : a.spot = none := by simpa using hs
    split at e
    · rename_i c hc
      split at e
      · rename_i hle
        obtain ⟨hle, hcell⟩ := hle
        simp at e; subst e
        have hobj := S.obj _ _ hj
        rw [hc] at hobj
        obtain ⟨d, T, f, hb, hl, hd, hr, hfz, _⟩ := hobj
        have hlv := hvs.length
        unfold Loc.ext at hd hfz
        have hrun := run_storeCells_cells (P := P) L.blk (L.off + a.off) vs' 0 w
          (fun i hi => by rw [World.cell?_of hb]; simp; omega)
          (fun i hi => by
            have := hfz rfl (L.off + a.off + 0 + i) (by omega) (by omega)
            simp only [World.frozen?, hb]; exact this)
          (fun v hv => by
            obtain ⟨i, hi⟩ := List.getElem?_of_mem hv
            have hlt : i < vs.length := by rw [hlv]; exact (List.getElem?_eq_some_iff.1 hi).1
            have hrel := hvs.rel i _ _ (List.getElem?_eq_getElem hlt) hi
            refine isCell_oneCell ?_
            rw [hrel.isCell]
            exact (List.all_eq_true.1 hcell) _ (List.getElem_mem hlt))
        refine ⟨_, hrun, ?_⟩
        obtain ⟨d', g1, g2, g3⟩ := heap_setCells_same L.blk T f vs' (L.off + a.off + 0) w d hb
        refine S.turnG hj (mk := fun c => .cells c false) (.inl rfl) hc hb g1 (io_setCells _ _ _ _) g2 (heap_setCells_size _ _ _ _) (fun B hB => heap_setCells_other _ _ _ _ _ hB) (splice_length hle) ?_ ?_
        · intro i v hv
          rw [splice_get hle] at hv
          split at hv
          · rename_i hi
            obtain ⟨v', k1, k2⟩ := hvs.get hv
            refine ⟨v', ?_, k2⟩
            rw [g3, if_pos (by omega), ← k1]
            congr 1; omega
          · rename_i hi
            have hilt : i < c.length := (List.getElem?_eq_some_iff.1 hv).1
            obtain ⟨v', k1, k2⟩ := LR.slot hr i v hv
            refine ⟨v', ?_, k2⟩
            rw [g3, if_neg (by omega)]
            simpa using k1
        · intro o ho
          unfold Loc.ext at ho
          rw [g3, if_neg (by omega)]
      · simp at e
    · rename_i c t z hc
      split at e
      · rename_i hle
        obtain ⟨hle, hcell, hz⟩ := hle
        simp at e; subst e
        have hobj := S.obj _ _ hj
        rw [hc] at hobj
        obtain ⟨d, f, hb, hl, hd, hr, hfz, h0, _⟩ := hobj
        have hlv := hvs.length
        unfold Loc.ext at hd
        have hrun := run_storeCells_cells (P := P) L.blk (L.off + a.off) vs' 0 w
          (fun i hi => by rw [World.cell?_of hb]; simp; omega)
          (fun i hi => by
            have := hfz.free (o := L.off + a.off + 0 + i) (by omega) (by omega)
            simp only [World.frozen?, hb]; exact this)
          (fun v hv => by
            obtain ⟨i, hi⟩ := List.getElem?_of_mem hv
            have hlt : i < vs.length := by rw [hlv]; exact (List.getElem?_eq_some_iff.1 hi).1
            have hrel := hvs.rel i _ _ (List.getElem?_eq_getElem hlt) hi
            refine isCell_oneCell ?_
            rw [hrel.isCell]
            exact (List.all_eq_true.1 hcell) _ (List.getElem_mem hlt))
        refine ⟨_, hrun, ?_⟩
        obtain ⟨d', g1, g2, g3⟩ := heap_setCells_same L.blk t f vs' (L.off + a.off + 0) w d hb
        refine S.turnG hj (mk := fun c => .tcells c t z) (.inr ⟨t, z, rfl⟩) hc hb g1 (io_setCells _ _ _ _) g2 (heap_setCells_size _ _ _ _) (fun B hB => heap_setCells_other _ _ _ _ _ hB) (splice_length hle) ?_ ?_
        · intro i v hv
          rw [splice_get hle] at hv
          split at hv
          · rename_i hi
            obtain ⟨v', k1, k2⟩ := hvs.get hv
            refine ⟨v', ?_, k2⟩
            rw [g3, if_pos (by omega), ← k1]
            congr 1; omega
          · rename_i hi
            have hilt : i < c.length := (List.getElem?_eq_some_iff.1 hv).1
            obtain ⟨v', k1, k2⟩ := LR.slot hr i v hv
            refine ⟨v', ?_, k2⟩
            rw [g3, if_neg (by omega)]
            simpa using k1
        · intro o ho
          unfold Loc.ext at ho
          rw [g3, if_neg (by omega)]
      · simp at e
    · simp at e

/-! ## a new block -/

def Inj.put (j : Inj) (b : Nat) (L : Loc) : Inj := fun x => if x = b then some L else j x

theorem Inj.put_le {j : Inj} {b : Nat} {L : Loc} (hn : j b = none) : j.le (j.put b L) := by
  intro x M hx; unfold Inj.put; split
  · rename_i e; subst e; rw [hn] at hx; simp at hx
  · exact hx

theorem Inj.put_same (j : Inj) (b : Nat) (L : Loc) : j.put b L b = some L := by simp [Inj.put]

theorem Sim.fresh (S : Sim F w0 j h w) : j h.length = none := by
  cases e : j h.length with
  | none => rfl
  | some L => have := S.dom _ _ e; omega

theorem ObjR.world {j : Inj} {L : Loc} {w w' : World} (hw : w'.heap[L.blk]? = w.heap[L.blk]?) {o : Option AObj} (h : ObjR j L w o) : ObjR j L w' o := by
  match o, h with
  | some (.cells c2 ro2), ⟨d2, T2, f2, k1, k⟩ => exact ⟨d2, T2, f2, by rw [hw]; exact k1, k⟩
  | some (.tcells c2 t2 z2), ⟨d2, f2, k1, k⟩ => exact ⟨d2, f2, by rw [hw]; exact k1, k⟩
  | some (.map es clock), ⟨es', k1, k⟩ => exact ⟨es', by rw [hw]; exact k1, k⟩
  | some (.mapIter _ _ _ _), ⟨k0, m', k1, k⟩ => exact ⟨k0, m', by rw [hw]; exact k1, k⟩
  | some (.strIter _ _), ⟨k0, k1⟩ => exact ⟨k0, by rw [hw]; exact k1⟩
  | some (.spec _), ⟨k0, y, k1, k2⟩ => exact ⟨k0, y, by rw [hw]; exact k1, k2⟩
  | some .dead, _ => trivial
  | none, ho => exact ho.elim

theorem ObjR.mono {j j' : Inj} (hj : j.le j') {L : Loc} {w : World} {o : Option AObj} (h : ObjR j L w o) : ObjR j' L w o := by
  match o, h with
  | some (.cells c2 ro2), ⟨d2, T2, f2, k1, k2, k3, k4, k5⟩ => exact ⟨d2, T2, f2, k1, k2, k3, k4.mono hj, k5⟩
  | some (.tcells c2 t2 z2), ⟨d2, f2, k1, k2, k3, k4, k5⟩ => exact ⟨d2, f2, k1, k2, k3, k4.mono hj, k5⟩
  | some (.map es clock), ⟨es', k1, k2, k3⟩ => exact ⟨es', k1, k2.mono hj, k3⟩
  | some (.mapIter _ _ _ _), ⟨k0, m', k1, k⟩ =>
    refine ⟨k0, m', k1, ?_⟩
    rcases k with k | ⟨r, L', k, k', k''⟩
    · exact .inl k
    · exact .inr ⟨r, L', k, hj _ _ k', k''⟩
  | some (.strIter _ _), k => exact k
  | some (.spec _), ⟨k0, y, k1, k2⟩ => exact ⟨k0, y, k1, k2.mono hj⟩
  | some .dead, _ => trivial
  | none, ho => exact ho.elim

theorem ObjR.lt {j : Inj} {L : Loc} {w : World} {o : Option AObj} (h : ObjR j L w o) (B x : Nat) (ho : owns L o B x) : B < w.heap.size := by
  have key : ∀ {y : Obj}, w.heap[L.blk]? = some y → L.blk < w.heap.size := fun h => (Array.getElem?_eq_some_iff.1 h).1
  match o, h, ho with
  | some (.cells c2 ro2), ⟨d2, T2, f2, k1, k⟩, ⟨e, _⟩ => subst e; exact key k1
  | some (.tcells c2 t2 z2), ⟨d2, f2, k1, k⟩, e => cases e; exact key k1
  | some (.map es clock), ⟨es', k1, k⟩, e => cases e; exact key k1
  | some (.mapIter _ _ _ _), ⟨k0, m', k1, k⟩, e => cases e; exact key k1
  | some (.strIter _ _), ⟨k0, k1⟩, e => cases e; exact key k1
  | some (.spec _), ⟨k0, y, k1, _⟩, e => cases e; exact key k1

/-- a new concrete block stands for a new abstract one -/
theorem Sim.new (S : Sim F w0 j h w) {L : Loc} (hL : L.blk = w.heap.size) (o : AObj) {w' : World} {x : Obj} (hio : Io w w') (hw : w'.heap = w.heap.push x)
    (ho : ObjR (j.put h.length L) L w' (some o)) : Sim F w0 (j.put h.length L) (h ++ [o]) w' := by
  have hle : j.le (j.put h.length L) := Inj.put_le S.fresh
  have hget : ∀ B, B < w.heap.size → w'.heap[B]? = w.heap[B]? := by
    intro B hB; rw [hw, Array.getElem?_push]; simp; omega
  have hold : ∀ b, b < h.length → (h ++ [o])[b]? = h[b]? := fun b hb => List.getElem?_append_left hb
  have hnew : (h ++ [o])[h.length]? = some o := by simp
  have hput : ∀ b M, j.put h.length L b = some M → (b = h.length ∧ M = L) ∨ (b < h.length ∧ j b = some M) := by
    intro b M e; unfold Inj.put at e; split at e
    · injection e with e; exact .inl ⟨‹_›, e.symm⟩
    · exact .inr ⟨S.dom _ _ e, e⟩
  have hnewown : ∀ B x, owns L (some o) B x → B = w.heap.size := by
    intro B x h'; unfold owns at h'; split at h'
    · exact h'.1.trans hL
    · rw [h', hL]
    · rw [h', hL]
    · rw [h', hL]
    · rw [h', hL]
    · rw [h', hL]
    · exact h'.elim
  refine ⟨S.io.trans hio, by rw [hw]; have := S.size; simp; omega, ?_, S.below, ?_, ?_, ?_, ?_⟩
  · intro B x hF
    have hB := S.below B x hF
    have hs := S.size
    have := S.kept B x hF
    unfold keptAt at this ⊢
    rw [hget B (by omega)]; exact this
  · intro b M e
    rcases hput b M e with ⟨rfl, _⟩ | ⟨hb, _⟩ <;> simp <;> omega
  · intro b M e
    rcases hput b M e with ⟨rfl, rfl⟩ | ⟨hb, hj⟩
    · rw [hnew]; exact ho
    · rw [hold b hb]
      have hob := S.obj _ _ hj
      by_cases hd : ∃ B x, owns M h[b]? B x
      · obtain ⟨B, x, hx⟩ := hd
        refine (hob.mono hle).world (hget _ ?_)
        have := hob.lt B x hx
        revert hx; generalize h[b]? = ob; intro hx
        unfold owns at hx; split at hx
        · rw [← hx.1]; exact this
        · rw [← hx]; exact this
        · rw [← hx]; exact this
        · rw [← hx]; exact this
        · rw [← hx]; exact this
        · rw [← hx]; exact this
        · exact hx.elim
      · revert hob hd; generalize h[b]? = ob; intro hob hd
        have key : ∀ {y : Obj}, w.heap[M.blk]? = some y → w'.heap[M.blk]? = w.heap[M.blk]? := fun h => hget _ (Array.getElem?_eq_some_iff.1 h).1
        match ob, hob, hd with
        | some (.cells c2 ro2), ⟨d2, T2, f2, k1, k⟩, _ => exact ObjR.mono hle (ObjR.world (o := some (.cells c2 ro2)) (key k1) ⟨d2, T2, f2, k1, k⟩)
        | some (.tcells c2 t2 z2), ⟨d2, f2, k1, k⟩, _ => exact ObjR.mono hle (ObjR.world (o := some (.tcells c2 t2 z2)) (key k1) ⟨d2, f2, k1, k⟩)
        | some (.map es clock), ⟨es', k1, k⟩, _ => exact ObjR.mono hle (ObjR.world (o := some (.map es clock)) (key k1) ⟨es', k1, k⟩)
        | some (.mapIter _ _ _ _), ⟨k0, m', k1, k⟩, _ => exact ObjR.mono hle (ObjR.world (o := some (.mapIter _ _ _ _)) (key k1) ⟨k0, m', k1, k⟩)
        | some (.strIter _ _), ⟨k0, k1⟩, _ => exact ObjR.mono hle (ObjR.world (o := some (.strIter _ _)) (key k1) ⟨k0, k1⟩)
        | some (.spec x), ⟨k0, y, k1, k2⟩, _ => exact ObjR.mono hle (ObjR.world (o := some (.spec x)) (key k1) ⟨k0, y, k1, k2⟩)
        | some .dead, _, _ => trivial
        | none, hob, _ => exact hob.elim
  · intro b M e hr B x hx hF
    have hB := S.below B x hF
    have hs := S.size
    rcases hput b M e with ⟨rfl, rfl⟩ | ⟨hb, hj⟩
    · rw [hnew] at hx
      have := hnewown B x hx; omega
    · rw [hold b hb] at hr hx; exact S.own b M hj hr B x hx hF
  · intro b1 b2 L1 L2 hne e1 e2 hr B x h1 h2
    rcases hput b1 L1 e1 with ⟨rfl, rfl⟩ | ⟨hb1, hj1⟩
    · rcases hput b2 L2 e2 with ⟨rfl, rfl⟩ | ⟨hb2, hj2⟩
      · exact hne rfl
      · rw [hnew] at h1; rw [hold b2 hb2] at h2
        have := hnewown B x h1
        have := (S.obj _ _ hj2).lt B x h2
        omega
    · rcases hput b2 L2 e2 with ⟨rfl, rfl⟩ | ⟨hb2, hj2⟩
      · rw [hnew] at h2; rw [hold b1 hb1] at h1
        have := hnewown B x h2
        have := (S.obj _ _ hj1).lt B x h1
        omega
      · rw [hold b1 hb1] at h1 hr; rw [hold b2 hb2] at h2
        exact S.apart b1 b2 L1 L2 hne hj1 hj2 hr B x h1 h2

end Go.Fm

namespace Go.Fm

/-- a tree of the model's that asks nothing of memory -/
def semPure (P : Program) {α : Type} : Sem α → Option α
  | .pure a => some a
  | .program k => semPure P (k P)
  | _ => none

theorem semPure_run {P : Program} {α : Type} {s : Sem α} {a : α} (h : semPure P s = some a) (w : World) : s.run P w = .ok a w := by
  induction s with
  | pure b => simp [semPure] at h; subst h; rfl
  | program k ih => simp only [semPure] at h; simpa [Sem.run] using ih P h
  | _ => simp [semPure] at h

def scalarB : Value → Bool
  | .bool _ | .int _ _ | .float _ _ | .complex _ _ _ | .string _ | .pointer none | .slice none _ _ | .map none | .chan none | .nilFunc | .nilIface => true
  | _ => false

def flat1 : Value → Bool
  | .iface _ v => scalarB v
  | v => scalarB v

def flatB : Value → Bool
  | .agg cs | .tuple cs => cs.toList.all flat1
  | v => flat1 v

theorem scalarB_flat {v : Value} (h : scalarB v = true) : Flat v := by
  cases v with
  | pointer a => cases a <;> simp [scalarB] at h; exact .pnil
  | slice a => cases a <;> simp [scalarB] at h; exact .snil _ _
  | map a => cases a <;> simp [scalarB] at h; exact .mnil
  | chan a => cases a <;> simp [scalarB] at h; exact .cnil
  | _ => first | (simp [scalarB] at h; done) | constructor

theorem flat1_flat {v : Value} (h : flat1 v = true) : Flat v := by
  cases v with
  | iface t x => exact .iface t (scalarB_flat h)
  | _ => exact scalarB_flat (by simpa [flat1] using h)

theorem flatB_flat {v : Value} (h : flatB v = true) : Flat v := by
  cases v with
  | agg cs =>
    refine .agg fun i v e => flat1_flat ?_
    simp only [flatB, List.all_eq_true] at h
    exact h v (by simpa using Array.mem_of_getElem? e)
  | tuple cs =>
    refine .tuple fun i v e => flat1_flat ?_
    simp only [flatB, List.all_eq_true] at h
    exact h v (by simpa using Array.mem_of_getElem? e)
  | _ => exact flat1_flat (by simpa [flatB] using h)

variable (P : Program)

def aIsAgg (t : TypeId) : Option Bool :=
  match P.underlying t with
  | some (.struct _) | some (.array _ _) => some true
  | some _ => some false
  | none => none

def aSize (t : TypeId) : Option Nat := (P.info? t).map (·.size)

def aZero (t : TypeId) : Option Value :=
  match (P.info? t).bind (·.zero) with
  | some z => if flatB z then some z else none
  | none => none

def aPart (t : TypeId) (cs : Array Value) (off : Nat) : Option Value :=
  match aIsAgg P t with
  | some true => (aSize P t).bind fun n => some (.agg (cs.extract off (off + n)))
  | some false => cs[off]?
  | none => none

def aNilCheck : Value → Option Value
  | .pointer none | .nilIface | .nilFunc => none
  | .func (.method _) _ _ => none
  | .chan (some _) => none
  | x => some x

def aFieldAddr (s : TypeId) (v : Value) (f : Nat) : Option Value :=
  match P.underlying s, v with
  | some (.struct fs), .pointer (some ⟨b, o, none⟩) =>
    match fs[f]? with
    | some fd => (aSize P fd.type).bind fun n => if n = 0 then none else some (.pointer (some ⟨b, o + fd.offset, none⟩))
    | none => none
  | _, _ => none

def aField (t : TypeId) (v : Value) (f : Nat) : Option Value :=
  match P.underlying t, v with
  | some (.struct fs), .agg cs =>
    match fs[f]? with
    | some fd => aPart P fd.type cs fd.offset
    | none => none
  | _, _ => none

def aIndex (t : TypeId) (v i : Value) : Option Value :=
  match P.underlying t, v, i with
  | some (.array len elem), .agg cs, .int _ n => if 0 ≤ n ∧ n < len then (aSize P elem).bind fun s => aPart P elem cs (n.toNat * s) else none
  | some .string, .string s, .int _ n => if 0 ≤ n then (s[n.toNat]?).map fun b => .int .u8 b.toNat else none
  | _, _, _ => none

def aIndexAddr (t : TypeId) (v i : Value) : Option Value :=
  match P.underlying t, v, i with
  | some (.array len elem), .pointer (some ⟨b, o, none⟩), .int _ n =>
    if 0 ≤ n ∧ n < len then (aSize P elem).bind fun s => some (.pointer (some ⟨b, o + n.toNat * s, none⟩)) else none
  | some (.slice elem), .slice (some ⟨b, o, _⟩) len _, .int _ n =>
    if 0 ≤ n ∧ n < len then (aSize P elem).bind fun s => some (.pointer (some ⟨b, o + n.toNat * s, none⟩)) else none
  | _, _, _ => none

/-- a bound of a slice expression: from 0 to y -/
def aBound (y : Nat) : Option Value → Nat → Option Nat
  | none, d => some d
  | some (.int _ n), _ => if 0 ≤ n ∧ n ≤ y then some n.toNat else none
  | some _, _ => none

def aSlice (t : TypeId) (v : Value) (lo hi mx : Option Value) : Option Value :=
  match P.underlying t, v with
  | some .string, .string s =>
    if mx.isSome then none else
    (aBound s.size hi s.size).bind fun h => (aBound h lo 0).bind fun l => some (.string (s.extract l h))
  | some (.slice elem), .slice (some ⟨b, o, sp⟩) len cap =>
    (aBound cap mx cap).bind fun m => (aBound m hi len).bind fun h => (aBound h lo 0).bind fun l => (aSize P elem).bind fun s =>
      if (mx.isSome && hi.isNone) || (len > cap) then none else
      if mx.isSome || sp.isNone then some (.slice (some ⟨b, o + l * s, none⟩) (h - l) (m - l))
      else if sp = some s then some (.slice (some ⟨b, o + l * s, sp⟩) (h - l) (m - l)) else none
  | some (.slice elem), .slice none len cap =>
    (aBound cap mx cap).bind fun m => (aBound m hi len).bind fun h => (aBound h lo 0).bind fun l => (aSize P elem).bind fun _ =>
      if mx.isSome && hi.isNone then none else some (.slice none (h - l) (m - l))
  | some (.array n elem), .pointer (some ⟨b, o, none⟩) =>
    (aBound n mx n).bind fun m => (aBound m hi n).bind fun h => (aBound h lo 0).bind fun l => (aSize P elem).bind fun s =>
      if mx.isSome && hi.isNone then none else some (.slice (some ⟨b, o + l * s, none⟩) (h - l) (m - l))
  | _, _ => none

def aExtract (v : Value) (i : Nat) : Option Value :=
  match v with
  | .tuple vs => vs[i]?
  | _ => none

def aMakeIface (t : TypeId) (v : Value) : Option Value :=
  match P.underlying t with
  | some (.interface _) => none
  | some _ => some (.iface t v)
  | none => none

/-- == and != on what is no plain value: pointers, slices, maps, functions, interfaces -/
def aSame (t : TypeId) (x y : Value) : Option Bool :=
  match P.underlying t, x, y with
  | some (.pointer _), .pointer (some _), .pointer none | some (.pointer _), .pointer none, .pointer (some _) => some false
  | some (.pointer e), .pointer (some ⟨b, o, none⟩), .pointer (some ⟨b', o', none⟩) =>
    if b = b' then (aSize P e).bind fun n => if n = 0 then none else some (o == o') else none
  | some (.slice _), .slice (some _) _ _, .slice none _ _ | some (.slice _), .slice none _ _, .slice (some _) _ _ => some false
  | some (.map _ _), .map (some _), .map none | some (.map _ _), .map none, .map (some _) => some false
  | some (.func _ _ _), .func _ _ _, .nilFunc | some (.func _ _ _), .nilFunc, .func _ _ _ => some false
  | some (.interface _), .iface _ _, .nilIface | some (.interface _), .nilIface, .iface _ _ => some false
  | some (.interface _), .iface t _, .iface u _ => if t = u then none else some false
  | _, _, _ => none

def aUn (op : UnOp) (a : Value) : Option Value := if flatB a then semPure P (Op.unary op a) else none

def aLen (t : TypeId) (v : Value) : Option Value :=
  match P.underlying t, v with
  | some .string, .string s => some (goInt s.size)
  | some (.array n _), _ => some (goInt n)
  | some (.pointer arr), _ =>
    match P.underlying arr with
    | some (.array n _) => some (goInt n)
    | _ => none
  | some (.slice _), .slice _ n _ => some (goInt n)
  | _, _ => none

def aAssertTo (_x : Value) (asserted : TypeId) (commaOk : Bool) (v : Value) (ok : Bool) : Option Value :=
  if ok then some (if commaOk then .tuple #[v, .bool true] else v)
  else if commaOk then (aZero P asserted).map fun z => .tuple #[z, .bool false] else none

def aTypeAssert (x : Value) (asserted : TypeId) (commaOk : Bool) : Option Value :=
  match P.underlying asserted, x with
  | some (.interface _), .nilIface => aAssertTo P x asserted commaOk x false
  | some (.interface want), .iface t _ =>
    match P.info? t with
    | some i => aAssertTo P x asserted commaOk x (Instr.missingMethod want i.methods).isNone
    | none => none
  | some _, .nilIface => aAssertTo P x asserted commaOk x false
  | some _, .iface t v => aAssertTo P x asserted commaOk v (decide (t = asserted))
  | _, _ => none

/-! ## they are sound -/

variable {P}
variable {j : Inj}

theorem run_sizeOf' {t : TypeId} {n : Nat} (h : aSize P t = some n) (w : World) : (sizeOf t).run P w = .ok n w := by
  unfold aSize at h
  cases hi : P.info? t with
  | none => simp [hi] at h
  | some i => simp [hi] at h; subst h; simp [sizeOf, typeInfo, hi]

theorem run_zero' {t : TypeId} {z : Value} (h : aZero P t = some z) (w : World) : (zeroValue t).run P w = .ok z w ∧ Flat z := by
  unfold aZero at h
  cases hi : P.info? t with
  | none => simp [hi] at h
  | some i =>
    simp only [hi, Option.bind_some] at h
    cases hz : i.zero with
    | none => simp [hz] at h
    | some z' =>
      simp only [hz] at h
      split at h
      · rename_i hf
        simp at h; subst h
        exact ⟨by simp [zeroValue, typeInfo, hi, hz], flatB_flat hf⟩
      · simp at h

theorem aIsAgg_true {t : TypeId} (h : aIsAgg P t = some true) (w : World) : (isAgg t).run P w = .ok true w := by
  unfold aIsAgg at h
  split at h
  · rename_i fs hu; simp [isAgg, run_underlying hu]
  · rename_i n e hu; simp [isAgg, run_underlying hu]
  · simp at h
  · simp at h

theorem aIsAgg_false {t : TypeId} (h : aIsAgg P t = some false) (w : World) : (isAgg t).run P w = .ok false w := by
  unfold aIsAgg at h
  split at h
  · simp at h
  · simp at h
  · rename_i d h1 h2 hu
    unfold isAgg
    simp only [Sem.run_bind, run_underlying hu, Result.andThen_ok]
    cases d <;> simp_all
  · simp at h

theorem AR.get {x x' : Array Value} (h : AR j x x') {i : Nat} {v : Value} (e : x[i]? = some v) : ∃ v', x'[i]? = some v' ∧ VR j v v' := by
  have hlt : i < x.size := (Array.getElem?_eq_some_iff.1 e).1
  have hlt' : i < x'.size := by rw [← h.1]; exact hlt
  exact ⟨_, Array.getElem?_eq_getElem hlt', h.2 i _ _ e (Array.getElem?_eq_getElem hlt')⟩

theorem aPart_sim {t : TypeId} {cs cs' : Array Value} (hc : AR j cs cs') {off : Nat} {v : Value} (h : aPart P t cs off = some v) :
    ∃ v', VR j v v' ∧ ∀ w, (part t cs' off).run P w = .ok v' w := by
  unfold aPart at h
  split at h
  · rename_i ha
    cases hs : aSize P t with
    | none => simp [hs] at h
    | some n =>
      simp [hs] at h; subst h
      refine ⟨.agg (cs'.extract off (off + n)), VR.agg' ?_, fun w => by simp [part, aIsAgg_true ha, run_sizeOf' hs]⟩
      simp only [Array.toList_extract]
      exact (hc.toLR.drop _).take _
  · rename_i ha
    obtain ⟨v', h1, h2⟩ := hc.get h
    exact ⟨v', h2, fun w => by simp [part, aIsAgg_false ha, h1]⟩
  · simp at h

theorem aFieldAddr_sim {s : TypeId} {v v' r : Value} {f : Nat} (hv : VR j v v') (h : aFieldAddr P s v f = some r) :
    ∃ r', VR j r r' ∧ ∀ w, (Instr.fieldAt s v' f).run P w = .ok r' w := by
  unfold aFieldAddr at h
  split at h
  · rename_i fs b o hu
    cases hv with
    | ptr hj =>
      split at h
      · rename_i fd hf
        cases hs : aSize P fd.type with
        | none => simp [hs] at h
        | some n =>
          simp only [hs, Option.bind_some] at h
          split at h
          · simp at h
          · rename_i hn
            simp at h; subst h
            refine ⟨_, .ptr hj, fun w => ?_⟩
            simp [Instr.fieldAt, run_underlying hu, hf, Instr.sureAddr, fieldPlace, run_sizeOf' hs, hn, Addr.add_none, Nat.add_assoc]
      · simp at h
  · simp at h

theorem aField_sim {s : TypeId} {v v' r : Value} {f : Nat} (hv : VR j v v') (h : aField P s v f = some r) :
    ∃ r', VR j r r' ∧ ∀ w, (Instr.field s v' f).run P w = .ok r' w := by
  unfold aField at h
  split at h
  · rename_i fs cs hu
    cases hv with
    | agg h1 h2 =>
      split at h
      · rename_i fd hf
        obtain ⟨r', k1, k2⟩ := aPart_sim ⟨h1, h2⟩ h
        exact ⟨r', k1, fun w => by simp [Instr.field, run_underlying hu, hf, asAgg, k2]⟩
      · simp at h
  · simp at h

theorem aIndex_sim {s : TypeId} {v v' i i' r : Value} (hv : VR j v v') (hi : VR j i i') (h : aIndex P s v i = some r) :
    ∃ r', VR j r r' ∧ ∀ w, (Instr.index s v' i').run P w = .ok r' w := by
  unfold aIndex at h
  split at h
  · rename_i len elem cs k n hu
    cases hi
    cases hv with
    | agg h1 h2 =>
      split at h
      · rename_i hn
        cases hs : aSize P elem with
        | none => simp [hs] at h
        | some m =>
          simp only [hs, Option.bind_some] at h
          obtain ⟨r', k1, k2⟩ := aPart_sim ⟨h1, h2⟩ h
          exact ⟨r', k1, fun w => by simp [Instr.index, run_underlying hu, asIntOf, hn, run_sizeOf' hs, k2]⟩
      · simp at h
  · rename_i s k n hu
    cases hi; cases hv
    split at h
    · rename_i hn
      cases hb : s[n.toNat]? with
      | none => simp [hb] at h
      | some b =>
        simp [hb] at h; subst h
        exact ⟨_, .int _ _, fun w => by simp [Instr.index, run_underlying hu, asIntOf, hn, hb]⟩
    · simp at h
  · simp at h

theorem aIndexAddr_sim {s : TypeId} {v v' i i' r : Value} (hv : VR j v v') (hi : VR j i i') (h : aIndexAddr P s v i = some r) :
    ∃ r', VR j r r' ∧ ∀ w, (Instr.indexAt s v' i').run P w = .ok r' w := by
  unfold aIndexAddr at h
  split at h
  · rename_i len elem b o k n hu
    cases hi
    cases hv with
    | ptr hj =>
      split at h
      · rename_i hn
        cases hs : aSize P elem with
        | none => simp [hs] at h
        | some m =>
          simp [hs] at h; subst h
          exact ⟨_, .ptr hj, fun w => by simp [Instr.indexAt, run_underlying hu, asIntOf, Instr.sureAddr, hn, run_sizeOf' hs, Addr.add_none, Nat.add_assoc]⟩
      · simp at h
  · rename_i elem b o sp len c k n hu
    cases hi
    split at h
    · rename_i hn
      cases hs : aSize P elem with
      | none => simp [hs] at h
      | some m =>
        simp [hs] at h; subst h
        cases hv with
        | slice l c hj => exact ⟨_, .ptr hj, fun w => by simp [Instr.indexAt, run_underlying hu, asIntOf, hn, run_sizeOf' hs, Addr.add_none, Nat.add_assoc]⟩
        | oslice l c hj he hc => exact ⟨_, .ptr hj, fun w => by simp [Instr.indexAt, run_underlying hu, asIntOf, hn, run_sizeOf' hs, Addr.add_none, Nat.add_assoc]⟩
        | slice0 => omega
    · simp at h
  · simp at h

theorem aBound_sim {y y' : Nat} (hy : y ≤ y') {o o' : Option Value} (ho : ∀ v, o = some v → ∃ v', o' = some v' ∧ VR j v v') (hn : o = none → o' = none) {d d' n : Nat} (hd : o = none → d' = d)
    (c : BoundsCode) (h : aBound y o d = some n) :
    ∀ w, (match o' with | some v => Instr.sliceBound v y' c | none => (pure d' : Sem Nat)).run P w = .ok n w := by
  intro w
  cases o with
  | none => simp [aBound] at h; subst h; rw [hn rfl, hd rfl]; rfl
  | some v =>
    obtain ⟨v', rfl, hv⟩ := ho v rfl
    unfold aBound at h
    split at h
    · rename_i heq; simp at heq
    · rename_i k m heq
      injection heq with heq; subst heq
      cases hv
      split at h
      · rename_i hm
        simp at h; subst h
        simp [Instr.sliceBound, asIntOf, show 0 ≤ m ∧ m ≤ (y' : Int) from ⟨hm.1, by omega⟩]
      · simp at h
    · simp at h

def OR (j : Inj) (o o' : Option Value) : Prop := (∀ v, o = some v → ∃ v', o' = some v' ∧ VR j v v') ∧ (o = none → o' = none)

theorem sliceBounds_sim (b : Bool) {len cap cap' : Nat} (hcap : cap ≤ cap') {lo lo' hi hi' mx mx' : Option Value} (h1 : OR j lo lo') (h2 : OR j hi hi') (h3 : OR j mx mx')
    {m h l : Nat} (em : aBound cap mx cap = some m) (eh : aBound m hi len = some h) (el : aBound h lo 0 = some l) (hbad : (mx.isSome && hi.isNone) = false) :
    ∀ w, (Instr.sliceBounds b len cap' lo' hi' mx').run P w = .ok (l, h, if mx.isSome then m else cap') w := by
  intro w
  have l1 := fun (c : BoundsCode) => aBound_sim (P := P) (j := j) (y := h) (y' := h) (Nat.le_refl _) h1.1 h1.2 (d := 0) (d' := 0) (fun _ => rfl) c el
  cases mx with
  | none =>
    rw [h3.2 rfl]
    simp [aBound] at em; subst em
    have l2 := fun (c : BoundsCode) => aBound_sim (P := P) (j := j) (y := cap) (y' := cap') hcap h2.1 h2.2 (d := len) (d' := len) (fun _ => rfl) c eh
    have l1a := l1 .sliceB
    have l2a := l2 (if b then .sliceAcap else .sliceAlen)
    unfold Instr.sliceBounds
    simp only [Sem.run_bind, Option.isSome_none, Bool.false_eq_true, if_false]
    cases hi' with
    | none =>
      have l2b := l2a w
      simp at l2b
      cases lo' with
      | none => have := l1a w; simp at this; simp [this, l2b]
      | some v => have := l1a w; simp at this; simp [this, l2b]
    | some u =>
      have l2b := l2a w
      simp at l2b
      cases lo' with
      | none => have := l1a w; simp at this; simp [this, l2b]
      | some v => have := l1a w; simp at this; simp [this, l2b]
  | some mv =>
    obtain ⟨mv', rfl, hmv⟩ := h3.1 mv rfl
    have lm := aBound_sim (P := P) (j := j) (y := cap) (y' := cap') hcap h3.1 h3.2 (d := cap) (d' := cap) (fun _ => rfl) (if b then .slice3Acap else .slice3Alen) em w
    simp only at lm
    have l2 := aBound_sim (P := P) (j := j) (y := m) (y' := m) (Nat.le_refl _) h2.1 h2.2 (d := len) (d' := len) (fun _ => rfl) .slice3B eh w
    have l1a := l1 .slice3C w
    cases hi with
    | none => simp at hbad
    | some u =>
      obtain ⟨u', rfl, hu⟩ := h2.1 u rfl
      simp only at l2
      unfold Instr.sliceBounds
      simp only [Sem.run_bind, lm, Result.andThen_ok, l2, Option.isSome_some, if_true]
      cases lo' with
      | none => simp at l1a; simp [l1a]
      | some v => simp at l1a; simp [l1a]

theorem aBound_le {y : Nat} {o : Option Value} {d n : Nat} (hd : d ≤ y) (h : aBound y o d = some n) : n ≤ y := by
  unfold aBound at h
  split at h
  · simp at h; omega
  · split at h
    · simp at h; omega
    · simp at h
  · simp at h

theorem aSlice_sim {t : TypeId} {v v' r : Value} {lo lo' hi hi' mx mx' : Option Value} (hv : VR j v v') (h1 : OR j lo lo') (h2 : OR j hi hi') (h3 : OR j mx mx')
    (h : aSlice P t v lo hi mx = some r) : ∃ r', VR j r r' ∧ ∀ w, (Instr.sliceAt t v' lo' hi' mx').run P w = .ok r' w := by
  unfold aSlice at h
  split at h
  · rename_i s hu
    cases hv
    split at h
    · simp at h
    · rename_i hmx
      cases eh : aBound s.size hi s.size with
      | none => simp [eh] at h
      | some hh =>
        cases el : aBound hh lo 0 with
        | none => simp [eh, el] at h
        | some l =>
          simp [eh, el] at h; subst h
          have hm : mx = none := by simpa using hmx
          subst hm
          have hm' := h3.2 rfl
          subst hm'
          refine ⟨_, .string _, fun w => ?_⟩
          have := sliceBounds_sim (P := P) (j := j) false (Nat.le_refl s.size) h1 h2 h3 (m := s.size) (by simp [aBound]) eh el rfl w
          simp only [Option.isSome_none, Bool.false_eq_true, if_false] at this
          simp [Instr.sliceAt, Instr.slice, run_underlying hu, this]
  · rename_i elem b o sp len cap hu
    cases em : aBound cap mx cap with
    | none => simp [em] at h
    | some m =>
    cases eh : aBound m hi len with
    | none => simp [em, eh] at h
    | some hh =>
    cases el : aBound hh lo 0 with
    | none => simp [em, eh, el] at h
    | some l =>
    cases hs : aSize P elem with
    | none => simp [em, hs] at h
    | some s =>
    simp only [em, eh, el, hs, Option.bind_some] at h
    split at h
    · simp at h
    · rename_i hbad
      simp only [Bool.or_eq_true, decide_eq_true_eq, not_or, Bool.not_eq_true, Nat.not_lt, gt_iff_lt] at hbad
      obtain ⟨hbad, hlc⟩ := hbad
      have hmc : m ≤ cap := aBound_le (Nat.le_refl _) em
      have hlh : l ≤ hh := aBound_le (Nat.zero_le _) el
      have fin : ∀ (cap' : Nat) (a' : Addr) (_ : cap ≤ cap') (w : World), (Instr.sliceAt t (.slice (some a') len cap') lo' hi' mx').run P w =
          .ok (.slice (if (if mx.isSome then m else cap') = l then some a' else some (a'.add (l * s))) (hh - l) ((if mx.isSome then m else cap') - l)) w := by
        intro cap' a' hcc w
        have := sliceBounds_sim (P := P) (j := j) true hcc h1 h2 h3 em eh el hbad w
        simp [Instr.sliceAt, Instr.slice, run_underlying hu, this, run_sizeOf' hs]
      have hmnone : mx.isSome = false → m = cap := by
        intro hn; cases mx with
        | none => simpa [aBound] using em.symm
        | some _ => simp at hn
      split at h
      · -- exact
        rename_i hex
        simp at h; subst h
        cases hv with
        | slice _ _ hj =>
          refine ⟨_, ?_, fun w => fin cap _ (Nat.le_refl _) w⟩
          have hmm : (if mx.isSome then m else cap) = m := by split; rfl; rename_i hn; exact (hmnone (by simpa using hn)).symm
          rw [hmm]
          by_cases e : m = l
          · have hhl : hh - l = 0 := by have := aBound_le (y := m) (d := len) (o := hi) (n := hh); subst e; rcases Nat.lt_or_ge m hh with hx | hx
                                        · exfalso
                                          cases hi with
                                          | none =>
                                            simp [aBound] at eh; subst eh
                                            cases mx with
                                            | none => simp [aBound] at em; omega
                                            | some _ => simp at hbad
                                          | some hv => unfold aBound at eh; split at eh <;> simp_all; omega
                                        · omega
            rw [if_pos e, hhl, e, Nat.sub_self]; exact .slice0 _ _
          · rw [if_neg e, Addr.add_none, Nat.add_assoc]; exact .slice _ _ hj
        | oslice _ _ hj he hc =>
          have hsome : mx.isSome = true := by simpa using hex
          refine ⟨_, ?_, fun w => fin _ _ (Nat.le_add_right _ _) w⟩
          rw [if_pos hsome]
          by_cases e : m = l
          · have hhl : hh - l = 0 := by
              rcases Nat.lt_or_ge m hh with hx | hx
              · exfalso
                cases hi with
                | none => simp [hsome] at hbad
                | some hv => unfold aBound at eh; split at eh <;> simp_all; omega
              · omega
            rw [if_pos e, hhl, e, Nat.sub_self]; exact .slice0 _ _
          · rw [if_neg e, Addr.add_none, Nat.add_assoc]; exact .slice _ _ hj
        | slice0 a a' =>
          have hm0 : m = 0 := by omega
          have hh0 : hh = 0 := by
            cases hi with
            | none => simp [aBound] at eh; omega
            | some hv => unfold aBound at eh; split at eh <;> simp_all; omega
          have hl0 : l = 0 := by omega
          subst hm0 hh0 hl0
          refine ⟨_, ?_, fun w => fin 0 _ (Nat.le_refl _) w⟩
          have : (if mx.isSome = true then 0 else 0) = 0 := by split <;> rfl
          rw [this, if_pos rfl]; simp; exact .slice0 _ _
      · rename_i hex
        split at h
        · rename_i hsp
          simp at h; subst h; subst hsp
          have hn : mx.isSome = false := by simpa using hex
          have hm := hmnone hn
          subst hm
          cases hv with
          | oslice _ _ hj he hc =>
            rename_i L
            refine ⟨_, ?_, fun w => fin _ _ (Nat.le_add_right _ _) w⟩
            have hmm : (if mx.isSome = true then m else m + L.extra) = m + L.extra := by simp [hn]
            rw [hmm]
            have hh1 : hh ≤ m := by
              cases hi with
              | none => simp [aBound] at eh; omega
              | some hv => exact aBound_le hlc eh
            by_cases e : m + L.extra = l
            · have : L.extra = 0 := by omega
              rw [if_pos e, show m + L.extra - l = 0 by omega, show m - l = 0 by omega, show hh - l = 0 by omega]; exact .slice0 _ _
            · rw [if_neg e, Addr.add_none, Nat.add_assoc, show m + L.extra - l = (m - l) + L.extra by omega]
              refine .oslice _ _ hj he ?_
              rw [← hc, Nat.add_assoc, ← Nat.add_mul]; congr 2; omega
          | slice0 a a' =>
            have hh0 : hh = 0 := by
              cases hi with
              | none => simp [aBound] at eh; omega
              | some hv => unfold aBound at eh; split at eh <;> simp_all; omega
            have hl0 : l = 0 := by omega
            subst hh0 hl0
            refine ⟨_, ?_, fun w => fin 0 _ (Nat.le_refl _) w⟩
            have : (if mx.isSome = true then 0 else 0) = 0 := by split <;> rfl
            rw [this, if_pos rfl]; simp; exact .slice0 _ _
        · simp at h
  · rename_i elem len cap hu
    cases hv
    cases em : aBound cap mx cap with
    | none => simp [em] at h
    | some m =>
    cases eh : aBound m hi len with
    | none => simp [em, eh] at h
    | some hh =>
    cases el : aBound hh lo 0 with
    | none => simp [em, eh, el] at h
    | some l =>
    cases hs : aSize P elem with
    | none => simp [em, hs] at h
    | some s =>
    simp only [em, eh, el, hs, Option.bind_some] at h
    split at h
    · simp at h
    · rename_i hbad
      simp at h; subst h
      refine ⟨_, .snil _ _, fun w => ?_⟩
      have := sliceBounds_sim (P := P) (j := j) true (Nat.le_refl cap) h1 h2 h3 em eh el (by revert hbad; cases mx <;> cases hi <;> simp) w
      have hmm : (if mx.isSome then m else cap) = m := by
        split; rfl; rename_i hn
        cases mx with
        | none => simpa [aBound] using em
        | some _ => simp at hn
      rw [hmm] at this
      simp [Instr.sliceAt, Instr.slice, run_underlying hu, this, run_sizeOf' hs]
  · rename_i n elem b o hu
    cases hv with
    | ptr hj =>
    cases em : aBound n mx n with
    | none => simp [em] at h
    | some m =>
    cases eh : aBound m hi n with
    | none => simp [em, eh] at h
    | some hh =>
    cases el : aBound hh lo 0 with
    | none => simp [em, eh, el] at h
    | some l =>
    cases hs : aSize P elem with
    | none => simp [em, hs] at h
    | some s =>
    simp only [em, eh, el, hs, Option.bind_some] at h
    split at h
    · simp at h
    · rename_i hbad
      simp at h; subst h
      have := sliceBounds_sim (P := P) (j := j) false (Nat.le_refl n) h1 h2 h3 em eh el (by revert hbad; cases mx <;> cases hi <;> simp)
      have hmm : (if mx.isSome then m else n) = m := by
        split; rfl; rename_i hn
        cases mx with
        | none => simpa [aBound] using em
        | some _ => simp at hn
      rw [hmm] at this
      refine ⟨_, ?_, fun w => by simp [Instr.sliceAt, run_underlying hu, Instr.sureAddr, this, run_sizeOf' hs]; rfl⟩
      by_cases e : m = l
      · have hhm : hh ≤ m := by
          cases hi with
          | none =>
            simp [aBound] at eh; subst eh
            cases mx with
            | none => simp [aBound] at em; omega
            | some _ => simp at hbad
          | some hv => unfold aBound at eh; split at eh <;> simp_all; omega
        have hlh : l ≤ hh := aBound_le (Nat.zero_le _) el
        rw [if_pos e, show hh - l = 0 by omega, show m - l = 0 by omega]; exact .slice0 _ _
      · rw [if_neg e, Addr.add_none, Nat.add_assoc]; exact .slice _ _ hj
  · simp at h

end Go.Fm

namespace Go.Fm

variable {P : Program} {j : Inj}

theorem aUn_sim {op : UnOp} {v v' r : Value} (hv : VR j v v') (h : aUn P op v = some r) : (∃ r', VR j r r' ∧ ∀ w, (Op.unary op v').run P w = .ok r' w) := by
  unfold aUn at h
  split at h
  · rename_i hf
    have hfl := flatB_flat hf
    have := hfl.eq hv; subst this
    refine ⟨r, ?_, semPure_run h⟩
    unfold Op.unary at h
    split at h
    · simp [Op.intArith, semPure, pure] at h; subst h; exact .int _ _
    · simp [Op.intBits, semPure, pure] at h; subst h; exact .int _ _
    · simp [semPure, pure] at h; subst h; exact .float _ _
    · simp [semPure, pure] at h; subst h; exact .complex _ _ _
    · simp [semPure, pure] at h; subst h; exact .bool _
    · simp [semPure, unsupported] at h
    · simp [semPure, unsupported] at h
    · simp [semPure, stuck] at h
  · simp at h

/-- what comes out of a plain operation is plain: asked, not proved, operation by operation -/
def semFlat (P : Program) (s : Sem Value) : Option Value :=
  match semPure P s with
  | some v => if flatB v then some v else none
  | none => none

theorem semFlat_run {s : Sem Value} {v : Value} (h : semFlat P s = some v) : Flat v ∧ ∀ w, s.run P w = .ok v w := by
  unfold semFlat at h
  split at h
  · rename_i u hu
    split at h
    · rename_i hf; simp at h; subst h; exact ⟨flatB_flat hf, semPure_run hu⟩
    · simp at h
  · simp at h

/-- a plain operation of two operands -/
def aBin2 (P : Program) (op : BinOp) (t : TypeId) (x y : Operand) (a b : Value) : Option Value :=
  if flatB a && flatB b then semFlat P (do eqGuard op t x y a b; binOp op t a b) else
  match op with
  | .eql => (aSame P t a b).map .bool
  | .neq => (aSame P t a b).map fun r => .bool !r
  | _ => none

set_option maxHeartbeats 1000000 in
theorem aSame_in {t : TypeId} {a a' b b' : Value} {r : Bool} (ha : VR j a a') (hb : VR j b b') (h : aSame P t a b = some r) (w : World) (d : Nat) :
    (Op.equalIn (d + 1) t a' b').run P w = .ok r w := by
  unfold aSame at h
  split at h
  · rename_i hu; simp at h; subst h; cases ha; cases hb; simp [Op.equalIn, run_underlying hu]
  · rename_i hu; simp at h; subst h; cases ha; cases hb; simp [Op.equalIn, run_underlying hu]
  · rename_i e b1 o1 b2 o2 hu
    cases ha with
    | ptr hj1 =>
      cases hb with
      | ptr hj2 =>
        split at h
        · rename_i hbb
          subst hbb
          rename_i L L2; rw [hj1] at hj2; injection hj2 with hL; subst hL
          cases hs : aSize P e with
          | none => simp [hs] at h
          | some n =>
            simp only [hs, Option.bind_some] at h
            split at h
            · simp at h
            · rename_i hn
              simp at h; subst h
              simp [Op.equalIn, run_underlying hu, run_sizeOf' hs, hn, sameAddr]
              by_cases e' : o1 = o2
              · subst e'; simp
              · have hne : ¬ (Addr.mk L.blk (L.off + o1) none = Addr.mk L.blk (L.off + o2) none) := fun hh => by injection hh with _ hh _; omega
                rw [beq_eq_false_iff_ne.2 hne, beq_eq_false_iff_ne.2 e']
        · simp at h
  · rename_i hu; simp at h; subst h; cases hb; cases ha <;> simp [Op.equalIn, run_underlying hu]
  · rename_i hu; simp at h; subst h; cases ha; cases hb <;> simp [Op.equalIn, run_underlying hu]
  · rename_i hu; simp at h; subst h; cases ha; cases hb; simp [Op.equalIn, run_underlying hu]
  · rename_i hu; simp at h; subst h; cases ha; cases hb; simp [Op.equalIn, run_underlying hu]
  · rename_i hu; simp at h; subst h; cases hb; cases ha <;> simp [Op.equalIn, run_underlying hu]
  · rename_i hu; simp at h; subst h; cases ha; cases hb <;> simp [Op.equalIn, run_underlying hu]
  · rename_i hu; simp at h; subst h; cases ha; cases hb; simp [Op.equalIn, run_underlying hu]
  · rename_i hu; simp at h; subst h; cases ha; cases hb; simp [Op.equalIn, run_underlying hu]
  · rename_i t1 v1 t2 v2 hu
    split at h
    · simp at h
    · rename_i hne
      simp at h; subst h; cases ha; cases hb; simp [Op.equalIn, run_underlying hu, hne]
  · simp at h

theorem aSame_guard {t : TypeId} {a a' b b' : Value} {r : Bool} (ha : VR j a a') (hb : VR j b b') (h : aSame P t a b = some r) :
    (∀ (op : BinOp) (x y : Operand), eqGuard op t x y a' b' = pure ()) ∧ binOp .eql t a' b' = (do pure (.bool (← Op.equal t a' b'))) ∧
      binOp .neq t a' b' = (do pure (.bool (!(← Op.equal t a' b')))) := by
  unfold aSame at h
  split at h
  · cases ha; cases hb; exact ⟨fun op x y => by cases op <;> rfl, rfl, rfl⟩
  · cases ha; cases hb; exact ⟨fun op x y => by cases op <;> rfl, rfl, rfl⟩
  · cases ha; cases hb; exact ⟨fun op x y => by cases op <;> rfl, rfl, rfl⟩
  · cases hb; cases ha <;> exact ⟨fun op x y => by cases op <;> rfl, rfl, rfl⟩
  · cases ha; cases hb <;> exact ⟨fun op x y => by cases op <;> rfl, rfl, rfl⟩
  · cases ha; cases hb; exact ⟨fun op x y => by cases op <;> rfl, rfl, rfl⟩
  · cases ha; cases hb; exact ⟨fun op x y => by cases op <;> rfl, rfl, rfl⟩
  · cases hb; cases ha <;> exact ⟨fun op x y => by cases op <;> rfl, rfl, rfl⟩
  · cases ha; cases hb <;> exact ⟨fun op x y => by cases op <;> rfl, rfl, rfl⟩
  · cases ha; cases hb; exact ⟨fun op x y => by cases op <;> rfl, rfl, rfl⟩
  · cases ha; cases hb; exact ⟨fun op x y => by cases op <;> rfl, rfl, rfl⟩
  · cases ha; cases hb; exact ⟨fun op x y => by cases op <;> rfl, rfl, rfl⟩
  · simp at h

theorem aSame_sim {t : TypeId} {a a' b b' : Value} {r : Bool} (ha : VR j a a') (hb : VR j b b') (h : aSame P t a b = some r) (w : World) :
    (Op.equal t a' b').run P w = .ok r w ∧ (∀ (op : BinOp) (x y : Operand), eqGuard op t x y a' b' = pure ()) ∧ binOp .eql t a' b' = (do pure (.bool (← Op.equal t a' b'))) ∧
      binOp .neq t a' b' = (do pure (.bool (!(← Op.equal t a' b')))) :=
  ⟨aSame_in ha hb h w 9999, aSame_guard ha hb h⟩

theorem aBin2_sim {op : BinOp} {t : TypeId} {x y : Operand} {a a' b b' r : Value} (ha : VR j a a') (hb : VR j b b') (h : aBin2 P op t x y a b = some r) :
    VR j r r ∧ ∀ w, (do eqGuard op t x y a' b'; binOp op t a' b' : Sem Value).run P w = .ok r w := by
  unfold aBin2 at h
  split at h
  · rename_i hf
    simp only [Bool.and_eq_true] at hf
    have e1 := (flatB_flat hf.1).eq ha
    have e2 := (flatB_flat hf.2).eq hb
    subst e1 e2
    obtain ⟨h1, h2⟩ := semFlat_run h
    exact ⟨h1.vr j, h2⟩
  · split at h
    · cases hs : aSame P t a b with
      | none => simp [hs] at h
      | some q =>
        simp [hs] at h; subst h
        refine ⟨.bool _, fun w => ?_⟩
        obtain ⟨h1, h2, h3, _⟩ := aSame_sim ha hb hs w
        rw [h2, h3]; simp [h1]
    · cases hs : aSame P t a b with
      | none => simp [hs] at h
      | some q =>
        simp [hs] at h; subst h
        refine ⟨.bool _, fun w => ?_⟩
        obtain ⟨h1, h2, _, h4⟩ := aSame_sim ha hb hs w
        rw [h2, h4]; simp [h1]
    · simp at h

def aConv2 (P : Program) (src dst : TypeId) (a : Value) : Option Value := if flatB a then semFlat P (convert src dst a) else none

theorem aConv2_sim {src dst : TypeId} {a a' r : Value} (ha : VR j a a') (h : aConv2 P src dst a = some r) :
    VR j r r ∧ ∀ w, (convert src dst a').run P w = .ok r w := by
  unfold aConv2 at h
  split at h
  · rename_i hf
    have e1 := (flatB_flat hf).eq ha
    subst e1
    obtain ⟨h1, h2⟩ := semFlat_run h
    exact ⟨h1.vr j, h2⟩
  · simp at h

theorem aLen_sim {t ty : TypeId} {v v' r : Value} (hv : VR j v v') (h : aLen P t v = some r) :
    VR j r r ∧ ∀ w, (Builtin.len_ #[t] ty #[v']).run P w = .ok r w := by
  unfold aLen at h
  split at h
  · rename_i s hu; simp at h; subst h; cases hv
    exact ⟨.int _ _, fun w => by simp [Builtin.len_, run_underlying hu]⟩
  · rename_i n e hu; simp at h; subst h
    exact ⟨.int _ _, fun w => by simp [Builtin.len_, run_underlying hu]⟩
  · rename_i arr hu
    split at h
    · rename_i n e hu2; simp at h; subst h
      exact ⟨.int _ _, fun w => by simp [Builtin.len_, run_underlying hu, run_underlying hu2]⟩
    · simp at h
  · rename_i e a n c hu; simp at h; subst h
    refine ⟨.int _ _, fun w => ?_⟩
    cases hv with
    | _ => simp [Builtin.len_, run_underlying hu]
  · simp at h

/-- min and max of plain values -/
def aMinMax (P : Program) (b : Builtin) (t : TypeId) (args : Array Value) : Option Value :=
  if args.toList.all flatB then
    match b with
    | .min => semFlat P (Builtin.min_ #[] t args)
    | .max => semFlat P (Builtin.max_ #[] t args)
    | _ => none
  else none

theorem flat_args {args args' : Array Value} (hf : args.toList.all flatB = true) (h : AR j args args') : args' = args := by
  apply Array.ext h.1.symm
  intro i hi hi'
  simp only [List.all_eq_true] at hf
  exact (flatB_flat (hf _ (by simp))).eq (h.2 i _ _ (Array.getElem?_eq_getElem hi') (Array.getElem?_eq_getElem hi))

theorem aAssertTo_sim {x v v' r : Value} {asserted : TypeId} {commaOk ok : Bool} (hv : VR j v v') (h : aAssertTo P x asserted commaOk v ok = some r) :
    ∃ r', VR j r r' ∧ (ok = true → r' = if commaOk then .tuple #[v', .bool true] else v') ∧
      (ok = false → commaOk = true ∧ ∃ z, Flat z ∧ (∀ w, (zeroValue asserted).run P w = .ok z w) ∧ r' = .tuple #[z, .bool false]) := by
  unfold aAssertTo at h
  split at h
  · rename_i hok
    simp at h; subst h
    cases commaOk with
    | true => exact ⟨_, VR.tuple' (.cons hv (.cons (.bool _) .nil)), fun _ => rfl, fun h => by simp [hok] at h⟩
    | false => exact ⟨v', hv, fun _ => rfl, fun h => by simp [hok] at h⟩
  · rename_i hok
    split at h
    · rename_i hc
      cases hz : aZero P asserted with
      | none => simp [hz] at h
      | some z =>
        simp [hz] at h; subst h
        have hr := run_zero' hz
        refine ⟨_, VR.tuple' (.cons ((hr default).2.vr j) (.cons (.bool _) .nil)), fun h => absurd h hok, fun _ => ⟨hc, z, (hr default).2, fun w => (hr w).1, rfl⟩⟩
    · simp at h

theorem aTypeAssert_sim {x x' r : Value} {xT asserted : TypeId} {commaOk : Bool} (hx : VR j x x') (h : aTypeAssert P x asserted commaOk = some r) :
    ∃ r', VR j r r' ∧ ∀ w, (Instr.typeAssert x' xT asserted commaOk).run P w = .ok r' w := by
  unfold aTypeAssert at h
  split at h
  · rename_i ms hu
    cases hx
    obtain ⟨r', h1, _, h3⟩ := aAssertTo_sim VR.nilIface h
    obtain ⟨hc, z, hz, hr, e⟩ := h3 rfl
    refine ⟨r', h1, fun w => ?_⟩
    subst e hc
    simp [Instr.typeAssert, run_underlying hu, hr]
  · rename_i want t v hu
    cases hx with
    | iface _ hv =>
      split at h
      · rename_i i hi
        obtain ⟨r', h1, h2, h3⟩ := aAssertTo_sim (VR.iface t hv) h
        refine ⟨r', h1, fun w => ?_⟩
        cases hm : Instr.missingMethod want i.methods with
        | none =>
          have := h2 (by simp [hm]); subst this
          simp [Instr.typeAssert, run_underlying hu, typeInfo, hi, hm]
        | some m =>
          obtain ⟨hc, z, hz, hr, e⟩ := h3 (by simp [hm])
          subst e hc
          simp [Instr.typeAssert, run_underlying hu, typeInfo, hi, hm, hr]
      · simp at h
  · rename_i d hnot hu
    cases hx
    obtain ⟨r', h1, _, h3⟩ := aAssertTo_sim VR.nilIface h
    obtain ⟨hc, z, hz, hr, e⟩ := h3 rfl
    refine ⟨r', h1, fun w => ?_⟩
    subst e hc
    unfold Instr.typeAssert
    simp only [Sem.run_bind, run_underlying hu, Result.andThen_ok]
    cases d <;> simp_all
  · rename_i d t v hnot hu
    cases hx with
    | iface _ hv =>
      obtain ⟨r', h1, h2, h3⟩ := aAssertTo_sim hv h
      refine ⟨r', h1, fun w => ?_⟩
      unfold Instr.typeAssert
      simp only [Sem.run_bind, run_underlying hu, Result.andThen_ok]
      by_cases ht : t = asserted
      · have := h2 (by simp [ht]); subst this; subst ht
        cases d <;> simp_all
      · obtain ⟨hc, z, hz, hr, e⟩ := h3 (by simp [ht])
        subst e hc
        cases d <;> simp_all
  · simp at h

end Go.Fm

namespace Go.Fm

variable (P : Program)

def mapL (ρ : Operand → Option Value) : List Operand → Option (List Value)
  | [] => some []
  | x :: r => (ρ x).bind fun v => (mapL ρ r).bind fun l => some (v :: l)

def mapP (ρ : Operand → Option Value) : List (Nat × Operand) → Option (List (Nat × Value))
  | [] => some []
  | (i, x) :: r => (ρ x).bind fun v => (mapP ρ r).bind fun l => some ((i, v) :: l)

def mapOpt (ρ : Operand → Option Value) : Option Operand → Option (Option Value)
  | none => some none
  | some x => (ρ x).map some

def aPlaces (fs : List Field) : Option (List (Nat × Nat)) :=
  match fs with
  | [] => some []
  | f :: r => (aSize P f.type).bind fun n => (aPlaces r).bind fun l => some ((f.offset, n) :: l)

def aBuild (t : TypeId) (parts : List (Nat × Value)) : Option Value :=
  (aZero P t).bind fun z =>
  match P.underlying t with
  | some (.struct fs) => (aPlaces P fs.toList).bind fun pl => (Instr.fill (fun i => pl[i]?) z.cells parts).map .agg
  | some (.array _ e) => (aSize P e).bind fun s => (Instr.fill (fun i => some (i * s, s)) z.cells parts).map .agg
  | _ => none

def aMakeFunc (fn : Fn) (first cap : List Value) : Option Value :=
  match fn with
  | .func f => some (.func (.func f) first.toArray cap.toArray)
  | .method m => some (.func (.method m) first.toArray cap.toArray)
  | _ => none

/-- a capacity that is known -/
def aCap (t : TypeId) (v : Value) : Option Value :=
  match P.underlying t with
  | some (.array n _) => some (goInt n)
  | some (.slice _) =>
    match v with
    | .slice none _ c | .slice (some ⟨_, _, none⟩) _ c => some (goInt c)
    | _ => none
  | _ => none

def aSliceData (v : Value) : Option Value :=
  match v with
  | .slice none _ _ => some (.pointer none)
  | .slice (some ⟨b, o, _⟩) _ c => if c = 0 then none else some (.pointer (some ⟨b, o, none⟩))
  | _ => none

def aPure (ρ : Operand → Option Value) : Op → Option Value
  | .move x | .assign x => ρ x
  | .pick c a b => (ρ c).bind fun | .bool t => if t then ρ a else ρ b | _ => none
  | .build t parts => (mapP ρ parts.toList).bind (aBuild P t)
  | .nilCheck x => (ρ x).bind aNilCheck
  | .binOp op t x y _ => (ρ x).bind fun a => (ρ y).bind fun b => aBin2 P op t x y a b
  | .unOp op _ x => (ρ x).bind (aUn P op)
  | .convert s d x => (ρ x).bind (aConv2 P s d)
  | .makeInterface t x => (ρ x).bind (aMakeIface P t)
  | .makeFunc fn first cap => (mapL ρ first.toList).bind fun a => (mapL ρ cap.toList).bind (aMakeFunc fn a)
  | .slice t x lo hi mx => (ρ x).bind fun v => (mapOpt ρ lo).bind fun l => (mapOpt ρ hi).bind fun h => (mapOpt ρ mx).bind fun m => aSlice P t v l h m
  | .fieldAddr t x f => (ρ x).bind fun v => aFieldAddr P t v f
  | .field t x f => (ρ x).bind fun v => aField P t v f
  | .indexAddr t x i => (ρ x).bind fun v => (ρ i).bind (aIndexAddr P t v)
  | .index t x i => (ρ x).bind fun v => (ρ i).bind (aIndex P t v)
  | .typeAssert x _ t ok => (ρ x).bind fun v => aTypeAssert P v t ok
  | .extract x i => (ρ x).bind fun v => aExtract v i
  | .call { callee := .builtin .len, args := args, argTypes := argTypes } =>
    match args.toList, argTypes.toList with
    | [x], [t] => (ρ x).bind (aLen P t)
    | _, _ => none
  | .call { callee := .builtin .cap, args := args, argTypes := argTypes } =>
    match args.toList, argTypes.toList with
    | [x], [t] => (ρ x).bind (aCap P t)
    | _, _ => none
  | .call { callee := .builtin .unsafeSliceData, args := args, argTypes := _ } =>
    match args.toList with
    | [x] => (ρ x).bind aSliceData
    | _ => none
  | .call { callee := .builtin .min, args := args, argTypes := _ } => (mapL ρ args.toList).bind fun l => aMinMax P .min 0 l.toArray
  | .call { callee := .builtin .max, args := args, argTypes := _ } => (mapL ρ args.toList).bind fun l => aMinMax P .max 0 l.toArray
  | _ => none

/-! ## soundness -/

variable {P} {j : Inj} {ρ : Operand → Option Value} {ρ' : Operand → Value}

def RR (j : Inj) (ρ : Operand → Option Value) (ρ' : Operand → Value) : Prop := ∀ x v, ρ x = some v → VR j v (ρ' x)

theorem mapL_sim (hr : RR j ρ ρ') : ∀ {xs : List Operand} {l : List Value}, mapL ρ xs = some l → LR j l (xs.map ρ')
  | [], l, h => by simp [mapL] at h; subst h; exact .nil
  | x :: r, l, h => by
    simp only [mapL] at h
    cases hx : ρ x with
    | none => simp [hx] at h
    | some v =>
      cases hm : mapL ρ r with
      | none => simp [hx, hm] at h
      | some l' => simp [hx, hm] at h; subst h; exact .cons (hr x v hx) (mapL_sim hr hm)

/-- parts of a composite, place by place -/
inductive PR (j : Inj) : List (Nat × Value) → List (Nat × Value) → Prop
  | nil : PR j [] []
  | cons {i : Nat} {v v' : Value} {l l' : List (Nat × Value)} : VR j v v' → PR j l l' → PR j ((i, v) :: l) ((i, v') :: l')

theorem mapP_sim (hr : RR j ρ ρ') : ∀ {xs : List (Nat × Operand)} {l : List (Nat × Value)}, mapP ρ xs = some l → PR j l (xs.map fun p => (p.1, ρ' p.2))
  | [], l, h => by simp [mapP] at h; subst h; exact .nil
  | (i, x) :: r, l, h => by
    simp only [mapP] at h
    cases hx : ρ x with
    | none => simp [hx] at h
    | some v =>
      cases hm : mapP ρ r with
      | none => simp [hx, hm] at h
      | some l' => simp [hx, hm] at h; subst h; exact .cons (hr x v hx) (mapP_sim hr hm)

theorem mapOpt_sim (hr : RR j ρ ρ') {o : Option Operand} {r : Option Value} (h : mapOpt ρ o = some r) : OR j r (o.map ρ') := by
  cases o with
  | none => simp [mapOpt] at h; subst h; exact ⟨fun v h => by simp at h, fun _ => rfl⟩
  | some x =>
    cases hx : ρ x with
    | none => simp [mapOpt, hx] at h
    | some v => simp [mapOpt, hx] at h; subst h; exact ⟨fun u e => by injection e with e; subst e; exact ⟨_, rfl, hr x v hx⟩, fun e => by simp at e⟩

theorem foldl_set_sim (off : Nat) : ∀ (l l' : List Value) (k : Nat) (cs cs' : Array Value), LR j l l' → AR j cs cs' →
    AR j ((l.zipIdx k).foldl (fun cs (c, i) => cs.setIfInBounds (off + i) c) cs) ((l'.zipIdx k).foldl (fun cs (c, i) => cs.setIfInBounds (off + i) c) cs')
  | [], l', k, cs, cs', h, hc => by cases h; exact hc
  | v :: l, l', k, cs, cs', h, hc => by
    cases h with
    | cons hv hl =>
      simp only [List.zipIdx_cons, List.foldl_cons]
      refine foldl_set_sim off l _ (k + 1) _ _ hl ⟨by simp [hc.1], ?_⟩
      intro i w w' e e'
      rw [Array.getElem?_setIfInBounds] at e e'
      by_cases hi : off + k = i
      · subst hi
        simp only [if_true] at e e'
        split at e
        · rw [if_pos (by rw [← hc.1]; assumption)] at e'
          injection e with e; injection e' with e'; subst e e'; exact hv
        · simp at e
      · rw [if_neg hi] at e e'
        exact hc.2 i w w' e e'

theorem fill_sim (place : Nat → Option (Nat × Nat)) : ∀ {l l' : List (Nat × Value)} {cs cs' r : Array Value}, PR j l l' → AR j cs cs' → Instr.fill place cs l = some r →
    ∃ r', Instr.fill place cs' l' = some r' ∧ AR j r r'
  | [], _, cs, cs', r, h, hc, e => by cases h; simp [Instr.fill] at e; subst e; exact ⟨cs', rfl, hc⟩
  | (i, v) :: l, _, cs, cs', r, h, hc, e => by
    cases h with
    | cons hv hl =>
      rename_i v' l'
      simp only [Instr.fill] at e ⊢
      have hsz : v'.cells.size = v.cells.size := by have := hv.cells.length; simpa using this.symm
      split at e
      · simp at e
      · rename_i off size hp
        rw [hsz, ← hc.1]
        split at e
        · simp at e
        · rename_i hcond
          rw [if_neg hcond]
          have h1 : v.cells.zipIdx.foldl (fun cs (c, i) => cs.setIfInBounds (off + i) c) cs = (v.cells.toList.zipIdx).foldl (fun cs (c, i) => cs.setIfInBounds (off + i) c) cs := by
            rw [← Array.toList_zipIdx, Array.foldl_toList]
          have h2 : v'.cells.zipIdx.foldl (fun cs (c, i) => cs.setIfInBounds (off + i) c) cs' = (v'.cells.toList.zipIdx).foldl (fun cs (c, i) => cs.setIfInBounds (off + i) c) cs' := by
            rw [← Array.toList_zipIdx, Array.foldl_toList]
          rw [h1] at e
          have := fill_sim place hl (foldl_set_sim off _ _ 0 cs cs' hv.cells hc) e
          rw [h2]; exact this

theorem aPlaces_sim : ∀ {fs : List Field} {pl : List (Nat × Nat)}, aPlaces P fs = some pl → ∀ w, (fs.mapM (fun f => do pure (f.offset, ← sizeOf f.type) : Field → Sem (Nat × Nat))).run P w = .ok pl w
  | [], pl, h, w => by simp [aPlaces] at h; subst h; simp
  | f :: r, pl, h, w => by
    simp only [aPlaces] at h
    cases hs : aSize P f.type with
    | none => simp [hs] at h
    | some n =>
      cases hm : aPlaces P r with
      | none => simp [hs, hm] at h
      | some l =>
        simp [hs, hm] at h; subst h
        have := aPlaces_sim hm w
        simp only [List.mapM_cons, Sem.run_bind, run_sizeOf' hs, Result.andThen_ok, this, Sem.run_pure]

theorem aBuild_sim {t : TypeId} {l l' : List (Nat × Value)} (hl : PR j l l') {r : Value} (h : aBuild P t l = some r) :
    ∃ r', VR j r r' ∧ ∀ w, (Instr.build t l'.toArray).run P w = .ok r' w := by
  unfold aBuild at h
  cases hz : aZero P t with
  | none => simp [hz] at h
  | some z =>
    simp only [hz, Option.bind_some] at h
    have hzr := fun w => (run_zero' hz w).1
    have hzf := (run_zero' hz default).2
    have hzc : AR j z.cells z.cells := AR.of_lists (hzf.vr j).cells
    split at h
    · rename_i fs hu
      cases hp : aPlaces P fs.toList with
      | none => simp [hp] at h
      | some pl =>
        simp only [hp, Option.bind_some] at h
        cases hf : Instr.fill (fun i => pl[i]?) z.cells l with
        | none => simp [hf] at h
        | some cs =>
          simp [hf] at h; subst h
          obtain ⟨cs', k1, k2⟩ := fill_sim _ hl hzc hf
          refine ⟨.agg cs', .agg k2.1 k2.2, fun w => ?_⟩
          have hmm : (fs.mapM (fun f => do pure (f.offset, ← sizeOf f.type) : Field → Sem (Nat × Nat))).run P w = .ok pl.toArray w := by
            rw [← Array.toArray_toList (xs := fs)]
            rw [List.mapM_toArray]
            have := aPlaces_sim hp w
            rw [← bind_pure_comp]
            simp only [Sem.run_bind, Sem.run_pure, this, Result.andThen_ok]
          have k1' : Instr.fill (fun i => pl.toArray[i]?) z.cells l' = some cs' := by
            rw [← k1]; congr 1; funext i; simp
          simp only [Instr.build, Sem.run_bind, hzr, Result.andThen_ok, run_underlying hu, hmm, k1', Sem.run_pure]
    · rename_i n e hu
      cases hs : aSize P e with
      | none => simp [hs] at h
      | some s =>
        simp only [hs, Option.bind_some] at h
        cases hf : Instr.fill (fun i => some (i * s, s)) z.cells l with
        | none => simp [hf] at h
        | some cs =>
          simp [hf] at h; subst h
          obtain ⟨cs', k1, k2⟩ := fill_sim _ hl hzc hf
          exact ⟨.agg cs', .agg k2.1 k2.2, fun w => by simp [Instr.build, hzr, run_underlying hu, run_sizeOf' hs, k1]⟩
    · simp at h

theorem aMakeFunc_sim {fn : Fn} {a b a' b' : List Value} (ha : LR j a a') (hb : LR j b b') {r : Value} (h : aMakeFunc fn a b = some r) :
    VR j r (.func fn a'.toArray b'.toArray) := by
  unfold aMakeFunc at h
  split at h
  · simp at h; subst h; exact .func _ ha.toAR.1 ha.toAR.2 hb.toAR.1 hb.toAR.2
  · simp at h; subst h; exact .method _ ha.toAR.1 ha.toAR.2 hb.toAR.1 hb.toAR.2
  · simp at h

theorem aMinMax_sim {b : Builtin} {t ty : TypeId} {ts : Array TypeId} {args args' : Array Value} (ha : AR j args args') {r : Value} (h : aMinMax P b t args = some r) :
    VR j r r ∧ ((b = .min ∧ ∀ w, (Builtin.min_ ts ty args').run P w = .ok r w) ∨ (b = .max ∧ ∀ w, (Builtin.max_ ts ty args').run P w = .ok r w)) := by
  unfold aMinMax at h
  split at h
  · rename_i hf
    have := flat_args hf ha; subst this
    split at h
    · obtain ⟨h1, h2⟩ := semFlat_run h
      exact ⟨h1.vr j, .inl ⟨rfl, h2⟩⟩
    · obtain ⟨h1, h2⟩ := semFlat_run h
      exact ⟨h1.vr j, .inr ⟨rfl, h2⟩⟩
    · simp at h
  · simp at h

theorem aCap_sim {t ty : TypeId} {v v' r : Value} (hv : VR j v v') (h : aCap P t v = some r) :
    VR j r r ∧ ∀ w, (Builtin.cap_ #[t] ty #[v']).run P w = .ok r w := by
  unfold aCap at h
  split at h
  · rename_i n e hu; simp at h; subst h
    exact ⟨.int _ _, fun w => by simp [Builtin.cap_, run_underlying hu]⟩
  · rename_i e hu
    split at h
    · simp at h; subst h; cases hv
      exact ⟨.int _ _, fun w => by simp [Builtin.cap_, run_underlying hu]⟩
    · simp at h; subst h; cases hv
      · exact ⟨.int _ _, fun w => by simp [Builtin.cap_, run_underlying hu]⟩
      · exact ⟨.int _ _, fun w => by simp [Builtin.cap_, run_underlying hu]⟩
    · simp at h
  · simp at h

theorem aSliceData_sim {ts : Array TypeId} {ty : TypeId} {v v' r : Value} (hv : VR j v v') (h : aSliceData v = some r) :
    ∃ r', VR j r r' ∧ ∀ w, (Builtin.unsafeSliceData_ ts ty #[v']).run P w = .ok r' w := by
  unfold aSliceData at h
  split at h
  · simp at h; subst h; cases hv
    exact ⟨_, .pnil, fun w => rfl⟩
  · rename_i b o sp l c
    split at h
    · simp at h
    · rename_i hc
      simp at h; subst h
      cases c with
      | zero => exact absurd rfl hc
      | succ c =>
      cases hv with
      | slice _ _ hj => exact ⟨_, .ptr hj, fun w => rfl⟩
      | oslice _ _ hj he ho =>
        rename_i L
        refine ⟨_, .ptr hj, fun w => ?_⟩
        rw [show c + 1 + L.extra = (c + L.extra) + 1 by omega]; rfl
  · simp at h

theorem bind_some' {α β : Type} {o : Option α} {f : α → Option β} {r : β} (h : o.bind f = some r) : ∃ a, o = some a ∧ f a = some r := by
  cases o with
  | none => simp at h
  | some a => exact ⟨a, rfl, by simpa using h⟩

theorem run_val {s : Sem Value} {r : Value} {w w' : World} (h : s.run P w = .ok r w') : (do pure (.value (← s)) : Sem Next).run P w = .ok (.value r) w' := by
  simp [h]

theorem aPure_sim (hr : RR j ρ ρ') (o : Oper) {r : Value} (h : aPure P ρ o.op = some r) : ∃ r', VR j r r' ∧ ∀ w, (execOp ρ' o).run P w = .ok (.value r') w := by
  obtain ⟨dst, op, type, pos, after, guard⟩ := o
  simp only at h
  unfold aPure at h
  split at h
  · exact ⟨_, hr _ _ h, fun w => rfl⟩
  · exact ⟨_, hr _ _ h, fun w => rfl⟩
  · rename_i c a b
    obtain ⟨cv, hc, h⟩ := bind_some' h
    split at h
    · rename_i t
      have := hr _ _ hc
      cases hcc : ρ' c with
      | bool q =>
        rw [hcc] at this; cases this
        cases t
        · exact ⟨_, hr _ _ h, fun w => by simp [execOp, hcc, asBool]⟩
        · exact ⟨_, hr _ _ h, fun w => by simp [execOp, hcc, asBool]⟩
      | _ => rw [hcc] at this; cases this
    · simp at h
  · rename_i t parts
    obtain ⟨l, hl, h⟩ := bind_some' h
    obtain ⟨r', k1, k2⟩ := aBuild_sim (mapP_sim hr hl) h
    refine ⟨r', k1, fun w => run_val ?_⟩
    have : parts.map (fun x => (x.1, ρ' x.2)) = (List.map (fun p => (p.1, ρ' p.2)) parts.toList).toArray := by
      apply Array.ext'; simp
    rw [← k2 w, ← this]
  · rename_i x
    obtain ⟨v, hv, h⟩ := bind_some' h
    have hvr := hr _ _ hv
    have e : r = v := by unfold aNilCheck at h; split at h <;> simp_all
    subst e
    refine ⟨ρ' x, hvr, fun w => ?_⟩
    cases hc : ρ' x with
    | pointer a =>
      cases a with
      | none => rw [hc] at hvr; cases hvr <;> simp [aNilCheck] at h
      | some a => simp [execOp, hc]
    | nilIface => rw [hc] at hvr; cases hvr <;> simp [aNilCheck] at h
    | nilFunc => rw [hc] at hvr; cases hvr <;> simp [aNilCheck] at h
    | func fn a b =>
      rw [hc] at hvr
      cases hvr with
      | func => simp [execOp, hc]
      | method => simp [aNilCheck] at h
      | hole => simp [aNilCheck] at h
      | yield => simp [execOp, hc]
    | _ => simp [execOp, hc]
  · rename_i op t x y yt
    obtain ⟨a, ha, h⟩ := bind_some' h
    obtain ⟨b, hb, h⟩ := bind_some' h
    obtain ⟨k1, k2⟩ := aBin2_sim (hr _ _ ha) (hr _ _ hb) h
    exact ⟨r, k1, fun w => run_val (k2 w)⟩
  · rename_i op t x
    obtain ⟨a, ha, h⟩ := bind_some' h
    obtain ⟨r', k1, k2⟩ := aUn_sim (hr _ _ ha) h
    exact ⟨r', k1, fun w => run_val (k2 w)⟩
  · rename_i s d x
    obtain ⟨a, ha, h⟩ := bind_some' h
    obtain ⟨k1, k2⟩ := aConv2_sim (hr _ _ ha) h
    exact ⟨r, k1, fun w => run_val (k2 w)⟩
  · rename_i t x
    obtain ⟨a, ha, h⟩ := bind_some' h
    unfold aMakeIface at h
    split at h
    · simp at h
    · rename_i d hd hu
      simp at h; subst h
      refine ⟨_, .iface t (hr _ _ ha), fun w => run_val ?_⟩
      unfold Instr.makeInterface
      simp only [Sem.run_bind, run_underlying hu, Result.andThen_ok]
      cases d <;> simp_all
    · simp at h
  · rename_i fn first cap
    obtain ⟨a, ha, h⟩ := bind_some' h
    obtain ⟨b, hb, h⟩ := bind_some' h
    have := aMakeFunc_sim (mapL_sim hr ha) (mapL_sim hr hb) h
    refine ⟨_, this, fun w => run_val ?_⟩
    have e1 : first.map ρ' = (first.toList.map ρ').toArray := by apply Array.ext'; simp
    have e2 : cap.map ρ' = (cap.toList.map ρ').toArray := by apply Array.ext'; simp
    simp only [Instr.makeFunc, e1, e2, Sem.run_pure]
  · rename_i t x lo hi mx
    obtain ⟨v, hv, h⟩ := bind_some' h
    obtain ⟨l, hl, h⟩ := bind_some' h
    obtain ⟨hh, hhh, h⟩ := bind_some' h
    obtain ⟨m, hm, h⟩ := bind_some' h
    obtain ⟨r', k1, k2⟩ := aSlice_sim (hr _ _ hv) (mapOpt_sim hr hl) (mapOpt_sim hr hhh) (mapOpt_sim hr hm) h
    exact ⟨r', k1, fun w => run_val (k2 w)⟩
  · rename_i t x f
    obtain ⟨v, hv, h⟩ := bind_some' h
    obtain ⟨r', k1, k2⟩ := aFieldAddr_sim (hr _ _ hv) h
    exact ⟨r', k1, fun w => run_val (k2 w)⟩
  · rename_i t x f
    obtain ⟨v, hv, h⟩ := bind_some' h
    obtain ⟨r', k1, k2⟩ := aField_sim (hr _ _ hv) h
    exact ⟨r', k1, fun w => run_val (k2 w)⟩
  · rename_i t x i
    obtain ⟨v, hv, h⟩ := bind_some' h
    obtain ⟨u, hu, h⟩ := bind_some' h
    obtain ⟨r', k1, k2⟩ := aIndexAddr_sim (hr _ _ hv) (hr _ _ hu) h
    exact ⟨r', k1, fun w => run_val (k2 w)⟩
  · rename_i t x i
    obtain ⟨v, hv, h⟩ := bind_some' h
    obtain ⟨u, hu, h⟩ := bind_some' h
    obtain ⟨r', k1, k2⟩ := aIndex_sim (hr _ _ hv) (hr _ _ hu) h
    exact ⟨r', k1, fun w => run_val (k2 w)⟩
  · rename_i x xt t ok
    obtain ⟨v, hv, h⟩ := bind_some' h
    obtain ⟨r', k1, k2⟩ := aTypeAssert_sim (xT := xt) (hr _ _ hv) h
    exact ⟨r', k1, fun w => run_val (k2 w)⟩
  · rename_i x i
    obtain ⟨v, hv, h⟩ := bind_some' h
    unfold aExtract at h
    split at h
    · rename_i vs
      have := hr _ _ hv
      cases hc : ρ' x with
      | tuple ws =>
        rw [hc] at this
        cases this with
        | tuple h1 h2 =>
          obtain ⟨r', k1, k2⟩ := AR.get ⟨h1, h2⟩ h
          exact ⟨r', k2, fun w => run_val (by simp [Instr.extract, hc, k1])⟩
      | _ => rw [hc] at this; cases this
    · simp at h
  · rename_i args argTypes
    split at h
    · rename_i x t hx ht
      obtain ⟨v, hv, h⟩ := bind_some' h
      obtain ⟨k1, k2⟩ := aLen_sim (ty := type) (hr _ _ hv) h
      refine ⟨r, k1, fun w => ?_⟩
      have e1 : args = #[x] := Array.ext' hx
      have e2 : argTypes = #[t] := Array.ext' ht
      subst e1 e2
      simp [execOp, resolve, invoke, builtin, k2]
    · simp at h
  · rename_i args argTypes
    split at h
    · rename_i x t hx ht
      obtain ⟨v, hv, h⟩ := bind_some' h
      obtain ⟨k1, k2⟩ := aCap_sim (ty := type) (hr _ _ hv) h
      refine ⟨r, k1, fun w => ?_⟩
      have e1 : args = #[x] := Array.ext' hx
      have e2 : argTypes = #[t] := Array.ext' ht
      subst e1 e2
      simp [execOp, resolve, invoke, builtin, k2]
    · simp at h
  · rename_i args argTypes
    split at h
    · rename_i x hx
      obtain ⟨v, hv, h⟩ := bind_some' h
      obtain ⟨r', k1, k2⟩ := aSliceData_sim (P := P) (ts := argTypes) (ty := type) (hr _ _ hv) h
      refine ⟨r', k1, fun w => ?_⟩
      have e1 : args = #[x] := Array.ext' hx
      subst e1
      simp [execOp, resolve, invoke, builtin, k2]
    · simp at h
  · rename_i args argTypes
    obtain ⟨l, hl, h⟩ := bind_some' h
    obtain ⟨k1, k2⟩ := aMinMax_sim (ts := argTypes) (ty := type) (mapL_sim hr hl).toAR h
    refine ⟨r, k1, fun w => ?_⟩
    rcases k2 with ⟨_, k2⟩ | ⟨e, _⟩
    · have : args.map ρ' = (args.toList.map ρ').toArray := by apply Array.ext'; simp
      simp only [execOp, resolve, invoke, builtin, this, Sem.run_bind, Sem.run_pure, Result.andThen_ok, k2]
    · simp at e
  · rename_i args argTypes
    obtain ⟨l, hl, h⟩ := bind_some' h
    obtain ⟨k1, k2⟩ := aMinMax_sim (ts := argTypes) (ty := type) (mapL_sim hr hl).toAR h
    refine ⟨r, k1, fun w => ?_⟩
    rcases k2 with ⟨e, _⟩ | ⟨_, k2⟩
    · simp at e
    · have : args.map ρ' = (args.toList.map ρ').toArray := by apply Array.ext'; simp
      simp only [execOp, resolve, invoke, builtin, this, Sem.run_bind, Sem.run_pure, Result.andThen_ok, k2]
  · simp at h

end Go.Fm

namespace Go.Fm

variable {F : Nat → Nat → Prop} {w0 w : World} {j : Inj} {h : AHeap}

/-- only the heap counts -/
theorem Sim.heap_eq (S : Sim F w0 j h w) {w' : World} (hio : Io w w') (e : w'.heap = w.heap) : Sim F w0 j h w' := by
  refine ⟨S.io.trans hio, by rw [e]; exact S.size, ?_, S.below, S.dom, ?_, S.own, S.apart⟩
  · intro B o hF
    have := S.kept B o hF
    unfold keptAt at this ⊢
    rw [e]; exact this
  · intro b L hj
    exact (S.obj b L hj).world (by rw [e])

theorem List.get_set {α : Type} (h : List α) (b : Nat) (hb : b < h.length) (x : α) (b' : Nat) : (h.set b x)[b']? = if b' = b then some x else h[b']? := by
  rw [List.getElem?_set]
  by_cases e : b = b'
  · subst e; simp [hb]
  · simp [e, Ne.symm e]

/-- block b dies, and its cells are anything -/
theorem Sim.wipe (S : Sim F w0 j h w) {b : Nat} {L : Loc} (hj : j b = some L) {mk : List Value → AObj} (hm : CellsLike mk) {c : List Value} (hc : h[b]? = some (mk c))
    {w' : World} {d d' : Array Value} {T : TypeId} {f : Nat × Nat} (hb : w.heap[L.blk]? = some (.cells d T f)) (hb' : w'.heap[L.blk]? = some (.cells d' T f))
    (hio : Io w w') (hsz : d'.size = d.size) (hws : w'.heap.size = w.heap.size) (hoth : ∀ B, B ≠ L.blk → w'.heap[B]? = w.heap[B]?)
    (hout : ∀ o, ¬ (L.off ≤ o ∧ o < L.off + L.ext) → d'[o]? = d[o]?) :
    Sim F w0 j (h.set b .dead) w' := by
  have hblt : b < h.length := S.dom _ _ hj
  have hget := List.get_set h b hblt .dead
  have hrw : ∀ b' : Nat, isRw (h.set b .dead)[b']? → b' ≠ b ∧ isRw h[b']? := by
    intro b' hr; rw [hget] at hr; split at hr
    · exact hr.elim
    · exact ⟨‹_›, hr⟩
  have hown : ∀ (b' : Nat) (L' : Loc) (B o : Nat), owns L' (h.set b .dead)[b']? B o → b' ≠ b ∧ owns L' h[b']? B o := by
    intro b' L' B o ho; rw [hget] at ho; split at ho
    · exact ho.elim
    · exact ⟨‹_›, ho⟩
  refine ⟨S.io.trans hio, by rw [hws]; exact S.size, ?_, S.below, ?_, ?_, ?_, ?_⟩
  · intro B o hF
    have hk := S.kept B o hF
    by_cases e : B = L.blk
    · subst e
      have hno : ¬ (L.off ≤ o ∧ o < L.off + L.ext) := fun ho => S.own b L hj (by rw [hc]; exact hm.rw c) L.blk o (by rw [hc]; exact hm.owns _ _ _ ho) hF
      unfold keptAt at hk ⊢
      split at hk
      · rename_i d0 T0 f0 h0
        obtain ⟨dx, k1, k2, k3⟩ := hk
        rw [hb] at k1; injection k1 with k1; injection k1 with k1 k1' k1''; subst k1 k1' k1''
        exact ⟨d', hb', hsz.trans k2, (hout o hno).trans k3⟩
      · rename_i x hx hx'; rw [hb] at hk; injection hk with hk; subst hk; exact (hx _ _ _ rfl).elim
      · trivial
    · unfold keptAt at hk ⊢
      rw [hoth B e]; exact hk
  · intro b' L' h'; simp; exact S.dom _ _ h'
  · intro b' L' h'
    rw [hget]
    split
    · trivial
    · rename_i hne
      have ho := S.obj _ _ h'
      by_cases e : L'.blk = L.blk
      · have hap := S.apart b b' L L' (Ne.symm hne) hj h' (by rw [hc]; exact hm.rw c)
        revert ho hap
        generalize h[b']? = ob
        intro ho hap
        match ob, ho, hap with
        | some (.cells c2 ro2), ⟨d2, T2, f2, k1, k2, k3, k4, k5, k6⟩, hap =>
          rw [e, hb] at k1; injection k1 with k1; injection k1 with k1 k1' k1''; subst k1 k1' k1''
          refine ⟨d', T, f, by rw [e]; exact hb', k2, by omega, ?_, k5, k6⟩
          have hsame : (d'.toList.drop L'.off).take L'.size = (d.toList.drop L'.off).take L'.size := by
            apply List.ext_getElem?
            intro i
            simp only [List.getElem?_take, List.getElem?_drop]
            split
            · rename_i hi
              have := hout (L'.off + i) (fun hin' => hap L.blk (L'.off + i) (by rw [hc]; exact hm.owns _ _ _ hin') ⟨e.symm, by omega, by unfold Loc.ext; omega⟩)
              simpa using this
            · rfl
          rw [hsame]; exact k4
        | some (.tcells c2 t2 z2), ⟨d2, f2, k1, k2, k3, k4, k5, k6, k7⟩, hap =>
          rw [e, hb] at k1; injection k1 with k1; injection k1 with k1 k1' k1''; subst k1 k1' k1''
          refine ⟨d', f, by rw [e]; exact hb', k2, by omega, ?_, by rw [hsz]; exact k5, k6, by omega⟩
          have hsame : (d'.toList.drop L'.off).take L'.size = (d.toList.drop L'.off).take L'.size := by
            apply List.ext_getElem?
            intro i
            simp only [List.getElem?_take, List.getElem?_drop]
            split
            · rename_i hi
              have := hout (L'.off + i) (fun hin' => hap L.blk (L'.off + i) (by rw [hc]; exact hm.owns _ _ _ hin') e.symm)
              simpa using this
            · rfl
          rw [hsame]; exact k4
        | some (.map es clock), ⟨es', k1, _⟩, _ => rw [e, hb] at k1; simp at k1
        | some (.mapIter _ _ _ _), ⟨_, m', k1, _⟩, _ => rw [e, hb] at k1; simp at k1
        | some (.strIter _ _), ⟨_, k1⟩, _ => rw [e, hb] at k1; simp at k1
        | some (.spec _), ⟨_, y, k1, k2⟩, _ => rw [e, hb] at k1; injection k1 with k1; subst k1; exact (SpecR.cells k2).elim
        | some .dead, _, _ => trivial
        | none, ho, _ => exact ho.elim
      · exact ho.world (hoth _ e)
  · intro b' L' h' hr' B o ho
    exact S.own b' L' h' (hrw b' hr').2 B o (hown _ _ _ _ ho).2
  · intro b1 b2 L1 L2 hne h1 h2 hr' B o ho ho'
    exact S.apart b1 b2 L1 L2 hne h1 h2 (hrw b1 hr').2 B o (hown _ _ _ _ ho).2 (hown _ _ _ _ ho').2

theorem Sim.kill (S : Sim F w0 j h w) {b : Nat} {L : Loc} (hj : j b = some L) {mk : List Value → AObj} (hm : CellsLike mk) {c : List Value} (hc : h[b]? = some (mk c)) : Sim F w0 j (h.set b .dead) w := by
  have := S.obj _ _ hj
  rw [hc] at this
  obtain ⟨d, T, f, hb, _⟩ := hm.obj this
  exact S.wipe hj hm hc hb hb (Io.refl w) rfl rfl (fun _ _ => rfl) (fun _ _ => rfl)

/-- of a whole block, other cells may be frozen -/
theorem Sim.refz (S : Sim F w0 j h w) {b : Nat} {L : Loc} (hj : j b = some L) {c : List Value} {t : TypeId} {z z' : Option Nat} (hc : h[b]? = some (.tcells c t z))
    {w' : World} {d : Array Value} {f f' : Nat × Nat} (hb : w.heap[L.blk]? = some (.cells d t f)) (hb' : w'.heap[L.blk]? = some (.cells d t f'))
    (hio : Io w w') (hws : w'.heap.size = w.heap.size) (hoth : ∀ B, B ≠ L.blk → w'.heap[B]? = w.heap[B]?) (hz : fzOk z' f' d.size) :
    Sim F w0 j (h.set b (.tcells c t z')) w' := by
  have hblt : b < h.length := S.dom _ _ hj
  have hget := List.get_set h b hblt (.tcells c t z')
  have hrw : ∀ b' : Nat, isRw (h.set b (.tcells c t z'))[b']? ↔ isRw h[b']? := by
    intro b'; rw [hget]; split
    · rename_i e; subst e; rw [hc]; exact Iff.rfl
    · rfl
  have hown : ∀ (b' : Nat) (L' : Loc) (B o : Nat), owns L' (h.set b (.tcells c t z'))[b']? B o ↔ owns L' h[b']? B o := by
    intro b' L' B o; rw [hget]; split
    · rename_i e; subst e; rw [hc]; exact Iff.rfl
    · rfl
  refine ⟨S.io.trans hio, by rw [hws]; exact S.size, ?_, S.below, ?_, ?_, ?_, ?_⟩
  · intro B x hF
    have hk := S.kept B x hF
    have : B ≠ L.blk := fun e => S.own b L hj (by rw [hc]; trivial) B x (by rw [hc]; exact e) hF
    unfold keptAt at hk ⊢
    rw [hoth B this]; exact hk
  · intro b' L' h'; simp; exact S.dom _ _ h'
  · intro b' L' h'
    rw [hget]; split
    · rename_i e; subst e; rw [hj] at h'; injection h' with h'; subst h'
      have ho := S.obj _ _ hj
      rw [hc] at ho
      obtain ⟨d1, f1, k1, k2, k3, k4, k5, k6, k7⟩ := ho
      rw [hb] at k1; injection k1 with k1; injection k1 with k1 k1' k1''; subst k1 k1''
      exact ⟨d, f', hb', k2, k3, k4, hz, k6, k7⟩
    · rename_i hne
      have ho := S.obj _ _ h'
      by_cases e : L'.blk = L.blk
      · have hap := S.apart b b' L L' (Ne.symm hne) hj h' (by rw [hc]; trivial)
        revert ho hap
        generalize h[b']? = ob
        intro ho hap
        have hap' : ∀ x, ¬ owns L' ob L.blk x := fun x => hap L.blk x (by rw [hc]; rfl)
        match ob, ho, hap' with
        | some (.cells c2 ro2), ⟨d2, T2, f2, k1, k2, k3, k4, k5, k6⟩, hap =>
          have hx : ¬ 0 < L'.ext := fun hx => hap L'.off ⟨e.symm, Nat.le_refl _, by omega⟩
          rw [e, hb] at k1; injection k1 with k1; injection k1 with k1 k1' k1''; subst k1 k1' k1''
          exact ⟨d, t, f', by rw [e]; exact hb', k2, k3, k4, fun _ o h1 h2 => by omega, k6⟩
        | some (.tcells c2 t2 z2), _, hap => exact (hap 0 e.symm).elim
        | some (.map es clock), _, hap => exact (hap 0 e.symm).elim
        | some (.mapIter _ _ _ _), _, hap => exact (hap 0 e.symm).elim
        | some (.strIter _ _), _, hap => exact (hap 0 e.symm).elim
        | some (.spec _), _, hap => exact (hap 0 e.symm).elim
        | some .dead, _, _ => trivial
        | none, ho, _ => exact ho.elim
      · exact ho.world (hoth _ e)
  · intro b' L' h' hr' B o ho
    exact S.own b' L' h' ((hrw b').1 hr') B o ((hown _ _ _ _).1 ho)
  · intro b1 b2 L1 L2 hne h1 h2 hr' B o ho ho'
    exact S.apart b1 b2 L1 L2 hne h1 h2 ((hrw b1).1 hr') B o ((hown _ _ _ _).1 ho) ((hown _ _ _ _).1 ho')

/-- what lies in a concrete world and is nobody's stands for a new abstract object -/
theorem Sim.claim (S : Sim F w0 j h w) {L : Loc} (o : AObj) (ho : ObjR (j.put h.length L) L w (some o))
    (hF : isRw (some o) → ∀ B x, owns L (some o) B x → ¬ F B x)
    (hA : ∀ b M, j b = some M → (isRw (some o) ∨ isRw h[b]?) → ∀ B x, owns L (some o) B x → ¬ owns M h[b]? B x) : Sim F w0 (j.put h.length L) (h ++ [o]) w := by
  have hle : j.le (j.put h.length L) := Inj.put_le S.fresh
  have hold : ∀ b, b < h.length → (h ++ [o])[b]? = h[b]? := fun b hb => List.getElem?_append_left hb
  have hnew : (h ++ [o])[h.length]? = some o := by simp
  have hput : ∀ b M, j.put h.length L b = some M → (b = h.length ∧ M = L) ∨ (b < h.length ∧ j b = some M) := by
    intro b M e; unfold Inj.put at e; split at e
    · injection e with e; exact .inl ⟨‹_›, e.symm⟩
    · exact .inr ⟨S.dom _ _ e, e⟩
  refine ⟨S.io, S.size, S.kept, S.below, ?_, ?_, ?_, ?_⟩
  · intro b M e
    rcases hput b M e with ⟨rfl, _⟩ | ⟨hb, _⟩ <;> simp <;> omega
  · intro b M e
    rcases hput b M e with ⟨rfl, rfl⟩ | ⟨hb, hj⟩
    · rw [hnew]; exact ho
    · rw [hold b hb]; exact (S.obj _ _ hj).mono hle
  · intro b M e hr B x hx
    rcases hput b M e with ⟨rfl, rfl⟩ | ⟨hb, hj⟩
    · rw [hnew] at hx hr; exact hF hr B x hx
    · rw [hold b hb] at hr hx; exact S.own b M hj hr B x hx
  · intro b1 b2 L1 L2 hne e1 e2 hr B x h1 h2
    rcases hput b1 L1 e1 with ⟨rfl, rfl⟩ | ⟨hb1, hj1⟩
    · rcases hput b2 L2 e2 with ⟨rfl, rfl⟩ | ⟨hb2, hj2⟩
      · exact hne rfl
      · rw [hnew] at h1 hr; rw [hold b2 hb2] at h2
        exact hA b2 L2 hj2 (.inl hr) B x h1 h2
    · rcases hput b2 L2 e2 with ⟨rfl, rfl⟩ | ⟨hb2, hj2⟩
      · rw [hnew] at h2; rw [hold b1 hb1] at h1 hr
        exact hA b1 L1 hj1 (.inr hr) B x h2 h1
      · rw [hold b1 hb1] at h1 hr; rw [hold b2 hb2] at h2
        exact S.apart b1 b2 L1 L2 hne hj1 hj2 hr B x h1 h2

/-- an object that is no row of cells turns, in its own concrete block -/
theorem Sim.object (S : Sim F w0 j h w) {b : Nat} {L : Loc} (hj : j b = some L) {o o' : AObj} (hc : h[b]? = some o) (hrw : isRw (some o)) (hrw' : isRw (some o'))
    (hown : ∀ B x, owns L (some o) B x ↔ B = L.blk) (hown' : ∀ B x, owns L (some o') B x ↔ B = L.blk)
    {w' : World} (hio : Io w w') (hws : w'.heap.size = w.heap.size) (hoth : ∀ B, B ≠ L.blk → w'.heap[B]? = w.heap[B]?) (ho : ObjR j L w' (some o')) (hnt : ∀ c t z, o ≠ .tcells c t z := by intro _ _ _ h; cases h) : Sim F w0 j (h.set b o') w' := by
  have hblt : b < h.length := S.dom _ _ hj
  have hget := List.get_set h b hblt o'
  have hr2 : ∀ b' : Nat, isRw (h.set b o')[b']? ↔ isRw h[b']? := by
    intro b'; rw [hget]; split
    · rename_i e; subst e; rw [hc]; exact ⟨fun _ => hrw, fun _ => hrw'⟩
    · rfl
  have hown2 : ∀ (b' : Nat) (L' : Loc) (hj' : j b' = some L') (B x : Nat), owns L' (h.set b o')[b']? B x ↔ owns L' h[b']? B x := by
    intro b' L' hj' B x; rw [hget]; split
    · rename_i e; subst e; rw [hj] at hj'; injection hj' with hj'; subst hj'; rw [hc, hown, hown']
    · rfl
  refine ⟨S.io.trans hio, by rw [hws]; exact S.size, ?_, S.below, ?_, ?_, ?_, ?_⟩
  · intro B x hF
    have hk := S.kept B x hF
    have : B ≠ L.blk := fun e => S.own b L hj (by rw [hc]; exact hrw) B x (by rw [hc, hown]; exact e) hF
    unfold keptAt at hk ⊢
    rw [hoth B this]; exact hk
  · intro b' L' h'; simp; exact S.dom _ _ h'
  · intro b' L' h'
    rw [hget]; split
    · rename_i e; subst e; rw [hj] at h'; injection h' with h'; subst h'; exact ho
    · rename_i hne
      have hob := S.obj _ _ h'
      by_cases e : L'.blk = L.blk
      · have hap := S.apart b b' L L' (Ne.symm hne) hj h' (by rw [hc]; exact hrw)
        revert hob hap
        generalize h[b']? = ob
        intro hob hap
        match ob, hob, hap with
        | some (.cells c2 ro2), ⟨d2, T2, f2, k1, k2, k3, k4, k5, k6⟩, hap =>
          by_cases hz : L'.size = 0
          · -- nothing of its own there
            exfalso
            have hb' := S.obj _ _ hj
            rw [hc] at hb'
            revert hb'
            match o, hnt, hrw, hown with
            | .cells _ _, _, _, hown => intro _; have := (hown L.blk (L.off + L.ext)).2 rfl; have := this.2.2; omega
            | .tcells _ _ _, hnt, _, _ => exact (hnt _ _ _ rfl).elim
            | .map es _, _, _, _ => intro ⟨es', q, _⟩; rw [← e, k1] at q; simp at q
            | .mapIter _ _ _ _, _, _, _ => intro ⟨_, m', q, _⟩; rw [← e, k1] at q; simp at q
            | .strIter _ _, _, _, _ => intro ⟨_, q⟩; rw [← e, k1] at q; simp at q
            | .spec _, _, _, _ => intro ⟨_, y, q, q2⟩; rw [← e, k1] at q; injection q with q; subst q; exact SpecR.cells q2
          · exact (hap L.blk L'.off (by rw [hc, hown]) ⟨e.symm, Nat.le_refl _, by unfold Loc.ext; omega⟩).elim
        | some (.tcells c2 t2 z2), _, hap => exact (hap L.blk 0 (by rw [hc, hown]) e.symm).elim
        | some (.map es clock), _, hap => exact (hap L.blk 0 (by rw [hc, hown]) e.symm).elim
        | some (.mapIter _ _ _ _), _, hap => exact (hap L.blk 0 (by rw [hc, hown]) e.symm).elim
        | some (.strIter _ _), _, hap => exact (hap L.blk 0 (by rw [hc, hown]) e.symm).elim
        | some (.spec _), _, hap => exact (hap L.blk 0 (by rw [hc, hown]) e.symm).elim
        | some .dead, _, _ => trivial
        | none, ho, _ => exact ho.elim
      · exact hob.world (hoth _ e)
  · intro b' L' h' hr' B x hx
    exact S.own b' L' h' ((hr2 b').1 hr') B x ((hown2 b' L' h' _ _).1 hx)
  · intro b1 b2 L1 L2 hne h1 h2 hr' B x hx hx'
    exact S.apart b1 b2 L1 L2 hne h1 h2 ((hr2 b1).1 hr') B x ((hown2 b1 L1 h1 _ _).1 hx) ((hown2 b2 L2 h2 _ _).1 hx')

/-- setObj, as a step of the heap -/
theorem heap_set {w : World} {r : Nat} {x : Obj} (hr : r < w.heap.size) :
    ({ w with heap := w.heap.setIfInBounds r x } : World).heap.size = w.heap.size ∧ ({ w with heap := w.heap.setIfInBounds r x } : World).heap[r]? = some x ∧
      ∀ B, B ≠ r → ({ w with heap := w.heap.setIfInBounds r x } : World).heap[B]? = w.heap[B]? := by
  refine ⟨by simp, by simp [hr], fun B hB => by simp [Ne.symm hB]⟩

/-! ## runs of the model's smallest words -/

theorem run_getObj_map {P : Program} {w : World} {r : Nat} {es : Array MapEntry} {c : Nat} (h : w.heap[r]? = some (.map es c)) : (getObj r).run P w = .ok (.map es c) w := by
  simp [getObj, Sem.run, h]

theorem run_setObj' {P : Program} {w : World} {r : Nat} {o x : Obj} (h : w.heap[r]? = some o) (hn : ∀ d T f, o ≠ .cells d T f) :
    (setObj r x).run P w = .ok () { w with heap := w.heap.setIfInBounds r x } := by
  unfold setObj
  cases o <;> simp [Sem.run, h] <;> (exact absurd rfl (hn _ _ _))

theorem run_newRow {P : Program} (w : World) (e : TypeId) (cs : Array Value) : (newRow e cs).run P w = .ok ⟨w.heap.size, 0, none⟩ { w with heap := w.heap.push (.cells cs e) } := by
  simp [newRow, newObj, Sem.run]

/-- j' knows of more, but of nothing among the first n -/
def Inj.ext (j : Inj) (n : Nat) (j' : Inj) : Prop := j.le j' ∧ ∀ b, b < n → j' b = j b

theorem Inj.ext_refl (j : Inj) (n : Nat) : j.ext n j := ⟨j.le_refl, fun _ _ => rfl⟩
theorem Inj.ext_trans {j j' j'' : Inj} {n n' : Nat} (h : j.ext n j') (hn : n ≤ n') (h' : j'.ext n' j'') : j.ext n j'' :=
  ⟨Inj.le_trans h.1 h'.1, fun b hb => (h'.2 b (by omega)).trans (h.2 b hb)⟩
theorem Inj.put_ext {j : Inj} {b n : Nat} {L : Loc} (hj : j b = none) (hb : n ≤ b) : j.ext n (j.put b L) :=
  ⟨Inj.put_le hj, fun x hx => by unfold Inj.put; rw [if_neg (by omega)]⟩

end Go.Fm

namespace Go.Fm

variable (P : Program)

def aLoad (t : TypeId) (v : Value) (h : AHeap) : Option Value :=
  match v with
  | .pointer (some a) =>
    match aIsAgg P t with
    | some true => (aSize P t).bind fun n => (aCells h a n).map fun l => .agg l.toArray
    | some false => aCell h a
    | none => none
  | _ => none

def keyEq (kt : TypeId) (k k' : Value) : Option Bool := semPure P (Op.equal kt k k')

/-- the place of a key among entries -/
def aFind (kt : TypeId) (k : Value) : List MapEntry → Nat → Option (Option (Nat × Value))
  | [], _ => some none
  | e :: es, i =>
    if flatB e.key then
      match keyEq P kt k e.key with
      | some true => some (some (i, e.val))
      | some false => aFind kt k es (i + 1)
      | none => none
    else none

def aCheckKey (empty : Bool) (kt : TypeId) (k : Value) : Bool := flatB k && (semPure P (Instr.checkKey empty 10000 kt k)).isSome

def aEntries (m : Value) (h : AHeap) : Option (List MapEntry) :=
  match m with
  | .map none => some []
  | .map (some r) => match h[r]? with
    | some (.map es _) => some es
    | _ => none
  | _ => none

def aLookup (t : TypeId) (m k : Value) (ok : Bool) (h : AHeap) : Option Value :=
  match P.underlying t with
  | some (.map kt et) =>
    (aEntries m h).bind fun es =>
      if aCheckKey P es.isEmpty kt k then
        (aFind P kt k es 0).bind fun
          | some (_, v) => some (if ok then .tuple #[v, .bool true] else v)
          | none => (aZero P et).map fun z => if ok then .tuple #[z, .bool false] else z
      else none
  | _ => none

def aLenMap (t : TypeId) (m : Value) (h : AHeap) : Option Value :=
  match P.underlying t with
  | some (.map _ _) => (aEntries m h).map fun es => goInt es.length
  | _ => none

def bytesOf? : List Value → Option (List UInt8)
  | [] => some []
  | .int .u8 n :: r => (bytesOf? r).map (UInt8.ofNat n.toNat :: ·)
  | _ => none

/-- the cells that a slice shows -/
def aView (size : Nat) (v : Value) (n : Nat) (h : AHeap) : Option (List Value) :=
  match v with
  | .slice (some ⟨b, o, _⟩) len _ => if n * size = 0 then some [] else if n ≤ len then aCells h ⟨b, o, none⟩ (n * size) else none
  | .slice none _ _ => some []
  | _ => none

/-- the place of a block's variable, for unsafe.Pointer and back -/
def aPlaceOk (b o : Nat) (t : TypeId) (h : AHeap) : Bool :=
  match h[b]?, aSize P t with
  | some (.cells c _), some (_ + 1) | some (.tcells c _ _), some (_ + 1) => Nat.blt o c.length
  | _, _ => false

def aConvRead (src dst : TypeId) (v : Value) (h : AHeap) : Option Value :=
  match P.underlying src, P.underlying dst with
  | some (.pointer t), some .unsafePointer =>
    match v with
    | .pointer none => some v
    | .pointer (some ⟨b, o, none⟩) => if aPlaceOk P b o t h then some v else none
    | _ => none
  | some .unsafePointer, some (.pointer u) =>
    match v with
    | .pointer none => some v
    | .pointer (some ⟨b, o, none⟩) =>
      match h[b]?, aSize P u with
      | some (.tcells c t _), some _ => if liesAt P P.depth t (c.length / P.cellsOf t) o u 1 then some v else none
      | _, _ => none
    | _ => none
  | some (.slice e), some .string =>
    match P.underlying e, v with
    | some (.int .u8), .slice _ n _ => (aView 1 v n h).bind fun l => (bytesOf? l).map fun bs => .string ⟨bs.toArray⟩
    | _, _ => none
  | _, _ => none

def aRead (ρ : Operand → Option Value) (h : AHeap) : Op → Option Value
  | .load t x => (ρ x).bind fun v => aLoad P t v h
  | .lookup t m k ok => (ρ m).bind fun mv => (ρ k).bind fun kv => aLookup P t mv kv ok h
  | .convert s d x => (ρ x).bind fun v => aConvRead P s d v h
  | .call { callee := .builtin .len, args := args, argTypes := argTypes } =>
    match args.toList, argTypes.toList with
    | [x], [t] => (ρ x).bind fun v => aLenMap P t v h
    | _, _ => none
  | _ => none

variable {P} {F : Nat → Nat → Prop} {w0 w : World} {j : Inj} {h : AHeap}

theorem aLoad_sim (S : Sim F w0 j h w) {t : TypeId} {v v' r : Value} (hv : VR j v v') (e : aLoad P t v h = some r) :
    ∃ r', VR j r r' ∧ (Instr.loadAt t v').run P w = .ok r' w := by
  unfold aLoad at e
  split at e
  · rename_i a
    cases hv with
    | ptr hj =>
      split at e
      · rename_i ha
        cases hs : aSize P t with
        | none => simp [hs] at e
        | some n =>
          simp only [hs, Option.bind_some] at e
          cases hc : aCells h ⟨_, _, none⟩ n with
          | none => rw [hc] at e; simp at e
          | some l =>
            rw [hc] at e; simp at e; subst e
            obtain ⟨l', h1, h2⟩ := aCells_sim (P := P) S (a := ⟨_, _, none⟩) hj hc
            exact ⟨.agg l'.toArray, VR.agg' (by simpa using h2), by simp [Instr.loadAt, Instr.sureAddr, loadVar, aIsAgg_true ha, run_sizeOf' hs, h1]⟩
      · rename_i ha
        obtain ⟨r', h1, h2⟩ := aCell_sim S (a := ⟨_, _, none⟩) hj e
        exact ⟨r', h2, by simp [Instr.loadAt, Instr.sureAddr, loadVar, aIsAgg_false ha, run_load, h1]⟩
      · simp at e
  · simp at e

/-! ## keys -/

theorem findAsking_run (kt : TypeId) (k : Value) : ∀ (es es' : List MapEntry) (i : Nat) (r : Option (Nat × Value)), ER j es es' → aFind P kt k es i = some r →
    ∃ r' : Option (Nat × Value), (∀ w, (Instr.findAsking kt k es' i).run P w = .ok r' w) ∧ (r = none → r' = none) ∧ (∀ n v, r = some (n, v) → ∃ v', r' = some (n, v') ∧ VR j v v')
  | [], _, i, r, hE, h => by cases hE; simp [aFind] at h; subst h; exact ⟨none, fun w => rfl, fun _ => rfl, fun n v h => by simp at h⟩
  | e :: es, _, i, r, hE, h => by
    cases hE with
    | cons hr hl =>
      rename_i e' es'
      simp only [aFind] at h
      split at h
      · rename_i hf
        have hk := (flatB_flat hf).eq hr.1
        split at h
        · rename_i hq
          simp at h; subst h
          refine ⟨some (i, e'.val), fun w => ?_, fun h => by simp at h, fun n v e => ⟨e'.val, ?_⟩⟩
          · have := semPure_run hq w
            simp only [Instr.findAsking, Sem.run_bind, hk, this, Result.andThen_ok]; rfl
          · injection e with e; injection e with e1 e2; subst e1 e2; exact ⟨rfl, hr.2.1⟩
        · rename_i hq
          obtain ⟨r', k1, k2⟩ := findAsking_run kt k es es' (i + 1) r hl h
          refine ⟨r', fun w => ?_, k2⟩
          have := semPure_run hq w
          simp only [Instr.findAsking, Sem.run_bind, hk, this, Result.andThen_ok]
          exact k1 w
        · simp at h
      · simp at h

theorem keyEq_now {kt : TypeId} {d : TypeDesc} (hu : P.underlying kt = some d) {k k' : Value} {b c : Bool} (h1 : Instr.sameNow d k k' = some b) (h2 : keyEq P kt k k' = some c) : c = b := by
  have h3 := semPure_run h2 default
  have h4 : ∃ d0, (Op.equalIn (d0 + 1) kt k k').run P default = .ok c default := ⟨9999, h3⟩
  obtain ⟨d0, h4⟩ := h4
  unfold Instr.sameNow at h1
  split at h1
  · rename_i ki k1 a k2 a'
    split at h1
    · rename_i hkk
      simp at h1
      simp [Op.equalIn, run_underlying hu, hkk] at h4
      rw [← h4, h1]
    · simp at h1
  · rename_i a a'
    simp at h1
    simp [Op.equalIn, run_underlying hu] at h4
    rw [← h4, h1]
  · rename_i a a'
    simp at h1
    simp [Op.equalIn, run_underlying hu] at h4
    rw [← h4, h1]
  · simp at h1

theorem findNow_same (kt : TypeId) {d : TypeDesc} (hu : P.underlying kt = some d) (k : Value) : ∀ (es es' : List MapEntry) (i : Nat) (r : Option (Nat × Value)) (q : Option (Nat × Value)),
    ER j es es' → aFind P kt k es i = some r → Instr.findNow d k es' i = some q → (r = none → q = none) ∧ (∀ n v, r = some (n, v) → ∃ v', q = some (n, v') ∧ VR j v v')
  | [], _, i, r, q, hE, h, hq => by
    cases hE; simp [aFind] at h; simp [Instr.findNow] at hq; subst h hq; exact ⟨fun _ => rfl, fun n v h => by simp at h⟩
  | e :: es, _, i, r, q, hE, h, hq => by
    cases hE with
    | cons hr hl =>
      rename_i e' es'
      simp only [aFind] at h
      split at h
      · rename_i hf
        have hk := (flatB_flat hf).eq hr.1
        simp only [Instr.findNow, hk] at hq
        cases hsn : Instr.sameNow d k e.key with
        | none => simp [hsn] at hq
        | some b =>
          simp only [hsn] at hq
          cases hke : keyEq P kt k e.key with
          | none => simp [hke] at h
          | some c =>
            have := keyEq_now hu hsn hke; subst this
            simp only [hke] at h
            cases c with
            | true =>
              simp at h hq; subst h hq
              exact ⟨fun h => by simp at h, fun n v e => ⟨e'.val, by injection e with e; injection e with e1 e2; subst e1 e2; exact ⟨rfl, hr.2.1⟩⟩⟩
            | false => exact findNow_same kt hu k es es' (i + 1) r q hl h hq
      · simp at h

theorem aFind_sim {kt : TypeId} {k : Value} {es es' : List MapEntry} {r : Option (Nat × Value)} (hE : ER j es es') (hk : P.underlying kt ≠ none) (h : aFind P kt k es 0 = some r) :
    ∃ r' : Option (Nat × Value), (∀ w, (Instr.findKey kt k es').run P w = .ok r' w) ∧ (r = none → r' = none) ∧ (∀ n v, r = some (n, v) → ∃ v', r' = some (n, v') ∧ VR j v v') := by
  obtain ⟨r1, k1, k2⟩ := findAsking_run kt k es es' 0 r hE h
  cases hu : P.underlying kt with
  | none => exact absurd hu hk
  | some d =>
    cases hn : Instr.findNow d k es' 0 with
    | some q =>
      have := findNow_same kt hu k es es' 0 r q hE h hn
      exact ⟨q, fun w => by simp [Instr.findKey, run_underlying hu, hn], this⟩
    | none =>
      exact ⟨r1, fun w => by
        have := k1 w
        simp [Instr.findKey, run_underlying hu, hn, this], k2⟩

theorem ER.length {es es' : List MapEntry} (h : ER j es es') : es.length = es'.length := by
  induction h with
  | nil => rfl
  | cons _ _ ih => simp [ih]

theorem ER.isEmpty {es es' : List MapEntry} (h : ER j es es') : es'.isEmpty = es.isEmpty := by cases h <;> rfl

theorem aEntries_sim (S : Sim F w0 j h w) {m m' : Value} (hm : VR j m m') {es : List MapEntry} (e : aEntries m h = some es) :
    ∃ es', ER j es es' ∧ ((m' = .map none ∧ es' = []) ∨ ∃ r clock, m' = .map (some r) ∧ w.heap[r]? = some (.map es'.toArray clock)) := by
  unfold aEntries at e
  split at e
  · cases hm; simp at e; subst e; exact ⟨[], .nil, .inl ⟨rfl, rfl⟩⟩
  · rename_i r
    cases hm with
    | map hj =>
      rename_i L
      split at e
      · rename_i es0 clock hh
        simp at e; subst e
        have := S.obj _ _ hj
        rw [hh] at this
        obtain ⟨es', k1, k2, _⟩ := this
        exact ⟨es'.toList, k2, .inr ⟨L.blk, clock, rfl, by simpa using k1⟩⟩
      · simp at e
  · simp at e

theorem aCheckKey_sim {b : Bool} {kt : TypeId} {k k' : Value} (hk : VR j k k') (h : aCheckKey P b kt k = true) : k' = k ∧ ∀ w, (Instr.checkKey b 10000 kt k').run P w = .ok () w := by
  unfold aCheckKey at h
  simp only [Bool.and_eq_true] at h
  have := (flatB_flat h.1).eq hk
  subst this
  refine ⟨rfl, fun w => ?_⟩
  obtain ⟨u, hu⟩ := Option.isSome_iff_exists.1 h.2
  exact semPure_run hu w

theorem aCheckKey_under {b : Bool} {kt : TypeId} {k : Value} (h : aCheckKey P b kt k = true) : P.underlying kt ≠ none := by
  intro hn
  unfold aCheckKey at h
  simp only [Bool.and_eq_true] at h
  obtain ⟨u, hu⟩ := Option.isSome_iff_exists.1 h.2
  have := semPure_run hu default
  have h2 : ∃ d0, (Instr.checkKey b (d0 + 1) kt k).run P default = .ok () default := ⟨9999, this⟩
  obtain ⟨d0, h2⟩ := h2
  simp [Instr.checkKey, underlying, hn, stuck] at h2

theorem aLookup_sim (S : Sim F w0 j h w) {t : TypeId} {m m' k k' r : Value} {ok : Bool} (hm : VR j m m') (hk : VR j k k') (e : aLookup P t m k ok h = some r) :
    ∃ r', VR j r r' ∧ (Instr.lookup t m' k' ok).run P w = .ok r' w := by
  unfold aLookup at e
  split at e
  · rename_i kt et hu
    obtain ⟨es, hes, e⟩ := bind_some' e
    obtain ⟨es', hE, hcase⟩ := aEntries_sim S hm hes
    split at e
    · rename_i hck
      obtain ⟨q, hq, e⟩ := bind_some' e
      obtain ⟨hkk, hck'⟩ := aCheckKey_sim hk hck
      subst hkk
      obtain ⟨q', h1, h2, h3⟩ := aFind_sim hE (aCheckKey_under hck) hq
      have hck2 := hck' w
      have hemp : es'.toArray.isEmpty = es.isEmpty := by rw [← hE.isEmpty]; simp
      cases q with
      | none =>
        have := h2 rfl; subst this
        cases hz : aZero P et with
        | none => simp [hz] at e
        | some z =>
          simp [hz] at e; subst e
          have hz1 := run_zero' hz w
          refine ⟨if ok then .tuple #[z, .bool false] else z, ?_, ?_⟩
          · split
            · exact VR.tuple' (.cons (hz1.2.vr j) (.cons (.bool _) .nil))
            · exact hz1.2.vr j
          · rcases hcase with ⟨rfl, rfl⟩ | ⟨r0, clock, rfl, hw⟩
            · cases hE
              simp only [List.isEmpty_nil] at hck2
              simp [Instr.lookup, run_underlying hu, hck2, h1, hz1.1]
            · simp only [Instr.lookup, Sem.run_bind, run_underlying hu, Result.andThen_ok, run_getObj_map hw, Sem.run_pure, hemp, hck2, h1, hz1.1]
      | some p =>
        obtain ⟨n, v⟩ := p
        obtain ⟨v', rfl, hv⟩ := h3 n v rfl
        simp at e; subst e
        refine ⟨if ok then .tuple #[v', .bool true] else v', ?_, ?_⟩
        · split
          · exact VR.tuple' (.cons hv (.cons (.bool _) .nil))
          · exact hv
        · rcases hcase with ⟨rfl, rfl⟩ | ⟨r0, clock, rfl, hw⟩
          · cases hE
            simp only [List.isEmpty_nil] at hck2
            simp [Instr.lookup, run_underlying hu, hck2, h1]
          · simp only [Instr.lookup, Sem.run_bind, run_underlying hu, Result.andThen_ok, run_getObj_map hw, Sem.run_pure, hemp, hck2, h1]
    · simp at e
  · simp at e

theorem aView_sim (S : Sim F w0 j h w) {size n : Nat} {v v' : Value} (hv : VR j v v') {l : List Value} (e : aView size v n h = some l) :
    ∃ l', (Builtin.firstCells size n v').run P w = .ok l'.toArray w ∧ LR j l l' := by
  unfold aView at e
  split at e
  · rename_i b o sp len cap
    split at e
    · rename_i hz
      simp at e; subst e
      refine ⟨[], ?_, .nil⟩
      have : ∀ a : Addr, (loadCells a (n * size)).run P w = .ok #[] w := fun a => by rw [hz]; rfl
      cases hv <;> simp [Builtin.firstCells, this]
    · rename_i hz
      split at e
      · rename_i hle
        cases hv with
        | slice _ _ hj =>
          obtain ⟨l', h1, h2⟩ := aCells_sim (P := P) S (a := ⟨b, o, none⟩) hj e
          exact ⟨l', by simpa [Builtin.firstCells] using h1, h2⟩
        | oslice _ _ hj _ _ =>
          obtain ⟨l', h1, h2⟩ := aCells_sim (P := P) S (a := ⟨b, o, none⟩) hj e
          exact ⟨l', by simpa [Builtin.firstCells] using h1, h2⟩
        | slice0 a a' =>
          have : n = 0 := by omega
          subst this; simp at hz
      · simp at e
  · cases hv; simp at e; subst e; exact ⟨[], rfl, .nil⟩
  · simp at e

theorem bytesOf_ints : ∀ {l : List Value} {bs : List UInt8}, bytesOf? l = some bs → ∃ ns : List Int, l = ns.map (Value.int .u8) ∧ bs = ns.map fun n => UInt8.ofNat n.toNat
  | [], bs, h => by simp [bytesOf?] at h; subst h; exact ⟨[], rfl, rfl⟩
  | v :: r, bs, h => by
    unfold bytesOf? at h
    split at h
    · rename_i heq; simp at heq
    · rename_i n r' heq
      injection heq with e1 e2; subst e1; subst e2
      cases hb : bytesOf? r with
      | none => simp [hb] at h
      | some q =>
        simp [hb] at h; subst h
        obtain ⟨ns, k1, k2⟩ := bytesOf_ints hb
        exact ⟨n :: ns, by simp [k1], by simp [k2]⟩
    · simp at h

theorem foldl_push (f : Int → UInt8) : ∀ (ns : List Int) (s : List UInt8), ns.foldl (fun (r : ByteArray) n => r.push (f n)) ⟨s.toArray⟩ = ⟨(s ++ ns.map f).toArray⟩
  | [], s => by simp
  | n :: ns, s => by
    simp only [List.foldl_cons]
    have : (ByteArray.mk s.toArray).push (f n) = ⟨(s ++ [f n]).toArray⟩ := by simp [ByteArray.push]
    rw [this, foldl_push f ns]
    simp

/-! ## unsafe.Pointer -/

theorem rowAt_mono (p : Program) (fits : TypeId → Bool) : ∀ (d : Nat) (e : TypeId) (c c' off n : Nat), c ≤ c' → rowAt p fits d e c off n = true → rowAt p fits d e c' off n = true
  | 0, _, _, _, _, _, _, h => by simp [rowAt] at h
  | d + 1, e, c, c', off, n, hc, h => by
    unfold rowAt at h ⊢
    simp only at h ⊢
    split at h
    · simp at h
    · rename_i hs
      rw [if_neg hs]
      simp only [Bool.or_eq_true, Bool.and_eq_true, decide_eq_true_eq] at h ⊢
      rcases h with ⟨⟨h1, h2⟩, h3⟩ | ⟨h1, h2⟩
      · exact .inl ⟨⟨h1, by omega⟩, h3⟩
      · exact .inr ⟨by omega, h2⟩

theorem liesAt_mono (p : Program) : ∀ (d : Nat) (e : TypeId) (c c' off : Nat) (u : TypeId) (n : Nat), c ≤ c' → liesAt p d e c off u n = true → liesAt p d e c' off u n = true
  | 0, _, _, _, _, _, _, _, h => by simp [liesAt] at h
  | d + 1, e, c, c', off, u, n, hc, h => by
    unfold liesAt at h ⊢
    simp only [Bool.or_eq_true] at h ⊢
    rcases h with h | h
    · exact .inl (rowAt_mono p _ _ _ _ _ _ _ hc h)
    · right
      split at h
      · exact liesAt_mono p d e c c' off _ _ hc h
      · simp at h

section
variable {B o : Nat} {d : Array Value} {T : TypeId} {f : Nat × Nat}

theorem run_viewAt (hb : w.heap[B]? = some (.cells d T f)) : (viewAt B).run P w = .ok none w := by
  simp [viewAt, shape, Sem.run, World.shape?, hb]

theorem run_seenAt (hb : w.heap[B]? = some (.cells d T f)) : (Conv.seenAt ⟨B, o, none⟩).run P w = .ok ⟨B, o, none⟩ w := by
  simp [Conv.seenAt, run_viewAt hb]

theorem run_cellsIn (hb : w.heap[B]? = some (.cells d T f)) : (cellsIn B).run P w = .ok (some d.size) w := by
  simp [cellsIn, shape, Sem.run, World.shape?, hb]

theorem run_variablesAt (hb : w.heap[B]? = some (.cells d T f)) (u : TypeId) (n : Nat) : (variablesAt ⟨B, o, none⟩ u n).run P w = .ok (liesAt P P.depth T (d.size / P.cellsOf T) o u n) w := by
  simp [variablesAt, program, shape, Sem.run, World.shape?, hb]
end

theorem aPlaceOk_obj (S : Sim F w0 j h w) {b o : Nat} {t : TypeId} {L : Loc} (hj : j b = some L) (e : aPlaceOk P b o t h = true) :
    ∃ d T f n, w.heap[L.blk]? = some (.cells d T f) ∧ L.off + o < d.size ∧ aSize P t = some (n + 1) := by
  have hob := S.obj _ _ hj
  unfold aPlaceOk at e
  split at e
  · rename_i c ro n hc hs
    rw [hc] at hob
    obtain ⟨d, T, f, h1, h2, h3, _⟩ := hob
    have : o < c.length := by simpa using e
    exact ⟨d, T, f, n, h1, by unfold Loc.ext at h3; omega, hs⟩
  · rename_i c t2 z n hc hs
    rw [hc] at hob
    obtain ⟨d, f, h1, h2, h3, _⟩ := hob
    have : o < c.length := by simpa using e
    exact ⟨d, _, f, n, h1, by unfold Loc.ext at h3; omega, hs⟩
  · simp at e

theorem tcells_lies (S : Sim F w0 j h w) {b o : Nat} {L : Loc} (hj : j b = some L) {c : List Value} {t u : TypeId} {z : Option Nat} {n : Nat} (hc : h[b]? = some (.tcells c t z))
    (e : liesAt P P.depth t (c.length / P.cellsOf t) o u n = true) :
    ∃ d f, w.heap[L.blk]? = some (.cells d t f) ∧ L.off = 0 ∧ c.length ≤ d.size ∧ fzOk z f d.size ∧ (variablesAt ⟨L.blk, L.off + o, none⟩ u n).run P w = .ok true w := by
  have hob := S.obj _ _ hj
  rw [hc] at hob
  obtain ⟨d, f, h1, h2, h3, h4, h5, h6, h7⟩ := hob
  have hle : c.length ≤ d.size := by rw [h7, h2]; unfold Loc.ext; omega
  refine ⟨d, f, h1, h6, hle, h5, ?_⟩
  rw [run_variablesAt h1, h6, Nat.zero_add, liesAt_mono P _ _ _ _ _ _ _ (Nat.div_le_div_right hle) e]

theorem aConvRead_sim (S : Sim F w0 j h w) {src dst : TypeId} {v v' r : Value} (hv : VR j v v') (e : aConvRead P src dst v h = some r) :
    ∃ r', VR j r r' ∧ (convert src dst v').run P w = .ok r' w := by
  unfold aConvRead at e
  split at e
  · rename_i t hs hd
    split at e
    · simp at e; subst e; cases hv
      exact ⟨_, .pnil, by simp [convert, run_underlying hs, run_underlying hd, Conv.unsafePointer]⟩
    · rename_i b o
      split at e
      · rename_i hok
        simp at e; subst e
        cases hv with
        | ptr hj =>
          rename_i L
          obtain ⟨d, T, f, n, h1, h2, h3⟩ := aPlaceOk_obj S hj hok
          refine ⟨_, .ptr hj, ?_⟩
          have h4 : ¬ d.size ≤ L.off + o := by omega
          simp [convert, run_underlying hs, run_underlying hd, Conv.unsafePointer, run_seenAt h1, run_cellsIn h1, run_sizeOf' h3, h4]
      · simp at e
    · simp at e
  · rename_i u hs hd
    split at e
    · simp at e; subst e; cases hv
      exact ⟨_, .pnil, by simp [convert, run_underlying hs, run_underlying hd, Conv.unsafePointer]⟩
    · rename_i b o
      split at e
      · rename_i c t z n hc hs2
        split at e
        · rename_i hok
          simp at e; subst e
          cases hv with
          | ptr hj =>
            rename_i L
            obtain ⟨d, f, h1, h2, h3, h4, h5⟩ := tcells_lies (P := P) S hj hc hok
            refine ⟨_, .ptr hj, ?_⟩
            simp [convert, run_underlying hs, run_underlying hd, Conv.unsafePointer, run_seenAt h1, run_sizeOf' hs2, h5]
        · simp at e
      · simp at e
    · simp at e
  · rename_i el hs hd
    split at e
    · rename_i a n c he
      obtain ⟨l, hl, e⟩ := bind_some' e
      cases hb : bytesOf? l with
      | none => simp [hb] at e
      | some bs =>
        simp [hb] at e; subst e
        refine ⟨_, .string _, ?_⟩
        obtain ⟨l', h1, h2⟩ := aView_sim (P := P) S hv hl
        obtain ⟨ns, k1, k2⟩ := bytesOf_ints hb
        subst k1 k2
        have hll : l' = ns.map (Value.int .u8) := by
          clear h1 hl hb e
          induction ns generalizing l' with
          | nil => cases h2; rfl
          | cons n ns ih => cases h2 with | cons hv hl => cases hv; simp [ih _ hl]
        subst hll
        have key : ∀ (a' : Option Addr) (c' : Nat), v' = .slice a' n c' → (convert src dst v').run P w = .ok (.string ⟨(ns.map fun n => UInt8.ofNat n.toNat).toArray⟩) w := by
          intro a' c' hv'
          subst hv'
          cases a' with
          | none =>
            have : ns = [] := by
              simp [Builtin.firstCells] at h1
              cases ns with
              | nil => rfl
              | cons _ _ => simp at h1
            subst this
            simp [convert, run_underlying hs, run_underlying hd, run_underlying he, Conv.bytesToString, ByteArray.empty, ByteArray.emptyWithCapacity]
            rfl
          | some a' =>
            have h3 : (loadCells a' n).run P w = .ok (ns.map (Value.int .u8)).toArray w := by simpa [Builtin.firstCells] using h1
            have := run_bytesToString (P := P) w a' n c' ns h3
            simp only [convert, Sem.run_bind, run_underlying hs, run_underlying hd, run_underlying he, Result.andThen_ok, this]
            have h4 := foldl_push (fun n : Int => UInt8.ofNat n.toNat) ns []
            simp only [List.nil_append] at h4
            rw [← h4]; rfl
        cases hv with
        | snil => exact key _ _ rfl
        | slice => exact key _ _ rfl
        | oslice => exact key _ _ rfl
        | slice0 => exact key _ _ rfl
    · simp at e
  · simp at e

theorem aLenMap_sim (S : Sim F w0 j h w) {t ty : TypeId} {m m' r : Value} (hm : VR j m m') (e : aLenMap P t m h = some r) :
    VR j r r ∧ (Builtin.len_ #[t] ty #[m']).run P w = .ok r w := by
  unfold aLenMap at e
  split at e
  · rename_i kt et hu
    cases hes : aEntries m h with
    | none => simp [hes] at e
    | some es =>
      simp [hes] at e; subst e
      obtain ⟨es', hE, hcase⟩ := aEntries_sim S hm hes
      refine ⟨.int _ _, ?_⟩
      rcases hcase with ⟨rfl, rfl⟩ | ⟨r0, clock, rfl, hw⟩
      · cases hE; simp [Builtin.len_, run_underlying hu]
      · simp [Builtin.len_, run_underlying hu, run_getObj_map hw, hE.length]
  · simp at e

variable {ρ : Operand → Option Value} {ρ' : Operand → Value}

theorem aRead_sim (S : Sim F w0 j h w) (hr : RR j ρ ρ') (o : Oper) {r : Value} (e : aRead P ρ h o.op = some r) :
    ∃ r', VR j r r' ∧ (execOp ρ' o).run P w = .ok (.value r') w := by
  obtain ⟨dst, op, type, pos, after, guard⟩ := o
  simp only at e
  unfold aRead at e
  split at e
  · rename_i t x
    obtain ⟨v, hv, e⟩ := bind_some' e
    obtain ⟨r', k1, k2⟩ := aLoad_sim S (hr _ _ hv) e
    exact ⟨r', k1, run_val k2⟩
  · rename_i t m k ok
    obtain ⟨mv, hm, e⟩ := bind_some' e
    obtain ⟨kv, hk, e⟩ := bind_some' e
    obtain ⟨r', k1, k2⟩ := aLookup_sim S (hr _ _ hm) (hr _ _ hk) e
    exact ⟨r', k1, run_val k2⟩
  · rename_i s d x
    obtain ⟨v, hv, e⟩ := bind_some' e
    obtain ⟨r', k1, k2⟩ := aConvRead_sim S (hr _ _ hv) e
    exact ⟨r', k1, run_val k2⟩
  · rename_i args argTypes
    split at e
    · rename_i x t hx ht
      obtain ⟨v, hv, e⟩ := bind_some' e
      obtain ⟨k1, k2⟩ := aLenMap_sim (ty := type) S (hr _ _ hv) e
      refine ⟨r, k1, ?_⟩
      have e1 : args = #[x] := Array.ext' hx
      have e2 : argTypes = #[t] := Array.ext' ht
      subst e1 e2
      simp [execOp, resolve, invoke, builtin, k2]
    · simp at e
  · simp at e

end Go.Fm

namespace Go.Fm

variable (P : Program)

/-- n cells of a zero value, again and again -/
def zeroRow (z : Array Value) (n : Nat) : Option (List Value) :=
  if n = 0 then some [] else if z.size = 0 then none else some ((List.range n).map fun i => (z[i % z.size]?).getD .nilFunc)

def byteCells (s : ByteArray) : List Value := s.data.toList.map fun b => .int .u8 b.toNat
def runeCells (s : ByteArray) : List Value := (Conv.runesFrom s s.size 0 #[]).toList

def aAlloc (ρ : Operand → Option Value) (id : Nat) : Op → Option (AObj × Value)
  | .alloc t => (aZero P t).map fun z => (.tcells z.cells.toList t (some 0), .pointer (some ⟨id, 0, none⟩))
  | .box _ x => (ρ x).map fun v => (.cells v.cells.toList false, .pointer (some ⟨id, 0, none⟩))
  | .buildSlice t len parts =>
    match P.underlying t with
    | some (.slice e) =>
      (aSize P e).bind fun s => (mapP ρ parts.toList).bind fun ps => (aZero P e).bind fun z => (zeroRow z.cells (len * s)).bind fun row =>
        if len * s > 2 ^ 24 then none else
        (Instr.fill (fun i => some (i * s, s)) row.toArray ps).map fun cs => (.tcells cs.toList e (some 0), .slice (some ⟨id, 0, none⟩) len len)
    | _ => none
  | .makeSlice t l c =>
    match P.underlying t, ρ l, ρ c with
    | some (.slice e), some (.int _ ln), some (.int _ cn) =>
      match P.info? e with
      | some i =>
        if 0 ≤ ln ∧ ln ≤ cn ∧ (i.bytes : Int) * cn ≤ 2 ^ 47 ∧ cn < 2 ^ 62 then
          (aZero P e).bind fun z => (zeroRow z.cells (cn.toNat * i.size)).map fun row => (.tcells row e (some 0), .slice (some ⟨id, 0, none⟩) ln.toNat cn.toNat)
        else none
      | none => none
    | _, _, _ => none
  | .makeMap _ none => some (.map [] 0, .map (some id))
  | .makeMap t (some x) =>
    match P.underlying t, ρ x with
    | some (.map _ _), some (.int _ _) => some (.map [] 0, .map (some id))
    | _, _ => none
  | .convert src dst x =>
    match P.underlying src, P.underlying dst, ρ x with
    | some .string, some (.slice e), some (.string s) =>
      match P.underlying e with
      | some (.int .u8) => some (.tcells (byteCells s) e none, .slice (some ⟨id, 0, some 1⟩) s.size s.size)
      | some (.int .i32) => some (.cells (runeCells s) false, .slice (some ⟨id, 0, some 1⟩) (runeCells s).length (runeCells s).length)
      | _ => none
    | _, _, _ => none
  | _ => none

variable {P} {F : Nat → Nat → Prop} {w0 w : World} {j : Inj} {h : AHeap} {ρ : Operand → Option Value} {ρ' : Operand → Value}

/-- what an operation that makes a block leaves -/
def Makes (j : Inj) (w w' : World) (id : Nat) (ob : AObj) (r r' : Value) : Prop :=
  Io w w' ∧ ∃ L x, w'.heap = w.heap.push x ∧ L.blk = w.heap.size ∧ (∀ j', j.le j' → ObjR j' L w' (some ob)) ∧ (∀ j', j.le j' → j' id = some L → VR j' r r')

theorem makes_cells {w' : World} {id : Nat} {c c' tail : List Value} (hc : LR j c c') {T : TypeId} {f : Nat × Nat} {esz extra : Nat} (ht : tail.length = extra * esz)
    (hio : Io w w') (hw : w'.heap = w.heap.push (.cells (c' ++ tail).toArray T f)) (hf : ∀ o, o < c'.length + extra * esz → (f.1 ≤ o && o < f.2) = false) {r r' : Value}
    (hr : ∀ j' L, j.le j' → j' id = some L → L = { blk := w.heap.size, off := 0, size := c.length, esz, extra } → VR j' r r') :
    Makes j w w' id (.cells c false) r r' := by
  refine ⟨hio, { blk := w.heap.size, off := 0, size := c.length, esz, extra }, _, hw, rfl, ?_, fun j' hj e => hr j' _ hj e rfl⟩
  intro j' hj
  have hl := hc.length
  refine ⟨(c' ++ tail).toArray, T, f, by rw [hw]; simp, rfl, ?_, ?_, ?_, by simp⟩
  · simp [Loc.ext]; omega
  · simp only [List.drop_zero]
    rw [List.take_append_of_le_length (by omega), List.take_of_length_le (by omega)]
    exact hc.mono hj
  · intro _ o _ ho
    refine hf o ?_
    simp [Loc.ext] at ho; omega

theorem fzOk_zero (n : Nat) : fzOk (some 0) (0, 0) n := ⟨Nat.le_refl _, Nat.le_refl _⟩

theorem makes_tcells {w' : World} {id : Nat} {c c' tail : List Value} (hc : LR j c c') {T : TypeId} {f : Nat × Nat} {z : Option Nat} {esz extra : Nat} (ht : tail.length = extra * esz)
    (hio : Io w w') (hw : w'.heap = w.heap.push (.cells (c' ++ tail).toArray T f)) (hf : fzOk z f (c' ++ tail).length) {r r' : Value}
    (hr : ∀ j' L, j.le j' → j' id = some L → L = { blk := w.heap.size, off := 0, size := c.length, esz, extra } → VR j' r r') :
    Makes j w w' id (.tcells c T z) r r' := by
  refine ⟨hio, { blk := w.heap.size, off := 0, size := c.length, esz, extra }, _, hw, rfl, ?_, fun j' hj e => hr j' _ hj e rfl⟩
  intro j' hj
  have hl := hc.length
  refine ⟨(c' ++ tail).toArray, f, by rw [hw]; simp, rfl, ?_, ?_, by simpa using hf, rfl, ?_⟩
  · simp [Loc.ext]; omega
  · simp only [List.drop_zero]
    rw [List.take_append_of_le_length (by omega), List.take_of_length_le (by omega)]
    exact hc.mono hj
  · simp [Loc.ext]; omega

theorem zeroRow_flat {z : Value} (hz : Flat z) {n : Nat} {row : List Value} (h : zeroRow z.cells n = some row) (j : Inj) : LR j row row ∧ row.length = n ∧
    ((Array.range n).map fun i => z.cells[i % z.cells.size]!) = row.toArray := by
  unfold zeroRow at h
  split at h
  · rename_i hn; simp at h; subst h; subst hn; exact ⟨.nil, rfl, by simp⟩
  · split at h
    · simp at h
    · rename_i hs
      simp at h; subst h
      have hpos : 0 < z.cells.size := by omega
      have hin : ∀ i, i % z.cells.size < z.cells.size := fun i => Nat.mod_lt _ hpos
      refine ⟨LR.of_get rfl ?_, by simp, ?_⟩
      · intro i v v' e e'
        rw [e] at e'; injection e' with e'; subst e'
        simp only [List.getElem?_map] at e
        cases hr : (List.range n)[i]? with
        | none => simp [hr] at e
        | some k =>
          have hlt := hin k
          simp only [hr, Option.map_some, Array.getElem?_eq_getElem hlt, Option.getD_some, Option.some.injEq] at e
          subst e
          have hm : z.cells[k % z.cells.size]? = some (z.cells[k % z.cells.size]'hlt) := Array.getElem?_eq_getElem hlt
          have := (hz.vr j).cells
          exact this.rel (k % z.cells.size) _ _ (by simp) (by simp)
      · apply Array.ext'
        simp only [Array.toList_map, Array.toList_range]
        apply List.map_congr_left
        intro i _
        have := hin i
        simp [this]

theorem aAlloc_sim (hr : RR j ρ ρ') (o : Oper) {id : Nat} {ob : AObj} {r : Value} (e : aAlloc P ρ id o.op = some (ob, r)) (w : World) :
    ∃ r' w', (execOp ρ' o).run P w = .ok (.value r') w' ∧ Makes j w w' id ob r r' := by
  obtain ⟨dst, op, type, pos, after, guard⟩ := o
  simp only at e
  unfold aAlloc at e
  split at e
  · rename_i t
    cases hz : aZero P t with
    | none => simp [hz] at e
    | some z =>
      simp [hz] at e
      obtain ⟨e1, e2⟩ := e; subst e1 e2
      have hz1 := run_zero' hz w
      refine ⟨_, _, run_val (by simp [Instr.alloc, hz1.1, newVar, run_newRow]; exact ⟨rfl, rfl⟩), ?_⟩
      exact makes_tcells (tail := []) (esz := 1) (extra := 0) (hz1.2.vr j).cells rfl (by exact ⟨rfl, rfl, rfl⟩) (by simp; rfl) (fzOk_zero _) (fun j' L hj e hL => by subst hL; exact VR.ptr e)
  · rename_i t x
    cases hx : ρ x with
    | none => simp [hx] at e
    | some v =>
      simp [hx] at e
      obtain ⟨e1, e2⟩ := e; subst e1 e2
      refine ⟨_, _, run_val (by simp [Instr.box, newVar, run_newRow]; exact ⟨rfl, rfl⟩), ?_⟩
      exact makes_cells (tail := []) (esz := 1) (extra := 0) (hr _ _ hx).cells rfl (by exact ⟨rfl, rfl, rfl⟩) (by simp; rfl) (by simp) (fun j' L hj e hL => by subst hL; exact VR.ptr e)
  · rename_i t len parts
    split at e
    · rename_i el hu
      obtain ⟨s, hs, e⟩ := bind_some' e
      obtain ⟨ps, hps, e⟩ := bind_some' e
      obtain ⟨z, hz, e⟩ := bind_some' e
      obtain ⟨row, hrow, e⟩ := bind_some' e
      split at e
      · simp at e
      · rename_i hsmall
        cases hf : Instr.fill (fun i => some (i * s, s)) row.toArray ps with
        | none => simp [hf] at e
        | some cs =>
          simp [hf] at e
          obtain ⟨e1, e2⟩ := e; subst e1 e2
          have hz1 := run_zero' hz w
          obtain ⟨hrr, hrl, hra⟩ := zeroRow_flat hz1.2 hrow j
          obtain ⟨cs', k1, k2⟩ := fill_sim _ (mapP_sim hr hps) hrr.toAR hf
          have hparts : parts.map (fun x => (x.1, ρ' x.2)) = (List.map (fun p => (p.1, ρ' p.2)) parts.toList).toArray := by apply Array.ext'; simp
          refine ⟨.slice (some ⟨w.heap.size, 0, none⟩) len len, { w with heap := w.heap.push (.cells cs' el) }, run_val ?_, ?_⟩
          · have hsm : ¬ (len * s > 2 ^ 24) := hsmall
            by_cases hn : len * s = 0
            · have hrow0 : row = [] := by
                cases row with
                | nil => rfl
                | cons _ _ => simp [hn] at hrl
              subst hrow0
              have k1' : Instr.fill (fun i => some (i * s, s)) #[] (List.map (fun p => (p.1, ρ' p.2)) parts.toList) = some cs' := k1
              simp only [Instr.buildSlice, Sem.run_bind, run_underlying hu, Result.andThen_ok, run_sizeOf' hs, hn, hparts, List.toList_toArray]
              simp [Array.range_zero', k1', run_newRow]
            · simp only [Instr.buildSlice, Sem.run_bind, run_underlying hu, Result.andThen_ok, run_sizeOf' hs, if_neg hsm, if_neg hn, hz1.1, hra, hparts, List.toList_toArray, k1, run_newRow, Sem.run_pure]
          · refine makes_tcells (c' := cs'.toList) (tail := []) (esz := 1) (extra := 0) k2.toLR rfl (by exact ⟨rfl, rfl, rfl⟩) (by simp) (fzOk_zero _) (fun j' L hj e hL => ?_)
            subst hL
            have := VR.slice (j := j') (o := 0) len len e
            simpa using this
    · simp at e
  · rename_i t l c
    split at e
    · rename_i el k1 ln k2 cn hu hl hc
      split at e
      · rename_i i hi
        split at e
        · rename_i hcond
          obtain ⟨z, hz, e⟩ := bind_some' e
          cases hrow : zeroRow z.cells (cn.toNat * i.size) with
          | none => simp [hrow] at e
          | some row =>
            simp [hrow] at e
            obtain ⟨e1, e2⟩ := e; subst e1 e2
            have hz1 := run_zero' hz w
            obtain ⟨hrr, hrl, hra⟩ := zeroRow_flat hz1.2 hrow j
            have hl' := hr _ _ hl
            have hc' := hr _ _ hc
            have el1 : ρ' l = .int k1 ln := by revert hl'; cases ρ' l <;> intro q <;> cases q; rfl
            have ec1 : ρ' c = .int k2 cn := by revert hc'; cases ρ' c <;> intro q <;> cases q; rfl
            have hs : aSize P el = some i.size := by simp [aSize, hi]
            refine ⟨.slice (some ⟨w.heap.size, 0, none⟩) ln.toNat cn.toNat, { w with heap := w.heap.push (.cells row.toArray el) }, run_val ?_, ?_⟩
            · have w1 : IntKind.i64.wrap ln = ln := by simp [IntKind.wrap, IntKind.bits, IntKind.signed]; omega
              have w2 : IntKind.i64.wrap cn = cn := by simp [IntKind.wrap, IntKind.bits, IntKind.signed]; omega
              have t1 : (decide (cn < 0) || decide ((i.bytes : Int) * cn > 2 ^ 48)) = false := by simp; omega
              have t2 : ((decide (cn < 0) || decide ((i.bytes : Int) * cn > 2 ^ 48)) || decide (ln < 0) || decide (ln > cn)) = false := by
                rw [t1]; simp; omega
              have hroom : (askRoom (cn.toNat * i.bytes)).run P w = .ok () w := by
                unfold askRoom; split
                · simp [mark, Sem.run]
                · simp
              have ti : (typeInfo el).run P w = .ok i w := by simp [typeInfo, hi]
              by_cases hn : cn.toNat * i.size = 0
              · have hrow0 : row = [] := by
                  cases row with
                  | nil => rfl
                  | cons _ _ => simp [hn] at hrl
                subst hrow0
                simp only [Instr.makeSlice, Sem.run_bind, run_underlying hu, Result.andThen_ok, el1, ec1, asInt, asIntOf, Sem.run_pure, ti, w1, w2, t2, Bool.false_eq_true, if_false, hroom, run_sizeOf' hs, hn]
                simp [Array.range_zero', run_newRow]
              · simp only [Instr.makeSlice, Sem.run_bind, run_underlying hu, Result.andThen_ok, el1, ec1, asInt, asIntOf, Sem.run_pure, ti, w1, w2, t2, Bool.false_eq_true, if_false, hroom, run_sizeOf' hs, if_neg hn, hz1.1, hra, run_newRow]
            · refine makes_tcells (tail := []) (esz := 1) (extra := 0) (T := el) (f := (0, 0)) hrr rfl (by exact ⟨rfl, rfl, rfl⟩) (by simp) (fzOk_zero _) (fun j' L hj e hL => ?_)
              subst hL
              have := VR.slice (j := j') (o := 0) ln.toNat cn.toNat e
              simpa using this
        · simp at e
      · simp at e
    · simp at e
  · simp at e
    obtain ⟨e1, e2⟩ := e; subst e1 e2
    refine ⟨.map (some w.heap.size), { w with heap := w.heap.push (.map #[] 0) }, run_val (by simp [Instr.makeMap, newObj, Sem.run]), (by exact ⟨rfl, rfl, rfl⟩), ⟨w.heap.size, 0, 0, 0, 0⟩, _, rfl, rfl, ?_, ?_⟩
    · intro j' _; exact ⟨#[], by simp, .nil, rfl⟩
    · intro j' _ e; exact VR.map e
  · rename_i t x
    split at e
    · rename_i k1 e0 kk n hu hx
      simp at e
      obtain ⟨e1, e2⟩ := e; subst e1 e2
      have hx' := hr _ _ hx
      have ex1 : ρ' x = .int kk n := by revert hx'; cases ρ' x <;> intro q <;> cases q; rfl
      refine ⟨.map (some w.heap.size), { w with heap := w.heap.push (.map #[] 0) }, run_val (by simp [Instr.makeMap, newObj, Sem.run, run_underlying hu, ex1, asInt, asIntOf]), (by exact ⟨rfl, rfl, rfl⟩), ⟨w.heap.size, 0, 0, 0, 0⟩, _, rfl, rfl, ?_, ?_⟩
      · intro j' _; exact ⟨#[], by simp, .nil, rfl⟩
      · intro j' _ e; exact VR.map e
    · simp at e
  · rename_i src dst x
    split at e
    · rename_i el s hs hd hx
      have hx' := hr _ _ hx
      have ex1 : ρ' x = .string s := by revert hx'; cases ρ' x <;> intro q <;> cases q; rfl
      split at e
      · rename_i he
        simp at e
        obtain ⟨e1, e2⟩ := e; subst e1 e2
        have hlb : (byteCells s).length = s.size := by simp [byteCells]
        have hflat : ∀ j : Inj, LR j (byteCells s) (byteCells s) := by
          intro j; unfold byteCells; induction s.data.toList with
          | nil => exact .nil
          | cons b l ih => exact .cons (.int _ _) ih
        obtain ⟨q, hq⟩ : ∃ q, q = (Question.appendCap s.size 0 el).cut (w.tape w.drawn (.appendCap s.size 0 el)) := ⟨_, rfl⟩
        have hqge : s.size ≤ q := by rw [hq]; simp [Question.cut]
        refine ⟨.slice (some ⟨w.heap.size, 0, none⟩) s.size q, { w with heap := w.heap.push (.cells (byteCells s ++ List.replicate (q - s.size) (Value.int .u8 0)).toArray el (q, q + 1)), drawn := w.drawn + 1 }, run_val ?_, ?_⟩
        · have harr : s.data.map (fun b => Value.int .u8 b.toNat) ++ Array.replicate (q - s.size) (Value.int .u8 0) = (byteCells s ++ List.replicate (q - s.size) (Value.int .u8 0)).toArray := by
            apply Array.ext'; simp [byteCells]
          have hch : (choose (.appendCap s.size 0 el)).run P w = .ok q { w with drawn := w.drawn + 1 } := by
            rw [hq]; simp [choose, Sem.run, Question.forced]
          have hsz : (byteCells s ++ List.replicate (q - s.size) (Value.int .u8 0)).length = q := by simp [hlb]; omega
          simp only [convert, Sem.run_bind, run_underlying hs, run_underlying hd, Result.andThen_ok, ex1, run_underlying he, Conv.stringToBytes, hch, harr, run_newRow, Sem.run_pure]
          simp [markStringish, shape, freeze, Sem.run, World.shape?, World.freeze, hsz]
          apply Array.ext
          · simp
          · intro i h1 h2
            simp only [Array.getElem_modify, Array.getElem_push]
            simp only [Array.size_modify, Array.size_push] at h1
            by_cases hi : i < w.heap.size
            · simp [hi]; omega
            · simp [hi]; omega
        · refine makes_tcells (tail := List.replicate (q - s.size) (Value.int .u8 0)) (esz := 1) (extra := q - s.size) (hflat j) (by simp) (by exact ⟨rfl, rfl, rfl⟩) rfl ?_ (fun j' L hj e hL => ?_)
          · right; rw [show (byteCells s ++ List.replicate (q - s.size) (Value.int .u8 0)).length = q by simp [hlb]; omega]
          · subst hL
            have := VR.oslice (j := j') (o := 0) (e := 1) s.size s.size e rfl (by simp [hlb])
            simpa [show s.size + (q - s.size) = q by omega] using this
      · rename_i he
        simp at e
        obtain ⟨e1, e2⟩ := e; subst e1 e2
        have hints : ∀ (b i : Nat) (acc : Array Value), (∀ j : Inj, LR j acc.toList acc.toList) → ∀ j : Inj, LR j (Conv.runesFrom s b i acc).toList (Conv.runesFrom s b i acc).toList := by
          intro b; induction b with
          | zero => intro i acc ha j; exact ha j
          | succ b ih =>
            intro i acc ha j
            unfold Conv.runesFrom
            split
            · refine ih _ _ (fun j => ?_) j
              simp only [Array.toList_push]
              exact (ha j).app (.cons (.int _ _) .nil)
            · exact ha j
        have hflat : LR j (runeCells s) (runeCells s) := hints _ _ _ (fun _ => .nil) j
        obtain ⟨n, hn⟩ : ∃ n, n = (runeCells s).length := ⟨_, rfl⟩
        have hn' : (Conv.runesFrom s s.size 0 #[]).size = n := by rw [hn]; simp [runeCells]
        obtain ⟨q, hq⟩ : ∃ q, q = (Question.appendCap n 0 el).cut (w.tape w.drawn (.appendCap n 0 el)) := ⟨_, rfl⟩
        have hqge : n ≤ q := by rw [hq]; simp [Question.cut]
        rw [← hn]
        refine ⟨.slice (some ⟨w.heap.size, 0, none⟩) n q, { w with heap := w.heap.push (.cells (runeCells s ++ List.replicate (q - n) (Value.int .i32 0)).toArray el), drawn := w.drawn + 1 }, run_val ?_, ?_⟩
        · have harr : Conv.runesFrom s s.size 0 #[] ++ Array.replicate (q - n) (Value.int .i32 0) = (runeCells s ++ List.replicate (q - n) (Value.int .i32 0)).toArray := by
            apply Array.ext'; simp [runeCells]
          have hch : (choose (.appendCap n 0 el)).run P w = .ok q { w with drawn := w.drawn + 1 } := by
            rw [hq]; simp [choose, Sem.run, Question.forced]
          simp only [convert, Sem.run_bind, run_underlying hs, run_underlying hd, Result.andThen_ok, ex1, run_underlying he, Conv.stringToRunes, hn', hch, harr, run_newRow, Sem.run_pure]
        · refine makes_cells (tail := List.replicate (q - n) (Value.int .i32 0)) (esz := 1) (extra := q - n) hflat (by simp) (by exact ⟨rfl, rfl, rfl⟩) rfl ?_ (fun j' L hj e hL => ?_)
          · intro o ho; simp
          · subst hL
            have := VR.oslice (j := j') (o := 0) (e := 1) n n e rfl (by simp [← hn])
            simpa [show n + (q - n) = q by omega] using this
      · simp at e
    · simp at e
  · simp at e

end Go.Fm
