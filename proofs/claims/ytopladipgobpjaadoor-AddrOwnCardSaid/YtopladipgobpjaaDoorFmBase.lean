/-
  FmBase: the abstract heap, the relation between abstract and concrete values, and what a concrete world must hold to stand for an abstract heap.
-/
import Derived.WalkKit
import Derived.WideLaws
namespace Go.Fm

/-! ## The abstract heap -/

abbrev AEnv := List (Nat × Value)

def AEnv.get : AEnv → Nat → Option Value
  | [], _ => none
  | (a, v) :: r, t => cond (Nat.beq a t) (some v) (AEnv.get r t)

/-- what a loop over a function keeps: its rounds' start; the block of its deferred calls -/
inductive ASpec where
  | loop (e : AEnv) (n m : Nat) (ps : List Nat) (assign body : Code) (state : LoopState) (pending : Option Code) (dq : Nat)
  | defq
  | over

inductive AObj where
  | cells (c : List Value) (ro : Bool)
  /- a whole block of a variable of type t; z: only what lies below may be frozen (none: what Go's '[]byte(..)' marks) -/
  | tcells (c : List Value) (t : TypeId) (z : Option Nat)
  | map (es : List MapEntry) (clock : Nat)
  | mapIter (m : Option Nat) (since : Nat) (seen : List Nat) (stepped : Nat)
  | strIter (s : ByteArray) (pos : Nat)
  | spec (x : ASpec)
  | dead

abbrev AHeap := List AObj

def aCells (h : AHeap) (a : Addr) (n : Nat) : Option (List Value) :=
  if a.spot.isSome then none else
  match h[a.block]? with
  | some (.cells c _) | some (.tcells c _ _) => if a.off + n ≤ c.length then some ((c.drop a.off).take n) else none
  | _ => none

def aCell (h : AHeap) (a : Addr) : Option Value :=
  if a.spot.isSome then none else
  match h[a.block]? with
  | some (.cells c _) | some (.tcells c _ _) => c[a.off]?
  | _ => none

def Value.isCell : Value → Bool
  | .agg _ | .tuple _ => false
  | _ => true

def splice (c : List Value) (off : Nat) (vs : List Value) : List Value := c.take off ++ vs ++ c.drop (off + vs.length)

def aStore (h : AHeap) (a : Addr) (vs : List Value) : Option AHeap :=
  if a.spot.isSome then none else
  match h[a.block]? with
  | some (.cells c false) =>
    if a.off + vs.length ≤ c.length ∧ vs.all Value.isCell = true then some (h.set a.block (.cells (splice c a.off vs) false)) else none
  | some (.tcells c t z) =>
    if a.off + vs.length ≤ c.length ∧ vs.all Value.isCell = true ∧ z.getD 0 ≤ a.off then some (h.set a.block (.tcells (splice c a.off vs) t z)) else none
  | _ => none

/-! ## Where abstract blocks lie -/

structure Loc where
  blk : Nat
  off : Nat
  size : Nat
  esz : Nat
  extra : Nat

abbrev Inj := Nat → Option Loc

def Inj.le (j j' : Inj) : Prop := ∀ b L, j b = some L → j' b = some L

theorem Inj.le_refl (j : Inj) : j.le j := fun _ _ h => h
theorem Inj.le_trans {j j' j'' : Inj} (h : j.le j') (h' : j'.le j'') : j.le j'' := fun b L e => h' b L (h b L e)

inductive VR (j : Inj) : Value → Value → Prop
  | bool (b : Bool) : VR j (.bool b) (.bool b)
  | int (k : IntKind) (n : Int) : VR j (.int k n) (.int k n)
  | float (k : FloatKind) (n : Nat) : VR j (.float k n) (.float k n)
  | complex (k : FloatKind) (x y : Nat) : VR j (.complex k x y) (.complex k x y)
  | string (s : ByteArray) : VR j (.string s) (.string s)
  | pnil : VR j (.pointer none) (.pointer none)
  | ptr {b o : Nat} {L : Loc} : j b = some L → VR j (.pointer (some ⟨b, o, none⟩)) (.pointer (some ⟨L.blk, L.off + o, none⟩))
  | snil (l c : Nat) : VR j (.slice none l c) (.slice none l c)
  /- a slice whose capacity is known -/
  | slice {b o : Nat} {L : Loc} (l c : Nat) : j b = some L → VR j (.slice (some ⟨b, o, none⟩) l c) (.slice (some ⟨L.blk, L.off + o, none⟩) l c)
  /- a slice of elements of e cells that reaches to the block's end: its capacity may be greater than what is known -/
  | oslice {b o e : Nat} {L : Loc} (l c : Nat) : j b = some L → e = L.esz → o + c * e = L.size → VR j (.slice (some ⟨b, o, some e⟩) l c) (.slice (some ⟨L.blk, L.off + o, none⟩) l (c + L.extra))
  | slice0 (a a' : Addr) : VR j (.slice (some a) 0 0) (.slice (some a') 0 0)
  | mnil : VR j (.map none) (.map none)
  | map {r : Nat} {L : Loc} : j r = some L → VR j (.map (some r)) (.map (some L.blk))
  | cnil : VR j (.chan none) (.chan none)
  /- a cell of which nothing is known -/
  | hole {v : Value} : Value.isCell v = true → VR j (.chan (some 0)) v
  | func (f : FuncId) {x x' y y' : Array Value} : x.size = x'.size → (∀ (i : Nat) (v v' : Value), x[i]? = some v → x'[i]? = some v' → VR j v v') →
      y.size = y'.size → (∀ (i : Nat) (v v' : Value), y[i]? = some v → y'[i]? = some v' → VR j v v') → VR j (.func (.func f) x y) (.func (.func f) x' y')
  | method (m : String) {x x' y y' : Array Value} : x.size = x'.size → (∀ (i : Nat) (v v' : Value), x[i]? = some v → x'[i]? = some v' → VR j v v') →
      y.size = y'.size → (∀ (i : Nat) (v v' : Value), y[i]? = some v → y'[i]? = some v' → VR j v v') → VR j (.func (.method m) x y) (.func (.method m) x' y')
  /- a loop's yield -/
  | yield {l : Nat} {L : Loc} : j l = some L → VR j (.func (.yield l) #[] #[]) (.func (.yield L.blk) #[] #[])
  | nilFunc : VR j .nilFunc .nilFunc
  | iface (t : TypeId) {v v' : Value} : VR j v v' → VR j (.iface t v) (.iface t v')
  | nilIface : VR j .nilIface .nilIface
  | agg {x x' : Array Value} : x.size = x'.size → (∀ (i : Nat) (v v' : Value), x[i]? = some v → x'[i]? = some v' → VR j v v') → VR j (.agg x) (.agg x')
  | tuple {x x' : Array Value} : x.size = x'.size → (∀ (i : Nat) (v v' : Value), x[i]? = some v → x'[i]? = some v' → VR j v v') → VR j (.tuple x) (.tuple x')

def AR (j : Inj) (x x' : Array Value) : Prop := x.size = x'.size ∧ ∀ (i : Nat) (v v' : Value), x[i]? = some v → x'[i]? = some v' → VR j v v'

theorem VR.mono {j j' : Inj} (hj : j.le j') {v v' : Value} (h : VR j v v') : VR j' v v' := by
  induction h with
  | bool b => exact .bool b
  | int k n => exact .int k n
  | float k n => exact .float k n
  | complex k x y => exact .complex k x y
  | string s => exact .string s
  | pnil => exact .pnil
  | ptr h => exact .ptr (hj _ _ h)
  | snil l c => exact .snil l c
  | slice l c h => exact .slice l c (hj _ _ h)
  | oslice l c h he hc => exact .oslice l c (hj _ _ h) he hc
  | slice0 a a' => exact .slice0 a a'
  | mnil => exact .mnil
  | map h => exact .map (hj _ _ h)
  | cnil => exact .cnil
  | hole h => exact .hole h
  | func f h1 _ h3 _ ih1 ih2 => exact .func f h1 ih1 h3 ih2
  | method f h1 _ h3 _ ih1 ih2 => exact .method f h1 ih1 h3 ih2
  | yield h => exact .yield (hj _ _ h)
  | nilFunc => exact .nilFunc
  | iface t _ ih => exact .iface t ih
  | nilIface => exact .nilIface
  | agg h1 _ ih => exact .agg h1 ih
  | tuple h1 _ ih => exact .tuple h1 ih

theorem AR.mono {j j' : Inj} (hj : j.le j') {x x' : Array Value} (h : AR j x x') : AR j' x x' :=
  ⟨h.1, fun i v v' e e' => (h.2 i v v' e e').mono hj⟩

/-- lists, cell by cell -/
inductive LR (j : Inj) : List Value → List Value → Prop
  | nil : LR j [] []
  | cons {v v' : Value} {l l' : List Value} : VR j v v' → LR j l l' → LR j (v :: l) (v' :: l')

theorem LR.mono {j j' : Inj} (hj : j.le j') {x x' : List Value} (h : LR j x x') : LR j' x x' := by
  induction h with
  | nil => exact .nil
  | cons h _ ih => exact .cons (h.mono hj) ih

theorem LR.length {j : Inj} {x x' : List Value} (h : LR j x x') : x.length = x'.length := by
  induction h with
  | nil => rfl
  | cons _ _ ih => simp [ih]

theorem LR.get {j : Inj} {x x' : List Value} (h : LR j x x') {i : Nat} {v : Value} (e : x[i]? = some v) : ∃ v', x'[i]? = some v' ∧ VR j v v' := by
  induction h generalizing i with
  | nil => simp at e
  | cons hv _ ih =>
    cases i with
    | zero => simp at e; subst e; exact ⟨_, by simp, hv⟩
    | succ i => simp at e; simpa using ih e

theorem LR.of_get {j : Inj} : ∀ {x x' : List Value}, x.length = x'.length → (∀ (i : Nat) (v v' : Value), x[i]? = some v → x'[i]? = some v' → VR j v v') → LR j x x'
  | [], [], _, _ => .nil
  | [], _ :: _, h, _ => by simp at h
  | _ :: _, [], h, _ => by simp at h
  | v :: x, v' :: x', h, f => .cons (f 0 v v' (by simp) (by simp)) (LR.of_get (by simpa using h) fun i w w' e e' => f (i + 1) w w' (by simpa using e) (by simpa using e'))

theorem LR.rel {j : Inj} {x x' : List Value} (h : LR j x x') (i : Nat) (v v' : Value) (e : x[i]? = some v) (e' : x'[i]? = some v') : VR j v v' := by
  obtain ⟨w, hw, hr⟩ := h.get e
  rw [hw] at e'; cases e'; exact hr

theorem LR.app {j : Inj} {x x' y y' : List Value} (h : LR j x x') (h' : LR j y y') : LR j (x ++ y) (x' ++ y') := by
  induction h with
  | nil => exact h'
  | cons hv _ ih => exact .cons hv ih

theorem LR.take {j : Inj} {x x' : List Value} (h : LR j x x') (n : Nat) : LR j (x.take n) (x'.take n) := by
  induction h generalizing n with
  | nil => simpa using .nil
  | cons hv _ ih => cases n with
    | zero => simpa using .nil
    | succ n => simpa using .cons hv (ih n)

theorem LR.drop {j : Inj} {x x' : List Value} (h : LR j x x') (n : Nat) : LR j (x.drop n) (x'.drop n) := by
  induction h generalizing n with
  | nil => simpa using .nil
  | cons hv hl ih => cases n with
    | zero => simpa using .cons hv hl
    | succ n => simpa using ih n

theorem AR.toLR {j : Inj} {x x' : Array Value} (h : AR j x x') : LR j x.toList x'.toList :=
  LR.of_get (by simpa using h.1) fun i v v' e e' => h.2 i v v' (by simpa using e) (by simpa using e')

theorem LR.toAR {j : Inj} {x x' : List Value} (h : LR j x x') : AR j x.toArray x'.toArray :=
  ⟨by simpa using h.length, fun i v v' e e' => h.rel i v v' (by simpa using e) (by simpa using e')⟩

theorem AR.of_lists {j : Inj} {x x' : Array Value} (h : LR j x.toList x'.toList) : AR j x x' := by
  have := h.toAR; simpa using this

theorem VR.agg' {j : Inj} {x x' : Array Value} (h : LR j x.toList x'.toList) : VR j (.agg x) (.agg x') := .agg (AR.of_lists h).1 (AR.of_lists h).2
theorem VR.tuple' {j : Inj} {x x' : Array Value} (h : LR j x.toList x'.toList) : VR j (.tuple x) (.tuple x') := .tuple (AR.of_lists h).1 (AR.of_lists h).2

theorem VR.isCell {j : Inj} {v v' : Value} (h : VR j v v') : Value.isCell v' = Value.isCell v := by
  cases h with
  | hole h => exact h
  | _ => rfl

theorem VR.cells {j : Inj} {v v' : Value} (h : VR j v v') : LR j v.cells.toList v'.cells.toList := by
  cases h with
  | agg h1 h2 => exact AR.toLR ⟨h1, h2⟩
  | bool b => exact .cons (.bool b) .nil
  | int k n => exact .cons (.int k n) .nil
  | float k n => exact .cons (.float k n) .nil
  | complex k x y => exact .cons (.complex k x y) .nil
  | string s => exact .cons (.string s) .nil
  | pnil => exact .cons .pnil .nil
  | ptr h => exact .cons (.ptr h) .nil
  | snil l c => exact .cons (.snil l c) .nil
  | slice l c h => exact .cons (.slice l c h) .nil
  | oslice l c h he hc => exact .cons (.oslice l c h he hc) .nil
  | slice0 a a' => exact .cons (.slice0 a a') .nil
  | mnil => exact .cons .mnil .nil
  | map h => exact .cons (.map h) .nil
  | cnil => exact .cons .cnil .nil
  | hole h =>
    have : v'.cells = #[v'] := by cases v' <;> simp_all [Value.isCell, Value.cells]
    rw [this]; exact .cons (.hole h) .nil
  | func f h1 h2 h3 h4 => exact .cons (.func f h1 h2 h3 h4) .nil
  | method f h1 h2 h3 h4 => exact .cons (.method f h1 h2 h3 h4) .nil
  | yield h => exact .cons (.yield h) .nil
  | nilFunc => exact .cons .nilFunc .nil
  | iface t h => exact .cons (.iface t h) .nil
  | nilIface => exact .cons .nilIface .nil
  | tuple h1 h2 => exact .cons (.tuple h1 h2) .nil

/-- values without an address: they stand for themselves -/
inductive Flat : Value → Prop
  | bool (b : Bool) : Flat (.bool b)
  | int (k : IntKind) (n : Int) : Flat (.int k n)
  | float (k : FloatKind) (n : Nat) : Flat (.float k n)
  | complex (k : FloatKind) (x y : Nat) : Flat (.complex k x y)
  | string (s : ByteArray) : Flat (.string s)
  | pnil : Flat (.pointer none)
  | snil (l c : Nat) : Flat (.slice none l c)
  | mnil : Flat (.map none)
  | cnil : Flat (.chan none)
  | nilFunc : Flat .nilFunc
  | iface (t : TypeId) {v : Value} : Flat v → Flat (.iface t v)
  | nilIface : Flat .nilIface
  | agg {x : Array Value} : (∀ (i : Nat) (v : Value), x[i]? = some v → Flat v) → Flat (.agg x)
  | tuple {x : Array Value} : (∀ (i : Nat) (v : Value), x[i]? = some v → Flat v) → Flat (.tuple x)

theorem Flat.vr {v : Value} (h : Flat v) (j : Inj) : VR j v v := by
  induction h with
  | bool b => exact .bool b
  | int k n => exact .int k n
  | float k n => exact .float k n
  | complex k x y => exact .complex k x y
  | string s => exact .string s
  | pnil => exact .pnil
  | snil l c => exact .snil l c
  | mnil => exact .mnil
  | cnil => exact .cnil
  | nilFunc => exact .nilFunc
  | iface t _ ih => exact .iface t ih
  | nilIface => exact .nilIface
  | agg _ ih => exact .agg rfl fun i v v' e e' => by rw [e] at e'; cases e'; exact ih i v e
  | tuple _ ih => exact .tuple rfl fun i v v' e e' => by rw [e] at e'; cases e'; exact ih i v e

theorem Flat.eq {v : Value} (h : Flat v) {j : Inj} {v' : Value} (r : VR j v v') : v' = v := by
  induction h generalizing v' with
  | agg _ ih =>
    cases r with
    | agg h1 h2 =>
      congr 1
      apply Array.ext h1.symm
      intro i hi hi'
      exact ih i _ (Array.getElem?_eq_getElem hi') (h2 i _ _ (Array.getElem?_eq_getElem hi') (Array.getElem?_eq_getElem hi))
  | tuple _ ih =>
    cases r with
    | tuple h1 h2 =>
      congr 1
      apply Array.ext h1.symm
      intro i hi hi'
      exact ih i _ (Array.getElem?_eq_getElem hi') (h2 i _ _ (Array.getElem?_eq_getElem hi') (Array.getElem?_eq_getElem hi))
  | iface t _ ih => cases r with | iface _ h => rw [ih h]
  | _ => cases r; rfl

end Go.Fm
