/-
  FmWp: what a function's code asks for, on abstract states: weakest preconditions by continuation.
-/
import Derived.Test.YtopladipgobpjaaDoorFmEff5
import Derived.Orders
namespace Go.Fm

/-! ## states -/

abbrev Chain := List (Value × Bool)

/-- whose deferred call this frame is: nobody's; a range-over-func round; of one that returns; of one that panics -/
inductive UMode where
  | norm
  | round
  | ret
  | pan (ch : Chain)

inductive Res where
  | ret (v : Value)
  | pan (ch : Chain)

inductive AExit where
  | normal
  | exit (id : Nat)
  | ret
  | panic (ch : Chain)

/-- what is called: a function; a loop's yield -/
inductive Callee where
  | fn (f : FuncId)
  | yield (l : Nat)

/-- a deferred call; the mark of a loop over a function -/
inductive ADef where
  | call (f : FuncId) (as : List Value)
  | mark (q : Nat)

structure St where
  e : AEnv
  ds : List ADef
  h : AHeap
  u : UMode

abbrev Kont := AExit → St → Prop
abbrev FSpec := Callee → List Value → AHeap → (Res → AHeap → Prop) → Prop

/-- which slots are to be kept, and where -/
inductive Ann where
  | leaf
  | node (live : List Nat) (a b : Ann)

def restrict (live : List Nat) (e : AEnv) : AEnv :=
  match live with
  | [] => []
  | t :: r => match e.get t with
    | some v => (t, v) :: restrict r e
    | none => restrict r e

/-! ## what may be forgotten -/

/-- values, their places renamed -/
inductive RV (i : Nat → Option Nat) : Value → Value → Prop
  | bool (b : Bool) : RV i (.bool b) (.bool b)
  | int (k : IntKind) (n : Int) : RV i (.int k n) (.int k n)
  | float (k : FloatKind) (n : Nat) : RV i (.float k n) (.float k n)
  | complex (k : FloatKind) (x y : Nat) : RV i (.complex k x y) (.complex k x y)
  | string (s : ByteArray) : RV i (.string s) (.string s)
  | pnil : RV i (.pointer none) (.pointer none)
  | ptr {b c : Nat} (o : Nat) (s : Option Nat) : i b = some c → RV i (.pointer (some ⟨b, o, s⟩)) (.pointer (some ⟨c, o, s⟩))
  | snil (l c : Nat) : RV i (.slice none l c) (.slice none l c)
  | slice {b c : Nat} (o : Nat) (s : Option Nat) (l m : Nat) : i b = some c → RV i (.slice (some ⟨b, o, s⟩) l m) (.slice (some ⟨c, o, s⟩) l m)
  | slice0 (a : Addr) (b o : Nat) : RV i (.slice (some a) 0 0) (.slice (some ⟨b, o, none⟩) 0 0)
  | mnil : RV i (.map none) (.map none)
  | map {r q : Nat} : i r = some q → RV i (.map (some r)) (.map (some q))
  | cnil : RV i (.chan none) (.chan none)
  | hole : RV i (.chan (some 0)) (.chan (some 0))
  | func (f : FuncId) {x x' y y' : Array Value} : x.size = x'.size → (∀ (k : Nat) (v v' : Value), x[k]? = some v → x'[k]? = some v' → RV i v v') →
      y.size = y'.size → (∀ (k : Nat) (v v' : Value), y[k]? = some v → y'[k]? = some v' → RV i v v') → RV i (.func (.func f) x y) (.func (.func f) x' y')
  | yield {l m : Nat} : i l = some m → RV i (.func (.yield l) #[] #[]) (.func (.yield m) #[] #[])
  | nilFunc : RV i .nilFunc .nilFunc
  | iface (t : TypeId) {v v' : Value} : RV i v v' → RV i (.iface t v) (.iface t v')
  | nilIface : RV i .nilIface .nilIface
  | agg {x x' : Array Value} : x.size = x'.size → (∀ (k : Nat) (v v' : Value), x[k]? = some v → x'[k]? = some v' → RV i v v') → RV i (.agg x) (.agg x')
  | tuple {x x' : Array Value} : x.size = x'.size → (∀ (k : Nat) (v v' : Value), x[k]? = some v → x'[k]? = some v' → RV i v v') → RV i (.tuple x) (.tuple x')

inductive RVs (i : Nat → Option Nat) : List Value → List Value → Prop
  | nil : RVs i [] []
  | cons {v v' : Value} {l l' : List Value} : RV i v v' → RVs i l l' → RVs i (v :: l) (v' :: l')

inductive RMs (i : Nat → Option Nat) : List MapEntry → List MapEntry → Prop
  | nil : RMs i [] []
  | cons {e e' : MapEntry} {l l' : List MapEntry} : RV i e.key e'.key → RV i e.val e'.val → e.born = e'.born → RMs i l l' → RMs i (e :: l) (e' :: l')

inductive RO (i : Nat → Option Nat) : AObj → AObj → Prop
  | cells {c c' : List Value} (ro : Bool) : RVs i c c' → RO i (.cells c ro) (.cells c' ro)
  | tcells {c c' : List Value} (t : TypeId) (z : Option Nat) : RVs i c c' → RO i (.tcells c t z) (.tcells c' t z)
  | map {es es' : List MapEntry} (clock : Nat) : RMs i es es' → RO i (.map es clock) (.map es' clock)
  | mapIter0 (since : Nat) (seen : List Nat) (stepped : Nat) : RO i (.mapIter none since seen stepped) (.mapIter none since seen stepped)
  | mapIter {m m' : Nat} (since : Nat) (seen : List Nat) (stepped : Nat) : i m = some m' → RO i (.mapIter (some m) since seen stepped) (.mapIter (some m') since seen stepped)
  | strIter (s : ByteArray) (pos : Nat) : RO i (.strIter s pos) (.strIter s pos)
  | dead (o : AObj) : RO i .dead o
  | defq : RO i (.spec .defq) (.spec .defq)
  | over : RO i (.spec .over) (.spec .over)
  | loop {e e' : AEnv} {n m : Nat} {ps : List Nat} {x y : Code} {st : LoopState} {pd : Option Code} {dq dq' : Nat} : (∀ t v, e.get t = some v → ∃ u, e'.get t = some u ∧ RV i v u) → i dq = some dq' →
      RO i (.spec (.loop e n m ps x y st pd dq)) (.spec (.loop e' n m ps x y st pd dq'))

inductive RD (i : Nat → Option Nat) : List ADef → List ADef → Prop
  | nil : RD i [] []
  | call (f : FuncId) {as as' : List Value} {l l' : List ADef} : RVs i as as' → RD i l l' → RD i (.call f as :: l) (.call f as' :: l')
  | mark {q q' : Nat} {l l' : List ADef} : i q = some q' → RD i l l' → RD i (.mark q :: l) (.mark q' :: l')

def UMode.flat : UMode → Bool
  | .pan _ => false
  | _ => true

/-- s' is s, but for what is forgotten, and new names for what is not older than n0 -/
structure GcBy (gs : List Nat) (n0 : Nat) (s s' : St) (i : Nat → Option Nat) : Prop where
  old : ∀ b, b < n0 → i b = some b
  inj : ∀ b c q, i b = some q → i c = some q → b = c
  glob : ∀ g ∈ gs, i g = some g
  len : n0 ≤ s'.h.length
  obj : ∀ b q, i b = some q → ∃ o o', s'.h[b]? = some o ∧ s.h[q]? = some o' ∧ RO i o o'
  env : ∀ t v, s'.e.get t = some v → ∃ u, s.e.get t = some u ∧ RV i v u
  ds : RD i s'.ds s.ds
  mode : s'.u = s.u ∧ s.u.flat = true

/-- s' knows of fewer slots -/
structure EnvSub (s s' : St) : Prop where
  h : s'.h = s.h
  ds : s'.ds = s.ds
  u : s'.u = s.u
  env : ∀ t v, s'.e.get t = some v → s.e.get t = some v

def Gc (gs : List Nat) (n0 : Nat) (s s' : St) : Prop := (∃ i, GcBy gs n0 s s' i) ∨ EnvSub s s'

/-- what is hidden goes -/
def dedupe : AEnv → Nat → AEnv
  | [], _ => []
  | (t, v) :: r, seen => cond (Nat.testBit seen t) (dedupe r seen) ((t, v) :: dedupe r (Nat.lor seen (Nat.shiftLeft 1 t)))

section
variable (P : Program) (gs : List Nat) (n : Nat) (S : FSpec)

def ev (e : AEnv) : Operand → Option Value
  | .tmp t => e.get t
  | .const v => if flatB v then some v else none
  | .global g => if gs.contains g then some (.pointer (some ⟨g, 0, none⟩)) else none
  | .func f => some (.func (.func f) #[] #[])

/-! ## one operation -/

inductive Cls where
  | pure | read | alloc | eff

def cls : Op → Cls
  | .move _ | .assign _ | .pick _ _ _ | .build _ _ | .nilCheck _ | .binOp _ _ _ _ _ | .unOp _ _ _ | .makeInterface _ _ | .makeFunc _ _ _ | .slice _ _ _ _ _ | .fieldAddr _ _ _
  | .field _ _ _ | .indexAddr _ _ _ | .index _ _ _ | .typeAssert _ _ _ _ | .extract _ _ => .pure
  | .convert s d _ => match P.underlying s, P.underlying d with
    | some (.slice _), some .string => .read
    | some .string, some (.slice _) => .alloc
    | some (.pointer _), some .unsafePointer => .read
    | some .unsafePointer, some (.pointer _) => .read
    | some (.slice _), some (.slice _) => .eff
    | _, _ => .pure
  | .call { callee := .builtin .len, args := _, argTypes := ts } => match P.underlying (ts.getD 0 0) with
    | some (.map _ _) => .read
    | _ => .pure
  | .call { callee := .builtin .min, args := _, argTypes := _ } | .call { callee := .builtin .max, args := _, argTypes := _ } => .pure
  | .call { callee := .builtin .cap, args := _, argTypes := _ } | .call { callee := .builtin .unsafeSliceData, args := _, argTypes := _ } => .pure
  | .load _ _ | .lookup _ _ _ _ => .read
  | .alloc _ | .box _ _ | .buildSlice _ _ _ | .makeSlice _ _ _ | .makeMap _ _ => .alloc
  | _ => .eff

def bnd {α : Type} (o : Option α) (k : α → Prop) : Prop :=
  match o with
  | some a => k a
  | none => False

def target (ρ : Operand → Option Value) (f : Operand) (args : List Operand) : Option (Callee × List Value) :=
  match ρ f with
  | some (.func (.func g) first cap) => (mapL ρ args).map fun l => (.fn g, first.toList ++ (l ++ cap.toList))
  | some (.func (.yield l) _ _) => (mapL ρ args).map fun as => (.yield l, as)
  | _ => none

def deferW (s : St) (next : Value → St → Prop) : Callee × List Value → Prop
  | (.fn g, as) => next undefV { s with ds := .call g as :: s.ds }
  | _ => False

def allW : List (Value × AHeap) → (Value → AHeap → Prop) → Prop
  | [], _ => True
  | (v, h) :: r, k => k v h ∧ allW r k

/-- a call's two ways out -/
def afterCall (s : St) (next : Value → St → Prop) (pan : Chain → St → Prop) : Res → AHeap → Prop
  | .ret v, h => next v { s with h := h }
  | .pan ch, h => pan ch { s with h := h }

def recoverW (s : St) (next : Value → St → Prop) : Prop :=
  match s.u with
  | .pan ((v, false) :: older) => next v { s with u := .pan ((v, true) :: older) }
  | .round => False
  | _ => next .nilIface s

def dataW (ρ : Operand → Option Value) (op : Op) (s : St) (next : Value → St → Prop) : Prop :=
  match cls P op with
  | .pure => bnd (aPure P ρ op) fun v => next v s
  | .read => bnd (aRead P ρ s.h op) fun v => next v s
  | .alloc => bnd (aAlloc P ρ s.h.length op) fun p => next p.2 { s with h := s.h ++ [p.1] }
  | .eff => bnd (aEff P ρ s.h op) fun p => next p.1 { s with h := p.2 }

def opW (ρ : Operand → Option Value) (op : Op) (s : St) (next : Value → St → Prop) (pan : Chain → St → Prop) : Prop :=
  match op with
  | .call { callee := .value f, args := args, argTypes := _ } => bnd (target ρ f args.toList) fun p => S p.1 p.2 s.h (afterCall s next pan)
  | .call { callee := .builtin .recover, args := _, argTypes := _ } => recoverW s next
  | .defer { callee := .value f, args := args, argTypes := _ } =>
    match s.u with
    | .round => False
    | _ => bnd (target ρ f args.toList) (deferW s next)
  | .panic x => match ρ x with
    | some (.iface t v) => pan [(.iface t v, false)] s
    | _ => False
  | .next it false => bnd ((ρ it).bind fun v => aNextMap v s.h) fun outs => allW outs fun v h => next v { s with h := h }
  | op => dataW P ρ op s next

/-- an operation behind its guard -/
def guardK (g : Option Value) (want : Bool) (run : (Value → St → Prop) → Prop) (s : St) (next : Value → St → Prop) : Prop :=
  match g with
  | some (.bool b) => if b = want then run next else next undefV s
  | some (.tuple _) => next undefV s
  | _ => False

/-- a guard that is not met: the other answer, or none, where it was not asked itself -/
def offG (u : Value) (want : Bool) : Prop := (∃ b, u = .bool b ∧ b ≠ want) ∨ ∃ x, u = .tuple x

def putW (dst : Option Nat) (v : Value) (s : St) (k : St → Prop) : Prop :=
  match dst with
  | some d => cond (Nat.blt d n) (k { s with e := (d, v) :: s.e }) False
  | none => k s

def operW (gd : Nat → Option Nat) (o : Oper) (s : St) (k : St → Prop) (pan : Chain → St → Prop) : Prop :=
  match o.guard with
  | none => opW P S (ev gs s.e) o.op s (fun v s' => putW n o.dst v s' k) pan
  | some (j, want) => guardK ((gd j).bind s.e.get) want (fun nx => opW P S (ev gs s.e) o.op s nx pan) s (fun v s' => putW n o.dst v s' k)

/-- the operations of a region, in the order of the text -/
def opsW (gd : Nat → Option Nat) : List Oper → St → (St → Prop) → (Chain → St → Prop) → Prop
  | [], s, k, _ => k s
  | o :: r, s, k, pan => operW P gs n S gd o s (fun s' => opsW gd r s' k pan) pan

/-! ## code -/

def Kont.seq (K : Kont) (next : St → Prop) : Kont
  | .normal, s => next s
  | x, s => K x s

def Kont.block (K : Kont) (id : Nat) : Kont
  | .exit id', s => if id' = id then K .normal s else K (.exit id') s
  | x, s => K x s

/-- the least property that a loop's rounds are good for, whatever is forgotten between them -/
def loopW (n0 : Nat) (B : Kont → St → Prop) (K : Kont) (s : St) : Prop :=
  ∀ X : St → Prop, (∀ s, B (K.seq X) s → X s) → (∀ s s', Gc gs n0 s s' → X s' → X s) → X s

def keep (live : List Nat) (s : St) : St := { s with e := restrict live s.e }

end
end Go.Fm
