/-
  FmWp: what a function's code asks for, on abstract states: weakest preconditions by continuation.
-/
import Derived.Test.YtbfakchjpjdghaaFmEff5
import Derived.Orders
namespace Go.Fm

/-! ## states -/

abbrev Chain := List (Value × Bool)

/-- whose deferred call this frame is: nobody's; a range-over-func round; of one that returns; of one that panics -/
inductive UMode where
  | norm
  | round
  | ret
  | pan (ch : Chain)

inductive Res where
  | ret (v : Value)
  | pan (ch : Chain)

inductive AExit where
  | normal
  | exit (id : Nat)
  | ret
  | panic (ch : Chain)

abbrev AEnv := List (Nat × Value)

def AEnv.get : AEnv → Nat → Option Value
  | [], _ => none
  | (a, v) :: r, t => cond (Nat.beq a t) (some v) (AEnv.get r t)

structure St where
  e : AEnv
  ds : List (FuncId × List Value)
  h : AHeap
  u : UMode

abbrev Kont := AExit → St → Prop
abbrev FSpec := FuncId → List Value → AHeap → (Res → AHeap → Prop) → Prop

/-- which slots are to be kept, and where -/
inductive Ann where
  | leaf
  | node (live : List Nat) (a b : Ann)

def restrict (live : List Nat) (e : AEnv) : AEnv :=
  match live with
  | [] => []
  | t :: r => match e.get t with
    | some v => (t, v) :: restrict r e
    | none => restrict r e

section
variable (P : Program) (gs : List Nat) (n : Nat) (S : FSpec)

def ev (e : AEnv) : Operand → Option Value
  | .tmp t => e.get t
  | .const v => if flatB v then some v else none
  | .global g => if gs.contains g then some (.pointer (some ⟨g, 0, none⟩)) else none
  | .func f => some (.func (.func f) #[] #[])

/-! ## one operation -/

inductive Cls where
  | pure | read | alloc | eff

def cls : Op → Cls
  | .move _ | .assign _ | .pick _ _ _ | .build _ _ | .nilCheck _ | .binOp _ _ _ _ _ | .unOp _ _ _ | .makeInterface _ _ | .makeFunc _ _ _ | .slice _ _ _ _ _ | .fieldAddr _ _ _
  | .field _ _ _ | .indexAddr _ _ _ | .index _ _ _ | .typeAssert _ _ _ _ | .extract _ _ => .pure
  | .convert s d _ => match P.underlying s, P.underlying d with
    | some (.slice _), some .string => .read
    | some .string, some (.slice _) => .alloc
    | _, _ => .pure
  | .call { callee := .builtin .len, args := _, argTypes := ts } => match P.underlying (ts.getD 0 0) with
    | some (.map _ _) => .read
    | _ => .pure
  | .call { callee := .builtin .min, args := _, argTypes := _ } | .call { callee := .builtin .max, args := _, argTypes := _ } => .pure
  | .load _ _ | .lookup _ _ _ _ => .read
  | .alloc _ | .box _ _ | .buildSlice _ _ _ | .makeSlice _ _ _ | .makeMap _ _ => .alloc
  | _ => .eff

def bnd {α : Type} (o : Option α) (k : α → Prop) : Prop :=
  match o with
  | some a => k a
  | none => False

def target (ρ : Operand → Option Value) (f : Operand) (args : List Operand) : Option (FuncId × List Value) :=
  match ρ f with
  | some (.func (.func g) first cap) => (mapL ρ args).map fun l => (g, first.toList ++ (l ++ cap.toList))
  | _ => none

def allW : List (Value × AHeap) → (Value → AHeap → Prop) → Prop
  | [], _ => True
  | (v, h) :: r, k => k v h ∧ allW r k

/-- a call's two ways out -/
def afterCall (s : St) (next : Value → St → Prop) (pan : Chain → St → Prop) : Res → AHeap → Prop
  | .ret v, h => next v { s with h := h }
  | .pan ch, h => pan ch { s with h := h }

def recoverW (s : St) (next : Value → St → Prop) : Prop :=
  match s.u with
  | .pan ((v, false) :: older) => next v { s with u := .pan ((v, true) :: older) }
  | .round => False
  | _ => next .nilIface s

def dataW (ρ : Operand → Option Value) (op : Op) (s : St) (next : Value → St → Prop) : Prop :=
  match cls P op with
  | .pure => bnd (aPure P ρ op) fun v => next v s
  | .read => bnd (aRead P ρ s.h op) fun v => next v s
  | .alloc => bnd (aAlloc P ρ s.h.length op) fun p => next p.2 { s with h := s.h ++ [p.1] }
  | .eff => bnd (aEff P ρ s.h op) fun p => next p.1 { s with h := p.2 }

def opW (ρ : Operand → Option Value) (op : Op) (s : St) (next : Value → St → Prop) (pan : Chain → St → Prop) : Prop :=
  match op with
  | .call { callee := .value f, args := args, argTypes := _ } => bnd (target ρ f args.toList) fun p => S p.1 p.2 s.h (afterCall s next pan)
  | .call { callee := .builtin .recover, args := _, argTypes := _ } => recoverW s next
  | .defer { callee := .value f, args := args, argTypes := _ } =>
    match s.u with
    | .round => False
    | _ => bnd (target ρ f args.toList) fun p => next undefV { s with ds := p :: s.ds }
  | .panic x => match ρ x with
    | some (.iface t v) => pan [(.iface t v, false)] s
    | _ => False
  | .next it false => bnd ((ρ it).bind fun v => aNextMap v s.h) fun outs => allW outs fun v h => next v { s with h := h }
  | op => dataW P ρ op s next

/-- an operation behind its guard -/
def guardK (g : Option Value) (want : Bool) (run : (Value → St → Prop) → Prop) (s : St) (next : Value → St → Prop) : Prop :=
  match g with
  | some (.bool b) => if b = want then run next else next undefV s
  | _ => False

def putW (dst : Option Nat) (v : Value) (s : St) (k : St → Prop) : Prop :=
  match dst with
  | some d => cond (Nat.blt d n) (k { s with e := (d, v) :: s.e }) False
  | none => k s

def operW (gd : Nat → Option Nat) (o : Oper) (s : St) (k : St → Prop) (pan : Chain → St → Prop) : Prop :=
  match o.guard with
  | none => opW P S (ev gs s.e) o.op s (fun v s' => putW n o.dst v s' k) pan
  | some (j, want) => guardK ((gd j).bind s.e.get) want (fun nx => opW P S (ev gs s.e) o.op s nx pan) s (fun v s' => putW n o.dst v s' k)

/-- the operations of a region, in the order of the text -/
def opsW (gd : Nat → Option Nat) : List Oper → St → (St → Prop) → (Chain → St → Prop) → Prop
  | [], s, k, _ => k s
  | o :: r, s, k, pan => operW P gs n S gd o s (fun s' => opsW gd r s' k pan) pan

/-! ## code -/

def Kont.seq (K : Kont) (next : St → Prop) : Kont
  | .normal, s => next s
  | x, s => K x s

def Kont.block (K : Kont) (id : Nat) : Kont
  | .exit id', s => if id' = id then K .normal s else K (.exit id') s
  | x, s => K x s

/-- the least property that a loop's rounds are good for -/
def loopW (B : Kont → St → Prop) (K : Kont) (s : St) : Prop :=
  ∀ X : St → Prop, (∀ s, B (K.seq X) s → X s) → X s

def keep (live : List Nat) (s : St) : St := { s with e := restrict live s.e }

end
end Go.Fm
