/-
  FmWp: what a function's code asks for, on abstract states: weakest preconditions by continuation.
  FmRel: frames, machines, and how an abstract state stands for them.
  FmExt: functions without a body that the library's strings rest on, on abstract values: bytealg.MakeNoZero, bytealg.IndexByteString.
  FmOpSound: an operation's precondition is good for the machine.
  FmDraw: a region that draws its order: the eager order, with checks that what floats stays the same behind each effect. Definitions, and the order's laws.
  FmDrawSound: the eager order speaks for every order that may be drawn.
  FmDrawRun: whatever order is drawn, the machine comes to where the eager order leads.
  FmDrawEnd: a region that draws its order, from end to end.
  FmGc: what may be forgotten between a loop's rounds.
  FmGc2: forgetting the newest blocks, where nothing that stays looks at them.
  FmCode: code and functions: weakest preconditions, and that they are good for the machine.
  FmFun: functions: bodies, deferred calls, results; contracts out of bodies.
-/
import Derived.Test.YtcdmnmpiipmfmaaFmB
import Derived.Orders
import Derived.KernelRfl
import Derived.Defers

namespace Go.Fm

/-! ## states -/

abbrev Chain := List (Value × Bool)

/-- whose deferred call this frame is: nobody's; a range-over-func round; of one that returns; of one that panics -/
inductive UMode where
  | norm
  | round
  | ret
  | pan (ch : Chain)

inductive Res where
  | ret (v : Value)
  | pan (ch : Chain)

inductive AExit where
  | normal
  | exit (id : Nat)
  | ret
  | panic (ch : Chain)

/-- what is called: a function; a loop's yield -/
inductive Callee where
  | fn (f : FuncId)
  | yield (l : Nat)

/-- a deferred call; the mark of a loop over a function -/
inductive ADef where
  | call (f : FuncId) (as : List Value)
  | mark (q : Nat)

structure St where
  e : AEnv
  ds : List ADef
  h : AHeap
  u : UMode

abbrev Kont := AExit → St → Prop
abbrev FSpec := Callee → List Value → AHeap → (Res → AHeap → Prop) → Prop

/-- which slots are to be kept, and where -/
inductive Ann where
  | leaf
  | node (live : List Nat) (a b : Ann)

def restrict (live : List Nat) (e : AEnv) : AEnv :=
  match live with
  | [] => []
  | t :: r => match e.get t with
    | some v => (t, v) :: restrict r e
    | none => restrict r e

/-! ## what may be forgotten -/

/-- values, their places renamed -/
inductive RV (i : Nat → Option Nat) : Value → Value → Prop
  | bool (b : Bool) : RV i (.bool b) (.bool b)
  | int (k : IntKind) (n : Int) : RV i (.int k n) (.int k n)
  | float (k : FloatKind) (n : Nat) : RV i (.float k n) (.float k n)
  | complex (k : FloatKind) (x y : Nat) : RV i (.complex k x y) (.complex k x y)
  | string (s : ByteArray) : RV i (.string s) (.string s)
  | pnil : RV i (.pointer none) (.pointer none)
  | ptr {b c : Nat} (o : Nat) (s : Option Nat) : i b = some c → RV i (.pointer (some ⟨b, o, s⟩)) (.pointer (some ⟨c, o, s⟩))
  | snil (l c : Nat) : RV i (.slice none l c) (.slice none l c)
  | slice {b c : Nat} (o : Nat) (s : Option Nat) (l m : Nat) : i b = some c → RV i (.slice (some ⟨b, o, s⟩) l m) (.slice (some ⟨c, o, s⟩) l m)
  | slice0 (a : Addr) (b o : Nat) : RV i (.slice (some a) 0 0) (.slice (some ⟨b, o, none⟩) 0 0)
  | mnil : RV i (.map none) (.map none)
  | map {r q : Nat} : i r = some q → RV i (.map (some r)) (.map (some q))
  | cnil : RV i (.chan none) (.chan none)
  | hole : RV i (.chan (some 0)) (.chan (some 0))
  | func (f : FuncId) {x x' y y' : Array Value} : x.size = x'.size → (∀ (k : Nat) (v v' : Value), x[k]? = some v → x'[k]? = some v' → RV i v v') →
      y.size = y'.size → (∀ (k : Nat) (v v' : Value), y[k]? = some v → y'[k]? = some v' → RV i v v') → RV i (.func (.func f) x y) (.func (.func f) x' y')
  | yield {l m : Nat} : i l = some m → RV i (.func (.yield l) #[] #[]) (.func (.yield m) #[] #[])
  | nilFunc : RV i .nilFunc .nilFunc
  | iface (t : TypeId) {v v' : Value} : RV i v v' → RV i (.iface t v) (.iface t v')
  | nilIface : RV i .nilIface .nilIface
  | agg {x x' : Array Value} : x.size = x'.size → (∀ (k : Nat) (v v' : Value), x[k]? = some v → x'[k]? = some v' → RV i v v') → RV i (.agg x) (.agg x')
  | tuple {x x' : Array Value} : x.size = x'.size → (∀ (k : Nat) (v v' : Value), x[k]? = some v → x'[k]? = some v' → RV i v v') → RV i (.tuple x) (.tuple x')

inductive RVs (i : Nat → Option Nat) : List Value → List Value → Prop
  | nil : RVs i [] []
  | cons {v v' : Value} {l l' : List Value} : RV i v v' → RVs i l l' → RVs i (v :: l) (v' :: l')

inductive RMs (i : Nat → Option Nat) : List MapEntry → List MapEntry → Prop
  | nil : RMs i [] []
  | cons {e e' : MapEntry} {l l' : List MapEntry} : RV i e.key e'.key → RV i e.val e'.val → e.born = e'.born → RMs i l l' → RMs i (e :: l) (e' :: l')

inductive RO (i : Nat → Option Nat) : AObj → AObj → Prop
  | cells {c c' : List Value} (ro : Bool) : RVs i c c' → RO i (.cells c ro) (.cells c' ro)
  | tcells {c c' : List Value} (t : TypeId) (z : Option Nat) : RVs i c c' → RO i (.tcells c t z) (.tcells c' t z)
  | map {es es' : List MapEntry} (clock : Nat) : RMs i es es' → RO i (.map es clock) (.map es' clock)
  | mapIter0 (since : Nat) (seen : List Nat) (stepped : Nat) : RO i (.mapIter none since seen stepped) (.mapIter none since seen stepped)
  | mapIter {m m' : Nat} (since : Nat) (seen : List Nat) (stepped : Nat) : i m = some m' → RO i (.mapIter (some m) since seen stepped) (.mapIter (some m') since seen stepped)
  | strIter (s : ByteArray) (pos : Nat) : RO i (.strIter s pos) (.strIter s pos)
  | dead (o : AObj) : RO i .dead o
  | defq : RO i (.spec .defq) (.spec .defq)
  | over : RO i (.spec .over) (.spec .over)
  | loop {e e' : AEnv} {n m : Nat} {ps : List Nat} {x y : Code} {st : LoopState} {pd : Option Code} {dq dq' : Nat} : (∀ t v, e.get t = some v → ∃ u, e'.get t = some u ∧ RV i v u) → i dq = some dq' →
      RO i (.spec (.loop e n m ps x y st pd dq)) (.spec (.loop e' n m ps x y st pd dq'))

inductive RD (i : Nat → Option Nat) : List ADef → List ADef → Prop
  | nil : RD i [] []
  | call (f : FuncId) {as as' : List Value} {l l' : List ADef} : RVs i as as' → RD i l l' → RD i (.call f as :: l) (.call f as' :: l')
  | mark {q q' : Nat} {l l' : List ADef} : i q = some q' → RD i l l' → RD i (.mark q :: l) (.mark q' :: l')

def UMode.flat : UMode → Bool
  | .pan _ => false
  | _ => true

/-- s' is s, but for what is forgotten, and new names for what is not older than n0 -/
structure GcBy (gs : List Nat) (n0 : Nat) (s s' : St) (i : Nat → Option Nat) : Prop where
  old : ∀ b, b < n0 → i b = some b
  inj : ∀ b c q, i b = some q → i c = some q → b = c
  glob : ∀ g ∈ gs, i g = some g
  len : n0 ≤ s'.h.length
  obj : ∀ b q, i b = some q → ∃ o o', s'.h[b]? = some o ∧ s.h[q]? = some o' ∧ RO i o o'
  env : ∀ t v, s'.e.get t = some v → ∃ u, s.e.get t = some u ∧ RV i v u
  ds : RD i s'.ds s.ds
  mode : s'.u = s.u ∧ s.u.flat = true

/-- s' knows of fewer slots -/
structure EnvSub (s s' : St) : Prop where
  h : s'.h = s.h
  ds : s'.ds = s.ds
  u : s'.u = s.u
  env : ∀ t v, s'.e.get t = some v → s.e.get t = some v

def Gc (gs : List Nat) (n0 : Nat) (s s' : St) : Prop := (∃ i, GcBy gs n0 s s' i) ∨ EnvSub s s'

/-- what is hidden goes -/
def dedupe : AEnv → Nat → AEnv
  | [], _ => []
  | (t, v) :: r, seen => cond (Nat.testBit seen t) (dedupe r seen) ((t, v) :: dedupe r (Nat.lor seen (Nat.shiftLeft 1 t)))

section
variable (P : Program) (gs : List Nat) (n : Nat) (S : FSpec)

def ev (e : AEnv) : Operand → Option Value
  | .tmp t => e.get t
  | .const v => if flatB v then some v else none
  | .global g => if gs.contains g then some (.pointer (some ⟨g, 0, none⟩)) else none
  | .func f => some (.func (.func f) #[] #[])

/-! ## one operation -/

inductive Cls where
  | pure | read | alloc | eff

def cls : Op → Cls
  | .move _ | .assign _ | .pick _ _ _ | .build _ _ | .nilCheck _ | .binOp _ _ _ _ _ | .unOp _ _ _ | .makeInterface _ _ | .makeFunc _ _ _ | .slice _ _ _ _ _ | .fieldAddr _ _ _
  | .field _ _ _ | .indexAddr _ _ _ | .index _ _ _ | .typeAssert _ _ _ _ | .extract _ _ => .pure
  | .convert s d _ => match P.underlying s, P.underlying d with
    | some (.slice _), some .string => .read
    | some .string, some (.slice _) => .alloc
    | some (.pointer _), some .unsafePointer => .read
    | some .unsafePointer, some (.pointer _) => .read
    | some (.slice _), some (.slice _) => .eff
    | _, _ => .pure
  | .call { callee := .builtin .len, args := _, argTypes := ts } => match P.underlying (ts.getD 0 0) with
    | some (.map _ _) => .read
    | _ => .pure
  | .call { callee := .builtin .min, args := _, argTypes := _ } | .call { callee := .builtin .max, args := _, argTypes := _ } => .pure
  | .call { callee := .builtin .cap, args := _, argTypes := _ } | .call { callee := .builtin .unsafeSliceData, args := _, argTypes := _ } => .pure
  | .load _ _ | .lookup _ _ _ _ => .read
  | .alloc _ | .box _ _ | .buildSlice _ _ _ | .makeSlice _ _ _ | .makeMap _ _ => .alloc
  | _ => .eff

def bnd {α : Type} (o : Option α) (k : α → Prop) : Prop :=
  match o with
  | some a => k a
  | none => False

def target (ρ : Operand → Option Value) (f : Operand) (args : List Operand) : Option (Callee × List Value) :=
  match ρ f with
  | some (.func (.func g) first cap) => (mapL ρ args).map fun l => (.fn g, first.toList ++ (l ++ cap.toList))
  | some (.func (.yield l) _ _) => (mapL ρ args).map fun as => (.yield l, as)
  | _ => none

def deferW (s : St) (next : Value → St → Prop) : Callee × List Value → Prop
  | (.fn g, as) => next undefV { s with ds := .call g as :: s.ds }
  | _ => False

def allW : List (Value × AHeap) → (Value → AHeap → Prop) → Prop
  | [], _ => True
  | (v, h) :: r, k => k v h ∧ allW r k

/-- a call's two ways out -/
def afterCall (s : St) (next : Value → St → Prop) (pan : Chain → St → Prop) : Res → AHeap → Prop
  | .ret v, h => next v { s with h := h }
  | .pan ch, h => pan ch { s with h := h }

def recoverW (s : St) (next : Value → St → Prop) : Prop :=
  match s.u with
  | .pan ((v, false) :: older) => next v { s with u := .pan ((v, true) :: older) }
  | .round => False
  | _ => next .nilIface s

def dataW (ρ : Operand → Option Value) (op : Op) (s : St) (next : Value → St → Prop) : Prop :=
  match cls P op with
  | .pure => bnd (aPure P ρ op) fun v => next v s
  | .read => bnd (aRead P ρ s.h op) fun v => next v s
  | .alloc => bnd (aAlloc P ρ s.h.length op) fun p => next p.2 { s with h := s.h ++ [p.1] }
  | .eff => bnd (aEff P ρ s.h op) fun p => next p.1 { s with h := p.2 }

def opW (ρ : Operand → Option Value) (op : Op) (s : St) (next : Value → St → Prop) (pan : Chain → St → Prop) : Prop :=
  match op with
  | .call { callee := .value f, args := args, argTypes := _ } => bnd (target ρ f args.toList) fun p => S p.1 p.2 s.h (afterCall s next pan)
  | .call { callee := .builtin .recover, args := _, argTypes := _ } => recoverW s next
  | .defer { callee := .value f, args := args, argTypes := _ } =>
    match s.u with
    | .round => False
    | _ => bnd (target ρ f args.toList) (deferW s next)
  | .panic x => match ρ x with
    | some (.iface t v) => pan [(.iface t v, false)] s
    | _ => False
  | .next it false => bnd ((ρ it).bind fun v => aNextMap v s.h) fun outs => allW outs fun v h => next v { s with h := h }
  | op => dataW P ρ op s next

/-- an operation behind its guard -/
def guardK (g : Option Value) (want : Bool) (run : (Value → St → Prop) → Prop) (s : St) (next : Value → St → Prop) : Prop :=
  match g with
  | some (.bool b) => if b = want then run next else next undefV s
  | some (.tuple _) => next undefV s
  | _ => False

/-- a guard that is not met: the other answer, or none, where it was not asked itself -/
def offG (u : Value) (want : Bool) : Prop := (∃ b, u = .bool b ∧ b ≠ want) ∨ ∃ x, u = .tuple x

def putW (dst : Option Nat) (v : Value) (s : St) (k : St → Prop) : Prop :=
  match dst with
  | some d => cond (Nat.blt d n) (k { s with e := (d, v) :: s.e }) False
  | none => k s

def operW (gd : Nat → Option Nat) (o : Oper) (s : St) (k : St → Prop) (pan : Chain → St → Prop) : Prop :=
  match o.guard with
  | none => opW P S (ev gs s.e) o.op s (fun v s' => putW n o.dst v s' k) pan
  | some (j, want) => guardK ((gd j).bind s.e.get) want (fun nx => opW P S (ev gs s.e) o.op s nx pan) s (fun v s' => putW n o.dst v s' k)

/-- the operations of a region, in the order of the text -/
def opsW (gd : Nat → Option Nat) : List Oper → St → (St → Prop) → (Chain → St → Prop) → Prop
  | [], s, k, _ => k s
  | o :: r, s, k, pan => operW P gs n S gd o s (fun s' => opsW gd r s' k pan) pan

/-! ## code -/

def Kont.seq (K : Kont) (next : St → Prop) : Kont
  | .normal, s => next s
  | x, s => K x s

def Kont.block (K : Kont) (id : Nat) : Kont
  | .exit id', s => if id' = id then K .normal s else K (.exit id') s
  | x, s => K x s

/-- the least property that a loop's rounds are good for, whatever is forgotten between them -/
def loopW (n0 : Nat) (B : Kont → St → Prop) (K : Kont) (s : St) : Prop :=
  ∀ X : St → Prop, (∀ s, B (K.seq X) s → X s) → (∀ s s', Gc gs n0 s s' → X s' → X s) → X s

def keep (live : List Nat) (s : St) : St := { s with e := restrict live s.e }

end
end Go.Fm

namespace Go.Fm

/-! ## running on -/

def Ends (P : Program) (G : Machine → Prop) (m : Machine) : Prop := ∃ m', Steps P m m' ∧ G m'

theorem Ends.now {P : Program} {G : Machine → Prop} {m : Machine} (h : G m) : Ends P G m := ⟨m, Steps.refl P m, h⟩
theorem Ends.step {P : Program} {G : Machine → Prop} {m m' : Machine} (h : step P m = .next m') (h' : Ends P G m') : Ends P G m :=
  let ⟨x, s, g⟩ := h'; ⟨x, Steps.head h s, g⟩

def mk (b : Frame) (a : Act) (todo : List Item) : Frame :=
  { fn := b.fn, tmps := a.tmps, todo, defers := a.defers, mode := .run, kind := b.kind, roundOf := b.roundOf }

theorem mk_eval (b : Frame) (a : Act) (todo : List Item) : (mk b a todo).eval = a.eval := by
  funext x; cases x <;> rfl

section
variable {P : Program} {b : Frame} {a : Act} {k : List Item} {cs : List Frame} {w : World}

theorem st_skip : step P (lone (mk b a (.code .skip :: k)) cs w) = .next (lone (mk b a k) cs w) := step_lone_go (by simp [stepG, stepG.exec, mk])
theorem st_label {l : Nat} : step P (lone (mk b a (.code (.label l) :: k)) cs w) = .next (lone (mk b a k) cs w) := step_lone_go (by simp [stepG, stepG.exec, mk])
theorem st_inBlock {id : Nat} : step P (lone (mk b a (.inBlock id :: k)) cs w) = .next (lone (mk b a k) cs w) := step_lone_go (by simp [stepG, stepG.exec, mk])
theorem st_inScope {c : Code} : step P (lone (mk b a (.inScope c :: k)) cs w) = .next (lone (mk b a k) cs w) := step_lone_go (by simp [stepG, stepG.exec, mk])
theorem st_seq {x y : Code} : step P (lone (mk b a (.code (.seq x y) :: k)) cs w) = .next (lone (mk b a (.code x :: .code y :: k)) cs w) := step_lone_go (by simp [stepG, stepG.exec, mk])
theorem st_scope {c : Code} : step P (lone (mk b a (.code (.scope c) :: k)) cs w) = .next (lone (mk b a (.code c :: .inScope c :: k)) cs w) := step_lone_go (by simp [stepG, stepG.exec, mk])
theorem st_cond {c : Operand} {x y : Code} {t : Bool} (h : a.eval c = .bool t) :
    step P (lone (mk b a (.code (.cond c x y) :: k)) cs w) = .next (lone (mk b a (.code (if t then x else y) :: k)) cs w) :=
  step_lone_go (by
    have := congrFun (mk_eval b a (.code (.cond c x y) :: k)) c
    simp only [mk] at this
    simp [stepG, stepG.exec, mk, this, h])
theorem st_block {id : Nat} {c : Code} : step P (lone (mk b a (.code (.block id c) :: k)) cs w) = .next (lone (mk b a (.code c :: .inBlock id :: k)) cs w) := step_lone_go (by simp [stepG, stepG.exec, mk])
theorem st_loop {c : Code} : step P (lone (mk b a (.code (.loop c) :: k)) cs w) = .next (lone (mk b a (.code c :: .inLoop c :: k)) cs w) := step_lone_go (by simp [stepG, stepG.exec, mk])
theorem st_inLoop {c : Code} : step P (lone (mk b a (.inLoop c :: k)) cs w) = .next (lone (mk b a (.code c :: .inLoop c :: k)) cs w) := step_lone_go (by simp [stepG, stepG.exec, mk])
theorem st_exit {id : Nat} {k' : List Item} (h : exitTo id k = some k') : step P (lone (mk b a (.code (.exit id) :: k)) cs w) = .next (lone (mk b a k') cs w) :=
  step_lone_go (by simp [stepG, stepG.exec, mk, h])
theorem st_region {id : Nat} {ops : Array Oper} : step P (lone (mk b a (.code (.region id ops false) :: k)) cs w) = .next (lone (mk b a (.inRegion ops (List.range ops.size) :: k)) cs w) :=
  step_lone_go (by simp [stepG, stepG.exec, mk])
theorem st_draw {id : Nat} {ops : Array Oper} : step P (lone (mk b a (.code (.region id ops true) :: k)) cs w) =
    .next (lone (mk b a (.inRegion ops (Region.schedule (P.follows .mixedOrders) ops (w.tape w.drawn (.order b.fn id))) :: k)) cs { w with drawn := w.drawn + 1 }) :=
  step_lone_go (by simp [stepG, stepG.exec, mk, choose, Sem.run, Question.forced, Question.cut])
theorem st_regionEnd {ops : Array Oper} : step P (lone (mk b a (.inRegion ops [] :: k)) cs w) = .next (lone (mk b a k) cs w) := step_lone_go (by simp [stepG, stepG.exec, mk])

theorem mk_finish (ops : Array Oper) (i : Nat) (rest : List Nat) (v : Value) :
    (mk b a (.inRegion ops (i :: rest) :: k)).finish v = mk b (a.put ((ops[i]?).bind (·.dst)) v) (.inRegion ops rest :: k) := by
  cases h : (ops[i]?).bind (·.dst) <;> simp [Frame.finish, mk, Act.put, h]

theorem st_opSkip {ops : Array Oper} {i : Nat} {rest : List Nat} (h : ((ops[i]?).map (Region.wanted · (yielded ops a.tmps))).getD false = false) :
    step P (lone (mk b a (.inRegion ops (i :: rest) :: k)) cs w) = .next (lone (mk b (a.put ((ops[i]?).bind (·.dst)) undef) (.inRegion ops rest :: k)) cs w) := by
  rw [← mk_finish]
  exact step_lone_go (by
    have h' := h
    simp only [mk] at *
    simp [stepG, stepG.exec, h'])

theorem stG_op {ops : Array Oper} {i : Nat} {rest : List Nat} {o : Oper} (ho : ops[i]? = some o) (hw : Region.wanted o (yielded ops a.tmps) = true)
    (hd : b.roundOf = none ∨ ∀ c, o.op ≠ .defer c) :
    stepG P true { frame := mk b a (.inRegion ops (i :: rest) :: k), callers := cs, status := .running, dying := none } w =
      stepG.apply P true (mk b a (.inRegion ops (i :: rest) :: k)) cs none (execOp a.eval o) w := by
  have h1 : stepG P true { frame := mk b a (.inRegion ops (i :: rest) :: k), callers := cs, status := .running, dying := none } w =
      stepG.oper P true (mk b a (.inRegion ops (i :: rest) :: k)) cs none w := by
    simp [stepG, stepG.exec, mk, ho, hw]
  have h2 : (mk b a (.inRegion ops (i :: rest) :: k)).oper? = some o := by simp [Frame.oper?, mk, ho]
  have h3 : (mk b a (.inRegion ops (i :: rest) :: k)).roundOf = b.roundOf := rfl
  rw [h1]
  unfold stepG.oper
  simp only [h2, h3, mk_eval]
  split
  · rename_i l c hr hop
    rcases hd with hd | hd
    · rw [hd] at hr; simp at hr
    · exact absurd hop (hd c)
  · rfl

variable {ops : Array Oper} {i : Nat} {rest : List Nat} {o : Oper}

theorem st_value (ho : ops[i]? = some o) (hw : Region.wanted o (yielded ops a.tmps) = true) (hd : b.roundOf = none ∨ ∀ c, o.op ≠ .defer c) {nx : Next} {v : Value} {w' : World}
    (hr : (execOp a.eval o).run P w = .ok nx w') (hv : nextVal nx = some v) :
    step P (lone (mk b a (.inRegion ops (i :: rest) :: k)) cs w) = .next (lone (mk b (a.put o.dst v) (.inRegion ops rest :: k)) cs w') := by
  have hg := stG_op (P := P) (b := b) (k := k) (cs := cs) (w := w) (rest := rest) ho hw hd
  have hfin : ∀ v, (mk b a (.inRegion ops (i :: rest) :: k)).finish v = mk b (a.put o.dst v) (.inRegion ops rest :: k) := by
    intro v; rw [mk_finish, ho]; rfl
  refine step_lone_go ?_
  rw [hg, ← hfin]
  unfold nextVal at hv
  split at hv
  · injection hv with hv; subst hv; simp [stepG.apply, hr]
  · injection hv with hv; subst hv; simp [stepG.apply, hr]; rfl
  · simp at hv

theorem st_defer (ho : ops[i]? = some o) (hw : Region.wanted o (yielded ops a.tmps) = true) (hd : b.roundOf = none) {d : Deferred} {w' : World}
    (hr : (execOp a.eval o).run P w = .ok (.defer d) w') :
    step P (lone (mk b a (.inRegion ops (i :: rest) :: k)) cs w) = .next (lone (mk b ({ a with defers := d :: a.defers }.put o.dst undef) (.inRegion ops rest :: k)) cs w') := by
  have hg := stG_op (P := P) (b := b) (k := k) (cs := cs) (w := w) (rest := rest) ho hw (.inl hd)
  have hfin : (mk b { a with defers := d :: a.defers } (.inRegion ops (i :: rest) :: k)).finish undef = mk b ({ a with defers := d :: a.defers }.put o.dst undef) (.inRegion ops rest :: k) := by
    rw [mk_finish, ho]; rfl
  refine step_lone_go ?_
  rw [hg, ← hfin]
  simp only [stepG.apply, Sem.runT_eq, hr, GStep.bare_after]
  rfl

theorem st_enter (ho : ops[i]? = some o) (hw : Region.wanted o (yielded ops a.tmps) = true) (hd : b.roundOf = none ∨ ∀ c, o.op ≠ .defer c) {f : FuncId} {args : Array Value} {w' : World}
    (hr : (execOp a.eval o).run P w = .ok (.enter f args) w') :
    step P (lone (mk b a (.inRegion ops (i :: rest) :: k)) cs w) = .next (lone (Frame.enter P f args .normal) (mk b a (.inRegion ops (i :: rest) :: k) :: cs) w') := by
  have hg := stG_op (P := P) (b := b) (k := k) (cs := cs) (w := w) (rest := rest) ho hw hd
  refine step_lone_go ?_
  rw [hg]; simp [stepG.apply, hr, mk]

theorem st_panic (ho : ops[i]? = some o) (hw : Region.wanted o (yielded ops a.tmps) = true) (hd : b.roundOf = none ∨ ∀ c, o.op ≠ .defer c) {v : Value} {w' : World}
    (hr : (execOp a.eval o).run P w = .halt (.panic v) w') :
    step P (lone (mk b a (.inRegion ops (i :: rest) :: k)) cs w) =
      .next (lone { mk b a (.inRegion ops (i :: rest) :: k) with mode := .panicking [{ v, recovered := false }] } cs w') := by
  have hg := stG_op (P := P) (b := b) (k := k) (cs := cs) (w := w) (rest := rest) ho hw hd
  refine step_lone_go ?_
  rw [hg]; simp [stepG.apply, hr]; rfl

theorem st_recover (ho : ops[i]? = some o) (hw : Region.wanted o (yielded ops a.tmps) = true) (hd : b.roundOf = none) (_hnd : ∀ c, o.op ≠ .defer c) {w' : World}
    (hr : (execOp a.eval o).run P w = .ok .recover w') :
    step P (lone (mk b a (.inRegion ops (i :: rest) :: k)) cs w) =
      .next (lone (mk b (a.put o.dst ((tryRecover (mk b a (.inRegion ops (i :: rest) :: k)) cs).map (·.1) |>.getD .nilIface)) (.inRegion ops rest :: k))
        ((tryRecover (mk b a (.inRegion ops (i :: rest) :: k)) cs).map (·.2) |>.getD cs) w') := by
  have hg := stG_op (P := P) (b := b) (k := k) (cs := cs) (w := w) (rest := rest) ho hw (.inl hd)
  have hfin : ∀ v, (mk b a (.inRegion ops (i :: rest) :: k)).finish v = mk b (a.put o.dst v) (.inRegion ops rest :: k) := by
    intro v; rw [mk_finish, ho]; rfl
  refine step_lone_go ?_
  rw [hg, ← hfin]
  have hro : (mk b a (.inRegion ops (i :: rest) :: k)).roundOf = none := hd
  cases ht : tryRecover (mk b a (.inRegion ops (i :: rest) :: k)) cs with
  | none => simp [stepG.apply, hr, hro, ht]
  | some p => simp [stepG.apply, hr, hro, ht]

end

/-! ## loops over functions -/

section
variable {P : Program} {b : Frame} {a : Act} {k : List Item} {cs : List Frame} {w : World} {c : Frame}

theorem st_round {ops : Array Oper} {i : Nat} {rest : List Nat} {o : Oper} (ho : ops[i]? = some o) (hw : Region.wanted o (yielded ops a.tmps) = true) (hd : b.roundOf = none ∨ ∀ c, o.op ≠ .defer c) {l : Nat} {f : FuncId} {tmps : Array Value} {x y : Code} {w' : World}
    (hr : (execOp a.eval o).run P w = .ok (.round l f tmps x y) w') :
    step P (lone (mk b a (.inRegion ops (i :: rest) :: k)) cs w) = .next (lone (Frame.round l f tmps x y .normal) (mk b a (.inRegion ops (i :: rest) :: k) :: cs) w') := by
  have hg := stG_op (P := P) (b := b) (k := k) (cs := cs) (w := w) (rest := rest) ho hw hd
  refine step_lone_go ?_
  rw [hg]; simp [stepG.apply, hr]

theorem st_beginRound {l : Nat} {w' : World} (hb : b.roundOf = some l) (hr : (Instr.beginRound l).run P w = .ok () w') :
    step P (lone (mk b a (.beginRound :: k)) cs w) = .next (lone (mk b a k) cs w') :=
  step_lone_go (by simp [stepG, stepG.exec, stepG.apply, mk, hb, Sem.runT_eq, hr, Result.andThen, Frame.finish])

theorem st_roundEnd {l : Nat} {v : Value} {w' : World} (hb : b.roundOf = some l) (hk : b.kind = .normal) (hr : (Instr.endRound l none).run P w = .ok v w') :
    step P (lone (mk b a []) (c :: cs) w) = .next (lone (c.finish v) cs w') :=
  step_lone_go (by simp [stepG, stepG.exec, mk, hb, hk, Sem.runT_eq, hr, doReturn])

theorem st_roundRet {l : Nat} {v : Value} {w' : World} (hb : b.roundOf = some l) (hk : b.kind = .normal) (hr : (Instr.endRound l (some .ret)).run P w = .ok v w') :
    step P (lone (mk b a (.code .ret :: k)) (c :: cs) w) = .next (lone (c.finish v) cs w') :=
  step_lone_go (by simp [stepG, stepG.exec, mk, hb, hk, Sem.runT_eq, hr, doReturn])

theorem st_roundExit {l id : Nat} {v : Value} {w' : World} (hb : b.roundOf = some l) (hk : b.kind = .normal) (hx : exitTo id k = none) (hr : (Instr.endRound l (some (.exit id))).run P w = .ok v w') :
    step P (lone (mk b a (.code (.exit id) :: k)) (c :: cs) w) = .next (lone (c.finish v) cs w') :=
  step_lone_go (by simp [stepG, stepG.exec, mk, hb, hk, hx, Sem.runT_eq, hr, doReturn])

theorem mk_finish_range (l : Nat) (v : Value) : (mk b a (.inRangeFunc l :: k)).finish v = mk b a (.endRangeFunc l :: k) := by
  simp [Frame.finish, mk]

theorem st_endRange {l : Nat} {jump : Option Code} {w' : World} (h : (Instr.endLoop l).run P w = .ok jump w') :
    step P (lone (mk b a (.endRangeFunc l :: k)) cs w) = .next (lone (mk b a ((jump.map Item.code).toList ++ k)) cs w') :=
  step_lone_go (by simp [stepG, stepG.exec, mk, Sem.runT_eq, h, GStep.bare_after])

theorem st_rangeFunc {g : Operand} {ps : Array Nat} {x y : Code} {l : Nat} {mark : List Deferred} {w₁ w₁' w₂ : World} {d : Deferred} {f : FuncId} {args : Array Value}
    (he : (Instr.enterLoop b.fn a.tmps ps x y b.roundOf).run P w = .ok (l, mark) w₁)
    (hres : (resolve a.eval { callee := .value g, args := #[.const (.func (.yield l) #[] #[])], argTypes := #[] } 0).run P w₁ = .ok d w₁') (hinv : (invoke d.target d.args).run P w₁' = .ok (.enter f args) w₂) :
    step P (lone (mk b a (.code (.rangeFunc g ps x y) :: k)) cs w) =
      .next (lone (Frame.enter P f args .normal) (mk b ⟨a.tmps, mark ++ a.defers⟩ (.inRangeFunc l :: k) :: cs) w₂) :=
  step_lone_go (by
    have hev := mk_eval b ⟨a.tmps, mark ++ a.defers⟩ (.inRangeFunc l :: k)
    simp only [mk] at hev
    have hres' : Sem.run P (resolve ({ tmps := a.tmps, defers := mark ++ a.defers } : Act).eval { callee := .value g, args := #[.const (.func (.yield l) #[] #[])], argTypes := #[] } 0) w₁ = .ok d w₁' := hres
    simp [stepG, stepG.exec, mk, Sem.runT_eq, he, GStep.bare_after, stepG.apply, hev, Sem.run_bind, hres', hinv, Result.andThen])

end

/-! ## what stands for what -/

inductive ChR (j : Inj) : Chain → List PanicEntry → Prop
  | nil : ChR j [] []
  | cons {v v' : Value} {r : Bool} {l : Chain} {l' : List PanicEntry} : VR j v v' → ChR j l l' → ChR j ((v, r) :: l) ({ v := v', recovered := r } :: l')

theorem ChR.mono {j j' : Inj} (hj : j.le j') {x : Chain} {x' : List PanicEntry} (h : ChR j x x') : ChR j' x x' := by
  induction h with
  | nil => exact .nil
  | cons h _ ih => exact .cons (h.mono hj) ih

inductive DsR (j : Inj) : List ADef → List Deferred → Prop
  | nil : DsR j [] []
  | cons {f : FuncId} {as as' : List Value} {d : Deferred} {l : List ADef} {l' : List Deferred} (cap : Array Value) :
      d.target = .fn (.func f) cap → d.args.toList ++ cap.toList = as' → LR j as as' → DsR j l l' → DsR j (.call f as :: l) (d :: l')
  | mark {q : Nat} {L : Loc} {d : Deferred} {l : List ADef} {l' : List Deferred} : j q = some L → d.target = .collected L.blk → DsR j l l' → DsR j (.mark q :: l) (d :: l')

theorem DsR.mono {j j' : Inj} (hj : j.le j') {x : List ADef} {x' : List Deferred} (h : DsR j x x') : DsR j' x x' := by
  induction h with
  | nil => exact .nil
  | cons cap h1 h2 h3 _ ih => exact .cons cap h1 h2 (h3.mono hj) ih
  | mark h1 h2 _ ih => exact .mark (hj _ _ h1) h2 ih

def UR (j : Inj) (u : UMode) (b : Frame) (cs : List Frame) : Prop :=
  match u with
  | .norm => b.kind = .normal ∧ b.roundOf = none
  | .round => b.roundOf.isSome = true
  | .ret => b.kind = .deferred ∧ b.roundOf = none ∧ ∃ c rest, cs = c :: rest ∧ c.mode = .returning
  | .pan ch => b.kind = .deferred ∧ b.roundOf = none ∧ ∃ c rest ch', cs = c :: rest ∧ c.mode = .panicking ch' ∧ ChR j ch ch'

theorem UR.mono {j j' : Inj} (hj : j.le j') {u : UMode} {b : Frame} {cs : List Frame} (h : UR j u b cs) : UR j' u b cs := by
  cases u with
  | norm => exact h
  | round => exact h
  | ret => exact h
  | pan ch => obtain ⟨h1, h2, c, rest, ch', h3, h4, h5⟩ := h; exact ⟨h1, h2, c, rest, ch', h3, h4, h5.mono hj⟩

/-- the callers, but for the mode of the nearest -/
def CR (cs0 cs : List Frame) : Prop := cs = cs0 ∨ ∃ c rest m, cs0 = c :: rest ∧ cs = { c with mode := m } :: rest

theorem CR.trans {cs0 cs1 cs2 : List Frame} (h : CR cs0 cs1) (h' : CR cs1 cs2) : CR cs0 cs2 := by
  rcases h with rfl | ⟨c, rest, m, e1, e2⟩
  · exact h'
  · rcases h' with rfl | ⟨c', rest', m', e3, e4⟩
    · exact .inr ⟨c, rest, m, e1, e2⟩
    · subst e2; injection e3 with e3 e5; subst e3 e5
      exact .inr ⟨c, rest, m', e1, by rw [e4]⟩

def GlobR (gs : List Nat) (j : Inj) : Prop := ∀ g ∈ gs, ∃ L, j g = some L ∧ L.blk = g ∧ L.off = 0

/-- what stays the same while a frame runs -/
structure Cx where
  F : Nat → Nat → Prop
  w0 : World
  j0 : Inj
  h0 : AHeap
  cs0 : List Frame
  b : Frame
  n : Nat
  gs : List Nat
  dom : ∀ b L, j0 b = some L → b < h0.length

structure RelM (X : Cx) (j : Inj) (s : St) (df : List Deferred) (cs : List Frame) (w : World) : Prop where
  sim : Sim X.F X.w0 j s.h w
  ds : DsR j s.ds df
  um : UR j s.u X.b cs
  callers : CR X.cs0 cs
  norm : s.u = .norm ∨ s.u = .round → cs = X.cs0
  glob : GlobR X.gs j
  ext : X.j0.ext X.h0.length j
  len : X.h0.length ≤ s.h.length

def Rel (X : Cx) (j : Inj) (s : St) (a : Act) (cs : List Frame) (w : World) : Prop := RelM X j s a.defers cs w ∧ EnvR j X.n s.e a.tmps

/-- behind code: what is to be shown for each way out -/
def After (P : Program) (G : Machine → Prop) (b : Frame) (k : List Item) (x : AExit) (j : Inj) (a : Act) (cs : List Frame) (w : World) : Prop :=
  match x with
  | .normal => Ends P G (lone (mk b a k) cs w)
  | .exit id => (∀ k', exitTo id k = some k' → Ends P G (lone (mk b a k') cs w)) ∧ (exitTo id k = none → ∀ k', exitTo id k' = none → Ends P G (lone (mk b a (.code (.exit id) :: k')) cs w))
  | .ret => ∀ k', Ends P G (lone (mk b a (.code .ret :: k')) cs w)
  | .panic ch => ∀ k' ch', ChR j ch ch' → Ends P G (lone { mk b a k' with mode := .panicking ch' } cs w)

theorem AEnv.get_cons (e : AEnv) (d t : Nat) (v : Value) : AEnv.get ((d, v) :: e) t = if d = t then some v else e.get t := by
  simp only [AEnv.get]
  by_cases h : d = t
  · subst h; simp
  · have hb : Nat.beq d t = false := by
      cases hb : Nat.beq d t with
      | false => rfl
      | true => exact absurd (Nat.eq_of_beq_eq_true hb) h
    simp [h, hb]

theorem EnvR.put {j : Inj} {n : Nat} {e : AEnv} {tmps : Array Value} (h : EnvR j n e tmps) {d : Nat} (hd : d < n) {v v' : Value} (hv : VR j v v') :
    EnvR j n ((d, v) :: e) (tmps.setIfInBounds d v') := by
  refine ⟨by simp [h.1], fun t u ht => ?_⟩
  rw [AEnv.get_cons] at ht
  rw [Array.getElem?_setIfInBounds]
  split at ht
  · rename_i hdt; injection ht with ht; subst ht; subst hdt
    exact ⟨v', by simp [h.1, hd], hv⟩
  · rename_i hdt
    obtain ⟨u', h1, h2⟩ := h.2 t u ht
    exact ⟨u', by simp [hdt, h1], h2⟩

theorem restrict_get : ∀ (live : List Nat) (e : AEnv) (t : Nat) (v : Value), (restrict live e).get t = some v → e.get t = some v
  | [], e, t, v, h => by simp [restrict, AEnv.get] at h
  | a :: r, e, t, v, h => by
    unfold restrict at h
    split at h
    · rename_i u hu
      rw [AEnv.get_cons] at h
      split at h
      · rename_i hat; subst hat; injection h with h; subst h; exact hu
      · exact restrict_get r e t v h
    · exact restrict_get r e t v h

theorem RelM.env_eq {X : Cx} {j : Inj} {s s' : St} {df : List Deferred} {cs : List Frame} {w : World} (h : RelM X j s df cs w) (e1 : s'.h = s.h) (e2 : s'.ds = s.ds) (e3 : s'.u = s.u) : RelM X j s' df cs w :=
  ⟨by rw [e1]; exact h.sim, by rw [e2]; exact h.ds, by rw [e3]; exact h.um, h.callers, by rw [e3]; exact h.norm, h.glob, h.ext, by rw [e1]; exact h.len⟩

theorem Rel.keep {X : Cx} {j : Inj} {s : St} {a : Act} {cs : List Frame} {w : World} (h : Rel X j s a cs w) (live : List Nat) : Rel X j (Fm.keep live s) a cs w :=
  ⟨h.1.env_eq rfl rfl rfl, h.2.1, fun t v ht => h.2.2 t v (restrict_get _ _ _ _ ht)⟩

theorem GlobR.mono {gs : List Nat} {j j' : Inj} (hj : j.le j') (h : GlobR gs j) : GlobR gs j' := fun g hg => let ⟨L, h1, h2⟩ := h g hg; ⟨L, hj _ _ h1, h2⟩

/-- memory has gone on -/
theorem RelM.go {X : Cx} {j j' : Inj} {s s' : St} {df : List Deferred} {cs : List Frame} {w w' : World} (h : RelM X j s df cs w) (hx : j.ext s.h.length j') (hl : s.h.length ≤ s'.h.length)
    (hs : Sim X.F X.w0 j' s'.h w') (e2 : s'.ds = s.ds) (e3 : s'.u = s.u) : RelM X j' s' df cs w' :=
  ⟨hs, by rw [e2]; exact h.ds.mono hx.1, by rw [e3]; exact h.um.mono hx.1, h.callers, by rw [e3]; exact h.norm, h.glob.mono hx.1, Inj.ext_trans h.ext h.len hx, Nat.le_trans h.len hl⟩

theorem ev_rel {gs : List Nat} {n : Nat} {j : Inj} {e : AEnv} {a : Act} (h : EnvR j n e a.tmps) (hg : GlobR gs j) : RR j (ev gs e) a.eval := by
  intro x v hx
  cases x with
  | tmp t =>
    obtain ⟨v', h1, h2⟩ := h.2 t v hx
    simpa [Act.eval, Array.getD_eq_getD_getElem?, h1] using h2
  | const c =>
    simp only [ev] at hx
    split at hx
    · rename_i hf; injection hx with hx; subst hx; exact (flatB_flat hf).vr j
    · simp at hx
  | global g =>
    simp only [ev] at hx
    split at hx
    · rename_i hgg
      injection hx with hx; subst hx
      obtain ⟨L, h1, h2, h3⟩ := hg g (by simpa using hgg)
      have := VR.ptr (j := j) (o := 0) h1
      rw [h2, h3] at this
      exact this
    · simp at hx
  | func f =>
    simp only [ev] at hx
    injection hx with hx; subst hx
    exact .func f rfl (by simp) rfl (by simp)

end Go.Fm

namespace Go.Fm
open Extern

variable {P : Program} {F : Nat → Nat → Prop} {w0 w : World} {j : Inj} {h : AHeap}

def indexIn (s : ByteArray) (c : UInt8) : Int :=
  match (List.range s.size).find? fun i => s[i]! == c with
  | some i => (i : Int)
  | none => -1

/-- the bytes that a slice shows -/
def aBytes (v : Value) (h : AHeap) : Option (List UInt8) :=
  match v with
  | .slice _ n _ => (aView 1 v n h).bind bytesOf?
  | _ => none

/-- what a function without a body hands back -/
def aExt (P : Program) (fn : Func) (args : List Value) (h : AHeap) : Option (Value × AHeap) :=
  if fn.name == "internal/bytealg.MakeNoZero" then
    match args, fn.resultTypes.toList with
    | [.int .i64 n], [t] =>
      match P.underlying t with
      | some (.slice e) => if 0 ≤ n ∧ n ≤ 2 ^ 46 then some (.slice (some ⟨h.length, 0, some 1⟩) n.toNat n.toNat, h ++ [.tcells (List.replicate n.toNat (.chan (some 0))) e (some 0)]) else none
      | _ => none
    | _, _ => none
  else if fn.name == "internal/bytealg.IndexByteString" then
    match args with
    | [.string s, .int .u8 c] => some (goInt (indexIn s c.toNat.toUInt8), h)
    | _ => none
  else if fn.name == "internal/abi.NoEscape" then
    match args with
    | [v] => some (v, h)
    | _ => none
  else if fn.name == "internal/bytealg.Compare" then
    match args with
    | [x, y] => (aBytes x h).bind fun l => (aBytes y h).map fun l' => (goInt (BytealgCompare.cmp ⟨l.toArray⟩ ⟨l'.toArray⟩), h)
    | _ => none
  else none

def hasBody (P : Program) (f : FuncId) : Bool :=
  match P.funcs[f]? with
  | some fn => match fn.body with
    | some _ => true
    | none => false
  | none => false

/-- a function without a body that is known -/
def extB (fn : Func) : Bool := fn.body.isNone && fn.origin == ""

theorem lookT_mnz : allTypedRows.lookup "internal/bytealg.MakeNoZero" = some BytealgMakeNoZero.makeNoZero := by kernel_rfl
theorem lookG_mnz : allGenericRows.lookup "internal/bytealg.MakeNoZero" = none := by kernel_rfl
theorem lookN_mnz : allNextRows.lookup "internal/bytealg.MakeNoZero" = none := by kernel_rfl
theorem lookN_none : allNextRows.lookup "" = none := by kernel_rfl
theorem lookG_ibs : allGenericRows.lookup "internal/bytealg.IndexByteString" = none := by kernel_rfl
theorem lookT_ibs : allTypedRows.lookup "internal/bytealg.IndexByteString" = none := by kernel_rfl
theorem lookR_ibs : allRows.lookup "internal/bytealg.IndexByteString" = some BytealgIndexByte.indexByte := by kernel_rfl
theorem lookN_ibs : allNextRows.lookup "internal/bytealg.IndexByteString" = none := by kernel_rfl

theorem lookG_abi : allGenericRows.lookup "internal/abi.NoEscape" = none := by kernel_rfl
theorem lookT_abi : allTypedRows.lookup "internal/abi.NoEscape" = none := by kernel_rfl
theorem lookR_abi : allRows.lookup "internal/abi.NoEscape" = some AbiNoEscape.same := by kernel_rfl
theorem lookN_abi : allNextRows.lookup "internal/abi.NoEscape" = none := by kernel_rfl

theorem lookG_cmp : allGenericRows.lookup "internal/bytealg.Compare" = none := by kernel_rfl
theorem lookT_cmp : allTypedRows.lookup "internal/bytealg.Compare" = none := by kernel_rfl
theorem lookR_cmp : allRows.lookup "internal/bytealg.Compare" = some BytealgCompare.compare := by kernel_rfl
theorem lookN_cmp : allNextRows.lookup "internal/bytealg.Compare" = none := by kernel_rfl

theorem run_loadBytesX (B : Nat) : ∀ (ns : List Int) (o : Nat) (acc : ByteArray) (w : World), (∀ i x, ns[i]? = some x → w.cell? ⟨B, o + i, none⟩ = some (.int .u8 x)) →
    (Bytes.loadBytes ⟨B, o, none⟩ ns.length acc).run P w = .ok ⟨(acc.data.toList ++ ns.map fun n => UInt8.ofNat n.toNat).toArray⟩ w
  | [], o, acc, w, _ => by simp [Bytes.loadBytes]
  | n :: ns, o, acc, w, h => by
    have h0 : w.cell? ⟨B, o, none⟩ = some (.int .u8 n) := by simpa using h 0 n (by simp)
    have ih := run_loadBytesX B ns (o + 1) (acc.push n.toNat.toUInt8) w (fun i x hx => by
      have := h (i + 1) x (by simpa using hx)
      rwa [show o + 1 + i = o + (i + 1) by omega])
    simp only [List.length_cons, Bytes.loadBytes, Sem.run_bind, run_load, h0, Result.andThen_ok, Addr.add_none, ih]
    simp [ByteArray.push]

theorem aCell_of_cells {a : Addr} {n : Nat} {l : List Value} (e : aCells h a n = some l) {i : Nat} {x : Value} (hx : l[i]? = some x) : aCell h ⟨a.block, a.off + i, none⟩ = some x := by
  unfold aCells at e
  unfold aCell
  split at e
  · simp at e
  · simp only [Option.isSome_none, Bool.false_eq_true, if_false]
    split at e
    · split at e
      · injection e with e; subst e
        rw [List.getElem?_take] at hx
        split at hx
        · simpa [List.getElem?_drop] using hx
        · simp at hx
      · simp at e
    · split at e
      · injection e with e; subst e
        rw [List.getElem?_take] at hx
        split at hx
        · simpa [List.getElem?_drop] using hx
        · simp at hx
      · simp at e
    · simp at e

theorem aBytes_sim (S : Sim F w0 j h w) {v v' : Value} (hv : VR j v v') {l : List UInt8} (e : aBytes v h = some l) : (Bytes.bytesOf v').run P w = .ok ⟨l.toArray⟩ w := by
  unfold aBytes at e
  split at e
  · rename_i a n c
    obtain ⟨vs, h1, h2⟩ := bind_some' e
    obtain ⟨ns, k1, k2⟩ := bytesOf_ints h2
    subst k1 k2
    unfold aView at h1
    split at h1
    · rename_i b o sp len cap heq
      injection heq with q1 q2 q3; subst q1 q2 q3
      have key : ∀ (B : Nat) (o' c' : Nat), v' = .slice (some ⟨B, o', none⟩) n c' → (n ≠ 0 → ∃ L, j b = some L ∧ B = L.blk ∧ o' = L.off + o) →
          (Bytes.bytesOf v').run P w = .ok ⟨(ns.map fun n => UInt8.ofNat n.toNat).toArray⟩ w := by
        intro B o' c' hv' hL
        subst hv'
        split at h1
        · rename_i hz
          have hn : n = 0 := by omega
          subst hn
          have : ns = [] := by simpa using h1
          subst this
          simp [Bytes.bytesOf, Bytes.loadBytes]; rfl
        · rename_i hz
          obtain ⟨L, hj, rfl, rfl⟩ := hL (by omega)
          rw [if_pos (Nat.le_refl _)] at h1
          have hlen : ns.length = n := by
            unfold aCells at h1
            split at h1
            · simp at h1
            · split at h1
              · split at h1
                · rename_i hle
                  have hle : o + n * 1 ≤ _ := hle
                  have := congrArg List.length (Option.some.inj h1); simp at this; omega
                · simp at h1
              · split at h1
                · rename_i hle
                  have hle : o + n * 1 ≤ _ := hle
                  have := congrArg List.length (Option.some.inj h1); simp at this; omega
                · simp at h1
              · simp at h1
          have := run_loadBytesX (P := P) L.blk ns (L.off + o) .empty w (fun i x hx => by
            obtain ⟨u, g1, g2⟩ := aCell_sim S (a := ⟨b, o + i, none⟩) hj (aCell_of_cells (a := ⟨b, o, none⟩) (i := i) (x := .int .u8 x) (by simpa using h1) (by simp [hx]))
            cases g2
            simpa [Nat.add_assoc] using g1)
          rw [hlen] at this
          simpa [Bytes.bytesOf] using this
      cases hv with
      | slice _ _ hj => exact key _ _ _ rfl fun _ => ⟨_, hj, rfl, rfl⟩
      | oslice _ _ hj _ _ => exact key _ _ _ rfl fun _ => ⟨_, hj, rfl, rfl⟩
      | slice0 a a' =>
        obtain ⟨a1, a2, a3⟩ := a'
        simp at h1
        subst h1
        simp [Bytes.bytesOf, Bytes.loadBytes]; rfl
    · rename_i heq
      injection heq with q1 q2 q3; subst q1
      cases hv
      simp at h1
      subst h1
      simp [Bytes.bytesOf]; rfl
    · simp at h1
  · simp at e

theorem size_digits : ∀ (n t : Nat) (acc : Array Value), (BytealgMakeNoZero.digits n t acc).size = acc.size + n
  | 0, _, _ => rfl
  | n + 1, t, acc => by
    rw [BytealgMakeNoZero.digits, size_digits n]
    simp
    omega

theorem cell_digits : ∀ (n t : Nat) (acc : Array Value), (∀ (i : Nat) (v : Value), acc[i]? = some v → Value.isCell v = true) → ∀ (i : Nat) (v : Value), (BytealgMakeNoZero.digits n t acc)[i]? = some v → Value.isCell v = true
  | 0, _, _, h, i, v, e => h i v e
  | n + 1, t, acc, h, i, v, e => by
    rw [BytealgMakeNoZero.digits] at e
    refine cell_digits n _ _ (fun k u hu => ?_) i v e
    rw [Array.getElem?_push] at hu
    split at hu
    · injection hu with hu; subst hu; rfl
    · exact h k u hu

theorem run_mnz (ps : Array TypeId) (t e : TypeId) (ht : P.underlying t = some (.slice e)) (n : Int) (h0 : 0 ≤ n) (hn : n ≤ 2 ^ 46) (w : World) :
    ∃ (cs : Array Value) (w' : World), (BytealgMakeNoZero.makeNoZero ps #[t] #[.int .i64 n]).run P w = .ok (.slice (some ⟨w.heap.size, 0, none⟩) n.toNat cs.size) w' ∧ Io w w' ∧
      w'.heap = w.heap.push (.cells cs e) ∧ n.toNat ≤ cs.size ∧ ∀ (i : Nat) (v : Value), cs[i]? = some v → Value.isCell v = true := by
  obtain ⟨q, hq⟩ : ∃ q, q = (Question.appendCap n.toNat 0 e).cut (w.tape w.drawn (.appendCap n.toNat 0 e)) := ⟨_, rfl⟩
  have hqge : n.toNat ≤ q := by rw [hq]; simp [Question.cut]
  obtain ⟨d, hd⟩ : ∃ d, d = (Question.extern "internal/bytealg.MakeNoZero.bytes" 0).cut (w.tape (w.drawn + 1) (.extern "internal/bytealg.MakeNoZero.bytes" 0)) := ⟨_, rfl⟩
  have hch : (choose (.appendCap n.toNat 0 e)).run P w = .ok q { w with drawn := w.drawn + 1 } := by
    rw [hq]; simp [choose, Sem.run, Question.forced]
  have hch2 : (choose (.extern "internal/bytealg.MakeNoZero.bytes" 0)).run P { w with drawn := w.drawn + 1 } = .ok d { w with drawn := w.drawn + 1 + 1 } := by
    rw [hd]; simp [choose, Sem.run, Question.forced]; exact ⟨rfl, rfl, rfl⟩
  have hroom : ∀ w : World, (askRoom q).run P w = .ok () w := by
    intro w
    unfold askRoom; split
    · simp [mark, Sem.run]
    · simp
  have hb : ((decide (n < 0) || decide (n > 2 ^ 48)) = true) = False := by simp; omega
  refine ⟨BytealgMakeNoZero.digits q d #[], { w with heap := w.heap.push (.cells (BytealgMakeNoZero.digits q d #[]) e), drawn := w.drawn + 1 + 1 }, ?_, ⟨rfl, rfl, rfl⟩, rfl, by rw [size_digits]; simpa using hqge, ?_⟩
  · delta BytealgMakeNoZero.makeNoZero
    change Sem.run P (bind (underlying t) _) w = _
    simp only [Sem.run_bind, run_underlying ht, Result.andThen_ok, hb, if_false, hch, hroom, hch2, run_newRow, Sem.run_pure, size_digits]
    simp
  · exact cell_digits q d #[] (fun i v e => by simp at e)

theorem run_ibs (s : ByteArray) (c : Int) (w : World) : (BytealgIndexByte.indexByte #[.string s, .int .u8 c]).run P w = .ok (goInt (indexIn s c.toNat.toUInt8)) w := by
  delta BytealgIndexByte.indexByte
  change Sem.run P (bind (Bytes.bytesOf (.string s)) fun b => bind (Bytes.asByte (.int .u8 c)) _) w = _
  simp only [Bytes.bytesOf, Bytes.asByte, Sem.run_bind, Sem.run_pure, Result.andThen_ok, indexIn]
  cases List.find? (fun i => s[i]! == c.toNat.toUInt8) (List.range s.size) <;> simp

theorem holes (j : Inj) : ∀ (n : Nat) (l : List Value), l.length = n → (∀ v ∈ l, Value.isCell v = true) → LR j (List.replicate n (.chan (some 0))) l
  | 0, [], _, _ => .nil
  | n + 1, v :: l, hl, h => .cons (.hole (h v (by simp))) (holes j n l (by simpa using hl) fun u hu => h u (by simp [hu]))

theorem aExt_sim (S : Sim F w0 j h w) {f : FuncId} {fn : Func} (hf : P.funcs[f]? = some fn) (hn : (fn.name == "runtime.NumGoroutine") = false) (hx : extB fn = true) {args : List Value} {args' : Array Value} (ha : LR j args args'.toList)
    {r : Value} {h' : AHeap} (e : aExt P fn args h = some (r, h')) :
    ∃ j' r' w', j.ext h.length j' ∧ h.length ≤ h'.length ∧ VR j' r r' ∧ (callFunc f args').run P w = .ok (.value r') w' ∧ Sim F w0 j' h' w' := by
  unfold extB at hx
  rw [Bool.and_eq_true] at hx
  obtain ⟨hb, ho⟩ := hx
  have ho : fn.origin = "" := by simpa using ho
  unfold aExt at e
  split at e
  · rename_i hname
    have hname : fn.name = "internal/bytealg.MakeNoZero" := by simpa using hname
    split at e
    · rename_i n t hres
      split at e
      · rename_i el hu
        split at e
        · rename_i hrange
          simp only [Option.some.injEq, Prod.mk.injEq] at e
          obtain ⟨e1, e2⟩ := e; subst e1 e2
          have hfn : findNext fn = none := by
            unfold findNext; simp only [hname, ho, lookN_mnz, lookN_none]; rfl
          have hfi : find fn = some (BytealgMakeNoZero.makeNoZero fn.params #[t]) := by
            have : fn.resultTypes = #[t] := Array.ext' hres
            unfold find; simp only [hname, lookG_mnz, lookT_mnz, this]; rfl
          have hargs : args' = #[.int .i64 n] := by
            obtain ⟨l'⟩ := args'
            simp only at ha
            cases ha with
            | cons hv hl => cases hl; cases hv; rfl
          obtain ⟨cs, w', k1, k2, k3, k4, k5⟩ := run_mnz (P := P) fn.params t el hu n hrange.1 hrange.2 w
          have hcs : cs = (cs.toList.take n.toNat ++ cs.toList.drop n.toNat).toArray := by simp
          have hlen : (cs.toList.take n.toNat).length = n.toNat := by simp; omega
          have hm : Makes j w w' h.length (.tcells (List.replicate n.toNat (.chan (some 0))) el (some 0)) (.slice (some ⟨h.length, 0, some 1⟩) n.toNat n.toNat) (.slice (some ⟨w.heap.size, 0, none⟩) n.toNat cs.size) := by
            refine makes_tcells (c' := cs.toList.take n.toNat) (tail := cs.toList.drop n.toNat) (esz := 1) (extra := cs.size - n.toNat) (holes j _ _ hlen ?_) (by simp) k2 (by rw [← hcs]; exact k3) (fzOk_zero _) (fun j' L hj e hL => ?_)
            · intro v hv
              obtain ⟨i, hi⟩ := List.getElem?_of_mem (List.mem_of_mem_take hv)
              exact k5 i v (by simpa using hi)
            · subst hL
              have := VR.oslice (j := j') (o := 0) (e := 1) n.toNat n.toNat e rfl (by simp)
              simpa [show n.toNat + (cs.size - n.toNat) = cs.size by omega] using this
          obtain ⟨j', g1, g2, g3⟩ := Makes.sim S hm
          refine ⟨j', _, w', g1, by simp, g2, ?_, g3⟩
          rw [run_callFunc_extern hf hn hb hfn hfi, hargs, k1]; rfl
        · simp at e
      · simp at e
    · simp at e
  · split at e
    · rename_i hname
      have hname : fn.name = "internal/bytealg.IndexByteString" := by simpa using hname
      split at e
      · rename_i s c
        simp only [Option.some.injEq, Prod.mk.injEq] at e
        obtain ⟨e1, e2⟩ := e; subst e1 e2
        have hfn : findNext fn = none := by
          unfold findNext; simp only [hname, ho, lookN_ibs, lookN_none]; rfl
        have hfi : find fn = some BytealgIndexByte.indexByte := by
          unfold find; simp only [hname, lookG_ibs, lookT_ibs, lookR_ibs]; rfl
        have hargs : args' = #[.string s, .int .u8 c] := by
          obtain ⟨l'⟩ := args'
          simp only at ha
          cases ha with
          | cons hv hl => cases hl with | cons hv2 hl2 => cases hl2; cases hv; cases hv2; rfl
        refine ⟨j, _, w, j.ext_refl _, Nat.le_refl _, .int _ _, ?_, S⟩
        rw [run_callFunc_extern hf hn hb hfn hfi, hargs, run_ibs]; rfl
      · simp at e
    · split at e
      · rename_i hname
        have hname : fn.name = "internal/abi.NoEscape" := by simpa using hname
        split at e
        · rename_i v
          simp only [Option.some.injEq, Prod.mk.injEq] at e
          obtain ⟨e1, e2⟩ := e; subst e1 e2
          have hfn : findNext fn = none := by
            unfold findNext; simp only [hname, ho, lookN_abi, lookN_none]; rfl
          have hfi : find fn = some AbiNoEscape.same := by
            unfold find; simp only [hname, lookG_abi, lookT_abi, lookR_abi]; rfl
          obtain ⟨l'⟩ := args'
          simp only at ha
          cases ha with
          | cons hv hl =>
            cases hl
            refine ⟨j, _, w, j.ext_refl _, Nat.le_refl _, hv, ?_, S⟩
            rw [run_callFunc_extern hf hn hb hfn hfi]; rfl
        · simp at e
      · split at e
        · rename_i hname
          have hname : fn.name = "internal/bytealg.Compare" := by simpa using hname
          split at e
          · rename_i x y
            obtain ⟨l, e1, e⟩ := bind_some' e
            rw [Option.map_eq_some_iff] at e
            obtain ⟨l', e2, e⟩ := e
            simp only [Prod.mk.injEq] at e
            obtain ⟨e3, e4⟩ := e; subst e3 e4
            have hfn : findNext fn = none := by
              unfold findNext; simp only [hname, ho, lookN_cmp, lookN_none]; rfl
            have hfi : find fn = some BytealgCompare.compare := by
              unfold find; simp only [hname, lookG_cmp, lookT_cmp, lookR_cmp]; rfl
            obtain ⟨l0⟩ := args'
            simp only at ha
            cases ha with
            | @cons _ a0 _ _ hv hl =>
              cases hl with
              | @cons _ b0 _ _ hv2 hl2 =>
                cases hl2
                refine ⟨j, _, w, j.ext_refl _, Nat.le_refl _, .int _ _, ?_, S⟩
                rw [run_callFunc_extern hf hn hb hfn hfi]
                have k1 := aBytes_sim (P := P) S hv e1
                have k2 := aBytes_sim (P := P) S hv2 e2
                have : (BytealgCompare.compare #[a0, b0]).run P w = .ok (goInt (BytealgCompare.cmp ⟨l.toArray⟩ ⟨l'.toArray⟩)) w := by
                  delta BytealgCompare.compare
                  change Sem.run P (bind (Bytes.bytesOf a0) fun a => bind (Bytes.bytesOf b0) fun b => pure (goInt (BytealgCompare.cmp a b))) w = _
                  simp only [Sem.run_bind, k1, k2, Result.andThen_ok, Sem.run_pure]
                have e2 : (⟨[a0, b0]⟩ : Array Value) = #[a0, b0] := rfl
                rw [e2, this]; rfl
          · simp at e
        · simp at e

end Go.Fm

namespace Go.Fm

/-- how a frame leaves -/
def LeavesAs (P : Program) (f : FuncId) (kd : CallKind) (fr : Frame) (w : World) (j : Inj) : Res → Prop
  | .ret v => fr.fn = f ∧ fr.mode = .returning ∧ fr.defers = [] ∧ fr.kind = kd ∧ fr.roundOf = none ∧
      ∃ fn v', P.funcs[fr.fn]? = some fn ∧ (results fn fr.tmps).run P w = .ok v' w ∧ VR j v v'
  | .pan ch => fr.fn = f ∧ ∃ ch', fr.mode = .panicking ch' ∧ fr.defers = [] ∧ fr.kind = kd ∧ fr.roundOf = none ∧ (∃ fn, P.funcs[fr.fn]? = some fn) ∧ ChR j ch ch'

def Callable (P : Program) (f : FuncId) : Prop := ∃ fn, P.funcs[f]? = some fn ∧ fn.body.isSome = true ∧ (fn.name == "runtime.NumGoroutine") = false

/-- the contract of a function -/
def Spec (P : Program) (gs : List Nat) : FuncId → List Value → AHeap → (Res → AHeap → Prop) → Prop := fun f args h Q =>
  Callable P f ∧
  ∀ (G : Machine → Prop) (F : Nat → Nat → Prop) (w0 : World) (j : Inj) (w : World) (args' : Array Value) (cs : List Frame), Sim F w0 j h w → LR j args args'.toList → GlobR gs j →
    (∀ r h' j' w' fr, Q r h' → j.ext h.length j' → h.length ≤ h'.length → Sim F w0 j' h' w' → LeavesAs P f .normal fr w' j' r → Ends P G (lone fr cs w')) →
    Ends P G (lone (Frame.enter P f args' .normal) cs w)

theorem Spec.mono {P : Program} {gs : List Nat} {f : FuncId} {args : List Value} {h : AHeap} {Q Q' : Res → AHeap → Prop} (hs : Spec P gs f args h Q) (hq : ∀ r h', Q r h' → Q' r h') : Spec P gs f args h Q' :=
  ⟨hs.1, fun G F w0 j w args' cs S ha hg hk => hs.2 G F w0 j w args' cs S ha hg fun r h' j' w' fr q => hk r h' j' w' fr (hq _ _ q)⟩

/-- the contract of a loop's yield -/
def SpecY (P : Program) (gs : List Nat) (l : Nat) (args : List Value) (h : AHeap) (Q : Res → AHeap → Prop) : Prop :=
  ∀ (G : Machine → Prop) (F : Nat → Nat → Prop) (w0 : World) (j : Inj) (w : World) (args' : Array Value) (c : Frame) (cs : List Frame) (L : Loc), Sim F w0 j h w → LR j args args'.toList → GlobR gs j → j l = some L →
    (∀ v h' j' w' v', Q (.ret v) h' → j.ext h.length j' → h.length ≤ h'.length → Sim F w0 j' h' w' → VR j' v v' → Ends P G (lone (c.finish v') cs w')) →
    (∀ ch h' j' w' ch', Q (.pan ch) h' → j.ext h.length j' → h.length ≤ h'.length → Sim F w0 j' h' w' → ChR j' ch ch' → Ends P G (lone (c.raise ch') cs w')) →
    ∃ fn tmps x y, (Instr.yield L.blk args').run P w = .ok (.round L.blk fn tmps x y) w ∧ Ends P G (lone (Frame.round L.blk fn tmps x y .normal) (c :: cs) w)

/-- the contract of a function without a body -/
def SpecX (P : Program) (f : FuncId) (args : List Value) (h : AHeap) (Q : Res → AHeap → Prop) : Prop :=
  hasBody P f = false ∧ ∀ (F : Nat → Nat → Prop) (w0 : World) (j : Inj) (w : World) (args' : Array Value), Sim F w0 j h w → LR j args args'.toList →
    ∃ v h' j' v' w', Q (.ret v) h' ∧ (callFunc f args').run P w = .ok (.value v') w' ∧ j.ext h.length j' ∧ h.length ≤ h'.length ∧ Sim F w0 j' h' w' ∧ VR j' v v'

def SpecC0 (P : Program) (gs : List Nat) : FSpec
  | .fn f => Spec P gs f
  | .yield l => SpecY P gs l

def SpecC (P : Program) (gs : List Nat) : FSpec
  | .fn f => fun args h Q => Spec P gs f args h Q ∨ SpecX P f args h Q
  | .yield l => SpecY P gs l

theorem SpecC0.toC {P : Program} {gs : List Nat} {c : Callee} {args : List Value} {h : AHeap} {Q : Res → AHeap → Prop} (hs : SpecC0 P gs c args h Q) : SpecC P gs c args h Q := by
  cases c with
  | fn f => exact .inl hs
  | yield l => exact hs

variable {P : Program}

theorem run_callFunc {f : FuncId} (hc : Callable P f) (args : Array Value) (w : World) : (callFunc f args).run P w = .ok (.enter f args) w := by
  obtain ⟨fn, h1, h2, h3⟩ := hc
  have h4 : fn.body.isNone = false := by cases hb : fn.body <;> simp_all
  unfold callFunc
  simp only [program, Sem.run_bind, Sem.run, Result.andThen_ok, h1, h3, h4, Bool.false_eq_true, if_false]
  rfl

/-- what a call's operand and arguments come to in the machine -/
theorem target_sim {j : Inj} {ρ : Operand → Option Value} {ρ' : Operand → Value} (hr : RR j ρ ρ') {f : Operand} {args : Array Operand} {g : FuncId} {as : List Value}
    (h : target ρ f args.toList = some (.fn g, as)) (c : Call) (hc1 : c.callee = .value f) (hc2 : c.args = args) (t : TypeId) (w : World) :
    ∃ (cap da : Array Value), (resolve ρ' c t).run P w = .ok { target := .fn (.func g) cap, args := da } w ∧ LR j as (da.toList ++ cap.toList) := by
  unfold target at h
  split at h
  · rename_i g' first cap hf
    obtain ⟨l, hl, e⟩ := Option.map_eq_some_iff.1 h
    injection e with e1 e2; injection e1 with e1; subst e1 e2
    have hv := hr _ _ hf
    cases hc : ρ' f with
    | func fn x y =>
      rw [hc] at hv
      cases hv with
      | func _ h1 h2 h3 h4 =>
        have hl' := mapL_sim hr hl
        refine ⟨y, x ++ args.map ρ', ?_, ?_⟩
        · simp [resolve, hc1, hc2, hc, Deferred.ofValue]
        · simp only [Array.toList_append, Array.toList_map, List.append_assoc]
          exact (AR.toLR ⟨h1, h2⟩).app (hl'.app (AR.toLR ⟨h3, h4⟩))
    | _ => rw [hc] at hv; cases hv
  · obtain ⟨l, hl, e⟩ := Option.map_eq_some_iff.1 h
    injection e with e1 e2; cases e1
  · simp at h

theorem target_yield {j : Inj} {ρ : Operand → Option Value} {ρ' : Operand → Value} (hr : RR j ρ ρ') {f : Operand} {args : Array Operand} {l : Nat} {as : List Value}
    (h : target ρ f args.toList = some (.yield l, as)) (c : Call) (hc1 : c.callee = .value f) (hc2 : c.args = args) (t : TypeId) (w : World) :
    ∃ (L : Loc) (cap da : Array Value), j l = some L ∧ (resolve ρ' c t).run P w = .ok { target := .fn (.yield L.blk) cap, args := da } w ∧ LR j as da.toList := by
  unfold target at h
  split at h
  · obtain ⟨l, hl, e⟩ := Option.map_eq_some_iff.1 h
    injection e with e1 e2; cases e1
  · rename_i l' first cap hf
    obtain ⟨l0, hl, e⟩ := Option.map_eq_some_iff.1 h
    injection e with e1 e2; injection e1 with e1; subst e1 e2
    have hv := hr _ _ hf
    cases hc : ρ' f with
    | func fn x y =>
      rw [hc] at hv
      cases hv with
      | yield hj =>
        have hl' := mapL_sim hr hl
        refine ⟨_, #[], args.map ρ', hj, ?_, by simpa using hl'⟩
        simp [resolve, hc1, hc2, hc, Deferred.ofValue]
    | _ => rw [hc] at hv; cases hv
  · simp at h

section
variable {X : Cx} {j : Inj} {s : St} {a : Act} {cs : List Frame} {w : World} {G : Machine → Prop} {k : List Item} {ops : Array Oper} {i : Nat} {rest : List Nat} {o : Oper} {ρ : Operand → Option Value}

theorem UR.roundOf {u : UMode} {b : Frame} (h : UR j u b cs) (hn : u ≠ .round) : b.roundOf = none := by
  cases u with
  | norm => exact h.2
  | round => exact absurd rfl hn
  | ret => exact h.2.1
  | pan ch => exact h.2.1

/-- what is to be shown behind an operation -/
structure Nexts (P : Program) (X : Cx) (j : Inj) (s : St) (a : Act) (cs : List Frame) (G : Machine → Prop) (k : List Item) (ops : Array Oper) (i : Nat) (rest : List Nat) (o : Oper)
    (next : Value → St → Prop) (pan : Chain → St → Prop) : Prop where
  val : ∀ v s' j' v' df' cs' w', next v s' → s'.e = s.e → j.ext s.h.length j' → s.h.length ≤ s'.h.length → RelM X j' s' df' cs' w' → VR j' v v' →
    Ends P G (lone (mk X.b (Act.put ⟨a.tmps, df'⟩ o.dst v') (.inRegion ops rest :: k)) cs' w')
  pan : ∀ ch s' j' ch' w', pan ch s' → s'.e = s.e → j.ext s.h.length j' → RelM X j' s' a.defers cs w' → ChR j' ch ch' →
    Ends P G (lone { mk X.b a (.inRegion ops (i :: rest) :: k) with mode := .panicking ch' } cs w')

theorem allW_mem {outs : List (Value × AHeap)} {k : Value → AHeap → Prop} (h : allW outs k) {v : Value} {h' : AHeap} (hm : (v, h') ∈ outs) : k v h' := by
  induction outs with
  | nil => simp at hm
  | cons p r ih =>
    obtain ⟨u, g⟩ := p
    simp only [allW] at h
    rcases List.mem_cons.1 hm with e | e
    · injection e with e1 e2; subst e1 e2; exact h.1
    · exact ih h.2 e

theorem bnd_some' {α : Type} {o : Option α} {k : α → Prop} (h : bnd o k) : ∃ x, o = some x ∧ k x := by
  cases o with
  | none => exact h.elim
  | some x => exact ⟨x, rfl, h⟩

theorem dataW_sound {next : Value → St → Prop} {pan : Chain → St → Prop} (hR : RelM X j s a.defers cs w) (hr : RR j ρ a.eval) (ho : ops[i]? = some o)
    (hw : Region.wanted o (yielded ops a.tmps) = true) (hnd : ∀ c, o.op ≠ .defer c) (h : dataW P ρ o.op s next) (hN : Nexts P X j s a cs G k ops i rest o next pan) :
    Ends P G (lone (mk X.b a (.inRegion ops (i :: rest) :: k)) cs w) := by
  unfold dataW at h
  split at h
  · obtain ⟨v, hv, hk⟩ := bnd_some' h
    obtain ⟨v', h1, h2⟩ := aPure_sim hr o hv
    exact .step (st_value ho hw (.inr hnd) (h2 w) rfl) (hN.val v s j v' a.defers cs w hk rfl (j.ext_refl _) (Nat.le_refl _) hR h1)
  · obtain ⟨v, hv, hk⟩ := bnd_some' h
    obtain ⟨v', h1, h2⟩ := aRead_sim hR.sim hr o hv
    exact .step (st_value ho hw (.inr hnd) h2 rfl) (hN.val v s j v' a.defers cs w hk rfl (j.ext_refl _) (Nat.le_refl _) hR h1)
  · obtain ⟨⟨ob, v⟩, hv, hk⟩ := bnd_some' h
    obtain ⟨v', w', h1, h2⟩ := aAlloc_sim hr o hv w
    obtain ⟨j', g1, g2, g3⟩ := h2.sim hR.sim
    exact .step (st_value ho hw (.inr hnd) h1 rfl) (hN.val v _ j' v' a.defers cs w' hk rfl g1 (by simp) (hR.go g1 (by simp) g3 rfl rfl) g2)
  · obtain ⟨⟨v, h'⟩, hv, hk⟩ := bnd_some' h
    obtain ⟨j', v', nx, w', g1, g2, g3, g4, g5⟩ := aEff_sim hR.sim hr o hv
    exact .step (st_value ho hw (.inr hnd) g3 g4) (hN.val v _ j' v' a.defers cs w' hk rfl g1 (aEff_len hv) (hR.go g1 (aEff_len hv) g5 rfl rfl) g2)

theorem opW_sound {next : Value → St → Prop} {pan : Chain → St → Prop} (hR : RelM X j s a.defers cs w) (hr : RR j ρ a.eval) (ho : ops[i]? = some o)
    (hw : Region.wanted o (yielded ops a.tmps) = true) (h : opW P (SpecC P X.gs) ρ o.op s next pan) (hN : Nexts P X j s a cs G k ops i rest o next pan) :
    Ends P G (lone (mk X.b a (.inRegion ops (i :: rest) :: k)) cs w) := by
  obtain ⟨dst, op, ty, pos, af, gd⟩ := o
  simp only at h
  have hal : ({ tmps := a.tmps, defers := a.defers } : Act) = a := rfl
  unfold opW at h
  split at h
  · -- a call
    rename_i f args ts
    obtain ⟨⟨g, as⟩, ht, hk⟩ := bnd_some' h
    cases g with
    | yield l =>
      obtain ⟨L, cap, da, hj, h1, h2⟩ := target_yield (P := P) hr ht { callee := .value f, args := args, argTypes := ts } rfl rfl ty w
      obtain ⟨fn, tmps, x, y, k1, k2⟩ := hk G X.F X.w0 j w da (mk X.b a (.inRegion ops (i :: rest) :: k)) cs L hR.sim h2 hR.glob hj
        (fun v h' j' w' v' hq hx hl hS hv => by
          rw [mk_finish, ho]
          exact hN.val v _ j' v' a.defers cs w' hq rfl hx hl (hR.go hx hl hS rfl rfl) hv)
        (fun ch h' j' w' ch' hq hx hl hS hch => hN.pan ch _ j' ch' w' hq rfl hx (hR.go hx hl hS rfl rfl) hch)
      have hrun : (execOp a.eval { dst, op := .call { callee := .value f, args := args, argTypes := ts }, type := ty, pos, after := af, guard := gd }).run P w = .ok (.round L.blk fn tmps x y) w := by
        simp only [execOp, Sem.run_bind, h1, Result.andThen_ok, invoke, k1]
      exact .step (st_round ho hw (.inr (by simp)) hrun) k2
    | fn g =>
    have hk : Spec P X.gs g as s.h (afterCall s next pan) ∨ SpecX P g as s.h (afterCall s next pan) := hk
    rcases hk with hk | hk
    rotate_left
    · obtain ⟨cap, da, h1, h2⟩ := target_sim (P := P) hr ht { callee := .value f, args := args, argTypes := ts } rfl rfl ty w
      obtain ⟨v, h', j', v', w', k1, k2, k3, k4, k5, k6⟩ := hk.2 X.F X.w0 j w (da ++ cap) hR.sim (by simpa using h2)
      have hrun : (execOp a.eval { dst, op := .call { callee := .value f, args := args, argTypes := ts }, type := ty, pos, after := af, guard := gd }).run P w = .ok (.value v') w' := by
        simp only [execOp, Sem.run_bind, h1, Result.andThen_ok, invoke, k2]
      exact .step (st_value ho hw (.inr (by simp)) hrun rfl) (hN.val v _ j' v' a.defers cs w' k1 rfl k3 k4 (hR.go k3 k4 k5 rfl rfl) k6)
    obtain ⟨cap, da, h1, h2⟩ := target_sim (P := P) hr ht { callee := .value f, args := args, argTypes := ts } rfl rfl ty w
    have hrun : (execOp a.eval { dst, op := .call { callee := .value f, args := args, argTypes := ts }, type := ty, pos, after := af, guard := gd }).run P w = .ok (.enter g (da ++ cap)) w := by
      simp only [execOp, Sem.run_bind, h1, Result.andThen_ok, invoke, run_callFunc hk.1]
    refine .step (st_enter ho hw (.inr (by simp)) hrun) ?_
    refine hk.2 G X.F X.w0 j w (da ++ cap) _ hR.sim (by simpa using h2) hR.glob ?_
    intro r h' j' w' fr hq hx hl hS hlv
    cases r with
    | ret v =>
      obtain ⟨l1, l2, l3, l4, l5, fn, v', l6, l7, l8⟩ := hlv
      have hstep := step_leave_returned (P := P) (fr := fr) (c := mk X.b a (.inRegion ops (i :: rest) :: k)) (cs := cs) (w := w') (v := v') ⟨l2, l3, l4, fn, l6, l7⟩
      rw [mk_finish, ho] at hstep
      exact .step hstep (hN.val v _ j' v' a.defers cs w' hq rfl hx hl (hR.go hx hl hS rfl rfl) l8)
    | pan ch =>
      obtain ⟨l1, ch', l2, l3, l4, l5, ⟨fn, l6⟩, l7⟩ := hlv
      have hstep := step_leave_panicked (P := P) (fr := fr) (c := mk X.b a (.inRegion ops (i :: rest) :: k)) (cs := cs) (w := w') (chain := ch') ⟨l2, l3, fn, l6⟩
      exact .step hstep (hN.pan ch _ j' ch' w' hq rfl hx (hR.go hx hl hS rfl rfl) l7)
  · -- recover
    rename_i args ts
    have hrun : (execOp a.eval { dst, op := .call { callee := .builtin .recover, args := args, argTypes := ts }, type := ty, pos, after := af, guard := gd }).run P w = .ok .recover w := by
      simp [execOp, resolve, invoke, builtin]
    unfold recoverW at h
    split at h
    · rename_i v older hu
      have hum := hR.um
      rw [hu] at hum
      obtain ⟨u1, u2, c, crest, ch', u3, u4, u5⟩ := hum
      cases u5 with
      | cons hv hold =>
        rename_i v' older'
        have hstep := st_recover (P := P) (b := X.b) (k := k) (cs := cs) (rest := rest) ho hw u2 (by simp) hrun
        have htry : tryRecover (mk X.b a (.inRegion ops (i :: rest) :: k)) cs = some (v', { c with mode := .panicking ({ v := v', recovered := true } :: older') } :: crest) := by
          subst u3
          simp [tryRecover, mk, u1, u4]
        rw [htry] at hstep
        refine .step hstep (hN.val v _ j v' a.defers _ w h rfl (j.ext_refl _) (Nat.le_refl _) ?_ hv)
        refine ⟨hR.sim, hR.ds, ⟨u1, u2, _, _, _, rfl, rfl, .cons hv hold⟩, hR.callers.trans (.inr ⟨c, crest, _, u3, rfl⟩), fun hn => by simp at hn, hR.glob, hR.ext, hR.len⟩
    · exact h.elim
    · rename_i hu1 hu2
      have hro : X.b.roundOf = none := hR.um.roundOf hu2
      have hstep := st_recover (P := P) (b := X.b) (k := k) (cs := cs) (rest := rest) ho hw hro (by simp) hrun
      have htry : tryRecover (mk X.b a (.inRegion ops (i :: rest) :: k)) cs = none := by
        have hum := hR.um
        cases hu : s.u with
        | norm => rw [hu] at hum; simp [tryRecover, mk, hum.1]
        | round => exact absurd hu hu2
        | ret =>
          rw [hu] at hum
          obtain ⟨q1, q2, c, crest, q3, q4⟩ := hum
          subst q3; simp [tryRecover, mk, q1, q4]
        | pan ch =>
          rw [hu] at hum
          obtain ⟨q1, q2, c, crest, ch', q3, q4, q5⟩ := hum
          subst q3
          cases q5 with
          | nil => simp [tryRecover, mk, q1, q4]
          | cons hv hold =>
            rename_i v0 v0' r0 l0 l0'
            cases r0 with
            | true => simp [tryRecover, mk, q1, q4]
            | false => exact absurd hu (hu1 _ _)
      rw [htry] at hstep
      exact .step hstep (hN.val .nilIface s j .nilIface a.defers cs w h rfl (j.ext_refl _) (Nat.le_refl _) hR .nilIface)
  · -- defer
    rename_i f args ts
    split at h
    · exact h.elim
    · rename_i hu
      obtain ⟨⟨g, as⟩, ht, hk⟩ := bnd_some' h
      cases g with
      | yield l => exact hk.elim
      | fn g =>
      obtain ⟨cap, da, h1, h2⟩ := target_sim (P := P) hr ht { callee := .value f, args := args, argTypes := ts } rfl rfl ty w
      have hro : X.b.roundOf = none := hR.um.roundOf hu
      have hrun : (execOp a.eval { dst, op := .defer { callee := .value f, args := args, argTypes := ts }, type := ty, pos, after := af, guard := gd }).run P w =
          .ok (.defer { target := .fn (.func g) cap, args := da }) w := by
        simp only [execOp, Sem.run_bind, h1, Result.andThen_ok, Sem.run_pure]
      refine .step (st_defer ho hw hro hrun) ?_
      refine hN.val undefV _ j undef ({ target := .fn (.func g) cap, args := da } :: a.defers) cs w hk rfl (j.ext_refl _) (Nat.le_refl _) ?_ (VR.tuple' .nil)
      exact ⟨hR.sim, .cons cap rfl rfl h2 hR.ds, hR.um, hR.callers, hR.norm, hR.glob, hR.ext, hR.len⟩
  · -- panic
    rename_i x
    split at h
    · rename_i t v hx
      have hv := hr _ _ hx
      cases hc : a.eval x with
      | iface t' v' =>
        rw [hc] at hv
        cases hv with
        | iface _ hv =>
          have hrun : (execOp a.eval { dst, op := .panic x, type := ty, pos, after := af, guard := gd }).run P w = .halt (.panic (.iface t v')) w := by
            simp [execOp, hc, Instr.panic, goPanic, Sem.run]
          exact .step (st_panic ho hw (.inr (by simp)) hrun) (hN.pan _ s j _ w h rfl (j.ext_refl _) hR (.cons (.iface t hv) .nil))
      | _ => rw [hc] at hv; cases hv
    · exact h.elim
  · -- a map's iterator
    rename_i it
    obtain ⟨outs, hb, hk⟩ := bnd_some' h
    obtain ⟨v, hv, hb⟩ := bind_some' hb
    obtain ⟨r, h', r', w', g1, g2, g3, g4⟩ := aNextMap_sim (P := P) (ty := ty) hR.sim (hr _ _ hv) hb
    have hl := aNextMap_len hb g1
    exact .step (st_value ho hw (.inr (by simp)) (run_val g3) rfl) (hN.val r _ j r' a.defers cs w' (allW_mem hk g1) rfl (j.ext_refl _) hl (hR.go (j.ext_refl _) hl g4 rfl rfl) g2)
  · -- data
    rename_i h1 h2 h3 h4 h5
    by_cases hnd : ∃ c, op = .defer c
    · -- a deferred call of what is no function value
      obtain ⟨c, rfl⟩ := hnd
      unfold dataW at h
      simp only [cls] at h
      obtain ⟨_, hb, _⟩ := bnd_some' h
      simp [aEff] at hb
    · exact dataW_sound hR hr ho hw (fun c hc => hnd ⟨c, hc⟩) h hN

end
end Go.Fm

namespace Go.Fm

section
variable (P : Program) (gs : List Nat) (n : Nat) (S : FSpec)

def isEff (o : Oper) : Bool :=
  match cls P o.op with
  | .eff => true
  | _ => false

/-- which operations stand before each, as sets of bits -/
def maskOf (acc : List Nat) : List Edge → Nat
  | [] => 0
  | e :: r => if Region.binds .any e then (2 ^ e.on ||| acc.getD e.on 0) ||| maskOf acc r else maskOf acc r

def masks : List Oper → List Nat → List Nat
  | [], acc => acc
  | o :: r, acc => masks r (acc ++ [maskOf acc o.after.toList])

def bitAt (ms : List Nat) (i k : Nat) : Bool := (ms.getD i 0).testBit k

def effs (L : List Oper) : List Nat := (List.range L.length).filter fun i => (L[i]?).any (isEff P)

def loOf (ms ws : List Nat) (i : Nat) : Nat := (ws.filter fun w => bitAt ms i w).length
def hiOf (ms ws : List Nat) (i : Nat) : Nat := (ws.filter fun w => !bitAt ms w i).length

def floatsAt (L : List Oper) (ms ws : List Nat) (st : Nat) : List Nat :=
  (List.range L.length).filter fun i => !(L[i]?).any (isEff P) && Nat.beq (loOf ms ws i) st

def stagesOf (L : List Oper) (ms all : List Nat) : List Nat → Nat → List (List Nat × Option Nat)
  | [], st => [(floatsAt P L ms all st, none)]
  | w :: r, st => (floatsAt P L ms all st, some w) :: stagesOf L ms all r (st + 1)

def srcOf (ms : List Nat) (i t : Nat) : List Oper → Nat → Option Nat
  | [], _ => none
  | o :: r, k => if o.dst == some t && bitAt ms i k then some k else srcOf ms i t r (k + 1)

/-- the slots that an operation looks at -/
def opReads (o : Op) : List Nat := o.operands.toList.filterMap fun | .tmp t => some t | _ => none

def evF (L : List Oper) (ms : List Nat) (e0 R : AEnv) (i : Nat) (rs : List Nat) : Operand → Option Value
  | .tmp t => cond (rs.contains t) (match srcOf ms i t L 0 with
    | some k => R.get k
    | none => e0.get t) none
  | x => ev gs [] x

structure Pd where
  hi : Nat
  chk : AHeap → Prop

def checks : List Pd → Nat → AHeap → Prop → Prop
  | [], _, _, p => p
  | d :: r, st, h, p => cond (Nat.ble st d.hi) (d.chk h ∧ checks r st h p) (checks r st h p)

def addPd (st hi : Nat) (chk : AHeap → Prop) (pend : List Pd) : List Pd := cond (Nat.blt st hi) (⟨hi, chk⟩ :: pend) pend

def floatK (ρ : Operand → Option Value) (i hi st : Nat) (op : Op) (R : AEnv) (pend : List Pd) (s : St) (k : AEnv → List Pd → St → Prop) : Prop :=
  match cls P op with
  | .pure => bnd (aPure P ρ op) fun v => k ((i, v) :: R) pend s
  | .read => bnd (aRead P ρ s.h op) fun v => k ((i, v) :: R) (addPd st hi (fun h => aRead P ρ h op = some v) pend) s
  | .alloc => bnd (aAlloc P ρ s.h.length op) fun p => k ((i, p.2) :: R) (addPd st hi (fun h => h[s.h.length]? = some p.1) pend) { s with h := s.h ++ [p.1] }
  | .eff => False

def guardF (g : Option Value) (want : Bool) (run : (AEnv → List Pd → St → Prop) → Prop) (i : Nat) (R : AEnv) (pend : List Pd) (s : St) (k : AEnv → List Pd → St → Prop) : Prop :=
  match g with
  | some (.bool b) => if b = want then run k else k ((i, undefV) :: R) pend s
  | some (.tuple _) => k ((i, undefV) :: R) pend s
  | _ => False

variable (L : List Oper) (ms ws : List Nat) (e0 : AEnv)

def floatsW (st : Nat) : List Nat → AEnv → List Pd → St → (AEnv → List Pd → St → Prop) → Prop
  | [], R, pend, s, k => k R pend s
  | i :: r, R, pend, s, k =>
    match L[i]? with
    | none => False
    | some o =>
      match o.guard with
      | none => floatK P (evF gs L ms e0 R i (opReads o.op)) i (hiOf ms ws i) st o.op R pend s fun R' pend' s' => floatsW st r R' pend' s' k
      | some (j, want) => guardF (R.get j) want (fun k' => floatK P (evF gs L ms e0 R i (opReads o.op)) i (hiOf ms ws i) st o.op R pend s k') i R pend s fun R' pend' s' => floatsW st r R' pend' s' k

def effK (i : Nat) (R : AEnv) (s : St) (next : Value → St → Prop) (pan : Chain → St → Prop) : Prop :=
  match L[i]? with
  | none => False
  | some o =>
    match o.guard with
    | none => opW P S (evF gs L ms e0 R i (opReads o.op)) o.op s next pan
    | some (j, want) => guardK (R.get j) want (fun nx => opW P S (evF gs L ms e0 R i (opReads o.op)) o.op s nx pan) s next

def stagesW : List (List Nat × Option Nat) → Nat → AEnv → List Pd → St → (AEnv → St → Prop) → (Chain → St → Prop) → Prop
  | [], _, R, _, s, k, _ => k R s
  | (fl, none) :: _, st, R, pend, s, k, _ => floatsW P gs L ms ws e0 st fl R pend s fun R' _ s' => k R' s'
  | (fl, some w) :: r, st, R, pend, s, k, pan => floatsW P gs L ms ws e0 st fl R pend s fun R' pend' s' =>
      effK P gs S L ms e0 w R' s' (fun v s'' => checks pend' (st + 1) s''.h (stagesW r (st + 1) ((w, v) :: R') pend' s'' k pan)) pan

def finishE (R : AEnv) : List Oper → Nat → AEnv → AEnv
  | [], _, e => e
  | o :: r, i, e => finishE R r (i + 1) (match o.dst with
    | some d => match R.get i with
      | some v => (d, v) :: e
      | none => e
    | none => e)

def dstsOf (L : List Oper) : List Nat := L.filterMap (·.dst)
def dropE (ds : List Nat) (e : AEnv) : AEnv := e.filter fun p => !ds.contains p.1

end

def drawW (P : Program) (gs : List Nat) (S : FSpec) (L : List Oper) (s : St) (k : St → Prop) (pan : Chain → St → Prop) : Prop :=
  stagesW P gs S L (masks L []) (effs P L) s.e (stagesOf P L (masks L []) (effs P L) (effs P L) 0) 0 [] [] s
    (fun R s' => k { s' with e := finishE R L 0 s.e }) (fun ch s' => pan ch { s' with e := dropE (dstsOf L) s.e })

/-! ## what is asked of such a region, once -/

def readsOf (L : List Oper) (o : Oper) : List Nat :=
  opReads o.op ++
  (match o.guard with
   | some (g, _) => match L[g]? with
     | some og => og.dst.toList
     | none => []
   | none => [])

def nodupB : List Nat → Bool
  | [] => true
  | x :: r => !r.contains x && nodupB r

def backB : List Oper → Nat → Bool
  | [], _ => true
  | o :: r, i => o.after.toList.all (fun e => !Region.binds .any e || Nat.blt e.on i) && backB r (i + 1)

def chainB (ms : List Nat) : List Nat → Bool
  | [] => true
  | w :: r => r.all (fun w' => bitAt ms w' w) && chainB ms r

def readsB (L : List Oper) (ms : List Nat) : Bool :=
  (List.range L.length).all fun i => (L[i]?).all fun o => (readsOf L o).all fun t =>
    (List.range L.length).all fun k => Nat.beq i k || (L[k]?).all fun o' => !(o'.dst == some t) || bitAt ms i k || bitAt ms k i

def guardsB (L : List Oper) (ms : List Nat) : Bool :=
  (List.range L.length).all fun i => (L[i]?).all fun o =>
    match o.guard with
    | none => true
    | some (g, _) => bitAt ms i g && (L[g]?).any (fun og => og.dst.isSome)

def tameB (P : Program) (n : Nat) (L : List Oper) : Bool :=
  backB L 0 && nodupB (dstsOf L) && (dstsOf L).all (fun d => Nat.blt d n) && chainB (masks L []) (effs P L) && readsB L (masks L []) && guardsB L (masks L [])

/-! ## the orders that may be drawn -/

/-- a list of operations still to come, each behind what stands before it -/
inductive Sched (L : List Oper) : (Nat → Prop) → List Nat → Prop
  | nil {D : Nat → Prop} : (∀ i, i < L.length → D i) → Sched L D []
  | cons {D : Nat → Prop} {i : Nat} {l : List Nat} {o : Oper} : L[i]? = some o → ¬ D i → (∀ e ∈ o.after.toList, Region.binds .any e = true → D e.on) →
      Sched L (fun x => x = i ∨ D x) l → Sched L D (i :: l)

theorem Sched.congr {L : List Oper} {D D' : Nat → Prop} {l : List Nat} (h : Sched L D l) (he : ∀ x, D x ↔ D' x) : Sched L D' l := by
  have : D = D' := funext fun x => propext (he x)
  rw [← this]; exact h

theorem backB_spec : ∀ {L : List Oper} {i0 : Nat}, backB L i0 = true → ∀ (i : Nat) (o : Oper), L[i]? = some o → ∀ e ∈ o.after.toList, Region.binds .any e = true → e.on < i0 + i
  | [], _, _, i, o, h, _, _, _ => by simp at h
  | o :: r, i0, hb, i, o', h, e, he, hbd => by
    simp only [backB, Bool.and_eq_true, List.all_eq_true] at hb
    cases i with
    | zero =>
      simp at h; subst h
      have := hb.1 e he
      simp only [hbd, Bool.not_true, Bool.false_or] at this
      rw [Nat.blt_eq] at this
      omega
    | succ i =>
      have := backB_spec hb.2 i o' (by simpa using h) e he hbd
      omega

def unlisted (ops : Array Oper) (listed : Array Bool) : List Nat := (List.range ops.size).filter fun i => !listed.getD i true

theorem sched_go (ops : Array Oper) (hback : ∀ (i : Nat) (o : Oper), ops[i]? = some o → ∀ e ∈ o.after.toList, Region.binds .any e = true → e.on < i) :
    ∀ (fuel t : Nat) (listed : Array Bool), listed.size = ops.size → (unlisted ops listed).length = fuel →
      Sched ops.toList (fun x => listed.getD x false = true) (Region.linearise.go .any ops fuel t listed []) := by
  intro fuel
  induction fuel with
  | zero =>
    intro t listed hs hu
    simp only [Region.linearise.go, List.reverse_nil]
    refine .nil fun i hi => ?_
    have hi' : i < ops.size := by simpa using hi
    have hnil : unlisted ops listed = [] := List.eq_nil_of_length_eq_zero hu
    have : i ∉ unlisted ops listed := by rw [hnil]; simp
    simp only [unlisted, List.mem_filter, List.mem_range, not_and, Bool.not_eq_true, Bool.not_eq_false'] at this
    have := this hi'
    have hl : i < listed.size := by omega
    simp only [Array.getD_eq_getD_getElem?, Array.getElem?_eq_getElem hl, Option.getD_some] at this ⊢
    exact this
  | succ fuel ih =>
    intro t listed hs hu
    simp only [Region.linearise.go]
    generalize hrs : ((List.range ops.size).filter fun i => !listed.getD i true && ((ops[i]?).map (·.after.all fun e => !Region.binds .any e || listed.getD e.on false)).getD false) = rs
    have hne : rs ≠ [] := by
      -- the least that isn't listed is ready
      have hex : ∃ i, i ∈ unlisted ops listed := by
        cases hh : unlisted ops listed with
        | nil => rw [hh] at hu; simp at hu
        | cons x l => exact ⟨x, by simp⟩
      have hleast : ∃ i, i ∈ unlisted ops listed ∧ ∀ k, k < i → k ∉ unlisted ops listed := by
        obtain ⟨i, hi⟩ := hex
        induction i using Nat.strongRecOn with
        | _ i ihi =>
          by_cases hk : ∃ k, k < i ∧ k ∈ unlisted ops listed
          · obtain ⟨k, hk1, hk2⟩ := hk; exact ihi k hk1 hk2
          · exact ⟨i, hi, fun k hk1 hk2 => hk ⟨k, hk1, hk2⟩⟩
      obtain ⟨i, hi, hmin⟩ := hleast
      intro hnil
      have : i ∈ rs := by
        rw [← hrs]
        simp only [unlisted, List.mem_filter, List.mem_range] at hi
        have hio : ops[i]? = some ops[i] := Array.getElem?_eq_getElem hi.1
        simp only [List.mem_filter, List.mem_range, Bool.and_eq_true]
        refine ⟨hi.1, hi.2, ?_⟩
        rw [hio]
        simp only [Option.map_some, Option.getD_some]
        rw [← Array.all_toList, List.all_eq_true]
        intro e he
        by_cases hb : Region.binds .any e = true
        · have hlt := hback i _ hio e he hb
          have hk := hmin e.on hlt
          simp only [unlisted, List.mem_filter, List.mem_range, not_and, Bool.not_eq_true, Bool.not_eq_false'] at hk
          have hk2 := hk (by omega)
          have hl : e.on < listed.size := by omega
          simp only [Array.getD_eq_getD_getElem?, Array.getElem?_eq_getElem hl, Option.getD_some] at hk2 ⊢
          simp [hk2]
        · simp [hb]
      rw [hnil] at this; simp at this
    have hlt : t % rs.length < rs.length := Nat.mod_lt _ (List.length_pos_iff.2 hne)
    rw [List.getElem?_eq_getElem hlt]
    simp only
    rw [linearise_go_acc, List.reverse_singleton, List.singleton_append]
    obtain ⟨i, hi⟩ : ∃ i, i = rs[t % rs.length] := ⟨_, rfl⟩
    rw [← hi]
    have hmem : i ∈ rs := by rw [hi]; exact List.getElem_mem hlt
    rw [← hrs] at hmem
    simp only [List.mem_filter, List.mem_range, Bool.and_eq_true] at hmem
    obtain ⟨m1, m2, m3⟩ := hmem
    have hio : ops[i]? = some ops[i] := Array.getElem?_eq_getElem m1
    rw [hio] at m3
    simp only [Option.map_some, Option.getD_some] at m3
    rw [← Array.all_toList, List.all_eq_true] at m3
    have hil : i < listed.size := by omega
    have hli : listed[i] = false := by
      simp only [Array.getD_eq_getD_getElem?, Array.getElem?_eq_getElem hil, Option.getD_some] at m2
      simpa using m2
    refine .cons (o := ops[i]) (by simp [m1]) ?_ ?_ ?_
    · simp only [Array.getD_eq_getD_getElem?, Array.getElem?_eq_getElem hil, Option.getD_some, hli]; simp
    · intro e he hb
      have := m3 e he
      simpa [hb] using this
    · refine (ih (t / rs.length) (listed.setIfInBounds i true) (by simpa using hs) ?_).congr ?_
      · -- one fewer
        have hsplit : (unlisted ops listed).length = (unlisted ops (listed.setIfInBounds i true)).length + 1 := by
          unfold unlisted
          have hnd := List.nodup_range (n := ops.size)
          have hmem : i ∈ List.range ops.size := by simpa using m1
          have h1 : ∀ k, k ∈ List.range ops.size → k ≠ i → (!(listed.setIfInBounds i true).getD k true) = (!listed.getD k true) := by
            intro k _ hki
            simp only [Array.getD_eq_getD_getElem?, Array.getElem?_setIfInBounds, Ne.symm hki, if_false]
          have h2 : (!(listed.setIfInBounds i true).getD i true) = false := by
            simp [Array.getD_eq_getD_getElem?, hil]
          have h3 : (!listed.getD i true) = true := m2
          generalize List.range ops.size = l at hnd hmem h1
          induction l with
          | nil => simp at hmem
          | cons x l ihl =>
            have hnd' := List.nodup_cons.1 hnd
            by_cases hx : x = i
            · subst hx
              rw [List.filter_cons, if_pos h3, List.filter_cons, if_neg (by rw [h2]; simp)]
              simp only [List.length_cons]
              congr 2
              apply List.filter_congr
              intro k hk
              exact (h1 k (List.mem_cons_of_mem _ hk) (fun e => hnd'.1 (e ▸ hk))).symm
            · have hmem' : i ∈ l := by
                rcases List.mem_cons.1 hmem with e | e
                · exact absurd e.symm hx
                · exact e
              have := ihl hnd'.2 hmem' (fun k hk hki => h1 k (List.mem_cons_of_mem _ hk) hki)
              have hx' := h1 x (by simp) hx
              rw [List.filter_cons, List.filter_cons, hx']
              split
              · simp only [List.length_cons, this]
              · exact this
        omega
      · intro x
        simp only [Array.getD_eq_getD_getElem?, Array.getElem?_setIfInBounds]
        by_cases hx : x = i
        · subst hx; simp [hil]
        · simp [hx, Ne.symm hx]

theorem sched_drawn {ops : Array Oper} (hb : backB ops.toList 0 = true) (t : Nat) : Sched ops.toList (fun _ => False) (Region.schedule true ops t) := by
  have hback : ∀ (i : Nat) (o : Oper), ops[i]? = some o → ∀ e ∈ o.after.toList, Region.binds .any e = true → e.on < i := by
    intro i o ho e he hbd
    have := backB_spec hb i o (by simpa using ho) e he hbd
    omega
  have := sched_go ops hback ops.size t (Array.replicate ops.size false) (by simp) (by
    unfold unlisted
    rw [List.filter_eq_self.2]
    · simp
    · intro i hi
      have : i < ops.size := by simpa using hi
      simp [Array.getD_eq_getD_getElem?, this])
  simp only [Region.schedule, Bool.true_or, if_true, Region.linearise]
  refine this.congr fun x => ?_
  simp only [Array.getD_eq_getD_getElem?]
  by_cases hx : x < ops.size <;> simp [hx]

/-! ## masks tell of the order -/

theorem maskOf_spec {acc : List Nat} {k : Nat} : ∀ {es : List Edge}, (maskOf acc es).testBit k = true →
    ∃ e ∈ es, Region.binds .any e = true ∧ (e.on = k ∨ (acc.getD e.on 0).testBit k = true)
  | [], h => by simp [maskOf] at h
  | e :: r, h => by
    unfold maskOf at h
    split at h
    · rename_i hb
      simp only [Nat.testBit_or, Bool.or_eq_true] at h
      rcases h with (h | h) | h
      · refine ⟨e, by simp, hb, .inl ?_⟩
        by_cases hk : e.on = k
        · exact hk
        · rw [Nat.testBit_two_pow_of_ne hk] at h; simp at h
      · exact ⟨e, by simp, hb, .inr h⟩
      · obtain ⟨e', h1, h2, h3⟩ := maskOf_spec h
        exact ⟨e', List.mem_cons_of_mem _ h1, h2, h3⟩
    · obtain ⟨e', h1, h2, h3⟩ := maskOf_spec h
      exact ⟨e', List.mem_cons_of_mem _ h1, h2, h3⟩

theorem masks_app : ∀ (L : List Oper) (acc : List Nat), ∃ t, masks L acc = acc ++ t ∧ t.length = L.length
  | [], acc => ⟨[], by simp [masks], rfl⟩
  | o :: r, acc => by
    obtain ⟨t, h1, h2⟩ := masks_app r (acc ++ [maskOf acc o.after.toList])
    exact ⟨maskOf acc o.after.toList :: t, by simp [masks, h1], by simp [h2]⟩

/-- a mask's bit is an edge away, or further -/
theorem masks_spec : ∀ (L : List Oper) (acc : List Nat) (i : Nat) (o : Oper) (k : Nat), L[i]? = some o →
    (∀ e ∈ o.after.toList, Region.binds .any e = true → e.on < acc.length + i) → ((masks L acc).getD (acc.length + i) 0).testBit k = true →
    ∃ e ∈ o.after.toList, Region.binds .any e = true ∧ (e.on = k ∨ ((masks L acc).getD e.on 0).testBit k = true)
  | [], _, i, o, k, h, _, _ => by simp at h
  | o :: r, acc, i, o', k, h, hb, ht => by
    cases i with
    | zero =>
      simp at h; subst h
      obtain ⟨t, h1, h2⟩ := masks_app r (acc ++ [maskOf acc o.after.toList])
      have hm : (masks (o :: r) acc).getD (acc.length + 0) 0 = maskOf acc o.after.toList := by
        simp only [masks, h1, List.append_assoc, Nat.add_zero]
        rw [List.getD_eq_getElem?_getD, List.getElem?_append_right (Nat.le_refl _)]; simp
      rw [hm] at ht
      obtain ⟨e, e1, e2, e3⟩ := maskOf_spec ht
      refine ⟨e, e1, e2, e3.imp id fun h => ?_⟩
      have hlt := hb e e1 e2
      have : (masks (o :: r) acc).getD e.on 0 = acc.getD e.on 0 := by
        simp only [masks, h1, List.append_assoc]
        rw [List.getD_eq_getElem?_getD, List.getElem?_append_left (by omega), ← List.getD_eq_getElem?_getD]
      rw [this]; exact h
    | succ i =>
      have := masks_spec r (acc ++ [maskOf acc o.after.toList]) i o' k (by simpa using h) (fun e he hbd => by have := hb e he hbd; simp; omega)
        (by simpa [masks, Nat.add_assoc, Nat.add_comm 1 i] using ht)
      simpa [masks] using this

/-- what has been done holds, with each operation, what stands before it -/
theorem closed_bit {L : List Oper} (hb : backB L 0 = true) {D : Nat → Prop} (hc : ∀ (i : Nat) (o : Oper), L[i]? = some o → D i → ∀ e ∈ o.after.toList, Region.binds .any e = true → D e.on) :
    ∀ (i : Nat) (o : Oper) (k : Nat), L[i]? = some o → (∀ e ∈ o.after.toList, Region.binds .any e = true → D e.on) → bitAt (masks L []) i k = true → D k := by
  intro i
  induction i using Nat.strongRecOn with
  | _ i ih =>
    intro o k ho hd hbit
    have hback := fun e he hbd => backB_spec hb i o ho e he hbd
    obtain ⟨e, e1, e2, e3⟩ := masks_spec L [] i o k ho (fun e he hbd => by have := hback e he hbd; simpa using this) (by simpa [bitAt] using hbit)
    have hlt := hback e e1 e2
    simp only [Nat.zero_add] at hlt
    rcases e3 with e3 | e3
    · subst e3; exact hd e e1 e2
    · have hil : i < L.length := (List.getElem?_eq_some_iff.1 ho).1
      have hoo : L[e.on]? = some L[e.on] := List.getElem?_eq_getElem (by omega)
      exact ih e.on hlt _ k hoo (fun e' h1 h2 => hc e.on _ hoo (hd e e1 e2) e' h1 h2) (by simpa [bitAt] using e3)

end Go.Fm

namespace Go.Fm

variable {P : Program}

/-! ## reads and new blocks -/

theorem app_get {h : AHeap} {b : Nat} {o : AObj} (hb : h[b]? = some o) (t : List AObj) : (h ++ t)[b]? = some o := by
  rw [List.getElem?_append_left (List.getElem?_eq_some_iff.1 hb).1]; exact hb

theorem aCells_app {h : AHeap} {a : Addr} {n : Nat} {l : List Value} (e : aCells h a n = some l) (t : List AObj) : aCells (h ++ t) a n = some l := by
  unfold aCells at e ⊢
  split at e
  · simp at e
  · rename_i hs
    rw [if_neg hs]
    split at e
    · rename_i c ro hc; rw [app_get hc t]; exact e
    · rename_i c ro hc; rw [app_get hc t]; exact e
    · simp at e

theorem aCell_app {h : AHeap} {a : Addr} {v : Value} (e : aCell h a = some v) (t : List AObj) : aCell (h ++ t) a = some v := by
  unfold aCell at e ⊢
  split at e
  · simp at e
  · rename_i hs
    rw [if_neg hs]
    split at e
    · rename_i c ro hc; rw [app_get hc t]; exact e
    · rename_i c ro hc; rw [app_get hc t]; exact e
    · simp at e

theorem aEntries_app {h : AHeap} {m : Value} {es : List MapEntry} (e : aEntries m h = some es) (t : List AObj) : aEntries m (h ++ t) = some es := by
  unfold aEntries at e ⊢
  split at e
  · exact e
  · split at e
    · rename_i es0 c hc; simp only [app_get hc t]; exact e
    · simp at e
  · simp at e

theorem aPlaceOk_app {h : AHeap} {b o : Nat} {t0 : TypeId} (e : aPlaceOk P b o t0 h = true) (t : List AObj) : aPlaceOk P b o t0 (h ++ t) = true := by
  unfold aPlaceOk at e ⊢
  split at e
  · rename_i c ro n hc hs; simp only [app_get hc t, hs]; exact e
  · rename_i c ty z n hc hs; simp only [app_get hc t, hs]; exact e
  · simp at e

theorem aRead_app {h : AHeap} {ρ : Operand → Option Value} {op : Op} {v : Value} (e : aRead P ρ h op = some v) (t : List AObj) : aRead P ρ (h ++ t) op = some v := by
  unfold aRead at e ⊢
  split at e
  · obtain ⟨a, ha, e⟩ := bind_some' e
    rw [ha, Option.bind_some]
    unfold aLoad at e ⊢
    split at e
    · split at e
      · obtain ⟨m, hm, e⟩ := bind_some' e
        rw [hm, Option.bind_some]
        obtain ⟨l, hl, e2⟩ := Option.map_eq_some_iff.1 e
        rw [aCells_app hl t]; simpa using e2
      · exact aCell_app e t
      · simp at e
    · simp at e
  · obtain ⟨a, ha, e⟩ := bind_some' e
    obtain ⟨k, hk, e⟩ := bind_some' e
    rw [ha, hk, Option.bind_some, Option.bind_some]
    unfold aLookup at e ⊢
    split at e
    · obtain ⟨es, hes, e⟩ := bind_some' e
      rw [aEntries_app hes t, Option.bind_some]; exact e
    · simp at e
  · obtain ⟨a, ha, e⟩ := bind_some' e
    rw [ha, Option.bind_some]
    unfold aConvRead at e ⊢
    split at e
    · split at e
      · exact e
      · split at e
        · rename_i hok; rw [if_pos (aPlaceOk_app hok t)]; exact e
        · simp at e
      · simp at e
    · split at e
      · exact e
      · split at e
        · rename_i c ty z n hc hs; simp only [app_get hc t, hs]; exact e
        · simp at e
      · simp at e
    · split at e
      · obtain ⟨l, hl, e⟩ := bind_some' e
        have : ∀ {v : Value} {n : Nat} {l : List Value}, aView 1 v n h = some l → aView 1 v n (h ++ t) = some l := by
          intro v n l hv
          unfold aView at hv ⊢
          split at hv
          · split at hv
            · rename_i hz; rw [if_pos hz]; exact hv
            · rename_i hz; rw [if_neg hz]
              split at hv
              · rename_i hle; rw [if_pos hle]; exact aCells_app hv t
              · simp at hv
          · exact hv
          · simp at hv
        rw [this hl, Option.bind_some]; exact e
      · simp at e
    · simp at e
  · split at e
    · obtain ⟨a, ha, e⟩ := bind_some' e
      rw [ha, Option.bind_some]
      unfold aLenMap at e ⊢
      split at e
      · obtain ⟨es, hes, e2⟩ := Option.map_eq_some_iff.1 e
        rw [aEntries_app hes t]; simpa using e2
      · simp at e
    · simp at e
  · simp at e

/-- a block that the machine makes late stands for an object that was there -/
theorem Sim.adopt {F : Nat → Nat → Prop} {w0 w w' : World} {j : Inj} {h : AHeap} (S : Sim F w0 j h w) {id : Nat} {ob : AObj} (hid : h[id]? = some ob) (hn : j id = none) {L : Loc}
    (hL : L.blk = w.heap.size) {x : Obj} (hio : Io w w') (hw : w'.heap = w.heap.push x) (ho : ObjR (j.put id L) L w' (some ob)) : Sim F w0 (j.put id L) h w' := by
  have hle : j.le (j.put id L) := Inj.put_le hn
  have hget : ∀ B, B < w.heap.size → w'.heap[B]? = w.heap[B]? := by
    intro B hB; rw [hw, Array.getElem?_push]; simp; omega
  have hput : ∀ b M, j.put id L b = some M → (b = id ∧ M = L) ∨ (b ≠ id ∧ j b = some M) := by
    intro b M e; unfold Inj.put at e; split at e
    · injection e with e; exact .inl ⟨‹_›, e.symm⟩
    · exact .inr ⟨‹_›, e⟩
  have hnewown : ∀ B y, owns L (some ob) B y → B = w.heap.size := by
    intro B y h'; unfold owns at h'; split at h'
    · exact h'.1.trans hL
    · rw [h', hL]
    · rw [h', hL]
    · rw [h', hL]
    · rw [h', hL]
    · rw [h', hL]
    · exact h'.elim
  refine ⟨S.io.trans hio, by rw [hw]; have := S.size; simp; omega, ?_, S.below, ?_, ?_, ?_, ?_⟩
  · intro B y hF
    have hB := S.below B y hF
    have hs := S.size
    have := S.kept B y hF
    unfold keptAt at this ⊢
    rw [hget B (by omega)]; exact this
  · intro b M e
    rcases hput b M e with ⟨rfl, _⟩ | ⟨_, hj⟩
    · exact (List.getElem?_eq_some_iff.1 hid).1
    · exact S.dom _ _ hj
  · intro b M e
    rcases hput b M e with ⟨rfl, rfl⟩ | ⟨_, hj⟩
    · rw [hid]; exact ho
    · have hob := S.obj _ _ hj
      revert hob; generalize h[b]? = o2; intro hob
      have key : ∀ {y : Obj}, w.heap[M.blk]? = some y → w'.heap[M.blk]? = w.heap[M.blk]? := fun h => hget _ (Array.getElem?_eq_some_iff.1 h).1
      match o2, hob with
      | some (.cells c2 ro2), ⟨d2, T2, f2, k1, k⟩ => exact ObjR.mono hle (ObjR.world (o := some (.cells c2 ro2)) (key k1) ⟨d2, T2, f2, k1, k⟩)
      | some (.tcells c2 t2 z2), ⟨d2, f2, k1, k⟩ => exact ObjR.mono hle (ObjR.world (o := some (.tcells c2 t2 z2)) (key k1) ⟨d2, f2, k1, k⟩)
      | some (.map es clock), ⟨es', k1, k⟩ => exact ObjR.mono hle (ObjR.world (o := some (.map es clock)) (key k1) ⟨es', k1, k⟩)
      | some (.mapIter _ _ _ _), ⟨k0, m', k1, k⟩ => exact ObjR.mono hle (ObjR.world (o := some (.mapIter _ _ _ _)) (key k1) ⟨k0, m', k1, k⟩)
      | some (.strIter _ _), ⟨k0, k1⟩ => exact ObjR.mono hle (ObjR.world (o := some (.strIter _ _)) (key k1) ⟨k0, k1⟩)
      | some (.spec x), ⟨k0, y, k1, k2⟩ => exact ObjR.mono hle (ObjR.world (o := some (.spec x)) (key k1) ⟨k0, y, k1, k2⟩)
      | some .dead, _ => trivial
      | none, hob => exact hob.elim
  · intro b M e hr B y hx hF
    have hB := S.below B y hF
    have hs := S.size
    rcases hput b M e with ⟨rfl, rfl⟩ | ⟨_, hj⟩
    · rw [hid] at hx
      have := hnewown B y hx; omega
    · exact S.own b M hj hr B y hx hF
  · intro b1 b2 L1 L2 hne e1 e2 hr B y h1 h2
    rcases hput b1 L1 e1 with ⟨rfl, rfl⟩ | ⟨hb1, hj1⟩
    · rcases hput b2 L2 e2 with ⟨rfl, rfl⟩ | ⟨hb2, hj2⟩
      · exact hne rfl
      · rw [hid] at h1
        have := hnewown B y h1
        have := (S.obj _ _ hj2).lt B y h2
        omega
    · rcases hput b2 L2 e2 with ⟨rfl, rfl⟩ | ⟨hb2, hj2⟩
      · rw [hid] at h2
        have := hnewown B y h2
        have := (S.obj _ _ hj1).lt B y h1
        omega
      · exact S.apart b1 b2 L1 L2 hne hj1 hj2 hr B y h1 h2

/-! ## what floats, once it has been done in the eager order -/

section
variable (P) (gs : List Nat) (L : List Oper) (ms ws : List Nat) (e0 : AEnv)

structure Fact (st : Nat) (R : AEnv) (pend : List Pd) (A : List (Nat × Nat)) (h : AHeap) (i : Nat) (o : Oper) (v : Value) (ρ : Operand → Option Value) : Prop where
  get : R.get i = some v
  sub : ∀ x u, ρ x = some u → evF gs L ms e0 R i (opReads o.op) x = some u
  how : (∃ g want u, o.guard = some (g, want) ∧ R.get g = some u ∧ offG u want ∧ v = undefV) ∨
    ((o.guard = none ∨ ∃ g want, o.guard = some (g, want) ∧ R.get g = some (.bool want)) ∧
      (aPure P ρ o.op = some v ∨
       (aRead P ρ h o.op = some v ∧ (hiOf ms ws i ≤ st ∨ ∃ pd ∈ pend, pd.hi = hiOf ms ws i ∧ ∀ h', pd.chk h' → aRead P ρ h' o.op = some v)) ∨
       (∃ id ob, (i, id) ∈ A ∧ aAlloc P ρ id o.op = some (ob, v) ∧ h[id]? = some ob ∧ (hiOf ms ws i ≤ st ∨ ∃ pd ∈ pend, pd.hi = hiOf ms ws i ∧ ∀ h', pd.chk h' → h'[id]? = some ob))))

def Sub (R R' : AEnv) : Prop := ∀ k v, R.get k = some v → R'.get k = some v

theorem evF_sub {R R' : AEnv} (h : Sub R R') {i : Nat} {rs : List Nat} {x : Operand} {u : Value} (e : evF gs L ms e0 R i rs x = some u) : evF gs L ms e0 R' i rs x = some u := by
  cases x with
  | tmp t =>
    simp only [evF] at e ⊢
    cases hc : rs.contains t with
    | false => rw [hc] at e; simp at e
    | true =>
      rw [hc] at e
      simp only [cond_true] at e ⊢
      cases hs : srcOf ms i t L 0 with
      | some k => rw [hs] at e; exact h _ _ e
      | none => rw [hs] at e; exact e
  | const c => exact e
  | global g => exact e
  | func f => exact e

theorem Fact.mono {P : Program} {gs : List Nat} {L : List Oper} {ms ws : List Nat} {e0 : AEnv} {st : Nat} {R R' : AEnv} {pend pend' : List Pd} {A A' : List (Nat × Nat)} {h : AHeap} {t : List AObj} {i : Nat} {o : Oper} {v : Value} {ρ : Operand → Option Value}
    (hf : Fact P gs L ms ws e0 st R pend A h i o v ρ) (hR : Sub R R') (hp : ∀ x ∈ pend, x ∈ pend') (hA : ∀ x ∈ A, x ∈ A') : Fact P gs L ms ws e0 st R' pend' A' (h ++ t) i o v ρ := by
  refine ⟨hR _ _ hf.get, fun x u hx => evF_sub gs L ms e0 hR (hf.sub x u hx), ?_⟩
  rcases hf.how with ⟨g, want, b, h1, h2, h3⟩ | ⟨h1, h2⟩
  · exact .inl ⟨g, want, b, h1, hR _ _ h2, h3⟩
  · refine .inr ⟨?_, ?_⟩
    · rcases h1 with h1 | ⟨g, want, h1, h3⟩
      · exact .inl h1
      · exact .inr ⟨g, want, h1, hR _ _ h3⟩
    · rcases h2 with h2 | ⟨h2, h3⟩ | ⟨id, ob, h2, h3, h4, h5⟩
      · exact .inl h2
      · refine .inr (.inl ⟨aRead_app h2 t, h3.imp _root_.id ?_⟩)
        rintro ⟨pd, q1, q2⟩; exact ⟨pd, hp _ q1, q2⟩
      · refine .inr (.inr ⟨id, ob, hA _ h2, h3, app_get h4 t, h5.imp _root_.id ?_⟩)
        rintro ⟨pd, q1, q2⟩; exact ⟨pd, hp _ q1, q2⟩

end

section
variable {gs : List Nat} {L : List Oper} {ms ws : List Nat} {e0 : AEnv}

theorem addPd_sub {st hi : Nat} {chk : AHeap → Prop} {pend : List Pd} : ∀ x ∈ pend, x ∈ addPd st hi chk pend := by
  intro x hx; unfold addPd
  cases Nat.blt st hi
  · exact hx
  · exact List.mem_cons_of_mem _ hx

theorem addPd_new (st hi : Nat) (chk : AHeap → Prop) (pend : List Pd) : hi ≤ st ∨ ∃ pd ∈ addPd st hi chk pend, pd.hi = hi ∧ ∀ h', pd.chk h' → chk h' := by
  by_cases h : st < hi
  · right
    have : Nat.blt st hi = true := by rw [Nat.blt_eq]; exact h
    exact ⟨⟨hi, chk⟩, by unfold addPd; rw [this]; simp, rfl, fun _ h => h⟩
  · left; omega

theorem Sub.cons {R : AEnv} {i : Nat} {v : Value} (h : R.get i = none) : Sub R ((i, v) :: R) := by
  intro k u hk
  rw [AEnv.get_cons]
  split
  · rename_i e; subst e; rw [h] at hk; simp at hk
  · exact hk

theorem Sub.trans {R R' R'' : AEnv} (h : Sub R R') (h' : Sub R' R'') : Sub R R'' := fun k v hk => h' k v (h k v hk)

/-- what a row of floating operations leaves -/
structure Floated (P : Program) (gs : List Nat) (L : List Oper) (ms ws : List Nat) (e0 : AEnv) (st : Nat) (fl : List Nat) (R : AEnv) (pend : List Pd) (s : St) (R' : AEnv) (pend' : List Pd) (s' : St) (A : List (Nat × Nat)) : Prop where
  sub : Sub R R'
  dom : ∀ i v, R'.get i = some v → (∃ u, R.get i = some u) ∨ i ∈ fl
  pend : ∀ x ∈ pend, x ∈ pend'
  e : s'.e = s.e
  ds : s'.ds = s.ds
  u : s'.u = s.u
  h : ∃ t, s'.h = s.h ++ t
  facts : ∀ i ∈ fl, ∃ o v ρ, L[i]? = some o ∧ Fact P gs L ms ws e0 st R' pend' A s'.h i o v ρ
  ids : ∀ p ∈ A, s.h.length ≤ p.2 ∧ p.2 < s'.h.length
  inj : ∀ p ∈ A, ∀ q ∈ A, p.2 = q.2 → p = q

/-- one floating operation in the eager order -/
theorem floatK_elim {ρ : Operand → Option Value} {i st : Nat} {o : Oper} {R : AEnv} {pend : List Pd} {s : St} {k : AEnv → List Pd → St → Prop} (ho : L[i]? = some o) (hn : R.get i = none)
    (hρ : ρ = evF gs L ms e0 R i (opReads o.op)) (hg : o.guard = none ∨ ∃ g want, o.guard = some (g, want) ∧ R.get g = some (.bool want))
    (h : floatK P ρ i (hiOf ms ws i) st o.op R pend s k) : ∃ R' pend' s' A, k R' pend' s' ∧ Floated P gs L ms ws e0 st [i] R pend s R' pend' s' A := by
  have hdom : ∀ (v : Value) (x : Nat) (u : Value), AEnv.get ((i, v) :: R) x = some u → (∃ u, R.get x = some u) ∨ x ∈ [i] := by
    intro v x u hx
    rw [AEnv.get_cons] at hx
    split at hx
    · rename_i e; subst e; right; simp
    · left; exact ⟨u, hx⟩
  have hgg : ∀ v : Value, (o.guard = none ∨ ∃ g want, o.guard = some (g, want) ∧ AEnv.get ((i, v) :: R) g = some (.bool want)) := by
    intro v; rcases hg with hg | ⟨g, want, h1, h2⟩
    · exact .inl hg
    · exact .inr ⟨g, want, h1, Sub.cons hn _ _ h2⟩
  have hsub : ∀ (v : Value) (x : Operand) (u : Value), ρ x = some u → evF gs L ms e0 ((i, v) :: R) i (opReads o.op) x = some u := by
    intro v x u hx; rw [hρ] at hx; exact evF_sub gs L ms e0 (Sub.cons hn) hx
  unfold floatK at h
  split at h
  · obtain ⟨v, hv, hk⟩ := bnd_some' h
    refine ⟨_, _, _, [], hk, Sub.cons hn, hdom v, fun x hx => hx, rfl, rfl, rfl, ⟨[], by simp⟩, ?_, by simp, by simp⟩
    intro x hx; simp at hx; subst hx
    exact ⟨o, v, ρ, ho, by rw [AEnv.get_cons]; simp, hsub v, .inr ⟨hgg v, .inl hv⟩⟩
  · obtain ⟨v, hv, hk⟩ := bnd_some' h
    refine ⟨_, _, _, [], hk, Sub.cons hn, hdom v, addPd_sub, rfl, rfl, rfl, ⟨[], by simp⟩, ?_, by simp, by simp⟩
    intro x hx; simp at hx; subst hx
    exact ⟨o, v, ρ, ho, by rw [AEnv.get_cons]; simp, hsub v, .inr ⟨hgg v, .inr (.inl ⟨hv, addPd_new _ _ _ _⟩)⟩⟩
  · obtain ⟨⟨ob, v⟩, hv, hk⟩ := bnd_some' h
    refine ⟨_, _, _, [(i, s.h.length)], hk, Sub.cons hn, hdom v, addPd_sub, rfl, rfl, rfl, ⟨[ob], rfl⟩, ?_, by simp, by simp⟩
    intro x hx; simp at hx; subst hx
    exact ⟨o, v, ρ, ho, by rw [AEnv.get_cons]; simp, hsub v, .inr ⟨hgg v, .inr (.inr ⟨s.h.length, ob, by simp, hv, by simp, addPd_new _ _ _ _⟩)⟩⟩
  · exact h.elim

theorem floatsW_elim {st : Nat} : ∀ {fl : List Nat} {R : AEnv} {pend : List Pd} {s : St} {k : AEnv → List Pd → St → Prop}, fl.Nodup → (∀ i ∈ fl, R.get i = none) →
    floatsW P gs L ms ws e0 st fl R pend s k → ∃ R' pend' s' A, k R' pend' s' ∧ Floated P gs L ms ws e0 st fl R pend s R' pend' s' A
  | [], R, pend, s, k, _, _, h => ⟨R, pend, s, [], h, fun _ _ h => h, fun i v h => .inl ⟨v, h⟩, fun _ h => h, rfl, rfl, rfl, ⟨[], by simp⟩, by simp, by simp, by simp⟩
  | i :: r, R, pend, s, k, hnd, hn, h => by
    simp only [floatsW] at h
    cases ho : L[i]? with
    | none => rw [ho] at h; exact h.elim
    | some o =>
      rw [ho] at h
      simp only at h
      have hni := hn i (by simp)
      have hone : ∃ R1 pend1 s1 A1, floatsW P gs L ms ws e0 st r R1 pend1 s1 k ∧ Floated P gs L ms ws e0 st [i] R pend s R1 pend1 s1 A1 := by
        split at h
        · rename_i hg
          exact floatK_elim ho hni rfl (.inl hg) h
        · rename_i g want hg
          unfold guardF at h
          split at h
          · rename_i b hb
            split at h
            · rename_i hbw
              subst hbw
              exact floatK_elim ho hni rfl (.inr ⟨g, _, hg, hb⟩) h
            · rename_i hbw
              refine ⟨_, _, _, [], h, Sub.cons hni, ?_, fun x hx => hx, rfl, rfl, rfl, ⟨[], by simp⟩, ?_, by simp, by simp⟩
              · intro x u hx
                rw [AEnv.get_cons] at hx
                split at hx
                · rename_i e; subst e; right; simp
                · left; exact ⟨u, hx⟩
              · intro x hx; simp at hx; subst hx
                exact ⟨o, undefV, fun _ => none, ho, by rw [AEnv.get_cons]; simp, by simp, .inl ⟨g, want, _, hg, Sub.cons hni _ _ hb, .inl ⟨b, rfl, hbw⟩, rfl⟩⟩
          · rename_i y hb
            refine ⟨_, _, _, [], h, Sub.cons hni, ?_, fun x hx => hx, rfl, rfl, rfl, ⟨[], by simp⟩, ?_, by simp, by simp⟩
            · intro x u hx
              rw [AEnv.get_cons] at hx
              split at hx
              · rename_i e; subst e; right; simp
              · left; exact ⟨u, hx⟩
            · intro x hx; simp at hx; subst hx
              exact ⟨o, undefV, fun _ => none, ho, by rw [AEnv.get_cons]; simp, by simp, .inl ⟨g, want, _, hg, Sub.cons hni _ _ hb, .inr ⟨y, rfl⟩, rfl⟩⟩
          · exact h.elim
      obtain ⟨R1, pend1, s1, A1, h1, F1⟩ := hone
      have hnd' := List.nodup_cons.1 hnd
      have hn1 : ∀ x ∈ r, R1.get x = none := by
        intro x hx
        cases hq : R1.get x with
        | none => rfl
        | some u =>
          rcases F1.dom x u hq with ⟨u', hu'⟩ | hm
          · rw [hn x (List.mem_cons_of_mem _ hx)] at hu'; simp at hu'
          · simp at hm; subst hm; exact absurd hx hnd'.1
      obtain ⟨R2, pend2, s2, A2, h2, F2⟩ := floatsW_elim hnd'.2 hn1 h1
      obtain ⟨t1, ht1⟩ := F1.h
      obtain ⟨t2, ht2⟩ := F2.h
      refine ⟨R2, pend2, s2, A1 ++ A2, h2, F1.sub.trans F2.sub, ?_, fun x hx => F2.pend _ (F1.pend _ hx), F2.e.trans F1.e, F2.ds.trans F1.ds, F2.u.trans F1.u, ⟨t1 ++ t2, by rw [ht2, ht1, List.append_assoc]⟩, ?_, ?_, ?_⟩
      · intro x u hx
        rcases F2.dom x u hx with ⟨u', hu'⟩ | hm
        · rcases F1.dom x u' hu' with h' | h'
          · exact .inl h'
          · right; simp at h'; subst h'; simp
        · right; exact List.mem_cons_of_mem _ hm
      · intro x hx
        rcases List.mem_cons.1 hx with e | e
        · subst e
          obtain ⟨o', v, ρ, q1, q2⟩ := F1.facts x (by simp)
          refine ⟨o', v, ρ, q1, ?_⟩
          rw [ht2]
          exact q2.mono F2.sub F2.pend (fun p hp => List.mem_append_left _ hp)
        · obtain ⟨o', v, ρ, q1, q2⟩ := F2.facts x e
          refine ⟨o', v, ρ, q1, ?_⟩
          have := q2.mono (t := []) (fun _ _ h => h) (fun _ h => h) (fun p hp => List.mem_append_right A1 hp)
          simpa using this
      · intro p hp
        have hl1 : s.h.length ≤ s1.h.length := by rw [ht1]; simp
        have hl2 : s1.h.length ≤ s2.h.length := by rw [ht2]; simp
        rcases List.mem_append.1 hp with hp | hp
        · have := F1.ids p hp; omega
        · have := F2.ids p hp; omega
      · intro p hp q hq hpq
        rcases List.mem_append.1 hp with hp | hp
        · rcases List.mem_append.1 hq with hq | hq
          · exact F1.inj p hp q hq hpq
          · have := F1.ids p hp; have := F2.ids q hq; omega
        · rcases List.mem_append.1 hq with hq | hq
          · have := F2.ids p hp; have := F1.ids q hq; omega
          · exact F2.inj p hp q hq hpq

theorem checks_elim : ∀ {pend : List Pd} {st : Nat} {h : AHeap} {p : Prop}, checks pend st h p → p ∧ ∀ pd ∈ pend, st ≤ pd.hi → pd.chk h
  | [], _, _, _, hc => ⟨hc, by simp⟩
  | d :: r, st, h, p, hc => by
    simp only [checks] at hc
    cases hb : Nat.ble st d.hi with
    | true =>
      rw [hb] at hc
      simp only [cond_true] at hc
      obtain ⟨q1, q2⟩ := checks_elim hc.2
      refine ⟨q1, fun pd hpd hle => ?_⟩
      rcases List.mem_cons.1 hpd with e | e
      · subst e; exact hc.1
      · exact q2 pd e hle
    | false =>
      rw [hb] at hc
      simp only [cond_false] at hc
      obtain ⟨q1, q2⟩ := checks_elim hc
      refine ⟨q1, fun pd hpd hle => ?_⟩
      rcases List.mem_cons.1 hpd with e | e
      · subst e
        have : Nat.ble st pd.hi = true := by rw [Nat.ble_eq]; exact hle
        rw [hb] at this; simp at this
      · exact q2 pd e hle

theorem srcOf_some : ∀ {L : List Oper} {ms : List Nat} {i t k0 k : Nat}, srcOf ms i t L k0 = some k → ∃ o, L[k - k0]? = some o ∧ k0 ≤ k ∧ o.dst = some t ∧ bitAt ms i k = true
  | [], _, _, _, _, _, h => by simp [srcOf] at h
  | o :: r, ms, i, t, k0, k, h => by
    unfold srcOf at h
    split at h
    · rename_i hc
      simp at h; subst h
      simp only [Bool.and_eq_true, beq_iff_eq] at hc
      exact ⟨o, by simp, Nat.le_refl _, hc.1, hc.2⟩
    · obtain ⟨o', h1, h2, h3⟩ := srcOf_some h
      refine ⟨o', ?_, by omega, h3⟩
      rw [show k - k0 = (k - (k0 + 1)) + 1 by omega]; simpa using h1

theorem srcOf_none : ∀ {L : List Oper} {ms : List Nat} {i t k0 : Nat}, srcOf ms i t L k0 = none → ∀ (k : Nat) (o : Oper), L[k]? = some o → o.dst = some t → bitAt ms i (k0 + k) = false
  | [], _, _, _, _, _, k, o, h, _ => by simp at h
  | o :: r, ms, i, t, k0, hn, k, o', h, hd => by
    unfold srcOf at hn
    split at hn
    · simp at hn
    · rename_i hc
      cases k with
      | zero =>
        simp at h; subst h
        simp only [hd, BEq.rfl, Bool.true_and, Bool.not_eq_true] at hc
        simpa using hc
      | succ k =>
        have := srcOf_none hn k o' (by simpa using h) hd
        rw [show k0 + (k + 1) = k0 + 1 + k by omega]; exact this

end
end Go.Fm

namespace Go.Fm

variable {P : Program}

theorem nodup_of : ∀ {l : List Nat}, nodupB l = true → l.Nodup
  | [], _ => List.nodup_nil
  | x :: r, h => by
    simp only [nodupB, Bool.and_eq_true, Bool.not_eq_true', List.contains_eq_mem, decide_eq_false_iff_not] at h
    exact List.nodup_cons.2 ⟨h.1, nodup_of h.2⟩

structure Tame (P : Program) (n : Nat) (L : List Oper) : Prop where
  back : backB L 0 = true
  nodup : (dstsOf L).Nodup
  small : ∀ d ∈ dstsOf L, d < n
  chain : chainB (masks L []) (effs P L) = true
  reads : ∀ (i : Nat) (o : Oper), L[i]? = some o → ∀ t ∈ opReads o.op, ∀ (k : Nat) (o' : Oper), k ≠ i → L[k]? = some o' → o'.dst = some t → bitAt (masks L []) i k = true ∨ bitAt (masks L []) k i = true
  guards : ∀ (i : Nat) (o : Oper), L[i]? = some o → ∀ g want, o.guard = some (g, want) → bitAt (masks L []) i g = true ∧ ∃ og d, L[g]? = some og ∧ og.dst = some d

theorem tame_of {n : Nat} {L : List Oper} (h : tameB P n L = true) : Tame P n L := by
  simp only [tameB, Bool.and_eq_true] at h
  obtain ⟨⟨⟨⟨⟨h1, h2⟩, h3⟩, h4⟩, h5⟩, h6⟩ := h
  refine ⟨h1, nodup_of h2, ?_, h4, ?_, ?_⟩
  · intro d hd
    have := (List.all_eq_true.1 h3) d hd
    rw [Nat.blt_eq] at this; exact this
  · intro i o ho t ht k o' hki hk hdst
    simp only [readsB, List.all_eq_true, List.mem_range] at h5
    have hi : i < L.length := (List.getElem?_eq_some_iff.1 ho).1
    have hkl : k < L.length := (List.getElem?_eq_some_iff.1 hk).1
    have := h5 i hi
    rw [ho] at this
    simp only [Option.all_some, List.all_eq_true, List.mem_range] at this
    have := this t (by unfold readsOf; exact List.mem_append_left _ ht) k hkl
    rw [hk] at this
    simp only [Option.all_some, hdst, BEq.rfl, Bool.not_true, Bool.false_or, Bool.or_eq_true] at this
    rcases this with h | h | h
    · exact absurd (Nat.eq_of_beq_eq_true h).symm hki
    · exact .inl h
    · exact .inr h
  · intro i o ho g want hg
    simp only [guardsB, List.all_eq_true, List.mem_range] at h6
    have hi : i < L.length := (List.getElem?_eq_some_iff.1 ho).1
    have := h6 i hi
    rw [ho] at this
    simp only [Option.all_some, hg, Bool.and_eq_true] at this
    refine ⟨this.1, ?_⟩
    cases hog : L[g]? with
    | none => rw [hog] at this; simp at this
    | some og =>
      rw [hog] at this
      simp only [Option.any_some] at this
      obtain ⟨d, hd⟩ := Option.isSome_iff_exists.1 this.2
      exact ⟨og, d, rfl, hd⟩

theorem dst_unique {L : List Oper} (hnd : (dstsOf L).Nodup) {i k : Nat} {o o' : Oper} {d : Nat} (hi : L[i]? = some o) (hk : L[k]? = some o') (h1 : o.dst = some d) (h2 : o'.dst = some d) : i = k := by
  induction L generalizing i k with
  | nil => simp at hi
  | cons x r ih =>
    have hmem : ∀ (m : Nat) (y : Oper), r[m]? = some y → y.dst = some d → d ∈ dstsOf r := by
      intro m y hm hy
      exact List.mem_filterMap.2 ⟨y, List.mem_of_getElem? hm, hy⟩
    cases i with
    | zero =>
      simp at hi; subst hi
      cases k with
      | zero => rfl
      | succ k =>
        exfalso
        simp only [dstsOf, List.filterMap_cons, h1] at hnd
        exact (List.nodup_cons.1 hnd).1 (hmem k o' (by simpa using hk) h2)
    | succ i =>
      cases k with
      | zero =>
        exfalso
        simp at hk; subst hk
        simp only [dstsOf, List.filterMap_cons, h2] at hnd
        exact (List.nodup_cons.1 hnd).1 (hmem i o (by simpa using hi) h1)
      | succ k =>
        have hnd' : (dstsOf r).Nodup := by
          unfold dstsOf at hnd ⊢
          rw [List.filterMap_cons] at hnd
          split at hnd
          · exact hnd
          · exact (List.nodup_cons.1 hnd).2
        have hi' : r[i]? = some o := by simpa using hi
        have hk' : r[k]? = some o' := by simpa using hk
        rw [ih hnd' hi' hk']

section
variable (P)
/-- where the eager order stands: all that floats at this stage is done -/
def CanonRest (gs : List Nat) (S : FSpec) (L : List Oper) (ms ws : List Nat) (e0 : AEnv) (wr : List Nat) (st : Nat) (R : AEnv) (pend : List Pd) (s : St) (k : AEnv → St → Prop) (pan : Chain → St → Prop) : Prop :=
  match wr with
  | [] => k R s
  | w :: wr' => effK P gs S L ms e0 w R s (fun v s'' => checks pend (st + 1) s''.h (stagesW P gs S L ms ws e0 (stagesOf P L ms ws wr' (st + 1)) (st + 1) ((w, v) :: R) pend s'' k pan)) pan
end

theorem floatsAt_nodup (P : Program) (L : List Oper) (ms ws : List Nat) (st : Nat) : (floatsAt P L ms ws st).Nodup := List.Nodup.sublist List.filter_sublist List.nodup_range

theorem mem_floatsAt {L : List Oper} {ms ws : List Nat} {st i : Nat} : i ∈ floatsAt P L ms ws st ↔ ∃ o, L[i]? = some o ∧ isEff P o = false ∧ loOf ms ws i = st := by
  unfold floatsAt
  simp only [List.mem_filter, List.mem_range, Bool.and_eq_true, Bool.not_eq_true']
  constructor
  · rintro ⟨h1, h2, h3⟩
    refine ⟨L[i], List.getElem?_eq_getElem h1, ?_, Nat.eq_of_beq_eq_true h3⟩
    rw [List.getElem?_eq_getElem h1] at h2; simpa using h2
  · rintro ⟨o, h1, h2, h3⟩
    refine ⟨(List.getElem?_eq_some_iff.1 h1).1, by rw [h1]; simpa using h2, by rw [h3]; exact Nat.beq_refl _⟩

theorem mem_effs {L : List Oper} {i : Nat} : i ∈ effs P L ↔ ∃ o, L[i]? = some o ∧ isEff P o = true := by
  unfold effs
  simp only [List.mem_filter, List.mem_range]
  constructor
  · rintro ⟨h1, h2⟩
    rw [List.getElem?_eq_getElem h1] at h2
    exact ⟨L[i], List.getElem?_eq_getElem h1, by simpa using h2⟩
  · rintro ⟨o, h1, h2⟩
    exact ⟨(List.getElem?_eq_some_iff.1 h1).1, by rw [h1]; simpa using h2⟩

theorem stages_rest {gs : List Nat} {S : FSpec} {L : List Oper} {ms ws : List Nat} {e0 : AEnv} {wr : List Nat} {st : Nat} {R : AEnv} {pend : List Pd} {s : St} {k : AEnv → St → Prop} {pan : Chain → St → Prop}
    (hn : ∀ i ∈ floatsAt P L ms ws st, R.get i = none) (h : stagesW P gs S L ms ws e0 (stagesOf P L ms ws wr st) st R pend s k pan) :
    ∃ R' pend' s' A, CanonRest P gs S L ms ws e0 wr st R' pend' s' k pan ∧ Floated P gs L ms ws e0 st (floatsAt P L ms ws st) R pend s R' pend' s' A := by
  cases wr with
  | nil => exact floatsW_elim (floatsAt_nodup P L ms ws st) hn h
  | cons w r => exact floatsW_elim (floatsAt_nodup P L ms ws st) hn h

theorem chain_bit {ms : List Nat} : ∀ {l : List Nat}, chainB ms l = true → ∀ {a b c : List Nat} {x y : Nat}, l = a ++ x :: b ++ y :: c → bitAt ms y x = true
  | [], _, a, b, c, x, y, h => by simp at h
  | z :: r, hc, a, b, c, x, y, h => by
    simp only [chainB, Bool.and_eq_true, List.all_eq_true] at hc
    cases a with
    | nil =>
      simp at h
      obtain ⟨h1, h2⟩ := h
      subst h1
      exact hc.1 y (by rw [h2]; simp)
    | cons a0 a =>
      simp at h
      obtain ⟨h1, h2⟩ := h
      exact chain_bit hc.2 (a := a) (b := b) (c := c) (by simp [h2])

theorem filter_prefix_le {α : Type} (p : α → Bool) : ∀ (a b : List α), (∀ x ∈ b, p x = false) → ((a ++ b).filter p).length ≤ a.length := by
  intro a b hb
  rw [List.filter_append]
  have : b.filter p = [] := List.filter_eq_nil_iff.2 (fun x hx => by simp [hb x hx])
  rw [this, List.append_nil]
  exact List.length_filter_le _ _

theorem filter_prefix_ge {α : Type} (p : α → Bool) : ∀ (a b : List α), (∀ x ∈ a, p x = true) → a.length ≤ ((a ++ b).filter p).length := by
  intro a b ha
  rw [List.filter_append, List.filter_eq_self.2 ha]
  simp

/-- objects that no block stands for yet -/
theorem Sim.more {F : Nat → Nat → Prop} {w0 w : World} {j : Inj} {h : AHeap} (S : Sim F w0 j h w) (t : List AObj) : Sim F w0 j (h ++ t) w := by
  have hget : ∀ b M, j b = some M → (h ++ t)[b]? = h[b]? := fun b M e => List.getElem?_append_left (S.dom b M e)
  refine ⟨S.io, S.size, S.kept, S.below, fun b M e => by have := S.dom b M e; simp; omega, fun b M e => ?_, fun b M e => ?_, fun b b' M M' hne e e' => ?_⟩
  · rw [hget b M e]; exact S.obj b M e
  · rw [hget b M e]; exact S.own b M e
  · rw [hget b M e, hget b' M' e']; exact S.apart b b' M M' hne e e'

/-- between two steps of a drawn order -/
structure Inv (P : Program) (X : Cx) (L : List Oper) (e0 : AEnv) (D : Nat → Prop) (done wr : List Nat) (R : AEnv) (pend : List Pd) (A : List (Nat × Nat)) (s : St) (j : Inj) (a : Act) (cs : List Frame) (w : World) : Prop where
  ws : effs P L = done ++ wr
  closed : ∀ (i : Nat) (o : Oper), L[i]? = some o → D i → ∀ e ∈ o.after.toList, Region.binds .any e = true → D e.on
  eff : ∀ x ∈ effs P L, D x ↔ x ∈ done
  floatR : ∀ (i : Nat) (o : Oper), L[i]? = some o → isEff P o = false → loOf (masks L []) (effs P L) i ≤ done.length → ∃ v, R.get i = some v
  fact : ∀ (i : Nat) (o : Oper), L[i]? = some o → isEff P o = false → loOf (masks L []) (effs P L) i ≤ done.length → ¬ D i →
    ∃ v ρ, Fact P X.gs L (masks L []) (effs P L) e0 done.length R pend A s.h i o v ρ
  doneR : ∀ x ∈ done, ∃ v, R.get x = some v
  domR : ∀ i v, R.get i = some v → i ∈ done ∨ ∃ o, L[i]? = some o ∧ isEff P o = false ∧ loOf (masks L []) (effs P L) i ≤ done.length
  ids : ∀ p ∈ A, ¬ D p.1 → j p.2 = none ∧ X.h0.length ≤ p.2 ∧ p.2 < s.h.length
  inj : ∀ p ∈ A, ∀ q ∈ A, p.2 = q.2 → p = q
  vals : ∀ (i : Nat) (o : Oper) (v : Value), D i → L[i]? = some o → R.get i = some v → ∀ d, o.dst = some d → ∃ v', a.tmps[d]? = some v' ∧ VR j v v'
  rest : ∀ t v, e0.get t = some v → (∀ (i : Nat) (o : Oper), D i → L[i]? = some o → o.dst ≠ some t) → ∃ v', a.tmps[t]? = some v' ∧ VR j v v'
  size : a.tmps.size = X.n
  rel : RelM X j s a.defers cs w
  env : s.e = e0

section
variable {X : Cx} {L : List Oper} {e0 : AEnv} {D : Nat → Prop} {done wr : List Nat} {R : AEnv} {pend : List Pd} {A : List (Nat × Nat)} {s : St} {j : Inj} {a : Act} {cs : List Frame} {w : World}

theorem Inv.bit (T : Tame P X.n L) (I : Inv P X L e0 D done wr R pend A s j a cs w) {i : Nat} {o : Oper} (ho : L[i]? = some o) (hp : ∀ e ∈ o.after.toList, Region.binds .any e = true → D e.on) {k : Nat}
    (hb : bitAt (masks L []) i k = true) : D k := closed_bit T.back I.closed i o k ho hp hb

theorem Inv.lo (T : Tame P X.n L) (I : Inv P X L e0 D done wr R pend A s j a cs w) (hnd : (effs P L).Nodup) {i : Nat} {o : Oper} (ho : L[i]? = some o) (hp : ∀ e ∈ o.after.toList, Region.binds .any e = true → D e.on) :
    loOf (masks L []) (effs P L) i ≤ done.length := by
  unfold loOf
  rw [I.ws]
  refine filter_prefix_le _ _ _ fun x hx => ?_
  cases hb : bitAt (masks L []) i x with
  | false => rfl
  | true =>
    exfalso
    have hD := I.bit T ho hp hb
    have hxw : x ∈ effs P L := by rw [I.ws]; exact List.mem_append_right _ hx
    have := (I.eff x hxw).1 hD
    rw [I.ws] at hnd
    exact (List.nodup_append.1 hnd).2.2 x this x hx rfl

/-- the operands of an operation that may be done now -/
theorem Inv.operands (T : Tame P X.n L) (I : Inv P X L e0 D done wr R pend A s j a cs w) {i : Nat} {o : Oper} (ho : L[i]? = some o) (hni : ¬ D i) (hp : ∀ e ∈ o.after.toList, Region.binds .any e = true → D e.on) :
    RR j (evF X.gs L (masks L []) e0 R i (opReads o.op)) a.eval := by
  intro x v hx
  cases x with
  | tmp t =>
    simp only [evF] at hx
    cases hc : (opReads o.op).contains t with
    | false => rw [hc] at hx; simp at hx
    | true =>
      rw [hc] at hx
      simp only [cond_true] at hx
      have ht : t ∈ opReads o.op := by simpa using hc
      have key : ∃ v', a.tmps[t]? = some v' ∧ VR j v v' := by
        cases hs : srcOf (masks L []) i t L 0 with
        | some k =>
          rw [hs] at hx
          simp only at hx
          obtain ⟨ok, h1, _, h2, h3⟩ := srcOf_some hs
          exact I.vals k ok v (I.bit T ho hp h3) (by simpa using h1) hx t h2
        | none =>
          rw [hs] at hx
          simp only at hx
          refine I.rest t v hx fun k ok hk hok hd => ?_
          have hki : k ≠ i := fun e => hni (e ▸ hk)
          rcases T.reads i o ho t ht k ok hki hok hd with hb | hb
          · have := srcOf_none hs k ok hok hd
            rw [Nat.zero_add] at this
            rw [this] at hb; simp at hb
          · exact hni (I.bit T hok (I.closed k ok hok hk) hb)
      obtain ⟨v', h1, h2⟩ := key
      simpa [Act.eval, Array.getD_eq_getD_getElem?, h1] using h2
  | const c =>
    have hx' : ev X.gs [] (.const c) = some v := hx
    simp only [ev] at hx'
    split at hx'
    · rename_i hf; injection hx' with hx'; subst hx'; exact (flatB_flat hf).vr j
    · simp at hx'
  | global g =>
    have hx' : ev X.gs [] (.global g) = some v := hx
    simp only [ev] at hx'
    split at hx'
    · rename_i hgg
      injection hx' with hx'; subst hx'
      obtain ⟨Lc, h1, h2, h3⟩ := I.rel.glob g (by simpa using hgg)
      have := VR.ptr (j := j) (o := 0) h1
      rw [h2, h3] at this
      exact this
    · simp at hx'
  | func f =>
    have hx' : ev X.gs [] (.func f) = some v := hx
    simp only [ev] at hx'
    injection hx' with hx'; subst hx'
    exact .func f rfl (by simp) rfl (by simp)

theorem Inv.guard (T : Tame P X.n L) (I : Inv P X L e0 D done wr R pend A s j a cs w) {ops : Array Oper} (hops : ops.toList = L) {i : Nat} {o : Oper} (ho : L[i]? = some o) (hp : ∀ e ∈ o.after.toList, Region.binds .any e = true → D e.on)
    {g : Nat} {want b : Bool} (hg : o.guard = some (g, want)) (hb : R.get g = some (.bool b)) : Region.wanted o (yielded ops a.tmps) = (b == want) := by
  obtain ⟨h1, og, d, h2, h3⟩ := T.guards i o ho g want hg
  obtain ⟨v', h4, h5⟩ := I.vals g og _ (I.bit T ho hp h1) h2 hb d h3
  have hog : ops[g]? = some og := by rw [← Array.getElem?_toList, hops]; exact h2
  cases h5
  simp [Region.wanted, hg, yielded, hog, h3, h4]

theorem Inv.guardOff (T : Tame P X.n L) (I : Inv P X L e0 D done wr R pend A s j a cs w) {ops : Array Oper} (hops : ops.toList = L) {i : Nat} {o : Oper} (ho : L[i]? = some o) (hp : ∀ e ∈ o.after.toList, Region.binds .any e = true → D e.on)
    {g : Nat} {want : Bool} {u : Value} (hg : o.guard = some (g, want)) (hb : R.get g = some u) (hu : offG u want) : Region.wanted o (yielded ops a.tmps) = false := by
  rcases hu with ⟨b, rfl, hbw⟩ | ⟨x, rfl⟩
  · rw [I.guard T hops ho hp hg hb]
    cases b <;> cases want <;> simp_all
  · obtain ⟨h1, og, d, h2, h3⟩ := T.guards i o ho g want hg
    obtain ⟨v', h4, h5⟩ := I.vals g og _ (I.bit T ho hp h1) h2 hb d h3
    have hog : ops[g]? = some og := by rw [← Array.getElem?_toList, hops]; exact h2
    cases h5
    simp [Region.wanted, hg, yielded, hog, h3, h4]

/-- the state behind a step that floats -/
theorem Inv.floated (T : Tame P X.n L) (I : Inv P X L e0 D done wr R pend A s j a cs w) {i : Nat} {o : Oper} (ho : L[i]? = some o) (hne : isEff P o = false) (hni : ¬ D i) (hp : ∀ e ∈ o.after.toList, Region.binds .any e = true → D e.on)
    {v v' : Value} (hv : R.get i = some v) {j' : Inj} {w' : World} (hj : j.le j') (hvv : VR j' v v') (hrel : RelM X j' s a.defers cs w') (hids : ∀ p ∈ A, ¬ D p.1 → p.1 ≠ i → j' p.2 = none) :
    Inv P X L e0 (fun x => x = i ∨ D x) done wr R pend A s j' (a.put o.dst v') cs w' := by
  have hput : ∀ t v0, (∃ u, a.tmps[t]? = some u ∧ VR j v0 u) → o.dst ≠ some t → ∃ u, (a.put o.dst v').tmps[t]? = some u ∧ VR j' v0 u := by
    rintro t v0 ⟨u, h1, h2⟩ hd
    refine ⟨u, ?_, h2.mono hj⟩
    cases hdst : o.dst with
    | none => simpa [Act.put] using h1
    | some d =>
      have : d ≠ t := by intro e; subst e; exact hd hdst
      simp [Act.put, this, h1]
  refine ⟨I.ws, ?_, ?_, I.floatR, ?_, I.doneR, I.domR, ?_, I.inj, ?_, ?_, ?_, ?_, I.env⟩
  · intro x ox hx hD e he hbd
    rcases hD with rfl | hD
    · rw [ho] at hx; injection hx with hx; subst hx; exact .inr (hp e he hbd)
    · exact .inr (I.closed x ox hx hD e he hbd)
  · intro x hx
    constructor
    · rintro (rfl | hD)
      · obtain ⟨o', h1, h2⟩ := mem_effs.1 hx
        rw [ho] at h1; injection h1 with h1; subst h1; rw [hne] at h2; simp at h2
      · exact (I.eff x hx).1 hD
    · intro hd; exact .inr ((I.eff x hx).2 hd)
  · intro x ox hx h1 h2 h3
    exact I.fact x ox hx h1 h2 (fun h => h3 (.inr h))
  · intro p hpm hnd
    have hD : ¬ D p.1 := fun h => hnd (.inr h)
    have := I.ids p hpm hD
    exact ⟨hids p hpm hD (fun e => hnd (.inl e)), this.2⟩
  · intro x ox u hD hx hu d hd
    by_cases hxi : x = i
    · subst hxi
      rw [ho] at hx; injection hx with hx; subst hx
      rw [hv] at hu; injection hu with hu; subst hu
      have hdn : d < X.n := T.small d (List.mem_filterMap.2 ⟨o, List.mem_of_getElem? ho, hd⟩)
      refine ⟨v', ?_, hvv⟩
      simp [Act.put, hd, I.size, hdn]
    · have hD' : D x := by rcases hD with h | h; exact absurd h hxi; exact h
      refine hput d u (I.vals x ox u hD' hx hu d hd) fun he => hxi ?_
      exact dst_unique T.nodup hx ho hd he
  · intro t u hu hno
    refine hput t u (I.rest t u hu fun x ox hx hox => hno x ox (.inr hx) hox) (hno i o (.inl rfl) ho)
  · cases hdst : o.dst with
    | none => simpa [Act.put] using I.size
    | some d => simpa [Act.put] using I.size
  · have : (a.put o.dst v').defers = a.defers := by cases o.dst <;> rfl
    rw [this]; exact hrel

/-- what floats and has been done in the eager order goes the same way now -/
theorem Inv.float_step (T : Tame P X.n L) (I : Inv P X L e0 D done wr R pend A s j a cs w) (hnd : (effs P L).Nodup) {ops : Array Oper} (hops : ops.toList = L) {i : Nat} {o : Oper} (ho : L[i]? = some o) (hne : isEff P o = false)
    (hni : ¬ D i) (hp : ∀ e ∈ o.after.toList, Region.binds .any e = true → D e.on) {rest : List Nat} {k : List Item} {G : Machine → Prop}
    (hgo : ∀ j' a' w', Inv P X L e0 (fun x => x = i ∨ D x) done wr R pend A s j' a' cs w' → Ends P G (lone (Fm.mk X.b a' (.inRegion ops rest :: k)) cs w')) :
    Ends P G (lone (Fm.mk X.b a (.inRegion ops (i :: rest) :: k)) cs w) := by
  have hio : ops[i]? = some o := by rw [← Array.getElem?_toList, hops]; exact ho
  obtain ⟨v, ρ, hf⟩ := I.fact i o ho hne (I.lo T hnd ho hp) hni
  have hops' := I.operands T ho hni hp
  have hr : RR j ρ a.eval := fun x u hx => hops' x u (hf.sub x u hx)
  have hnd' : ∀ c, o.op ≠ .defer c := by
    intro c hc; simp [isEff, hc, cls] at hne
  rcases hf.how with ⟨g, want, u, h1, h2, h3, h4⟩ | ⟨h1, h2⟩
  · subst h4
    have hw' : Region.wanted o (yielded ops a.tmps) = false := I.guardOff T hops ho hp h1 h2 h3
    have hstep := st_opSkip (P := P) (b := X.b) (a := a) (k := k) (cs := cs) (w := w) (ops := ops) (i := i) (rest := rest) (by rw [hio]; simpa using hw')
    rw [hio] at hstep
    simp only [Option.bind_some] at hstep
    refine .step hstep (hgo j _ w (I.floated T ho hne hni hp hf.get (j' := j) (v' := undef) j.le_refl (VR.tuple' .nil) I.rel fun p hpm hD _ => (I.ids p hpm hD).1))
  · have hw : Region.wanted o (yielded ops a.tmps) = true := by
      rcases h1 with h1 | ⟨g, want, h1, h3⟩
      · simp [Region.wanted, h1]
      · rw [I.guard T hops ho hp h1 h3]; simp
    rcases h2 with h2 | ⟨h2, _⟩ | ⟨id, ob, hA, h2, h3, _⟩
    · obtain ⟨v', q1, q2⟩ := aPure_sim hr o h2
      exact .step (st_value hio hw (.inr hnd') (q2 w) rfl) (hgo j _ w (I.floated T ho hne hni hp hf.get j.le_refl q1 I.rel fun p hpm hD _ => (I.ids p hpm hD).1))
    · obtain ⟨v', q1, q2⟩ := aRead_sim I.rel.sim hr o h2
      exact .step (st_value hio hw (.inr hnd') q2 rfl) (hgo j _ w (I.floated T ho hne hni hp hf.get j.le_refl q1 I.rel fun p hpm hD _ => (I.ids p hpm hD).1))
    · obtain ⟨v', w', q1, hIo, Lc, x, q2, q3, q4, q5⟩ := aAlloc_sim hr o h2 w
      obtain ⟨i1, i2, i3⟩ := I.ids (i, id) hA hni
      simp only at i1 i2 i3
      have hle : j.le (j.put id Lc) := Inj.put_le i1
      have S' := I.rel.sim.adopt h3 i1 q3 hIo q2 (q4 _ hle)
      have hext : j.ext X.h0.length (j.put id Lc) := Inj.put_ext i1 i2
      have hrel : RelM X (j.put id Lc) s a.defers cs w' :=
        ⟨S', I.rel.ds.mono hle, I.rel.um.mono hle, I.rel.callers, I.rel.norm, I.rel.glob.mono hle, Inj.ext_trans I.rel.ext (Nat.le_refl _) hext, I.rel.len⟩
      refine .step (st_value hio hw (.inr hnd') q1 rfl) (hgo _ _ w' (I.floated T ho hne hni hp hf.get hle (q5 _ hle (Inj.put_same _ _ _)) hrel fun p hpm hD hpi => ?_))
      have hpid : p.2 ≠ id := by
        intro e
        have := I.inj p hpm (i, id) hA e
        rw [this] at hpi; exact hpi rfl
      unfold Inj.put; rw [if_neg hpid]; exact (I.ids p hpm hD).1

/-- the state behind an effect, once what floats behind it has been done in the eager order -/
theorem Inv.effected (T : Tame P X.n L) {wd : Nat} (I : Inv P X L e0 D done (wd :: wr) R pend A s j a cs w) (hnd : (effs P L).Nodup) {o : Oper} (ho : L[wd]? = some o) (hie : isEff P o = true) (hni : ¬ D wd)
    (hp : ∀ e ∈ o.after.toList, Region.binds .any e = true → D e.on) {v v' : Value} {s1 s2 : St} {j' : Inj} {df' : List Deferred} {cs' : List Frame} {w' : World} {R' : AEnv} {pend' : List Pd} {A' : List (Nat × Nat)}
    (hext : j.ext s.h.length j') (hlen : s.h.length ≤ s1.h.length) (hrel : RelM X j' s1 df' cs' w') (he1 : s1.e = s.e) (hvv : VR j' v v')
    (hchk : ∀ pd ∈ pend, done.length + 1 ≤ pd.hi → pd.chk s1.h)
    (hF : Floated P X.gs L (masks L []) (effs P L) e0 (done.length + 1) (floatsAt P L (masks L []) (effs P L) (done.length + 1)) ((wd, v) :: R) pend s1 R' pend' s2 A') :
    Inv P X L e0 (fun x => x = wd ∨ D x) (done ++ [wd]) wr R' pend' (A.filter (fun p => p.2 < s.h.length) ++ A') s2 j' (Act.put ⟨a.tmps, df'⟩ o.dst v') cs' w' := by
  have hwn : R.get wd = none := by
    cases hq : R.get wd with
    | none => rfl
    | some u =>
      exfalso
      rcases I.domR wd u hq with h | ⟨o', h1, h2, _⟩
      · exact hni ((I.eff wd (by rw [I.ws]; simp)).2 h)
      · rw [ho] at h1; injection h1 with h1; subst h1; rw [hie] at h2; simp at h2
  have hsub : Sub R R' := (Sub.cons hwn).trans hF.sub
  have hRw : R'.get wd = some v := hF.sub wd v (by rw [AEnv.get_cons]; simp)
  have hdl : (done ++ [wd]).length = done.length + 1 := by simp
  obtain ⟨t2, ht2⟩ := hF.h
  -- what still floats is not before what has been done
  have hhi : ∀ i, ¬ (i = wd ∨ D i) → done.length + 1 ≤ hiOf (masks L []) (effs P L) i := by
    intro i hi
    unfold hiOf
    rw [I.ws, show done ++ wd :: wr = (done ++ [wd]) ++ wr by simp, ← hdl]
    refine filter_prefix_ge _ _ _ fun x hx => ?_
    simp only [Bool.not_eq_true']
    cases hb : bitAt (masks L []) x i with
    | false => rfl
    | true =>
      exfalso
      rcases List.mem_append.1 hx with hx | hx
      · have hxw : x ∈ effs P L := by rw [I.ws]; exact List.mem_append_left _ hx
        have hDx := (I.eff x hxw).2 hx
        obtain ⟨ox, q1, _⟩ := mem_effs.1 hxw
        exact hi (.inr (I.bit T q1 (I.closed x ox q1 hDx) hb))
      · simp at hx; subst hx
        exact hi (.inr (I.bit T ho hp hb))
  have hput : ∀ t v0, (∃ u, a.tmps[t]? = some u ∧ VR j v0 u) → o.dst ≠ some t → ∃ u, (Act.put ⟨a.tmps, df'⟩ o.dst v').tmps[t]? = some u ∧ VR j' v0 u := by
    rintro t v0 ⟨u, h1, h2⟩ hd
    refine ⟨u, ?_, h2.mono hext.1⟩
    cases hdst : o.dst with
    | none => simpa [Act.put] using h1
    | some d =>
      have : d ≠ t := by intro e; subst e; exact hd hdst
      simp [Act.put, this, h1]
  have heff : ∀ x ∈ effs P L, (x = wd ∨ D x) ↔ x ∈ done ++ [wd] := by
    intro x hx
    rw [List.mem_append, List.mem_singleton, I.eff x hx]
    exact ⟨fun h => h.symm, fun h => h.symm⟩
  refine ⟨by rw [I.ws]; simp, ?_, heff, ?_, ?_, ?_, ?_, ?_, ?_, ?_, ?_, ?_, ?_, ?_⟩
  · intro x ox hx hD e he hbd
    rcases hD with rfl | hD
    · rw [ho] at hx; injection hx with hx; subst hx; exact .inr (hp e he hbd)
    · exact .inr (I.closed x ox hx hD e he hbd)
  · intro x ox hx h1 h2
    rw [hdl] at h2
    rcases Nat.lt_or_ge done.length (loOf (masks L []) (effs P L) x) with hlt | hge
    · obtain ⟨ox', v0, ρ, q1, q2⟩ := hF.facts x (mem_floatsAt.2 ⟨ox, hx, h1, by omega⟩)
      exact ⟨v0, q2.get⟩
    · obtain ⟨v0, q⟩ := I.floatR x ox hx h1 hge
      exact ⟨v0, hsub _ _ q⟩
  · intro x ox hx h1 h2 h3
    rw [hdl] at h2 ⊢
    rcases Nat.lt_or_ge done.length (loOf (masks L []) (effs P L) x) with hlt | hge
    · obtain ⟨ox', v0, ρ, q1, q2⟩ := hF.facts x (mem_floatsAt.2 ⟨ox, hx, h1, by omega⟩)
      rw [hx] at q1; injection q1 with q1; subst q1
      have := q2.mono (t := []) (fun _ _ h => h) (fun _ h => h) (fun p hp => List.mem_append_right (A.filter (fun p => p.2 < s.h.length)) hp)
      exact ⟨v0, ρ, by simpa using this⟩
    · have hDx : ¬ D x := fun h => h3 (.inr h)
      obtain ⟨v0, ρ, q⟩ := I.fact x ox hx h1 hge hDx
      have hh := hhi x h3
      refine ⟨v0, ρ, ?_⟩
      -- the same fact behind the effect
      have q' : Fact P X.gs L (masks L []) (effs P L) e0 (done.length + 1) R pend (A.filter (fun p => p.2 < s.h.length)) s1.h x ox v0 ρ := by
        refine ⟨q.get, q.sub, ?_⟩
        rcases q.how with h | ⟨h, h'⟩
        · exact .inl h
        · refine .inr ⟨h, ?_⟩
          rcases h' with h' | ⟨h', h''⟩ | ⟨id, ob, g1, g2, g3, g4⟩
          · exact .inl h'
          · rcases h'' with h'' | ⟨pd, p1, p2, p3⟩
            · omega
            · exact .inr (.inl ⟨p3 _ (hchk pd p1 (by omega)), .inr ⟨pd, p1, p2, p3⟩⟩)
          · rcases g4 with g4 | ⟨pd, p1, p2, p3⟩
            · omega
            · have := (I.ids (x, id) g1 hDx).2.2
              refine .inr (.inr ⟨id, ob, List.mem_filter.2 ⟨g1, by simpa using this⟩, g2, p3 _ (hchk pd p1 (by omega)), .inr ⟨pd, p1, p2, p3⟩⟩)
      rw [ht2]
      exact q'.mono hsub hF.pend (fun p hp => List.mem_append_left _ hp)
  · intro x hx
    rcases List.mem_append.1 hx with hx | hx
    · obtain ⟨u, hu⟩ := I.doneR x hx; exact ⟨u, hsub _ _ hu⟩
    · simp at hx; subst hx; exact ⟨v, hRw⟩
  · intro x u hu
    rw [hdl]
    rcases hF.dom x u hu with ⟨u', hu'⟩ | hm
    · rw [AEnv.get_cons] at hu'
      split at hu'
      · rename_i e; subst e; left; simp
      · rcases I.domR x u' hu' with h | ⟨ox, h1, h2, h3⟩
        · left; exact List.mem_append_left _ h
        · right; exact ⟨ox, h1, h2, by omega⟩
    · obtain ⟨ox, h1, h2, h3⟩ := mem_floatsAt.1 hm
      right; exact ⟨ox, h1, h2, by omega⟩
  · intro p hpm hnD
    have hs2 : s1.h.length ≤ s2.h.length := by rw [ht2]; simp
    have hD : ¬ D p.1 := fun h => hnD (.inr h)
    rcases List.mem_append.1 hpm with hpm | hpm
    · have hpA := (List.mem_filter.1 hpm).1
      have := I.ids p hpA hD
      exact ⟨by rw [hext.2 p.2 this.2.2]; exact this.1, this.2.1, by omega⟩
    · have := hF.ids p hpm
      refine ⟨?_, by have := I.rel.len; omega, this.2⟩
      cases hj : j' p.2 with
      | none => rfl
      | some Lc => have := hrel.sim.dom _ _ hj; omega
  · intro p hp1 q hq1 hpq
    rcases List.mem_append.1 hp1 with hp1 | hp1
    · have hpl : p.2 < s.h.length := by simpa using (List.mem_filter.1 hp1).2
      rcases List.mem_append.1 hq1 with hq1 | hq1
      · exact I.inj p (List.mem_filter.1 hp1).1 q (List.mem_filter.1 hq1).1 hpq
      · have := hF.ids q hq1; omega
    · rcases List.mem_append.1 hq1 with hq1 | hq1
      · have hql : q.2 < s.h.length := by simpa using (List.mem_filter.1 hq1).2
        have := hF.ids p hp1; omega
      · exact hF.inj p hp1 q hq1 hpq
  · intro x ox u hD hx hu d hd
    by_cases hxi : x = wd
    · subst hxi
      rw [ho] at hx; injection hx with hx; subst hx
      rw [hRw] at hu; injection hu with hu; subst hu
      have hdn : d < X.n := T.small d (List.mem_filterMap.2 ⟨o, List.mem_of_getElem? ho, hd⟩)
      refine ⟨v', ?_, hvv⟩
      simp [Act.put, hd, I.size, hdn]
    · have hD' : D x := by rcases hD with h | h; exact absurd h hxi; exact h
      -- it was known before
      have hRx : R.get x = some u := by
        by_cases hie' : isEff P ox = true
        · obtain ⟨u', hu'⟩ := I.doneR x ((I.eff x (mem_effs.2 ⟨ox, hx, hie'⟩)).1 hD')
          have := hsub _ _ hu'; rw [hu] at this; injection this with this; rw [this]; exact hu'
        · have hne : isEff P ox = false := by simpa using hie'
          obtain ⟨u', hu'⟩ := I.floatR x ox hx hne (I.lo T hnd hx (I.closed x ox hx hD'))
          have := hsub _ _ hu'; rw [hu] at this; injection this with this; rw [this]; exact hu'
      refine hput d u (I.vals x ox u hD' hx hRx d hd) fun he => hxi ?_
      exact dst_unique T.nodup hx ho hd he
  · intro t u hu hno
    exact hput t u (I.rest t u hu fun x ox hx hox => hno x ox (.inr hx) hox) (hno wd o (.inl rfl) ho)
  · cases hdst : o.dst with
    | none => simpa [Act.put] using I.size
    | some d => simpa [Act.put] using I.size
  · have : (Act.put ⟨a.tmps, df'⟩ o.dst v').defers = df' := by cases o.dst <;> rfl
    rw [this]
    refine ⟨?_, ?_, ?_, hrel.callers, ?_, hrel.glob, hrel.ext, ?_⟩
    · rw [ht2]
      exact Sim.more hrel.sim t2
    · rw [hF.ds]; exact hrel.ds
    · rw [hF.u]; exact hrel.um
    · rw [hF.u]; exact hrel.norm
    · rw [ht2]; have := hrel.len; simp; omega
  · rw [hF.e, he1, I.env]

end
end Go.Fm

namespace Go.Fm

variable {P : Program}

theorem finishE_get {R : AEnv} : ∀ {L : List Oper} {i0 : Nat} {e : AEnv} {t : Nat} {v : Value}, (finishE R L i0 e).get t = some v →
    (∃ (i : Nat) (o : Oper), L[i]? = some o ∧ o.dst = some t ∧ R.get (i0 + i) = some v) ∨ (e.get t = some v ∧ ∀ (i : Nat) (o : Oper), L[i]? = some o → o.dst = some t → R.get (i0 + i) = none)
  | [], i0, e, t, v, h => .inr ⟨h, fun i o hi => by simp at hi⟩
  | o :: r, i0, e, t, v, h => by
    simp only [finishE] at h
    rcases finishE_get h with ⟨i, oi, h1, h2, h3⟩ | ⟨h1, h2⟩
    · left; exact ⟨i + 1, oi, by simpa using h1, h2, by rw [show i0 + (i + 1) = i0 + 1 + i by omega]; exact h3⟩
    · have hrest : ∀ (i : Nat) (oi : Oper), (o :: r)[i + 1]? = some oi → oi.dst = some t → R.get (i0 + (i + 1)) = none := by
        intro i oi hi hd
        have := h2 i oi (by simpa using hi) hd
        rw [show i0 + (i + 1) = i0 + 1 + i by omega]; exact this
      cases hd : o.dst with
      | none =>
        rw [hd] at h1
        right; refine ⟨h1, fun i oi hi hdi => ?_⟩
        cases i with
        | zero => simp at hi; subst hi; rw [hd] at hdi; simp at hdi
        | succ i => exact hrest i oi hi hdi
      | some d =>
        rw [hd] at h1
        simp only at h1
        cases hR : R.get i0 with
        | none =>
          rw [hR] at h1
          right; refine ⟨h1, fun i oi hi hdi => ?_⟩
          cases i with
          | zero => simp at hi; subst hi; simpa using hR
          | succ i => exact hrest i oi hi hdi
        | some u =>
          rw [hR] at h1
          simp only [AEnv.get_cons] at h1
          split at h1
          · rename_i hdt
            injection h1 with h1; subst h1
            left; exact ⟨0, o, by simp, by rw [hd, hdt], by simpa using hR⟩
          · rename_i hdt
            right; refine ⟨h1, fun i oi hi hdi => ?_⟩
            cases i with
            | zero => simp at hi; subst hi; rw [hd] at hdi; injection hdi with hdi; exact absurd hdi hdt
            | succ i => exact hrest i oi hi hdi

theorem dropE_get {ds : List Nat} : ∀ {e : AEnv} {t : Nat} {v : Value}, (dropE ds e).get t = some v → e.get t = some v ∧ t ∉ ds
  | [], t, v, h => by simp [dropE, AEnv.get] at h
  | (a, u) :: r, t, v, h => by
    unfold dropE at h
    rw [List.filter_cons] at h
    split at h
    · rename_i hc
      rw [AEnv.get_cons] at h ⊢
      split at h
      · rename_i hat
        subst hat
        rw [if_pos rfl]
        exact ⟨h, by simpa using hc⟩
      · rename_i hat
        rw [if_neg hat]
        exact dropE_get (e := r) h
    · rename_i hc
      have := dropE_get (e := r) h
      rw [AEnv.get_cons]
      have hne : a ≠ t := by
        intro e; subst e
        simp at hc; exact this.2 hc
      rw [if_neg hne]; exact this

theorem isEff_or (o : Oper) : isEff P o = true ∨ isEff P o = false := by cases isEff P o <;> simp

/-- a drawn order, from any point on -/
theorem draw_run {X : Cx} {L : List Oper} {e0 : AEnv} (T : Tame P X.n L) {ops : Array Oper} (hops : ops.toList = L) {k : List Item} {G : Machine → Prop} {kk : AEnv → St → Prop} {pan : Chain → St → Prop}
    (hK : ∀ R s j a cs w, kk R s → (∀ t v, (finishE R L 0 e0).get t = some v → ∃ v', a.tmps[t]? = some v' ∧ VR j v v') → a.tmps.size = X.n → RelM X j s a.defers cs w → Ends P G (lone (mk X.b a k) cs w))
    (hP : ∀ ch s j ch' a cs w k', pan ch s → s.e = e0 → (∀ t v, (dropE (dstsOf L) e0).get t = some v → ∃ v', a.tmps[t]? = some v' ∧ VR j v v') → a.tmps.size = X.n → RelM X j s a.defers cs w → ChR j ch ch' →
      Ends P G (lone { mk X.b a k' with mode := .panicking ch' } cs w)) :
    ∀ (τ : List Nat) (D : Nat → Prop), Sched L D τ → ∀ (done wr : List Nat) (R : AEnv) (pend : List Pd) (A : List (Nat × Nat)) (s : St) (j : Inj) (a : Act) (cs : List Frame) (w : World),
      Inv P X L e0 D done wr R pend A s j a cs w → CanonRest P X.gs (SpecC P X.gs) L (masks L []) (effs P L) e0 wr done.length R pend s kk pan →
      Ends P G (lone (mk X.b a (.inRegion ops τ :: k)) cs w) := by
  have hnd : (effs P L).Nodup := List.Nodup.sublist List.filter_sublist List.nodup_range
  intro τ
  induction τ with
  | nil =>
    intro D hS done wr R pend A s j a cs w I hC
    cases hS with
    | nil hall =>
      have hwr : wr = [] := by
        cases wr with
        | nil => rfl
        | cons x r =>
          exfalso
          have hx : x ∈ effs P L := by rw [I.ws]; simp
          obtain ⟨ox, h1, _⟩ := mem_effs.1 hx
          have hd := (I.eff x hx).1 (hall x (List.getElem?_eq_some_iff.1 h1).1)
          rw [I.ws] at hnd
          exact (List.nodup_append.1 hnd).2.2 x hd x (by simp) rfl
      subst hwr
      refine .step st_regionEnd (hK R s j a cs w hC ?_ I.size I.rel)
      intro t v ht
      rcases finishE_get ht with ⟨i, o, h1, h2, h3⟩ | ⟨h1, h2⟩
      · rw [Nat.zero_add] at h3
        exact I.vals i o v (hall i (List.getElem?_eq_some_iff.1 h1).1) h1 h3 t h2
      · refine I.rest t v h1 fun i o hi ho hd => ?_
        have := h2 i o ho hd
        rw [Nat.zero_add] at this
        -- everything has been done
        rcases isEff_or (P := P) o with he | he
        · obtain ⟨u, hu⟩ := I.doneR i ((I.eff i (mem_effs.2 ⟨o, ho, he⟩)).1 hi)
          rw [this] at hu; simp at hu
        · obtain ⟨u, hu⟩ := I.floatR i o ho he (I.lo T hnd ho (I.closed i o ho hi))
          rw [this] at hu; simp at hu
  | cons i τ ih =>
    intro D hS done wr R pend A s j a cs w I hC
    cases hS with
    | cons ho hni hp hS' =>
      rename_i o
      have hio : ops[i]? = some o := by rw [← Array.getElem?_toList, hops]; exact ho
      rcases isEff_or (P := P) o with he | he
      · -- an effect: it is the next one of the chain
        have hiw : i ∈ effs P L := mem_effs.2 ⟨o, ho, he⟩
        have hidone : i ∉ done := fun h => hni ((I.eff i hiw).2 h)
        have hiwr : i ∈ wr := by
          have := hiw; rw [I.ws] at this
          rcases List.mem_append.1 this with h | h
          · exact absurd h hidone
          · exact h
        cases wr with
        | nil => simp at hiwr
        | cons x r =>
          have hxi : x = i := by
            rcases List.mem_cons.1 hiwr with e | e
            · exact e.symm
            · exfalso
              obtain ⟨b, c, hbc⟩ := List.append_of_mem e
              have hbit := chain_bit T.chain (a := done) (b := b) (c := c) (x := x) (y := i) (by rw [I.ws, hbc]; simp)
              have hDx := I.bit T ho hp hbit
              have hxw : x ∈ effs P L := by rw [I.ws]; simp
              have := (I.eff x hxw).1 hDx
              rw [I.ws] at hnd
              exact (List.nodup_append.1 hnd).2.2 x this x (by simp) rfl
          subst hxi
          simp only [CanonRest, effK, ho] at hC
          have hRR := I.operands T ho hni hp
          -- what comes behind the effect
          have hnext : ∀ v s1 j' v' df' cs' w', checks pend (done.length + 1) s1.h
                (stagesW P X.gs (SpecC P X.gs) L (masks L []) (effs P L) e0 (stagesOf P L (masks L []) (effs P L) r (done.length + 1)) (done.length + 1) ((x, v) :: R) pend s1 kk pan) →
              s1.e = s.e → j.ext s.h.length j' → s.h.length ≤ s1.h.length → RelM X j' s1 df' cs' w' → VR j' v v' →
              Ends P G (lone (mk X.b (Act.put ⟨a.tmps, df'⟩ o.dst v') (.inRegion ops τ :: k)) cs' w') := by
            intro v s1 j' v' df' cs' w' hchk he1 hext hlen hrel hvv
            obtain ⟨hst, hch⟩ := checks_elim hchk
            have hwn : ∀ y ∈ floatsAt P L (masks L []) (effs P L) (done.length + 1), AEnv.get ((x, v) :: R) y = none := by
              intro y hy
              obtain ⟨oy, y1, y2, y3⟩ := mem_floatsAt.1 hy
              rw [AEnv.get_cons]
              have hyx : x ≠ y := by
                intro e; subst e; rw [ho] at y1; injection y1 with y1; subst y1; rw [he] at y2; simp at y2
              rw [if_neg hyx]
              cases hq : R.get y with
              | none => rfl
              | some u =>
                exfalso
                rcases I.domR y u hq with h | ⟨o2, _, _, h3⟩
                · have hyw : y ∈ effs P L := by rw [I.ws]; exact List.mem_append_left _ h
                  obtain ⟨o2, h1, h2⟩ := mem_effs.1 hyw
                  rw [y1] at h1; injection h1 with h1; subst h1; rw [y2] at h2; simp at h2
                · omega
            obtain ⟨R', pend', s2, A', hC', hF⟩ := stages_rest hwn hst
            have I' := I.effected T hnd ho he hni hp hext hlen hrel he1 hvv hch hF
            exact ih _ hS' (done ++ [x]) r R' pend' _ s2 j' _ cs' w' I' (by simpa using hC')
          have hpan : ∀ ch s1 j' ch' w', pan ch s1 → s1.e = s.e → j.ext s.h.length j' → RelM X j' s1 a.defers cs w' → ChR j' ch ch' →
              Ends P G (lone { mk X.b a (.inRegion ops (x :: τ) :: k) with mode := .panicking ch' } cs w') := by
            intro ch s1 j' ch' w' hp1 he1 hext hrel hch
            refine hP ch s1 j' ch' a cs w' _ hp1 (he1.trans I.env) ?_ I.size hrel hch
            intro t v ht
            obtain ⟨h1, h2⟩ := dropE_get ht
            obtain ⟨v', q1, q2⟩ := I.rest t v h1 fun y oy _ hy hd => h2 (List.mem_filterMap.2 ⟨oy, List.mem_of_getElem? hy, hd⟩)
            exact ⟨v', q1, q2.mono hext.1⟩
          have hopW : ∀ (hw : Region.wanted o (yielded ops a.tmps) = true),
              opW P (SpecC P X.gs) (evF X.gs L (masks L []) e0 R x (opReads o.op)) o.op s (fun v s'' => checks pend (done.length + 1) s''.h
                (stagesW P X.gs (SpecC P X.gs) L (masks L []) (effs P L) e0 (stagesOf P L (masks L []) (effs P L) r (done.length + 1)) (done.length + 1) ((x, v) :: R) pend s'' kk pan)) pan →
              Ends P G (lone (mk X.b a (.inRegion ops (x :: τ) :: k)) cs w) := by
            intro hw hop
            exact opW_sound I.rel hRR hio hw hop ⟨fun v s' j' v' df' cs' w' hn he hx hl hr hv => hnext v s' j' v' df' cs' w' hn he hx hl hr hv, fun ch s' j' ch' w' h1 h2 h3 h4 h5 => hpan ch s' j' ch' w' h1 h2 h3 h4 h5⟩
          split at hC
          · rename_i hg
            exact hopW (by simp [Region.wanted, hg]) hC
          · rename_i g want hg
            unfold guardK at hC
            split at hC
            · rename_i b hb
              have hw := I.guard T hops ho hp hg hb
              split at hC
              · rename_i hbw; subst hbw
                exact hopW (by rw [hw]; simp) hC
              · rename_i hbw
                have hw' : Region.wanted o (yielded ops a.tmps) = false := by rw [hw]; cases b <;> cases want <;> simp_all
                have hstep := st_opSkip (P := P) (b := X.b) (a := a) (k := k) (cs := cs) (w := w) (ops := ops) (i := x) (rest := τ) (by rw [hio]; simpa using hw')
                rw [hio] at hstep
                simp only [Option.bind_some] at hstep
                exact .step hstep (hnext undefV s j undef a.defers cs w hC rfl (j.ext_refl _) (Nat.le_refl _) I.rel (VR.tuple' .nil))
            · rename_i y hb
              have hw' : Region.wanted o (yielded ops a.tmps) = false := I.guardOff T hops ho hp hg hb (.inr ⟨y, rfl⟩)
              have hstep := st_opSkip (P := P) (b := X.b) (a := a) (k := k) (cs := cs) (w := w) (ops := ops) (i := x) (rest := τ) (by rw [hio]; simpa using hw')
              rw [hio] at hstep
              simp only [Option.bind_some] at hstep
              exact .step hstep (hnext undefV s j undef a.defers cs w hC rfl (j.ext_refl _) (Nat.le_refl _) I.rel (VR.tuple' .nil))
            · exact hC.elim
      · exact I.float_step T hnd hops ho he hni hp fun j' a' w' I' => ih _ hS' done wr R pend A s j' a' cs w' I' hC

/-- a region that draws its order -/
theorem draw_sound {X : Cx} {ops : Array Oper} (hm : P.follows .mixedOrders = true) (ht : tameB P X.n ops.toList = true) {id : Nat} {s : St} {kk : St → Prop} {pan : Chain → St → Prop} {j : Inj} {a : Act} {cs : List Frame} {w : World}
    {k : List Item} {G : Machine → Prop} (hR : Rel X j s a cs w) (h : drawW P X.gs (SpecC P X.gs) ops.toList s kk pan)
    (hK : ∀ s' j' a' cs' w', kk s' → Rel X j' s' a' cs' w' → Ends P G (lone (mk X.b a' k) cs' w'))
    (hP : ∀ ch s' j' ch' a' cs' w' k', pan ch s' → Rel X j' s' a' cs' w' → ChR j' ch ch' → Ends P G (lone { mk X.b a' k' with mode := .panicking ch' } cs' w')) :
    Ends P G (lone (mk X.b a (.code (.region id ops true) :: k)) cs w) := by
  have T := tame_of ht
  refine .step st_draw ?_
  rw [hm]
  have hR1 : RelM X j s a.defers cs { w with drawn := w.drawn + 1 } := ⟨hR.1.sim.heap_eq ⟨rfl, rfl, rfl⟩ rfl, hR.1.ds, hR.1.um, hR.1.callers, hR.1.norm, hR.1.glob, hR.1.ext, hR.1.len⟩
  obtain ⟨R', pend', s2, A', hC, hF⟩ := stages_rest (P := P) (R := []) (wr := effs P ops.toList) (st := 0) (fun i _ => rfl) h
  obtain ⟨t2, ht2⟩ := hF.h
  refine draw_run T rfl (kk := fun R s' => kk { s' with e := finishE R ops.toList 0 s.e }) (pan := fun ch s' => pan ch { s' with e := dropE (dstsOf ops.toList) s.e })
    (fun R s' j' a' cs' w' hk he hsz hr => hK _ j' a' cs' w' hk ⟨hr.env_eq rfl rfl rfl, hsz, he⟩)
    (fun ch s' j' ch' a' cs' w' k' hk he0 he hsz hr hch => hP ch _ j' ch' a' cs' w' k' hk ⟨hr.env_eq rfl rfl rfl, hsz, he⟩ hch)
    _ _ (sched_drawn T.back _) [] (effs P ops.toList) R' pend' A' s2 j a cs _ ?_ hC
  refine ⟨rfl, fun i o _ h => h.elim, fun x _ => by simp, ?_, ?_, by simp, ?_, ?_, hF.inj, fun i o v h => h.elim, ?_, hR.2.1, ?_, hF.e⟩
  · intro i o ho hne hlo
    obtain ⟨o', v, ρ, h1, h2⟩ := hF.facts i (mem_floatsAt.2 ⟨o, ho, hne, by simpa using hlo⟩)
    exact ⟨v, h2.get⟩
  · intro i o ho hne hlo _
    obtain ⟨o', v, ρ, h1, h2⟩ := hF.facts i (mem_floatsAt.2 ⟨o, ho, hne, by simpa using hlo⟩)
    rw [ho] at h1; injection h1 with h1; subst h1
    exact ⟨v, ρ, h2⟩
  · intro i v hi
    rcases hF.dom i v hi with ⟨u, hu⟩ | hm
    · simp [AEnv.get] at hu
    · obtain ⟨o, h1, h2, h3⟩ := mem_floatsAt.1 hm
      exact .inr ⟨o, h1, h2, by simp; omega⟩
  · intro p hp _
    have := hF.ids p hp
    refine ⟨?_, by have := hR.1.len; omega, this.2⟩
    cases hj : j p.2 with
    | none => rfl
    | some Lc => have := hR.1.sim.dom _ _ hj; omega
  · intro t v ht _
    exact hR.2.2 t v ht
  · refine ⟨?_, ?_, ?_, hR1.callers, ?_, hR1.glob, hR1.ext, ?_⟩
    · rw [ht2]; exact hR1.sim.more t2
    · rw [hF.ds]; exact hR1.ds
    · rw [hF.u]; exact hR1.um
    · rw [hF.u]; exact hR1.norm
    · rw [ht2]; have := hR1.len; simp; omega

end Go.Fm

namespace Go.Fm

/-- the places of what is renamed -/
def Inj.by (j : Inj) (i : Nat → Option Nat) : Inj := fun b => (i b).bind j

theorem Inj.by_some {j : Inj} {i : Nat → Option Nat} {b q : Nat} (h : i b = some q) : j.by i b = j q := by unfold Inj.by; rw [h]; rfl

theorem Inj.of_by {j : Inj} {i : Nat → Option Nat} {b : Nat} {L : Loc} (h : j.by i b = some L) : ∃ q, i b = some q ∧ j q = some L := by
  unfold Inj.by at h
  exact Option.bind_eq_some_iff.1 h

variable {j : Inj} {i : Nat → Option Nat}

theorem RV.vr {v u : Value} (h : RV i v u) : ∀ {w : Value}, VR j u w → VR (j.by i) v w := by
  induction h with
  | bool b => intro w r; cases r; exact .bool b
  | int k n => intro w r; cases r; exact .int k n
  | float k n => intro w r; cases r; exact .float k n
  | complex k x y => intro w r; cases r; exact .complex k x y
  | string s => intro w r; cases r; exact .string s
  | pnil => intro w r; cases r; exact .pnil
  | ptr o s h => intro w r; cases r with | ptr hj => exact .ptr ((Inj.by_some h).trans hj)
  | snil l c => intro w r; cases r; exact .snil l c
  | slice o s l m h =>
    intro w r
    cases r with
    | slice _ _ hj => exact .slice l m ((Inj.by_some h).trans hj)
    | oslice _ _ hj he hc => exact .oslice l m ((Inj.by_some h).trans hj) he hc
    | slice0 _ a' => exact .slice0 _ a'
  | slice0 a b o =>
    intro w r
    cases r with
    | slice _ _ hj => exact .slice0 _ _
    | slice0 _ a2 => exact .slice0 _ a2
  | mnil => intro w r; cases r; exact .mnil
  | map h => intro w r; cases r with | map hj => exact .map ((Inj.by_some h).trans hj)
  | cnil => intro w r; cases r; exact .cnil
  | hole => intro w r; cases r with | hole h => exact .hole h
  | func f h1 _ h3 _ ih1 ih2 =>
    intro w r
    cases r with
    | func _ k1 k2 k3 k4 =>
      refine .func f (h1.trans k1) (fun k v v' e e' => ?_) (h3.trans k3) (fun k v v' e e' => ?_)
      · obtain ⟨hk, _⟩ := Array.getElem?_eq_some_iff.1 e
        have hu := Array.getElem?_eq_getElem (h1 ▸ hk)
        exact ih1 k v _ e hu (k2 k _ v' hu e')
      · obtain ⟨hk, _⟩ := Array.getElem?_eq_some_iff.1 e
        have hu := Array.getElem?_eq_getElem (h3 ▸ hk)
        exact ih2 k v _ e hu (k4 k _ v' hu e')
  | yield h => intro w r; cases r with | yield hj => exact .yield ((Inj.by_some h).trans hj)
  | nilFunc => intro w r; cases r; exact .nilFunc
  | iface t _ ih => intro w r; cases r with | iface _ hr => exact .iface t (ih hr)
  | nilIface => intro w r; cases r; exact .nilIface
  | agg h1 _ ih =>
    intro w r
    cases r with
    | agg k1 k2 =>
      refine .agg (h1.trans k1) (fun k v v' e e' => ?_)
      obtain ⟨hk, _⟩ := Array.getElem?_eq_some_iff.1 e
      have hu := Array.getElem?_eq_getElem (h1 ▸ hk)
      exact ih k v _ e hu (k2 k _ v' hu e')
  | tuple h1 _ ih =>
    intro w r
    cases r with
    | tuple k1 k2 =>
      refine .tuple (h1.trans k1) (fun k v v' e e' => ?_)
      obtain ⟨hk, _⟩ := Array.getElem?_eq_some_iff.1 e
      have hu := Array.getElem?_eq_getElem (h1 ▸ hk)
      exact ih k v _ e hu (k2 k _ v' hu e')

theorem RVs.lr {l u : List Value} (h : RVs i l u) : ∀ {w : List Value}, LR j u w → LR (j.by i) l w := by
  induction h with
  | nil => intro w r; cases r; exact .nil
  | cons hv _ ih => intro w r; cases r with | cons h1 h2 => exact .cons (hv.vr h1) (ih h2)

theorem RVs.length {l u : List Value} (h : RVs i l u) : l.length = u.length := by
  induction h with
  | nil => rfl
  | cons _ _ ih => simp [ih]

theorem RMs.er {l u : List MapEntry} (h : RMs i l u) : ∀ {w : List MapEntry}, ER j u w → ER (j.by i) l w := by
  induction h with
  | nil => intro w r; cases r; exact .nil
  | cons h1 h2 h3 _ ih =>
    intro w r
    cases r with
    | cons k1 k2 => exact .cons ⟨h1.vr k1.1, h2.vr k1.2.1, h3.trans k1.2.2⟩ (ih k2)

theorem RO.objR {o o' : AObj} (h : RO i o o') {L : Loc} {w : World} (r : ObjR j L w (some o')) : ObjR (j.by i) L w (some o) := by
  cases h with
  | cells ro hc =>
    obtain ⟨d, T, f, h1, h2, h3, h4, h5, h6⟩ := r
    exact ⟨d, T, f, h1, hc.length.trans h2, h3, hc.lr h4, h5, h6⟩
  | tcells t z hc =>
    obtain ⟨d, f, h1, h2, h3, h4, h5⟩ := r
    exact ⟨d, f, h1, hc.length.trans h2, h3, hc.lr h4, h5⟩
  | map clock hm =>
    obtain ⟨es', h1, h2, h3⟩ := r
    exact ⟨es', h1, hm.er h2, h3⟩
  | mapIter0 since seen stepped =>
    obtain ⟨h0, m', h1, h2⟩ := r
    rcases h2 with h2 | ⟨r0, L', h3, _⟩
    · exact ⟨h0, m', h1, .inl h2⟩
    · cases h3
  | mapIter since seen stepped hm =>
    obtain ⟨h0, m', h1, h2⟩ := r
    rcases h2 with h2 | ⟨r0, L', h3, h4, h5⟩
    · cases h2.1
    · injection h3 with h3; subst h3
      exact ⟨h0, m', h1, .inr ⟨_, L', rfl, (Inj.by_some hm).trans h4, h5⟩⟩
  | strIter s pos => exact r
  | dead o => trivial
  | defq => exact r
  | over => exact r
  | loop he hd =>
    obtain ⟨h0, y, h1, fn, tmps, Lq, h2, h3, h4, h5⟩ := r
    refine ⟨h0, y, h1, fn, tmps, Lq, h2, h3, ⟨h4.1, fun t v ht => ?_⟩, (Inj.by_some hd).trans h5⟩
    obtain ⟨u, k1, k2⟩ := he t v ht
    obtain ⟨v', k3, k4⟩ := h4.2 t u k1
    exact ⟨v', k3, k2.vr k4⟩

theorem RO.owns {o o' : AObj} (h : RO i o o') {L : Loc} {B x : Nat} (r : owns L (some o) B x) : Fm.owns L (some o') B x := by
  cases h <;> first | exact r | exact r.elim

theorem RO.isRw {o o' : AObj} (h : RO i o o') (r : isRw (some o)) : Fm.isRw (some o') := by
  cases h <;> first | exact r | exact r.elim

theorem Sim.gc {F : Nat → Nat → Prop} {w0 w : World} {h h' : AHeap} (S : Sim F w0 j h w) (hinj : ∀ b c q, i b = some q → i c = some q → b = c)
    (hobj : ∀ b q, i b = some q → ∃ o o', h'[b]? = some o ∧ h[q]? = some o' ∧ RO i o o') : Sim F w0 (j.by i) h' w := by
  refine ⟨S.io, S.size, S.kept, S.below, ?_, ?_, ?_, ?_⟩
  · intro b L e
    obtain ⟨q, hq, _⟩ := Inj.of_by e
    obtain ⟨o, o', h1, _⟩ := hobj b q hq
    exact (List.getElem?_eq_some_iff.1 h1).1
  · intro b L e
    obtain ⟨q, hq, hj⟩ := Inj.of_by e
    obtain ⟨o, o', h1, h2, h3⟩ := hobj b q hq
    have := S.obj q L hj
    rw [h2] at this
    rw [h1]
    exact h3.objR this
  · intro b L e hr B x ho
    obtain ⟨q, hq, hj⟩ := Inj.of_by e
    obtain ⟨o, o', h1, h2, h3⟩ := hobj b q hq
    rw [h1] at hr ho
    exact S.own q L hj (by rw [h2]; exact h3.isRw hr) B x (by rw [h2]; exact h3.owns ho)
  · intro b c L M hne e e' hr B x ho ho'
    obtain ⟨q, hq, hj⟩ := Inj.of_by e
    obtain ⟨q', hq', hj'⟩ := Inj.of_by e'
    obtain ⟨o, o', h1, h2, h3⟩ := hobj b q hq
    obtain ⟨u, u', k1, k2, k3⟩ := hobj c q' hq'
    rw [h1] at hr ho
    rw [k1] at ho'
    have hqq : q ≠ q' := by intro hh; subst hh; exact hne (hinj b c q hq hq')
    exact S.apart q q' L M hqq hj hj' (by rw [h2]; exact h3.isRw hr) B x (by rw [h2]; exact h3.owns ho) (by rw [k2]; exact k3.owns ho')

theorem RD.dsR {l u : List ADef} (h : RD i l u) : ∀ {w : List Deferred}, DsR j u w → DsR (j.by i) l w := by
  induction h with
  | nil => intro w r; cases r; exact .nil
  | call f ha _ ih =>
    intro w r
    cases r with
    | cons cap h1 h2 h3 h4 => exact .cons cap h1 h2 (ha.lr h3) (ih h4)
  | mark hq _ ih =>
    intro w r
    cases r with
    | mark h1 h2 h3 => exact .mark ((Inj.by_some hq).trans h1) h2 (ih h3)

theorem dedupe_get : ∀ (e : AEnv) (seen t : Nat) (v : Value), (dedupe e seen).get t = some v → e.get t = some v ∧ Nat.testBit seen t = false
  | [], _, _, _, h => by simp [dedupe, AEnv.get] at h
  | (a, u) :: r, seen, t, v, h => by
    simp only [dedupe] at h
    cases hb : Nat.testBit seen a with
    | true =>
      rw [hb, cond_true] at h
      obtain ⟨h1, h2⟩ := dedupe_get r seen t v h
      have hne : a ≠ t := by intro e; subst e; rw [hb] at h2; cases h2
      rw [AEnv.get_cons, if_neg hne]
      exact ⟨h1, h2⟩
    | false =>
      rw [hb, cond_false, AEnv.get_cons] at h
      rw [AEnv.get_cons]
      split at h
      · rename_i hat; subst hat; rw [if_pos rfl]; exact ⟨h, hb⟩
      · rename_i hne
        rw [if_neg hne]
        obtain ⟨h1, h2⟩ := dedupe_get r _ t v h
        refine ⟨h1, ?_⟩
        have : (Nat.lor seen (Nat.shiftLeft 1 a)).testBit t = (seen.testBit t || (Nat.shiftLeft 1 a).testBit t) := Nat.testBit_or ..
        rw [this, Bool.or_eq_false_iff] at h2
        exact h2.1

theorem Gc.dedupe {gs : List Nat} {n0 : Nat} {e : AEnv} {ds : List ADef} {h : AHeap} {u : UMode} : Gc gs n0 ⟨e, ds, h, u⟩ ⟨Fm.dedupe e 0, ds, h, u⟩ :=
  .inr ⟨rfl, rfl, rfl, fun t v ht => (dedupe_get e 0 t v ht).1⟩

theorem Rel.gc {X : Cx} {s s' : St} {a : Act} {cs : List Frame} {w : World} (h : Rel X j s a cs w) (g : Gc X.gs X.h0.length s s') : ∃ j', Rel X j' s' a cs w := by
  rcases Or.symm g with g | ⟨i, g⟩
  · exact ⟨j, h.1.env_eq g.h g.ds g.u, h.2.1, fun t v ht => h.2.2 t v (g.env t v ht)⟩
  refine ⟨j.by i, ⟨h.1.sim.gc g.inj g.obj, g.ds.dsR h.1.ds, ?_, h.1.callers, ?_, ?_, ?_, g.len⟩, h.2.1, ?_⟩
  · have hu := h.1.um
    rw [g.mode.1]
    have hf := g.mode.2
    cases hm : s.u with
    | pan ch => rw [hm] at hf; simp [UMode.flat] at hf
    | _ => rw [hm] at hu; exact hu
  · rw [g.mode.1]; exact h.1.norm
  · intro x hx
    obtain ⟨L, h1, h2⟩ := h.1.glob x hx
    exact ⟨L, (Inj.by_some (g.glob x hx)).trans h1, h2⟩
  · have hext := h.1.ext
    refine ⟨fun b L hb => ?_, fun b hb => ?_⟩
    · have hlt : b < X.h0.length := X.dom b L hb
      exact (Inj.by_some (g.old b hlt)).trans (hext.1 b L hb)
    · exact (Inj.by_some (g.old b hb)).trans (hext.2 b hb)
  · intro t v ht
    obtain ⟨u, h1, h2⟩ := g.env t v ht
    obtain ⟨v', k1, k2⟩ := h.2.2 t u h1
    exact ⟨v', k1, h2.vr k2⟩

end Go.Fm

namespace Go.Fm

def upto (n : Nat) (b : Nat) : Option Nat := if b < n then some b else none

def scopeV (n : Nat) : Nat → Value → Bool
  | 0, _ => false
  | f + 1, v =>
    match v with
    | .bool _ | .int _ _ | .float _ _ | .complex _ _ _ | .string _ | .nilFunc | .nilIface | .pointer none | .slice none _ _ | .map none | .chan none => true
    | .chan (some r) => Nat.beq r 0
    | .pointer (some ⟨b, _, _⟩) => Nat.blt b n
    | .slice (some ⟨b, _, _⟩) _ _ => Nat.blt b n
    | .map (some r) => Nat.blt r n
    | .iface _ v => scopeV n f v
    | .agg x | .tuple x => x.toList.all (scopeV n f)
    | .func (.func _) x y => x.toList.all (scopeV n f) && y.toList.all (scopeV n f)
    | .func (.yield l) ⟨[]⟩ ⟨[]⟩ => Nat.blt l n
    | _ => false

def scopeO (n : Nat) : AObj → Bool
  | .cells c _ | .tcells c _ _ => c.all (scopeV n 8)
  | .map es _ => es.all fun e => scopeV n 8 e.key && scopeV n 8 e.val
  | .mapIter none _ _ _ => true
  | .mapIter (some m) _ _ _ => Nat.blt m n
  | .strIter _ _ => true
  | .dead => true
  | .spec .defq => true
  | .spec .over => true
  | .spec (.loop e _ _ _ _ _ _ _ dq) => Nat.blt dq n && e.all fun p => scopeV n 8 p.2

theorem upto_of {n b : Nat} (h : Nat.blt b n = true) : upto n b = some b := by rw [Nat.blt_eq] at h; simp [upto, h]

theorem upto_some {n b q : Nat} (h : upto n b = some q) : q = b ∧ b < n := by
  unfold upto at h
  split at h
  · injection h with h; exact ⟨h.symm, ‹_›⟩
  · cases h

theorem scopeV_rv {n : Nat} : ∀ (f : Nat) (v : Value), scopeV n f v = true → RV (upto n) v v
  | 0, _, h => by simp [scopeV] at h
  | f + 1, v, h => by
    have ih := scopeV_rv (n := n) f
    have arr : ∀ (x : Array Value), x.toList.all (scopeV n f) = true → ∀ (k : Nat) (a b : Value), x[k]? = some a → x[k]? = some b → RV (upto n) a b := by
      intro x hx k a b ha hb
      rw [ha] at hb; injection hb with hb; subst hb
      exact ih a (List.all_eq_true.1 hx a (by rw [Array.mem_toList_iff]; exact Array.mem_of_getElem? ha))
    unfold scopeV at h
    split at h
    · exact .bool _
    · exact .int _ _
    · exact .float _ _
    · exact .complex _ _ _
    · exact .string _
    · exact .nilFunc
    · exact .nilIface
    · exact .pnil
    · exact .snil _ _
    · exact .mnil
    · exact .cnil
    · rename_i r; have := Nat.eq_of_beq_eq_true h; subst this; exact .hole
    · exact .ptr _ _ (upto_of h)
    · exact .slice _ _ _ _ (upto_of h)
    · exact .map (upto_of h)
    · exact .iface _ (ih _ h)
    · exact .agg rfl (arr _ h)
    · exact .tuple rfl (arr _ h)
    · simp only [Bool.and_eq_true] at h
      exact .func _ rfl (arr _ h.1) rfl (arr _ h.2)
    · exact .yield (upto_of h)
    · cases h

theorem scopeVs_rvs {n f : Nat} : ∀ (l : List Value), l.all (scopeV n f) = true → RVs (upto n) l l
  | [], _ => .nil
  | v :: r, h => by
    simp only [List.all_cons, Bool.and_eq_true] at h
    exact .cons (scopeV_rv f v h.1) (scopeVs_rvs r h.2)

theorem scopeMs_rms {n : Nat} : ∀ (l : List MapEntry), (l.all fun e => scopeV n 8 e.key && scopeV n 8 e.val) = true → RMs (upto n) l l
  | [], _ => .nil
  | e :: r, h => by
    simp only [List.all_cons, Bool.and_eq_true] at h
    exact .cons (scopeV_rv 8 _ h.1.1) (scopeV_rv 8 _ h.1.2) rfl (scopeMs_rms r h.2)

theorem scopeE_get {n : Nat} {t : Nat} {v : Value} : ∀ (l : AEnv), (l.all fun p => scopeV n 8 p.2) = true → l.get t = some v → scopeV n 8 v = true
  | [], _, h => by simp [AEnv.get] at h
  | (a, x) :: r, hl, hg => by
    simp only [List.all_cons, Bool.and_eq_true] at hl
    rw [AEnv.get_cons] at hg
    split at hg
    · injection hg with hg; subst hg; exact hl.1
    · exact scopeE_get r hl.2 hg

theorem scopeO_ro {n : Nat} : ∀ (o : AObj), scopeO n o = true → RO (upto n) o o
  | .cells c ro, h => .cells ro (scopeVs_rvs c h)
  | .tcells c t z, h => .tcells t z (scopeVs_rvs c h)
  | .map es clock, h => .map clock (scopeMs_rms es h)
  | .mapIter none _ _ _, _ => .mapIter0 _ _ _
  | .mapIter (some m) _ _ _, h => .mapIter _ _ _ (upto_of h)
  | .strIter _ _, _ => .strIter _ _
  | .dead, _ => .dead _
  | .spec .defq, _ => .defq
  | .spec .over, _ => .over
  | .spec (.loop e _ _ _ _ _ _ _ dq), h => by
    simp only [scopeO, Bool.and_eq_true] at h
    exact .loop (fun t v ht => ⟨v, ht, scopeV_rv 8 v (scopeE_get e h.2 ht)⟩) (upto_of h.1)

/-! ## forgetting behind a call -/

def scopeR (n : Nat) : Res → Bool
  | .ret v => scopeV n 8 v
  | .pan _ => false

/-- may what is newer than n be forgotten? -/
def mayForget (n : Nat) (r : Res) (h : AHeap) : Bool := scopeR n r && h.all (scopeO n)

theorem Sim.forget {F : Nat → Nat → Prop} {w0 w : World} {j : Inj} {h' : AHeap} {n : Nat} (S : Sim F w0 j h' w) (hn : n ≤ h'.length) (hs : (h'.take n).all (scopeO n) = true) : Sim F w0 (j.by (upto n)) (h'.take n) w := by
  refine S.gc ?_ ?_
  · intro b c q h1 h2
    obtain ⟨rfl, _⟩ := upto_some h1
    exact (upto_some h2).1
  · intro b q hb
    obtain ⟨rfl, hlt⟩ := upto_some hb
    have hlt' : q < (h'.take n).length := by rw [List.length_take]; omega
    have hb' : (h'.take n)[q]? = some (h'.take n)[q] := List.getElem?_eq_getElem hlt'
    refine ⟨_, _, hb', ?_, scopeO_ro _ (List.all_eq_true.1 hs _ (List.getElem_mem _))⟩
    rw [← hb', List.getElem?_take, if_pos hlt]

theorem ext_forget {j j' : Inj} {n : Nat} (hd : ∀ b L, j b = some L → b < n) (hx : j.ext n j') : j.ext n (j'.by (upto n)) := by
  have key : ∀ b, b < n → (j'.by (upto n)) b = j' b := fun b hb => Inj.by_some (by unfold upto; rw [if_pos hb])
  exact ⟨fun b L h => (key b (hd b L h)).trans (hx.1 b L h), fun b hb => (key b hb).trans (hx.2 b hb)⟩

variable {P : Program} {gs : List Nat}

theorem Spec.forget {f : FuncId} {args : List Value} {h : AHeap} {Q : Res → AHeap → Prop} (hs : Spec P gs f args h fun r h' => cond (mayForget h.length r (h'.take h.length)) (Q r (h'.take h.length)) (Q r h')) : Spec P gs f args h Q := by
  refine ⟨hs.1, ?_⟩
  intro G F w0 j w args' cs S hA hg hK
  refine hs.2 G F w0 j w args' cs S hA hg ?_
  intro r h' j' w' fr hq hext hl S' hlv
  cases hb : mayForget h.length r (h'.take h.length) with
  | false => rw [hb] at hq; exact hK r h' j' w' fr hq hext hl S' hlv
  | true =>
    rw [hb] at hq
    unfold mayForget at hb
    rw [Bool.and_eq_true] at hb
    refine hK r _ _ w' fr hq (ext_forget S.dom hext) (by rw [List.length_take]; omega) (S'.forget hl hb.2) ?_
    cases r with
    | ret v =>
      obtain ⟨l1, l2, l3, l4, l5, fn, v', l6, l7, l8⟩ := hlv
      exact ⟨l1, l2, l3, l4, l5, fn, v', l6, l7, (scopeV_rv 8 v hb.1).vr l8⟩
    | pan ch => simp [scopeR] at hb

theorem SpecY.forget {l : Nat} {args : List Value} {h : AHeap} {Q : Res → AHeap → Prop} (hs : SpecY P gs l args h fun r h' => cond (mayForget h.length r (h'.take h.length)) (Q r (h'.take h.length)) (Q r h')) : SpecY P gs l args h Q := by
  intro G F w0 j w args' c cs L S hA hg hj hr hp
  refine hs G F w0 j w args' c cs L S hA hg hj ?_ ?_
  · intro v h' j' w' v' hq hext hl S' hv
    cases hb : mayForget h.length (.ret v) (h'.take h.length) with
    | false => rw [hb] at hq; exact hr v h' j' w' v' hq hext hl S' hv
    | true =>
      rw [hb] at hq
      unfold mayForget at hb
      rw [Bool.and_eq_true] at hb
      exact hr v _ _ w' v' hq (ext_forget S.dom hext) (by rw [List.length_take]; omega) (S'.forget hl hb.2) ((scopeV_rv 8 v hb.1).vr hv)
  · intro ch h' j' w' ch' hq hext hl S' hch
    have hb : mayForget h.length (.pan ch) (h'.take h.length) = false := rfl
    rw [hb] at hq
    exact hp ch h' j' w' ch' hq hext hl S' hch

theorem SpecC.forget {c : Callee} {args : List Value} {h : AHeap} {Q : Res → AHeap → Prop} (hs : SpecC P gs c args h fun r h' => cond (mayForget h.length r (h'.take h.length)) (Q r (h'.take h.length)) (Q r h')) : SpecC P gs c args h Q := by
  cases c with
  | fn f =>
    rcases hs with hs | hs
    · exact .inl (Spec.forget hs)
    · refine .inr ⟨hs.1, fun F w0 j w args' S hA => ?_⟩
      obtain ⟨v, h', j', v', w', hq, hrun, hext, hl, S', hv⟩ := hs.2 F w0 j w args' S hA
      cases hb : mayForget h.length (.ret v) (h'.take h.length) with
      | false => rw [hb] at hq; exact ⟨v, h', j', v', w', hq, hrun, hext, hl, S', hv⟩
      | true =>
        rw [hb] at hq
        unfold mayForget at hb
        rw [Bool.and_eq_true] at hb
        exact ⟨v, _, _, v', w', hq, hrun, ext_forget S.dom hext, by rw [List.length_take]; omega, S'.forget hl hb.2, (scopeV_rv 8 v hb.1).vr hv⟩
  | yield l => exact SpecY.forget hs

end Go.Fm

namespace Go.Fm

def Ann.l : Ann → Ann
  | .leaf => .leaf
  | .node _ a _ => a
def Ann.r : Ann → Ann
  | .leaf => .leaf
  | .node _ _ b => b
def keepA (ann : Ann) (s : St) : St :=
  match ann with
  | .leaf => s
  | .node live _ _ => keep live s

def condW (v : Option Value) (t f : Prop) : Prop :=
  match v with
  | some (.bool b) => if b = true then t else f
  | _ => False

def gdOf (L : List Oper) (j : Nat) : Option Nat :=
  match L[j]? with
  | some o => o.dst
  | none => none

section
variable (P : Program) (gs : List Nat) (n : Nat) (S : FSpec)

def jumpW (K : Kont) (s : St) : Option Code → Prop
  | none => K .normal s
  | some .ret => K .ret s
  | some (.exit id) => K (.exit id) s
  | _ => False

/-- a loop over a function is over -/
def endLoopW (l : Nat) (K : Kont) (s : St) : Prop :=
  match s.h[l]? with
  | some (.spec (.loop _ _ _ _ _ _ st pd _)) => match st with
    | .busy => False
    | _ => jumpW K { s with h := s.h.set l (.spec .over) } pd
  | _ => False

def afterRange (l : Nat) (K : Kont) (s : St) : Res → AHeap → Prop
  | .pan ch, h' => K (.panic ch) { s with h := h' }
  | .ret _, h' => endLoopW l K { s with h := h' }

def rangeW (v : Option Value) (ps : List Nat) (x y : Code) (K : Kont) (s : St) : Prop :=
  match s.u with
  | .round => False
  | _ => match v with
    | some (.func (.func g) first cap) =>
      hasBody P g = true ∧ S (.fn g) (first.toList ++ (.func (.yield (s.h.length + 1)) #[] #[] :: cap.toList)) (s.h ++ [.spec .defq] ++ [.spec (.loop s.e n P.funcs.size ps x y .ready none s.h.length)])
        (afterRange (s.h.length + 1) K { s with ds := .mark s.h.length :: s.ds })
    | _ => False

variable (n0 : Nat)

def wpc : Code → Ann → Kont → St → Prop
  | .skip, _, K, s | .label _, _, K, s => K .normal s
  | .seq x y, ann, K, s => wpc x ann.l (K.seq fun s' => wpc y ann.r K (keepA ann s')) s
  | .cond c x y, ann, K, s => condW (ev gs s.e c) (wpc x ann.l K s) (wpc y ann.r K s)
  | .block id c, ann, K, s => wpc c ann.l (K.block id) s
  | .scope c, ann, K, s => wpc c ann.l K s
  | .loop c, ann, K, s => loopW gs n0 (fun K' s' => wpc c ann.l K' (keepA ann s')) K s
  | .exit id, _, K, s => K (.exit id) s
  | .ret, _, K, s => K .ret s
  | .region _ ops true, _, K, s => drawW P gs S ops.toList s (K .normal) (fun ch => K (.panic ch))
  | .region _ ops false, _, K, s => opsW P gs n S (gdOf ops.toList) ops.toList s (K .normal) (fun ch => K (.panic ch))
  | .rangeFunc f ps x y, _, K, s => rangeW P n S (ev gs s.e f) ps.toList x y K s
  | _, _, _, _ => False

def okCode : Code → Bool
  | .seq x y => okCode x && okCode y
  | .cond _ x y => okCode x && okCode y
  | .block _ c | .scope c | .loop c => okCode c
  | .region _ ops true => tameB P n ops.toList
  | _ => true

/-- a loop's state -/
def setLoop (l : Nat) (st : LoopState) (pd : Option Code) (h : AHeap) : Option AHeap :=
  match h[l]? with
  | some (.spec (.loop e n m ps x y _ _ dq)) => some (h.set l (.spec (.loop e n m ps x y st pd dq)))
  | _ => none

def busyLoop (l : Nat) (h : AHeap) : Option AHeap :=
  match h[l]? with
  | some (.spec (.loop e n m ps x y .ready pd dq)) => some (h.set l (.spec (.loop e n m ps x y .busy pd dq)))
  | _ => none

/-- the ways out of a round -/
def roundK (l : Nat) (Q : Res → AHeap → Prop) : Kont
  | .normal, s => bnd (setLoop l .ready none s.h) fun h => Q (.ret (.bool true)) h
  | .ret, s => bnd (setLoop l .done (some .ret) s.h) fun h => Q (.ret (.bool false)) h
  | .exit id, s => bnd (setLoop l .done (some (.exit id)) s.h) fun h => Q (.ret (.bool false)) h
  | .panic ch, s => match s.ds with
    | [] => Q (.pan ch) s.h
    | _ => False

def putAll : List Nat → List Value → AEnv → AEnv
  | t :: r, v :: vs, e => putAll r vs ((t, v) :: e)
  | _, _, e => e

def beginW (l : Nat) (k : St → Prop) (s : St) : Prop := bnd (busyLoop l s.h) fun h => k { s with h := h }

def assignK (l : Nat) (k : St → Prop) (Q : Res → AHeap → Prop) : Kont
  | .normal, s => beginW l k s
  | .panic ch, s => match s.ds with
    | [] => Q (.pan ch) s.h
    | _ => False
  | _, _ => False

/-- a round, by its loop's record -/
def yieldW (l : Nat) (args : List Value) (h : AHeap) (Q : Res → AHeap → Prop) : Prop :=
  match h[l]? with
  | some (.spec (.loop e n m ps x y _ _ _)) =>
    (Nat.beq args.length ps.length && (Nat.beq m P.funcs.size && (ps.all (Nat.blt · n) && (okCode P n x && okCode P n y)))) = true ∧
      wpc P gs n S h.length x .leaf (assignK l (fun s => wpc P gs n S h.length y .leaf (roundK l Q) s) Q) ⟨putAll ps args e, [], h, .round⟩
  | _ => False

end

variable {P : Program}

/-! ## a region in the order of its text -/

theorem putW_sound {X : Cx} {j : Inj} {s : St} {tmps : Array Value} {df : List Deferred} {cs : List Frame} {w : World} {dst : Option Nat} {v v' : Value} {k : St → Prop} (hR : RelM X j s df cs w) (hE : EnvR j X.n s.e tmps) (hv : VR j v v')
    (h : putW X.n dst v s k) : ∃ s', k s' ∧ Rel X j s' (Act.put ⟨tmps, df⟩ dst v') cs w := by
  unfold putW at h
  split at h
  · rename_i d
    cases hb : Nat.blt d X.n with
    | false => rw [hb] at h; exact h.elim
    | true =>
      rw [hb] at h
      rw [Nat.blt_eq] at hb
      exact ⟨_, h, hR.env_eq rfl rfl rfl, hE.put hb hv⟩
  · exact ⟨s, h, hR, hE⟩

theorem opsW_sound {X : Cx} {ops : Array Oper} {k : List Item} {G : Machine → Prop} {kk : St → Prop} {pan : Chain → St → Prop}
    (hK : ∀ s' j' a' cs' w', kk s' → Rel X j' s' a' cs' w' → Ends P G (lone (mk X.b a' k) cs' w'))
    (hP : ∀ ch s' j' ch' a' cs' w' k', pan ch s' → Rel X j' s' a' cs' w' → ChR j' ch ch' → Ends P G (lone { mk X.b a' k' with mode := .panicking ch' } cs' w')) :
    ∀ (rest pre : List Oper), ops.toList = pre ++ rest → ∀ (s : St) (j : Inj) (a : Act) (cs : List Frame) (w : World), Rel X j s a cs w →
      opsW P X.gs X.n (SpecC P X.gs) (gdOf ops.toList) rest s kk pan → Ends P G (lone (mk X.b a (.inRegion ops (List.range' pre.length rest.length) :: k)) cs w)
  | [], pre, _, s, j, a, cs, w, hR, h => .step st_regionEnd (hK s j a cs w h hR)
  | o :: rest, pre, hL, s, j, a, cs, w, hR, h => by
    have hio : ops[pre.length]? = some o := by rw [← Array.getElem?_toList, hL]; simp
    have hL' : ops.toList = (pre ++ [o]) ++ rest := by rw [hL]; simp
    have ih := opsW_sound hK hP rest (pre ++ [o]) hL'
    simp only [List.length_append, List.length_singleton] at ih
    simp only [List.length_cons, List.range'_succ]
    simp only [opsW, operW] at h
    have hval : ∀ v s' j' v' df' cs' w', putW X.n o.dst v s' (fun s' => opsW P X.gs X.n (SpecC P X.gs) (gdOf ops.toList) rest s' kk pan) → s'.e = s.e → j.ext s.h.length j' → RelM X j' s' df' cs' w' → VR j' v v' →
        Ends P G (lone (mk X.b (Act.put ⟨a.tmps, df'⟩ o.dst v') (.inRegion ops (List.range' (pre.length + 1) rest.length) :: k)) cs' w') := by
      intro v s' j' v' df' cs' w' hp he hx hr hv
      have hE : EnvR j' X.n s'.e a.tmps := by rw [he]; exact hR.2.mono hx.1
      obtain ⟨s2, h1, h2⟩ := putW_sound hr hE hv hp
      exact ih s2 j' _ cs' w' h2 h1
    have hop : ∀ (hw : Region.wanted o (yielded ops a.tmps) = true), opW P (SpecC P X.gs) (ev X.gs s.e) o.op s (fun v s' => putW X.n o.dst v s' (fun s' => opsW P X.gs X.n (SpecC P X.gs) (gdOf ops.toList) rest s' kk pan)) pan →
        Ends P G (lone (mk X.b a (.inRegion ops (pre.length :: List.range' (pre.length + 1) rest.length) :: k)) cs w) := by
      intro hw ho
      refine opW_sound hR.1 (ev_rel hR.2 hR.1.glob) hio hw ho ⟨fun v s' j' v' df' cs' w' hn he hx _ hr hv => hval v s' j' v' df' cs' w' hn he hx hr hv, ?_⟩
      intro ch s' j' ch' w' hp he hx hr hch
      exact hP ch s' j' ch' a cs w' _ hp ⟨hr, by rw [he]; exact hR.2.mono hx.1⟩ hch
    split at h
    · rename_i hg
      exact hop (by simp [Region.wanted, hg]) h
    · rename_i g want hg
      unfold guardK at h
      split at h
      · rename_i b hb
        have hy : Region.wanted o (yielded ops a.tmps) = (b == want) := by
          obtain ⟨d, hd, hb⟩ := bind_some' hb
          unfold gdOf at hd
          split at hd
          · rename_i og hog
            obtain ⟨v', h1, h2⟩ := hR.2.2 d _ hb
            cases h2
            have hog' : ops[g]? = some og := by rw [← Array.getElem?_toList]; exact hog
            simp [Region.wanted, hg, yielded, hog', hd, h1]
          · simp at hd
        split at h
        · rename_i hbw; subst hbw
          exact hop (by rw [hy]; simp) h
        · rename_i hbw
          have hw' : Region.wanted o (yielded ops a.tmps) = false := by rw [hy]; cases b <;> cases want <;> simp_all
          have hstep := st_opSkip (P := P) (b := X.b) (a := a) (k := k) (cs := cs) (w := w) (ops := ops) (i := pre.length) (rest := List.range' (pre.length + 1) rest.length) (by rw [hio]; simpa using hw')
          rw [hio] at hstep
          simp only [Option.bind_some] at hstep
          exact .step hstep (hval undefV s j undef a.defers cs w h rfl (j.ext_refl _) hR.1 (VR.tuple' .nil))
      · rename_i x hb
        have hw' : Region.wanted o (yielded ops a.tmps) = false := by
          obtain ⟨d, hd, hb⟩ := bind_some' hb
          unfold gdOf at hd
          split at hd
          · rename_i og hog
            obtain ⟨v', h1, h2⟩ := hR.2.2 d _ hb
            cases h2
            have hog' : ops[g]? = some og := by rw [← Array.getElem?_toList]; exact hog
            simp [Region.wanted, hg, yielded, hog', hd, h1]
          · simp at hd
        have hstep := st_opSkip (P := P) (b := X.b) (a := a) (k := k) (cs := cs) (w := w) (ops := ops) (i := pre.length) (rest := List.range' (pre.length + 1) rest.length) (by rw [hio]; simpa using hw')
        rw [hio] at hstep
        simp only [Option.bind_some] at hstep
        exact .step hstep (hval undefV s j undef a.defers cs w h rfl (j.ext_refl _) hR.1 (VR.tuple' .nil))
      · exact h.elim

/-! ## loops over functions -/

theorem run_getLoop {w : World} {B : Nat} {r : Loop} (h : w.heap[B]? = some (.loop r)) : (Instr.getLoop B).run P w = .ok r w := by
  simp [Instr.getLoop, run_getObj' h (by simp)]

section
variable {F : Nat → Nat → Prop} {w0 w : World} {j : Inj} {h h' : AHeap} {l : Nat} {L : Loc}

theorem setLoop_sim (S : Sim F w0 j h w) (hj : j l = some L) {st : LoopState} {pd : Option Code} (e : setLoop l st pd h = some h') :
    ∃ r w', (Instr.getLoop L.blk).run P w = .ok r w ∧ (setObj L.blk (.loop { r with state := st, pending := pd })).run P w = .ok () w' ∧ Sim F w0 j h' w' ∧ h'.length = h.length := by
  unfold setLoop at e
  split at e
  · rename_i e0 n m ps x y st0 pd0 dq hl
    injection e with e; subst e
    have ho := S.obj l L hj
    rw [hl] at ho
    obtain ⟨hoff, y0, hy, fn, tmps, Lq, hfn, rfl, hE, hq⟩ := ho
    refine ⟨_, _, run_getLoop hy, run_setObj' hy (by simp), ?_, by simp⟩
    exact obj_turn S hj hl hy trivial trivial (fun B y => Iff.rfl) (fun B y => Iff.rfl) (fun w' hw' => ⟨hoff, _, hw', fn, tmps, Lq, hfn, rfl, hE, hq⟩)
  · simp at e

theorem endRound_sim (S : Sim F w0 j h w) (hj : j l = some L) {jump : Option Code} (e : setLoop l (if jump.isNone = true then .ready else .done) jump h = some h') :
    ∃ w', (Instr.endRound L.blk jump).run P w = .ok (.bool jump.isNone) w' ∧ Sim F w0 j h' w' ∧ h'.length = h.length := by
  obtain ⟨r, w', h1, h2, h3, h4⟩ := setLoop_sim (P := P) S hj e
  exact ⟨w', by simp only [Instr.endRound, Sem.run_bind, h1, Result.andThen_ok, h2, Sem.run_pure], h3, h4⟩

theorem beginRound_sim (S : Sim F w0 j h w) (hj : j l = some L) (e : busyLoop l h = some h') :
    ∃ w', (Instr.beginRound L.blk).run P w = .ok () w' ∧ Sim F w0 j h' w' ∧ h'.length = h.length := by
  unfold busyLoop at e
  split at e
  · rename_i e0 n m ps x y pd0 dq hl
    injection e with e; subst e
    have ho := S.obj l L hj
    rw [hl] at ho
    obtain ⟨hoff, y0, hy, fn, tmps, Lq, hfn, rfl, hE, hq⟩ := ho
    refine ⟨{ w with heap := w.heap.setIfInBounds L.blk (.loop { state := .busy, pending := pd0, fn := fn, tmps := tmps, params := ps.toArray, assign := x, body := y, defers := Lq.blk }) }, ?_, ?_, by simp⟩
    · simp only [Instr.beginRound, Sem.run_bind, run_getLoop hy, Result.andThen_ok, run_setObj' hy (by simp), Sem.run_pure]
    · exact obj_turn S hj hl hy trivial trivial (fun B y => Iff.rfl) (fun B y => Iff.rfl) (fun w' hw' => ⟨hoff, _, hw', fn, tmps, Lq, hfn, rfl, hE, hq⟩)
  · simp at e

theorem endLoop_sim {K : Kont} {s : St} (S : Sim F w0 j s.h w) (hj : j l = some L) (e : endLoopW l K s) :
    ∃ jump w', (Instr.endLoop L.blk).run P w = .ok jump w' ∧ Sim F w0 j (s.h.set l (.spec .over)) w' ∧ jumpW K { s with h := s.h.set l (.spec .over) } jump := by
  unfold endLoopW at e
  split at e
  · rename_i e0 n m ps x y st0 pd0 dq hl
    have ho := S.obj l L hj
    rw [hl] at ho
    obtain ⟨hoff, y0, hy, fn, tmps, Lq, hfn, rfl, hE, hq⟩ := ho
    have hb : st0 ≠ .busy := by intro hb; subst hb; exact e
    have hk : jumpW K { s with h := s.h.set l (.spec .over) } pd0 := by
      cases st0 with
      | busy => exact absurd rfl hb
      | _ => exact e
    have hb' : (st0 == LoopState.busy) = false := by cases st0 <;> first | rfl | exact absurd rfl hb
    refine ⟨pd0, { w with heap := w.heap.setIfInBounds L.blk (.loop { state := .exhausted, pending := pd0, fn := fn, tmps := tmps, params := ps.toArray, assign := x, body := y, defers := Lq.blk }) }, ?_, ?_, hk⟩
    · simp only [Instr.endLoop, Sem.run_bind, run_getLoop hy, Result.andThen_ok, hb', Bool.false_eq_true, if_false, run_setObj' hy (by simp), Sem.run_pure]
    · exact obj_turn S hj hl hy trivial trivial (fun B y => Iff.rfl) (fun B y => Iff.rfl) (fun w' hw' => ⟨hoff, _, hw', by simp [SpecR]⟩)
  · exact e.elim

theorem putAll_env {n : Nat} : ∀ {ps : List Nat} {as : List Value} {as' : List Value} {e : AEnv} {tmps : Array Value}, EnvR j n e tmps → LR j as as' → (ps.all (Nat.blt · n)) = true →
    EnvR j n (putAll ps as e) ((ps.zip as').foldl (fun tmps (t, a) => tmps.setIfInBounds t a) tmps)
  | [], as, as', e, tmps, hE, _, _ => by simpa [putAll] using hE
  | t :: r, [], _, e, tmps, hE, .nil, _ => by simpa [putAll] using hE
  | t :: r, v :: vs, _, e, tmps, hE, .cons hv hl, hp => by
    simp only [List.all_cons, Bool.and_eq_true, Nat.blt_eq] at hp
    simp only [putAll, List.zip_cons_cons, List.foldl_cons]
    exact putAll_env (hE.put hp.1 hv) hl hp.2

end

/-! ## code -/

theorem After.pass {G : Machine → Prop} {b : Frame} {k : List Item} {x : AExit} {j : Inj} {a : Act} {cs : List Frame} {w : World} {it : Item} (hx : x ≠ .normal) (hit : ∀ id, exitTo id (it :: k) = exitTo id k)
    (h : After P G b k x j a cs w) : After P G b (it :: k) x j a cs w := by
  cases x with
  | normal => exact absurd rfl hx
  | exit id => exact ⟨fun k' hk => h.1 k' (by rw [← hit]; exact hk), fun hn => h.2 (by rw [← hit]; exact hn)⟩
  | ret => exact h
  | panic ch => exact h

theorem wpc_sound (hm : P.follows .mixedOrders = true) {X : Cx} (hfn : X.b.fn < P.funcs.size) {G : Machine → Prop} : ∀ (c : Code) (ann : Ann) (K : Kont) (s : St), okCode P X.n c = true → wpc P X.gs X.n (SpecC P X.gs) X.h0.length c ann K s →
    ∀ (j : Inj) (a : Act) (cs : List Frame) (w : World) (k : List Item), Rel X j s a cs w →
      (∀ x s' j' a' cs' w', K x s' → Rel X j' s' a' cs' w' → After P G X.b k x j' a' cs' w') → Ends P G (lone (mk X.b a (.code c :: k)) cs w) := by
  intro c
  induction c with
  | skip => intro ann K s _ h j a cs w k hR hK; exact .step st_skip (hK .normal s j a cs w h hR)
  | label l => intro ann K s _ h j a cs w k hR hK; exact .step st_label (hK .normal s j a cs w h hR)
  | seq x y ihx ihy =>
    intro ann K s hok h j a cs w k hR hK
    simp only [okCode, Bool.and_eq_true] at hok
    simp only [wpc] at h
    refine .step st_seq (ihx _ _ s hok.1 h j a cs w _ hR ?_)
    intro x s' j' a' cs' w' hx hR'
    cases x with
    | normal =>
      refine ihy _ K _ hok.2 hx j' a' cs' w' k ?_ hK
      cases ann with
      | leaf => exact hR'
      | node live _ _ => exact hR'.keep live
    | exit id => exact After.pass (by simp) (fun id => rfl) (hK _ s' j' a' cs' w' hx hR')
    | ret => exact After.pass (by simp) (fun id => rfl) (hK _ s' j' a' cs' w' hx hR')
    | panic ch => exact After.pass (by simp) (fun id => rfl) (hK _ s' j' a' cs' w' hx hR')
  | cond c x y ihx ihy =>
    intro ann K s hok h j a cs w k hR hK
    simp only [okCode, Bool.and_eq_true] at hok
    simp only [wpc] at h
    unfold condW at h
    split at h
    · rename_i b hb
      have hv := ev_rel hR.2 hR.1.glob c _ hb
      have hc : a.eval c = .bool b := by revert hv; cases a.eval c <;> intro q <;> cases q; rfl
      refine .step (st_cond hc) ?_
      cases b with
      | true => exact ihx _ K s hok.1 (by simpa using h) j a cs w k hR hK
      | false => exact ihy _ K s hok.2 (by simpa using h) j a cs w k hR hK
    · exact h.elim
  | block id c ih =>
    intro ann K s hok h j a cs w k hR hK
    simp only [okCode] at hok
    simp only [wpc] at h
    refine .step st_block (ih _ _ s hok h j a cs w _ hR ?_)
    intro x s' j' a' cs' w' hx hR'
    cases x with
    | normal => exact .step st_inBlock (hK .normal s' j' a' cs' w' hx hR')
    | exit id' =>
      simp only [Kont.block] at hx
      split at hx
      · rename_i hid
        subst hid
        refine ⟨fun k' hk => ?_, fun hn => ?_⟩
        · simp [exitTo] at hk; subst hk; exact hK .normal s' j' a' cs' w' hx hR'
        · simp [exitTo] at hn
      · rename_i hid
        have hA := hK _ s' j' a' cs' w' hx hR'
        have he : exitTo id' (.inBlock id :: k) = exitTo id' k := by
          have : (id == id') = false := by simp; exact fun e => hid e.symm
          simp [exitTo, this]
        exact ⟨fun k' hk => hA.1 k' (by rw [← he]; exact hk), fun hn => hA.2 (by rw [← he]; exact hn)⟩
    | ret => exact hK .ret s' j' a' cs' w' hx hR'
    | panic ch => exact hK (.panic ch) s' j' a' cs' w' hx hR'
  | scope c ih =>
    intro ann K s hok h j a cs w k hR hK
    simp only [okCode] at hok
    simp only [wpc] at h
    refine .step st_scope (ih _ _ s hok h j a cs w _ hR ?_)
    intro x s' j' a' cs' w' hx hR'
    cases x with
    | normal => exact .step st_inScope (hK .normal s' j' a' cs' w' hx hR')
    | exit id => exact After.pass (by simp) (fun id => rfl) (hK _ s' j' a' cs' w' hx hR')
    | ret => exact After.pass (by simp) (fun id => rfl) (hK _ s' j' a' cs' w' hx hR')
    | panic ch => exact After.pass (by simp) (fun id => rfl) (hK _ s' j' a' cs' w' hx hR')
  | loop c ih =>
    intro ann K s hok h j a cs w k hR hK
    simp only [okCode] at hok
    simp only [wpc] at h
    have hX := h (fun s => ∀ j a cs w, Rel X j s a cs w → Ends P G (lone (mk X.b a (.code c :: .inLoop c :: k)) cs w)) (by
      intro s hs j a cs w hR
      have hR' : Rel X j (keepA ann s) a cs w := by
        cases ann with
        | leaf => exact hR
        | node live _ _ => exact hR.keep live
      refine ih _ _ _ hok hs j a cs w _ hR' ?_
      intro x s' j' a' cs' w' hx hR'
      cases x with
      | normal => exact .step st_inLoop (hx j' a' cs' w' hR')
      | exit id => exact After.pass (by simp) (fun id => rfl) (hK _ s' j' a' cs' w' hx hR')
      | ret => exact After.pass (by simp) (fun id => rfl) (hK _ s' j' a' cs' w' hx hR')
      | panic ch => exact After.pass (by simp) (fun id => rfl) (hK _ s' j' a' cs' w' hx hR'))
      (fun s s' hgc hs' j a cs w hR => by
        obtain ⟨j', hR'⟩ := hR.gc hgc
        exact hs' j' a cs w hR')
    exact .step st_loop (hX j a cs w hR)
  | exit id =>
    intro ann K s _ h j a cs w k hR hK
    have := hK (.exit id) s j a cs w h hR
    cases he : exitTo id k with
    | some k' => exact .step (st_exit he) (this.1 k' he)
    | none => exact this.2 he k he
  | ret => intro ann K s _ h j a cs w k hR hK; exact hK .ret s j a cs w h hR k
  | region id ops draw =>
    intro ann K s hok h j a cs w k hR hK
    cases draw with
    | true =>
      exact draw_sound hm hok hR h (fun s' j' a' cs' w' h1 h2 => hK .normal s' j' a' cs' w' h1 h2) (fun ch s' j' ch' a' cs' w' k' h1 h2 h3 => hK (.panic ch) s' j' a' cs' w' h1 h2 k' ch' h3)
    | false =>
      refine .step st_region ?_
      have := opsW_sound (P := P) (X := X) (ops := ops) (k := k) (G := G) (kk := K .normal) (pan := fun ch => K (.panic ch)) (fun s' j' a' cs' w' h1 h2 => hK .normal s' j' a' cs' w' h1 h2)
        (fun ch s' j' ch' a' cs' w' k' h1 h2 h3 => hK (.panic ch) s' j' a' cs' w' h1 h2 k' ch' h3) ops.toList [] rfl s j a cs w hR h
      rw [List.range_eq_range']
      simpa using this
  | rangeFunc f ps x y =>
    intro ann K s _ h j a cs w k hR hK
    simp only [wpc] at h
    unfold rangeW at h
    split at h
    · exact h.elim
    · rename_i hu
      split at h
      · rename_i g first cap hf
        have hro : X.b.roundOf = none := hR.1.um.roundOf hu
        have hv := ev_rel hR.2 hR.1.glob f _ hf
        obtain ⟨x', y', hv', hx', hy'⟩ : ∃ x' y', a.eval f = .func (.func g) x' y' ∧ LR j first.toList x'.toList ∧ LR j cap.toList y'.toList := by
          cases hc : a.eval f with
          | func fn x y =>
            rw [hc] at hv
            cases hv with
            | func _ h1 h2 h3 h4 => exact ⟨_, _, rfl, AR.toLR ⟨h1, h2⟩, AR.toLR ⟨h3, h4⟩⟩
          | _ => rw [hc] at hv; cases hv
        obtain ⟨hbody, h⟩ := h
        obtain ⟨hcall, hspec⟩ : Spec P X.gs g _ _ _ := h.resolve_right fun hx => by have := hx.1; rw [hbody] at this; cases this
        let w1 : World := { w with heap := w.heap.push (.deferred (some [])) }
        let lp : Loop := { state := .ready, pending := none, fn := X.b.fn, tmps := a.tmps, params := ps, assign := x, body := y, defers := w.heap.size }
        let w2 : World := { w1 with heap := w1.heap.push (.loop lp) }
        have henter : (Instr.enterLoop X.b.fn a.tmps ps x y X.b.roundOf).run P w = .ok (w.heap.size + 1, [{ target := .collected w.heap.size, args := #[] }]) w2 := by
          rw [hro]
          simp [Instr.enterLoop, newObj, Sem.run, w2, w1, lp]
        have hres : (resolve a.eval { callee := .value f, args := #[.const (.func (.yield (w.heap.size + 1)) #[] #[])], argTypes := #[] } 0).run P w2 =
            .ok { target := .fn (.func g) y', args := x' ++ #[.func (.yield (w.heap.size + 1)) #[] #[]] } w2 := by
          show (Deferred.ofValue (a.eval f) (#[.const (.func (.yield (w.heap.size + 1)) #[] #[])].map a.eval)).run P w2 = _
          rw [hv']
          simp [Deferred.ofValue, Act.eval]
        have hinv : (invoke (.fn (.func g) y') (x' ++ #[.func (.yield (w.heap.size + 1)) #[] #[]])).run P w2 = .ok (.enter g (x' ++ #[.func (.yield (w.heap.size + 1)) #[] #[]] ++ y')) w2 := run_callFunc hcall _ w2
        let Lq : Loc := ⟨w.heap.size, 0, 0, 0, 0⟩
        let Ll : Loc := ⟨w.heap.size + 1, 0, 0, 0, 0⟩
        have hw1 : w1.heap[w.heap.size]? = some (.deferred (some [])) := by
          show (w.heap.push (.deferred (some [])))[w.heap.size]? = _
          simp
        have hw2 : w2.heap[w.heap.size + 1]? = some (.loop lp) := by
          show ((w.heap.push (.deferred (some []))).push (.loop lp))[w.heap.size + 1]? = _
          rw [Array.getElem?_push]
          simp
        have S1 : Sim X.F X.w0 (j.put s.h.length Lq) (s.h ++ [.spec .defq]) w1 := hR.1.sim.new (L := Lq) rfl _ ⟨rfl, rfl, rfl⟩ rfl ⟨rfl, _, hw1, rfl⟩
        have hx1 : j.ext s.h.length (j.put s.h.length Lq) := Inj.put_ext hR.1.sim.fresh (Nat.le_refl _)
        have hlen1 : (s.h ++ [AObj.spec .defq]).length = s.h.length + 1 := by simp
        have hq1 : (j.put s.h.length Lq) s.h.length = some Lq := Inj.put_same _ _ _
        have hx2 : (j.put s.h.length Lq).ext (s.h.length + 1) ((j.put s.h.length Lq).put (s.h ++ [AObj.spec .defq]).length Ll) := Inj.put_ext S1.fresh (by simp)
        have S2 := S1.new (L := Ll) (by simp [Ll, w1]) (.spec (.loop s.e X.n P.funcs.size ps.toList x y .ready none s.h.length)) (w' := w2) ⟨rfl, rfl, rfl⟩ rfl
          ⟨rfl, _, hw2, X.b.fn, a.tmps, Lq, hfn, rfl, hR.2.mono (Inj.le_trans hx1.1 hx2.1), hx2.1 _ _ hq1⟩
        rw [hlen1] at S2 hx2
        have hx12 : j.ext s.h.length ((j.put s.h.length Lq).put (s.h.length + 1) Ll) := Inj.ext_trans hx1 (by omega) hx2
        have hl2 : ((j.put s.h.length Lq).put (s.h.length + 1) Ll) (s.h.length + 1) = some Ll := Inj.put_same _ _ _
        have harg : LR ((j.put s.h.length Lq).put (s.h.length + 1) Ll) (first.toList ++ (.func (.yield (s.h.length + 1)) #[] #[] :: cap.toList)) (x' ++ #[Value.func (Fn.yield (w.heap.size + 1)) #[] #[]] ++ y').toList := by
          simp only [Array.toList_append, List.append_assoc]
          exact (hx'.mono hx12.1).app (.cons (VR.yield hl2) (hy'.mono hx12.1))
        refine .step (st_rangeFunc henter hres hinv) ?_
        refine hspec G X.F X.w0 _ w2 _ _ S2 harg (hR.1.glob.mono hx12.1) ?_
        intro r h' j' w' fr hq hx hl hS hlv
        simp only [List.length_append, List.length_singleton] at hx hl
        have hxj : j.ext s.h.length j' := Inj.ext_trans hx12 (by omega) hx
        have hl' : j' (s.h.length + 1) = some Ll := hx.1 _ _ hl2
        have hq' : j' s.h.length = some Lq := hx.1 _ _ (hx2.1 _ _ hq1)
        have hrel : ∀ (h2 : AHeap) (w2 : World), Sim X.F X.w0 j' h2 w2 → s.h.length ≤ h2.length → Rel X j' { s with ds := .mark s.h.length :: s.ds, h := h2 } ⟨a.tmps, { target := .collected w.heap.size, args := #[] } :: a.defers⟩ cs w2 := fun h2 w2 S2 hl2 =>
          ⟨⟨S2, .mark hq' rfl (hR.1.ds.mono hxj.1), hR.1.um.mono hxj.1, hR.1.callers, hR.1.norm, hR.1.glob.mono hxj.1, Inj.ext_trans hR.1.ext hR.1.len hxj, Nat.le_trans hR.1.len hl2⟩, hR.2.mono hxj.1⟩
        cases r with
        | ret v =>
          obtain ⟨l1, l2, l3, l4, l5, fn, v', l6, l7, l8⟩ := hlv
          have hstep := step_leave_returned (P := P) (fr := fr) (c := mk X.b ⟨a.tmps, [{ target := .collected w.heap.size, args := #[] }] ++ a.defers⟩ (.inRangeFunc (w.heap.size + 1) :: k)) (cs := cs) (w := w') (v := v') ⟨l2, l3, l4, fn, l6, l7⟩
          rw [mk_finish_range] at hstep
          refine .step hstep ?_
          obtain ⟨jump, w3, k1, k2, k3⟩ := endLoop_sim (P := P) (s := { s with ds := .mark s.h.length :: s.ds, h := h' }) hS hl' hq
          refine .step (st_endRange k1) ?_
          have hR3 := hrel _ w3 k2 (by simp; omega)
          cases jump with
          | none => exact hK .normal _ j' _ cs w3 k3 hR3
          | some c =>
            cases c with
            | ret => exact hK .ret _ j' _ cs w3 k3 hR3 k
            | exit id =>
              have := hK (.exit id) _ j' _ cs w3 k3 hR3
              cases he : exitTo id k with
              | some k' => exact .step (st_exit he) (this.1 k' he)
              | none => exact this.2 he k he
            | _ => exact k3.elim
        | pan ch =>
          obtain ⟨l1, ch', l2, l3, l4, l5, ⟨fn, l6⟩, l7⟩ := hlv
          have hstep := step_leave_panicked (P := P) (fr := fr) (c := mk X.b ⟨a.tmps, [{ target := .collected w.heap.size, args := #[] }] ++ a.defers⟩ (.inRangeFunc (w.heap.size + 1) :: k)) (cs := cs) (w := w') (chain := ch') ⟨l2, l3, fn, l6⟩
          exact .step hstep (hK (.panic ch) _ j' _ cs w' hq (hrel h' w' hS (by omega)) _ ch' l7)
      · exact h.elim
  | goto l => intro ann K s _ h; exact h.elim
  | refuse y => intro ann K s _ h; exact h.elim

/-- a round's contract, out of its loop's record -/
theorem specY_of (hm : P.follows .mixedOrders = true) {gs : List Nat} {l : Nat} {args : List Value} {h : AHeap} {Q : Res → AHeap → Prop} (hw : yieldW P gs (SpecC P gs) l args h Q) : SpecY P gs l args h Q := by
  intro G F w0 j w args' c cs L S hA hg hj hr hp
  unfold yieldW at hw
  split at hw
  · rename_i e n m ps x y st pd dq hl
    obtain ⟨hchk, hwp⟩ := hw
    simp only [Bool.and_eq_true, Nat.beq_eq] at hchk
    obtain ⟨c1, c2, c3, c4, c5⟩ := hchk
    have ho := S.obj l L hj
    rw [hl] at ho
    obtain ⟨hoff, y0, hy, fn, tmps, Lq, hfn, rfl, hE, hq⟩ := ho
    have hsz : args'.size = ps.length := by rw [← c1]; simpa using hA.length.symm
    refine ⟨fn, (ps.zip args'.toList).foldl (fun tmps (t, a) => tmps.setIfInBounds t a) tmps, x, y, ?_, ?_⟩
    · have hz : (ps.toArray.zip args').foldl (fun tmps (t, a) => tmps.setIfInBounds t a) tmps = (ps.zip args'.toList).foldl (fun tmps (t, a) => tmps.setIfInBounds t a) tmps := by
        rw [← Array.foldl_toList]; simp
      simp only [Instr.yield, Sem.run_bind, run_getLoop hy, Result.andThen_ok]
      rw [if_neg (by simp [hsz])]
      simp only [Sem.run_pure, hz]
    · let b : Frame := { fn := fn, tmps := #[], todo := [], defers := [], mode := .run, kind := .normal, roundOf := some L.blk }
      let X : Cx := { F, w0, j0 := j, h0 := h, cs0 := c :: cs, b, n, gs, dom := S.dom }
      have hfn' : X.b.fn < P.funcs.size := by rw [← c2]; exact hfn
      have hR : Rel X j ⟨putAll ps args e, [], h, .round⟩ ⟨(ps.zip args'.toList).foldl (fun tmps (t, a) => tmps.setIfInBounds t a) tmps, []⟩ (c :: cs) w :=
        ⟨⟨S, .nil, rfl, .inl rfl, fun _ => rfl, hg, j.ext_refl _, Nat.le_refl _⟩, putAll_env hE hA c3⟩
      have hround : ∀ {s' : St} {j' : Inj} {cs' : List Frame}, UR j' s'.u X.b cs' → s'.u = .round := by
        intro s' j' cs' hum
        cases hu : s'.u with
        | norm => rw [hu] at hum; simp [UR, X, b] at hum
        | round => rfl
        | ret => rw [hu] at hum; simp [UR, X, b] at hum
        | pan ch => rw [hu] at hum; simp [UR, X, b] at hum
      have hpan : ∀ (s' : St) (j' : Inj) (a' : Act) (w' : World) (ch : Chain), (match s'.ds with | [] => Q (.pan ch) s'.h | _ => False) → Rel X j' s' a' (c :: cs) w' → ∀ k' ch', ChR j' ch ch' →
          Ends P G (lone { mk b a' k' with mode := .panicking ch' } (c :: cs) w') := by
        intro s' j' a' w' ch hq hR' k' ch' hch
        split at hq
        · rename_i hds
          have hdf : a'.defers = [] := by
            have hd := hR'.1.ds
            rw [hds] at hd
            revert hd; generalize a'.defers = q; intro hd; cases hd; rfl
          have hf : ∃ f, P.funcs[fn]? = some f := ⟨_, Array.getElem?_eq_getElem hfn'⟩
          obtain ⟨f, hf⟩ := hf
          have hstep := step_leave_panicked (P := P) (fr := { mk b a' k' with mode := .panicking ch' }) (c := c) (cs := cs) (w := w') (chain := ch') ⟨rfl, hdf, f, hf⟩
          exact .step hstep (hp ch s'.h j' w' ch' hq hR'.1.ext hR'.1.len hR'.1.sim hch)
        · exact hq.elim
      refine wpc_sound hm hfn' (X := X) (G := G) x .leaf _ _ c4 hwp j _ (c :: cs) w [.beginRound, .code y] hR ?_
      intro z s1 j1 a1 cs1 w1 hz hR1
      have hcs1 : cs1 = c :: cs := hR1.1.norm (.inr (hround hR1.1.um))
      subst hcs1
      have hj1 : j1 l = some L := hR1.1.ext.1 _ _ hj
      cases z with
      | normal =>
        obtain ⟨h2, hb, hk⟩ := bnd_some' hz
        obtain ⟨w2, k1, k2, k3⟩ := beginRound_sim (P := P) hR1.1.sim hj1 hb
        refine .step (st_beginRound rfl k1) ?_
        have hR2 : Rel X j1 { s1 with h := h2 } a1 (c :: cs) w2 := ⟨hR1.1.go (j1.ext_refl _) (by simp [k3]) k2 rfl rfl, hR1.2⟩
        refine wpc_sound hm hfn' (X := X) (G := G) y .leaf _ _ c5 hk j1 _ (c :: cs) w2 [] hR2 ?_
        intro z s3 j3 a3 cs3 w3 hz hR3
        have hcs3 : cs3 = c :: cs := hR3.1.norm (.inr (hround hR3.1.um))
        subst hcs3
        have hj3 : j3 l = some L := hR3.1.ext.1 _ _ hj
        cases z with
        | normal =>
          obtain ⟨h4, hb, hk⟩ := bnd_some' hz
          obtain ⟨w4, k1, k2, k3⟩ := endRound_sim (P := P) (jump := none) hR3.1.sim hj3 hb
          exact .step (st_roundEnd rfl rfl k1) (hr _ h4 j3 w4 _ hk hR3.1.ext (by rw [k3]; exact hR3.1.len) k2 (.bool _))
        | ret =>
          intro k'
          obtain ⟨h4, hb, hk⟩ := bnd_some' hz
          obtain ⟨w4, k1, k2, k3⟩ := endRound_sim (P := P) (jump := some .ret) hR3.1.sim hj3 hb
          exact .step (st_roundRet rfl rfl k1) (hr _ h4 j3 w4 _ hk hR3.1.ext (by rw [k3]; exact hR3.1.len) k2 (.bool _))
        | exit id =>
          refine ⟨fun k' hk' => by simp [exitTo] at hk', fun _ k' hk' => ?_⟩
          obtain ⟨h4, hb, hk⟩ := bnd_some' hz
          obtain ⟨w4, k1, k2, k3⟩ := endRound_sim (P := P) (jump := some (.exit id)) hR3.1.sim hj3 hb
          exact .step (st_roundExit rfl rfl hk' k1) (hr _ h4 j3 w4 _ hk hR3.1.ext (by rw [k3]; exact hR3.1.len) k2 (.bool _))
        | panic ch => exact hpan s3 j3 a3 w3 ch hz hR3
      | panic ch => exact hpan s1 j1 a1 w1 ch hz hR1
      | ret => exact hz.elim
      | exit id => exact hz.elim
  · exact hw.elim

end Go.Fm

namespace Go.Fm

/-- the contract of a deferred call: what it does, too, to the mode of whose call it is -/
abbrev DSpec := FuncId → List Value → AHeap → UMode → (Res → UMode → AHeap → Prop) → Prop

def modeR (j : Inj) (u : UMode) (m : FrameMode) : Prop :=
  match u with
  | .ret => m = .returning
  | .pan ch => ∃ ch', m = .panicking ch' ∧ ChR j ch ch'
  | _ => False

def SpecD (P : Program) (gs : List Nat) : DSpec := fun f args h u Q =>
  Callable P f ∧
  ∀ (G : Machine → Prop) (F : Nat → Nat → Prop) (w0 : World) (j : Inj) (w : World) (args' : Array Value) (c : Frame) (cs : List Frame), Sim F w0 j h w → LR j args args'.toList → GlobR gs j → modeR j u c.mode →
    (∀ r u' h' j' w' fr m', Q r u' h' → j.ext h.length j' → h.length ≤ h'.length → Sim F w0 j' h' w' → modeR j' u' m' → LeavesAs P f .deferred fr w' j' r → Ends P G (lone fr ({ c with mode := m' } :: cs) w')) →
    Ends P G (lone (Frame.enter P f args' .deferred) (c :: cs) w)

def settleU : UMode → UMode
  | .pan ((_, true) :: _) => .ret
  | u => u

def raisedU (u : UMode) (ch : Chain) : UMode :=
  match u with
  | .pan old => .pan (ch ++ old)
  | _ => .pan ch

section
variable (P : Program) (gs : List Nat)

def resL (e : AEnv) (h : AHeap) : List ResultVar → Option (List Value)
  | [] => some []
  | .tmp t :: r => (e.get t).bind fun v => (resL e h r).map (v :: ·)
  | .cell a t :: r => (e.get a).bind fun p => (aLoad P t p h).bind fun v => (resL e h r).map (v :: ·)

def tupleOf : List Value → Value
  | [v] => v
  | l => .tuple l.toArray

def leaveW (D : DSpec) (rs : List ResultVar) (e : AEnv) : List ADef → UMode → AHeap → (Res → AHeap → Prop) → Prop
  | [], .ret, h, Q => bnd (resL P e h rs) fun l => Q (.ret (tupleOf l)) h
  | [], .pan ch, h, Q => Q (.pan ch) h
  | [], _, _, _ => False
  | .call f as :: ds, u, h, Q => D f as h u fun r u' h' => match r with
    | .ret _ => leaveW D rs e ds (settleU u') h' Q
    | .pan ch => leaveW D rs e ds (raisedU u' ch) h' Q
  | .mark q :: ds, u, h, Q => match h[q]? with
    | some (.spec .defq) => leaveW D rs e ds u (h.set q (.spec .over)) Q
    | _ => False

def fnKont (D : DSpec) (rs : List ResultVar) (Q : Res → UMode → AHeap → Prop) : Kont
  | .normal, s | .ret, s => leaveW P D rs s.e s.ds .ret s.h fun r h => Q r s.u h
  | .panic ch, s => leaveW P D rs s.e s.ds (.pan ch) s.h fun r h => Q r s.u h
  | .exit _, _ => False

def initE : List Value → Nat → AEnv
  | [], _ => []
  | v :: r, i => (i, v) :: initE r (i + 1)

def fnW (fn : Func) (c : Code) (ann : Ann) (args : List Value) (h : AHeap) (u : UMode) (Q : Res → UMode → AHeap → Prop) : Prop :=
  wpc P gs fn.ntmps (SpecC P gs) h.length c ann (fnKont P (SpecD P gs) fn.results.toList Q) ⟨initE args 0, [], h, u⟩

end

variable {P : Program} {gs : List Nat}

def resSem (tmps : Array Value) : ResultVar → Sem Value
  | .tmp t => pure (tmps.getD t undef)
  | .cell a t => do loadVar t (← asAddr (tmps.getD a undef))

theorem resL_sim {F : Nat → Nat → Prop} {w0 w : World} {j : Inj} {h : AHeap} (S : Sim F w0 j h w) {n : Nat} {e : AEnv} {tmps : Array Value} (hE : EnvR j n e tmps) : ∀ {rs : List ResultVar} {l : List Value}, resL P e h rs = some l →
    ∃ l', LR j l l' ∧ (rs.mapM (resSem tmps)).run P w = .ok l' w
  | [], l, hl => by simp [resL] at hl; subst hl; exact ⟨[], .nil, rfl⟩
  | .tmp t :: r, l, hl => by
    obtain ⟨v, hv, hl⟩ := bind_some' hl
    obtain ⟨l0, h0, h1⟩ := Option.map_eq_some_iff.1 hl
    subst h1
    obtain ⟨v', e1, e2⟩ := hE.2 t v hv
    obtain ⟨l', k1, k2⟩ := resL_sim S hE h0
    refine ⟨v' :: l', .cons e2 k1, ?_⟩
    have hr : (resSem tmps (.tmp t)).run P w = .ok v' w := by
      show Result.ok (tmps.getD t undef) w = _
      rw [Array.getD_eq_getD_getElem?, e1]; rfl
    simp only [List.mapM_cons, Sem.run_bind, hr, Result.andThen_ok, k2, Sem.run_pure]
  | .cell a t :: r, l, hl => by
    obtain ⟨p, hp, hl⟩ := bind_some' hl
    obtain ⟨v, hv, hl⟩ := bind_some' hl
    obtain ⟨l0, h0, h1⟩ := Option.map_eq_some_iff.1 hl
    subst h1
    obtain ⟨p', e1, e2⟩ := hE.2 a p hp
    obtain ⟨l', k1, k2⟩ := resL_sim S hE h0
    obtain ⟨v', q1, q2⟩ := aLoad_sim S e2 hv
    refine ⟨v' :: l', .cons q1 k1, ?_⟩
    have hp' : ∃ ad, p' = .pointer (some ad) := by
      unfold aLoad at hv
      split at hv
      · cases e2; exact ⟨_, rfl⟩
      · simp at hv
    obtain ⟨ad, rfl⟩ := hp'
    have q3 : (loadVar t ad).run P w = .ok v' w := by simpa [Instr.loadAt, Instr.sureAddr] using q2
    have hr : (resSem tmps (.cell a t)).run P w = .ok v' w := by
      have hg : tmps.getD a undef = .pointer (some ad) := by rw [Array.getD_eq_getD_getElem?, e1]; rfl
      simp only [resSem, hg, asAddr, Sem.run_bind, Sem.run_pure, Result.andThen_ok, q3]
    simp only [List.mapM_cons, Sem.run_bind, hr, Result.andThen_ok, k2, Sem.run_pure]

theorem results_sim {F : Nat → Nat → Prop} {w0 w : World} {j : Inj} {h : AHeap} (S : Sim F w0 j h w) {n : Nat} {e : AEnv} {tmps : Array Value} (hE : EnvR j n e tmps) {fn : Func} {l : List Value} (hl : resL P e h fn.results.toList = some l) :
    ∃ v', VR j (tupleOf l) v' ∧ (results fn tmps).run P w = .ok v' w := by
  obtain ⟨l', h1, h2⟩ := resL_sim S hE hl
  have hres : results fn tmps = (do let vs ← fn.results.mapM (resSem tmps); pure (if h : vs.size = 1 then vs[0] else .tuple vs)) := by
    unfold results
    congr 1
  have hrun : (results fn tmps).run P w = .ok (if hz : l'.toArray.size = 1 then l'.toArray[0] else .tuple l'.toArray) w := by
    rw [hres]
    have hm : (fn.results.mapM (resSem tmps)).run P w = .ok l'.toArray w := by
      rw [← Array.toArray_toList (xs := fn.results), List.mapM_toArray, ← bind_pure_comp]
      simp only [Sem.run_bind, h2, Result.andThen_ok, Sem.run_pure]
    simp only [Sem.run_bind, hm, Result.andThen_ok, Sem.run_pure]
  cases h1 with
  | nil => exact ⟨.tuple #[], VR.tuple' .nil, by rw [hrun]; rfl⟩
  | cons hv hr =>
    cases hr with
    | nil => exact ⟨_, hv, by rw [hrun]; simp⟩
    | cons hv2 hr2 =>
      refine ⟨_, VR.tuple' (.cons hv (.cons hv2 hr2)), ?_⟩
      rw [hrun, dif_neg (by simp)]

theorem settle_modeR {j : Inj} {u : UMode} {m : FrameMode} (h : modeR j u m) : modeR j (settleU u) (settle m) := by
  cases u with
  | norm => exact h.elim
  | round => exact h.elim
  | ret => have : m = .returning := h; subst this; rfl
  | pan ch =>
    obtain ⟨ch', rfl, hc⟩ := h
    cases hc with
    | nil => exact ⟨[], rfl, .nil⟩
    | cons hv hr =>
      rename_i v v' r l l'
      cases r with
      | false => exact ⟨_, rfl, .cons hv hr⟩
      | true =>
        have hd : ∀ {x : Chain} {x' : List PanicEntry}, ChR j x x' → x'.dropWhile (!·.goexit) = [] := by
          intro x x' hx
          induction hx with
          | nil => rfl
          | cons _ _ ih => simp [ih]
        simp only [settleU, settle, hd hr]
        rfl

theorem raised_modeR {j : Inj} {u : UMode} {m : FrameMode} (h : modeR j u m) {ch : Chain} {ch' : List PanicEntry} (hc : ChR j ch ch') : modeR j (raisedU u ch) (raised m ch') := by
  cases u with
  | norm => exact h.elim
  | round => exact h.elim
  | ret => have : m = .returning := h; subst this; exact ⟨ch', rfl, hc⟩
  | pan old =>
    obtain ⟨old', rfl, ho⟩ := h
    have key : ∀ {x : Chain} {x' : List PanicEntry}, ChR j x x' → ChR j (x ++ old) (x' ++ old') := by
      intro x x' hx
      induction hx with
      | nil => exact ho
      | cons hv _ ih => exact .cons hv ih
    exact ⟨ch' ++ old', rfl, key hc⟩

theorem modeR.mono {j j' : Inj} (hj : j.le j') {u : UMode} {m : FrameMode} (h : modeR j u m) : modeR j' u m := by
  cases u with
  | norm => exact h
  | round => exact h
  | ret => exact h
  | pan ch => obtain ⟨ch', h1, h2⟩ := h; exact ⟨ch', h1, h2.mono hj⟩

theorem st_takeDeferred {fr : Frame} {cs : List Frame} {w w' : World} {d : Deferred} {l' : List Deferred} {B : Nat} (hm : fr.mode ≠ .run) (hd : fr.defers = d :: l') (ht : d.target = .collected B)
    (hr : (Instr.takeDeferred B).run P w = .ok [] w') : step P (lone fr cs w) = .next (lone { fr with defers := l' } cs w') := by
  obtain ⟨tg, as⟩ := d
  simp only at ht
  subst ht
  refine step_lone_go ?_
  cases hmode : fr.mode with
  | run => exact absurd hmode hm
  | returning => simp [stepG, hmode, unwind, hd, Sem.runT_eq, hr, GStep.bare_after]
  | panicking ch => simp [stepG, hmode, unwind, hd, Sem.runT_eq, hr, GStep.bare_after]

/-- a frame's deferred calls, then its end -/
theorem leave_sound {G : Machine → Prop} {F : Nat → Nat → Prop} {w0 : World} {fn : Func} {kd : CallKind} {f : FuncId} {e : AEnv} {n : Nat} {j0 : Inj} {h0 : AHeap} {Q : Res → AHeap → Prop} {cs : List Frame}
    (hQ : ∀ r h' j' w' fr, Q r h' → j0.ext h0.length j' → h0.length ≤ h'.length → Sim F w0 j' h' w' → LeavesAs P f kd fr w' j' r → Ends P G (lone fr cs w')) :
    ∀ (ds : List ADef) (u : UMode) (h : AHeap), leaveW P (SpecD P gs) fn.results.toList e ds u h Q → ∀ (fr : Frame) (j : Inj) (w : World), modeR j u fr.mode → DsR j ds fr.defers → EnvR j n e fr.tmps → P.funcs[fr.fn]? = some fn →
      fr.fn = f → fr.kind = kd → fr.roundOf = none → Sim F w0 j h w → GlobR gs j → j0.ext h0.length j → h0.length ≤ h.length → Ends P G (lone fr cs w)
  | [], u, h, hl, fr, j, w, hm, hd, hE, hfn, hf, hk, hr, S, hg, hx, hlen => by
    have hdef : fr.defers = [] := by
      revert hd; generalize fr.defers = q; intro hd; cases hd; rfl
    cases u with
    | norm => exact hm.elim
    | round => exact hm.elim
    | ret =>
      obtain ⟨l, h1, h2⟩ := bnd_some' hl
      obtain ⟨v', k1, k2⟩ := results_sim S hE h1
      exact hQ _ h j w fr h2 hx hlen S ⟨hf, hm, hdef, hk, hr, fn, v', hfn, k2, k1⟩
    | pan ch =>
      obtain ⟨ch', h1, h2⟩ := hm
      exact hQ _ h j w fr hl hx hlen S ⟨hf, ch', h1, hdef, hk, hr, ⟨fn, hfn⟩, h2⟩
  | .mark q :: ds, u, h, hl, fr, j, w, hm, hd, hE, hfn, hf, hk, hr, S, hg, hx, hlen => by
    obtain ⟨d, l', L, hdef, t1, t2, t3⟩ : ∃ d l' L, fr.defers = d :: l' ∧ j q = some L ∧ d.target = .collected L.blk ∧ DsR j ds l' := by
      revert hd; generalize fr.defers = q'; intro hd
      cases hd with
      | mark h1 h2 h3 => exact ⟨_, _, _, rfl, h1, h2, h3⟩
    have hrun : fr.mode ≠ .run := by
      cases u with
      | norm => exact hm.elim
      | round => exact hm.elim
      | ret => have : fr.mode = .returning := hm; rw [this]; simp
      | pan ch => obtain ⟨ch', h1, _⟩ := hm; rw [h1]; simp
    simp only [leaveW] at hl
    split at hl
    · rename_i hq
      have ho := S.obj q L t1
      rw [hq] at ho
      obtain ⟨hoff, y, hy, rfl⟩ := ho
      have htake : (Instr.takeDeferred L.blk).run P w = .ok [] { w with heap := w.heap.setIfInBounds L.blk (.deferred none) } := by
        simp only [Instr.takeDeferred, Sem.run_bind, run_getObj' hy (by simp), Result.andThen_ok, run_setObj' hy (by simp), Sem.run_pure]
      have S2 : Sim F w0 j (h.set q (.spec .over)) { w with heap := w.heap.setIfInBounds L.blk (.deferred none) } :=
        obj_turn S t1 hq hy trivial trivial (fun B y => Iff.rfl) (fun B y => Iff.rfl) (fun w' hw' => ⟨hoff, _, hw', by simp [SpecR]⟩)
      refine .step (st_takeDeferred hrun hdef t2 htake) ?_
      exact leave_sound hQ ds u _ hl { fr with defers := l' } j _ hm t3 hE hfn hf hk hr S2 hg hx (by simpa using hlen)
    · exact hl.elim
  | .call g as :: ds, u, h, hl, fr, j, w, hm, hd, hE, hfn, hf, hk, hr, S, hg, hx, hlen => by
    obtain ⟨d, l', hdef, cap, t1, t2, t3, t4⟩ : ∃ d l', fr.defers = d :: l' ∧ ∃ cap : Array Value, d.target = .fn (.func g) cap ∧ LR j as (d.args.toList ++ cap.toList) ∧ DsR j ds l' ∧ True := by
      revert hd; generalize fr.defers = q; intro hd
      cases hd with
      | cons cap h1 h2 h3 h4 => subst h2; exact ⟨_, _, rfl, cap, h1, h3, h4, trivial⟩
    have hrun : fr.mode ≠ .run := by
      cases u with
      | norm => exact hm.elim
      | round => exact hm.elim
      | ret => have : fr.mode = .returning := hm; rw [this]; simp
      | pan ch => obtain ⟨ch', h1, _⟩ := hm; rw [h1]; simp
    simp only [leaveW] at hl
    have hinv : (invoke d.target d.args).run P w = .ok (.enter g (d.args ++ cap)) w := by rw [t1]; exact run_callFunc hl.1 _ w
    refine .step (step_defer hrun hdef t1 hinv) ?_
    refine hl.2 G F w0 j w (d.args ++ cap) { fr with defers := l' } cs S (by simpa using t2) hg hm ?_
    intro r u' h' j' w' frX m' hq hext hl' S' hm' hlv
    have hE' : EnvR j' n e fr.tmps := hE.mono hext.1
    have hx' : j0.ext h0.length j' := Inj.ext_trans hx hlen hext
    cases r with
    | ret v =>
      obtain ⟨l1, l2, l3, l4, l5, fnX, v', l6, l7, l8⟩ := hlv
      have hstep := step_going_returned (P := P) (fr := frX) (c := { { fr with defers := l' } with mode := m' }) (cs := cs) (w := w') l4 ⟨l2, l3, fnX, l6, l7⟩
      refine .step hstep ?_
      exact leave_sound hQ ds (settleU u') h' hq _ j' w' (settle_modeR hm') (t3.mono hext.1) hE' hfn hf hk hr S' (hg.mono hext.1) hx' (by omega)
    | pan ch =>
      obtain ⟨l1, ch', l2, l3, l4, l5, ⟨fnX, l6⟩, l7⟩ := hlv
      have hstep := step_going_panicked (P := P) (fr := frX) (c := { { fr with defers := l' } with mode := m' }) (cs := cs) (w := w') (chain := ch') ⟨l2, l3, fnX, l6⟩
      refine .step hstep ?_
      exact leave_sound hQ ds (raisedU u' ch) h' hq _ j' w' (raised_modeR hm' l7) (t3.mono hext.1) hE' hfn hf hk hr S' (hg.mono hext.1) hx' (by omega)

theorem initE_get : ∀ {args : List Value} {i t : Nat} {v : Value}, (initE args i).get t = some v → i ≤ t ∧ args[t - i]? = some v
  | [], i, t, v, h => by simp [initE, AEnv.get] at h
  | a :: r, i, t, v, h => by
    simp only [initE, AEnv.get_cons] at h
    split at h
    · rename_i hit; subst hit; exact ⟨Nat.le_refl _, by simpa using h⟩
    · obtain ⟨h1, h2⟩ := initE_get h
      exact ⟨by omega, by rw [show t - i = (t - (i + 1)) + 1 by omega]; simpa using h2⟩

theorem st_end {b : Frame} {a : Act} {cs : List Frame} {w : World} (hb : b.roundOf = none) : step P (lone (mk b a []) cs w) = .next (lone { mk b a [] with mode := .returning } cs w) :=
  step_lone_go (by simp [stepG, stepG.exec, mk, hb])
theorem st_ret {b : Frame} {a : Act} {k : List Item} {cs : List Frame} {w : World} (hb : b.roundOf = none) : step P (lone (mk b a (.code .ret :: k)) cs w) = .next (lone { mk b a (.code .ret :: k) with mode := .returning } cs w) :=
  step_lone_go (by simp [stepG, stepG.exec, mk, hb])

theorem init_env {j : Inj} {args : List Value} {args' : Array Value} (ha : LR j args args'.toList) {n : Nat} (hn : args.length ≤ n) : EnvR j n (initE args 0) (args' ++ Array.replicate (n - args'.size) undef) := by
  have hl : args'.size = args.length := by simpa using ha.length.symm
  refine ⟨by simp; omega, fun t v ht => ?_⟩
  obtain ⟨_, h2⟩ := initE_get ht
  simp only [Nat.sub_zero] at h2
  obtain ⟨v', h3, h4⟩ := ha.get h2
  have hlt : t < args'.size := by rw [hl]; exact (List.getElem?_eq_some_iff.1 h2).1
  exact ⟨v', by rw [Array.getElem?_append_left hlt]; simpa using h3, h4⟩

/-- a contract, out of the function's body -/
theorem spec_of_body (hm : P.follows .mixedOrders = true) {f : FuncId} {fn : Func} {c : Code} (ann : Ann) (hf : P.funcs[f]? = some fn) (hb : fn.body = some c) (hname : (fn.name == "runtime.NumGoroutine") = false)
    (hok : okCode P fn.ntmps c = true) {args : List Value} (ha : args.length ≤ fn.ntmps) {h : AHeap} {Q : Res → AHeap → Prop}
    (hw : fnW P gs fn c ann args h .norm fun r _ h' => Q r h') : Spec P gs f args h Q := by
  refine ⟨⟨fn, hf, by rw [hb]; rfl, hname⟩, ?_⟩
  intro G F w0 j w args' cs S hA hg hK
  let b : Frame := { fn := f, tmps := #[], todo := [], defers := [], mode := .run, kind := .normal, roundOf := none }
  have henter : Frame.enter P f args' .normal = mk b ⟨args' ++ Array.replicate (fn.ntmps - args'.size) undef, []⟩ [.code c] := by
    simp [Frame.enter, mk, hf, hb, b]
  rw [henter]
  let X : Cx := { F, w0, j0 := j, h0 := h, cs0 := cs, b, n := fn.ntmps, gs, dom := S.dom }
  have hR : Rel X j ⟨initE args 0, [], h, .norm⟩ ⟨args' ++ Array.replicate (fn.ntmps - args'.size) undef, []⟩ cs w :=
    ⟨⟨S, .nil, ⟨rfl, rfl⟩, .inl rfl, fun _ => rfl, hg, j.ext_refl _, Nat.le_refl _⟩, init_env hA ha⟩
  refine wpc_sound hm (X := X) (Array.getElem?_eq_some_iff.1 hf).1 (G := G) c ann _ _ hok hw j _ cs w [] hR ?_
  intro x s' j' a' cs' w' hx hR'
  have hleave : ∀ (u : UMode) (todo : List Item) (m : FrameMode), leaveW P (SpecD P gs) fn.results.toList s'.e s'.ds u s'.h (fun r h => Q r h) → modeR j' u m → s'.u = .norm → Ends P G (lone { mk b a' todo with mode := m } cs' w') := by
    intro u todo m hl hm' hu
    have hcs : cs' = cs := hR'.1.norm (.inl hu)
    subst hcs
    exact leave_sound (n := fn.ntmps) (kd := .normal) (f := f) hK s'.ds u s'.h hl _ j' w' hm' hR'.1.ds hR'.2 hf rfl rfl rfl hR'.1.sim hR'.1.glob hR'.1.ext hR'.1.len
  have hnorm : s'.u = .norm := by
    have := hR'.1.um
    cases hu : s'.u with
    | norm => rfl
    | round => rw [hu] at this; simp [UR, X, b] at this
    | ret => rw [hu] at this; simp [UR, X, b] at this
    | pan ch => rw [hu] at this; simp [UR, X, b] at this
  cases x with
  | normal => exact .step (st_end rfl) (hleave .ret [] _ hx rfl hnorm)
  | ret => intro k'; exact .step (st_ret rfl) (hleave .ret _ _ hx rfl hnorm)
  | exit id => exact hx.elim
  | panic ch => intro k' ch' hch; exact hleave (.pan ch) k' _ hx ⟨ch', rfl, hch⟩ hnorm

theorem UR_modeR {j : Inj} {u : UMode} {m : FrameMode} (h : modeR j u m) {b : Frame} (hk : b.kind = .deferred) (hr : b.roundOf = none) {c : Frame} {cs : List Frame} (hc : c.mode = m) : UR j u b (c :: cs) := by
  cases u with
  | norm => exact h.elim
  | round => exact h.elim
  | ret => exact ⟨hk, hr, c, cs, rfl, hc.trans h⟩
  | pan ch => obtain ⟨ch', h1, h2⟩ := h; exact ⟨hk, hr, c, cs, ch', rfl, hc.trans h1, h2⟩

/-- a deferred call's contract, out of the function's body -/
theorem specD_of_body (hm : P.follows .mixedOrders = true) {f : FuncId} {fn : Func} {c : Code} (ann : Ann) (hf : P.funcs[f]? = some fn) (hb : fn.body = some c) (hname : (fn.name == "runtime.NumGoroutine") = false)
    (hok : okCode P fn.ntmps c = true) {args : List Value} (ha : args.length ≤ fn.ntmps) {h : AHeap} {u : UMode} {Q : Res → UMode → AHeap → Prop}
    (hw : fnW P gs fn c ann args h u Q) : SpecD P gs f args h u Q := by
  refine ⟨⟨fn, hf, by rw [hb]; rfl, hname⟩, ?_⟩
  intro G F w0 j w args' c0 cs S hA hg hmode hK
  let b : Frame := { fn := f, tmps := #[], todo := [], defers := [], mode := .run, kind := .deferred, roundOf := none }
  have henter : Frame.enter P f args' .deferred = mk b ⟨args' ++ Array.replicate (fn.ntmps - args'.size) undef, []⟩ [.code c] := by
    simp [Frame.enter, mk, hf, hb, b]
  rw [henter]
  let X : Cx := { F, w0, j0 := j, h0 := h, cs0 := c0 :: cs, b, n := fn.ntmps, gs, dom := S.dom }
  have hun : u ≠ .norm ∧ u ≠ .round := by constructor <;> (intro e; subst e; exact hmode.elim)
  have hR : Rel X j ⟨initE args 0, [], h, u⟩ ⟨args' ++ Array.replicate (fn.ntmps - args'.size) undef, []⟩ (c0 :: cs) w :=
    ⟨⟨S, .nil, UR_modeR hmode rfl rfl rfl, .inl rfl, fun _ => rfl, hg, j.ext_refl _, Nat.le_refl _⟩, init_env hA ha⟩
  refine wpc_sound hm (X := X) (Array.getElem?_eq_some_iff.1 hf).1 (G := G) c ann _ _ hok hw j _ (c0 :: cs) w [] hR ?_
  intro x s' j' a' cs' w' hx hR'
  have hcr : ∃ m', cs' = { c0 with mode := m' } :: cs ∧ modeR j' s'.u m' := by
    have hum := hR'.1.um
    have hcall := hR'.1.callers
    have key : ∀ m', cs' = { c0 with mode := m' } :: cs → modeR j' s'.u m' := by
      intro m' hcs
      cases hu : s'.u with
      | norm => rw [hu] at hum; simp [UR, X, b] at hum
      | round => rw [hu] at hum; simp [UR, X, b] at hum
      | ret =>
        rw [hu] at hum
        obtain ⟨_, _, c1, r1, e1, e2⟩ := hum
        rw [hcs] at e1; injection e1 with e1 e3; subst e1; exact e2
      | pan ch =>
        rw [hu] at hum
        obtain ⟨_, _, c1, r1, ch', e1, e2, e3⟩ := hum
        rw [hcs] at e1; injection e1 with e1 e4; subst e1; exact ⟨ch', e2, e3⟩
    rcases hcall with rfl | ⟨c1, r1, m, e1, e2⟩
    · exact ⟨c0.mode, rfl, key _ rfl⟩
    · injection e1 with e3 e4; subst e3 e4
      exact ⟨m, e2, key m e2⟩
  obtain ⟨m', hcs, hm'⟩ := hcr
  subst hcs
  have hleave : ∀ (uu : UMode) (todo : List Item) (m : FrameMode), leaveW P (SpecD P gs) fn.results.toList s'.e s'.ds uu s'.h (fun r h => Q r s'.u h) → modeR j' uu m → Ends P G (lone { mk b a' todo with mode := m } ({ c0 with mode := m' } :: cs) w') := by
    intro uu todo m hl hmm
    refine leave_sound (n := fn.ntmps) (kd := .deferred) (f := f) (j0 := j') (h0 := s'.h) (Q := fun r h => Q r s'.u h) ?_ s'.ds uu s'.h hl _ j' w' hmm hR'.1.ds hR'.2 hf rfl rfl rfl hR'.1.sim hR'.1.glob (j'.ext_refl _) (Nat.le_refl _)
    intro r h2 j2 w2 fr2 hq hx2 hl2 S2 hlv2
    exact hK r s'.u h2 j2 w2 fr2 m' hq (Inj.ext_trans hR'.1.ext hR'.1.len hx2) (Nat.le_trans hR'.1.len hl2) S2 (hm'.mono hx2.1) hlv2
  cases x with
  | normal => exact .step (st_end rfl) (hleave .ret [] _ hx rfl)
  | ret => intro k'; exact .step (st_ret rfl) (hleave .ret _ _ hx rfl)
  | exit id => exact hx.elim
  | panic ch => intro k' ch' hch; exact hleave (.pan ch) k' _ hx ⟨ch', rfl, hch⟩

end Go.Fm
