/-
  FmEval2: the preconditions as tests.
-/
import Derived.Test.YtopladipgobpjaaDoorFmEval
namespace Go.Fm

abbrev KontB := AExit → St → Bool
abbrev FSpecB := Callee → List Value → AHeap → (Res → AHeap → Bool) → Bool
abbrev DSpecB := FuncId → List Value → AHeap → UMode → (Res → UMode → AHeap → Bool) → Bool

def bndB {α : Type} (o : Option α) (k : α → Bool) : Bool :=
  match o with
  | some a => k a
  | none => false

def condB (v : Option Value) (t f : Bool) : Bool :=
  match v with
  | some (.bool b) => cond b t f
  | _ => false

def allB : List (Value × AHeap) → (Value → AHeap → Bool) → Bool
  | [], _ => true
  | (v, h) :: r, k => cond (k v h) (allB r k) false

section
variable (P : Program) (gs : List Nat) (n : Nat) (S : FSpecB)

def afterB (s : St) (next : Value → St → Bool) (pan : Chain → St → Bool) : Res → AHeap → Bool
  | .ret v, h => match s with | ⟨e, ds, _, u⟩ => next v ⟨e, ds, h, u⟩
  | .pan ch, h => match s with | ⟨e, ds, _, u⟩ => pan ch ⟨e, ds, h, u⟩

def recoverB (s : St) (next : Value → St → Bool) : Bool :=
  match s with
  | ⟨e, ds, h, .pan ((v, false) :: older)⟩ => next v ⟨e, ds, h, .pan ((v, true) :: older)⟩
  | ⟨_, _, _, .round⟩ => false
  | s => next .nilIface s

/-- a heap behind an effect: where a store has turned one object, only that is opened -/
def fEff (ρ : Operand → Option Value) (op : Op) (h : AHeap) (k : AHeap → Bool) : Bool :=
  match op with
  | .store _ a _ => match ρ a with
    | some (.pointer (some ⟨b, _, _⟩)) => fAt b h k
    | _ => fHeap h k
  | _ => fHeap h k

theorem fEff_eq (ρ : Operand → Option Value) (op : Op) (h : AHeap) (k : AHeap → Bool) : fEff ρ op h k = k h := by
  unfold fEff
  split
  · split
    · exact fAt_eq _ _ _
    · exact fHeap_eq _ _
  · exact fHeap_eq _ _

def dataB (ρ : Operand → Option Value) (op : Op) (s : St) (next : Value → St → Bool) : Bool :=
  match cls P op with
  | .pure => bndB (aPure P ρ op) fun v => fR op v fun v => next v s
  | .read => bndB (aRead P ρ s.h op) fun v => fR op v fun v => next v s
  | .alloc => match s with
    | ⟨e, ds, h, u⟩ => bndB (aAlloc P ρ h.length op) fun p => match p with
      | (o, v) => fObj o fun o => fV 3 v fun v => fList (fun o k => k o) (h ++ [o]) fun h => next v ⟨e, ds, h, u⟩
  | .eff => match s with
    | ⟨e, ds, h, u⟩ => bndB (aEff P ρ h op) fun p => match p with
      | (v, h) => fV 3 v fun v => fEff ρ op h fun h => next v ⟨e, ds, h, u⟩

def opB (ρ : Operand → Option Value) (op : Op) (s : St) (next : Value → St → Bool) (pan : Chain → St → Bool) : Bool :=
  match op with
  | .call { callee := .value f, args := args, argTypes := _ } => bndB (target ρ f args.toList) fun p => match p with
    | (g, as) => S g as s.h (afterB s next pan)
  | .call { callee := .builtin .recover, args := _, argTypes := _ } => recoverB s next
  | .defer { callee := .value f, args := args, argTypes := _ } =>
    match s with
    | ⟨_, _, _, .round⟩ => false
    | ⟨e, ds, h, u⟩ => bndB (target ρ f args.toList) fun p => match p with
      | (.fn g, as) => fList (fSp 3) as fun as => next undefV ⟨e, .call g as :: ds, h, u⟩
      | _ => false
  | .panic x => match ρ x with
    | some (.iface t v) => pan [(.iface t v, false)] s
    | _ => false
  | .next it false => bndB ((ρ it).bind fun v => aNextMap v s.h) fun outs => allB outs fun v h => match s with
    | ⟨e, ds, _, u⟩ => fSp 3 v fun v => fHeap h fun h => next v ⟨e, ds, h, u⟩
  | op => dataB P ρ op s next

def guardB (g : Option Value) (want : Bool) (run : (Value → St → Bool) → Bool) (s : St) (next : Value → St → Bool) : Bool :=
  match g with
  | some (.bool b) => cond b (cond want (run next) (next undefV s)) (cond want (next undefV s) (run next))
  | some (.tuple _) => next undefV s
  | _ => false

def putB (dst : Option Nat) (v : Value) (s : St) (k : St → Bool) : Bool :=
  match dst with
  | some d => cond (Nat.blt d n) (match s with | ⟨e, ds, h, u⟩ => k ⟨(d, v) :: e, ds, h, u⟩) false
  | none => k s

def operB (gd : Nat → Option Nat) (o : Oper) (s : St) (k : St → Bool) (pan : Chain → St → Bool) : Bool :=
  match o.guard with
  | none => opB P S (ev gs s.e) o.op s (fun v s' => putB n o.dst v s' k) pan
  | some (j, want) => guardB ((gd j).bind s.e.get) want (fun nx => opB P S (ev gs s.e) o.op s nx pan) s (fun v s' => putB n o.dst v s' k)

def opsB (gd : Nat → Option Nat) : List Oper → St → (St → Bool) → (Chain → St → Bool) → Bool
  | [], s, k, _ => k s
  | o :: r, s, k, pan => operB P gs n S gd o s (fun s' => opsB gd r s' k pan) pan

/-! ## regions that draw -/

structure PdB where
  hi : Nat
  chk : AHeap → Bool

def checksB : List PdB → Nat → AHeap → Bool → Bool
  | [], _, _, p => p
  | d :: r, st, h, p => cond (Nat.ble st d.hi) (cond (d.chk h) (checksB r st h p) false) (checksB r st h p)

def addPdB (st hi : Nat) (chk : AHeap → Bool) (pend : List PdB) : List PdB := cond (Nat.blt st hi) (⟨hi, chk⟩ :: pend) pend

def floatB (ρ : Operand → Option Value) (i hi st : Nat) (op : Op) (R : AEnv) (pend : List PdB) (s : St) (k : AEnv → List PdB → St → Bool) : Bool :=
  match cls P op with
  | .pure => bndB (aPure P ρ op) fun v => fR op v fun v => k ((i, v) :: R) pend s
  | .read => bndB (aRead P ρ s.h op) fun v => fR op v fun v => k ((i, v) :: R) (addPdB st hi (fun h => eqOV (aRead P ρ h op) v) pend) s
  | .alloc => match s with
    | ⟨e, ds, h, u⟩ => bndB (aAlloc P ρ h.length op) fun p => match p with
      | (o, v) => fObj o fun o => fV 3 v fun v => fHeap (h ++ [o]) fun h' => k ((i, v) :: R) (addPdB st hi (fun h2 => eqO h2[h.length]? o) pend) ⟨e, ds, h', u⟩
  | .eff => false

def guardFB (g : Option Value) (want : Bool) (run : (AEnv → List PdB → St → Bool) → Bool) (i : Nat) (R : AEnv) (pend : List PdB) (s : St) (k : AEnv → List PdB → St → Bool) : Bool :=
  match g with
  | some (.bool b) => cond b (cond want (run k) (k ((i, undefV) :: R) pend s)) (cond want (k ((i, undefV) :: R) pend s) (run k))
  | some (.tuple _) => k ((i, undefV) :: R) pend s
  | _ => false

variable (L : List Oper) (ms ws : List Nat) (e0 : AEnv)

def floatsB (st : Nat) : List Nat → AEnv → List PdB → St → (AEnv → List PdB → St → Bool) → Bool
  | [], R, pend, s, k => k R pend s
  | i :: r, R, pend, s, k =>
    match L[i]? with
    | none => false
    | some o =>
      match o.guard with
      | none => floatB P (evF gs L ms e0 R i (opReads o.op)) i (hiOf ms ws i) st o.op R pend s fun R' pend' s' => floatsB st r R' pend' s' k
      | some (j, want) => guardFB (R.get j) want (fun k' => floatB P (evF gs L ms e0 R i (opReads o.op)) i (hiOf ms ws i) st o.op R pend s k') i R pend s fun R' pend' s' => floatsB st r R' pend' s' k

def effB (i : Nat) (R : AEnv) (s : St) (next : Value → St → Bool) (pan : Chain → St → Bool) : Bool :=
  match L[i]? with
  | none => false
  | some o =>
    match o.guard with
    | none => opB P S (evF gs L ms e0 R i (opReads o.op)) o.op s next pan
    | some (j, want) => guardB (R.get j) want (fun nx => opB P S (evF gs L ms e0 R i (opReads o.op)) o.op s nx pan) s next

def stagesB : List (List Nat × Option Nat) → Nat → AEnv → List PdB → St → (AEnv → St → Bool) → (Chain → St → Bool) → Bool
  | [], _, R, _, s, k, _ => k R s
  | (fl, none) :: _, st, R, pend, s, k, _ => floatsB P gs L ms ws e0 st fl R pend s fun R' _ s' => k R' s'
  | (fl, some w) :: r, st, R, pend, s, k, pan => floatsB P gs L ms ws e0 st fl R pend s fun R' pend' s' =>
      effB P gs S L ms e0 w R' s' (fun v s'' => checksB pend' (st + 1) s''.h (stagesB r (st + 1) ((w, v) :: R') pend' s'' k pan)) pan

end

def drawB (P : Program) (gs : List Nat) (S : FSpecB) (L : List Oper) (s : St) (k : St → Bool) (pan : Chain → St → Bool) : Bool :=
  match s with
  | ⟨e, ds, h, u⟩ =>
    stagesB P gs S L (masks L []) (effs P L) e (stagesOf P L (masks L []) (effs P L) (effs P L) 0) 0 [] [] ⟨e, ds, h, u⟩
      (fun R s' => match s' with | ⟨_, ds, h, u⟩ => k ⟨finishE R L 0 e, ds, h, u⟩) (fun ch s' => match s' with | ⟨_, ds, h, u⟩ => pan ch ⟨dropE (dstsOf L) e, ds, h, u⟩)

/-! ## code -/

def KontB.seq (K : KontB) (next : St → Bool) : KontB
  | .normal, s => next s
  | x, s => K x s

def KontB.block (K : KontB) (id : Nat) : KontB
  | .exit id', s => cond (Nat.beq id' id) (K .normal s) (K (.exit id') s)
  | x, s => K x s

def loopB : Nat → (KontB → St → Bool) → KontB → St → Bool
  | 0, _, _, _ => false
  | m + 1, B, K, s => match s with
    | ⟨e, ds, h, u⟩ => fList (fun p k => k p) (dedupe e 0) fun e => B (K.seq fun s' => loopB m B K s') ⟨e, ds, h, u⟩

section
variable (P : Program) (gs : List Nat) (n lf : Nat) (S : FSpecB)

def jumpB (K : KontB) (s : St) : Option Code → Bool
  | none => K .normal s
  | some .ret => K .ret s
  | some (.exit id) => K (.exit id) s
  | _ => false

def endLoopB (l : Nat) (K : KontB) : St → Bool
  | ⟨e, ds, h, u⟩ => match h[l]? with
    | some (.spec (.loop _ _ _ _ _ _ st pd _)) => match st with
      | .busy => false
      | _ => fHeap (h.set l (.spec .over)) fun h => jumpB K ⟨e, ds, h, u⟩ pd
    | _ => false

def afterRangeB (l : Nat) (K : KontB) (s : St) : Res → AHeap → Bool
  | .pan ch, h' => match s with
    | ⟨e, ds, _, u⟩ => K (.panic ch) ⟨e, ds, h', u⟩
  | .ret _, h' => match s with
    | ⟨e, ds, _, u⟩ => endLoopB l K ⟨e, ds, h', u⟩

def rangeB (v : Option Value) (ps : List Nat) (x y : Code) (K : KontB) (s : St) : Bool :=
  match s with
  | ⟨e, ds, h, u⟩ => match u with
    | .round => false
    | _ => match v with
      | some (.func (.func g) first cap) =>
        cond (hasBody P g) (fNat h.length fun q => fHeap (h ++ [.spec .defq] ++ [.spec (.loop e n P.funcs.size ps x y .ready none q)]) fun h' =>
          S (.fn g) (first.toList ++ (.func (.yield (q + 1)) #[] #[] :: cap.toList)) h' (afterRangeB (q + 1) K ⟨e, .mark q :: ds, h, u⟩)) false
      | _ => false

def wpB : Code → KontB → St → Bool
  | .skip, K, s | .label _, K, s => K .normal s
  | .seq x y, K, s => wpB x (K.seq fun s' => wpB y K s') s
  | .cond c x y, K, s => condB (ev gs s.e c) (wpB x K s) (wpB y K s)
  | .block id c, K, s => wpB c (K.block id) s
  | .scope c, K, s => wpB c K s
  | .loop c, K, s => loopB lf (fun K' s' => wpB c K' s') K s
  | .exit id, K, s => K (.exit id) s
  | .ret, K, s => K .ret s
  | .region _ ops true, K, s => drawB P gs S ops.toList s (K .normal) (fun ch => K (.panic ch))
  | .region _ ops false, K, s => opsB P gs n S (gdOf ops.toList) ops.toList s (K .normal) (fun ch => K (.panic ch))
  | .rangeFunc f ps x y, K, s => rangeB P n S (ev gs s.e f) ps.toList x y K s
  | _, _, _ => false

def setB (o : Option AHeap) (Q : AHeap → Bool) : Bool :=
  match o with
  | some h => fHeap h Q
  | none => false

def noDefers (ds : List ADef) (b : Bool) : Bool :=
  match ds with
  | [] => b
  | _ => false

def roundKB (l : Nat) (Q : Res → AHeap → Bool) : KontB
  | .normal, s => setB (setLoop l .ready none s.h) fun h => Q (.ret (.bool true)) h
  | .ret, s => setB (setLoop l .done (some .ret) s.h) fun h => Q (.ret (.bool false)) h
  | .exit id, s => setB (setLoop l .done (some (.exit id)) s.h) fun h => Q (.ret (.bool false)) h
  | .panic ch, s => noDefers s.ds (Q (.pan ch) s.h)

def beginB (l : Nat) (k : St → Bool) (s : St) : Bool :=
  match s with
  | ⟨e, ds, h, u⟩ => setB (busyLoop l h) fun h => k ⟨e, ds, h, u⟩

def assignKB (l : Nat) (k : St → Bool) (Q : Res → AHeap → Bool) : KontB
  | .normal, s => beginB l k s
  | .panic ch, s => noDefers s.ds (Q (.pan ch) s.h)
  | _, _ => false

def yieldB (l : Nat) (args : List Value) (h : AHeap) (Q : Res → AHeap → Bool) : Bool :=
  match h[l]? with
  | some (.spec (.loop e n m ps x y _ _ _)) =>
    cond (Nat.beq args.length ps.length && (Nat.beq m P.funcs.size && (ps.all (Nat.blt · n) && (okCode P n x && okCode P n y))))
      (wpB P gs n lf S x (assignKB l (fun s => wpB P gs n lf S y (roundKB l Q) s) Q) ⟨putAll ps args e, [], h, .round⟩) false
  | _ => false

def leaveB (D : DSpecB) (rs : List ResultVar) (e : AEnv) : List ADef → UMode → AHeap → (Res → AHeap → Bool) → Bool
  | [], .ret, h, Q => bndB (resL P e h rs) fun l => fList (fSp 3) l fun l => Q (.ret (tupleOf l)) h
  | [], .pan ch, h, Q => Q (.pan ch) h
  | [], _, _, _ => false
  | .call f as :: ds, u, h, Q => D f as h u fun r u' h' => match r with
    | .ret _ => leaveB D rs e ds (settleU u') h' Q
    | .pan ch => leaveB D rs e ds (raisedU u' ch) h' Q
  | .mark q :: ds, u, h, Q => match h[q]? with
    | some (.spec .defq) => fHeap (h.set q (.spec .over)) fun h => leaveB D rs e ds u h Q
    | _ => false

def fnKontB (D : DSpecB) (rs : List ResultVar) (Q : Res → UMode → AHeap → Bool) : KontB
  | .normal, s | .ret, s => match s with | ⟨e, ds, h, u⟩ => leaveB P D rs e ds .ret h fun r h => Q r u h
  | .panic ch, s => match s with | ⟨e, ds, h, u⟩ => leaveB P D rs e ds (.pan ch) h fun r h => Q r u h
  | .exit _, _ => false

def okFn (f : FuncId) : Bool :=
  match P.funcs[f]? with
  | some fn => match fn.body with
    | some c => !(fn.name == "runtime.NumGoroutine") && okCode P fn.ntmps c
    | none => false
  | none => false

/-- behind a call: what nobody looks at any more is forgotten -/
def forgetB (n : Nat) (r : Res) (h : AHeap) (k : AHeap → Bool) : Bool :=
  cond (mayForget n r (h.take n)) (fHeap (h.take n) k) (k h)

/-- a function without a body that is known -/
def extOf (f : FuncId) : Option Func :=
  match P.funcs[f]? with
  | some fn => match fn.body with
    | some _ => none
    | none => cond (extB fn && !(fn.name == "runtime.NumGoroutine")) (some fn) none
  | none => none

def extOr (f : Callee) (args : List Value) (h : AHeap) (Q : Res → AHeap → Bool) (dflt : Bool) : Bool :=
  match f with
  | .fn f => match extOf P f with
    | some fn => match aExt P fn args h with
      | some (v, h') => fV 8 v fun v => fHeap h' fun h' => Q (.ret v) h'
      | none => false
    | none => dflt
  | .yield _ => dflt

/-- a function, or a round, run: its calls with one bound less -/
def runC (lf : Nat) : Nat → Callee → List Value → AHeap → UMode → (Res → UMode → AHeap → Bool) → Bool
  | 0, _, _, _, _, _ => false
  | m + 1, .yield l, args, h, u, Q => yieldB P gs lf (fun f args h Q => extOr P f args h Q (runC lf m f args h .norm fun r _ h' => forgetB h.length r h' (Q r))) l args h (fun r h => Q r u h)
  | m + 1, .fn f, args, h, u, Q =>
    cond (okFn P f) (match P.funcs[f]? with
      | some fn => match fn.body with
        | some c => cond (Nat.ble args.length fn.ntmps)
            (wpB P gs fn.ntmps lf (fun f args h Q => extOr P f args h Q (runC lf m f args h .norm fun r _ h' => forgetB h.length r h' (Q r))) c (fnKontB P (fun f => runC lf m (.fn f)) fn.results.toList Q) ⟨initE args 0, [], h, u⟩) false
        | none => false
      | none => false) false

def runB (lf m : Nat) : DSpecB := fun f => runC P gs lf m (.fn f)

end
end Go.Fm
