/-
  FmEval: a program run by the kernel: the same preconditions as tests, with bounds on loops and calls. Definitions.
  FmEval2: the preconditions as tests.
  FmEvalSound: what the tests pass, the preconditions say.
  FmScr: a program run by the kernel on symbolic values: at the steps that a script names, what comes out is asked for instead of worked out.
  FmScrSound: what a scripted run asks for is enough.
-/
import Derived.Test.YtcdmnmpiipmfmaaFmC

namespace Go.Fm

/-! ## equal values -/

/-! ## forcing -/

end Go.Fm

namespace Go.Fm


/-! ## code -/

section
variable (P : Program) (gs : List Nat) (n lf : Nat)

def okFn (f : FuncId) : Bool :=
  match P.funcs[f]? with
  | some fn => match fn.body with
    | some c => !(fn.name == "runtime.NumGoroutine") && okCode P fn.ntmps c
    | none => false
  | none => false

/-- a function without a body that is known -/
def extOf (f : FuncId) : Option Func :=
  match P.funcs[f]? with
  | some fn => match fn.body with
    | some _ => none
    | none => cond (extB fn && !(fn.name == "runtime.NumGoroutine")) (some fn) none
  | none => none

end
end Go.Fm

namespace Go.Fm

variable {P : Program} {gs : List Nat}

/-! ## regions that draw -/

/-! ## code -/

theorem okFn_spec {f : FuncId} (h : okFn P f = true) : ∃ fn c, P.funcs[f]? = some fn ∧ fn.body = some c ∧ (fn.name == "runtime.NumGoroutine") = false ∧ okCode P fn.ntmps c = true := by
  unfold okFn at h
  split at h
  · rename_i fn hf
    split at h
    · rename_i c hc
      simp only [Bool.and_eq_true, Bool.not_eq_true'] at h
      exact ⟨fn, c, hf, hc, h.1, h.2⟩
    · simp at h
  · simp at h

theorem extOf_spec {f : FuncId} {fn : Func} (h : extOf P f = some fn) : P.funcs[f]? = some fn ∧ (fn.name == "runtime.NumGoroutine") = false ∧ extB fn = true := by
  unfold extOf at h
  split at h
  · rename_i fn' hf
    split at h
    · cases h
    · cases hb : (extB fn' && !(fn'.name == "runtime.NumGoroutine")) with
      | false => rw [hb] at h; cases h
      | true =>
        rw [hb] at h; injection h with h; subst h
        rw [Bool.and_eq_true, Bool.not_eq_true'] at hb
        exact ⟨hf, hb.2, hb.1⟩
  · cases h

theorem specX_of {f : FuncId} {fn : Func} (hx : extOf P f = some fn) {args : List Value} {h : AHeap} {v : Value} {h' : AHeap} (e : aExt P fn args h = some (v, h')) {Q : Res → AHeap → Prop} (hq : Q (.ret v) h') :
    SpecX P f args h Q := by
  obtain ⟨h1, h2, h3⟩ := extOf_spec hx
  refine ⟨?_, ?_⟩
  · unfold extB at h3
    rw [Bool.and_eq_true] at h3
    unfold hasBody
    rw [h1]
    have := h3.1
    cases hb : fn.body with
    | none => simp only [hb]
    | some b => rw [hb] at this; cases this
  intro F w0 j w args' S hA
  obtain ⟨j', r', w', k1, k2, k3, k4, k5⟩ := aExt_sim S h1 h2 h3 hA e
  exact ⟨v, h', j', r', w', hq, k4, k1, k2, k5, k3⟩

end Go.Fm

namespace Go.Fm

/-- what is done at the steps that look at a symbol -/
inductive Scr where
  | go
  | skip (n : Nat) (s : Scr)
  | ask (t f : Scr)
  | two (t f : Scr)
  | yes (s : Scr)
  | no (s : Scr)
  | all (s : Int → Scr)
  | raw (s : Scr)
  | val (v : Value) (s : Scr)
  | put (v : Value) (h : AHeap) (s : Scr)
  | gen (A : Type) (f : A → Value) (s : A → Scr)
  | genE (A : Type) (f : A → Value × AHeap) (s : A → Scr)
  | call (A : Type) (p : A → Prop × Res × AHeap) (s : A → Scr)
  | callN (A : Type) (qs : List (A → Prop × Res × AHeap)) (ss : Nat → A → Scr)
  | call2 (b : Bool) (o1 o2 : Res × AHeap) (s1 s2 : Scr)
  | inv (A : Type) (q : A → Prop × St) (m : A → Nat) (s : A → Scr)
  | inv2 (A B : Type) (q : A → Prop × St) (m : A → Nat) (s : A → Scr) (q' : B → Prop × St) (m' : B → Nat) (s' : B → Scr)
  | invN (ks : List Nat) (A : Type) (m : A → Nat) (qs : List (A → Prop × St)) (ss : Nat → A → Scr)
  | unr (n : Nat) (s : Scr)
  | byB (b : Bool) (t f : Scr)
  | nxt (e : Prop) (A : Type) (p : A → Prop × Value × AHeap) (s0 : Scr) (s1 : A → Scr)
  | look (f : Nat → Op → List (Option Value) → Option Value → AHeap → AEnv → Prop)

abbrev KontS := AExit → St → Scr → Prop
abbrev NextS := Value → St → Scr → Prop
abbrev PanS := Chain → St → Scr → Prop
abbrev FSpecS := Callee → List Value → AHeap → Scr → (Res → AHeap → Scr → Prop) → Prop
abbrev DSpecS := FuncId → List Value → AHeap → UMode → Scr → (Res → UMode → AHeap → Scr → Prop) → Prop

/-! ## forcing -/

def gNat (n : Nat) (k : Nat → Prop) : Prop :=
  match n with
  | 0 => k 0
  | m + 1 => k (m + 1)
def gInt (n : Int) (k : Int → Prop) : Prop :=
  match n with
  | .ofNat m => gNat m fun m => k (.ofNat m)
  | .negSucc m => gNat m fun m => k (.negSucc m)
def gBool (b : Bool) (k : Bool → Prop) : Prop := cond b (k true) (k false)
def gON (n : Option Nat) (k : Option Nat → Prop) : Prop :=
  match n with
  | none => k none
  | some m => gNat m fun m => k (some m)
def gA (a : Option Addr) (k : Option Addr → Prop) : Prop :=
  match a with
  | none => k none
  | some ⟨b, o, s⟩ => gNat b fun b => gNat o fun o => gON s fun s => k (some ⟨b, o, s⟩)
def gList {α : Type} (f : α → (α → Prop) → Prop) : List α → (List α → Prop) → Prop
  | [], k => k []
  | a :: r, k => f a fun a => gList f r fun r => k (a :: r)
def gV : Nat → Value → (Value → Prop) → Prop
  | 0, v, k => k v
  | n + 1, v, k =>
    match v with
    | .bool b => gBool b fun b => k (.bool b)
    | .int i n => gInt n fun n => k (.int i n)
    | .pointer a => gA a fun a => k (.pointer a)
    | .slice a l c => gA a fun a => gNat l fun l => gNat c fun c => k (.slice a l c)
    | .map r => gON r fun r => k (.map r)
    | .agg x => gList (gV n) x.toList fun l => k (.agg ⟨l⟩)
    | .tuple x => gList (gV n) x.toList fun l => k (.tuple ⟨l⟩)
    | .iface t v => gV n v fun v => k (.iface t v)
    | .string s => gList (fun (b : UInt8) k => gNat b.toNat fun m => k (UInt8.ofNat m)) s.data.toList fun l => k (.string ⟨⟨l⟩⟩)
    | v => k v

theorem gNat_eq (n : Nat) (k : Nat → Prop) : gNat n k = k n := by cases n <;> rfl
theorem gInt_eq (n : Int) (k : Int → Prop) : gInt n k = k n := by cases n <;> simp [gInt, gNat_eq]
theorem gBool_eq (n : Bool) (k : Bool → Prop) : gBool n k = k n := by cases n <;> rfl
theorem gON_eq (n : Option Nat) (k : Option Nat → Prop) : gON n k = k n := by cases n <;> simp [gON, gNat_eq]
theorem gA_eq (n : Option Addr) (k : Option Addr → Prop) : gA n k = k n := by
  cases n with
  | none => rfl
  | some a => obtain ⟨b, o, s⟩ := a; simp [gA, gNat_eq, gON_eq]
theorem gList_eq {α : Type} {f : α → (α → Prop) → Prop} (hf : ∀ a k, f a k = k a) : ∀ (l : List α) (k : List α → Prop), gList f l k = k l
  | [], k => rfl
  | a :: r, k => by simp [gList, hf, gList_eq hf r]
theorem gV_eq : ∀ (n : Nat) (v : Value) (k : Value → Prop), gV n v k = k v
  | 0, v, k => rfl
  | n + 1, v, k => by
    have ih := gV_eq n
    unfold gV
    split
    · rw [gBool_eq]
    · rw [gInt_eq]
    · rw [gA_eq]
    · simp only [gA_eq, gNat_eq]
    · rw [gON_eq]
    · rw [gList_eq ih]
    · rw [gList_eq ih]
    · rw [ih]
    · rw [gList_eq]
      intro a k
      rw [gNat_eq, UInt8.ofNat_toNat]
    · rfl

/-- the spine alone -/
def gSp : Nat → Value → (Value → Prop) → Prop
  | 0, v, k => k v
  | n + 1, v, k =>
    match v with
    | .agg x => gList (gSp n) x.toList fun l => k (.agg ⟨l⟩)
    | .tuple x => gList (gSp n) x.toList fun l => k (.tuple ⟨l⟩)
    | v => k v

theorem gSp_eq : ∀ (n : Nat) (v : Value) (k : Value → Prop), gSp n v k = k v
  | 0, _, _ => rfl
  | n + 1, v, k => by
    have ih := gSp_eq n
    unfold gSp
    split
    · rw [gList_eq ih]
    · rw [gList_eq ih]
    · rfl

def gR (op : Op) (v : Value) (k : Value → Prop) : Prop :=
  match op with
  | .binOp _ _ _ _ _ | .unOp _ _ _ | .convert _ _ _ | .fieldAddr _ _ _ | .indexAddr _ _ _ | .slice _ _ _ _ _ | .call _ => gV 3 v k
  | .move _ => match v with
    | .bool b => gBool b fun b => k (.bool b)
    | v => gSp 3 v k
  | _ => gSp 3 v k

theorem gR_eq (op : Op) (v : Value) (k : Value → Prop) : gR op v k = k v := by
  unfold gR
  split
  all_goals first
    | exact gV_eq _ _ _
    | exact gSp_eq _ _ _
    | (split; exact gBool_eq _ _; exact gSp_eq _ _ _)

/-- what an effect gives: an entry is moved -/
def gE (op : Op) (v : Value) (k : Value → Prop) : Prop :=
  match op with
  | .entry _ => gSp 3 v k
  | _ => gV 3 v k

theorem gE_eq (op : Op) (v : Value) (k : Value → Prop) : gE op v k = k v := by
  unfold gE
  split <;> first | exact gV_eq _ _ _ | exact gSp_eq _ _ _

/-- the types whose blocks are not worked out: rows of symbols -/
class UF where
  types : List TypeId

instance (priority := low) noUF : UF := ⟨[]⟩

/-- a map's next entry is a step of the script -/
def symMaps [UF] : Bool := UF.types.contains 4000000

variable [UF]

def gObj (o : AObj) (k : AObj → Prop) : Prop :=
  match o with
  | .cells c r => match r with
    | true => k (.cells c true)
    | false => gList (gSp 1) c fun c => k (.cells c false)
  | .tcells c t z => cond (UF.types.contains t) (k (.tcells c t z)) (gList (gSp 1) c fun c => k (.tcells c t z))
  | o => k o
theorem gObj_eq (o : AObj) (k : AObj → Prop) : gObj o k = k o := by
  cases o with
  | cells c r => cases r <;> simp only [gObj, gList_eq (gSp_eq 1)]
  | tcells c t z =>
    simp only [gObj, gList_eq (gSp_eq 1)]
    cases UF.types.contains t <;> rfl
  | _ => rfl

def gHeap (h : AHeap) (k : AHeap → Prop) : Prop := gList gObj h k
theorem gHeap_eq (h : AHeap) (k : AHeap → Prop) : gHeap h k = k h := gList_eq gObj_eq h k

/-! ## steps -/

/-- a step that only works a value out -/
def stepS (op : Op) (vs : List (Option Value)) (h : AHeap) (o : Option Value) (c : Scr) (next : Value → Scr → Prop) : Prop :=
  match c with
  | .go => bnd o fun v => gR op v fun v => next v .go
  | .skip (n + 1) c => bnd o fun v => gR op v fun v => next v (.skip n c)
  | .skip 0 c => match c with
    | .ask t f => match o with
      | some (.bool b) => (b = true → next (.bool true) t) ∧ (b = false → next (.bool false) f)
      | _ => False
    | .two t f => (∃ b : Bool, o = some (.bool b)) ∧ (o = some (.bool true) → next (.bool true) t) ∧ (o = some (.bool false) → next (.bool false) f)
    | .yes c => o = some (.bool true) ∧ next (.bool true) c
    | .no c => o = some (.bool false) ∧ next (.bool false) c
    | .all c => match o with
      | some (.int k z) => ∀ x, x = z → next (.int k x) (c x)
      | _ => False
    | .raw c => bnd o fun v => next v c
    | .val v c => o = some v ∧ next v c
    | .gen A f sc => (∃ a : A, o = some (f a)) ∧ ∀ a : A, o = some (f a) → next (f a) (sc a)
    | .look f => f 0 op vs o h [] ∧ False
    | _ => False
  | _ => False

/-- a step that goes one of two ways -/
def turnS (o : Option Value) (c : Scr) (t f : Scr → Prop) : Prop :=
  match c with
  | .go => match o with
    | some (.bool b) => cond b (t .go) (f .go)
    | _ => False
  | .skip (n + 1) c => match o with
    | some (.bool b) => cond b (t (.skip n c)) (f (.skip n c))
    | _ => False
  | .skip 0 c => match c with
    | .ask ct cf => match o with
      | some (.bool b) => (b = true → t ct) ∧ (b = false → f cf)
      | _ => False
    | .yes c => o = some (.bool true) ∧ t c
    | .no c => o = some (.bool false) ∧ f c
    | .look g => g 1 (.move (.const .nilFunc)) [] o [] [] ∧ False
    | _ => False
  | _ => False

/-- a step that turns the heap -/
def effS1 (op : Op) (vs : List (Option Value)) (h : AHeap) (o : Option (Value × AHeap)) (c : Scr) (next : Value → AHeap → Scr → Prop) : Prop :=
  match c with
  | .go => bnd o fun p => match p with
    | (v, h) => gE op v fun v => gHeap h fun h => next v h .go
  | .skip (n + 1) c => bnd o fun p => match p with
    | (v, h) => gE op v fun v => gHeap h fun h => next v h (.skip n c)
  | .skip 0 c => match c with
    | .raw c => bnd o fun p => match p with
      | (v, h) => gHeap h fun h => next v h c
    | .put v h c => o = some (v, h) ∧ next v h c
    | .genE A f sc => (∃ a : A, o = some (f a)) ∧ ∀ a : A, o = some (f a) → next (f a).1 (f a).2 (sc a)
    | .look f => f 2 op vs (o.map (·.1)) h [] ∧ False
    | _ => False
  | _ => False

/-- the same, by a test of one's own -/
def effS (op : Op) (vs : List (Option Value)) (h : AHeap) (o : Option (Value × AHeap)) (c : Scr) (next : Value → AHeap → Scr → Prop) : Prop :=
  match c with
  | .skip 0 (.byB b t f) => (b = true → effS1 op vs h o t next) ∧ (b = false → effS1 op vs h o f next)
  | c => effS1 op vs h o c next

def allS : List (Value × AHeap) → (Value → AHeap → Prop) → Prop
  | [], _ => True
  | [(v, h)], k => k v h
  | (v, h) :: r, k => k v h ∧ allS r k

/-- the next entry of a map, whichever it is -/
def nextS (o : Option (List (Value × AHeap))) (it : Option Value) (h : AHeap) (c : Scr) (k : Value → AHeap → Scr → Prop) : Prop :=
  cond symMaps
    (match c with
      | .skip (n + 1) c => bnd o fun outs => allS outs fun v h => k v h (.skip n c)
      | .skip 0 (.nxt e _ p s0 s1) => (∃ outs, o = some outs ∧ ∀ x ∈ outs, (e ∧ x = (.tuple #[.bool false], h)) ∨ ∃ a, (p a).1 ∧ x = (p a).2) ∧
          (e → k (.tuple #[.bool false]) h s0) ∧ ∀ a, (p a).1 → k (p a).2.1 (p a).2.2 (s1 a)
      | .skip 0 (.look f) => f 5 (.move (.const .nilFunc)) [it] none h [] ∧ False
      | .go => bnd o fun outs => allS outs fun v h => k v h .go
      | _ => False)
    (bnd o fun outs => allS outs fun v h => k v h c)

section
variable (P : Program) (gs : List Nat) (n : Nat) (S : FSpecS)

def afterS (s : St) (next : NextS) (pan : PanS) : Res → AHeap → Scr → Prop
  | .ret v, h, c => match s with | ⟨e, ds, _, u⟩ => next v ⟨e, ds, h, u⟩ c
  | .pan ch, h, c => match s with | ⟨e, ds, _, u⟩ => pan ch ⟨e, ds, h, u⟩ c

def recoverS (s : St) (c : Scr) (next : NextS) : Prop :=
  match s with
  | ⟨e, ds, h, .pan ((v, false) :: older)⟩ => next v ⟨e, ds, h, .pan ((v, true) :: older)⟩ c
  | ⟨_, _, _, .round⟩ => False
  | s => next .nilIface s c

def dataS (ρ : Operand → Option Value) (op : Op) (s : St) (c : Scr) (next : NextS) : Prop :=
  match cls P op with
  | .pure => stepS op (op.operands.toList.map ρ) s.h (aPure P ρ op) c fun v c => next v s c
  | .read => stepS op (op.operands.toList.map ρ) s.h (aRead P ρ s.h op) c fun v c => next v s c
  | .alloc => match s with
    | ⟨e, ds, h, u⟩ => effS op (op.operands.toList.map ρ) h ((aAlloc P ρ h.length op).map fun p => (p.2, h ++ [p.1])) c fun v h c => next v ⟨e, ds, h, u⟩ c
  | .eff => match s with
    | ⟨e, ds, h, u⟩ => effS op (op.operands.toList.map ρ) h (aEff P ρ h op) c fun v h c => next v ⟨e, ds, h, u⟩ c

/-- one of some outcomes -/
def anyP {A : Type} (r : Res) (h : AHeap) : List (A → Prop × Res × AHeap) → Prop
  | [] => False
  | [q] => ∃ a, (q a).1 ∧ r = (q a).2.1 ∧ h = (q a).2.2
  | q :: l => (∃ a, (q a).1 ∧ r = (q a).2.1 ∧ h = (q a).2.2) ∨ anyP r h l

def allP {A : Type} (f : (A → Prop × Res × AHeap) → (A → Scr) → Prop) (ss : Nat → A → Scr) : Nat → List (A → Prop × Res × AHeap) → Prop
  | _, [] => True
  | k, [q] => f q (ss k)
  | k, q :: r => f q (ss k) ∧ allP f ss (k + 1) r

/-- a call: by its own run, or by a contract -/
def callS (K : FSpec) (p : Callee × List Value) (h : AHeap) (c : Scr) (Q : Res → AHeap → Scr → Prop) : Prop :=
  match c with
  | .skip 0 (.call _ q sc) => match p with
    | (g, as) => K g as h (fun r h' => ∃ a, (q a).1 ∧ r = (q a).2.1 ∧ h' = (q a).2.2) ∧ ∀ a, (q a).1 → Q (q a).2.1 (q a).2.2 (sc a)
  | .skip 0 (.callN _ qs ss) => match p with
    | (g, as) => K g as h (fun r h' => anyP r h' qs) ∧ allP (fun q sc => ∀ a, (q a).1 → Q (q a).2.1 (q a).2.2 (sc a)) ss 0 qs
  | .skip 0 (.call2 b o1 o2 s1 s2) => match p with
    | (g, as) => K g as h (fun r h' => (b = true → r = o1.1 ∧ h' = o1.2) ∧ (b = false → r = o2.1 ∧ h' = o2.2)) ∧ (b = true → Q o1.1 o1.2 s1) ∧ (b = false → Q o2.1 o2.2 s2)
  | .skip 0 (.look f) => match p with
    | (.fn g, as) => f 3 (.move (.const .nilFunc)) (some (.func (.func g) #[] #[]) :: as.map some) none h [] ∧ False
    | _ => f 3 (.move (.const .nilFunc)) [] none h [] ∧ False
  | .skip (n + 1) c => match p with
    | (g, as) => S g as h (.skip n c) Q
  | c => match p with
    | (g, as) => S g as h c Q

variable (K : FSpec)

def opS (ρ : Operand → Option Value) (op : Op) (s : St) (c : Scr) (next : NextS) (pan : PanS) : Prop :=
  match op with
  | .call { callee := .value f, args := args, argTypes := _ } => bnd (target ρ f args.toList) fun p => callS S K p s.h c (afterS s next pan)
  | .call { callee := .builtin .recover, args := _, argTypes := _ } => recoverS s c next
  | .defer { callee := .value f, args := args, argTypes := _ } =>
    match s with
    | ⟨_, _, _, .round⟩ => False
    | ⟨e, ds, h, u⟩ => bnd (target ρ f args.toList) fun p => match p with
      | (.fn g, as) => gList (gSp 3) as fun as => next undefV ⟨e, .call g as :: ds, h, u⟩ c
      | _ => False
  | .panic x => match ρ x with
    | some (.iface t v) => pan [(.iface t v, false)] s c
    | _ => False
  | .next it false => nextS ((ρ it).bind fun v => aNextMap v s.h) (ρ it) s.h c fun v h c => match s with
    | ⟨e, ds, _, u⟩ => gSp 3 v fun v => gHeap h fun h => next v ⟨e, ds, h, u⟩ c
  | op => dataS P ρ op s c next

def guardS (g : Option Value) (want : Bool) (run : Scr → NextS → Prop) (s : St) (c : Scr) (next : NextS) : Prop :=
  match g with
  | some (.tuple _) => next undefV s c
  | g => turnS g c (fun c => cond want (run c next) (next undefV s c)) (fun c => cond want (next undefV s c) (run c next))

def putS (dst : Option Nat) (v : Value) (s : St) (c : Scr) (k : St → Scr → Prop) : Prop :=
  match dst with
  | some d => cond (Nat.blt d n) (match s with | ⟨e, ds, h, u⟩ => k ⟨(d, v) :: e, ds, h, u⟩ c) False
  | none => k s c

def operS (gd : Nat → Option Nat) (o : Oper) (s : St) (c : Scr) (k : St → Scr → Prop) (pan : PanS) : Prop :=
  match o.guard with
  | none => opS P S K (ev gs s.e) o.op s c (fun v s' c => putS n o.dst v s' c k) pan
  | some (j, want) => guardS ((gd j).bind s.e.get) want (fun c nx => opS P S K (ev gs s.e) o.op s c nx pan) s c (fun v s' c => putS n o.dst v s' c k)

def opsS (gd : Nat → Option Nat) : List Oper → St → Scr → (St → Scr → Prop) → PanS → Prop
  | [], s, c, k, _ => k s c
  | o :: r, s, c, k, pan => operS P gs n S K gd o s c (fun s' c => opsS gd r s' c k pan) pan

/-! ## regions that draw -/

def floatS (ρ : Operand → Option Value) (i hi st : Nat) (op : Op) (R : AEnv) (pend : List Pd) (s : St) (c : Scr) (k : AEnv → List Pd → St → Scr → Prop) : Prop :=
  match cls P op with
  | .pure => stepS op (op.operands.toList.map ρ) s.h (aPure P ρ op) c fun v c => k ((i, v) :: R) pend s c
  | .read => stepS op (op.operands.toList.map ρ) s.h (aRead P ρ s.h op) c fun v c => k ((i, v) :: R) (addPd st hi (fun h => aRead P ρ h op = some v) pend) s c
  | .alloc => match s with
    | ⟨e, ds, h, u⟩ => bnd (aAlloc P ρ h.length op) fun p => match p with
      | (o, v) => gObj o fun o => gV 3 v fun v => gHeap (h ++ [o]) fun h' => k ((i, v) :: R) (addPd st hi (fun h2 => h2[h.length]? = some o) pend) ⟨e, ds, h', u⟩ c
  | .eff => False

def guardFS (g : Option Value) (want : Bool) (run : Scr → (AEnv → List Pd → St → Scr → Prop) → Prop) (i : Nat) (R : AEnv) (pend : List Pd) (s : St) (c : Scr) (k : AEnv → List Pd → St → Scr → Prop) : Prop :=
  match g with
  | some (.tuple _) => k ((i, undefV) :: R) pend s c
  | g => turnS g c (fun c => cond want (run c k) (k ((i, undefV) :: R) pend s c)) (fun c => cond want (k ((i, undefV) :: R) pend s c) (run c k))

variable (L : List Oper) (ms ws : List Nat) (e0 : AEnv)

def floatsS (st : Nat) : List Nat → AEnv → List Pd → St → Scr → (AEnv → List Pd → St → Scr → Prop) → Prop
  | [], R, pend, s, c, k => k R pend s c
  | i :: r, R, pend, s, c, k =>
    match L[i]? with
    | none => False
    | some o =>
      match o.guard with
      | none => floatS P (evF gs L ms e0 R i (opReads o.op)) i (hiOf ms ws i) st o.op R pend s c fun R' pend' s' c => floatsS st r R' pend' s' c k
      | some (j, want) => guardFS (R.get j) want (fun c k' => floatS P (evF gs L ms e0 R i (opReads o.op)) i (hiOf ms ws i) st o.op R pend s c k') i R pend s c fun R' pend' s' c => floatsS st r R' pend' s' c k

def effKS (i : Nat) (R : AEnv) (s : St) (c : Scr) (next : NextS) (pan : PanS) : Prop :=
  match L[i]? with
  | none => False
  | some o =>
    match o.guard with
    | none => opS P S K (evF gs L ms e0 R i (opReads o.op)) o.op s c next pan
    | some (j, want) => guardS (R.get j) want (fun c nx => opS P S K (evF gs L ms e0 R i (opReads o.op)) o.op s c nx pan) s c next

def stagesS : List (List Nat × Option Nat) → Nat → AEnv → List Pd → St → Scr → (AEnv → St → Scr → Prop) → PanS → Prop
  | [], _, R, _, s, c, k, _ => k R s c
  | (fl, none) :: _, st, R, pend, s, c, k, _ => floatsS P gs L ms ws e0 st fl R pend s c fun R' _ s' c => k R' s' c
  | (fl, some w) :: r, st, R, pend, s, c, k, pan => floatsS P gs L ms ws e0 st fl R pend s c fun R' pend' s' c =>
      effKS P gs S K L ms e0 w R' s' c (fun v s'' c => checks pend' (st + 1) s''.h (stagesS r (st + 1) ((w, v) :: R') pend' s'' c k pan)) pan

end

def drawS (P : Program) (gs : List Nat) (S : FSpecS) (K : FSpec) (L : List Oper) (s : St) (c : Scr) (k : St → Scr → Prop) (pan : PanS) : Prop :=
  match s with
  | ⟨e, ds, h, u⟩ =>
    stagesS P gs S K L (masks L []) (effs P L) e (stagesOf P L (masks L []) (effs P L) (effs P L) 0) 0 [] [] ⟨e, ds, h, u⟩ c
      (fun R s' c => match s' with | ⟨_, ds, h, u⟩ => k ⟨finishE R L 0 e, ds, h, u⟩ c) (fun ch s' c => match s' with | ⟨_, ds, h, u⟩ => pan ch ⟨dropE (dstsOf L) e, ds, h, u⟩ c)

/-! ## code -/

def KontS.seq (K : KontS) (next : St → Scr → Prop) : KontS
  | .normal, s, c => next s c
  | x, s, c => K x s c

def KontS.block (K : KontS) (id : Nat) : KontS
  | .exit id', s, c => cond (Nat.beq id' id) (K .normal s c) (K (.exit id') s c)
  | x, s, c => K x s c

def loopS : Nat → (KontS → St → Scr → Prop) → KontS → St → Scr → Prop
  | 0, _, _, _, _ => False
  | m + 1, B, K, s, c => match s with
    | ⟨e, ds, h, u⟩ => gList (fun p k => k p) (dedupe e 0) fun e => B (K.seq fun s' c => loopS m B K s' c) ⟨e, ds, h, u⟩ c

/-- of the names only these -/
def trimE : List Nat → AEnv → AEnv
  | [], _ => []
  | k :: r, e => match e.get k with
    | some v => (k, v) :: trimE r e
    | none => trimE r e
def trimS (ks : List Nat) (s : St) : St := match s with
  | ⟨e, ds, h, u⟩ => ⟨trimE ks e, ds, h, u⟩

/-- one of some invariants -/
def someN {A : Type} (gs : List Nat) (n0 : Nat) (ok : A → Prop) (s : St) : List (A → Prop × St) → Prop
  | [] => False
  | [q] => ∃ a : A, (q a).1 ∧ ok a ∧ Gc gs n0 s (q a).2
  | q :: r => (∃ a : A, (q a).1 ∧ ok a ∧ Gc gs n0 s (q a).2) ∨ someN gs n0 ok s r

def allN {A : Type} (f : (A → Prop × St) → (A → Scr) → Prop) (ss : Nat → A → Scr) : Nat → List (A → Prop × St) → Prop
  | _, [] => True
  | k, [q] => f q (ss k)
  | k, q :: r => f q (ss k) ∧ allN f ss (k + 1) r

section
variable (P : Program) (gs : List Nat) (n lf : Nat) (S : FSpecS) (C : FSpec) (n0 : Nat)

/-- a loop: round by round; or by an invariant, a measure, and what is forgotten -/
def loopC (B : KontS → St → Scr → Prop) (K : KontS) (s : St) (c : Scr) : Prop :=
  match c with
  | .skip 0 (.inv A q m sc) => (∃ a : A, (q a).1 ∧ Gc gs n0 s (q a).2) ∧ ∀ a : A, (q a).1 → B (K.seq fun s' _ => ∃ a', (q a').1 ∧ m a' < m a ∧ Gc gs n0 s' (q a').2) (q a).2 (sc a)
  | .skip 0 (.inv2 A A' q m sc q' m' sc') => ((∃ a : A, (q a).1 ∧ Gc gs n0 s (q a).2) ∨ ∃ a : A', (q' a).1 ∧ Gc gs n0 s (q' a).2) ∧
      (∀ a : A, (q a).1 → B (K.seq fun s' _ => (∃ a', (q a').1 ∧ m a' < m a ∧ Gc gs n0 s' (q a').2) ∨ ∃ a', (q' a').1 ∧ m' a' < m a ∧ Gc gs n0 s' (q' a').2) (q a).2 (sc a)) ∧
      (∀ a : A', (q' a).1 → B (K.seq fun s' _ => (∃ a', (q a').1 ∧ m a' < m' a ∧ Gc gs n0 s' (q a').2) ∨ ∃ a', (q' a').1 ∧ m' a' < m' a ∧ Gc gs n0 s' (q' a').2) (q' a).2 (sc' a))
  | .skip 0 (.invN ks A m qs ss) => someN gs n0 (fun _ : A => True) (trimS ks s) qs ∧ allN (fun q sc => ∀ a : A, (q a).1 → B (K.seq fun s' _ => someN gs n0 (fun a' => m a' < m a) (trimS ks s') qs) (q a).2 (sc a)) ss 0 qs
  | .skip 0 (.unr m c) => loopS m B K s c
  | .skip 0 (.look f) => f 4 (.move (.const .nilFunc)) [] none s.h s.e ∧ False
  | .skip (n + 1) c => loopS lf B K s (.skip n c)
  | c => loopS lf B K s c

def jumpS (K : KontS) (s : St) (c : Scr) : Option Code → Prop
  | none => K .normal s c
  | some .ret => K .ret s c
  | some (.exit id) => K (.exit id) s c
  | _ => False

def endLoopS (l : Nat) (K : KontS) (s : St) (c : Scr) : Prop :=
  match s with
  | ⟨e, ds, h, u⟩ => match h[l]? with
    | some (.spec (.loop _ _ _ _ _ _ st pd _)) => match st with
      | .busy => False
      | _ => gHeap (h.set l (.spec .over)) fun h => jumpS K ⟨e, ds, h, u⟩ c pd
    | _ => False

def afterRangeS (l : Nat) (K : KontS) (s : St) : Res → AHeap → Scr → Prop
  | .pan ch, h', c => match s with
    | ⟨e, ds, _, u⟩ => K (.panic ch) ⟨e, ds, h', u⟩ c
  | .ret _, h', c => match s with
    | ⟨e, ds, _, u⟩ => endLoopS l K ⟨e, ds, h', u⟩ c

def rangeS (v : Option Value) (ps : List Nat) (x y : Code) (K : KontS) (s : St) (c : Scr) : Prop :=
  match s with
  | ⟨e, ds, h, u⟩ => match u with
    | .round => False
    | _ => match v with
      | some (.func (.func g) first cap) =>
        cond (hasBody P g) (gNat h.length fun q => gHeap (h ++ [.spec .defq] ++ [.spec (.loop e n P.funcs.size ps x y .ready none q)]) fun h' =>
          S (.fn g) (first.toList ++ (.func (.yield (q + 1)) #[] #[] :: cap.toList)) h' c (afterRangeS (q + 1) K ⟨e, .mark q :: ds, h, u⟩)) False
      | _ => False

def wpS : Code → KontS → St → Scr → Prop
  | .skip, K, s, c | .label _, K, s, c => K .normal s c
  | .seq x y, K, s, c => wpS x (K.seq fun s' c => wpS y K s' c) s c
  | .cond b x y, K, s, c => turnS (ev gs s.e b) c (fun c => wpS x K s c) (fun c => wpS y K s c)
  | .block id x, K, s, c => wpS x (K.block id) s c
  | .scope x, K, s, c => wpS x K s c
  | .loop x, K, s, c => loopC gs lf n0 (fun K' s' c => wpS x K' s' c) K s c
  | .exit id, K, s, c => K (.exit id) s c
  | .ret, K, s, c => K .ret s c
  | .region _ ops true, K, s, c => drawS P gs S C ops.toList s c (K .normal) (fun ch => K (.panic ch))
  | .region _ ops false, K, s, c => opsS P gs n S C (gdOf ops.toList) ops.toList s c (K .normal) (fun ch => K (.panic ch))
  | .rangeFunc f ps x y, K, s, c => rangeS P n S (ev gs s.e f) ps.toList x y K s c
  | _, _, _, _ => False

def setS (o : Option AHeap) (Q : AHeap → Prop) : Prop :=
  match o with
  | some h => gHeap h Q
  | none => False

def noDefersS (ds : List ADef) (p : Prop) : Prop :=
  match ds with
  | [] => p
  | _ => False

def roundKS (l : Nat) (Q : Res → AHeap → Scr → Prop) : KontS
  | .normal, s, c => setS (setLoop l .ready none s.h) fun h => Q (.ret (.bool true)) h c
  | .ret, s, c => setS (setLoop l .done (some .ret) s.h) fun h => Q (.ret (.bool false)) h c
  | .exit id, s, c => setS (setLoop l .done (some (.exit id)) s.h) fun h => Q (.ret (.bool false)) h c
  | .panic ch, s, c => noDefersS s.ds (Q (.pan ch) s.h c)

def beginS (l : Nat) (k : St → Scr → Prop) (s : St) (c : Scr) : Prop :=
  match s with
  | ⟨e, ds, h, u⟩ => setS (busyLoop l h) fun h => k ⟨e, ds, h, u⟩ c

def assignKS (l : Nat) (k : St → Scr → Prop) (Q : Res → AHeap → Scr → Prop) : KontS
  | .normal, s, c => beginS l k s c
  | .panic ch, s, c => noDefersS s.ds (Q (.pan ch) s.h c)
  | _, _, _ => False

def yieldS (l : Nat) (args : List Value) (h : AHeap) (c : Scr) (Q : Res → AHeap → Scr → Prop) : Prop :=
  match h[l]? with
  | some (.spec (.loop e n m ps x y _ _ _)) =>
    cond (Nat.beq args.length ps.length && (Nat.beq m P.funcs.size && (ps.all (Nat.blt · n) && (okCode P n x && okCode P n y))))
      (wpS P gs n lf S C h.length x (assignKS l (fun s c => wpS P gs n lf S C h.length y (roundKS l Q) s c) Q) ⟨putAll ps args e, [], h, .round⟩ c) False
  | _ => False

def leaveS (D : DSpecS) (rs : List ResultVar) (e : AEnv) : List ADef → UMode → AHeap → Scr → (Res → AHeap → Scr → Prop) → Prop
  | [], .ret, h, c, Q => bnd (resL P e h rs) fun l => gList (gSp 3) l fun l => Q (.ret (tupleOf l)) h c
  | [], .pan ch, h, c, Q => Q (.pan ch) h c
  | [], _, _, _, _ => False
  | .call f as :: ds, u, h, c, Q => D f as h u c fun r u' h' c => match r with
    | .ret _ => leaveS D rs e ds (settleU u') h' c Q
    | .pan ch => leaveS D rs e ds (raisedU u' ch) h' c Q
  | .mark q :: ds, u, h, c, Q => match h[q]? with
    | some (.spec .defq) => gHeap (h.set q (.spec .over)) fun h => leaveS D rs e ds u h c Q
    | _ => False

def fnKontS (D : DSpecS) (rs : List ResultVar) (Q : Res → UMode → AHeap → Scr → Prop) : KontS
  | .normal, s, c | .ret, s, c => match s with | ⟨e, ds, h, u⟩ => leaveS P D rs e ds .ret h c fun r h c => Q r u h c
  | .panic ch, s, c => match s with | ⟨e, ds, h, u⟩ => leaveS P D rs e ds (.pan ch) h c fun r h c => Q r u h c
  | .exit _, _, _ => False

/-- behind a call: what nobody looks at any more is forgotten -/
def forgetS (fg : Bool) (n : Nat) (r : Res) (h : AHeap) (c : Scr) (k : AHeap → Scr → Prop) : Prop :=
  cond fg (cond (mayForget n r (h.take n)) (gHeap (h.take n) fun h => k h c) (k h c)) (k h c)

/-- a function that has a contract is not run -/
def knownS (kn : List Nat) (f : Callee) (p : Prop) : Prop :=
  match f with
  | .fn f => cond (kn.contains f) False p
  | .yield _ => p

def extOrS (f : Callee) (args : List Value) (h : AHeap) (c : Scr) (Q : Res → AHeap → Scr → Prop) (dflt : Prop) : Prop :=
  match f with
  | .fn f => match extOf P f with
    | some fn => match aExt P fn args h with
      | some (v, h') => gHeap h' fun h' => Q (.ret v) h' c
      | none => False
    | none => dflt
  | .yield _ => dflt

/-- a function, or a round, run: its calls with one bound less -/
def runX (fg : Bool) (kn : List Nat) (lf : Nat) (C : FSpec) : Nat → Callee → List Value → AHeap → UMode → Scr → (Res → UMode → AHeap → Scr → Prop) → Prop
  | 0, _, _, _, _, _, _ => False
  | m + 1, .yield l, args, h, u, c, Q => yieldS P gs lf (fun f args h c Q => extOrS P f args h c Q (knownS kn f (runX fg kn lf C m f args h .norm c fun r _ h' c => forgetS fg h.length r h' c (Q r)))) C l args h c (fun r h c => Q r u h c)
  | m + 1, .fn f, args, h, u, c, Q =>
    cond (okFn P f) (match P.funcs[f]? with
      | some fn => match fn.body with
        | some b => cond (Nat.ble args.length fn.ntmps)
            (wpS P gs fn.ntmps lf (fun f args h c Q => extOrS P f args h c Q (knownS kn f (runX fg kn lf C m f args h .norm c fun r _ h' c => forgetS fg h.length r h' c (Q r)))) C h.length b (fnKontS P (fun f => runX fg kn lf C m (.fn f)) fn.results.toList Q) ⟨initE args 0, [], h, u⟩ c) False
        | none => False
      | none => False) False

def runS (fg : Bool) (kn : List Nat) (lf : Nat) (C : FSpec) (m : Nat) : DSpecS := fun f => runX P gs fg kn lf C m (.fn f)

end
end Go.Fm

namespace Go.Fm

variable {P : Program} {gs : List Nat} [UF]

def LS1 (k : NextS) (k' : Value → St → Prop) : Prop := ∀ v s c, k v s c → k' v s
def LS2 (k : PanS) (k' : Chain → St → Prop) : Prop := ∀ v s c, k v s c → k' v s
def LS0 (k : St → Scr → Prop) (k' : St → Prop) : Prop := ∀ s c, k s c → k' s
def LS3 (k : AEnv → List Pd → St → Scr → Prop) (k' : AEnv → List Pd → St → Prop) : Prop := ∀ R p s c, k R p s c → k' R p s
def LSS (S : FSpecS) (S' : FSpec) : Prop := ∀ f args h c Q (Q' : Res → AHeap → Prop), (∀ r h c, Q r h c → Q' r h) → S f args h c Q → S' f args h Q'
def LSD (S : DSpecS) (S' : DSpec) : Prop := ∀ f args h u c Q (Q' : Res → UMode → AHeap → Prop), (∀ r u h c, Q r u h c → Q' r u h) → S f args h u c Q → S' f args h u Q'
/-- contracts may say less -/
def Mono (S : FSpec) : Prop := ∀ f args h (Q Q' : Res → AHeap → Prop), (∀ r h, Q r h → Q' r h) → S f args h Q → S f args h Q'

omit [UF] in
theorem bnd_mono {α : Type} {o : Option α} {k k' : α → Prop} (h : bnd o k) (hk : ∀ a, k a → k' a) : bnd o k' := by
  cases o with
  | none => exact h
  | some a => exact hk a h

omit [UF] in
theorem stepS_sound {op : Op} {vs : List (Option Value)} {h0 : AHeap} {o : Option Value} {c : Scr} {next : Value → Scr → Prop} {k : Value → Prop} (hk : ∀ v c, next v c → k v) (h : stepS op vs h0 o c next) : bnd o k := by
  unfold stepS at h
  split at h
  · exact bnd_mono h fun v hv => hk v _ (by simpa only [gR_eq] using hv)
  · exact bnd_mono h fun v hv => hk v _ (by simpa only [gR_eq] using hv)
  · split at h
    · split at h
      · rename_i b
        cases b with
        | true => exact hk _ _ (h.1 rfl)
        | false => exact hk _ _ (h.2 rfl)
      · exact h.elim
    · obtain ⟨⟨b, hb⟩, ht, hf⟩ := h
      rw [hb]
      cases b with
      | true => exact hk _ _ (ht hb)
      | false => exact hk _ _ (hf hb)
    · rw [h.1]; exact hk _ _ h.2
    · rw [h.1]; exact hk _ _ h.2
    · split at h
      · exact hk _ _ (h _ rfl)
      · exact h.elim
    · exact bnd_mono h fun v hv => hk v _ hv
    · rw [h.1]; exact hk _ _ h.2
    · obtain ⟨⟨a, ha⟩, hn⟩ := h
      rw [ha]; exact hk _ _ (hn a ha)
    · exact h.2.elim
    · exact h.elim
  · exact h.elim

omit [UF] in
theorem turnS_sound {o : Option Value} {c : Scr} {t f : Scr → Prop} {p : Bool → Prop} (ht : ∀ c, t c → p true) (hf : ∀ c, f c → p false) (h : turnS o c t f) : ∃ b, o = some (.bool b) ∧ p b := by
  unfold turnS at h
  split at h
  · split at h
    · rename_i b
      cases b with
      | true => exact ⟨_, rfl, ht _ h⟩
      | false => exact ⟨_, rfl, hf _ h⟩
    · exact h.elim
  · split at h
    · rename_i b
      cases b with
      | true => exact ⟨_, rfl, ht _ h⟩
      | false => exact ⟨_, rfl, hf _ h⟩
    · exact h.elim
  · split at h
    · split at h
      · rename_i b
        cases b with
        | true => exact ⟨_, rfl, ht _ (h.1 rfl)⟩
        | false => exact ⟨_, rfl, hf _ (h.2 rfl)⟩
      · exact h.elim
    · exact ⟨_, h.1, ht _ h.2⟩
    · exact ⟨_, h.1, hf _ h.2⟩
    · exact h.2.elim
    · exact h.elim
  · exact h.elim

theorem effS1_sound {op : Op} {vs : List (Option Value)} {h0 : AHeap} {o : Option (Value × AHeap)} {c : Scr} {next : Value → AHeap → Scr → Prop} {k : Value × AHeap → Prop} (hk : ∀ v h c, next v h c → k (v, h)) (h : effS1 op vs h0 o c next) : bnd o k := by
  unfold effS1 at h
  split at h
  · exact bnd_mono h fun p hv => hk _ _ _ (by simpa only [gE_eq, gHeap_eq] using hv)
  · exact bnd_mono h fun p hv => hk _ _ _ (by simpa only [gE_eq, gHeap_eq] using hv)
  · split at h
    · exact bnd_mono h fun p hv => hk _ _ _ (by simpa only [gHeap_eq] using hv)
    · rw [h.1]; exact hk _ _ _ h.2
    · obtain ⟨⟨a, ha⟩, hn⟩ := h
      rw [ha]; exact hk _ _ _ (hn a ha)
    · exact h.2.elim
    · exact h.elim
  · exact h.elim

theorem effS_sound {op : Op} {vs : List (Option Value)} {h0 : AHeap} {o : Option (Value × AHeap)} {c : Scr} {next : Value → AHeap → Scr → Prop} {k : Value × AHeap → Prop} (hk : ∀ v h c, next v h c → k (v, h)) (h : effS op vs h0 o c next) : bnd o k := by
  unfold effS at h
  split at h
  · rename_i b _ _
    cases b with
    | true => exact effS1_sound hk (h.1 rfl)
    | false => exact effS1_sound hk (h.2 rfl)
  · exact effS1_sound hk h

omit [UF] in
theorem allS_sound {k k' : Value → AHeap → Prop} (hk : ∀ v h, k v h → k' v h) : ∀ {l : List (Value × AHeap)}, allS l k → allW l k'
  | [], _ => trivial
  | [(_, _)], e => ⟨hk _ _ e, trivial⟩
  | (_, _) :: (_, _) :: _, e => ⟨hk _ _ e.1, allS_sound hk e.2⟩

omit [UF] in
theorem allW_of {k : Value → AHeap → Prop} : ∀ {l : List (Value × AHeap)}, (∀ x ∈ l, k x.1 x.2) → allW l k
  | [], _ => trivial
  | (v, h) :: r, e => ⟨e (v, h) (by simp), allW_of fun x hx => e x (by simp [hx])⟩

theorem nextS_sound {o : Option (List (Value × AHeap))} {it : Option Value} {h : AHeap} {c : Scr} {k : Value → AHeap → Scr → Prop} {k' : Value → AHeap → Prop} (hk : ∀ v h c, k v h c → k' v h) (e : nextS o it h c k) : bnd o fun outs => allW outs k' := by
  unfold nextS at e
  cases hm : symMaps with
  | false => rw [hm] at e; exact bnd_mono e fun outs hb => allS_sound (fun v h e => hk v h _ e) hb
  | true =>
    rw [hm] at e
    simp only [cond_true] at e
    split at e
    · exact bnd_mono e fun outs hb => allS_sound (fun v h e => hk v h _ e) hb
    · obtain ⟨⟨outs, ho, hx⟩, h0, h1⟩ := e
      rw [ho]
      refine allW_of fun x hm => ?_
      rcases hx x hm with ⟨he, rfl⟩ | ⟨a, ha, rfl⟩
      · exact hk _ _ _ (h0 he)
      · exact hk _ _ _ (h1 a ha)
    · exact e.2.elim
    · exact bnd_mono e fun outs hb => allS_sound (fun v h e => hk v h _ e) hb
    · exact e.elim

omit [UF] in
theorem afterS_sound {s : St} {next : NextS} {next' : Value → St → Prop} {pan : PanS} {pan' : Chain → St → Prop} (hn : LS1 next next') (hp : LS2 pan pan') : ∀ r h c, afterS s next pan r h c → afterCall s next' pan' r h
  | .ret _, _, _, e => hn _ _ _ e
  | .pan _, _, _, e => hp _ _ _ e

omit [UF] in
theorem recoverS_sound {s : St} {c : Scr} {next : NextS} {next' : Value → St → Prop} (hn : LS1 next next') (h : recoverS s c next) : recoverW s next' := by
  obtain ⟨e, ds, hh, u⟩ := s
  unfold recoverS at h
  unfold recoverW
  split at h
  · rename_i heq; injection heq with h1 h2 h3 h4; subst h1 h2 h3 h4; exact hn _ _ _ h
  · exact h.elim
  · rename_i h1 h2
    simp only
    split
    · rename_i v older; exact absurd rfl (h1 _ _ _ _ _)
    · exact absurd rfl (h2 _ _ _)
    · exact hn _ _ _ h

theorem dataS_sound {ρ : Operand → Option Value} {op : Op} {s : St} {c : Scr} {next : NextS} {next' : Value → St → Prop} (hn : LS1 next next') (h : dataS P ρ op s c next) : dataW P ρ op s next' := by
  unfold dataS at h
  unfold dataW
  obtain ⟨e, ds, hh, u⟩ := s
  split at h
  · rename_i hc; rw [hc]; exact stepS_sound (fun v c hv => hn _ _ _ hv) h
  · rename_i hc; rw [hc]; exact stepS_sound (fun v c hv => hn _ _ _ hv) h
  · rename_i hc; rw [hc]
    have := effS_sound (k := fun p => next' p.1 ⟨e, ds, p.2, u⟩) (fun v h c hv => hn _ _ _ hv) h
    simp only
    cases ha : aAlloc P ρ hh.length op with
    | none => rw [ha] at this; exact this
    | some p => rw [ha] at this; exact this
  · rename_i hc; rw [hc]
    exact effS_sound (k := fun p => next' p.1 ⟨e, ds, p.2, u⟩) (fun v h c hv => hn _ _ _ hv) h

omit [UF] in
theorem anyP_sound {A : Type} {Q : Res → AHeap → Scr → Prop} {Q' : Res → AHeap → Prop} (hQ : ∀ r h c, Q r h c → Q' r h) {ss : Nat → A → Scr} {r : Res} {h : AHeap} : ∀ (qs : List (A → Prop × Res × AHeap)) (k : Nat), anyP r h qs →
    allP (fun q sc => ∀ a, (q a).1 → Q (q a).2.1 (q a).2.2 (sc a)) ss k qs → Q' r h
  | [], _, e, _ => e.elim
  | [q], k, ⟨a, h1, h2, h3⟩, e => by subst h2 h3; exact hQ _ _ _ (e a h1)
  | q :: q' :: l, k, e1, e2 => by
    rcases e1 with ⟨a, h1, h2, h3⟩ | e1
    · subst h2 h3; exact hQ _ _ _ (e2.1 a h1)
    · exact anyP_sound hQ (q' :: l) (k + 1) e1 e2.2

omit [UF] in
theorem callS_sound {S : FSpecS} {K : FSpec} (hS : LSS S K) (hK : Mono K) {p : Callee × List Value} {h : AHeap} {c : Scr} {Q : Res → AHeap → Scr → Prop} {Q' : Res → AHeap → Prop} (hQ : ∀ r h c, Q r h c → Q' r h) (e : callS S K p h c Q) : K p.1 p.2 h Q' := by
  obtain ⟨g, as⟩ := p
  unfold callS at e
  split at e
  · obtain ⟨e1, e2⟩ := e
    refine hK _ _ _ _ _ ?_ e1
    rintro r h' ⟨a, h1, rfl, rfl⟩
    exact hQ _ _ _ (e2 a h1)
  · obtain ⟨e1, e2⟩ := e
    exact hK _ _ _ _ _ (fun r h' e => anyP_sound hQ _ 0 e e2) e1
  · rename_i b o1 o2 s1 s2
    obtain ⟨e1, e2, e3⟩ := e
    refine hK _ _ _ _ _ ?_ e1
    rintro r h' ⟨h1, h2⟩
    cases b with
    | true => obtain ⟨rfl, rfl⟩ := h1 rfl; exact hQ _ _ _ (e2 rfl)
    | false => obtain ⟨rfl, rfl⟩ := h2 rfl; exact hQ _ _ _ (e3 rfl)
  · cases g with
    | fn f => exact e.2.elim
    | yield l => exact e.2.elim
  · exact hS _ _ _ _ _ _ hQ e
  · exact hS _ _ _ _ _ _ hQ e

section
variable {S : FSpecS} {K : FSpec}

theorem opS_sound (hS : LSS S K) (hK : Mono K) {ρ : Operand → Option Value} {op : Op} {s : St} {c : Scr} {next : NextS} {next' : Value → St → Prop} {pan : PanS} {pan' : Chain → St → Prop} (hn : LS1 next next') (hp : LS2 pan pan')
    (h : opS P S K ρ op s c next pan) : opW P K ρ op s next' pan' := by
  unfold opS at h
  split at h
  · exact bnd_mono h fun p hb => callS_sound hS hK (afterS_sound hn hp) hb
  · exact recoverS_sound hn h
  · obtain ⟨e, ds, hh, u⟩ := s
    unfold opW
    split at h
    · exact h.elim
    · rename_i hno heq
      injection heq with h1 h2 h3 h4; subst h1 h2 h3 h4
      simp only
      refine bnd_mono h fun p hb => ?_
      obtain ⟨g, as⟩ := p
      cases g with
      | fn g => exact hn _ _ _ (by simpa only [gList_eq (gSp_eq 3)] using hb)
      | yield l => exact hb.elim
  · unfold opW
    simp only
    split at h
    · rename_i heq; rw [heq]; exact hp _ _ _ h
    · exact h.elim
  · unfold opW
    exact nextS_sound (fun v h' c e => hn _ _ c (by obtain ⟨e', ds, hh, u⟩ := s; simpa only [gSp_eq, gHeap_eq] using e)) h
  · rename_i h1 h2 h3 h4 h5
    unfold opW
    split
    · exact absurd rfl (h1 _ _ _)
    · exact absurd rfl (h2 _ _)
    · exact absurd rfl (h3 _ _ _)
    · exact absurd rfl (h4 _)
    · exact absurd rfl (h5 _)
    · exact dataS_sound hn h

omit [UF] in
theorem guardS_sound {g : Option Value} {want : Bool} {run : Scr → NextS → Prop} {run' : (Value → St → Prop) → Prop} {s : St} {c : Scr} {next : NextS} {next' : Value → St → Prop} (hn : LS1 next next') (hr : ∀ c, run c next → run' next')
    (h : guardS g want run s c next) : guardK g want run' s next' := by
  unfold guardS at h
  split at h
  · exact hn _ _ _ h
  have := turnS_sound (p := fun b => cond b (cond want (run' next') (next' undefV s)) (cond want (next' undefV s) (run' next'))) (fun c hc => by
      cases want with
      | true => exact hr c hc
      | false => exact hn _ _ _ hc) (fun c hc => by
      cases want with
      | true => exact hn _ _ _ hc
      | false => exact hr c hc) h
  obtain ⟨b, rfl, hb⟩ := this
  unfold guardK
  simp only
  cases b <;> cases want <;> simpa using hb

omit [UF] in
theorem putS_sound {n : Nat} {dst : Option Nat} {v : Value} {s : St} {c : Scr} {k : St → Scr → Prop} {k' : St → Prop} (hk : LS0 k k') (h : putS n dst v s c k) : putW n dst v s k' := by
  unfold putS at h
  unfold putW
  split at h
  · rename_i d
    cases hb : Nat.blt d n with
    | false => rw [hb] at h; exact h.elim
    | true =>
      rw [hb] at h; obtain ⟨e, ds, hh, u⟩ := s
      simp only [hb, cond_true]
      exact hk _ _ h
  · exact hk _ _ h

theorem opsS_sound (hS : LSS S K) (hK : Mono K) {n : Nat} {gd : Nat → Option Nat} {k : St → Scr → Prop} {k' : St → Prop} {pan : PanS} {pan' : Chain → St → Prop} (hk : LS0 k k') (hp : LS2 pan pan') :
    ∀ (l : List Oper) (s : St) (c : Scr), opsS P gs n S K gd l s c k pan → opsW P gs n K gd l s k' pan'
  | [], s, c, h => hk s c h
  | o :: r, s, c, h => by
    have ih : LS0 (fun s c => opsS P gs n S K gd r s c k pan) (fun s => opsW P gs n K gd r s k' pan') := fun s c e => opsS_sound hS hK hk hp r s c e
    have hput : LS1 (fun v s' c => putS n o.dst v s' c fun s' c => opsS P gs n S K gd r s' c k pan) (fun v s' => putW n o.dst v s' fun s' => opsW P gs n K gd r s' k' pan') := fun v s' c e => putS_sound ih e
    simp only [opsS, operS] at h
    simp only [opsW, operW]
    split at h
    · rename_i hg; rw [hg]; exact opS_sound hS hK hput hp h
    · rename_i j want hg; rw [hg]; exact guardS_sound hput (fun c e => opS_sound hS hK hput hp e) h

/-! ## regions that draw -/

omit [UF] in
theorem checks_mono {st : Nat} {h : AHeap} {p p' : Prop} (hp : p → p') : ∀ {l : List Pd}, checks l st h p → checks l st h p'
  | [], e => hp e
  | d :: r, e => by
    unfold checks at e ⊢
    cases hb : Nat.ble st d.hi with
    | true => rw [hb] at e; exact ⟨e.1, checks_mono hp e.2⟩
    | false => rw [hb] at e; exact checks_mono hp e

theorem floatS_sound {ρ : Operand → Option Value} {i hi st : Nat} {op : Op} {R : AEnv} {pend : List Pd} {s : St} {c : Scr} {k : AEnv → List Pd → St → Scr → Prop} {k' : AEnv → List Pd → St → Prop} (hk : LS3 k k')
    (h : floatS P ρ i hi st op R pend s c k) : floatK P ρ i hi st op R pend s k' := by
  unfold floatS at h
  unfold floatK
  obtain ⟨e, ds, hh, u⟩ := s
  split at h
  · rename_i hc; rw [hc]; exact stepS_sound (fun v c hv => hk _ _ _ _ hv) h
  · rename_i hc; rw [hc]; exact stepS_sound (fun v c hv => hk _ _ _ _ hv) h
  · rename_i hc; rw [hc]
    refine bnd_mono h fun v hv => ?_
    simp only [gV_eq, gObj_eq, gHeap_eq] at hv
    exact hk _ _ _ _ hv
  · exact h.elim

omit [UF] in
theorem guardFS_sound {g : Option Value} {want : Bool} {run : Scr → (AEnv → List Pd → St → Scr → Prop) → Prop} {run' : (AEnv → List Pd → St → Prop) → Prop} {i : Nat} {R : AEnv} {pend : List Pd} {s : St} {c : Scr}
    {k : AEnv → List Pd → St → Scr → Prop} {k' : AEnv → List Pd → St → Prop} (hk : LS3 k k') (hr : ∀ c, run c k → run' k') (h : guardFS g want run i R pend s c k) : guardF g want run' i R pend s k' := by
  unfold guardFS at h
  split at h
  · exact hk _ _ _ _ h
  have := turnS_sound (p := fun b => cond b (cond want (run' k') (k' ((i, undefV) :: R) pend s)) (cond want (k' ((i, undefV) :: R) pend s) (run' k'))) (fun c hc => by
      cases want with
      | true => exact hr c hc
      | false => exact hk _ _ _ _ hc) (fun c hc => by
      cases want with
      | true => exact hk _ _ _ _ hc
      | false => exact hr c hc) h
  obtain ⟨b, rfl, hb⟩ := this
  unfold guardF
  simp only
  cases b <;> cases want <;> simpa using hb

theorem floatsS_sound {L : List Oper} {ms ws : List Nat} {e0 : AEnv} {st : Nat} {k : AEnv → List Pd → St → Scr → Prop} {k' : AEnv → List Pd → St → Prop} (hk : LS3 k k') :
    ∀ (l : List Nat) (R : AEnv) (pend : List Pd) (s : St) (c : Scr), floatsS P gs L ms ws e0 st l R pend s c k → floatsW P gs L ms ws e0 st l R pend s k'
  | [], R, pend, s, c, h => hk _ _ _ _ h
  | i :: r, R, pend, s, c, h => by
    have ih : LS3 (fun R p s c => floatsS P gs L ms ws e0 st r R p s c k) (fun R p s => floatsW P gs L ms ws e0 st r R p s k') := fun R p s c h => floatsS_sound hk r R p s c h
    simp only [floatsS] at h
    simp only [floatsW]
    split at h
    · exact h.elim
    · rename_i o ho
      rw [ho]
      simp only
      split at h
      · rename_i hg; rw [hg]; exact floatS_sound ih h
      · rename_i hg; rw [hg]; exact guardFS_sound ih (fun c e => floatS_sound ih e) h

theorem effKS_sound (hS : LSS S K) (hK : Mono K) {L : List Oper} {ms : List Nat} {e0 : AEnv} {i : Nat} {R : AEnv} {s : St} {c : Scr} {next : NextS} {next' : Value → St → Prop} {pan : PanS} {pan' : Chain → St → Prop} (hn : LS1 next next') (hp : LS2 pan pan')
    (h : effKS P gs S K L ms e0 i R s c next pan) : effK P gs K L ms e0 i R s next' pan' := by
  unfold effKS at h
  unfold effK
  split at h
  · exact h.elim
  · rename_i o ho
    rw [ho]
    simp only
    split at h
    · rename_i hg; rw [hg]; exact opS_sound hS hK hn hp h
    · rename_i hg; rw [hg]; exact guardS_sound hn (fun c e => opS_sound hS hK hn hp e) h

theorem stagesS_sound (hS : LSS S K) (hK : Mono K) {L : List Oper} {ms ws : List Nat} {e0 : AEnv} {k : AEnv → St → Scr → Prop} {k' : AEnv → St → Prop} {pan : PanS} {pan' : Chain → St → Prop} (hk : ∀ R s c, k R s c → k' R s) (hp : LS2 pan pan') :
    ∀ (l : List (List Nat × Option Nat)) (st : Nat) (R : AEnv) (pend : List Pd) (s : St) (c : Scr), stagesS P gs S K L ms ws e0 l st R pend s c k pan → stagesW P gs K L ms ws e0 l st R pend s k' pan'
  | [], _, R, _, s, c, h => hk R s c h
  | (fl, none) :: _, st, R, pend, s, c, h => floatsS_sound (fun R _ s c e => hk R s c e) fl R pend s c h
  | (fl, some w) :: r, st, R, pend, s, c, h => by
    refine floatsS_sound (fun R1 p1 s1 c1 e1 => ?_) fl R pend s c h
    refine effKS_sound hS hK (fun v s2 c2 e2 => ?_) hp e1
    exact checks_mono (fun e3 => stagesS_sound hS hK hk hp r _ _ _ _ _ e3) e2

theorem drawS_sound (hS : LSS S K) (hK : Mono K) {L : List Oper} {s : St} {c : Scr} {k : St → Scr → Prop} {k' : St → Prop} {pan : PanS} {pan' : Chain → St → Prop} (hk : LS0 k k') (hp : LS2 pan pan') (h : drawS P gs S K L s c k pan) : drawW P gs K L s k' pan' := by
  obtain ⟨e, ds, hh, u⟩ := s
  exact stagesS_sound hS hK (fun R s' c e => hk _ _ e) (fun ch s' c e => hp _ _ _ e) _ _ _ _ _ _ h

/-! ## code -/

def LSK (K : KontS) (K' : Kont) : Prop := ∀ x s c, K x s c → K' x s

omit [UF] in
theorem seq_LS {K : KontS} {K' : Kont} (hK : LSK K K') {n : St → Scr → Prop} {n' : St → Prop} (hn : LS0 n n') : LSK (K.seq n) (K'.seq n') := by
  intro x s c h
  cases x with
  | normal => exact hn s c h
  | _ => exact hK _ _ c h

omit [UF] in
theorem block_LS {K : KontS} {K' : Kont} (hK : LSK K K') {id : Nat} : LSK (K.block id) (K'.block id) := by
  intro x s c h
  cases x with
  | exit id' =>
    simp only [KontS.block] at h
    simp only [Kont.block]
    cases hb : Nat.beq id' id with
    | true => rw [hb] at h; rw [if_pos (Nat.eq_of_beq_eq_true hb)]; exact hK _ _ c h
    | false => rw [hb] at h; rw [if_neg (Nat.ne_of_beq_eq_false hb)]; exact hK _ _ c h
  | _ => exact hK _ _ c h

omit [UF] in
theorem loopS_sound {B : KontS → St → Scr → Prop} {B' : Kont → St → Prop} (hB : ∀ KB K s c, LSK KB K → B KB s c → B' K s) {K : KontS} {K' : Kont} (hK : LSK K K') {n0 : Nat} : ∀ (m : Nat) (s : St) (c : Scr), loopS m B K s c → loopW gs n0 B' K' s
  | 0, s, c, h => h.elim
  | m + 1, s, c, h => by
    intro X hX hG
    obtain ⟨e, ds, hh, u⟩ := s
    simp only [loopS, gList_eq (fun _ _ => rfl)] at h
    refine hG _ _ Gc.dedupe (hX _ (hB _ _ _ c (seq_LS hK fun s' c' e => ?_) h))
    exact loopS_sound hB hK m s' c' e X hX hG

omit [UF] in
theorem trimE_get : ∀ {ks : List Nat} {e : AEnv} {t : Nat} {v : Value}, (trimE ks e).get t = some v → e.get t = some v
  | [], _, _, _, h => by simp [trimE, AEnv.get] at h
  | k :: r, e, t, v, h => by
    unfold trimE at h
    split at h
    · rename_i u hu
      rw [AEnv.get_cons] at h
      split at h
      · rename_i hk; subst hk; rw [hu, h]
      · exact trimE_get h
    · exact trimE_get h

omit [UF] in
theorem Gc.trim {gs : List Nat} {n0 : Nat} {ks : List Nat} {s : St} : Gc gs n0 s (trimS ks s) := by
  obtain ⟨e, ds, h, u⟩ := s
  exact .inr ⟨rfl, rfl, rfl, fun t v ht => trimE_get ht⟩

omit [UF] in
theorem someN_mem {A : Type} {gs : List Nat} {n0 : Nat} {ok : A → Prop} {s : St} : ∀ {qs : List (A → Prop × St)}, someN gs n0 ok s qs → ∃ q ∈ qs, ∃ a : A, (q a).1 ∧ ok a ∧ Gc gs n0 s (q a).2
  | [], h => h.elim
  | [q], ⟨a, h⟩ => ⟨q, by simp, a, h⟩
  | q :: q' :: r, h => by
    rcases h with ⟨a, h⟩ | h
    · exact ⟨q, by simp, a, h⟩
    · obtain ⟨q'', hq, h'⟩ := someN_mem (qs := q' :: r) h
      exact ⟨q'', by simp [List.mem_cons.1 hq], h'⟩

omit [UF] in
theorem allN_mem {A : Type} {f : (A → Prop × St) → (A → Scr) → Prop} {ss : Nat → A → Scr} : ∀ {k : Nat} {qs : List (A → Prop × St)}, allN f ss k qs → ∀ q ∈ qs, ∃ j, f q (ss j)
  | _, [], _, q, hq => by cases hq
  | k, [q0], h, q, hq => by rw [List.mem_singleton] at hq; subst hq; exact ⟨k, h⟩
  | k, q0 :: q1 :: r, h, q, hq => by
    rcases List.mem_cons.1 hq with rfl | hq
    · exact ⟨k, h.1⟩
    · exact allN_mem (qs := q1 :: r) h.2 q hq

omit [UF] in
theorem loopC_sound {lf n0 : Nat} {B : KontS → St → Scr → Prop} {B' : Kont → St → Prop} (hB : ∀ KB K s c, LSK KB K → B KB s c → B' K s) {K : KontS} {K' : Kont} (hK : LSK K K') (s : St) (c : Scr) (h : loopC gs lf n0 B K s c) : loopW gs n0 B' K' s := by
  unfold loopC at h
  split at h
  · rename_i A q m sc
    obtain ⟨⟨a0, h1, h2⟩, h3⟩ := h
    intro X hX hG
    have key : ∀ (k : Nat) (a : A), m a < k → (q a).1 → X (q a).2 := by
      intro k
      induction k with
      | zero => intro a ha _; omega
      | succ k ih =>
        intro a ha hq
        refine hX _ (hB _ _ _ (sc a) (seq_LS hK fun s' c' e => ?_) (h3 a hq))
        obtain ⟨a', e1, e2, e3⟩ := e
        exact hG _ _ e3 (ih a' (by omega) e1)
    exact hG _ _ h2 (key (m a0 + 1) a0 (by omega) h1)
  · rename_i A A' q m sc q' m' sc'
    obtain ⟨h0, h3, h4⟩ := h
    intro X hX hG
    have key : ∀ (k : Nat), (∀ a : A, m a < k → (q a).1 → X (q a).2) ∧ ∀ a : A', m' a < k → (q' a).1 → X (q' a).2 := by
      intro k
      induction k with
      | zero => exact ⟨fun a ha _ => by omega, fun a ha _ => by omega⟩
      | succ k ih =>
        refine ⟨fun a ha hq => ?_, fun a ha hq => ?_⟩
        · refine hX _ (hB _ _ _ (sc a) (seq_LS hK fun s' c' e => ?_) (h3 a hq))
          rcases e with ⟨a', e1, e2, e3⟩ | ⟨a', e1, e2, e3⟩
          · exact hG _ _ e3 (ih.1 a' (by omega) e1)
          · exact hG _ _ e3 (ih.2 a' (by omega) e1)
        · refine hX _ (hB _ _ _ (sc' a) (seq_LS hK fun s' c' e => ?_) (h4 a hq))
          rcases e with ⟨a', e1, e2, e3⟩ | ⟨a', e1, e2, e3⟩
          · exact hG _ _ e3 (ih.1 a' (by omega) e1)
          · exact hG _ _ e3 (ih.2 a' (by omega) e1)
    rcases h0 with ⟨a0, h1, h2⟩ | ⟨a0, h1, h2⟩
    · exact hG _ _ h2 ((key (m a0 + 1)).1 a0 (by omega) h1)
    · exact hG _ _ h2 ((key (m' a0 + 1)).2 a0 (by omega) h1)
  · rename_i ks A m qs ss
    obtain ⟨h0, h3⟩ := h
    intro X hX hG
    have key : ∀ (k : Nat) (q : A → Prop × St), q ∈ qs → ∀ a : A, m a < k → (q a).1 → X (q a).2 := by
      intro k
      induction k with
      | zero => intro q _ a ha _; omega
      | succ k ih =>
        intro q hq a ha h1
        obtain ⟨j, hj⟩ := allN_mem h3 q hq
        refine hX _ (hB _ _ _ (ss j a) (seq_LS hK fun s' c' e => ?_) (hj a h1))
        obtain ⟨q', hq', a', e1, e2, e3⟩ := someN_mem e
        exact hG _ _ Gc.trim (hG _ _ e3 (ih q' hq' a' (by omega) e1))
    obtain ⟨q, hq, a, h1, _, h2⟩ := someN_mem h0
    exact hG _ _ Gc.trim (hG _ _ h2 (key (m a + 1) q hq a (by omega) h1))
  · exact loopS_sound hB hK _ s _ h
  · exact h.2.elim
  · exact loopS_sound hB hK lf s _ h
  · exact loopS_sound hB hK lf s _ h

omit [UF] in
theorem jumpS_sound {k : KontS} {k' : Kont} (hK : LSK k k') {s : St} {c : Scr} {o : Option Code} (h : jumpS k s c o) : jumpW k' s o := by
  cases o with
  | none => exact hK _ _ _ h
  | some x => cases x <;> first | exact hK _ _ _ h | exact h.elim

theorem endLoopS_sound {l : Nat} {k : KontS} {k' : Kont} (hK : LSK k k') {s : St} {c : Scr} (h : endLoopS l k s c) : endLoopW l k' s := by
  obtain ⟨e, ds, hh, u⟩ := s
  unfold endLoopS at h
  unfold endLoopW
  simp only at h ⊢
  split at h
  · rename_i st pd dq heq
    rw [heq]
    simp only
    cases st with
    | busy => exact h.elim
    | _ => exact jumpS_sound hK (by simpa only [gHeap_eq] using h)
  · exact h.elim

theorem afterRangeS_sound {l : Nat} {k : KontS} {k' : Kont} (hK : LSK k k') {s : St} : ∀ r h c, afterRangeS l k s r h c → afterRange l k' s r h
  | .ret _, _, _, e => endLoopS_sound hK e
  | .pan _, _, _, e => hK _ _ _ e

theorem rangeS_sound (hS : LSS S K) {n : Nat} {v : Option Value} {ps : List Nat} {x y : Code} {k : KontS} {k' : Kont} (hK : LSK k k') {s : St} {c : Scr} (h : rangeS P n S v ps x y k s c) : rangeW P n K v ps x y k' s := by
  obtain ⟨e, ds, hh, u⟩ := s
  unfold rangeS at h
  unfold rangeW
  simp only at h ⊢
  split at h
  · exact h.elim
  · rename_i hu
    split
    · exact absurd rfl hu
    · split at h
      · rename_i g first cap
        cases hb : hasBody P g with
        | false => rw [hb] at h; exact h.elim
        | true =>
          rw [hb, cond_true] at h
          simp only [gNat_eq, gHeap_eq] at h
          exact ⟨hb, hS _ _ _ _ _ _ (afterRangeS_sound hK) h⟩
      · exact h.elim

theorem wpS_sound (hS : LSS S K) (hM : Mono K) {n lf n0 : Nat} : ∀ (b : Code) (k : KontS) (k' : Kont) (s : St) (c : Scr), LSK k k' → wpS P gs n lf S K n0 b k s c → wpc P gs n K n0 b .leaf k' s := by
  intro b
  induction b with
  | skip => intro k k' s c hk h; exact hk _ _ _ h
  | label l => intro k k' s c hk h; exact hk _ _ _ h
  | seq x y ihx ihy => intro k k' s c hk h; exact ihx _ _ s c (seq_LS hk fun s' c' e => ihy _ _ s' c' hk e) h
  | cond q x y ihx ihy =>
    intro k k' s c hk h
    simp only [wpS] at h
    simp only [wpc]
    obtain ⟨b, hb, hp⟩ := turnS_sound (p := fun b => cond b (wpc P gs n K n0 x .leaf k' s) (wpc P gs n K n0 y .leaf k' s)) (fun c hc => ihx _ _ s c hk hc) (fun c hc => ihy _ _ s c hk hc) h
    unfold condW
    rw [hb]
    cases b with
    | true => exact hp
    | false => exact hp
  | block id x ih => intro k k' s c hk h; exact ih _ _ s c (block_LS hk) h
  | scope x ih => intro k k' s c hk h; exact ih _ _ s c hk h
  | loop x ih => intro k k' s c hk h; exact loopC_sound (fun KB K s c hk e => ih KB K s c hk e) hk s c h
  | exit id => intro k k' s c hk h; exact hk _ _ _ h
  | ret => intro k k' s c hk h; exact hk _ _ _ h
  | region id ops draw =>
    intro k k' s c hk h
    cases draw with
    | true => exact drawS_sound hS hM (fun s c e => hk _ _ c e) (fun ch s c e => hk _ _ c e) h
    | false => exact opsS_sound hS hM (fun s c e => hk _ _ c e) (fun ch s c e => hk _ _ c e) _ s c h
  | rangeFunc f ps x y => intro k k' s c hk h; exact rangeS_sound hS hk h
  | goto l => intro k k' s c hk h; exact h.elim
  | refuse y => intro k k' s c hk h; exact h.elim

end

theorem setS_sound {o : Option AHeap} {k k' : AHeap → Prop} (hk : ∀ h, k h → k' h) (h : setS o k) : bnd o k' := by
  cases o with
  | none => exact h
  | some x => exact hk _ (by simpa only [setS, gHeap_eq] using h)

theorem roundKS_sound {l : Nat} {Q : Res → AHeap → Scr → Prop} {Q' : Res → AHeap → Prop} (hQ : ∀ r h c, Q r h c → Q' r h) : LSK (roundKS l Q) (roundK l Q') := by
  intro x s c h
  cases x with
  | normal => exact setS_sound (fun h e => hQ _ _ _ e) h
  | ret => exact setS_sound (fun h e => hQ _ _ _ e) h
  | exit id => exact setS_sound (fun h e => hQ _ _ _ e) h
  | panic ch =>
    obtain ⟨e, ds, hh, u⟩ := s
    cases ds with
    | nil => exact hQ _ _ _ h
    | cons _ _ => exact h.elim

theorem assignKS_sound {l : Nat} {k : St → Scr → Prop} {k' : St → Prop} (hk : LS0 k k') {Q : Res → AHeap → Scr → Prop} {Q' : Res → AHeap → Prop} (hQ : ∀ r h c, Q r h c → Q' r h) : LSK (assignKS l k Q) (assignK l k' Q') := by
  intro x s c h
  cases x with
  | normal => obtain ⟨e, ds, hh, u⟩ := s; exact setS_sound (fun h e => hk _ _ e) h
  | ret => exact h.elim
  | exit id => exact h.elim
  | panic ch =>
    obtain ⟨e, ds, hh, u⟩ := s
    cases ds with
    | nil => exact hQ _ _ _ h
    | cons _ _ => exact h.elim

theorem yieldS_sound {S : FSpecS} {K : FSpec} (hS : LSS S K) (hM : Mono K) {lf : Nat} {l : Nat} {args : List Value} {h : AHeap} {c : Scr} {Q : Res → AHeap → Scr → Prop} {Q' : Res → AHeap → Prop} (hQ : ∀ r h c, Q r h c → Q' r h)
    (e : yieldS P gs lf S K l args h c Q) : yieldW P gs K l args h Q' := by
  unfold yieldS at e
  unfold yieldW
  split at e
  · rename_i e0 n m ps x y st pd dq heq
    rw [heq]
    simp only
    generalize hc : (Nat.beq args.length ps.length && (Nat.beq m P.funcs.size && (ps.all (Nat.blt · n) && (okCode P n x && okCode P n y)))) = b at e ⊢
    cases b with
    | false => exact e.elim
    | true => exact ⟨rfl, wpS_sound hS hM x _ _ _ _ (assignKS_sound (fun s c e => wpS_sound hS hM y _ _ _ _ (roundKS_sound hQ) e) hQ) e⟩
  · exact e.elim

theorem leaveS_sound {D : DSpecS} {D' : DSpec} (hD : LSD D D') {rs : List ResultVar} {e : AEnv} {Q : Res → AHeap → Scr → Prop} {Q' : Res → AHeap → Prop} (hQ : ∀ r h c, Q r h c → Q' r h) :
    ∀ (ds : List ADef) (u : UMode) (h : AHeap) (c : Scr), leaveS P D rs e ds u h c Q → leaveW P D' rs e ds u h Q'
  | [], u, h, c, x => by
    cases u with
    | norm => exact x.elim
    | round => exact x.elim
    | ret => exact bnd_mono x fun l hl => hQ _ _ c (by simpa only [gList_eq (gSp_eq 3)] using hl)
    | pan ch => exact hQ _ _ _ x
  | .mark q :: ds, u, h, c, x => by
    simp only [leaveS] at x
    simp only [leaveW]
    split at x
    · rename_i heq
      rw [heq]
      exact leaveS_sound hD hQ ds _ _ c (by simpa only [gHeap_eq] using x)
    · exact x.elim
  | .call f as :: ds, u, h, c, x => by
    simp only [leaveS] at x
    simp only [leaveW]
    refine hD f as h u _ _ _ (fun r u' h' c' e => ?_) x
    cases r with
    | ret v => exact leaveS_sound hD hQ ds _ _ _ e
    | pan ch => exact leaveS_sound hD hQ ds _ _ _ e

theorem fnKontS_sound {D : DSpecS} {D' : DSpec} (hD : LSD D D') {rs : List ResultVar} {Q : Res → UMode → AHeap → Scr → Prop} {Q' : Res → UMode → AHeap → Prop} (hQ : ∀ r u h c, Q r u h c → Q' r u h) : LSK (fnKontS P D rs Q) (fnKont P D' rs Q') := by
  intro x s c h
  obtain ⟨e, ds, hh, u⟩ := s
  cases x with
  | normal => exact leaveS_sound hD (fun r h c e => hQ _ _ _ c e) ds _ _ _ h
  | ret => exact leaveS_sound hD (fun r h c e => hQ _ _ _ c e) ds _ _ _ h
  | panic ch => exact leaveS_sound hD (fun r h c e => hQ _ _ _ c e) ds _ _ _ h
  | exit id => exact h.elim

omit [UF] in
theorem SpecC_mono : Mono (SpecC P gs) := by
  intro f args h Q Q' hq hs
  cases f with
  | fn f =>
    rcases hs with hs | hs
    · exact .inl (Spec.mono hs hq)
    · refine .inr ⟨hs.1, fun F w0 j w args' S hA => ?_⟩
      obtain ⟨v, h', j', v', w', k, r⟩ := hs.2 F w0 j w args' S hA
      exact ⟨v, h', j', v', w', hq _ _ k, r⟩
  | yield l =>
    intro G F w0 j w args' c cs L S hA hg hj hr hp
    exact hs G F w0 j w args' c cs L S hA hg hj (fun v h' j' w' v' q => hr v h' j' w' v' (hq _ _ q)) (fun ch h' j' w' ch' q => hp ch h' j' w' ch' (hq _ _ q))

omit [UF] in
theorem known_LSS {kn : List Nat} {R : FSpecS} (hR : LSS R (SpecC P gs)) : LSS (fun f args h c Q => knownS kn f (R f args h c Q)) (SpecC P gs) := by
  intro f args h c Q Q' hQ e
  cases f with
  | fn f =>
    simp only [knownS] at e
    cases hb : kn.contains f with
    | true => rw [hb] at e; exact e.elim
    | false => rw [hb] at e; exact hR _ _ _ _ _ _ hQ e
  | yield l => exact hR _ _ _ _ _ _ hQ e

theorem forget_LSS {fg : Bool} {R : FSpecS} (hR : LSS R (SpecC P gs)) : LSS (fun f args h c Q => R f args h c fun r h' c => forgetS fg h.length r h' c (Q r)) (SpecC P gs) := by
  intro f args h c Q Q' hQ e
  cases fg with
  | false => exact hR f args h c _ _ (fun r h' c e => hQ _ _ c e) e
  | true =>
  refine SpecC.forget (hR f args h c _ _ (fun r h' c e => ?_) e)
  simp only [forgetS, cond_true] at e
  cases hb : mayForget h.length r (h'.take h.length) with
  | true => rw [hb] at e; exact hQ _ _ c (by simpa only [cond_true, gHeap_eq] using e)
  | false => rw [hb] at e; exact hQ _ _ c e

theorem ext_LSS {R : FSpecS} (hR : LSS R (SpecC P gs)) : LSS (fun f args h c Q => extOrS P f args h c Q (R f args h c Q)) (SpecC P gs) := by
  intro f args h c Q Q' hQ e
  cases f with
  | yield l => exact hR _ _ _ _ _ _ hQ e
  | fn f =>
    simp only [extOrS] at e
    split at e
    · rename_i fn hx
      split at e
      · rename_i v h' ha
        simp only [gHeap_eq] at e
        exact .inr (specX_of hx ha (hQ _ _ _ e))
      · exact e.elim
    · exact hR _ _ _ _ _ _ hQ e

/-- what a scripted run asks for is enough -/
theorem runX_sound (hm : P.follows .mixedOrders = true) {fg : Bool} {kn : List Nat} {lf : Nat} : ∀ (m : Nat),
    (LSS (fun f args h c Q => runX P gs fg kn lf (SpecC P gs) m f args h .norm c fun r _ h c => Q r h c) (SpecC0 P gs)) ∧ LSD (fun f => runX P gs fg kn lf (SpecC P gs) m (.fn f)) (SpecD P gs)
  | 0 => ⟨fun f args h c Q Q' _ e => e.elim, fun f args h u c Q Q' _ e => e.elim⟩
  | m + 1 => by
    obtain ⟨ihS0, ihD⟩ := runX_sound hm m
    have ihS : LSS (fun f args h c Q => runX P gs fg kn lf (SpecC P gs) m f args h .norm c fun r _ h c => Q r h c) (SpecC P gs) := fun f args h c Q Q' hQ e => (ihS0 f args h c Q Q' hQ e).toC
    have open1 : ∀ {f : FuncId} {args : List Value} {h : AHeap} {u : UMode} {c : Scr} {Q : Res → UMode → AHeap → Scr → Prop}, runX P gs fg kn lf (SpecC P gs) (m + 1) (.fn f) args h u c Q →
        ∃ fn b, P.funcs[f]? = some fn ∧ fn.body = some b ∧ (fn.name == "runtime.NumGoroutine") = false ∧ okCode P fn.ntmps b = true ∧ args.length ≤ fn.ntmps ∧
          ∀ Q' : Res → UMode → AHeap → Prop, (∀ r u h c, Q r u h c → Q' r u h) → fnW P gs fn b .leaf args h u Q' := by
      intro f args h u c Q e
      simp only [runX] at e
      cases hb : okFn P f with
      | false => rw [hb] at e; exact e.elim
      | true =>
        rw [hb, cond_true] at e
        obtain ⟨fn, b, h1, h2, h3, h4⟩ := okFn_spec hb
        rw [h1] at e
        simp only [h2] at e
        cases hl : Nat.ble args.length fn.ntmps with
        | false => rw [hl] at e; exact e.elim
        | true =>
          rw [hl, cond_true] at e
          refine ⟨fn, b, h1, h2, h3, h4, Nat.ble_eq.mp hl, fun Q' hQ => ?_⟩
          exact wpS_sound (ext_LSS (known_LSS (forget_LSS ihS))) SpecC_mono b _ _ _ _ (fnKontS_sound ihD hQ) e
    constructor
    · intro f args h c Q Q' hQ e
      cases f with
      | fn f =>
        obtain ⟨fn, b, h1, h2, h3, h4, h5, h6⟩ := open1 e
        exact spec_of_body hm .leaf h1 h2 h3 h4 h5 (h6 _ fun r u h c e => hQ r h c e)
      | yield l =>
        simp only [runX] at e
        exact specY_of hm (yieldS_sound (ext_LSS (known_LSS (forget_LSS ihS))) SpecC_mono hQ e)
    · intro f args h u c Q Q' hQ e
      obtain ⟨fn, b, h1, h2, h3, h4, h5, h6⟩ := open1 e
      exact specD_of_body hm .leaf h1 h2 h3 h4 h5 (h6 _ hQ)

theorem spec_of_script (hm : P.follows .mixedOrders = true) {fg : Bool} {kn : List Nat} {lf m : Nat} {f : FuncId} {args : List Value} {h : AHeap} {c : Scr} {Q : Res → AHeap → Prop}
    (e : runS P gs fg kn lf (SpecC P gs) m f args h .norm c (fun r _ h _ => Q r h)) : Spec P gs f args h Q :=
  (runX_sound (gs := gs) (fg := fg) (kn := kn) (lf := lf) hm m).1 (.fn f) args h c (fun r h _ => Q r h) Q (fun _ _ _ e => e) e

end Go.Fm
