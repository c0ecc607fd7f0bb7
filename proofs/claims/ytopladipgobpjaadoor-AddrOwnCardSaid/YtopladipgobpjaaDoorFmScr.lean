/-
  FmScr: a program run by the kernel on symbolic values: at the steps that a script names, what comes out is asked for instead of worked out.
-/
import Derived.Test.YtopladipgobpjaaDoorFmEvalSound
namespace Go.Fm

/-- what is done at the steps that look at a symbol -/
inductive Scr where
  | go
  | skip (n : Nat) (s : Scr)
  | ask (t f : Scr)
  | two (t f : Scr)
  | yes (s : Scr)
  | no (s : Scr)
  | all (s : Int → Scr)
  | raw (s : Scr)
  | val (v : Value) (s : Scr)
  | put (v : Value) (h : AHeap) (s : Scr)
  | gen (A : Type) (f : A → Value) (s : A → Scr)
  | genE (A : Type) (f : A → Value × AHeap) (s : A → Scr)
  | call (A : Type) (p : A → Prop × Res × AHeap) (s : A → Scr)
  | inv (A : Type) (q : A → Prop × St) (m : A → Nat) (s : A → Scr)
  | inv2 (A B : Type) (q : A → Prop × St) (m : A → Nat) (s : A → Scr) (q' : B → Prop × St) (m' : B → Nat) (s' : B → Scr)
  | unr (n : Nat) (s : Scr)
  | byB (b : Bool) (t f : Scr)
  | look (f : Nat → Op → List (Option Value) → Option Value → AHeap → AEnv → Prop)

abbrev KontS := AExit → St → Scr → Prop
abbrev NextS := Value → St → Scr → Prop
abbrev PanS := Chain → St → Scr → Prop
abbrev FSpecS := Callee → List Value → AHeap → Scr → (Res → AHeap → Scr → Prop) → Prop
abbrev DSpecS := FuncId → List Value → AHeap → UMode → Scr → (Res → UMode → AHeap → Scr → Prop) → Prop

/-! ## forcing -/

def gNat (n : Nat) (k : Nat → Prop) : Prop :=
  match n with
  | 0 => k 0
  | m + 1 => k (m + 1)
def gInt (n : Int) (k : Int → Prop) : Prop :=
  match n with
  | .ofNat m => gNat m fun m => k (.ofNat m)
  | .negSucc m => gNat m fun m => k (.negSucc m)
def gBool (b : Bool) (k : Bool → Prop) : Prop := cond b (k true) (k false)
def gON (n : Option Nat) (k : Option Nat → Prop) : Prop :=
  match n with
  | none => k none
  | some m => gNat m fun m => k (some m)
def gA (a : Option Addr) (k : Option Addr → Prop) : Prop :=
  match a with
  | none => k none
  | some ⟨b, o, s⟩ => gNat b fun b => gNat o fun o => gON s fun s => k (some ⟨b, o, s⟩)
def gList {α : Type} (f : α → (α → Prop) → Prop) : List α → (List α → Prop) → Prop
  | [], k => k []
  | a :: r, k => f a fun a => gList f r fun r => k (a :: r)
def gV : Nat → Value → (Value → Prop) → Prop
  | 0, v, k => k v
  | n + 1, v, k =>
    match v with
    | .bool b => gBool b fun b => k (.bool b)
    | .int i n => gInt n fun n => k (.int i n)
    | .pointer a => gA a fun a => k (.pointer a)
    | .slice a l c => gA a fun a => gNat l fun l => gNat c fun c => k (.slice a l c)
    | .map r => gON r fun r => k (.map r)
    | .agg x => gList (gV n) x.toList fun l => k (.agg ⟨l⟩)
    | .tuple x => gList (gV n) x.toList fun l => k (.tuple ⟨l⟩)
    | .iface t v => gV n v fun v => k (.iface t v)
    | .string s => gList (fun (b : UInt8) k => gNat b.toNat fun m => k (UInt8.ofNat m)) s.data.toList fun l => k (.string ⟨⟨l⟩⟩)
    | v => k v

theorem gNat_eq (n : Nat) (k : Nat → Prop) : gNat n k = k n := by cases n <;> rfl
theorem gInt_eq (n : Int) (k : Int → Prop) : gInt n k = k n := by cases n <;> simp [gInt, gNat_eq]
theorem gBool_eq (n : Bool) (k : Bool → Prop) : gBool n k = k n := by cases n <;> rfl
theorem gON_eq (n : Option Nat) (k : Option Nat → Prop) : gON n k = k n := by cases n <;> simp [gON, gNat_eq]
theorem gA_eq (n : Option Addr) (k : Option Addr → Prop) : gA n k = k n := by
  cases n with
  | none => rfl
  | some a => obtain ⟨b, o, s⟩ := a; simp [gA, gNat_eq, gON_eq]
theorem gList_eq {α : Type} {f : α → (α → Prop) → Prop} (hf : ∀ a k, f a k = k a) : ∀ (l : List α) (k : List α → Prop), gList f l k = k l
  | [], k => rfl
  | a :: r, k => by simp [gList, hf, gList_eq hf r]
theorem gV_eq : ∀ (n : Nat) (v : Value) (k : Value → Prop), gV n v k = k v
  | 0, v, k => rfl
  | n + 1, v, k => by
    have ih := gV_eq n
    unfold gV
    split
    · rw [gBool_eq]
    · rw [gInt_eq]
    · rw [gA_eq]
    · simp only [gA_eq, gNat_eq]
    · rw [gON_eq]
    · rw [gList_eq ih]
    · rw [gList_eq ih]
    · rw [ih]
    · rw [gList_eq]
      intro a k
      rw [gNat_eq, UInt8.ofNat_toNat]
    · rfl

/-- the spine alone -/
def gSp : Nat → Value → (Value → Prop) → Prop
  | 0, v, k => k v
  | n + 1, v, k =>
    match v with
    | .agg x => gList (gSp n) x.toList fun l => k (.agg ⟨l⟩)
    | .tuple x => gList (gSp n) x.toList fun l => k (.tuple ⟨l⟩)
    | v => k v

theorem gSp_eq : ∀ (n : Nat) (v : Value) (k : Value → Prop), gSp n v k = k v
  | 0, _, _ => rfl
  | n + 1, v, k => by
    have ih := gSp_eq n
    unfold gSp
    split
    · rw [gList_eq ih]
    · rw [gList_eq ih]
    · rfl

def gR (op : Op) (v : Value) (k : Value → Prop) : Prop :=
  match op with
  | .binOp _ _ _ _ _ | .unOp _ _ _ | .convert _ _ _ | .fieldAddr _ _ _ | .indexAddr _ _ _ | .slice _ _ _ _ _ | .call _ => gV 3 v k
  | .move _ => match v with
    | .bool b => gBool b fun b => k (.bool b)
    | v => gSp 3 v k
  | _ => gSp 3 v k

theorem gR_eq (op : Op) (v : Value) (k : Value → Prop) : gR op v k = k v := by
  unfold gR
  split
  all_goals first
    | exact gV_eq _ _ _
    | exact gSp_eq _ _ _
    | (split; exact gBool_eq _ _; exact gSp_eq _ _ _)

/-- what an effect gives: an entry is moved -/
def gE (op : Op) (v : Value) (k : Value → Prop) : Prop :=
  match op with
  | .entry _ => gSp 3 v k
  | _ => gV 3 v k

theorem gE_eq (op : Op) (v : Value) (k : Value → Prop) : gE op v k = k v := by
  unfold gE
  split <;> first | exact gV_eq _ _ _ | exact gSp_eq _ _ _

/-- the types whose blocks are not worked out: rows of symbols -/
class UF where
  types : List TypeId

instance (priority := low) noUF : UF := ⟨[]⟩

variable [UF]

def gObj (o : AObj) (k : AObj → Prop) : Prop :=
  match o with
  | .cells c r => match r with
    | true => k (.cells c true)
    | false => gList (gSp 1) c fun c => k (.cells c false)
  | .tcells c t z => cond (UF.types.contains t) (k (.tcells c t z)) (gList (gSp 1) c fun c => k (.tcells c t z))
  | o => k o
theorem gObj_eq (o : AObj) (k : AObj → Prop) : gObj o k = k o := by
  cases o with
  | cells c r => cases r <;> simp only [gObj, gList_eq (gSp_eq 1)]
  | tcells c t z =>
    simp only [gObj, gList_eq (gSp_eq 1)]
    cases UF.types.contains t <;> rfl
  | _ => rfl

def gHeap (h : AHeap) (k : AHeap → Prop) : Prop := gList gObj h k
theorem gHeap_eq (h : AHeap) (k : AHeap → Prop) : gHeap h k = k h := gList_eq gObj_eq h k

/-! ## steps -/

/-- a step that only works a value out -/
def stepS (op : Op) (vs : List (Option Value)) (h : AHeap) (o : Option Value) (c : Scr) (next : Value → Scr → Prop) : Prop :=
  match c with
  | .go => bnd o fun v => gR op v fun v => next v .go
  | .skip (n + 1) c => bnd o fun v => gR op v fun v => next v (.skip n c)
  | .skip 0 c => match c with
    | .ask t f => match o with
      | some (.bool b) => (b = true → next (.bool true) t) ∧ (b = false → next (.bool false) f)
      | _ => False
    | .two t f => (∃ b : Bool, o = some (.bool b)) ∧ (o = some (.bool true) → next (.bool true) t) ∧ (o = some (.bool false) → next (.bool false) f)
    | .yes c => o = some (.bool true) ∧ next (.bool true) c
    | .no c => o = some (.bool false) ∧ next (.bool false) c
    | .all c => match o with
      | some (.int k z) => ∀ x, x = z → next (.int k x) (c x)
      | _ => False
    | .raw c => bnd o fun v => next v c
    | .val v c => o = some v ∧ next v c
    | .gen A f sc => (∃ a : A, o = some (f a)) ∧ ∀ a : A, o = some (f a) → next (f a) (sc a)
    | .look f => f 0 op vs o h [] ∧ False
    | _ => False
  | _ => False

/-- a step that goes one of two ways -/
def turnS (o : Option Value) (c : Scr) (t f : Scr → Prop) : Prop :=
  match c with
  | .go => match o with
    | some (.bool b) => cond b (t .go) (f .go)
    | _ => False
  | .skip (n + 1) c => match o with
    | some (.bool b) => cond b (t (.skip n c)) (f (.skip n c))
    | _ => False
  | .skip 0 c => match c with
    | .ask ct cf => match o with
      | some (.bool b) => (b = true → t ct) ∧ (b = false → f cf)
      | _ => False
    | .yes c => o = some (.bool true) ∧ t c
    | .no c => o = some (.bool false) ∧ f c
    | .look g => g 1 (.move (.const .nilFunc)) [] o [] [] ∧ False
    | _ => False
  | _ => False

/-- a step that turns the heap -/
def effS1 (op : Op) (vs : List (Option Value)) (h : AHeap) (o : Option (Value × AHeap)) (c : Scr) (next : Value → AHeap → Scr → Prop) : Prop :=
  match c with
  | .go => bnd o fun p => match p with
    | (v, h) => gE op v fun v => gHeap h fun h => next v h .go
  | .skip (n + 1) c => bnd o fun p => match p with
    | (v, h) => gE op v fun v => gHeap h fun h => next v h (.skip n c)
  | .skip 0 c => match c with
    | .raw c => bnd o fun p => match p with
      | (v, h) => gHeap h fun h => next v h c
    | .put v h c => o = some (v, h) ∧ next v h c
    | .genE A f sc => (∃ a : A, o = some (f a)) ∧ ∀ a : A, o = some (f a) → next (f a).1 (f a).2 (sc a)
    | .look f => f 2 op vs (o.map (·.1)) h [] ∧ False
    | _ => False
  | _ => False

/-- the same, by a test of one's own -/
def effS (op : Op) (vs : List (Option Value)) (h : AHeap) (o : Option (Value × AHeap)) (c : Scr) (next : Value → AHeap → Scr → Prop) : Prop :=
  match c with
  | .skip 0 (.byB b t f) => (b = true → effS1 op vs h o t next) ∧ (b = false → effS1 op vs h o f next)
  | c => effS1 op vs h o c next

def allS : List (Value × AHeap) → (Value → AHeap → Prop) → Prop
  | [], _ => True
  | [(v, h)], k => k v h
  | (v, h) :: r, k => k v h ∧ allS r k

section
variable (P : Program) (gs : List Nat) (n : Nat) (S : FSpecS)

def afterS (s : St) (next : NextS) (pan : PanS) : Res → AHeap → Scr → Prop
  | .ret v, h, c => match s with | ⟨e, ds, _, u⟩ => next v ⟨e, ds, h, u⟩ c
  | .pan ch, h, c => match s with | ⟨e, ds, _, u⟩ => pan ch ⟨e, ds, h, u⟩ c

def recoverS (s : St) (c : Scr) (next : NextS) : Prop :=
  match s with
  | ⟨e, ds, h, .pan ((v, false) :: older)⟩ => next v ⟨e, ds, h, .pan ((v, true) :: older)⟩ c
  | ⟨_, _, _, .round⟩ => False
  | s => next .nilIface s c

def dataS (ρ : Operand → Option Value) (op : Op) (s : St) (c : Scr) (next : NextS) : Prop :=
  match cls P op with
  | .pure => stepS op (op.operands.toList.map ρ) s.h (aPure P ρ op) c fun v c => next v s c
  | .read => stepS op (op.operands.toList.map ρ) s.h (aRead P ρ s.h op) c fun v c => next v s c
  | .alloc => match s with
    | ⟨e, ds, h, u⟩ => effS op (op.operands.toList.map ρ) h ((aAlloc P ρ h.length op).map fun p => (p.2, h ++ [p.1])) c fun v h c => next v ⟨e, ds, h, u⟩ c
  | .eff => match s with
    | ⟨e, ds, h, u⟩ => effS op (op.operands.toList.map ρ) h (aEff P ρ h op) c fun v h c => next v ⟨e, ds, h, u⟩ c

/-- a call: by its own run, or by a contract -/
def callS (K : FSpec) (p : Callee × List Value) (h : AHeap) (c : Scr) (Q : Res → AHeap → Scr → Prop) : Prop :=
  match c with
  | .skip 0 (.call _ q sc) => match p with
    | (g, as) => K g as h (fun r h' => ∃ a, (q a).1 ∧ r = (q a).2.1 ∧ h' = (q a).2.2) ∧ ∀ a, (q a).1 → Q (q a).2.1 (q a).2.2 (sc a)
  | .skip 0 (.look f) => match p with
    | (.fn g, as) => f 3 (.move (.const .nilFunc)) (some (.func (.func g) #[] #[]) :: as.map some) none h [] ∧ False
    | _ => f 3 (.move (.const .nilFunc)) [] none h [] ∧ False
  | .skip (n + 1) c => match p with
    | (g, as) => S g as h (.skip n c) Q
  | c => match p with
    | (g, as) => S g as h c Q

variable (K : FSpec)

def opS (ρ : Operand → Option Value) (op : Op) (s : St) (c : Scr) (next : NextS) (pan : PanS) : Prop :=
  match op with
  | .call { callee := .value f, args := args, argTypes := _ } => bnd (target ρ f args.toList) fun p => callS S K p s.h c (afterS s next pan)
  | .call { callee := .builtin .recover, args := _, argTypes := _ } => recoverS s c next
  | .defer { callee := .value f, args := args, argTypes := _ } =>
    match s with
    | ⟨_, _, _, .round⟩ => False
    | ⟨e, ds, h, u⟩ => bnd (target ρ f args.toList) fun p => match p with
      | (.fn g, as) => gList (gSp 3) as fun as => next undefV ⟨e, .call g as :: ds, h, u⟩ c
      | _ => False
  | .panic x => match ρ x with
    | some (.iface t v) => pan [(.iface t v, false)] s c
    | _ => False
  | .next it false => bnd ((ρ it).bind fun v => aNextMap v s.h) fun outs => allS outs fun v h => match s with
    | ⟨e, ds, _, u⟩ => gSp 3 v fun v => gHeap h fun h => next v ⟨e, ds, h, u⟩ c
  | op => dataS P ρ op s c next

def guardS (g : Option Value) (want : Bool) (run : Scr → NextS → Prop) (s : St) (c : Scr) (next : NextS) : Prop :=
  match g with
  | some (.tuple _) => next undefV s c
  | g => turnS g c (fun c => cond want (run c next) (next undefV s c)) (fun c => cond want (next undefV s c) (run c next))

def putS (dst : Option Nat) (v : Value) (s : St) (c : Scr) (k : St → Scr → Prop) : Prop :=
  match dst with
  | some d => cond (Nat.blt d n) (match s with | ⟨e, ds, h, u⟩ => k ⟨(d, v) :: e, ds, h, u⟩ c) False
  | none => k s c

def operS (gd : Nat → Option Nat) (o : Oper) (s : St) (c : Scr) (k : St → Scr → Prop) (pan : PanS) : Prop :=
  match o.guard with
  | none => opS P S K (ev gs s.e) o.op s c (fun v s' c => putS n o.dst v s' c k) pan
  | some (j, want) => guardS ((gd j).bind s.e.get) want (fun c nx => opS P S K (ev gs s.e) o.op s c nx pan) s c (fun v s' c => putS n o.dst v s' c k)

def opsS (gd : Nat → Option Nat) : List Oper → St → Scr → (St → Scr → Prop) → PanS → Prop
  | [], s, c, k, _ => k s c
  | o :: r, s, c, k, pan => operS P gs n S K gd o s c (fun s' c => opsS gd r s' c k pan) pan

/-! ## regions that draw -/

def floatS (ρ : Operand → Option Value) (i hi st : Nat) (op : Op) (R : AEnv) (pend : List Pd) (s : St) (c : Scr) (k : AEnv → List Pd → St → Scr → Prop) : Prop :=
  match cls P op with
  | .pure => stepS op (op.operands.toList.map ρ) s.h (aPure P ρ op) c fun v c => k ((i, v) :: R) pend s c
  | .read => stepS op (op.operands.toList.map ρ) s.h (aRead P ρ s.h op) c fun v c => k ((i, v) :: R) (addPd st hi (fun h => aRead P ρ h op = some v) pend) s c
  | .alloc => match s with
    | ⟨e, ds, h, u⟩ => bnd (aAlloc P ρ h.length op) fun p => match p with
      | (o, v) => gObj o fun o => gV 3 v fun v => gHeap (h ++ [o]) fun h' => k ((i, v) :: R) (addPd st hi (fun h2 => h2[h.length]? = some o) pend) ⟨e, ds, h', u⟩ c
  | .eff => False

def guardFS (g : Option Value) (want : Bool) (run : Scr → (AEnv → List Pd → St → Scr → Prop) → Prop) (i : Nat) (R : AEnv) (pend : List Pd) (s : St) (c : Scr) (k : AEnv → List Pd → St → Scr → Prop) : Prop :=
  match g with
  | some (.tuple _) => k ((i, undefV) :: R) pend s c
  | g => turnS g c (fun c => cond want (run c k) (k ((i, undefV) :: R) pend s c)) (fun c => cond want (k ((i, undefV) :: R) pend s c) (run c k))

variable (L : List Oper) (ms ws : List Nat) (e0 : AEnv)

def floatsS (st : Nat) : List Nat → AEnv → List Pd → St → Scr → (AEnv → List Pd → St → Scr → Prop) → Prop
  | [], R, pend, s, c, k => k R pend s c
  | i :: r, R, pend, s, c, k =>
    match L[i]? with
    | none => False
    | some o =>
      match o.guard with
      | none => floatS P (evF gs L ms e0 R i (opReads o.op)) i (hiOf ms ws i) st o.op R pend s c fun R' pend' s' c => floatsS st r R' pend' s' c k
      | some (j, want) => guardFS (R.get j) want (fun c k' => floatS P (evF gs L ms e0 R i (opReads o.op)) i (hiOf ms ws i) st o.op R pend s c k') i R pend s c fun R' pend' s' c => floatsS st r R' pend' s' c k

def effKS (i : Nat) (R : AEnv) (s : St) (c : Scr) (next : NextS) (pan : PanS) : Prop :=
  match L[i]? with
  | none => False
  | some o =>
    match o.guard with
    | none => opS P S K (evF gs L ms e0 R i (opReads o.op)) o.op s c next pan
    | some (j, want) => guardS (R.get j) want (fun c nx => opS P S K (evF gs L ms e0 R i (opReads o.op)) o.op s c nx pan) s c next

def stagesS : List (List Nat × Option Nat) → Nat → AEnv → List Pd → St → Scr → (AEnv → St → Scr → Prop) → PanS → Prop
  | [], _, R, _, s, c, k, _ => k R s c
  | (fl, none) :: _, st, R, pend, s, c, k, _ => floatsS P gs L ms ws e0 st fl R pend s c fun R' _ s' c => k R' s' c
  | (fl, some w) :: r, st, R, pend, s, c, k, pan => floatsS P gs L ms ws e0 st fl R pend s c fun R' pend' s' c =>
      effKS P gs S K L ms e0 w R' s' c (fun v s'' c => checks pend' (st + 1) s''.h (stagesS r (st + 1) ((w, v) :: R') pend' s'' c k pan)) pan

end

def drawS (P : Program) (gs : List Nat) (S : FSpecS) (K : FSpec) (L : List Oper) (s : St) (c : Scr) (k : St → Scr → Prop) (pan : PanS) : Prop :=
  match s with
  | ⟨e, ds, h, u⟩ =>
    stagesS P gs S K L (masks L []) (effs P L) e (stagesOf P L (masks L []) (effs P L) (effs P L) 0) 0 [] [] ⟨e, ds, h, u⟩ c
      (fun R s' c => match s' with | ⟨_, ds, h, u⟩ => k ⟨finishE R L 0 e, ds, h, u⟩ c) (fun ch s' c => match s' with | ⟨_, ds, h, u⟩ => pan ch ⟨dropE (dstsOf L) e, ds, h, u⟩ c)

/-! ## code -/

def KontS.seq (K : KontS) (next : St → Scr → Prop) : KontS
  | .normal, s, c => next s c
  | x, s, c => K x s c

def KontS.block (K : KontS) (id : Nat) : KontS
  | .exit id', s, c => cond (Nat.beq id' id) (K .normal s c) (K (.exit id') s c)
  | x, s, c => K x s c

def loopS : Nat → (KontS → St → Scr → Prop) → KontS → St → Scr → Prop
  | 0, _, _, _, _ => False
  | m + 1, B, K, s, c => match s with
    | ⟨e, ds, h, u⟩ => gList (fun p k => k p) (dedupe e 0) fun e => B (K.seq fun s' c => loopS m B K s' c) ⟨e, ds, h, u⟩ c

section
variable (P : Program) (gs : List Nat) (n lf : Nat) (S : FSpecS) (C : FSpec) (n0 : Nat)

/-- a loop: round by round; or by an invariant, a measure, and what is forgotten -/
def loopC (B : KontS → St → Scr → Prop) (K : KontS) (s : St) (c : Scr) : Prop :=
  match c with
  | .skip 0 (.inv A q m sc) => (∃ a : A, (q a).1 ∧ Gc gs n0 s (q a).2) ∧ ∀ a : A, (q a).1 → B (K.seq fun s' _ => ∃ a', (q a').1 ∧ m a' < m a ∧ Gc gs n0 s' (q a').2) (q a).2 (sc a)
  | .skip 0 (.inv2 A A' q m sc q' m' sc') => ((∃ a : A, (q a).1 ∧ Gc gs n0 s (q a).2) ∨ ∃ a : A', (q' a).1 ∧ Gc gs n0 s (q' a).2) ∧
      (∀ a : A, (q a).1 → B (K.seq fun s' _ => (∃ a', (q a').1 ∧ m a' < m a ∧ Gc gs n0 s' (q a').2) ∨ ∃ a', (q' a').1 ∧ m' a' < m a ∧ Gc gs n0 s' (q' a').2) (q a).2 (sc a)) ∧
      (∀ a : A', (q' a).1 → B (K.seq fun s' _ => (∃ a', (q a').1 ∧ m a' < m' a ∧ Gc gs n0 s' (q a').2) ∨ ∃ a', (q' a').1 ∧ m' a' < m' a ∧ Gc gs n0 s' (q' a').2) (q' a).2 (sc' a))
  | .skip 0 (.unr m c) => loopS m B K s c
  | .skip 0 (.look f) => f 4 (.move (.const .nilFunc)) [] none s.h s.e ∧ False
  | .skip (n + 1) c => loopS lf B K s (.skip n c)
  | c => loopS lf B K s c

def jumpS (K : KontS) (s : St) (c : Scr) : Option Code → Prop
  | none => K .normal s c
  | some .ret => K .ret s c
  | some (.exit id) => K (.exit id) s c
  | _ => False

def endLoopS (l : Nat) (K : KontS) (s : St) (c : Scr) : Prop :=
  match s with
  | ⟨e, ds, h, u⟩ => match h[l]? with
    | some (.spec (.loop _ _ _ _ _ _ st pd _)) => match st with
      | .busy => False
      | _ => gHeap (h.set l (.spec .over)) fun h => jumpS K ⟨e, ds, h, u⟩ c pd
    | _ => False

def afterRangeS (l : Nat) (K : KontS) (s : St) : Res → AHeap → Scr → Prop
  | .pan ch, h', c => match s with
    | ⟨e, ds, _, u⟩ => K (.panic ch) ⟨e, ds, h', u⟩ c
  | .ret _, h', c => match s with
    | ⟨e, ds, _, u⟩ => endLoopS l K ⟨e, ds, h', u⟩ c

def rangeS (v : Option Value) (ps : List Nat) (x y : Code) (K : KontS) (s : St) (c : Scr) : Prop :=
  match s with
  | ⟨e, ds, h, u⟩ => match u with
    | .round => False
    | _ => match v with
      | some (.func (.func g) first cap) =>
        cond (hasBody P g) (gNat h.length fun q => gHeap (h ++ [.spec .defq] ++ [.spec (.loop e n P.funcs.size ps x y .ready none q)]) fun h' =>
          S (.fn g) (first.toList ++ (.func (.yield (q + 1)) #[] #[] :: cap.toList)) h' c (afterRangeS (q + 1) K ⟨e, .mark q :: ds, h, u⟩)) False
      | _ => False

def wpS : Code → KontS → St → Scr → Prop
  | .skip, K, s, c | .label _, K, s, c => K .normal s c
  | .seq x y, K, s, c => wpS x (K.seq fun s' c => wpS y K s' c) s c
  | .cond b x y, K, s, c => turnS (ev gs s.e b) c (fun c => wpS x K s c) (fun c => wpS y K s c)
  | .block id x, K, s, c => wpS x (K.block id) s c
  | .scope x, K, s, c => wpS x K s c
  | .loop x, K, s, c => loopC gs lf n0 (fun K' s' c => wpS x K' s' c) K s c
  | .exit id, K, s, c => K (.exit id) s c
  | .ret, K, s, c => K .ret s c
  | .region _ ops true, K, s, c => drawS P gs S C ops.toList s c (K .normal) (fun ch => K (.panic ch))
  | .region _ ops false, K, s, c => opsS P gs n S C (gdOf ops.toList) ops.toList s c (K .normal) (fun ch => K (.panic ch))
  | .rangeFunc f ps x y, K, s, c => rangeS P n S (ev gs s.e f) ps.toList x y K s c
  | _, _, _, _ => False

def setS (o : Option AHeap) (Q : AHeap → Prop) : Prop :=
  match o with
  | some h => gHeap h Q
  | none => False

def noDefersS (ds : List ADef) (p : Prop) : Prop :=
  match ds with
  | [] => p
  | _ => False

def roundKS (l : Nat) (Q : Res → AHeap → Scr → Prop) : KontS
  | .normal, s, c => setS (setLoop l .ready none s.h) fun h => Q (.ret (.bool true)) h c
  | .ret, s, c => setS (setLoop l .done (some .ret) s.h) fun h => Q (.ret (.bool false)) h c
  | .exit id, s, c => setS (setLoop l .done (some (.exit id)) s.h) fun h => Q (.ret (.bool false)) h c
  | .panic ch, s, c => noDefersS s.ds (Q (.pan ch) s.h c)

def beginS (l : Nat) (k : St → Scr → Prop) (s : St) (c : Scr) : Prop :=
  match s with
  | ⟨e, ds, h, u⟩ => setS (busyLoop l h) fun h => k ⟨e, ds, h, u⟩ c

def assignKS (l : Nat) (k : St → Scr → Prop) (Q : Res → AHeap → Scr → Prop) : KontS
  | .normal, s, c => beginS l k s c
  | .panic ch, s, c => noDefersS s.ds (Q (.pan ch) s.h c)
  | _, _, _ => False

def yieldS (l : Nat) (args : List Value) (h : AHeap) (c : Scr) (Q : Res → AHeap → Scr → Prop) : Prop :=
  match h[l]? with
  | some (.spec (.loop e n m ps x y _ _ _)) =>
    cond (Nat.beq args.length ps.length && (Nat.beq m P.funcs.size && (ps.all (Nat.blt · n) && (okCode P n x && okCode P n y))))
      (wpS P gs n lf S C h.length x (assignKS l (fun s c => wpS P gs n lf S C h.length y (roundKS l Q) s c) Q) ⟨putAll ps args e, [], h, .round⟩ c) False
  | _ => False

def leaveS (D : DSpecS) (rs : List ResultVar) (e : AEnv) : List ADef → UMode → AHeap → Scr → (Res → AHeap → Scr → Prop) → Prop
  | [], .ret, h, c, Q => bnd (resL P e h rs) fun l => gList (gSp 3) l fun l => Q (.ret (tupleOf l)) h c
  | [], .pan ch, h, c, Q => Q (.pan ch) h c
  | [], _, _, _, _ => False
  | .call f as :: ds, u, h, c, Q => D f as h u c fun r u' h' c => match r with
    | .ret _ => leaveS D rs e ds (settleU u') h' c Q
    | .pan ch => leaveS D rs e ds (raisedU u' ch) h' c Q
  | .mark q :: ds, u, h, c, Q => match h[q]? with
    | some (.spec .defq) => gHeap (h.set q (.spec .over)) fun h => leaveS D rs e ds u h c Q
    | _ => False

def fnKontS (D : DSpecS) (rs : List ResultVar) (Q : Res → UMode → AHeap → Scr → Prop) : KontS
  | .normal, s, c | .ret, s, c => match s with | ⟨e, ds, h, u⟩ => leaveS P D rs e ds .ret h c fun r h c => Q r u h c
  | .panic ch, s, c => match s with | ⟨e, ds, h, u⟩ => leaveS P D rs e ds (.pan ch) h c fun r h c => Q r u h c
  | .exit _, _, _ => False

/-- behind a call: what nobody looks at any more is forgotten -/
def forgetS (fg : Bool) (n : Nat) (r : Res) (h : AHeap) (c : Scr) (k : AHeap → Scr → Prop) : Prop :=
  cond fg (cond (mayForget n r (h.take n)) (gHeap (h.take n) fun h => k h c) (k h c)) (k h c)

/-- a function that has a contract is not run -/
def knownS (kn : List Nat) (f : Callee) (p : Prop) : Prop :=
  match f with
  | .fn f => cond (kn.contains f) False p
  | .yield _ => p

def extOrS (f : Callee) (args : List Value) (h : AHeap) (c : Scr) (Q : Res → AHeap → Scr → Prop) (dflt : Prop) : Prop :=
  match f with
  | .fn f => match extOf P f with
    | some fn => match aExt P fn args h with
      | some (v, h') => gHeap h' fun h' => Q (.ret v) h' c
      | none => False
    | none => dflt
  | .yield _ => dflt

/-- a function, or a round, run: its calls with one bound less -/
def runX (fg : Bool) (kn : List Nat) (lf : Nat) (C : FSpec) : Nat → Callee → List Value → AHeap → UMode → Scr → (Res → UMode → AHeap → Scr → Prop) → Prop
  | 0, _, _, _, _, _, _ => False
  | m + 1, .yield l, args, h, u, c, Q => yieldS P gs lf (fun f args h c Q => extOrS P f args h c Q (knownS kn f (runX fg kn lf C m f args h .norm c fun r _ h' c => forgetS fg h.length r h' c (Q r)))) C l args h c (fun r h c => Q r u h c)
  | m + 1, .fn f, args, h, u, c, Q =>
    cond (okFn P f) (match P.funcs[f]? with
      | some fn => match fn.body with
        | some b => cond (Nat.ble args.length fn.ntmps)
            (wpS P gs fn.ntmps lf (fun f args h c Q => extOrS P f args h c Q (knownS kn f (runX fg kn lf C m f args h .norm c fun r _ h' c => forgetS fg h.length r h' c (Q r)))) C h.length b (fnKontS P (fun f => runX fg kn lf C m (.fn f)) fn.results.toList Q) ⟨initE args 0, [], h, u⟩ c) False
        | none => False
      | none => False) False

def runS (fg : Bool) (kn : List Nat) (lf : Nat) (C : FSpec) (m : Nat) : DSpecS := fun f => runX P gs fg kn lf C m (.fn f)

end
end Go.Fm
