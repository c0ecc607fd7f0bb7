/-
  FmEval: a program run by the kernel: the same preconditions as tests, with bounds on loops and calls. Definitions.
  FmEval2: the preconditions as tests.
  FmEvalSound: what the tests pass, the preconditions say.
  FmScr: a program run by the kernel on symbolic values: at the steps that a script names, what comes out is asked for instead of worked out.
  FmScrSound: what a scripted run asks for is enough.
-/
import Derived.Test.YtopladipgobpjaaDoorFmC
namespace Go.Fm
def eqVs (f : Value → Value → Bool) : List Value → List Value → Bool
  | [], [] => true
  | a :: r, b :: r' => f a b && eqVs f r r'
  | _, _ => false
def eqInt : Int → Int → Bool
  | .ofNat a, .ofNat b => Nat.beq a b
  | .negSucc a, .negSucc b => Nat.beq a b
  | _, _ => false
def eqON : Option Nat → Option Nat → Bool
  | none, none => true
  | some a, some b => Nat.beq a b
  | _, _ => false
def eqA : Option Addr → Option Addr → Bool
  | none, none => true
  | some ⟨b, o, s⟩, some ⟨b', o', s'⟩ => Nat.beq b b' && (Nat.beq o o' && eqON s s')
  | _, _ => false
def eqBytes : List UInt8 → List UInt8 → Bool
  | [], [] => true
  | a :: r, b :: r' => Nat.beq a.toNat b.toNat && eqBytes r r'
  | _, _ => false
def eqFn : Fn → Fn → Bool
  | .func f, .func g => Nat.beq f g
  | _, _ => false
def eqV : Nat → Value → Value → Bool
  | 0, _, _ => false
  | n + 1, a, b =>
    match a, b with
    | .bool x, .bool y => x == y
    | .int k x, .int k' y => decide (k = k') && eqInt x y
    | .string s, .string t => eqBytes s.data.toList t.data.toList
    | .pointer x, .pointer y => eqA x y
    | .slice x l c, .slice y l' c' => eqA x y && (Nat.beq l l' && Nat.beq c c')
    | .map x, .map y => eqON x y
    | .nilFunc, .nilFunc => true
    | .nilIface, .nilIface => true
    | .iface t v, .iface t' v' => Nat.beq t t' && eqV n v v'
    | .agg x, .agg y => eqVs (eqV n) x.toList y.toList
    | .tuple x, .tuple y => eqVs (eqV n) x.toList y.toList
    | .func f x y, .func f' x' y' => eqFn f f' && (eqVs (eqV n) x.toList x'.toList && eqVs (eqV n) y.toList y'.toList)
    | _, _ => false
theorem eqVs_eq {f : Value → Value → Bool} (hf : ∀ a b, f a b = true → a = b) : ∀ {x y : List Value}, eqVs f x y = true → x = y
  | [], [], _ => rfl
  | a :: r, b :: r', h => by
    simp only [eqVs, Bool.and_eq_true] at h
    rw [hf a b h.1, eqVs_eq hf h.2]
  | [], _ :: _, h => by simp [eqVs] at h
  | _ :: _, [], h => by simp [eqVs] at h
theorem eqInt_eq {a b : Int} (h : eqInt a b = true) : a = b := by
  cases a <;> cases b <;> simp_all [eqInt]
theorem eqON_eq {a b : Option Nat} (h : eqON a b = true) : a = b := by
  cases a <;> cases b <;> simp_all [eqON]
theorem eqA_eq {a b : Option Addr} (h : eqA a b = true) : a = b := by
  cases a with
  | none => cases b with
    | none => rfl
    | some y => simp [eqA] at h
  | some x => cases b with
    | none => simp [eqA] at h
    | some y =>
      obtain ⟨b1, o1, s1⟩ := x; obtain ⟨b2, o2, s2⟩ := y
      simp only [eqA, Bool.and_eq_true, Nat.beq_eq] at h
      obtain ⟨h1, h2, h3⟩ := h
      rw [h1, h2, eqON_eq h3]
theorem eqBytes_eq : ∀ {a b : List UInt8}, eqBytes a b = true → a = b
  | [], [], _ => rfl
  | x :: r, y :: r', h => by
    simp only [eqBytes, Bool.and_eq_true, Nat.beq_eq] at h
    rw [UInt8.toNat_inj.1 h.1, eqBytes_eq h.2]
  | [], _ :: _, h => by simp [eqBytes] at h
  | _ :: _, [], h => by simp [eqBytes] at h
theorem eqFn_eq {a b : Fn} (h : eqFn a b = true) : a = b := by
  cases a <;> cases b <;> simp_all [eqFn]
theorem eqV_eq : ∀ {n : Nat} {a b : Value}, eqV n a b = true → a = b
  | 0, _, _, h => by simp [eqV] at h
  | n + 1, a, b, h => by
    have ih : ∀ a b, eqV n a b = true → a = b := fun a b => eqV_eq
    unfold eqV at h
    split at h
    · rw [eq_of_beq h]
    · simp only [Bool.and_eq_true, decide_eq_true_eq] at h; rw [h.1, eqInt_eq h.2]
    · rename_i s t
      have := eqBytes_eq h
      congr 1
      cases s; cases t
      congr 1
      exact Array.toList_inj.1 this
    · rw [eqA_eq h]
    · simp only [Bool.and_eq_true, Nat.beq_eq] at h; rw [eqA_eq h.1, h.2.1, h.2.2]
    · rw [eqON_eq h]
    · rfl
    · rfl
    · simp only [Bool.and_eq_true, Nat.beq_eq] at h; rw [h.1, ih _ _ h.2]
    · rw [Array.toList_inj.1 (eqVs_eq ih h)]
    · rw [Array.toList_inj.1 (eqVs_eq ih h)]
    · simp only [Bool.and_eq_true] at h
      rw [eqFn_eq h.1, Array.toList_inj.1 (eqVs_eq ih h.2.1), Array.toList_inj.1 (eqVs_eq ih h.2.2)]
    · simp at h
def eqOV : Option Value → Value → Bool
  | some a, b => eqV 8 a b
  | none, _ => false
def eqO : Option AObj → AObj → Bool
  | some (.cells c r), .cells c' r' => eqVs (eqV 8) c c' && (r == r')
  | some (.map [] n), .map [] n' => Nat.beq n n'
  | _, _ => false
theorem eqOV_eq {a : Option Value} {b : Value} (h : eqOV a b = true) : a = some b := by
  cases a with
  | none => simp [eqOV] at h
  | some a => rw [eqV_eq (n := 8) h]
theorem eqO_eq {a : Option AObj} {b : AObj} (h : eqO a b = true) : a = some b := by
  unfold eqO at h
  split at h
  · simp only [Bool.and_eq_true, beq_iff_eq] at h; rw [eqVs_eq (fun _ _ => eqV_eq) h.1, h.2]
  · rw [Nat.beq_eq.mp h]
  · simp at h
def fNat (n : Nat) (k : Nat → Bool) : Bool :=
  match n with
  | 0 => k 0
  | m + 1 => k (m + 1)
def fInt (n : Int) (k : Int → Bool) : Bool :=
  match n with
  | .ofNat m => fNat m fun m => k (.ofNat m)
  | .negSucc m => fNat m fun m => k (.negSucc m)
def fBool (b : Bool) (k : Bool → Bool) : Bool := cond b (k true) (k false)
def fON (n : Option Nat) (k : Option Nat → Bool) : Bool :=
  match n with
  | none => k none
  | some m => fNat m fun m => k (some m)
def fA (a : Option Addr) (k : Option Addr → Bool) : Bool :=
  match a with
  | none => k none
  | some ⟨b, o, s⟩ => fNat b fun b => fNat o fun o => fON s fun s => k (some ⟨b, o, s⟩)
def fList {α : Type} (f : α → (α → Bool) → Bool) : List α → (List α → Bool) → Bool
  | [], k => k []
  | a :: r, k => f a fun a => fList f r fun r => k (a :: r)
def fV : Nat → Value → (Value → Bool) → Bool
  | 0, v, k => k v
  | n + 1, v, k =>
    match v with
    | .bool b => fBool b fun b => k (.bool b)
    | .int i n => fInt n fun n => k (.int i n)
    | .pointer a => fA a fun a => k (.pointer a)
    | .slice a l c => fA a fun a => fNat l fun l => fNat c fun c => k (.slice a l c)
    | .map r => fON r fun r => k (.map r)
    | .agg x => fList (fV n) x.toList fun l => k (.agg ⟨l⟩)
    | .tuple x => fList (fV n) x.toList fun l => k (.tuple ⟨l⟩)
    | .iface t v => fV n v fun v => k (.iface t v)
    | .string s => fList (fun (b : UInt8) k => fNat b.toNat fun m => k (UInt8.ofNat m)) s.data.toList fun l => k (.string ⟨⟨l⟩⟩)
    | v => k v
theorem fNat_eq (n : Nat) (k : Nat → Bool) : fNat n k = k n := by cases n <;> rfl
theorem fInt_eq (n : Int) (k : Int → Bool) : fInt n k = k n := by cases n <;> simp [fInt, fNat_eq]
theorem fBool_eq (n : Bool) (k : Bool → Bool) : fBool n k = k n := by cases n <;> rfl
theorem fON_eq (n : Option Nat) (k : Option Nat → Bool) : fON n k = k n := by cases n <;> simp [fON, fNat_eq]
theorem fA_eq (n : Option Addr) (k : Option Addr → Bool) : fA n k = k n := by
  cases n with
  | none => rfl
  | some a => obtain ⟨b, o, s⟩ := a; simp [fA, fNat_eq, fON_eq]
theorem fList_eq {α : Type} {f : α → (α → Bool) → Bool} (hf : ∀ a k, f a k = k a) : ∀ (l : List α) (k : List α → Bool), fList f l k = k l
  | [], k => rfl
  | a :: r, k => by simp [fList, hf, fList_eq hf r]
theorem fV_eq : ∀ (n : Nat) (v : Value) (k : Value → Bool), fV n v k = k v
  | 0, v, k => rfl
  | n + 1, v, k => by
    have ih := fV_eq n
    unfold fV
    split
    · rw [fBool_eq]
    · rw [fInt_eq]
    · rw [fA_eq]
    · simp only [fA_eq, fNat_eq]
    · rw [fON_eq]
    · rw [fList_eq ih]
    · rw [fList_eq ih]
    · rw [ih]
    · rw [fList_eq]
      intro a k
      rw [fNat_eq, UInt8.ofNat_toNat]
    · rfl
def fSp : Nat → Value → (Value → Bool) → Bool
  | 0, v, k => k v
  | n + 1, v, k =>
    match v with
    | .agg x => fList (fSp n) x.toList fun l => k (.agg ⟨l⟩)
    | .tuple x => fList (fSp n) x.toList fun l => k (.tuple ⟨l⟩)
    | v => k v
theorem fSp_eq : ∀ (n : Nat) (v : Value) (k : Value → Bool), fSp n v k = k v
  | 0, _, _ => rfl
  | n + 1, v, k => by
    have ih := fSp_eq n
    unfold fSp
    split
    · rw [fList_eq ih]
    · rw [fList_eq ih]
    · rfl
def fR (op : Op) (v : Value) (k : Value → Bool) : Bool :=
  match op with
  | .binOp _ _ _ _ _ | .unOp _ _ _ | .convert _ _ _ | .fieldAddr _ _ _ | .indexAddr _ _ _ | .slice _ _ _ _ _ | .call _ => fV 3 v k
  | _ => fSp 3 v k
theorem fR_eq (op : Op) (v : Value) (k : Value → Bool) : fR op v k = k v := by
  unfold fR
  split <;> first | exact fV_eq _ _ _ | exact fSp_eq _ _ _
def fObj (o : AObj) (k : AObj → Bool) : Bool :=
  match o with
  | .cells c r => match r with
    | true => k (.cells c true)
    | false => fList (fSp 1) c fun c => k (.cells c false)
  | .tcells c t z => fList (fSp 1) c fun c => k (.tcells c t z)
  | o => k o
theorem fObj_eq (o : AObj) (k : AObj → Bool) : fObj o k = k o := by
  cases o with
  | cells c r => cases r <;> simp only [fObj, fList_eq (fSp_eq 1)]
  | tcells c t z => simp only [fObj, fList_eq (fSp_eq 1)]
  | _ => rfl
def fAt : Nat → AHeap → (AHeap → Bool) → Bool
  | _, [], k => k []
  | 0, o :: r, k => fObj o fun o => fList (fun o k => k o) r fun r => k (o :: r)
  | b + 1, o :: r, k => fAt b r fun r => k (o :: r)
theorem fAt_eq : ∀ (b : Nat) (h : AHeap) (k : AHeap → Bool), fAt b h k = k h
  | 0, [], _ => rfl
  | _ + 1, [], _ => rfl
  | 0, o :: r, k => by simp only [fAt, fObj_eq, fList_eq (fun _ _ => rfl)]
  | b + 1, o :: r, k => by simp only [fAt, fAt_eq b]
def fHeap (h : AHeap) (k : AHeap → Bool) : Bool := fList fObj h k
theorem fHeap_eq (h : AHeap) (k : AHeap → Bool) : fHeap h k = k h := fList_eq fObj_eq h k
end Go.Fm
namespace Go.Fm
abbrev KontB := AExit → St → Bool
abbrev FSpecB := Callee → List Value → AHeap → (Res → AHeap → Bool) → Bool
abbrev DSpecB := FuncId → List Value → AHeap → UMode → (Res → UMode → AHeap → Bool) → Bool
def bndB {α : Type} (o : Option α) (k : α → Bool) : Bool :=
  match o with
  | some a => k a
  | none => false
def condB (v : Option Value) (t f : Bool) : Bool :=
  match v with
  | some (.bool b) => cond b t f
  | _ => false
def allB : List (Value × AHeap) → (Value → AHeap → Bool) → Bool
  | [], _ => true
  | (v, h) :: r, k => cond (k v h) (allB r k) false
section
variable (P : Program) (gs : List Nat) (n : Nat) (S : FSpecB)
def afterB (s : St) (next : Value → St → Bool) (pan : Chain → St → Bool) : Res → AHeap → Bool
  | .ret v, h => match s with | ⟨e, ds, _, u⟩ => next v ⟨e, ds, h, u⟩
  | .pan ch, h => match s with | ⟨e, ds, _, u⟩ => pan ch ⟨e, ds, h, u⟩
def recoverB (s : St) (next : Value → St → Bool) : Bool :=
  match s with
  | ⟨e, ds, h, .pan ((v, false) :: older)⟩ => next v ⟨e, ds, h, .pan ((v, true) :: older)⟩
  | ⟨_, _, _, .round⟩ => false
  | s => next .nilIface s
def fEff (ρ : Operand → Option Value) (op : Op) (h : AHeap) (k : AHeap → Bool) : Bool :=
  match op with
  | .store _ a _ => match ρ a with
    | some (.pointer (some ⟨b, _, _⟩)) => fAt b h k
    | _ => fHeap h k
  | _ => fHeap h k
theorem fEff_eq (ρ : Operand → Option Value) (op : Op) (h : AHeap) (k : AHeap → Bool) : fEff ρ op h k = k h := by
  unfold fEff
  split
  · split
    · exact fAt_eq _ _ _
    · exact fHeap_eq _ _
  · exact fHeap_eq _ _
def dataB (ρ : Operand → Option Value) (op : Op) (s : St) (next : Value → St → Bool) : Bool :=
  match cls P op with
  | .pure => bndB (aPure P ρ op) fun v => fR op v fun v => next v s
  | .read => bndB (aRead P ρ s.h op) fun v => fR op v fun v => next v s
  | .alloc => match s with
    | ⟨e, ds, h, u⟩ => bndB (aAlloc P ρ h.length op) fun p => match p with
      | (o, v) => fObj o fun o => fV 3 v fun v => fList (fun o k => k o) (h ++ [o]) fun h => next v ⟨e, ds, h, u⟩
  | .eff => match s with
    | ⟨e, ds, h, u⟩ => bndB (aEff P ρ h op) fun p => match p with
      | (v, h) => fV 3 v fun v => fEff ρ op h fun h => next v ⟨e, ds, h, u⟩
def opB (ρ : Operand → Option Value) (op : Op) (s : St) (next : Value → St → Bool) (pan : Chain → St → Bool) : Bool :=
  match op with
  | .call { callee := .value f, args := args, argTypes := _ } => bndB (target ρ f args.toList) fun p => match p with
    | (g, as) => S g as s.h (afterB s next pan)
  | .call { callee := .builtin .recover, args := _, argTypes := _ } => recoverB s next
  | .defer { callee := .value f, args := args, argTypes := _ } =>
    match s with
    | ⟨_, _, _, .round⟩ => false
    | ⟨e, ds, h, u⟩ => bndB (target ρ f args.toList) fun p => match p with
      | (.fn g, as) => fList (fSp 3) as fun as => next undefV ⟨e, .call g as :: ds, h, u⟩
      | _ => false
  | .panic x => match ρ x with
    | some (.iface t v) => pan [(.iface t v, false)] s
    | _ => false
  | .next it false => bndB ((ρ it).bind fun v => aNextMap v s.h) fun outs => allB outs fun v h => match s with
    | ⟨e, ds, _, u⟩ => fSp 3 v fun v => fHeap h fun h => next v ⟨e, ds, h, u⟩
  | op => dataB P ρ op s next
def guardB (g : Option Value) (want : Bool) (run : (Value → St → Bool) → Bool) (s : St) (next : Value → St → Bool) : Bool :=
  match g with
  | some (.bool b) => cond b (cond want (run next) (next undefV s)) (cond want (next undefV s) (run next))
  | some (.tuple _) => next undefV s
  | _ => false
def putB (dst : Option Nat) (v : Value) (s : St) (k : St → Bool) : Bool :=
  match dst with
  | some d => cond (Nat.blt d n) (match s with | ⟨e, ds, h, u⟩ => k ⟨(d, v) :: e, ds, h, u⟩) false
  | none => k s
def operB (gd : Nat → Option Nat) (o : Oper) (s : St) (k : St → Bool) (pan : Chain → St → Bool) : Bool :=
  match o.guard with
  | none => opB P S (ev gs s.e) o.op s (fun v s' => putB n o.dst v s' k) pan
  | some (j, want) => guardB ((gd j).bind s.e.get) want (fun nx => opB P S (ev gs s.e) o.op s nx pan) s (fun v s' => putB n o.dst v s' k)
def opsB (gd : Nat → Option Nat) : List Oper → St → (St → Bool) → (Chain → St → Bool) → Bool
  | [], s, k, _ => k s
  | o :: r, s, k, pan => operB P gs n S gd o s (fun s' => opsB gd r s' k pan) pan
structure PdB where
  hi : Nat
  chk : AHeap → Bool
def checksB : List PdB → Nat → AHeap → Bool → Bool
  | [], _, _, p => p
  | d :: r, st, h, p => cond (Nat.ble st d.hi) (cond (d.chk h) (checksB r st h p) false) (checksB r st h p)
def addPdB (st hi : Nat) (chk : AHeap → Bool) (pend : List PdB) : List PdB := cond (Nat.blt st hi) (⟨hi, chk⟩ :: pend) pend
def floatB (ρ : Operand → Option Value) (i hi st : Nat) (op : Op) (R : AEnv) (pend : List PdB) (s : St) (k : AEnv → List PdB → St → Bool) : Bool :=
  match cls P op with
  | .pure => bndB (aPure P ρ op) fun v => fR op v fun v => k ((i, v) :: R) pend s
  | .read => bndB (aRead P ρ s.h op) fun v => fR op v fun v => k ((i, v) :: R) (addPdB st hi (fun h => eqOV (aRead P ρ h op) v) pend) s
  | .alloc => match s with
    | ⟨e, ds, h, u⟩ => bndB (aAlloc P ρ h.length op) fun p => match p with
      | (o, v) => fObj o fun o => fV 3 v fun v => fHeap (h ++ [o]) fun h' => k ((i, v) :: R) (addPdB st hi (fun h2 => eqO h2[h.length]? o) pend) ⟨e, ds, h', u⟩
  | .eff => false
def guardFB (g : Option Value) (want : Bool) (run : (AEnv → List PdB → St → Bool) → Bool) (i : Nat) (R : AEnv) (pend : List PdB) (s : St) (k : AEnv → List PdB → St → Bool) : Bool :=
  match g with
  | some (.bool b) => cond b (cond want (run k) (k ((i, undefV) :: R) pend s)) (cond want (k ((i, undefV) :: R) pend s) (run k))
  | some (.tuple _) => k ((i, undefV) :: R) pend s
  | _ => false
variable (L : List Oper) (ms ws : List Nat) (e0 : AEnv)
def floatsB (st : Nat) : List Nat → AEnv → List PdB → St → (AEnv → List PdB → St → Bool) → Bool
  | [], R, pend, s, k => k R pend s
  | i :: r, R, pend, s, k =>
    match L[i]? with
    | none => false
    | some o =>
      match o.guard with
      | none => floatB P (evF gs L ms e0 R i (opReads o.op)) i (hiOf ms ws i) st o.op R pend s fun R' pend' s' => floatsB st r R' pend' s' k
      | some (j, want) => guardFB (R.get j) want (fun k' => floatB P (evF gs L ms e0 R i (opReads o.op)) i (hiOf ms ws i) st o.op R pend s k') i R pend s fun R' pend' s' => floatsB st r R' pend' s' k
def effB (i : Nat) (R : AEnv) (s : St) (next : Value → St → Bool) (pan : Chain → St → Bool) : Bool :=
  match L[i]? with
  | none => false
  | some o =>
    match o.guard with
    | none => opB P S (evF gs L ms e0 R i (opReads o.op)) o.op s next pan
    | some (j, want) => guardB (R.get j) want (fun nx => opB P S (evF gs L ms e0 R i (opReads o.op)) o.op s nx pan) s next
def stagesB : List (List Nat × Option Nat) → Nat → AEnv → List PdB → St → (AEnv → St → Bool) → (Chain → St → Bool) → Bool
  | [], _, R, _, s, k, _ => k R s
  | (fl, none) :: _, st, R, pend, s, k, _ => floatsB P gs L ms ws e0 st fl R pend s fun R' _ s' => k R' s'
  | (fl, some w) :: r, st, R, pend, s, k, pan => floatsB P gs L ms ws e0 st fl R pend s fun R' pend' s' =>
      effB P gs S L ms e0 w R' s' (fun v s'' => checksB pend' (st + 1) s''.h (stagesB r (st + 1) ((w, v) :: R') pend' s'' k pan)) pan
end
def drawB (P : Program) (gs : List Nat) (S : FSpecB) (L : List Oper) (s : St) (k : St → Bool) (pan : Chain → St → Bool) : Bool :=
  match s with
  | ⟨e, ds, h, u⟩ =>
    stagesB P gs S L (masks L []) (effs P L) e (stagesOf P L (masks L []) (effs P L) (effs P L) 0) 0 [] [] ⟨e, ds, h, u⟩
      (fun R s' => match s' with | ⟨_, ds, h, u⟩ => k ⟨finishE R L 0 e, ds, h, u⟩) (fun ch s' => match s' with | ⟨_, ds, h, u⟩ => pan ch ⟨dropE (dstsOf L) e, ds, h, u⟩)
def KontB.seq (K : KontB) (next : St → Bool) : KontB
  | .normal, s => next s
  | x, s => K x s
def KontB.block (K : KontB) (id : Nat) : KontB
  | .exit id', s => cond (Nat.beq id' id) (K .normal s) (K (.exit id') s)
  | x, s => K x s
def loopB : Nat → (KontB → St → Bool) → KontB → St → Bool
  | 0, _, _, _ => false
  | m + 1, B, K, s => match s with
    | ⟨e, ds, h, u⟩ => fList (fun p k => k p) (dedupe e 0) fun e => B (K.seq fun s' => loopB m B K s') ⟨e, ds, h, u⟩
section
variable (P : Program) (gs : List Nat) (n lf : Nat) (S : FSpecB)
def jumpB (K : KontB) (s : St) : Option Code → Bool
  | none => K .normal s
  | some .ret => K .ret s
  | some (.exit id) => K (.exit id) s
  | _ => false
def endLoopB (l : Nat) (K : KontB) : St → Bool
  | ⟨e, ds, h, u⟩ => match h[l]? with
    | some (.spec (.loop _ _ _ _ _ _ st pd _)) => match st with
      | .busy => false
      | _ => fHeap (h.set l (.spec .over)) fun h => jumpB K ⟨e, ds, h, u⟩ pd
    | _ => false
def afterRangeB (l : Nat) (K : KontB) (s : St) : Res → AHeap → Bool
  | .pan ch, h' => match s with
    | ⟨e, ds, _, u⟩ => K (.panic ch) ⟨e, ds, h', u⟩
  | .ret _, h' => match s with
    | ⟨e, ds, _, u⟩ => endLoopB l K ⟨e, ds, h', u⟩
def rangeB (v : Option Value) (ps : List Nat) (x y : Code) (K : KontB) (s : St) : Bool :=
  match s with
  | ⟨e, ds, h, u⟩ => match u with
    | .round => false
    | _ => match v with
      | some (.func (.func g) first cap) =>
        cond (hasBody P g) (fNat h.length fun q => fHeap (h ++ [.spec .defq] ++ [.spec (.loop e n P.funcs.size ps x y .ready none q)]) fun h' =>
          S (.fn g) (first.toList ++ (.func (.yield (q + 1)) #[] #[] :: cap.toList)) h' (afterRangeB (q + 1) K ⟨e, .mark q :: ds, h, u⟩)) false
      | _ => false
def wpB : Code → KontB → St → Bool
  | .skip, K, s | .label _, K, s => K .normal s
  | .seq x y, K, s => wpB x (K.seq fun s' => wpB y K s') s
  | .cond c x y, K, s => condB (ev gs s.e c) (wpB x K s) (wpB y K s)
  | .block id c, K, s => wpB c (K.block id) s
  | .scope c, K, s => wpB c K s
  | .loop c, K, s => loopB lf (fun K' s' => wpB c K' s') K s
  | .exit id, K, s => K (.exit id) s
  | .ret, K, s => K .ret s
  | .region _ ops true, K, s => drawB P gs S ops.toList s (K .normal) (fun ch => K (.panic ch))
  | .region _ ops false, K, s => opsB P gs n S (gdOf ops.toList) ops.toList s (K .normal) (fun ch => K (.panic ch))
  | .rangeFunc f ps x y, K, s => rangeB P n S (ev gs s.e f) ps.toList x y K s
  | _, _, _ => false
def setB (o : Option AHeap) (Q : AHeap → Bool) : Bool :=
  match o with
  | some h => fHeap h Q
  | none => false
def noDefers (ds : List ADef) (b : Bool) : Bool :=
  match ds with
  | [] => b
  | _ => false
def roundKB (l : Nat) (Q : Res → AHeap → Bool) : KontB
  | .normal, s => setB (setLoop l .ready none s.h) fun h => Q (.ret (.bool true)) h
  | .ret, s => setB (setLoop l .done (some .ret) s.h) fun h => Q (.ret (.bool false)) h
  | .exit id, s => setB (setLoop l .done (some (.exit id)) s.h) fun h => Q (.ret (.bool false)) h
  | .panic ch, s => noDefers s.ds (Q (.pan ch) s.h)
def beginB (l : Nat) (k : St → Bool) (s : St) : Bool :=
  match s with
  | ⟨e, ds, h, u⟩ => setB (busyLoop l h) fun h => k ⟨e, ds, h, u⟩
def assignKB (l : Nat) (k : St → Bool) (Q : Res → AHeap → Bool) : KontB
  | .normal, s => beginB l k s
  | .panic ch, s => noDefers s.ds (Q (.pan ch) s.h)
  | _, _ => false
def yieldB (l : Nat) (args : List Value) (h : AHeap) (Q : Res → AHeap → Bool) : Bool :=
  match h[l]? with
  | some (.spec (.loop e n m ps x y _ _ _)) =>
    cond (Nat.beq args.length ps.length && (Nat.beq m P.funcs.size && (ps.all (Nat.blt · n) && (okCode P n x && okCode P n y))))
      (wpB P gs n lf S x (assignKB l (fun s => wpB P gs n lf S y (roundKB l Q) s) Q) ⟨putAll ps args e, [], h, .round⟩) false
  | _ => false
def leaveB (D : DSpecB) (rs : List ResultVar) (e : AEnv) : List ADef → UMode → AHeap → (Res → AHeap → Bool) → Bool
  | [], .ret, h, Q => bndB (resL P e h rs) fun l => fList (fSp 3) l fun l => Q (.ret (tupleOf l)) h
  | [], .pan ch, h, Q => Q (.pan ch) h
  | [], _, _, _ => false
  | .call f as :: ds, u, h, Q => D f as h u fun r u' h' => match r with
    | .ret _ => leaveB D rs e ds (settleU u') h' Q
    | .pan ch => leaveB D rs e ds (raisedU u' ch) h' Q
  | .mark q :: ds, u, h, Q => match h[q]? with
    | some (.spec .defq) => fHeap (h.set q (.spec .over)) fun h => leaveB D rs e ds u h Q
    | _ => false
def fnKontB (D : DSpecB) (rs : List ResultVar) (Q : Res → UMode → AHeap → Bool) : KontB
  | .normal, s | .ret, s => match s with | ⟨e, ds, h, u⟩ => leaveB P D rs e ds .ret h fun r h => Q r u h
  | .panic ch, s => match s with | ⟨e, ds, h, u⟩ => leaveB P D rs e ds (.pan ch) h fun r h => Q r u h
  | .exit _, _ => false
def okFn (f : FuncId) : Bool :=
  match P.funcs[f]? with
  | some fn => match fn.body with
    | some c => !(fn.name == "runtime.NumGoroutine") && okCode P fn.ntmps c
    | none => false
  | none => false
def forgetB (n : Nat) (r : Res) (h : AHeap) (k : AHeap → Bool) : Bool :=
  cond (mayForget n r (h.take n)) (fHeap (h.take n) k) (k h)
def extOf (f : FuncId) : Option Func :=
  match P.funcs[f]? with
  | some fn => match fn.body with
    | some _ => none
    | none => cond (extB fn && !(fn.name == "runtime.NumGoroutine")) (some fn) none
  | none => none
def extOr (f : Callee) (args : List Value) (h : AHeap) (Q : Res → AHeap → Bool) (dflt : Bool) : Bool :=
  match f with
  | .fn f => match extOf P f with
    | some fn => match aExt P fn args h with
      | some (v, h') => fV 8 v fun v => fHeap h' fun h' => Q (.ret v) h'
      | none => false
    | none => dflt
  | .yield _ => dflt
def runC (lf : Nat) : Nat → Callee → List Value → AHeap → UMode → (Res → UMode → AHeap → Bool) → Bool
  | 0, _, _, _, _, _ => false
  | m + 1, .yield l, args, h, u, Q => yieldB P gs lf (fun f args h Q => extOr P f args h Q (runC lf m f args h .norm fun r _ h' => forgetB h.length r h' (Q r))) l args h (fun r h => Q r u h)
  | m + 1, .fn f, args, h, u, Q =>
    cond (okFn P f) (match P.funcs[f]? with
      | some fn => match fn.body with
        | some c => cond (Nat.ble args.length fn.ntmps)
            (wpB P gs fn.ntmps lf (fun f args h Q => extOr P f args h Q (runC lf m f args h .norm fun r _ h' => forgetB h.length r h' (Q r))) c (fnKontB P (fun f => runC lf m (.fn f)) fn.results.toList Q) ⟨initE args 0, [], h, u⟩) false
        | none => false
      | none => false) false
def runB (lf m : Nat) : DSpecB := fun f => runC P gs lf m (.fn f)
end
end Go.Fm
namespace Go.Fm
variable {P : Program} {gs : List Nat}
theorem bndB_sound {α : Type} {o : Option α} {k : α → Bool} {k' : α → Prop} (h : bndB o k = true) (hk : ∀ a, k a = true → k' a) : bnd o k' := by
  cases o with
  | none => simp [bndB] at h
  | some a => exact hk a h
theorem allB_sound {k : Value → AHeap → Bool} {k' : Value → AHeap → Prop} (hk : ∀ v h, k v h = true → k' v h) : ∀ {l : List (Value × AHeap)}, allB l k = true → allW l k'
  | [], _ => trivial
  | (v, h) :: r, e => by
    unfold allB at e
    cases hb : k v h with
    | false => rw [hb] at e; simp at e
    | true => rw [hb] at e; exact ⟨hk v h hb, allB_sound hk e⟩
def LE1 (k : Value → St → Bool) (k' : Value → St → Prop) : Prop := ∀ v s, k v s = true → k' v s
def LE2 (k : Chain → St → Bool) (k' : Chain → St → Prop) : Prop := ∀ v s, k v s = true → k' v s
def LE0 (k : St → Bool) (k' : St → Prop) : Prop := ∀ s, k s = true → k' s
def LES (S : FSpecB) (S' : FSpec) : Prop := ∀ f args h Q (Q' : Res → AHeap → Prop), (∀ r h, Q r h = true → Q' r h) → S f args h Q = true → S' f args h Q'
def LED (S : DSpecB) (S' : DSpec) : Prop := ∀ f args h u Q (Q' : Res → UMode → AHeap → Prop), (∀ r u h, Q r u h = true → Q' r u h) → S f args h u Q = true → S' f args h u Q'
theorem afterB_sound {s : St} {next : Value → St → Bool} {next' : Value → St → Prop} {pan : Chain → St → Bool} {pan' : Chain → St → Prop} (hn : LE1 next next') (hp : LE2 pan pan') :
    ∀ r h, afterB s next pan r h = true → afterCall s next' pan' r h
  | .ret _, _, e => hn _ _ e
  | .pan _, _, e => hp _ _ e
theorem recoverB_sound {s : St} {next : Value → St → Bool} {next' : Value → St → Prop} (hn : LE1 next next') (h : recoverB s next = true) : recoverW s next' := by
  obtain ⟨e, ds, hh, u⟩ := s
  unfold recoverB at h
  unfold recoverW
  split at h
  · rename_i heq; injection heq with h1 h2 h3 h4; subst h1 h2 h3 h4; exact hn _ _ h
  · simp at h
  · rename_i h1 h2
    simp only
    split
    · rename_i v older; exact absurd rfl (h1 _ _ _ _ _)
    · exact absurd rfl (h2 _ _ _)
    · exact hn _ _ h
theorem dataB_sound {ρ : Operand → Option Value} {op : Op} {s : St} {next : Value → St → Bool} {next' : Value → St → Prop} (hn : LE1 next next') (h : dataB P ρ op s next = true) : dataW P ρ op s next' := by
  unfold dataB at h
  unfold dataW
  obtain ⟨e, ds, hh, u⟩ := s
  split at h
  · rename_i hc; rw [hc]; exact bndB_sound h fun v hv => hn _ _ (by simpa only [fR_eq] using hv)
  · rename_i hc; rw [hc]; exact bndB_sound h fun v hv => hn _ _ (by simpa only [fR_eq] using hv)
  · rename_i hc; rw [hc]; exact bndB_sound h fun v hv => hn _ _ (by simpa only [fV_eq, fObj_eq, fList_eq (fun _ _ => rfl)] using hv)
  · rename_i hc; rw [hc]; exact bndB_sound h fun v hv => hn _ _ (by simpa only [fV_eq, fEff_eq] using hv)
theorem opB_sound {S : FSpecB} {S' : FSpec} (hS : LES S S') {ρ : Operand → Option Value} {op : Op} {s : St} {next : Value → St → Bool} {next' : Value → St → Prop} {pan : Chain → St → Bool} {pan' : Chain → St → Prop} (hn : LE1 next next') (hp : LE2 pan pan')
    (h : opB P S ρ op s next pan = true) : opW P S' ρ op s next' pan' := by
  unfold opB at h
  split at h
  · exact bndB_sound h fun p hb => hS _ _ _ _ _ (afterB_sound hn hp) hb
  · exact recoverB_sound hn h
  · obtain ⟨e, ds, hh, u⟩ := s
    unfold opW
    split at h
    · simp at h
    · rename_i hno heq
      injection heq with h1 h2 h3 h4; subst h1 h2 h3 h4
      simp only
      refine bndB_sound h fun p hb => ?_
      obtain ⟨g, as⟩ := p
      cases g with
      | fn g => exact hn _ _ (by simpa only [fList_eq (fSp_eq 3)] using hb)
      | yield l => simp at hb
  · unfold opW
    simp only
    split at h
    · rename_i heq; rw [heq]; exact hp _ _ h
    · simp at h
  · unfold opW
    exact bndB_sound h fun outs hb => allB_sound (fun v h' e => hn _ _ (by obtain ⟨e', ds, hh, u⟩ := s; simpa only [fSp_eq, fHeap_eq] using e)) hb
  · rename_i h1 h2 h3 h4 h5
    unfold opW
    split
    · exact absurd rfl (h1 _ _ _)
    · exact absurd rfl (h2 _ _)
    · exact absurd rfl (h3 _ _ _)
    · exact absurd rfl (h4 _)
    · exact absurd rfl (h5 _)
    · exact dataB_sound hn h
theorem guardB_sound {g : Option Value} {want : Bool} {run : (Value → St → Bool) → Bool} {run' : (Value → St → Prop) → Prop} {s : St} {next : Value → St → Bool} {next' : Value → St → Prop} (hn : LE1 next next') (hr : run next = true → run' next')
    (h : guardB g want run s next = true) : guardK g want run' s next' := by
  unfold guardB at h
  split at h
  · rename_i b
    unfold guardK
    cases b <;> cases want <;> simp only [cond_true, cond_false] at h <;> simp
    · exact hr h
    · exact hn _ _ h
    · exact hn _ _ h
    · exact hr h
  · exact hn _ _ h
  · simp at h
theorem putB_sound {n : Nat} {dst : Option Nat} {v : Value} {s : St} {k : St → Bool} {k' : St → Prop} (hk : LE0 k k') (h : putB n dst v s k = true) : putW n dst v s k' := by
  unfold putB at h
  unfold putW
  split at h
  · rename_i d
    cases hb : Nat.blt d n with
    | false => rw [hb] at h; simp at h
    | true =>
      rw [hb] at h; obtain ⟨e, ds, hh, u⟩ := s
      simp only [hb, cond_true]
      exact hk _ h
  · exact hk _ h
theorem opsB_sound {n : Nat} {S : FSpecB} {S' : FSpec} (hS : LES S S') {gd : Nat → Option Nat} {k : St → Bool} {k' : St → Prop} {pan : Chain → St → Bool} {pan' : Chain → St → Prop} (hk : LE0 k k') (hp : LE2 pan pan') :
    ∀ (l : List Oper) (s : St), opsB P gs n S gd l s k pan = true → opsW P gs n S' gd l s k' pan'
  | [], s, h => hk s h
  | o :: r, s, h => by
    have ih := opsB_sound (n := n) hS (gd := gd) hk hp r
    have hput : LE1 (fun v s' => putB n o.dst v s' fun s' => opsB P gs n S gd r s' k pan) (fun v s' => putW n o.dst v s' fun s' => opsW P gs n S' gd r s' k' pan') := fun v s' e => putB_sound ih e
    simp only [opsB, operB] at h
    simp only [opsW, operW]
    split at h
    · rename_i hg; rw [hg]; exact opB_sound hS hput hp h
    · rename_i j want hg; rw [hg]; exact guardB_sound hput (fun e => opB_sound hS hput hp e) h
def LEP (a : PdB) (b : Pd) : Prop := a.hi = b.hi ∧ ∀ h, a.chk h = true → b.chk h
inductive LEPs : List PdB → List Pd → Prop
  | nil : LEPs [] []
  | cons {a : PdB} {b : Pd} {l : List PdB} {l' : List Pd} : LEP a b → LEPs l l' → LEPs (a :: l) (b :: l')
def LE3 (k : AEnv → List PdB → St → Bool) (k' : AEnv → List Pd → St → Prop) : Prop := ∀ R p p' s, LEPs p p' → k R p s = true → k' R p' s
theorem checksB_sound {st : Nat} {h : AHeap} {p : Bool} {p' : Prop} (hp : p = true → p') : ∀ {l : List PdB} {l' : List Pd}, LEPs l l' → checksB l st h p = true → checks l' st h p'
  | _, _, .nil, e => hp e
  | _, _, .cons hd ht, e => by
    unfold checksB at e
    unfold checks
    rw [← hd.1]
    revert e
    cases Nat.ble st _ with
    | true =>
      simp only [cond_true]
      intro e
      cases hc : PdB.chk _ h with
      | true => rw [hc] at e; exact ⟨hd.2 _ hc, checksB_sound hp ht e⟩
      | false => rw [hc] at e; simp at e
    | false =>
      simp only [cond_false]
      intro e
      exact checksB_sound hp ht e
theorem addPd_LE {st hi : Nat} {chk : AHeap → Bool} {chk' : AHeap → Prop} (hc : ∀ h, chk h = true → chk' h) {p : List PdB} {p' : List Pd} (hp : LEPs p p') : LEPs (addPdB st hi chk p) (addPd st hi chk' p') := by
  unfold addPdB addPd
  cases Nat.blt st hi with
  | true => exact .cons ⟨rfl, hc⟩ hp
  | false => exact hp
theorem floatB_sound {ρ : Operand → Option Value} {i hi st : Nat} {op : Op} {R : AEnv} {pend : List PdB} {pend' : List Pd} (hp : LEPs pend pend') {s : St} {k : AEnv → List PdB → St → Bool} {k' : AEnv → List Pd → St → Prop} (hk : LE3 k k')
    (h : floatB P ρ i hi st op R pend s k = true) : floatK P ρ i hi st op R pend' s k' := by
  unfold floatB at h
  unfold floatK
  obtain ⟨e, ds, hh, u⟩ := s
  split at h
  · rename_i hc; rw [hc]; exact bndB_sound h fun v hv => hk _ _ _ _ hp (by simpa only [fR_eq] using hv)
  · rename_i hc; rw [hc]
    refine bndB_sound h fun v hv => ?_
    simp only [fR_eq] at hv
    exact hk _ _ _ _ (addPd_LE (fun h e => eqOV_eq e) hp) hv
  · rename_i hc; rw [hc]
    refine bndB_sound h fun v hv => ?_
    simp only [fV_eq, fObj_eq, fHeap_eq] at hv
    exact hk _ _ _ _ (addPd_LE (fun h e => eqO_eq e) hp) hv
  · simp at h
theorem guardFB_sound {g : Option Value} {want : Bool} {run : (AEnv → List PdB → St → Bool) → Bool} {run' : (AEnv → List Pd → St → Prop) → Prop} {i : Nat} {R : AEnv} {pend : List PdB} {pend' : List Pd} (hp : LEPs pend pend') {s : St}
    {k : AEnv → List PdB → St → Bool} {k' : AEnv → List Pd → St → Prop} (hk : LE3 k k') (hr : run k = true → run' k') (h : guardFB g want run i R pend s k = true) : guardF g want run' i R pend' s k' := by
  unfold guardFB at h
  split at h
  · rename_i b
    unfold guardF
    cases b <;> cases want <;> simp only [cond_true, cond_false] at h <;> simp
    · exact hr h
    · exact hk _ _ _ _ hp h
    · exact hk _ _ _ _ hp h
    · exact hr h
  · exact hk _ _ _ _ hp h
  · simp at h
theorem floatsB_sound {L : List Oper} {ms ws : List Nat} {e0 : AEnv} {st : Nat} {k : AEnv → List PdB → St → Bool} {k' : AEnv → List Pd → St → Prop} (hk : LE3 k k') :
    ∀ (l : List Nat) (R : AEnv) (pend : List PdB) (pend' : List Pd) (s : St), LEPs pend pend' → floatsB P gs L ms ws e0 st l R pend s k = true → floatsW P gs L ms ws e0 st l R pend' s k'
  | [], R, pend, pend', s, hp, h => hk _ _ _ _ hp h
  | i :: r, R, pend, pend', s, hp, h => by
    have ih : LE3 (fun R p s => floatsB P gs L ms ws e0 st r R p s k) (fun R p s => floatsW P gs L ms ws e0 st r R p s k') := fun R p p' s h1 h2 => floatsB_sound hk r R p p' s h1 h2
    simp only [floatsB] at h
    simp only [floatsW]
    split at h
    · simp at h
    · rename_i o ho
      rw [ho]
      simp only
      split at h
      · rename_i hg; rw [hg]; exact floatB_sound hp ih h
      · rename_i hg; rw [hg]; exact guardFB_sound hp ih (fun e => floatB_sound hp ih e) h
theorem effB_sound {S : FSpecB} {S' : FSpec} (hS : LES S S') {L : List Oper} {ms : List Nat} {e0 : AEnv} {i : Nat} {R : AEnv} {s : St} {next : Value → St → Bool} {next' : Value → St → Prop} {pan : Chain → St → Bool} {pan' : Chain → St → Prop} (hn : LE1 next next') (hp : LE2 pan pan')
    (h : effB P gs S L ms e0 i R s next pan = true) : effK P gs S' L ms e0 i R s next' pan' := by
  unfold effB at h
  unfold effK
  split at h
  · simp at h
  · rename_i o ho
    rw [ho]
    simp only
    split at h
    · rename_i hg; rw [hg]; exact opB_sound hS hn hp h
    · rename_i hg; rw [hg]; exact guardB_sound hn (fun e => opB_sound hS hn hp e) h
theorem stagesB_sound {S : FSpecB} {S' : FSpec} (hS : LES S S') {L : List Oper} {ms ws : List Nat} {e0 : AEnv} {k : AEnv → St → Bool} {k' : AEnv → St → Prop} {pan : Chain → St → Bool} {pan' : Chain → St → Prop} (hk : ∀ R s, k R s = true → k' R s) (hp : LE2 pan pan') :
    ∀ (l : List (List Nat × Option Nat)) (st : Nat) (R : AEnv) (pend : List PdB) (pend' : List Pd) (s : St), LEPs pend pend' → stagesB P gs S L ms ws e0 l st R pend s k pan = true → stagesW P gs S' L ms ws e0 l st R pend' s k' pan'
  | [], _, R, _, _, s, _, h => hk R s h
  | (fl, none) :: _, st, R, pend, pend', s, hpd, h => floatsB_sound (fun R _ _ s _ e => hk R s e) fl R pend pend' s hpd h
  | (fl, some w) :: r, st, R, pend, pend', s, hpd, h => by
    refine floatsB_sound (fun R1 p1 p1' s1 hp1 e1 => ?_) fl R pend pend' s hpd h
    refine effB_sound hS (fun v s2 e2 => ?_) hp e1
    exact checksB_sound (fun e3 => stagesB_sound hS hk hp r _ _ _ _ _ hp1 e3) hp1 e2
theorem drawB_sound {S : FSpecB} {S' : FSpec} (hS : LES S S') {L : List Oper} {s : St} {k : St → Bool} {k' : St → Prop} {pan : Chain → St → Bool} {pan' : Chain → St → Prop} (hk : LE0 k k') (hp : LE2 pan pan') (h : drawB P gs S L s k pan = true) : drawW P gs S' L s k' pan' := by
  obtain ⟨e, ds, hh, u⟩ := s
  exact stagesB_sound hS (fun R s' e => hk _ e) (fun ch s' e => hp _ _ e) _ _ _ _ _ _ .nil h
def LEK (K : KontB) (K' : Kont) : Prop := ∀ x s, K x s = true → K' x s
theorem seq_LE {K : KontB} {K' : Kont} (hK : LEK K K') {n : St → Bool} {n' : St → Prop} (hn : LE0 n n') : LEK (K.seq n) (K'.seq n') := by
  intro x s h
  cases x with
  | normal => exact hn s h
  | _ => exact hK _ _ h
theorem block_LE {K : KontB} {K' : Kont} (hK : LEK K K') {id : Nat} : LEK (K.block id) (K'.block id) := by
  intro x s h
  cases x with
  | exit id' =>
    simp only [KontB.block] at h
    simp only [Kont.block]
    cases hb : Nat.beq id' id with
    | true => rw [hb] at h; rw [if_pos (Nat.eq_of_beq_eq_true hb)]; exact hK _ _ h
    | false => rw [hb] at h; rw [if_neg (Nat.ne_of_beq_eq_false hb)]; exact hK _ _ h
  | _ => exact hK _ _ h
theorem loopB_sound {B : KontB → St → Bool} {B' : Kont → St → Prop} (hB : ∀ KB K s, LEK KB K → B KB s = true → B' K s) {K : KontB} {K' : Kont} (hK : LEK K K') {n0 : Nat} : ∀ (m : Nat) (s : St), loopB m B K s = true → loopW gs n0 B' K' s
  | 0, s, h => by simp [loopB] at h
  | m + 1, s, h => by
    intro X hX hG
    obtain ⟨e, ds, hh, u⟩ := s
    simp only [loopB, fList_eq (fun _ _ => rfl)] at h
    refine hG _ _ Gc.dedupe (hX _ (hB _ _ _ (seq_LE hK fun s' e => ?_) h))
    exact loopB_sound hB hK m s' e X hX hG
theorem jumpB_sound {K : KontB} {K' : Kont} (hK : LEK K K') {s : St} {o : Option Code} (h : jumpB K s o = true) : jumpW K' s o := by
  cases o with
  | none => exact hK _ _ h
  | some c => cases c <;> first | exact hK _ _ h | simp [jumpB] at h
theorem endLoopB_sound {l : Nat} {K : KontB} {K' : Kont} (hK : LEK K K') {s : St} (h : endLoopB l K s = true) : endLoopW l K' s := by
  obtain ⟨e, ds, hh, u⟩ := s
  unfold endLoopB at h
  unfold endLoopW
  simp only at h ⊢
  split at h
  · rename_i st pd dq heq
    rw [heq]
    simp only
    cases st with
    | busy => simp at h
    | _ => exact jumpB_sound hK (by simpa only [fHeap_eq] using h)
  · simp at h
theorem afterRangeB_sound {l : Nat} {K : KontB} {K' : Kont} (hK : LEK K K') {s : St} : ∀ r h, afterRangeB l K s r h = true → afterRange l K' s r h
  | .ret _, _, e => endLoopB_sound hK e
  | .pan _, _, e => hK _ _ e
theorem rangeB_sound {n : Nat} {S : FSpecB} {S' : FSpec} (hS : LES S S') {v : Option Value} {ps : List Nat} {x y : Code} {K : KontB} {K' : Kont} (hK : LEK K K') {s : St} (h : rangeB P n S v ps x y K s = true) : rangeW P n S' v ps x y K' s := by
  obtain ⟨e, ds, hh, u⟩ := s
  unfold rangeB at h
  unfold rangeW
  simp only at h ⊢
  split at h
  · simp at h
  · rename_i hu
    split
    · exact absurd rfl hu
    · split at h
      · rename_i g first cap
        cases hb : hasBody P g with
        | false => rw [hb] at h; cases h
        | true =>
          rw [hb, cond_true] at h
          simp only [fNat_eq, fHeap_eq] at h
          exact ⟨hb, hS _ _ _ _ _ (afterRangeB_sound hK) h⟩
      · simp at h
theorem wpB_sound {n lf n0 : Nat} {S : FSpecB} {S' : FSpec} (hS : LES S S') : ∀ (c : Code) (K : KontB) (K' : Kont) (s : St), LEK K K' → wpB P gs n lf S c K s = true → wpc P gs n S' n0 c .leaf K' s := by
  intro c
  induction c with
  | skip => intro K K' s hK h; exact hK _ _ h
  | label l => intro K K' s hK h; exact hK _ _ h
  | seq x y ihx ihy => intro K K' s hK h; exact ihx _ _ s (seq_LE hK fun s' e => ihy _ _ s' hK e) h
  | cond c x y ihx ihy =>
    intro K K' s hK h
    simp only [wpB, condB] at h
    simp only [wpc, condW]
    split at h
    · rename_i b hb
      rw [hb]
      cases b with
      | true => exact ihx _ _ s hK h
      | false => exact ihy _ _ s hK h
    · simp at h
  | block id c ih => intro K K' s hK h; exact ih _ _ s (block_LE hK) h
  | scope c ih => intro K K' s hK h; exact ih _ _ s hK h
  | loop c ih => intro K K' s hK h; exact loopB_sound (fun KB K s hk e => ih KB K s hk e) hK lf s h
  | exit id => intro K K' s hK h; exact hK _ _ h
  | ret => intro K K' s hK h; exact hK _ _ h
  | region id ops draw =>
    intro K K' s hK h
    cases draw with
    | true => exact drawB_sound hS (fun s e => hK _ _ e) (fun ch s e => hK _ _ e) h
    | false => exact opsB_sound hS (fun s e => hK _ _ e) (fun ch s e => hK _ _ e) _ s h
  | rangeFunc f ps x y => intro K K' s hK h; exact rangeB_sound hS hK h
  | goto l => intro K K' s hK h; simp [wpB] at h
  | refuse y => intro K K' s hK h; simp [wpB] at h
theorem setB_sound {o : Option AHeap} {k : AHeap → Bool} {k' : AHeap → Prop} (hk : ∀ h, k h = true → k' h) (h : setB o k = true) : bnd o k' := by
  cases o with
  | none => simp [setB] at h
  | some x => exact hk _ (by simpa only [setB, fHeap_eq] using h)
theorem roundKB_sound {l : Nat} {Q : Res → AHeap → Bool} {Q' : Res → AHeap → Prop} (hQ : ∀ r h, Q r h = true → Q' r h) : LEK (roundKB l Q) (roundK l Q') := by
  intro x s h
  cases x with
  | normal => exact setB_sound (fun h e => hQ _ _ e) h
  | ret => exact setB_sound (fun h e => hQ _ _ e) h
  | exit id => exact setB_sound (fun h e => hQ _ _ e) h
  | panic ch =>
    obtain ⟨e, ds, hh, u⟩ := s
    cases ds with
    | nil => exact hQ _ _ h
    | cons _ _ => simp [roundKB, noDefers] at h
theorem assignKB_sound {l : Nat} {k : St → Bool} {k' : St → Prop} (hk : LE0 k k') {Q : Res → AHeap → Bool} {Q' : Res → AHeap → Prop} (hQ : ∀ r h, Q r h = true → Q' r h) : LEK (assignKB l k Q) (assignK l k' Q') := by
  intro x s h
  cases x with
  | normal => obtain ⟨e, ds, hh, u⟩ := s; exact setB_sound (fun h e => hk _ e) h
  | ret => simp [assignKB] at h
  | exit id => simp [assignKB] at h
  | panic ch =>
    obtain ⟨e, ds, hh, u⟩ := s
    cases ds with
    | nil => exact hQ _ _ h
    | cons _ _ => simp [assignKB, noDefers] at h
theorem yieldB_sound {lf : Nat} {S : FSpecB} {S' : FSpec} (hS : LES S S') {l : Nat} {args : List Value} {h : AHeap} {Q : Res → AHeap → Bool} {Q' : Res → AHeap → Prop} (hQ : ∀ r h, Q r h = true → Q' r h) (e : yieldB P gs lf S l args h Q = true) :
    yieldW P gs S' l args h Q' := by
  unfold yieldB at e
  unfold yieldW
  split at e
  · rename_i e0 n m ps x y st pd dq heq
    rw [heq]
    simp only
    generalize hc : (Nat.beq args.length ps.length && (Nat.beq m P.funcs.size && (ps.all (Nat.blt · n) && (okCode P n x && okCode P n y)))) = c at e ⊢
    cases c with
    | false => simp at e
    | true => exact ⟨rfl, wpB_sound hS x _ _ _ (assignKB_sound (fun s e => wpB_sound hS y _ _ _ (roundKB_sound hQ) e) hQ) e⟩
  · simp at e
theorem leaveB_sound {D : DSpecB} {D' : DSpec} (hD : LED D D') {rs : List ResultVar} {e : AEnv} {Q : Res → AHeap → Bool} {Q' : Res → AHeap → Prop} (hQ : ∀ r h, Q r h = true → Q' r h) :
    ∀ (ds : List ADef) (u : UMode) (h : AHeap), leaveB P D rs e ds u h Q = true → leaveW P D' rs e ds u h Q'
  | [], u, h, x => by
    cases u with
    | norm => simp [leaveB] at x
    | round => simp [leaveB] at x
    | ret => simp only [leaveB] at x; exact bndB_sound x fun l hl => hQ _ _ (by simpa only [fList_eq (fSp_eq 3)] using hl)
    | pan ch => exact hQ _ _ x
  | .mark q :: ds, u, h, x => by
    simp only [leaveB] at x
    simp only [leaveW]
    split at x
    · rename_i heq
      rw [heq]
      exact leaveB_sound hD hQ ds _ _ (by simpa only [fHeap_eq] using x)
    · simp at x
  | .call f as :: ds, u, h, x => by
    simp only [leaveB] at x
    simp only [leaveW]
    refine hD f as h u _ _ (fun r u' h' e => ?_) x
    cases r with
    | ret v => exact leaveB_sound hD hQ ds _ _ e
    | pan ch => exact leaveB_sound hD hQ ds _ _ e
theorem fnKontB_sound {D : DSpecB} {D' : DSpec} (hD : LED D D') {rs : List ResultVar} {Q : Res → UMode → AHeap → Bool} {Q' : Res → UMode → AHeap → Prop} (hQ : ∀ r u h, Q r u h = true → Q' r u h) : LEK (fnKontB P D rs Q) (fnKont P D' rs Q') := by
  intro x s h
  obtain ⟨e, ds, hh, u⟩ := s
  cases x with
  | normal => exact leaveB_sound hD (fun r h e => hQ _ _ _ e) ds _ _ h
  | ret => exact leaveB_sound hD (fun r h e => hQ _ _ _ e) ds _ _ h
  | panic ch => exact leaveB_sound hD (fun r h e => hQ _ _ _ e) ds _ _ h
  | exit id => simp [fnKontB] at h
theorem okFn_spec {f : FuncId} (h : okFn P f = true) : ∃ fn c, P.funcs[f]? = some fn ∧ fn.body = some c ∧ (fn.name == "runtime.NumGoroutine") = false ∧ okCode P fn.ntmps c = true := by
  unfold okFn at h
  split at h
  · rename_i fn hf
    split at h
    · rename_i c hc
      simp only [Bool.and_eq_true, Bool.not_eq_true'] at h
      exact ⟨fn, c, hf, hc, h.1, h.2⟩
    · simp at h
  · simp at h
theorem forget_LES {R : FSpecB} (hR : LES R (SpecC P gs)) : LES (fun f args h Q => R f args h fun r h' => forgetB h.length r h' (Q r)) (SpecC P gs) := by
  intro f args h Q Q' hQ e
  refine SpecC.forget (hR f args h _ _ (fun r h' e => ?_) e)
  unfold forgetB at e
  cases hb : mayForget h.length r (h'.take h.length) with
  | true => rw [hb] at e; exact hQ _ _ (by simpa only [cond_true, fHeap_eq] using e)
  | false => rw [hb] at e; exact hQ _ _ e
theorem extOf_spec {f : FuncId} {fn : Func} (h : extOf P f = some fn) : P.funcs[f]? = some fn ∧ (fn.name == "runtime.NumGoroutine") = false ∧ extB fn = true := by
  unfold extOf at h
  split at h
  · rename_i fn' hf
    split at h
    · cases h
    · cases hb : (extB fn' && !(fn'.name == "runtime.NumGoroutine")) with
      | false => rw [hb] at h; cases h
      | true =>
        rw [hb] at h; injection h with h; subst h
        rw [Bool.and_eq_true, Bool.not_eq_true'] at hb
        exact ⟨hf, hb.2, hb.1⟩
  · cases h
theorem specX_of {f : FuncId} {fn : Func} (hx : extOf P f = some fn) {args : List Value} {h : AHeap} {v : Value} {h' : AHeap} (e : aExt P fn args h = some (v, h')) {Q : Res → AHeap → Prop} (hq : Q (.ret v) h') :
    SpecX P f args h Q := by
  obtain ⟨h1, h2, h3⟩ := extOf_spec hx
  refine ⟨?_, ?_⟩
  · unfold extB at h3
    rw [Bool.and_eq_true] at h3
    unfold hasBody
    rw [h1]
    have := h3.1
    cases hb : fn.body with
    | none => simp only [hb]
    | some b => rw [hb] at this; cases this
  intro F w0 j w args' S hA
  obtain ⟨j', r', w', k1, k2, k3, k4, k5⟩ := aExt_sim S h1 h2 h3 hA e
  exact ⟨v, h', j', r', w', hq, k4, k1, k2, k5, k3⟩
theorem ext_LES {R : FSpecB} (hR : LES R (SpecC P gs)) : LES (fun f args h Q => extOr P f args h Q (R f args h Q)) (SpecC P gs) := by
  intro f args h Q Q' hQ e
  cases f with
  | yield l => exact hR _ _ _ _ _ hQ e
  | fn f =>
    simp only [extOr] at e
    split at e
    · rename_i fn hx
      split at e
      · rename_i v h' ha
        simp only [fV_eq, fHeap_eq] at e
        exact .inr (specX_of hx ha (hQ _ _ e))
      · cases e
    · exact hR _ _ _ _ _ hQ e
theorem runC_sound (hm : P.follows .mixedOrders = true) {lf : Nat} : ∀ (m : Nat),
    (LES (fun f args h Q => runC P gs lf m f args h .norm fun r _ h => Q r h) (SpecC0 P gs)) ∧ LED (fun f => runC P gs lf m (.fn f)) (SpecD P gs)
  | 0 => ⟨fun f args h Q Q' _ e => by simp [runC] at e, fun f args h u Q Q' _ e => by simp [runC] at e⟩
  | m + 1 => by
    obtain ⟨ihS0, ihD⟩ := runC_sound hm m
    have ihS : LES (fun f args h Q => runC P gs lf m f args h .norm fun r _ h => Q r h) (SpecC P gs) := fun f args h Q Q' hQ e => (ihS0 f args h Q Q' hQ e).toC
    have open1 : ∀ {f : FuncId} {args : List Value} {h : AHeap} {u : UMode} {Q : Res → UMode → AHeap → Bool}, runC P gs lf (m + 1) (.fn f) args h u Q = true →
        ∃ fn c, P.funcs[f]? = some fn ∧ fn.body = some c ∧ (fn.name == "runtime.NumGoroutine") = false ∧ okCode P fn.ntmps c = true ∧ args.length ≤ fn.ntmps ∧
          ∀ Q' : Res → UMode → AHeap → Prop, (∀ r u h, Q r u h = true → Q' r u h) → fnW P gs fn c .leaf args h u Q' := by
      intro f args h u Q e
      simp only [runC] at e
      cases hb : okFn P f with
      | false => rw [hb] at e; simp at e
      | true =>
        rw [hb, cond_true] at e
        obtain ⟨fn, c, h1, h2, h3, h4⟩ := okFn_spec hb
        rw [h1] at e
        simp only [h2] at e
        cases hl : Nat.ble args.length fn.ntmps with
        | false => rw [hl] at e; simp at e
        | true =>
          rw [hl, cond_true] at e
          refine ⟨fn, c, h1, h2, h3, h4, Nat.ble_eq.mp hl, fun Q' hQ => ?_⟩
          exact wpB_sound (ext_LES (forget_LES ihS)) c _ _ _ (fnKontB_sound ihD hQ) e
    constructor
    · intro f args h Q Q' hQ e
      cases f with
      | fn f =>
        obtain ⟨fn, c, h1, h2, h3, h4, h5, h6⟩ := open1 e
        exact spec_of_body hm .leaf h1 h2 h3 h4 h5 (h6 _ fun r u h e => hQ r h e)
      | yield l =>
        simp only [runC] at e
        exact specY_of hm (yieldB_sound (ext_LES (forget_LES ihS)) hQ e)
    · intro f args h u Q Q' hQ e
      obtain ⟨fn, c, h1, h2, h3, h4, h5, h6⟩ := open1 e
      exact specD_of_body hm .leaf h1 h2 h3 h4 h5 (h6 _ hQ)
theorem spec_of_run (hm : P.follows .mixedOrders = true) {lf m : Nat} {f : FuncId} {args : List Value} {h : AHeap} {Q : Res → AHeap → Bool} {Q' : Res → AHeap → Prop} (hQ : ∀ r h, Q r h = true → Q' r h)
    (e : runB P gs lf m f args h .norm (fun r _ h => Q r h) = true) : Spec P gs f args h Q' :=
  (runC_sound (gs := gs) (lf := lf) hm m).1 (.fn f) args h Q Q' hQ e
end Go.Fm
namespace Go.Fm
inductive Scr where
  | go
  | skip (n : Nat) (s : Scr)
  | ask (t f : Scr)
  | two (t f : Scr)
  | yes (s : Scr)
  | no (s : Scr)
  | all (s : Int → Scr)
  | raw (s : Scr)
  | val (v : Value) (s : Scr)
  | put (v : Value) (h : AHeap) (s : Scr)
  | gen (A : Type) (f : A → Value) (s : A → Scr)
  | genE (A : Type) (f : A → Value × AHeap) (s : A → Scr)
  | call (A : Type) (p : A → Prop × Res × AHeap) (s : A → Scr)
  | call2 (b : Bool) (o1 o2 : Res × AHeap) (s1 s2 : Scr)
  | inv (A : Type) (q : A → Prop × St) (m : A → Nat) (s : A → Scr)
  | inv2 (A B : Type) (q : A → Prop × St) (m : A → Nat) (s : A → Scr) (q' : B → Prop × St) (m' : B → Nat) (s' : B → Scr)
  | invN (ks : List Nat) (A : Type) (m : A → Nat) (qs : List (A → Prop × St)) (ss : Nat → A → Scr)
  | unr (n : Nat) (s : Scr)
  | byB (b : Bool) (t f : Scr)
  | look (f : Nat → Op → List (Option Value) → Option Value → AHeap → AEnv → Prop)
abbrev KontS := AExit → St → Scr → Prop
abbrev NextS := Value → St → Scr → Prop
abbrev PanS := Chain → St → Scr → Prop
abbrev FSpecS := Callee → List Value → AHeap → Scr → (Res → AHeap → Scr → Prop) → Prop
abbrev DSpecS := FuncId → List Value → AHeap → UMode → Scr → (Res → UMode → AHeap → Scr → Prop) → Prop
def gNat (n : Nat) (k : Nat → Prop) : Prop :=
  match n with
  | 0 => k 0
  | m + 1 => k (m + 1)
def gInt (n : Int) (k : Int → Prop) : Prop :=
  match n with
  | .ofNat m => gNat m fun m => k (.ofNat m)
  | .negSucc m => gNat m fun m => k (.negSucc m)
def gBool (b : Bool) (k : Bool → Prop) : Prop := cond b (k true) (k false)
def gON (n : Option Nat) (k : Option Nat → Prop) : Prop :=
  match n with
  | none => k none
  | some m => gNat m fun m => k (some m)
def gA (a : Option Addr) (k : Option Addr → Prop) : Prop :=
  match a with
  | none => k none
  | some ⟨b, o, s⟩ => gNat b fun b => gNat o fun o => gON s fun s => k (some ⟨b, o, s⟩)
def gList {α : Type} (f : α → (α → Prop) → Prop) : List α → (List α → Prop) → Prop
  | [], k => k []
  | a :: r, k => f a fun a => gList f r fun r => k (a :: r)
def gV : Nat → Value → (Value → Prop) → Prop
  | 0, v, k => k v
  | n + 1, v, k =>
    match v with
    | .bool b => gBool b fun b => k (.bool b)
    | .int i n => gInt n fun n => k (.int i n)
    | .pointer a => gA a fun a => k (.pointer a)
    | .slice a l c => gA a fun a => gNat l fun l => gNat c fun c => k (.slice a l c)
    | .map r => gON r fun r => k (.map r)
    | .agg x => gList (gV n) x.toList fun l => k (.agg ⟨l⟩)
    | .tuple x => gList (gV n) x.toList fun l => k (.tuple ⟨l⟩)
    | .iface t v => gV n v fun v => k (.iface t v)
    | .string s => gList (fun (b : UInt8) k => gNat b.toNat fun m => k (UInt8.ofNat m)) s.data.toList fun l => k (.string ⟨⟨l⟩⟩)
    | v => k v
theorem gNat_eq (n : Nat) (k : Nat → Prop) : gNat n k = k n := by cases n <;> rfl
theorem gInt_eq (n : Int) (k : Int → Prop) : gInt n k = k n := by cases n <;> simp [gInt, gNat_eq]
theorem gBool_eq (n : Bool) (k : Bool → Prop) : gBool n k = k n := by cases n <;> rfl
theorem gON_eq (n : Option Nat) (k : Option Nat → Prop) : gON n k = k n := by cases n <;> simp [gON, gNat_eq]
theorem gA_eq (n : Option Addr) (k : Option Addr → Prop) : gA n k = k n := by
  cases n with
  | none => rfl
  | some a => obtain ⟨b, o, s⟩ := a; simp [gA, gNat_eq, gON_eq]
theorem gList_eq {α : Type} {f : α → (α → Prop) → Prop} (hf : ∀ a k, f a k = k a) : ∀ (l : List α) (k : List α → Prop), gList f l k = k l
  | [], k => rfl
  | a :: r, k => by simp [gList, hf, gList_eq hf r]
theorem gV_eq : ∀ (n : Nat) (v : Value) (k : Value → Prop), gV n v k = k v
  | 0, v, k => rfl
  | n + 1, v, k => by
    have ih := gV_eq n
    unfold gV
    split
    · rw [gBool_eq]
    · rw [gInt_eq]
    · rw [gA_eq]
    · simp only [gA_eq, gNat_eq]
    · rw [gON_eq]
    · rw [gList_eq ih]
    · rw [gList_eq ih]
    · rw [ih]
    · rw [gList_eq]
      intro a k
      rw [gNat_eq, UInt8.ofNat_toNat]
    · rfl
def gSp : Nat → Value → (Value → Prop) → Prop
  | 0, v, k => k v
  | n + 1, v, k =>
    match v with
    | .agg x => gList (gSp n) x.toList fun l => k (.agg ⟨l⟩)
    | .tuple x => gList (gSp n) x.toList fun l => k (.tuple ⟨l⟩)
    | v => k v
theorem gSp_eq : ∀ (n : Nat) (v : Value) (k : Value → Prop), gSp n v k = k v
  | 0, _, _ => rfl
  | n + 1, v, k => by
    have ih := gSp_eq n
    unfold gSp
    split
    · rw [gList_eq ih]
    · rw [gList_eq ih]
    · rfl
def gR (op : Op) (v : Value) (k : Value → Prop) : Prop :=
  match op with
  | .binOp _ _ _ _ _ | .unOp _ _ _ | .convert _ _ _ | .fieldAddr _ _ _ | .indexAddr _ _ _ | .slice _ _ _ _ _ | .call _ => gV 3 v k
  | .move _ => match v with
    | .bool b => gBool b fun b => k (.bool b)
    | v => gSp 3 v k
  | _ => gSp 3 v k
theorem gR_eq (op : Op) (v : Value) (k : Value → Prop) : gR op v k = k v := by
  unfold gR
  split
  all_goals first
    | exact gV_eq _ _ _
    | exact gSp_eq _ _ _
    | (split; exact gBool_eq _ _; exact gSp_eq _ _ _)
def gE (op : Op) (v : Value) (k : Value → Prop) : Prop :=
  match op with
  | .entry _ => gSp 3 v k
  | _ => gV 3 v k
theorem gE_eq (op : Op) (v : Value) (k : Value → Prop) : gE op v k = k v := by
  unfold gE
  split <;> first | exact gV_eq _ _ _ | exact gSp_eq _ _ _
class UF where
  types : List TypeId
instance (priority := low) noUF : UF := ⟨[]⟩
variable [UF]
def gObj (o : AObj) (k : AObj → Prop) : Prop :=
  match o with
  | .cells c r => match r with
    | true => k (.cells c true)
    | false => gList (gSp 1) c fun c => k (.cells c false)
  | .tcells c t z => cond (UF.types.contains t) (k (.tcells c t z)) (gList (gSp 1) c fun c => k (.tcells c t z))
  | o => k o
theorem gObj_eq (o : AObj) (k : AObj → Prop) : gObj o k = k o := by
  cases o with
  | cells c r => cases r <;> simp only [gObj, gList_eq (gSp_eq 1)]
  | tcells c t z =>
    simp only [gObj, gList_eq (gSp_eq 1)]
    cases UF.types.contains t <;> rfl
  | _ => rfl
def gHeap (h : AHeap) (k : AHeap → Prop) : Prop := gList gObj h k
theorem gHeap_eq (h : AHeap) (k : AHeap → Prop) : gHeap h k = k h := gList_eq gObj_eq h k
def stepS (op : Op) (vs : List (Option Value)) (h : AHeap) (o : Option Value) (c : Scr) (next : Value → Scr → Prop) : Prop :=
  match c with
  | .go => bnd o fun v => gR op v fun v => next v .go
  | .skip (n + 1) c => bnd o fun v => gR op v fun v => next v (.skip n c)
  | .skip 0 c => match c with
    | .ask t f => match o with
      | some (.bool b) => (b = true → next (.bool true) t) ∧ (b = false → next (.bool false) f)
      | _ => False
    | .two t f => (∃ b : Bool, o = some (.bool b)) ∧ (o = some (.bool true) → next (.bool true) t) ∧ (o = some (.bool false) → next (.bool false) f)
    | .yes c => o = some (.bool true) ∧ next (.bool true) c
    | .no c => o = some (.bool false) ∧ next (.bool false) c
    | .all c => match o with
      | some (.int k z) => ∀ x, x = z → next (.int k x) (c x)
      | _ => False
    | .raw c => bnd o fun v => next v c
    | .val v c => o = some v ∧ next v c
    | .gen A f sc => (∃ a : A, o = some (f a)) ∧ ∀ a : A, o = some (f a) → next (f a) (sc a)
    | .look f => f 0 op vs o h [] ∧ False
    | _ => False
  | _ => False
def turnS (o : Option Value) (c : Scr) (t f : Scr → Prop) : Prop :=
  match c with
  | .go => match o with
    | some (.bool b) => cond b (t .go) (f .go)
    | _ => False
  | .skip (n + 1) c => match o with
    | some (.bool b) => cond b (t (.skip n c)) (f (.skip n c))
    | _ => False
  | .skip 0 c => match c with
    | .ask ct cf => match o with
      | some (.bool b) => (b = true → t ct) ∧ (b = false → f cf)
      | _ => False
    | .yes c => o = some (.bool true) ∧ t c
    | .no c => o = some (.bool false) ∧ f c
    | .look g => g 1 (.move (.const .nilFunc)) [] o [] [] ∧ False
    | _ => False
  | _ => False
def effS1 (op : Op) (vs : List (Option Value)) (h : AHeap) (o : Option (Value × AHeap)) (c : Scr) (next : Value → AHeap → Scr → Prop) : Prop :=
  match c with
  | .go => bnd o fun p => match p with
    | (v, h) => gE op v fun v => gHeap h fun h => next v h .go
  | .skip (n + 1) c => bnd o fun p => match p with
    | (v, h) => gE op v fun v => gHeap h fun h => next v h (.skip n c)
  | .skip 0 c => match c with
    | .raw c => bnd o fun p => match p with
      | (v, h) => gHeap h fun h => next v h c
    | .put v h c => o = some (v, h) ∧ next v h c
    | .genE A f sc => (∃ a : A, o = some (f a)) ∧ ∀ a : A, o = some (f a) → next (f a).1 (f a).2 (sc a)
    | .look f => f 2 op vs (o.map (·.1)) h [] ∧ False
    | _ => False
  | _ => False
def effS (op : Op) (vs : List (Option Value)) (h : AHeap) (o : Option (Value × AHeap)) (c : Scr) (next : Value → AHeap → Scr → Prop) : Prop :=
  match c with
  | .skip 0 (.byB b t f) => (b = true → effS1 op vs h o t next) ∧ (b = false → effS1 op vs h o f next)
  | c => effS1 op vs h o c next
def allS : List (Value × AHeap) → (Value → AHeap → Prop) → Prop
  | [], _ => True
  | [(v, h)], k => k v h
  | (v, h) :: r, k => k v h ∧ allS r k
section
variable (P : Program) (gs : List Nat) (n : Nat) (S : FSpecS)
def afterS (s : St) (next : NextS) (pan : PanS) : Res → AHeap → Scr → Prop
  | .ret v, h, c => match s with | ⟨e, ds, _, u⟩ => next v ⟨e, ds, h, u⟩ c
  | .pan ch, h, c => match s with | ⟨e, ds, _, u⟩ => pan ch ⟨e, ds, h, u⟩ c
def recoverS (s : St) (c : Scr) (next : NextS) : Prop :=
  match s with
  | ⟨e, ds, h, .pan ((v, false) :: older)⟩ => next v ⟨e, ds, h, .pan ((v, true) :: older)⟩ c
  | ⟨_, _, _, .round⟩ => False
  | s => next .nilIface s c
def dataS (ρ : Operand → Option Value) (op : Op) (s : St) (c : Scr) (next : NextS) : Prop :=
  match cls P op with
  | .pure => stepS op (op.operands.toList.map ρ) s.h (aPure P ρ op) c fun v c => next v s c
  | .read => stepS op (op.operands.toList.map ρ) s.h (aRead P ρ s.h op) c fun v c => next v s c
  | .alloc => match s with
    | ⟨e, ds, h, u⟩ => effS op (op.operands.toList.map ρ) h ((aAlloc P ρ h.length op).map fun p => (p.2, h ++ [p.1])) c fun v h c => next v ⟨e, ds, h, u⟩ c
  | .eff => match s with
    | ⟨e, ds, h, u⟩ => effS op (op.operands.toList.map ρ) h (aEff P ρ h op) c fun v h c => next v ⟨e, ds, h, u⟩ c
def callS (K : FSpec) (p : Callee × List Value) (h : AHeap) (c : Scr) (Q : Res → AHeap → Scr → Prop) : Prop :=
  match c with
  | .skip 0 (.call _ q sc) => match p with
    | (g, as) => K g as h (fun r h' => ∃ a, (q a).1 ∧ r = (q a).2.1 ∧ h' = (q a).2.2) ∧ ∀ a, (q a).1 → Q (q a).2.1 (q a).2.2 (sc a)
  | .skip 0 (.call2 b o1 o2 s1 s2) => match p with
    | (g, as) => K g as h (fun r h' => (b = true → r = o1.1 ∧ h' = o1.2) ∧ (b = false → r = o2.1 ∧ h' = o2.2)) ∧ (b = true → Q o1.1 o1.2 s1) ∧ (b = false → Q o2.1 o2.2 s2)
  | .skip 0 (.look f) => match p with
    | (.fn g, as) => f 3 (.move (.const .nilFunc)) (some (.func (.func g) #[] #[]) :: as.map some) none h [] ∧ False
    | _ => f 3 (.move (.const .nilFunc)) [] none h [] ∧ False
  | .skip (n + 1) c => match p with
    | (g, as) => S g as h (.skip n c) Q
  | c => match p with
    | (g, as) => S g as h c Q
variable (K : FSpec)
def opS (ρ : Operand → Option Value) (op : Op) (s : St) (c : Scr) (next : NextS) (pan : PanS) : Prop :=
  match op with
  | .call { callee := .value f, args := args, argTypes := _ } => bnd (target ρ f args.toList) fun p => callS S K p s.h c (afterS s next pan)
  | .call { callee := .builtin .recover, args := _, argTypes := _ } => recoverS s c next
  | .defer { callee := .value f, args := args, argTypes := _ } =>
    match s with
    | ⟨_, _, _, .round⟩ => False
    | ⟨e, ds, h, u⟩ => bnd (target ρ f args.toList) fun p => match p with
      | (.fn g, as) => gList (gSp 3) as fun as => next undefV ⟨e, .call g as :: ds, h, u⟩ c
      | _ => False
  | .panic x => match ρ x with
    | some (.iface t v) => pan [(.iface t v, false)] s c
    | _ => False
  | .next it false => bnd ((ρ it).bind fun v => aNextMap v s.h) fun outs => allS outs fun v h => match s with
    | ⟨e, ds, _, u⟩ => gSp 3 v fun v => gHeap h fun h => next v ⟨e, ds, h, u⟩ c
  | op => dataS P ρ op s c next
def guardS (g : Option Value) (want : Bool) (run : Scr → NextS → Prop) (s : St) (c : Scr) (next : NextS) : Prop :=
  match g with
  | some (.tuple _) => next undefV s c
  | g => turnS g c (fun c => cond want (run c next) (next undefV s c)) (fun c => cond want (next undefV s c) (run c next))
def putS (dst : Option Nat) (v : Value) (s : St) (c : Scr) (k : St → Scr → Prop) : Prop :=
  match dst with
  | some d => cond (Nat.blt d n) (match s with | ⟨e, ds, h, u⟩ => k ⟨(d, v) :: e, ds, h, u⟩ c) False
  | none => k s c
def operS (gd : Nat → Option Nat) (o : Oper) (s : St) (c : Scr) (k : St → Scr → Prop) (pan : PanS) : Prop :=
  match o.guard with
  | none => opS P S K (ev gs s.e) o.op s c (fun v s' c => putS n o.dst v s' c k) pan
  | some (j, want) => guardS ((gd j).bind s.e.get) want (fun c nx => opS P S K (ev gs s.e) o.op s c nx pan) s c (fun v s' c => putS n o.dst v s' c k)
def opsS (gd : Nat → Option Nat) : List Oper → St → Scr → (St → Scr → Prop) → PanS → Prop
  | [], s, c, k, _ => k s c
  | o :: r, s, c, k, pan => operS P gs n S K gd o s c (fun s' c => opsS gd r s' c k pan) pan
def floatS (ρ : Operand → Option Value) (i hi st : Nat) (op : Op) (R : AEnv) (pend : List Pd) (s : St) (c : Scr) (k : AEnv → List Pd → St → Scr → Prop) : Prop :=
  match cls P op with
  | .pure => stepS op (op.operands.toList.map ρ) s.h (aPure P ρ op) c fun v c => k ((i, v) :: R) pend s c
  | .read => stepS op (op.operands.toList.map ρ) s.h (aRead P ρ s.h op) c fun v c => k ((i, v) :: R) (addPd st hi (fun h => aRead P ρ h op = some v) pend) s c
  | .alloc => match s with
    | ⟨e, ds, h, u⟩ => bnd (aAlloc P ρ h.length op) fun p => match p with
      | (o, v) => gObj o fun o => gV 3 v fun v => gHeap (h ++ [o]) fun h' => k ((i, v) :: R) (addPd st hi (fun h2 => h2[h.length]? = some o) pend) ⟨e, ds, h', u⟩ c
  | .eff => False
def guardFS (g : Option Value) (want : Bool) (run : Scr → (AEnv → List Pd → St → Scr → Prop) → Prop) (i : Nat) (R : AEnv) (pend : List Pd) (s : St) (c : Scr) (k : AEnv → List Pd → St → Scr → Prop) : Prop :=
  match g with
  | some (.tuple _) => k ((i, undefV) :: R) pend s c
  | g => turnS g c (fun c => cond want (run c k) (k ((i, undefV) :: R) pend s c)) (fun c => cond want (k ((i, undefV) :: R) pend s c) (run c k))
variable (L : List Oper) (ms ws : List Nat) (e0 : AEnv)
def floatsS (st : Nat) : List Nat → AEnv → List Pd → St → Scr → (AEnv → List Pd → St → Scr → Prop) → Prop
  | [], R, pend, s, c, k => k R pend s c
  | i :: r, R, pend, s, c, k =>
    match L[i]? with
    | none => False
    | some o =>
      match o.guard with
      | none => floatS P (evF gs L ms e0 R i (opReads o.op)) i (hiOf ms ws i) st o.op R pend s c fun R' pend' s' c => floatsS st r R' pend' s' c k
      | some (j, want) => guardFS (R.get j) want (fun c k' => floatS P (evF gs L ms e0 R i (opReads o.op)) i (hiOf ms ws i) st o.op R pend s c k') i R pend s c fun R' pend' s' c => floatsS st r R' pend' s' c k
def effKS (i : Nat) (R : AEnv) (s : St) (c : Scr) (next : NextS) (pan : PanS) : Prop :=
  match L[i]? with
  | none => False
  | some o =>
    match o.guard with
    | none => opS P S K (evF gs L ms e0 R i (opReads o.op)) o.op s c next pan
    | some (j, want) => guardS (R.get j) want (fun c nx => opS P S K (evF gs L ms e0 R i (opReads o.op)) o.op s c nx pan) s c next
def stagesS : List (List Nat × Option Nat) → Nat → AEnv → List Pd → St → Scr → (AEnv → St → Scr → Prop) → PanS → Prop
  | [], _, R, _, s, c, k, _ => k R s c
  | (fl, none) :: _, st, R, pend, s, c, k, _ => floatsS P gs L ms ws e0 st fl R pend s c fun R' _ s' c => k R' s' c
  | (fl, some w) :: r, st, R, pend, s, c, k, pan => floatsS P gs L ms ws e0 st fl R pend s c fun R' pend' s' c =>
      effKS P gs S K L ms e0 w R' s' c (fun v s'' c => checks pend' (st + 1) s''.h (stagesS r (st + 1) ((w, v) :: R') pend' s'' c k pan)) pan
end
def drawS (P : Program) (gs : List Nat) (S : FSpecS) (K : FSpec) (L : List Oper) (s : St) (c : Scr) (k : St → Scr → Prop) (pan : PanS) : Prop :=
  match s with
  | ⟨e, ds, h, u⟩ =>
    stagesS P gs S K L (masks L []) (effs P L) e (stagesOf P L (masks L []) (effs P L) (effs P L) 0) 0 [] [] ⟨e, ds, h, u⟩ c
      (fun R s' c => match s' with | ⟨_, ds, h, u⟩ => k ⟨finishE R L 0 e, ds, h, u⟩ c) (fun ch s' c => match s' with | ⟨_, ds, h, u⟩ => pan ch ⟨dropE (dstsOf L) e, ds, h, u⟩ c)
def KontS.seq (K : KontS) (next : St → Scr → Prop) : KontS
  | .normal, s, c => next s c
  | x, s, c => K x s c
def KontS.block (K : KontS) (id : Nat) : KontS
  | .exit id', s, c => cond (Nat.beq id' id) (K .normal s c) (K (.exit id') s c)
  | x, s, c => K x s c
def loopS : Nat → (KontS → St → Scr → Prop) → KontS → St → Scr → Prop
  | 0, _, _, _, _ => False
  | m + 1, B, K, s, c => match s with
    | ⟨e, ds, h, u⟩ => gList (fun p k => k p) (dedupe e 0) fun e => B (K.seq fun s' c => loopS m B K s' c) ⟨e, ds, h, u⟩ c
def trimE : List Nat → AEnv → AEnv
  | [], _ => []
  | k :: r, e => match e.get k with
    | some v => (k, v) :: trimE r e
    | none => trimE r e
def trimS (ks : List Nat) (s : St) : St := match s with
  | ⟨e, ds, h, u⟩ => ⟨trimE ks e, ds, h, u⟩
def someN {A : Type} (gs : List Nat) (n0 : Nat) (ok : A → Prop) (s : St) : List (A → Prop × St) → Prop
  | [] => False
  | [q] => ∃ a : A, (q a).1 ∧ ok a ∧ Gc gs n0 s (q a).2
  | q :: r => (∃ a : A, (q a).1 ∧ ok a ∧ Gc gs n0 s (q a).2) ∨ someN gs n0 ok s r
def allN {A : Type} (f : (A → Prop × St) → (A → Scr) → Prop) (ss : Nat → A → Scr) : Nat → List (A → Prop × St) → Prop
  | _, [] => True
  | k, [q] => f q (ss k)
  | k, q :: r => f q (ss k) ∧ allN f ss (k + 1) r
section
variable (P : Program) (gs : List Nat) (n lf : Nat) (S : FSpecS) (C : FSpec) (n0 : Nat)
def loopC (B : KontS → St → Scr → Prop) (K : KontS) (s : St) (c : Scr) : Prop :=
  match c with
  | .skip 0 (.inv A q m sc) => (∃ a : A, (q a).1 ∧ Gc gs n0 s (q a).2) ∧ ∀ a : A, (q a).1 → B (K.seq fun s' _ => ∃ a', (q a').1 ∧ m a' < m a ∧ Gc gs n0 s' (q a').2) (q a).2 (sc a)
  | .skip 0 (.inv2 A A' q m sc q' m' sc') => ((∃ a : A, (q a).1 ∧ Gc gs n0 s (q a).2) ∨ ∃ a : A', (q' a).1 ∧ Gc gs n0 s (q' a).2) ∧
      (∀ a : A, (q a).1 → B (K.seq fun s' _ => (∃ a', (q a').1 ∧ m a' < m a ∧ Gc gs n0 s' (q a').2) ∨ ∃ a', (q' a').1 ∧ m' a' < m a ∧ Gc gs n0 s' (q' a').2) (q a).2 (sc a)) ∧
      (∀ a : A', (q' a).1 → B (K.seq fun s' _ => (∃ a', (q a').1 ∧ m a' < m' a ∧ Gc gs n0 s' (q a').2) ∨ ∃ a', (q' a').1 ∧ m' a' < m' a ∧ Gc gs n0 s' (q' a').2) (q' a).2 (sc' a))
  | .skip 0 (.invN ks A m qs ss) => someN gs n0 (fun _ : A => True) (trimS ks s) qs ∧ allN (fun q sc => ∀ a : A, (q a).1 → B (K.seq fun s' _ => someN gs n0 (fun a' => m a' < m a) (trimS ks s') qs) (q a).2 (sc a)) ss 0 qs
  | .skip 0 (.unr m c) => loopS m B K s c
  | .skip 0 (.look f) => f 4 (.move (.const .nilFunc)) [] none s.h s.e ∧ False
  | .skip (n + 1) c => loopS lf B K s (.skip n c)
  | c => loopS lf B K s c
def jumpS (K : KontS) (s : St) (c : Scr) : Option Code → Prop
  | none => K .normal s c
  | some .ret => K .ret s c
  | some (.exit id) => K (.exit id) s c
  | _ => False
def endLoopS (l : Nat) (K : KontS) (s : St) (c : Scr) : Prop :=
  match s with
  | ⟨e, ds, h, u⟩ => match h[l]? with
    | some (.spec (.loop _ _ _ _ _ _ st pd _)) => match st with
      | .busy => False
      | _ => gHeap (h.set l (.spec .over)) fun h => jumpS K ⟨e, ds, h, u⟩ c pd
    | _ => False
def afterRangeS (l : Nat) (K : KontS) (s : St) : Res → AHeap → Scr → Prop
  | .pan ch, h', c => match s with
    | ⟨e, ds, _, u⟩ => K (.panic ch) ⟨e, ds, h', u⟩ c
  | .ret _, h', c => match s with
    | ⟨e, ds, _, u⟩ => endLoopS l K ⟨e, ds, h', u⟩ c
def rangeS (v : Option Value) (ps : List Nat) (x y : Code) (K : KontS) (s : St) (c : Scr) : Prop :=
  match s with
  | ⟨e, ds, h, u⟩ => match u with
    | .round => False
    | _ => match v with
      | some (.func (.func g) first cap) =>
        cond (hasBody P g) (gNat h.length fun q => gHeap (h ++ [.spec .defq] ++ [.spec (.loop e n P.funcs.size ps x y .ready none q)]) fun h' =>
          S (.fn g) (first.toList ++ (.func (.yield (q + 1)) #[] #[] :: cap.toList)) h' c (afterRangeS (q + 1) K ⟨e, .mark q :: ds, h, u⟩)) False
      | _ => False
def wpS : Code → KontS → St → Scr → Prop
  | .skip, K, s, c | .label _, K, s, c => K .normal s c
  | .seq x y, K, s, c => wpS x (K.seq fun s' c => wpS y K s' c) s c
  | .cond b x y, K, s, c => turnS (ev gs s.e b) c (fun c => wpS x K s c) (fun c => wpS y K s c)
  | .block id x, K, s, c => wpS x (K.block id) s c
  | .scope x, K, s, c => wpS x K s c
  | .loop x, K, s, c => loopC gs lf n0 (fun K' s' c => wpS x K' s' c) K s c
  | .exit id, K, s, c => K (.exit id) s c
  | .ret, K, s, c => K .ret s c
  | .region _ ops true, K, s, c => drawS P gs S C ops.toList s c (K .normal) (fun ch => K (.panic ch))
  | .region _ ops false, K, s, c => opsS P gs n S C (gdOf ops.toList) ops.toList s c (K .normal) (fun ch => K (.panic ch))
  | .rangeFunc f ps x y, K, s, c => rangeS P n S (ev gs s.e f) ps.toList x y K s c
  | _, _, _, _ => False
def setS (o : Option AHeap) (Q : AHeap → Prop) : Prop :=
  match o with
  | some h => gHeap h Q
  | none => False
def noDefersS (ds : List ADef) (p : Prop) : Prop :=
  match ds with
  | [] => p
  | _ => False
def roundKS (l : Nat) (Q : Res → AHeap → Scr → Prop) : KontS
  | .normal, s, c => setS (setLoop l .ready none s.h) fun h => Q (.ret (.bool true)) h c
  | .ret, s, c => setS (setLoop l .done (some .ret) s.h) fun h => Q (.ret (.bool false)) h c
  | .exit id, s, c => setS (setLoop l .done (some (.exit id)) s.h) fun h => Q (.ret (.bool false)) h c
  | .panic ch, s, c => noDefersS s.ds (Q (.pan ch) s.h c)
def beginS (l : Nat) (k : St → Scr → Prop) (s : St) (c : Scr) : Prop :=
  match s with
  | ⟨e, ds, h, u⟩ => setS (busyLoop l h) fun h => k ⟨e, ds, h, u⟩ c
def assignKS (l : Nat) (k : St → Scr → Prop) (Q : Res → AHeap → Scr → Prop) : KontS
  | .normal, s, c => beginS l k s c
  | .panic ch, s, c => noDefersS s.ds (Q (.pan ch) s.h c)
  | _, _, _ => False
def yieldS (l : Nat) (args : List Value) (h : AHeap) (c : Scr) (Q : Res → AHeap → Scr → Prop) : Prop :=
  match h[l]? with
  | some (.spec (.loop e n m ps x y _ _ _)) =>
    cond (Nat.beq args.length ps.length && (Nat.beq m P.funcs.size && (ps.all (Nat.blt · n) && (okCode P n x && okCode P n y))))
      (wpS P gs n lf S C h.length x (assignKS l (fun s c => wpS P gs n lf S C h.length y (roundKS l Q) s c) Q) ⟨putAll ps args e, [], h, .round⟩ c) False
  | _ => False
def leaveS (D : DSpecS) (rs : List ResultVar) (e : AEnv) : List ADef → UMode → AHeap → Scr → (Res → AHeap → Scr → Prop) → Prop
  | [], .ret, h, c, Q => bnd (resL P e h rs) fun l => gList (gSp 3) l fun l => Q (.ret (tupleOf l)) h c
  | [], .pan ch, h, c, Q => Q (.pan ch) h c
  | [], _, _, _, _ => False
  | .call f as :: ds, u, h, c, Q => D f as h u c fun r u' h' c => match r with
    | .ret _ => leaveS D rs e ds (settleU u') h' c Q
    | .pan ch => leaveS D rs e ds (raisedU u' ch) h' c Q
  | .mark q :: ds, u, h, c, Q => match h[q]? with
    | some (.spec .defq) => gHeap (h.set q (.spec .over)) fun h => leaveS D rs e ds u h c Q
    | _ => False
def fnKontS (D : DSpecS) (rs : List ResultVar) (Q : Res → UMode → AHeap → Scr → Prop) : KontS
  | .normal, s, c | .ret, s, c => match s with | ⟨e, ds, h, u⟩ => leaveS P D rs e ds .ret h c fun r h c => Q r u h c
  | .panic ch, s, c => match s with | ⟨e, ds, h, u⟩ => leaveS P D rs e ds (.pan ch) h c fun r h c => Q r u h c
  | .exit _, _, _ => False
def forgetS (fg : Bool) (n : Nat) (r : Res) (h : AHeap) (c : Scr) (k : AHeap → Scr → Prop) : Prop :=
  cond fg (cond (mayForget n r (h.take n)) (gHeap (h.take n) fun h => k h c) (k h c)) (k h c)
def knownS (kn : List Nat) (f : Callee) (p : Prop) : Prop :=
  match f with
  | .fn f => cond (kn.contains f) False p
  | .yield _ => p
def extOrS (f : Callee) (args : List Value) (h : AHeap) (c : Scr) (Q : Res → AHeap → Scr → Prop) (dflt : Prop) : Prop :=
  match f with
  | .fn f => match extOf P f with
    | some fn => match aExt P fn args h with
      | some (v, h') => gHeap h' fun h' => Q (.ret v) h' c
      | none => False
    | none => dflt
  | .yield _ => dflt
def runX (fg : Bool) (kn : List Nat) (lf : Nat) (C : FSpec) : Nat → Callee → List Value → AHeap → UMode → Scr → (Res → UMode → AHeap → Scr → Prop) → Prop
  | 0, _, _, _, _, _, _ => False
  | m + 1, .yield l, args, h, u, c, Q => yieldS P gs lf (fun f args h c Q => extOrS P f args h c Q (knownS kn f (runX fg kn lf C m f args h .norm c fun r _ h' c => forgetS fg h.length r h' c (Q r)))) C l args h c (fun r h c => Q r u h c)
  | m + 1, .fn f, args, h, u, c, Q =>
    cond (okFn P f) (match P.funcs[f]? with
      | some fn => match fn.body with
        | some b => cond (Nat.ble args.length fn.ntmps)
            (wpS P gs fn.ntmps lf (fun f args h c Q => extOrS P f args h c Q (knownS kn f (runX fg kn lf C m f args h .norm c fun r _ h' c => forgetS fg h.length r h' c (Q r)))) C h.length b (fnKontS P (fun f => runX fg kn lf C m (.fn f)) fn.results.toList Q) ⟨initE args 0, [], h, u⟩ c) False
        | none => False
      | none => False) False
def runS (fg : Bool) (kn : List Nat) (lf : Nat) (C : FSpec) (m : Nat) : DSpecS := fun f => runX P gs fg kn lf C m (.fn f)
end
end Go.Fm
namespace Go.Fm
variable {P : Program} {gs : List Nat} [UF]
def LS1 (k : NextS) (k' : Value → St → Prop) : Prop := ∀ v s c, k v s c → k' v s
def LS2 (k : PanS) (k' : Chain → St → Prop) : Prop := ∀ v s c, k v s c → k' v s
def LS0 (k : St → Scr → Prop) (k' : St → Prop) : Prop := ∀ s c, k s c → k' s
def LS3 (k : AEnv → List Pd → St → Scr → Prop) (k' : AEnv → List Pd → St → Prop) : Prop := ∀ R p s c, k R p s c → k' R p s
def LSS (S : FSpecS) (S' : FSpec) : Prop := ∀ f args h c Q (Q' : Res → AHeap → Prop), (∀ r h c, Q r h c → Q' r h) → S f args h c Q → S' f args h Q'
def LSD (S : DSpecS) (S' : DSpec) : Prop := ∀ f args h u c Q (Q' : Res → UMode → AHeap → Prop), (∀ r u h c, Q r u h c → Q' r u h) → S f args h u c Q → S' f args h u Q'
def Mono (S : FSpec) : Prop := ∀ f args h (Q Q' : Res → AHeap → Prop), (∀ r h, Q r h → Q' r h) → S f args h Q → S f args h Q'
omit [UF] in
theorem bnd_mono {α : Type} {o : Option α} {k k' : α → Prop} (h : bnd o k) (hk : ∀ a, k a → k' a) : bnd o k' := by
  cases o with
  | none => exact h
  | some a => exact hk a h
omit [UF] in
theorem stepS_sound {op : Op} {vs : List (Option Value)} {h0 : AHeap} {o : Option Value} {c : Scr} {next : Value → Scr → Prop} {k : Value → Prop} (hk : ∀ v c, next v c → k v) (h : stepS op vs h0 o c next) : bnd o k := by
  unfold stepS at h
  split at h
  · exact bnd_mono h fun v hv => hk v _ (by simpa only [gR_eq] using hv)
  · exact bnd_mono h fun v hv => hk v _ (by simpa only [gR_eq] using hv)
  · split at h
    · split at h
      · rename_i b
        cases b with
        | true => exact hk _ _ (h.1 rfl)
        | false => exact hk _ _ (h.2 rfl)
      · exact h.elim
    · obtain ⟨⟨b, hb⟩, ht, hf⟩ := h
      rw [hb]
      cases b with
      | true => exact hk _ _ (ht hb)
      | false => exact hk _ _ (hf hb)
    · rw [h.1]; exact hk _ _ h.2
    · rw [h.1]; exact hk _ _ h.2
    · split at h
      · exact hk _ _ (h _ rfl)
      · exact h.elim
    · exact bnd_mono h fun v hv => hk v _ hv
    · rw [h.1]; exact hk _ _ h.2
    · obtain ⟨⟨a, ha⟩, hn⟩ := h
      rw [ha]; exact hk _ _ (hn a ha)
    · exact h.2.elim
    · exact h.elim
  · exact h.elim
omit [UF] in
theorem turnS_sound {o : Option Value} {c : Scr} {t f : Scr → Prop} {p : Bool → Prop} (ht : ∀ c, t c → p true) (hf : ∀ c, f c → p false) (h : turnS o c t f) : ∃ b, o = some (.bool b) ∧ p b := by
  unfold turnS at h
  split at h
  · split at h
    · rename_i b
      cases b with
      | true => exact ⟨_, rfl, ht _ h⟩
      | false => exact ⟨_, rfl, hf _ h⟩
    · exact h.elim
  · split at h
    · rename_i b
      cases b with
      | true => exact ⟨_, rfl, ht _ h⟩
      | false => exact ⟨_, rfl, hf _ h⟩
    · exact h.elim
  · split at h
    · split at h
      · rename_i b
        cases b with
        | true => exact ⟨_, rfl, ht _ (h.1 rfl)⟩
        | false => exact ⟨_, rfl, hf _ (h.2 rfl)⟩
      · exact h.elim
    · exact ⟨_, h.1, ht _ h.2⟩
    · exact ⟨_, h.1, hf _ h.2⟩
    · exact h.2.elim
    · exact h.elim
  · exact h.elim
theorem effS1_sound {op : Op} {vs : List (Option Value)} {h0 : AHeap} {o : Option (Value × AHeap)} {c : Scr} {next : Value → AHeap → Scr → Prop} {k : Value × AHeap → Prop} (hk : ∀ v h c, next v h c → k (v, h)) (h : effS1 op vs h0 o c next) : bnd o k := by
  unfold effS1 at h
  split at h
  · exact bnd_mono h fun p hv => hk _ _ _ (by simpa only [gE_eq, gHeap_eq] using hv)
  · exact bnd_mono h fun p hv => hk _ _ _ (by simpa only [gE_eq, gHeap_eq] using hv)
  · split at h
    · exact bnd_mono h fun p hv => hk _ _ _ (by simpa only [gHeap_eq] using hv)
    · rw [h.1]; exact hk _ _ _ h.2
    · obtain ⟨⟨a, ha⟩, hn⟩ := h
      rw [ha]; exact hk _ _ _ (hn a ha)
    · exact h.2.elim
    · exact h.elim
  · exact h.elim
theorem effS_sound {op : Op} {vs : List (Option Value)} {h0 : AHeap} {o : Option (Value × AHeap)} {c : Scr} {next : Value → AHeap → Scr → Prop} {k : Value × AHeap → Prop} (hk : ∀ v h c, next v h c → k (v, h)) (h : effS op vs h0 o c next) : bnd o k := by
  unfold effS at h
  split at h
  · rename_i b _ _
    cases b with
    | true => exact effS1_sound hk (h.1 rfl)
    | false => exact effS1_sound hk (h.2 rfl)
  · exact effS1_sound hk h
omit [UF] in
theorem allS_sound {k k' : Value → AHeap → Prop} (hk : ∀ v h, k v h → k' v h) : ∀ {l : List (Value × AHeap)}, allS l k → allW l k'
  | [], _ => trivial
  | [(_, _)], e => ⟨hk _ _ e, trivial⟩
  | (_, _) :: (_, _) :: _, e => ⟨hk _ _ e.1, allS_sound hk e.2⟩
omit [UF] in
theorem afterS_sound {s : St} {next : NextS} {next' : Value → St → Prop} {pan : PanS} {pan' : Chain → St → Prop} (hn : LS1 next next') (hp : LS2 pan pan') : ∀ r h c, afterS s next pan r h c → afterCall s next' pan' r h
  | .ret _, _, _, e => hn _ _ _ e
  | .pan _, _, _, e => hp _ _ _ e
omit [UF] in
theorem recoverS_sound {s : St} {c : Scr} {next : NextS} {next' : Value → St → Prop} (hn : LS1 next next') (h : recoverS s c next) : recoverW s next' := by
  obtain ⟨e, ds, hh, u⟩ := s
  unfold recoverS at h
  unfold recoverW
  split at h
  · rename_i heq; injection heq with h1 h2 h3 h4; subst h1 h2 h3 h4; exact hn _ _ _ h
  · exact h.elim
  · rename_i h1 h2
    simp only
    split
    · rename_i v older; exact absurd rfl (h1 _ _ _ _ _)
    · exact absurd rfl (h2 _ _ _)
    · exact hn _ _ _ h
theorem dataS_sound {ρ : Operand → Option Value} {op : Op} {s : St} {c : Scr} {next : NextS} {next' : Value → St → Prop} (hn : LS1 next next') (h : dataS P ρ op s c next) : dataW P ρ op s next' := by
  unfold dataS at h
  unfold dataW
  obtain ⟨e, ds, hh, u⟩ := s
  split at h
  · rename_i hc; rw [hc]; exact stepS_sound (fun v c hv => hn _ _ _ hv) h
  · rename_i hc; rw [hc]; exact stepS_sound (fun v c hv => hn _ _ _ hv) h
  · rename_i hc; rw [hc]
    have := effS_sound (k := fun p => next' p.1 ⟨e, ds, p.2, u⟩) (fun v h c hv => hn _ _ _ hv) h
    simp only
    cases ha : aAlloc P ρ hh.length op with
    | none => rw [ha] at this; exact this
    | some p => rw [ha] at this; exact this
  · rename_i hc; rw [hc]
    exact effS_sound (k := fun p => next' p.1 ⟨e, ds, p.2, u⟩) (fun v h c hv => hn _ _ _ hv) h
omit [UF] in
theorem callS_sound {S : FSpecS} {K : FSpec} (hS : LSS S K) (hK : Mono K) {p : Callee × List Value} {h : AHeap} {c : Scr} {Q : Res → AHeap → Scr → Prop} {Q' : Res → AHeap → Prop} (hQ : ∀ r h c, Q r h c → Q' r h) (e : callS S K p h c Q) : K p.1 p.2 h Q' := by
  obtain ⟨g, as⟩ := p
  unfold callS at e
  split at e
  · obtain ⟨e1, e2⟩ := e
    refine hK _ _ _ _ _ ?_ e1
    rintro r h' ⟨a, h1, rfl, rfl⟩
    exact hQ _ _ _ (e2 a h1)
  · rename_i b o1 o2 s1 s2
    obtain ⟨e1, e2, e3⟩ := e
    refine hK _ _ _ _ _ ?_ e1
    rintro r h' ⟨h1, h2⟩
    cases b with
    | true => obtain ⟨rfl, rfl⟩ := h1 rfl; exact hQ _ _ _ (e2 rfl)
    | false => obtain ⟨rfl, rfl⟩ := h2 rfl; exact hQ _ _ _ (e3 rfl)
  · cases g with
    | fn f => exact e.2.elim
    | yield l => exact e.2.elim
  · exact hS _ _ _ _ _ _ hQ e
  · exact hS _ _ _ _ _ _ hQ e
section
variable {S : FSpecS} {K : FSpec}
theorem opS_sound (hS : LSS S K) (hK : Mono K) {ρ : Operand → Option Value} {op : Op} {s : St} {c : Scr} {next : NextS} {next' : Value → St → Prop} {pan : PanS} {pan' : Chain → St → Prop} (hn : LS1 next next') (hp : LS2 pan pan')
    (h : opS P S K ρ op s c next pan) : opW P K ρ op s next' pan' := by
  unfold opS at h
  split at h
  · exact bnd_mono h fun p hb => callS_sound hS hK (afterS_sound hn hp) hb
  · exact recoverS_sound hn h
  · obtain ⟨e, ds, hh, u⟩ := s
    unfold opW
    split at h
    · exact h.elim
    · rename_i hno heq
      injection heq with h1 h2 h3 h4; subst h1 h2 h3 h4
      simp only
      refine bnd_mono h fun p hb => ?_
      obtain ⟨g, as⟩ := p
      cases g with
      | fn g => exact hn _ _ _ (by simpa only [gList_eq (gSp_eq 3)] using hb)
      | yield l => exact hb.elim
  · unfold opW
    simp only
    split at h
    · rename_i heq; rw [heq]; exact hp _ _ _ h
    · exact h.elim
  · unfold opW
    exact bnd_mono h fun outs hb => allS_sound (fun v h' e => hn _ _ c (by obtain ⟨e', ds, hh, u⟩ := s; simpa only [gSp_eq, gHeap_eq] using e)) hb
  · rename_i h1 h2 h3 h4 h5
    unfold opW
    split
    · exact absurd rfl (h1 _ _ _)
    · exact absurd rfl (h2 _ _)
    · exact absurd rfl (h3 _ _ _)
    · exact absurd rfl (h4 _)
    · exact absurd rfl (h5 _)
    · exact dataS_sound hn h
omit [UF] in
theorem guardS_sound {g : Option Value} {want : Bool} {run : Scr → NextS → Prop} {run' : (Value → St → Prop) → Prop} {s : St} {c : Scr} {next : NextS} {next' : Value → St → Prop} (hn : LS1 next next') (hr : ∀ c, run c next → run' next')
    (h : guardS g want run s c next) : guardK g want run' s next' := by
  unfold guardS at h
  split at h
  · exact hn _ _ _ h
  have := turnS_sound (p := fun b => cond b (cond want (run' next') (next' undefV s)) (cond want (next' undefV s) (run' next'))) (fun c hc => by
      cases want with
      | true => exact hr c hc
      | false => exact hn _ _ _ hc) (fun c hc => by
      cases want with
      | true => exact hn _ _ _ hc
      | false => exact hr c hc) h
  obtain ⟨b, rfl, hb⟩ := this
  unfold guardK
  simp only
  cases b <;> cases want <;> simpa using hb
omit [UF] in
theorem putS_sound {n : Nat} {dst : Option Nat} {v : Value} {s : St} {c : Scr} {k : St → Scr → Prop} {k' : St → Prop} (hk : LS0 k k') (h : putS n dst v s c k) : putW n dst v s k' := by
  unfold putS at h
  unfold putW
  split at h
  · rename_i d
    cases hb : Nat.blt d n with
    | false => rw [hb] at h; exact h.elim
    | true =>
      rw [hb] at h; obtain ⟨e, ds, hh, u⟩ := s
      simp only [hb, cond_true]
      exact hk _ _ h
  · exact hk _ _ h
theorem opsS_sound (hS : LSS S K) (hK : Mono K) {n : Nat} {gd : Nat → Option Nat} {k : St → Scr → Prop} {k' : St → Prop} {pan : PanS} {pan' : Chain → St → Prop} (hk : LS0 k k') (hp : LS2 pan pan') :
    ∀ (l : List Oper) (s : St) (c : Scr), opsS P gs n S K gd l s c k pan → opsW P gs n K gd l s k' pan'
  | [], s, c, h => hk s c h
  | o :: r, s, c, h => by
    have ih : LS0 (fun s c => opsS P gs n S K gd r s c k pan) (fun s => opsW P gs n K gd r s k' pan') := fun s c e => opsS_sound hS hK hk hp r s c e
    have hput : LS1 (fun v s' c => putS n o.dst v s' c fun s' c => opsS P gs n S K gd r s' c k pan) (fun v s' => putW n o.dst v s' fun s' => opsW P gs n K gd r s' k' pan') := fun v s' c e => putS_sound ih e
    simp only [opsS, operS] at h
    simp only [opsW, operW]
    split at h
    · rename_i hg; rw [hg]; exact opS_sound hS hK hput hp h
    · rename_i j want hg; rw [hg]; exact guardS_sound hput (fun c e => opS_sound hS hK hput hp e) h
omit [UF] in
theorem checks_mono {st : Nat} {h : AHeap} {p p' : Prop} (hp : p → p') : ∀ {l : List Pd}, checks l st h p → checks l st h p'
  | [], e => hp e
  | d :: r, e => by
    unfold checks at e ⊢
    cases hb : Nat.ble st d.hi with
    | true => rw [hb] at e; exact ⟨e.1, checks_mono hp e.2⟩
    | false => rw [hb] at e; exact checks_mono hp e
theorem floatS_sound {ρ : Operand → Option Value} {i hi st : Nat} {op : Op} {R : AEnv} {pend : List Pd} {s : St} {c : Scr} {k : AEnv → List Pd → St → Scr → Prop} {k' : AEnv → List Pd → St → Prop} (hk : LS3 k k')
    (h : floatS P ρ i hi st op R pend s c k) : floatK P ρ i hi st op R pend s k' := by
  unfold floatS at h
  unfold floatK
  obtain ⟨e, ds, hh, u⟩ := s
  split at h
  · rename_i hc; rw [hc]; exact stepS_sound (fun v c hv => hk _ _ _ _ hv) h
  · rename_i hc; rw [hc]; exact stepS_sound (fun v c hv => hk _ _ _ _ hv) h
  · rename_i hc; rw [hc]
    refine bnd_mono h fun v hv => ?_
    simp only [gV_eq, gObj_eq, gHeap_eq] at hv
    exact hk _ _ _ _ hv
  · exact h.elim
omit [UF] in
theorem guardFS_sound {g : Option Value} {want : Bool} {run : Scr → (AEnv → List Pd → St → Scr → Prop) → Prop} {run' : (AEnv → List Pd → St → Prop) → Prop} {i : Nat} {R : AEnv} {pend : List Pd} {s : St} {c : Scr}
    {k : AEnv → List Pd → St → Scr → Prop} {k' : AEnv → List Pd → St → Prop} (hk : LS3 k k') (hr : ∀ c, run c k → run' k') (h : guardFS g want run i R pend s c k) : guardF g want run' i R pend s k' := by
  unfold guardFS at h
  split at h
  · exact hk _ _ _ _ h
  have := turnS_sound (p := fun b => cond b (cond want (run' k') (k' ((i, undefV) :: R) pend s)) (cond want (k' ((i, undefV) :: R) pend s) (run' k'))) (fun c hc => by
      cases want with
      | true => exact hr c hc
      | false => exact hk _ _ _ _ hc) (fun c hc => by
      cases want with
      | true => exact hk _ _ _ _ hc
      | false => exact hr c hc) h
  obtain ⟨b, rfl, hb⟩ := this
  unfold guardF
  simp only
  cases b <;> cases want <;> simpa using hb
theorem floatsS_sound {L : List Oper} {ms ws : List Nat} {e0 : AEnv} {st : Nat} {k : AEnv → List Pd → St → Scr → Prop} {k' : AEnv → List Pd → St → Prop} (hk : LS3 k k') :
    ∀ (l : List Nat) (R : AEnv) (pend : List Pd) (s : St) (c : Scr), floatsS P gs L ms ws e0 st l R pend s c k → floatsW P gs L ms ws e0 st l R pend s k'
  | [], R, pend, s, c, h => hk _ _ _ _ h
  | i :: r, R, pend, s, c, h => by
    have ih : LS3 (fun R p s c => floatsS P gs L ms ws e0 st r R p s c k) (fun R p s => floatsW P gs L ms ws e0 st r R p s k') := fun R p s c h => floatsS_sound hk r R p s c h
    simp only [floatsS] at h
    simp only [floatsW]
    split at h
    · exact h.elim
    · rename_i o ho
      rw [ho]
      simp only
      split at h
      · rename_i hg; rw [hg]; exact floatS_sound ih h
      · rename_i hg; rw [hg]; exact guardFS_sound ih (fun c e => floatS_sound ih e) h
theorem effKS_sound (hS : LSS S K) (hK : Mono K) {L : List Oper} {ms : List Nat} {e0 : AEnv} {i : Nat} {R : AEnv} {s : St} {c : Scr} {next : NextS} {next' : Value → St → Prop} {pan : PanS} {pan' : Chain → St → Prop} (hn : LS1 next next') (hp : LS2 pan pan')
    (h : effKS P gs S K L ms e0 i R s c next pan) : effK P gs K L ms e0 i R s next' pan' := by
  unfold effKS at h
  unfold effK
  split at h
  · exact h.elim
  · rename_i o ho
    rw [ho]
    simp only
    split at h
    · rename_i hg; rw [hg]; exact opS_sound hS hK hn hp h
    · rename_i hg; rw [hg]; exact guardS_sound hn (fun c e => opS_sound hS hK hn hp e) h
theorem stagesS_sound (hS : LSS S K) (hK : Mono K) {L : List Oper} {ms ws : List Nat} {e0 : AEnv} {k : AEnv → St → Scr → Prop} {k' : AEnv → St → Prop} {pan : PanS} {pan' : Chain → St → Prop} (hk : ∀ R s c, k R s c → k' R s) (hp : LS2 pan pan') :
    ∀ (l : List (List Nat × Option Nat)) (st : Nat) (R : AEnv) (pend : List Pd) (s : St) (c : Scr), stagesS P gs S K L ms ws e0 l st R pend s c k pan → stagesW P gs K L ms ws e0 l st R pend s k' pan'
  | [], _, R, _, s, c, h => hk R s c h
  | (fl, none) :: _, st, R, pend, s, c, h => floatsS_sound (fun R _ s c e => hk R s c e) fl R pend s c h
  | (fl, some w) :: r, st, R, pend, s, c, h => by
    refine floatsS_sound (fun R1 p1 s1 c1 e1 => ?_) fl R pend s c h
    refine effKS_sound hS hK (fun v s2 c2 e2 => ?_) hp e1
    exact checks_mono (fun e3 => stagesS_sound hS hK hk hp r _ _ _ _ _ e3) e2
theorem drawS_sound (hS : LSS S K) (hK : Mono K) {L : List Oper} {s : St} {c : Scr} {k : St → Scr → Prop} {k' : St → Prop} {pan : PanS} {pan' : Chain → St → Prop} (hk : LS0 k k') (hp : LS2 pan pan') (h : drawS P gs S K L s c k pan) : drawW P gs K L s k' pan' := by
  obtain ⟨e, ds, hh, u⟩ := s
  exact stagesS_sound hS hK (fun R s' c e => hk _ _ e) (fun ch s' c e => hp _ _ _ e) _ _ _ _ _ _ h
def LSK (K : KontS) (K' : Kont) : Prop := ∀ x s c, K x s c → K' x s
omit [UF] in
theorem seq_LS {K : KontS} {K' : Kont} (hK : LSK K K') {n : St → Scr → Prop} {n' : St → Prop} (hn : LS0 n n') : LSK (K.seq n) (K'.seq n') := by
  intro x s c h
  cases x with
  | normal => exact hn s c h
  | _ => exact hK _ _ c h
omit [UF] in
theorem block_LS {K : KontS} {K' : Kont} (hK : LSK K K') {id : Nat} : LSK (K.block id) (K'.block id) := by
  intro x s c h
  cases x with
  | exit id' =>
    simp only [KontS.block] at h
    simp only [Kont.block]
    cases hb : Nat.beq id' id with
    | true => rw [hb] at h; rw [if_pos (Nat.eq_of_beq_eq_true hb)]; exact hK _ _ c h
    | false => rw [hb] at h; rw [if_neg (Nat.ne_of_beq_eq_false hb)]; exact hK _ _ c h
  | _ => exact hK _ _ c h
omit [UF] in
theorem loopS_sound {B : KontS → St → Scr → Prop} {B' : Kont → St → Prop} (hB : ∀ KB K s c, LSK KB K → B KB s c → B' K s) {K : KontS} {K' : Kont} (hK : LSK K K') {n0 : Nat} : ∀ (m : Nat) (s : St) (c : Scr), loopS m B K s c → loopW gs n0 B' K' s
  | 0, s, c, h => h.elim
  | m + 1, s, c, h => by
    intro X hX hG
    obtain ⟨e, ds, hh, u⟩ := s
    simp only [loopS, gList_eq (fun _ _ => rfl)] at h
    refine hG _ _ Gc.dedupe (hX _ (hB _ _ _ c (seq_LS hK fun s' c' e => ?_) h))
    exact loopS_sound hB hK m s' c' e X hX hG
omit [UF] in
theorem trimE_get : ∀ {ks : List Nat} {e : AEnv} {t : Nat} {v : Value}, (trimE ks e).get t = some v → e.get t = some v
  | [], _, _, _, h => by simp [trimE, AEnv.get] at h
  | k :: r, e, t, v, h => by
    unfold trimE at h
    split at h
    · rename_i u hu
      rw [AEnv.get_cons] at h
      split at h
      · rename_i hk; subst hk; rw [hu, h]
      · exact trimE_get h
    · exact trimE_get h
omit [UF] in
theorem Gc.trim {gs : List Nat} {n0 : Nat} {ks : List Nat} {s : St} : Gc gs n0 s (trimS ks s) := by
  obtain ⟨e, ds, h, u⟩ := s
  exact .inr ⟨rfl, rfl, rfl, fun t v ht => trimE_get ht⟩
omit [UF] in
theorem someN_mem {A : Type} {gs : List Nat} {n0 : Nat} {ok : A → Prop} {s : St} : ∀ {qs : List (A → Prop × St)}, someN gs n0 ok s qs → ∃ q ∈ qs, ∃ a : A, (q a).1 ∧ ok a ∧ Gc gs n0 s (q a).2
  | [], h => h.elim
  | [q], ⟨a, h⟩ => ⟨q, by simp, a, h⟩
  | q :: q' :: r, h => by
    rcases h with ⟨a, h⟩ | h
    · exact ⟨q, by simp, a, h⟩
    · obtain ⟨q'', hq, h'⟩ := someN_mem (qs := q' :: r) h
      exact ⟨q'', by simp [List.mem_cons.1 hq], h'⟩
omit [UF] in
theorem allN_mem {A : Type} {f : (A → Prop × St) → (A → Scr) → Prop} {ss : Nat → A → Scr} : ∀ {k : Nat} {qs : List (A → Prop × St)}, allN f ss k qs → ∀ q ∈ qs, ∃ j, f q (ss j)
  | _, [], _, q, hq => by cases hq
  | k, [q0], h, q, hq => by rw [List.mem_singleton] at hq; subst hq; exact ⟨k, h⟩
  | k, q0 :: q1 :: r, h, q, hq => by
    rcases List.mem_cons.1 hq with rfl | hq
    · exact ⟨k, h.1⟩
    · exact allN_mem (qs := q1 :: r) h.2 q hq
omit [UF] in
theorem loopC_sound {lf n0 : Nat} {B : KontS → St → Scr → Prop} {B' : Kont → St → Prop} (hB : ∀ KB K s c, LSK KB K → B KB s c → B' K s) {K : KontS} {K' : Kont} (hK : LSK K K') (s : St) (c : Scr) (h : loopC gs lf n0 B K s c) : loopW gs n0 B' K' s := by
  unfold loopC at h
  split at h
  · rename_i A q m sc
    obtain ⟨⟨a0, h1, h2⟩, h3⟩ := h
    intro X hX hG
    have key : ∀ (k : Nat) (a : A), m a < k → (q a).1 → X (q a).2 := by
      intro k
      induction k with
      | zero => intro a ha _; omega
      | succ k ih =>
        intro a ha hq
        refine hX _ (hB _ _ _ (sc a) (seq_LS hK fun s' c' e => ?_) (h3 a hq))
        obtain ⟨a', e1, e2, e3⟩ := e
        exact hG _ _ e3 (ih a' (by omega) e1)
    exact hG _ _ h2 (key (m a0 + 1) a0 (by omega) h1)
  · rename_i A A' q m sc q' m' sc'
    obtain ⟨h0, h3, h4⟩ := h
    intro X hX hG
    have key : ∀ (k : Nat), (∀ a : A, m a < k → (q a).1 → X (q a).2) ∧ ∀ a : A', m' a < k → (q' a).1 → X (q' a).2 := by
      intro k
      induction k with
      | zero => exact ⟨fun a ha _ => by omega, fun a ha _ => by omega⟩
      | succ k ih =>
        refine ⟨fun a ha hq => ?_, fun a ha hq => ?_⟩
        · refine hX _ (hB _ _ _ (sc a) (seq_LS hK fun s' c' e => ?_) (h3 a hq))
          rcases e with ⟨a', e1, e2, e3⟩ | ⟨a', e1, e2, e3⟩
          · exact hG _ _ e3 (ih.1 a' (by omega) e1)
          · exact hG _ _ e3 (ih.2 a' (by omega) e1)
        · refine hX _ (hB _ _ _ (sc' a) (seq_LS hK fun s' c' e => ?_) (h4 a hq))
          rcases e with ⟨a', e1, e2, e3⟩ | ⟨a', e1, e2, e3⟩
          · exact hG _ _ e3 (ih.1 a' (by omega) e1)
          · exact hG _ _ e3 (ih.2 a' (by omega) e1)
    rcases h0 with ⟨a0, h1, h2⟩ | ⟨a0, h1, h2⟩
    · exact hG _ _ h2 ((key (m a0 + 1)).1 a0 (by omega) h1)
    · exact hG _ _ h2 ((key (m' a0 + 1)).2 a0 (by omega) h1)
  · rename_i ks A m qs ss
    obtain ⟨h0, h3⟩ := h
    intro X hX hG
    have key : ∀ (k : Nat) (q : A → Prop × St), q ∈ qs → ∀ a : A, m a < k → (q a).1 → X (q a).2 := by
      intro k
      induction k with
      | zero => intro q _ a ha _; omega
      | succ k ih =>
        intro q hq a ha h1
        obtain ⟨j, hj⟩ := allN_mem h3 q hq
        refine hX _ (hB _ _ _ (ss j a) (seq_LS hK fun s' c' e => ?_) (hj a h1))
        obtain ⟨q', hq', a', e1, e2, e3⟩ := someN_mem e
        exact hG _ _ Gc.trim (hG _ _ e3 (ih q' hq' a' (by omega) e1))
    obtain ⟨q, hq, a, h1, _, h2⟩ := someN_mem h0
    exact hG _ _ Gc.trim (hG _ _ h2 (key (m a + 1) q hq a (by omega) h1))
  · exact loopS_sound hB hK _ s _ h
  · exact h.2.elim
  · exact loopS_sound hB hK lf s _ h
  · exact loopS_sound hB hK lf s _ h
omit [UF] in
theorem jumpS_sound {k : KontS} {k' : Kont} (hK : LSK k k') {s : St} {c : Scr} {o : Option Code} (h : jumpS k s c o) : jumpW k' s o := by
  cases o with
  | none => exact hK _ _ _ h
  | some x => cases x <;> first | exact hK _ _ _ h | exact h.elim
theorem endLoopS_sound {l : Nat} {k : KontS} {k' : Kont} (hK : LSK k k') {s : St} {c : Scr} (h : endLoopS l k s c) : endLoopW l k' s := by
  obtain ⟨e, ds, hh, u⟩ := s
  unfold endLoopS at h
  unfold endLoopW
  simp only at h ⊢
  split at h
  · rename_i st pd dq heq
    rw [heq]
    simp only
    cases st with
    | busy => exact h.elim
    | _ => exact jumpS_sound hK (by simpa only [gHeap_eq] using h)
  · exact h.elim
theorem afterRangeS_sound {l : Nat} {k : KontS} {k' : Kont} (hK : LSK k k') {s : St} : ∀ r h c, afterRangeS l k s r h c → afterRange l k' s r h
  | .ret _, _, _, e => endLoopS_sound hK e
  | .pan _, _, _, e => hK _ _ _ e
theorem rangeS_sound (hS : LSS S K) {n : Nat} {v : Option Value} {ps : List Nat} {x y : Code} {k : KontS} {k' : Kont} (hK : LSK k k') {s : St} {c : Scr} (h : rangeS P n S v ps x y k s c) : rangeW P n K v ps x y k' s := by
  obtain ⟨e, ds, hh, u⟩ := s
  unfold rangeS at h
  unfold rangeW
  simp only at h ⊢
  split at h
  · exact h.elim
  · rename_i hu
    split
    · exact absurd rfl hu
    · split at h
      · rename_i g first cap
        cases hb : hasBody P g with
        | false => rw [hb] at h; exact h.elim
        | true =>
          rw [hb, cond_true] at h
          simp only [gNat_eq, gHeap_eq] at h
          exact ⟨hb, hS _ _ _ _ _ _ (afterRangeS_sound hK) h⟩
      · exact h.elim
theorem wpS_sound (hS : LSS S K) (hM : Mono K) {n lf n0 : Nat} : ∀ (b : Code) (k : KontS) (k' : Kont) (s : St) (c : Scr), LSK k k' → wpS P gs n lf S K n0 b k s c → wpc P gs n K n0 b .leaf k' s := by
  intro b
  induction b with
  | skip => intro k k' s c hk h; exact hk _ _ _ h
  | label l => intro k k' s c hk h; exact hk _ _ _ h
  | seq x y ihx ihy => intro k k' s c hk h; exact ihx _ _ s c (seq_LS hk fun s' c' e => ihy _ _ s' c' hk e) h
  | cond q x y ihx ihy =>
    intro k k' s c hk h
    simp only [wpS] at h
    simp only [wpc]
    obtain ⟨b, hb, hp⟩ := turnS_sound (p := fun b => cond b (wpc P gs n K n0 x .leaf k' s) (wpc P gs n K n0 y .leaf k' s)) (fun c hc => ihx _ _ s c hk hc) (fun c hc => ihy _ _ s c hk hc) h
    unfold condW
    rw [hb]
    cases b with
    | true => exact hp
    | false => exact hp
  | block id x ih => intro k k' s c hk h; exact ih _ _ s c (block_LS hk) h
  | scope x ih => intro k k' s c hk h; exact ih _ _ s c hk h
  | loop x ih => intro k k' s c hk h; exact loopC_sound (fun KB K s c hk e => ih KB K s c hk e) hk s c h
  | exit id => intro k k' s c hk h; exact hk _ _ _ h
  | ret => intro k k' s c hk h; exact hk _ _ _ h
  | region id ops draw =>
    intro k k' s c hk h
    cases draw with
    | true => exact drawS_sound hS hM (fun s c e => hk _ _ c e) (fun ch s c e => hk _ _ c e) h
    | false => exact opsS_sound hS hM (fun s c e => hk _ _ c e) (fun ch s c e => hk _ _ c e) _ s c h
  | rangeFunc f ps x y => intro k k' s c hk h; exact rangeS_sound hS hk h
  | goto l => intro k k' s c hk h; exact h.elim
  | refuse y => intro k k' s c hk h; exact h.elim
end
theorem setS_sound {o : Option AHeap} {k k' : AHeap → Prop} (hk : ∀ h, k h → k' h) (h : setS o k) : bnd o k' := by
  cases o with
  | none => exact h
  | some x => exact hk _ (by simpa only [setS, gHeap_eq] using h)
theorem roundKS_sound {l : Nat} {Q : Res → AHeap → Scr → Prop} {Q' : Res → AHeap → Prop} (hQ : ∀ r h c, Q r h c → Q' r h) : LSK (roundKS l Q) (roundK l Q') := by
  intro x s c h
  cases x with
  | normal => exact setS_sound (fun h e => hQ _ _ _ e) h
  | ret => exact setS_sound (fun h e => hQ _ _ _ e) h
  | exit id => exact setS_sound (fun h e => hQ _ _ _ e) h
  | panic ch =>
    obtain ⟨e, ds, hh, u⟩ := s
    cases ds with
    | nil => exact hQ _ _ _ h
    | cons _ _ => exact h.elim
theorem assignKS_sound {l : Nat} {k : St → Scr → Prop} {k' : St → Prop} (hk : LS0 k k') {Q : Res → AHeap → Scr → Prop} {Q' : Res → AHeap → Prop} (hQ : ∀ r h c, Q r h c → Q' r h) : LSK (assignKS l k Q) (assignK l k' Q') := by
  intro x s c h
  cases x with
  | normal => obtain ⟨e, ds, hh, u⟩ := s; exact setS_sound (fun h e => hk _ _ e) h
  | ret => exact h.elim
  | exit id => exact h.elim
  | panic ch =>
    obtain ⟨e, ds, hh, u⟩ := s
    cases ds with
    | nil => exact hQ _ _ _ h
    | cons _ _ => exact h.elim
theorem yieldS_sound {S : FSpecS} {K : FSpec} (hS : LSS S K) (hM : Mono K) {lf : Nat} {l : Nat} {args : List Value} {h : AHeap} {c : Scr} {Q : Res → AHeap → Scr → Prop} {Q' : Res → AHeap → Prop} (hQ : ∀ r h c, Q r h c → Q' r h)
    (e : yieldS P gs lf S K l args h c Q) : yieldW P gs K l args h Q' := by
  unfold yieldS at e
  unfold yieldW
  split at e
  · rename_i e0 n m ps x y st pd dq heq
    rw [heq]
    simp only
    generalize hc : (Nat.beq args.length ps.length && (Nat.beq m P.funcs.size && (ps.all (Nat.blt · n) && (okCode P n x && okCode P n y)))) = b at e ⊢
    cases b with
    | false => exact e.elim
    | true => exact ⟨rfl, wpS_sound hS hM x _ _ _ _ (assignKS_sound (fun s c e => wpS_sound hS hM y _ _ _ _ (roundKS_sound hQ) e) hQ) e⟩
  · exact e.elim
theorem leaveS_sound {D : DSpecS} {D' : DSpec} (hD : LSD D D') {rs : List ResultVar} {e : AEnv} {Q : Res → AHeap → Scr → Prop} {Q' : Res → AHeap → Prop} (hQ : ∀ r h c, Q r h c → Q' r h) :
    ∀ (ds : List ADef) (u : UMode) (h : AHeap) (c : Scr), leaveS P D rs e ds u h c Q → leaveW P D' rs e ds u h Q'
  | [], u, h, c, x => by
    cases u with
    | norm => exact x.elim
    | round => exact x.elim
    | ret => exact bnd_mono x fun l hl => hQ _ _ c (by simpa only [gList_eq (gSp_eq 3)] using hl)
    | pan ch => exact hQ _ _ _ x
  | .mark q :: ds, u, h, c, x => by
    simp only [leaveS] at x
    simp only [leaveW]
    split at x
    · rename_i heq
      rw [heq]
      exact leaveS_sound hD hQ ds _ _ c (by simpa only [gHeap_eq] using x)
    · exact x.elim
  | .call f as :: ds, u, h, c, x => by
    simp only [leaveS] at x
    simp only [leaveW]
    refine hD f as h u _ _ _ (fun r u' h' c' e => ?_) x
    cases r with
    | ret v => exact leaveS_sound hD hQ ds _ _ _ e
    | pan ch => exact leaveS_sound hD hQ ds _ _ _ e
theorem fnKontS_sound {D : DSpecS} {D' : DSpec} (hD : LSD D D') {rs : List ResultVar} {Q : Res → UMode → AHeap → Scr → Prop} {Q' : Res → UMode → AHeap → Prop} (hQ : ∀ r u h c, Q r u h c → Q' r u h) : LSK (fnKontS P D rs Q) (fnKont P D' rs Q') := by
  intro x s c h
  obtain ⟨e, ds, hh, u⟩ := s
  cases x with
  | normal => exact leaveS_sound hD (fun r h c e => hQ _ _ _ c e) ds _ _ _ h
  | ret => exact leaveS_sound hD (fun r h c e => hQ _ _ _ c e) ds _ _ _ h
  | panic ch => exact leaveS_sound hD (fun r h c e => hQ _ _ _ c e) ds _ _ _ h
  | exit id => exact h.elim
omit [UF] in
theorem SpecC_mono : Mono (SpecC P gs) := by
  intro f args h Q Q' hq hs
  cases f with
  | fn f =>
    rcases hs with hs | hs
    · exact .inl (Spec.mono hs hq)
    · refine .inr ⟨hs.1, fun F w0 j w args' S hA => ?_⟩
      obtain ⟨v, h', j', v', w', k, r⟩ := hs.2 F w0 j w args' S hA
      exact ⟨v, h', j', v', w', hq _ _ k, r⟩
  | yield l =>
    intro G F w0 j w args' c cs L S hA hg hj hr hp
    exact hs G F w0 j w args' c cs L S hA hg hj (fun v h' j' w' v' q => hr v h' j' w' v' (hq _ _ q)) (fun ch h' j' w' ch' q => hp ch h' j' w' ch' (hq _ _ q))
omit [UF] in
theorem known_LSS {kn : List Nat} {R : FSpecS} (hR : LSS R (SpecC P gs)) : LSS (fun f args h c Q => knownS kn f (R f args h c Q)) (SpecC P gs) := by
  intro f args h c Q Q' hQ e
  cases f with
  | fn f =>
    simp only [knownS] at e
    cases hb : kn.contains f with
    | true => rw [hb] at e; exact e.elim
    | false => rw [hb] at e; exact hR _ _ _ _ _ _ hQ e
  | yield l => exact hR _ _ _ _ _ _ hQ e
theorem forget_LSS {fg : Bool} {R : FSpecS} (hR : LSS R (SpecC P gs)) : LSS (fun f args h c Q => R f args h c fun r h' c => forgetS fg h.length r h' c (Q r)) (SpecC P gs) := by
  intro f args h c Q Q' hQ e
  cases fg with
  | false => exact hR f args h c _ _ (fun r h' c e => hQ _ _ c e) e
  | true =>
  refine SpecC.forget (hR f args h c _ _ (fun r h' c e => ?_) e)
  simp only [forgetS, cond_true] at e
  cases hb : mayForget h.length r (h'.take h.length) with
  | true => rw [hb] at e; exact hQ _ _ c (by simpa only [cond_true, gHeap_eq] using e)
  | false => rw [hb] at e; exact hQ _ _ c e
theorem ext_LSS {R : FSpecS} (hR : LSS R (SpecC P gs)) : LSS (fun f args h c Q => extOrS P f args h c Q (R f args h c Q)) (SpecC P gs) := by
  intro f args h c Q Q' hQ e
  cases f with
  | yield l => exact hR _ _ _ _ _ _ hQ e
  | fn f =>
    simp only [extOrS] at e
    split at e
    · rename_i fn hx
      split at e
      · rename_i v h' ha
        simp only [gHeap_eq] at e
        exact .inr (specX_of hx ha (hQ _ _ _ e))
      · exact e.elim
    · exact hR _ _ _ _ _ _ hQ e
theorem runX_sound (hm : P.follows .mixedOrders = true) {fg : Bool} {kn : List Nat} {lf : Nat} : ∀ (m : Nat),
    (LSS (fun f args h c Q => runX P gs fg kn lf (SpecC P gs) m f args h .norm c fun r _ h c => Q r h c) (SpecC0 P gs)) ∧ LSD (fun f => runX P gs fg kn lf (SpecC P gs) m (.fn f)) (SpecD P gs)
  | 0 => ⟨fun f args h c Q Q' _ e => e.elim, fun f args h u c Q Q' _ e => e.elim⟩
  | m + 1 => by
    obtain ⟨ihS0, ihD⟩ := runX_sound hm m
    have ihS : LSS (fun f args h c Q => runX P gs fg kn lf (SpecC P gs) m f args h .norm c fun r _ h c => Q r h c) (SpecC P gs) := fun f args h c Q Q' hQ e => (ihS0 f args h c Q Q' hQ e).toC
    have open1 : ∀ {f : FuncId} {args : List Value} {h : AHeap} {u : UMode} {c : Scr} {Q : Res → UMode → AHeap → Scr → Prop}, runX P gs fg kn lf (SpecC P gs) (m + 1) (.fn f) args h u c Q →
        ∃ fn b, P.funcs[f]? = some fn ∧ fn.body = some b ∧ (fn.name == "runtime.NumGoroutine") = false ∧ okCode P fn.ntmps b = true ∧ args.length ≤ fn.ntmps ∧
          ∀ Q' : Res → UMode → AHeap → Prop, (∀ r u h c, Q r u h c → Q' r u h) → fnW P gs fn b .leaf args h u Q' := by
      intro f args h u c Q e
      simp only [runX] at e
      cases hb : okFn P f with
      | false => rw [hb] at e; exact e.elim
      | true =>
        rw [hb, cond_true] at e
        obtain ⟨fn, b, h1, h2, h3, h4⟩ := okFn_spec hb
        rw [h1] at e
        simp only [h2] at e
        cases hl : Nat.ble args.length fn.ntmps with
        | false => rw [hl] at e; exact e.elim
        | true =>
          rw [hl, cond_true] at e
          refine ⟨fn, b, h1, h2, h3, h4, Nat.ble_eq.mp hl, fun Q' hQ => ?_⟩
          exact wpS_sound (ext_LSS (known_LSS (forget_LSS ihS))) SpecC_mono b _ _ _ _ (fnKontS_sound ihD hQ) e
    constructor
    · intro f args h c Q Q' hQ e
      cases f with
      | fn f =>
        obtain ⟨fn, b, h1, h2, h3, h4, h5, h6⟩ := open1 e
        exact spec_of_body hm .leaf h1 h2 h3 h4 h5 (h6 _ fun r u h c e => hQ r h c e)
      | yield l =>
        simp only [runX] at e
        exact specY_of hm (yieldS_sound (ext_LSS (known_LSS (forget_LSS ihS))) SpecC_mono hQ e)
    · intro f args h u c Q Q' hQ e
      obtain ⟨fn, b, h1, h2, h3, h4, h5, h6⟩ := open1 e
      exact specD_of_body hm .leaf h1 h2 h3 h4 h5 (h6 _ hQ)
theorem spec_of_script (hm : P.follows .mixedOrders = true) {fg : Bool} {kn : List Nat} {lf m : Nat} {f : FuncId} {args : List Value} {h : AHeap} {c : Scr} {Q : Res → AHeap → Prop}
    (e : runS P gs fg kn lf (SpecC P gs) m f args h .norm c (fun r _ h _ => Q r h)) : Spec P gs f args h Q :=
  (runX_sound (gs := gs) (fg := fg) (kn := kn) (lf := lf) hm m).1 (.fn f) args h c (fun r h _ => Q r h) Q (fun _ _ _ e => e) e
end Go.Fm
