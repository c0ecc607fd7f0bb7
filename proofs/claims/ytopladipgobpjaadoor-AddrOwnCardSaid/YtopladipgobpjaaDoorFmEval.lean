/-
  FmEval: a program run by the kernel: the same preconditions as tests, with bounds on loops and calls. Definitions.
-/
import Derived.Test.YtopladipgobpjaaDoorFmFun
namespace Go.Fm

/-! ## equal values -/

def eqVs (f : Value → Value → Bool) : List Value → List Value → Bool
  | [], [] => true
  | a :: r, b :: r' => f a b && eqVs f r r'
  | _, _ => false

def eqInt : Int → Int → Bool
  | .ofNat a, .ofNat b => Nat.beq a b
  | .negSucc a, .negSucc b => Nat.beq a b
  | _, _ => false

def eqON : Option Nat → Option Nat → Bool
  | none, none => true
  | some a, some b => Nat.beq a b
  | _, _ => false

def eqA : Option Addr → Option Addr → Bool
  | none, none => true
  | some ⟨b, o, s⟩, some ⟨b', o', s'⟩ => Nat.beq b b' && (Nat.beq o o' && eqON s s')
  | _, _ => false

def eqBytes : List UInt8 → List UInt8 → Bool
  | [], [] => true
  | a :: r, b :: r' => Nat.beq a.toNat b.toNat && eqBytes r r'
  | _, _ => false

def eqFn : Fn → Fn → Bool
  | .func f, .func g => Nat.beq f g
  | _, _ => false

def eqV : Nat → Value → Value → Bool
  | 0, _, _ => false
  | n + 1, a, b =>
    match a, b with
    | .bool x, .bool y => x == y
    | .int k x, .int k' y => decide (k = k') && eqInt x y
    | .string s, .string t => eqBytes s.data.toList t.data.toList
    | .pointer x, .pointer y => eqA x y
    | .slice x l c, .slice y l' c' => eqA x y && (Nat.beq l l' && Nat.beq c c')
    | .map x, .map y => eqON x y
    | .nilFunc, .nilFunc => true
    | .nilIface, .nilIface => true
    | .iface t v, .iface t' v' => Nat.beq t t' && eqV n v v'
    | .agg x, .agg y => eqVs (eqV n) x.toList y.toList
    | .tuple x, .tuple y => eqVs (eqV n) x.toList y.toList
    | .func f x y, .func f' x' y' => eqFn f f' && (eqVs (eqV n) x.toList x'.toList && eqVs (eqV n) y.toList y'.toList)
    | _, _ => false

theorem eqVs_eq {f : Value → Value → Bool} (hf : ∀ a b, f a b = true → a = b) : ∀ {x y : List Value}, eqVs f x y = true → x = y
  | [], [], _ => rfl
  | a :: r, b :: r', h => by
    simp only [eqVs, Bool.and_eq_true] at h
    rw [hf a b h.1, eqVs_eq hf h.2]
  | [], _ :: _, h => by simp [eqVs] at h
  | _ :: _, [], h => by simp [eqVs] at h

theorem eqInt_eq {a b : Int} (h : eqInt a b = true) : a = b := by
  cases a <;> cases b <;> simp_all [eqInt]

theorem eqON_eq {a b : Option Nat} (h : eqON a b = true) : a = b := by
  cases a <;> cases b <;> simp_all [eqON]

theorem eqA_eq {a b : Option Addr} (h : eqA a b = true) : a = b := by
  cases a with
  | none => cases b with
    | none => rfl
    | some y => simp [eqA] at h
  | some x => cases b with
    | none => simp [eqA] at h
    | some y =>
      obtain ⟨b1, o1, s1⟩ := x; obtain ⟨b2, o2, s2⟩ := y
      simp only [eqA, Bool.and_eq_true, Nat.beq_eq] at h
      obtain ⟨h1, h2, h3⟩ := h
      rw [h1, h2, eqON_eq h3]

theorem eqBytes_eq : ∀ {a b : List UInt8}, eqBytes a b = true → a = b
  | [], [], _ => rfl
  | x :: r, y :: r', h => by
    simp only [eqBytes, Bool.and_eq_true, Nat.beq_eq] at h
    rw [UInt8.toNat_inj.1 h.1, eqBytes_eq h.2]
  | [], _ :: _, h => by simp [eqBytes] at h
  | _ :: _, [], h => by simp [eqBytes] at h

theorem eqFn_eq {a b : Fn} (h : eqFn a b = true) : a = b := by
  cases a <;> cases b <;> simp_all [eqFn]

theorem eqV_eq : ∀ {n : Nat} {a b : Value}, eqV n a b = true → a = b
  | 0, _, _, h => by simp [eqV] at h
  | n + 1, a, b, h => by
    have ih : ∀ a b, eqV n a b = true → a = b := fun a b => eqV_eq
    unfold eqV at h
    split at h
    · rw [eq_of_beq h]
    · simp only [Bool.and_eq_true, decide_eq_true_eq] at h; rw [h.1, eqInt_eq h.2]
    · rename_i s t
      have := eqBytes_eq h
      congr 1
      cases s; cases t
      congr 1
      exact Array.toList_inj.1 this
    · rw [eqA_eq h]
    · simp only [Bool.and_eq_true, Nat.beq_eq] at h; rw [eqA_eq h.1, h.2.1, h.2.2]
    · rw [eqON_eq h]
    · rfl
    · rfl
    · simp only [Bool.and_eq_true, Nat.beq_eq] at h; rw [h.1, ih _ _ h.2]
    · rw [Array.toList_inj.1 (eqVs_eq ih h)]
    · rw [Array.toList_inj.1 (eqVs_eq ih h)]
    · simp only [Bool.and_eq_true] at h
      rw [eqFn_eq h.1, Array.toList_inj.1 (eqVs_eq ih h.2.1), Array.toList_inj.1 (eqVs_eq ih h.2.2)]
    · simp at h

def eqOV : Option Value → Value → Bool
  | some a, b => eqV 8 a b
  | none, _ => false

def eqO : Option AObj → AObj → Bool
  | some (.cells c r), .cells c' r' => eqVs (eqV 8) c c' && (r == r')
  | some (.map [] n), .map [] n' => Nat.beq n n'
  | _, _ => false

theorem eqOV_eq {a : Option Value} {b : Value} (h : eqOV a b = true) : a = some b := by
  cases a with
  | none => simp [eqOV] at h
  | some a => rw [eqV_eq (n := 8) h]

theorem eqO_eq {a : Option AObj} {b : AObj} (h : eqO a b = true) : a = some b := by
  unfold eqO at h
  split at h
  · simp only [Bool.and_eq_true, beq_iff_eq] at h; rw [eqVs_eq (fun _ _ => eqV_eq) h.1, h.2]
  · rw [Nat.beq_eq.mp h]
  · simp at h

/-! ## forcing -/

def fNat (n : Nat) (k : Nat → Bool) : Bool :=
  match n with
  | 0 => k 0
  | m + 1 => k (m + 1)
def fInt (n : Int) (k : Int → Bool) : Bool :=
  match n with
  | .ofNat m => fNat m fun m => k (.ofNat m)
  | .negSucc m => fNat m fun m => k (.negSucc m)
def fBool (b : Bool) (k : Bool → Bool) : Bool := cond b (k true) (k false)
def fON (n : Option Nat) (k : Option Nat → Bool) : Bool :=
  match n with
  | none => k none
  | some m => fNat m fun m => k (some m)
def fA (a : Option Addr) (k : Option Addr → Bool) : Bool :=
  match a with
  | none => k none
  | some ⟨b, o, s⟩ => fNat b fun b => fNat o fun o => fON s fun s => k (some ⟨b, o, s⟩)

def fList {α : Type} (f : α → (α → Bool) → Bool) : List α → (List α → Bool) → Bool
  | [], k => k []
  | a :: r, k => f a fun a => fList f r fun r => k (a :: r)

def fV : Nat → Value → (Value → Bool) → Bool
  | 0, v, k => k v
  | n + 1, v, k =>
    match v with
    | .bool b => fBool b fun b => k (.bool b)
    | .int i n => fInt n fun n => k (.int i n)
    | .pointer a => fA a fun a => k (.pointer a)
    | .slice a l c => fA a fun a => fNat l fun l => fNat c fun c => k (.slice a l c)
    | .map r => fON r fun r => k (.map r)
    | .agg x => fList (fV n) x.toList fun l => k (.agg ⟨l⟩)
    | .tuple x => fList (fV n) x.toList fun l => k (.tuple ⟨l⟩)
    | .iface t v => fV n v fun v => k (.iface t v)
    | .string s => fList (fun (b : UInt8) k => fNat b.toNat fun m => k (UInt8.ofNat m)) s.data.toList fun l => k (.string ⟨⟨l⟩⟩)
    | v => k v

theorem fNat_eq (n : Nat) (k : Nat → Bool) : fNat n k = k n := by cases n <;> rfl
theorem fInt_eq (n : Int) (k : Int → Bool) : fInt n k = k n := by cases n <;> simp [fInt, fNat_eq]
theorem fBool_eq (n : Bool) (k : Bool → Bool) : fBool n k = k n := by cases n <;> rfl
theorem fON_eq (n : Option Nat) (k : Option Nat → Bool) : fON n k = k n := by cases n <;> simp [fON, fNat_eq]
theorem fA_eq (n : Option Addr) (k : Option Addr → Bool) : fA n k = k n := by
  cases n with
  | none => rfl
  | some a => obtain ⟨b, o, s⟩ := a; simp [fA, fNat_eq, fON_eq]
theorem fList_eq {α : Type} {f : α → (α → Bool) → Bool} (hf : ∀ a k, f a k = k a) : ∀ (l : List α) (k : List α → Bool), fList f l k = k l
  | [], k => rfl
  | a :: r, k => by simp [fList, hf, fList_eq hf r]
theorem fV_eq : ∀ (n : Nat) (v : Value) (k : Value → Bool), fV n v k = k v
  | 0, v, k => rfl
  | n + 1, v, k => by
    have ih := fV_eq n
    unfold fV
    split
    · rw [fBool_eq]
    · rw [fInt_eq]
    · rw [fA_eq]
    · simp only [fA_eq, fNat_eq]
    · rw [fON_eq]
    · rw [fList_eq ih]
    · rw [fList_eq ih]
    · rw [ih]
    · rw [fList_eq]
      intro a k
      rw [fNat_eq, UInt8.ofNat_toNat]
    · rfl

/-- the spine alone -/
def fSp : Nat → Value → (Value → Bool) → Bool
  | 0, v, k => k v
  | n + 1, v, k =>
    match v with
    | .agg x => fList (fSp n) x.toList fun l => k (.agg ⟨l⟩)
    | .tuple x => fList (fSp n) x.toList fun l => k (.tuple ⟨l⟩)
    | v => k v

theorem fSp_eq : ∀ (n : Nat) (v : Value) (k : Value → Bool), fSp n v k = k v
  | 0, _, _ => rfl
  | n + 1, v, k => by
    have ih := fSp_eq n
    unfold fSp
    split
    · rw [fList_eq ih]
    · rw [fList_eq ih]
    · rfl

/-- what has been worked out is forced; what has been moved is not -/
def fR (op : Op) (v : Value) (k : Value → Bool) : Bool :=
  match op with
  | .binOp _ _ _ _ _ | .unOp _ _ _ | .convert _ _ _ | .fieldAddr _ _ _ | .indexAddr _ _ _ | .slice _ _ _ _ _ | .call _ => fV 3 v k
  | _ => fSp 3 v k

theorem fR_eq (op : Op) (v : Value) (k : Value → Bool) : fR op v k = k v := by
  unfold fR
  split <;> first | exact fV_eq _ _ _ | exact fSp_eq _ _ _

/-- an object's spine -/
def fObj (o : AObj) (k : AObj → Bool) : Bool :=
  match o with
  | .cells c r => match r with
    | true => k (.cells c true)
    | false => fList (fSp 1) c fun c => k (.cells c false)
  | .tcells c t z => fList (fSp 1) c fun c => k (.tcells c t z)
  | o => k o
theorem fObj_eq (o : AObj) (k : AObj → Bool) : fObj o k = k o := by
  cases o with
  | cells c r => cases r <;> simp only [fObj, fList_eq (fSp_eq 1)]
  | tcells c t z => simp only [fObj, fList_eq (fSp_eq 1)]
  | _ => rfl

/-- the spine, and one object -/
def fAt : Nat → AHeap → (AHeap → Bool) → Bool
  | _, [], k => k []
  | 0, o :: r, k => fObj o fun o => fList (fun o k => k o) r fun r => k (o :: r)
  | b + 1, o :: r, k => fAt b r fun r => k (o :: r)

theorem fAt_eq : ∀ (b : Nat) (h : AHeap) (k : AHeap → Bool), fAt b h k = k h
  | 0, [], _ => rfl
  | _ + 1, [], _ => rfl
  | 0, o :: r, k => by simp only [fAt, fObj_eq, fList_eq (fun _ _ => rfl)]
  | b + 1, o :: r, k => by simp only [fAt, fAt_eq b]

def fHeap (h : AHeap) (k : AHeap → Bool) : Bool := fList fObj h k
theorem fHeap_eq (h : AHeap) (k : AHeap → Bool) : fHeap h k = k h := fList_eq fObj_eq h k

end Go.Fm
