/-
  FmDraw: a region that draws its order: the eager order, with checks that what floats stays the same behind each effect. Definitions, and the order's laws.
-/
import Derived.Test.YtopladipgobpjaaDoorFmOpSound
namespace Go.Fm

section
variable (P : Program) (gs : List Nat) (n : Nat) (S : FSpec)

def isEff (o : Oper) : Bool :=
  match cls P o.op with
  | .eff => true
  | _ => false

/-- which operations stand before each, as sets of bits -/
def maskOf (acc : List Nat) : List Edge → Nat
  | [] => 0
  | e :: r => if Region.binds .any e then (2 ^ e.on ||| acc.getD e.on 0) ||| maskOf acc r else maskOf acc r

def masks : List Oper → List Nat → List Nat
  | [], acc => acc
  | o :: r, acc => masks r (acc ++ [maskOf acc o.after.toList])

def bitAt (ms : List Nat) (i k : Nat) : Bool := (ms.getD i 0).testBit k

def effs (L : List Oper) : List Nat := (List.range L.length).filter fun i => (L[i]?).any (isEff P)

def loOf (ms ws : List Nat) (i : Nat) : Nat := (ws.filter fun w => bitAt ms i w).length
def hiOf (ms ws : List Nat) (i : Nat) : Nat := (ws.filter fun w => !bitAt ms w i).length

def floatsAt (L : List Oper) (ms ws : List Nat) (st : Nat) : List Nat :=
  (List.range L.length).filter fun i => !(L[i]?).any (isEff P) && Nat.beq (loOf ms ws i) st

def stagesOf (L : List Oper) (ms all : List Nat) : List Nat → Nat → List (List Nat × Option Nat)
  | [], st => [(floatsAt P L ms all st, none)]
  | w :: r, st => (floatsAt P L ms all st, some w) :: stagesOf L ms all r (st + 1)

def srcOf (ms : List Nat) (i t : Nat) : List Oper → Nat → Option Nat
  | [], _ => none
  | o :: r, k => if o.dst == some t && bitAt ms i k then some k else srcOf ms i t r (k + 1)

/-- the slots that an operation looks at -/
def opReads (o : Op) : List Nat := o.operands.toList.filterMap fun | .tmp t => some t | _ => none

def evF (L : List Oper) (ms : List Nat) (e0 R : AEnv) (i : Nat) (rs : List Nat) : Operand → Option Value
  | .tmp t => cond (rs.contains t) (match srcOf ms i t L 0 with
    | some k => R.get k
    | none => e0.get t) none
  | x => ev gs [] x

structure Pd where
  hi : Nat
  chk : AHeap → Prop

def checks : List Pd → Nat → AHeap → Prop → Prop
  | [], _, _, p => p
  | d :: r, st, h, p => cond (Nat.ble st d.hi) (d.chk h ∧ checks r st h p) (checks r st h p)

def addPd (st hi : Nat) (chk : AHeap → Prop) (pend : List Pd) : List Pd := cond (Nat.blt st hi) (⟨hi, chk⟩ :: pend) pend

def floatK (ρ : Operand → Option Value) (i hi st : Nat) (op : Op) (R : AEnv) (pend : List Pd) (s : St) (k : AEnv → List Pd → St → Prop) : Prop :=
  match cls P op with
  | .pure => bnd (aPure P ρ op) fun v => k ((i, v) :: R) pend s
  | .read => bnd (aRead P ρ s.h op) fun v => k ((i, v) :: R) (addPd st hi (fun h => aRead P ρ h op = some v) pend) s
  | .alloc => bnd (aAlloc P ρ s.h.length op) fun p => k ((i, p.2) :: R) (addPd st hi (fun h => h[s.h.length]? = some p.1) pend) { s with h := s.h ++ [p.1] }
  | .eff => False

def guardF (g : Option Value) (want : Bool) (run : (AEnv → List Pd → St → Prop) → Prop) (i : Nat) (R : AEnv) (pend : List Pd) (s : St) (k : AEnv → List Pd → St → Prop) : Prop :=
  match g with
  | some (.bool b) => if b = want then run k else k ((i, undefV) :: R) pend s
  | some (.tuple _) => k ((i, undefV) :: R) pend s
  | _ => False

variable (L : List Oper) (ms ws : List Nat) (e0 : AEnv)

def floatsW (st : Nat) : List Nat → AEnv → List Pd → St → (AEnv → List Pd → St → Prop) → Prop
  | [], R, pend, s, k => k R pend s
  | i :: r, R, pend, s, k =>
    match L[i]? with
    | none => False
    | some o =>
      match o.guard with
      | none => floatK P (evF gs L ms e0 R i (opReads o.op)) i (hiOf ms ws i) st o.op R pend s fun R' pend' s' => floatsW st r R' pend' s' k
      | some (j, want) => guardF (R.get j) want (fun k' => floatK P (evF gs L ms e0 R i (opReads o.op)) i (hiOf ms ws i) st o.op R pend s k') i R pend s fun R' pend' s' => floatsW st r R' pend' s' k

def effK (i : Nat) (R : AEnv) (s : St) (next : Value → St → Prop) (pan : Chain → St → Prop) : Prop :=
  match L[i]? with
  | none => False
  | some o =>
    match o.guard with
    | none => opW P S (evF gs L ms e0 R i (opReads o.op)) o.op s next pan
    | some (j, want) => guardK (R.get j) want (fun nx => opW P S (evF gs L ms e0 R i (opReads o.op)) o.op s nx pan) s next

def stagesW : List (List Nat × Option Nat) → Nat → AEnv → List Pd → St → (AEnv → St → Prop) → (Chain → St → Prop) → Prop
  | [], _, R, _, s, k, _ => k R s
  | (fl, none) :: _, st, R, pend, s, k, _ => floatsW P gs L ms ws e0 st fl R pend s fun R' _ s' => k R' s'
  | (fl, some w) :: r, st, R, pend, s, k, pan => floatsW P gs L ms ws e0 st fl R pend s fun R' pend' s' =>
      effK P gs S L ms e0 w R' s' (fun v s'' => checks pend' (st + 1) s''.h (stagesW r (st + 1) ((w, v) :: R') pend' s'' k pan)) pan

def finishE (R : AEnv) : List Oper → Nat → AEnv → AEnv
  | [], _, e => e
  | o :: r, i, e => finishE R r (i + 1) (match o.dst with
    | some d => match R.get i with
      | some v => (d, v) :: e
      | none => e
    | none => e)

def dstsOf (L : List Oper) : List Nat := L.filterMap (·.dst)
def dropE (ds : List Nat) (e : AEnv) : AEnv := e.filter fun p => !ds.contains p.1

end

def drawW (P : Program) (gs : List Nat) (S : FSpec) (L : List Oper) (s : St) (k : St → Prop) (pan : Chain → St → Prop) : Prop :=
  stagesW P gs S L (masks L []) (effs P L) s.e (stagesOf P L (masks L []) (effs P L) (effs P L) 0) 0 [] [] s
    (fun R s' => k { s' with e := finishE R L 0 s.e }) (fun ch s' => pan ch { s' with e := dropE (dstsOf L) s.e })

/-! ## what is asked of such a region, once -/

def readsOf (L : List Oper) (o : Oper) : List Nat :=
  opReads o.op ++
  (match o.guard with
   | some (g, _) => match L[g]? with
     | some og => og.dst.toList
     | none => []
   | none => [])

def nodupB : List Nat → Bool
  | [] => true
  | x :: r => !r.contains x && nodupB r

def backB : List Oper → Nat → Bool
  | [], _ => true
  | o :: r, i => o.after.toList.all (fun e => !Region.binds .any e || Nat.blt e.on i) && backB r (i + 1)

def chainB (ms : List Nat) : List Nat → Bool
  | [] => true
  | w :: r => r.all (fun w' => bitAt ms w' w) && chainB ms r

def readsB (L : List Oper) (ms : List Nat) : Bool :=
  (List.range L.length).all fun i => (L[i]?).all fun o => (readsOf L o).all fun t =>
    (List.range L.length).all fun k => Nat.beq i k || (L[k]?).all fun o' => !(o'.dst == some t) || bitAt ms i k || bitAt ms k i

def guardsB (L : List Oper) (ms : List Nat) : Bool :=
  (List.range L.length).all fun i => (L[i]?).all fun o =>
    match o.guard with
    | none => true
    | some (g, _) => bitAt ms i g && (L[g]?).any (fun og => og.dst.isSome)

def tameB (P : Program) (n : Nat) (L : List Oper) : Bool :=
  backB L 0 && nodupB (dstsOf L) && (dstsOf L).all (fun d => Nat.blt d n) && chainB (masks L []) (effs P L) && readsB L (masks L []) && guardsB L (masks L [])

/-! ## the orders that may be drawn -/

/-- a list of operations still to come, each behind what stands before it -/
inductive Sched (L : List Oper) : (Nat → Prop) → List Nat → Prop
  | nil {D : Nat → Prop} : (∀ i, i < L.length → D i) → Sched L D []
  | cons {D : Nat → Prop} {i : Nat} {l : List Nat} {o : Oper} : L[i]? = some o → ¬ D i → (∀ e ∈ o.after.toList, Region.binds .any e = true → D e.on) →
      Sched L (fun x => x = i ∨ D x) l → Sched L D (i :: l)

theorem Sched.congr {L : List Oper} {D D' : Nat → Prop} {l : List Nat} (h : Sched L D l) (he : ∀ x, D x ↔ D' x) : Sched L D' l := by
  have : D = D' := funext fun x => propext (he x)
  rw [← this]; exact h

theorem backB_spec : ∀ {L : List Oper} {i0 : Nat}, backB L i0 = true → ∀ (i : Nat) (o : Oper), L[i]? = some o → ∀ e ∈ o.after.toList, Region.binds .any e = true → e.on < i0 + i
  | [], _, _, i, o, h, _, _, _ => by simp at h
  | o :: r, i0, hb, i, o', h, e, he, hbd => by
    simp only [backB, Bool.and_eq_true, List.all_eq_true] at hb
    cases i with
    | zero =>
      simp at h; subst h
      have := hb.1 e he
      simp only [hbd, Bool.not_true, Bool.false_or] at this
      rw [Nat.blt_eq] at this
      omega
    | succ i =>
      have := backB_spec hb.2 i o' (by simpa using h) e he hbd
      omega

def unlisted (ops : Array Oper) (listed : Array Bool) : List Nat := (List.range ops.size).filter fun i => !listed.getD i true

theorem sched_go (ops : Array Oper) (hback : ∀ (i : Nat) (o : Oper), ops[i]? = some o → ∀ e ∈ o.after.toList, Region.binds .any e = true → e.on < i) :
    ∀ (fuel t : Nat) (listed : Array Bool), listed.size = ops.size → (unlisted ops listed).length = fuel →
      Sched ops.toList (fun x => listed.getD x false = true) (Region.linearise.go .any ops fuel t listed []) := by
  intro fuel
  induction fuel with
  | zero =>
    intro t listed hs hu
    simp only [Region.linearise.go, List.reverse_nil]
    refine .nil fun i hi => ?_
    have hi' : i < ops.size := by simpa using hi
    have hnil : unlisted ops listed = [] := List.eq_nil_of_length_eq_zero hu
    have : i ∉ unlisted ops listed := by rw [hnil]; simp
    simp only [unlisted, List.mem_filter, List.mem_range, not_and, Bool.not_eq_true, Bool.not_eq_false'] at this
    have := this hi'
    have hl : i < listed.size := by omega
    simp only [Array.getD_eq_getD_getElem?, Array.getElem?_eq_getElem hl, Option.getD_some] at this ⊢
    exact this
  | succ fuel ih =>
    intro t listed hs hu
    simp only [Region.linearise.go]
    generalize hrs : ((List.range ops.size).filter fun i => !listed.getD i true && ((ops[i]?).map (·.after.all fun e => !Region.binds .any e || listed.getD e.on false)).getD false) = rs
    have hne : rs ≠ [] := by
      -- the least that isn't listed is ready
      have hex : ∃ i, i ∈ unlisted ops listed := by
        cases hh : unlisted ops listed with
        | nil => rw [hh] at hu; simp at hu
        | cons x l => exact ⟨x, by simp⟩
      have hleast : ∃ i, i ∈ unlisted ops listed ∧ ∀ k, k < i → k ∉ unlisted ops listed := by
        obtain ⟨i, hi⟩ := hex
        induction i using Nat.strongRecOn with
        | _ i ihi =>
          by_cases hk : ∃ k, k < i ∧ k ∈ unlisted ops listed
          · obtain ⟨k, hk1, hk2⟩ := hk; exact ihi k hk1 hk2
          · exact ⟨i, hi, fun k hk1 hk2 => hk ⟨k, hk1, hk2⟩⟩
      obtain ⟨i, hi, hmin⟩ := hleast
      intro hnil
      have : i ∈ rs := by
        rw [← hrs]
        simp only [unlisted, List.mem_filter, List.mem_range] at hi
        have hio : ops[i]? = some ops[i] := Array.getElem?_eq_getElem hi.1
        simp only [List.mem_filter, List.mem_range, Bool.and_eq_true]
        refine ⟨hi.1, hi.2, ?_⟩
        rw [hio]
        simp only [Option.map_some, Option.getD_some]
        rw [← Array.all_toList, List.all_eq_true]
        intro e he
        by_cases hb : Region.binds .any e = true
        · have hlt := hback i _ hio e he hb
          have hk := hmin e.on hlt
          simp only [unlisted, List.mem_filter, List.mem_range, not_and, Bool.not_eq_true, Bool.not_eq_false'] at hk
          have hk2 := hk (by omega)
          have hl : e.on < listed.size := by omega
          simp only [Array.getD_eq_getD_getElem?, Array.getElem?_eq_getElem hl, Option.getD_some] at hk2 ⊢
          simp [hk2]
        · simp [hb]
      rw [hnil] at this; simp at this
    have hlt : t % rs.length < rs.length := Nat.mod_lt _ (List.length_pos_iff.2 hne)
    rw [List.getElem?_eq_getElem hlt]
    simp only
    rw [linearise_go_acc, List.reverse_singleton, List.singleton_append]
    obtain ⟨i, hi⟩ : ∃ i, i = rs[t % rs.length] := ⟨_, rfl⟩
    rw [← hi]
    have hmem : i ∈ rs := by rw [hi]; exact List.getElem_mem hlt
    rw [← hrs] at hmem
    simp only [List.mem_filter, List.mem_range, Bool.and_eq_true] at hmem
    obtain ⟨m1, m2, m3⟩ := hmem
    have hio : ops[i]? = some ops[i] := Array.getElem?_eq_getElem m1
    rw [hio] at m3
    simp only [Option.map_some, Option.getD_some] at m3
    rw [← Array.all_toList, List.all_eq_true] at m3
    have hil : i < listed.size := by omega
    have hli : listed[i] = false := by
      simp only [Array.getD_eq_getD_getElem?, Array.getElem?_eq_getElem hil, Option.getD_some] at m2
      simpa using m2
    refine .cons (o := ops[i]) (by simp [m1]) ?_ ?_ ?_
    · simp only [Array.getD_eq_getD_getElem?, Array.getElem?_eq_getElem hil, Option.getD_some, hli]; simp
    · intro e he hb
      have := m3 e he
      simpa [hb] using this
    · refine (ih (t / rs.length) (listed.setIfInBounds i true) (by simpa using hs) ?_).congr ?_
      · -- one fewer
        have hsplit : (unlisted ops listed).length = (unlisted ops (listed.setIfInBounds i true)).length + 1 := by
          unfold unlisted
          have hnd := List.nodup_range (n := ops.size)
          have hmem : i ∈ List.range ops.size := by simpa using m1
          have h1 : ∀ k, k ∈ List.range ops.size → k ≠ i → (!(listed.setIfInBounds i true).getD k true) = (!listed.getD k true) := by
            intro k _ hki
            simp only [Array.getD_eq_getD_getElem?, Array.getElem?_setIfInBounds, Ne.symm hki, if_false]
          have h2 : (!(listed.setIfInBounds i true).getD i true) = false := by
            simp [Array.getD_eq_getD_getElem?, hil]
          have h3 : (!listed.getD i true) = true := m2
          generalize List.range ops.size = l at hnd hmem h1
          induction l with
          | nil => simp at hmem
          | cons x l ihl =>
            have hnd' := List.nodup_cons.1 hnd
            by_cases hx : x = i
            · subst hx
              rw [List.filter_cons, if_pos h3, List.filter_cons, if_neg (by rw [h2]; simp)]
              simp only [List.length_cons]
              congr 2
              apply List.filter_congr
              intro k hk
              exact (h1 k (List.mem_cons_of_mem _ hk) (fun e => hnd'.1 (e ▸ hk))).symm
            · have hmem' : i ∈ l := by
                rcases List.mem_cons.1 hmem with e | e
                · exact absurd e.symm hx
                · exact e
              have := ihl hnd'.2 hmem' (fun k hk hki => h1 k (List.mem_cons_of_mem _ hk) hki)
              have hx' := h1 x (by simp) hx
              rw [List.filter_cons, List.filter_cons, hx']
              split
              · simp only [List.length_cons, this]
              · exact this
        omega
      · intro x
        simp only [Array.getD_eq_getD_getElem?, Array.getElem?_setIfInBounds]
        by_cases hx : x = i
        · subst hx; simp [hil]
        · simp [hx, Ne.symm hx]

theorem sched_drawn {ops : Array Oper} (hb : backB ops.toList 0 = true) (t : Nat) : Sched ops.toList (fun _ => False) (Region.schedule true ops t) := by
  have hback : ∀ (i : Nat) (o : Oper), ops[i]? = some o → ∀ e ∈ o.after.toList, Region.binds .any e = true → e.on < i := by
    intro i o ho e he hbd
    have := backB_spec hb i o (by simpa using ho) e he hbd
    omega
  have := sched_go ops hback ops.size t (Array.replicate ops.size false) (by simp) (by
    unfold unlisted
    rw [List.filter_eq_self.2]
    · simp
    · intro i hi
      have : i < ops.size := by simpa using hi
      simp [Array.getD_eq_getD_getElem?, this])
  simp only [Region.schedule, Bool.true_or, if_true, Region.linearise]
  refine this.congr fun x => ?_
  simp only [Array.getD_eq_getD_getElem?]
  by_cases hx : x < ops.size <;> simp [hx]

/-! ## masks tell of the order -/

theorem maskOf_spec {acc : List Nat} {k : Nat} : ∀ {es : List Edge}, (maskOf acc es).testBit k = true →
    ∃ e ∈ es, Region.binds .any e = true ∧ (e.on = k ∨ (acc.getD e.on 0).testBit k = true)
  | [], h => by simp [maskOf] at h
  | e :: r, h => by
    unfold maskOf at h
    split at h
    · rename_i hb
      simp only [Nat.testBit_or, Bool.or_eq_true] at h
      rcases h with (h | h) | h
      · refine ⟨e, by simp, hb, .inl ?_⟩
        by_cases hk : e.on = k
        · exact hk
        · rw [Nat.testBit_two_pow_of_ne hk] at h; simp at h
      · exact ⟨e, by simp, hb, .inr h⟩
      · obtain ⟨e', h1, h2, h3⟩ := maskOf_spec h
        exact ⟨e', List.mem_cons_of_mem _ h1, h2, h3⟩
    · obtain ⟨e', h1, h2, h3⟩ := maskOf_spec h
      exact ⟨e', List.mem_cons_of_mem _ h1, h2, h3⟩

theorem masks_app : ∀ (L : List Oper) (acc : List Nat), ∃ t, masks L acc = acc ++ t ∧ t.length = L.length
  | [], acc => ⟨[], by simp [masks], rfl⟩
  | o :: r, acc => by
    obtain ⟨t, h1, h2⟩ := masks_app r (acc ++ [maskOf acc o.after.toList])
    exact ⟨maskOf acc o.after.toList :: t, by simp [masks, h1], by simp [h2]⟩

/-- a mask's bit is an edge away, or further -/
theorem masks_spec : ∀ (L : List Oper) (acc : List Nat) (i : Nat) (o : Oper) (k : Nat), L[i]? = some o →
    (∀ e ∈ o.after.toList, Region.binds .any e = true → e.on < acc.length + i) → ((masks L acc).getD (acc.length + i) 0).testBit k = true →
    ∃ e ∈ o.after.toList, Region.binds .any e = true ∧ (e.on = k ∨ ((masks L acc).getD e.on 0).testBit k = true)
  | [], _, i, o, k, h, _, _ => by simp at h
  | o :: r, acc, i, o', k, h, hb, ht => by
    cases i with
    | zero =>
      simp at h; subst h
      obtain ⟨t, h1, h2⟩ := masks_app r (acc ++ [maskOf acc o.after.toList])
      have hm : (masks (o :: r) acc).getD (acc.length + 0) 0 = maskOf acc o.after.toList := by
        simp only [masks, h1, List.append_assoc, Nat.add_zero]
        rw [List.getD_eq_getElem?_getD, List.getElem?_append_right (Nat.le_refl _)]; simp
      rw [hm] at ht
      obtain ⟨e, e1, e2, e3⟩ := maskOf_spec ht
      refine ⟨e, e1, e2, e3.imp id fun h => ?_⟩
      have hlt := hb e e1 e2
      have : (masks (o :: r) acc).getD e.on 0 = acc.getD e.on 0 := by
        simp only [masks, h1, List.append_assoc]
        rw [List.getD_eq_getElem?_getD, List.getElem?_append_left (by omega), ← List.getD_eq_getElem?_getD]
      rw [this]; exact h
    | succ i =>
      have := masks_spec r (acc ++ [maskOf acc o.after.toList]) i o' k (by simpa using h) (fun e he hbd => by have := hb e he hbd; simp; omega)
        (by simpa [masks, Nat.add_assoc, Nat.add_comm 1 i] using ht)
      simpa [masks] using this

/-- what has been done holds, with each operation, what stands before it -/
theorem closed_bit {L : List Oper} (hb : backB L 0 = true) {D : Nat → Prop} (hc : ∀ (i : Nat) (o : Oper), L[i]? = some o → D i → ∀ e ∈ o.after.toList, Region.binds .any e = true → D e.on) :
    ∀ (i : Nat) (o : Oper) (k : Nat), L[i]? = some o → (∀ e ∈ o.after.toList, Region.binds .any e = true → D e.on) → bitAt (masks L []) i k = true → D k := by
  intro i
  induction i using Nat.strongRecOn with
  | _ i ih =>
    intro o k ho hd hbit
    have hback := fun e he hbd => backB_spec hb i o ho e he hbd
    obtain ⟨e, e1, e2, e3⟩ := masks_spec L [] i o k ho (fun e he hbd => by have := hback e he hbd; simpa using this) (by simpa [bitAt] using hbit)
    have hlt := hback e e1 e2
    simp only [Nat.zero_add] at hlt
    rcases e3 with e3 | e3
    · subst e3; exact hd e e1 e2
    · have hil : i < L.length := (List.getElem?_eq_some_iff.1 ho).1
      have hoo : L[e.on]? = some L[e.on] := List.getElem?_eq_getElem (by omega)
      exact ih e.on hlt _ k hoo (fun e' h1 h2 => hc e.on _ hoo (hd e e1 e2) e' h1 h2) (by simpa [bitAt] using e3)

end Go.Fm
