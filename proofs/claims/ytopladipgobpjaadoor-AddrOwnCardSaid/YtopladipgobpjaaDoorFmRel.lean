/-
  FmRel: frames, machines, and how an abstract state stands for them.
-/
import Derived.Test.YtopladipgobpjaaDoorFmWp
namespace Go.Fm

/-! ## running on -/

def Ends (P : Program) (G : Machine → Prop) (m : Machine) : Prop := ∃ m', Steps P m m' ∧ G m'

theorem Ends.now {P : Program} {G : Machine → Prop} {m : Machine} (h : G m) : Ends P G m := ⟨m, Steps.refl P m, h⟩
theorem Ends.step {P : Program} {G : Machine → Prop} {m m' : Machine} (h : step P m = .next m') (h' : Ends P G m') : Ends P G m :=
  let ⟨x, s, g⟩ := h'; ⟨x, Steps.head h s, g⟩

def mk (b : Frame) (a : Act) (todo : List Item) : Frame :=
  { fn := b.fn, tmps := a.tmps, todo, defers := a.defers, mode := .run, kind := b.kind, roundOf := b.roundOf }

theorem mk_eval (b : Frame) (a : Act) (todo : List Item) : (mk b a todo).eval = a.eval := by
  funext x; cases x <;> rfl

section
variable {P : Program} {b : Frame} {a : Act} {k : List Item} {cs : List Frame} {w : World}

theorem st_skip : step P (lone (mk b a (.code .skip :: k)) cs w) = .next (lone (mk b a k) cs w) := step_lone_go (by simp [stepG, stepG.exec, mk])
theorem st_label {l : Nat} : step P (lone (mk b a (.code (.label l) :: k)) cs w) = .next (lone (mk b a k) cs w) := step_lone_go (by simp [stepG, stepG.exec, mk])
theorem st_inBlock {id : Nat} : step P (lone (mk b a (.inBlock id :: k)) cs w) = .next (lone (mk b a k) cs w) := step_lone_go (by simp [stepG, stepG.exec, mk])
theorem st_inScope {c : Code} : step P (lone (mk b a (.inScope c :: k)) cs w) = .next (lone (mk b a k) cs w) := step_lone_go (by simp [stepG, stepG.exec, mk])
theorem st_seq {x y : Code} : step P (lone (mk b a (.code (.seq x y) :: k)) cs w) = .next (lone (mk b a (.code x :: .code y :: k)) cs w) := step_lone_go (by simp [stepG, stepG.exec, mk])
theorem st_scope {c : Code} : step P (lone (mk b a (.code (.scope c) :: k)) cs w) = .next (lone (mk b a (.code c :: .inScope c :: k)) cs w) := step_lone_go (by simp [stepG, stepG.exec, mk])
theorem st_cond {c : Operand} {x y : Code} {t : Bool} (h : a.eval c = .bool t) :
    step P (lone (mk b a (.code (.cond c x y) :: k)) cs w) = .next (lone (mk b a (.code (if t then x else y) :: k)) cs w) :=
  step_lone_go (by
    have := congrFun (mk_eval b a (.code (.cond c x y) :: k)) c
    simp only [mk] at this
    simp [stepG, stepG.exec, mk, this, h])
theorem st_block {id : Nat} {c : Code} : step P (lone (mk b a (.code (.block id c) :: k)) cs w) = .next (lone (mk b a (.code c :: .inBlock id :: k)) cs w) := step_lone_go (by simp [stepG, stepG.exec, mk])
theorem st_loop {c : Code} : step P (lone (mk b a (.code (.loop c) :: k)) cs w) = .next (lone (mk b a (.code c :: .inLoop c :: k)) cs w) := step_lone_go (by simp [stepG, stepG.exec, mk])
theorem st_inLoop {c : Code} : step P (lone (mk b a (.inLoop c :: k)) cs w) = .next (lone (mk b a (.code c :: .inLoop c :: k)) cs w) := step_lone_go (by simp [stepG, stepG.exec, mk])
theorem st_exit {id : Nat} {k' : List Item} (h : exitTo id k = some k') : step P (lone (mk b a (.code (.exit id) :: k)) cs w) = .next (lone (mk b a k') cs w) :=
  step_lone_go (by simp [stepG, stepG.exec, mk, h])
theorem st_region {id : Nat} {ops : Array Oper} : step P (lone (mk b a (.code (.region id ops false) :: k)) cs w) = .next (lone (mk b a (.inRegion ops (List.range ops.size) :: k)) cs w) :=
  step_lone_go (by simp [stepG, stepG.exec, mk])
theorem st_draw {id : Nat} {ops : Array Oper} : step P (lone (mk b a (.code (.region id ops true) :: k)) cs w) =
    .next (lone (mk b a (.inRegion ops (Region.schedule (P.follows .mixedOrders) ops (w.tape w.drawn (.order b.fn id))) :: k)) cs { w with drawn := w.drawn + 1 }) :=
  step_lone_go (by simp [stepG, stepG.exec, mk, choose, Sem.run, Question.forced, Question.cut])
theorem st_regionEnd {ops : Array Oper} : step P (lone (mk b a (.inRegion ops [] :: k)) cs w) = .next (lone (mk b a k) cs w) := step_lone_go (by simp [stepG, stepG.exec, mk])

theorem mk_finish (ops : Array Oper) (i : Nat) (rest : List Nat) (v : Value) :
    (mk b a (.inRegion ops (i :: rest) :: k)).finish v = mk b (a.put ((ops[i]?).bind (·.dst)) v) (.inRegion ops rest :: k) := by
  cases h : (ops[i]?).bind (·.dst) <;> simp [Frame.finish, mk, Act.put, h]

theorem st_opSkip {ops : Array Oper} {i : Nat} {rest : List Nat} (h : ((ops[i]?).map (Region.wanted · (yielded ops a.tmps))).getD false = false) :
    step P (lone (mk b a (.inRegion ops (i :: rest) :: k)) cs w) = .next (lone (mk b (a.put ((ops[i]?).bind (·.dst)) undef) (.inRegion ops rest :: k)) cs w) := by
  rw [← mk_finish]
  exact step_lone_go (by
    have h' := h
    simp only [mk] at *
    simp [stepG, stepG.exec, h'])

theorem stG_op {ops : Array Oper} {i : Nat} {rest : List Nat} {o : Oper} (ho : ops[i]? = some o) (hw : Region.wanted o (yielded ops a.tmps) = true)
    (hd : b.roundOf = none ∨ ∀ c, o.op ≠ .defer c) :
    stepG P true { frame := mk b a (.inRegion ops (i :: rest) :: k), callers := cs, status := .running, dying := none } w =
      stepG.apply P true (mk b a (.inRegion ops (i :: rest) :: k)) cs none (execOp a.eval o) w := by
  have h1 : stepG P true { frame := mk b a (.inRegion ops (i :: rest) :: k), callers := cs, status := .running, dying := none } w =
      stepG.oper P true (mk b a (.inRegion ops (i :: rest) :: k)) cs none w := by
    simp [stepG, stepG.exec, mk, ho, hw]
  have h2 : (mk b a (.inRegion ops (i :: rest) :: k)).oper? = some o := by simp [Frame.oper?, mk, ho]
  have h3 : (mk b a (.inRegion ops (i :: rest) :: k)).roundOf = b.roundOf := rfl
  rw [h1]
  unfold stepG.oper
  simp only [h2, h3, mk_eval]
  split
  · rename_i l c hr hop
    rcases hd with hd | hd
    · rw [hd] at hr; simp at hr
    · exact absurd hop (hd c)
  · rfl

variable {ops : Array Oper} {i : Nat} {rest : List Nat} {o : Oper}

theorem st_value (ho : ops[i]? = some o) (hw : Region.wanted o (yielded ops a.tmps) = true) (hd : b.roundOf = none ∨ ∀ c, o.op ≠ .defer c) {nx : Next} {v : Value} {w' : World}
    (hr : (execOp a.eval o).run P w = .ok nx w') (hv : nextVal nx = some v) :
    step P (lone (mk b a (.inRegion ops (i :: rest) :: k)) cs w) = .next (lone (mk b (a.put o.dst v) (.inRegion ops rest :: k)) cs w') := by
  have hg := stG_op (P := P) (b := b) (k := k) (cs := cs) (w := w) (rest := rest) ho hw hd
  have hfin : ∀ v, (mk b a (.inRegion ops (i :: rest) :: k)).finish v = mk b (a.put o.dst v) (.inRegion ops rest :: k) := by
    intro v; rw [mk_finish, ho]; rfl
  refine step_lone_go ?_
  rw [hg, ← hfin]
  unfold nextVal at hv
  split at hv
  · injection hv with hv; subst hv; simp [stepG.apply, hr]
  · injection hv with hv; subst hv; simp [stepG.apply, hr]; rfl
  · simp at hv

theorem st_defer (ho : ops[i]? = some o) (hw : Region.wanted o (yielded ops a.tmps) = true) (hd : b.roundOf = none) {d : Deferred} {w' : World}
    (hr : (execOp a.eval o).run P w = .ok (.defer d) w') :
    step P (lone (mk b a (.inRegion ops (i :: rest) :: k)) cs w) = .next (lone (mk b ({ a with defers := d :: a.defers }.put o.dst undef) (.inRegion ops rest :: k)) cs w') := by
  have hg := stG_op (P := P) (b := b) (k := k) (cs := cs) (w := w) (rest := rest) ho hw (.inl hd)
  have hfin : (mk b { a with defers := d :: a.defers } (.inRegion ops (i :: rest) :: k)).finish undef = mk b ({ a with defers := d :: a.defers }.put o.dst undef) (.inRegion ops rest :: k) := by
    rw [mk_finish, ho]; rfl
  refine step_lone_go ?_
  rw [hg, ← hfin]
  simp only [stepG.apply, Sem.runT_eq, hr, GStep.bare_after]
  rfl

theorem st_enter (ho : ops[i]? = some o) (hw : Region.wanted o (yielded ops a.tmps) = true) (hd : b.roundOf = none ∨ ∀ c, o.op ≠ .defer c) {f : FuncId} {args : Array Value} {w' : World}
    (hr : (execOp a.eval o).run P w = .ok (.enter f args) w') :
    step P (lone (mk b a (.inRegion ops (i :: rest) :: k)) cs w) = .next (lone (Frame.enter P f args .normal) (mk b a (.inRegion ops (i :: rest) :: k) :: cs) w') := by
  have hg := stG_op (P := P) (b := b) (k := k) (cs := cs) (w := w) (rest := rest) ho hw hd
  refine step_lone_go ?_
  rw [hg]; simp [stepG.apply, hr, mk]

theorem st_panic (ho : ops[i]? = some o) (hw : Region.wanted o (yielded ops a.tmps) = true) (hd : b.roundOf = none ∨ ∀ c, o.op ≠ .defer c) {v : Value} {w' : World}
    (hr : (execOp a.eval o).run P w = .halt (.panic v) w') :
    step P (lone (mk b a (.inRegion ops (i :: rest) :: k)) cs w) =
      .next (lone { mk b a (.inRegion ops (i :: rest) :: k) with mode := .panicking [{ v, recovered := false }] } cs w') := by
  have hg := stG_op (P := P) (b := b) (k := k) (cs := cs) (w := w) (rest := rest) ho hw hd
  refine step_lone_go ?_
  rw [hg]; simp [stepG.apply, hr]; rfl

theorem st_recover (ho : ops[i]? = some o) (hw : Region.wanted o (yielded ops a.tmps) = true) (hd : b.roundOf = none) (_hnd : ∀ c, o.op ≠ .defer c) {w' : World}
    (hr : (execOp a.eval o).run P w = .ok .recover w') :
    step P (lone (mk b a (.inRegion ops (i :: rest) :: k)) cs w) =
      .next (lone (mk b (a.put o.dst ((tryRecover (mk b a (.inRegion ops (i :: rest) :: k)) cs).map (·.1) |>.getD .nilIface)) (.inRegion ops rest :: k))
        ((tryRecover (mk b a (.inRegion ops (i :: rest) :: k)) cs).map (·.2) |>.getD cs) w') := by
  have hg := stG_op (P := P) (b := b) (k := k) (cs := cs) (w := w) (rest := rest) ho hw (.inl hd)
  have hfin : ∀ v, (mk b a (.inRegion ops (i :: rest) :: k)).finish v = mk b (a.put o.dst v) (.inRegion ops rest :: k) := by
    intro v; rw [mk_finish, ho]; rfl
  refine step_lone_go ?_
  rw [hg, ← hfin]
  have hro : (mk b a (.inRegion ops (i :: rest) :: k)).roundOf = none := hd
  cases ht : tryRecover (mk b a (.inRegion ops (i :: rest) :: k)) cs with
  | none => simp [stepG.apply, hr, hro, ht]
  | some p => simp [stepG.apply, hr, hro, ht]

end

/-! ## loops over functions -/

section
variable {P : Program} {b : Frame} {a : Act} {k : List Item} {cs : List Frame} {w : World} {c : Frame}

theorem st_round {ops : Array Oper} {i : Nat} {rest : List Nat} {o : Oper} (ho : ops[i]? = some o) (hw : Region.wanted o (yielded ops a.tmps) = true) (hd : b.roundOf = none ∨ ∀ c, o.op ≠ .defer c) {l : Nat} {f : FuncId} {tmps : Array Value} {x y : Code} {w' : World}
    (hr : (execOp a.eval o).run P w = .ok (.round l f tmps x y) w') :
    step P (lone (mk b a (.inRegion ops (i :: rest) :: k)) cs w) = .next (lone (Frame.round l f tmps x y .normal) (mk b a (.inRegion ops (i :: rest) :: k) :: cs) w') := by
  have hg := stG_op (P := P) (b := b) (k := k) (cs := cs) (w := w) (rest := rest) ho hw hd
  refine step_lone_go ?_
  rw [hg]; simp [stepG.apply, hr]

theorem st_beginRound {l : Nat} {w' : World} (hb : b.roundOf = some l) (hr : (Instr.beginRound l).run P w = .ok () w') :
    step P (lone (mk b a (.beginRound :: k)) cs w) = .next (lone (mk b a k) cs w') :=
  step_lone_go (by simp [stepG, stepG.exec, stepG.apply, mk, hb, Sem.runT_eq, hr, Result.andThen, Frame.finish])

theorem st_roundEnd {l : Nat} {v : Value} {w' : World} (hb : b.roundOf = some l) (hk : b.kind = .normal) (hr : (Instr.endRound l none).run P w = .ok v w') :
    step P (lone (mk b a []) (c :: cs) w) = .next (lone (c.finish v) cs w') :=
  step_lone_go (by simp [stepG, stepG.exec, mk, hb, hk, Sem.runT_eq, hr, doReturn])

theorem st_roundRet {l : Nat} {v : Value} {w' : World} (hb : b.roundOf = some l) (hk : b.kind = .normal) (hr : (Instr.endRound l (some .ret)).run P w = .ok v w') :
    step P (lone (mk b a (.code .ret :: k)) (c :: cs) w) = .next (lone (c.finish v) cs w') :=
  step_lone_go (by simp [stepG, stepG.exec, mk, hb, hk, Sem.runT_eq, hr, doReturn])

theorem st_roundExit {l id : Nat} {v : Value} {w' : World} (hb : b.roundOf = some l) (hk : b.kind = .normal) (hx : exitTo id k = none) (hr : (Instr.endRound l (some (.exit id))).run P w = .ok v w') :
    step P (lone (mk b a (.code (.exit id) :: k)) (c :: cs) w) = .next (lone (c.finish v) cs w') :=
  step_lone_go (by simp [stepG, stepG.exec, mk, hb, hk, hx, Sem.runT_eq, hr, doReturn])

theorem mk_finish_range (l : Nat) (v : Value) : (mk b a (.inRangeFunc l :: k)).finish v = mk b a (.endRangeFunc l :: k) := by
  simp [Frame.finish, mk]

theorem st_endRange {l : Nat} {jump : Option Code} {w' : World} (h : (Instr.endLoop l).run P w = .ok jump w') :
    step P (lone (mk b a (.endRangeFunc l :: k)) cs w) = .next (lone (mk b a ((jump.map Item.code).toList ++ k)) cs w') :=
  step_lone_go (by simp [stepG, stepG.exec, mk, Sem.runT_eq, h, GStep.bare_after])

theorem st_rangeFunc {g : Operand} {ps : Array Nat} {x y : Code} {l : Nat} {mark : List Deferred} {w₁ w₁' w₂ : World} {d : Deferred} {f : FuncId} {args : Array Value}
    (he : (Instr.enterLoop b.fn a.tmps ps x y b.roundOf).run P w = .ok (l, mark) w₁)
    (hres : (resolve a.eval { callee := .value g, args := #[.const (.func (.yield l) #[] #[])], argTypes := #[] } 0).run P w₁ = .ok d w₁') (hinv : (invoke d.target d.args).run P w₁' = .ok (.enter f args) w₂) :
    step P (lone (mk b a (.code (.rangeFunc g ps x y) :: k)) cs w) =
      .next (lone (Frame.enter P f args .normal) (mk b ⟨a.tmps, mark ++ a.defers⟩ (.inRangeFunc l :: k) :: cs) w₂) :=
  step_lone_go (by
    have hev := mk_eval b ⟨a.tmps, mark ++ a.defers⟩ (.inRangeFunc l :: k)
    simp only [mk] at hev
    have hres' : Sem.run P (resolve ({ tmps := a.tmps, defers := mark ++ a.defers } : Act).eval { callee := .value g, args := #[.const (.func (.yield l) #[] #[])], argTypes := #[] } 0) w₁ = .ok d w₁' := hres
    simp [stepG, stepG.exec, mk, Sem.runT_eq, he, GStep.bare_after, stepG.apply, hev, Sem.run_bind, hres', hinv, Result.andThen])

end

/-! ## what stands for what -/

inductive ChR (j : Inj) : Chain → List PanicEntry → Prop
  | nil : ChR j [] []
  | cons {v v' : Value} {r : Bool} {l : Chain} {l' : List PanicEntry} : VR j v v' → ChR j l l' → ChR j ((v, r) :: l) ({ v := v', recovered := r } :: l')

theorem ChR.mono {j j' : Inj} (hj : j.le j') {x : Chain} {x' : List PanicEntry} (h : ChR j x x') : ChR j' x x' := by
  induction h with
  | nil => exact .nil
  | cons h _ ih => exact .cons (h.mono hj) ih

inductive DsR (j : Inj) : List ADef → List Deferred → Prop
  | nil : DsR j [] []
  | cons {f : FuncId} {as as' : List Value} {d : Deferred} {l : List ADef} {l' : List Deferred} (cap : Array Value) :
      d.target = .fn (.func f) cap → d.args.toList ++ cap.toList = as' → LR j as as' → DsR j l l' → DsR j (.call f as :: l) (d :: l')
  | mark {q : Nat} {L : Loc} {d : Deferred} {l : List ADef} {l' : List Deferred} : j q = some L → d.target = .collected L.blk → DsR j l l' → DsR j (.mark q :: l) (d :: l')

theorem DsR.mono {j j' : Inj} (hj : j.le j') {x : List ADef} {x' : List Deferred} (h : DsR j x x') : DsR j' x x' := by
  induction h with
  | nil => exact .nil
  | cons cap h1 h2 h3 _ ih => exact .cons cap h1 h2 (h3.mono hj) ih
  | mark h1 h2 _ ih => exact .mark (hj _ _ h1) h2 ih

def UR (j : Inj) (u : UMode) (b : Frame) (cs : List Frame) : Prop :=
  match u with
  | .norm => b.kind = .normal ∧ b.roundOf = none
  | .round => b.roundOf.isSome = true
  | .ret => b.kind = .deferred ∧ b.roundOf = none ∧ ∃ c rest, cs = c :: rest ∧ c.mode = .returning
  | .pan ch => b.kind = .deferred ∧ b.roundOf = none ∧ ∃ c rest ch', cs = c :: rest ∧ c.mode = .panicking ch' ∧ ChR j ch ch'

theorem UR.mono {j j' : Inj} (hj : j.le j') {u : UMode} {b : Frame} {cs : List Frame} (h : UR j u b cs) : UR j' u b cs := by
  cases u with
  | norm => exact h
  | round => exact h
  | ret => exact h
  | pan ch => obtain ⟨h1, h2, c, rest, ch', h3, h4, h5⟩ := h; exact ⟨h1, h2, c, rest, ch', h3, h4, h5.mono hj⟩

/-- the callers, but for the mode of the nearest -/
def CR (cs0 cs : List Frame) : Prop := cs = cs0 ∨ ∃ c rest m, cs0 = c :: rest ∧ cs = { c with mode := m } :: rest

theorem CR.trans {cs0 cs1 cs2 : List Frame} (h : CR cs0 cs1) (h' : CR cs1 cs2) : CR cs0 cs2 := by
  rcases h with rfl | ⟨c, rest, m, e1, e2⟩
  · exact h'
  · rcases h' with rfl | ⟨c', rest', m', e3, e4⟩
    · exact .inr ⟨c, rest, m, e1, e2⟩
    · subst e2; injection e3 with e3 e5; subst e3 e5
      exact .inr ⟨c, rest, m', e1, by rw [e4]⟩

def GlobR (gs : List Nat) (j : Inj) : Prop := ∀ g ∈ gs, ∃ L, j g = some L ∧ L.blk = g ∧ L.off = 0

/-- what stays the same while a frame runs -/
structure Cx where
  F : Nat → Nat → Prop
  w0 : World
  j0 : Inj
  h0 : AHeap
  cs0 : List Frame
  b : Frame
  n : Nat
  gs : List Nat
  dom : ∀ b L, j0 b = some L → b < h0.length

structure RelM (X : Cx) (j : Inj) (s : St) (df : List Deferred) (cs : List Frame) (w : World) : Prop where
  sim : Sim X.F X.w0 j s.h w
  ds : DsR j s.ds df
  um : UR j s.u X.b cs
  callers : CR X.cs0 cs
  norm : s.u = .norm ∨ s.u = .round → cs = X.cs0
  glob : GlobR X.gs j
  ext : X.j0.ext X.h0.length j
  len : X.h0.length ≤ s.h.length

def Rel (X : Cx) (j : Inj) (s : St) (a : Act) (cs : List Frame) (w : World) : Prop := RelM X j s a.defers cs w ∧ EnvR j X.n s.e a.tmps

/-- behind code: what is to be shown for each way out -/
def After (P : Program) (G : Machine → Prop) (b : Frame) (k : List Item) (x : AExit) (j : Inj) (a : Act) (cs : List Frame) (w : World) : Prop :=
  match x with
  | .normal => Ends P G (lone (mk b a k) cs w)
  | .exit id => (∀ k', exitTo id k = some k' → Ends P G (lone (mk b a k') cs w)) ∧ (exitTo id k = none → ∀ k', exitTo id k' = none → Ends P G (lone (mk b a (.code (.exit id) :: k')) cs w))
  | .ret => ∀ k', Ends P G (lone (mk b a (.code .ret :: k')) cs w)
  | .panic ch => ∀ k' ch', ChR j ch ch' → Ends P G (lone { mk b a k' with mode := .panicking ch' } cs w)

theorem AEnv.get_cons (e : AEnv) (d t : Nat) (v : Value) : AEnv.get ((d, v) :: e) t = if d = t then some v else e.get t := by
  simp only [AEnv.get]
  by_cases h : d = t
  · subst h; simp
  · have hb : Nat.beq d t = false := by
      cases hb : Nat.beq d t with
      | false => rfl
      | true => exact absurd (Nat.eq_of_beq_eq_true hb) h
    simp [h, hb]

theorem EnvR.put {j : Inj} {n : Nat} {e : AEnv} {tmps : Array Value} (h : EnvR j n e tmps) {d : Nat} (hd : d < n) {v v' : Value} (hv : VR j v v') :
    EnvR j n ((d, v) :: e) (tmps.setIfInBounds d v') := by
  refine ⟨by simp [h.1], fun t u ht => ?_⟩
  rw [AEnv.get_cons] at ht
  rw [Array.getElem?_setIfInBounds]
  split at ht
  · rename_i hdt; injection ht with ht; subst ht; subst hdt
    exact ⟨v', by simp [h.1, hd], hv⟩
  · rename_i hdt
    obtain ⟨u', h1, h2⟩ := h.2 t u ht
    exact ⟨u', by simp [hdt, h1], h2⟩

theorem restrict_get : ∀ (live : List Nat) (e : AEnv) (t : Nat) (v : Value), (restrict live e).get t = some v → e.get t = some v
  | [], e, t, v, h => by simp [restrict, AEnv.get] at h
  | a :: r, e, t, v, h => by
    unfold restrict at h
    split at h
    · rename_i u hu
      rw [AEnv.get_cons] at h
      split at h
      · rename_i hat; subst hat; injection h with h; subst h; exact hu
      · exact restrict_get r e t v h
    · exact restrict_get r e t v h

theorem RelM.env_eq {X : Cx} {j : Inj} {s s' : St} {df : List Deferred} {cs : List Frame} {w : World} (h : RelM X j s df cs w) (e1 : s'.h = s.h) (e2 : s'.ds = s.ds) (e3 : s'.u = s.u) : RelM X j s' df cs w :=
  ⟨by rw [e1]; exact h.sim, by rw [e2]; exact h.ds, by rw [e3]; exact h.um, h.callers, by rw [e3]; exact h.norm, h.glob, h.ext, by rw [e1]; exact h.len⟩

theorem Rel.keep {X : Cx} {j : Inj} {s : St} {a : Act} {cs : List Frame} {w : World} (h : Rel X j s a cs w) (live : List Nat) : Rel X j (Fm.keep live s) a cs w :=
  ⟨h.1.env_eq rfl rfl rfl, h.2.1, fun t v ht => h.2.2 t v (restrict_get _ _ _ _ ht)⟩

theorem GlobR.mono {gs : List Nat} {j j' : Inj} (hj : j.le j') (h : GlobR gs j) : GlobR gs j' := fun g hg => let ⟨L, h1, h2⟩ := h g hg; ⟨L, hj _ _ h1, h2⟩

/-- memory has gone on -/
theorem RelM.go {X : Cx} {j j' : Inj} {s s' : St} {df : List Deferred} {cs : List Frame} {w w' : World} (h : RelM X j s df cs w) (hx : j.ext s.h.length j') (hl : s.h.length ≤ s'.h.length)
    (hs : Sim X.F X.w0 j' s'.h w') (e2 : s'.ds = s.ds) (e3 : s'.u = s.u) : RelM X j' s' df cs w' :=
  ⟨hs, by rw [e2]; exact h.ds.mono hx.1, by rw [e3]; exact h.um.mono hx.1, h.callers, by rw [e3]; exact h.norm, h.glob.mono hx.1, Inj.ext_trans h.ext h.len hx, Nat.le_trans h.len hl⟩

theorem ev_rel {gs : List Nat} {n : Nat} {j : Inj} {e : AEnv} {a : Act} (h : EnvR j n e a.tmps) (hg : GlobR gs j) : RR j (ev gs e) a.eval := by
  intro x v hx
  cases x with
  | tmp t =>
    obtain ⟨v', h1, h2⟩ := h.2 t v hx
    simpa [Act.eval, Array.getD_eq_getD_getElem?, h1] using h2
  | const c =>
    simp only [ev] at hx
    split at hx
    · rename_i hf; injection hx with hx; subst hx; exact (flatB_flat hf).vr j
    · simp at hx
  | global g =>
    simp only [ev] at hx
    split at hx
    · rename_i hgg
      injection hx with hx; subst hx
      obtain ⟨L, h1, h2, h3⟩ := hg g (by simpa using hgg)
      have := VR.ptr (j := j) (o := 0) h1
      rw [h2, h3] at this
      exact this
    · simp at hx
  | func f =>
    simp only [ev] at hx
    injection hx with hx; subst hx
    exact .func f rfl (by simp) rfl (by simp)

end Go.Fm
