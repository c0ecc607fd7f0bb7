/-
  FmOpSound: an operation's precondition is good for the machine.
-/
import Derived.Test.YtopladipgobpjaaDoorFmRel
import Derived.Test.YtopladipgobpjaaDoorFmExt
namespace Go.Fm

/-- how a frame leaves -/
def LeavesAs (P : Program) (f : FuncId) (kd : CallKind) (fr : Frame) (w : World) (j : Inj) : Res → Prop
  | .ret v => fr.fn = f ∧ fr.mode = .returning ∧ fr.defers = [] ∧ fr.kind = kd ∧ fr.roundOf = none ∧
      ∃ fn v', P.funcs[fr.fn]? = some fn ∧ (results fn fr.tmps).run P w = .ok v' w ∧ VR j v v'
  | .pan ch => fr.fn = f ∧ ∃ ch', fr.mode = .panicking ch' ∧ fr.defers = [] ∧ fr.kind = kd ∧ fr.roundOf = none ∧ (∃ fn, P.funcs[fr.fn]? = some fn) ∧ ChR j ch ch'

def Callable (P : Program) (f : FuncId) : Prop := ∃ fn, P.funcs[f]? = some fn ∧ fn.body.isSome = true ∧ (fn.name == "runtime.NumGoroutine") = false

/-- the contract of a function -/
def Spec (P : Program) (gs : List Nat) : FuncId → List Value → AHeap → (Res → AHeap → Prop) → Prop := fun f args h Q =>
  Callable P f ∧
  ∀ (G : Machine → Prop) (F : Nat → Nat → Prop) (w0 : World) (j : Inj) (w : World) (args' : Array Value) (cs : List Frame), Sim F w0 j h w → LR j args args'.toList → GlobR gs j →
    (∀ r h' j' w' fr, Q r h' → j.ext h.length j' → h.length ≤ h'.length → Sim F w0 j' h' w' → LeavesAs P f .normal fr w' j' r → Ends P G (lone fr cs w')) →
    Ends P G (lone (Frame.enter P f args' .normal) cs w)

theorem Spec.mono {P : Program} {gs : List Nat} {f : FuncId} {args : List Value} {h : AHeap} {Q Q' : Res → AHeap → Prop} (hs : Spec P gs f args h Q) (hq : ∀ r h', Q r h' → Q' r h') : Spec P gs f args h Q' :=
  ⟨hs.1, fun G F w0 j w args' cs S ha hg hk => hs.2 G F w0 j w args' cs S ha hg fun r h' j' w' fr q => hk r h' j' w' fr (hq _ _ q)⟩

/-- the contract of a loop's yield -/
def SpecY (P : Program) (gs : List Nat) (l : Nat) (args : List Value) (h : AHeap) (Q : Res → AHeap → Prop) : Prop :=
  ∀ (G : Machine → Prop) (F : Nat → Nat → Prop) (w0 : World) (j : Inj) (w : World) (args' : Array Value) (c : Frame) (cs : List Frame) (L : Loc), Sim F w0 j h w → LR j args args'.toList → GlobR gs j → j l = some L →
    (∀ v h' j' w' v', Q (.ret v) h' → j.ext h.length j' → h.length ≤ h'.length → Sim F w0 j' h' w' → VR j' v v' → Ends P G (lone (c.finish v') cs w')) →
    (∀ ch h' j' w' ch', Q (.pan ch) h' → j.ext h.length j' → h.length ≤ h'.length → Sim F w0 j' h' w' → ChR j' ch ch' → Ends P G (lone (c.raise ch') cs w')) →
    ∃ fn tmps x y, (Instr.yield L.blk args').run P w = .ok (.round L.blk fn tmps x y) w ∧ Ends P G (lone (Frame.round L.blk fn tmps x y .normal) (c :: cs) w)

/-- the contract of a function without a body -/
def SpecX (P : Program) (f : FuncId) (args : List Value) (h : AHeap) (Q : Res → AHeap → Prop) : Prop :=
  hasBody P f = false ∧ ∀ (F : Nat → Nat → Prop) (w0 : World) (j : Inj) (w : World) (args' : Array Value), Sim F w0 j h w → LR j args args'.toList →
    ∃ v h' j' v' w', Q (.ret v) h' ∧ (callFunc f args').run P w = .ok (.value v') w' ∧ j.ext h.length j' ∧ h.length ≤ h'.length ∧ Sim F w0 j' h' w' ∧ VR j' v v'

def SpecC0 (P : Program) (gs : List Nat) : FSpec
  | .fn f => Spec P gs f
  | .yield l => SpecY P gs l

def SpecC (P : Program) (gs : List Nat) : FSpec
  | .fn f => fun args h Q => Spec P gs f args h Q ∨ SpecX P f args h Q
  | .yield l => SpecY P gs l

theorem SpecC0.toC {P : Program} {gs : List Nat} {c : Callee} {args : List Value} {h : AHeap} {Q : Res → AHeap → Prop} (hs : SpecC0 P gs c args h Q) : SpecC P gs c args h Q := by
  cases c with
  | fn f => exact .inl hs
  | yield l => exact hs

variable {P : Program}

theorem run_callFunc {f : FuncId} (hc : Callable P f) (args : Array Value) (w : World) : (callFunc f args).run P w = .ok (.enter f args) w := by
  obtain ⟨fn, h1, h2, h3⟩ := hc
  have h4 : fn.body.isNone = false := by cases hb : fn.body <;> simp_all
  unfold callFunc
  simp only [program, Sem.run_bind, Sem.run, Result.andThen_ok, h1, h3, h4, Bool.false_eq_true, if_false]
  rfl

/-- what a call's operand and arguments come to in the machine -/
theorem target_sim {j : Inj} {ρ : Operand → Option Value} {ρ' : Operand → Value} (hr : RR j ρ ρ') {f : Operand} {args : Array Operand} {g : FuncId} {as : List Value}
    (h : target ρ f args.toList = some (.fn g, as)) (c : Call) (hc1 : c.callee = .value f) (hc2 : c.args = args) (t : TypeId) (w : World) :
    ∃ (cap da : Array Value), (resolve ρ' c t).run P w = .ok { target := .fn (.func g) cap, args := da } w ∧ LR j as (da.toList ++ cap.toList) := by
  unfold target at h
  split at h
  · rename_i g' first cap hf
    obtain ⟨l, hl, e⟩ := Option.map_eq_some_iff.1 h
    injection e with e1 e2; injection e1 with e1; subst e1 e2
    have hv := hr _ _ hf
    cases hc : ρ' f with
    | func fn x y =>
      rw [hc] at hv
      cases hv with
      | func _ h1 h2 h3 h4 =>
        have hl' := mapL_sim hr hl
        refine ⟨y, x ++ args.map ρ', ?_, ?_⟩
        · simp [resolve, hc1, hc2, hc, Deferred.ofValue]
        · simp only [Array.toList_append, Array.toList_map, List.append_assoc]
          exact (AR.toLR ⟨h1, h2⟩).app (hl'.app (AR.toLR ⟨h3, h4⟩))
    | _ => rw [hc] at hv; cases hv
  · obtain ⟨l, hl, e⟩ := Option.map_eq_some_iff.1 h
    injection e with e1 e2; cases e1
  · simp at h

theorem target_yield {j : Inj} {ρ : Operand → Option Value} {ρ' : Operand → Value} (hr : RR j ρ ρ') {f : Operand} {args : Array Operand} {l : Nat} {as : List Value}
    (h : target ρ f args.toList = some (.yield l, as)) (c : Call) (hc1 : c.callee = .value f) (hc2 : c.args = args) (t : TypeId) (w : World) :
    ∃ (L : Loc) (cap da : Array Value), j l = some L ∧ (resolve ρ' c t).run P w = .ok { target := .fn (.yield L.blk) cap, args := da } w ∧ LR j as da.toList := by
  unfold target at h
  split at h
  · obtain ⟨l, hl, e⟩ := Option.map_eq_some_iff.1 h
    injection e with e1 e2; cases e1
  · rename_i l' first cap hf
    obtain ⟨l0, hl, e⟩ := Option.map_eq_some_iff.1 h
    injection e with e1 e2; injection e1 with e1; subst e1 e2
    have hv := hr _ _ hf
    cases hc : ρ' f with
    | func fn x y =>
      rw [hc] at hv
      cases hv with
      | yield hj =>
        have hl' := mapL_sim hr hl
        refine ⟨_, #[], args.map ρ', hj, ?_, by simpa using hl'⟩
        simp [resolve, hc1, hc2, hc, Deferred.ofValue]
    | _ => rw [hc] at hv; cases hv
  · simp at h

section
variable {X : Cx} {j : Inj} {s : St} {a : Act} {cs : List Frame} {w : World} {G : Machine → Prop} {k : List Item} {ops : Array Oper} {i : Nat} {rest : List Nat} {o : Oper} {ρ : Operand → Option Value}

theorem UR.roundOf {u : UMode} {b : Frame} (h : UR j u b cs) (hn : u ≠ .round) : b.roundOf = none := by
  cases u with
  | norm => exact h.2
  | round => exact absurd rfl hn
  | ret => exact h.2.1
  | pan ch => exact h.2.1

/-- what is to be shown behind an operation -/
structure Nexts (P : Program) (X : Cx) (j : Inj) (s : St) (a : Act) (cs : List Frame) (G : Machine → Prop) (k : List Item) (ops : Array Oper) (i : Nat) (rest : List Nat) (o : Oper)
    (next : Value → St → Prop) (pan : Chain → St → Prop) : Prop where
  val : ∀ v s' j' v' df' cs' w', next v s' → s'.e = s.e → j.ext s.h.length j' → s.h.length ≤ s'.h.length → RelM X j' s' df' cs' w' → VR j' v v' →
    Ends P G (lone (mk X.b (Act.put ⟨a.tmps, df'⟩ o.dst v') (.inRegion ops rest :: k)) cs' w')
  pan : ∀ ch s' j' ch' w', pan ch s' → s'.e = s.e → j.ext s.h.length j' → RelM X j' s' a.defers cs w' → ChR j' ch ch' →
    Ends P G (lone { mk X.b a (.inRegion ops (i :: rest) :: k) with mode := .panicking ch' } cs w')

theorem allW_mem {outs : List (Value × AHeap)} {k : Value → AHeap → Prop} (h : allW outs k) {v : Value} {h' : AHeap} (hm : (v, h') ∈ outs) : k v h' := by
  induction outs with
  | nil => simp at hm
  | cons p r ih =>
    obtain ⟨u, g⟩ := p
    simp only [allW] at h
    rcases List.mem_cons.1 hm with e | e
    · injection e with e1 e2; subst e1 e2; exact h.1
    · exact ih h.2 e

theorem bnd_some' {α : Type} {o : Option α} {k : α → Prop} (h : bnd o k) : ∃ x, o = some x ∧ k x := by
  cases o with
  | none => exact h.elim
  | some x => exact ⟨x, rfl, h⟩

theorem dataW_sound {next : Value → St → Prop} {pan : Chain → St → Prop} (hR : RelM X j s a.defers cs w) (hr : RR j ρ a.eval) (ho : ops[i]? = some o)
    (hw : Region.wanted o (yielded ops a.tmps) = true) (hnd : ∀ c, o.op ≠ .defer c) (h : dataW P ρ o.op s next) (hN : Nexts P X j s a cs G k ops i rest o next pan) :
    Ends P G (lone (mk X.b a (.inRegion ops (i :: rest) :: k)) cs w) := by
  unfold dataW at h
  split at h
  · obtain ⟨v, hv, hk⟩ := bnd_some' h
    obtain ⟨v', h1, h2⟩ := aPure_sim hr o hv
    exact .step (st_value ho hw (.inr hnd) (h2 w) rfl) (hN.val v s j v' a.defers cs w hk rfl (j.ext_refl _) (Nat.le_refl _) hR h1)
  · obtain ⟨v, hv, hk⟩ := bnd_some' h
    obtain ⟨v', h1, h2⟩ := aRead_sim hR.sim hr o hv
    exact .step (st_value ho hw (.inr hnd) h2 rfl) (hN.val v s j v' a.defers cs w hk rfl (j.ext_refl _) (Nat.le_refl _) hR h1)
  · obtain ⟨⟨ob, v⟩, hv, hk⟩ := bnd_some' h
    obtain ⟨v', w', h1, h2⟩ := aAlloc_sim hr o hv w
    obtain ⟨j', g1, g2, g3⟩ := h2.sim hR.sim
    exact .step (st_value ho hw (.inr hnd) h1 rfl) (hN.val v _ j' v' a.defers cs w' hk rfl g1 (by simp) (hR.go g1 (by simp) g3 rfl rfl) g2)
  · obtain ⟨⟨v, h'⟩, hv, hk⟩ := bnd_some' h
    obtain ⟨j', v', nx, w', g1, g2, g3, g4, g5⟩ := aEff_sim hR.sim hr o hv
    exact .step (st_value ho hw (.inr hnd) g3 g4) (hN.val v _ j' v' a.defers cs w' hk rfl g1 (aEff_len hv) (hR.go g1 (aEff_len hv) g5 rfl rfl) g2)

theorem opW_sound {next : Value → St → Prop} {pan : Chain → St → Prop} (hR : RelM X j s a.defers cs w) (hr : RR j ρ a.eval) (ho : ops[i]? = some o)
    (hw : Region.wanted o (yielded ops a.tmps) = true) (h : opW P (SpecC P X.gs) ρ o.op s next pan) (hN : Nexts P X j s a cs G k ops i rest o next pan) :
    Ends P G (lone (mk X.b a (.inRegion ops (i :: rest) :: k)) cs w) := by
  obtain ⟨dst, op, ty, pos, af, gd⟩ := o
  simp only at h
  have hal : ({ tmps := a.tmps, defers := a.defers } : Act) = a := rfl
  unfold opW at h
  split at h
  · -- a call
    rename_i f args ts
    obtain ⟨⟨g, as⟩, ht, hk⟩ := bnd_some' h
    cases g with
    | yield l =>
      obtain ⟨L, cap, da, hj, h1, h2⟩ := target_yield (P := P) hr ht { callee := .value f, args := args, argTypes := ts } rfl rfl ty w
      obtain ⟨fn, tmps, x, y, k1, k2⟩ := hk G X.F X.w0 j w da (mk X.b a (.inRegion ops (i :: rest) :: k)) cs L hR.sim h2 hR.glob hj
        (fun v h' j' w' v' hq hx hl hS hv => by
          rw [mk_finish, ho]
          exact hN.val v _ j' v' a.defers cs w' hq rfl hx hl (hR.go hx hl hS rfl rfl) hv)
        (fun ch h' j' w' ch' hq hx hl hS hch => hN.pan ch _ j' ch' w' hq rfl hx (hR.go hx hl hS rfl rfl) hch)
      have hrun : (execOp a.eval { dst, op := .call { callee := .value f, args := args, argTypes := ts }, type := ty, pos, after := af, guard := gd }).run P w = .ok (.round L.blk fn tmps x y) w := by
        simp only [execOp, Sem.run_bind, h1, Result.andThen_ok, invoke, k1]
      exact .step (st_round ho hw (.inr (by simp)) hrun) k2
    | fn g =>
    have hk : Spec P X.gs g as s.h (afterCall s next pan) ∨ SpecX P g as s.h (afterCall s next pan) := hk
    rcases hk with hk | hk
    rotate_left
    · obtain ⟨cap, da, h1, h2⟩ := target_sim (P := P) hr ht { callee := .value f, args := args, argTypes := ts } rfl rfl ty w
      obtain ⟨v, h', j', v', w', k1, k2, k3, k4, k5, k6⟩ := hk.2 X.F X.w0 j w (da ++ cap) hR.sim (by simpa using h2)
      have hrun : (execOp a.eval { dst, op := .call { callee := .value f, args := args, argTypes := ts }, type := ty, pos, after := af, guard := gd }).run P w = .ok (.value v') w' := by
        simp only [execOp, Sem.run_bind, h1, Result.andThen_ok, invoke, k2]
      exact .step (st_value ho hw (.inr (by simp)) hrun rfl) (hN.val v _ j' v' a.defers cs w' k1 rfl k3 k4 (hR.go k3 k4 k5 rfl rfl) k6)
    obtain ⟨cap, da, h1, h2⟩ := target_sim (P := P) hr ht { callee := .value f, args := args, argTypes := ts } rfl rfl ty w
    have hrun : (execOp a.eval { dst, op := .call { callee := .value f, args := args, argTypes := ts }, type := ty, pos, after := af, guard := gd }).run P w = .ok (.enter g (da ++ cap)) w := by
      simp only [execOp, Sem.run_bind, h1, Result.andThen_ok, invoke, run_callFunc hk.1]
    refine .step (st_enter ho hw (.inr (by simp)) hrun) ?_
    refine hk.2 G X.F X.w0 j w (da ++ cap) _ hR.sim (by simpa using h2) hR.glob ?_
    intro r h' j' w' fr hq hx hl hS hlv
    cases r with
    | ret v =>
      obtain ⟨l1, l2, l3, l4, l5, fn, v', l6, l7, l8⟩ := hlv
      have hstep := step_leave_returned (P := P) (fr := fr) (c := mk X.b a (.inRegion ops (i :: rest) :: k)) (cs := cs) (w := w') (v := v') ⟨l2, l3, l4, fn, l6, l7⟩
      rw [mk_finish, ho] at hstep
      exact .step hstep (hN.val v _ j' v' a.defers cs w' hq rfl hx hl (hR.go hx hl hS rfl rfl) l8)
    | pan ch =>
      obtain ⟨l1, ch', l2, l3, l4, l5, ⟨fn, l6⟩, l7⟩ := hlv
      have hstep := step_leave_panicked (P := P) (fr := fr) (c := mk X.b a (.inRegion ops (i :: rest) :: k)) (cs := cs) (w := w') (chain := ch') ⟨l2, l3, fn, l6⟩
      exact .step hstep (hN.pan ch _ j' ch' w' hq rfl hx (hR.go hx hl hS rfl rfl) l7)
  · -- recover
    rename_i args ts
    have hrun : (execOp a.eval { dst, op := .call { callee := .builtin .recover, args := args, argTypes := ts }, type := ty, pos, after := af, guard := gd }).run P w = .ok .recover w := by
      simp [execOp, resolve, invoke, builtin]
    unfold recoverW at h
    split at h
    · rename_i v older hu
      have hum := hR.um
      rw [hu] at hum
      obtain ⟨u1, u2, c, crest, ch', u3, u4, u5⟩ := hum
      cases u5 with
      | cons hv hold =>
        rename_i v' older'
        have hstep := st_recover (P := P) (b := X.b) (k := k) (cs := cs) (rest := rest) ho hw u2 (by simp) hrun
        have htry : tryRecover (mk X.b a (.inRegion ops (i :: rest) :: k)) cs = some (v', { c with mode := .panicking ({ v := v', recovered := true } :: older') } :: crest) := by
          subst u3
          simp [tryRecover, mk, u1, u4]
        rw [htry] at hstep
        refine .step hstep (hN.val v _ j v' a.defers _ w h rfl (j.ext_refl _) (Nat.le_refl _) ?_ hv)
        refine ⟨hR.sim, hR.ds, ⟨u1, u2, _, _, _, rfl, rfl, .cons hv hold⟩, hR.callers.trans (.inr ⟨c, crest, _, u3, rfl⟩), fun hn => by simp at hn, hR.glob, hR.ext, hR.len⟩
    · exact h.elim
    · rename_i hu1 hu2
      have hro : X.b.roundOf = none := hR.um.roundOf hu2
      have hstep := st_recover (P := P) (b := X.b) (k := k) (cs := cs) (rest := rest) ho hw hro (by simp) hrun
      have htry : tryRecover (mk X.b a (.inRegion ops (i :: rest) :: k)) cs = none := by
        have hum := hR.um
        cases hu : s.u with
        | norm => rw [hu] at hum; simp [tryRecover, mk, hum.1]
        | round => exact absurd hu hu2
        | ret =>
          rw [hu] at hum
          obtain ⟨q1, q2, c, crest, q3, q4⟩ := hum
          subst q3; simp [tryRecover, mk, q1, q4]
        | pan ch =>
          rw [hu] at hum
          obtain ⟨q1, q2, c, crest, ch', q3, q4, q5⟩ := hum
          subst q3
          cases q5 with
          | nil => simp [tryRecover, mk, q1, q4]
          | cons hv hold =>
            rename_i v0 v0' r0 l0 l0'
            cases r0 with
            | true => simp [tryRecover, mk, q1, q4]
            | false => exact absurd hu (hu1 _ _)
      rw [htry] at hstep
      exact .step hstep (hN.val .nilIface s j .nilIface a.defers cs w h rfl (j.ext_refl _) (Nat.le_refl _) hR .nilIface)
  · -- defer
    rename_i f args ts
    split at h
    · exact h.elim
    · rename_i hu
      obtain ⟨⟨g, as⟩, ht, hk⟩ := bnd_some' h
      cases g with
      | yield l => exact hk.elim
      | fn g =>
      obtain ⟨cap, da, h1, h2⟩ := target_sim (P := P) hr ht { callee := .value f, args := args, argTypes := ts } rfl rfl ty w
      have hro : X.b.roundOf = none := hR.um.roundOf hu
      have hrun : (execOp a.eval { dst, op := .defer { callee := .value f, args := args, argTypes := ts }, type := ty, pos, after := af, guard := gd }).run P w =
          .ok (.defer { target := .fn (.func g) cap, args := da }) w := by
        simp only [execOp, Sem.run_bind, h1, Result.andThen_ok, Sem.run_pure]
      refine .step (st_defer ho hw hro hrun) ?_
      refine hN.val undefV _ j undef ({ target := .fn (.func g) cap, args := da } :: a.defers) cs w hk rfl (j.ext_refl _) (Nat.le_refl _) ?_ (VR.tuple' .nil)
      exact ⟨hR.sim, .cons cap rfl rfl h2 hR.ds, hR.um, hR.callers, hR.norm, hR.glob, hR.ext, hR.len⟩
  · -- panic
    rename_i x
    split at h
    · rename_i t v hx
      have hv := hr _ _ hx
      cases hc : a.eval x with
      | iface t' v' =>
        rw [hc] at hv
        cases hv with
        | iface _ hv =>
          have hrun : (execOp a.eval { dst, op := .panic x, type := ty, pos, after := af, guard := gd }).run P w = .halt (.panic (.iface t v')) w := by
            simp [execOp, hc, Instr.panic, goPanic, Sem.run]
          exact .step (st_panic ho hw (.inr (by simp)) hrun) (hN.pan _ s j _ w h rfl (j.ext_refl _) hR (.cons (.iface t hv) .nil))
      | _ => rw [hc] at hv; cases hv
    · exact h.elim
  · -- a map's iterator
    rename_i it
    obtain ⟨outs, hb, hk⟩ := bnd_some' h
    obtain ⟨v, hv, hb⟩ := bind_some' hb
    obtain ⟨r, h', r', w', g1, g2, g3, g4⟩ := aNextMap_sim (P := P) (ty := ty) hR.sim (hr _ _ hv) hb
    have hl := aNextMap_len hb g1
    exact .step (st_value ho hw (.inr (by simp)) (run_val g3) rfl) (hN.val r _ j r' a.defers cs w' (allW_mem hk g1) rfl (j.ext_refl _) hl (hR.go (j.ext_refl _) hl g4 rfl rfl) g2)
  · -- data
    rename_i h1 h2 h3 h4 h5
    by_cases hnd : ∃ c, op = .defer c
    · -- a deferred call of what is no function value
      obtain ⟨c, rfl⟩ := hnd
      unfold dataW at h
      simp only [cls] at h
      obtain ⟨_, hb, _⟩ := bnd_some' h
      simp [aEff] at hb
    · exact dataW_sound hR hr ho hw (fun c hc => hnd ⟨c, hc⟩) h hN

end
end Go.Fm
