/-
  FmFun: functions: bodies, deferred calls, results; contracts out of bodies.
-/
import Derived.Test.YtopladipgobpjaaDoorFmCode
namespace Go.Fm

/-- the contract of a deferred call: what it does, too, to the mode of whose call it is -/
abbrev DSpec := FuncId → List Value → AHeap → UMode → (Res → UMode → AHeap → Prop) → Prop

def modeR (j : Inj) (u : UMode) (m : FrameMode) : Prop :=
  match u with
  | .ret => m = .returning
  | .pan ch => ∃ ch', m = .panicking ch' ∧ ChR j ch ch'
  | _ => False

def SpecD (P : Program) (gs : List Nat) : DSpec := fun f args h u Q =>
  Callable P f ∧
  ∀ (G : Machine → Prop) (F : Nat → Nat → Prop) (w0 : World) (j : Inj) (w : World) (args' : Array Value) (c : Frame) (cs : List Frame), Sim F w0 j h w → LR j args args'.toList → GlobR gs j → modeR j u c.mode →
    (∀ r u' h' j' w' fr m', Q r u' h' → j.ext h.length j' → h.length ≤ h'.length → Sim F w0 j' h' w' → modeR j' u' m' → LeavesAs P f .deferred fr w' j' r → Ends P G (lone fr ({ c with mode := m' } :: cs) w')) →
    Ends P G (lone (Frame.enter P f args' .deferred) (c :: cs) w)

def settleU : UMode → UMode
  | .pan ((_, true) :: _) => .ret
  | u => u

def raisedU (u : UMode) (ch : Chain) : UMode :=
  match u with
  | .pan old => .pan (ch ++ old)
  | _ => .pan ch

section
variable (P : Program) (gs : List Nat)

def resL (e : AEnv) (h : AHeap) : List ResultVar → Option (List Value)
  | [] => some []
  | .tmp t :: r => (e.get t).bind fun v => (resL e h r).map (v :: ·)
  | .cell a t :: r => (e.get a).bind fun p => (aLoad P t p h).bind fun v => (resL e h r).map (v :: ·)

def tupleOf : List Value → Value
  | [v] => v
  | l => .tuple l.toArray

def leaveW (D : DSpec) (rs : List ResultVar) (e : AEnv) : List ADef → UMode → AHeap → (Res → AHeap → Prop) → Prop
  | [], .ret, h, Q => bnd (resL P e h rs) fun l => Q (.ret (tupleOf l)) h
  | [], .pan ch, h, Q => Q (.pan ch) h
  | [], _, _, _ => False
  | .call f as :: ds, u, h, Q => D f as h u fun r u' h' => match r with
    | .ret _ => leaveW D rs e ds (settleU u') h' Q
    | .pan ch => leaveW D rs e ds (raisedU u' ch) h' Q
  | .mark q :: ds, u, h, Q => match h[q]? with
    | some (.spec .defq) => leaveW D rs e ds u (h.set q (.spec .over)) Q
    | _ => False

def fnKont (D : DSpec) (rs : List ResultVar) (Q : Res → UMode → AHeap → Prop) : Kont
  | .normal, s | .ret, s => leaveW P D rs s.e s.ds .ret s.h fun r h => Q r s.u h
  | .panic ch, s => leaveW P D rs s.e s.ds (.pan ch) s.h fun r h => Q r s.u h
  | .exit _, _ => False

def initE : List Value → Nat → AEnv
  | [], _ => []
  | v :: r, i => (i, v) :: initE r (i + 1)

def fnW (fn : Func) (c : Code) (ann : Ann) (args : List Value) (h : AHeap) (u : UMode) (Q : Res → UMode → AHeap → Prop) : Prop :=
  wpc P gs fn.ntmps (SpecC P gs) h.length c ann (fnKont P (SpecD P gs) fn.results.toList Q) ⟨initE args 0, [], h, u⟩

end

variable {P : Program} {gs : List Nat}

def resSem (tmps : Array Value) : ResultVar → Sem Value
  | .tmp t => pure (tmps.getD t undef)
  | .cell a t => do loadVar t (← asAddr (tmps.getD a undef))

theorem resL_sim {F : Nat → Nat → Prop} {w0 w : World} {j : Inj} {h : AHeap} (S : Sim F w0 j h w) {n : Nat} {e : AEnv} {tmps : Array Value} (hE : EnvR j n e tmps) : ∀ {rs : List ResultVar} {l : List Value}, resL P e h rs = some l →
    ∃ l', LR j l l' ∧ (rs.mapM (resSem tmps)).run P w = .ok l' w
  | [], l, hl => by simp [resL] at hl; subst hl; exact ⟨[], .nil, rfl⟩
  | .tmp t :: r, l, hl => by
    obtain ⟨v, hv, hl⟩ := bind_some' hl
    obtain ⟨l0, h0, h1⟩ := Option.map_eq_some_iff.1 hl
    subst h1
    obtain ⟨v', e1, e2⟩ := hE.2 t v hv
    obtain ⟨l', k1, k2⟩ := resL_sim S hE h0
    refine ⟨v' :: l', .cons e2 k1, ?_⟩
    have hr : (resSem tmps (.tmp t)).run P w = .ok v' w := by
      show Result.ok (tmps.getD t undef) w = _
      rw [Array.getD_eq_getD_getElem?, e1]; rfl
    simp only [List.mapM_cons, Sem.run_bind, hr, Result.andThen_ok, k2, Sem.run_pure]
  | .cell a t :: r, l, hl => by
    obtain ⟨p, hp, hl⟩ := bind_some' hl
    obtain ⟨v, hv, hl⟩ := bind_some' hl
    obtain ⟨l0, h0, h1⟩ := Option.map_eq_some_iff.1 hl
    subst h1
    obtain ⟨p', e1, e2⟩ := hE.2 a p hp
    obtain ⟨l', k1, k2⟩ := resL_sim S hE h0
    obtain ⟨v', q1, q2⟩ := aLoad_sim S e2 hv
    refine ⟨v' :: l', .cons q1 k1, ?_⟩
    have hp' : ∃ ad, p' = .pointer (some ad) := by
      unfold aLoad at hv
      split at hv
      · cases e2; exact ⟨_, rfl⟩
      · simp at hv
    obtain ⟨ad, rfl⟩ := hp'
    have q3 : (loadVar t ad).run P w = .ok v' w := by simpa [Instr.loadAt, Instr.sureAddr] using q2
    have hr : (resSem tmps (.cell a t)).run P w = .ok v' w := by
      have hg : tmps.getD a undef = .pointer (some ad) := by rw [Array.getD_eq_getD_getElem?, e1]; rfl
      simp only [resSem, hg, asAddr, Sem.run_bind, Sem.run_pure, Result.andThen_ok, q3]
    simp only [List.mapM_cons, Sem.run_bind, hr, Result.andThen_ok, k2, Sem.run_pure]

theorem results_sim {F : Nat → Nat → Prop} {w0 w : World} {j : Inj} {h : AHeap} (S : Sim F w0 j h w) {n : Nat} {e : AEnv} {tmps : Array Value} (hE : EnvR j n e tmps) {fn : Func} {l : List Value} (hl : resL P e h fn.results.toList = some l) :
    ∃ v', VR j (tupleOf l) v' ∧ (results fn tmps).run P w = .ok v' w := by
  obtain ⟨l', h1, h2⟩ := resL_sim S hE hl
  have hres : results fn tmps = (do let vs ← fn.results.mapM (resSem tmps); pure (if h : vs.size = 1 then vs[0] else .tuple vs)) := by
    unfold results
    congr 1
  have hrun : (results fn tmps).run P w = .ok (if hz : l'.toArray.size = 1 then l'.toArray[0] else .tuple l'.toArray) w := by
    rw [hres]
    have hm : (fn.results.mapM (resSem tmps)).run P w = .ok l'.toArray w := by
      rw [← Array.toArray_toList (xs := fn.results), List.mapM_toArray, ← bind_pure_comp]
      simp only [Sem.run_bind, h2, Result.andThen_ok, Sem.run_pure]
    simp only [Sem.run_bind, hm, Result.andThen_ok, Sem.run_pure]
  cases h1 with
  | nil => exact ⟨.tuple #[], VR.tuple' .nil, by rw [hrun]; rfl⟩
  | cons hv hr =>
    cases hr with
    | nil => exact ⟨_, hv, by rw [hrun]; simp⟩
    | cons hv2 hr2 =>
      refine ⟨_, VR.tuple' (.cons hv (.cons hv2 hr2)), ?_⟩
      rw [hrun, dif_neg (by simp)]

theorem settle_modeR {j : Inj} {u : UMode} {m : FrameMode} (h : modeR j u m) : modeR j (settleU u) (settle m) := by
  cases u with
  | norm => exact h.elim
  | round => exact h.elim
  | ret => have : m = .returning := h; subst this; rfl
  | pan ch =>
    obtain ⟨ch', rfl, hc⟩ := h
    cases hc with
    | nil => exact ⟨[], rfl, .nil⟩
    | cons hv hr =>
      rename_i v v' r l l'
      cases r with
      | false => exact ⟨_, rfl, .cons hv hr⟩
      | true =>
        have hd : ∀ {x : Chain} {x' : List PanicEntry}, ChR j x x' → x'.dropWhile (!·.goexit) = [] := by
          intro x x' hx
          induction hx with
          | nil => rfl
          | cons _ _ ih => simp [ih]
        simp only [settleU, settle, hd hr]
        rfl

theorem raised_modeR {j : Inj} {u : UMode} {m : FrameMode} (h : modeR j u m) {ch : Chain} {ch' : List PanicEntry} (hc : ChR j ch ch') : modeR j (raisedU u ch) (raised m ch') := by
  cases u with
  | norm => exact h.elim
  | round => exact h.elim
  | ret => have : m = .returning := h; subst this; exact ⟨ch', rfl, hc⟩
  | pan old =>
    obtain ⟨old', rfl, ho⟩ := h
    have key : ∀ {x : Chain} {x' : List PanicEntry}, ChR j x x' → ChR j (x ++ old) (x' ++ old') := by
      intro x x' hx
      induction hx with
      | nil => exact ho
      | cons hv _ ih => exact .cons hv ih
    exact ⟨ch' ++ old', rfl, key hc⟩

theorem modeR.mono {j j' : Inj} (hj : j.le j') {u : UMode} {m : FrameMode} (h : modeR j u m) : modeR j' u m := by
  cases u with
  | norm => exact h
  | round => exact h
  | ret => exact h
  | pan ch => obtain ⟨ch', h1, h2⟩ := h; exact ⟨ch', h1, h2.mono hj⟩

theorem st_takeDeferred {fr : Frame} {cs : List Frame} {w w' : World} {d : Deferred} {l' : List Deferred} {B : Nat} (hm : fr.mode ≠ .run) (hd : fr.defers = d :: l') (ht : d.target = .collected B)
    (hr : (Instr.takeDeferred B).run P w = .ok [] w') : step P (lone fr cs w) = .next (lone { fr with defers := l' } cs w') := by
  obtain ⟨tg, as⟩ := d
  simp only at ht
  subst ht
  refine step_lone_go ?_
  cases hmode : fr.mode with
  | run => exact absurd hmode hm
  | returning => simp [stepG, hmode, unwind, hd, Sem.runT_eq, hr, GStep.bare_after]
  | panicking ch => simp [stepG, hmode, unwind, hd, Sem.runT_eq, hr, GStep.bare_after]

/-- a frame's deferred calls, then its end -/
theorem leave_sound {G : Machine → Prop} {F : Nat → Nat → Prop} {w0 : World} {fn : Func} {kd : CallKind} {f : FuncId} {e : AEnv} {n : Nat} {j0 : Inj} {h0 : AHeap} {Q : Res → AHeap → Prop} {cs : List Frame}
    (hQ : ∀ r h' j' w' fr, Q r h' → j0.ext h0.length j' → h0.length ≤ h'.length → Sim F w0 j' h' w' → LeavesAs P f kd fr w' j' r → Ends P G (lone fr cs w')) :
    ∀ (ds : List ADef) (u : UMode) (h : AHeap), leaveW P (SpecD P gs) fn.results.toList e ds u h Q → ∀ (fr : Frame) (j : Inj) (w : World), modeR j u fr.mode → DsR j ds fr.defers → EnvR j n e fr.tmps → P.funcs[fr.fn]? = some fn →
      fr.fn = f → fr.kind = kd → fr.roundOf = none → Sim F w0 j h w → GlobR gs j → j0.ext h0.length j → h0.length ≤ h.length → Ends P G (lone fr cs w)
  | [], u, h, hl, fr, j, w, hm, hd, hE, hfn, hf, hk, hr, S, hg, hx, hlen => by
    have hdef : fr.defers = [] := by
      revert hd; generalize fr.defers = q; intro hd; cases hd; rfl
    cases u with
    | norm => exact hm.elim
    | round => exact hm.elim
    | ret =>
      obtain ⟨l, h1, h2⟩ := bnd_some' hl
      obtain ⟨v', k1, k2⟩ := results_sim S hE h1
      exact hQ _ h j w fr h2 hx hlen S ⟨hf, hm, hdef, hk, hr, fn, v', hfn, k2, k1⟩
    | pan ch =>
      obtain ⟨ch', h1, h2⟩ := hm
      exact hQ _ h j w fr hl hx hlen S ⟨hf, ch', h1, hdef, hk, hr, ⟨fn, hfn⟩, h2⟩
  | .mark q :: ds, u, h, hl, fr, j, w, hm, hd, hE, hfn, hf, hk, hr, S, hg, hx, hlen => by
    obtain ⟨d, l', L, hdef, t1, t2, t3⟩ : ∃ d l' L, fr.defers = d :: l' ∧ j q = some L ∧ d.target = .collected L.blk ∧ DsR j ds l' := by
      revert hd; generalize fr.defers = q'; intro hd
      cases hd with
      | mark h1 h2 h3 => exact ⟨_, _, _, rfl, h1, h2, h3⟩
    have hrun : fr.mode ≠ .run := by
      cases u with
      | norm => exact hm.elim
      | round => exact hm.elim
      | ret => have : fr.mode = .returning := hm; rw [this]; simp
      | pan ch => obtain ⟨ch', h1, _⟩ := hm; rw [h1]; simp
    simp only [leaveW] at hl
    split at hl
    · rename_i hq
      have ho := S.obj q L t1
      rw [hq] at ho
      obtain ⟨hoff, y, hy, rfl⟩ := ho
      have htake : (Instr.takeDeferred L.blk).run P w = .ok [] { w with heap := w.heap.setIfInBounds L.blk (.deferred none) } := by
        simp only [Instr.takeDeferred, Sem.run_bind, run_getObj' hy (by simp), Result.andThen_ok, run_setObj' hy (by simp), Sem.run_pure]
      have S2 : Sim F w0 j (h.set q (.spec .over)) { w with heap := w.heap.setIfInBounds L.blk (.deferred none) } :=
        obj_turn S t1 hq hy trivial trivial (fun B y => Iff.rfl) (fun B y => Iff.rfl) (fun w' hw' => ⟨hoff, _, hw', by simp [SpecR]⟩)
      refine .step (st_takeDeferred hrun hdef t2 htake) ?_
      exact leave_sound hQ ds u _ hl { fr with defers := l' } j _ hm t3 hE hfn hf hk hr S2 hg hx (by simpa using hlen)
    · exact hl.elim
  | .call g as :: ds, u, h, hl, fr, j, w, hm, hd, hE, hfn, hf, hk, hr, S, hg, hx, hlen => by
    obtain ⟨d, l', hdef, cap, t1, t2, t3, t4⟩ : ∃ d l', fr.defers = d :: l' ∧ ∃ cap : Array Value, d.target = .fn (.func g) cap ∧ LR j as (d.args.toList ++ cap.toList) ∧ DsR j ds l' ∧ True := by
      revert hd; generalize fr.defers = q; intro hd
      cases hd with
      | cons cap h1 h2 h3 h4 => subst h2; exact ⟨_, _, rfl, cap, h1, h3, h4, trivial⟩
    have hrun : fr.mode ≠ .run := by
      cases u with
      | norm => exact hm.elim
      | round => exact hm.elim
      | ret => have : fr.mode = .returning := hm; rw [this]; simp
      | pan ch => obtain ⟨ch', h1, _⟩ := hm; rw [h1]; simp
    simp only [leaveW] at hl
    have hinv : (invoke d.target d.args).run P w = .ok (.enter g (d.args ++ cap)) w := by rw [t1]; exact run_callFunc hl.1 _ w
    refine .step (step_defer hrun hdef t1 hinv) ?_
    refine hl.2 G F w0 j w (d.args ++ cap) { fr with defers := l' } cs S (by simpa using t2) hg hm ?_
    intro r u' h' j' w' frX m' hq hext hl' S' hm' hlv
    have hE' : EnvR j' n e fr.tmps := hE.mono hext.1
    have hx' : j0.ext h0.length j' := Inj.ext_trans hx hlen hext
    cases r with
    | ret v =>
      obtain ⟨l1, l2, l3, l4, l5, fnX, v', l6, l7, l8⟩ := hlv
      have hstep := step_going_returned (P := P) (fr := frX) (c := { { fr with defers := l' } with mode := m' }) (cs := cs) (w := w') l4 ⟨l2, l3, fnX, l6, l7⟩
      refine .step hstep ?_
      exact leave_sound hQ ds (settleU u') h' hq _ j' w' (settle_modeR hm') (t3.mono hext.1) hE' hfn hf hk hr S' (hg.mono hext.1) hx' (by omega)
    | pan ch =>
      obtain ⟨l1, ch', l2, l3, l4, l5, ⟨fnX, l6⟩, l7⟩ := hlv
      have hstep := step_going_panicked (P := P) (fr := frX) (c := { { fr with defers := l' } with mode := m' }) (cs := cs) (w := w') (chain := ch') ⟨l2, l3, fnX, l6⟩
      refine .step hstep ?_
      exact leave_sound hQ ds (raisedU u' ch) h' hq _ j' w' (raised_modeR hm' l7) (t3.mono hext.1) hE' hfn hf hk hr S' (hg.mono hext.1) hx' (by omega)

theorem initE_get : ∀ {args : List Value} {i t : Nat} {v : Value}, (initE args i).get t = some v → i ≤ t ∧ args[t - i]? = some v
  | [], i, t, v, h => by simp [initE, AEnv.get] at h
  | a :: r, i, t, v, h => by
    simp only [initE, AEnv.get_cons] at h
    split at h
    · rename_i hit; subst hit; exact ⟨Nat.le_refl _, by simpa using h⟩
    · obtain ⟨h1, h2⟩ := initE_get h
      exact ⟨by omega, by rw [show t - i = (t - (i + 1)) + 1 by omega]; simpa using h2⟩

theorem st_end {b : Frame} {a : Act} {cs : List Frame} {w : World} (hb : b.roundOf = none) : step P (lone (mk b a []) cs w) = .next (lone { mk b a [] with mode := .returning } cs w) :=
  step_lone_go (by simp [stepG, stepG.exec, mk, hb])
theorem st_ret {b : Frame} {a : Act} {k : List Item} {cs : List Frame} {w : World} (hb : b.roundOf = none) : step P (lone (mk b a (.code .ret :: k)) cs w) = .next (lone { mk b a (.code .ret :: k) with mode := .returning } cs w) :=
  step_lone_go (by simp [stepG, stepG.exec, mk, hb])

theorem init_env {j : Inj} {args : List Value} {args' : Array Value} (ha : LR j args args'.toList) {n : Nat} (hn : args.length ≤ n) : EnvR j n (initE args 0) (args' ++ Array.replicate (n - args'.size) undef) := by
  have hl : args'.size = args.length := by simpa using ha.length.symm
  refine ⟨by simp; omega, fun t v ht => ?_⟩
  obtain ⟨_, h2⟩ := initE_get ht
  simp only [Nat.sub_zero] at h2
  obtain ⟨v', h3, h4⟩ := ha.get h2
  have hlt : t < args'.size := by rw [hl]; exact (List.getElem?_eq_some_iff.1 h2).1
  exact ⟨v', by rw [Array.getElem?_append_left hlt]; simpa using h3, h4⟩

/-- a contract, out of the function's body -/
theorem spec_of_body (hm : P.follows .mixedOrders = true) {f : FuncId} {fn : Func} {c : Code} (ann : Ann) (hf : P.funcs[f]? = some fn) (hb : fn.body = some c) (hname : (fn.name == "runtime.NumGoroutine") = false)
    (hok : okCode P fn.ntmps c = true) {args : List Value} (ha : args.length ≤ fn.ntmps) {h : AHeap} {Q : Res → AHeap → Prop}
    (hw : fnW P gs fn c ann args h .norm fun r _ h' => Q r h') : Spec P gs f args h Q := by
  refine ⟨⟨fn, hf, by rw [hb]; rfl, hname⟩, ?_⟩
  intro G F w0 j w args' cs S hA hg hK
  let b : Frame := { fn := f, tmps := #[], todo := [], defers := [], mode := .run, kind := .normal, roundOf := none }
  have henter : Frame.enter P f args' .normal = mk b ⟨args' ++ Array.replicate (fn.ntmps - args'.size) undef, []⟩ [.code c] := by
    simp [Frame.enter, mk, hf, hb, b]
  rw [henter]
  let X : Cx := { F, w0, j0 := j, h0 := h, cs0 := cs, b, n := fn.ntmps, gs, dom := S.dom }
  have hR : Rel X j ⟨initE args 0, [], h, .norm⟩ ⟨args' ++ Array.replicate (fn.ntmps - args'.size) undef, []⟩ cs w :=
    ⟨⟨S, .nil, ⟨rfl, rfl⟩, .inl rfl, fun _ => rfl, hg, j.ext_refl _, Nat.le_refl _⟩, init_env hA ha⟩
  refine wpc_sound hm (X := X) (Array.getElem?_eq_some_iff.1 hf).1 (G := G) c ann _ _ hok hw j _ cs w [] hR ?_
  intro x s' j' a' cs' w' hx hR'
  have hleave : ∀ (u : UMode) (todo : List Item) (m : FrameMode), leaveW P (SpecD P gs) fn.results.toList s'.e s'.ds u s'.h (fun r h => Q r h) → modeR j' u m → s'.u = .norm → Ends P G (lone { mk b a' todo with mode := m } cs' w') := by
    intro u todo m hl hm' hu
    have hcs : cs' = cs := hR'.1.norm (.inl hu)
    subst hcs
    exact leave_sound (n := fn.ntmps) (kd := .normal) (f := f) hK s'.ds u s'.h hl _ j' w' hm' hR'.1.ds hR'.2 hf rfl rfl rfl hR'.1.sim hR'.1.glob hR'.1.ext hR'.1.len
  have hnorm : s'.u = .norm := by
    have := hR'.1.um
    cases hu : s'.u with
    | norm => rfl
    | round => rw [hu] at this; simp [UR, X, b] at this
    | ret => rw [hu] at this; simp [UR, X, b] at this
    | pan ch => rw [hu] at this; simp [UR, X, b] at this
  cases x with
  | normal => exact .step (st_end rfl) (hleave .ret [] _ hx rfl hnorm)
  | ret => intro k'; exact .step (st_ret rfl) (hleave .ret _ _ hx rfl hnorm)
  | exit id => exact hx.elim
  | panic ch => intro k' ch' hch; exact hleave (.pan ch) k' _ hx ⟨ch', rfl, hch⟩ hnorm

theorem UR_modeR {j : Inj} {u : UMode} {m : FrameMode} (h : modeR j u m) {b : Frame} (hk : b.kind = .deferred) (hr : b.roundOf = none) {c : Frame} {cs : List Frame} (hc : c.mode = m) : UR j u b (c :: cs) := by
  cases u with
  | norm => exact h.elim
  | round => exact h.elim
  | ret => exact ⟨hk, hr, c, cs, rfl, hc.trans h⟩
  | pan ch => obtain ⟨ch', h1, h2⟩ := h; exact ⟨hk, hr, c, cs, ch', rfl, hc.trans h1, h2⟩

/-- a deferred call's contract, out of the function's body -/
theorem specD_of_body (hm : P.follows .mixedOrders = true) {f : FuncId} {fn : Func} {c : Code} (ann : Ann) (hf : P.funcs[f]? = some fn) (hb : fn.body = some c) (hname : (fn.name == "runtime.NumGoroutine") = false)
    (hok : okCode P fn.ntmps c = true) {args : List Value} (ha : args.length ≤ fn.ntmps) {h : AHeap} {u : UMode} {Q : Res → UMode → AHeap → Prop}
    (hw : fnW P gs fn c ann args h u Q) : SpecD P gs f args h u Q := by
  refine ⟨⟨fn, hf, by rw [hb]; rfl, hname⟩, ?_⟩
  intro G F w0 j w args' c0 cs S hA hg hmode hK
  let b : Frame := { fn := f, tmps := #[], todo := [], defers := [], mode := .run, kind := .deferred, roundOf := none }
  have henter : Frame.enter P f args' .deferred = mk b ⟨args' ++ Array.replicate (fn.ntmps - args'.size) undef, []⟩ [.code c] := by
    simp [Frame.enter, mk, hf, hb, b]
  rw [henter]
  let X : Cx := { F, w0, j0 := j, h0 := h, cs0 := c0 :: cs, b, n := fn.ntmps, gs, dom := S.dom }
  have hun : u ≠ .norm ∧ u ≠ .round := by constructor <;> (intro e; subst e; exact hmode.elim)
  have hR : Rel X j ⟨initE args 0, [], h, u⟩ ⟨args' ++ Array.replicate (fn.ntmps - args'.size) undef, []⟩ (c0 :: cs) w :=
    ⟨⟨S, .nil, UR_modeR hmode rfl rfl rfl, .inl rfl, fun _ => rfl, hg, j.ext_refl _, Nat.le_refl _⟩, init_env hA ha⟩
  refine wpc_sound hm (X := X) (Array.getElem?_eq_some_iff.1 hf).1 (G := G) c ann _ _ hok hw j _ (c0 :: cs) w [] hR ?_
  intro x s' j' a' cs' w' hx hR'
  have hcr : ∃ m', cs' = { c0 with mode := m' } :: cs ∧ modeR j' s'.u m' := by
    have hum := hR'.1.um
    have hcall := hR'.1.callers
    have key : ∀ m', cs' = { c0 with mode := m' } :: cs → modeR j' s'.u m' := by
      intro m' hcs
      cases hu : s'.u with
      | norm => rw [hu] at hum; simp [UR, X, b] at hum
      | round => rw [hu] at hum; simp [UR, X, b] at hum
      | ret =>
        rw [hu] at hum
        obtain ⟨_, _, c1, r1, e1, e2⟩ := hum
        rw [hcs] at e1; injection e1 with e1 e3; subst e1; exact e2
      | pan ch =>
        rw [hu] at hum
        obtain ⟨_, _, c1, r1, ch', e1, e2, e3⟩ := hum
        rw [hcs] at e1; injection e1 with e1 e4; subst e1; exact ⟨ch', e2, e3⟩
    rcases hcall with rfl | ⟨c1, r1, m, e1, e2⟩
    · exact ⟨c0.mode, rfl, key _ rfl⟩
    · injection e1 with e3 e4; subst e3 e4
      exact ⟨m, e2, key m e2⟩
  obtain ⟨m', hcs, hm'⟩ := hcr
  subst hcs
  have hleave : ∀ (uu : UMode) (todo : List Item) (m : FrameMode), leaveW P (SpecD P gs) fn.results.toList s'.e s'.ds uu s'.h (fun r h => Q r s'.u h) → modeR j' uu m → Ends P G (lone { mk b a' todo with mode := m } ({ c0 with mode := m' } :: cs) w') := by
    intro uu todo m hl hmm
    refine leave_sound (n := fn.ntmps) (kd := .deferred) (f := f) (j0 := j') (h0 := s'.h) (Q := fun r h => Q r s'.u h) ?_ s'.ds uu s'.h hl _ j' w' hmm hR'.1.ds hR'.2 hf rfl rfl rfl hR'.1.sim hR'.1.glob (j'.ext_refl _) (Nat.le_refl _)
    intro r h2 j2 w2 fr2 hq hx2 hl2 S2 hlv2
    exact hK r s'.u h2 j2 w2 fr2 m' hq (Inj.ext_trans hR'.1.ext hR'.1.len hx2) (Nat.le_trans hR'.1.len hl2) S2 (hm'.mono hx2.1) hlv2
  cases x with
  | normal => exact .step (st_end rfl) (hleave .ret [] _ hx rfl)
  | ret => intro k'; exact .step (st_ret rfl) (hleave .ret _ _ hx rfl)
  | exit id => exact hx.elim
  | panic ch => intro k' ch' hch; exact hleave (.pan ch) k' _ hx ⟨ch', rfl, hch⟩

end Go.Fm
