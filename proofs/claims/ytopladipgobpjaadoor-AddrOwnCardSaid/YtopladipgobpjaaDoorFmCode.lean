/-
  FmCode: code and functions: weakest preconditions, and that they are good for the machine.
-/
import Derived.Test.YtopladipgobpjaaDoorFmDrawEnd
import Derived.Test.YtopladipgobpjaaDoorFmGc2
import Derived.Defers
namespace Go.Fm

def Ann.l : Ann → Ann
  | .leaf => .leaf
  | .node _ a _ => a
def Ann.r : Ann → Ann
  | .leaf => .leaf
  | .node _ _ b => b
def keepA (ann : Ann) (s : St) : St :=
  match ann with
  | .leaf => s
  | .node live _ _ => keep live s

def condW (v : Option Value) (t f : Prop) : Prop :=
  match v with
  | some (.bool b) => if b = true then t else f
  | _ => False

def gdOf (L : List Oper) (j : Nat) : Option Nat :=
  match L[j]? with
  | some o => o.dst
  | none => none

section
variable (P : Program) (gs : List Nat) (n : Nat) (S : FSpec)

def jumpW (K : Kont) (s : St) : Option Code → Prop
  | none => K .normal s
  | some .ret => K .ret s
  | some (.exit id) => K (.exit id) s
  | _ => False

/-- a loop over a function is over -/
def endLoopW (l : Nat) (K : Kont) (s : St) : Prop :=
  match s.h[l]? with
  | some (.spec (.loop _ _ _ _ _ _ st pd _)) => match st with
    | .busy => False
    | _ => jumpW K { s with h := s.h.set l (.spec .over) } pd
  | _ => False

def afterRange (l : Nat) (K : Kont) (s : St) : Res → AHeap → Prop
  | .pan ch, h' => K (.panic ch) { s with h := h' }
  | .ret _, h' => endLoopW l K { s with h := h' }

def rangeW (v : Option Value) (ps : List Nat) (x y : Code) (K : Kont) (s : St) : Prop :=
  match s.u with
  | .round => False
  | _ => match v with
    | some (.func (.func g) first cap) =>
      hasBody P g = true ∧ S (.fn g) (first.toList ++ (.func (.yield (s.h.length + 1)) #[] #[] :: cap.toList)) (s.h ++ [.spec .defq] ++ [.spec (.loop s.e n P.funcs.size ps x y .ready none s.h.length)])
        (afterRange (s.h.length + 1) K { s with ds := .mark s.h.length :: s.ds })
    | _ => False

variable (n0 : Nat)

def wpc : Code → Ann → Kont → St → Prop
  | .skip, _, K, s | .label _, _, K, s => K .normal s
  | .seq x y, ann, K, s => wpc x ann.l (K.seq fun s' => wpc y ann.r K (keepA ann s')) s
  | .cond c x y, ann, K, s => condW (ev gs s.e c) (wpc x ann.l K s) (wpc y ann.r K s)
  | .block id c, ann, K, s => wpc c ann.l (K.block id) s
  | .scope c, ann, K, s => wpc c ann.l K s
  | .loop c, ann, K, s => loopW gs n0 (fun K' s' => wpc c ann.l K' (keepA ann s')) K s
  | .exit id, _, K, s => K (.exit id) s
  | .ret, _, K, s => K .ret s
  | .region _ ops true, _, K, s => drawW P gs S ops.toList s (K .normal) (fun ch => K (.panic ch))
  | .region _ ops false, _, K, s => opsW P gs n S (gdOf ops.toList) ops.toList s (K .normal) (fun ch => K (.panic ch))
  | .rangeFunc f ps x y, _, K, s => rangeW P n S (ev gs s.e f) ps.toList x y K s
  | _, _, _, _ => False

def okCode : Code → Bool
  | .seq x y => okCode x && okCode y
  | .cond _ x y => okCode x && okCode y
  | .block _ c | .scope c | .loop c => okCode c
  | .region _ ops true => tameB P n ops.toList
  | _ => true

/-- a loop's state -/
def setLoop (l : Nat) (st : LoopState) (pd : Option Code) (h : AHeap) : Option AHeap :=
  match h[l]? with
  | some (.spec (.loop e n m ps x y _ _ dq)) => some (h.set l (.spec (.loop e n m ps x y st pd dq)))
  | _ => none

def busyLoop (l : Nat) (h : AHeap) : Option AHeap :=
  match h[l]? with
  | some (.spec (.loop e n m ps x y .ready pd dq)) => some (h.set l (.spec (.loop e n m ps x y .busy pd dq)))
  | _ => none

/-- the ways out of a round -/
def roundK (l : Nat) (Q : Res → AHeap → Prop) : Kont
  | .normal, s => bnd (setLoop l .ready none s.h) fun h => Q (.ret (.bool true)) h
  | .ret, s => bnd (setLoop l .done (some .ret) s.h) fun h => Q (.ret (.bool false)) h
  | .exit id, s => bnd (setLoop l .done (some (.exit id)) s.h) fun h => Q (.ret (.bool false)) h
  | .panic ch, s => match s.ds with
    | [] => Q (.pan ch) s.h
    | _ => False

def putAll : List Nat → List Value → AEnv → AEnv
  | t :: r, v :: vs, e => putAll r vs ((t, v) :: e)
  | _, _, e => e

def beginW (l : Nat) (k : St → Prop) (s : St) : Prop := bnd (busyLoop l s.h) fun h => k { s with h := h }

def assignK (l : Nat) (k : St → Prop) (Q : Res → AHeap → Prop) : Kont
  | .normal, s => beginW l k s
  | .panic ch, s => match s.ds with
    | [] => Q (.pan ch) s.h
    | _ => False
  | _, _ => False

/-- a round, by its loop's record -/
def yieldW (l : Nat) (args : List Value) (h : AHeap) (Q : Res → AHeap → Prop) : Prop :=
  match h[l]? with
  | some (.spec (.loop e n m ps x y _ _ _)) =>
    (Nat.beq args.length ps.length && (Nat.beq m P.funcs.size && (ps.all (Nat.blt · n) && (okCode P n x && okCode P n y)))) = true ∧
      wpc P gs n S h.length x .leaf (assignK l (fun s => wpc P gs n S h.length y .leaf (roundK l Q) s) Q) ⟨putAll ps args e, [], h, .round⟩
  | _ => False

end

variable {P : Program}

/-! ## a region in the order of its text -/

theorem putW_sound {X : Cx} {j : Inj} {s : St} {tmps : Array Value} {df : List Deferred} {cs : List Frame} {w : World} {dst : Option Nat} {v v' : Value} {k : St → Prop} (hR : RelM X j s df cs w) (hE : EnvR j X.n s.e tmps) (hv : VR j v v')
    (h : putW X.n dst v s k) : ∃ s', k s' ∧ Rel X j s' (Act.put ⟨tmps, df⟩ dst v') cs w := by
  unfold putW at h
  split at h
  · rename_i d
    cases hb : Nat.blt d X.n with
    | false => rw [hb] at h; exact h.elim
    | true =>
      rw [hb] at h
      rw [Nat.blt_eq] at hb
      exact ⟨_, h, hR.env_eq rfl rfl rfl, hE.put hb hv⟩
  · exact ⟨s, h, hR, hE⟩

theorem opsW_sound {X : Cx} {ops : Array Oper} {k : List Item} {G : Machine → Prop} {kk : St → Prop} {pan : Chain → St → Prop}
    (hK : ∀ s' j' a' cs' w', kk s' → Rel X j' s' a' cs' w' → Ends P G (lone (mk X.b a' k) cs' w'))
    (hP : ∀ ch s' j' ch' a' cs' w' k', pan ch s' → Rel X j' s' a' cs' w' → ChR j' ch ch' → Ends P G (lone { mk X.b a' k' with mode := .panicking ch' } cs' w')) :
    ∀ (rest pre : List Oper), ops.toList = pre ++ rest → ∀ (s : St) (j : Inj) (a : Act) (cs : List Frame) (w : World), Rel X j s a cs w →
      opsW P X.gs X.n (SpecC P X.gs) (gdOf ops.toList) rest s kk pan → Ends P G (lone (mk X.b a (.inRegion ops (List.range' pre.length rest.length) :: k)) cs w)
  | [], pre, _, s, j, a, cs, w, hR, h => .step st_regionEnd (hK s j a cs w h hR)
  | o :: rest, pre, hL, s, j, a, cs, w, hR, h => by
    have hio : ops[pre.length]? = some o := by rw [← Array.getElem?_toList, hL]; simp
    have hL' : ops.toList = (pre ++ [o]) ++ rest := by rw [hL]; simp
    have ih := opsW_sound hK hP rest (pre ++ [o]) hL'
    simp only [List.length_append, List.length_singleton] at ih
    simp only [List.length_cons, List.range'_succ]
    simp only [opsW, operW] at h
    have hval : ∀ v s' j' v' df' cs' w', putW X.n o.dst v s' (fun s' => opsW P X.gs X.n (SpecC P X.gs) (gdOf ops.toList) rest s' kk pan) → s'.e = s.e → j.ext s.h.length j' → RelM X j' s' df' cs' w' → VR j' v v' →
        Ends P G (lone (mk X.b (Act.put ⟨a.tmps, df'⟩ o.dst v') (.inRegion ops (List.range' (pre.length + 1) rest.length) :: k)) cs' w') := by
      intro v s' j' v' df' cs' w' hp he hx hr hv
      have hE : EnvR j' X.n s'.e a.tmps := by rw [he]; exact hR.2.mono hx.1
      obtain ⟨s2, h1, h2⟩ := putW_sound hr hE hv hp
      exact ih s2 j' _ cs' w' h2 h1
    have hop : ∀ (hw : Region.wanted o (yielded ops a.tmps) = true), opW P (SpecC P X.gs) (ev X.gs s.e) o.op s (fun v s' => putW X.n o.dst v s' (fun s' => opsW P X.gs X.n (SpecC P X.gs) (gdOf ops.toList) rest s' kk pan)) pan →
        Ends P G (lone (mk X.b a (.inRegion ops (pre.length :: List.range' (pre.length + 1) rest.length) :: k)) cs w) := by
      intro hw ho
      refine opW_sound hR.1 (ev_rel hR.2 hR.1.glob) hio hw ho ⟨fun v s' j' v' df' cs' w' hn he hx _ hr hv => hval v s' j' v' df' cs' w' hn he hx hr hv, ?_⟩
      intro ch s' j' ch' w' hp he hx hr hch
      exact hP ch s' j' ch' a cs w' _ hp ⟨hr, by rw [he]; exact hR.2.mono hx.1⟩ hch
    split at h
    · rename_i hg
      exact hop (by simp [Region.wanted, hg]) h
    · rename_i g want hg
      unfold guardK at h
      split at h
      · rename_i b hb
        have hy : Region.wanted o (yielded ops a.tmps) = (b == want) := by
          obtain ⟨d, hd, hb⟩ := bind_some' hb
          unfold gdOf at hd
          split at hd
          · rename_i og hog
            obtain ⟨v', h1, h2⟩ := hR.2.2 d _ hb
            cases h2
            have hog' : ops[g]? = some og := by rw [← Array.getElem?_toList]; exact hog
            simp [Region.wanted, hg, yielded, hog', hd, h1]
          · simp at hd
        split at h
        · rename_i hbw; subst hbw
          exact hop (by rw [hy]; simp) h
        · rename_i hbw
          have hw' : Region.wanted o (yielded ops a.tmps) = false := by rw [hy]; cases b <;> cases want <;> simp_all
          have hstep := st_opSkip (P := P) (b := X.b) (a := a) (k := k) (cs := cs) (w := w) (ops := ops) (i := pre.length) (rest := List.range' (pre.length + 1) rest.length) (by rw [hio]; simpa using hw')
          rw [hio] at hstep
          simp only [Option.bind_some] at hstep
          exact .step hstep (hval undefV s j undef a.defers cs w h rfl (j.ext_refl _) hR.1 (VR.tuple' .nil))
      · rename_i x hb
        have hw' : Region.wanted o (yielded ops a.tmps) = false := by
          obtain ⟨d, hd, hb⟩ := bind_some' hb
          unfold gdOf at hd
          split at hd
          · rename_i og hog
            obtain ⟨v', h1, h2⟩ := hR.2.2 d _ hb
            cases h2
            have hog' : ops[g]? = some og := by rw [← Array.getElem?_toList]; exact hog
            simp [Region.wanted, hg, yielded, hog', hd, h1]
          · simp at hd
        have hstep := st_opSkip (P := P) (b := X.b) (a := a) (k := k) (cs := cs) (w := w) (ops := ops) (i := pre.length) (rest := List.range' (pre.length + 1) rest.length) (by rw [hio]; simpa using hw')
        rw [hio] at hstep
        simp only [Option.bind_some] at hstep
        exact .step hstep (hval undefV s j undef a.defers cs w h rfl (j.ext_refl _) hR.1 (VR.tuple' .nil))
      · exact h.elim

/-! ## loops over functions -/

theorem run_getLoop {w : World} {B : Nat} {r : Loop} (h : w.heap[B]? = some (.loop r)) : (Instr.getLoop B).run P w = .ok r w := by
  simp [Instr.getLoop, run_getObj' h (by simp)]

section
variable {F : Nat → Nat → Prop} {w0 w : World} {j : Inj} {h h' : AHeap} {l : Nat} {L : Loc}

theorem setLoop_sim (S : Sim F w0 j h w) (hj : j l = some L) {st : LoopState} {pd : Option Code} (e : setLoop l st pd h = some h') :
    ∃ r w', (Instr.getLoop L.blk).run P w = .ok r w ∧ (setObj L.blk (.loop { r with state := st, pending := pd })).run P w = .ok () w' ∧ Sim F w0 j h' w' ∧ h'.length = h.length := by
  unfold setLoop at e
  split at e
  · rename_i e0 n m ps x y st0 pd0 dq hl
    injection e with e; subst e
    have ho := S.obj l L hj
    rw [hl] at ho
    obtain ⟨hoff, y0, hy, fn, tmps, Lq, hfn, rfl, hE, hq⟩ := ho
    refine ⟨_, _, run_getLoop hy, run_setObj' hy (by simp), ?_, by simp⟩
    exact obj_turn S hj hl hy trivial trivial (fun B y => Iff.rfl) (fun B y => Iff.rfl) (fun w' hw' => ⟨hoff, _, hw', fn, tmps, Lq, hfn, rfl, hE, hq⟩)
  · simp at e

theorem endRound_sim (S : Sim F w0 j h w) (hj : j l = some L) {jump : Option Code} (e : setLoop l (if jump.isNone = true then .ready else .done) jump h = some h') :
    ∃ w', (Instr.endRound L.blk jump).run P w = .ok (.bool jump.isNone) w' ∧ Sim F w0 j h' w' ∧ h'.length = h.length := by
  obtain ⟨r, w', h1, h2, h3, h4⟩ := setLoop_sim (P := P) S hj e
  exact ⟨w', by simp only [Instr.endRound, Sem.run_bind, h1, Result.andThen_ok, h2, Sem.run_pure], h3, h4⟩

theorem beginRound_sim (S : Sim F w0 j h w) (hj : j l = some L) (e : busyLoop l h = some h') :
    ∃ w', (Instr.beginRound L.blk).run P w = .ok () w' ∧ Sim F w0 j h' w' ∧ h'.length = h.length := by
  unfold busyLoop at e
  split at e
  · rename_i e0 n m ps x y pd0 dq hl
    injection e with e; subst e
    have ho := S.obj l L hj
    rw [hl] at ho
    obtain ⟨hoff, y0, hy, fn, tmps, Lq, hfn, rfl, hE, hq⟩ := ho
    refine ⟨{ w with heap := w.heap.setIfInBounds L.blk (.loop { state := .busy, pending := pd0, fn := fn, tmps := tmps, params := ps.toArray, assign := x, body := y, defers := Lq.blk }) }, ?_, ?_, by simp⟩
    · simp only [Instr.beginRound, Sem.run_bind, run_getLoop hy, Result.andThen_ok, run_setObj' hy (by simp), Sem.run_pure]
    · exact obj_turn S hj hl hy trivial trivial (fun B y => Iff.rfl) (fun B y => Iff.rfl) (fun w' hw' => ⟨hoff, _, hw', fn, tmps, Lq, hfn, rfl, hE, hq⟩)
  · simp at e

theorem endLoop_sim {K : Kont} {s : St} (S : Sim F w0 j s.h w) (hj : j l = some L) (e : endLoopW l K s) :
    ∃ jump w', (Instr.endLoop L.blk).run P w = .ok jump w' ∧ Sim F w0 j (s.h.set l (.spec .over)) w' ∧ jumpW K { s with h := s.h.set l (.spec .over) } jump := by
  unfold endLoopW at e
  split at e
  · rename_i e0 n m ps x y st0 pd0 dq hl
    have ho := S.obj l L hj
    rw [hl] at ho
    obtain ⟨hoff, y0, hy, fn, tmps, Lq, hfn, rfl, hE, hq⟩ := ho
    have hb : st0 ≠ .busy := by intro hb; subst hb; exact e
    have hk : jumpW K { s with h := s.h.set l (.spec .over) } pd0 := by
      cases st0 with
      | busy => exact absurd rfl hb
      | _ => exact e
    have hb' : (st0 == LoopState.busy) = false := by cases st0 <;> first | rfl | exact absurd rfl hb
    refine ⟨pd0, { w with heap := w.heap.setIfInBounds L.blk (.loop { state := .exhausted, pending := pd0, fn := fn, tmps := tmps, params := ps.toArray, assign := x, body := y, defers := Lq.blk }) }, ?_, ?_, hk⟩
    · simp only [Instr.endLoop, Sem.run_bind, run_getLoop hy, Result.andThen_ok, hb', Bool.false_eq_true, if_false, run_setObj' hy (by simp), Sem.run_pure]
    · exact obj_turn S hj hl hy trivial trivial (fun B y => Iff.rfl) (fun B y => Iff.rfl) (fun w' hw' => ⟨hoff, _, hw', by simp [SpecR]⟩)
  · exact e.elim

theorem putAll_env {n : Nat} : ∀ {ps : List Nat} {as : List Value} {as' : List Value} {e : AEnv} {tmps : Array Value}, EnvR j n e tmps → LR j as as' → (ps.all (Nat.blt · n)) = true →
    EnvR j n (putAll ps as e) ((ps.zip as').foldl (fun tmps (t, a) => tmps.setIfInBounds t a) tmps)
  | [], as, as', e, tmps, hE, _, _ => by simpa [putAll] using hE
  | t :: r, [], _, e, tmps, hE, .nil, _ => by simpa [putAll] using hE
  | t :: r, v :: vs, _, e, tmps, hE, .cons hv hl, hp => by
    simp only [List.all_cons, Bool.and_eq_true, Nat.blt_eq] at hp
    simp only [putAll, List.zip_cons_cons, List.foldl_cons]
    exact putAll_env (hE.put hp.1 hv) hl hp.2

end

/-! ## code -/

theorem After.pass {G : Machine → Prop} {b : Frame} {k : List Item} {x : AExit} {j : Inj} {a : Act} {cs : List Frame} {w : World} {it : Item} (hx : x ≠ .normal) (hit : ∀ id, exitTo id (it :: k) = exitTo id k)
    (h : After P G b k x j a cs w) : After P G b (it :: k) x j a cs w := by
  cases x with
  | normal => exact absurd rfl hx
  | exit id => exact ⟨fun k' hk => h.1 k' (by rw [← hit]; exact hk), fun hn => h.2 (by rw [← hit]; exact hn)⟩
  | ret => exact h
  | panic ch => exact h

theorem wpc_sound (hm : P.follows .mixedOrders = true) {X : Cx} (hfn : X.b.fn < P.funcs.size) {G : Machine → Prop} : ∀ (c : Code) (ann : Ann) (K : Kont) (s : St), okCode P X.n c = true → wpc P X.gs X.n (SpecC P X.gs) X.h0.length c ann K s →
    ∀ (j : Inj) (a : Act) (cs : List Frame) (w : World) (k : List Item), Rel X j s a cs w →
      (∀ x s' j' a' cs' w', K x s' → Rel X j' s' a' cs' w' → After P G X.b k x j' a' cs' w') → Ends P G (lone (mk X.b a (.code c :: k)) cs w) := by
  intro c
  induction c with
  | skip => intro ann K s _ h j a cs w k hR hK; exact .step st_skip (hK .normal s j a cs w h hR)
  | label l => intro ann K s _ h j a cs w k hR hK; exact .step st_label (hK .normal s j a cs w h hR)
  | seq x y ihx ihy =>
    intro ann K s hok h j a cs w k hR hK
    simp only [okCode, Bool.and_eq_true] at hok
    simp only [wpc] at h
    refine .step st_seq (ihx _ _ s hok.1 h j a cs w _ hR ?_)
    intro x s' j' a' cs' w' hx hR'
    cases x with
    | normal =>
      refine ihy _ K _ hok.2 hx j' a' cs' w' k ?_ hK
      cases ann with
      | leaf => exact hR'
      | node live _ _ => exact hR'.keep live
    | exit id => exact After.pass (by simp) (fun id => rfl) (hK _ s' j' a' cs' w' hx hR')
    | ret => exact After.pass (by simp) (fun id => rfl) (hK _ s' j' a' cs' w' hx hR')
    | panic ch => exact After.pass (by simp) (fun id => rfl) (hK _ s' j' a' cs' w' hx hR')
  | cond c x y ihx ihy =>
    intro ann K s hok h j a cs w k hR hK
    simp only [okCode, Bool.and_eq_true] at hok
    simp only [wpc] at h
    unfold condW at h
    split at h
    · rename_i b hb
      have hv := ev_rel hR.2 hR.1.glob c _ hb
      have hc : a.eval c = .bool b := by revert hv; cases a.eval c <;> intro q <;> cases q; rfl
      refine .step (st_cond hc) ?_
      cases b with
      | true => exact ihx _ K s hok.1 (by simpa using h) j a cs w k hR hK
      | false => exact ihy _ K s hok.2 (by simpa using h) j a cs w k hR hK
    · exact h.elim
  | block id c ih =>
    intro ann K s hok h j a cs w k hR hK
    simp only [okCode] at hok
    simp only [wpc] at h
    refine .step st_block (ih _ _ s hok h j a cs w _ hR ?_)
    intro x s' j' a' cs' w' hx hR'
    cases x with
    | normal => exact .step st_inBlock (hK .normal s' j' a' cs' w' hx hR')
    | exit id' =>
      simp only [Kont.block] at hx
      split at hx
      · rename_i hid
        subst hid
        refine ⟨fun k' hk => ?_, fun hn => ?_⟩
        · simp [exitTo] at hk; subst hk; exact hK .normal s' j' a' cs' w' hx hR'
        · simp [exitTo] at hn
      · rename_i hid
        have hA := hK _ s' j' a' cs' w' hx hR'
        have he : exitTo id' (.inBlock id :: k) = exitTo id' k := by
          have : (id == id') = false := by simp; exact fun e => hid e.symm
          simp [exitTo, this]
        exact ⟨fun k' hk => hA.1 k' (by rw [← he]; exact hk), fun hn => hA.2 (by rw [← he]; exact hn)⟩
    | ret => exact hK .ret s' j' a' cs' w' hx hR'
    | panic ch => exact hK (.panic ch) s' j' a' cs' w' hx hR'
  | scope c ih =>
    intro ann K s hok h j a cs w k hR hK
    simp only [okCode] at hok
    simp only [wpc] at h
    refine .step st_scope (ih _ _ s hok h j a cs w _ hR ?_)
    intro x s' j' a' cs' w' hx hR'
    cases x with
    | normal => exact .step st_inScope (hK .normal s' j' a' cs' w' hx hR')
    | exit id => exact After.pass (by simp) (fun id => rfl) (hK _ s' j' a' cs' w' hx hR')
    | ret => exact After.pass (by simp) (fun id => rfl) (hK _ s' j' a' cs' w' hx hR')
    | panic ch => exact After.pass (by simp) (fun id => rfl) (hK _ s' j' a' cs' w' hx hR')
  | loop c ih =>
    intro ann K s hok h j a cs w k hR hK
    simp only [okCode] at hok
    simp only [wpc] at h
    have hX := h (fun s => ∀ j a cs w, Rel X j s a cs w → Ends P G (lone (mk X.b a (.code c :: .inLoop c :: k)) cs w)) (by
      intro s hs j a cs w hR
      have hR' : Rel X j (keepA ann s) a cs w := by
        cases ann with
        | leaf => exact hR
        | node live _ _ => exact hR.keep live
      refine ih _ _ _ hok hs j a cs w _ hR' ?_
      intro x s' j' a' cs' w' hx hR'
      cases x with
      | normal => exact .step st_inLoop (hx j' a' cs' w' hR')
      | exit id => exact After.pass (by simp) (fun id => rfl) (hK _ s' j' a' cs' w' hx hR')
      | ret => exact After.pass (by simp) (fun id => rfl) (hK _ s' j' a' cs' w' hx hR')
      | panic ch => exact After.pass (by simp) (fun id => rfl) (hK _ s' j' a' cs' w' hx hR'))
      (fun s s' hgc hs' j a cs w hR => by
        obtain ⟨j', hR'⟩ := hR.gc hgc
        exact hs' j' a cs w hR')
    exact .step st_loop (hX j a cs w hR)
  | exit id =>
    intro ann K s _ h j a cs w k hR hK
    have := hK (.exit id) s j a cs w h hR
    cases he : exitTo id k with
    | some k' => exact .step (st_exit he) (this.1 k' he)
    | none => exact this.2 he k he
  | ret => intro ann K s _ h j a cs w k hR hK; exact hK .ret s j a cs w h hR k
  | region id ops draw =>
    intro ann K s hok h j a cs w k hR hK
    cases draw with
    | true =>
      exact draw_sound hm hok hR h (fun s' j' a' cs' w' h1 h2 => hK .normal s' j' a' cs' w' h1 h2) (fun ch s' j' ch' a' cs' w' k' h1 h2 h3 => hK (.panic ch) s' j' a' cs' w' h1 h2 k' ch' h3)
    | false =>
      refine .step st_region ?_
      have := opsW_sound (P := P) (X := X) (ops := ops) (k := k) (G := G) (kk := K .normal) (pan := fun ch => K (.panic ch)) (fun s' j' a' cs' w' h1 h2 => hK .normal s' j' a' cs' w' h1 h2)
        (fun ch s' j' ch' a' cs' w' k' h1 h2 h3 => hK (.panic ch) s' j' a' cs' w' h1 h2 k' ch' h3) ops.toList [] rfl s j a cs w hR h
      rw [List.range_eq_range']
      simpa using this
  | rangeFunc f ps x y =>
    intro ann K s _ h j a cs w k hR hK
    simp only [wpc] at h
    unfold rangeW at h
    split at h
    · exact h.elim
    · rename_i hu
      split at h
      · rename_i g first cap hf
        have hro : X.b.roundOf = none := hR.1.um.roundOf hu
        have hv := ev_rel hR.2 hR.1.glob f _ hf
        obtain ⟨x', y', hv', hx', hy'⟩ : ∃ x' y', a.eval f = .func (.func g) x' y' ∧ LR j first.toList x'.toList ∧ LR j cap.toList y'.toList := by
          cases hc : a.eval f with
          | func fn x y =>
            rw [hc] at hv
            cases hv with
            | func _ h1 h2 h3 h4 => exact ⟨_, _, rfl, AR.toLR ⟨h1, h2⟩, AR.toLR ⟨h3, h4⟩⟩
          | _ => rw [hc] at hv; cases hv
        obtain ⟨hbody, h⟩ := h
        obtain ⟨hcall, hspec⟩ : Spec P X.gs g _ _ _ := h.resolve_right fun hx => by have := hx.1; rw [hbody] at this; cases this
        let w1 : World := { w with heap := w.heap.push (.deferred (some [])) }
        let lp : Loop := { state := .ready, pending := none, fn := X.b.fn, tmps := a.tmps, params := ps, assign := x, body := y, defers := w.heap.size }
        let w2 : World := { w1 with heap := w1.heap.push (.loop lp) }
        have henter : (Instr.enterLoop X.b.fn a.tmps ps x y X.b.roundOf).run P w = .ok (w.heap.size + 1, [{ target := .collected w.heap.size, args := #[] }]) w2 := by
          rw [hro]
          simp [Instr.enterLoop, newObj, Sem.run, w2, w1, lp]
        have hres : (resolve a.eval { callee := .value f, args := #[.const (.func (.yield (w.heap.size + 1)) #[] #[])], argTypes := #[] } 0).run P w2 =
            .ok { target := .fn (.func g) y', args := x' ++ #[.func (.yield (w.heap.size + 1)) #[] #[]] } w2 := by
          show (Deferred.ofValue (a.eval f) (#[.const (.func (.yield (w.heap.size + 1)) #[] #[])].map a.eval)).run P w2 = _
          rw [hv']
          simp [Deferred.ofValue, Act.eval]
        have hinv : (invoke (.fn (.func g) y') (x' ++ #[.func (.yield (w.heap.size + 1)) #[] #[]])).run P w2 = .ok (.enter g (x' ++ #[.func (.yield (w.heap.size + 1)) #[] #[]] ++ y')) w2 := run_callFunc hcall _ w2
        let Lq : Loc := ⟨w.heap.size, 0, 0, 0, 0⟩
        let Ll : Loc := ⟨w.heap.size + 1, 0, 0, 0, 0⟩
        have hw1 : w1.heap[w.heap.size]? = some (.deferred (some [])) := by
          show (w.heap.push (.deferred (some [])))[w.heap.size]? = _
          simp
        have hw2 : w2.heap[w.heap.size + 1]? = some (.loop lp) := by
          show ((w.heap.push (.deferred (some []))).push (.loop lp))[w.heap.size + 1]? = _
          rw [Array.getElem?_push]
          simp
        have S1 : Sim X.F X.w0 (j.put s.h.length Lq) (s.h ++ [.spec .defq]) w1 := hR.1.sim.new (L := Lq) rfl _ ⟨rfl, rfl, rfl⟩ rfl ⟨rfl, _, hw1, rfl⟩
        have hx1 : j.ext s.h.length (j.put s.h.length Lq) := Inj.put_ext hR.1.sim.fresh (Nat.le_refl _)
        have hlen1 : (s.h ++ [AObj.spec .defq]).length = s.h.length + 1 := by simp
        have hq1 : (j.put s.h.length Lq) s.h.length = some Lq := Inj.put_same _ _ _
        have hx2 : (j.put s.h.length Lq).ext (s.h.length + 1) ((j.put s.h.length Lq).put (s.h ++ [AObj.spec .defq]).length Ll) := Inj.put_ext S1.fresh (by simp)
        have S2 := S1.new (L := Ll) (by simp [Ll, w1]) (.spec (.loop s.e X.n P.funcs.size ps.toList x y .ready none s.h.length)) (w' := w2) ⟨rfl, rfl, rfl⟩ rfl
          ⟨rfl, _, hw2, X.b.fn, a.tmps, Lq, hfn, rfl, hR.2.mono (Inj.le_trans hx1.1 hx2.1), hx2.1 _ _ hq1⟩
        rw [hlen1] at S2 hx2
        have hx12 : j.ext s.h.length ((j.put s.h.length Lq).put (s.h.length + 1) Ll) := Inj.ext_trans hx1 (by omega) hx2
        have hl2 : ((j.put s.h.length Lq).put (s.h.length + 1) Ll) (s.h.length + 1) = some Ll := Inj.put_same _ _ _
        have harg : LR ((j.put s.h.length Lq).put (s.h.length + 1) Ll) (first.toList ++ (.func (.yield (s.h.length + 1)) #[] #[] :: cap.toList)) (x' ++ #[Value.func (Fn.yield (w.heap.size + 1)) #[] #[]] ++ y').toList := by
          simp only [Array.toList_append, List.append_assoc]
          exact (hx'.mono hx12.1).app (.cons (VR.yield hl2) (hy'.mono hx12.1))
        refine .step (st_rangeFunc henter hres hinv) ?_
        refine hspec G X.F X.w0 _ w2 _ _ S2 harg (hR.1.glob.mono hx12.1) ?_
        intro r h' j' w' fr hq hx hl hS hlv
        simp only [List.length_append, List.length_singleton] at hx hl
        have hxj : j.ext s.h.length j' := Inj.ext_trans hx12 (by omega) hx
        have hl' : j' (s.h.length + 1) = some Ll := hx.1 _ _ hl2
        have hq' : j' s.h.length = some Lq := hx.1 _ _ (hx2.1 _ _ hq1)
        have hrel : ∀ (h2 : AHeap) (w2 : World), Sim X.F X.w0 j' h2 w2 → s.h.length ≤ h2.length → Rel X j' { s with ds := .mark s.h.length :: s.ds, h := h2 } ⟨a.tmps, { target := .collected w.heap.size, args := #[] } :: a.defers⟩ cs w2 := fun h2 w2 S2 hl2 =>
          ⟨⟨S2, .mark hq' rfl (hR.1.ds.mono hxj.1), hR.1.um.mono hxj.1, hR.1.callers, hR.1.norm, hR.1.glob.mono hxj.1, Inj.ext_trans hR.1.ext hR.1.len hxj, Nat.le_trans hR.1.len hl2⟩, hR.2.mono hxj.1⟩
        cases r with
        | ret v =>
          obtain ⟨l1, l2, l3, l4, l5, fn, v', l6, l7, l8⟩ := hlv
          have hstep := step_leave_returned (P := P) (fr := fr) (c := mk X.b ⟨a.tmps, [{ target := .collected w.heap.size, args := #[] }] ++ a.defers⟩ (.inRangeFunc (w.heap.size + 1) :: k)) (cs := cs) (w := w') (v := v') ⟨l2, l3, l4, fn, l6, l7⟩
          rw [mk_finish_range] at hstep
          refine .step hstep ?_
          obtain ⟨jump, w3, k1, k2, k3⟩ := endLoop_sim (P := P) (s := { s with ds := .mark s.h.length :: s.ds, h := h' }) hS hl' hq
          refine .step (st_endRange k1) ?_
          have hR3 := hrel _ w3 k2 (by simp; omega)
          cases jump with
          | none => exact hK .normal _ j' _ cs w3 k3 hR3
          | some c =>
            cases c with
            | ret => exact hK .ret _ j' _ cs w3 k3 hR3 k
            | exit id =>
              have := hK (.exit id) _ j' _ cs w3 k3 hR3
              cases he : exitTo id k with
              | some k' => exact .step (st_exit he) (this.1 k' he)
              | none => exact this.2 he k he
            | _ => exact k3.elim
        | pan ch =>
          obtain ⟨l1, ch', l2, l3, l4, l5, ⟨fn, l6⟩, l7⟩ := hlv
          have hstep := step_leave_panicked (P := P) (fr := fr) (c := mk X.b ⟨a.tmps, [{ target := .collected w.heap.size, args := #[] }] ++ a.defers⟩ (.inRangeFunc (w.heap.size + 1) :: k)) (cs := cs) (w := w') (chain := ch') ⟨l2, l3, fn, l6⟩
          exact .step hstep (hK (.panic ch) _ j' _ cs w' hq (hrel h' w' hS (by omega)) _ ch' l7)
      · exact h.elim
  | goto l => intro ann K s _ h; exact h.elim
  | refuse y => intro ann K s _ h; exact h.elim

/-- a round's contract, out of its loop's record -/
theorem specY_of (hm : P.follows .mixedOrders = true) {gs : List Nat} {l : Nat} {args : List Value} {h : AHeap} {Q : Res → AHeap → Prop} (hw : yieldW P gs (SpecC P gs) l args h Q) : SpecY P gs l args h Q := by
  intro G F w0 j w args' c cs L S hA hg hj hr hp
  unfold yieldW at hw
  split at hw
  · rename_i e n m ps x y st pd dq hl
    obtain ⟨hchk, hwp⟩ := hw
    simp only [Bool.and_eq_true, Nat.beq_eq] at hchk
    obtain ⟨c1, c2, c3, c4, c5⟩ := hchk
    have ho := S.obj l L hj
    rw [hl] at ho
    obtain ⟨hoff, y0, hy, fn, tmps, Lq, hfn, rfl, hE, hq⟩ := ho
    have hsz : args'.size = ps.length := by rw [← c1]; simpa using hA.length.symm
    refine ⟨fn, (ps.zip args'.toList).foldl (fun tmps (t, a) => tmps.setIfInBounds t a) tmps, x, y, ?_, ?_⟩
    · have hz : (ps.toArray.zip args').foldl (fun tmps (t, a) => tmps.setIfInBounds t a) tmps = (ps.zip args'.toList).foldl (fun tmps (t, a) => tmps.setIfInBounds t a) tmps := by
        rw [← Array.foldl_toList]; simp
      simp only [Instr.yield, Sem.run_bind, run_getLoop hy, Result.andThen_ok]
      rw [if_neg (by simp [hsz])]
      simp only [Sem.run_pure, hz]
    · let b : Frame := { fn := fn, tmps := #[], todo := [], defers := [], mode := .run, kind := .normal, roundOf := some L.blk }
      let X : Cx := { F, w0, j0 := j, h0 := h, cs0 := c :: cs, b, n, gs, dom := S.dom }
      have hfn' : X.b.fn < P.funcs.size := by rw [← c2]; exact hfn
      have hR : Rel X j ⟨putAll ps args e, [], h, .round⟩ ⟨(ps.zip args'.toList).foldl (fun tmps (t, a) => tmps.setIfInBounds t a) tmps, []⟩ (c :: cs) w :=
        ⟨⟨S, .nil, rfl, .inl rfl, fun _ => rfl, hg, j.ext_refl _, Nat.le_refl _⟩, putAll_env hE hA c3⟩
      have hround : ∀ {s' : St} {j' : Inj} {cs' : List Frame}, UR j' s'.u X.b cs' → s'.u = .round := by
        intro s' j' cs' hum
        cases hu : s'.u with
        | norm => rw [hu] at hum; simp [UR, X, b] at hum
        | round => rfl
        | ret => rw [hu] at hum; simp [UR, X, b] at hum
        | pan ch => rw [hu] at hum; simp [UR, X, b] at hum
      have hpan : ∀ (s' : St) (j' : Inj) (a' : Act) (w' : World) (ch : Chain), (match s'.ds with | [] => Q (.pan ch) s'.h | _ => False) → Rel X j' s' a' (c :: cs) w' → ∀ k' ch', ChR j' ch ch' →
          Ends P G (lone { mk b a' k' with mode := .panicking ch' } (c :: cs) w') := by
        intro s' j' a' w' ch hq hR' k' ch' hch
        split at hq
        · rename_i hds
          have hdf : a'.defers = [] := by
            have hd := hR'.1.ds
            rw [hds] at hd
            revert hd; generalize a'.defers = q; intro hd; cases hd; rfl
          have hf : ∃ f, P.funcs[fn]? = some f := ⟨_, Array.getElem?_eq_getElem hfn'⟩
          obtain ⟨f, hf⟩ := hf
          have hstep := step_leave_panicked (P := P) (fr := { mk b a' k' with mode := .panicking ch' }) (c := c) (cs := cs) (w := w') (chain := ch') ⟨rfl, hdf, f, hf⟩
          exact .step hstep (hp ch s'.h j' w' ch' hq hR'.1.ext hR'.1.len hR'.1.sim hch)
        · exact hq.elim
      refine wpc_sound hm hfn' (X := X) (G := G) x .leaf _ _ c4 hwp j _ (c :: cs) w [.beginRound, .code y] hR ?_
      intro z s1 j1 a1 cs1 w1 hz hR1
      have hcs1 : cs1 = c :: cs := hR1.1.norm (.inr (hround hR1.1.um))
      subst hcs1
      have hj1 : j1 l = some L := hR1.1.ext.1 _ _ hj
      cases z with
      | normal =>
        obtain ⟨h2, hb, hk⟩ := bnd_some' hz
        obtain ⟨w2, k1, k2, k3⟩ := beginRound_sim (P := P) hR1.1.sim hj1 hb
        refine .step (st_beginRound rfl k1) ?_
        have hR2 : Rel X j1 { s1 with h := h2 } a1 (c :: cs) w2 := ⟨hR1.1.go (j1.ext_refl _) (by simp [k3]) k2 rfl rfl, hR1.2⟩
        refine wpc_sound hm hfn' (X := X) (G := G) y .leaf _ _ c5 hk j1 _ (c :: cs) w2 [] hR2 ?_
        intro z s3 j3 a3 cs3 w3 hz hR3
        have hcs3 : cs3 = c :: cs := hR3.1.norm (.inr (hround hR3.1.um))
        subst hcs3
        have hj3 : j3 l = some L := hR3.1.ext.1 _ _ hj
        cases z with
        | normal =>
          obtain ⟨h4, hb, hk⟩ := bnd_some' hz
          obtain ⟨w4, k1, k2, k3⟩ := endRound_sim (P := P) (jump := none) hR3.1.sim hj3 hb
          exact .step (st_roundEnd rfl rfl k1) (hr _ h4 j3 w4 _ hk hR3.1.ext (by rw [k3]; exact hR3.1.len) k2 (.bool _))
        | ret =>
          intro k'
          obtain ⟨h4, hb, hk⟩ := bnd_some' hz
          obtain ⟨w4, k1, k2, k3⟩ := endRound_sim (P := P) (jump := some .ret) hR3.1.sim hj3 hb
          exact .step (st_roundRet rfl rfl k1) (hr _ h4 j3 w4 _ hk hR3.1.ext (by rw [k3]; exact hR3.1.len) k2 (.bool _))
        | exit id =>
          refine ⟨fun k' hk' => by simp [exitTo] at hk', fun _ k' hk' => ?_⟩
          obtain ⟨h4, hb, hk⟩ := bnd_some' hz
          obtain ⟨w4, k1, k2, k3⟩ := endRound_sim (P := P) (jump := some (.exit id)) hR3.1.sim hj3 hb
          exact .step (st_roundExit rfl rfl hk' k1) (hr _ h4 j3 w4 _ hk hR3.1.ext (by rw [k3]; exact hR3.1.len) k2 (.bool _))
        | panic ch => exact hpan s3 j3 a3 w3 ch hz hR3
      | panic ch => exact hpan s1 j1 a1 w1 ch hz hR1
      | ret => exact hz.elim
      | exit id => exact hz.elim
  · exact hw.elim

end Go.Fm
