/-
  FmDrawEnd: a region that draws its order, from end to end.
-/
import Derived.Test.YtopladipgobpjaaDoorFmDrawRun
namespace Go.Fm

variable {P : Program}

theorem finishE_get {R : AEnv} : ∀ {L : List Oper} {i0 : Nat} {e : AEnv} {t : Nat} {v : Value}, (finishE R L i0 e).get t = some v →
    (∃ (i : Nat) (o : Oper), L[i]? = some o ∧ o.dst = some t ∧ R.get (i0 + i) = some v) ∨ (e.get t = some v ∧ ∀ (i : Nat) (o : Oper), L[i]? = some o → o.dst = some t → R.get (i0 + i) = none)
  | [], i0, e, t, v, h => .inr ⟨h, fun i o hi => by simp at hi⟩
  | o :: r, i0, e, t, v, h => by
    simp only [finishE] at h
    rcases finishE_get h with ⟨i, oi, h1, h2, h3⟩ | ⟨h1, h2⟩
    · left; exact ⟨i + 1, oi, by simpa using h1, h2, by rw [show i0 + (i + 1) = i0 + 1 + i by omega]; exact h3⟩
    · have hrest : ∀ (i : Nat) (oi : Oper), (o :: r)[i + 1]? = some oi → oi.dst = some t → R.get (i0 + (i + 1)) = none := by
        intro i oi hi hd
        have := h2 i oi (by simpa using hi) hd
        rw [show i0 + (i + 1) = i0 + 1 + i by omega]; exact this
      cases hd : o.dst with
      | none =>
        rw [hd] at h1
        right; refine ⟨h1, fun i oi hi hdi => ?_⟩
        cases i with
        | zero => simp at hi; subst hi; rw [hd] at hdi; simp at hdi
        | succ i => exact hrest i oi hi hdi
      | some d =>
        rw [hd] at h1
        simp only at h1
        cases hR : R.get i0 with
        | none =>
          rw [hR] at h1
          right; refine ⟨h1, fun i oi hi hdi => ?_⟩
          cases i with
          | zero => simp at hi; subst hi; simpa using hR
          | succ i => exact hrest i oi hi hdi
        | some u =>
          rw [hR] at h1
          simp only [AEnv.get_cons] at h1
          split at h1
          · rename_i hdt
            injection h1 with h1; subst h1
            left; exact ⟨0, o, by simp, by rw [hd, hdt], by simpa using hR⟩
          · rename_i hdt
            right; refine ⟨h1, fun i oi hi hdi => ?_⟩
            cases i with
            | zero => simp at hi; subst hi; rw [hd] at hdi; injection hdi with hdi; exact absurd hdi hdt
            | succ i => exact hrest i oi hi hdi

theorem dropE_get {ds : List Nat} : ∀ {e : AEnv} {t : Nat} {v : Value}, (dropE ds e).get t = some v → e.get t = some v ∧ t ∉ ds
  | [], t, v, h => by simp [dropE, AEnv.get] at h
  | (a, u) :: r, t, v, h => by
    unfold dropE at h
    rw [List.filter_cons] at h
    split at h
    · rename_i hc
      rw [AEnv.get_cons] at h ⊢
      split at h
      · rename_i hat
        subst hat
        rw [if_pos rfl]
        exact ⟨h, by simpa using hc⟩
      · rename_i hat
        rw [if_neg hat]
        exact dropE_get (e := r) h
    · rename_i hc
      have := dropE_get (e := r) h
      rw [AEnv.get_cons]
      have hne : a ≠ t := by
        intro e; subst e
        simp at hc; exact this.2 hc
      rw [if_neg hne]; exact this

theorem isEff_or (o : Oper) : isEff P o = true ∨ isEff P o = false := by cases isEff P o <;> simp

/-- a drawn order, from any point on -/
theorem draw_run {X : Cx} {L : List Oper} {e0 : AEnv} (T : Tame P X.n L) {ops : Array Oper} (hops : ops.toList = L) {k : List Item} {G : Machine → Prop} {kk : AEnv → St → Prop} {pan : Chain → St → Prop}
    (hK : ∀ R s j a cs w, kk R s → (∀ t v, (finishE R L 0 e0).get t = some v → ∃ v', a.tmps[t]? = some v' ∧ VR j v v') → a.tmps.size = X.n → RelM X j s a.defers cs w → Ends P G (lone (mk X.b a k) cs w))
    (hP : ∀ ch s j ch' a cs w k', pan ch s → s.e = e0 → (∀ t v, (dropE (dstsOf L) e0).get t = some v → ∃ v', a.tmps[t]? = some v' ∧ VR j v v') → a.tmps.size = X.n → RelM X j s a.defers cs w → ChR j ch ch' →
      Ends P G (lone { mk X.b a k' with mode := .panicking ch' } cs w)) :
    ∀ (τ : List Nat) (D : Nat → Prop), Sched L D τ → ∀ (done wr : List Nat) (R : AEnv) (pend : List Pd) (A : List (Nat × Nat)) (s : St) (j : Inj) (a : Act) (cs : List Frame) (w : World),
      Inv P X L e0 D done wr R pend A s j a cs w → CanonRest P X.gs (SpecC P X.gs) L (masks L []) (effs P L) e0 wr done.length R pend s kk pan →
      Ends P G (lone (mk X.b a (.inRegion ops τ :: k)) cs w) := by
  have hnd : (effs P L).Nodup := List.Nodup.sublist List.filter_sublist List.nodup_range
  intro τ
  induction τ with
  | nil =>
    intro D hS done wr R pend A s j a cs w I hC
    cases hS with
    | nil hall =>
      have hwr : wr = [] := by
        cases wr with
        | nil => rfl
        | cons x r =>
          exfalso
          have hx : x ∈ effs P L := by rw [I.ws]; simp
          obtain ⟨ox, h1, _⟩ := mem_effs.1 hx
          have hd := (I.eff x hx).1 (hall x (List.getElem?_eq_some_iff.1 h1).1)
          rw [I.ws] at hnd
          exact (List.nodup_append.1 hnd).2.2 x hd x (by simp) rfl
      subst hwr
      refine .step st_regionEnd (hK R s j a cs w hC ?_ I.size I.rel)
      intro t v ht
      rcases finishE_get ht with ⟨i, o, h1, h2, h3⟩ | ⟨h1, h2⟩
      · rw [Nat.zero_add] at h3
        exact I.vals i o v (hall i (List.getElem?_eq_some_iff.1 h1).1) h1 h3 t h2
      · refine I.rest t v h1 fun i o hi ho hd => ?_
        have := h2 i o ho hd
        rw [Nat.zero_add] at this
        -- everything has been done
        rcases isEff_or (P := P) o with he | he
        · obtain ⟨u, hu⟩ := I.doneR i ((I.eff i (mem_effs.2 ⟨o, ho, he⟩)).1 hi)
          rw [this] at hu; simp at hu
        · obtain ⟨u, hu⟩ := I.floatR i o ho he (I.lo T hnd ho (I.closed i o ho hi))
          rw [this] at hu; simp at hu
  | cons i τ ih =>
    intro D hS done wr R pend A s j a cs w I hC
    cases hS with
    | cons ho hni hp hS' =>
      rename_i o
      have hio : ops[i]? = some o := by rw [← Array.getElem?_toList, hops]; exact ho
      rcases isEff_or (P := P) o with he | he
      · -- an effect: it is the next one of the chain
        have hiw : i ∈ effs P L := mem_effs.2 ⟨o, ho, he⟩
        have hidone : i ∉ done := fun h => hni ((I.eff i hiw).2 h)
        have hiwr : i ∈ wr := by
          have := hiw; rw [I.ws] at this
          rcases List.mem_append.1 this with h | h
          · exact absurd h hidone
          · exact h
        cases wr with
        | nil => simp at hiwr
        | cons x r =>
          have hxi : x = i := by
            rcases List.mem_cons.1 hiwr with e | e
            · exact e.symm
            · exfalso
              obtain ⟨b, c, hbc⟩ := List.append_of_mem e
              have hbit := chain_bit T.chain (a := done) (b := b) (c := c) (x := x) (y := i) (by rw [I.ws, hbc]; simp)
              have hDx := I.bit T ho hp hbit
              have hxw : x ∈ effs P L := by rw [I.ws]; simp
              have := (I.eff x hxw).1 hDx
              rw [I.ws] at hnd
              exact (List.nodup_append.1 hnd).2.2 x this x (by simp) rfl
          subst hxi
          simp only [CanonRest, effK, ho] at hC
          have hRR := I.operands T ho hni hp
          -- what comes behind the effect
          have hnext : ∀ v s1 j' v' df' cs' w', checks pend (done.length + 1) s1.h
                (stagesW P X.gs (SpecC P X.gs) L (masks L []) (effs P L) e0 (stagesOf P L (masks L []) (effs P L) r (done.length + 1)) (done.length + 1) ((x, v) :: R) pend s1 kk pan) →
              s1.e = s.e → j.ext s.h.length j' → s.h.length ≤ s1.h.length → RelM X j' s1 df' cs' w' → VR j' v v' →
              Ends P G (lone (mk X.b (Act.put ⟨a.tmps, df'⟩ o.dst v') (.inRegion ops τ :: k)) cs' w') := by
            intro v s1 j' v' df' cs' w' hchk he1 hext hlen hrel hvv
            obtain ⟨hst, hch⟩ := checks_elim hchk
            have hwn : ∀ y ∈ floatsAt P L (masks L []) (effs P L) (done.length + 1), AEnv.get ((x, v) :: R) y = none := by
              intro y hy
              obtain ⟨oy, y1, y2, y3⟩ := mem_floatsAt.1 hy
              rw [AEnv.get_cons]
              have hyx : x ≠ y := by
                intro e; subst e; rw [ho] at y1; injection y1 with y1; subst y1; rw [he] at y2; simp at y2
              rw [if_neg hyx]
              cases hq : R.get y with
              | none => rfl
              | some u =>
                exfalso
                rcases I.domR y u hq with h | ⟨o2, _, _, h3⟩
                · have hyw : y ∈ effs P L := by rw [I.ws]; exact List.mem_append_left _ h
                  obtain ⟨o2, h1, h2⟩ := mem_effs.1 hyw
                  rw [y1] at h1; injection h1 with h1; subst h1; rw [y2] at h2; simp at h2
                · omega
            obtain ⟨R', pend', s2, A', hC', hF⟩ := stages_rest hwn hst
            have I' := I.effected T hnd ho he hni hp hext hlen hrel he1 hvv hch hF
            exact ih _ hS' (done ++ [x]) r R' pend' _ s2 j' _ cs' w' I' (by simpa using hC')
          have hpan : ∀ ch s1 j' ch' w', pan ch s1 → s1.e = s.e → j.ext s.h.length j' → RelM X j' s1 a.defers cs w' → ChR j' ch ch' →
              Ends P G (lone { mk X.b a (.inRegion ops (x :: τ) :: k) with mode := .panicking ch' } cs w') := by
            intro ch s1 j' ch' w' hp1 he1 hext hrel hch
            refine hP ch s1 j' ch' a cs w' _ hp1 (he1.trans I.env) ?_ I.size hrel hch
            intro t v ht
            obtain ⟨h1, h2⟩ := dropE_get ht
            obtain ⟨v', q1, q2⟩ := I.rest t v h1 fun y oy _ hy hd => h2 (List.mem_filterMap.2 ⟨oy, List.mem_of_getElem? hy, hd⟩)
            exact ⟨v', q1, q2.mono hext.1⟩
          have hopW : ∀ (hw : Region.wanted o (yielded ops a.tmps) = true),
              opW P (SpecC P X.gs) (evF X.gs L (masks L []) e0 R x (opReads o.op)) o.op s (fun v s'' => checks pend (done.length + 1) s''.h
                (stagesW P X.gs (SpecC P X.gs) L (masks L []) (effs P L) e0 (stagesOf P L (masks L []) (effs P L) r (done.length + 1)) (done.length + 1) ((x, v) :: R) pend s'' kk pan)) pan →
              Ends P G (lone (mk X.b a (.inRegion ops (x :: τ) :: k)) cs w) := by
            intro hw hop
            exact opW_sound I.rel hRR hio hw hop ⟨fun v s' j' v' df' cs' w' hn he hx hl hr hv => hnext v s' j' v' df' cs' w' hn he hx hl hr hv, fun ch s' j' ch' w' h1 h2 h3 h4 h5 => hpan ch s' j' ch' w' h1 h2 h3 h4 h5⟩
          split at hC
          · rename_i hg
            exact hopW (by simp [Region.wanted, hg]) hC
          · rename_i g want hg
            unfold guardK at hC
            split at hC
            · rename_i b hb
              have hw := I.guard T hops ho hp hg hb
              split at hC
              · rename_i hbw; subst hbw
                exact hopW (by rw [hw]; simp) hC
              · rename_i hbw
                have hw' : Region.wanted o (yielded ops a.tmps) = false := by rw [hw]; cases b <;> cases want <;> simp_all
                have hstep := st_opSkip (P := P) (b := X.b) (a := a) (k := k) (cs := cs) (w := w) (ops := ops) (i := x) (rest := τ) (by rw [hio]; simpa using hw')
                rw [hio] at hstep
                simp only [Option.bind_some] at hstep
                exact .step hstep (hnext undefV s j undef a.defers cs w hC rfl (j.ext_refl _) (Nat.le_refl _) I.rel (VR.tuple' .nil))
            · rename_i y hb
              have hw' : Region.wanted o (yielded ops a.tmps) = false := I.guardOff T hops ho hp hg hb (.inr ⟨y, rfl⟩)
              have hstep := st_opSkip (P := P) (b := X.b) (a := a) (k := k) (cs := cs) (w := w) (ops := ops) (i := x) (rest := τ) (by rw [hio]; simpa using hw')
              rw [hio] at hstep
              simp only [Option.bind_some] at hstep
              exact .step hstep (hnext undefV s j undef a.defers cs w hC rfl (j.ext_refl _) (Nat.le_refl _) I.rel (VR.tuple' .nil))
            · exact hC.elim
      · exact I.float_step T hnd hops ho he hni hp fun j' a' w' I' => ih _ hS' done wr R pend A s j' a' cs w' I' hC

/-- a region that draws its order -/
theorem draw_sound {X : Cx} {ops : Array Oper} (hm : P.follows .mixedOrders = true) (ht : tameB P X.n ops.toList = true) {id : Nat} {s : St} {kk : St → Prop} {pan : Chain → St → Prop} {j : Inj} {a : Act} {cs : List Frame} {w : World}
    {k : List Item} {G : Machine → Prop} (hR : Rel X j s a cs w) (h : drawW P X.gs (SpecC P X.gs) ops.toList s kk pan)
    (hK : ∀ s' j' a' cs' w', kk s' → Rel X j' s' a' cs' w' → Ends P G (lone (mk X.b a' k) cs' w'))
    (hP : ∀ ch s' j' ch' a' cs' w' k', pan ch s' → Rel X j' s' a' cs' w' → ChR j' ch ch' → Ends P G (lone { mk X.b a' k' with mode := .panicking ch' } cs' w')) :
    Ends P G (lone (mk X.b a (.code (.region id ops true) :: k)) cs w) := by
  have T := tame_of ht
  refine .step st_draw ?_
  rw [hm]
  have hR1 : RelM X j s a.defers cs { w with drawn := w.drawn + 1 } := ⟨hR.1.sim.heap_eq ⟨rfl, rfl, rfl⟩ rfl, hR.1.ds, hR.1.um, hR.1.callers, hR.1.norm, hR.1.glob, hR.1.ext, hR.1.len⟩
  obtain ⟨R', pend', s2, A', hC, hF⟩ := stages_rest (P := P) (R := []) (wr := effs P ops.toList) (st := 0) (fun i _ => rfl) h
  obtain ⟨t2, ht2⟩ := hF.h
  refine draw_run T rfl (kk := fun R s' => kk { s' with e := finishE R ops.toList 0 s.e }) (pan := fun ch s' => pan ch { s' with e := dropE (dstsOf ops.toList) s.e })
    (fun R s' j' a' cs' w' hk he hsz hr => hK _ j' a' cs' w' hk ⟨hr.env_eq rfl rfl rfl, hsz, he⟩)
    (fun ch s' j' ch' a' cs' w' k' hk he0 he hsz hr hch => hP ch _ j' ch' a' cs' w' k' hk ⟨hr.env_eq rfl rfl rfl, hsz, he⟩ hch)
    _ _ (sched_drawn T.back _) [] (effs P ops.toList) R' pend' A' s2 j a cs _ ?_ hC
  refine ⟨rfl, fun i o _ h => h.elim, fun x _ => by simp, ?_, ?_, by simp, ?_, ?_, hF.inj, fun i o v h => h.elim, ?_, hR.2.1, ?_, hF.e⟩
  · intro i o ho hne hlo
    obtain ⟨o', v, ρ, h1, h2⟩ := hF.facts i (mem_floatsAt.2 ⟨o, ho, hne, by simpa using hlo⟩)
    exact ⟨v, h2.get⟩
  · intro i o ho hne hlo _
    obtain ⟨o', v, ρ, h1, h2⟩ := hF.facts i (mem_floatsAt.2 ⟨o, ho, hne, by simpa using hlo⟩)
    rw [ho] at h1; injection h1 with h1; subst h1
    exact ⟨v, ρ, h2⟩
  · intro i v hi
    rcases hF.dom i v hi with ⟨u, hu⟩ | hm
    · simp [AEnv.get] at hu
    · obtain ⟨o, h1, h2, h3⟩ := mem_floatsAt.1 hm
      exact .inr ⟨o, h1, h2, by simp; omega⟩
  · intro p hp _
    have := hF.ids p hp
    refine ⟨?_, by have := hR.1.len; omega, this.2⟩
    cases hj : j p.2 with
    | none => rfl
    | some Lc => have := hR.1.sim.dom _ _ hj; omega
  · intro t v ht _
    exact hR.2.2 t v ht
  · refine ⟨?_, ?_, ?_, hR1.callers, ?_, hR1.glob, hR1.ext, ?_⟩
    · rw [ht2]; exact hR1.sim.more t2
    · rw [hF.ds]; exact hR1.ds
    · rw [hF.u]; exact hR1.um
    · rw [hF.u]; exact hR1.norm
    · rw [ht2]; have := hR1.len; simp; omega

end Go.Fm
