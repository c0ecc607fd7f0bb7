/-
  FmSim2: more steps that keep a concrete world standing for an abstract heap: a block dies, a region is claimed, an object turns, only the tape's count turns.
-/
import Derived.Test.YtopladipgobpjaaDoorFmOps
namespace Go.Fm

variable {F : Nat → Nat → Prop} {w0 w : World} {j : Inj} {h : AHeap}

/-- only the heap counts -/
theorem Sim.heap_eq (S : Sim F w0 j h w) {w' : World} (hio : Io w w') (e : w'.heap = w.heap) : Sim F w0 j h w' := by
  refine ⟨S.io.trans hio, by rw [e]; exact S.size, ?_, S.below, S.dom, ?_, S.own, S.apart⟩
  · intro B o hF
    have := S.kept B o hF
    unfold keptAt at this ⊢
    rw [e]; exact this
  · intro b L hj
    exact (S.obj b L hj).world (by rw [e])

theorem List.get_set {α : Type} (h : List α) (b : Nat) (hb : b < h.length) (x : α) (b' : Nat) : (h.set b x)[b']? = if b' = b then some x else h[b']? := by
  rw [List.getElem?_set]
  by_cases e : b = b'
  · subst e; simp [hb]
  · simp [e, Ne.symm e]

/-- block b dies, and its cells are anything -/
theorem Sim.wipe (S : Sim F w0 j h w) {b : Nat} {L : Loc} (hj : j b = some L) {mk : List Value → AObj} (hm : CellsLike mk) {c : List Value} (hc : h[b]? = some (mk c))
    {w' : World} {d d' : Array Value} {T : TypeId} {f : Nat × Nat} (hb : w.heap[L.blk]? = some (.cells d T f)) (hb' : w'.heap[L.blk]? = some (.cells d' T f))
    (hio : Io w w') (hsz : d'.size = d.size) (hws : w'.heap.size = w.heap.size) (hoth : ∀ B, B ≠ L.blk → w'.heap[B]? = w.heap[B]?)
    (hout : ∀ o, ¬ (L.off ≤ o ∧ o < L.off + L.ext) → d'[o]? = d[o]?) :
    Sim F w0 j (h.set b .dead) w' := by
  have hblt : b < h.length := S.dom _ _ hj
  have hget := List.get_set h b hblt .dead
  have hrw : ∀ b' : Nat, isRw (h.set b .dead)[b']? → b' ≠ b ∧ isRw h[b']? := by
    intro b' hr; rw [hget] at hr; split at hr
    · exact hr.elim
    · exact ⟨‹_›, hr⟩
  have hown : ∀ (b' : Nat) (L' : Loc) (B o : Nat), owns L' (h.set b .dead)[b']? B o → b' ≠ b ∧ owns L' h[b']? B o := by
    intro b' L' B o ho; rw [hget] at ho; split at ho
    · exact ho.elim
    · exact ⟨‹_›, ho⟩
  refine ⟨S.io.trans hio, by rw [hws]; exact S.size, ?_, S.below, ?_, ?_, ?_, ?_⟩
  · intro B o hF
    have hk := S.kept B o hF
    by_cases e : B = L.blk
    · subst e
      have hno : ¬ (L.off ≤ o ∧ o < L.off + L.ext) := fun ho => S.own b L hj (by rw [hc]; exact hm.rw c) L.blk o (by rw [hc]; exact hm.owns _ _ _ ho) hF
      unfold keptAt at hk ⊢
      split at hk
      · rename_i d0 T0 f0 h0
        obtain ⟨dx, k1, k2, k3⟩ := hk
        rw [hb] at k1; injection k1 with k1; injection k1 with k1 k1' k1''; subst k1 k1' k1''
        exact ⟨d', hb', hsz.trans k2, (hout o hno).trans k3⟩
      · rename_i x hx hx'; rw [hb] at hk; injection hk with hk; subst hk; exact (hx _ _ _ rfl).elim
      · trivial
    · unfold keptAt at hk ⊢
      rw [hoth B e]; exact hk
  · intro b' L' h'; simp; exact S.dom _ _ h'
  · intro b' L' h'
    rw [hget]
    split
    · trivial
    · rename_i hne
      have ho := S.obj _ _ h'
      by_cases e : L'.blk = L.blk
      · have hap := S.apart b b' L L' (Ne.symm hne) hj h' (by rw [hc]; exact hm.rw c)
        revert ho hap
        generalize h[b']? = ob
        intro ho hap
        match ob, ho, hap with
        | some (.cells c2 ro2), ⟨d2, T2, f2, k1, k2, k3, k4, k5, k6⟩, hap =>
          rw [e, hb] at k1; injection k1 with k1; injection k1 with k1 k1' k1''; subst k1 k1' k1''
          refine ⟨d', T, f, by rw [e]; exact hb', k2, by omega, ?_, k5, k6⟩
          have hsame : (d'.toList.drop L'.off).take L'.size = (d.toList.drop L'.off).take L'.size := by
            apply List.ext_getElem?
            intro i
            simp only [List.getElem?_take, List.getElem?_drop]
            split
            · rename_i hi
              have := hout (L'.off + i) (fun hin' => hap L.blk (L'.off + i) (by rw [hc]; exact hm.owns _ _ _ hin') ⟨e.symm, by omega, by unfold Loc.ext; omega⟩)
              simpa using this
            · rfl
          rw [hsame]; exact k4
        | some (.tcells c2 t2 z2), ⟨d2, f2, k1, k2, k3, k4, k5, k6, k7⟩, hap =>
          rw [e, hb] at k1; injection k1 with k1; injection k1 with k1 k1' k1''; subst k1 k1' k1''
          refine ⟨d', f, by rw [e]; exact hb', k2, by omega, ?_, by rw [hsz]; exact k5, k6, by omega⟩
          have hsame : (d'.toList.drop L'.off).take L'.size = (d.toList.drop L'.off).take L'.size := by
            apply List.ext_getElem?
            intro i
            simp only [List.getElem?_take, List.getElem?_drop]
            split
            · rename_i hi
              have := hout (L'.off + i) (fun hin' => hap L.blk (L'.off + i) (by rw [hc]; exact hm.owns _ _ _ hin') e.symm)
              simpa using this
            · rfl
          rw [hsame]; exact k4
        | some (.map es clock), ⟨es', k1, _⟩, _ => rw [e, hb] at k1; simp at k1
        | some (.mapIter _ _ _ _), ⟨_, m', k1, _⟩, _ => rw [e, hb] at k1; simp at k1
        | some (.strIter _ _), ⟨_, k1⟩, _ => rw [e, hb] at k1; simp at k1
        | some (.spec _), ⟨_, y, k1, k2⟩, _ => rw [e, hb] at k1; injection k1 with k1; subst k1; exact (SpecR.cells k2).elim
        | some .dead, _, _ => trivial
        | none, ho, _ => exact ho.elim
      · exact ho.world (hoth _ e)
  · intro b' L' h' hr' B o ho
    exact S.own b' L' h' (hrw b' hr').2 B o (hown _ _ _ _ ho).2
  · intro b1 b2 L1 L2 hne h1 h2 hr' B o ho ho'
    exact S.apart b1 b2 L1 L2 hne h1 h2 (hrw b1 hr').2 B o (hown _ _ _ _ ho).2 (hown _ _ _ _ ho').2

theorem Sim.kill (S : Sim F w0 j h w) {b : Nat} {L : Loc} (hj : j b = some L) {mk : List Value → AObj} (hm : CellsLike mk) {c : List Value} (hc : h[b]? = some (mk c)) : Sim F w0 j (h.set b .dead) w := by
  have := S.obj _ _ hj
  rw [hc] at this
  obtain ⟨d, T, f, hb, _⟩ := hm.obj this
  exact S.wipe hj hm hc hb hb (Io.refl w) rfl rfl (fun _ _ => rfl) (fun _ _ => rfl)

/-- of a whole block, other cells may be frozen -/
theorem Sim.refz (S : Sim F w0 j h w) {b : Nat} {L : Loc} (hj : j b = some L) {c : List Value} {t : TypeId} {z z' : Option Nat} (hc : h[b]? = some (.tcells c t z))
    {w' : World} {d : Array Value} {f f' : Nat × Nat} (hb : w.heap[L.blk]? = some (.cells d t f)) (hb' : w'.heap[L.blk]? = some (.cells d t f'))
    (hio : Io w w') (hws : w'.heap.size = w.heap.size) (hoth : ∀ B, B ≠ L.blk → w'.heap[B]? = w.heap[B]?) (hz : fzOk z' f' d.size) :
    Sim F w0 j (h.set b (.tcells c t z')) w' := by
  have hblt : b < h.length := S.dom _ _ hj
  have hget := List.get_set h b hblt (.tcells c t z')
  have hrw : ∀ b' : Nat, isRw (h.set b (.tcells c t z'))[b']? ↔ isRw h[b']? := by
    intro b'; rw [hget]; split
    · rename_i e; subst e; rw [hc]; exact Iff.rfl
    · rfl
  have hown : ∀ (b' : Nat) (L' : Loc) (B o : Nat), owns L' (h.set b (.tcells c t z'))[b']? B o ↔ owns L' h[b']? B o := by
    intro b' L' B o; rw [hget]; split
    · rename_i e; subst e; rw [hc]; exact Iff.rfl
    · rfl
  refine ⟨S.io.trans hio, by rw [hws]; exact S.size, ?_, S.below, ?_, ?_, ?_, ?_⟩
  · intro B x hF
    have hk := S.kept B x hF
    have : B ≠ L.blk := fun e => S.own b L hj (by rw [hc]; trivial) B x (by rw [hc]; exact e) hF
    unfold keptAt at hk ⊢
    rw [hoth B this]; exact hk
  · intro b' L' h'; simp; exact S.dom _ _ h'
  · intro b' L' h'
    rw [hget]; split
    · rename_i e; subst e; rw [hj] at h'; injection h' with h'; subst h'
      have ho := S.obj _ _ hj
      rw [hc] at ho
      obtain ⟨d1, f1, k1, k2, k3, k4, k5, k6, k7⟩ := ho
      rw [hb] at k1; injection k1 with k1; injection k1 with k1 k1' k1''; subst k1 k1''
      exact ⟨d, f', hb', k2, k3, k4, hz, k6, k7⟩
    · rename_i hne
      have ho := S.obj _ _ h'
      by_cases e : L'.blk = L.blk
      · have hap := S.apart b b' L L' (Ne.symm hne) hj h' (by rw [hc]; trivial)
        revert ho hap
        generalize h[b']? = ob
        intro ho hap
        have hap' : ∀ x, ¬ owns L' ob L.blk x := fun x => hap L.blk x (by rw [hc]; rfl)
        match ob, ho, hap' with
        | some (.cells c2 ro2), ⟨d2, T2, f2, k1, k2, k3, k4, k5, k6⟩, hap =>
          have hx : ¬ 0 < L'.ext := fun hx => hap L'.off ⟨e.symm, Nat.le_refl _, by omega⟩
          rw [e, hb] at k1; injection k1 with k1; injection k1 with k1 k1' k1''; subst k1 k1' k1''
          exact ⟨d, t, f', by rw [e]; exact hb', k2, k3, k4, fun _ o h1 h2 => by omega, k6⟩
        | some (.tcells c2 t2 z2), _, hap => exact (hap 0 e.symm).elim
        | some (.map es clock), _, hap => exact (hap 0 e.symm).elim
        | some (.mapIter _ _ _ _), _, hap => exact (hap 0 e.symm).elim
        | some (.strIter _ _), _, hap => exact (hap 0 e.symm).elim
        | some (.spec _), _, hap => exact (hap 0 e.symm).elim
        | some .dead, _, _ => trivial
        | none, ho, _ => exact ho.elim
      · exact ho.world (hoth _ e)
  · intro b' L' h' hr' B o ho
    exact S.own b' L' h' ((hrw b').1 hr') B o ((hown _ _ _ _).1 ho)
  · intro b1 b2 L1 L2 hne h1 h2 hr' B o ho ho'
    exact S.apart b1 b2 L1 L2 hne h1 h2 ((hrw b1).1 hr') B o ((hown _ _ _ _).1 ho) ((hown _ _ _ _).1 ho')

/-- what lies in a concrete world and is nobody's stands for a new abstract object -/
theorem Sim.claim (S : Sim F w0 j h w) {L : Loc} (o : AObj) (ho : ObjR (j.put h.length L) L w (some o))
    (hF : isRw (some o) → ∀ B x, owns L (some o) B x → ¬ F B x)
    (hA : ∀ b M, j b = some M → (isRw (some o) ∨ isRw h[b]?) → ∀ B x, owns L (some o) B x → ¬ owns M h[b]? B x) : Sim F w0 (j.put h.length L) (h ++ [o]) w := by
  have hle : j.le (j.put h.length L) := Inj.put_le S.fresh
  have hold : ∀ b, b < h.length → (h ++ [o])[b]? = h[b]? := fun b hb => List.getElem?_append_left hb
  have hnew : (h ++ [o])[h.length]? = some o := by simp
  have hput : ∀ b M, j.put h.length L b = some M → (b = h.length ∧ M = L) ∨ (b < h.length ∧ j b = some M) := by
    intro b M e; unfold Inj.put at e; split at e
    · injection e with e; exact .inl ⟨‹_›, e.symm⟩
    · exact .inr ⟨S.dom _ _ e, e⟩
  refine ⟨S.io, S.size, S.kept, S.below, ?_, ?_, ?_, ?_⟩
  · intro b M e
    rcases hput b M e with ⟨rfl, _⟩ | ⟨hb, _⟩ <;> simp <;> omega
  · intro b M e
    rcases hput b M e with ⟨rfl, rfl⟩ | ⟨hb, hj⟩
    · rw [hnew]; exact ho
    · rw [hold b hb]; exact (S.obj _ _ hj).mono hle
  · intro b M e hr B x hx
    rcases hput b M e with ⟨rfl, rfl⟩ | ⟨hb, hj⟩
    · rw [hnew] at hx hr; exact hF hr B x hx
    · rw [hold b hb] at hr hx; exact S.own b M hj hr B x hx
  · intro b1 b2 L1 L2 hne e1 e2 hr B x h1 h2
    rcases hput b1 L1 e1 with ⟨rfl, rfl⟩ | ⟨hb1, hj1⟩
    · rcases hput b2 L2 e2 with ⟨rfl, rfl⟩ | ⟨hb2, hj2⟩
      · exact hne rfl
      · rw [hnew] at h1 hr; rw [hold b2 hb2] at h2
        exact hA b2 L2 hj2 (.inl hr) B x h1 h2
    · rcases hput b2 L2 e2 with ⟨rfl, rfl⟩ | ⟨hb2, hj2⟩
      · rw [hnew] at h2; rw [hold b1 hb1] at h1 hr
        exact hA b1 L1 hj1 (.inr hr) B x h2 h1
      · rw [hold b1 hb1] at h1 hr; rw [hold b2 hb2] at h2
        exact S.apart b1 b2 L1 L2 hne hj1 hj2 hr B x h1 h2

/-- an object that is no row of cells turns, in its own concrete block -/
theorem Sim.object (S : Sim F w0 j h w) {b : Nat} {L : Loc} (hj : j b = some L) {o o' : AObj} (hc : h[b]? = some o) (hrw : isRw (some o)) (hrw' : isRw (some o'))
    (hown : ∀ B x, owns L (some o) B x ↔ B = L.blk) (hown' : ∀ B x, owns L (some o') B x ↔ B = L.blk)
    {w' : World} (hio : Io w w') (hws : w'.heap.size = w.heap.size) (hoth : ∀ B, B ≠ L.blk → w'.heap[B]? = w.heap[B]?) (ho : ObjR j L w' (some o')) (hnt : ∀ c t z, o ≠ .tcells c t z := by intro _ _ _ h; cases h) : Sim F w0 j (h.set b o') w' := by
  have hblt : b < h.length := S.dom _ _ hj
  have hget := List.get_set h b hblt o'
  have hr2 : ∀ b' : Nat, isRw (h.set b o')[b']? ↔ isRw h[b']? := by
    intro b'; rw [hget]; split
    · rename_i e; subst e; rw [hc]; exact ⟨fun _ => hrw, fun _ => hrw'⟩
    · rfl
  have hown2 : ∀ (b' : Nat) (L' : Loc) (hj' : j b' = some L') (B x : Nat), owns L' (h.set b o')[b']? B x ↔ owns L' h[b']? B x := by
    intro b' L' hj' B x; rw [hget]; split
    · rename_i e; subst e; rw [hj] at hj'; injection hj' with hj'; subst hj'; rw [hc, hown, hown']
    · rfl
  refine ⟨S.io.trans hio, by rw [hws]; exact S.size, ?_, S.below, ?_, ?_, ?_, ?_⟩
  · intro B x hF
    have hk := S.kept B x hF
    have : B ≠ L.blk := fun e => S.own b L hj (by rw [hc]; exact hrw) B x (by rw [hc, hown]; exact e) hF
    unfold keptAt at hk ⊢
    rw [hoth B this]; exact hk
  · intro b' L' h'; simp; exact S.dom _ _ h'
  · intro b' L' h'
    rw [hget]; split
    · rename_i e; subst e; rw [hj] at h'; injection h' with h'; subst h'; exact ho
    · rename_i hne
      have hob := S.obj _ _ h'
      by_cases e : L'.blk = L.blk
      · have hap := S.apart b b' L L' (Ne.symm hne) hj h' (by rw [hc]; exact hrw)
        revert hob hap
        generalize h[b']? = ob
        intro hob hap
        match ob, hob, hap with
        | some (.cells c2 ro2), ⟨d2, T2, f2, k1, k2, k3, k4, k5, k6⟩, hap =>
          by_cases hz : L'.size = 0
          · -- nothing of its own there
            exfalso
            have hb' := S.obj _ _ hj
            rw [hc] at hb'
            revert hb'
            match o, hnt, hrw, hown with
            | .cells _ _, _, _, hown => intro _; have := (hown L.blk (L.off + L.ext)).2 rfl; have := this.2.2; omega
            | .tcells _ _ _, hnt, _, _ => exact (hnt _ _ _ rfl).elim
            | .map es _, _, _, _ => intro ⟨es', q, _⟩; rw [← e, k1] at q; simp at q
            | .mapIter _ _ _ _, _, _, _ => intro ⟨_, m', q, _⟩; rw [← e, k1] at q; simp at q
            | .strIter _ _, _, _, _ => intro ⟨_, q⟩; rw [← e, k1] at q; simp at q
            | .spec _, _, _, _ => intro ⟨_, y, q, q2⟩; rw [← e, k1] at q; injection q with q; subst q; exact SpecR.cells q2
          · exact (hap L.blk L'.off (by rw [hc, hown]) ⟨e.symm, Nat.le_refl _, by unfold Loc.ext; omega⟩).elim
        | some (.tcells c2 t2 z2), _, hap => exact (hap L.blk 0 (by rw [hc, hown]) e.symm).elim
        | some (.map es clock), _, hap => exact (hap L.blk 0 (by rw [hc, hown]) e.symm).elim
        | some (.mapIter _ _ _ _), _, hap => exact (hap L.blk 0 (by rw [hc, hown]) e.symm).elim
        | some (.strIter _ _), _, hap => exact (hap L.blk 0 (by rw [hc, hown]) e.symm).elim
        | some (.spec _), _, hap => exact (hap L.blk 0 (by rw [hc, hown]) e.symm).elim
        | some .dead, _, _ => trivial
        | none, ho, _ => exact ho.elim
      · exact hob.world (hoth _ e)
  · intro b' L' h' hr' B x hx
    exact S.own b' L' h' ((hr2 b').1 hr') B x ((hown2 b' L' h' _ _).1 hx)
  · intro b1 b2 L1 L2 hne h1 h2 hr' B x hx hx'
    exact S.apart b1 b2 L1 L2 hne h1 h2 ((hr2 b1).1 hr') B x ((hown2 b1 L1 h1 _ _).1 hx) ((hown2 b2 L2 h2 _ _).1 hx')

/-- setObj, as a step of the heap -/
theorem heap_set {w : World} {r : Nat} {x : Obj} (hr : r < w.heap.size) :
    ({ w with heap := w.heap.setIfInBounds r x } : World).heap.size = w.heap.size ∧ ({ w with heap := w.heap.setIfInBounds r x } : World).heap[r]? = some x ∧
      ∀ B, B ≠ r → ({ w with heap := w.heap.setIfInBounds r x } : World).heap[B]? = w.heap[B]? := by
  refine ⟨by simp, by simp [hr], fun B hB => by simp [Ne.symm hB]⟩

/-! ## runs of the model's smallest words -/

theorem run_getObj_map {P : Program} {w : World} {r : Nat} {es : Array MapEntry} {c : Nat} (h : w.heap[r]? = some (.map es c)) : (getObj r).run P w = .ok (.map es c) w := by
  simp [getObj, Sem.run, h]

theorem run_setObj' {P : Program} {w : World} {r : Nat} {o x : Obj} (h : w.heap[r]? = some o) (hn : ∀ d T f, o ≠ .cells d T f) :
    (setObj r x).run P w = .ok () { w with heap := w.heap.setIfInBounds r x } := by
  unfold setObj
  cases o <;> simp [Sem.run, h] <;> (exact absurd rfl (hn _ _ _))

theorem run_newRow {P : Program} (w : World) (e : TypeId) (cs : Array Value) : (newRow e cs).run P w = .ok ⟨w.heap.size, 0, none⟩ { w with heap := w.heap.push (.cells cs e) } := by
  simp [newRow, newObj, Sem.run]

/-- j' knows of more, but of nothing among the first n -/
def Inj.ext (j : Inj) (n : Nat) (j' : Inj) : Prop := j.le j' ∧ ∀ b, b < n → j' b = j b

theorem Inj.ext_refl (j : Inj) (n : Nat) : j.ext n j := ⟨j.le_refl, fun _ _ => rfl⟩
theorem Inj.ext_trans {j j' j'' : Inj} {n n' : Nat} (h : j.ext n j') (hn : n ≤ n') (h' : j'.ext n' j'') : j.ext n j'' :=
  ⟨Inj.le_trans h.1 h'.1, fun b hb => (h'.2 b (by omega)).trans (h.2 b hb)⟩
theorem Inj.put_ext {j : Inj} {b n : Nat} {L : Loc} (hj : j b = none) (hb : n ≤ b) : j.ext n (j.put b L) :=
  ⟨Inj.put_le hj, fun x hx => by unfold Inj.put; rw [if_neg (by omega)]⟩

end Go.Fm
