/-
  FmEff5: clear, iterators; all effects under one name; the steps of a map's iterator.
-/
import Derived.Test.YtopladipgobpjaaDoorFmUns
namespace Go.Fm

variable {P : Program} {F : Nat → Nat → Prop} {w0 w : World} {j : Inj} {h : AHeap} {ρ : Operand → Option Value} {ρ' : Operand → Value}

theorem aClear_sim (S : Sim F w0 j h w) {t ty : TypeId} {ts : Array TypeId} (ht : ts[0]? = some t) {x x' : Value} (hx : VR j x x') {h' : AHeap}
    (e : aClear P t x h = some h') : ∃ w', (Builtin.clear_ ts ty #[x']).run P w = .ok undefV w' ∧ Sim F w0 j h' w' := by
  unfold aClear at e
  split at e
  · rename_i d hu
    simp at e; subst e; cases hx
    exact ⟨w, by simp [Builtin.clear_, ht, run_underlying hu, undefV], S⟩
  · rename_i d l c hu
    simp at e; subst e; cases hx
    exact ⟨w, by simp [Builtin.clear_, ht, run_underlying hu, undefV], S⟩
  · rename_i d a c hnot hu
    simp at e; subst e
    refine ⟨w, ?_, S⟩
    cases hx <;> simp [Builtin.clear_, ht, run_underlying hu, undefV]
  · rename_i d r hu
    split at e
    · rename_i es c hh
      simp at e; subst e
      cases hx with
      | map hj =>
        rename_i L
        have := S.obj _ _ hj
        rw [hh] at this
        obtain ⟨es', k1, k2, k3⟩ := this
        refine ⟨_, ?_, map_turn S hj hh k1 k3 (es2' := #[]) (c2 := c) .nil⟩
        simp only [Builtin.clear_, ht, List.getElem?_toArray, List.getElem?_cons_zero, Sem.run_bind, run_underlying hu, Result.andThen_ok, run_getObj_map k1, run_setObj' k1 (x := .map #[] c) (by intro _ _ _ h; cases h), Sem.run_pure]
        rfl
    · simp at e
  · rename_i el b o sp n cap hnot hu
    obtain ⟨z, hz, e⟩ := bind_some' e
    obtain ⟨row, hrow, e⟩ := bind_some' e
    have hz1 := run_zero' hz w
    obtain ⟨r1, r2, r3⟩ := zeroRow_flat hz1.2 hrow j
    have hzc : (Builtin.zeroCells z.cells n).toList = row := by
      have : Builtin.zeroCells z.cells n = row.toArray := by rw [← r3]; rfl
      rw [this]
    have hn0 : n ≠ 0 := by intro h0; subst h0; first | exact hnot _ _ rfl rfl | exact hnot _ _ rfl | exact hnot _ rfl | exact hnot rfl
    have fin : ∀ (a' : Addr) (c' : Nat) (w' : World), (storeCells a' row).run P w = .ok () w' → (Builtin.clear_ ts ty #[.slice (some a') n c']).run P w = .ok undefV w' := by
      intro a' c' w' hq
      cases n with
      | zero => exact absurd rfl hn0
      | succ n =>
        simp only [Builtin.clear_, ht, List.getElem?_toArray, List.getElem?_cons_zero, Sem.run_bind, run_underlying hu, Result.andThen_ok, hz1.1, hzc, hq, Sem.run_pure]
        rfl
    cases hx with
    | slice _ _ hj =>
      obtain ⟨w', q1, q2⟩ := aStore_sim (P := P) S (a := ⟨b, o, none⟩) hj r1 e
      exact ⟨w', fin _ _ _ q1, q2⟩
    | oslice _ _ hj _ _ =>
      obtain ⟨w', q1, q2⟩ := aStore_sim (P := P) S (a := ⟨b, o, none⟩) hj r1 e
      exact ⟨w', fin _ _ _ q1, q2⟩
    | slice0 => exact absurd rfl hn0
  · simp at e

theorem aRange_sim (S : Sim F w0 j h w) {t : TypeId} {x x' : Value} (hx : VR j x x') {ob : AObj} (e : aRange P t x h = some ob) :
    ∃ j' r' w', j.ext h.length j' ∧ VR j' (.pointer (some ⟨h.length, 0, none⟩)) r' ∧ (Instr.range t x').run P w = .ok r' w' ∧ Sim F w0 j' (h ++ [ob]) w' := by
  unfold aRange at e
  have hle : ∀ L, j.ext h.length (j.put h.length L) := fun L => Inj.put_ext S.fresh (Nat.le_refl _)
  split at e
  · rename_i s hu
    simp at e; subst e; cases hx
    refine ⟨_, _, _, hle ⟨w.heap.size, 0, 0, 0, 0⟩, VR.ptr (Inj.put_same _ _ _), ?_, S.new (L := ⟨w.heap.size, 0, 0, 0, 0⟩) rfl (.strIter s 0) (w' := { w with heap := w.heap.push (.stringIter s 0) }) ⟨rfl, rfl, rfl⟩ rfl ⟨rfl, by simp⟩⟩
    simp [Instr.range, run_underlying hu, newObj, Sem.run]
  · rename_i kt et hu
    simp at e; subst e; cases hx
    refine ⟨_, _, _, hle ⟨w.heap.size, 0, 0, 0, 0⟩, VR.ptr (Inj.put_same _ _ _), ?_, S.new (L := ⟨w.heap.size, 0, 0, 0, 0⟩) rfl (.mapIter none 0 [] 0) (w' := { w with heap := w.heap.push (.mapIter none 0 #[] 0) }) ⟨rfl, rfl, rfl⟩ rfl ⟨rfl, none, by simp, .inl ⟨rfl, rfl⟩⟩⟩
    simp [Instr.range, run_underlying hu, newObj, Sem.run]
  · rename_i kt et m hu
    split at e
    · rename_i es c hh
      simp at e; subst e
      cases hx with
      | map hj =>
        rename_i L
        have := S.obj _ _ hj
        rw [hh] at this
        obtain ⟨es', k1, k2, k3⟩ := this
        refine ⟨_, _, _, hle ⟨w.heap.size, 0, 0, 0, 0⟩, VR.ptr (Inj.put_same _ _ _), ?_, S.new (L := ⟨w.heap.size, 0, 0, 0, 0⟩) rfl (.mapIter (some m) c [] c) (w' := { w with heap := w.heap.push (.mapIter (some L.blk) c #[] c) }) ⟨rfl, rfl, rfl⟩ rfl
          ⟨rfl, some L.blk, by simp, .inr ⟨m, L, rfl, (hle _).1 _ _ hj, rfl⟩⟩⟩
        simp only [Instr.range, Sem.run_bind, run_underlying hu, Result.andThen_ok, run_getObj_map k1, Sem.run_pure]
        simp [newObj, Sem.run]
    · simp at e
  · simp at e

theorem obj_turn (S : Sim F w0 j h w) {r : Nat} {L : Loc} {o o' : AObj} {x x' : Obj} (hj : j r = some L) (hh : h[r]? = some o) (hw : w.heap[L.blk]? = some x)
    (hrw : isRw (some o)) (hrw' : isRw (some o')) (hown : ∀ B y, owns L (some o) B y ↔ B = L.blk) (hown' : ∀ B y, owns L (some o') B y ↔ B = L.blk)
    (ho : ∀ w' : World, w'.heap[L.blk]? = some x' → ObjR j L w' (some o')) (hnt : ∀ c t z, o ≠ .tcells c t z := by intro _ _ _ h; cases h) : Sim F w0 j (h.set r o') { w with heap := w.heap.setIfInBounds L.blk x' } := by
  have hlt : L.blk < w.heap.size := (Array.getElem?_eq_some_iff.1 hw).1
  obtain ⟨k1, k2, k3⟩ := heap_set (w := w) (x := x') hlt
  exact S.object hj hh hrw hrw' hown hown' ⟨rfl, rfl, rfl⟩ k1 k3 (ho _ k2) hnt

theorem run_getObj' {w : World} {r : Nat} {x : Obj} (h : w.heap[r]? = some x) (hn : ∀ d T f, x ≠ .cells d T f) : (getObj r).run P w = .ok x w := by
  cases x <;> simp [getObj, Sem.run, h] <;> (exact absurd rfl (hn _ _ _))

theorem aNextStr_sim (S : Sim F w0 j h w) {ty : TypeId} {it it' r : Value} (hi : VR j it it') {h' : AHeap} (e : aNextStr it h = some (r, h')) :
    VR j r r ∧ ∃ w', (Instr.next it' true ty).run P w = .ok r w' ∧ Sim F w0 j h' w' := by
  unfold aNextStr at e
  split at e
  · rename_i b
    cases hi with
    | ptr hj =>
      rename_i L
      split at e
      · rename_i s pos hh
        have := S.obj _ _ hj
        rw [hh] at this
        obtain ⟨k0, k1⟩ := this
        have hg := run_getObj' (P := P) k1 (by intro _ _ _ h; cases h)
        split at e
        · rename_i hpos
          simp at e
          obtain ⟨e1, e2⟩ := e; subst e1 e2
          refine ⟨VR.tuple' (.cons (.bool _) (.cons (.int _ _) (.cons (.int _ _) .nil))), _, ?_,
            obj_turn S hj hh k1 (o' := .strIter s (pos + (Utf8.decode s pos).2)) (x' := .stringIter s (pos + (Utf8.decode s pos).2)) trivial trivial (fun _ _ => Iff.rfl) (fun _ _ => Iff.rfl) (fun w' hw => ⟨k0, hw⟩)⟩
          simp only [Instr.next, k0, Nat.add_zero, Sem.run_bind, hg, Result.andThen_ok, if_pos hpos, run_setObj' k1 (x := .stringIter s (pos + (Utf8.decode s pos).2)) (by intro _ _ _ h; cases h), Sem.run_pure]
        · rename_i hpos
          simp at e
          obtain ⟨e1, e2⟩ := e; subst e1 e2
          refine ⟨VR.tuple' (.cons (.bool _) .nil), w, ?_, S⟩
          simp only [Instr.next, k0, Nat.add_zero, Sem.run_bind, hg, Result.andThen_ok, if_neg hpos, Sem.run_pure]
      · simp at e
  · simp at e

theorem ER.find {es es' : List MapEntry} (h : ER j es es') (p : Nat → Bool) :
    (es.find? (fun e => p e.born) = none ∧ es'.find? (fun e => p e.born) = none) ∨ ∃ e e', es.find? (fun e => p e.born) = some e ∧ es'.find? (fun e => p e.born) = some e' ∧ ERow j e e' := by
  induction h with
  | nil => left; simp
  | cons hr hl ih =>
    simp only [List.find?_cons, ← hr.2.2]
    split
    · right; exact ⟨_, _, rfl, rfl, hr⟩
    · exact ih

theorem aEntry_sim (S : Sim F w0 j h w) {it it' r : Value} (hi : VR j it it') (e : aEntry it h = some r) :
    ∃ r', VR j r r' ∧ (Instr.entry it').run P w = .ok r' w := by
  unfold aEntry at e
  split at e
  · rename_i b
    cases hi with
    | ptr hj =>
      rename_i L
      split at e
      · rename_i m since seen stepped hh
        split at e
        · rename_i es c hm
          split at e
          · rename_i hc
            split at e
            · rename_i stamp hst
              split at e
              · rename_i en hen
                simp at e; subst e
                have := S.obj _ _ hj
                rw [hh] at this
                obtain ⟨k0, m', k1, k2⟩ := this
                rcases k2 with ⟨k2, _⟩ | ⟨r0, L2, k2, k3, k4⟩
                · simp at k2
                · injection k2 with k2; subst k2; subst k4
                  have hmo := S.obj _ _ k3
                  rw [hm] at hmo
                  obtain ⟨es', q1, q2, q3⟩ := hmo
                  have hg := run_getObj' (P := P) k1 (by intro _ _ _ h; cases h)
                  have hback : seen.toArray.back? = some stamp := by rw [← hst]; simp
                  rcases q2.find (fun b => b == stamp) with ⟨x1, _⟩ | ⟨e1, e1', x1, x2, x3⟩
                  · rw [x1] at hen; simp at hen
                  · rw [x1] at hen; injection hen with hen; subst hen
                    refine ⟨.tuple #[e1'.key, e1'.val], VR.tuple' (.cons x3.1 (.cons x3.2.1 .nil)), ?_⟩
                    have hf : es'.find? (fun x => x.born == stamp) = some e1' := by rw [← x2, Array.find?_toList]
                    subst hc
                    simp only [Instr.entry, k0, Nat.add_zero, Sem.run_bind, hg, Result.andThen_ok, hback, run_getObj_map q1, bne_self_eq_false, Bool.false_eq_true, if_false, hf, Sem.run_pure]
              · simp at e
            · simp at e
          · simp at e
        · simp at e
      · simp at e
  · simp at e

theorem run_unit {s : Sem Unit} {w w' : World} (h : s.run P w = .ok () w') : (do s; pure .skip : Sem Next).run P w = .ok .skip w' := by simp [h]

/-- the value that an operation's slot gets -/
def nextVal : Next → Option Value
  | .value v => some v
  | .skip => some undefV
  | _ => none

theorem aEff_sim (S : Sim F w0 j h w) (hr : RR j ρ ρ') (o : Oper) {r : Value} {h' : AHeap} (e : aEff P ρ h o.op = some (r, h')) :
    ∃ j' r' n' w', j.ext h.length j' ∧ VR j' r r' ∧ (execOp ρ' o).run P w = .ok n' w' ∧ nextVal n' = some r' ∧ Sim F w0 j' h' w' := by
  obtain ⟨dst, op, type, pos, after, guard⟩ := o
  simp only at e
  have hundef : ∀ j : Inj, VR j undefV undefV := fun j => VR.tuple' .nil
  unfold aEff at e
  split at e
  · rename_i s d x
    obtain ⟨v, hv, e⟩ := bind_some' e
    obtain ⟨k1, w', k2, k3⟩ := aConvMark_sim S (hr _ _ hv) e
    exact ⟨j, _, .value _, w', j.ext_refl _, k1, run_val k2, rfl, k3⟩
  · rename_i args argTypes
    split at e
    · rename_i p n pt rest ha ht
      obtain ⟨pv, hp, e⟩ := bind_some' e
      obtain ⟨nv, hn, e⟩ := bind_some' e
      have ht0 : argTypes[0]? = some pt := by rw [← Array.getElem?_toList, ht]; rfl
      obtain ⟨k1, w', k2, k3⟩ := aUnsafeString_sim (ty := type) S ht0 (hr _ _ hp) (hr _ _ hn) e
      have e1 : args = #[p, n] := Array.ext' ha
      subst e1
      refine ⟨j, r, .value r, w', j.ext_refl _, k1, ?_, rfl, k3⟩
      simp [execOp, resolve, invoke, builtin, k2]
    · simp at e
  · rename_i t a x
    obtain ⟨av, ha, e⟩ := bind_some' e
    obtain ⟨xv, hx, e⟩ := bind_some' e
    cases hs : aStoreAt P t av xv h with
    | none => rw [hs] at e; simp at e
    | some h2 =>
      rw [hs] at e; simp at e; obtain ⟨e1, e2⟩ := e; subst e1 e2
      obtain ⟨w', k1, k2⟩ := aStoreAt_sim S (hr _ _ ha) (hr _ _ hx) hs
      exact ⟨j, undefV, .skip, w', j.ext_refl _, hundef j, run_unit k1, rfl, k2⟩
  · rename_i t m k x
    obtain ⟨mv, hm, e⟩ := bind_some' e
    obtain ⟨kv, hk, e⟩ := bind_some' e
    obtain ⟨xv, hx, e⟩ := bind_some' e
    cases hs : aMapUpdate P t mv kv xv h with
    | none => rw [hs] at e; simp at e
    | some h2 =>
      rw [hs] at e; simp at e; obtain ⟨e1, e2⟩ := e; subst e1 e2
      obtain ⟨w', k1, k2⟩ := aMapUpdate_sim S (hr _ _ hm) (hr _ _ hk) (hr _ _ hx) hs
      exact ⟨j, undefV, .skip, w', j.ext_refl _, hundef j, run_unit k1, rfl, k2⟩
  · rename_i t m k x
    obtain ⟨mv, hm, e⟩ := bind_some' e
    obtain ⟨kv, hk, e⟩ := bind_some' e
    obtain ⟨xv, hx, e⟩ := bind_some' e
    cases hs : aMapUpdate P t mv kv xv h with
    | none => rw [hs] at e; simp at e
    | some h2 =>
      rw [hs] at e; simp at e; obtain ⟨e1, e2⟩ := e; subst e1 e2
      obtain ⟨w', k1, k2⟩ := aMapUpdate_sim S (hr _ _ hm) (hr _ _ hk) (hr _ _ hx) hs
      exact ⟨j, undefV, .skip, w', j.ext_refl _, hundef j, run_unit k1, rfl, k2⟩
  · rename_i t m k
    obtain ⟨mv, hm, e⟩ := bind_some' e
    obtain ⟨kv, hk, e⟩ := bind_some' e
    obtain ⟨r', w', k1, k2, k3⟩ := aMapEntry_sim S (hr _ _ hm) (hr _ _ hk) e
    exact ⟨j, r', .value r', w', j.ext_refl _, k1, run_val k2, rfl, k3⟩
  · rename_i t m s x
    obtain ⟨mv, hm, e⟩ := bind_some' e
    obtain ⟨sv, hs0, e⟩ := bind_some' e
    obtain ⟨xv, hx, e⟩ := bind_some' e
    cases hs : aEntryStore mv sv xv h with
    | none => rw [hs] at e; simp at e
    | some h2 =>
      rw [hs] at e; simp at e; obtain ⟨e1, e2⟩ := e; subst e1 e2
      obtain ⟨w', k1, k2⟩ := aEntryStore_sim (P := P) (t := t) S (hr _ _ hm) (hr _ _ hs0) (hr _ _ hx) hs
      exact ⟨j, undefV, .skip, w', j.ext_refl _, hundef j, run_unit k1, rfl, k2⟩
  · rename_i args argTypes
    split at e
    · rename_i s x t xt ha ht
      obtain ⟨sv, hs, e⟩ := bind_some' e
      obtain ⟨xv, hx, e⟩ := bind_some' e
      obtain ⟨j', r', w', k1, k2, k3, k4⟩ := aAppend_sim (ty := type) S (hr _ _ hs) (hr _ _ hx) e
      have e1 : args = #[s, x] := Array.ext' ha
      have e2 : argTypes = #[t, xt] := Array.ext' ht
      subst e1 e2
      refine ⟨j', r', .value r', w', k1, k2, ?_, rfl, k4⟩
      simp [execOp, resolve, invoke, builtin, k3]
    · simp at e
  · rename_i args argTypes
    split at e
    · rename_i d s t rest ha ht
      obtain ⟨dv, hd, e⟩ := bind_some' e
      obtain ⟨sv, hs, e⟩ := bind_some' e
      have ht0 : argTypes[0]? = some t := by rw [← Array.getElem?_toList, ht]; rfl
      obtain ⟨k0, w', k1, k2⟩ := aCopy_sim (ty := type) S ht0 (hr _ _ hd) (hr _ _ hs) e
      have e1 : args = #[d, s] := Array.ext' ha
      subst e1
      refine ⟨j, r, .value r, w', j.ext_refl _, k0, ?_, rfl, k2⟩
      simp [execOp, resolve, invoke, builtin, k1]
    · simp at e
  · rename_i args argTypes
    split at e
    · rename_i m k t rest ha ht
      obtain ⟨mv, hm, e⟩ := bind_some' e
      obtain ⟨kv, hk, e⟩ := bind_some' e
      have ht0 : argTypes[0]? = some t := by rw [← Array.getElem?_toList, ht]; rfl
      cases hs : aDelete P t mv kv h with
      | none => rw [hs] at e; simp at e
      | some h2 =>
        rw [hs] at e; simp at e; obtain ⟨e1, e2⟩ := e; subst e1 e2
        obtain ⟨w', k1, k2⟩ := aDelete_sim (ty := type) S ht0 (hr _ _ hm) (hr _ _ hk) hs
        have e1 : args = #[m, k] := Array.ext' ha
        subst e1
        refine ⟨j, undefV, .value undefV, w', j.ext_refl _, hundef j, ?_, rfl, k2⟩
        simp [execOp, resolve, invoke, builtin, k1]
    · simp at e
  · rename_i args argTypes
    split at e
    · rename_i x t rest ha ht
      obtain ⟨xv, hx, e⟩ := bind_some' e
      have ht0 : argTypes[0]? = some t := by rw [← Array.getElem?_toList, ht]; rfl
      cases hs : aClear P t xv h with
      | none => rw [hs] at e; simp at e
      | some h2 =>
        rw [hs] at e; simp at e; obtain ⟨e1, e2⟩ := e; subst e1 e2
        obtain ⟨w', k1, k2⟩ := aClear_sim (ty := type) S ht0 (hr _ _ hx) hs
        have e1 : args = #[x] := Array.ext' ha
        subst e1
        refine ⟨j, undefV, .value undefV, w', j.ext_refl _, hundef j, ?_, rfl, k2⟩
        simp [execOp, resolve, invoke, builtin, k1]
    · simp at e
  · rename_i t x
    obtain ⟨v, hv, e⟩ := bind_some' e
    cases hs : aRange P t v h with
    | none => rw [hs] at e; simp at e
    | some ob =>
      rw [hs] at e; simp at e; obtain ⟨e1, e2⟩ := e; subst e1 e2
      obtain ⟨j', r', w', k1, k2, k3, k4⟩ := aRange_sim S (hr _ _ hv) hs
      exact ⟨j', r', .value r', w', k1, k2, run_val k3, rfl, k4⟩
  · rename_i it
    obtain ⟨v, hv, e⟩ := bind_some' e
    obtain ⟨k0, w', k1, k2⟩ := aNextStr_sim (ty := type) S (hr _ _ hv) e
    exact ⟨j, r, .value r, w', j.ext_refl _, k0, run_val k1, rfl, k2⟩
  · rename_i it
    obtain ⟨v, hv, e⟩ := bind_some' e
    cases hs : aEntry v h with
    | none => rw [hs] at e; simp at e
    | some r1 =>
      rw [hs] at e; simp at e; obtain ⟨e1, e2⟩ := e; subst e1 e2
      obtain ⟨r', k1, k2⟩ := aEntry_sim (P := P) S (hr _ _ hv) hs
      exact ⟨j, r', .value r', w, j.ext_refl _, k1, run_val k2, rfl, S⟩
  · simp at e

/-! ## a step of a map's iterator: every candidate is to be reckoned with -/

def aNextMap (it : Value) (h : AHeap) : Option (List (Value × AHeap)) :=
  match it with
  | .pointer (some ⟨r, 0, none⟩) => match h[r]? with
    | some (.mapIter none _ _ _) => some [(.tuple #[.bool false], h)]
    | some (.mapIter (some m) since seen last) => match h[m]? with
      | some (.map es c) =>
        if !seen.isEmpty && !es.isEmpty && es.all (fun e => decide (e.born ≥ last)) then none else
        let left := es.filter fun e => !seen.contains e.born
        let old := left.filter fun e => decide (e.born < since)
        let new := left.filter fun e => decide (e.born ≥ since)
        some ((if old.isEmpty then [(Value.tuple #[.bool false], h)] else []) ++
          (old ++ new).map fun e => (.tuple #[.bool true, e.key, e.val], h.set r (.mapIter (some m) since (seen ++ [e.born]) c)))
      | _ => none
    | _ => none
  | _ => none

theorem ER.filter {es es' : List MapEntry} (h : ER j es es') (p : Nat → Bool) : ER j (es.filter fun e => p e.born) (es'.filter fun e => p e.born) := by
  induction h with
  | nil => exact .nil
  | cons hr hl ih =>
    simp only [List.filter_cons, ← hr.2.2]
    split
    · exact .cons hr ih
    · exact ih

theorem ER.all {es es' : List MapEntry} (h : ER j es es') (p : Nat → Bool) : es'.all (fun e => p e.born) = es.all fun e => p e.born := by
  induction h with
  | nil => rfl
  | cons hr hl ih => simp only [List.all_cons, ih, hr.2.2]

theorem aNextMap_sim (S : Sim F w0 j h w) {ty : TypeId} {it it' : Value} (hi : VR j it it') {outs : List (Value × AHeap)} (e : aNextMap it h = some outs) :
    ∃ r h' r' w', (r, h') ∈ outs ∧ VR j r r' ∧ (Instr.next it' false ty).run P w = .ok r' w' ∧ Sim F w0 j h' w' := by
  unfold aNextMap at e
  split at e
  · rename_i b
    cases hi with
    | ptr hj =>
      rename_i L
      split at e
      · rename_i since seen last hh
        simp at e; subst e
        have := S.obj _ _ hj
        rw [hh] at this
        obtain ⟨k0, m', k1, k2⟩ := this
        rcases k2 with ⟨_, k2⟩ | ⟨r0, L2, k2, _⟩
        · subst k2
          have hg := run_getObj' (P := P) k1 (by intro _ _ _ h; cases h)
          exact ⟨.tuple #[.bool false], h, .tuple #[.bool false], w, by simp, VR.tuple' (.cons (.bool _) .nil), by simp only [Instr.next, k0, Nat.add_zero, Sem.run_bind, hg, Result.andThen_ok, Sem.run_pure], S⟩
        · simp at k2
      · rename_i m since seen last hh
        split at e
        · rename_i es c hm
          split at e
          · simp at e
          · rename_i hbad
            simp only [Option.some.injEq] at e; subst e
            have := S.obj _ _ hj
            rw [hh] at this
            obtain ⟨k0, m', k1, k2⟩ := this
            rcases k2 with ⟨k2, _⟩ | ⟨r0, L2, k2, k3, k4⟩
            · simp at k2
            · injection k2 with k2; subst k2; subst k4
              have hmo := S.obj _ _ k3
              rw [hm] at hmo
              obtain ⟨es', q1, q2, q3⟩ := hmo
              have hg := run_getObj' (P := P) k1 (by intro _ _ _ h; cases h)
              have hgm := run_getObj' (P := P) q1 (by intro _ _ _ h; cases h)
              -- the concrete lists
              have hleft := q2.filter (fun b => !seen.contains b)
              have hold := hleft.filter (fun b => decide (b < since))
              have hnew := hleft.filter (fun b => decide (b ≥ since))
              obtain ⟨cl, hcl⟩ : ∃ cl, cl = (es'.toList.filter fun e => !seen.contains e.born) := ⟨_, rfl⟩
              rw [← hcl] at hleft hold hnew
              obtain ⟨co, hco⟩ : ∃ co, co = (cl.filter fun e => decide (e.born < since)) := ⟨_, rfl⟩
              obtain ⟨cn, hcn⟩ : ∃ cn, cn = (cl.filter fun e => decide (e.born ≥ since)) := ⟨_, rfl⟩
              rw [← hco] at hold; rw [← hcn] at hnew
              have harrL : (es'.filter fun e => !seen.toArray.contains e.born) = cl.toArray := by
                apply Array.ext'; rw [hcl]; simp
              have harrO : (cl.toArray.filter fun e => decide (e.born < since)) = co.toArray := by apply Array.ext'; rw [hco]; simp
              have harrN : (cl.toArray.filter fun e => decide (e.born ≥ since)) = cn.toArray := by apply Array.ext'; rw [hcn]; simp
              have harrO' : Array.filter (fun e => decide (e.born < since)) cl.toArray 0 cl.length = co.toArray := by simpa using harrO
              have harrN' : Array.filter (fun e => decide (e.born ≥ since)) cl.toArray 0 cl.length = cn.toArray := by simpa using harrN
              obtain ⟨cands, hcands⟩ : ∃ cands : List (Option MapEntry), cands = (if co.isEmpty then [none] else []) ++ (co ++ cn).map some := ⟨_, rfl⟩
              have harrC : (if co.toArray.isEmpty then #[none] else #[]) ++ (co.toArray ++ cn.toArray).map some = cands.toArray := by
                apply Array.ext'; rw [hcands]; cases co <;> simp
              have hpos : 0 < cands.length := by rw [hcands]; cases co <;> simp
              have hcond : (!seen.toArray.isEmpty && !es'.isEmpty && es'.all (fun x => decide (x.born ≥ last))) = false := by
                have h1 : es'.isEmpty = es.isEmpty := by rw [← q2.isEmpty]; simp
                have h2 : es'.all (fun x => decide (x.born ≥ last)) = es.all (fun x => decide (x.born ≥ last)) := by
                  rw [← q2.all (fun b => decide (b ≥ last))]; simp
                rw [h1, h2]; simpa using hbad
              -- what is drawn
              obtain ⟨k, w1, hk, ⟨hw1, hio1⟩, hdraw⟩ : ∃ (k : Nat) (w1 : World), k < cands.length ∧ (w1.heap = w.heap ∧ Io w w1) ∧ (choose (.mapNext cands.length)).run P w = .ok k w1 := by
                by_cases hf : cands.length ≤ 1
                · exact ⟨0, w, hpos, ⟨rfl, Io.refl w⟩, by simp [choose, Sem.run, Question.forced, hf]⟩
                · exact ⟨(Question.mapNext cands.length).cut (w.tape w.drawn (.mapNext cands.length)), { w with drawn := w.drawn + 1 }, by simp only [Question.cut]; exact Nat.mod_lt _ hpos, ⟨rfl, rfl, rfl, rfl⟩,
                    by simp [choose, Sem.run, Question.forced, hf]⟩
              have hrun : (Instr.next (.pointer (some ⟨L.blk, L.off + 0, none⟩)) false ty).run P w =
                  (match cands[k]? with
                    | some (some e) => do
                      setObj L.blk (.mapIter (some L2.blk) since (seen.toArray.push e.born) c)
                      pure (.tuple #[.bool true, e.key, e.val])
                    | some none => pure (.tuple #[.bool false])
                    | none => stuck "Next: no such candidate" : Sem Value).run P w1 := by
                simp only [Instr.next, k0, Nat.add_zero, Sem.run_bind, hg, Result.andThen_ok, hgm, hcond, Bool.false_eq_true, if_false, harrL, harrO', harrN', harrC, List.size_toArray, hdraw, List.getElem?_toArray]
                generalize cands[k]? = q
                cases q with
                | none => rfl
                | some q => cases q <;> rfl
              have hget : cands[k]? = some (cands[k]'hk) := List.getElem?_eq_getElem hk
              have S1 : Sim F w0 j h w1 := S.heap_eq hio1 hw1
              cases hck : cands[k]'hk with
              | none =>
                rw [hget, hck] at hrun
                have hcoe : co = [] := by
                  cases co with
                  | nil => rfl
                  | cons a l =>
                    exfalso
                    have : (none : Option MapEntry) ∈ cands := by rw [← hck]; exact List.getElem_mem hk
                    rw [hcands] at this; simp at this
                refine ⟨.tuple #[.bool false], h, _, w1, ?_, VR.tuple' (.cons (.bool _) .nil), by rw [hrun]; rfl, S1⟩
                have : (List.filter (fun e => decide (e.born < since)) (List.filter (fun e => !seen.contains e.born) es)).isEmpty = true := by
                  have hl := hold.length
                  rw [hcoe] at hl
                  rw [List.eq_nil_of_length_eq_zero hl]; rfl
                rw [if_pos this]; simp
              | some ce =>
                rw [hget, hck] at hrun
                have hmem : ce ∈ co ++ cn := by
                  have : (some ce : Option MapEntry) ∈ cands := by rw [← hck]; exact List.getElem_mem hk
                  rw [hcands] at this
                  cases co <;> simp at this <;> simpa using this
                obtain ⟨i, hi2⟩ := List.getElem?_of_mem hmem
                rcases (hold.app hnew).get i with ⟨_, x2⟩ | ⟨ae, ce', x1, x2, x3⟩
                · rw [x2] at hi2; simp at hi2
                · rw [x2] at hi2; injection hi2 with hi2; subst hi2
                  have hmema : ae ∈ (List.filter (fun e => decide (e.born < since)) (List.filter (fun e => !seen.contains e.born) es)) ++
                      (List.filter (fun e => decide (e.born ≥ since)) (List.filter (fun e => !seen.contains e.born) es)) := List.mem_of_getElem? x1
                  have hw1b : w1.heap[L.blk]? = some (.mapIter (some L2.blk) since seen.toArray last) := by rw [hw1]; exact k1
                  refine ⟨.tuple #[.bool true, ae.key, ae.val], h.set b (.mapIter (some m) since (seen ++ [ae.born]) c), .tuple #[.bool true, ce'.key, ce'.val], _, ?_,
                    VR.tuple' (.cons (.bool _) (.cons x3.1 (.cons x3.2.1 .nil))), ?_,
                    obj_turn S1 hj hh hw1b (o' := .mapIter (some m) since (seen ++ [ae.born]) c) (x' := .mapIter (some L2.blk) since (seen.toArray.push ce'.born) c) trivial trivial (fun _ _ => Iff.rfl) (fun _ _ => Iff.rfl)
                      (fun w' hw => ⟨k0, some L2.blk, by rw [hw, x3.2.2]; simp, .inr ⟨m, L2, rfl, k3, rfl⟩⟩)⟩
                  · apply List.mem_append_right
                    exact List.mem_map.2 ⟨ae, hmema, rfl⟩
                  · rw [hrun]
                    simp only [Sem.run_bind, run_setObj' hw1b (x := .mapIter (some L2.blk) since (seen.toArray.push ce'.born) c) (by intro _ _ _ h; cases h), Result.andThen_ok, Sem.run_pure]
        · simp at e
      · simp at e
  · simp at e

theorem aStore_len {a : Addr} {vs : List Value} {h' : AHeap} (e : aStore h a vs = some h') : h'.length = h.length := by
  unfold aStore at e
  split at e
  · simp at e
  · split at e
    · split at e
      · simp at e; subst e; simp
      · simp at e
    · split at e
      · simp at e; subst e; simp
      · simp at e
    · simp at e

theorem aStoreAt_len {t : TypeId} {a x : Value} {h' : AHeap} (e : aStoreAt P t a x h = some h') : h.length ≤ h'.length := by
  unfold aStoreAt at e
  split at e
  · obtain ⟨_, _, e⟩ := bind_some' e
    split at e
    · rw [aStore_len e]; exact Nat.le_refl _
    · simp at e
  · simp at e

theorem aMapUpdate_len {t : TypeId} {m k x : Value} {h' : AHeap} (e : aMapUpdate P t m k x h = some h') : h.length ≤ h'.length := by
  unfold aMapUpdate at e
  split at e
  · obtain ⟨⟨r, es, c⟩, _, e⟩ := bind_some' e
    simp only at e
    split at e
    · obtain ⟨q, _, e⟩ := bind_some' e
      split at e
      · split at e
        · simp at e; subst e; simp
        · simp at e
      · simp at e; subst e; simp
    · simp at e
  · simp at e

theorem aMapEntry_len {t : TypeId} {m k r0 : Value} {h' : AHeap} (e : aMapEntry P t m k h = some (r0, h')) : h.length ≤ h'.length := by
  unfold aMapEntry at e
  split at e
  · obtain ⟨⟨r, es, c⟩, _, e⟩ := bind_some' e
    simp only at e
    split at e
    · obtain ⟨q, _, e⟩ := bind_some' e
      split at e
      · split at e
        · simp at e; obtain ⟨_, e⟩ := e; subst e; simp
        · simp at e
      · obtain ⟨_, _, e⟩ := Option.map_eq_some_iff.1 e
        injection e with _ e; subst e; simp
    · simp at e
  · simp at e

theorem aEntryStore_len {m s x : Value} {h' : AHeap} (e : aEntryStore m s x h = some h') : h.length ≤ h'.length := by
  unfold aEntryStore at e
  split at e
  · obtain ⟨⟨r, es, c⟩, _, e⟩ := bind_some' e
    simp only at e
    split at e
    · simp at e; subst e; simp
    · simp at e
  · simp at e

theorem aDelete_len {t : TypeId} {m k : Value} {h' : AHeap} (e : aDelete P t m k h = some h') : h.length ≤ h'.length := by
  unfold aDelete at e
  split at e
  · split at e
    · simp at e; subst e; exact Nat.le_refl _
    · simp at e
  · obtain ⟨⟨r, es, c⟩, _, e⟩ := bind_some' e
    simp only at e
    split at e
    · obtain ⟨q, _, e⟩ := bind_some' e
      split at e
      · simp at e; subst e; simp
      · simp at e; subst e; simp
    · simp at e
  · simp at e

theorem aClear_len {t : TypeId} {x : Value} {h' : AHeap} (e : aClear P t x h = some h') : h.length ≤ h'.length := by
  unfold aClear at e
  split at e
  · simp at e; subst e; exact Nat.le_refl _
  · simp at e; subst e; exact Nat.le_refl _
  · simp at e; subst e; exact Nat.le_refl _
  · split at e
    · simp at e; subst e; simp
    · simp at e
  · obtain ⟨_, _, e⟩ := bind_some' e
    obtain ⟨_, _, e⟩ := bind_some' e
    rw [aStore_len e]; exact Nat.le_refl _
  · simp at e

theorem aCopy_len {t : TypeId} {d s r : Value} {h' : AHeap} (e : aCopy P t d s h = some (r, h')) : h.length ≤ h'.length := by
  unfold aCopy at e
  split at e
  · obtain ⟨_, _, e⟩ := bind_some' e
    obtain ⟨_, _, e⟩ := bind_some' e
    obtain ⟨_, _, e⟩ := bind_some' e
    split at e
    · simp at e; obtain ⟨_, e⟩ := e; subst e; exact Nat.le_refl _
    · split at e
      · simp at e; obtain ⟨_, e⟩ := e; subst e; exact Nat.le_refl _
      · obtain ⟨_, e1, e⟩ := Option.map_eq_some_iff.1 e
        injection e with _ e; subst e; rw [aStore_len e1]; exact Nat.le_refl _
  · simp at e

theorem aGrow_len {el : TypeId} {size len n : Nat} {base : Option Addr} {new : List Value} {r : Value} {h' : AHeap} (e : aGrow el size base len n new h = some (r, h')) : h.length ≤ h'.length := by
  unfold aGrow at e
  split at e
  · split at e
    · injection e with e; injection e with _ e; subst e; simp
    · simp at e
  · split at e
    · injection e with e; injection e with _ e; subst e; simp
    · obtain ⟨old, _, e⟩ := Option.map_eq_some_iff.1 e
      injection e with _ e; subst e; simp
  · split at e
    · simp at e
    · split at e
      · split at e
        · injection e with e; injection e with _ e; subst e; simp
        · simp at e
      · split at e
        · injection e with e; injection e with _ e; subst e; simp
        · split at e
          · injection e with e; injection e with _ e; subst e; simp
          · simp at e
      · simp at e

theorem aAppend_len {t xt : TypeId} {s x r : Value} {h' : AHeap} (e : aAppend P t xt s x h = some (r, h')) : h.length ≤ h'.length := by
  unfold aAppend at e
  split at e
  · split at e
    · simp at e
    · split at e
      · simp at e
      · obtain ⟨⟨n, new⟩, _, e⟩ := bind_some' e
        simp only at e
        split at e
        · simp at e
        · split at e
          · split at e
            · simp at e; obtain ⟨_, e⟩ := e; subst e; exact Nat.le_refl _
            · split at e
              · simp at e; obtain ⟨_, e⟩ := e; subst e; exact Nat.le_refl _
              · obtain ⟨_, e1, e⟩ := Option.map_eq_some_iff.1 e
                injection e with _ e; subst e; rw [aStore_len e1]; exact Nat.le_refl _
          · split at e
            · exact aGrow_len e
            · simp at e
  · simp at e

theorem aNextStr_len {it r : Value} {h' : AHeap} (e : aNextStr it h = some (r, h')) : h.length ≤ h'.length := by
  unfold aNextStr at e
  split at e
  · split at e
    · split at e
      · simp at e; obtain ⟨_, e⟩ := e; subst e; simp
      · simp at e; obtain ⟨_, e⟩ := e; subst e; exact Nat.le_refl _
    · simp at e
  · simp at e

theorem aNextMap_len {it : Value} {outs : List (Value × AHeap)} (e : aNextMap it h = some outs) {r : Value} {h' : AHeap} (hm : (r, h') ∈ outs) : h.length ≤ h'.length := by
  unfold aNextMap at e
  split at e
  · split at e
    · simp at e; subst e; simp at hm; rw [hm.2]; exact Nat.le_refl _
    · split at e
      · split at e
        · simp at e
        · simp only [Option.some.injEq] at e; subst e
          rw [List.mem_append] at hm
          rcases hm with hm | hm
          · split at hm
            · simp at hm; rw [hm.2]; exact Nat.le_refl _
            · simp at hm
          · obtain ⟨en, _, e2⟩ := List.mem_map.1 hm
            injection e2 with _ e2; subst e2; simp
      · simp at e
    · simp at e
  · simp at e

/-- effects never take an object away -/
theorem aEff_len {op : Op} {r : Value} {h' : AHeap} (e : aEff P ρ h op = some (r, h')) : h.length ≤ h'.length := by
  unfold aEff at e
  split at e
  · obtain ⟨_, _, e⟩ := bind_some' e
    exact aConvMark_len e
  · split at e
    · obtain ⟨_, _, e⟩ := bind_some' e
      obtain ⟨_, _, e⟩ := bind_some' e
      exact aUnsafeString_len e
    · simp at e
  · obtain ⟨_, _, e⟩ := bind_some' e
    obtain ⟨_, _, e⟩ := bind_some' e
    obtain ⟨h2, e1, e2⟩ := Option.map_eq_some_iff.1 e
    injection e2 with _ e2; subst e2; exact aStoreAt_len e1
  · obtain ⟨_, _, e⟩ := bind_some' e
    obtain ⟨_, _, e⟩ := bind_some' e
    obtain ⟨_, _, e⟩ := bind_some' e
    obtain ⟨h2, e1, e2⟩ := Option.map_eq_some_iff.1 e
    injection e2 with _ e2; subst e2; exact aMapUpdate_len e1
  · obtain ⟨_, _, e⟩ := bind_some' e
    obtain ⟨_, _, e⟩ := bind_some' e
    obtain ⟨_, _, e⟩ := bind_some' e
    obtain ⟨h2, e1, e2⟩ := Option.map_eq_some_iff.1 e
    injection e2 with _ e2; subst e2; exact aMapUpdate_len e1
  · obtain ⟨_, _, e⟩ := bind_some' e
    obtain ⟨_, _, e⟩ := bind_some' e
    exact aMapEntry_len e
  · obtain ⟨_, _, e⟩ := bind_some' e
    obtain ⟨_, _, e⟩ := bind_some' e
    obtain ⟨_, _, e⟩ := bind_some' e
    obtain ⟨h2, e1, e2⟩ := Option.map_eq_some_iff.1 e
    injection e2 with _ e2; subst e2; exact aEntryStore_len e1
  · split at e
    · obtain ⟨_, _, e⟩ := bind_some' e
      obtain ⟨_, _, e⟩ := bind_some' e
      exact aAppend_len e
    · simp at e
  · split at e
    · obtain ⟨_, _, e⟩ := bind_some' e
      obtain ⟨_, _, e⟩ := bind_some' e
      exact aCopy_len e
    · simp at e
  · split at e
    · obtain ⟨_, _, e⟩ := bind_some' e
      obtain ⟨_, _, e⟩ := bind_some' e
      obtain ⟨h2, e1, e2⟩ := Option.map_eq_some_iff.1 e
      injection e2 with _ e2; subst e2; exact aDelete_len e1
    · simp at e
  · split at e
    · obtain ⟨_, _, e⟩ := bind_some' e
      obtain ⟨h2, e1, e2⟩ := Option.map_eq_some_iff.1 e
      injection e2 with _ e2; subst e2; exact aClear_len e1
    · simp at e
  · obtain ⟨_, _, e⟩ := bind_some' e
    obtain ⟨ob, e1, e2⟩ := Option.map_eq_some_iff.1 e
    injection e2 with _ e2; subst e2; simp
  · obtain ⟨_, _, e⟩ := bind_some' e
    exact aNextStr_len e
  · obtain ⟨_, _, e⟩ := bind_some' e
    obtain ⟨r1, e1, e2⟩ := Option.map_eq_some_iff.1 e
    injection e2 with _ e2; subst e2; exact Nat.le_refl _
  · simp at e

end Go.Fm
