/-
  FmEq: comparing arrays and structs of integers that are symbols.
-/
import Derived.Test.YtopladipgobpjaaDoorFmStep
namespace Go.Fm

variable {P : Program}

theorem eqList_all {g : Nat → Option Bool} {f : Nat → Bool} : ∀ {is : List Nat}, (∀ i ∈ is, g i = some (f i)) → eqList is g = some (is.all f)
  | [], _ => rfl
  | i :: r, h => by
    simp only [eqList, h i (by simp), Option.bind_some, List.all_cons]
    cases hf : f i with
    | true => simp only [if_true, Bool.true_and]; exact eqList_all fun j hj => h j (by simp [hj])
    | false => simp

theorem all_range_eq {l l' : List Int} {n : Nat} (hl : l.length = n) (hl' : l'.length = n) : ((List.range n).all fun i => l.getD i 0 == l'.getD i 0) = decide (l = l') := by
  rw [Bool.eq_iff_iff, decide_eq_true_eq, List.all_eq_true]
  simp only [List.mem_range, beq_iff_eq]
  constructor
  · intro h
    apply List.ext_getElem (by omega)
    intro i h1 h2
    have := h i (by omega)
    simpa [List.getD_eq_getElem?_getD, List.getElem?_eq_getElem h1, List.getElem?_eq_getElem h2] using this
  · rintro rfl i _; rfl

theorem semPure_int {d : Nat} {e : TypeId} {k k' : IntKind} (he : P.underlying e = some (.int k')) (a b : Int) : semPure P (Op.equalIn (d + 1) e (.int k a) (.int k b)) = some (a == b) := by
  simp only [Op.equalIn, semPure_bind, semPure_underlying he, Option.bind_some]
  rw [if_pos trivial]; rfl

theorem eq_ints {d : Nat} {t e : TypeId} {n : Nat} {k k' : IntKind} (hu : P.underlying t = some (.array n e)) (he : P.underlying e = some (.int k')) (hc : semPure P (sizeOf e) = some 1) (ha : semPure P (isAgg e) = some false)
    {l l' : List Int} (hl : l.length = n) (hl' : l'.length = n) : semPure P (Op.equalIn (d + 2) t (.agg (l.map (Value.int k)).toArray) (.agg (l'.map (Value.int k)).toArray)) = some (decide (l = l')) := by
  have hp : ∀ {l : List Int} (i : Nat), i < l.length → semPure P (part e (l.map (Value.int k)).toArray (i * 1)) = some (.int k (l.getD i 0)) := by
    intro l i hi
    unfold part
    rw [semPure_bind, ha, Option.bind_some]
    simp only [Bool.false_eq_true, if_false, Nat.mul_one, List.getElem?_toArray, List.getElem?_map, List.getElem?_eq_getElem hi, Option.map_some, List.getD_eq_getElem?_getD, Option.getD_some]
    rfl
  rw [equalIn_array (d + 1) _ _ 1 hu hc, ← all_range_eq hl hl']
  refine eqList_all fun i hi => ?_
  have hi : i < n := by simpa using hi
  rw [hp i (by omega), hp i (by omega)]
  exact semPure_int he _ _

theorem aBin2_eql_agg {t : TypeId} {ox oy : Operand} {x y : Array Value} (hx : flatB (.agg x) = true) (hy : flatB (.agg y) = true) (hg : P.eqGuardType P.depth t = false) {b : Bool} (hb : semPure P (Op.equalIn 10000 t (.agg x) (.agg y)) = some b) :
    aBin2 P .eql t ox oy (.agg x) (.agg y) = some (.bool b) := by
  have h1 : semPure P (eqGuard .eql t ox oy (.agg x) (.agg y)) = some () := by
    show (semPure P ((program >>= fun p => _) : Sem Unit)) = _
    rw [semPure_bind]
    show semPure P (program >>= fun p => _) = _
    rw [semPure_bind]
    show semPure P (if (!(P.eqGuardType P.depth t)) = true then _ else _) = _
    rw [hg]; rfl
  have h2 : semPure P (binOp .eql t (.agg x) (.agg y)) = some (.bool b) := by
    show semPure P (Op.equal t (.agg x) (.agg y) >>= fun r => pure (Value.bool r)) = _
    rw [semPure_bind]
    show (semPure P (Op.equalIn 10000 t (.agg x) (.agg y))).bind _ = _
    rw [hb]; rfl
  unfold aBin2
  rw [hx, hy]
  simp only [Bool.and_self, if_true]
  unfold semFlat
  rw [semPure_bind, h1, Option.bind_some, h2]
  rfl

theorem aBin2_neq_agg {t : TypeId} {ox oy : Operand} {x y : Array Value} (hx : flatB (.agg x) = true) (hy : flatB (.agg y) = true) (hg : P.eqGuardType P.depth t = false) {b : Bool} (hb : semPure P (Op.equalIn 10000 t (.agg x) (.agg y)) = some b) :
    aBin2 P .neq t ox oy (.agg x) (.agg y) = some (.bool !b) := by
  have h1 : semPure P (eqGuard .neq t ox oy (.agg x) (.agg y)) = some () := by
    show (semPure P ((program >>= fun p => _) : Sem Unit)) = _
    rw [semPure_bind]
    show semPure P (program >>= fun p => _) = _
    rw [semPure_bind]
    show semPure P (if (!(P.eqGuardType P.depth t)) = true then _ else _) = _
    rw [hg]; rfl
  have h2 : semPure P (binOp .neq t (.agg x) (.agg y)) = some (.bool !b) := by
    show semPure P (Op.equal t (.agg x) (.agg y) >>= fun r => pure (Value.bool !r)) = _
    rw [semPure_bind]
    show (semPure P (Op.equalIn 10000 t (.agg x) (.agg y))).bind _ = _
    rw [hb]; rfl
  unfold aBin2
  rw [hx, hy]
  simp only [Bool.and_self, if_true]
  unfold semFlat
  rw [semPure_bind, h1, Option.bind_some, h2]
  rfl

/-- a struct, field by field -/
def eqFields (P : Program) (d : Nat) (xs ys : Array Value) : List Field → Option Bool
  | [] => some true
  | f :: r =>
    if f.name ≠ "_" then
      (semPure P (part f.type xs f.offset)).bind fun a => (semPure P (part f.type ys f.offset)).bind fun b => (semPure P (Op.equalIn d f.type a b)).bind fun q => if q = true then eqFields P d xs ys r else some false
    else eqFields P d xs ys r

theorem equalIn_struct (d : Nat) {t : TypeId} {fs : Array Field} (xs ys : Array Value) (hu : P.underlying t = some (.struct fs)) (hh : P.stoodInHeld t = false) :
    semPure P (Op.equalIn (d + 1) t (.agg xs) (.agg ys)) = eqFields P d xs ys fs.toList := by
  simp only [Op.equalIn, semPure_bind, semPure_underlying hu, Option.bind_some]
  show (semPure P (if P.stoodInHeld t = true then _ else _)) = _
  rw [hh]
  simp only [Bool.false_eq_true, if_false, semPure_bind, ← Array.forIn_toList]
  generalize fs.toList = l
  induction l with
  | nil => rfl
  | cons f l ih =>
    simp only [List.forIn_cons, eqFields, semPure_bind]
    by_cases hn : f.name ≠ "_"
    · rw [if_pos hn, if_pos hn]
      simp only [semPure_bind]
      generalize semPure P (part f.type xs f.offset) = r1
      cases r1 with
      | none => rfl
      | some a =>
        generalize semPure P (part f.type ys f.offset) = r2
        cases r2 with
        | none => rfl
        | some b =>
          simp only [Option.bind_some]
          generalize semPure P (Op.equalIn d f.type a b) = r3
          cases r3 with
          | none => rfl
          | some r =>
            cases r
            · rfl
            · exact ih
    · rw [if_neg hn, if_neg hn]
      exact ih

end Go.Fm
