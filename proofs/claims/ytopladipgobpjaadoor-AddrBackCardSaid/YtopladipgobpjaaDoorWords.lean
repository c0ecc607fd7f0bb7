/-
  Small facts on types, and how a contract is laid into a run.
-/
import Derived.Test.YtopladipgobpjaaDoorSeat
import Derived.Test.YtopladipgobpjaaDoorBits
namespace Go.Proofs.YtopladipgobpjaaDoor
open Go.Fm
theorem ty_u90 : Tryd.prog.underlying 90 = some (.slice 5) := by kernel_rfl
theorem ty_u23 : Tryd.prog.underlying 23 = some (.array 4 5) := by kernel_rfl
theorem ty_u31 : Tryd.prog.underlying 31 = some (.array 16 5) := by kernel_rfl
theorem ty_u5 : Tryd.prog.underlying 5 = some (.int .u8) := by kernel_rfl
theorem ty_sz5 : semPure Tryd.prog (sizeOf 5) = some 1 := by kernel_rfl
theorem ty_ag5 : semPure Tryd.prog (isAgg 5) = some false := by kernel_rfl
def Fun (f : FuncId) (args : List Value) (v : Value) : Prop := Fm.Spec Tryd.prog [] f args [] fun r _ => ∃ u, r = .ret u ∧ Flat u ∧ u = v
theorem Fun.any {f : FuncId} {args : List Value} {v : Value} (hs : Fun f args v) (ha : ∀ u ∈ args, Flat u) (gs : List Nat) (h : AHeap) : Fm.Spec Tryd.prog gs f args h fun r h' => r = .ret v ∧ h' = h :=
  Spec.mono (Spec.lift (gs' := gs) (h := h) (Q := fun u => u = v) hs ha (by simp) rfl (by simp) (by simp) (by simp)) (by rintro r h' ⟨⟨u, rfl, _, rfl⟩, rfl⟩; exact ⟨rfl, rfl⟩)
theorem Fun.call {f : FuncId} {args : List Value} {v : Value} (hs : Fun f args v) (ha : ∀ u ∈ args, Flat u) {gs : List Nat} {h : AHeap} {X : Prop} (hX : X) :
    SpecC Tryd.prog gs (.fn f) args h (fun r h' => ∃ ia, ((fun _ : Unit => (True, Res.ret v, h)) ia).1 ∧ r = ((fun _ : Unit => (True, Res.ret v, h)) ia).2.1 ∧ h' = ((fun _ : Unit => (True, Res.ret v, h)) ia).2.2) ∧ ∀ _ : Unit, True → X :=
  ⟨.inl (Spec.mono (hs.any ha gs h) (by rintro r h' ⟨rfl, rfl⟩; exact ⟨(), trivial, rfl, rfl⟩)), fun _ _ => hX⟩
theorem flat_bytes (l : List Int) (rest : List Value) (hr : ∀ v ∈ rest, Flat v) : Flat (.agg (l.map (Value.int .u8) ++ rest).toArray) := by
  refine .agg fun i v e => ?_
  have := List.mem_of_getElem? (show (l.map (Value.int .u8) ++ rest)[i]? = some v by simpa using e)
  rcases List.mem_append.1 this with h | h
  · obtain ⟨x, _, rfl⟩ := List.mem_map.1 h; exact .int _ _
  · exact hr v h
theorem none_mem : ∀ v ∈ ([] : List Value), Flat v := fun _ h => by cases h
theorem two_mem {P : Value → Prop} {a b : Value} (ha : P a) (hb : P b) : ∀ v ∈ [a, b], P v := by
  intro v hv
  rcases List.mem_cons.1 hv with rfl | hv
  · exact ha
  · rw [List.mem_singleton] at hv; subst hv; exact hb
theorem one_mem {P : Value → Prop} {a : Value} (ha : P a) : ∀ v ∈ [a], P v := by
  intro v hv; rw [List.mem_singleton] at hv; subst hv; exact ha
theorem two_of {o : Option Value} {b : Bool} (ho : o = some (.bool b)) {X Y : Prop} (hx : b = true → X) (hy : b = false → Y) : (∃ z : Bool, o = some (.bool z)) ∧ (o = some (.bool true) → X) ∧ (o = some (.bool false) → Y) := by
  subst ho
  exact ⟨⟨b, rfl⟩, fun e => hx (by injection e with e; injection e), fun e => hy (by injection e with e; injection e)⟩
theorem guardA4 : Tryd.prog.eqGuardType Tryd.prog.depth 23 = false := by kernel_rfl
theorem arr4 {ox oy : Operand} (a0 a1 a2 a3 b0 b1 b2 b3 : Int) : aBin2 Tryd.prog .eql 23 ox oy (.agg ⟨[.int .u8 a0, .int .u8 a1, .int .u8 a2, .int .u8 a3]⟩) (.agg ⟨[.int .u8 b0, .int .u8 b1, .int .u8 b2, .int .u8 b3]⟩) = some (.bool (decide ([a0, a1, a2, a3] = [b0, b1, b2, b3]))) :=
  aBin2_eql_agg rfl rfl guardA4 (eq_ints (d := 9998) (l := [a0, a1, a2, a3]) (l' := [b0, b1, b2, b3]) ty_u23 ty_u5 ty_sz5 ty_ag5 rfl rfl)
theorem guardA16 : Tryd.prog.eqGuardType Tryd.prog.depth 31 = false := by kernel_rfl
theorem arr16 {ox oy : Operand} (a0 a1 a2 a3 a4 a5 a6 a7 a8 a9 a10 a11 a12 a13 a14 a15 b0 b1 b2 b3 b4 b5 b6 b7 b8 b9 b10 b11 b12 b13 b14 b15 : Int) : aBin2 Tryd.prog .eql 31 ox oy (.agg ⟨[.int .u8 a0, .int .u8 a1, .int .u8 a2, .int .u8 a3, .int .u8 a4, .int .u8 a5, .int .u8 a6, .int .u8 a7, .int .u8 a8, .int .u8 a9, .int .u8 a10, .int .u8 a11, .int .u8 a12, .int .u8 a13, .int .u8 a14, .int .u8 a15]⟩) (.agg ⟨[.int .u8 b0, .int .u8 b1, .int .u8 b2, .int .u8 b3, .int .u8 b4, .int .u8 b5, .int .u8 b6, .int .u8 b7, .int .u8 b8, .int .u8 b9, .int .u8 b10, .int .u8 b11, .int .u8 b12, .int .u8 b13, .int .u8 b14, .int .u8 b15]⟩) = some (.bool (decide ([a0, a1, a2, a3, a4, a5, a6, a7, a8, a9, a10, a11, a12, a13, a14, a15] = [b0, b1, b2, b3, b4, b5, b6, b7, b8, b9, b10, b11, b12, b13, b14, b15]))) :=
  aBin2_eql_agg rfl rfl guardA16 (eq_ints (d := 9998) (l := [a0, a1, a2, a3, a4, a5, a6, a7, a8, a9, a10, a11, a12, a13, a14, a15]) (l' := [b0, b1, b2, b3, b4, b5, b6, b7, b8, b9, b10, b11, b12, b13, b14, b15]) ty_u31 ty_u5 ty_sz5 ty_ag5 rfl rfl)
end Go.Proofs.YtopladipgobpjaaDoor
