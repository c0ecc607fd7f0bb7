/-
  Small facts on types, and how a contract is laid into a run.
-/
import Derived.Test.YtopladipgobpjaaDoorSeat
import Derived.Test.YtopladipgobpjaaDoorBits
namespace Go.Proofs.YtopladipgobpjaaDoor
open Go.Fm

theorem ty_u90 : Tryd.prog.underlying 90 = some (.slice 5) := by kernel_rfl
theorem ty_u23 : Tryd.prog.underlying 23 = some (.array 4 5) := by kernel_rfl
theorem ty_u31 : Tryd.prog.underlying 31 = some (.array 16 5) := by kernel_rfl
theorem ty_u5 : Tryd.prog.underlying 5 = some (.int .u8) := by kernel_rfl
theorem ty_u3 : Tryd.prog.underlying 3 = some (.int .i64) := by kernel_rfl
theorem ty_s5 : aSize Tryd.prog 5 = some 1 := by kernel_rfl
theorem ty_a5 : aIsAgg Tryd.prog 5 = some false := by kernel_rfl
theorem ty_sz5 : semPure Tryd.prog (sizeOf 5) = some 1 := by kernel_rfl
theorem ty_ag5 : semPure Tryd.prog (isAgg 5) = some false := by kernel_rfl

/-- a function of values alone, by its contract -/
def Fun (f : FuncId) (args : List Value) (v : Value) : Prop := Fm.Spec Tryd.prog [] f args [] fun r _ => ∃ u, r = .ret u ∧ Flat u ∧ u = v

theorem Fun.any {f : FuncId} {args : List Value} {v : Value} (hs : Fun f args v) (ha : ∀ u ∈ args, Flat u) (gs : List Nat) (h : AHeap) : Fm.Spec Tryd.prog gs f args h fun r h' => r = .ret v ∧ h' = h :=
  Spec.mono (Spec.lift (gs' := gs) (h := h) (Q := fun u => u = v) hs ha (by simp) rfl (by simp) (by simp) (by simp)) (by rintro r h' ⟨⟨u, rfl, _, rfl⟩, rfl⟩; exact ⟨rfl, rfl⟩)

theorem Fun.call {f : FuncId} {args : List Value} {v : Value} (hs : Fun f args v) (ha : ∀ u ∈ args, Flat u) {gs : List Nat} {h : AHeap} {X : Prop} (hX : X) :
    SpecC Tryd.prog gs (.fn f) args h (fun r h' => ∃ ia, ((fun _ : Unit => (True, Res.ret v, h)) ia).1 ∧ r = ((fun _ : Unit => (True, Res.ret v, h)) ia).2.1 ∧ h' = ((fun _ : Unit => (True, Res.ret v, h)) ia).2.2) ∧ ∀ _ : Unit, True → X :=
  ⟨.inl (Spec.mono (hs.any ha gs h) (by rintro r h' ⟨rfl, rfl⟩; exact ⟨(), trivial, rfl, rfl⟩)), fun _ _ => hX⟩

theorem flat_bytes (l : List Int) (rest : List Value) (hr : ∀ v ∈ rest, Flat v) : Flat (.agg (l.map (Value.int .u8) ++ rest).toArray) := by
  refine .agg fun i v e => ?_
  have := List.mem_of_getElem? (show (l.map (Value.int .u8) ++ rest)[i]? = some v by simpa using e)
  rcases List.mem_append.1 this with h | h
  · obtain ⟨x, _, rfl⟩ := List.mem_map.1 h; exact .int _ _
  · exact hr v h

theorem flat_int (k : IntKind) (n : Int) : ∀ v ∈ [Value.int k n], Flat v := by
  intro v hv; rw [List.mem_singleton] at hv; subst hv; exact .int _ _

theorem hlen4 (a b c d : Int) : (([a, b, c, d] : List Int).length : Int) = 4 := rfl

theorem none_mem : ∀ v ∈ ([] : List Value), Flat v := fun _ h => by cases h
theorem two_mem {P : Value → Prop} {a b : Value} (ha : P a) (hb : P b) : ∀ v ∈ [a, b], P v := by
  intro v hv
  rcases List.mem_cons.1 hv with rfl | hv
  · exact ha
  · rw [List.mem_singleton] at hv; subst hv; exact hb
theorem one_mem {P : Value → Prop} {a : Value} (ha : P a) : ∀ v ∈ [a], P v := by
  intro v hv; rw [List.mem_singleton] at hv; subst hv; exact ha

theorem list4 (l : List Int) (h : l.length = 4) : l = [l.getD 0 0, l.getD 1 0, l.getD 2 0, l.getD 3 0] := by
  match l, h with
  | [x0, x1, x2, x3], _ => rfl
theorem list4m (l : List Int) (h : l.length = 4) : l.map (Value.int .u8) = [.int .u8 (l.getD 0 0), .int .u8 (l.getD 1 0), .int .u8 (l.getD 2 0), .int .u8 (l.getD 3 0)] := by
  match l, h with
  | [x0, x1, x2, x3], _ => rfl

theorem list16 (l : List Int) (h : l.length = 16) : l = [l.getD 0 0, l.getD 1 0, l.getD 2 0, l.getD 3 0, l.getD 4 0, l.getD 5 0, l.getD 6 0, l.getD 7 0, l.getD 8 0, l.getD 9 0, l.getD 10 0, l.getD 11 0, l.getD 12 0, l.getD 13 0, l.getD 14 0, l.getD 15 0] := by
  match l, h with
  | [x0, x1, x2, x3, x4, x5, x6, x7, x8, x9, x10, x11, x12, x13, x14, x15], _ => rfl
theorem list16m (l : List Int) (h : l.length = 16) : l.map (Value.int .u8) = [.int .u8 (l.getD 0 0), .int .u8 (l.getD 1 0), .int .u8 (l.getD 2 0), .int .u8 (l.getD 3 0), .int .u8 (l.getD 4 0), .int .u8 (l.getD 5 0), .int .u8 (l.getD 6 0), .int .u8 (l.getD 7 0), .int .u8 (l.getD 8 0), .int .u8 (l.getD 9 0), .int .u8 (l.getD 10 0), .int .u8 (l.getD 11 0), .int .u8 (l.getD 12 0), .int .u8 (l.getD 13 0), .int .u8 (l.getD 14 0), .int .u8 (l.getD 15 0)] := by
  match l, h with
  | [x0, x1, x2, x3, x4, x5, x6, x7, x8, x9, x10, x11, x12, x13, x14, x15], _ => rfl

theorem two_of {o : Option Value} {b : Bool} (ho : o = some (.bool b)) {X Y : Prop} (hx : b = true → X) (hy : b = false → Y) : (∃ z : Bool, o = some (.bool z)) ∧ (o = some (.bool true) → X) ∧ (o = some (.bool false) → Y) := by
  subst ho
  exact ⟨⟨b, rfl⟩, fun e => hx (by injection e with e; injection e), fun e => hy (by injection e with e; injection e)⟩

theorem xor_bit {x y : Int} (h0 : 0 ≤ x) (h1 : x < 256) (h2 : 0 ≤ y) (h3 : y < 256) {s : Nat} (hs : s < 8) :
    IntKind.u8.wrap ↑(BitVec.ofInt IntKind.u8.bits (((x.toNat ^^^ y.toNat : Nat) : Int).fdiv (2 ^ min ((s : Nat) : Int).toNat IntKind.u8.bits)) &&& BitVec.ofInt IntKind.u8.bits 1).toNat = if (x.toNat.testBit s ^^ y.toNat.testBit s) = true then 1 else 0 := by
  have hx : x.toNat ^^^ y.toNat < 2 ^ 8 := Nat.xor_lt_two_pow (by omega) (by omega)
  rw [bit_word (by omega) (by omega) hs, Int.toNat_natCast, Nat.testBit_xor]

theorem two_get {a b : Value} (ha : Flat a) (hb : Flat b) : ∀ (i : Nat) (v : Value), (⟨[a, b]⟩ : Array Value)[i]? = some v → Flat v := by
  intro i v e
  have e' : [a, b][i]? = some v := by simpa using e
  exact two_mem ha hb v (List.mem_of_getElem? e')

theorem storeN {P : Program} {t : TypeId} {h h' : AHeap} {b k : Nat} {l : List Int} {rest : List Value} {mk : List Value → AObj} {x : Int} (hT : aSize P t = some 1)
    (hmk : mk = (fun c => .cells c false) ∨ ∃ u, mk = fun c => .tcells c u (some 0)) (hb : h[b]? = some (mk (l.map (Value.int .u8) ++ rest))) (hk : k < l.length)
    (hh : h.set b (mk ((l.set (0 + k * 1) x).map (Value.int .u8) ++ rest)) = h') :
    ((aStoreAt P t (.pointer (some ⟨b, 0 + k * 1, none⟩)) (.int .u8 x) h).map fun h => (undefV, h)) = some (undefV, h') := by
  have hs : splice (l.map (Value.int .u8) ++ rest) (0 + k * 1) [.int .u8 x] = (l.set (0 + k * 1) x).map (Value.int .u8) ++ rest := by
    have hk' : 0 + k * 1 < l.length := by omega
    unfold splice
    rw [List.take_append_of_le_length (by simp; omega), List.drop_append_of_le_length (by simp; omega), List.append_assoc, List.set_eq_take_append_cons_drop, if_pos hk']
    simp [List.map_take, List.map_drop]
  have hle : 0 + k * 1 + [Value.int .u8 x].length ≤ (l.map (Value.int .u8) ++ rest).length := by simp; omega
  have hst : aStore h ⟨b, 0 + k * 1, none⟩ [.int .u8 x] = some h' := by
    unfold aStore
    simp only [Option.isSome_none, Bool.false_eq_true, if_false]
    rcases hmk with rfl | ⟨u, rfl⟩
    · rw [hb]
      simp only
      rw [if_pos ⟨hle, rfl⟩, hs, hh]
    · rw [hb]
      simp only
      rw [if_pos ⟨hle, rfl, Nat.zero_le _⟩, hs, hh]
  have : aStoreAt P t (.pointer (some ⟨b, 0 + k * 1, none⟩)) (.int .u8 x) h = some h' := by
    unfold aStoreAt
    simp only [hT, Option.bind_some]
    exact (if_pos rfl).trans hst
  rw [this]; rfl

noncomputable def fieldsOf (t : TypeId) : Array Field := match Tryd.prog.underlying t with
  | some (.struct fs) => fs
  | _ => #[]

noncomputable def eqPfx (ta : TypeId) (A B : Value) (n m : Int) : Option Bool :=
  (semPure Tryd.prog (Op.equalIn 9999 ta A B)).bind fun q => if q = true then (semPure Tryd.prog (Op.equalIn 9999 3 (.int .i64 n) (.int .i64 m))).bind fun q => if q = true then some true else some false else some false

theorem fields4 : Tryd.prog.underlying 39 = some (.struct (fieldsOf 39)) := by kernel_rfl
theorem held4 : Tryd.prog.stoodInHeld 39 = false := by kernel_rfl
theorem guard4 : Tryd.prog.eqGuardType Tryd.prog.depth 39 = false := by kernel_rfl
theorem guardA4 : Tryd.prog.eqGuardType Tryd.prog.depth 23 = false := by kernel_rfl
theorem eqf4 (a0 a1 a2 a3 an b0 b1 b2 b3 bn : Int) : eqFields Tryd.prog 9999 ⟨[.int .u8 a0, .int .u8 a1, .int .u8 a2, .int .u8 a3, .int .i64 an]⟩ ⟨[.int .u8 b0, .int .u8 b1, .int .u8 b2, .int .u8 b3, .int .i64 bn]⟩ (fieldsOf 39).toList = eqPfx 23 (.agg ⟨[.int .u8 a0, .int .u8 a1, .int .u8 a2, .int .u8 a3]⟩) (.agg ⟨[.int .u8 b0, .int .u8 b1, .int .u8 b2, .int .u8 b3]⟩) an bn := by kernel_rfl

theorem pfxIn4 (a0 a1 a2 a3 an b0 b1 b2 b3 bn : Int) : semPure Tryd.prog (Op.equalIn 10000 39 (.agg ⟨[.int .u8 a0, .int .u8 a1, .int .u8 a2, .int .u8 a3, .int .i64 an]⟩) (.agg ⟨[.int .u8 b0, .int .u8 b1, .int .u8 b2, .int .u8 b3, .int .i64 bn]⟩)) = some (decide ([a0, a1, a2, a3] = [b0, b1, b2, b3]) && decide (an = bn)) := by
  have h := equalIn_struct 9999 ⟨[.int .u8 a0, .int .u8 a1, .int .u8 a2, .int .u8 a3, .int .i64 an]⟩ ⟨[.int .u8 b0, .int .u8 b1, .int .u8 b2, .int .u8 b3, .int .i64 bn]⟩ fields4 held4
  rw [h, eqf4]
  unfold eqPfx
  have h1 : semPure Tryd.prog (Op.equalIn 9999 23 (.agg ⟨[.int .u8 a0, .int .u8 a1, .int .u8 a2, .int .u8 a3]⟩) (.agg ⟨[.int .u8 b0, .int .u8 b1, .int .u8 b2, .int .u8 b3]⟩)) = some (decide ([a0, a1, a2, a3] = [b0, b1, b2, b3])) :=
    eq_ints (d := 9997) (l := [a0, a1, a2, a3]) (l' := [b0, b1, b2, b3]) ty_u23 ty_u5 ty_sz5 ty_ag5 rfl rfl
  have h2 : semPure Tryd.prog (Op.equalIn 9999 3 (.int .i64 an) (.int .i64 bn)) = some (an == bn) := semPure_int (d := 9998) ty_u3 an bn
  rw [h1, h2]
  have h3 : (an == bn) = decide (an = bn) := rfl
  rw [h3]
  cases decide ([a0, a1, a2, a3] = [b0, b1, b2, b3]) <;> cases decide (an = bn) <;> rfl

theorem pfx4 {ox oy : Operand} (a0 a1 a2 a3 an b0 b1 b2 b3 bn : Int) : aBin2 Tryd.prog .eql 39 ox oy (.agg ⟨[.int .u8 a0, .int .u8 a1, .int .u8 a2, .int .u8 a3, .int .i64 an]⟩) (.agg ⟨[.int .u8 b0, .int .u8 b1, .int .u8 b2, .int .u8 b3, .int .i64 bn]⟩) = some (.bool (decide ([a0, a1, a2, a3] = [b0, b1, b2, b3]) && decide (an = bn))) :=
  aBin2_eql_agg rfl rfl guard4 (pfxIn4 a0 a1 a2 a3 an b0 b1 b2 b3 bn)
theorem pfxn4 {ox oy : Operand} (a0 a1 a2 a3 an b0 b1 b2 b3 bn : Int) : aBin2 Tryd.prog .neq 39 ox oy (.agg ⟨[.int .u8 a0, .int .u8 a1, .int .u8 a2, .int .u8 a3, .int .i64 an]⟩) (.agg ⟨[.int .u8 b0, .int .u8 b1, .int .u8 b2, .int .u8 b3, .int .i64 bn]⟩) = some (.bool !(decide ([a0, a1, a2, a3] = [b0, b1, b2, b3]) && decide (an = bn))) :=
  aBin2_neq_agg rfl rfl guard4 (pfxIn4 a0 a1 a2 a3 an b0 b1 b2 b3 bn)
theorem arr4 {ox oy : Operand} (a0 a1 a2 a3 b0 b1 b2 b3 : Int) : aBin2 Tryd.prog .eql 23 ox oy (.agg ⟨[.int .u8 a0, .int .u8 a1, .int .u8 a2, .int .u8 a3]⟩) (.agg ⟨[.int .u8 b0, .int .u8 b1, .int .u8 b2, .int .u8 b3]⟩) = some (.bool (decide ([a0, a1, a2, a3] = [b0, b1, b2, b3]))) :=
  aBin2_eql_agg rfl rfl guardA4 (eq_ints (d := 9998) (l := [a0, a1, a2, a3]) (l' := [b0, b1, b2, b3]) ty_u23 ty_u5 ty_sz5 ty_ag5 rfl rfl)

theorem fields16 : Tryd.prog.underlying 46 = some (.struct (fieldsOf 46)) := by kernel_rfl
theorem held16 : Tryd.prog.stoodInHeld 46 = false := by kernel_rfl
theorem guard16 : Tryd.prog.eqGuardType Tryd.prog.depth 46 = false := by kernel_rfl
theorem guardA16 : Tryd.prog.eqGuardType Tryd.prog.depth 31 = false := by kernel_rfl
theorem eqf16 (a0 a1 a2 a3 a4 a5 a6 a7 a8 a9 a10 a11 a12 a13 a14 a15 an b0 b1 b2 b3 b4 b5 b6 b7 b8 b9 b10 b11 b12 b13 b14 b15 bn : Int) : eqFields Tryd.prog 9999 ⟨[.int .u8 a0, .int .u8 a1, .int .u8 a2, .int .u8 a3, .int .u8 a4, .int .u8 a5, .int .u8 a6, .int .u8 a7, .int .u8 a8, .int .u8 a9, .int .u8 a10, .int .u8 a11, .int .u8 a12, .int .u8 a13, .int .u8 a14, .int .u8 a15, .int .i64 an]⟩ ⟨[.int .u8 b0, .int .u8 b1, .int .u8 b2, .int .u8 b3, .int .u8 b4, .int .u8 b5, .int .u8 b6, .int .u8 b7, .int .u8 b8, .int .u8 b9, .int .u8 b10, .int .u8 b11, .int .u8 b12, .int .u8 b13, .int .u8 b14, .int .u8 b15, .int .i64 bn]⟩ (fieldsOf 46).toList = eqPfx 31 (.agg ⟨[.int .u8 a0, .int .u8 a1, .int .u8 a2, .int .u8 a3, .int .u8 a4, .int .u8 a5, .int .u8 a6, .int .u8 a7, .int .u8 a8, .int .u8 a9, .int .u8 a10, .int .u8 a11, .int .u8 a12, .int .u8 a13, .int .u8 a14, .int .u8 a15]⟩) (.agg ⟨[.int .u8 b0, .int .u8 b1, .int .u8 b2, .int .u8 b3, .int .u8 b4, .int .u8 b5, .int .u8 b6, .int .u8 b7, .int .u8 b8, .int .u8 b9, .int .u8 b10, .int .u8 b11, .int .u8 b12, .int .u8 b13, .int .u8 b14, .int .u8 b15]⟩) an bn := by kernel_rfl

theorem pfxIn16 (a0 a1 a2 a3 a4 a5 a6 a7 a8 a9 a10 a11 a12 a13 a14 a15 an b0 b1 b2 b3 b4 b5 b6 b7 b8 b9 b10 b11 b12 b13 b14 b15 bn : Int) : semPure Tryd.prog (Op.equalIn 10000 46 (.agg ⟨[.int .u8 a0, .int .u8 a1, .int .u8 a2, .int .u8 a3, .int .u8 a4, .int .u8 a5, .int .u8 a6, .int .u8 a7, .int .u8 a8, .int .u8 a9, .int .u8 a10, .int .u8 a11, .int .u8 a12, .int .u8 a13, .int .u8 a14, .int .u8 a15, .int .i64 an]⟩) (.agg ⟨[.int .u8 b0, .int .u8 b1, .int .u8 b2, .int .u8 b3, .int .u8 b4, .int .u8 b5, .int .u8 b6, .int .u8 b7, .int .u8 b8, .int .u8 b9, .int .u8 b10, .int .u8 b11, .int .u8 b12, .int .u8 b13, .int .u8 b14, .int .u8 b15, .int .i64 bn]⟩)) = some (decide ([a0, a1, a2, a3, a4, a5, a6, a7, a8, a9, a10, a11, a12, a13, a14, a15] = [b0, b1, b2, b3, b4, b5, b6, b7, b8, b9, b10, b11, b12, b13, b14, b15]) && decide (an = bn)) := by
  have h := equalIn_struct 9999 ⟨[.int .u8 a0, .int .u8 a1, .int .u8 a2, .int .u8 a3, .int .u8 a4, .int .u8 a5, .int .u8 a6, .int .u8 a7, .int .u8 a8, .int .u8 a9, .int .u8 a10, .int .u8 a11, .int .u8 a12, .int .u8 a13, .int .u8 a14, .int .u8 a15, .int .i64 an]⟩ ⟨[.int .u8 b0, .int .u8 b1, .int .u8 b2, .int .u8 b3, .int .u8 b4, .int .u8 b5, .int .u8 b6, .int .u8 b7, .int .u8 b8, .int .u8 b9, .int .u8 b10, .int .u8 b11, .int .u8 b12, .int .u8 b13, .int .u8 b14, .int .u8 b15, .int .i64 bn]⟩ fields16 held16
  rw [h, eqf16]
  unfold eqPfx
  have h1 : semPure Tryd.prog (Op.equalIn 9999 31 (.agg ⟨[.int .u8 a0, .int .u8 a1, .int .u8 a2, .int .u8 a3, .int .u8 a4, .int .u8 a5, .int .u8 a6, .int .u8 a7, .int .u8 a8, .int .u8 a9, .int .u8 a10, .int .u8 a11, .int .u8 a12, .int .u8 a13, .int .u8 a14, .int .u8 a15]⟩) (.agg ⟨[.int .u8 b0, .int .u8 b1, .int .u8 b2, .int .u8 b3, .int .u8 b4, .int .u8 b5, .int .u8 b6, .int .u8 b7, .int .u8 b8, .int .u8 b9, .int .u8 b10, .int .u8 b11, .int .u8 b12, .int .u8 b13, .int .u8 b14, .int .u8 b15]⟩)) = some (decide ([a0, a1, a2, a3, a4, a5, a6, a7, a8, a9, a10, a11, a12, a13, a14, a15] = [b0, b1, b2, b3, b4, b5, b6, b7, b8, b9, b10, b11, b12, b13, b14, b15])) :=
    eq_ints (d := 9997) (l := [a0, a1, a2, a3, a4, a5, a6, a7, a8, a9, a10, a11, a12, a13, a14, a15]) (l' := [b0, b1, b2, b3, b4, b5, b6, b7, b8, b9, b10, b11, b12, b13, b14, b15]) ty_u31 ty_u5 ty_sz5 ty_ag5 rfl rfl
  have h2 : semPure Tryd.prog (Op.equalIn 9999 3 (.int .i64 an) (.int .i64 bn)) = some (an == bn) := semPure_int (d := 9998) ty_u3 an bn
  rw [h1, h2]
  have h3 : (an == bn) = decide (an = bn) := rfl
  rw [h3]
  cases decide ([a0, a1, a2, a3, a4, a5, a6, a7, a8, a9, a10, a11, a12, a13, a14, a15] = [b0, b1, b2, b3, b4, b5, b6, b7, b8, b9, b10, b11, b12, b13, b14, b15]) <;> cases decide (an = bn) <;> rfl

theorem pfx16 {ox oy : Operand} (a0 a1 a2 a3 a4 a5 a6 a7 a8 a9 a10 a11 a12 a13 a14 a15 an b0 b1 b2 b3 b4 b5 b6 b7 b8 b9 b10 b11 b12 b13 b14 b15 bn : Int) : aBin2 Tryd.prog .eql 46 ox oy (.agg ⟨[.int .u8 a0, .int .u8 a1, .int .u8 a2, .int .u8 a3, .int .u8 a4, .int .u8 a5, .int .u8 a6, .int .u8 a7, .int .u8 a8, .int .u8 a9, .int .u8 a10, .int .u8 a11, .int .u8 a12, .int .u8 a13, .int .u8 a14, .int .u8 a15, .int .i64 an]⟩) (.agg ⟨[.int .u8 b0, .int .u8 b1, .int .u8 b2, .int .u8 b3, .int .u8 b4, .int .u8 b5, .int .u8 b6, .int .u8 b7, .int .u8 b8, .int .u8 b9, .int .u8 b10, .int .u8 b11, .int .u8 b12, .int .u8 b13, .int .u8 b14, .int .u8 b15, .int .i64 bn]⟩) = some (.bool (decide ([a0, a1, a2, a3, a4, a5, a6, a7, a8, a9, a10, a11, a12, a13, a14, a15] = [b0, b1, b2, b3, b4, b5, b6, b7, b8, b9, b10, b11, b12, b13, b14, b15]) && decide (an = bn))) :=
  aBin2_eql_agg rfl rfl guard16 (pfxIn16 a0 a1 a2 a3 a4 a5 a6 a7 a8 a9 a10 a11 a12 a13 a14 a15 an b0 b1 b2 b3 b4 b5 b6 b7 b8 b9 b10 b11 b12 b13 b14 b15 bn)
theorem pfxn16 {ox oy : Operand} (a0 a1 a2 a3 a4 a5 a6 a7 a8 a9 a10 a11 a12 a13 a14 a15 an b0 b1 b2 b3 b4 b5 b6 b7 b8 b9 b10 b11 b12 b13 b14 b15 bn : Int) : aBin2 Tryd.prog .neq 46 ox oy (.agg ⟨[.int .u8 a0, .int .u8 a1, .int .u8 a2, .int .u8 a3, .int .u8 a4, .int .u8 a5, .int .u8 a6, .int .u8 a7, .int .u8 a8, .int .u8 a9, .int .u8 a10, .int .u8 a11, .int .u8 a12, .int .u8 a13, .int .u8 a14, .int .u8 a15, .int .i64 an]⟩) (.agg ⟨[.int .u8 b0, .int .u8 b1, .int .u8 b2, .int .u8 b3, .int .u8 b4, .int .u8 b5, .int .u8 b6, .int .u8 b7, .int .u8 b8, .int .u8 b9, .int .u8 b10, .int .u8 b11, .int .u8 b12, .int .u8 b13, .int .u8 b14, .int .u8 b15, .int .i64 bn]⟩) = some (.bool !(decide ([a0, a1, a2, a3, a4, a5, a6, a7, a8, a9, a10, a11, a12, a13, a14, a15] = [b0, b1, b2, b3, b4, b5, b6, b7, b8, b9, b10, b11, b12, b13, b14, b15]) && decide (an = bn))) :=
  aBin2_neq_agg rfl rfl guard16 (pfxIn16 a0 a1 a2 a3 a4 a5 a6 a7 a8 a9 a10 a11 a12 a13 a14 a15 an b0 b1 b2 b3 b4 b5 b6 b7 b8 b9 b10 b11 b12 b13 b14 b15 bn)
theorem arr16 {ox oy : Operand} (a0 a1 a2 a3 a4 a5 a6 a7 a8 a9 a10 a11 a12 a13 a14 a15 b0 b1 b2 b3 b4 b5 b6 b7 b8 b9 b10 b11 b12 b13 b14 b15 : Int) : aBin2 Tryd.prog .eql 31 ox oy (.agg ⟨[.int .u8 a0, .int .u8 a1, .int .u8 a2, .int .u8 a3, .int .u8 a4, .int .u8 a5, .int .u8 a6, .int .u8 a7, .int .u8 a8, .int .u8 a9, .int .u8 a10, .int .u8 a11, .int .u8 a12, .int .u8 a13, .int .u8 a14, .int .u8 a15]⟩) (.agg ⟨[.int .u8 b0, .int .u8 b1, .int .u8 b2, .int .u8 b3, .int .u8 b4, .int .u8 b5, .int .u8 b6, .int .u8 b7, .int .u8 b8, .int .u8 b9, .int .u8 b10, .int .u8 b11, .int .u8 b12, .int .u8 b13, .int .u8 b14, .int .u8 b15]⟩) = some (.bool (decide ([a0, a1, a2, a3, a4, a5, a6, a7, a8, a9, a10, a11, a12, a13, a14, a15] = [b0, b1, b2, b3, b4, b5, b6, b7, b8, b9, b10, b11, b12, b13, b14, b15]))) :=
  aBin2_eql_agg rfl rfl guardA16 (eq_ints (d := 9998) (l := [a0, a1, a2, a3, a4, a5, a6, a7, a8, a9, a10, a11, a12, a13, a14, a15]) (l' := [b0, b1, b2, b3, b4, b5, b6, b7, b8, b9, b10, b11, b12, b13, b14, b15]) ty_u31 ty_u5 ty_sz5 ty_ag5 rfl rfl)

end Go.Proofs.YtopladipgobpjaaDoor
