/-
  FmStr: strings that are symbols: rows of bytes.
-/
import Derived.Test.YtopladipgobpjaaDoorFmEq
import Derived.Test.YtopladipgobpjaaDoorFmFrame
namespace Go.Fm

variable {P : Program}

/-- a string by its bytes -/
def bs (l : List UInt8) : ByteArray := ⟨⟨l⟩⟩

theorem bs_size (l : List UInt8) : (bs l).size = l.length := rfl
theorem bs_data (l : List UInt8) : (bs l).data.toList = l := rfl
theorem bs_of (s : ByteArray) : bs s.data.toList = s := rfl
theorem bs_inj {l l' : List UInt8} : bs l = bs l' ↔ l = l' := by
  constructor
  · intro h; exact congrArg (fun s : ByteArray => s.data.toList) h
  · rintro rfl; rfl

theorem bs_beq (l l' : List UInt8) : (bs l == bs l') = decide (l = l') := by
  show (Array.mk l == Array.mk l') = _
  rw [Bool.eq_iff_iff, beq_iff_eq, decide_eq_true_eq, Array.mk.injEq]

theorem bs_append (l l' : List UInt8) : bs l ++ bs l' = bs (l ++ l') := by
  apply ByteArray.ext
  simp [bs]

theorem bs_extract (l : List UInt8) (a b : Nat) : (bs l).extract a b = bs ((l.drop a).take (b - a)) := by
  apply ByteArray.ext
  rw [ByteArray.data_extract]
  simp only [bs]
  apply Array.ext'
  simp [List.extract_eq_take_drop]

theorem bs_get {l : List UInt8} {i : Nat} (h : i < l.length) : (bs l)[i]? = some (l.getD i 0) := by
  have h' : i < (bs l).size := h
  rw [getElem?_pos (bs l) i h']
  have : (bs l)[i] = l[i] := rfl
  rw [this, List.getD_eq_getElem?_getD, List.getElem?_eq_getElem h]; rfl

theorem aIndex_bs {t : TypeId} {k : IntKind} {l : List UInt8} {i : Int} (hu : P.underlying t = some .string) (h0 : 0 ≤ i) (h1 : i < l.length) :
    aIndex P t (.string (bs l)) (.int k i) = some (.int .u8 (l.getD i.toNat 0).toNat) := by
  unfold aIndex
  simp only [hu]
  rw [if_pos h0, bs_get (by omega)]
  rfl

theorem aSlice_bs {t : TypeId} {k k' : IntKind} {l : List UInt8} {a b : Int} (hu : P.underlying t = some .string) (h0 : 0 ≤ a) (h1 : a ≤ b) (h2 : b ≤ l.length) :
    aSlice P t (.string (bs l)) (some (.int k a)) (some (.int k' b)) none = some (.string (bs ((l.drop a.toNat).take (b.toNat - a.toNat)))) := by
  unfold aSlice
  simp only [hu, bs_size, Option.isSome_none, Bool.false_eq_true, if_false]
  unfold aBound
  simp only
  rw [if_pos (by omega)]
  simp only [Option.bind_some]
  rw [if_pos (by omega)]
  simp only [Option.bind_some, bs_extract]

theorem aSlice_bs_from {t : TypeId} {k : IntKind} {l : List UInt8} {a : Int} (hu : P.underlying t = some .string) (h0 : 0 ≤ a) (h1 : a ≤ l.length) :
    aSlice P t (.string (bs l)) (some (.int k a)) none none = some (.string (bs (l.drop a.toNat))) := by
  unfold aSlice
  simp only [hu, bs_size, Option.isSome_none, Bool.false_eq_true, if_false]
  unfold aBound
  simp only [Option.bind_some]
  rw [if_pos (by omega)]
  simp only [Option.bind_some, bs_extract]
  rw [List.take_of_length_le (by simp)]

theorem aSlice_bs_to {t : TypeId} {k : IntKind} {l : List UInt8} {b : Int} (hu : P.underlying t = some .string) (h0 : 0 ≤ b) (h1 : b ≤ l.length) :
    aSlice P t (.string (bs l)) none (some (.int k b)) none = some (.string (bs (l.take b.toNat))) := by
  unfold aSlice
  simp only [hu, bs_size, Option.isSome_none, Bool.false_eq_true, if_false]
  unfold aBound
  simp only
  rw [if_pos (by omega)]
  simp only [Option.bind_some, bs_extract, List.drop_zero, Nat.sub_zero]

/-! ## blocks of bytes -/

/-- bytes as cells -/
def bc (l : List UInt8) : List Value := l.map fun b => .int .u8 b.toNat

theorem bc_nil : bc [] = [] := rfl
theorem bc_cons (b : UInt8) (l : List UInt8) : bc (b :: l) = .int .u8 b.toNat :: bc l := rfl
theorem bc_length (l : List UInt8) : (bc l).length = l.length := by simp [bc]
theorem bc_append (l l' : List UInt8) : bc l ++ bc l' = bc (l ++ l') := by simp [bc]
theorem bc_drop (l : List UInt8) (n : Nat) : (bc l).drop n = bc (l.drop n) := by simp [bc, List.map_drop]
theorem bc_take (l : List UInt8) (n : Nat) : (bc l).take n = bc (l.take n) := by simp [bc, List.map_take]
theorem bc_isCell (l : List UInt8) : (bc l).all Value.isCell = true := by
  simp [bc, List.all_eq_true, Value.isCell]

theorem bytesOf_bc : ∀ l : List UInt8, bytesOf? (bc l) = some l
  | [] => rfl
  | b :: l => by
    rw [bc_cons]
    unfold bytesOf?
    rw [bytesOf_bc l]
    simp

theorem aFirst_bs (size : Nat) (l : List UInt8) (h : AHeap) : aFirst size l.length (.string (bs l)) h = some (bc l) := by
  unfold aFirst
  simp only [bs_extract, List.drop_zero, Nat.sub_zero, List.take_length, bs_data]
  rfl

theorem aNew_bs {e xt : TypeId} {size : Nat} {l : List UInt8} {h : AHeap} (hx : P.underlying xt = some .string) : aNew P e size xt (.string (bs l)) h = some (l.length, bc l) := by
  unfold aNew
  simp only [hx, aLenOf, Option.bind_some, bs_size, aFirst_bs, Option.map_some]

/-- an append of bytes that makes a new block -/
theorem aAppend_bs_first {t xt e : TypeId} {i : TypeInfo} {x : Value} {h : AHeap} {l : List UInt8} (hu : P.underlying t = some (.slice e)) (hi : P.info? e = some i) (hs : i.size = 1) (hb : i.bytes = 1)
    (hz : ((aZero P e).map fun z => z.cells.size) = some i.size) (hn : aNew P e 1 xt x h = some (l.length, bc l)) (h0 : l ≠ []) (hl : l.length ≤ 2 ^ 46) :
    aAppend P t xt (.slice none 0 0) x h = some (.slice (some ⟨h.length, 0, some 1⟩) l.length l.length, h ++ [.tcells (bc l) e (some 0)]) := by
  have hp : 0 < l.length := by cases l with
    | nil => exact absurd rfl h0
    | cons => simp
  unfold aAppend
  simp only [hu, hi, hs] at hz ⊢
  rw [if_neg (by omega), hn]
  simp only [Option.bind_some, bc_length, hb, hz, bc_isCell]
  rw [if_neg (by omega), if_neg (by omega), if_pos ⟨by omega, by omega, trivial, trivial⟩]
  rfl

theorem aAppend_bs_next {t xt e : TypeId} {i : TypeInfo} {x : Value} {h : AHeap} {l m : List UInt8} {b : Nat} {z : Option Nat} (hu : P.underlying t = some (.slice e)) (hi : P.info? e = some i) (hs : i.size = 1) (hb : i.bytes = 1)
    (hz : ((aZero P e).map fun z => z.cells.size) = some i.size) (hn : aNew P e 1 xt x h = some (l.length, bc l)) (hc : h[b]? = some (.tcells (bc m) e z)) (hm : z.getD 0 ≤ m.length) (h0 : l ≠ []) (hl : m.length + l.length ≤ 2 ^ 46) :
    aAppend P t xt (.slice (some ⟨b, 0, some 1⟩) m.length m.length) x h = some (.slice (some ⟨h.length, 0, some 1⟩) (m.length + l.length) (m.length + l.length), h.set b .dead ++ [.tcells (bc (m ++ l)) e z]) := by
  have hp : 0 < l.length := by cases l with
    | nil => exact absurd rfl h0
    | cons => simp
  unfold aAppend
  simp only [hu, hi, hs] at hz ⊢
  rw [if_neg (by omega), hn]
  simp only [Option.bind_some, bc_length, hb, hz, bc_isCell]
  rw [if_neg (by omega), if_neg (by omega), if_pos ⟨by omega, by omega, trivial, trivial⟩]
  unfold aGrow
  simp only [hc, ne_eq, not_true, if_false, bc_length, Nat.mul_one, Nat.zero_add, Nat.le_refl, true_and, hm, if_true, List.drop_zero, bc_take, List.take_length, bc_append]

theorem aAppend_bs_none {t xt e : TypeId} {i : TypeInfo} {x : Value} {h : AHeap} {s : Option Addr} {n c : Nat} (hu : P.underlying t = some (.slice e)) (hi : P.info? e = some i) (hs : i.size = 1)
    (hn : aNew P e 1 xt x h = some (0, [])) (hc : n ≤ c) :
    aAppend P t xt (.slice s n c) x h = some (.slice s n c, h) := by
  unfold aAppend
  simp only [hu, hi, hs]
  rw [if_neg (by omega), hn]
  simp only [Option.bind_some, List.length_nil]
  rw [if_neg (by omega), if_pos (by omega)]
  cases s with
  | none => rfl
  | some a => rfl

theorem liesAt_bytes {u : TypeId} {d count n : Nat} (hd : P.depth = d + 1) (hc : P.cellsOf u = 1) (hn : n ≤ count) : liesAt P P.depth u count 0 u n = true := by
  have h1 : ∀ k, sameLayout P (k + 1) u u = true := by
    intro k
    unfold sameLayout
    simp
  have h2 : rowAt P (fun t => sameLayout P P.depth t u) P.depth u count 0 n = true := by
    rw [hd]
    unfold rowAt
    simp only [hc, Nat.zero_div, Nat.zero_add, Nat.zero_mod, hn, h1]
    simp
  have h3 : ∀ k, liesAt P (k + 1) u count 0 u n = true := by
    intro k
    unfold liesAt
    rw [h2]
    rfl
  rw [hd]
  exact h3 d

/-- strings.Builder's String: the bytes of a block -/
theorem aUnsafeString_bs {pt u : TypeId} {k : IntKind} {b o : Nat} {l : List UInt8} {z : Nat} {h : AHeap} {n : Int} (hp : P.underlying pt = some (.pointer u)) (h0 : 0 < n) (hx : n ≤ IntKind.i64.max)
    (hc : h[b]? = some (.tcells (bc l) u (some z))) (hn : o + n.toNat ≤ l.length) (hl : liesAt P P.depth u ((bc l).length / P.cellsOf u) o u n.toNat = true) :
    aUnsafeString P pt (.pointer (some ⟨b, o, none⟩)) (.int k n) h = some (.string (bs ((l.drop o).take n.toNat)), h.set b (.tcells (bc l) u (some (Nat.max z (o + n.toNat))))) := by
  unfold aUnsafeString
  simp only [hp]
  rw [if_neg (by omega), if_neg (by omega)]
  simp only [hc, bc_length] at hl ⊢
  rw [if_pos ⟨hn, hl⟩, bc_drop, bc_take, bytesOf_bc]
  rfl

/-! ## operators on strings -/

theorem bs_loop (l : List UInt8) : ∀ (n i : Nat) (r : List UInt8), l.length - i = n → ByteArray.toList.loop (bs l) i r = r.reverse ++ l.drop i := by
  intro n
  induction n with
  | zero =>
    intro i r h
    unfold ByteArray.toList.loop
    rw [if_neg (by rw [bs_size]; omega), List.drop_of_length_le (by omega), List.append_nil]
  | succ n ih =>
    intro i r h
    unfold ByteArray.toList.loop
    have hi : i < l.length := by omega
    rw [if_pos (by rw [bs_size]; exact hi), ih (i + 1) _ (by omega)]
    have : (bs l).get! i = l[i] := by
      show (Array.mk l)[i]! = l[i]
      simp [hi]
    rw [this, List.reverse_cons, List.append_assoc, List.drop_eq_getElem_cons hi]
    rfl

theorem bs_toList (l : List UInt8) : (bs l).toList = l := by
  unfold ByteArray.toList
  rw [bs_loop l l.length 0 [] (by omega)]
  rfl

theorem aBin2_add_bs {t : TypeId} {ox oy : Operand} {l l' : List UInt8} (h : l.length + l'.length < 2 ^ 62) :
    aBin2 P .add t ox oy (.string (bs l)) (.string (bs l')) = some (.string (bs (l ++ l'))) := by
  have h2 : semPure P (binOp .add t (.string (bs l)) (.string (bs l'))) = some (.string (bs (l ++ l'))) := by
    show semPure P (Op.stringOp .add (bs l) (bs l')) = _
    unfold Op.stringOp
    have : ¬ (((bs l).size + (bs l').size : Nat) : Int) > IntKind.i64.max := by
      have : IntKind.i64.max = 2 ^ 63 - 1 := by decide
      rw [bs_size, bs_size]
      omega
    simp only
    rw [if_neg this, bs_append]
    rfl
  have h1 : semPure P (eqGuard .add t ox oy (.string (bs l)) (.string (bs l'))) = some () := rfl
  unfold aBin2
  rw [if_pos (show (flatB (Value.string (bs l)) && flatB (Value.string (bs l'))) = true from rfl)]
  unfold semFlat
  rw [semPure_bind, h1, Option.bind_some, h2]
  rfl

theorem aBin2_neq_bs {t : TypeId} {ox oy : Operand} {l l' : List UInt8} :
    aBin2 P .neq t ox oy (.string (bs l)) (.string (bs l')) = some (.bool !(l == l')) := by
  have h2 : semPure P (binOp .neq t (.string (bs l)) (.string (bs l'))) = some (.bool !(l == l')) := by
    show semPure P (Op.stringOp .neq (bs l) (bs l')) = _
    unfold Op.stringOp
    simp only [bs_toList]
    rfl
  have h1 : semPure P (eqGuard .neq t ox oy (.string (bs l)) (.string (bs l'))) = some () := rfl
  unfold aBin2
  rw [if_pos (show (flatB (Value.string (bs l)) && flatB (Value.string (bs l'))) = true from rfl)]
  unfold semFlat
  rw [semPure_bind, h1, Option.bind_some, h2]
  rfl

end Go.Fm
