/-
  Bits of addresses: lists of bytes as integers, and what the operations on them come to. No program here.
-/
import Derived.Test.YtopladipgobpjaaDoorFmE
namespace Go.Fm

variable {P : Program}

/-- bit k of a row of bytes -/
def bitI (l : List Int) (k : Nat) : Bool := (l.getD (k / 8) 0).toNat.testBit (7 - k % 8)

def Bytes (l : List Int) : Prop := ∀ x ∈ l, 0 ≤ x ∧ x < 256

theorem Bytes.getD {l : List Int} (h : Bytes l) (k : Nat) : 0 ≤ l.getD k 0 ∧ l.getD k 0 < 256 := by
  rw [List.getD_eq_getElem?_getD]
  cases hk : l[k]? with
  | none => simp
  | some x => exact h x (List.mem_of_getElem? hk)

def lowB (l : List Int) (n : Nat) : Bool := (List.range (8 * l.length)).all fun k => decide (k < n) || !bitI l k
def sameB (a b : List Int) (n : Nat) : Bool := (List.range n).all fun k => bitI a k == bitI b k

theorem lowB_iff {l : List Int} {n : Nat} : lowB l n = true ↔ ∀ k, n ≤ k → k < 8 * l.length → bitI l k = false := by
  unfold lowB
  simp only [List.all_eq_true, List.mem_range, Bool.or_eq_true, decide_eq_true_eq, Bool.not_eq_true']
  constructor
  · intro h k h1 h2
    rcases h k h2 with h | h
    · omega
    · exact h
  · intro h k h2
    by_cases hk : k < n
    · exact .inl hk
    · exact .inr (h k (by omega) h2)

theorem sameB_iff {a b : List Int} {n : Nat} : sameB a b n = true ↔ ∀ k, k < n → bitI a k = bitI b k := by
  unfold sameB
  simp only [List.all_eq_true, List.mem_range, beq_iff_eq]

/-! ## the machine's words for a bit -/

theorem div8 {i : Int} (h0 : 0 ≤ i) (h1 : i < 2 ^ 40) : IntKind.i64.wrap (i.tdiv 8) = ((i.toNat / 8 : Nat) : Int) := by
  have : i.tdiv 8 = i / 8 := Int.tdiv_eq_ediv_of_nonneg h0
  rw [this]
  simp only [IntKind.wrap, IntKind.bits, IntKind.signed]
  simp; omega

theorem mod8 {i : Int} (h0 : 0 ≤ i) : i.tmod 8 = ((i.toNat % 8 : Nat) : Int) := by
  rw [Int.tmod_eq_emod_of_nonneg h0]; omega

theorem sub7 (m : Nat) (h : m < 8) : IntKind.i64.wrap (7 - (m : Int)) = ((7 - m : Nat) : Int) := by
  simp only [IntKind.wrap, IntKind.bits, IntKind.signed]
  simp; omega

theorem add1 {i : Int} (h0 : 0 ≤ i) (h1 : i < 2 ^ 40) : IntKind.i64.wrap (i + 1) = i + 1 := by
  simp only [IntKind.wrap, IntKind.bits, IntKind.signed]
  simp; omega

theorem bit_fin : ∀ x : Fin 256, ∀ s : Fin 8, IntKind.u8.wrap ↑(BitVec.ofInt IntKind.u8.bits (((x.val : Int)).fdiv (2 ^ min s.val IntKind.u8.bits)) &&& BitVec.ofInt IntKind.u8.bits 1).toNat = if x.val.testBit s.val then 1 else 0 := by
  decide +kernel

theorem bit_word {x : Int} (h0 : 0 ≤ x) (h1 : x < 256) {s : Nat} (hs : s < 8) :
    IntKind.u8.wrap ↑(BitVec.ofInt IntKind.u8.bits (x.fdiv (2 ^ min ((s : Nat) : Int).toNat IntKind.u8.bits)) &&& BitVec.ofInt IntKind.u8.bits 1).toNat = if x.toNat.testBit s then 1 else 0 := by
  have := bit_fin ⟨x.toNat, by omega⟩ ⟨s, hs⟩
  simp only [Int.toNat_of_nonneg h0] at this
  rw [Int.toNat_natCast]
  exact this

theorem xor_fin : ∀ x : Fin 256, ∀ y : Fin 256, IntKind.u8.wrap ↑(BitVec.ofInt IntKind.u8.bits (x.val : Int) ^^^ BitVec.ofInt IntKind.u8.bits (y.val : Int)).toNat = ((x.val ^^^ y.val : Nat) : Int) := by
  decide +kernel

theorem xor_word {x y : Int} (h0 : 0 ≤ x) (h1 : x < 256) (h2 : 0 ≤ y) (h3 : y < 256) :
    IntKind.u8.wrap ↑(BitVec.ofInt IntKind.u8.bits x ^^^ BitVec.ofInt IntKind.u8.bits y).toNat = ((x.toNat ^^^ y.toNat : Nat) : Int) := by
  have := xor_fin ⟨x.toNat, by omega⟩ ⟨y.toNat, by omega⟩
  simp only [Int.toNat_of_nonneg h0, Int.toNat_of_nonneg h2] at this
  exact this

/-! ## steps -/

theorem ld8 {t : TypeId} {h : AHeap} {b k : Nat} {l : List Int} {rest : List Value} {ro : Bool} (hT : aIsAgg P t = some false) (hb : h[b]? = some (.cells (l.map (Value.int .u8) ++ rest) ro)) (hk : k < l.length) :
    aLoad P t (.pointer (some ⟨b, 0 + k * 1, none⟩)) h = some (.int .u8 (l.getD k 0)) := by
  refine aLoad_int hT hb ?_
  rw [Nat.zero_add, Nat.mul_one, List.getElem?_append_left (by simpa using hk), List.getElem?_map, List.getD_eq_getElem?_getD, List.getElem?_eq_getElem hk]
  rfl

theorem ld8t {t u : TypeId} {z : Option Nat} {h : AHeap} {b k : Nat} {l : List Int} {rest : List Value} (hT : aIsAgg P t = some false) (hb : h[b]? = some (.tcells (l.map (Value.int .u8) ++ rest) u z)) (hk : k < l.length) :
    aLoad P t (.pointer (some ⟨b, 0 + k * 1, none⟩)) h = some (.int .u8 (l.getD k 0)) := by
  unfold aLoad
  simp only [hT]
  unfold aCell
  simp only [Option.isSome_none, Bool.false_eq_true, if_false, hb]
  rw [Nat.zero_add, Nat.mul_one, List.getElem?_append_left (by simpa using hk), List.getElem?_map, List.getD_eq_getElem?_getD, List.getElem?_eq_getElem hk]
  rfl

/-- fewer slots -/
theorem Gc.env {gs : List Nat} {n0 : Nat} {e e' : AEnv} {ds : List ADef} {h : AHeap} {u : UMode} (he : EnvLe e e') : Gc gs n0 ⟨e, ds, h, u⟩ ⟨e', ds, h, u⟩ :=
  .inr ⟨rfl, rfl, rfl, fun _ _ hv => he.get hv⟩

/-! ## clearing and setting bits -/

def clrB (x : Int) (s : Nat) : Int := ((x.toNat &&& (255 - 2 ^ s) : Nat) : Int)
def oneB (x : Int) (s : Nat) : Int := ((x.toNat ||| 2 ^ s : Nat) : Int)

theorem shl_fin : ∀ s : Fin 8, IntKind.u8.wrap (1 * 2 ^ min s.val IntKind.u8.bits) = ((2 ^ s.val : Nat) : Int) := by decide +kernel

theorem shl_word {s : Nat} (hs : s < 8) : IntKind.u8.wrap (1 * 2 ^ min ((s : Nat) : Int).toNat IntKind.u8.bits) = ((2 ^ s : Nat) : Int) := by
  rw [Int.toNat_natCast]; exact shl_fin ⟨s, hs⟩

theorem clr_fin : ∀ x : Fin 256, ∀ s : Fin 8, IntKind.u8.wrap ↑(BitVec.ofInt IntKind.u8.bits (x.val : Int) &&& ~~~BitVec.ofInt IntKind.u8.bits ((2 ^ s.val : Nat) : Int)).toNat = ((x.val &&& (255 - 2 ^ s.val) : Nat) : Int) := by
  decide +kernel

theorem clr_word {x : Int} (h0 : 0 ≤ x) (h1 : x < 256) {s : Nat} (hs : s < 8) :
    IntKind.u8.wrap ↑(BitVec.ofInt IntKind.u8.bits x &&& ~~~BitVec.ofInt IntKind.u8.bits ((2 ^ s : Nat) : Int)).toNat = clrB x s := by
  have := clr_fin ⟨x.toNat, by omega⟩ ⟨s, hs⟩
  simp only [Int.toNat_of_nonneg h0] at this
  exact this

theorem set_fin : ∀ x : Fin 256, ∀ s : Fin 8, IntKind.u8.wrap ↑(BitVec.ofInt IntKind.u8.bits (x.val : Int) ||| BitVec.ofInt IntKind.u8.bits ((2 ^ s.val : Nat) : Int)).toNat = ((x.val ||| 2 ^ s.val : Nat) : Int) := by
  decide +kernel

theorem set_word {x : Int} (h0 : 0 ≤ x) (h1 : x < 256) {s : Nat} (hs : s < 8) :
    IntKind.u8.wrap ↑(BitVec.ofInt IntKind.u8.bits x ||| BitVec.ofInt IntKind.u8.bits ((2 ^ s : Nat) : Int)).toNat = oneB x s := by
  have := set_fin ⟨x.toNat, by omega⟩ ⟨s, hs⟩
  simp only [Int.toNat_of_nonneg h0] at this
  exact this

/-- m bits from bit n on turned, one by one -/
def turnN (f : Int → Nat → Int) (l : List Int) (n : Nat) : Nat → List Int
  | 0 => l
  | m + 1 => (turnN f l n m).set ((n + m) / 8) (f ((turnN f l n m).getD ((n + m) / 8) 0) (7 - (n + m) % 8))

theorem turnN_length (f : Int → Nat → Int) (l : List Int) (n : Nat) : ∀ m, (turnN f l n m).length = l.length
  | 0 => rfl
  | m + 1 => by rw [turnN, List.length_set, turnN_length f l n m]

theorem Bytes.set {l : List Int} (h : Bytes l) {k : Nat} {x : Int} (hx : 0 ≤ x ∧ x < 256) : Bytes (l.set k x) := by
  intro y hy
  rcases List.mem_or_eq_of_mem_set hy with hy | rfl
  · exact h y hy
  · exact hx

theorem clrB_byte (x : Int) (s : Nat) : 0 ≤ clrB x s ∧ clrB x s < 256 := by
  unfold clrB
  have h : x.toNat &&& (255 - 2 ^ s) ≤ 255 - 2 ^ s := Nat.and_le_right
  generalize 2 ^ s = w at h ⊢
  generalize x.toNat &&& (255 - w) = v at h ⊢
  omega

theorem oneB_byte {x : Int} (h1 : x < 256) {s : Nat} (hs : s < 8) : 0 ≤ oneB x s ∧ oneB x s < 256 := by
  unfold oneB
  have h : x.toNat ||| 2 ^ s < 2 ^ 8 := Nat.or_lt_two_pow (by omega) (Nat.pow_lt_pow_right (by omega) hs)
  generalize x.toNat ||| 2 ^ s = v at h ⊢
  omega

theorem clrN_bytes {l : List Int} (h : Bytes l) (n : Nat) : ∀ m, Bytes (turnN clrB l n m)
  | 0 => h
  | m + 1 => (clrN_bytes h n m).set (clrB_byte _ _)

theorem setN_bytes {l : List Int} (h : Bytes l) (n : Nat) : ∀ m, Bytes (turnN oneB l n m)
  | 0 => h
  | m + 1 => (setN_bytes h n m).set (oneB_byte ((setN_bytes h n m).getD _).2 (Nat.lt_of_le_of_lt (Nat.sub_le 7 _) (by decide)))

theorem clrB_bit {x : Int} {s t : Nat} (hs : s < 8) (ht : t < 8) : (clrB x s).toNat.testBit t = (x.toNat.testBit t && decide (t ≠ s)) := by
  unfold clrB
  rw [Int.toNat_natCast, Nat.testBit_and]
  congr 1
  have : ∀ s : Fin 8, ∀ t : Fin 8, (255 - 2 ^ s.val).testBit t.val = decide (t.val ≠ s.val) := by decide +kernel
  exact this ⟨s, hs⟩ ⟨t, ht⟩

theorem bit_set {l : List Int} {k q : Nat} {x : Int} (hk : k < l.length) : bitI (l.set k x) q = if q / 8 = k then x.toNat.testBit (7 - q % 8) else bitI l q := by
  unfold bitI
  rw [List.getD_eq_getElem?_getD, List.getElem?_set]
  by_cases h : k = q / 8
  · subst h; simp [hk]
  · rw [if_neg h, if_neg (Ne.symm h), List.getD_eq_getElem?_getD]

theorem clrN_bit {l : List Int} {n : Nat} : ∀ (m : Nat), n + m ≤ 8 * l.length → ∀ q, bitI (turnN clrB l n m) q = (bitI l q && !(decide (n ≤ q) && decide (q < n + m)))
  | 0, _, q => by
    have : (decide (n ≤ q) && decide (q < n + 0)) = false := by simp <;> omega
    rw [this]; simp [turnN]
  | m + 1, hm, q => by
    have ih := clrN_bit (l := l) (n := n) m (by omega) q
    rw [turnN, bit_set (l := turnN clrB l n m) (k := (n + m) / 8) (by rw [turnN_length]; omega)]
    split
    · rename_i hq
      rw [clrB_bit (s := 7 - (n + m) % 8) (t := 7 - q % 8) (by omega) (by omega)]
      have : ((turnN clrB l n m).getD ((n + m) / 8) 0).toNat.testBit (7 - q % 8) = bitI (turnN clrB l n m) q := by unfold bitI; rw [hq]
      rw [this, ih]
      by_cases he : q = n + m
      · subst he
        simp
      · have h1 : decide (7 - q % 8 ≠ 7 - (n + m) % 8) = true := by simp <;> omega
        rw [h1, Bool.and_true]
        congr 2
        rw [Bool.eq_iff_iff]; simp; omega
    · rename_i hq
      rw [ih]
      congr 2
      rw [Bool.eq_iff_iff]; simp
      intro _
      constructor
      · intro h; omega
      · intro h
        have : q ≠ n + m := by rintro rfl; exact hq rfl
        omega

/-- bytes by their bits -/
theorem byte_ext : ∀ {x y : Nat}, x < 256 → y < 256 → (∀ t, t < 8 → x.testBit t = y.testBit t) → x = y := by
  intro x y hx hy h
  apply Nat.eq_of_testBit_eq
  intro t
  by_cases ht : t < 8
  · exact h t ht
  · have : 2 ^ 8 ≤ 2 ^ t := Nat.pow_le_pow_right (by omega) (by omega)
    rw [Nat.testBit_lt_two_pow (by omega), Nat.testBit_lt_two_pow (by omega)]

theorem bits_ext {a b : List Int} (ha : Bytes a) (hb : Bytes b) (hl : a.length = b.length) (h : ∀ q, q < 8 * a.length → bitI a q = bitI b q) : a = b := by
  apply List.ext_getElem hl
  intro i h1 h2
  have ea : a.getD i 0 = a[i] := by simp [List.getD_eq_getElem?_getD, List.getElem?_eq_getElem h1]
  have eb : b.getD i 0 = b[i] := by simp [List.getD_eq_getElem?_getD, List.getElem?_eq_getElem h2]
  obtain ⟨a0, a1⟩ := ha _ (List.getElem_mem h1)
  obtain ⟨b0, b1⟩ := hb _ (List.getElem_mem h2)
  have : a[i].toNat = b[i].toNat := by
    refine byte_ext (by omega) (by omega) fun t ht => ?_
    have := h (8 * i + (7 - t)) (by omega)
    unfold bitI at this
    rw [show (8 * i + (7 - t)) / 8 = i by omega, show 7 - (8 * i + (7 - t)) % 8 = t by omega, ea, eb] at this
    exact this
  omega

/-! ## prefixes -/

def chk (l : List Int) (n : Int) : Int := if 0 ≤ n ∧ n ≤ 8 * l.length ∧ lowB l n.toNat = true then 0 else 22

theorem chk_zero {l : List Int} {n : Int} : chk l n = 0 ↔ 0 ≤ n ∧ n ≤ 8 * l.length ∧ lowB l n.toNat = true := by
  unfold chk; split
  · rename_i h; exact ⟨fun _ => h, fun _ => rfl⟩
  · rename_i h; exact ⟨fun e => by simp at e, fun e => absurd e h⟩

theorem chk_or (l : List Int) (n : Int) : chk l n = 0 ∨ chk l n = 22 := by
  unfold chk; split
  · exact .inl rfl
  · exact .inr rfl

/-- a prefix has an address just when it is the address with its last bits cleared -/
theorem has_cut {p a : List Int} {n : Int} (hp : Bytes p) (ha : Bytes a) (hl : p.length = a.length) (hc : chk p n = 0) :
    sameB p a n.toNat = decide (turnN clrB a n.toNat (8 * a.length - n.toNat) = p) := by
  rw [chk_zero] at hc
  obtain ⟨h0, h1, h2⟩ := hc
  rw [lowB_iff] at h2
  have hm : n.toNat + (8 * a.length - n.toNat) ≤ 8 * a.length := by omega
  rw [Bool.eq_iff_iff, sameB_iff, decide_eq_true_eq]
  constructor
  · intro h
    refine bits_ext (clrN_bytes ha _ _) hp (by rw [turnN_length]; omega) fun q hq => ?_
    rw [turnN_length] at hq
    rw [clrN_bit _ hm]
    by_cases hn : q < n.toNat
    · have : (decide (n.toNat ≤ q) && decide (q < n.toNat + (8 * a.length - n.toNat))) = false := by simp <;> omega
      rw [this, ← h q hn]; simp
    · have : (decide (n.toNat ≤ q) && decide (q < n.toNat + (8 * a.length - n.toNat))) = true := by simp <;> omega
      rw [this, h2 q (by omega) (by omega)]; simp
  · intro h k hk
    have := clrN_bit (l := a) (n := n.toNat) _ hm k
    rw [h] at this
    have h3 : (decide (n.toNat ≤ k) && decide (k < n.toNat + (8 * a.length - n.toNat))) = false := by simp <;> omega
    rw [this, h3]; simp

theorem same_low {p q : List Int} {n : Int} (hp : Bytes p) (hq : Bytes q) (hl : p.length = q.length) (h1 : chk p n = 0) (h2 : chk q n = 0) (hs : sameB p q n.toNat = true) : p = q := by
  rw [chk_zero] at h1 h2
  have l1 := lowB_iff.1 h1.2.2
  have l2 := lowB_iff.1 h2.2.2
  rw [sameB_iff] at hs
  refine bits_ext hp hq hl fun k hk => ?_
  by_cases hn : k < n.toNat
  · exact hs k hn
  · rw [l1 k (by omega) hk, l2 k (by omega) (by omega)]

def coverV (p : List Int) (pn : Int) (q : List Int) (qn : Int) : Bool :=
  decide (chk p pn = 0 ∧ chk q qn = 0) && ((decide (p = q) && decide (pn = qn)) || (decide (pn < qn) && sameB p q pn.toNat))
def coverE (p : List Int) (pn : Int) (q : List Int) (qn : Int) : Int := if chk p pn = 0 ∧ chk q qn = 0 then 0 else 22
def hasV (p : List Int) (pn : Int) (a : List Int) : Bool := decide (chk p pn = 0) && sameB p a pn.toNat

theorem sameB_refl (p : List Int) (n : Nat) : sameB p p n = true := sameB_iff.2 fun _ _ => rfl

/-- a prefix covers another just when it has its address and is not longer -/
theorem cover_has {p q : List Int} {pn qn : Int} (hp : Bytes p) (hq : Bytes q) (hl : p.length = q.length) (h1 : chk p pn = 0) (h2 : chk q qn = 0) :
    coverV p pn q qn = (sameB p q pn.toNat && decide (pn ≤ qn)) := by
  unfold coverV
  rw [decide_eq_true ⟨h1, h2⟩, Bool.true_and, Bool.eq_iff_iff]
  simp only [Bool.or_eq_true, Bool.and_eq_true, decide_eq_true_eq]
  constructor
  · rintro (⟨rfl, rfl⟩ | ⟨h3, h4⟩)
    · exact ⟨sameB_refl _ _, Int.le_refl _⟩
    · exact ⟨h4, by omega⟩
  · rintro ⟨h3, h4⟩
    by_cases he : pn = qn
    · subst he; exact .inl ⟨same_low hp hq hl h1 h2 h3, rfl⟩
    · exact .inr ⟨by omega, h3⟩

end Go.Fm
