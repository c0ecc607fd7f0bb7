/-
  Entries and their addresses as cells; small facts on the given program. No condition.
-/
import Derived.Test.YtcdmnmpiipmfmaaSeat
import Derived.Test.YtcdmnmpiipmfmaaPlainS
namespace Go.Proofs.Ytcdmnmpiipmfmaa
open Go.Fm

/-- an address -/
structure Ad where
  (a0 a1 a2 a3 a4 a5 a6 a7 a8 a9 a10 a11 a12 a13 a14 a15 : Int)
/-- an entry -/
structure En where
  (d : Ad)
  (m u : Int)
instance : Inhabited Ad := ⟨⟨0, 0, 0, 0, 0, 0, 0, 0, 0, 0, 0, 0, 0, 0, 0, 0⟩⟩
instance : Inhabited En := ⟨⟨default, 0, 0⟩⟩
noncomputable instance : DecidableEq Ad := fun _ _ => Classical.propDecidable _
def rowA (d : Ad) : List Value := [.int .u8 d.a0, .int .u8 d.a1, .int .u8 d.a2, .int .u8 d.a3, .int .u8 d.a4, .int .u8 d.a5, .int .u8 d.a6, .int .u8 d.a7, .int .u8 d.a8, .int .u8 d.a9, .int .u8 d.a10, .int .u8 d.a11, .int .u8 d.a12, .int .u8 d.a13, .int .u8 d.a14, .int .u8 d.a15]
def rowE (e : En) : List Value := [.int .u8 e.d.a0, .int .u8 e.d.a1, .int .u8 e.d.a2, .int .u8 e.d.a3, .int .u8 e.d.a4, .int .u8 e.d.a5, .int .u8 e.d.a6, .int .u8 e.d.a7, .int .u8 e.d.a8, .int .u8 e.d.a9, .int .u8 e.d.a10, .int .u8 e.d.a11, .int .u8 e.d.a12, .int .u8 e.d.a13, .int .u8 e.d.a14, .int .u8 e.d.a15, .int .i64 e.m, .int .i64 e.u]
def rowV (e : En) : List Value := [.int .i64 e.m, .int .i64 e.u]
def kA (e : En) : Value := .agg ⟨rowA e.d⟩
def vA (e : En) : Value := .agg ⟨rowV e⟩
instance : UF := ⟨[66, 4000000]⟩

theorem wr {x : Int} (h0 : -2 ^ 63 ≤ x) (h1 : x < 2 ^ 63) : IntKind.i64.wrap x = x := by
  simp only [IntKind.wrap, IntKind.bits, IntKind.signed]
  simp; omega

theorem rowE_len (e : En) : (rowE e).length = 18 := rfl
theorem rowE_cell (e : En) : (rowE e).all Value.isCell = true := rfl
theorem rowE_flat (e : En) : (rowE e).all (scopeV 0 8) = true := rfl
theorem kA_flat (e : En) : scopeV 0 8 (kA e) = true := rfl
theorem vA_flat (e : En) : scopeV 0 8 (vA e) = true := rfl

theorem xu41 : Try.prog.underlying 41 = some (.slice 66) := by kernel_rfl
theorem xs66 : aSize Try.prog 66 = some 18 := by kernel_rfl
theorem xa66 : aIsAgg Try.prog 66 = some true := by kernel_rfl

abbrev fC : Value := .func (.func 39) #[] #[]
abbrev sl (n : Nat) : Value := .slice (some ⟨0, 0, some 18⟩) n n
abbrev hp (l : List En) : AHeap := [.tcells (rwl rowE l) 66 (some 0)]
abbrev hp2 (l : List En) (s : Int) : AHeap := [.tcells (rwl rowE l) 66 (some 0), .tcells [.int .i64 s] 3 (some 0)]
abbrev pS : Value := .pointer (some ⟨1, 0, none⟩)
abbrev unitV : Value := .tuple ⟨[]⟩

abbrev iv (z : Int) : Value := .int .i64 z
abbrev gx (l : List En) (z : Int) : En := l.getD z.toNat default
abbrev pt (z : Int) : Value := .pointer (some ⟨0, 0 + z.toNat * 18, none⟩)
abbrev rv (e : En) : Value := .agg ⟨rowE e⟩
abbrev sB (b n : Nat) : Value := .slice (some ⟨b, 0, some 18⟩) n n
abbrev sN : Value := .slice none 0 0
abbrev pp (b : Nat) : Value := .pointer (some ⟨b, 0, none⟩)
abbrev oA (D : Ad) : AObj := .cells (rowA D) false
abbrev oR (r : List En) : AObj := .tcells (rwl rowE r) 66 (some 0)
abbrev IX (n : Nat) (z : Int) : Prop := aIndexAddr Try.prog 41 (sl n) (iv z) = some (pt z)
abbrev LD (l : List En) (z : Int) : Prop := aLoad Try.prog 66 (pt z) (hp l) = some (rv (gx l z))
abbrev SO (l : List En) (z : Int) (e : En) (l2 : List En) : Prop := ((aStoreAt Try.prog 66 (pt z) (rv e) (hp l)).map fun h => (undefV, h)) = some (undefV, hp l2)

theorem ixa {n : Nat} {z : Int} (h0 : 0 ≤ z) (h1 : z < n) : aIndexAddr Try.prog 41 (sl n) (.int .i64 z) = some (.pointer (some ⟨0, 0 + z.toNat * 18, none⟩)) := aIndexAddr_slice xu41 xs66 h0 h1
theorem lda {l : List En} {z : Int} (h : z.toNat < l.length) : aLoad Try.prog 66 (.pointer (some ⟨0, 0 + z.toNat * 18, none⟩)) [.tcells (rwl rowE l) 66 (some 0)] = some (.agg ⟨rowE (l.getD z.toNat default)⟩) :=
  aLoad_rw (c := rowE) (m := 18) (n := 18) (k := 0) (i := z.toNat) rowE_len xa66 xs66 rfl h (by omega) (by omega) (by rw [List.drop_zero]; exact List.take_of_length_le (by rw [rowE_len]; omega))
theorem sta {l : List En} {h : AHeap} {z : Int} {e : En} (hz : z.toNat < l.length) :
    ((aStoreAt Try.prog 66 (.pointer (some ⟨0, 0 + z.toNat * 18, none⟩)) (.agg ⟨rowE e⟩) (.tcells (rwl rowE l) 66 (some 0) :: h)).map fun h => (undefV, h)) = some (undefV, .tcells (rwl rowE (l.set z.toNat e)) 66 (some 0) :: h) := by
  rw [aStoreAt_rw (c := rowE) (m := 18) (i := z.toNat) (e := e) rowE_len xs66 rfl (rowE_cell e) rfl hz (by omega)]; rfl

theorem wrt {x k : Int} (h0 : -2 ^ 62 ≤ x) (h1 : x < 2 ^ 62) (hk : 0 < k) : IntKind.i64.wrap (x.tdiv k) = x.tdiv k := by
  have hb : -2 ^ 62 ≤ x.tdiv k ∧ x.tdiv k ≤ 2 ^ 62 := by
    by_cases hx : 0 ≤ x
    · have a1 := Int.tdiv_nonneg hx (by omega : 0 ≤ k)
      have a2 := Int.tdiv_le_self k hx
      omega
    · have e : x.tdiv k = -((-x).tdiv k) := by rw [Int.neg_tdiv]; omega
      have a1 := Int.tdiv_nonneg (by omega : 0 ≤ -x) (by omega : 0 ≤ k)
      have a2 := Int.tdiv_le_self k (by omega : 0 ≤ -x)
      omega
  exact wr (by omega) (by omega)
theorem wru {x : Int} (h0 : 0 ≤ x) (h1 : x < 2 ^ 64) : IntKind.u64.wrap x = x := by
  simp only [IntKind.wrap, IntKind.bits, IntKind.signed, Bool.false_and, Bool.false_eq_true, if_false]
  omega
theorem wru8 {x : Int} (h0 : 0 ≤ x) (h1 : x < 2 ^ 8) : IntKind.u8.wrap x = x := by
  simp only [IntKind.wrap, IntKind.bits, IntKind.signed, Bool.false_and, Bool.false_eq_true, if_false]
  omega
theorem wu_b {x z : Int} (h : z = IntKind.u64.wrap x) : 0 ≤ z ∧ z < 2 ^ 64 := by
  simp only [IntKind.wrap, IntKind.bits, IntKind.signed, Bool.false_and, Bool.false_eq_true, if_false] at h
  omega
theorem mask_b {x y : Int} (hy : 0 ≤ y) (hy2 : y < 2 ^ 64) {z : Int} (h : z = IntKind.u64.wrap (((BitVec.ofInt IntKind.u64.bits x &&& BitVec.ofInt IntKind.u64.bits y).toNat : Nat) : Int)) : 0 ≤ z ∧ z ≤ y := by
  have h2 : (BitVec.ofInt IntKind.u64.bits x &&& BitVec.ofInt IntKind.u64.bits y).toNat ≤ y.toNat := by
    rw [BitVec.toNat_and]
    refine Nat.le_trans Nat.and_le_right ?_
    have : (BitVec.ofInt IntKind.u64.bits y).toNat = y.toNat := by
      rw [BitVec.toNat_ofInt]
      show (y % ((2 ^ 64 : Nat) : Int)).toNat = y.toNat
      rw [Int.emod_eq_of_lt hy (by simpa using hy2)]
    omega
  rw [wru (by omega) (by omega)] at h
  omega

theorem Gc.same {gs : List Nat} {n0 : Nat} {s : St} : Gc gs n0 s s := .inr ⟨rfl, rfl, rfl, fun _ _ h => h⟩

theorem asks_of {K : Ctr} {f : FuncId} (h : Fm.Spec Try.prog [] f K.as K.h fun r h' => ∃ a, (K.post a).1 ∧ r = (K.post a).2.1 ∧ h' = (K.post a).2.2) : K.asks Try.prog [] f := .inl h

theorem spec_T {T : Prop} {fg : Bool} {kn gs : List Nat} {lf m : Nat} {f : FuncId} {args : List Value} {h : AHeap} {c : Scr} {Q : Res → AHeap → Prop}
    (e : T = runS Try.prog gs fg kn lf (SpecC Try.prog gs) m f args h .norm c (fun r _ h _ => Q r h)) (t : T) : Fm.Spec Try.prog gs f args h Q := spec_of_script Try.mixed (Eq.mp e t)
theorem spec_R {T : Prop} {fg : Bool} {kn gs : List Nat} {lf m : Nat} {f : FuncId} {args : List Value} {h : AHeap} {c : Scr} {Q : Res → Prop}
    (e : T = runS Try.prog gs fg kn lf (SpecC Try.prog gs) m f args h .norm c (fun r _ _ _ => Q r)) (t : T) : Fm.Spec Try.prog gs f args h (fun r _ => Q r) := spec_of_script Try.mixed (Eq.mp e t)

theorem forget1 {f : FuncId} {args : List Value} {l : List En} {Q : Res → AHeap → Prop}
    (hs : Fm.Spec Try.prog [] f args (hp l) fun r h' => ∃ v l' rest, r = .ret v ∧ scopeV 1 8 v = true ∧ h' = .tcells (rwl rowE l') 66 (some 0) :: rest ∧ Q (.ret v) (hp l')) : Fm.Spec Try.prog [] f args (hp l) Q := by
  refine Spec.forget (Spec.mono hs ?_)
  rintro r h' ⟨v, l', rest, rfl, hv, rfl, hq⟩
  have hb : mayForget (hp l).length (.ret v) ((AObj.tcells (rwl rowE l') 66 (some 0) :: rest).take (hp l).length) = true := by
    show (scopeV 1 8 v && [AObj.tcells (rwl rowE l') 66 (some 0)].all (scopeO 1)) = true
    rw [hv]
    show (true && (scopeO 1 (.tcells (rwl rowE l') 66 (some 0)) && true)) = true
    rw [scope_rw rowE_flat]; rfl
  rw [hb]; exact hq

/-- a function of values alone -/
def Fun (f : FuncId) (args : List Value) (v : Value) : Prop := Fm.Spec Try.prog [] f args [] fun r _ => r = .ret v
theorem Fun.any {f : FuncId} {args : List Value} {v : Value} (hs : Fun f args v) (ha : ∀ u ∈ args, Flat u) (hv : Flat v) (gs : List Nat) (h : AHeap) : Fm.Spec Try.prog gs f args h fun r h' => r = .ret v ∧ h' = h :=
  Spec.mono (Spec.lift (gs' := gs) (h := h) (Q := fun u => u = v) (Spec.mono hs (by rintro r h' rfl; exact ⟨_, rfl, hv, rfl⟩)) ha (by simp) rfl (by simp) (by simp) (by simp)) (by rintro r h' ⟨⟨u, rfl, _, rfl⟩, rfl⟩; exact ⟨rfl, rfl⟩)

theorem flat_ints {l : List Value} (h : l.all (fun v => match v with | .int _ _ => true | _ => false) = true) : Flat (.agg ⟨l⟩) := by
  refine .agg fun i v e => ?_
  have := List.all_eq_true.1 h v (List.mem_of_getElem? (show l[i]? = some v by simpa using e))
  split at this
  · exact .int _ _
  · cases this
theorem flat_row (e : En) : Flat (.agg ⟨rowE e⟩) := flat_ints rfl

/-! ## the order of addresses -/

def Ad.l (d : Ad) : List Int := [d.a0, d.a1, d.a2, d.a3, d.a4, d.a5, d.a6, d.a7, d.a8, d.a9, d.a10, d.a11, d.a12, d.a13, d.a14, d.a15]
def bytesA (d : Ad) : List UInt8 := d.l.map fun z => UInt8.ofNat z.toNat
def stp (n : Int) (c : UInt8) : Int := n * 256 + (c.toNat : Int)
def numB (l : List UInt8) : Int := l.foldl stp 0
def nkE (e : En) : Int := numB (bytesA e.d)
def cmpD (x y : En) : Int := Extern.BytealgCompare.cmp ⟨⟨bytesA x.d⟩⟩ ⟨⟨bytesA y.d⟩⟩

theorem numB_bounds : ∀ (l : List UInt8) (s : Int), s * 256 ^ l.length ≤ l.foldl stp s ∧ l.foldl stp s < (s + 1) * 256 ^ l.length
  | [], s => by simp; omega
  | c :: l, s => by
    have ih := numB_bounds l (stp s c)
    have hc : (c.toNat : Int) < 256 := by have := c.toNat_lt; omega
    have hp : (0 : Int) < 256 ^ l.length := Int.pow_pos (by omega)
    have hs : stp s c = s * 256 + (c.toNat : Int) := rfl
    simp only [List.foldl_cons, List.length_cons, Int.pow_succ]
    refine ⟨Int.le_trans ?_ ih.1, Int.lt_of_lt_of_le ih.2 ?_⟩
    · rw [show s * (256 ^ l.length * 256) = (s * 256) * 256 ^ l.length by rw [Int.mul_assoc, Int.mul_comm (256 ^ l.length)]]
      exact Int.mul_le_mul_of_nonneg_right (by omega) (by omega)
    · rw [show (s + 1) * (256 ^ l.length * 256) = ((s + 1) * 256) * 256 ^ l.length by rw [Int.mul_assoc, Int.mul_comm (256 ^ l.length)]]
      exact Int.mul_le_mul_of_nonneg_right (by omega) (by omega)

theorem fold_lt (l l' : List UInt8) (s s' : Int) (hl : l.length = l'.length) (hs : s < s') : l.foldl stp s < l'.foldl stp s' := by
  have h1 := (numB_bounds l s).2
  have h2 := (numB_bounds l' s').1
  have hp : (0 : Int) < 256 ^ l'.length := Int.pow_pos (by omega)
  rw [hl] at h1
  have : (s + 1) * 256 ^ l'.length ≤ s' * 256 ^ l'.length := Int.mul_le_mul_of_nonneg_right (by omega) (by omega)
  omega

/-- the first letter that differs decides -/
theorem fold_at : ∀ (l l' : List UInt8) (i : Nat) (s : Int), l.length = l'.length → i < l.length → (∀ j, j < i → l.getD j 0 = l'.getD j 0) → (l.getD i 0).toNat < (l'.getD i 0).toNat → l.foldl stp s < l'.foldl stp s
  | [], _, _, _, _, h, _, _ => by simp at h
  | _ :: _, [], _, _, h, _, _, _ => by simp at h
  | c :: l, c' :: l', 0, s, hl, _, _, h => by
    have h : c.toNat < c'.toNat := h
    exact fold_lt l l' _ _ (by simpa using hl) (by show s * 256 + (c.toNat : Int) < s * 256 + (c'.toNat : Int); omega)
  | c :: l, c' :: l', i + 1, s, hl, hi, hj, h => by
    have e : c = c' := hj 0 (by omega)
    subst e
    exact fold_at l l' i (stp s c) (by simpa using hl) (by simpa using hi) (fun j h => hj (j + 1) (by omega)) h

theorem byte_get {l : List UInt8} {i : Nat} (h : i < l.length) : (⟨⟨l⟩⟩ : ByteArray)[i]! = l.getD i 0 := by
  have h' : i < (⟨⟨l⟩⟩ : ByteArray).size := h
  rw [getElem!_pos _ i h', List.getD_eq_getElem?_getD, List.getElem?_eq_getElem h]; rfl

theorem cmp_lt {l l' : List UInt8} (hl : l.length = l'.length) : Extern.BytealgCompare.cmp ⟨⟨l⟩⟩ ⟨⟨l'⟩⟩ < 0 ↔ numB l < numB l' := by
  unfold Extern.BytealgCompare.cmp
  have hs : (⟨⟨l⟩⟩ : ByteArray).size = l.length := rfl
  have hs' : (⟨⟨l'⟩⟩ : ByteArray).size = l'.length := rfl
  rw [hs, hs', hl, Nat.min_self]
  split
  · rename_i i hi
    rw [List.find?_range_eq_some] at hi
    obtain ⟨h1, h2, h3⟩ := hi
    have h2 : i < l'.length := by simpa using h2
    rw [byte_get (by omega), byte_get h2] at h1 ⊢
    have h3 : ∀ j, j < i → l.getD j 0 = l'.getD j 0 := fun j hj => by
      have := h3 j hj
      rw [byte_get (by omega), byte_get (by omega)] at this
      simpa using this
    have hne : (l.getD i 0).toNat ≠ (l'.getD i 0).toNat := fun e => by
      have := UInt8.toNat.inj e
      rw [this] at h1; simp at h1
    by_cases hlt : l.getD i 0 < l'.getD i 0
    · rw [if_pos hlt]
      exact ⟨fun _ => fold_at l l' i 0 hl (by omega) h3 hlt, fun _ => by omega⟩
    · rw [if_neg hlt]
      have hlt' : ¬ (l.getD i 0).toNat < (l'.getD i 0).toNat := hlt
      have : numB l' < numB l := fold_at l' l i 0 hl.symm h2 (fun j hj => (h3 j hj).symm) (by omega)
      exact ⟨fun h => by omega, fun h => by omega⟩
  · rename_i hn
    rw [List.find?_range_eq_none] at hn
    have e : l = l' := by
      refine List.ext_getElem hl fun i h1 h2 => ?_
      have := hn i h2
      rw [byte_get h1, byte_get h2] at this
      simpa [List.getD_eq_getElem?_getD, List.getElem?_eq_getElem h1, List.getElem?_eq_getElem h2] using this
    subst e
    simp

theorem cmpD_lt (x y : En) : cmpD x y < 0 ↔ nkE x < nkE y := cmp_lt rfl
theorem ltT {x y : En} (h : decide (cmpD x y < 0) = true) : nkE x < nkE y := (cmpD_lt x y).1 (of_decide_eq_true h)
theorem ltF {x y : En} (h : decide (cmpD x y < 0) = false) : ¬ nkE x < nkE y := fun e => of_decide_eq_false h ((cmpD_lt x y).2 e)

end Go.Proofs.Ytcdmnmpiipmfmaa
