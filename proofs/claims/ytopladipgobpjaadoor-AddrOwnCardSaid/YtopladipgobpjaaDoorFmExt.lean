/-
  FmExt: functions without a body that the library's strings rest on, on abstract values: bytealg.MakeNoZero, bytealg.IndexByteString.
-/
import Derived.Test.YtopladipgobpjaaDoorFmWp
import Derived.KernelRfl
namespace Go.Fm
open Extern

variable {P : Program} {F : Nat → Nat → Prop} {w0 w : World} {j : Inj} {h : AHeap}

def indexIn (s : ByteArray) (c : UInt8) : Int :=
  match (List.range s.size).find? fun i => s[i]! == c with
  | some i => (i : Int)
  | none => -1

/-- what a function without a body hands back -/
def aExt (P : Program) (fn : Func) (args : List Value) (h : AHeap) : Option (Value × AHeap) :=
  if fn.name == "internal/bytealg.MakeNoZero" then
    match args, fn.resultTypes.toList with
    | [.int .i64 n], [t] =>
      match P.underlying t with
      | some (.slice e) => if 0 ≤ n ∧ n ≤ 2 ^ 46 then some (.slice (some ⟨h.length, 0, some 1⟩) n.toNat n.toNat, h ++ [.tcells (List.replicate n.toNat (.chan (some 0))) e (some 0)]) else none
      | _ => none
    | _, _ => none
  else if fn.name == "internal/bytealg.IndexByteString" then
    match args with
    | [.string s, .int .u8 c] => some (goInt (indexIn s c.toNat.toUInt8), h)
    | _ => none
  else if fn.name == "internal/abi.NoEscape" then
    match args with
    | [v] => some (v, h)
    | _ => none
  else none

def hasBody (P : Program) (f : FuncId) : Bool :=
  match P.funcs[f]? with
  | some fn => match fn.body with
    | some _ => true
    | none => false
  | none => false

/-- a function without a body that is known -/
def extB (fn : Func) : Bool := fn.body.isNone && fn.origin == ""

theorem lookT_mnz : allTypedRows.lookup "internal/bytealg.MakeNoZero" = some BytealgMakeNoZero.makeNoZero := by kernel_rfl
theorem lookG_mnz : allGenericRows.lookup "internal/bytealg.MakeNoZero" = none := by kernel_rfl
theorem lookN_mnz : allNextRows.lookup "internal/bytealg.MakeNoZero" = none := by kernel_rfl
theorem lookN_none : allNextRows.lookup "" = none := by kernel_rfl
theorem lookG_ibs : allGenericRows.lookup "internal/bytealg.IndexByteString" = none := by kernel_rfl
theorem lookT_ibs : allTypedRows.lookup "internal/bytealg.IndexByteString" = none := by kernel_rfl
theorem lookR_ibs : allRows.lookup "internal/bytealg.IndexByteString" = some BytealgIndexByte.indexByte := by kernel_rfl
theorem lookN_ibs : allNextRows.lookup "internal/bytealg.IndexByteString" = none := by kernel_rfl

theorem lookG_abi : allGenericRows.lookup "internal/abi.NoEscape" = none := by kernel_rfl
theorem lookT_abi : allTypedRows.lookup "internal/abi.NoEscape" = none := by kernel_rfl
theorem lookR_abi : allRows.lookup "internal/abi.NoEscape" = some AbiNoEscape.same := by kernel_rfl
theorem lookN_abi : allNextRows.lookup "internal/abi.NoEscape" = none := by kernel_rfl

theorem size_digits : ∀ (n t : Nat) (acc : Array Value), (BytealgMakeNoZero.digits n t acc).size = acc.size + n
  | 0, _, _ => rfl
  | n + 1, t, acc => by
    rw [BytealgMakeNoZero.digits, size_digits n]
    simp
    omega

theorem cell_digits : ∀ (n t : Nat) (acc : Array Value), (∀ (i : Nat) (v : Value), acc[i]? = some v → Value.isCell v = true) → ∀ (i : Nat) (v : Value), (BytealgMakeNoZero.digits n t acc)[i]? = some v → Value.isCell v = true
  | 0, _, _, h, i, v, e => h i v e
  | n + 1, t, acc, h, i, v, e => by
    rw [BytealgMakeNoZero.digits] at e
    refine cell_digits n _ _ (fun k u hu => ?_) i v e
    rw [Array.getElem?_push] at hu
    split at hu
    · injection hu with hu; subst hu; rfl
    · exact h k u hu

theorem run_mnz (ps : Array TypeId) (t e : TypeId) (ht : P.underlying t = some (.slice e)) (n : Int) (h0 : 0 ≤ n) (hn : n ≤ 2 ^ 46) (w : World) :
    ∃ (cs : Array Value) (w' : World), (BytealgMakeNoZero.makeNoZero ps #[t] #[.int .i64 n]).run P w = .ok (.slice (some ⟨w.heap.size, 0, none⟩) n.toNat cs.size) w' ∧ Io w w' ∧
      w'.heap = w.heap.push (.cells cs e) ∧ n.toNat ≤ cs.size ∧ ∀ (i : Nat) (v : Value), cs[i]? = some v → Value.isCell v = true := by
  obtain ⟨q, hq⟩ : ∃ q, q = (Question.appendCap n.toNat 0 e).cut (w.tape w.drawn (.appendCap n.toNat 0 e)) := ⟨_, rfl⟩
  have hqge : n.toNat ≤ q := by rw [hq]; simp [Question.cut]
  obtain ⟨d, hd⟩ : ∃ d, d = (Question.extern "internal/bytealg.MakeNoZero.bytes" 0).cut (w.tape (w.drawn + 1) (.extern "internal/bytealg.MakeNoZero.bytes" 0)) := ⟨_, rfl⟩
  have hch : (choose (.appendCap n.toNat 0 e)).run P w = .ok q { w with drawn := w.drawn + 1 } := by
    rw [hq]; simp [choose, Sem.run, Question.forced]
  have hch2 : (choose (.extern "internal/bytealg.MakeNoZero.bytes" 0)).run P { w with drawn := w.drawn + 1 } = .ok d { w with drawn := w.drawn + 1 + 1 } := by
    rw [hd]; simp [choose, Sem.run, Question.forced]; exact ⟨rfl, rfl, rfl⟩
  have hroom : ∀ w : World, (askRoom q).run P w = .ok () w := by
    intro w
    unfold askRoom; split
    · simp [mark, Sem.run]
    · simp
  have hb : ((decide (n < 0) || decide (n > 2 ^ 48)) = true) = False := by simp; omega
  refine ⟨BytealgMakeNoZero.digits q d #[], { w with heap := w.heap.push (.cells (BytealgMakeNoZero.digits q d #[]) e), drawn := w.drawn + 1 + 1 }, ?_, ⟨rfl, rfl, rfl⟩, rfl, by rw [size_digits]; simpa using hqge, ?_⟩
  · delta BytealgMakeNoZero.makeNoZero
    change Sem.run P (bind (underlying t) _) w = _
    simp only [Sem.run_bind, run_underlying ht, Result.andThen_ok, hb, if_false, hch, hroom, hch2, run_newRow, Sem.run_pure, size_digits]
    simp
  · exact cell_digits q d #[] (fun i v e => by simp at e)

theorem run_ibs (s : ByteArray) (c : Int) (w : World) : (BytealgIndexByte.indexByte #[.string s, .int .u8 c]).run P w = .ok (goInt (indexIn s c.toNat.toUInt8)) w := by
  delta BytealgIndexByte.indexByte
  change Sem.run P (bind (Bytes.bytesOf (.string s)) fun b => bind (Bytes.asByte (.int .u8 c)) _) w = _
  simp only [Bytes.bytesOf, Bytes.asByte, Sem.run_bind, Sem.run_pure, Result.andThen_ok, indexIn]
  cases List.find? (fun i => s[i]! == c.toNat.toUInt8) (List.range s.size) <;> simp

theorem holes (j : Inj) : ∀ (n : Nat) (l : List Value), l.length = n → (∀ v ∈ l, Value.isCell v = true) → LR j (List.replicate n (.chan (some 0))) l
  | 0, [], _, _ => .nil
  | n + 1, v :: l, hl, h => .cons (.hole (h v (by simp))) (holes j n l (by simpa using hl) fun u hu => h u (by simp [hu]))

theorem aExt_sim (S : Sim F w0 j h w) {f : FuncId} {fn : Func} (hf : P.funcs[f]? = some fn) (hn : (fn.name == "runtime.NumGoroutine") = false) (hx : extB fn = true) {args : List Value} {args' : Array Value} (ha : LR j args args'.toList)
    {r : Value} {h' : AHeap} (e : aExt P fn args h = some (r, h')) :
    ∃ j' r' w', j.ext h.length j' ∧ h.length ≤ h'.length ∧ VR j' r r' ∧ (callFunc f args').run P w = .ok (.value r') w' ∧ Sim F w0 j' h' w' := by
  unfold extB at hx
  rw [Bool.and_eq_true] at hx
  obtain ⟨hb, ho⟩ := hx
  have ho : fn.origin = "" := by simpa using ho
  unfold aExt at e
  split at e
  · rename_i hname
    have hname : fn.name = "internal/bytealg.MakeNoZero" := by simpa using hname
    split at e
    · rename_i n t hres
      split at e
      · rename_i el hu
        split at e
        · rename_i hrange
          simp only [Option.some.injEq, Prod.mk.injEq] at e
          obtain ⟨e1, e2⟩ := e; subst e1 e2
          have hfn : findNext fn = none := by
            unfold findNext; simp only [hname, ho, lookN_mnz, lookN_none]; rfl
          have hfi : find fn = some (BytealgMakeNoZero.makeNoZero fn.params #[t]) := by
            have : fn.resultTypes = #[t] := Array.ext' hres
            unfold find; simp only [hname, lookG_mnz, lookT_mnz, this]; rfl
          have hargs : args' = #[.int .i64 n] := by
            obtain ⟨l'⟩ := args'
            simp only at ha
            cases ha with
            | cons hv hl => cases hl; cases hv; rfl
          obtain ⟨cs, w', k1, k2, k3, k4, k5⟩ := run_mnz (P := P) fn.params t el hu n hrange.1 hrange.2 w
          have hcs : cs = (cs.toList.take n.toNat ++ cs.toList.drop n.toNat).toArray := by simp
          have hlen : (cs.toList.take n.toNat).length = n.toNat := by simp; omega
          have hm : Makes j w w' h.length (.tcells (List.replicate n.toNat (.chan (some 0))) el (some 0)) (.slice (some ⟨h.length, 0, some 1⟩) n.toNat n.toNat) (.slice (some ⟨w.heap.size, 0, none⟩) n.toNat cs.size) := by
            refine makes_tcells (c' := cs.toList.take n.toNat) (tail := cs.toList.drop n.toNat) (esz := 1) (extra := cs.size - n.toNat) (holes j _ _ hlen ?_) (by simp) k2 (by rw [← hcs]; exact k3) (fzOk_zero _) (fun j' L hj e hL => ?_)
            · intro v hv
              obtain ⟨i, hi⟩ := List.getElem?_of_mem (List.mem_of_mem_take hv)
              exact k5 i v (by simpa using hi)
            · subst hL
              have := VR.oslice (j := j') (o := 0) (e := 1) n.toNat n.toNat e rfl (by simp)
              simpa [show n.toNat + (cs.size - n.toNat) = cs.size by omega] using this
          obtain ⟨j', g1, g2, g3⟩ := Makes.sim S hm
          refine ⟨j', _, w', g1, by simp, g2, ?_, g3⟩
          rw [run_callFunc_extern hf hn hb hfn hfi, hargs, k1]; rfl
        · simp at e
      · simp at e
    · simp at e
  · split at e
    · rename_i hname
      have hname : fn.name = "internal/bytealg.IndexByteString" := by simpa using hname
      split at e
      · rename_i s c
        simp only [Option.some.injEq, Prod.mk.injEq] at e
        obtain ⟨e1, e2⟩ := e; subst e1 e2
        have hfn : findNext fn = none := by
          unfold findNext; simp only [hname, ho, lookN_ibs, lookN_none]; rfl
        have hfi : find fn = some BytealgIndexByte.indexByte := by
          unfold find; simp only [hname, lookG_ibs, lookT_ibs, lookR_ibs]; rfl
        have hargs : args' = #[.string s, .int .u8 c] := by
          obtain ⟨l'⟩ := args'
          simp only at ha
          cases ha with
          | cons hv hl => cases hl with | cons hv2 hl2 => cases hl2; cases hv; cases hv2; rfl
        refine ⟨j, _, w, j.ext_refl _, Nat.le_refl _, .int _ _, ?_, S⟩
        rw [run_callFunc_extern hf hn hb hfn hfi, hargs, run_ibs]; rfl
      · simp at e
    · split at e
      · rename_i hname
        have hname : fn.name = "internal/abi.NoEscape" := by simpa using hname
        split at e
        · rename_i v
          simp only [Option.some.injEq, Prod.mk.injEq] at e
          obtain ⟨e1, e2⟩ := e; subst e1 e2
          have hfn : findNext fn = none := by
            unfold findNext; simp only [hname, ho, lookN_abi, lookN_none]; rfl
          have hfi : find fn = some AbiNoEscape.same := by
            unfold find; simp only [hname, lookG_abi, lookT_abi, lookR_abi]; rfl
          obtain ⟨l'⟩ := args'
          simp only at ha
          cases ha with
          | cons hv hl =>
            cases hl
            refine ⟨j, _, w, j.ext_refl _, Nat.le_refl _, hv, ?_, S⟩
            rw [run_callFunc_extern hf hn hb hfn hfi]; rfl
        · simp at e
      · simp at e

end Go.Fm
