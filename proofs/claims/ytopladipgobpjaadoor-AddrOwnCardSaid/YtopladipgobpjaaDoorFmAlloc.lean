/-
  FmAlloc: operations that make a new block.
-/
import Derived.Test.YtopladipgobpjaaDoorFmMem
namespace Go.Fm

variable (P : Program)

/-- n cells of a zero value, again and again -/
def zeroRow (z : Array Value) (n : Nat) : Option (List Value) :=
  if n = 0 then some [] else if z.size = 0 then none else some ((List.range n).map fun i => (z[i % z.size]?).getD .nilFunc)

def intB : List Value → Nat → List Value
  | l, _ => l

def byteCells (s : ByteArray) : List Value := s.data.toList.map fun b => .int .u8 b.toNat
def runeCells (s : ByteArray) : List Value := (Conv.runesFrom s s.size 0 #[]).toList

def aAlloc (ρ : Operand → Option Value) (id : Nat) : Op → Option (AObj × Value)
  | .alloc t => (aZero P t).map fun z => (.tcells z.cells.toList t (some 0), .pointer (some ⟨id, 0, none⟩))
  | .box _ x => (ρ x).map fun v => (.cells v.cells.toList false, .pointer (some ⟨id, 0, none⟩))
  | .buildSlice t len parts =>
    match P.underlying t with
    | some (.slice e) =>
      (aSize P e).bind fun s => (mapP ρ parts.toList).bind fun ps => (aZero P e).bind fun z => (zeroRow z.cells (len * s)).bind fun row =>
        if len * s > 2 ^ 24 then none else
        (Instr.fill (fun i => some (i * s, s)) row.toArray ps).map fun cs => (.tcells cs.toList e (some 0), .slice (some ⟨id, 0, none⟩) len len)
    | _ => none
  | .makeSlice t l c =>
    match P.underlying t, ρ l, ρ c with
    | some (.slice e), some (.int _ ln), some (.int _ cn) =>
      match P.info? e with
      | some i =>
        if 0 ≤ ln ∧ ln ≤ cn ∧ (i.bytes : Int) * cn ≤ 2 ^ 47 ∧ cn < 2 ^ 62 then
          (aZero P e).bind fun z => (zeroRow z.cells (cn.toNat * i.size)).map fun row => (.tcells row e (some 0), .slice (some ⟨id, 0, none⟩) ln.toNat cn.toNat)
        else none
      | none => none
    | _, _, _ => none
  | .makeMap _ none => some (.map [] 0, .map (some id))
  | .makeMap t (some x) =>
    match P.underlying t, ρ x with
    | some (.map _ _), some (.int _ _) => some (.map [] 0, .map (some id))
    | _, _ => none
  | .convert src dst x =>
    match P.underlying src, P.underlying dst, ρ x with
    | some .string, some (.slice e), some (.string s) =>
      match P.underlying e with
      | some (.int .u8) => some (.tcells (byteCells s) e none, .slice (some ⟨id, 0, some 1⟩) s.size s.size)
      | some (.int .i32) => some (.cells (runeCells s) false, .slice (some ⟨id, 0, some 1⟩) (runeCells s).length (runeCells s).length)
      | _ => none
    | _, _, _ => none
  | _ => none

variable {P} {F : Nat → Nat → Prop} {w0 w : World} {j : Inj} {h : AHeap} {ρ : Operand → Option Value} {ρ' : Operand → Value}

/-- what an operation that makes a block leaves -/
def Makes (j : Inj) (w w' : World) (id : Nat) (ob : AObj) (r r' : Value) : Prop :=
  Io w w' ∧ ∃ L x, w'.heap = w.heap.push x ∧ L.blk = w.heap.size ∧ (∀ j', j.le j' → ObjR j' L w' (some ob)) ∧ (∀ j', j.le j' → j' id = some L → VR j' r r')

theorem makes_cells {w' : World} {id : Nat} {c c' tail : List Value} (hc : LR j c c') {T : TypeId} {f : Nat × Nat} {esz extra : Nat} (ht : tail.length = extra * esz)
    (hio : Io w w') (hw : w'.heap = w.heap.push (.cells (c' ++ tail).toArray T f)) (hf : ∀ o, o < c'.length + extra * esz → (f.1 ≤ o && o < f.2) = false) {r r' : Value}
    (hr : ∀ j' L, j.le j' → j' id = some L → L = { blk := w.heap.size, off := 0, size := c.length, esz, extra } → VR j' r r') :
    Makes j w w' id (.cells c false) r r' := by
  refine ⟨hio, { blk := w.heap.size, off := 0, size := c.length, esz, extra }, _, hw, rfl, ?_, fun j' hj e => hr j' _ hj e rfl⟩
  intro j' hj
  have hl := hc.length
  refine ⟨(c' ++ tail).toArray, T, f, by rw [hw]; simp, rfl, ?_, ?_, ?_, by simp⟩
  · simp [Loc.ext]; omega
  · simp only [List.drop_zero]
    rw [List.take_append_of_le_length (by omega), List.take_of_length_le (by omega)]
    exact hc.mono hj
  · intro _ o _ ho
    refine hf o ?_
    simp [Loc.ext] at ho; omega

theorem fzOk_zero (n : Nat) : fzOk (some 0) (0, 0) n := ⟨Nat.le_refl _, Nat.le_refl _⟩

theorem makes_tcells {w' : World} {id : Nat} {c c' tail : List Value} (hc : LR j c c') {T : TypeId} {f : Nat × Nat} {z : Option Nat} {esz extra : Nat} (ht : tail.length = extra * esz)
    (hio : Io w w') (hw : w'.heap = w.heap.push (.cells (c' ++ tail).toArray T f)) (hf : fzOk z f (c' ++ tail).length) {r r' : Value}
    (hr : ∀ j' L, j.le j' → j' id = some L → L = { blk := w.heap.size, off := 0, size := c.length, esz, extra } → VR j' r r') :
    Makes j w w' id (.tcells c T z) r r' := by
  refine ⟨hio, { blk := w.heap.size, off := 0, size := c.length, esz, extra }, _, hw, rfl, ?_, fun j' hj e => hr j' _ hj e rfl⟩
  intro j' hj
  have hl := hc.length
  refine ⟨(c' ++ tail).toArray, f, by rw [hw]; simp, rfl, ?_, ?_, by simpa using hf, rfl, ?_⟩
  · simp [Loc.ext]; omega
  · simp only [List.drop_zero]
    rw [List.take_append_of_le_length (by omega), List.take_of_length_le (by omega)]
    exact hc.mono hj
  · simp [Loc.ext]; omega

theorem zeroRow_flat {z : Value} (hz : Flat z) {n : Nat} {row : List Value} (h : zeroRow z.cells n = some row) (j : Inj) : LR j row row ∧ row.length = n ∧
    ((Array.range n).map fun i => z.cells[i % z.cells.size]!) = row.toArray := by
  unfold zeroRow at h
  split at h
  · rename_i hn; simp at h; subst h; subst hn; exact ⟨.nil, rfl, by simp⟩
  · split at h
    · simp at h
    · rename_i hs
      simp at h; subst h
      have hpos : 0 < z.cells.size := by omega
      have hin : ∀ i, i % z.cells.size < z.cells.size := fun i => Nat.mod_lt _ hpos
      refine ⟨LR.of_get rfl ?_, by simp, ?_⟩
      · intro i v v' e e'
        rw [e] at e'; injection e' with e'; subst e'
        simp only [List.getElem?_map] at e
        cases hr : (List.range n)[i]? with
        | none => simp [hr] at e
        | some k =>
          have hlt := hin k
          simp only [hr, Option.map_some, Array.getElem?_eq_getElem hlt, Option.getD_some, Option.some.injEq] at e
          subst e
          have hm : z.cells[k % z.cells.size]? = some (z.cells[k % z.cells.size]'hlt) := Array.getElem?_eq_getElem hlt
          have := (hz.vr j).cells
          exact this.rel (k % z.cells.size) _ _ (by simp) (by simp)
      · apply Array.ext'
        simp only [Array.toList_map, Array.toList_range]
        apply List.map_congr_left
        intro i _
        have := hin i
        simp [this]

theorem aAlloc_sim (hr : RR j ρ ρ') (o : Oper) {id : Nat} {ob : AObj} {r : Value} (e : aAlloc P ρ id o.op = some (ob, r)) (w : World) :
    ∃ r' w', (execOp ρ' o).run P w = .ok (.value r') w' ∧ Makes j w w' id ob r r' := by
  obtain ⟨dst, op, type, pos, after, guard⟩ := o
  simp only at e
  unfold aAlloc at e
  split at e
  · rename_i t
    cases hz : aZero P t with
    | none => simp [hz] at e
    | some z =>
      simp [hz] at e
      obtain ⟨e1, e2⟩ := e; subst e1 e2
      have hz1 := run_zero' hz w
      refine ⟨_, _, run_val (by simp [Instr.alloc, hz1.1, newVar, run_newRow]; exact ⟨rfl, rfl⟩), ?_⟩
      exact makes_tcells (tail := []) (esz := 1) (extra := 0) (hz1.2.vr j).cells rfl (by exact ⟨rfl, rfl, rfl⟩) (by simp; rfl) (fzOk_zero _) (fun j' L hj e hL => by subst hL; exact VR.ptr e)
  · rename_i t x
    cases hx : ρ x with
    | none => simp [hx] at e
    | some v =>
      simp [hx] at e
      obtain ⟨e1, e2⟩ := e; subst e1 e2
      refine ⟨_, _, run_val (by simp [Instr.box, newVar, run_newRow]; exact ⟨rfl, rfl⟩), ?_⟩
      exact makes_cells (tail := []) (esz := 1) (extra := 0) (hr _ _ hx).cells rfl (by exact ⟨rfl, rfl, rfl⟩) (by simp; rfl) (by simp) (fun j' L hj e hL => by subst hL; exact VR.ptr e)
  · rename_i t len parts
    split at e
    · rename_i el hu
      obtain ⟨s, hs, e⟩ := bind_some' e
      obtain ⟨ps, hps, e⟩ := bind_some' e
      obtain ⟨z, hz, e⟩ := bind_some' e
      obtain ⟨row, hrow, e⟩ := bind_some' e
      split at e
      · simp at e
      · rename_i hsmall
        cases hf : Instr.fill (fun i => some (i * s, s)) row.toArray ps with
        | none => simp [hf] at e
        | some cs =>
          simp [hf] at e
          obtain ⟨e1, e2⟩ := e; subst e1 e2
          have hz1 := run_zero' hz w
          obtain ⟨hrr, hrl, hra⟩ := zeroRow_flat hz1.2 hrow j
          obtain ⟨cs', k1, k2⟩ := fill_sim _ (mapP_sim hr hps) hrr.toAR hf
          have hparts : parts.map (fun x => (x.1, ρ' x.2)) = (List.map (fun p => (p.1, ρ' p.2)) parts.toList).toArray := by apply Array.ext'; simp
          refine ⟨.slice (some ⟨w.heap.size, 0, none⟩) len len, { w with heap := w.heap.push (.cells cs' el) }, run_val ?_, ?_⟩
          · have hsm : ¬ (len * s > 2 ^ 24) := hsmall
            by_cases hn : len * s = 0
            · have hrow0 : row = [] := by
                cases row with
                | nil => rfl
                | cons _ _ => simp [hn] at hrl
              subst hrow0
              have k1' : Instr.fill (fun i => some (i * s, s)) #[] (List.map (fun p => (p.1, ρ' p.2)) parts.toList) = some cs' := k1
              simp only [Instr.buildSlice, Sem.run_bind, run_underlying hu, Result.andThen_ok, run_sizeOf' hs, hn, hparts, List.toList_toArray]
              simp [Array.range_zero', k1', run_newRow]
            · simp only [Instr.buildSlice, Sem.run_bind, run_underlying hu, Result.andThen_ok, run_sizeOf' hs, if_neg hsm, if_neg hn, hz1.1, hra, hparts, List.toList_toArray, k1, run_newRow, Sem.run_pure]
          · refine makes_tcells (c' := cs'.toList) (tail := []) (esz := 1) (extra := 0) k2.toLR rfl (by exact ⟨rfl, rfl, rfl⟩) (by simp) (fzOk_zero _) (fun j' L hj e hL => ?_)
            subst hL
            have := VR.slice (j := j') (o := 0) len len e
            simpa using this
    · simp at e
  · rename_i t l c
    split at e
    · rename_i el k1 ln k2 cn hu hl hc
      split at e
      · rename_i i hi
        split at e
        · rename_i hcond
          obtain ⟨z, hz, e⟩ := bind_some' e
          cases hrow : zeroRow z.cells (cn.toNat * i.size) with
          | none => simp [hrow] at e
          | some row =>
            simp [hrow] at e
            obtain ⟨e1, e2⟩ := e; subst e1 e2
            have hz1 := run_zero' hz w
            obtain ⟨hrr, hrl, hra⟩ := zeroRow_flat hz1.2 hrow j
            have hl' := hr _ _ hl
            have hc' := hr _ _ hc
            have el1 : ρ' l = .int k1 ln := by revert hl'; cases ρ' l <;> intro q <;> cases q; rfl
            have ec1 : ρ' c = .int k2 cn := by revert hc'; cases ρ' c <;> intro q <;> cases q; rfl
            have hs : aSize P el = some i.size := by simp [aSize, hi]
            refine ⟨.slice (some ⟨w.heap.size, 0, none⟩) ln.toNat cn.toNat, { w with heap := w.heap.push (.cells row.toArray el) }, run_val ?_, ?_⟩
            · have w1 : IntKind.i64.wrap ln = ln := by simp [IntKind.wrap, IntKind.bits, IntKind.signed]; omega
              have w2 : IntKind.i64.wrap cn = cn := by simp [IntKind.wrap, IntKind.bits, IntKind.signed]; omega
              have t1 : (decide (cn < 0) || decide ((i.bytes : Int) * cn > 2 ^ 48)) = false := by simp; omega
              have t2 : ((decide (cn < 0) || decide ((i.bytes : Int) * cn > 2 ^ 48)) || decide (ln < 0) || decide (ln > cn)) = false := by
                rw [t1]; simp; omega
              have hroom : (askRoom (cn.toNat * i.bytes)).run P w = .ok () w := by
                unfold askRoom; split
                · simp [mark, Sem.run]
                · simp
              have ti : (typeInfo el).run P w = .ok i w := by simp [typeInfo, hi]
              by_cases hn : cn.toNat * i.size = 0
              · have hrow0 : row = [] := by
                  cases row with
                  | nil => rfl
                  | cons _ _ => simp [hn] at hrl
                subst hrow0
                simp only [Instr.makeSlice, Sem.run_bind, run_underlying hu, Result.andThen_ok, el1, ec1, asInt, asIntOf, Sem.run_pure, ti, w1, w2, t2, Bool.false_eq_true, if_false, hroom, run_sizeOf' hs, hn]
                simp [Array.range_zero', run_newRow]
              · simp only [Instr.makeSlice, Sem.run_bind, run_underlying hu, Result.andThen_ok, el1, ec1, asInt, asIntOf, Sem.run_pure, ti, w1, w2, t2, Bool.false_eq_true, if_false, hroom, run_sizeOf' hs, if_neg hn, hz1.1, hra, run_newRow]
            · refine makes_tcells (tail := []) (esz := 1) (extra := 0) (T := el) (f := (0, 0)) hrr rfl (by exact ⟨rfl, rfl, rfl⟩) (by simp) (fzOk_zero _) (fun j' L hj e hL => ?_)
              subst hL
              have := VR.slice (j := j') (o := 0) ln.toNat cn.toNat e
              simpa using this
        · simp at e
      · simp at e
    · simp at e
  · simp at e
    obtain ⟨e1, e2⟩ := e; subst e1 e2
    refine ⟨.map (some w.heap.size), { w with heap := w.heap.push (.map #[] 0) }, run_val (by simp [Instr.makeMap, newObj, Sem.run]), (by exact ⟨rfl, rfl, rfl⟩), ⟨w.heap.size, 0, 0, 0, 0⟩, _, rfl, rfl, ?_, ?_⟩
    · intro j' _; exact ⟨#[], by simp, .nil, rfl⟩
    · intro j' _ e; exact VR.map e
  · rename_i t x
    split at e
    · rename_i k1 e0 kk n hu hx
      simp at e
      obtain ⟨e1, e2⟩ := e; subst e1 e2
      have hx' := hr _ _ hx
      have ex1 : ρ' x = .int kk n := by revert hx'; cases ρ' x <;> intro q <;> cases q; rfl
      refine ⟨.map (some w.heap.size), { w with heap := w.heap.push (.map #[] 0) }, run_val (by simp [Instr.makeMap, newObj, Sem.run, run_underlying hu, ex1, asInt, asIntOf]), (by exact ⟨rfl, rfl, rfl⟩), ⟨w.heap.size, 0, 0, 0, 0⟩, _, rfl, rfl, ?_, ?_⟩
      · intro j' _; exact ⟨#[], by simp, .nil, rfl⟩
      · intro j' _ e; exact VR.map e
    · simp at e
  · rename_i src dst x
    split at e
    · rename_i el s hs hd hx
      have hx' := hr _ _ hx
      have ex1 : ρ' x = .string s := by revert hx'; cases ρ' x <;> intro q <;> cases q; rfl
      split at e
      · rename_i he
        simp at e
        obtain ⟨e1, e2⟩ := e; subst e1 e2
        have hlb : (byteCells s).length = s.size := by simp [byteCells]
        have hflat : ∀ j : Inj, LR j (byteCells s) (byteCells s) := by
          intro j; unfold byteCells; induction s.data.toList with
          | nil => exact .nil
          | cons b l ih => exact .cons (.int _ _) ih
        obtain ⟨q, hq⟩ : ∃ q, q = (Question.appendCap s.size 0 el).cut (w.tape w.drawn (.appendCap s.size 0 el)) := ⟨_, rfl⟩
        have hqge : s.size ≤ q := by rw [hq]; simp [Question.cut]
        refine ⟨.slice (some ⟨w.heap.size, 0, none⟩) s.size q, { w with heap := w.heap.push (.cells (byteCells s ++ List.replicate (q - s.size) (Value.int .u8 0)).toArray el (q, q + 1)), drawn := w.drawn + 1 }, run_val ?_, ?_⟩
        · have harr : s.data.map (fun b => Value.int .u8 b.toNat) ++ Array.replicate (q - s.size) (Value.int .u8 0) = (byteCells s ++ List.replicate (q - s.size) (Value.int .u8 0)).toArray := by
            apply Array.ext'; simp [byteCells]
          have hch : (choose (.appendCap s.size 0 el)).run P w = .ok q { w with drawn := w.drawn + 1 } := by
            rw [hq]; simp [choose, Sem.run, Question.forced]
          have hsz : (byteCells s ++ List.replicate (q - s.size) (Value.int .u8 0)).length = q := by simp [hlb]; omega
          simp only [convert, Sem.run_bind, run_underlying hs, run_underlying hd, Result.andThen_ok, ex1, run_underlying he, Conv.stringToBytes, hch, harr, run_newRow, Sem.run_pure]
          simp [markStringish, shape, freeze, Sem.run, World.shape?, World.freeze, hsz]
          apply Array.ext
          · simp
          · intro i h1 h2
            simp only [Array.getElem_modify, Array.getElem_push]
            simp only [Array.size_modify, Array.size_push] at h1
            by_cases hi : i < w.heap.size
            · simp [hi]; omega
            · simp [hi]; omega
        · refine makes_tcells (tail := List.replicate (q - s.size) (Value.int .u8 0)) (esz := 1) (extra := q - s.size) (hflat j) (by simp) (by exact ⟨rfl, rfl, rfl⟩) rfl ?_ (fun j' L hj e hL => ?_)
          · right; rw [show (byteCells s ++ List.replicate (q - s.size) (Value.int .u8 0)).length = q by simp [hlb]; omega]
          · subst hL
            have := VR.oslice (j := j') (o := 0) (e := 1) s.size s.size e rfl (by simp [hlb])
            simpa [show s.size + (q - s.size) = q by omega] using this
      · rename_i he
        simp at e
        obtain ⟨e1, e2⟩ := e; subst e1 e2
        have hints : ∀ (b i : Nat) (acc : Array Value), (∀ j : Inj, LR j acc.toList acc.toList) → ∀ j : Inj, LR j (Conv.runesFrom s b i acc).toList (Conv.runesFrom s b i acc).toList := by
          intro b; induction b with
          | zero => intro i acc ha j; exact ha j
          | succ b ih =>
            intro i acc ha j
            unfold Conv.runesFrom
            split
            · refine ih _ _ (fun j => ?_) j
              simp only [Array.toList_push]
              exact (ha j).app (.cons (.int _ _) .nil)
            · exact ha j
        have hflat : LR j (runeCells s) (runeCells s) := hints _ _ _ (fun _ => .nil) j
        obtain ⟨n, hn⟩ : ∃ n, n = (runeCells s).length := ⟨_, rfl⟩
        have hn' : (Conv.runesFrom s s.size 0 #[]).size = n := by rw [hn]; simp [runeCells]
        obtain ⟨q, hq⟩ : ∃ q, q = (Question.appendCap n 0 el).cut (w.tape w.drawn (.appendCap n 0 el)) := ⟨_, rfl⟩
        have hqge : n ≤ q := by rw [hq]; simp [Question.cut]
        rw [← hn]
        refine ⟨.slice (some ⟨w.heap.size, 0, none⟩) n q, { w with heap := w.heap.push (.cells (runeCells s ++ List.replicate (q - n) (Value.int .i32 0)).toArray el), drawn := w.drawn + 1 }, run_val ?_, ?_⟩
        · have harr : Conv.runesFrom s s.size 0 #[] ++ Array.replicate (q - n) (Value.int .i32 0) = (runeCells s ++ List.replicate (q - n) (Value.int .i32 0)).toArray := by
            apply Array.ext'; simp [runeCells]
          have hch : (choose (.appendCap n 0 el)).run P w = .ok q { w with drawn := w.drawn + 1 } := by
            rw [hq]; simp [choose, Sem.run, Question.forced]
          simp only [convert, Sem.run_bind, run_underlying hs, run_underlying hd, Result.andThen_ok, ex1, run_underlying he, Conv.stringToRunes, hn', hch, harr, run_newRow, Sem.run_pure]
        · refine makes_cells (tail := List.replicate (q - n) (Value.int .i32 0)) (esz := 1) (extra := q - n) hflat (by simp) (by exact ⟨rfl, rfl, rfl⟩) rfl ?_ (fun j' L hj e hL => ?_)
          · intro o ho; simp
          · subst hL
            have := VR.oslice (j := j') (o := 0) (e := 1) n n e rfl (by simp [← hn])
            simpa [show n + (q - n) = q by omega] using this
      · simp at e
    · simp at e
  · simp at e

end Go.Fm
