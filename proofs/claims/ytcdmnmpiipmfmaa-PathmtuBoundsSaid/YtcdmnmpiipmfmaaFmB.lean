/-
  FmEff: operations that change memory: stores, maps, append, copy, iterators.
  FmEff2: append, copy, clear, iterators; all effects under one name.
  FmEff3: append to a new array; append on abstract values; the other effects; all under one name.
  FmEff4: append on abstract values.
  FmUns: unsafe.String (a string shares a block's bytes) and a slice of bytes that is turned to its own type.
  FmEff5: clear, iterators; all effects under one name; the steps of a map's iterator.
-/
import Derived.Test.YtcdmnmpiipmfmaaFmA
import Derived.Laws.Append

namespace Go.Fm

variable (P : Program)

def undefV : Value := .tuple #[]

def aStoreAt (t : TypeId) (a x : Value) (h : AHeap) : Option AHeap :=
  match a with
  | .pointer (some a) => (aSize P t).bind fun n => if x.cells.toList.length = n then aStore h a x.cells.toList else none
  | _ => none

def mapRow (m : Value) (h : AHeap) : Option (Nat × List MapEntry × Nat) :=
  match m with
  | .map (some r) => match h[r]? with
    | some (.map es c) => some (r, es, c)
    | _ => none
  | _ => none

def aMapUpdate (t : TypeId) (m k x : Value) (h : AHeap) : Option AHeap :=
  match P.underlying t with
  | some (.map kt _) => (mapRow m h).bind fun (r, es, c) =>
    if aCheckKey P false kt k then
      (aFind P kt k es 0).bind fun
        | some (i, _) =>
          if Instr.sameBits 10000 (((es[i]?).map (·.key)).getD k) k then some (h.set r (.map (es.modify i fun e => { e with key := k, val := x }) c)) else none
        | none => some (h.set r (.map (es ++ [{ key := k, val := x, born := c }]) (c + 1)))
    else none
  | _ => none

def aMapEntry (t : TypeId) (m k : Value) (h : AHeap) : Option (Value × AHeap) :=
  match P.underlying t with
  | some (.map kt et) => (mapRow m h).bind fun (r, es, c) =>
    if aCheckKey P false kt k then
      (aFind P kt k es 0).bind fun
        | some (i, v) =>
          if Instr.sameBits 10000 (((es[i]?).map (·.key)).getD k) k then
            some (.tuple #[v, goInt (((es[i]?).map (·.born)).getD 0)], h.set r (.map (es.modify i fun e => { e with key := k }) c)) else none
        | none => (aZero P et).map fun z => (.tuple #[z, goInt c], h.set r (.map (es ++ [{ key := k, val := z, born := c }]) (c + 1)))
    else none
  | _ => none

def aEntryStore (m stamp x : Value) (h : AHeap) : Option AHeap :=
  match stamp with
  | .int _ born => (mapRow m h).bind fun (r, es, c) =>
    match es.findIdx? (fun e => (e.born : Int) == born) with
    | some i => some (h.set r (.map (es.modify i fun e => { e with val := x }) c))
    | none => none
  | _ => none

def aDelete (t : TypeId) (m k : Value) (h : AHeap) : Option AHeap :=
  match P.underlying t, m with
  | some (.map kt _), .map none => if aCheckKey P true kt k then some h else none
  | some (.map kt _), m => (mapRow m h).bind fun (r, es, c) =>
    if aCheckKey P es.isEmpty kt k then
      (aFind P kt k es 0).bind fun
        | some (i, _) => some (h.set r (.map (es.eraseIdx i) c))
        | none => some (h.set r (.map es c))
    else none
  | _, _ => none

def aLenOf : Value → Option Nat
  | .slice _ n _ => some n
  | .string s => some s.size
  | _ => none

/-- the first n elements of what is appended or copied -/
def aFirst (size n : Nat) (v : Value) (h : AHeap) : Option (List Value) :=
  match v with
  | .string s => some ((s.extract 0 n).data.toList.map fun b => .int .u8 b.toNat)
  | v => aView size v n h

def aCopy (t : TypeId) (dst src : Value) (h : AHeap) : Option (Value × AHeap) :=
  match P.underlying t, dst with
  | some (.slice e), .slice base dl _ =>
    (aSize P e).bind fun size => (aLenOf src).bind fun sl => (aFirst size (Nat.min sl dl) src h).bind fun cs =>
      match base with
      | none => some (goInt (Nat.min sl dl : Nat), h)
      | some ⟨b, o, _⟩ => if cs.length = 0 then some (goInt (Nat.min sl dl : Nat), h) else (aStore h ⟨b, o, none⟩ cs).map fun h' => (goInt (Nat.min sl dl : Nat), h')
  | _, _ => none

/-- the new cells of an append: a slice's, a string's, or zeros (append(x, make([]T, n)...)) -/
def aNew (e : TypeId) (size : Nat) (xt : TypeId) (x : Value) (h : AHeap) : Option (Nat × List Value) :=
  match P.underlying xt with
  | some (.int _) =>
    match x with
    | .int _ n => if 0 ≤ n ∧ n < 2 ^ 31 then (aZero P e).bind fun z => if z.cells.size = size then (zeroRow z.cells (n.toNat * size)).map fun row => (n.toNat, row) else none else none
    | _ => none
  | some _ => (aLenOf x).bind fun n => (aFirst size n x h).map fun cs => (n, cs)
  | none => none

/-- an append that does not fit: a new block; the old one is dead where its spare room is not known -/
def aGrow (el : TypeId) (size : Nat) (base : Option Addr) (len n : Nat) (new : List Value) (h : AHeap) : Option (Value × AHeap) :=
  match base with
  | none => if len = 0 then some (.slice (some ⟨h.length, 0, some size⟩) n n, h ++ [.tcells new el (some 0)]) else none
  | some ⟨b, o, none⟩ =>
    if len = 0 then some (.slice (some ⟨h.length, 0, some size⟩) n n, h ++ [.tcells new el (some 0)]) else
    (aCells h ⟨b, o, none⟩ (len * size)).map fun old => (.slice (some ⟨h.length, 0, some size⟩) (len + n) (len + n), h ++ [.tcells (old ++ new) el (some 0)])
  | some ⟨b, o, some sp⟩ =>
    if sp ≠ size then none else
    match h[b]? with
    | some (.cells c false) =>
      if o + len * size ≤ c.length then
        some (.slice (some ⟨h.length, 0, some size⟩) (len + n) (len + n), h.set b .dead ++ [.cells ((c.drop o).take (len * size) ++ new) false])
      else none
    | some (.tcells c t z) =>
      if o + len * size ≤ c.length ∧ o = 0 ∧ t = el ∧ z.getD 0 ≤ len * size then
        some (.slice (some ⟨h.length, 0, some size⟩) (len + n) (len + n), h.set b .dead ++ [.tcells ((c.drop o).take (len * size) ++ new) el z])
      else if o + len * size ≤ c.length ∧ z.getD 0 ≤ o then
        some (.slice (some ⟨h.length, 0, some size⟩) (len + n) (len + n), h.set b .dead ++ [.cells ((c.drop o).take (len * size) ++ new) false])
      else none
    | _ => none

def aAppend (t xt : TypeId) (s x : Value) (h : AHeap) : Option (Value × AHeap) :=
  match P.underlying t, s with
  | some (.slice e), .slice base len cap =>
    match P.info? e with
    | none => none
    | some i =>
      if i.size = 0 ∨ cap < len then none else
      (aNew P e i.size xt x h).bind fun (n, new) =>
        if new.length ≠ n * i.size ∨ 2 ^ 47 < n * i.bytes then none else
        if len + n ≤ cap then
          match base with
          | none => some (.slice none (len + n) cap, h)
          | some ⟨b, o, sp⟩ => if n = 0 then some (.slice (some ⟨b, o, sp⟩) len cap, h) else
            (aStore h ⟨b, o + len * i.size, none⟩ new).map fun h' => (.slice (some ⟨b, o, sp⟩) (len + n) cap, h')
        else if (len + n) * i.bytes ≤ 2 ^ 46 ∧ len + n < 2 ^ 60 ∧ ((aZero P e).map fun z => z.cells.size) = some i.size ∧ new.all Value.isCell = true then
          aGrow e i.size base len n new h
        else none
  | _, _ => none

def aClear (t : TypeId) (x : Value) (h : AHeap) : Option AHeap :=
  match P.underlying t, x with
  | some _, .map none | some _, .slice none _ _ | some _, .slice _ 0 _ => some h
  | some _, .map (some r) => match h[r]? with
    | some (.map _ c) => some (h.set r (.map [] c))
    | _ => none
  | some (.slice e), .slice (some ⟨b, o, _⟩) n _ =>
    (aZero P e).bind fun z => (zeroRow z.cells (n * z.cells.size)).bind fun row => aStore h ⟨b, o, none⟩ row
  | _, _ => none

def aRange (t : TypeId) (x : Value) (h : AHeap) : Option AObj :=
  match P.underlying t, x with
  | some .string, .string s => some (.strIter s 0)
  | some (.map _ _), .map none => some (.mapIter none 0 [] 0)
  | some (.map _ _), .map (some m) => match h[m]? with
    | some (.map _ c) => some (.mapIter (some m) c [] c)
    | _ => none
  | _, _ => none

def aNextStr (it : Value) (h : AHeap) : Option (Value × AHeap) :=
  match it with
  | .pointer (some ⟨r, 0, none⟩) => match h[r]? with
    | some (.strIter s pos) =>
      if pos < s.size then
        let (c, width) := Utf8.decode s pos
        some (.tuple #[.bool true, goInt pos, .int .i32 c], h.set r (.strIter s (pos + width)))
      else some (.tuple #[.bool false], h)
    | _ => none
  | _ => none

def aEntry (it : Value) (h : AHeap) : Option Value :=
  match it with
  | .pointer (some ⟨r, 0, none⟩) => match h[r]? with
    | some (.mapIter (some m) _ seen stepped) => match h[m]? with
      | some (.map es c) =>
        if c = stepped then
          match seen.getLast? with
          | some stamp => match es.find? (·.born == stamp) with
            | some e => some (.tuple #[e.key, e.val])
            | none => none
          | none => none
        else none
      | _ => none
    | _ => none
  | _ => none

/-- unsafe.String: a copy; what was read may no more be written -/
def aUnsafeString (pt : TypeId) (p n : Value) (h : AHeap) : Option (Value × AHeap) :=
  match n with
  | .int _ n =>
    if n < 0 ∨ IntKind.i64.max < n then none else
    match p, P.underlying pt with
    | .pointer none, some (.pointer _) => if n = 0 then some (.string .empty, h) else none
    | .pointer (some ⟨b, o, none⟩), some (.pointer u) =>
      if n = 0 then some (.string .empty, h) else
      match h[b]? with
      | some (.tcells c t (some k)) =>
        if o + n.toNat ≤ c.length ∧ liesAt P P.depth t (c.length / P.cellsOf t) o u n.toNat = true then
          (bytesOf? ((c.drop o).take n.toNat)).map fun bs => (.string ⟨bs.toArray⟩, h.set b (.tcells c t (some (Nat.max k (o + n.toNat)))))
        else none
      | _ => none
    | _, _ => none
  | _ => none

/-- a slice of bytes turned to its own type: its block is marked behind its end -/
def aConvMark (src dst : TypeId) (v : Value) (h : AHeap) : Option (Value × AHeap) :=
  match P.underlying src, P.underlying dst with
  | some (.slice _), some (.slice e) =>
    match P.underlying e, v with
    | some (.int .u8), .slice (some ⟨b, o, sp⟩) l c =>
      if src = dst ∧ c ≠ 0 then
        match h[b]? with
        | some (.tcells cs t z) => if z.getD 0 = 0 then some (.slice (some ⟨b, o, sp⟩) l c, h.set b (.tcells cs t none)) else none
        | _ => none
      else none
    | _, _ => none
  | _, _ => none

def aEff (ρ : Operand → Option Value) (h : AHeap) : Op → Option (Value × AHeap)
  | .convert s d x => (ρ x).bind fun v => aConvMark P s d v h
  | .call { callee := .builtin .unsafeString, args := args, argTypes := argTypes } =>
    match args.toList, argTypes.toList with
    | [p, n], pt :: _ => (ρ p).bind fun pv => (ρ n).bind fun nv => aUnsafeString P pt pv nv h
    | _, _ => none
  | .store t a x => (ρ a).bind fun av => (ρ x).bind fun xv => (aStoreAt P t av xv h).map fun h' => (undefV, h')
  | .mapUpdate t m k x | .insert t m k x => (ρ m).bind fun mv => (ρ k).bind fun kv => (ρ x).bind fun xv => (aMapUpdate P t mv kv xv h).map fun h' => (undefV, h')
  | .mapEntry t m k => (ρ m).bind fun mv => (ρ k).bind fun kv => aMapEntry P t mv kv h
  | .entryStore _ m s x => (ρ m).bind fun mv => (ρ s).bind fun sv => (ρ x).bind fun xv => (aEntryStore mv sv xv h).map fun h' => (undefV, h')
  | .call { callee := .builtin .append, args := args, argTypes := argTypes } =>
    match args.toList, argTypes.toList with
    | [s, x], [t, xt] => (ρ s).bind fun sv => (ρ x).bind fun xv => aAppend P t xt sv xv h
    | _, _ => none
  | .call { callee := .builtin .copy, args := args, argTypes := argTypes } =>
    match args.toList, argTypes.toList with
    | [d, s], t :: _ => (ρ d).bind fun dv => (ρ s).bind fun sv => aCopy P t dv sv h
    | _, _ => none
  | .call { callee := .builtin .delete, args := args, argTypes := argTypes } =>
    match args.toList, argTypes.toList with
    | [m, k], t :: _ => (ρ m).bind fun mv => (ρ k).bind fun kv => (aDelete P t mv kv h).map fun h' => (undefV, h')
    | _, _ => none
  | .call { callee := .builtin .clear, args := args, argTypes := argTypes } =>
    match args.toList, argTypes.toList with
    | [x], t :: _ => (ρ x).bind fun xv => (aClear P t xv h).map fun h' => (undefV, h')
    | _, _ => none
  | .range t x => (ρ x).bind fun v => (aRange P t v h).map fun ob => (.pointer (some ⟨h.length, 0, none⟩), h ++ [ob])
  | .next it true => (ρ it).bind fun v => aNextStr v h
  | .entry it => (ρ it).bind fun v => (aEntry v h).map fun r => (r, h)
  | _ => none

variable {P} {F : Nat → Nat → Prop} {w0 w : World} {j : Inj} {h : AHeap} {ρ : Operand → Option Value} {ρ' : Operand → Value}

theorem aStoreAt_sim (S : Sim F w0 j h w) {t : TypeId} {a a' x x' : Value} (ha : VR j a a') (hx : VR j x x') {h' : AHeap} (e : aStoreAt P t a x h = some h') :
    ∃ w', (Instr.storeAt t a' x').run P w = .ok () w' ∧ Sim F w0 j h' w' := by
  unfold aStoreAt at e
  split at e
  · rename_i ad
    cases ha with
    | ptr hj =>
      obtain ⟨n, hs, e⟩ := bind_some' e
      split at e
      · rename_i hn
        obtain ⟨w', h1, h2⟩ := aStore_sim (P := P) S (a := ⟨_, _, none⟩) hj hx.cells e
        have hc : x'.cells.size = n := by have := hx.cells.length; simp at this hn; omega
        exact ⟨w', by simp [Instr.storeAt, Instr.sureAddr, storeVar, run_sizeOf' hs, hc, h1], h2⟩
      · simp at e
  · simp at e

theorem mapRow_sim (S : Sim F w0 j h w) {m m' : Value} (hm : VR j m m') {r c : Nat} {es : List MapEntry} (e : mapRow m h = some (r, es, c)) :
    ∃ L es', j r = some L ∧ h[r]? = some (.map es c) ∧ m' = .map (some L.blk) ∧ w.heap[L.blk]? = some (.map es' c) ∧ ER j es es'.toList ∧ L.off = 0 := by
  unfold mapRow at e
  split at e
  · rename_i r0
    split at e
    · rename_i es0 c0 hh
      simp at e
      obtain ⟨e1, e2, e3⟩ := e; subst e1 e2 e3
      cases hm with
      | map hj =>
        rename_i L
        have := S.obj _ _ hj
        rw [hh] at this
        obtain ⟨es', k1, k2, k3⟩ := this
        exact ⟨L, es', hj, hh, rfl, k1, k2, k3⟩
    · simp at e
  · simp at e

theorem map_turn (S : Sim F w0 j h w) {r c c2 : Nat} {L : Loc} {es es2 : List MapEntry} {es' es2' : Array MapEntry} (hj : j r = some L) (hh : h[r]? = some (.map es c))
    (hw : w.heap[L.blk]? = some (.map es' c)) (hL : L.off = 0) (hE : ER j es2 es2'.toList) :
    Sim F w0 j (h.set r (.map es2 c2)) { w with heap := w.heap.setIfInBounds L.blk (.map es2' c2) } := by
  have hlt : L.blk < w.heap.size := (Array.getElem?_eq_some_iff.1 hw).1
  obtain ⟨k1, k2, k3⟩ := heap_set (w := w) (x := Obj.map es2' c2) hlt
  exact S.object (o := .map es c) (o' := .map es2 c2) hj hh trivial trivial (fun B x => Iff.rfl) (fun B x => Iff.rfl) ⟨rfl, rfl, rfl⟩ k1 k3 ⟨es2', k2, hE, hL⟩

theorem ER.modify {es es' : List MapEntry} (h : ER j es es') (i : Nat) {f f' : MapEntry → MapEntry} (hf : ∀ e e', ERow j e e' → ERow j (f e) (f' e')) :
    ER j (es.modify i f) (es'.modify i f') := by
  induction h generalizing i with
  | nil => cases i <;> simp <;> exact .nil
  | cons hr hl ih =>
    cases i with
    | zero => simp; exact .cons (hf _ _ hr) hl
    | succ i => simp; exact .cons hr (ih i)

theorem ER.app {es es' es2 es2' : List MapEntry} (h : ER j es es') (h2 : ER j es2 es2') : ER j (es ++ es2) (es' ++ es2') := by
  induction h with
  | nil => exact h2
  | cons hr _ ih => exact .cons hr ih

theorem ER.erase {es es' : List MapEntry} (h : ER j es es') (i : Nat) : ER j (es.eraseIdx i) (es'.eraseIdx i) := by
  induction h generalizing i with
  | nil => simp; exact .nil
  | cons hr hl ih =>
    cases i with
    | zero => simpa using hl
    | succ i => simpa using .cons hr (ih i)

theorem ER.get {es es' : List MapEntry} (h : ER j es es') (i : Nat) : (es[i]? = none ∧ es'[i]? = none) ∨ ∃ e e', es[i]? = some e ∧ es'[i]? = some e' ∧ ERow j e e' := by
  induction h generalizing i with
  | nil => left; simp
  | cons hr hl ih =>
    cases i with
    | zero => right; exact ⟨_, _, by simp, by simp, hr⟩
    | succ i => simpa using ih i

theorem aFind_flat {kt : TypeId} {k : Value} : ∀ {es : List MapEntry} {i n : Nat} {v : Value}, aFind P kt k es i = some (some (n, v)) →
    ∃ e, es[n - i]? = some e ∧ i ≤ n ∧ Flat e.key ∧ e.val = v
  | [], i, n, v, h => by simp [aFind] at h
  | e :: es, i, n, v, h => by
    simp only [aFind] at h
    split at h
    · rename_i hf
      split at h
      · simp at h; obtain ⟨h1, h2⟩ := h; subst h1 h2; exact ⟨e, by simp, Nat.le_refl _, flatB_flat hf, rfl⟩
      · obtain ⟨e', k1, k2, k3⟩ := aFind_flat h
        refine ⟨e', ?_, by omega, k3⟩
        rw [show n - i = (n - (i + 1)) + 1 by omega]; simpa using k1
      · simp at h
    · simp at h

theorem sameKey {kt : TypeId} {k : Value} {es es' : List MapEntry} (hE : ER j es es') {n : Nat} {v : Value} (hq : aFind P kt k es 0 = some (some (n, v))) :
    ((es'[n]?).map (·.key)).getD k = ((es[n]?).map (·.key)).getD k := by
  obtain ⟨e0, q1, _, q2, _⟩ := aFind_flat hq
  simp at q1
  rcases hE.get n with ⟨x1, x2⟩ | ⟨e1, e1', x1, x2, x3⟩
  · rw [x1] at q1; simp at q1
  · rw [x1] at q1; injection q1 with q1; subst q1
    simp [x1, x2, q2.eq x3.1]

theorem run_keyStays {old k : Value} (h : Instr.sameBits 10000 old k = true) (w : World) : (Instr.keyThatStays old k).run P w = .ok k w := by
  unfold Instr.keyThatStays; rw [if_pos h]; rfl

theorem aMapUpdate_sim (S : Sim F w0 j h w) {t : TypeId} {m m' k k' x x' : Value} (hm : VR j m m') (hk : VR j k k') (hx : VR j x x') {h' : AHeap}
    (e : aMapUpdate P t m k x h = some h') : ∃ w', (Instr.mapUpdate t m' k' x').run P w = .ok () w' ∧ Sim F w0 j h' w' := by
  unfold aMapUpdate at e
  split at e
  · rename_i kt et hu
    obtain ⟨⟨r, es, c⟩, hrow, e⟩ := bind_some' e
    obtain ⟨L, es', hj, hh, rfl, hw, hE, hL⟩ := mapRow_sim S hm hrow
    simp only at e
    split at e
    · rename_i hck
      obtain ⟨q, hq, e⟩ := bind_some' e
      obtain ⟨hkk, hck'⟩ := aCheckKey_sim hk hck
      subst hkk
      obtain ⟨q', h1, h2, h3⟩ := aFind_sim hE (aCheckKey_under hck) hq
      have hck2 := hck' w
      cases q with
      | none =>
        have := h2 rfl; subst this
        simp at e; subst e
        refine ⟨_, ?_, map_turn S hj hh hw hL (es2' := es'.push { key := k', val := x', born := c }) (c2 := c + 1) ?_⟩
        · simp only [Instr.mapUpdate, Sem.run_bind, run_underlying hu, Result.andThen_ok, run_getObj_map hw, hck2, h1]
          exact run_setObj' hw (by intro _ _ _ h; cases h)
        · simp; exact hE.app (.cons ⟨hk, hx, rfl⟩ .nil)
      | some p =>
        obtain ⟨n, v⟩ := p
        obtain ⟨v', rfl, hv⟩ := h3 n v rfl
        simp only at e
        split at e
        · rename_i hsb
          simp at e; subst e
          refine ⟨_, ?_, map_turn S hj hh hw hL (es2' := es'.modify n fun e => { e with key := k', val := x' }) (c2 := c) ?_⟩
          · have hsb' : Instr.sameBits 10000 (((es'[n]?).map (·.key)).getD k') k' = true := by
              have := sameKey (P := P) hE hq
              simp only [Array.getElem?_toList] at this
              rw [this]; exact hsb
            simp only [Instr.mapUpdate, Sem.run_bind, run_underlying hu, Result.andThen_ok, run_getObj_map hw, hck2, h1, run_keyStays hsb']
            exact run_setObj' hw (by intro _ _ _ h; cases h)
          · simp only [Array.toList_modify]
            exact hE.modify n (fun e e' he => ⟨hk, hx, he.2.2⟩)
        · simp at e
    · simp at e
  · simp at e

theorem aMapEntry_sim (S : Sim F w0 j h w) {t : TypeId} {m m' k k' r0 : Value} (hm : VR j m m') (hk : VR j k k') {h' : AHeap}
    (e : aMapEntry P t m k h = some (r0, h')) : ∃ r' w', VR j r0 r' ∧ (Instr.mapEntry t m' k').run P w = .ok r' w' ∧ Sim F w0 j h' w' := by
  unfold aMapEntry at e
  split at e
  · rename_i kt et hu
    obtain ⟨⟨r, es, c⟩, hrow, e⟩ := bind_some' e
    obtain ⟨L, es', hj, hh, rfl, hw, hE, hL⟩ := mapRow_sim S hm hrow
    simp only at e
    split at e
    · rename_i hck
      obtain ⟨q, hq, e⟩ := bind_some' e
      obtain ⟨hkk, hck'⟩ := aCheckKey_sim hk hck
      subst hkk
      obtain ⟨q', h1, h2, h3⟩ := aFind_sim hE (aCheckKey_under hck) hq
      have hck2 := hck' w
      cases q with
      | none =>
        have := h2 rfl; subst this
        simp only at e
        cases hz : aZero P et with
        | none => simp [hz] at e
        | some z =>
          simp [hz] at e
          obtain ⟨e1, e2⟩ := e; subst e1 e2
          have hz1 := run_zero' hz w
          refine ⟨.tuple #[z, goInt c], _, VR.tuple' (.cons (hz1.2.vr j) (.cons (.int _ _) .nil)), ?_, map_turn S hj hh hw hL (es2' := es'.push { key := k', val := z, born := c }) (c2 := c + 1) ?_⟩
          · simp only [Instr.mapEntry, Sem.run_bind, run_underlying hu, Result.andThen_ok, run_getObj_map hw, hck2, h1, hz1.1, run_setObj' hw (x := .map (es'.push { key := k', val := z, born := c }) (c + 1)) (by intro _ _ _ h; cases h), Sem.run_pure]
          · simp; exact hE.app (.cons ⟨hk, hz1.2.vr j, rfl⟩ .nil)
      | some p =>
        obtain ⟨n, v⟩ := p
        obtain ⟨v', rfl, hv⟩ := h3 n v rfl
        simp only at e
        split at e
        · rename_i hsb
          simp at e
          obtain ⟨e1, e2⟩ := e; subst e1 e2
          have hsb' : Instr.sameBits 10000 (((es'[n]?).map (·.key)).getD k') k' = true := by
            have := sameKey (P := P) hE hq
            simp only [Array.getElem?_toList] at this
            rw [this]; exact hsb
          have hborn : goInt (((es'[n]?).map (·.born)).getD 0) = goInt (((es[n]?).map (·.born)).getD 0) := by
            rcases hE.get n with ⟨x1, x2⟩ | ⟨e1, e1', x1, x2, x3⟩
            · simp at x2; simp [x1, x2]
            · simp only [Array.getElem?_toList] at x2; simp [x1, x2, x3.2.2]
          refine ⟨.tuple #[v', goInt (((es[n]?).map (·.born)).getD 0)], _, VR.tuple' (.cons hv (.cons (.int _ _) .nil)), ?_, map_turn S hj hh hw hL (es2' := es'.modify n fun e => { e with key := k' }) (c2 := c) ?_⟩
          · simp only [Instr.mapEntry, Sem.run_bind, run_underlying hu, Result.andThen_ok, run_getObj_map hw, hck2, h1, run_keyStays hsb', run_setObj' hw (x := .map (es'.modify n fun e => { e with key := k' }) c) (by intro _ _ _ h; cases h), Sem.run_pure, hborn]
          · simp only [Array.toList_modify]
            exact hE.modify n (fun e e' he => ⟨hk, he.2.1, he.2.2⟩)
        · simp at e
    · simp at e
  · simp at e

theorem ER.findIdx {es es' : List MapEntry} (h : ER j es es') (born : Int) :
    es'.findIdx? (fun e => (e.born : Int) == born) = es.findIdx? (fun e => (e.born : Int) == born) := by
  induction h with
  | nil => rfl
  | cons hr hl ih => simp only [List.findIdx?_cons, hr.2.2, ih]

theorem aEntryStore_sim (S : Sim F w0 j h w) {t : TypeId} {m m' s s' x x' : Value} (hm : VR j m m') (hs : VR j s s') (hx : VR j x x') {h' : AHeap}
    (e : aEntryStore m s x h = some h') : ∃ w', (Instr.entryStore t m' s' x').run P w = .ok () w' ∧ Sim F w0 j h' w' := by
  unfold aEntryStore at e
  split at e
  · rename_i ki born
    cases hs
    obtain ⟨⟨r, es, c⟩, hrow, e⟩ := bind_some' e
    obtain ⟨L, es', hj, hh, rfl, hw, hE, hL⟩ := mapRow_sim S hm hrow
    simp only at e
    split at e
    · rename_i i hi
      simp at e; subst e
      refine ⟨_, ?_, map_turn S hj hh hw hL (es2' := es'.modify i fun e => { e with val := x' }) (c2 := c) ?_⟩
      · have hi' : es'.findIdx? (fun e => (e.born : Int) == born) = some i := by
          rw [← Array.toArray_toList (xs := es'), List.findIdx?_toArray, hE.findIdx]; exact hi
        simp only [Instr.entryStore, Sem.run_bind, run_getObj_map hw, Result.andThen_ok, asInt, asIntOf, Sem.run_pure, hi']
        exact run_setObj' hw (by intro _ _ _ h; cases h)
      · simp only [Array.toList_modify]
        exact hE.modify i (fun e e' he => ⟨he.1, hx, he.2.2⟩)
    · simp at e
  · simp at e

theorem aDelete_sim (S : Sim F w0 j h w) {t ty : TypeId} {ts : Array TypeId} (ht : ts[0]? = some t) {m m' k k' : Value} (hm : VR j m m') (hk : VR j k k') {h' : AHeap}
    (e : aDelete P t m k h = some h') : ∃ w', (Builtin.delete_ ts ty #[m', k']).run P w = .ok undefV w' ∧ Sim F w0 j h' w' := by
  unfold aDelete at e
  split at e
  · rename_i kt et hu
    cases hm
    split at e
    · rename_i hck
      simp at e; subst e
      obtain ⟨hkk, hck'⟩ := aCheckKey_sim hk hck
      subst hkk
      exact ⟨w, by simp [Builtin.delete_, ht, run_underlying hu, hck', undefV], S⟩
    · simp at e
  · rename_i kt et hu hnot
    obtain ⟨⟨r, es, c⟩, hrow, e⟩ := bind_some' e
    obtain ⟨L, es', hj, hh, rfl, hw, hE, hL⟩ := mapRow_sim S hm hrow
    simp only at e
    split at e
    · rename_i hck
      obtain ⟨q, hq, e⟩ := bind_some' e
      obtain ⟨hkk, hck'⟩ := aCheckKey_sim hk hck
      subst hkk
      obtain ⟨q', h1, h2, h3⟩ := aFind_sim hE (aCheckKey_under hck) hq
      have hck2 := hck' w
      rw [← hE.isEmpty] at hck2
      have hck3 : (Instr.checkKey es'.isEmpty 10000 kt k').run P w = .ok () w := by simpa using hck2
      have hts : ts[0]? = some t := ht
      cases q with
      | none =>
        have := h2 rfl; subst this
        simp at e; subst e
        refine ⟨_, ?_, map_turn S hj hh hw hL (es2' := es') (c2 := c) hE⟩
        simp only [Builtin.delete_, hts, Sem.run_bind, run_underlying hu, Result.andThen_ok, run_getObj_map hw, hck3, h1, run_setObj' hw (x := .map es' c) (by intro _ _ _ h; cases h), Sem.run_pure, List.getElem?_toArray, List.getElem?_cons_zero, List.getElem?_cons_succ]
        rfl
      | some p =>
        obtain ⟨n, v⟩ := p
        obtain ⟨v', rfl, hv⟩ := h3 n v rfl
        simp at e; subst e
        refine ⟨_, ?_, map_turn S hj hh hw hL (es2' := es'.eraseIdxIfInBounds n) (c2 := c) ?_⟩
        · simp only [Builtin.delete_, hts, Sem.run_bind, run_underlying hu, Result.andThen_ok, run_getObj_map hw, hck3, h1, run_setObj' hw (x := .map (es'.eraseIdxIfInBounds n) c) (by intro _ _ _ h; cases h), Sem.run_pure, List.getElem?_toArray, List.getElem?_cons_zero, List.getElem?_cons_succ]
          rfl
        · have : (es'.eraseIdxIfInBounds n).toList = es'.toList.eraseIdx n := by
            rw [Array.toList_eraseIdxIfInBounds]
          rw [this]; exact hE.erase n
    · simp at e
  · simp at e

end Go.Fm

namespace Go.Fm

variable {P : Program} {F : Nat → Nat → Prop} {w0 w : World} {j : Inj} {h : AHeap} {ρ : Operand → Option Value} {ρ' : Operand → Value}

theorem aLenOf_sim {v v' : Value} (hv : VR j v v') {n : Nat} (e : aLenOf v = some n) (w : World) : (Builtin.lenOf v').run P w = .ok n w := by
  unfold aLenOf at e
  split at e
  · simp at e; subst e; cases hv <;> rfl
  · simp at e; subst e; cases hv; rfl
  · simp at e

theorem aFirst_sim (S : Sim F w0 j h w) {size n : Nat} {v v' : Value} (hv : VR j v v') {l : List Value} (e : aFirst size n v h = some l) :
    ∃ l', (Builtin.firstCells size n v').run P w = .ok l'.toArray w ∧ LR j l l' := by
  unfold aFirst at e
  split at e
  · rename_i s
    simp only [Option.some.injEq] at e; subst e
    cases hv
    refine ⟨(s.extract 0 n).data.toList.map fun b => .int .u8 b.toNat, ?_, ?_⟩
    · simp only [Builtin.firstCells, Sem.run_pure]; congr 1; apply Array.ext'; simp only [Array.toList_map]
    · induction (s.extract 0 n).data.toList with
      | nil => exact .nil
      | cons b l ih => exact .cons (.int _ _) ih
  · exact aView_sim S hv e

theorem aCopy_sim (S : Sim F w0 j h w) {t ty : TypeId} {ts : Array TypeId} (ht : ts[0]? = some t) {d d' s s' r : Value} (hd : VR j d d') (hs : VR j s s') {h' : AHeap}
    (e : aCopy P t d s h = some (r, h')) : VR j r r ∧ ∃ w', (Builtin.copy_ ts ty #[d', s']).run P w = .ok r w' ∧ Sim F w0 j h' w' := by
  unfold aCopy at e
  split at e
  · rename_i el base dl cap hu
    obtain ⟨size, hsz, e⟩ := bind_some' e
    obtain ⟨sl, hsl, e⟩ := bind_some' e
    obtain ⟨cs, hcs, e⟩ := bind_some' e
    obtain ⟨cs', k1, k2⟩ := aFirst_sim (P := P) S hs hcs
    have hl := aLenOf_sim (P := P) hs hsl w
    obtain ⟨n, hn⟩ : ∃ n, n = Nat.min sl dl := ⟨_, rfl⟩
    rw [← hn] at hcs k1 e
    have hrun : ∀ (b' : Option Addr) (c' : Nat) (w' : World), (match b' with | some a => (storeCells a cs').run P w | none => .ok () w) = .ok () w' →
        (Builtin.copy_ ts ty #[.slice b' dl c', s']).run P w = .ok (goInt n) w' := by
      intro b' c' w' hq
      have hn' : Nat.min sl dl = n := hn.symm
      cases b' with
      | none =>
        simp only [Result.ok.injEq, true_and] at hq; subst hq
        simp only [Builtin.copy_, ht, List.getElem?_toArray, List.getElem?_cons_zero, List.getElem?_cons_succ, Sem.run_bind, run_underlying hu, Result.andThen_ok, hl, run_sizeOf' hsz, hn', k1, Sem.run_pure]
      | some a =>
        simp only at hq
        simp only [Builtin.copy_, ht, List.getElem?_toArray, List.getElem?_cons_zero, List.getElem?_cons_succ, Sem.run_bind, run_underlying hu, Result.andThen_ok, hl, run_sizeOf' hsz, hn', k1, hq, Sem.run_pure]
    cases base with
    | none =>
      simp at e
      obtain ⟨e1, e2⟩ := e; subst e1 e2
      refine ⟨.int _ _, w, ?_, S⟩
      cases hd
      exact hrun none _ w rfl
    | some a =>
      obtain ⟨b, o, sp⟩ := a
      simp only at e
      split at e
      · rename_i hz
        simp at e
        obtain ⟨e1, e2⟩ := e; subst e1 e2
        have : cs = [] := List.eq_nil_of_length_eq_zero hz
        subst this; cases k2
        refine ⟨.int _ _, w, ?_, S⟩
        cases hd with
        | slice => exact hrun (some _) _ w rfl
        | oslice => exact hrun (some _) _ w rfl
        | slice0 => exact hrun (some _) _ w rfl
      · rename_i hz
        cases hst : aStore h ⟨b, o, none⟩ cs with
        | none => rw [hst] at e; simp at e
        | some h2 =>
          rw [hst] at e; simp at e
          obtain ⟨e1, e2⟩ := e; subst e1 e2
          refine ⟨.int _ _, ?_⟩
          cases hd with
          | slice _ _ hj =>
            obtain ⟨w', q1, q2⟩ := aStore_sim (P := P) S (a := ⟨b, o, none⟩) hj k2 hst
            exact ⟨w', hrun (some _) _ w' q1, q2⟩
          | oslice _ _ hj _ _ =>
            obtain ⟨w', q1, q2⟩ := aStore_sim (P := P) S (a := ⟨b, o, none⟩) hj k2 hst
            exact ⟨w', hrun (some _) _ w' q1, q2⟩
          | slice0 a a' =>
            exfalso
            apply hz
            have hn0 : n = 0 := by rw [hn]; simp
            subst hn0
            unfold aFirst at hcs
            split at hcs
            · simp at hcs; subst hcs; simp
            · unfold aView at hcs
              split at hcs
              · simp at hcs; subst hcs; rfl
              · simp at hcs; subst hcs; rfl
              · simp at hcs
  · simp at e

def isIntD : TypeDesc → Bool
  | .int _ => true
  | _ => false

/-- what an append takes: how many, which cells -/
def Taken (P : Program) (w : World) (el xt : TypeId) (size n : Nat) (x' : Value) (new' : List Value) : Prop :=
  ∃ d, P.underlying xt = some d ∧
    ((isIntD d = false ∧ (Builtin.lenOf x').run P w = .ok n w ∧ (Builtin.firstCells size n x').run P w = .ok new'.toArray w) ∨
       (isIntD d = true ∧ ∃ k z, x' = .int k (n : Int) ∧ n < 2 ^ 31 ∧ (∀ w, (zeroValue el).run P w = .ok z w) ∧ z.cells.size = size ∧ (n * size = 0 → new' = []) ∧
          Builtin.zeroCells z.cells n = new'.toArray))

/-- what the new cells of an append are, in the machine -/
theorem aNew_sim (S : Sim F w0 j h w) {el xt : TypeId} {size n : Nat} {x x' : Value} (hx : VR j x x') {new : List Value} (e : aNew P el size xt x h = some (n, new)) :
    ∃ new', LR j new new' ∧ Taken P w el xt size n x' new' := by
  unfold aNew at e
  split at e
  · rename_i k hu
    split at e
    · rename_i kk m
      cases hx
      split at e
      · rename_i hn
        obtain ⟨z, hz, e⟩ := bind_some' e
        split at e
        · rename_i hzs
          cases hrow : zeroRow z.cells (m.toNat * size) with
          | none => simp [hrow] at e
          | some row =>
            simp [hrow] at e
            obtain ⟨e1, e2⟩ := e; subst e1 e2
            have hz1 := fun w => run_zero' hz w
            obtain ⟨r1, r2, r3⟩ := zeroRow_flat (hz1 default).2 hrow j
            refine ⟨row, r1, _, hu, .inr ⟨rfl, kk, z, by rw [Int.toNat_of_nonneg hn.1], by omega, fun w => (hz1 w).1, hzs, ?_, ?_⟩⟩
            · intro h0; rw [h0] at r2; exact List.eq_nil_of_length_eq_zero r2
            · rw [← r3, ← hzs]; rfl
        · simp at e
      · simp at e
    · simp at e
  · rename_i d hnot hu
    obtain ⟨m, hm, e⟩ := bind_some' e
    cases hf : aFirst size m x h with
    | none => simp [hf] at e
    | some cs =>
      simp [hf] at e
      obtain ⟨e1, e2⟩ := e; subst e1 e2
      obtain ⟨cs', k1, k2⟩ := aFirst_sim (P := P) S hx hf
      refine ⟨cs', k2, d, hu, .inl ⟨?_, aLenOf_sim hx hm w, k1⟩⟩
      cases d <;> simp_all [isIntD]
  · simp at e

/-- the machine's append: in place -/
theorem run_append_in {t ty xt el : TypeId} {i : TypeInfo} (hu : P.underlying t = some (.slice el)) (hi : P.info? el = some i) {base : Option Addr} {len cap n : Nat} {x' : Value}
    {new' : List Value} (hT : Taken P w el xt i.size n x' new') (hb : (n : Int) * i.bytes ≤ 2 ^ 48) (hfit : len + n ≤ cap) {w' : World}
    (hst : (match base with | some a => (storeCells (a.add (len * i.size)) new').run P w | none => .ok () w) = .ok () w') :
    (Builtin.append_ #[t, xt] ty #[.slice base len cap, x']).run P w = .ok (.slice base (len + n) cap) w' := by
  have hs : aSize P el = some i.size := by simp [aSize, hi]
  obtain ⟨d, hd, hcase⟩ := hT
  rcases hcase with ⟨h0, h1, h2⟩ | ⟨h0, k, z, rfl, hn, h2, h3, h4, h5⟩
  · cases d with
    | int k => simp [isIntD] at h0
    | _ =>
      cases base with
      | none =>
        simp only [Result.ok.injEq, true_and] at hst; subst hst
        simp only [Builtin.append_, List.getElem?_toArray, List.getElem?_cons_zero, List.getElem?_cons_succ, Sem.run_bind, run_underlying hu, Result.andThen_ok, run_sizeOf' hs, run_underlying hd, Sem.run_pure, h1,
          Bool.false_eq_true, if_false, if_pos hfit, Bool.not_false, if_true, h2]
      | some a =>
        simp only at hst
        simp only [Builtin.append_, List.getElem?_toArray, List.getElem?_cons_zero, List.getElem?_cons_succ, Sem.run_bind, run_underlying hu, Result.andThen_ok, run_sizeOf' hs, run_underlying hd, Sem.run_pure, h1,
          Bool.false_eq_true, if_false, if_pos hfit, Bool.not_false, if_true, h2, hst]
  · have hw : IntKind.i64.wrap (n : Int) = n := by simp [IntKind.wrap, IntKind.bits, IntKind.signed]; omega
    have hti : (typeInfo el).run P w = .ok i w := by simp [typeInfo, hi]
    have hnn : ¬ ((n : Int) < 0) := by omega
    have hb2 : ¬ ((n : Int) * i.bytes > 2 ^ 48) := by omega
    cases d with
    | int k =>
      by_cases hz : n * i.size = 0
      · have hnew := h4 hz
        subst hnew
        cases base with
        | none =>
          simp only [Result.ok.injEq, true_and] at hst; subst hst
          simp only [Builtin.append_, List.getElem?_toArray, List.getElem?_cons_zero, List.getElem?_cons_succ, Sem.run_bind, run_underlying hu, Result.andThen_ok, run_sizeOf' hs, run_underlying hd,
            if_true, asInt, asIntOf, Sem.run_pure, hw, if_neg hnn, hti, if_neg hb2, Int.toNat_natCast, if_pos hfit, Bool.not_true, Bool.false_eq_true, if_false, if_pos hz]
        | some a =>
          simp only at hst
          simp only [Builtin.append_, List.getElem?_toArray, List.getElem?_cons_zero, List.getElem?_cons_succ, Sem.run_bind, run_underlying hu, Result.andThen_ok, run_sizeOf' hs, run_underlying hd,
            if_true, asInt, asIntOf, Sem.run_pure, hw, if_neg hnn, hti, if_neg hb2, Int.toNat_natCast, if_pos hfit, Bool.not_true, Bool.false_eq_true, if_false, if_pos hz, hst]
      · cases base with
        | none =>
          simp only [Result.ok.injEq, true_and] at hst; subst hst
          simp only [Builtin.append_, List.getElem?_toArray, List.getElem?_cons_zero, List.getElem?_cons_succ, Sem.run_bind, run_underlying hu, Result.andThen_ok, run_sizeOf' hs, run_underlying hd,
            if_true, asInt, asIntOf, Sem.run_pure, hw, if_neg hnn, hti, if_neg hb2, Int.toNat_natCast, if_pos hfit, Bool.not_true, Bool.false_eq_true, if_false, if_neg hz, h2, h5]
        | some a =>
          simp only at hst
          simp only [Builtin.append_, List.getElem?_toArray, List.getElem?_cons_zero, List.getElem?_cons_succ, Sem.run_bind, run_underlying hu, Result.andThen_ok, run_sizeOf' hs, run_underlying hd,
            if_true, asInt, asIntOf, Sem.run_pure, hw, if_neg hnn, hti, if_neg hb2, Int.toNat_natCast, if_pos hfit, Bool.not_true, Bool.false_eq_true, if_false, if_neg hz, h2, h5, hst]
    | _ => simp [isIntD] at h0

end Go.Fm

namespace Go.Fm

variable {P : Program} {F : Nat → Nat → Prop} {w0 w : World} {j : Inj} {h : AHeap} {ρ : Operand → Option Value} {ρ' : Operand → Value}

/-- the machine's append: into a new array -/
theorem run_append_new {t ty xt el : TypeId} {i : TypeInfo} (hu : P.underlying t = some (.slice el)) (hi : P.info? el = some i) {base : Option Addr} {len cap n : Nat} {x' : Value}
    {new' old' : List Value} (hT : ∀ k, Taken P { w with drawn := w.drawn + k } el xt i.size n x' new') (hbig : cap < len + n) (hlc : len ≤ cap) (hb : (len + n) * i.bytes ≤ 2 ^ 46) (hmax : len + n < 2 ^ 60)
    {z : Value} (hz : ∀ w, (zeroValue el).run P w = .ok z w) (hzs : z.cells.size = i.size)
    (hold : (Builtin.firstCells i.size len (.slice base len cap)).run P { w with drawn := w.drawn + 1 } = .ok old'.toArray { w with drawn := w.drawn + 1 }) :
    ∃ (q : Nat) (rest : List Value), len + n ≤ q ∧ rest.length = (q - (len + n)) * i.size ∧
      (Builtin.append_ #[t, xt] ty #[.slice base len cap, x']).run P w =
        .ok (.slice (some ⟨w.heap.size, 0, none⟩) (len + n) q) { w with heap := w.heap.push (.cells (old' ++ new' ++ rest).toArray el), drawn := w.drawn + 1 } := by
  have hs : aSize P el = some i.size := by simp [aSize, hi]
  have hti : ∀ w, (typeInfo el).run P w = .ok i w := fun w => by simp [typeInfo, hi]
  obtain ⟨q, hq⟩ : ∃ q, q = (Question.appendCap (len + n) cap el).cut (w.tape w.drawn (.appendCap (len + n) cap el)) := ⟨_, rfl⟩
  have hqge : len + n ≤ q := by rw [hq]; simp [Question.cut]
  refine ⟨q, (Builtin.zeroCells z.cells (q - (len + n))).toList, hqge, by simp [Builtin.zeroCells, hzs], ?_⟩
  have hch : (choose (.appendCap (len + n) cap el)).run P w = .ok q { w with drawn := w.drawn + 1 } := by
    rw [hq]; simp [choose, Sem.run, Question.forced]
  have hfit : ¬ (len + n ≤ cap) := by omega
  have hmx : ∀ (p : Prop), ¬ (((len + n : Nat) : Int) > IntKind.i64.max ∧ p) := by
    intro p hp
    have : IntKind.i64.max = 9223372036854775807 := by decide
    have := hp.1
    omega
  have hnc : ¬ (Builtin.nextslicecap (len + n) cap * i.bytes > 2 ^ 48) := by
    have h1 := nextslicecap_le hbig
    have h2 : Builtin.nextslicecap (len + n) cap * i.bytes ≤ 2 * (len + n) * i.bytes := Nat.mul_le_mul_right _ h1
    rw [Nat.mul_assoc] at h2
    omega
  have hroom : ∀ (m : Nat) (w : World), (askRoom m).run P w = .ok () w := by
    intro m w; unfold askRoom; split
    · simp [mark, Sem.run]
    · simp
  have hT0 := hT 0
  obtain ⟨d, hd, hcase⟩ := hT0
  obtain ⟨d1, hd1, hcase1⟩ := hT 1
  rw [hd] at hd1; injection hd1 with hd1; subst hd1
  simp only [Nat.add_zero] at hcase
  have harr : old'.toArray ++ new'.toArray ++ Builtin.zeroCells z.cells (q - (len + n)) = (old' ++ new' ++ (Builtin.zeroCells z.cells (q - (len + n))).toList).toArray := by
    apply Array.ext'; simp
  rcases hcase with ⟨h0, h1, _⟩ | ⟨h0, k, z1, hx, hn, _⟩
  · rcases hcase1 with ⟨_, _, h2⟩ | ⟨hbad, _⟩
    · have hd0 : d ≠ .int .i8 := by intro e; subst e; simp [isIntD] at h0
      cases d with
      | int k => simp [isIntD] at h0
      | _ =>
        simp only [Builtin.append_, List.getElem?_toArray, List.getElem?_cons_zero, List.getElem?_cons_succ, Sem.run_bind, run_underlying hu, Result.andThen_ok, run_sizeOf' hs, run_underlying hd, Sem.run_pure, h1,
          Bool.false_eq_true, if_false, if_neg hfit, hti, if_neg (hmx _), if_neg hnc, hch, hroom, hold, Bool.not_false, if_true, h2, hz, harr, run_newRow]
    · rw [h0] at hbad; simp at hbad
  · rcases hcase1 with ⟨hbad, _⟩ | ⟨_, k', z', hx', hn', h2, h3, h4, h5⟩
    · rw [h0] at hbad; simp at hbad
    · subst hx
      have hzz : z' = z := by have := (h2 w).symm.trans (hz w); injection this
      subst hzz
      have hw : IntKind.i64.wrap (n : Int) = n := by simp [IntKind.wrap, IntKind.bits, IntKind.signed]; omega
      have hnn : ¬ ((n : Int) < 0) := by omega
      have hb2 : ¬ ((n : Int) * i.bytes > 2 ^ 48) := by
        have : (n : Int) * i.bytes ≤ ((len + n : Nat) : Int) * i.bytes := Int.mul_le_mul_of_nonneg_right (by omega) (by omega)
        have h3 : (((len + n) * i.bytes : Nat) : Int) ≤ 2 ^ 46 := by exact_mod_cast hb
        push_cast at h3
        push_cast at this
        omega
      cases d with
      | int kk =>
        by_cases hz0 : n * i.size = 0
        · have hnew := h4 hz0
          subst hnew
          simp only [Builtin.append_, List.getElem?_toArray, List.getElem?_cons_zero, List.getElem?_cons_succ, Sem.run_bind, run_underlying hu, Result.andThen_ok, run_sizeOf' hs, run_underlying hd,
            if_true, asInt, asIntOf, Sem.run_pure, hw, if_neg hnn, hti, if_neg hb2, Int.toNat_natCast, if_neg hfit, if_neg (hmx _), if_neg hnc, hch, hroom, hold, Bool.not_true, Bool.false_eq_true, if_false, if_pos hz0, hz, harr, run_newRow]
        · simp only [Builtin.append_, List.getElem?_toArray, List.getElem?_cons_zero, List.getElem?_cons_succ, Sem.run_bind, run_underlying hu, Result.andThen_ok, run_sizeOf' hs, run_underlying hd,
            if_true, asInt, asIntOf, Sem.run_pure, hw, if_neg hnn, hti, if_neg hb2, Int.toNat_natCast, if_neg hfit, if_neg (hmx _), if_neg hnc, hch, hroom, hold, Bool.not_true, Bool.false_eq_true, if_false, if_neg hz0, h2, h5, harr, run_newRow]
      | _ => simp [isIntD] at h0

theorem Taken.tape {el xt : TypeId} {size n : Nat} {x x' : Value} {new : List Value} (S : Sim F w0 j h w) (hx : VR j x x') (e : aNew P el size xt x h = some (n, new)) :
    ∃ new', LR j new new' ∧ ∀ k, Taken P { w with drawn := w.drawn + k } el xt size n x' new' := by
  obtain ⟨new', h1, h2⟩ := aNew_sim (P := P) S hx e
  refine ⟨new', h1, fun k => ?_⟩
  obtain ⟨d, hd, hcase⟩ := h2
  refine ⟨d, hd, ?_⟩
  rcases hcase with ⟨a, b, c⟩ | ⟨a, b⟩
  · obtain ⟨new2, g1, g2⟩ := aNew_sim (P := P) (S.heap_eq (w' := { w with drawn := w.drawn + k }) ⟨rfl, rfl, rfl⟩ rfl) hx e
    obtain ⟨d2, hd2, hcase2⟩ := g2
    rw [hd] at hd2; injection hd2 with hd2; subst hd2
    rcases hcase2 with ⟨_, b2, c2⟩ | ⟨a2, _⟩
    · refine .inl ⟨a, b2, ?_⟩
      -- the same cells: what is read hangs on the heap alone
      have hsame : (Builtin.firstCells size n x').run P { w with drawn := w.drawn + k } = .ok new'.toArray { w with drawn := w.drawn + k } := by
        have key : ∀ (ad : Addr) (m : Nat) (l : Array Value), (loadCells ad m).run P w = .ok l w → (loadCells ad m).run P { w with drawn := w.drawn + k } = .ok l { w with drawn := w.drawn + k } := by
          intro ad m l hl
          have gen : ∀ (m i : Nat) (acc l : Array Value), (loadCellsFrom ad i m acc).run P w = .ok l w → (loadCellsFrom ad i m acc).run P { w with drawn := w.drawn + k } = .ok l { w with drawn := w.drawn + k } := by
            intro m; induction m with
            | zero => intro i acc l hl; simp [loadCellsFrom] at hl ⊢; exact hl
            | succ m ih =>
              intro i acc l hl
              simp only [loadCellsFrom, Sem.run_bind, run_load] at hl ⊢
              have hc : ({ w with drawn := w.drawn + k } : World).cell? (ad.add i) = w.cell? (ad.add i) := rfl
              rw [hc]
              cases hcc : w.cell? (ad.add i) with
              | some v => rw [hcc] at hl; simp only [Result.andThen_ok] at hl ⊢; exact ih _ _ _ hl
              | none =>
                rw [hcc] at hl
                have hfar : ({ w with drawn := w.drawn + k } : World).farLoad P (ad.add i) (Mode.plain == Mode.atomic) = w.farLoad P (ad.add i) (Mode.plain == Mode.atomic) := rfl
                rw [hfar]
                revert hl
                cases w.farLoad P (ad.add i) (Mode.plain == Mode.atomic) with
                | ok p => intro hl; simp only [Result.andThen_ok] at hl ⊢; exact ih _ _ _ hl
                | error e => intro hl; simp [Result.andThen] at hl
          exact gen m 0 #[] l hl
        revert c
        cases x' with
        | slice a0 l0 c0 =>
          cases a0 with
          | none => intro c; simpa [Builtin.firstCells] using c
          | some ad => intro c; exact key ad _ _ c
        | string s => intro c; simp [Builtin.firstCells] at c ⊢; exact c
        | _ => intro c; simp [Builtin.firstCells, stuck] at c
      exact hsame
    · rw [a] at a2; simp at a2
  · exact .inr ⟨a, b⟩

end Go.Fm

namespace Go.Fm

variable {P : Program} {F : Nat → Nat → Prop} {w0 w : World} {j : Inj} {h : AHeap}

theorem Sim.set_unmapped (S : Sim F w0 j h w) {b : Nat} (hj : j b = none) (o : AObj) : Sim F w0 j (h.set b o) w := by
  have hget : ∀ b' L', j b' = some L' → (h.set b o)[b']? = h[b']? := by
    intro b' L' e
    rw [List.getElem?_set]
    have : b ≠ b' := by intro hh; subst hh; rw [hj] at e; simp at e
    simp [this]
  refine ⟨S.io, S.size, S.kept, S.below, ?_, ?_, ?_, ?_⟩
  · intro b' L' e; simp; exact S.dom _ _ e
  · intro b' L' e; rw [hget b' L' e]; exact S.obj _ _ e
  · intro b' L' e; rw [hget b' L' e]; exact S.own _ _ e
  · intro b1 b2 L1 L2 hne e1 e2; rw [hget b1 L1 e1, hget b2 L2 e2]; exact S.apart b1 b2 L1 L2 hne e1 e2

theorem Sim.kill_any (S : Sim F w0 j h w) {b : Nat} {mk : List Value → AObj} (hm : CellsLike mk) {c : List Value} (hc : h[b]? = some (mk c)) : Sim F w0 j (h.set b .dead) w := by
  cases hj : j b with
  | none => exact S.set_unmapped hj _
  | some L => exact S.kill hj hm hc

/-- how an append's new cells may be known -/
def NewLike (el : TypeId) (mk : List Value → AObj) : Prop := (mk = fun c => .cells c false) ∨ ∃ z, mk = fun c => .tcells c el z

theorem Makes.sim {w' : World} {ob : AObj} {r r' : Value} (S : Sim F w0 j h w) (hm : Makes j w w' h.length ob r r') :
    ∃ j', j.ext h.length j' ∧ VR j' r r' ∧ Sim F w0 j' (h ++ [ob]) w' := by
  obtain ⟨hio, L, x, h1, h2, h3, h4⟩ := hm
  have hle : j.le (j.put h.length L) := Inj.put_le S.fresh
  exact ⟨j.put h.length L, Inj.put_ext S.fresh (Nat.le_refl _), h4 _ hle (Inj.put_same _ _ _), S.new h2 ob hio h1 (h3 _ hle)⟩

theorem aCells_length {a : Addr} {n : Nat} {l : List Value} (e : aCells h a n = some l) : l.length = n := by
  unfold aCells at e
  split at e
  · simp at e
  · split at e
    · split at e
      · simp at e; subst e; simp; omega
      · simp at e
    · split at e
      · simp at e; subst e; simp; omega
      · simp at e
    · simp at e

/-- a new array stands for the appended slice -/
theorem append_makes {el : TypeId} {i : TypeInfo} {mk : List Value → AObj} (hmk : NewLike el mk) {old new old' new' rest : List Value} (ho : LR j old old') (hn : LR j new new') {need q : Nat}
    (hq : need ≤ q) (hrest : rest.length = (q - need) * i.size) (hlen : (old ++ new).length = need * i.size) :
    Makes j w { w with heap := w.heap.push (.cells (old' ++ new' ++ rest).toArray el), drawn := w.drawn + 1 } h.length (mk (old ++ new))
      (.slice (some ⟨h.length, 0, some i.size⟩) need need) (.slice (some ⟨w.heap.size, 0, none⟩) need q) := by
  rcases hmk with rfl | ⟨z, rfl⟩
  refine makes_cells (c' := old' ++ new') (tail := rest) (esz := i.size) (extra := q - need) (ho.app hn) hrest (by exact ⟨rfl, rfl, rfl⟩) rfl (fun o _ => by simp) (fun j' L hj e hL => ?_)
  rotate_left
  refine makes_tcells (c' := old' ++ new') (tail := rest) (esz := i.size) (extra := q - need) (ho.app hn) hrest (by exact ⟨rfl, rfl, rfl⟩) rfl (by cases z <;> simp [fzOk]) (fun j' L hj e hL => ?_)
  all_goals subst hL
  all_goals
    have := VR.oslice (j := j') (o := 0) (e := i.size) need need e rfl (by simp at hlen; simp; omega)
    simpa [show need + (q - need) = q by omega] using this

section
variable {t xt ty el : TypeId} {i : TypeInfo} {len cap n : Nat} {x' : Value} {new new' : List Value}

/-- what a growing append knows -/
structure Grows (P : Program) (w : World) (t xt el : TypeId) (i : TypeInfo) (len n : Nat) (x' : Value) (new' : List Value) : Prop where
  hu : P.underlying t = some (.slice el)
  hi : P.info? el = some i
  hT : ∀ k, Taken P { w with drawn := w.drawn + k } el xt i.size n x' new'
  hb : (len + n) * i.bytes ≤ 2 ^ 46
  hmax : len + n < 2 ^ 60
  hz : ∃ z, (∀ w, (zeroValue el).run P w = .ok z w) ∧ z.cells.size = i.size

theorem grow_new (S : Sim F w0 j h w) {mk : List Value → AObj} (hmk : NewLike el mk) (G : Grows P w t xt el i len n x' new') (hln : LR j new new') (hnl : new.length = n * i.size) {base : Option Addr} {cap : Nat} (hbig : cap < len + n) (hlc : len ≤ cap)
    {old old' : List Value} (ho : LR j old old') (hol : old.length = len * i.size)
    (hold : (Builtin.firstCells i.size len (.slice base len cap)).run P { w with drawn := w.drawn + 1 } = .ok old'.toArray { w with drawn := w.drawn + 1 }) :
    ∃ j' r' w', j.ext h.length j' ∧ VR j' (.slice (some ⟨h.length, 0, some i.size⟩) (len + n) (len + n)) r' ∧ (Builtin.append_ #[t, xt] ty #[.slice base len cap, x']).run P w = .ok r' w' ∧
      Sim F w0 j' (h ++ [mk (old ++ new)]) w' := by
  obtain ⟨z, hzr, hzs⟩ := G.hz
  obtain ⟨q, rest, q1, q2, q3⟩ := run_append_new (ty := ty) (old' := old') G.hu G.hi G.hT hbig hlc G.hb G.hmax hzr hzs hold
  have hm := append_makes (w := w) (h := h) (el := el) (i := i) hmk ho hln q1 q2 (by simp only [List.length_append, hol, hnl, Nat.add_mul])
  obtain ⟨j', g1, g2, g3⟩ := Makes.sim S hm
  exact ⟨j', _, _, g1, g2, q3, g3⟩

/-- how an append within a block's spare room may be known, before and behind -/
def InLike (el : TypeId) (o m : Nat) (mk mk' : List Value → AObj) : Prop :=
  ((mk = fun c => .cells c false) ∧ mk' = fun c => .cells c false) ∨ (∃ t z, (mk = fun c => .tcells c t z) ∧ z.getD 0 ≤ o ∧ mk' = fun c => .cells c false) ∨
    ∃ z, (mk = fun c => .tcells c el z) ∧ o = 0 ∧ z.getD 0 ≤ m ∧ mk' = fun c => .tcells c el z

theorem InLike.cells {o m : Nat} {mk mk' : List Value → AObj} (hI : InLike el o m mk mk') : CellsLike mk := by
  rcases hI with ⟨rfl, rfl⟩ | ⟨t, z, rfl, _, rfl⟩ | ⟨z, rfl, _, _, rfl⟩
  · exact .inl rfl
  · exact .inr ⟨t, z, rfl⟩
  · exact .inr ⟨el, z, rfl⟩

theorem InLike.newLike {o m : Nat} {mk mk' : List Value → AObj} (hI : InLike el o m mk mk') : NewLike el mk' := by
  rcases hI with ⟨rfl, rfl⟩ | ⟨t, z, rfl, _, rfl⟩ | ⟨z, rfl, _, _, rfl⟩
  · exact .inl rfl
  · exact .inl rfl
  · exact .inr ⟨z, rfl⟩

theorem InLike.obj {o m : Nat} {mk mk' : List Value → AObj} (hI : InLike el o m mk mk') {c : List Value} {L : Loc} (h : ObjR j L w (some (mk c))) :
    ∃ d T f, w.heap[L.blk]? = some (.cells d T f) ∧ c.length = L.size ∧ L.off + L.ext ≤ d.size ∧ LR j c ((d.toList.drop L.off).take L.size) ∧
      (∀ p, L.off + o + m ≤ p → p < L.off + L.ext → (f.1 ≤ p && p < f.2) = false) ∧
      (∀ (L' : Loc) (j' : Inj) (c' : List Value) (w' : World) (d' : Array Value), L'.blk = L.blk → L'.off = L.off + o → L'.off + L'.ext = L.off + L.ext → w'.heap[L.blk]? = some (.cells d' T f) → d'.size = d.size → c'.length = L'.size →
        LR j' c' ((d'.toList.drop L'.off).take L'.size) → ObjR j' L' w' (some (mk' c'))) ∧
      ∀ (L' : Loc) (c' : List Value), L'.blk = L.blk → L'.off = L.off + o → L'.off + L'.ext = L.off + L.ext → ∀ B p, owns L' (some (mk' c')) B p → owns L (some (mk c)) B p := by
  rcases hI with ⟨rfl, rfl⟩ | ⟨t, z, rfl, hz, rfl⟩ | ⟨z, rfl, ho, hz, rfl⟩
  · obtain ⟨d, T, f, h1, h2, h3, h4, h5, h6⟩ := h
    refine ⟨d, T, f, h1, h2, h3, h4, fun p hp hp' => h5 rfl p (by omega) hp', ?_, ?_⟩
    · intro L' j' c' w' d' e1 e2 e3 k1 k2 k3 k4
      exact ⟨d', T, f, by rw [e1]; exact k1, k3, by omega, k4, fun _ p hp hp' => h5 rfl p (by omega) (by omega), by simp⟩
    · intro L' c' e1 e2 e3 B p hp
      exact ⟨hp.1.trans e1, by have := hp.2.1; omega, by have := hp.2.2; omega⟩
  · obtain ⟨d, f, h1, h2, h3, h4, h5, h6, h7⟩ := h
    refine ⟨d, t, f, h1, h2, h3, h4, fun p hp hp' => h5.free (by omega) (by omega), ?_, ?_⟩
    · intro L' j' c' w' d' e1 e2 e3 k1 k2 k3 k4
      exact ⟨d', t, f, by rw [e1]; exact k1, k3, by omega, k4, fun _ p hp hp' => h5.free (by omega) (by omega), by simp⟩
    · intro L' c' e1 e2 e3 B p hp
      exact hp.1.trans e1
  · obtain ⟨d, f, h1, h2, h3, h4, h5, h6, h7⟩ := h
    refine ⟨d, el, f, h1, h2, h3, h4, fun p hp hp' => h5.free (by omega) (by omega), ?_, ?_⟩
    · intro L' j' c' w' d' e1 e2 e3 k1 k2 k3 k4
      exact ⟨d', f, by rw [e1]; exact k1, k3, by omega, k4, by rw [k2]; exact h5, by omega, by omega⟩
    · intro L' c' e1 e2 e3 B p hp
      exact Eq.trans hp e1

theorem grow_in (S : Sim F w0 j h w) {mk mk' : List Value → AObj} (G : Grows P w t xt el i len n x' new') (hln : LR j new new') (hnl : new.length = n * i.size) (hcell : new.all Value.isCell = true)
    {b o : Nat} {L : Loc} (hj : j b = some L) (he : i.size = L.esz) (ho : o + cap * i.size = L.size) {c : List Value} (hI : InLike el o (len * i.size) mk mk') (hc : h[b]? = some (mk c)) (hoc : o + len * i.size ≤ c.length)
    (_hbig : cap < len + n) (_hlc : len ≤ cap) (hin : len + n ≤ cap + L.extra) :
    ∃ j' r' w', j.ext h.length j' ∧ VR j' (.slice (some ⟨h.length, 0, some i.size⟩) (len + n) (len + n)) r' ∧
      (Builtin.append_ #[t, xt] ty #[.slice (some ⟨L.blk, L.off + o, none⟩) len (cap + L.extra), x']).run P w = .ok r' w' ∧
      Sim F w0 j' (h.set b .dead ++ [mk' ((c.drop o).take (len * i.size) ++ new)]) w' := by
  have hblt : b < h.length := (List.getElem?_eq_some_iff.1 hc).1
  have hlset : (h.set b AObj.dead).length = h.length := by simp
  have holdlen : ((c.drop o).take (len * i.size)).length = len * i.size := by simp; omega
  have hnl' : new'.length = n * i.size := by rw [← hln.length]; exact hnl
  have hobj := S.obj _ _ hj
  rw [hc] at hobj
  obtain ⟨d, T, f, hb1, hl1, hd1, hr1, hfz, hmkobj, hmkown⟩ := hI.obj hobj
  have hext : L.ext = L.size + L.extra * i.size := by unfold Loc.ext; rw [he]
  have hneed : o + (len + n) * i.size ≤ L.ext := by
    have : (len + n) * i.size ≤ (cap + L.extra) * i.size := Nat.mul_le_mul_right _ hin
    rw [Nat.add_mul] at this
    rw [hext]; rw [Nat.add_mul] at this ⊢; omega
  have hsum : (len + n) * i.size = len * i.size + n * i.size := Nat.add_mul _ _ _
  have hrun := run_storeCells_cells (P := P) L.blk (L.off + o + len * i.size) new' 0 w
    (fun k hk => by rw [World.cell?_of hb1]; simp; omega)
    (fun k hk => by
      have := hfz (L.off + o + len * i.size + 0 + k) (by omega) (by omega)
      simp only [World.frozen?, hb1]; exact this)
    (fun v hv => by
      obtain ⟨k, hk⟩ := List.getElem?_of_mem hv
      have hlt : k < new.length := by rw [hln.length]; exact (List.getElem?_eq_some_iff.1 hk).1
      have hrel := hln.rel k _ _ (List.getElem?_eq_getElem hlt) hk
      refine isCell_oneCell ?_
      rw [hrel.isCell]
      exact (List.all_eq_true.1 hcell) _ (List.getElem_mem hlt))
  obtain ⟨d', k1, k2, k3⟩ := heap_setCells_same L.blk T f new' (L.off + o + len * i.size + 0) w d hb1
  have hcur := S.wipe hj hI.cells hc hb1 k1 (io_setCells _ _ _ _) k2 (heap_setCells_size _ _ _ _) (fun B hB => heap_setCells_other _ _ _ _ _ hB) (fun p hp => by
    rw [k3, if_neg (by omega)])
  obtain ⟨L', hL'⟩ : ∃ L' : Loc, L' = { blk := L.blk, off := L.off + o, size := (len + n) * i.size, esz := i.size, extra := cap + L.extra - (len + n) } := ⟨_, rfl⟩
  have hL1 : L'.blk = L.blk := by rw [hL']
  have hL2 : L'.off = L.off + o := by rw [hL']
  have hL3 : L'.size = (len + n) * i.size := by rw [hL']
  have hL4 : L'.esz = i.size := by rw [hL']
  have hL5 : L'.extra = cap + L.extra - (len + n) := by rw [hL']
  have hL'ext : L'.off + L'.ext = L.off + L.ext := by
    unfold Loc.ext
    rw [hL2, hL3, hL4, hL5, ← he]
    have h1 : (len + n) * i.size + (cap + L.extra - (len + n)) * i.size = (cap + L.extra) * i.size := by rw [← Nat.add_mul]; congr 1; omega
    have h2 : (cap + L.extra) * i.size = cap * i.size + L.extra * i.size := Nat.add_mul _ _ _
    omega
  have hclaim := hcur.claim (L := L') (mk' ((c.drop o).take (len * i.size) ++ new)) (by
      refine hmkobj L' _ _ _ d' hL1 hL2 hL'ext k1 k2 (by rw [List.length_append, holdlen, hnl, hL3, hsum]) ?_
      · have hle : j.le (j.put (h.set b AObj.dead).length L') := Inj.put_le (by rw [hlset]; exact S.fresh)
        refine LR.of_get (by rw [List.length_append, holdlen, hnl, hL2, hL3, hsum]; simp; omega) ?_
        intro k v v' ev ev'
        simp only [hL2, hL3, List.getElem?_take, List.getElem?_drop] at ev'
        split at ev'
        · rename_i hk
          have ev'' : d'[L.off + o + k]? = some v' := by simpa using ev'
          rw [k3] at ev''
          by_cases hk2 : k < len * i.size
          · rw [List.getElem?_append_left (by omega)] at ev
            rw [if_neg (by omega)] at ev''
            simp only [List.getElem?_take, List.getElem?_drop, hk2, if_true] at ev
            obtain ⟨u, u1, u2⟩ := LR.slot hr1 (o + k) v ev
            have : d[L.off + o + k]? = some u := by simpa [Nat.add_assoc] using u1
            rw [this] at ev''; injection ev'' with ev''; subst ev''
            exact u2.mono hle
          · rw [List.getElem?_append_right (by omega), holdlen] at ev
            have hkn : k - len * i.size < n * i.size := by omega
            rw [if_pos ⟨by omega, by omega, by omega⟩] at ev''
            rw [show L.off + o + k - (L.off + o + len * i.size + 0) = k - len * i.size by omega] at ev''
            exact (hln.rel _ _ _ ev ev'').mono hle
        · simp at ev')
    (by
      intro _ B p hp hF
      exact S.own b L hj (by rw [hc]; exact hI.cells.rw c) B p (by rw [hc]; exact hmkown L' _ hL1 hL2 hL'ext B p hp) hF)
    (by
      intro b' M hM _ B p hp hp'
      by_cases hbb : b' = b
      · subst hbb; simp [owns, hblt] at hp'
      · rw [List.get_set h b hblt, if_neg hbb] at hp'
        exact S.apart b b' L M (Ne.symm hbb) hj hM (by rw [hc]; exact hI.cells.rw c) B p (by rw [hc]; exact hmkown L' _ hL1 hL2 hL'ext B p hp) hp')
  rw [hlset] at hclaim
  refine ⟨j.put h.length L', .slice (some ⟨L.blk, L.off + o, none⟩) (len + n) (cap + L.extra), _, Inj.put_ext S.fresh (Nat.le_refl _), ?_, ?_, hclaim⟩
  · have := VR.oslice (j := j.put h.length L') (o := 0) (e := i.size) (len + n) (len + n) (Inj.put_same _ _ _) hL4.symm (by rw [hL3]; omega)
    have h2 : len + n + L'.extra = cap + L.extra := by rw [hL5]; omega
    rw [h2, hL1, hL2] at this
    exact this
  · have hT0 : Taken P w el xt i.size n x' new' := by simpa using G.hT 0
    refine run_append_in G.hu G.hi hT0 ?_ hin ?_
    · have h1 : n * i.bytes ≤ (len + n) * i.bytes := Nat.mul_le_mul_right _ (by omega)
      have hbb := G.hb
      have : ((n * i.bytes : Nat) : Int) ≤ 2 ^ 48 := by
        have : n * i.bytes ≤ 2 ^ 48 := by omega
        exact_mod_cast this
      push_cast at this; exact this
    · simp only [Addr.add_none]; exact hrun

theorem aGrow_sim (S : Sim F w0 j h w) (G : Grows P w t xt el i len n x' new') (hln : LR j new new') (hnl : new.length = n * i.size) (hcell : new.all Value.isCell = true)
    {base : Option Addr} {s' r : Value} (hs : VR j (.slice base len cap) s') (hbig : cap < len + n) (hlc : len ≤ cap) {h' : AHeap} (e : aGrow el i.size base len n new h = some (r, h')) :
    ∃ j' r' w', j.ext h.length j' ∧ VR j' r r' ∧ (Builtin.append_ #[t, xt] ty #[s', x']).run P w = .ok r' w' ∧ Sim F w0 j' h' w' := by
  unfold aGrow at e
  have hf0 : ∀ (b : Option Addr) (cap : Nat), (Builtin.firstCells i.size 0 (.slice b 0 cap)).run P { w with drawn := w.drawn + 1 } = .ok ([] : List Value).toArray { w with drawn := w.drawn + 1 } := by
    intro b cap; cases b <;> simp [Builtin.firstCells, loadCells, loadCellsFrom]
  split at e
  · split at e
    · rename_i hl0
      simp at e
      obtain ⟨e1, e2⟩ := e; subst e1 e2; subst hl0
      cases hs
      have := grow_new (ty := ty) S (.inr ⟨some 0, rfl⟩) G hln hnl hbig hlc .nil (by simp) (hf0 none cap)
      simpa using this
    · simp at e
  · rename_i b o
    split at e
    · rename_i hl0
      simp at e
      obtain ⟨e1, e2⟩ := e; subst e1 e2; subst hl0
      cases hs with
      | slice _ _ hj =>
        rename_i L
        have := grow_new (ty := ty) S (.inr ⟨some 0, rfl⟩) G hln hnl hbig hlc .nil (by simp) (hf0 (some ⟨L.blk, L.off + o, none⟩) cap)
        simpa using this
      | slice0 a a' =>
        have := grow_new (ty := ty) S (.inr ⟨some 0, rfl⟩) G hln hnl hbig hlc .nil (by simp) (hf0 (some a') 0)
        simpa using this
    · rename_i hl0
      cases hold : aCells h ⟨b, o, none⟩ (len * i.size) with
      | none => rw [hold] at e; simp at e
      | some old =>
        rw [hold] at e; simp at e
        obtain ⟨e1, e2⟩ := e; subst e1 e2
        cases hs with
        | slice _ _ hj =>
          obtain ⟨old', k1, k2⟩ := aCells_sim (P := P) (S.heap_eq (w' := { w with drawn := w.drawn + 1 }) (by exact ⟨rfl, rfl, rfl⟩) rfl) (a := ⟨b, o, none⟩) hj hold
          exact grow_new (ty := ty) S (.inr ⟨some 0, rfl⟩) G hln hnl hbig hlc k2 (aCells_length hold) k1
        | slice0 => exact absurd rfl hl0
  · rename_i b o sp
    split at e
    · simp at e
    · rename_i hsp
      have hsp : sp = i.size := by simpa using hsp
      subst hsp
      have key : ∀ {mk mk' : List Value → AObj} {c : List Value}, InLike el o (len * i.size) mk mk' → h[b]? = some (mk c) → o + len * i.size ≤ c.length →
          r = .slice (some ⟨h.length, 0, some i.size⟩) (len + n) (len + n) → h' = h.set b .dead ++ [mk' ((c.drop o).take (len * i.size) ++ new)] →
          ∃ j' r' w', j.ext h.length j' ∧ VR j' r r' ∧ (Builtin.append_ #[t, xt] ty #[s', x']).run P w = .ok r' w' ∧ Sim F w0 j' h' w' := by
        intro mk mk' c hI hc hoc e1 e2
        subst e1 e2
        have hlset : (h.set b AObj.dead).length = h.length := by simp
        have holdlen : ((c.drop o).take (len * i.size)).length = len * i.size := by simp; omega
        have Sk := S.kill_any hI.cells hc
        cases hs with
        | slice0 a a' =>
          have := grow_new (ty := ty) Sk hI.newLike G hln hnl hbig hlc .nil (by simp) (hf0 (some a') 0)
          rw [hlset] at this
          simpa using this
        | oslice _ _ hj he ho =>
          rename_i L
          by_cases hin : len + n ≤ cap + L.extra
          · exact grow_in (ty := ty) S G hln hnl hcell hj he ho hI hc hoc hbig hlc hin
          · obtain ⟨d, T, f, hb1, hl1, hd1, hr1, _⟩ := hI.cells.obj (by have := S.obj _ _ hj; rwa [hc] at this)
            have holdA : aCells h ⟨b, o, none⟩ (len * i.size) = some ((c.drop o).take (len * i.size)) := by
              rcases hI.cells with rfl | ⟨_, _, rfl⟩ <;> simp [aCells, hc, hoc]
            obtain ⟨old', k1, k2⟩ := aCells_sim (P := P) (S.heap_eq (w' := { w with drawn := w.drawn + 1 }) (by exact ⟨rfl, rfl, rfl⟩) rfl) (a := ⟨b, o, none⟩) hj holdA
            have := grow_new (ty := ty) (base := some ⟨L.blk, L.off + o, none⟩) (cap := cap + L.extra) Sk hI.newLike G hln hnl (by omega) (by omega) k2 holdlen k1
            rw [hlset] at this
            exact this
      split at e
      · rename_i c hc
        split at e
        · rename_i hoc
          simp only [Option.some.injEq, Prod.mk.injEq] at e
          exact key (.inl ⟨rfl, rfl⟩) hc hoc e.1.symm e.2.symm
        · simp at e
      · rename_i c t z hc
        split at e
        · rename_i hoc
          obtain ⟨q1, q2, q3, q4⟩ := hoc
          subst q3
          simp only [Option.some.injEq, Prod.mk.injEq] at e
          exact key (.inr (.inr ⟨z, rfl, q2, q4, rfl⟩)) hc q1 e.1.symm e.2.symm
        · split at e
          · rename_i hoc
            simp only [Option.some.injEq, Prod.mk.injEq] at e
            exact key (.inr (.inl ⟨t, z, rfl, hoc.2, rfl⟩)) hc hoc.1 e.1.symm e.2.symm
          · simp at e
      · simp at e
end

theorem aAppend_sim (S : Sim F w0 j h w) {t xt ty : TypeId} {s s' x x' r : Value} (hs : VR j s s') (hx : VR j x x') {h' : AHeap} (e : aAppend P t xt s x h = some (r, h')) :
    ∃ j' r' w', j.ext h.length j' ∧ VR j' r r' ∧ (Builtin.append_ #[t, xt] ty #[s', x']).run P w = .ok r' w' ∧ Sim F w0 j' h' w' := by
  unfold aAppend at e
  split at e
  · rename_i el base len cap hu
    split at e
    · simp at e
    · rename_i i hi
      split at e
      · simp at e
      · rename_i hcond
        have hlc : len ≤ cap := by omega
        obtain ⟨⟨n, new⟩, hnew, e⟩ := bind_some' e
        obtain ⟨new', hln, hT⟩ := Taken.tape (P := P) S hx hnew
        have hT0 : Taken P w el xt i.size n x' new' := by simpa using hT 0
        simp only at e
        split at e
        · simp at e
        · rename_i hnl
          have hnb : n * i.bytes ≤ 2 ^ 47 := by omega
          have hnl : new.length = n * i.size := by omega
          split at e
          · rename_i hfit
            have hnb' : (n : Int) * i.bytes ≤ 2 ^ 48 := by
              have : ((n * i.bytes : Nat) : Int) ≤ 2 ^ 48 := by
                have : n * i.bytes ≤ 2 ^ 48 := by omega
                exact_mod_cast this
              push_cast at this; exact this
            have hn0 : n = 0 → new' = [] := by
              intro h0
              have : new = [] := List.eq_nil_of_length_eq_zero (by rw [hnl, h0]; simp)
              subst this; cases hln; rfl
            split at e
            · simp at e
              obtain ⟨e1, e2⟩ := e; subst e1 e2
              cases hs
              exact ⟨j, _, w, j.ext_refl _, .snil _ _, run_append_in hu hi hT0 hnb' hfit rfl, S⟩
            · rename_i b o sp _
              split at e
              · rename_i hn
                simp at e
                obtain ⟨e1, e2⟩ := e; subst e1 e2
                have hnn := hn0 hn
                subst hnn; subst hn
                cases hs with
                | slice _ _ hj => exact ⟨j, _, w, j.ext_refl _, .slice _ _ hj, run_append_in hu hi hT0 hnb' hfit rfl, S⟩
                | oslice _ _ hj he ho => exact ⟨j, _, w, j.ext_refl _, .oslice _ _ hj he ho, run_append_in hu hi hT0 hnb' (by omega) rfl, S⟩
                | slice0 => exact ⟨j, _, w, j.ext_refl _, .slice0 _ _, run_append_in hu hi hT0 hnb' hfit rfl, S⟩
              · rename_i hn
                cases hst : aStore h ⟨b, o + len * i.size, none⟩ new with
                | none => rw [hst] at e; simp at e
                | some h2 =>
                  rw [hst] at e; simp at e
                  obtain ⟨e1, e2⟩ := e; subst e1 e2
                  cases hs with
                  | slice _ _ hj =>
                    obtain ⟨w', q1, q2⟩ := aStore_sim (P := P) S (a := ⟨b, o + len * i.size, none⟩) hj hln hst
                    exact ⟨j, _, w', j.ext_refl _, .slice _ _ hj, run_append_in hu hi hT0 hnb' hfit (by simp only [Addr.add_none, Nat.add_assoc]; exact q1), q2⟩
                  | oslice _ _ hj he ho =>
                    obtain ⟨w', q1, q2⟩ := aStore_sim (P := P) S (a := ⟨b, o + len * i.size, none⟩) hj hln hst
                    exact ⟨j, _, w', j.ext_refl _, .oslice _ _ hj he ho, run_append_in hu hi hT0 hnb' (by omega) (by simp only [Addr.add_none, Nat.add_assoc]; exact q1), q2⟩
                  | slice0 => omega
          · rename_i hfit
            split at e
            · rename_i hc2
              obtain ⟨hb, hmax, hz, hcell⟩ := hc2
              cases hz0 : aZero P el with
              | none => simp [hz0] at hz
              | some z =>
                simp [hz0] at hz
                exact aGrow_sim S ⟨hu, hi, hT, hb, hmax, z, fun w => (run_zero' hz0 w).1, hz⟩ hln hnl hcell hs (by omega) hlc e
            · simp at e
  · simp at e

end Go.Fm

namespace Go.Fm

variable {P : Program} {F : Nat → Nat → Prop} {w0 w : World} {j : Inj} {h : AHeap}

theorem run_loadBytes' (B : Nat) : ∀ (ns : List Int) (o : Nat) (acc : ByteArray) (w : World), (∀ i x, ns[i]? = some x → w.cell? ⟨B, o + i, none⟩ = some (.int .u8 x)) →
    (loadBytes ⟨B, o, none⟩ acc ns.length).run P w = .ok ⟨(acc.data.toList ++ ns.map fun n => UInt8.ofNat n.toNat).toArray⟩ w
  | [], o, acc, w, _ => by simp [loadBytes]
  | n :: ns, o, acc, w, h => by
    have h0 : w.cell? ⟨B, o, none⟩ = some (.int .u8 n) := by simpa using h 0 n (by simp)
    have ih := run_loadBytes' B ns (o + 1) (acc.push n.toNat.toUInt8) w (fun i x hx => by
      have := h (i + 1) x (by simpa using hx)
      rwa [show o + 1 + i = o + (i + 1) by omega])
    simp only [List.length_cons, loadBytes, Sem.run_bind, run_load, h0, Result.andThen_ok, Addr.add_none, ih]
    simp [ByteArray.push]

theorem heap_freeze {w : World} {B o n : Nat} {d : Array Value} {T : TypeId} {f : Nat × Nat} (hb : w.heap[B]? = some (.cells d T f)) (hn : n ≠ 0) :
    ∃ w' : World, w.freeze ⟨B, o, none⟩ n = w' ∧ Io w w' ∧ w'.heap.size = w.heap.size ∧ (∀ B', B' ≠ B → w'.heap[B']? = w.heap[B']?) ∧
      w'.heap[B]? = some (.cells d T (if f.1 == f.2 then (o, o + n) else (min f.1 o, max f.2 (o + n)))) := by
  refine ⟨_, rfl, ?_, ?_, ?_, ?_⟩
  · unfold World.freeze; rw [if_neg hn]; exact ⟨rfl, rfl, rfl⟩
  · unfold World.freeze; rw [if_neg hn]; simp
  · intro B' hB'
    unfold World.freeze; rw [if_neg hn]
    simp [Array.getElem?_modify, Ne.symm hB']
  · unfold World.freeze; rw [if_neg hn]
    obtain ⟨f1, f2⟩ := f
    simp [Array.getElem?_modify, hb]

theorem aUnsafeString_sim (S : Sim F w0 j h w) {pt ty : TypeId} {ts : Array TypeId} (ht : ts[0]? = some pt) {p p' n n' r : Value} (hp : VR j p p') (hn : VR j n n') {h' : AHeap}
    (e : aUnsafeString P pt p n h = some (r, h')) : VR j r r ∧ ∃ w', (Builtin.unsafeString_ ts ty #[p', n']).run P w = .ok r w' ∧ Sim F w0 j h' w' := by
  unfold aUnsafeString at e
  split at e
  · rename_i k n
    cases hn
    split at e
    · simp at e
    · rename_i hrange
      have c1 : ¬ (n < 0) := by omega
      have c2 : ¬ (n > IntKind.i64.max) := by omega
      split at e
      · rename_i u hu
        split at e
        · rename_i h0
          simp at e; obtain ⟨e1, e2⟩ := e; subst e1 e2
          cases hp
          refine ⟨.string _, w, ?_, S⟩
          delta Builtin.unsafeString_
          change Sem.run P (bind (asInt (.int k n)) _) _ = _
          simp [asInt, asIntOf, ht, h0]
        · simp at e
      · rename_i b o u hu
        split at e
        · rename_i h0
          simp at e; obtain ⟨e1, e2⟩ := e; subst e1 e2
          cases hp
          refine ⟨.string _, w, ?_, S⟩
          delta Builtin.unsafeString_
          change Sem.run P (bind (asInt (.int k n)) _) _ = _
          simp [asInt, asIntOf, ht, h0]
        · rename_i h0
          split at e
          · rename_i c t z hc
            split at e
            · rename_i hcond
              obtain ⟨hle, hlies⟩ := hcond
              cases hbs : bytesOf? ((c.drop o).take n.toNat) with
              | none => rw [hbs] at e; simp at e
              | some bs =>
                rw [hbs] at e; simp at e; obtain ⟨e1, e2⟩ := e; subst e1 e2
                cases hp with
                | ptr hj =>
                  rename_i L
                  have hob := S.obj _ _ hj
                  rw [hc] at hob
                  obtain ⟨d, f, g1, g2, g3, g4, g5, g6, g7⟩ := hob
                  obtain ⟨d2, f2, l1, l2, l3, l4, l5⟩ := tcells_lies (P := P) S hj hc hlies
                  rw [g1] at l1; injection l1 with l1; injection l1 with l1 _ l1'; subst l1 l1'
                  obtain ⟨ns, k1, k2⟩ := bytesOf_ints hbs
                  have hlen : ns.length = n.toNat := by
                    have := congrArg List.length k1; simp at this; omega
                  have hn0 : n.toNat ≠ 0 := by omega
                  have hld := run_loadBytes' (P := P) L.blk ns (L.off + o) .empty w (fun i x hx => by
                    have hi : i < ns.length := (List.getElem?_eq_some_iff.1 hx).1
                    have hci : c[o + i]? = some (.int .u8 x) := by
                      have := congrArg (fun l => l[i]?) k1
                      simp only [List.getElem?_take, List.getElem?_drop, List.getElem?_map, hx, Option.map_some] at this
                      rw [if_pos (by omega)] at this
                      exact this
                    obtain ⟨v', q1, q2⟩ := LR.slot g4 (o + i) _ hci
                    cases q2
                    rw [World.cell?_of g1]
                    simpa [Nat.add_assoc] using q1)
                  rw [hlen] at hld
                  obtain ⟨w', fz, f1, f2, f3, f4⟩ := heap_freeze (o := L.off + o) (n := n.toNat) g1 hn0
                  refine ⟨.string _, w', ?_, ?_⟩
                  · have hel : (elemOf pt).run P w = .ok u w := by simp [elemOf, run_underlying hu]
                    have hfr : (freeze ⟨L.blk, L.off + o, none⟩ n.toNat).run P w = .ok () w' := by simp [freeze, Sem.run, fz]
                    delta Builtin.unsafeString_
                    change Sem.run P (bind (asInt (.int k n)) _) _ = _
                    simp only [asInt, asIntOf, ht, Sem.run_bind, Sem.run_pure, Result.andThen_ok, if_neg c1, if_neg c2, if_neg h0, hel, l5, if_true, hld, hfr]
                    rw [k2]; rfl
                  · refine S.refz hj hc g1 f4 f1 f2 f3 ?_
                    obtain ⟨a1, a2⟩ := g5
                    rw [g6]
                    simp only [Nat.zero_add]
                    split
                    · exact ⟨by simp, Nat.le_max_right _ _⟩
                    · refine ⟨?_, ?_⟩
                      · simp only; omega
                      · show max f.2 (o + n.toNat) ≤ Nat.max z (o + n.toNat)
                        exact Nat.max_le.2 ⟨Nat.le_trans a2 (Nat.le_max_left _ _), Nat.le_max_right _ _⟩
            · simp at e
          · simp at e
      · simp at e
  · simp at e

theorem aUnsafeString_len {pt : TypeId} {p n r : Value} {h' : AHeap} (e : aUnsafeString P pt p n h = some (r, h')) : h.length ≤ h'.length := by
  unfold aUnsafeString at e
  split at e
  · split at e
    · simp at e
    · split at e
      · split at e
        · simp at e; rw [← e.2]; exact Nat.le_refl _
        · simp at e
      · split at e
        · simp at e; rw [← e.2]; exact Nat.le_refl _
        · split at e
          · split at e
            · obtain ⟨bs, _, e2⟩ := Option.map_eq_some_iff.1 e
              injection e2 with _ e2; subst e2; simp
            · simp at e
          · simp at e
      · simp at e
  · simp at e

theorem aConvMark_sim (S : Sim F w0 j h w) {src dst : TypeId} {v v' r : Value} (hv : VR j v v') {h' : AHeap} (e : aConvMark P src dst v h = some (r, h')) :
    VR j r v' ∧ ∃ w', (convert src dst v').run P w = .ok v' w' ∧ Sim F w0 j h' w' := by
  unfold aConvMark at e
  split at e
  · rename_i e0 el hs hd
    split at e
    · rename_i b o sp l c he
      split at e
      · rename_i hcond
        obtain ⟨hsd, hc0⟩ := hcond
        split at e
        · rename_i cs t z hc
          split at e
          · rename_i hz
            simp at e; obtain ⟨e1, e2⟩ := e; subst e1 e2
            refine ⟨hv, ?_⟩
            have key : ∀ (L : Loc) (q l c : Nat), j b = some L → ∃ w', (convert src dst (.slice (some ⟨L.blk, q, none⟩) l c)).run P w = .ok (.slice (some ⟨L.blk, q, none⟩) l c) w' ∧ Sim F w0 j (h.set b (.tcells cs t none)) w' := by
              intro L q l c hj
              have hob := S.obj _ _ hj
              rw [hc] at hob
              obtain ⟨d, f, g1, g2, g3, g4, g5, g6, g7⟩ := hob
              obtain ⟨w', fz, f1, f2, f3, f4⟩ := heap_freeze (o := d.size) (n := 1) g1 (by simp)
              refine ⟨w', ?_, S.refz hj hc g1 f4 f1 f2 f3 ?_⟩
              · have hm : (markStringish ⟨L.blk, q, none⟩).run P w = .ok () w' := by
                  simp [markStringish, shape, freeze, Sem.run, World.shape?, g1, fz]
                subst hsd
                rw [hs] at hd
                injection hd with hd; injection hd with hd; subst hd
                simp only [convert, Sem.run_bind, run_underlying hs, Result.andThen_ok, run_underlying he, beq_self_eq_true, hm, Sem.run_pure]
              · have hf : f = (0, 0) ∨ f = (d.size, d.size + 1) := by
                  cases z with
                  | none => exact g5
                  | some k =>
                    obtain ⟨a1, a2⟩ := g5
                    simp at hz
                    obtain ⟨f1, f2⟩ := f
                    left; simp at a1 a2 ⊢; omega
                right
                rcases hf with hf | hf <;> subst hf
                · simp
                · simp
            cases hv with
            | slice _ _ hj => exact key _ _ _ _ hj
            | oslice _ _ hj _ _ => exact key _ _ _ _ hj
            | slice0 => exact absurd rfl hc0
          · simp at e
        · simp at e
      · simp at e
    · simp at e
  · simp at e

theorem aConvMark_len {src dst : TypeId} {v r : Value} {h' : AHeap} (e : aConvMark P src dst v h = some (r, h')) : h.length ≤ h'.length := by
  unfold aConvMark at e
  split at e
  · split at e
    · split at e
      · split at e
        · split at e
          · simp at e; rw [← e.2]; simp
          · simp at e
        · simp at e
      · simp at e
    · simp at e
  · simp at e

end Go.Fm

namespace Go.Fm

variable {P : Program} {F : Nat → Nat → Prop} {w0 w : World} {j : Inj} {h : AHeap} {ρ : Operand → Option Value} {ρ' : Operand → Value}

theorem aClear_sim (S : Sim F w0 j h w) {t ty : TypeId} {ts : Array TypeId} (ht : ts[0]? = some t) {x x' : Value} (hx : VR j x x') {h' : AHeap}
    (e : aClear P t x h = some h') : ∃ w', (Builtin.clear_ ts ty #[x']).run P w = .ok undefV w' ∧ Sim F w0 j h' w' := by
  unfold aClear at e
  split at e
  · rename_i d hu
    simp at e; subst e; cases hx
    exact ⟨w, by simp [Builtin.clear_, ht, run_underlying hu, undefV], S⟩
  · rename_i d l c hu
    simp at e; subst e; cases hx
    exact ⟨w, by simp [Builtin.clear_, ht, run_underlying hu, undefV], S⟩
  · rename_i d a c hnot hu
    simp at e; subst e
    refine ⟨w, ?_, S⟩
    cases hx <;> simp [Builtin.clear_, ht, run_underlying hu, undefV]
  · rename_i d r hu
    split at e
    · rename_i es c hh
      simp at e; subst e
      cases hx with
      | map hj =>
        rename_i L
        have := S.obj _ _ hj
        rw [hh] at this
        obtain ⟨es', k1, k2, k3⟩ := this
        refine ⟨_, ?_, map_turn S hj hh k1 k3 (es2' := #[]) (c2 := c) .nil⟩
        simp only [Builtin.clear_, ht, List.getElem?_toArray, List.getElem?_cons_zero, Sem.run_bind, run_underlying hu, Result.andThen_ok, run_getObj_map k1, run_setObj' k1 (x := .map #[] c) (by intro _ _ _ h; cases h), Sem.run_pure]
        rfl
    · simp at e
  · rename_i el b o sp n cap hnot hu
    obtain ⟨z, hz, e⟩ := bind_some' e
    obtain ⟨row, hrow, e⟩ := bind_some' e
    have hz1 := run_zero' hz w
    obtain ⟨r1, r2, r3⟩ := zeroRow_flat hz1.2 hrow j
    have hzc : (Builtin.zeroCells z.cells n).toList = row := by
      have : Builtin.zeroCells z.cells n = row.toArray := by rw [← r3]; rfl
      rw [this]
    have hn0 : n ≠ 0 := by intro h0; subst h0; first | exact hnot _ _ rfl rfl | exact hnot _ _ rfl | exact hnot _ rfl | exact hnot rfl
    have fin : ∀ (a' : Addr) (c' : Nat) (w' : World), (storeCells a' row).run P w = .ok () w' → (Builtin.clear_ ts ty #[.slice (some a') n c']).run P w = .ok undefV w' := by
      intro a' c' w' hq
      cases n with
      | zero => exact absurd rfl hn0
      | succ n =>
        simp only [Builtin.clear_, ht, List.getElem?_toArray, List.getElem?_cons_zero, Sem.run_bind, run_underlying hu, Result.andThen_ok, hz1.1, hzc, hq, Sem.run_pure]
        rfl
    cases hx with
    | slice _ _ hj =>
      obtain ⟨w', q1, q2⟩ := aStore_sim (P := P) S (a := ⟨b, o, none⟩) hj r1 e
      exact ⟨w', fin _ _ _ q1, q2⟩
    | oslice _ _ hj _ _ =>
      obtain ⟨w', q1, q2⟩ := aStore_sim (P := P) S (a := ⟨b, o, none⟩) hj r1 e
      exact ⟨w', fin _ _ _ q1, q2⟩
    | slice0 => exact absurd rfl hn0
  · simp at e

theorem aRange_sim (S : Sim F w0 j h w) {t : TypeId} {x x' : Value} (hx : VR j x x') {ob : AObj} (e : aRange P t x h = some ob) :
    ∃ j' r' w', j.ext h.length j' ∧ VR j' (.pointer (some ⟨h.length, 0, none⟩)) r' ∧ (Instr.range t x').run P w = .ok r' w' ∧ Sim F w0 j' (h ++ [ob]) w' := by
  unfold aRange at e
  have hle : ∀ L, j.ext h.length (j.put h.length L) := fun L => Inj.put_ext S.fresh (Nat.le_refl _)
  split at e
  · rename_i s hu
    simp at e; subst e; cases hx
    refine ⟨_, _, _, hle ⟨w.heap.size, 0, 0, 0, 0⟩, VR.ptr (Inj.put_same _ _ _), ?_, S.new (L := ⟨w.heap.size, 0, 0, 0, 0⟩) rfl (.strIter s 0) (w' := { w with heap := w.heap.push (.stringIter s 0) }) ⟨rfl, rfl, rfl⟩ rfl ⟨rfl, by simp⟩⟩
    simp [Instr.range, run_underlying hu, newObj, Sem.run]
  · rename_i kt et hu
    simp at e; subst e; cases hx
    refine ⟨_, _, _, hle ⟨w.heap.size, 0, 0, 0, 0⟩, VR.ptr (Inj.put_same _ _ _), ?_, S.new (L := ⟨w.heap.size, 0, 0, 0, 0⟩) rfl (.mapIter none 0 [] 0) (w' := { w with heap := w.heap.push (.mapIter none 0 #[] 0) }) ⟨rfl, rfl, rfl⟩ rfl ⟨rfl, none, by simp, .inl ⟨rfl, rfl⟩⟩⟩
    simp [Instr.range, run_underlying hu, newObj, Sem.run]
  · rename_i kt et m hu
    split at e
    · rename_i es c hh
      simp at e; subst e
      cases hx with
      | map hj =>
        rename_i L
        have := S.obj _ _ hj
        rw [hh] at this
        obtain ⟨es', k1, k2, k3⟩ := this
        refine ⟨_, _, _, hle ⟨w.heap.size, 0, 0, 0, 0⟩, VR.ptr (Inj.put_same _ _ _), ?_, S.new (L := ⟨w.heap.size, 0, 0, 0, 0⟩) rfl (.mapIter (some m) c [] c) (w' := { w with heap := w.heap.push (.mapIter (some L.blk) c #[] c) }) ⟨rfl, rfl, rfl⟩ rfl
          ⟨rfl, some L.blk, by simp, .inr ⟨m, L, rfl, (hle _).1 _ _ hj, rfl⟩⟩⟩
        simp only [Instr.range, Sem.run_bind, run_underlying hu, Result.andThen_ok, run_getObj_map k1, Sem.run_pure]
        simp [newObj, Sem.run]
    · simp at e
  · simp at e

theorem obj_turn (S : Sim F w0 j h w) {r : Nat} {L : Loc} {o o' : AObj} {x x' : Obj} (hj : j r = some L) (hh : h[r]? = some o) (hw : w.heap[L.blk]? = some x)
    (hrw : isRw (some o)) (hrw' : isRw (some o')) (hown : ∀ B y, owns L (some o) B y ↔ B = L.blk) (hown' : ∀ B y, owns L (some o') B y ↔ B = L.blk)
    (ho : ∀ w' : World, w'.heap[L.blk]? = some x' → ObjR j L w' (some o')) (hnt : ∀ c t z, o ≠ .tcells c t z := by intro _ _ _ h; cases h) : Sim F w0 j (h.set r o') { w with heap := w.heap.setIfInBounds L.blk x' } := by
  have hlt : L.blk < w.heap.size := (Array.getElem?_eq_some_iff.1 hw).1
  obtain ⟨k1, k2, k3⟩ := heap_set (w := w) (x := x') hlt
  exact S.object hj hh hrw hrw' hown hown' ⟨rfl, rfl, rfl⟩ k1 k3 (ho _ k2) hnt

theorem run_getObj' {w : World} {r : Nat} {x : Obj} (h : w.heap[r]? = some x) (hn : ∀ d T f, x ≠ .cells d T f) : (getObj r).run P w = .ok x w := by
  cases x <;> simp [getObj, Sem.run, h] <;> (exact absurd rfl (hn _ _ _))

theorem aNextStr_sim (S : Sim F w0 j h w) {ty : TypeId} {it it' r : Value} (hi : VR j it it') {h' : AHeap} (e : aNextStr it h = some (r, h')) :
    VR j r r ∧ ∃ w', (Instr.next it' true ty).run P w = .ok r w' ∧ Sim F w0 j h' w' := by
  unfold aNextStr at e
  split at e
  · rename_i b
    cases hi with
    | ptr hj =>
      rename_i L
      split at e
      · rename_i s pos hh
        have := S.obj _ _ hj
        rw [hh] at this
        obtain ⟨k0, k1⟩ := this
        have hg := run_getObj' (P := P) k1 (by intro _ _ _ h; cases h)
        split at e
        · rename_i hpos
          simp at e
          obtain ⟨e1, e2⟩ := e; subst e1 e2
          refine ⟨VR.tuple' (.cons (.bool _) (.cons (.int _ _) (.cons (.int _ _) .nil))), _, ?_,
            obj_turn S hj hh k1 (o' := .strIter s (pos + (Utf8.decode s pos).2)) (x' := .stringIter s (pos + (Utf8.decode s pos).2)) trivial trivial (fun _ _ => Iff.rfl) (fun _ _ => Iff.rfl) (fun w' hw => ⟨k0, hw⟩)⟩
          simp only [Instr.next, k0, Nat.add_zero, Sem.run_bind, hg, Result.andThen_ok, if_pos hpos, run_setObj' k1 (x := .stringIter s (pos + (Utf8.decode s pos).2)) (by intro _ _ _ h; cases h), Sem.run_pure]
        · rename_i hpos
          simp at e
          obtain ⟨e1, e2⟩ := e; subst e1 e2
          refine ⟨VR.tuple' (.cons (.bool _) .nil), w, ?_, S⟩
          simp only [Instr.next, k0, Nat.add_zero, Sem.run_bind, hg, Result.andThen_ok, if_neg hpos, Sem.run_pure]
      · simp at e
  · simp at e

theorem ER.find {es es' : List MapEntry} (h : ER j es es') (p : Nat → Bool) :
    (es.find? (fun e => p e.born) = none ∧ es'.find? (fun e => p e.born) = none) ∨ ∃ e e', es.find? (fun e => p e.born) = some e ∧ es'.find? (fun e => p e.born) = some e' ∧ ERow j e e' := by
  induction h with
  | nil => left; simp
  | cons hr hl ih =>
    simp only [List.find?_cons, ← hr.2.2]
    split
    · right; exact ⟨_, _, rfl, rfl, hr⟩
    · exact ih

theorem aEntry_sim (S : Sim F w0 j h w) {it it' r : Value} (hi : VR j it it') (e : aEntry it h = some r) :
    ∃ r', VR j r r' ∧ (Instr.entry it').run P w = .ok r' w := by
  unfold aEntry at e
  split at e
  · rename_i b
    cases hi with
    | ptr hj =>
      rename_i L
      split at e
      · rename_i m since seen stepped hh
        split at e
        · rename_i es c hm
          split at e
          · rename_i hc
            split at e
            · rename_i stamp hst
              split at e
              · rename_i en hen
                simp at e; subst e
                have := S.obj _ _ hj
                rw [hh] at this
                obtain ⟨k0, m', k1, k2⟩ := this
                rcases k2 with ⟨k2, _⟩ | ⟨r0, L2, k2, k3, k4⟩
                · simp at k2
                · injection k2 with k2; subst k2; subst k4
                  have hmo := S.obj _ _ k3
                  rw [hm] at hmo
                  obtain ⟨es', q1, q2, q3⟩ := hmo
                  have hg := run_getObj' (P := P) k1 (by intro _ _ _ h; cases h)
                  have hback : seen.toArray.back? = some stamp := by rw [← hst]; simp
                  rcases q2.find (fun b => b == stamp) with ⟨x1, _⟩ | ⟨e1, e1', x1, x2, x3⟩
                  · rw [x1] at hen; simp at hen
                  · rw [x1] at hen; injection hen with hen; subst hen
                    refine ⟨.tuple #[e1'.key, e1'.val], VR.tuple' (.cons x3.1 (.cons x3.2.1 .nil)), ?_⟩
                    have hf : es'.find? (fun x => x.born == stamp) = some e1' := by rw [← x2, Array.find?_toList]
                    subst hc
                    simp only [Instr.entry, k0, Nat.add_zero, Sem.run_bind, hg, Result.andThen_ok, hback, run_getObj_map q1, bne_self_eq_false, Bool.false_eq_true, if_false, hf, Sem.run_pure]
              · simp at e
            · simp at e
          · simp at e
        · simp at e
      · simp at e
  · simp at e

theorem run_unit {s : Sem Unit} {w w' : World} (h : s.run P w = .ok () w') : (do s; pure .skip : Sem Next).run P w = .ok .skip w' := by simp [h]

/-- the value that an operation's slot gets -/
def nextVal : Next → Option Value
  | .value v => some v
  | .skip => some undefV
  | _ => none

theorem aEff_sim (S : Sim F w0 j h w) (hr : RR j ρ ρ') (o : Oper) {r : Value} {h' : AHeap} (e : aEff P ρ h o.op = some (r, h')) :
    ∃ j' r' n' w', j.ext h.length j' ∧ VR j' r r' ∧ (execOp ρ' o).run P w = .ok n' w' ∧ nextVal n' = some r' ∧ Sim F w0 j' h' w' := by
  obtain ⟨dst, op, type, pos, after, guard⟩ := o
  simp only at e
  have hundef : ∀ j : Inj, VR j undefV undefV := fun j => VR.tuple' .nil
  unfold aEff at e
  split at e
  · rename_i s d x
    obtain ⟨v, hv, e⟩ := bind_some' e
    obtain ⟨k1, w', k2, k3⟩ := aConvMark_sim S (hr _ _ hv) e
    exact ⟨j, _, .value _, w', j.ext_refl _, k1, run_val k2, rfl, k3⟩
  · rename_i args argTypes
    split at e
    · rename_i p n pt rest ha ht
      obtain ⟨pv, hp, e⟩ := bind_some' e
      obtain ⟨nv, hn, e⟩ := bind_some' e
      have ht0 : argTypes[0]? = some pt := by rw [← Array.getElem?_toList, ht]; rfl
      obtain ⟨k1, w', k2, k3⟩ := aUnsafeString_sim (ty := type) S ht0 (hr _ _ hp) (hr _ _ hn) e
      have e1 : args = #[p, n] := Array.ext' ha
      subst e1
      refine ⟨j, r, .value r, w', j.ext_refl _, k1, ?_, rfl, k3⟩
      simp [execOp, resolve, invoke, builtin, k2]
    · simp at e
  · rename_i t a x
    obtain ⟨av, ha, e⟩ := bind_some' e
    obtain ⟨xv, hx, e⟩ := bind_some' e
    cases hs : aStoreAt P t av xv h with
    | none => rw [hs] at e; simp at e
    | some h2 =>
      rw [hs] at e; simp at e; obtain ⟨e1, e2⟩ := e; subst e1 e2
      obtain ⟨w', k1, k2⟩ := aStoreAt_sim S (hr _ _ ha) (hr _ _ hx) hs
      exact ⟨j, undefV, .skip, w', j.ext_refl _, hundef j, run_unit k1, rfl, k2⟩
  · rename_i t m k x
    obtain ⟨mv, hm, e⟩ := bind_some' e
    obtain ⟨kv, hk, e⟩ := bind_some' e
    obtain ⟨xv, hx, e⟩ := bind_some' e
    cases hs : aMapUpdate P t mv kv xv h with
    | none => rw [hs] at e; simp at e
    | some h2 =>
      rw [hs] at e; simp at e; obtain ⟨e1, e2⟩ := e; subst e1 e2
      obtain ⟨w', k1, k2⟩ := aMapUpdate_sim S (hr _ _ hm) (hr _ _ hk) (hr _ _ hx) hs
      exact ⟨j, undefV, .skip, w', j.ext_refl _, hundef j, run_unit k1, rfl, k2⟩
  · rename_i t m k x
    obtain ⟨mv, hm, e⟩ := bind_some' e
    obtain ⟨kv, hk, e⟩ := bind_some' e
    obtain ⟨xv, hx, e⟩ := bind_some' e
    cases hs : aMapUpdate P t mv kv xv h with
    | none => rw [hs] at e; simp at e
    | some h2 =>
      rw [hs] at e; simp at e; obtain ⟨e1, e2⟩ := e; subst e1 e2
      obtain ⟨w', k1, k2⟩ := aMapUpdate_sim S (hr _ _ hm) (hr _ _ hk) (hr _ _ hx) hs
      exact ⟨j, undefV, .skip, w', j.ext_refl _, hundef j, run_unit k1, rfl, k2⟩
  · rename_i t m k
    obtain ⟨mv, hm, e⟩ := bind_some' e
    obtain ⟨kv, hk, e⟩ := bind_some' e
    obtain ⟨r', w', k1, k2, k3⟩ := aMapEntry_sim S (hr _ _ hm) (hr _ _ hk) e
    exact ⟨j, r', .value r', w', j.ext_refl _, k1, run_val k2, rfl, k3⟩
  · rename_i t m s x
    obtain ⟨mv, hm, e⟩ := bind_some' e
    obtain ⟨sv, hs0, e⟩ := bind_some' e
    obtain ⟨xv, hx, e⟩ := bind_some' e
    cases hs : aEntryStore mv sv xv h with
    | none => rw [hs] at e; simp at e
    | some h2 =>
      rw [hs] at e; simp at e; obtain ⟨e1, e2⟩ := e; subst e1 e2
      obtain ⟨w', k1, k2⟩ := aEntryStore_sim (P := P) (t := t) S (hr _ _ hm) (hr _ _ hs0) (hr _ _ hx) hs
      exact ⟨j, undefV, .skip, w', j.ext_refl _, hundef j, run_unit k1, rfl, k2⟩
  · rename_i args argTypes
    split at e
    · rename_i s x t xt ha ht
      obtain ⟨sv, hs, e⟩ := bind_some' e
      obtain ⟨xv, hx, e⟩ := bind_some' e
      obtain ⟨j', r', w', k1, k2, k3, k4⟩ := aAppend_sim (ty := type) S (hr _ _ hs) (hr _ _ hx) e
      have e1 : args = #[s, x] := Array.ext' ha
      have e2 : argTypes = #[t, xt] := Array.ext' ht
      subst e1 e2
      refine ⟨j', r', .value r', w', k1, k2, ?_, rfl, k4⟩
      simp [execOp, resolve, invoke, builtin, k3]
    · simp at e
  · rename_i args argTypes
    split at e
    · rename_i d s t rest ha ht
      obtain ⟨dv, hd, e⟩ := bind_some' e
      obtain ⟨sv, hs, e⟩ := bind_some' e
      have ht0 : argTypes[0]? = some t := by rw [← Array.getElem?_toList, ht]; rfl
      obtain ⟨k0, w', k1, k2⟩ := aCopy_sim (ty := type) S ht0 (hr _ _ hd) (hr _ _ hs) e
      have e1 : args = #[d, s] := Array.ext' ha
      subst e1
      refine ⟨j, r, .value r, w', j.ext_refl _, k0, ?_, rfl, k2⟩
      simp [execOp, resolve, invoke, builtin, k1]
    · simp at e
  · rename_i args argTypes
    split at e
    · rename_i m k t rest ha ht
      obtain ⟨mv, hm, e⟩ := bind_some' e
      obtain ⟨kv, hk, e⟩ := bind_some' e
      have ht0 : argTypes[0]? = some t := by rw [← Array.getElem?_toList, ht]; rfl
      cases hs : aDelete P t mv kv h with
      | none => rw [hs] at e; simp at e
      | some h2 =>
        rw [hs] at e; simp at e; obtain ⟨e1, e2⟩ := e; subst e1 e2
        obtain ⟨w', k1, k2⟩ := aDelete_sim (ty := type) S ht0 (hr _ _ hm) (hr _ _ hk) hs
        have e1 : args = #[m, k] := Array.ext' ha
        subst e1
        refine ⟨j, undefV, .value undefV, w', j.ext_refl _, hundef j, ?_, rfl, k2⟩
        simp [execOp, resolve, invoke, builtin, k1]
    · simp at e
  · rename_i args argTypes
    split at e
    · rename_i x t rest ha ht
      obtain ⟨xv, hx, e⟩ := bind_some' e
      have ht0 : argTypes[0]? = some t := by rw [← Array.getElem?_toList, ht]; rfl
      cases hs : aClear P t xv h with
      | none => rw [hs] at e; simp at e
      | some h2 =>
        rw [hs] at e; simp at e; obtain ⟨e1, e2⟩ := e; subst e1 e2
        obtain ⟨w', k1, k2⟩ := aClear_sim (ty := type) S ht0 (hr _ _ hx) hs
        have e1 : args = #[x] := Array.ext' ha
        subst e1
        refine ⟨j, undefV, .value undefV, w', j.ext_refl _, hundef j, ?_, rfl, k2⟩
        simp [execOp, resolve, invoke, builtin, k1]
    · simp at e
  · rename_i t x
    obtain ⟨v, hv, e⟩ := bind_some' e
    cases hs : aRange P t v h with
    | none => rw [hs] at e; simp at e
    | some ob =>
      rw [hs] at e; simp at e; obtain ⟨e1, e2⟩ := e; subst e1 e2
      obtain ⟨j', r', w', k1, k2, k3, k4⟩ := aRange_sim S (hr _ _ hv) hs
      exact ⟨j', r', .value r', w', k1, k2, run_val k3, rfl, k4⟩
  · rename_i it
    obtain ⟨v, hv, e⟩ := bind_some' e
    obtain ⟨k0, w', k1, k2⟩ := aNextStr_sim (ty := type) S (hr _ _ hv) e
    exact ⟨j, r, .value r, w', j.ext_refl _, k0, run_val k1, rfl, k2⟩
  · rename_i it
    obtain ⟨v, hv, e⟩ := bind_some' e
    cases hs : aEntry v h with
    | none => rw [hs] at e; simp at e
    | some r1 =>
      rw [hs] at e; simp at e; obtain ⟨e1, e2⟩ := e; subst e1 e2
      obtain ⟨r', k1, k2⟩ := aEntry_sim (P := P) S (hr _ _ hv) hs
      exact ⟨j, r', .value r', w, j.ext_refl _, k1, run_val k2, rfl, S⟩
  · simp at e

/-! ## a step of a map's iterator: every candidate is to be reckoned with -/

def aNextMap (it : Value) (h : AHeap) : Option (List (Value × AHeap)) :=
  match it with
  | .pointer (some ⟨r, 0, none⟩) => match h[r]? with
    | some (.mapIter none _ _ _) => some [(.tuple #[.bool false], h)]
    | some (.mapIter (some m) since seen last) => match h[m]? with
      | some (.map es c) =>
        if !seen.isEmpty && !es.isEmpty && es.all (fun e => decide (e.born ≥ last)) then none else
        let left := es.filter fun e => !seen.contains e.born
        let old := left.filter fun e => decide (e.born < since)
        let new := left.filter fun e => decide (e.born ≥ since)
        some ((if old.isEmpty then [(Value.tuple #[.bool false], h)] else []) ++
          (old ++ new).map fun e => (.tuple #[.bool true, e.key, e.val], h.set r (.mapIter (some m) since (seen ++ [e.born]) c)))
      | _ => none
    | _ => none
  | _ => none

theorem ER.filter {es es' : List MapEntry} (h : ER j es es') (p : Nat → Bool) : ER j (es.filter fun e => p e.born) (es'.filter fun e => p e.born) := by
  induction h with
  | nil => exact .nil
  | cons hr hl ih =>
    simp only [List.filter_cons, ← hr.2.2]
    split
    · exact .cons hr ih
    · exact ih

theorem ER.all {es es' : List MapEntry} (h : ER j es es') (p : Nat → Bool) : es'.all (fun e => p e.born) = es.all fun e => p e.born := by
  induction h with
  | nil => rfl
  | cons hr hl ih => simp only [List.all_cons, ih, hr.2.2]

theorem aNextMap_sim (S : Sim F w0 j h w) {ty : TypeId} {it it' : Value} (hi : VR j it it') {outs : List (Value × AHeap)} (e : aNextMap it h = some outs) :
    ∃ r h' r' w', (r, h') ∈ outs ∧ VR j r r' ∧ (Instr.next it' false ty).run P w = .ok r' w' ∧ Sim F w0 j h' w' := by
  unfold aNextMap at e
  split at e
  · rename_i b
    cases hi with
    | ptr hj =>
      rename_i L
      split at e
      · rename_i since seen last hh
        simp at e; subst e
        have := S.obj _ _ hj
        rw [hh] at this
        obtain ⟨k0, m', k1, k2⟩ := this
        rcases k2 with ⟨_, k2⟩ | ⟨r0, L2, k2, _⟩
        · subst k2
          have hg := run_getObj' (P := P) k1 (by intro _ _ _ h; cases h)
          exact ⟨.tuple #[.bool false], h, .tuple #[.bool false], w, by simp, VR.tuple' (.cons (.bool _) .nil), by simp only [Instr.next, k0, Nat.add_zero, Sem.run_bind, hg, Result.andThen_ok, Sem.run_pure], S⟩
        · simp at k2
      · rename_i m since seen last hh
        split at e
        · rename_i es c hm
          split at e
          · simp at e
          · rename_i hbad
            simp only [Option.some.injEq] at e; subst e
            have := S.obj _ _ hj
            rw [hh] at this
            obtain ⟨k0, m', k1, k2⟩ := this
            rcases k2 with ⟨k2, _⟩ | ⟨r0, L2, k2, k3, k4⟩
            · simp at k2
            · injection k2 with k2; subst k2; subst k4
              have hmo := S.obj _ _ k3
              rw [hm] at hmo
              obtain ⟨es', q1, q2, q3⟩ := hmo
              have hg := run_getObj' (P := P) k1 (by intro _ _ _ h; cases h)
              have hgm := run_getObj' (P := P) q1 (by intro _ _ _ h; cases h)
              -- the concrete lists
              have hleft := q2.filter (fun b => !seen.contains b)
              have hold := hleft.filter (fun b => decide (b < since))
              have hnew := hleft.filter (fun b => decide (b ≥ since))
              obtain ⟨cl, hcl⟩ : ∃ cl, cl = (es'.toList.filter fun e => !seen.contains e.born) := ⟨_, rfl⟩
              rw [← hcl] at hleft hold hnew
              obtain ⟨co, hco⟩ : ∃ co, co = (cl.filter fun e => decide (e.born < since)) := ⟨_, rfl⟩
              obtain ⟨cn, hcn⟩ : ∃ cn, cn = (cl.filter fun e => decide (e.born ≥ since)) := ⟨_, rfl⟩
              rw [← hco] at hold; rw [← hcn] at hnew
              have harrL : (es'.filter fun e => !seen.toArray.contains e.born) = cl.toArray := by
                apply Array.ext'; rw [hcl]; simp
              have harrO : (cl.toArray.filter fun e => decide (e.born < since)) = co.toArray := by apply Array.ext'; rw [hco]; simp
              have harrN : (cl.toArray.filter fun e => decide (e.born ≥ since)) = cn.toArray := by apply Array.ext'; rw [hcn]; simp
              have harrO' : Array.filter (fun e => decide (e.born < since)) cl.toArray 0 cl.length = co.toArray := by simpa using harrO
              have harrN' : Array.filter (fun e => decide (e.born ≥ since)) cl.toArray 0 cl.length = cn.toArray := by simpa using harrN
              obtain ⟨cands, hcands⟩ : ∃ cands : List (Option MapEntry), cands = (if co.isEmpty then [none] else []) ++ (co ++ cn).map some := ⟨_, rfl⟩
              have harrC : (if co.toArray.isEmpty then #[none] else #[]) ++ (co.toArray ++ cn.toArray).map some = cands.toArray := by
                apply Array.ext'; rw [hcands]; cases co <;> simp
              have hpos : 0 < cands.length := by rw [hcands]; cases co <;> simp
              have hcond : (!seen.toArray.isEmpty && !es'.isEmpty && es'.all (fun x => decide (x.born ≥ last))) = false := by
                have h1 : es'.isEmpty = es.isEmpty := by rw [← q2.isEmpty]; simp
                have h2 : es'.all (fun x => decide (x.born ≥ last)) = es.all (fun x => decide (x.born ≥ last)) := by
                  rw [← q2.all (fun b => decide (b ≥ last))]; simp
                rw [h1, h2]; simpa using hbad
              -- what is drawn
              obtain ⟨k, w1, hk, ⟨hw1, hio1⟩, hdraw⟩ : ∃ (k : Nat) (w1 : World), k < cands.length ∧ (w1.heap = w.heap ∧ Io w w1) ∧ (choose (.mapNext cands.length)).run P w = .ok k w1 := by
                by_cases hf : cands.length ≤ 1
                · exact ⟨0, w, hpos, ⟨rfl, Io.refl w⟩, by simp [choose, Sem.run, Question.forced, hf]⟩
                · exact ⟨(Question.mapNext cands.length).cut (w.tape w.drawn (.mapNext cands.length)), { w with drawn := w.drawn + 1 }, by simp only [Question.cut]; exact Nat.mod_lt _ hpos, ⟨rfl, rfl, rfl, rfl⟩,
                    by simp [choose, Sem.run, Question.forced, hf]⟩
              have hrun : (Instr.next (.pointer (some ⟨L.blk, L.off + 0, none⟩)) false ty).run P w =
                  (match cands[k]? with
                    | some (some e) => do
                      setObj L.blk (.mapIter (some L2.blk) since (seen.toArray.push e.born) c)
                      pure (.tuple #[.bool true, e.key, e.val])
                    | some none => pure (.tuple #[.bool false])
                    | none => stuck "Next: no such candidate" : Sem Value).run P w1 := by
                simp only [Instr.next, k0, Nat.add_zero, Sem.run_bind, hg, Result.andThen_ok, hgm, hcond, Bool.false_eq_true, if_false, harrL, harrO', harrN', harrC, List.size_toArray, hdraw, List.getElem?_toArray]
                generalize cands[k]? = q
                cases q with
                | none => rfl
                | some q => cases q <;> rfl
              have hget : cands[k]? = some (cands[k]'hk) := List.getElem?_eq_getElem hk
              have S1 : Sim F w0 j h w1 := S.heap_eq hio1 hw1
              cases hck : cands[k]'hk with
              | none =>
                rw [hget, hck] at hrun
                have hcoe : co = [] := by
                  cases co with
                  | nil => rfl
                  | cons a l =>
                    exfalso
                    have : (none : Option MapEntry) ∈ cands := by rw [← hck]; exact List.getElem_mem hk
                    rw [hcands] at this; simp at this
                refine ⟨.tuple #[.bool false], h, _, w1, ?_, VR.tuple' (.cons (.bool _) .nil), by rw [hrun]; rfl, S1⟩
                have : (List.filter (fun e => decide (e.born < since)) (List.filter (fun e => !seen.contains e.born) es)).isEmpty = true := by
                  have hl := hold.length
                  rw [hcoe] at hl
                  rw [List.eq_nil_of_length_eq_zero hl]; rfl
                rw [if_pos this]; simp
              | some ce =>
                rw [hget, hck] at hrun
                have hmem : ce ∈ co ++ cn := by
                  have : (some ce : Option MapEntry) ∈ cands := by rw [← hck]; exact List.getElem_mem hk
                  rw [hcands] at this
                  cases co <;> simp at this <;> simpa using this
                obtain ⟨i, hi2⟩ := List.getElem?_of_mem hmem
                rcases (hold.app hnew).get i with ⟨_, x2⟩ | ⟨ae, ce', x1, x2, x3⟩
                · rw [x2] at hi2; simp at hi2
                · rw [x2] at hi2; injection hi2 with hi2; subst hi2
                  have hmema : ae ∈ (List.filter (fun e => decide (e.born < since)) (List.filter (fun e => !seen.contains e.born) es)) ++
                      (List.filter (fun e => decide (e.born ≥ since)) (List.filter (fun e => !seen.contains e.born) es)) := List.mem_of_getElem? x1
                  have hw1b : w1.heap[L.blk]? = some (.mapIter (some L2.blk) since seen.toArray last) := by rw [hw1]; exact k1
                  refine ⟨.tuple #[.bool true, ae.key, ae.val], h.set b (.mapIter (some m) since (seen ++ [ae.born]) c), .tuple #[.bool true, ce'.key, ce'.val], _, ?_,
                    VR.tuple' (.cons (.bool _) (.cons x3.1 (.cons x3.2.1 .nil))), ?_,
                    obj_turn S1 hj hh hw1b (o' := .mapIter (some m) since (seen ++ [ae.born]) c) (x' := .mapIter (some L2.blk) since (seen.toArray.push ce'.born) c) trivial trivial (fun _ _ => Iff.rfl) (fun _ _ => Iff.rfl)
                      (fun w' hw => ⟨k0, some L2.blk, by rw [hw, x3.2.2]; simp, .inr ⟨m, L2, rfl, k3, rfl⟩⟩)⟩
                  · apply List.mem_append_right
                    exact List.mem_map.2 ⟨ae, hmema, rfl⟩
                  · rw [hrun]
                    simp only [Sem.run_bind, run_setObj' hw1b (x := .mapIter (some L2.blk) since (seen.toArray.push ce'.born) c) (by intro _ _ _ h; cases h), Result.andThen_ok, Sem.run_pure]
        · simp at e
      · simp at e
  · simp at e

theorem aStore_len {a : Addr} {vs : List Value} {h' : AHeap} (e : aStore h a vs = some h') : h'.length = h.length := by
  unfold aStore at e
  split at e
  · simp at e
  · split at e
    · split at e
      · simp at e; subst e; simp
      · simp at e
    · split at e
      · simp at e; subst e; simp
      · simp at e
    · simp at e

theorem aStoreAt_len {t : TypeId} {a x : Value} {h' : AHeap} (e : aStoreAt P t a x h = some h') : h.length ≤ h'.length := by
  unfold aStoreAt at e
  split at e
  · obtain ⟨_, _, e⟩ := bind_some' e
    split at e
    · rw [aStore_len e]; exact Nat.le_refl _
    · simp at e
  · simp at e

theorem aMapUpdate_len {t : TypeId} {m k x : Value} {h' : AHeap} (e : aMapUpdate P t m k x h = some h') : h.length ≤ h'.length := by
  unfold aMapUpdate at e
  split at e
  · obtain ⟨⟨r, es, c⟩, _, e⟩ := bind_some' e
    simp only at e
    split at e
    · obtain ⟨q, _, e⟩ := bind_some' e
      split at e
      · split at e
        · simp at e; subst e; simp
        · simp at e
      · simp at e; subst e; simp
    · simp at e
  · simp at e

theorem aMapEntry_len {t : TypeId} {m k r0 : Value} {h' : AHeap} (e : aMapEntry P t m k h = some (r0, h')) : h.length ≤ h'.length := by
  unfold aMapEntry at e
  split at e
  · obtain ⟨⟨r, es, c⟩, _, e⟩ := bind_some' e
    simp only at e
    split at e
    · obtain ⟨q, _, e⟩ := bind_some' e
      split at e
      · split at e
        · simp at e; obtain ⟨_, e⟩ := e; subst e; simp
        · simp at e
      · obtain ⟨_, _, e⟩ := Option.map_eq_some_iff.1 e
        injection e with _ e; subst e; simp
    · simp at e
  · simp at e

theorem aEntryStore_len {m s x : Value} {h' : AHeap} (e : aEntryStore m s x h = some h') : h.length ≤ h'.length := by
  unfold aEntryStore at e
  split at e
  · obtain ⟨⟨r, es, c⟩, _, e⟩ := bind_some' e
    simp only at e
    split at e
    · simp at e; subst e; simp
    · simp at e
  · simp at e

theorem aDelete_len {t : TypeId} {m k : Value} {h' : AHeap} (e : aDelete P t m k h = some h') : h.length ≤ h'.length := by
  unfold aDelete at e
  split at e
  · split at e
    · simp at e; subst e; exact Nat.le_refl _
    · simp at e
  · obtain ⟨⟨r, es, c⟩, _, e⟩ := bind_some' e
    simp only at e
    split at e
    · obtain ⟨q, _, e⟩ := bind_some' e
      split at e
      · simp at e; subst e; simp
      · simp at e; subst e; simp
    · simp at e
  · simp at e

theorem aClear_len {t : TypeId} {x : Value} {h' : AHeap} (e : aClear P t x h = some h') : h.length ≤ h'.length := by
  unfold aClear at e
  split at e
  · simp at e; subst e; exact Nat.le_refl _
  · simp at e; subst e; exact Nat.le_refl _
  · simp at e; subst e; exact Nat.le_refl _
  · split at e
    · simp at e; subst e; simp
    · simp at e
  · obtain ⟨_, _, e⟩ := bind_some' e
    obtain ⟨_, _, e⟩ := bind_some' e
    rw [aStore_len e]; exact Nat.le_refl _
  · simp at e

theorem aCopy_len {t : TypeId} {d s r : Value} {h' : AHeap} (e : aCopy P t d s h = some (r, h')) : h.length ≤ h'.length := by
  unfold aCopy at e
  split at e
  · obtain ⟨_, _, e⟩ := bind_some' e
    obtain ⟨_, _, e⟩ := bind_some' e
    obtain ⟨_, _, e⟩ := bind_some' e
    split at e
    · simp at e; obtain ⟨_, e⟩ := e; subst e; exact Nat.le_refl _
    · split at e
      · simp at e; obtain ⟨_, e⟩ := e; subst e; exact Nat.le_refl _
      · obtain ⟨_, e1, e⟩ := Option.map_eq_some_iff.1 e
        injection e with _ e; subst e; rw [aStore_len e1]; exact Nat.le_refl _
  · simp at e

theorem aGrow_len {el : TypeId} {size len n : Nat} {base : Option Addr} {new : List Value} {r : Value} {h' : AHeap} (e : aGrow el size base len n new h = some (r, h')) : h.length ≤ h'.length := by
  unfold aGrow at e
  split at e
  · split at e
    · injection e with e; injection e with _ e; subst e; simp
    · simp at e
  · split at e
    · injection e with e; injection e with _ e; subst e; simp
    · obtain ⟨old, _, e⟩ := Option.map_eq_some_iff.1 e
      injection e with _ e; subst e; simp
  · split at e
    · simp at e
    · split at e
      · split at e
        · injection e with e; injection e with _ e; subst e; simp
        · simp at e
      · split at e
        · injection e with e; injection e with _ e; subst e; simp
        · split at e
          · injection e with e; injection e with _ e; subst e; simp
          · simp at e
      · simp at e

theorem aAppend_len {t xt : TypeId} {s x r : Value} {h' : AHeap} (e : aAppend P t xt s x h = some (r, h')) : h.length ≤ h'.length := by
  unfold aAppend at e
  split at e
  · split at e
    · simp at e
    · split at e
      · simp at e
      · obtain ⟨⟨n, new⟩, _, e⟩ := bind_some' e
        simp only at e
        split at e
        · simp at e
        · split at e
          · split at e
            · simp at e; obtain ⟨_, e⟩ := e; subst e; exact Nat.le_refl _
            · split at e
              · simp at e; obtain ⟨_, e⟩ := e; subst e; exact Nat.le_refl _
              · obtain ⟨_, e1, e⟩ := Option.map_eq_some_iff.1 e
                injection e with _ e; subst e; rw [aStore_len e1]; exact Nat.le_refl _
          · split at e
            · exact aGrow_len e
            · simp at e
  · simp at e

theorem aNextStr_len {it r : Value} {h' : AHeap} (e : aNextStr it h = some (r, h')) : h.length ≤ h'.length := by
  unfold aNextStr at e
  split at e
  · split at e
    · split at e
      · simp at e; obtain ⟨_, e⟩ := e; subst e; simp
      · simp at e; obtain ⟨_, e⟩ := e; subst e; exact Nat.le_refl _
    · simp at e
  · simp at e

theorem aNextMap_len {it : Value} {outs : List (Value × AHeap)} (e : aNextMap it h = some outs) {r : Value} {h' : AHeap} (hm : (r, h') ∈ outs) : h.length ≤ h'.length := by
  unfold aNextMap at e
  split at e
  · split at e
    · simp at e; subst e; simp at hm; rw [hm.2]; exact Nat.le_refl _
    · split at e
      · split at e
        · simp at e
        · simp only [Option.some.injEq] at e; subst e
          rw [List.mem_append] at hm
          rcases hm with hm | hm
          · split at hm
            · simp at hm; rw [hm.2]; exact Nat.le_refl _
            · simp at hm
          · obtain ⟨en, _, e2⟩ := List.mem_map.1 hm
            injection e2 with _ e2; subst e2; simp
      · simp at e
    · simp at e
  · simp at e

/-- effects never take an object away -/
theorem aEff_len {op : Op} {r : Value} {h' : AHeap} (e : aEff P ρ h op = some (r, h')) : h.length ≤ h'.length := by
  unfold aEff at e
  split at e
  · obtain ⟨_, _, e⟩ := bind_some' e
    exact aConvMark_len e
  · split at e
    · obtain ⟨_, _, e⟩ := bind_some' e
      obtain ⟨_, _, e⟩ := bind_some' e
      exact aUnsafeString_len e
    · simp at e
  · obtain ⟨_, _, e⟩ := bind_some' e
    obtain ⟨_, _, e⟩ := bind_some' e
    obtain ⟨h2, e1, e2⟩ := Option.map_eq_some_iff.1 e
    injection e2 with _ e2; subst e2; exact aStoreAt_len e1
  · obtain ⟨_, _, e⟩ := bind_some' e
    obtain ⟨_, _, e⟩ := bind_some' e
    obtain ⟨_, _, e⟩ := bind_some' e
    obtain ⟨h2, e1, e2⟩ := Option.map_eq_some_iff.1 e
    injection e2 with _ e2; subst e2; exact aMapUpdate_len e1
  · obtain ⟨_, _, e⟩ := bind_some' e
    obtain ⟨_, _, e⟩ := bind_some' e
    obtain ⟨_, _, e⟩ := bind_some' e
    obtain ⟨h2, e1, e2⟩ := Option.map_eq_some_iff.1 e
    injection e2 with _ e2; subst e2; exact aMapUpdate_len e1
  · obtain ⟨_, _, e⟩ := bind_some' e
    obtain ⟨_, _, e⟩ := bind_some' e
    exact aMapEntry_len e
  · obtain ⟨_, _, e⟩ := bind_some' e
    obtain ⟨_, _, e⟩ := bind_some' e
    obtain ⟨_, _, e⟩ := bind_some' e
    obtain ⟨h2, e1, e2⟩ := Option.map_eq_some_iff.1 e
    injection e2 with _ e2; subst e2; exact aEntryStore_len e1
  · split at e
    · obtain ⟨_, _, e⟩ := bind_some' e
      obtain ⟨_, _, e⟩ := bind_some' e
      exact aAppend_len e
    · simp at e
  · split at e
    · obtain ⟨_, _, e⟩ := bind_some' e
      obtain ⟨_, _, e⟩ := bind_some' e
      exact aCopy_len e
    · simp at e
  · split at e
    · obtain ⟨_, _, e⟩ := bind_some' e
      obtain ⟨_, _, e⟩ := bind_some' e
      obtain ⟨h2, e1, e2⟩ := Option.map_eq_some_iff.1 e
      injection e2 with _ e2; subst e2; exact aDelete_len e1
    · simp at e
  · split at e
    · obtain ⟨_, _, e⟩ := bind_some' e
      obtain ⟨h2, e1, e2⟩ := Option.map_eq_some_iff.1 e
      injection e2 with _ e2; subst e2; exact aClear_len e1
    · simp at e
  · obtain ⟨_, _, e⟩ := bind_some' e
    obtain ⟨ob, e1, e2⟩ := Option.map_eq_some_iff.1 e
    injection e2 with _ e2; subst e2; simp
  · obtain ⟨_, _, e⟩ := bind_some' e
    exact aNextStr_len e
  · obtain ⟨_, _, e⟩ := bind_some' e
    obtain ⟨r1, e1, e2⟩ := Option.map_eq_some_iff.1 e
    injection e2 with _ e2; subst e2; exact Nat.le_refl _
  · simp at e

end Go.Fm
