/-
  FmEff: operations that change memory: stores, maps, append, copy, iterators.
-/
import Derived.Test.YtopladipgobpjaaDoorFmAlloc
namespace Go.Fm

variable (P : Program)

def undefV : Value := .tuple #[]

def aStoreAt (t : TypeId) (a x : Value) (h : AHeap) : Option AHeap :=
  match a with
  | .pointer (some a) => (aSize P t).bind fun n => if x.cells.toList.length = n then aStore h a x.cells.toList else none
  | _ => none

def mapRow (m : Value) (h : AHeap) : Option (Nat × List MapEntry × Nat) :=
  match m with
  | .map (some r) => match h[r]? with
    | some (.map es c) => some (r, es, c)
    | _ => none
  | _ => none

def aMapUpdate (t : TypeId) (m k x : Value) (h : AHeap) : Option AHeap :=
  match P.underlying t with
  | some (.map kt _) => (mapRow m h).bind fun (r, es, c) =>
    if aCheckKey P false kt k then
      (aFind P kt k es 0).bind fun
        | some (i, _) =>
          if Instr.sameBits 10000 (((es[i]?).map (·.key)).getD k) k then some (h.set r (.map (es.modify i fun e => { e with key := k, val := x }) c)) else none
        | none => some (h.set r (.map (es ++ [{ key := k, val := x, born := c }]) (c + 1)))
    else none
  | _ => none

def aMapEntry (t : TypeId) (m k : Value) (h : AHeap) : Option (Value × AHeap) :=
  match P.underlying t with
  | some (.map kt et) => (mapRow m h).bind fun (r, es, c) =>
    if aCheckKey P false kt k then
      (aFind P kt k es 0).bind fun
        | some (i, v) =>
          if Instr.sameBits 10000 (((es[i]?).map (·.key)).getD k) k then
            some (.tuple #[v, goInt (((es[i]?).map (·.born)).getD 0)], h.set r (.map (es.modify i fun e => { e with key := k }) c)) else none
        | none => (aZero P et).map fun z => (.tuple #[z, goInt c], h.set r (.map (es ++ [{ key := k, val := z, born := c }]) (c + 1)))
    else none
  | _ => none

def aEntryStore (m stamp x : Value) (h : AHeap) : Option AHeap :=
  match stamp with
  | .int _ born => (mapRow m h).bind fun (r, es, c) =>
    match es.findIdx? (fun e => (e.born : Int) == born) with
    | some i => some (h.set r (.map (es.modify i fun e => { e with val := x }) c))
    | none => none
  | _ => none

def aDelete (t : TypeId) (m k : Value) (h : AHeap) : Option AHeap :=
  match P.underlying t, m with
  | some (.map kt _), .map none => if aCheckKey P true kt k then some h else none
  | some (.map kt _), m => (mapRow m h).bind fun (r, es, c) =>
    if aCheckKey P es.isEmpty kt k then
      (aFind P kt k es 0).bind fun
        | some (i, _) => some (h.set r (.map (es.eraseIdx i) c))
        | none => some (h.set r (.map es c))
    else none
  | _, _ => none

def aLenOf : Value → Option Nat
  | .slice _ n _ => some n
  | .string s => some s.size
  | _ => none

/-- the first n elements of what is appended or copied -/
def aFirst (size n : Nat) (v : Value) (h : AHeap) : Option (List Value) :=
  match v with
  | .string s => some ((s.extract 0 n).data.toList.map fun b => .int .u8 b.toNat)
  | v => aView size v n h

def aCopy (t : TypeId) (dst src : Value) (h : AHeap) : Option (Value × AHeap) :=
  match P.underlying t, dst with
  | some (.slice e), .slice base dl _ =>
    (aSize P e).bind fun size => (aLenOf src).bind fun sl => (aFirst size (Nat.min sl dl) src h).bind fun cs =>
      match base with
      | none => some (goInt (Nat.min sl dl : Nat), h)
      | some ⟨b, o, _⟩ => if cs.length = 0 then some (goInt (Nat.min sl dl : Nat), h) else (aStore h ⟨b, o, none⟩ cs).map fun h' => (goInt (Nat.min sl dl : Nat), h')
  | _, _ => none

/-- the new cells of an append: a slice's, a string's, or zeros (append(x, make([]T, n)...)) -/
def aNew (e : TypeId) (size : Nat) (xt : TypeId) (x : Value) (h : AHeap) : Option (Nat × List Value) :=
  match P.underlying xt with
  | some (.int _) =>
    match x with
    | .int _ n => if 0 ≤ n ∧ n < 2 ^ 31 then (aZero P e).bind fun z => if z.cells.size = size then (zeroRow z.cells (n.toNat * size)).map fun row => (n.toNat, row) else none else none
    | _ => none
  | some _ => (aLenOf x).bind fun n => (aFirst size n x h).map fun cs => (n, cs)
  | none => none

/-- an append that does not fit: a new block; the old one is dead where its spare room is not known -/
def aGrow (el : TypeId) (size : Nat) (base : Option Addr) (len n : Nat) (new : List Value) (h : AHeap) : Option (Value × AHeap) :=
  match base with
  | none => if len = 0 then some (.slice (some ⟨h.length, 0, some size⟩) n n, h ++ [.tcells new el (some 0)]) else none
  | some ⟨b, o, none⟩ =>
    if len = 0 then some (.slice (some ⟨h.length, 0, some size⟩) n n, h ++ [.tcells new el (some 0)]) else
    (aCells h ⟨b, o, none⟩ (len * size)).map fun old => (.slice (some ⟨h.length, 0, some size⟩) (len + n) (len + n), h ++ [.tcells (old ++ new) el (some 0)])
  | some ⟨b, o, some sp⟩ =>
    if sp ≠ size then none else
    match h[b]? with
    | some (.cells c false) =>
      if o + len * size ≤ c.length then
        some (.slice (some ⟨h.length, 0, some size⟩) (len + n) (len + n), h.set b .dead ++ [.cells ((c.drop o).take (len * size) ++ new) false])
      else none
    | some (.tcells c t z) =>
      if o + len * size ≤ c.length ∧ o = 0 ∧ t = el ∧ z.getD 0 ≤ len * size then
        some (.slice (some ⟨h.length, 0, some size⟩) (len + n) (len + n), h.set b .dead ++ [.tcells ((c.drop o).take (len * size) ++ new) el z])
      else if o + len * size ≤ c.length ∧ z.getD 0 ≤ o then
        some (.slice (some ⟨h.length, 0, some size⟩) (len + n) (len + n), h.set b .dead ++ [.cells ((c.drop o).take (len * size) ++ new) false])
      else none
    | _ => none

def aAppend (t xt : TypeId) (s x : Value) (h : AHeap) : Option (Value × AHeap) :=
  match P.underlying t, s with
  | some (.slice e), .slice base len cap =>
    match P.info? e with
    | none => none
    | some i =>
      if i.size = 0 ∨ cap < len then none else
      (aNew P e i.size xt x h).bind fun (n, new) =>
        if new.length ≠ n * i.size ∨ 2 ^ 47 < n * i.bytes then none else
        if len + n ≤ cap then
          match base with
          | none => some (.slice none (len + n) cap, h)
          | some ⟨b, o, sp⟩ => if n = 0 then some (.slice (some ⟨b, o, sp⟩) len cap, h) else
            (aStore h ⟨b, o + len * i.size, none⟩ new).map fun h' => (.slice (some ⟨b, o, sp⟩) (len + n) cap, h')
        else if (len + n) * i.bytes ≤ 2 ^ 46 ∧ len + n < 2 ^ 60 ∧ ((aZero P e).map fun z => z.cells.size) = some i.size ∧ new.all Value.isCell = true then
          aGrow e i.size base len n new h
        else none
  | _, _ => none

def aClear (t : TypeId) (x : Value) (h : AHeap) : Option AHeap :=
  match P.underlying t, x with
  | some _, .map none | some _, .slice none _ _ | some _, .slice _ 0 _ => some h
  | some _, .map (some r) => match h[r]? with
    | some (.map _ c) => some (h.set r (.map [] c))
    | _ => none
  | some (.slice e), .slice (some ⟨b, o, _⟩) n _ =>
    (aZero P e).bind fun z => (zeroRow z.cells (n * z.cells.size)).bind fun row => aStore h ⟨b, o, none⟩ row
  | _, _ => none

def aRange (t : TypeId) (x : Value) (h : AHeap) : Option AObj :=
  match P.underlying t, x with
  | some .string, .string s => some (.strIter s 0)
  | some (.map _ _), .map none => some (.mapIter none 0 [] 0)
  | some (.map _ _), .map (some m) => match h[m]? with
    | some (.map _ c) => some (.mapIter (some m) c [] c)
    | _ => none
  | _, _ => none

def aNextStr (it : Value) (h : AHeap) : Option (Value × AHeap) :=
  match it with
  | .pointer (some ⟨r, 0, none⟩) => match h[r]? with
    | some (.strIter s pos) =>
      if pos < s.size then
        let (c, width) := Utf8.decode s pos
        some (.tuple #[.bool true, goInt pos, .int .i32 c], h.set r (.strIter s (pos + width)))
      else some (.tuple #[.bool false], h)
    | _ => none
  | _ => none

def aEntry (it : Value) (h : AHeap) : Option Value :=
  match it with
  | .pointer (some ⟨r, 0, none⟩) => match h[r]? with
    | some (.mapIter (some m) _ seen stepped) => match h[m]? with
      | some (.map es c) =>
        if c = stepped then
          match seen.getLast? with
          | some stamp => match es.find? (·.born == stamp) with
            | some e => some (.tuple #[e.key, e.val])
            | none => none
          | none => none
        else none
      | _ => none
    | _ => none
  | _ => none

/-- unsafe.String: a copy; what was read may no more be written -/
def aUnsafeString (pt : TypeId) (p n : Value) (h : AHeap) : Option (Value × AHeap) :=
  match n with
  | .int _ n =>
    if n < 0 ∨ IntKind.i64.max < n then none else
    match p, P.underlying pt with
    | .pointer none, some (.pointer _) => if n = 0 then some (.string .empty, h) else none
    | .pointer (some ⟨b, o, none⟩), some (.pointer u) =>
      if n = 0 then some (.string .empty, h) else
      match h[b]? with
      | some (.tcells c t (some k)) =>
        if o + n.toNat ≤ c.length ∧ liesAt P P.depth t (c.length / P.cellsOf t) o u n.toNat = true then
          (bytesOf? ((c.drop o).take n.toNat)).map fun bs => (.string ⟨bs.toArray⟩, h.set b (.tcells c t (some (Nat.max k (o + n.toNat)))))
        else none
      | _ => none
    | _, _ => none
  | _ => none

/-- a slice of bytes turned to its own type: its block is marked behind its end -/
def aConvMark (src dst : TypeId) (v : Value) (h : AHeap) : Option (Value × AHeap) :=
  match P.underlying src, P.underlying dst with
  | some (.slice _), some (.slice e) =>
    match P.underlying e, v with
    | some (.int .u8), .slice (some ⟨b, o, sp⟩) l c =>
      if src = dst ∧ c ≠ 0 then
        match h[b]? with
        | some (.tcells cs t z) => if z.getD 0 = 0 then some (.slice (some ⟨b, o, sp⟩) l c, h.set b (.tcells cs t none)) else none
        | _ => none
      else none
    | _, _ => none
  | _, _ => none

def aEff (ρ : Operand → Option Value) (h : AHeap) : Op → Option (Value × AHeap)
  | .convert s d x => (ρ x).bind fun v => aConvMark P s d v h
  | .call { callee := .builtin .unsafeString, args := args, argTypes := argTypes } =>
    match args.toList, argTypes.toList with
    | [p, n], pt :: _ => (ρ p).bind fun pv => (ρ n).bind fun nv => aUnsafeString P pt pv nv h
    | _, _ => none
  | .store t a x => (ρ a).bind fun av => (ρ x).bind fun xv => (aStoreAt P t av xv h).map fun h' => (undefV, h')
  | .mapUpdate t m k x | .insert t m k x => (ρ m).bind fun mv => (ρ k).bind fun kv => (ρ x).bind fun xv => (aMapUpdate P t mv kv xv h).map fun h' => (undefV, h')
  | .mapEntry t m k => (ρ m).bind fun mv => (ρ k).bind fun kv => aMapEntry P t mv kv h
  | .entryStore _ m s x => (ρ m).bind fun mv => (ρ s).bind fun sv => (ρ x).bind fun xv => (aEntryStore mv sv xv h).map fun h' => (undefV, h')
  | .call { callee := .builtin .append, args := args, argTypes := argTypes } =>
    match args.toList, argTypes.toList with
    | [s, x], [t, xt] => (ρ s).bind fun sv => (ρ x).bind fun xv => aAppend P t xt sv xv h
    | _, _ => none
  | .call { callee := .builtin .copy, args := args, argTypes := argTypes } =>
    match args.toList, argTypes.toList with
    | [d, s], t :: _ => (ρ d).bind fun dv => (ρ s).bind fun sv => aCopy P t dv sv h
    | _, _ => none
  | .call { callee := .builtin .delete, args := args, argTypes := argTypes } =>
    match args.toList, argTypes.toList with
    | [m, k], t :: _ => (ρ m).bind fun mv => (ρ k).bind fun kv => (aDelete P t mv kv h).map fun h' => (undefV, h')
    | _, _ => none
  | .call { callee := .builtin .clear, args := args, argTypes := argTypes } =>
    match args.toList, argTypes.toList with
    | [x], t :: _ => (ρ x).bind fun xv => (aClear P t xv h).map fun h' => (undefV, h')
    | _, _ => none
  | .range t x => (ρ x).bind fun v => (aRange P t v h).map fun ob => (.pointer (some ⟨h.length, 0, none⟩), h ++ [ob])
  | .next it true => (ρ it).bind fun v => aNextStr v h
  | .entry it => (ρ it).bind fun v => (aEntry v h).map fun r => (r, h)
  | _ => none

variable {P} {F : Nat → Nat → Prop} {w0 w : World} {j : Inj} {h : AHeap} {ρ : Operand → Option Value} {ρ' : Operand → Value}

theorem aStoreAt_sim (S : Sim F w0 j h w) {t : TypeId} {a a' x x' : Value} (ha : VR j a a') (hx : VR j x x') {h' : AHeap} (e : aStoreAt P t a x h = some h') :
    ∃ w', (Instr.storeAt t a' x').run P w = .ok () w' ∧ Sim F w0 j h' w' := by
  unfold aStoreAt at e
  split at e
  · rename_i ad
    cases ha with
    | ptr hj =>
      obtain ⟨n, hs, e⟩ := bind_some' e
      split at e
      · rename_i hn
        obtain ⟨w', h1, h2⟩ := aStore_sim (P := P) S (a := ⟨_, _, none⟩) hj hx.cells e
        have hc : x'.cells.size = n := by have := hx.cells.length; simp at this hn; omega
        exact ⟨w', by simp [Instr.storeAt, Instr.sureAddr, storeVar, run_sizeOf' hs, hc, h1], h2⟩
      · simp at e
  · simp at e

theorem mapRow_sim (S : Sim F w0 j h w) {m m' : Value} (hm : VR j m m') {r c : Nat} {es : List MapEntry} (e : mapRow m h = some (r, es, c)) :
    ∃ L es', j r = some L ∧ h[r]? = some (.map es c) ∧ m' = .map (some L.blk) ∧ w.heap[L.blk]? = some (.map es' c) ∧ ER j es es'.toList ∧ L.off = 0 := by
  unfold mapRow at e
  split at e
  · rename_i r0
    split at e
    · rename_i es0 c0 hh
      simp at e
      obtain ⟨e1, e2, e3⟩ := e; subst e1 e2 e3
      cases hm with
      | map hj =>
        rename_i L
        have := S.obj _ _ hj
        rw [hh] at this
        obtain ⟨es', k1, k2, k3⟩ := this
        exact ⟨L, es', hj, hh, rfl, k1, k2, k3⟩
    · simp at e
  · simp at e

theorem map_turn (S : Sim F w0 j h w) {r c c2 : Nat} {L : Loc} {es es2 : List MapEntry} {es' es2' : Array MapEntry} (hj : j r = some L) (hh : h[r]? = some (.map es c))
    (hw : w.heap[L.blk]? = some (.map es' c)) (hL : L.off = 0) (hE : ER j es2 es2'.toList) :
    Sim F w0 j (h.set r (.map es2 c2)) { w with heap := w.heap.setIfInBounds L.blk (.map es2' c2) } := by
  have hlt : L.blk < w.heap.size := (Array.getElem?_eq_some_iff.1 hw).1
  obtain ⟨k1, k2, k3⟩ := heap_set (w := w) (x := Obj.map es2' c2) hlt
  exact S.object (o := .map es c) (o' := .map es2 c2) hj hh trivial trivial (fun B x => Iff.rfl) (fun B x => Iff.rfl) ⟨rfl, rfl, rfl⟩ k1 k3 ⟨es2', k2, hE, hL⟩

theorem ER.modify {es es' : List MapEntry} (h : ER j es es') (i : Nat) {f f' : MapEntry → MapEntry} (hf : ∀ e e', ERow j e e' → ERow j (f e) (f' e')) :
    ER j (es.modify i f) (es'.modify i f') := by
  induction h generalizing i with
  | nil => cases i <;> simp <;> exact .nil
  | cons hr hl ih =>
    cases i with
    | zero => simp; exact .cons (hf _ _ hr) hl
    | succ i => simp; exact .cons hr (ih i)

theorem ER.app {es es' es2 es2' : List MapEntry} (h : ER j es es') (h2 : ER j es2 es2') : ER j (es ++ es2) (es' ++ es2') := by
  induction h with
  | nil => exact h2
  | cons hr _ ih => exact .cons hr ih

theorem ER.erase {es es' : List MapEntry} (h : ER j es es') (i : Nat) : ER j (es.eraseIdx i) (es'.eraseIdx i) := by
  induction h generalizing i with
  | nil => simp; exact .nil
  | cons hr hl ih =>
    cases i with
    | zero => simpa using hl
    | succ i => simpa using .cons hr (ih i)

theorem ER.get {es es' : List MapEntry} (h : ER j es es') (i : Nat) : (es[i]? = none ∧ es'[i]? = none) ∨ ∃ e e', es[i]? = some e ∧ es'[i]? = some e' ∧ ERow j e e' := by
  induction h generalizing i with
  | nil => left; simp
  | cons hr hl ih =>
    cases i with
    | zero => right; exact ⟨_, _, by simp, by simp, hr⟩
    | succ i => simpa using ih i

theorem aFind_flat {kt : TypeId} {k : Value} : ∀ {es : List MapEntry} {i n : Nat} {v : Value}, aFind P kt k es i = some (some (n, v)) →
    ∃ e, es[n - i]? = some e ∧ i ≤ n ∧ Flat e.key ∧ e.val = v
  | [], i, n, v, h => by simp [aFind] at h
  | e :: es, i, n, v, h => by
    simp only [aFind] at h
    split at h
    · rename_i hf
      split at h
      · simp at h; obtain ⟨h1, h2⟩ := h; subst h1 h2; exact ⟨e, by simp, Nat.le_refl _, flatB_flat hf, rfl⟩
      · obtain ⟨e', k1, k2, k3⟩ := aFind_flat h
        refine ⟨e', ?_, by omega, k3⟩
        rw [show n - i = (n - (i + 1)) + 1 by omega]; simpa using k1
      · simp at h
    · simp at h

theorem sameKey {kt : TypeId} {k : Value} {es es' : List MapEntry} (hE : ER j es es') {n : Nat} {v : Value} (hq : aFind P kt k es 0 = some (some (n, v))) :
    ((es'[n]?).map (·.key)).getD k = ((es[n]?).map (·.key)).getD k := by
  obtain ⟨e0, q1, _, q2, _⟩ := aFind_flat hq
  simp at q1
  rcases hE.get n with ⟨x1, x2⟩ | ⟨e1, e1', x1, x2, x3⟩
  · rw [x1] at q1; simp at q1
  · rw [x1] at q1; injection q1 with q1; subst q1
    simp [x1, x2, q2.eq x3.1]

theorem run_keyStays {old k : Value} (h : Instr.sameBits 10000 old k = true) (w : World) : (Instr.keyThatStays old k).run P w = .ok k w := by
  unfold Instr.keyThatStays; rw [if_pos h]; rfl

theorem aMapUpdate_sim (S : Sim F w0 j h w) {t : TypeId} {m m' k k' x x' : Value} (hm : VR j m m') (hk : VR j k k') (hx : VR j x x') {h' : AHeap}
    (e : aMapUpdate P t m k x h = some h') : ∃ w', (Instr.mapUpdate t m' k' x').run P w = .ok () w' ∧ Sim F w0 j h' w' := by
  unfold aMapUpdate at e
  split at e
  · rename_i kt et hu
    obtain ⟨⟨r, es, c⟩, hrow, e⟩ := bind_some' e
    obtain ⟨L, es', hj, hh, rfl, hw, hE, hL⟩ := mapRow_sim S hm hrow
    simp only at e
    split at e
    · rename_i hck
      obtain ⟨q, hq, e⟩ := bind_some' e
      obtain ⟨hkk, hck'⟩ := aCheckKey_sim hk hck
      subst hkk
      obtain ⟨q', h1, h2, h3⟩ := aFind_sim hE (aCheckKey_under hck) hq
      have hck2 := hck' w
      cases q with
      | none =>
        have := h2 rfl; subst this
        simp at e; subst e
        refine ⟨_, ?_, map_turn S hj hh hw hL (es2' := es'.push { key := k', val := x', born := c }) (c2 := c + 1) ?_⟩
        · simp only [Instr.mapUpdate, Sem.run_bind, run_underlying hu, Result.andThen_ok, run_getObj_map hw, hck2, h1]
          exact run_setObj' hw (by intro _ _ _ h; cases h)
        · simp; exact hE.app (.cons ⟨hk, hx, rfl⟩ .nil)
      | some p =>
        obtain ⟨n, v⟩ := p
        obtain ⟨v', rfl, hv⟩ := h3 n v rfl
        simp only at e
        split at e
        · rename_i hsb
          simp at e; subst e
          refine ⟨_, ?_, map_turn S hj hh hw hL (es2' := es'.modify n fun e => { e with key := k', val := x' }) (c2 := c) ?_⟩
          · have hsb' : Instr.sameBits 10000 (((es'[n]?).map (·.key)).getD k') k' = true := by
              have := sameKey (P := P) hE hq
              simp only [Array.getElem?_toList] at this
              rw [this]; exact hsb
            simp only [Instr.mapUpdate, Sem.run_bind, run_underlying hu, Result.andThen_ok, run_getObj_map hw, hck2, h1, run_keyStays hsb']
            exact run_setObj' hw (by intro _ _ _ h; cases h)
          · simp only [Array.toList_modify]
            exact hE.modify n (fun e e' he => ⟨hk, hx, he.2.2⟩)
        · simp at e
    · simp at e
  · simp at e

theorem aMapEntry_sim (S : Sim F w0 j h w) {t : TypeId} {m m' k k' r0 : Value} (hm : VR j m m') (hk : VR j k k') {h' : AHeap}
    (e : aMapEntry P t m k h = some (r0, h')) : ∃ r' w', VR j r0 r' ∧ (Instr.mapEntry t m' k').run P w = .ok r' w' ∧ Sim F w0 j h' w' := by
  unfold aMapEntry at e
  split at e
  · rename_i kt et hu
    obtain ⟨⟨r, es, c⟩, hrow, e⟩ := bind_some' e
    obtain ⟨L, es', hj, hh, rfl, hw, hE, hL⟩ := mapRow_sim S hm hrow
    simp only at e
    split at e
    · rename_i hck
      obtain ⟨q, hq, e⟩ := bind_some' e
      obtain ⟨hkk, hck'⟩ := aCheckKey_sim hk hck
      subst hkk
      obtain ⟨q', h1, h2, h3⟩ := aFind_sim hE (aCheckKey_under hck) hq
      have hck2 := hck' w
      cases q with
      | none =>
        have := h2 rfl; subst this
        simp only at e
        cases hz : aZero P et with
        | none => simp [hz] at e
        | some z =>
          simp [hz] at e
          obtain ⟨e1, e2⟩ := e; subst e1 e2
          have hz1 := run_zero' hz w
          refine ⟨.tuple #[z, goInt c], _, VR.tuple' (.cons (hz1.2.vr j) (.cons (.int _ _) .nil)), ?_, map_turn S hj hh hw hL (es2' := es'.push { key := k', val := z, born := c }) (c2 := c + 1) ?_⟩
          · simp only [Instr.mapEntry, Sem.run_bind, run_underlying hu, Result.andThen_ok, run_getObj_map hw, hck2, h1, hz1.1, run_setObj' hw (x := .map (es'.push { key := k', val := z, born := c }) (c + 1)) (by intro _ _ _ h; cases h), Sem.run_pure]
          · simp; exact hE.app (.cons ⟨hk, hz1.2.vr j, rfl⟩ .nil)
      | some p =>
        obtain ⟨n, v⟩ := p
        obtain ⟨v', rfl, hv⟩ := h3 n v rfl
        simp only at e
        split at e
        · rename_i hsb
          simp at e
          obtain ⟨e1, e2⟩ := e; subst e1 e2
          have hsb' : Instr.sameBits 10000 (((es'[n]?).map (·.key)).getD k') k' = true := by
            have := sameKey (P := P) hE hq
            simp only [Array.getElem?_toList] at this
            rw [this]; exact hsb
          have hborn : goInt (((es'[n]?).map (·.born)).getD 0) = goInt (((es[n]?).map (·.born)).getD 0) := by
            rcases hE.get n with ⟨x1, x2⟩ | ⟨e1, e1', x1, x2, x3⟩
            · simp at x2; simp [x1, x2]
            · simp only [Array.getElem?_toList] at x2; simp [x1, x2, x3.2.2]
          refine ⟨.tuple #[v', goInt (((es[n]?).map (·.born)).getD 0)], _, VR.tuple' (.cons hv (.cons (.int _ _) .nil)), ?_, map_turn S hj hh hw hL (es2' := es'.modify n fun e => { e with key := k' }) (c2 := c) ?_⟩
          · simp only [Instr.mapEntry, Sem.run_bind, run_underlying hu, Result.andThen_ok, run_getObj_map hw, hck2, h1, run_keyStays hsb', run_setObj' hw (x := .map (es'.modify n fun e => { e with key := k' }) c) (by intro _ _ _ h; cases h), Sem.run_pure, hborn]
          · simp only [Array.toList_modify]
            exact hE.modify n (fun e e' he => ⟨hk, he.2.1, he.2.2⟩)
        · simp at e
    · simp at e
  · simp at e

theorem ER.findIdx {es es' : List MapEntry} (h : ER j es es') (born : Int) :
    es'.findIdx? (fun e => (e.born : Int) == born) = es.findIdx? (fun e => (e.born : Int) == born) := by
  induction h with
  | nil => rfl
  | cons hr hl ih => simp only [List.findIdx?_cons, hr.2.2, ih]

theorem aEntryStore_sim (S : Sim F w0 j h w) {t : TypeId} {m m' s s' x x' : Value} (hm : VR j m m') (hs : VR j s s') (hx : VR j x x') {h' : AHeap}
    (e : aEntryStore m s x h = some h') : ∃ w', (Instr.entryStore t m' s' x').run P w = .ok () w' ∧ Sim F w0 j h' w' := by
  unfold aEntryStore at e
  split at e
  · rename_i ki born
    cases hs
    obtain ⟨⟨r, es, c⟩, hrow, e⟩ := bind_some' e
    obtain ⟨L, es', hj, hh, rfl, hw, hE, hL⟩ := mapRow_sim S hm hrow
    simp only at e
    split at e
    · rename_i i hi
      simp at e; subst e
      refine ⟨_, ?_, map_turn S hj hh hw hL (es2' := es'.modify i fun e => { e with val := x' }) (c2 := c) ?_⟩
      · have hi' : es'.findIdx? (fun e => (e.born : Int) == born) = some i := by
          rw [← Array.toArray_toList (xs := es'), List.findIdx?_toArray, hE.findIdx]; exact hi
        simp only [Instr.entryStore, Sem.run_bind, run_getObj_map hw, Result.andThen_ok, asInt, asIntOf, Sem.run_pure, hi']
        exact run_setObj' hw (by intro _ _ _ h; cases h)
      · simp only [Array.toList_modify]
        exact hE.modify i (fun e e' he => ⟨he.1, hx, he.2.2⟩)
    · simp at e
  · simp at e

theorem aDelete_sim (S : Sim F w0 j h w) {t ty : TypeId} {ts : Array TypeId} (ht : ts[0]? = some t) {m m' k k' : Value} (hm : VR j m m') (hk : VR j k k') {h' : AHeap}
    (e : aDelete P t m k h = some h') : ∃ w', (Builtin.delete_ ts ty #[m', k']).run P w = .ok undefV w' ∧ Sim F w0 j h' w' := by
  unfold aDelete at e
  split at e
  · rename_i kt et hu
    cases hm
    split at e
    · rename_i hck
      simp at e; subst e
      obtain ⟨hkk, hck'⟩ := aCheckKey_sim hk hck
      subst hkk
      exact ⟨w, by simp [Builtin.delete_, ht, run_underlying hu, hck', undefV], S⟩
    · simp at e
  · rename_i kt et hu hnot
    obtain ⟨⟨r, es, c⟩, hrow, e⟩ := bind_some' e
    obtain ⟨L, es', hj, hh, rfl, hw, hE, hL⟩ := mapRow_sim S hm hrow
    simp only at e
    split at e
    · rename_i hck
      obtain ⟨q, hq, e⟩ := bind_some' e
      obtain ⟨hkk, hck'⟩ := aCheckKey_sim hk hck
      subst hkk
      obtain ⟨q', h1, h2, h3⟩ := aFind_sim hE (aCheckKey_under hck) hq
      have hck2 := hck' w
      rw [← hE.isEmpty] at hck2
      have hck3 : (Instr.checkKey es'.isEmpty 10000 kt k').run P w = .ok () w := by simpa using hck2
      have hts : ts[0]? = some t := ht
      cases q with
      | none =>
        have := h2 rfl; subst this
        simp at e; subst e
        refine ⟨_, ?_, map_turn S hj hh hw hL (es2' := es') (c2 := c) hE⟩
        simp only [Builtin.delete_, hts, Sem.run_bind, run_underlying hu, Result.andThen_ok, run_getObj_map hw, hck3, h1, run_setObj' hw (x := .map es' c) (by intro _ _ _ h; cases h), Sem.run_pure, List.getElem?_toArray, List.getElem?_cons_zero, List.getElem?_cons_succ]
        rfl
      | some p =>
        obtain ⟨n, v⟩ := p
        obtain ⟨v', rfl, hv⟩ := h3 n v rfl
        simp at e; subst e
        refine ⟨_, ?_, map_turn S hj hh hw hL (es2' := es'.eraseIdxIfInBounds n) (c2 := c) ?_⟩
        · simp only [Builtin.delete_, hts, Sem.run_bind, run_underlying hu, Result.andThen_ok, run_getObj_map hw, hck3, h1, run_setObj' hw (x := .map (es'.eraseIdxIfInBounds n) c) (by intro _ _ _ h; cases h), Sem.run_pure, List.getElem?_toArray, List.getElem?_cons_zero, List.getElem?_cons_succ]
          rfl
        · have : (es'.eraseIdxIfInBounds n).toList = es'.toList.eraseIdx n := by
            rw [Array.toList_eraseIdxIfInBounds]
          rw [this]; exact hE.erase n
    · simp at e
  · simp at e

end Go.Fm
