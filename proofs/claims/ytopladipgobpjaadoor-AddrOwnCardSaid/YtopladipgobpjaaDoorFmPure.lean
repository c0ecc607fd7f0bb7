/-
  FmPure: what an operation without memory comes to, on abstract values; on related concrete values it comes to the related one.
-/
import Derived.Test.YtopladipgobpjaaDoorFmSim
namespace Go.Fm

/-- a tree of the model's that asks nothing of memory -/
def semPure (P : Program) {α : Type} : Sem α → Option α
  | .pure a => some a
  | .program k => semPure P (k P)
  | _ => none

theorem semPure_run {P : Program} {α : Type} {s : Sem α} {a : α} (h : semPure P s = some a) (w : World) : s.run P w = .ok a w := by
  induction s with
  | pure b => simp [semPure] at h; subst h; rfl
  | program k ih => simp only [semPure] at h; simpa [Sem.run] using ih P h
  | _ => simp [semPure] at h

def scalarB : Value → Bool
  | .bool _ | .int _ _ | .float _ _ | .complex _ _ _ | .string _ | .pointer none | .slice none _ _ | .map none | .chan none | .nilFunc | .nilIface => true
  | _ => false

def flat1 : Value → Bool
  | .iface _ v => scalarB v
  | v => scalarB v

def flatB : Value → Bool
  | .agg cs | .tuple cs => cs.toList.all flat1
  | v => flat1 v

theorem scalarB_flat {v : Value} (h : scalarB v = true) : Flat v := by
  cases v with
  | pointer a => cases a <;> simp [scalarB] at h; exact .pnil
  | slice a => cases a <;> simp [scalarB] at h; exact .snil _ _
  | map a => cases a <;> simp [scalarB] at h; exact .mnil
  | chan a => cases a <;> simp [scalarB] at h; exact .cnil
  | _ => first | (simp [scalarB] at h; done) | constructor

theorem flat1_flat {v : Value} (h : flat1 v = true) : Flat v := by
  cases v with
  | iface t x => exact .iface t (scalarB_flat h)
  | _ => exact scalarB_flat (by simpa [flat1] using h)

theorem flatB_flat {v : Value} (h : flatB v = true) : Flat v := by
  cases v with
  | agg cs =>
    refine .agg fun i v e => flat1_flat ?_
    simp only [flatB, List.all_eq_true] at h
    exact h v (by simpa using Array.mem_of_getElem? e)
  | tuple cs =>
    refine .tuple fun i v e => flat1_flat ?_
    simp only [flatB, List.all_eq_true] at h
    exact h v (by simpa using Array.mem_of_getElem? e)
  | _ => exact flat1_flat (by simpa [flatB] using h)

variable (P : Program)

def aIsAgg (t : TypeId) : Option Bool :=
  match P.underlying t with
  | some (.struct _) | some (.array _ _) => some true
  | some _ => some false
  | none => none

def aSize (t : TypeId) : Option Nat := (P.info? t).map (·.size)

def aZero (t : TypeId) : Option Value :=
  match (P.info? t).bind (·.zero) with
  | some z => if flatB z then some z else none
  | none => none

def aPart (t : TypeId) (cs : Array Value) (off : Nat) : Option Value :=
  match aIsAgg P t with
  | some true => (aSize P t).bind fun n => some (.agg (cs.extract off (off + n)))
  | some false => cs[off]?
  | none => none

def aNilCheck : Value → Option Value
  | .pointer none | .nilIface | .nilFunc => none
  | .func (.method _) _ _ => none
  | .chan (some _) => none
  | x => some x

def aFieldAddr (s : TypeId) (v : Value) (f : Nat) : Option Value :=
  match P.underlying s, v with
  | some (.struct fs), .pointer (some ⟨b, o, none⟩) =>
    match fs[f]? with
    | some fd => (aSize P fd.type).bind fun n => if n = 0 then none else some (.pointer (some ⟨b, o + fd.offset, none⟩))
    | none => none
  | _, _ => none

def aField (t : TypeId) (v : Value) (f : Nat) : Option Value :=
  match P.underlying t, v with
  | some (.struct fs), .agg cs =>
    match fs[f]? with
    | some fd => aPart P fd.type cs fd.offset
    | none => none
  | _, _ => none

def aIndex (t : TypeId) (v i : Value) : Option Value :=
  match P.underlying t, v, i with
  | some (.array len elem), .agg cs, .int _ n => if 0 ≤ n ∧ n < len then (aSize P elem).bind fun s => aPart P elem cs (n.toNat * s) else none
  | some .string, .string s, .int _ n => if 0 ≤ n then (s[n.toNat]?).map fun b => .int .u8 b.toNat else none
  | _, _, _ => none

def aIndexAddr (t : TypeId) (v i : Value) : Option Value :=
  match P.underlying t, v, i with
  | some (.array len elem), .pointer (some ⟨b, o, none⟩), .int _ n =>
    if 0 ≤ n ∧ n < len then (aSize P elem).bind fun s => some (.pointer (some ⟨b, o + n.toNat * s, none⟩)) else none
  | some (.slice elem), .slice (some ⟨b, o, _⟩) len _, .int _ n =>
    if 0 ≤ n ∧ n < len then (aSize P elem).bind fun s => some (.pointer (some ⟨b, o + n.toNat * s, none⟩)) else none
  | _, _, _ => none

/-- a bound of a slice expression: from 0 to y -/
def aBound (y : Nat) : Option Value → Nat → Option Nat
  | none, d => some d
  | some (.int _ n), _ => if 0 ≤ n ∧ n ≤ y then some n.toNat else none
  | some _, _ => none

def aSlice (t : TypeId) (v : Value) (lo hi mx : Option Value) : Option Value :=
  match P.underlying t, v with
  | some .string, .string s =>
    if mx.isSome then none else
    (aBound s.size hi s.size).bind fun h => (aBound h lo 0).bind fun l => some (.string (s.extract l h))
  | some (.slice elem), .slice (some ⟨b, o, sp⟩) len cap =>
    (aBound cap mx cap).bind fun m => (aBound m hi len).bind fun h => (aBound h lo 0).bind fun l => (aSize P elem).bind fun s =>
      if (mx.isSome && hi.isNone) || (len > cap) then none else
      if mx.isSome || sp.isNone then some (.slice (some ⟨b, o + l * s, none⟩) (h - l) (m - l))
      else if sp = some s then some (.slice (some ⟨b, o + l * s, sp⟩) (h - l) (m - l)) else none
  | some (.slice elem), .slice none len cap =>
    (aBound cap mx cap).bind fun m => (aBound m hi len).bind fun h => (aBound h lo 0).bind fun l => (aSize P elem).bind fun _ =>
      if mx.isSome && hi.isNone then none else some (.slice none (h - l) (m - l))
  | some (.array n elem), .pointer (some ⟨b, o, none⟩) =>
    (aBound n mx n).bind fun m => (aBound m hi n).bind fun h => (aBound h lo 0).bind fun l => (aSize P elem).bind fun s =>
      if mx.isSome && hi.isNone then none else some (.slice (some ⟨b, o + l * s, none⟩) (h - l) (m - l))
  | _, _ => none

def aExtract (v : Value) (i : Nat) : Option Value :=
  match v with
  | .tuple vs => vs[i]?
  | _ => none

def aMakeIface (t : TypeId) (v : Value) : Option Value :=
  match P.underlying t with
  | some (.interface _) => none
  | some _ => some (.iface t v)
  | none => none

def constB : Operand → Bool
  | .const _ => true
  | _ => false

/-- == and != on what is no plain value: pointers, slices, maps, functions, interfaces -/
def aSame (t : TypeId) (x y : Value) : Option Bool :=
  match P.underlying t, x, y with
  | some (.pointer _), .pointer (some _), .pointer none | some (.pointer _), .pointer none, .pointer (some _) => some false
  | some (.pointer e), .pointer (some ⟨b, o, none⟩), .pointer (some ⟨b', o', none⟩) =>
    if b = b' then (aSize P e).bind fun n => if n = 0 then none else some (o == o') else none
  | some (.slice _), .slice (some _) _ _, .slice none _ _ | some (.slice _), .slice none _ _, .slice (some _) _ _ => some false
  | some (.map _ _), .map (some _), .map none | some (.map _ _), .map none, .map (some _) => some false
  | some (.func _ _ _), .func _ _ _, .nilFunc | some (.func _ _ _), .nilFunc, .func _ _ _ => some false
  | some (.interface _), .iface _ _, .nilIface | some (.interface _), .nilIface, .iface _ _ => some false
  | some (.interface _), .iface t _, .iface u _ => if t = u then none else some false
  | _, _, _ => none

def aBin (op : BinOp) (t : TypeId) (x y : Operand) (a b : Value) : Option Value :=
  if flatB a && flatB b then semPure P (do eqGuard op t x y a b; binOp op t a b) else
  match op with
  | .eql => (aSame P t a b).map .bool
  | .neq => (aSame P t a b).map fun r => .bool !r
  | _ => none

def aUn (op : UnOp) (a : Value) : Option Value := if flatB a then semPure P (Op.unary op a) else none

def aConv (src dst : TypeId) (a : Value) : Option Value := if flatB a then semPure P (convert src dst a) else none

def aLen (t : TypeId) (v : Value) : Option Value :=
  match P.underlying t, v with
  | some .string, .string s => some (goInt s.size)
  | some (.array n _), _ => some (goInt n)
  | some (.pointer arr), _ =>
    match P.underlying arr with
    | some (.array n _) => some (goInt n)
    | _ => none
  | some (.slice _), .slice _ n _ => some (goInt n)
  | _, _ => none

def aAssertTo (_x : Value) (asserted : TypeId) (commaOk : Bool) (v : Value) (ok : Bool) : Option Value :=
  if ok then some (if commaOk then .tuple #[v, .bool true] else v)
  else if commaOk then (aZero P asserted).map fun z => .tuple #[z, .bool false] else none

def aTypeAssert (x : Value) (asserted : TypeId) (commaOk : Bool) : Option Value :=
  match P.underlying asserted, x with
  | some (.interface _), .nilIface => aAssertTo P x asserted commaOk x false
  | some (.interface want), .iface t _ =>
    match P.info? t with
    | some i => aAssertTo P x asserted commaOk x (Instr.missingMethod want i.methods).isNone
    | none => none
  | some _, .nilIface => aAssertTo P x asserted commaOk x false
  | some _, .iface t v => aAssertTo P x asserted commaOk v (decide (t = asserted))
  | _, _ => none

/-! ## they are sound -/

variable {P}
variable {j : Inj}

theorem run_sizeOf' {t : TypeId} {n : Nat} (h : aSize P t = some n) (w : World) : (sizeOf t).run P w = .ok n w := by
  unfold aSize at h
  cases hi : P.info? t with
  | none => simp [hi] at h
  | some i => simp [hi] at h; subst h; simp [sizeOf, typeInfo, hi]

theorem cellsOf_of {t : TypeId} {n : Nat} (h : aSize P t = some n) : P.cellsOf t = n := by
  unfold aSize at h; unfold Program.cellsOf; rw [h]; rfl

theorem run_zero' {t : TypeId} {z : Value} (h : aZero P t = some z) (w : World) : (zeroValue t).run P w = .ok z w ∧ Flat z := by
  unfold aZero at h
  cases hi : P.info? t with
  | none => simp [hi] at h
  | some i =>
    simp only [hi, Option.bind_some] at h
    cases hz : i.zero with
    | none => simp [hz] at h
    | some z' =>
      simp only [hz] at h
      split at h
      · rename_i hf
        simp at h; subst h
        exact ⟨by simp [zeroValue, typeInfo, hi, hz], flatB_flat hf⟩
      · simp at h

theorem aIsAgg_true {t : TypeId} (h : aIsAgg P t = some true) (w : World) : (isAgg t).run P w = .ok true w := by
  unfold aIsAgg at h
  split at h
  · rename_i fs hu; simp [isAgg, run_underlying hu]
  · rename_i n e hu; simp [isAgg, run_underlying hu]
  · simp at h
  · simp at h

theorem aIsAgg_false {t : TypeId} (h : aIsAgg P t = some false) (w : World) : (isAgg t).run P w = .ok false w := by
  unfold aIsAgg at h
  split at h
  · simp at h
  · simp at h
  · rename_i d h1 h2 hu
    unfold isAgg
    simp only [Sem.run_bind, run_underlying hu, Result.andThen_ok]
    cases d <;> simp_all
  · simp at h

theorem AR.get {x x' : Array Value} (h : AR j x x') {i : Nat} {v : Value} (e : x[i]? = some v) : ∃ v', x'[i]? = some v' ∧ VR j v v' := by
  have hlt : i < x.size := (Array.getElem?_eq_some_iff.1 e).1
  have hlt' : i < x'.size := by rw [← h.1]; exact hlt
  exact ⟨_, Array.getElem?_eq_getElem hlt', h.2 i _ _ e (Array.getElem?_eq_getElem hlt')⟩

theorem aPart_sim {t : TypeId} {cs cs' : Array Value} (hc : AR j cs cs') {off : Nat} {v : Value} (h : aPart P t cs off = some v) :
    ∃ v', VR j v v' ∧ ∀ w, (part t cs' off).run P w = .ok v' w := by
  unfold aPart at h
  split at h
  · rename_i ha
    cases hs : aSize P t with
    | none => simp [hs] at h
    | some n =>
      simp [hs] at h; subst h
      refine ⟨.agg (cs'.extract off (off + n)), VR.agg' ?_, fun w => by simp [part, aIsAgg_true ha, run_sizeOf' hs]⟩
      simp only [Array.toList_extract]
      exact (hc.toLR.drop _).take _
  · rename_i ha
    obtain ⟨v', h1, h2⟩ := hc.get h
    exact ⟨v', h2, fun w => by simp [part, aIsAgg_false ha, h1]⟩
  · simp at h

theorem aFieldAddr_sim {s : TypeId} {v v' r : Value} {f : Nat} (hv : VR j v v') (h : aFieldAddr P s v f = some r) :
    ∃ r', VR j r r' ∧ ∀ w, (Instr.fieldAt s v' f).run P w = .ok r' w := by
  unfold aFieldAddr at h
  split at h
  · rename_i fs b o hu
    cases hv with
    | ptr hj =>
      split at h
      · rename_i fd hf
        cases hs : aSize P fd.type with
        | none => simp [hs] at h
        | some n =>
          simp only [hs, Option.bind_some] at h
          split at h
          · simp at h
          · rename_i hn
            simp at h; subst h
            refine ⟨_, .ptr hj, fun w => ?_⟩
            simp [Instr.fieldAt, run_underlying hu, hf, Instr.sureAddr, fieldPlace, run_sizeOf' hs, hn, Addr.add_none, Nat.add_assoc]
      · simp at h
  · simp at h

theorem aField_sim {s : TypeId} {v v' r : Value} {f : Nat} (hv : VR j v v') (h : aField P s v f = some r) :
    ∃ r', VR j r r' ∧ ∀ w, (Instr.field s v' f).run P w = .ok r' w := by
  unfold aField at h
  split at h
  · rename_i fs cs hu
    cases hv with
    | agg h1 h2 =>
      split at h
      · rename_i fd hf
        obtain ⟨r', k1, k2⟩ := aPart_sim ⟨h1, h2⟩ h
        exact ⟨r', k1, fun w => by simp [Instr.field, run_underlying hu, hf, asAgg, k2]⟩
      · simp at h
  · simp at h

theorem aIndex_sim {s : TypeId} {v v' i i' r : Value} (hv : VR j v v') (hi : VR j i i') (h : aIndex P s v i = some r) :
    ∃ r', VR j r r' ∧ ∀ w, (Instr.index s v' i').run P w = .ok r' w := by
  unfold aIndex at h
  split at h
  · rename_i len elem cs k n hu
    cases hi
    cases hv with
    | agg h1 h2 =>
      split at h
      · rename_i hn
        cases hs : aSize P elem with
        | none => simp [hs] at h
        | some m =>
          simp only [hs, Option.bind_some] at h
          obtain ⟨r', k1, k2⟩ := aPart_sim ⟨h1, h2⟩ h
          exact ⟨r', k1, fun w => by simp [Instr.index, run_underlying hu, asIntOf, hn, run_sizeOf' hs, k2]⟩
      · simp at h
  · rename_i s k n hu
    cases hi; cases hv
    split at h
    · rename_i hn
      cases hb : s[n.toNat]? with
      | none => simp [hb] at h
      | some b =>
        simp [hb] at h; subst h
        exact ⟨_, .int _ _, fun w => by simp [Instr.index, run_underlying hu, asIntOf, hn, hb]⟩
    · simp at h
  · simp at h

theorem aIndexAddr_sim {s : TypeId} {v v' i i' r : Value} (hv : VR j v v') (hi : VR j i i') (h : aIndexAddr P s v i = some r) :
    ∃ r', VR j r r' ∧ ∀ w, (Instr.indexAt s v' i').run P w = .ok r' w := by
  unfold aIndexAddr at h
  split at h
  · rename_i len elem b o k n hu
    cases hi
    cases hv with
    | ptr hj =>
      split at h
      · rename_i hn
        cases hs : aSize P elem with
        | none => simp [hs] at h
        | some m =>
          simp [hs] at h; subst h
          exact ⟨_, .ptr hj, fun w => by simp [Instr.indexAt, run_underlying hu, asIntOf, Instr.sureAddr, hn, run_sizeOf' hs, Addr.add_none, Nat.add_assoc]⟩
      · simp at h
  · rename_i elem b o sp len c k n hu
    cases hi
    split at h
    · rename_i hn
      cases hs : aSize P elem with
      | none => simp [hs] at h
      | some m =>
        simp [hs] at h; subst h
        cases hv with
        | slice l c hj => exact ⟨_, .ptr hj, fun w => by simp [Instr.indexAt, run_underlying hu, asIntOf, hn, run_sizeOf' hs, Addr.add_none, Nat.add_assoc]⟩
        | oslice l c hj he hc => exact ⟨_, .ptr hj, fun w => by simp [Instr.indexAt, run_underlying hu, asIntOf, hn, run_sizeOf' hs, Addr.add_none, Nat.add_assoc]⟩
        | slice0 => omega
    · simp at h
  · simp at h

theorem aBound_sim {y y' : Nat} (hy : y ≤ y') {o o' : Option Value} (ho : ∀ v, o = some v → ∃ v', o' = some v' ∧ VR j v v') (hn : o = none → o' = none) {d d' n : Nat} (hd : o = none → d' = d)
    (c : BoundsCode) (h : aBound y o d = some n) :
    ∀ w, (match o' with | some v => Instr.sliceBound v y' c | none => (pure d' : Sem Nat)).run P w = .ok n w := by
  intro w
  cases o with
  | none => simp [aBound] at h; subst h; rw [hn rfl, hd rfl]; rfl
  | some v =>
    obtain ⟨v', rfl, hv⟩ := ho v rfl
    unfold aBound at h
    split at h
    · rename_i heq; simp at heq
    · rename_i k m heq
      injection heq with heq; subst heq
      cases hv
      split at h
      · rename_i hm
        simp at h; subst h
        simp [Instr.sliceBound, asIntOf, show 0 ≤ m ∧ m ≤ (y' : Int) from ⟨hm.1, by omega⟩]
      · simp at h
    · simp at h

def OR (j : Inj) (o o' : Option Value) : Prop := (∀ v, o = some v → ∃ v', o' = some v' ∧ VR j v v') ∧ (o = none → o' = none)

theorem OR.isSome {j : Inj} {o o' : Option Value} (h : OR j o o') : o'.isSome = o.isSome := by
  cases o with
  | none => rw [h.2 rfl]
  | some v => obtain ⟨v', rfl, _⟩ := h.1 v rfl; rfl

theorem sliceBounds_sim (b : Bool) {len cap cap' : Nat} (hcap : cap ≤ cap') {lo lo' hi hi' mx mx' : Option Value} (h1 : OR j lo lo') (h2 : OR j hi hi') (h3 : OR j mx mx')
    {m h l : Nat} (em : aBound cap mx cap = some m) (eh : aBound m hi len = some h) (el : aBound h lo 0 = some l) (hbad : (mx.isSome && hi.isNone) = false) :
    ∀ w, (Instr.sliceBounds b len cap' lo' hi' mx').run P w = .ok (l, h, if mx.isSome then m else cap') w := by
  intro w
  have l1 := fun (c : BoundsCode) => aBound_sim (P := P) (j := j) (y := h) (y' := h) (Nat.le_refl _) h1.1 h1.2 (d := 0) (d' := 0) (fun _ => rfl) c el
  cases mx with
  | none =>
    rw [h3.2 rfl]
    simp [aBound] at em; subst em
    have l2 := fun (c : BoundsCode) => aBound_sim (P := P) (j := j) (y := cap) (y' := cap') hcap h2.1 h2.2 (d := len) (d' := len) (fun _ => rfl) c eh
    have l1a := l1 .sliceB
    have l2a := l2 (if b then .sliceAcap else .sliceAlen)
    unfold Instr.sliceBounds
    simp only [Sem.run_bind, Option.isSome_none, Bool.false_eq_true, if_false]
    cases hi' with
    | none =>
      have l2b := l2a w
      simp at l2b
      cases lo' with
      | none => have := l1a w; simp at this; simp [this, l2b]
      | some v => have := l1a w; simp at this; simp [this, l2b]
    | some u =>
      have l2b := l2a w
      simp at l2b
      cases lo' with
      | none => have := l1a w; simp at this; simp [this, l2b]
      | some v => have := l1a w; simp at this; simp [this, l2b]
  | some mv =>
    obtain ⟨mv', rfl, hmv⟩ := h3.1 mv rfl
    have lm := aBound_sim (P := P) (j := j) (y := cap) (y' := cap') hcap h3.1 h3.2 (d := cap) (d' := cap) (fun _ => rfl) (if b then .slice3Acap else .slice3Alen) em w
    simp only at lm
    have l2 := aBound_sim (P := P) (j := j) (y := m) (y' := m) (Nat.le_refl _) h2.1 h2.2 (d := len) (d' := len) (fun _ => rfl) .slice3B eh w
    have l1a := l1 .slice3C w
    cases hi with
    | none => simp at hbad
    | some u =>
      obtain ⟨u', rfl, hu⟩ := h2.1 u rfl
      simp only at l2
      unfold Instr.sliceBounds
      simp only [Sem.run_bind, lm, Result.andThen_ok, l2, Option.isSome_some, if_true]
      cases lo' with
      | none => simp at l1a; simp [l1a]
      | some v => simp at l1a; simp [l1a]

theorem aBound_le {y : Nat} {o : Option Value} {d n : Nat} (hd : d ≤ y) (h : aBound y o d = some n) : n ≤ y := by
  unfold aBound at h
  split at h
  · simp at h; omega
  · split at h
    · simp at h; omega
    · simp at h
  · simp at h

theorem aSlice_sim {t : TypeId} {v v' r : Value} {lo lo' hi hi' mx mx' : Option Value} (hv : VR j v v') (h1 : OR j lo lo') (h2 : OR j hi hi') (h3 : OR j mx mx')
    (h : aSlice P t v lo hi mx = some r) : ∃ r', VR j r r' ∧ ∀ w, (Instr.sliceAt t v' lo' hi' mx').run P w = .ok r' w := by
  unfold aSlice at h
  split at h
  · rename_i s hu
    cases hv
    split at h
    · simp at h
    · rename_i hmx
      cases eh : aBound s.size hi s.size with
      | none => simp [eh] at h
      | some hh =>
        cases el : aBound hh lo 0 with
        | none => simp [eh, el] at h
        | some l =>
          simp [eh, el] at h; subst h
          have hm : mx = none := by simpa using hmx
          subst hm
          have hm' := h3.2 rfl
          subst hm'
          refine ⟨_, .string _, fun w => ?_⟩
          have := sliceBounds_sim (P := P) (j := j) false (Nat.le_refl s.size) h1 h2 h3 (m := s.size) (by simp [aBound]) eh el rfl w
          simp only [Option.isSome_none, Bool.false_eq_true, if_false] at this
          simp [Instr.sliceAt, Instr.slice, run_underlying hu, this]
  · rename_i elem b o sp len cap hu
    cases em : aBound cap mx cap with
    | none => simp [em] at h
    | some m =>
    cases eh : aBound m hi len with
    | none => simp [em, eh] at h
    | some hh =>
    cases el : aBound hh lo 0 with
    | none => simp [em, eh, el] at h
    | some l =>
    cases hs : aSize P elem with
    | none => simp [em, hs] at h
    | some s =>
    simp only [em, eh, el, hs, Option.bind_some] at h
    split at h
    · simp at h
    · rename_i hbad
      simp only [Bool.or_eq_true, decide_eq_true_eq, not_or, Bool.not_eq_true, Nat.not_lt, gt_iff_lt] at hbad
      obtain ⟨hbad, hlc⟩ := hbad
      have hmc : m ≤ cap := aBound_le (Nat.le_refl _) em
      have hlh : l ≤ hh := aBound_le (Nat.zero_le _) el
      have fin : ∀ (cap' : Nat) (a' : Addr) (_ : cap ≤ cap') (w : World), (Instr.sliceAt t (.slice (some a') len cap') lo' hi' mx').run P w =
          .ok (.slice (if (if mx.isSome then m else cap') = l then some a' else some (a'.add (l * s))) (hh - l) ((if mx.isSome then m else cap') - l)) w := by
        intro cap' a' hcc w
        have := sliceBounds_sim (P := P) (j := j) true hcc h1 h2 h3 em eh el hbad w
        simp [Instr.sliceAt, Instr.slice, run_underlying hu, this, run_sizeOf' hs]
      have hmnone : mx.isSome = false → m = cap := by
        intro hn; cases mx with
        | none => simpa [aBound] using em.symm
        | some _ => simp at hn
      split at h
      · -- exact
        rename_i hex
        simp at h; subst h
        cases hv with
        | slice _ _ hj =>
          refine ⟨_, ?_, fun w => fin cap _ (Nat.le_refl _) w⟩
          have hmm : (if mx.isSome then m else cap) = m := by split; rfl; rename_i hn; exact (hmnone (by simpa using hn)).symm
          rw [hmm]
          by_cases e : m = l
          · have hhl : hh - l = 0 := by have := aBound_le (y := m) (d := len) (o := hi) (n := hh); subst e; rcases Nat.lt_or_ge m hh with hx | hx
                                        · exfalso
                                          cases hi with
                                          | none =>
                                            simp [aBound] at eh; subst eh
                                            cases mx with
                                            | none => simp [aBound] at em; omega
                                            | some _ => simp at hbad
                                          | some hv => unfold aBound at eh; split at eh <;> simp_all; omega
                                        · omega
            rw [if_pos e, hhl, e, Nat.sub_self]; exact .slice0 _ _
          · rw [if_neg e, Addr.add_none, Nat.add_assoc]; exact .slice _ _ hj
        | oslice _ _ hj he hc =>
          have hsome : mx.isSome = true := by simpa using hex
          refine ⟨_, ?_, fun w => fin _ _ (Nat.le_add_right _ _) w⟩
          rw [if_pos hsome]
          by_cases e : m = l
          · have hhl : hh - l = 0 := by
              rcases Nat.lt_or_ge m hh with hx | hx
              · exfalso
                cases hi with
                | none => simp [hsome] at hbad
                | some hv => unfold aBound at eh; split at eh <;> simp_all; omega
              · omega
            rw [if_pos e, hhl, e, Nat.sub_self]; exact .slice0 _ _
          · rw [if_neg e, Addr.add_none, Nat.add_assoc]; exact .slice _ _ hj
        | slice0 a a' =>
          have hm0 : m = 0 := by omega
          have hh0 : hh = 0 := by
            cases hi with
            | none => simp [aBound] at eh; omega
            | some hv => unfold aBound at eh; split at eh <;> simp_all; omega
          have hl0 : l = 0 := by omega
          subst hm0 hh0 hl0
          refine ⟨_, ?_, fun w => fin 0 _ (Nat.le_refl _) w⟩
          have : (if mx.isSome = true then 0 else 0) = 0 := by split <;> rfl
          rw [this, if_pos rfl]; simp; exact .slice0 _ _
      · rename_i hex
        split at h
        · rename_i hsp
          simp at h; subst h; subst hsp
          have hn : mx.isSome = false := by simpa using hex
          have hm := hmnone hn
          subst hm
          cases hv with
          | oslice _ _ hj he hc =>
            rename_i L
            refine ⟨_, ?_, fun w => fin _ _ (Nat.le_add_right _ _) w⟩
            have hmm : (if mx.isSome = true then m else m + L.extra) = m + L.extra := by simp [hn]
            rw [hmm]
            have hh1 : hh ≤ m := by
              cases hi with
              | none => simp [aBound] at eh; omega
              | some hv => exact aBound_le hlc eh
            by_cases e : m + L.extra = l
            · have : L.extra = 0 := by omega
              rw [if_pos e, show m + L.extra - l = 0 by omega, show m - l = 0 by omega, show hh - l = 0 by omega]; exact .slice0 _ _
            · rw [if_neg e, Addr.add_none, Nat.add_assoc, show m + L.extra - l = (m - l) + L.extra by omega]
              refine .oslice _ _ hj he ?_
              rw [← hc, Nat.add_assoc, ← Nat.add_mul]; congr 2; omega
          | slice0 a a' =>
            have hh0 : hh = 0 := by
              cases hi with
              | none => simp [aBound] at eh; omega
              | some hv => unfold aBound at eh; split at eh <;> simp_all; omega
            have hl0 : l = 0 := by omega
            subst hh0 hl0
            refine ⟨_, ?_, fun w => fin 0 _ (Nat.le_refl _) w⟩
            have : (if mx.isSome = true then 0 else 0) = 0 := by split <;> rfl
            rw [this, if_pos rfl]; simp; exact .slice0 _ _
        · simp at h
  · rename_i elem len cap hu
    cases hv
    cases em : aBound cap mx cap with
    | none => simp [em] at h
    | some m =>
    cases eh : aBound m hi len with
    | none => simp [em, eh] at h
    | some hh =>
    cases el : aBound hh lo 0 with
    | none => simp [em, eh, el] at h
    | some l =>
    cases hs : aSize P elem with
    | none => simp [em, hs] at h
    | some s =>
    simp only [em, eh, el, hs, Option.bind_some] at h
    split at h
    · simp at h
    · rename_i hbad
      simp at h; subst h
      refine ⟨_, .snil _ _, fun w => ?_⟩
      have := sliceBounds_sim (P := P) (j := j) true (Nat.le_refl cap) h1 h2 h3 em eh el (by revert hbad; cases mx <;> cases hi <;> simp) w
      have hmm : (if mx.isSome then m else cap) = m := by
        split; rfl; rename_i hn
        cases mx with
        | none => simpa [aBound] using em
        | some _ => simp at hn
      rw [hmm] at this
      simp [Instr.sliceAt, Instr.slice, run_underlying hu, this, run_sizeOf' hs]
  · rename_i n elem b o hu
    cases hv with
    | ptr hj =>
    cases em : aBound n mx n with
    | none => simp [em] at h
    | some m =>
    cases eh : aBound m hi n with
    | none => simp [em, eh] at h
    | some hh =>
    cases el : aBound hh lo 0 with
    | none => simp [em, eh, el] at h
    | some l =>
    cases hs : aSize P elem with
    | none => simp [em, hs] at h
    | some s =>
    simp only [em, eh, el, hs, Option.bind_some] at h
    split at h
    · simp at h
    · rename_i hbad
      simp at h; subst h
      have := sliceBounds_sim (P := P) (j := j) false (Nat.le_refl n) h1 h2 h3 em eh el (by revert hbad; cases mx <;> cases hi <;> simp)
      have hmm : (if mx.isSome then m else n) = m := by
        split; rfl; rename_i hn
        cases mx with
        | none => simpa [aBound] using em
        | some _ => simp at hn
      rw [hmm] at this
      refine ⟨_, ?_, fun w => by simp [Instr.sliceAt, run_underlying hu, Instr.sureAddr, this, run_sizeOf' hs]; rfl⟩
      by_cases e : m = l
      · have hhm : hh ≤ m := by
          cases hi with
          | none =>
            simp [aBound] at eh; subst eh
            cases mx with
            | none => simp [aBound] at em; omega
            | some _ => simp at hbad
          | some hv => unfold aBound at eh; split at eh <;> simp_all; omega
        have hlh : l ≤ hh := aBound_le (Nat.zero_le _) el
        rw [if_pos e, show hh - l = 0 by omega, show m - l = 0 by omega]; exact .slice0 _ _
      · rw [if_neg e, Addr.add_none, Nat.add_assoc]; exact .slice _ _ hj
  · simp at h

end Go.Fm
