/-
  FmMem: operations that read memory, and operations that make memory.
-/
import Derived.Test.YtopladipgobpjaaDoorFmSim2
import Derived.Laws.BytesString
namespace Go.Fm

variable (P : Program)

def aLoad (t : TypeId) (v : Value) (h : AHeap) : Option Value :=
  match v with
  | .pointer (some a) =>
    match aIsAgg P t with
    | some true => (aSize P t).bind fun n => (aCells h a n).map fun l => .agg l.toArray
    | some false => aCell h a
    | none => none
  | _ => none

def keyEq (kt : TypeId) (k k' : Value) : Option Bool := semPure P (Op.equal kt k k')

/-- the place of a key among entries -/
def aFind (kt : TypeId) (k : Value) : List MapEntry → Nat → Option (Option (Nat × Value))
  | [], _ => some none
  | e :: es, i =>
    if flatB e.key then
      match keyEq P kt k e.key with
      | some true => some (some (i, e.val))
      | some false => aFind kt k es (i + 1)
      | none => none
    else none

def aCheckKey (empty : Bool) (kt : TypeId) (k : Value) : Bool := flatB k && (semPure P (Instr.checkKey empty 10000 kt k)).isSome

def aEntries (m : Value) (h : AHeap) : Option (List MapEntry) :=
  match m with
  | .map none => some []
  | .map (some r) => match h[r]? with
    | some (.map es _) => some es
    | _ => none
  | _ => none

def aLookup (t : TypeId) (m k : Value) (ok : Bool) (h : AHeap) : Option Value :=
  match P.underlying t with
  | some (.map kt et) =>
    (aEntries m h).bind fun es =>
      if aCheckKey P es.isEmpty kt k then
        (aFind P kt k es 0).bind fun
          | some (_, v) => some (if ok then .tuple #[v, .bool true] else v)
          | none => (aZero P et).map fun z => if ok then .tuple #[z, .bool false] else z
      else none
  | _ => none

def aLenMap (t : TypeId) (m : Value) (h : AHeap) : Option Value :=
  match P.underlying t with
  | some (.map _ _) => (aEntries m h).map fun es => goInt es.length
  | _ => none

def bytesOf? : List Value → Option (List UInt8)
  | [] => some []
  | .int .u8 n :: r => (bytesOf? r).map (UInt8.ofNat n.toNat :: ·)
  | _ => none

/-- the cells that a slice shows -/
def aView (size : Nat) (v : Value) (n : Nat) (h : AHeap) : Option (List Value) :=
  match v with
  | .slice (some ⟨b, o, _⟩) len _ => if n * size = 0 then some [] else if n ≤ len then aCells h ⟨b, o, none⟩ (n * size) else none
  | .slice none _ _ => some []
  | _ => none

/-- the place of a block's variable, for unsafe.Pointer and back -/
def aPlaceOk (b o : Nat) (t : TypeId) (h : AHeap) : Bool :=
  match h[b]?, aSize P t with
  | some (.cells c _), some (_ + 1) | some (.tcells c _ _), some (_ + 1) => Nat.blt o c.length
  | _, _ => false

def aConvRead (src dst : TypeId) (v : Value) (h : AHeap) : Option Value :=
  match P.underlying src, P.underlying dst with
  | some (.pointer t), some .unsafePointer =>
    match v with
    | .pointer none => some v
    | .pointer (some ⟨b, o, none⟩) => if aPlaceOk P b o t h then some v else none
    | _ => none
  | some .unsafePointer, some (.pointer u) =>
    match v with
    | .pointer none => some v
    | .pointer (some ⟨b, o, none⟩) =>
      match h[b]?, aSize P u with
      | some (.tcells c t _), some _ => if liesAt P P.depth t (c.length / P.cellsOf t) o u 1 then some v else none
      | _, _ => none
    | _ => none
  | some (.slice e), some .string =>
    match P.underlying e, v with
    | some (.int .u8), .slice _ n _ => (aView 1 v n h).bind fun l => (bytesOf? l).map fun bs => .string ⟨bs.toArray⟩
    | _, _ => none
  | _, _ => none

def aRead (ρ : Operand → Option Value) (h : AHeap) : Op → Option Value
  | .load t x => (ρ x).bind fun v => aLoad P t v h
  | .lookup t m k ok => (ρ m).bind fun mv => (ρ k).bind fun kv => aLookup P t mv kv ok h
  | .convert s d x => (ρ x).bind fun v => aConvRead P s d v h
  | .call { callee := .builtin .len, args := args, argTypes := argTypes } =>
    match args.toList, argTypes.toList with
    | [x], [t] => (ρ x).bind fun v => aLenMap P t v h
    | _, _ => none
  | _ => none

variable {P} {F : Nat → Nat → Prop} {w0 w : World} {j : Inj} {h : AHeap}

theorem aLoad_sim (S : Sim F w0 j h w) {t : TypeId} {v v' r : Value} (hv : VR j v v') (e : aLoad P t v h = some r) :
    ∃ r', VR j r r' ∧ (Instr.loadAt t v').run P w = .ok r' w := by
  unfold aLoad at e
  split at e
  · rename_i a
    cases hv with
    | ptr hj =>
      split at e
      · rename_i ha
        cases hs : aSize P t with
        | none => simp [hs] at e
        | some n =>
          simp only [hs, Option.bind_some] at e
          cases hc : aCells h ⟨_, _, none⟩ n with
          | none => rw [hc] at e; simp at e
          | some l =>
            rw [hc] at e; simp at e; subst e
            obtain ⟨l', h1, h2⟩ := aCells_sim (P := P) S (a := ⟨_, _, none⟩) hj hc
            exact ⟨.agg l'.toArray, VR.agg' (by simpa using h2), by simp [Instr.loadAt, Instr.sureAddr, loadVar, aIsAgg_true ha, run_sizeOf' hs, h1]⟩
      · rename_i ha
        obtain ⟨r', h1, h2⟩ := aCell_sim S (a := ⟨_, _, none⟩) hj e
        exact ⟨r', h2, by simp [Instr.loadAt, Instr.sureAddr, loadVar, aIsAgg_false ha, run_load, h1]⟩
      · simp at e
  · simp at e

/-! ## keys -/

theorem findAsking_run (kt : TypeId) (k : Value) : ∀ (es es' : List MapEntry) (i : Nat) (r : Option (Nat × Value)), ER j es es' → aFind P kt k es i = some r →
    ∃ r' : Option (Nat × Value), (∀ w, (Instr.findAsking kt k es' i).run P w = .ok r' w) ∧ (r = none → r' = none) ∧ (∀ n v, r = some (n, v) → ∃ v', r' = some (n, v') ∧ VR j v v')
  | [], _, i, r, hE, h => by cases hE; simp [aFind] at h; subst h; exact ⟨none, fun w => rfl, fun _ => rfl, fun n v h => by simp at h⟩
  | e :: es, _, i, r, hE, h => by
    cases hE with
    | cons hr hl =>
      rename_i e' es'
      simp only [aFind] at h
      split at h
      · rename_i hf
        have hk := (flatB_flat hf).eq hr.1
        split at h
        · rename_i hq
          simp at h; subst h
          refine ⟨some (i, e'.val), fun w => ?_, fun h => by simp at h, fun n v e => ⟨e'.val, ?_⟩⟩
          · have := semPure_run hq w
            simp only [Instr.findAsking, Sem.run_bind, hk, this, Result.andThen_ok]; rfl
          · injection e with e; injection e with e1 e2; subst e1 e2; exact ⟨rfl, hr.2.1⟩
        · rename_i hq
          obtain ⟨r', k1, k2⟩ := findAsking_run kt k es es' (i + 1) r hl h
          refine ⟨r', fun w => ?_, k2⟩
          have := semPure_run hq w
          simp only [Instr.findAsking, Sem.run_bind, hk, this, Result.andThen_ok]
          exact k1 w
        · simp at h
      · simp at h

theorem keyEq_now {kt : TypeId} {d : TypeDesc} (hu : P.underlying kt = some d) {k k' : Value} {b c : Bool} (h1 : Instr.sameNow d k k' = some b) (h2 : keyEq P kt k k' = some c) : c = b := by
  have h3 := semPure_run h2 default
  have h4 : ∃ d0, (Op.equalIn (d0 + 1) kt k k').run P default = .ok c default := ⟨9999, h3⟩
  obtain ⟨d0, h4⟩ := h4
  unfold Instr.sameNow at h1
  split at h1
  · rename_i ki k1 a k2 a'
    split at h1
    · rename_i hkk
      simp at h1
      simp [Op.equalIn, run_underlying hu, hkk] at h4
      rw [← h4, h1]
    · simp at h1
  · rename_i a a'
    simp at h1
    simp [Op.equalIn, run_underlying hu] at h4
    rw [← h4, h1]
  · rename_i a a'
    simp at h1
    simp [Op.equalIn, run_underlying hu] at h4
    rw [← h4, h1]
  · simp at h1

theorem findNow_same (kt : TypeId) {d : TypeDesc} (hu : P.underlying kt = some d) (k : Value) : ∀ (es es' : List MapEntry) (i : Nat) (r : Option (Nat × Value)) (q : Option (Nat × Value)),
    ER j es es' → aFind P kt k es i = some r → Instr.findNow d k es' i = some q → (r = none → q = none) ∧ (∀ n v, r = some (n, v) → ∃ v', q = some (n, v') ∧ VR j v v')
  | [], _, i, r, q, hE, h, hq => by
    cases hE; simp [aFind] at h; simp [Instr.findNow] at hq; subst h hq; exact ⟨fun _ => rfl, fun n v h => by simp at h⟩
  | e :: es, _, i, r, q, hE, h, hq => by
    cases hE with
    | cons hr hl =>
      rename_i e' es'
      simp only [aFind] at h
      split at h
      · rename_i hf
        have hk := (flatB_flat hf).eq hr.1
        simp only [Instr.findNow, hk] at hq
        cases hsn : Instr.sameNow d k e.key with
        | none => simp [hsn] at hq
        | some b =>
          simp only [hsn] at hq
          cases hke : keyEq P kt k e.key with
          | none => simp [hke] at h
          | some c =>
            have := keyEq_now hu hsn hke; subst this
            simp only [hke] at h
            cases c with
            | true =>
              simp at h hq; subst h hq
              exact ⟨fun h => by simp at h, fun n v e => ⟨e'.val, by injection e with e; injection e with e1 e2; subst e1 e2; exact ⟨rfl, hr.2.1⟩⟩⟩
            | false => exact findNow_same kt hu k es es' (i + 1) r q hl h hq
      · simp at h

theorem aFind_sim {kt : TypeId} {k : Value} {es es' : List MapEntry} {r : Option (Nat × Value)} (hE : ER j es es') (hk : P.underlying kt ≠ none) (h : aFind P kt k es 0 = some r) :
    ∃ r' : Option (Nat × Value), (∀ w, (Instr.findKey kt k es').run P w = .ok r' w) ∧ (r = none → r' = none) ∧ (∀ n v, r = some (n, v) → ∃ v', r' = some (n, v') ∧ VR j v v') := by
  obtain ⟨r1, k1, k2⟩ := findAsking_run kt k es es' 0 r hE h
  cases hu : P.underlying kt with
  | none => exact absurd hu hk
  | some d =>
    cases hn : Instr.findNow d k es' 0 with
    | some q =>
      have := findNow_same kt hu k es es' 0 r q hE h hn
      exact ⟨q, fun w => by simp [Instr.findKey, run_underlying hu, hn], this⟩
    | none =>
      exact ⟨r1, fun w => by
        have := k1 w
        simp [Instr.findKey, run_underlying hu, hn, this], k2⟩

theorem ER.length {es es' : List MapEntry} (h : ER j es es') : es.length = es'.length := by
  induction h with
  | nil => rfl
  | cons _ _ ih => simp [ih]

theorem ER.isEmpty {es es' : List MapEntry} (h : ER j es es') : es'.isEmpty = es.isEmpty := by cases h <;> rfl

theorem aEntries_sim (S : Sim F w0 j h w) {m m' : Value} (hm : VR j m m') {es : List MapEntry} (e : aEntries m h = some es) :
    ∃ es', ER j es es' ∧ ((m' = .map none ∧ es' = []) ∨ ∃ r clock, m' = .map (some r) ∧ w.heap[r]? = some (.map es'.toArray clock)) := by
  unfold aEntries at e
  split at e
  · cases hm; simp at e; subst e; exact ⟨[], .nil, .inl ⟨rfl, rfl⟩⟩
  · rename_i r
    cases hm with
    | map hj =>
      rename_i L
      split at e
      · rename_i es0 clock hh
        simp at e; subst e
        have := S.obj _ _ hj
        rw [hh] at this
        obtain ⟨es', k1, k2, _⟩ := this
        exact ⟨es'.toList, k2, .inr ⟨L.blk, clock, rfl, by simpa using k1⟩⟩
      · simp at e
  · simp at e

theorem aCheckKey_sim {b : Bool} {kt : TypeId} {k k' : Value} (hk : VR j k k') (h : aCheckKey P b kt k = true) : k' = k ∧ ∀ w, (Instr.checkKey b 10000 kt k').run P w = .ok () w := by
  unfold aCheckKey at h
  simp only [Bool.and_eq_true] at h
  have := (flatB_flat h.1).eq hk
  subst this
  refine ⟨rfl, fun w => ?_⟩
  obtain ⟨u, hu⟩ := Option.isSome_iff_exists.1 h.2
  exact semPure_run hu w

theorem aCheckKey_under {b : Bool} {kt : TypeId} {k : Value} (h : aCheckKey P b kt k = true) : P.underlying kt ≠ none := by
  intro hn
  unfold aCheckKey at h
  simp only [Bool.and_eq_true] at h
  obtain ⟨u, hu⟩ := Option.isSome_iff_exists.1 h.2
  have := semPure_run hu default
  have h2 : ∃ d0, (Instr.checkKey b (d0 + 1) kt k).run P default = .ok () default := ⟨9999, this⟩
  obtain ⟨d0, h2⟩ := h2
  simp [Instr.checkKey, underlying, hn, stuck] at h2

theorem aLookup_sim (S : Sim F w0 j h w) {t : TypeId} {m m' k k' r : Value} {ok : Bool} (hm : VR j m m') (hk : VR j k k') (e : aLookup P t m k ok h = some r) :
    ∃ r', VR j r r' ∧ (Instr.lookup t m' k' ok).run P w = .ok r' w := by
  unfold aLookup at e
  split at e
  · rename_i kt et hu
    obtain ⟨es, hes, e⟩ := bind_some' e
    obtain ⟨es', hE, hcase⟩ := aEntries_sim S hm hes
    split at e
    · rename_i hck
      obtain ⟨q, hq, e⟩ := bind_some' e
      obtain ⟨hkk, hck'⟩ := aCheckKey_sim hk hck
      subst hkk
      obtain ⟨q', h1, h2, h3⟩ := aFind_sim hE (aCheckKey_under hck) hq
      have hck2 := hck' w
      have hemp : es'.toArray.isEmpty = es.isEmpty := by rw [← hE.isEmpty]; simp
      cases q with
      | none =>
        have := h2 rfl; subst this
        cases hz : aZero P et with
        | none => simp [hz] at e
        | some z =>
          simp [hz] at e; subst e
          have hz1 := run_zero' hz w
          refine ⟨if ok then .tuple #[z, .bool false] else z, ?_, ?_⟩
          · split
            · exact VR.tuple' (.cons (hz1.2.vr j) (.cons (.bool _) .nil))
            · exact hz1.2.vr j
          · rcases hcase with ⟨rfl, rfl⟩ | ⟨r0, clock, rfl, hw⟩
            · cases hE
              simp only [List.isEmpty_nil] at hck2
              simp [Instr.lookup, run_underlying hu, hck2, h1, hz1.1]
            · simp only [Instr.lookup, Sem.run_bind, run_underlying hu, Result.andThen_ok, run_getObj_map hw, Sem.run_pure, hemp, hck2, h1, hz1.1]
      | some p =>
        obtain ⟨n, v⟩ := p
        obtain ⟨v', rfl, hv⟩ := h3 n v rfl
        simp at e; subst e
        refine ⟨if ok then .tuple #[v', .bool true] else v', ?_, ?_⟩
        · split
          · exact VR.tuple' (.cons hv (.cons (.bool _) .nil))
          · exact hv
        · rcases hcase with ⟨rfl, rfl⟩ | ⟨r0, clock, rfl, hw⟩
          · cases hE
            simp only [List.isEmpty_nil] at hck2
            simp [Instr.lookup, run_underlying hu, hck2, h1]
          · simp only [Instr.lookup, Sem.run_bind, run_underlying hu, Result.andThen_ok, run_getObj_map hw, Sem.run_pure, hemp, hck2, h1]
    · simp at e
  · simp at e

theorem aView_sim (S : Sim F w0 j h w) {size n : Nat} {v v' : Value} (hv : VR j v v') {l : List Value} (e : aView size v n h = some l) :
    ∃ l', (Builtin.firstCells size n v').run P w = .ok l'.toArray w ∧ LR j l l' := by
  unfold aView at e
  split at e
  · rename_i b o sp len cap
    split at e
    · rename_i hz
      simp at e; subst e
      refine ⟨[], ?_, .nil⟩
      have : ∀ a : Addr, (loadCells a (n * size)).run P w = .ok #[] w := fun a => by rw [hz]; rfl
      cases hv <;> simp [Builtin.firstCells, this]
    · rename_i hz
      split at e
      · rename_i hle
        cases hv with
        | slice _ _ hj =>
          obtain ⟨l', h1, h2⟩ := aCells_sim (P := P) S (a := ⟨b, o, none⟩) hj e
          exact ⟨l', by simpa [Builtin.firstCells] using h1, h2⟩
        | oslice _ _ hj _ _ =>
          obtain ⟨l', h1, h2⟩ := aCells_sim (P := P) S (a := ⟨b, o, none⟩) hj e
          exact ⟨l', by simpa [Builtin.firstCells] using h1, h2⟩
        | slice0 a a' =>
          have : n = 0 := by omega
          subst this; simp at hz
      · simp at e
  · cases hv; simp at e; subst e; exact ⟨[], rfl, .nil⟩
  · simp at e

theorem bytesOf_ints : ∀ {l : List Value} {bs : List UInt8}, bytesOf? l = some bs → ∃ ns : List Int, l = ns.map (Value.int .u8) ∧ bs = ns.map fun n => UInt8.ofNat n.toNat
  | [], bs, h => by simp [bytesOf?] at h; subst h; exact ⟨[], rfl, rfl⟩
  | v :: r, bs, h => by
    unfold bytesOf? at h
    split at h
    · rename_i heq; simp at heq
    · rename_i n r' heq
      injection heq with e1 e2; subst e1; subst e2
      cases hb : bytesOf? r with
      | none => simp [hb] at h
      | some q =>
        simp [hb] at h; subst h
        obtain ⟨ns, k1, k2⟩ := bytesOf_ints hb
        exact ⟨n :: ns, by simp [k1], by simp [k2]⟩
    · simp at h

theorem foldl_push (f : Int → UInt8) : ∀ (ns : List Int) (s : List UInt8), ns.foldl (fun (r : ByteArray) n => r.push (f n)) ⟨s.toArray⟩ = ⟨(s ++ ns.map f).toArray⟩
  | [], s => by simp
  | n :: ns, s => by
    simp only [List.foldl_cons]
    have : (ByteArray.mk s.toArray).push (f n) = ⟨(s ++ [f n]).toArray⟩ := by simp [ByteArray.push]
    rw [this, foldl_push f ns]
    simp

/-! ## unsafe.Pointer -/

theorem rowAt_mono (p : Program) (fits : TypeId → Bool) : ∀ (d : Nat) (e : TypeId) (c c' off n : Nat), c ≤ c' → rowAt p fits d e c off n = true → rowAt p fits d e c' off n = true
  | 0, _, _, _, _, _, _, h => by simp [rowAt] at h
  | d + 1, e, c, c', off, n, hc, h => by
    unfold rowAt at h ⊢
    simp only at h ⊢
    split at h
    · simp at h
    · rename_i hs
      rw [if_neg hs]
      simp only [Bool.or_eq_true, Bool.and_eq_true, decide_eq_true_eq] at h ⊢
      rcases h with ⟨⟨h1, h2⟩, h3⟩ | ⟨h1, h2⟩
      · exact .inl ⟨⟨h1, by omega⟩, h3⟩
      · exact .inr ⟨by omega, h2⟩

theorem liesAt_mono (p : Program) : ∀ (d : Nat) (e : TypeId) (c c' off : Nat) (u : TypeId) (n : Nat), c ≤ c' → liesAt p d e c off u n = true → liesAt p d e c' off u n = true
  | 0, _, _, _, _, _, _, _, h => by simp [liesAt] at h
  | d + 1, e, c, c', off, u, n, hc, h => by
    unfold liesAt at h ⊢
    simp only [Bool.or_eq_true] at h ⊢
    rcases h with h | h
    · exact .inl (rowAt_mono p _ _ _ _ _ _ _ hc h)
    · right
      split at h
      · exact liesAt_mono p d e c c' off _ _ hc h
      · simp at h

section
variable {B o : Nat} {d : Array Value} {T : TypeId} {f : Nat × Nat}

theorem run_viewAt (hb : w.heap[B]? = some (.cells d T f)) : (viewAt B).run P w = .ok none w := by
  simp [viewAt, shape, Sem.run, World.shape?, hb]

theorem run_seenAt (hb : w.heap[B]? = some (.cells d T f)) : (Conv.seenAt ⟨B, o, none⟩).run P w = .ok ⟨B, o, none⟩ w := by
  simp [Conv.seenAt, run_viewAt hb]

theorem run_cellsIn (hb : w.heap[B]? = some (.cells d T f)) : (cellsIn B).run P w = .ok (some d.size) w := by
  simp [cellsIn, shape, Sem.run, World.shape?, hb]

theorem run_variablesAt (hb : w.heap[B]? = some (.cells d T f)) (u : TypeId) (n : Nat) : (variablesAt ⟨B, o, none⟩ u n).run P w = .ok (liesAt P P.depth T (d.size / P.cellsOf T) o u n) w := by
  simp [variablesAt, program, shape, Sem.run, World.shape?, hb]
end

theorem aPlaceOk_obj (S : Sim F w0 j h w) {b o : Nat} {t : TypeId} {L : Loc} (hj : j b = some L) (e : aPlaceOk P b o t h = true) :
    ∃ d T f n, w.heap[L.blk]? = some (.cells d T f) ∧ L.off + o < d.size ∧ aSize P t = some (n + 1) := by
  have hob := S.obj _ _ hj
  unfold aPlaceOk at e
  split at e
  · rename_i c ro n hc hs
    rw [hc] at hob
    obtain ⟨d, T, f, h1, h2, h3, _⟩ := hob
    have : o < c.length := by simpa using e
    exact ⟨d, T, f, n, h1, by unfold Loc.ext at h3; omega, hs⟩
  · rename_i c t2 z n hc hs
    rw [hc] at hob
    obtain ⟨d, f, h1, h2, h3, _⟩ := hob
    have : o < c.length := by simpa using e
    exact ⟨d, _, f, n, h1, by unfold Loc.ext at h3; omega, hs⟩
  · simp at e

theorem tcells_lies (S : Sim F w0 j h w) {b o : Nat} {L : Loc} (hj : j b = some L) {c : List Value} {t u : TypeId} {z : Option Nat} {n : Nat} (hc : h[b]? = some (.tcells c t z))
    (e : liesAt P P.depth t (c.length / P.cellsOf t) o u n = true) :
    ∃ d f, w.heap[L.blk]? = some (.cells d t f) ∧ L.off = 0 ∧ c.length ≤ d.size ∧ fzOk z f d.size ∧ (variablesAt ⟨L.blk, L.off + o, none⟩ u n).run P w = .ok true w := by
  have hob := S.obj _ _ hj
  rw [hc] at hob
  obtain ⟨d, f, h1, h2, h3, h4, h5, h6, h7⟩ := hob
  have hle : c.length ≤ d.size := by rw [h7, h2]; unfold Loc.ext; omega
  refine ⟨d, f, h1, h6, hle, h5, ?_⟩
  rw [run_variablesAt h1, h6, Nat.zero_add, liesAt_mono P _ _ _ _ _ _ _ (Nat.div_le_div_right hle) e]

theorem aConvRead_sim (S : Sim F w0 j h w) {src dst : TypeId} {v v' r : Value} (hv : VR j v v') (e : aConvRead P src dst v h = some r) :
    ∃ r', VR j r r' ∧ (convert src dst v').run P w = .ok r' w := by
  unfold aConvRead at e
  split at e
  · rename_i t hs hd
    split at e
    · simp at e; subst e; cases hv
      exact ⟨_, .pnil, by simp [convert, run_underlying hs, run_underlying hd, Conv.unsafePointer]⟩
    · rename_i b o
      split at e
      · rename_i hok
        simp at e; subst e
        cases hv with
        | ptr hj =>
          rename_i L
          obtain ⟨d, T, f, n, h1, h2, h3⟩ := aPlaceOk_obj S hj hok
          refine ⟨_, .ptr hj, ?_⟩
          have h4 : ¬ d.size ≤ L.off + o := by omega
          simp [convert, run_underlying hs, run_underlying hd, Conv.unsafePointer, run_seenAt h1, run_cellsIn h1, run_sizeOf' h3, h4]
      · simp at e
    · simp at e
  · rename_i u hs hd
    split at e
    · simp at e; subst e; cases hv
      exact ⟨_, .pnil, by simp [convert, run_underlying hs, run_underlying hd, Conv.unsafePointer]⟩
    · rename_i b o
      split at e
      · rename_i c t z n hc hs2
        split at e
        · rename_i hok
          simp at e; subst e
          cases hv with
          | ptr hj =>
            rename_i L
            obtain ⟨d, f, h1, h2, h3, h4, h5⟩ := tcells_lies (P := P) S hj hc hok
            refine ⟨_, .ptr hj, ?_⟩
            simp [convert, run_underlying hs, run_underlying hd, Conv.unsafePointer, run_seenAt h1, run_sizeOf' hs2, h5]
        · simp at e
      · simp at e
    · simp at e
  · rename_i el hs hd
    split at e
    · rename_i a n c he
      obtain ⟨l, hl, e⟩ := bind_some' e
      cases hb : bytesOf? l with
      | none => simp [hb] at e
      | some bs =>
        simp [hb] at e; subst e
        refine ⟨_, .string _, ?_⟩
        obtain ⟨l', h1, h2⟩ := aView_sim (P := P) S hv hl
        obtain ⟨ns, k1, k2⟩ := bytesOf_ints hb
        subst k1 k2
        have hll : l' = ns.map (Value.int .u8) := by
          clear h1 hl hb e
          induction ns generalizing l' with
          | nil => cases h2; rfl
          | cons n ns ih => cases h2 with | cons hv hl => cases hv; simp [ih _ hl]
        subst hll
        have key : ∀ (a' : Option Addr) (c' : Nat), v' = .slice a' n c' → (convert src dst v').run P w = .ok (.string ⟨(ns.map fun n => UInt8.ofNat n.toNat).toArray⟩) w := by
          intro a' c' hv'
          subst hv'
          cases a' with
          | none =>
            have : ns = [] := by
              simp [Builtin.firstCells] at h1
              cases ns with
              | nil => rfl
              | cons _ _ => simp at h1
            subst this
            simp [convert, run_underlying hs, run_underlying hd, run_underlying he, Conv.bytesToString, ByteArray.empty, ByteArray.emptyWithCapacity]
            rfl
          | some a' =>
            have h3 : (loadCells a' n).run P w = .ok (ns.map (Value.int .u8)).toArray w := by simpa [Builtin.firstCells] using h1
            have := run_bytesToString (P := P) w a' n c' ns h3
            simp only [convert, Sem.run_bind, run_underlying hs, run_underlying hd, run_underlying he, Result.andThen_ok, this]
            have h4 := foldl_push (fun n : Int => UInt8.ofNat n.toNat) ns []
            simp only [List.nil_append] at h4
            rw [← h4]; rfl
        cases hv with
        | snil => exact key _ _ rfl
        | slice => exact key _ _ rfl
        | oslice => exact key _ _ rfl
        | slice0 => exact key _ _ rfl
    · simp at e
  · simp at e

theorem aLenMap_sim (S : Sim F w0 j h w) {t ty : TypeId} {m m' r : Value} (hm : VR j m m') (e : aLenMap P t m h = some r) :
    VR j r r ∧ (Builtin.len_ #[t] ty #[m']).run P w = .ok r w := by
  unfold aLenMap at e
  split at e
  · rename_i kt et hu
    cases hes : aEntries m h with
    | none => simp [hes] at e
    | some es =>
      simp [hes] at e; subst e
      obtain ⟨es', hE, hcase⟩ := aEntries_sim S hm hes
      refine ⟨.int _ _, ?_⟩
      rcases hcase with ⟨rfl, rfl⟩ | ⟨r0, clock, rfl, hw⟩
      · cases hE; simp [Builtin.len_, run_underlying hu]
      · simp [Builtin.len_, run_underlying hu, run_getObj_map hw, hE.length]
  · simp at e

variable {ρ : Operand → Option Value} {ρ' : Operand → Value}

theorem aRead_sim (S : Sim F w0 j h w) (hr : RR j ρ ρ') (o : Oper) {r : Value} (e : aRead P ρ h o.op = some r) :
    ∃ r', VR j r r' ∧ (execOp ρ' o).run P w = .ok (.value r') w := by
  obtain ⟨dst, op, type, pos, after, guard⟩ := o
  simp only at e
  unfold aRead at e
  split at e
  · rename_i t x
    obtain ⟨v, hv, e⟩ := bind_some' e
    obtain ⟨r', k1, k2⟩ := aLoad_sim S (hr _ _ hv) e
    exact ⟨r', k1, run_val k2⟩
  · rename_i t m k ok
    obtain ⟨mv, hm, e⟩ := bind_some' e
    obtain ⟨kv, hk, e⟩ := bind_some' e
    obtain ⟨r', k1, k2⟩ := aLookup_sim S (hr _ _ hm) (hr _ _ hk) e
    exact ⟨r', k1, run_val k2⟩
  · rename_i s d x
    obtain ⟨v, hv, e⟩ := bind_some' e
    obtain ⟨r', k1, k2⟩ := aConvRead_sim S (hr _ _ hv) e
    exact ⟨r', k1, run_val k2⟩
  · rename_i args argTypes
    split at e
    · rename_i x t hx ht
      obtain ⟨v, hv, e⟩ := bind_some' e
      obtain ⟨k1, k2⟩ := aLenMap_sim (ty := type) S (hr _ _ hv) e
      refine ⟨r, k1, ?_⟩
      have e1 : args = #[x] := Array.ext' hx
      have e2 : argTypes = #[t] := Array.ext' ht
      subst e1 e2
      simp [execOp, resolve, invoke, builtin, k2]
    · simp at e
  · simp at e

end Go.Fm
