/-
  FmRead: what a row's reading says of an argument's cells: types without pointers.
-/
import Derived.Test.YtopladipgobpjaaDoorFmRow
import Derived.ProofKit
namespace Go.Fm
open Go.ChangeShapes Go.WideShapes Go.ChangeAt Go.RowKit

inductive CK where
  | bool
  | int (k : IntKind)
  | str

def CK.ok : CK → Value → Prop
  | .bool, v => ∃ b, v = .bool b
  | .int k, v => ∃ n, v = .int k n ∧ (Lit.int k n).wf = true
  | .str, v => ∃ s : ByteArray, v = .string s ∧ s.size ≤ maxLen

inductive CKs : List CK → List Value → Prop
  | nil : CKs [] []
  | cons {k : CK} {v : Value} {ks : List CK} {vs : List Value} : k.ok v → CKs ks vs → CKs (k :: ks) (v :: vs)

theorem CKs.app {a b : List CK} {x y : List Value} (h : CKs a x) (h' : CKs b y) : CKs (a ++ b) (x ++ y) := by
  induction h with
  | nil => exact h'
  | cons h1 _ ih => exact .cons h1 ih

theorem CKs.length {a : List CK} {x : List Value} (h : CKs a x) : x.length = a.length := by
  induction h with
  | nil => rfl
  | cons _ _ ih => simp [ih]

theorem CK.ok_flat {k : CK} {v : Value} (h : k.ok v) : Flat v := by
  cases k with
  | bool => obtain ⟨b, rfl⟩ := h; exact .bool b
  | int k => obtain ⟨n, rfl, _⟩ := h; exact .int k n
  | str => obtain ⟨s, rfl, _⟩ := h; exact .string s

theorem CKs.flat {a : List CK} {x : List Value} (h : CKs a x) : ∀ v ∈ x, Flat v := by
  induction h with
  | nil => intro v hv; simp at hv
  | cons h1 _ ih =>
    intro v hv
    rcases List.mem_cons.1 hv with rfl | hv
    · exact CK.ok_flat h1
    · exact ih v hv

def fieldsK (P : Program) (g : TypeId → Option (List CK)) : List Field → Nat → Option (List CK)
  | [], _ => some []
  | f :: r, off =>
    if f.offset = off then (g f.type).bind fun ks => if ks.length = P.cellsOf f.type then (fieldsK P g r (off + ks.length)).map (ks ++ ·) else none else none

def repK : Nat → List CK → List CK
  | 0, _ => []
  | n + 1, ks => ks ++ repK n ks

def kindsOf (P : Program) : Nat → TypeId → Option (List CK)
  | 0, _ => none
  | n + 1, t => match P.underlying t with
    | some .bool => some [.bool]
    | some (.int k) => some [.int k]
    | some .string => some [.str]
    | some (.struct fs) => (fieldsK P (kindsOf P n) fs.toList 0).bind fun ks => if ks.length = P.cellsOf t then some ks else none
    | some (.array m e) => (kindsOf P n e).bind fun ks => if ks.length = P.cellsOf e ∧ m * ks.length = P.cellsOf t then some (repK m ks) else none
    | _ => none

theorem repK_length (n : Nat) (ks : List CK) : (repK n ks).length = n * ks.length := by
  induction n with
  | zero => simp [repK]
  | succ n ih => simp [repK, ih, Nat.succ_mul, Nat.add_comm]

section
variable {H : Type} {enc : TypeId × Value → H} {P : Program}

/-- what a row asks behind the call, where nothing that was there has turned -/
theorem post_of_below {f : Func} {s : ChangeSpec} {apart fresh handsOn again : Bool} {W W' : World} {args : Array Value} {v : Value} {ds gs : List (DataW H)} {before pa pv : List MemPlace}
    (hW : DataW.Whole enc P f.params.toList s.vars apart W args.toList ds gs before)
    (hres : ∀ (b : Nat) (sp : Nat → Bool) (hd : Bool), DataW.TrodAll enc P W' b sp hd f.resultTypes.toList (v.resultList f.resultTypes.size) (s.fn H (ds ++ gs)).results [])
    (hargs : ∀ sp : Nat → Bool, (∀ p ∈ before, sp p.block = true) → DataW.TrodAll enc P W' 0 sp true f.params.toList args.toList (s.fn H (ds ++ gs)).args pa)
    (hvars : ∀ sp : Nat → Bool, (∀ p ∈ before, sp p.block = true) → DataW.TrodVars enc P W' sp s.vars (s.fn H (ds ++ gs)).vars pv)
    (hps : before = pa ++ pv) (hb : Go.RowKit.Below W.heap.size W W')
    (hok : ∀ (j : Nat) (t : TypeId) (r : Value), f.resultTypes[j]? = some t → (v.resultList f.resultTypes.size)[j]? = some r → Value.okWide P W' .any 0 t r) :
    s.post enc P f apart fresh handsOn again W args v W' := by
  have hold : ∀ p ∈ before, (fun b => decide (b < W.heap.size)) p.block = true := fun p hp => by simpa using hW.lt p hp
  have hlt := hW.lt
  refine ⟨ds, gs, before, [], pa, pv, hW, hres _ _ _, hargs _ hold, hvars _ hold, World.keptBut_mono (fun p hp => ⟨hp, ?_⟩) (hb.frame (· ∈ before)), fun _ => ?_⟩
  · rw [hps, List.mem_append] at hp
    exact Or.inr hp
  · obtain ⟨_, _, _, _, _, hz, hn⟩ := hW
    refine ⟨hok, _, _, ([] ++ pa) ++ pv, ⟨[] ++ pa, pv, trodAll_append (hargs _ (fun _ _ => rfl)) (hres _ _ _), hvars _ (fun _ _ => rfl), rfl, ?_, ?_⟩, ?_⟩
    · intro b off hp
      have hp' : MemPlace.cell b off ∈ before := by rw [hps]; simpa using hp
      rw [hb.frozen (p := ⟨b, off, none⟩) (hlt _ hp')]
      exact hz b off hp'
    · intro ha
      have := hn ha
      rw [hps] at this
      simpa using this
    · intro p hp _
      rw [hps]
      simpa using hp

/-- where nothing that was there has turned, all arguments read as they did -/
theorem trodAll_below (hl : laidOutB P = true) {W W' : World} (hb : Go.RowKit.Below W.heap.size W W') {sp : Nat → Bool} : ∀ {ts : List TypeId} {vs : List Value} {ds : List (DataW H)} {ps : List MemPlace},
    ts.all (fun t => P.readableRec t && decide (t < P.types.size)) = true → DataW.TrodAll enc P W 0 (fun _ => true) true ts vs ds ps → (∀ x ∈ ps, x.block < W.heap.size) → (∀ x ∈ ps, sp x.block = true) → DataW.TrodAll enc P W' 0 sp true ts vs ds ps
  | [], _, _, _, _, h, _, _ => by
    obtain ⟨rfl, rfl, rfl⟩ := trodAll_nil h
    exact trodAll_mk0
  | t :: ts, _, _, _, hr, h, hlt, hsp => by
    obtain ⟨v, vs1, d, ds1, a, b, rfl, rfl, rfl, h1, h2⟩ := trodAll_cons h
    simp only [List.all_cons, Bool.and_eq_true, decide_eq_true_eq] at hr
    refine ⟨a, b, WideElems.Trod_stays hl hr.1.1 hr.1.2 h1 (fun x hx => hb.same (hlt x (by simp [hx]))) (fun x hx => hsp x (by simp [hx])), ?_, rfl⟩
    exact trodAll_below hl hb hr.2 h2 (fun x hx => hlt x (by simp [hx])) (fun x hx => hsp x (by simp [hx]))

/-- a row that says 'true, and the arguments read as they did', out of a call that returns true and turns nothing that was there -/
theorem close_row {f : FuncId} {fn : Func} {s : ChangeSpec} {apart fresh handsOn again : Bool} {W : World} {args : Array Value} {ds gs : List (DataW H)} {before : List MemPlace} {tb : TypeId} (hW : DataW.Whole enc P fn.params.toList s.vars apart W args.toList ds gs before)
    (hv : s.vars = []) (hfn : s.fn H (ds ++ gs) = { results := [.lit (.bool true)], args := ds, vars := [] }) (hl : laidOutB P = true) (hr : fn.params.toList.all (fun t => P.readableRec t && decide (t < P.types.size)) = true) (hres : fn.resultTypes = #[tb])
    (hb : P.underlying tb = some .bool) (hc : Calls P f args W fun e W' => e = .returned (.bool true) ∧ Go.RowKit.Below W.heap.size W W') :
    Calls P f args W fun e W' => ∃ v, e = .returned v ∧ s.post enc P fn apart fresh handsOn again W args v W' := by
  refine hc.mono ?_
  rintro e W' ⟨rfl, hbel⟩
  have hlt := hW.lt
  have hW' := hW
  obtain ⟨p, q, hA, hV, rfl, hz, hn⟩ := hW
  rw [hv] at hV
  obtain ⟨rfl, rfl⟩ := trodVars_none hV
  refine ⟨_, rfl, post_of_below (pa := p) (pv := []) hW' ?_ ?_ ?_ rfl hbel (ok_one hres rfl (okWide_bool_mk hb true))⟩
  · intro b sp hd
    rw [hfn, hres]
    exact trodAll_mk1 (shut_bool hb true)
  · intro sp hsp
    rw [hfn]
    exact trodAll_below hl hbel hr hA (fun x hx => hlt x (by simp [hx])) (fun x hx => hsp x (by simp [hx]))
  · intro sp _
    rw [hfn, hv]
    rfl

variable {W : World} {base : Nat} {sp : Nat → Bool} {held : Bool}

theorem take_both (cs : List Value) (off a b : Nat) : (cs.drop off).take (a + b) = (cs.drop off).take a ++ (cs.drop (off + a)).take b := by
  rw [List.take_add, List.drop_drop]

theorem fieldsK_sound {m : Nat} {g : TypeId → Option (List CK)} (hg : ∀ t ks cs d ps, g t = some ks → DataW.trod enc P W base sp held m t cs = some (d, ps) → CKs ks cs ∧ ps = []) {cs : List Value} : ∀ (fs : List Field) (off : Nat) (ks : List CK) (xs : List (DataW H × List MemPlace)),
    fieldsK P g fs off = some ks → fs.mapM (fun f => DataW.trod enc P W base sp held m f.type ((cs.drop f.offset).take (P.cellsOf f.type))) = some xs → CKs ks ((cs.drop off).take ks.length) ∧ ∀ x ∈ xs, x.2 = []
  | [], off, ks, xs, h1, h2 => by
    simp [fieldsK] at h1; subst h1
    simp at h2; subst h2
    exact ⟨by simpa using CKs.nil, by simp⟩
  | f :: r, off, ks, xs, h1, h2 => by
    simp only [fieldsK] at h1
    split at h1
    · rename_i hoff
      obtain ⟨kf, hkf, h1⟩ := bind_some' h1
      split at h1
      · rename_i hlen
        obtain ⟨kr, hkr, rfl⟩ := Option.map_eq_some_iff.1 h1
        rw [List.mapM_cons] at h2
        simp only [bind, Option.bind_eq_some_iff, pure, Option.some.injEq] at h2
        obtain ⟨y, hy, ys, hys, rfl⟩ := h2
        obtain ⟨i1, i2⟩ := fieldsK_sound hg r _ kr ys hkr hys
        obtain ⟨j1, j2⟩ := hg _ _ _ _ _ hkf hy
        rw [hoff, ← hlen] at j1
        refine ⟨?_, ?_⟩
        · rw [List.length_append, take_both]
          exact j1.app i1
        · intro x hx
          rcases List.mem_cons.1 hx with rfl | hx
          · exact j2
          · exact i2 x hx
      · simp at h1
    · simp at h1

theorem repK_sound {m : Nat} {e : TypeId} {ke : List CK} (hg : ∀ cs d ps, DataW.trod enc P W base sp held m e cs = some (d, ps) → CKs ke cs ∧ ps = []) (hl : ke.length = P.cellsOf e) {cs : List Value} : ∀ (n i0 : Nat) (xs : List (DataW H × List MemPlace)),
    (List.range' i0 n).mapM (fun i => DataW.trod enc P W base sp held m e ((cs.drop (i * P.cellsOf e)).take (P.cellsOf e))) = some xs → CKs (repK n ke) ((cs.drop (i0 * ke.length)).take (n * ke.length)) ∧ ∀ x ∈ xs, x.2 = []
  | 0, i0, xs, h => by
    simp at h; subst h
    exact ⟨by simpa [repK] using CKs.nil, by simp⟩
  | n + 1, i0, xs, h => by
    rw [List.range'_succ, List.mapM_cons] at h
    simp only [bind, Option.bind_eq_some_iff, pure, Option.some.injEq] at h
    obtain ⟨y, hy, ys, hys, rfl⟩ := h
    obtain ⟨i1, i2⟩ := repK_sound hg hl n (i0 + 1) ys hys
    obtain ⟨j1, j2⟩ := hg _ _ _ hy
    rw [← hl] at j1
    refine ⟨?_, ?_⟩
    · rw [show (n + 1) * ke.length = ke.length + n * ke.length by rw [Nat.succ_mul, Nat.add_comm], take_both]
      rw [show (i0 + 1) * ke.length = i0 * ke.length + ke.length by rw [Nat.succ_mul]] at i1
      exact j1.app i1
    · intro x hx
      rcases List.mem_cons.1 hx with rfl | hx
      · exact j2
      · exact i2 x hx

theorem places_nil {xs : List (DataW H × List MemPlace)} (h : ∀ x ∈ xs, x.2 = []) : xs.flatMap (·.2) = [] := by
  simp [List.flatMap_eq_nil_iff]; intro a b hab; exact h (a, b) hab

theorem read_kinds : ∀ (n : Nat) (t : TypeId) (ks : List CK), kindsOf P n t = some ks → ∀ (m : Nat) (cs : List Value) (d : DataW H) (ps : List MemPlace), DataW.trod enc P W base sp held m t cs = some (d, ps) → CKs ks cs ∧ ps = []
  | 0, _, _, h, _, _, _, _, _ => by simp [kindsOf] at h
  | n + 1, t, ks, h, m, cs, d, ps, ht => by
    have ih := read_kinds n
    cases m with
    | zero => simp [DataW.trod] at ht
    | succ m =>
      simp only [kindsOf] at h
      unfold DataW.trod at ht
      split at h
      · rename_i hu
        rw [hu] at ht
        injection h with h; subst h
        split at ht <;> simp_all
        exact .cons ⟨_, rfl⟩ .nil
      · rename_i k hu
        rw [hu] at ht
        injection h with h; subst h
        split at ht <;> simp_all
        obtain ⟨⟨h1, h2⟩, h3, h4⟩ := ht
        exact .cons ⟨_, rfl, h2⟩ .nil
      · rename_i hu
        rw [hu] at ht
        injection h with h; subst h
        split at ht <;> simp_all
        exact .cons ⟨_, rfl, ht.1⟩ .nil
      · rename_i fs hu
        rw [hu] at ht
        obtain ⟨ks', hk, h⟩ := bind_some' h
        split at h
        · rename_i hlen
          injection h with h; subst h
          have ht' : (if cs.length = P.cellsOf t then (fs.toList.mapM fun f => DataW.trod enc P W base sp held m f.type ((cs.drop f.offset).take (P.cellsOf f.type))).map fun xs => (DataW.agg (xs.map (·.1)), xs.flatMap (·.2)) else none) = some (d, ps) := by
            revert ht; simp only; exact id
          split at ht'
          · rename_i hcl
            obtain ⟨xs, hx, he⟩ := Option.map_eq_some_iff.1 ht'
            obtain ⟨i1, i2⟩ := fieldsK_sound (fun t ks cs d ps h1 h2 => ih t ks h1 m cs d ps h2) fs.toList 0 ks' xs hk hx
            simp only [Prod.mk.injEq] at he
            refine ⟨?_, by rw [← he.2]; exact places_nil i2⟩
            rw [List.drop_zero, List.take_of_length_le (by omega)] at i1
            exact i1
          · simp at ht'
        · simp at h
      · rename_i q e hu
        rw [hu] at ht
        obtain ⟨ke, hk, h⟩ := bind_some' h
        split at h
        · rename_i hlen
          injection h with h; subst h
          have ht' : (if cs.length = P.cellsOf t then ((List.range q).mapM fun i => DataW.trod enc P W base sp held m e ((cs.drop (i * P.cellsOf e)).take (P.cellsOf e))).map fun xs => (DataW.agg (xs.map (·.1)), xs.flatMap (·.2)) else none) = some (d, ps) := by
            revert ht; simp only; exact id
          split at ht'
          · rename_i hcl
            obtain ⟨xs, hx, he⟩ := Option.map_eq_some_iff.1 ht'
            rw [List.range_eq_range'] at hx
            obtain ⟨i1, i2⟩ := repK_sound (fun cs d ps h2 => ih e ke hk m cs d ps h2) hlen.1 q 0 xs hx
            simp only [Prod.mk.injEq] at he
            refine ⟨?_, by rw [← he.2]; exact places_nil i2⟩
            rw [Nat.zero_mul, List.drop_zero, List.take_of_length_le (by omega)] at i1
            exact i1
          · simp at ht'
        · simp at h
      · simp at h

/-- an argument that is an array or a struct, without pointers -/
theorem open_agg {r : Reach} {b0 : Nat} {t : TypeId} {v : Value} {d : DataW H} {ps : List MemPlace} {n : Nat} {ks : List CK} (hk : kindsOf P n t = some ks)
    (hu : (match P.underlying t with | some (.struct _) | some (.array _ _) => true | _ => false) = true) (hval : Value.okWide P W r b0 t v) (hd : DataW.Trod enc P W base sp held t v d ps) :
    ∃ l : List Value, v = .agg ⟨l⟩ ∧ CKs ks l ∧ ps = [] := by
  obtain ⟨m, hm⟩ := hd
  obtain ⟨h1, h2⟩ := read_kinds n t ks hk m _ d ps hm
  have : ∃ cs, v = .agg cs := by
    unfold Value.okWide at hval
    split at hval
    · obtain ⟨cs, h, _⟩ := hval; exact ⟨cs, h⟩
    · obtain ⟨cs, h, _⟩ := hval; exact ⟨cs, h⟩
    · split at hu <;> simp_all
  obtain ⟨cs, rfl⟩ := this
  exact ⟨cs.toList, rfl, h1, h2⟩

end

end Go.Fm
