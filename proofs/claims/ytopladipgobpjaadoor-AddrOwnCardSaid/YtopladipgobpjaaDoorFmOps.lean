/-
  FmOps: an operation's meaning on abstract values and an abstract heap, and that the machine's own operation follows it.
-/
import Derived.Test.YtopladipgobpjaaDoorFmPure2
namespace Go.Fm

variable (P : Program)

def mapL (ρ : Operand → Option Value) : List Operand → Option (List Value)
  | [] => some []
  | x :: r => (ρ x).bind fun v => (mapL ρ r).bind fun l => some (v :: l)

def mapP (ρ : Operand → Option Value) : List (Nat × Operand) → Option (List (Nat × Value))
  | [] => some []
  | (i, x) :: r => (ρ x).bind fun v => (mapP ρ r).bind fun l => some ((i, v) :: l)

def mapOpt (ρ : Operand → Option Value) : Option Operand → Option (Option Value)
  | none => some none
  | some x => (ρ x).map some

def aPlaces (fs : List Field) : Option (List (Nat × Nat)) :=
  match fs with
  | [] => some []
  | f :: r => (aSize P f.type).bind fun n => (aPlaces r).bind fun l => some ((f.offset, n) :: l)

def aBuild (t : TypeId) (parts : List (Nat × Value)) : Option Value :=
  (aZero P t).bind fun z =>
  match P.underlying t with
  | some (.struct fs) => (aPlaces P fs.toList).bind fun pl => (Instr.fill (fun i => pl[i]?) z.cells parts).map .agg
  | some (.array _ e) => (aSize P e).bind fun s => (Instr.fill (fun i => some (i * s, s)) z.cells parts).map .agg
  | _ => none

def aMakeFunc (fn : Fn) (first cap : List Value) : Option Value :=
  match fn with
  | .func f => some (.func (.func f) first.toArray cap.toArray)
  | .method m => some (.func (.method m) first.toArray cap.toArray)
  | _ => none

/-- a capacity that is known -/
def aCap (t : TypeId) (v : Value) : Option Value :=
  match P.underlying t with
  | some (.array n _) => some (goInt n)
  | some (.slice _) =>
    match v with
    | .slice none _ c | .slice (some ⟨_, _, none⟩) _ c => some (goInt c)
    | _ => none
  | _ => none

def aSliceData (v : Value) : Option Value :=
  match v with
  | .slice none _ _ => some (.pointer none)
  | .slice (some ⟨b, o, _⟩) _ c => if c = 0 then none else some (.pointer (some ⟨b, o, none⟩))
  | _ => none

def aPure (ρ : Operand → Option Value) : Op → Option Value
  | .move x | .assign x => ρ x
  | .pick c a b => (ρ c).bind fun | .bool t => if t then ρ a else ρ b | _ => none
  | .build t parts => (mapP ρ parts.toList).bind (aBuild P t)
  | .nilCheck x => (ρ x).bind aNilCheck
  | .binOp op t x y _ => (ρ x).bind fun a => (ρ y).bind fun b => aBin2 P op t x y a b
  | .unOp op _ x => (ρ x).bind (aUn P op)
  | .convert s d x => (ρ x).bind (aConv2 P s d)
  | .makeInterface t x => (ρ x).bind (aMakeIface P t)
  | .makeFunc fn first cap => (mapL ρ first.toList).bind fun a => (mapL ρ cap.toList).bind (aMakeFunc fn a)
  | .slice t x lo hi mx => (ρ x).bind fun v => (mapOpt ρ lo).bind fun l => (mapOpt ρ hi).bind fun h => (mapOpt ρ mx).bind fun m => aSlice P t v l h m
  | .fieldAddr t x f => (ρ x).bind fun v => aFieldAddr P t v f
  | .field t x f => (ρ x).bind fun v => aField P t v f
  | .indexAddr t x i => (ρ x).bind fun v => (ρ i).bind (aIndexAddr P t v)
  | .index t x i => (ρ x).bind fun v => (ρ i).bind (aIndex P t v)
  | .typeAssert x _ t ok => (ρ x).bind fun v => aTypeAssert P v t ok
  | .extract x i => (ρ x).bind fun v => aExtract v i
  | .call { callee := .builtin .len, args := args, argTypes := argTypes } =>
    match args.toList, argTypes.toList with
    | [x], [t] => (ρ x).bind (aLen P t)
    | _, _ => none
  | .call { callee := .builtin .cap, args := args, argTypes := argTypes } =>
    match args.toList, argTypes.toList with
    | [x], [t] => (ρ x).bind (aCap P t)
    | _, _ => none
  | .call { callee := .builtin .unsafeSliceData, args := args, argTypes := _ } =>
    match args.toList with
    | [x] => (ρ x).bind aSliceData
    | _ => none
  | .call { callee := .builtin .min, args := args, argTypes := _ } => (mapL ρ args.toList).bind fun l => aMinMax P .min 0 l.toArray
  | .call { callee := .builtin .max, args := args, argTypes := _ } => (mapL ρ args.toList).bind fun l => aMinMax P .max 0 l.toArray
  | _ => none

/-! ## soundness -/

variable {P} {j : Inj} {ρ : Operand → Option Value} {ρ' : Operand → Value}

def RR (j : Inj) (ρ : Operand → Option Value) (ρ' : Operand → Value) : Prop := ∀ x v, ρ x = some v → VR j v (ρ' x)

theorem mapL_sim (hr : RR j ρ ρ') : ∀ {xs : List Operand} {l : List Value}, mapL ρ xs = some l → LR j l (xs.map ρ')
  | [], l, h => by simp [mapL] at h; subst h; exact .nil
  | x :: r, l, h => by
    simp only [mapL] at h
    cases hx : ρ x with
    | none => simp [hx] at h
    | some v =>
      cases hm : mapL ρ r with
      | none => simp [hx, hm] at h
      | some l' => simp [hx, hm] at h; subst h; exact .cons (hr x v hx) (mapL_sim hr hm)

/-- parts of a composite, place by place -/
inductive PR (j : Inj) : List (Nat × Value) → List (Nat × Value) → Prop
  | nil : PR j [] []
  | cons {i : Nat} {v v' : Value} {l l' : List (Nat × Value)} : VR j v v' → PR j l l' → PR j ((i, v) :: l) ((i, v') :: l')

theorem mapP_sim (hr : RR j ρ ρ') : ∀ {xs : List (Nat × Operand)} {l : List (Nat × Value)}, mapP ρ xs = some l → PR j l (xs.map fun p => (p.1, ρ' p.2))
  | [], l, h => by simp [mapP] at h; subst h; exact .nil
  | (i, x) :: r, l, h => by
    simp only [mapP] at h
    cases hx : ρ x with
    | none => simp [hx] at h
    | some v =>
      cases hm : mapP ρ r with
      | none => simp [hx, hm] at h
      | some l' => simp [hx, hm] at h; subst h; exact .cons (hr x v hx) (mapP_sim hr hm)

theorem mapOpt_sim (hr : RR j ρ ρ') {o : Option Operand} {r : Option Value} (h : mapOpt ρ o = some r) : OR j r (o.map ρ') := by
  cases o with
  | none => simp [mapOpt] at h; subst h; exact ⟨fun v h => by simp at h, fun _ => rfl⟩
  | some x =>
    cases hx : ρ x with
    | none => simp [mapOpt, hx] at h
    | some v => simp [mapOpt, hx] at h; subst h; exact ⟨fun u e => by injection e with e; subst e; exact ⟨_, rfl, hr x v hx⟩, fun e => by simp at e⟩

theorem foldl_set_sim (off : Nat) : ∀ (l l' : List Value) (k : Nat) (cs cs' : Array Value), LR j l l' → AR j cs cs' →
    AR j ((l.zipIdx k).foldl (fun cs (c, i) => cs.setIfInBounds (off + i) c) cs) ((l'.zipIdx k).foldl (fun cs (c, i) => cs.setIfInBounds (off + i) c) cs')
  | [], l', k, cs, cs', h, hc => by cases h; exact hc
  | v :: l, l', k, cs, cs', h, hc => by
    cases h with
    | cons hv hl =>
      simp only [List.zipIdx_cons, List.foldl_cons]
      refine foldl_set_sim off l _ (k + 1) _ _ hl ⟨by simp [hc.1], ?_⟩
      intro i w w' e e'
      rw [Array.getElem?_setIfInBounds] at e e'
      by_cases hi : off + k = i
      · subst hi
        simp only [if_true] at e e'
        split at e
        · rw [if_pos (by rw [← hc.1]; assumption)] at e'
          injection e with e; injection e' with e'; subst e e'; exact hv
        · simp at e
      · rw [if_neg hi] at e e'
        exact hc.2 i w w' e e'

theorem fill_sim (place : Nat → Option (Nat × Nat)) : ∀ {l l' : List (Nat × Value)} {cs cs' r : Array Value}, PR j l l' → AR j cs cs' → Instr.fill place cs l = some r →
    ∃ r', Instr.fill place cs' l' = some r' ∧ AR j r r'
  | [], _, cs, cs', r, h, hc, e => by cases h; simp [Instr.fill] at e; subst e; exact ⟨cs', rfl, hc⟩
  | (i, v) :: l, _, cs, cs', r, h, hc, e => by
    cases h with
    | cons hv hl =>
      rename_i v' l'
      simp only [Instr.fill] at e ⊢
      have hsz : v'.cells.size = v.cells.size := by have := hv.cells.length; simpa using this.symm
      split at e
      · simp at e
      · rename_i off size hp
        rw [hsz, ← hc.1]
        split at e
        · simp at e
        · rename_i hcond
          rw [if_neg hcond]
          have h1 : v.cells.zipIdx.foldl (fun cs (c, i) => cs.setIfInBounds (off + i) c) cs = (v.cells.toList.zipIdx).foldl (fun cs (c, i) => cs.setIfInBounds (off + i) c) cs := by
            rw [← Array.toList_zipIdx, Array.foldl_toList]
          have h2 : v'.cells.zipIdx.foldl (fun cs (c, i) => cs.setIfInBounds (off + i) c) cs' = (v'.cells.toList.zipIdx).foldl (fun cs (c, i) => cs.setIfInBounds (off + i) c) cs' := by
            rw [← Array.toList_zipIdx, Array.foldl_toList]
          rw [h1] at e
          have := fill_sim place hl (foldl_set_sim off _ _ 0 cs cs' hv.cells hc) e
          rw [h2]; exact this

theorem aPlaces_sim : ∀ {fs : List Field} {pl : List (Nat × Nat)}, aPlaces P fs = some pl → ∀ w, (fs.mapM (fun f => do pure (f.offset, ← sizeOf f.type) : Field → Sem (Nat × Nat))).run P w = .ok pl w
  | [], pl, h, w => by simp [aPlaces] at h; subst h; simp
  | f :: r, pl, h, w => by
    simp only [aPlaces] at h
    cases hs : aSize P f.type with
    | none => simp [hs] at h
    | some n =>
      cases hm : aPlaces P r with
      | none => simp [hs, hm] at h
      | some l =>
        simp [hs, hm] at h; subst h
        have := aPlaces_sim hm w
        simp only [List.mapM_cons, Sem.run_bind, run_sizeOf' hs, Result.andThen_ok, this, Sem.run_pure]

theorem aBuild_sim {t : TypeId} {l l' : List (Nat × Value)} (hl : PR j l l') {r : Value} (h : aBuild P t l = some r) :
    ∃ r', VR j r r' ∧ ∀ w, (Instr.build t l'.toArray).run P w = .ok r' w := by
  unfold aBuild at h
  cases hz : aZero P t with
  | none => simp [hz] at h
  | some z =>
    simp only [hz, Option.bind_some] at h
    have hzr := fun w => (run_zero' hz w).1
    have hzf := (run_zero' hz default).2
    have hzc : AR j z.cells z.cells := AR.of_lists (hzf.vr j).cells
    split at h
    · rename_i fs hu
      cases hp : aPlaces P fs.toList with
      | none => simp [hp] at h
      | some pl =>
        simp only [hp, Option.bind_some] at h
        cases hf : Instr.fill (fun i => pl[i]?) z.cells l with
        | none => simp [hf] at h
        | some cs =>
          simp [hf] at h; subst h
          obtain ⟨cs', k1, k2⟩ := fill_sim _ hl hzc hf
          refine ⟨.agg cs', .agg k2.1 k2.2, fun w => ?_⟩
          have hmm : (fs.mapM (fun f => do pure (f.offset, ← sizeOf f.type) : Field → Sem (Nat × Nat))).run P w = .ok pl.toArray w := by
            rw [← Array.toArray_toList (xs := fs)]
            rw [List.mapM_toArray]
            have := aPlaces_sim hp w
            rw [← bind_pure_comp]
            simp only [Sem.run_bind, Sem.run_pure, this, Result.andThen_ok]
          have k1' : Instr.fill (fun i => pl.toArray[i]?) z.cells l' = some cs' := by
            rw [← k1]; congr 1; funext i; simp
          simp only [Instr.build, Sem.run_bind, hzr, Result.andThen_ok, run_underlying hu, hmm, k1', Sem.run_pure]
    · rename_i n e hu
      cases hs : aSize P e with
      | none => simp [hs] at h
      | some s =>
        simp only [hs, Option.bind_some] at h
        cases hf : Instr.fill (fun i => some (i * s, s)) z.cells l with
        | none => simp [hf] at h
        | some cs =>
          simp [hf] at h; subst h
          obtain ⟨cs', k1, k2⟩ := fill_sim _ hl hzc hf
          exact ⟨.agg cs', .agg k2.1 k2.2, fun w => by simp [Instr.build, hzr, run_underlying hu, run_sizeOf' hs, k1]⟩
    · simp at h

theorem aMakeFunc_sim {fn : Fn} {a b a' b' : List Value} (ha : LR j a a') (hb : LR j b b') {r : Value} (h : aMakeFunc fn a b = some r) :
    VR j r (.func fn a'.toArray b'.toArray) := by
  unfold aMakeFunc at h
  split at h
  · simp at h; subst h; exact .func _ ha.toAR.1 ha.toAR.2 hb.toAR.1 hb.toAR.2
  · simp at h; subst h; exact .method _ ha.toAR.1 ha.toAR.2 hb.toAR.1 hb.toAR.2
  · simp at h

theorem aMinMax_sim {b : Builtin} {t ty : TypeId} {ts : Array TypeId} {args args' : Array Value} (ha : AR j args args') {r : Value} (h : aMinMax P b t args = some r) :
    VR j r r ∧ ((b = .min ∧ ∀ w, (Builtin.min_ ts ty args').run P w = .ok r w) ∨ (b = .max ∧ ∀ w, (Builtin.max_ ts ty args').run P w = .ok r w)) := by
  unfold aMinMax at h
  split at h
  · rename_i hf
    have := flat_args hf ha; subst this
    split at h
    · obtain ⟨h1, h2⟩ := semFlat_run h
      exact ⟨h1.vr j, .inl ⟨rfl, h2⟩⟩
    · obtain ⟨h1, h2⟩ := semFlat_run h
      exact ⟨h1.vr j, .inr ⟨rfl, h2⟩⟩
    · simp at h
  · simp at h

theorem aCap_sim {t ty : TypeId} {v v' r : Value} (hv : VR j v v') (h : aCap P t v = some r) :
    VR j r r ∧ ∀ w, (Builtin.cap_ #[t] ty #[v']).run P w = .ok r w := by
  unfold aCap at h
  split at h
  · rename_i n e hu; simp at h; subst h
    exact ⟨.int _ _, fun w => by simp [Builtin.cap_, run_underlying hu]⟩
  · rename_i e hu
    split at h
    · simp at h; subst h; cases hv
      exact ⟨.int _ _, fun w => by simp [Builtin.cap_, run_underlying hu]⟩
    · simp at h; subst h; cases hv
      · exact ⟨.int _ _, fun w => by simp [Builtin.cap_, run_underlying hu]⟩
      · exact ⟨.int _ _, fun w => by simp [Builtin.cap_, run_underlying hu]⟩
    · simp at h
  · simp at h

theorem aSliceData_sim {ts : Array TypeId} {ty : TypeId} {v v' r : Value} (hv : VR j v v') (h : aSliceData v = some r) :
    ∃ r', VR j r r' ∧ ∀ w, (Builtin.unsafeSliceData_ ts ty #[v']).run P w = .ok r' w := by
  unfold aSliceData at h
  split at h
  · simp at h; subst h; cases hv
    exact ⟨_, .pnil, fun w => rfl⟩
  · rename_i b o sp l c
    split at h
    · simp at h
    · rename_i hc
      simp at h; subst h
      cases c with
      | zero => exact absurd rfl hc
      | succ c =>
      cases hv with
      | slice _ _ hj => exact ⟨_, .ptr hj, fun w => rfl⟩
      | oslice _ _ hj he ho =>
        rename_i L
        refine ⟨_, .ptr hj, fun w => ?_⟩
        rw [show c + 1 + L.extra = (c + L.extra) + 1 by omega]; rfl
  · simp at h

theorem bind_some' {α β : Type} {o : Option α} {f : α → Option β} {r : β} (h : o.bind f = some r) : ∃ a, o = some a ∧ f a = some r := by
  cases o with
  | none => simp at h
  | some a => exact ⟨a, rfl, by simpa using h⟩

theorem run_val {s : Sem Value} {r : Value} {w w' : World} (h : s.run P w = .ok r w') : (do pure (.value (← s)) : Sem Next).run P w = .ok (.value r) w' := by
  simp [h]

theorem aPure_sim (hr : RR j ρ ρ') (o : Oper) {r : Value} (h : aPure P ρ o.op = some r) : ∃ r', VR j r r' ∧ ∀ w, (execOp ρ' o).run P w = .ok (.value r') w := by
  obtain ⟨dst, op, type, pos, after, guard⟩ := o
  simp only at h
  unfold aPure at h
  split at h
  · exact ⟨_, hr _ _ h, fun w => rfl⟩
  · exact ⟨_, hr _ _ h, fun w => rfl⟩
  · rename_i c a b
    obtain ⟨cv, hc, h⟩ := bind_some' h
    split at h
    · rename_i t
      have := hr _ _ hc
      cases hcc : ρ' c with
      | bool q =>
        rw [hcc] at this; cases this
        cases t
        · exact ⟨_, hr _ _ h, fun w => by simp [execOp, hcc, asBool]⟩
        · exact ⟨_, hr _ _ h, fun w => by simp [execOp, hcc, asBool]⟩
      | _ => rw [hcc] at this; cases this
    · simp at h
  · rename_i t parts
    obtain ⟨l, hl, h⟩ := bind_some' h
    obtain ⟨r', k1, k2⟩ := aBuild_sim (mapP_sim hr hl) h
    refine ⟨r', k1, fun w => run_val ?_⟩
    have : parts.map (fun x => (x.1, ρ' x.2)) = (List.map (fun p => (p.1, ρ' p.2)) parts.toList).toArray := by
      apply Array.ext'; simp
    rw [← k2 w, ← this]
  · rename_i x
    obtain ⟨v, hv, h⟩ := bind_some' h
    have hvr := hr _ _ hv
    have e : r = v := by unfold aNilCheck at h; split at h <;> simp_all
    subst e
    refine ⟨ρ' x, hvr, fun w => ?_⟩
    cases hc : ρ' x with
    | pointer a =>
      cases a with
      | none => rw [hc] at hvr; cases hvr <;> simp [aNilCheck] at h
      | some a => simp [execOp, hc]
    | nilIface => rw [hc] at hvr; cases hvr <;> simp [aNilCheck] at h
    | nilFunc => rw [hc] at hvr; cases hvr <;> simp [aNilCheck] at h
    | func fn a b =>
      rw [hc] at hvr
      cases hvr with
      | func => simp [execOp, hc]
      | method => simp [aNilCheck] at h
      | hole => simp [aNilCheck] at h
      | yield => simp [execOp, hc]
    | _ => simp [execOp, hc]
  · rename_i op t x y yt
    obtain ⟨a, ha, h⟩ := bind_some' h
    obtain ⟨b, hb, h⟩ := bind_some' h
    obtain ⟨k1, k2⟩ := aBin2_sim (hr _ _ ha) (hr _ _ hb) h
    exact ⟨r, k1, fun w => run_val (k2 w)⟩
  · rename_i op t x
    obtain ⟨a, ha, h⟩ := bind_some' h
    obtain ⟨r', k1, k2⟩ := aUn_sim (hr _ _ ha) h
    exact ⟨r', k1, fun w => run_val (k2 w)⟩
  · rename_i s d x
    obtain ⟨a, ha, h⟩ := bind_some' h
    obtain ⟨k1, k2⟩ := aConv2_sim (hr _ _ ha) h
    exact ⟨r, k1, fun w => run_val (k2 w)⟩
  · rename_i t x
    obtain ⟨a, ha, h⟩ := bind_some' h
    unfold aMakeIface at h
    split at h
    · simp at h
    · rename_i d hd hu
      simp at h; subst h
      refine ⟨_, .iface t (hr _ _ ha), fun w => run_val ?_⟩
      unfold Instr.makeInterface
      simp only [Sem.run_bind, run_underlying hu, Result.andThen_ok]
      cases d <;> simp_all
    · simp at h
  · rename_i fn first cap
    obtain ⟨a, ha, h⟩ := bind_some' h
    obtain ⟨b, hb, h⟩ := bind_some' h
    have := aMakeFunc_sim (mapL_sim hr ha) (mapL_sim hr hb) h
    refine ⟨_, this, fun w => run_val ?_⟩
    have e1 : first.map ρ' = (first.toList.map ρ').toArray := by apply Array.ext'; simp
    have e2 : cap.map ρ' = (cap.toList.map ρ').toArray := by apply Array.ext'; simp
    simp only [Instr.makeFunc, e1, e2, Sem.run_pure]
  · rename_i t x lo hi mx
    obtain ⟨v, hv, h⟩ := bind_some' h
    obtain ⟨l, hl, h⟩ := bind_some' h
    obtain ⟨hh, hhh, h⟩ := bind_some' h
    obtain ⟨m, hm, h⟩ := bind_some' h
    obtain ⟨r', k1, k2⟩ := aSlice_sim (hr _ _ hv) (mapOpt_sim hr hl) (mapOpt_sim hr hhh) (mapOpt_sim hr hm) h
    exact ⟨r', k1, fun w => run_val (k2 w)⟩
  · rename_i t x f
    obtain ⟨v, hv, h⟩ := bind_some' h
    obtain ⟨r', k1, k2⟩ := aFieldAddr_sim (hr _ _ hv) h
    exact ⟨r', k1, fun w => run_val (k2 w)⟩
  · rename_i t x f
    obtain ⟨v, hv, h⟩ := bind_some' h
    obtain ⟨r', k1, k2⟩ := aField_sim (hr _ _ hv) h
    exact ⟨r', k1, fun w => run_val (k2 w)⟩
  · rename_i t x i
    obtain ⟨v, hv, h⟩ := bind_some' h
    obtain ⟨u, hu, h⟩ := bind_some' h
    obtain ⟨r', k1, k2⟩ := aIndexAddr_sim (hr _ _ hv) (hr _ _ hu) h
    exact ⟨r', k1, fun w => run_val (k2 w)⟩
  · rename_i t x i
    obtain ⟨v, hv, h⟩ := bind_some' h
    obtain ⟨u, hu, h⟩ := bind_some' h
    obtain ⟨r', k1, k2⟩ := aIndex_sim (hr _ _ hv) (hr _ _ hu) h
    exact ⟨r', k1, fun w => run_val (k2 w)⟩
  · rename_i x xt t ok
    obtain ⟨v, hv, h⟩ := bind_some' h
    obtain ⟨r', k1, k2⟩ := aTypeAssert_sim (xT := xt) (hr _ _ hv) h
    exact ⟨r', k1, fun w => run_val (k2 w)⟩
  · rename_i x i
    obtain ⟨v, hv, h⟩ := bind_some' h
    unfold aExtract at h
    split at h
    · rename_i vs
      have := hr _ _ hv
      cases hc : ρ' x with
      | tuple ws =>
        rw [hc] at this
        cases this with
        | tuple h1 h2 =>
          obtain ⟨r', k1, k2⟩ := AR.get ⟨h1, h2⟩ h
          exact ⟨r', k2, fun w => run_val (by simp [Instr.extract, hc, k1])⟩
      | _ => rw [hc] at this; cases this
    · simp at h
  · rename_i args argTypes
    split at h
    · rename_i x t hx ht
      obtain ⟨v, hv, h⟩ := bind_some' h
      obtain ⟨k1, k2⟩ := aLen_sim (ty := type) (hr _ _ hv) h
      refine ⟨r, k1, fun w => ?_⟩
      have e1 : args = #[x] := Array.ext' hx
      have e2 : argTypes = #[t] := Array.ext' ht
      subst e1 e2
      simp [execOp, resolve, invoke, builtin, k2]
    · simp at h
  · rename_i args argTypes
    split at h
    · rename_i x t hx ht
      obtain ⟨v, hv, h⟩ := bind_some' h
      obtain ⟨k1, k2⟩ := aCap_sim (ty := type) (hr _ _ hv) h
      refine ⟨r, k1, fun w => ?_⟩
      have e1 : args = #[x] := Array.ext' hx
      have e2 : argTypes = #[t] := Array.ext' ht
      subst e1 e2
      simp [execOp, resolve, invoke, builtin, k2]
    · simp at h
  · rename_i args argTypes
    split at h
    · rename_i x hx
      obtain ⟨v, hv, h⟩ := bind_some' h
      obtain ⟨r', k1, k2⟩ := aSliceData_sim (P := P) (ts := argTypes) (ty := type) (hr _ _ hv) h
      refine ⟨r', k1, fun w => ?_⟩
      have e1 : args = #[x] := Array.ext' hx
      subst e1
      simp [execOp, resolve, invoke, builtin, k2]
    · simp at h
  · rename_i args argTypes
    obtain ⟨l, hl, h⟩ := bind_some' h
    obtain ⟨k1, k2⟩ := aMinMax_sim (ts := argTypes) (ty := type) (mapL_sim hr hl).toAR h
    refine ⟨r, k1, fun w => ?_⟩
    rcases k2 with ⟨_, k2⟩ | ⟨e, _⟩
    · have : args.map ρ' = (args.toList.map ρ').toArray := by apply Array.ext'; simp
      simp only [execOp, resolve, invoke, builtin, this, Sem.run_bind, Sem.run_pure, Result.andThen_ok, k2]
    · simp at e
  · rename_i args argTypes
    obtain ⟨l, hl, h⟩ := bind_some' h
    obtain ⟨k1, k2⟩ := aMinMax_sim (ts := argTypes) (ty := type) (mapL_sim hr hl).toAR h
    refine ⟨r, k1, fun w => ?_⟩
    rcases k2 with ⟨e, _⟩ | ⟨_, k2⟩
    · simp at e
    · have : args.map ρ' = (args.toList.map ρ').toArray := by apply Array.ext'; simp
      simp only [execOp, resolve, invoke, builtin, this, Sem.run_bind, Sem.run_pure, Result.andThen_ok, k2]
  · simp at h

end Go.Fm
