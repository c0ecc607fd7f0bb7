/-
  FmStep: what single operations come to, on integers, slices and arrays that are symbols.
-/
import Derived.Test.YtopladipgobpjaaDoorFmScrSound
namespace Go.Fm

variable {P : Program}

theorem aBin2_shr {t : TypeId} {ox oy : Operand} {k yk : IntKind} {x y : Int} (hy : 0 ≤ y) : aBin2 P .shr t ox oy (.int k x) (.int yk y) = some (.int k (x.fdiv (2 ^ min y.toNat k.bits))) := by
  have h : ¬ y < 0 := by omega
  show semFlat P (Op.shift .shr k x yk y) = _
  unfold Op.shift
  rw [if_neg h]
  rfl

theorem aBin2_shl {t : TypeId} {ox oy : Operand} {k yk : IntKind} {x y : Int} (hy : 0 ≤ y) : aBin2 P .shl t ox oy (.int k x) (.int yk y) = some (.int k (k.wrap (x * 2 ^ min y.toNat k.bits))) := by
  have h : ¬ y < 0 := by omega
  show semFlat P (Op.shift .shl k x yk y) = _
  unfold Op.shift
  rw [if_neg h]
  rfl

theorem aLoad_int {t : TypeId} {h : AHeap} {b o : Nat} {c : List Value} {ro : Bool} {v : Value} (hT : aIsAgg P t = some false) (hb : h[b]? = some (.cells c ro)) (hc : c[o]? = some v) : aLoad P t (.pointer (some ⟨b, o, none⟩)) h = some v := by
  unfold aLoad
  simp only [hT]
  unfold aCell
  simp [hb, hc]

theorem aIndexAddr_slice {t e : TypeId} {b o len cap s : Nat} {sp : Option Nat} {k : IntKind} {n : Int} (hu : P.underlying t = some (.slice e)) (hs : aSize P e = some s) (h0 : 0 ≤ n) (h1 : n < len) :
    aIndexAddr P t (.slice (some ⟨b, o, sp⟩) len cap) (.int k n) = some (.pointer (some ⟨b, o + n.toNat * s, none⟩)) := by
  unfold aIndexAddr
  simp only [hu]
  rw [if_pos ⟨h0, h1⟩, hs]
  rfl

theorem aIndexAddr_array {t e : TypeId} {b o len s : Nat} {k : IntKind} {n : Int} (hu : P.underlying t = some (.array len e)) (hs : aSize P e = some s) (h0 : 0 ≤ n) (h1 : n < len) :
    aIndexAddr P t (.pointer (some ⟨b, o, none⟩)) (.int k n) = some (.pointer (some ⟨b, o + n.toNat * s, none⟩)) := by
  unfold aIndexAddr
  simp only [hu]
  rw [if_pos ⟨h0, h1⟩, hs]
  rfl

/-! ## keys that are arrays of integers -/

theorem semPure_bind {α β : Type} (x : Sem α) (f : α → Sem β) : semPure P (x >>= f) = (semPure P x).bind fun a => semPure P (f a) := by
  induction x with
  | pure a => rfl
  | program k ih => exact ih P
  | _ => rfl

theorem semPure_underlying {t : TypeId} {d : TypeDesc} (hu : P.underlying t = some d) : semPure P (underlying t) = some d := by
  unfold underlying
  rw [semPure_bind]
  show (semPure P (match P.underlying t with | some d => pure d | none => stuck "no such type")) = _
  rw [hu]
  rfl

/-- the items of two arrays, one by one -/
def eqList (is : List Nat) (g : Nat → Option Bool) : Option Bool :=
  match is with
  | [] => some true
  | i :: r => (g i).bind fun b => if b = true then eqList r g else some false

theorem eqList_true {g : Nat → Option Bool} : ∀ {is : List Nat}, (∀ i ∈ is, g i = some true) → eqList is g = some true
  | [], _ => rfl
  | i :: r, h => by
    simp only [eqList, h i (by simp), Option.bind_some, if_true]
    exact eqList_true fun j hj => h j (by simp [hj])

theorem equalIn_array (d : Nat) {t e : TypeId} {n : Nat} (xs ys : Array Value) (c : Nat) (hu : P.underlying t = some (.array n e)) (hc : semPure P (sizeOf e) = some c) :
    semPure P (Op.equalIn (d + 1) t (.agg xs) (.agg ys)) = eqList (List.range n) fun i => (semPure P (part e xs (i * c))).bind fun a => (semPure P (part e ys (i * c))).bind fun b => semPure P (Op.equalIn d e a b) := by
  simp only [Op.equalIn, semPure_bind, semPure_underlying hu, Option.bind_some, hc]
  simp only [Std.Legacy.Range.forIn_eq_forIn_range', Std.Legacy.Range.size, Nat.sub_zero, Nat.add_one_sub_one, Nat.div_one, List.range_eq_range']
  generalize List.range' 0 n = is
  induction is with
  | nil => rfl
  | cons j is ih =>
    simp only [List.forIn_cons, eqList, semPure_bind]
    generalize semPure P (part e xs (j * c)) = r1
    cases r1 with
    | none => rfl
    | some a =>
      generalize semPure P (part e ys (j * c)) = r2
      cases r2 with
      | none => rfl
      | some b =>
        simp only [Option.bind_some]
        generalize semPure P (Op.equalIn d e a b) = r3
        cases r3 with
        | none => rfl
        | some r =>
          cases r
          · rfl
          · exact ih

theorem keyEq_array {t e : TypeId} {n : Nat} (xs ys : Array Value) (c : Nat) (hu : P.underlying t = some (.array n e)) (hc : semPure P (sizeOf e) = some c)
    (hg : ∀ i, i < n → (semPure P (part e xs (i * c))).bind (fun a => (semPure P (part e ys (i * c))).bind fun b => semPure P (Op.equalIn 9999 e a b)) = some true) : keyEq P t (.agg xs) (.agg ys) = some true := by
  have h : keyEq P t (.agg xs) (.agg ys) = _ := equalIn_array 9999 xs ys c hu hc
  rw [h]
  exact eqList_true fun i hi => hg i (by simpa using hi)

/-! ## maps of one entry -/

theorem aLookup_one {t kt et : TypeId} {m born clock : Nat} {k v : Value} {ok : Bool} {h : AHeap} (hu : P.underlying t = some (.map kt et)) (hm : h[m]? = some (.map [⟨k, v, born⟩] clock)) (hk : aCheckKey P false kt k = true) (hf : flatB k = true)
    (he : keyEq P kt k k = some true) : aLookup P t (.map (some m)) k ok h = some (if ok = true then .tuple #[v, .bool true] else v) := by
  unfold aLookup
  simp [hu, aEntries, hm, hk, aFind, hf, he]

theorem aMapUpdate_one {t kt et : TypeId} {m born clock : Nat} {k v x : Value} {h : AHeap} (hu : P.underlying t = some (.map kt et)) (hm : h[m]? = some (.map [⟨k, v, born⟩] clock)) (hk : aCheckKey P false kt k = true) (hf : flatB k = true)
    (he : keyEq P kt k k = some true) (hs : Instr.sameBits 10000 k k = true) : aMapUpdate P t (.map (some m)) k x h = some (h.set m (.map [⟨k, x, born⟩] clock)) := by
  unfold aMapUpdate
  simp [hu, mapRow, hm, hk, aFind, hf, he, hs]

theorem aDelete_one {t kt et : TypeId} {m born clock : Nat} {k v : Value} {h : AHeap} (hu : P.underlying t = some (.map kt et)) (hm : h[m]? = some (.map [⟨k, v, born⟩] clock)) (hk : aCheckKey P false kt k = true) (hf : flatB k = true)
    (he : keyEq P kt k k = some true) : aDelete P t (.map (some m)) k h = some (h.set m (.map [] clock)) := by
  unfold aDelete
  simp [hu, mapRow, hm, hk, aFind, hf, he]

/-! ## forgetting, with objects that nobody looks at any more -/

def HeapLe : AHeap → AHeap → Prop
  | _, [] => True
  | o :: h, o' :: h' => (o' = .dead ∨ o' = o) ∧ HeapLe h h'
  | [], _ :: _ => False

theorem HeapLe.get : ∀ {h h' : AHeap}, HeapLe h h' → ∀ {i : Nat} {o' : AObj}, h'[i]? = some o' → ∃ o, h[i]? = some o ∧ (o' = .dead ∨ o' = o)
  | _, [], _, i, o', e => by simp at e
  | [], _ :: _, hle, _, _, _ => hle.elim
  | o :: h, p :: h', hle, 0, o', e => by
    simp at e; subst e
    exact ⟨o, rfl, hle.1⟩
  | o :: h, p :: h', hle, i + 1, o', e => by
    obtain ⟨q, h1, h2⟩ := HeapLe.get hle.2 (i := i) (o' := o') (by simpa using e)
    exact ⟨q, by simpa using h1, h2⟩

theorem Gc.le {gs : List Nat} {n0 : Nat} {e e' : AEnv} {ds : List ADef} {h h' : AHeap} {u : UMode} (ht : HeapLe h h') (hn : Nat.ble n0 h'.length = true) (hg : gs.all (fun g => Nat.blt g h'.length) = true)
    (he : EnvLe e e') (hse : e'.all (fun p => scopeV h'.length 8 p.2) = true) (hsd : scopeD h'.length ds = true) (hsh : h'.all (scopeO h'.length) = true) (hu : u.flat = true) :
    Gc gs n0 ⟨e, ds, h, u⟩ ⟨e', ds, h', u⟩ := by
  rw [Nat.ble_eq] at hn
  refine .inl ⟨upto h'.length, ?_, ?_, ?_, hn, ?_, ?_, scopeD_rd ds hsd, rfl, hu⟩
  · intro b hb
    unfold upto; rw [if_pos (by omega)]
  · intro b c q h1 h2
    obtain ⟨rfl, _⟩ := upto_some h1
    exact (upto_some h2).1
  · intro g hgg
    exact upto_of (List.all_eq_true.1 hg g hgg)
  · intro b q hb
    obtain ⟨rfl, hlt⟩ := upto_some hb
    have hb' : h'[q]? = some h'[q] := List.getElem?_eq_getElem hlt
    obtain ⟨o, h1, h2⟩ := ht.get hb'
    refine ⟨_, _, hb', h1, ?_⟩
    rcases h2 with h2 | h2
    · rw [h2]; exact .dead o
    · rw [← h2]; exact scopeO_ro _ (List.all_eq_true.1 hsh _ (List.getElem_mem _))
  · intro t v hv
    refine ⟨v, he.get hv, ?_⟩
    exact scopeV_rv 8 v (scopeE_get e' hse hv)

theorem scope_ints (n : Nat) (k : IntKind) (ro : Bool) (zs : List Int) : scopeO n (.cells (zs.map (Value.int k)) ro) = true := by
  simp only [scopeO, List.all_map, List.all_eq_true]
  intro z _
  rfl

end Go.Fm
