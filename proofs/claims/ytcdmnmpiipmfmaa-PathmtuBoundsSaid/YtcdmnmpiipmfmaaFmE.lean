/-
  FmRow: from contracts on abstract heaps to what a given row asks; and a closed run, laid into any heap.
  FmRead: what a row's reading says of an argument's cells: types without pointers.
  FmRead2: arguments with slices that nobody looks into: what stands in for them.
  FmRead3: a slice of integers that is only read, laid into the abstract heap.
  FmStep: what single operations come to, on integers, slices and arrays that are symbols.
  FmEq: comparing arrays and structs of integers that are symbols.
  FmLaid: package-level tables of integers that a row lists ('laid'): what stands for them.
  FmFrame: a contract shown in a small heap, laid into a greater one: what it is not handed stays as it was.
  FmStr: strings that are symbols: rows of bytes.
  FmRen: at a loop's head blocks may get new numbers.
  FmRw: rows of records at places that are symbols; maps of any size.
  FmRead4: a slice of records without pointers that is only read, laid into the abstract heap.
-/
import Derived.Test.YtcdmnmpiipmfmaaFmD
import Derived.Carry
import Derived.ProofKit
import Derived.ChangeSlices
import Derived.LaidMore
import Derived.Test.YtcdmnmpiipmfmaaFmC

namespace Go.Fm
open Go.RowKit (Below)

def allBelow (W : World) : Nat → Nat → Prop := fun B _ => B < W.heap.size

theorem keptAt_all {w w' : World} {B : Nat} (hB : B < w.heap.size) (h : ∀ o, keptAt w w' B o) : w'.heap[B]? = w.heap[B]? := by
  have h0 := h 0
  unfold keptAt at h0
  have hg : w.heap[B]? = some w.heap[B] := Array.getElem?_eq_getElem hB
  split at h0
  · rename_i d T f hd
    obtain ⟨d', k1, k2, k3⟩ := h0
    have : d' = d := by
      apply Array.ext_getElem?
      intro i
      have hi := h i
      unfold keptAt at hi
      rw [hd] at hi
      obtain ⟨d2, m1, m2, m3⟩ := hi
      rw [k1] at m1; injection m1 with m1; injection m1 with m1; subst m1
      exact m3
    rw [k1, hd, this]
  · rename_i x hx hnot
    rw [h0, hnot]
  · rename_i hn; rw [hg] at hn; cases hn

theorem Sim.below_of {W w : World} {j : Inj} {h : AHeap} (S : Sim (allBelow W) W j h w) : Below W.heap.size W w :=
  ⟨S.io.1, S.io.2.1, S.io.2.2, S.size, fun k hk => keptAt_all hk fun o => S.kept k o hk⟩

/-- nothing stands for anything yet -/
theorem Sim.start (W : World) : Sim (allBelow W) W (fun _ => none) [] W :=
  ⟨Io.refl W, Nat.le_refl _, fun B o _ => keptAt_refl W B o, fun _ _ h => h, fun _ _ h => (by cases h), fun _ _ h => (by cases h), fun _ _ h => (by cases h), fun _ _ _ _ _ h => (by cases h)⟩

/-- one more block that is only read -/
theorem Sim.addRo {F : Nat → Nat → Prop} {W w : World} {j : Inj} {h : AHeap} (S : Sim F W j h w) (hro : ∀ b : Nat, ¬ isRw h[b]?) {c : List Value} {L : Loc} (ho : ∀ j', j.le j' → ObjR j' L w (some (.cells c true))) :
    Sim F W (j.put h.length L) (h ++ [.cells c true]) w := by
  have hn : j h.length = none := by
    cases hj : j h.length with
    | none => rfl
    | some L' => exact absurd (S.dom _ _ hj) (Nat.lt_irrefl _)
  have hle : j.le (j.put h.length L) := Inj.put_le hn
  have hget : ∀ b : Nat, b < h.length → (h ++ [AObj.cells c true])[b]? = h[b]? := fun b hb => List.getElem?_append_left hb
  have hlast : (h ++ [AObj.cells c true])[h.length]? = some (.cells c true) := by simp
  have hput : ∀ b M, j.put h.length L b = some M → (b = h.length ∧ M = L) ∨ (b < h.length ∧ j b = some M) := by
    intro b M e; unfold Inj.put at e; split at e
    · injection e with e; exact .inl ⟨‹_›, e.symm⟩
    · exact .inr ⟨S.dom _ _ e, e⟩
  have hnrw : ∀ b : Nat, ¬ isRw (h ++ [AObj.cells c true])[b]? := by
    intro b hb
    rcases Nat.lt_trichotomy b h.length with hlt | heq | hgt
    · rw [hget b hlt] at hb; exact hro b hb
    · subst heq; rw [hlast] at hb; simp [isRw] at hb
    · rw [List.getElem?_eq_none (by simp; omega)] at hb; exact hb
  have hmono : ∀ (b : Nat) (M : Loc), ObjR j M w h[b]? → ObjR (j.put h.length L) M w h[b]? := by
    exact fun b M hb => ObjR.mono hle hb
  refine ⟨S.io, S.size, S.kept, S.below, ?_, ?_, fun b M _ hr => absurd hr (hnrw b), fun b b' M M' _ _ _ hr => absurd hr (hnrw b)⟩
  · intro b M e
    rcases hput b M e with ⟨rfl, _⟩ | ⟨hlt, _⟩
    · simp
    · simp; omega
  · intro b M e
    rcases hput b M e with ⟨rfl, rfl⟩ | ⟨hlt, hb⟩
    · rw [hlast]; exact ho _ hle
    · rw [hget b hlt]; exact hmono b M (S.obj b M hb)

/-- a world that is the same below what stands for the heap stands for it too -/
theorem Sim.stay {F : Nat → Nat → Prop} {w0 w w' : World} {j : Inj} {h : AHeap} (S : Sim F w0 j h w) (hb : Below w.heap.size w w') : Sim F w0 j h w' := by
  refine ⟨S.io.trans ⟨hb.os, hb.tape, hb.output⟩, Nat.le_trans S.size hb.size, ?_, S.below, S.dom, ?_, S.own, S.apart⟩
  · intro B o hF
    have hlt : B < w.heap.size := Nat.lt_of_lt_of_le (S.below B o hF) S.size
    have := S.kept B o hF
    unfold keptAt at this ⊢
    rw [hb.block B hlt]; exact this
  · intro b L hj
    have := S.obj b L hj
    have key : ∀ x, w.heap[L.blk]? = some x → w'.heap[L.blk]? = some x := by
      intro x hx
      have hlt : L.blk < w.heap.size := (Array.getElem?_eq_some_iff.1 hx).1
      rw [hb.block _ hlt]; exact hx
    unfold ObjR at this ⊢
    split at this
    · obtain ⟨d, T, f, h1, h2⟩ := this; exact ⟨d, T, f, key _ h1, h2⟩
    · obtain ⟨d, f, h1, h2⟩ := this; exact ⟨d, f, key _ h1, h2⟩
    · obtain ⟨es', h1, h2⟩ := this; exact ⟨es', key _ h1, h2⟩
    · obtain ⟨h0, m', h1, h2⟩ := this; exact ⟨h0, m', key _ h1, h2⟩
    · exact ⟨this.1, key _ this.2⟩
    · obtain ⟨h0, y, h1, h2⟩ := this; exact ⟨h0, y, key _ h1, h2⟩
    · trivial
    · exact this.elim

theorem Flat.lr : ∀ {l : List Value}, (∀ v ∈ l, Flat v) → ∀ j, LR j l l
  | [], _, _ => .nil
  | v :: r, h, j => .cons ((h v (by simp)).vr j) (Flat.lr (fun u hu => h u (by simp [hu])) j)

theorem LR.flat_eq {j : Inj} {l l' : List Value} (hl : ∀ v ∈ l, Flat v) (h : LR j l l') : l' = l := by
  induction h with
  | nil => rfl
  | cons hv _ ih => rw [(hl _ (by simp)).eq hv, ih fun u hu => hl u (by simp [hu])]

/-- what a closed run may look at: dead, or only read and flat -/
def baseB : AHeap → Bool := fun h => h.all fun
  | .dead => true
  | .cells c true => c.all flatB
  | _ => false

/-- A CLOSED RUN: run in a heap of its own, it goes the same way in any other, and leaves that as it was. -/
theorem Spec.lift {P : Program} {gs gs' : List Nat} {f : FuncId} {args : List Value} {h0 : AHeap} {Q : Value → Prop} (hs : Spec P gs f args h0 fun r _ => ∃ v, r = .ret v ∧ Flat v ∧ Q v) (ha : ∀ v ∈ args, Flat v) (hg : ∀ g ∈ gs, g ∈ gs')
    (hb0 : baseB h0 = true) {h : AHeap} (hgl : ∀ g ∈ gs, g < h0.length) (hh : ∀ (b : Nat) (o : AObj), h0[b]? = some o → o ≠ .dead → h[b]? = some o) (_hlen : h0.length ≤ h.length) :
    Spec P gs' f args h fun r h' => (∃ v, r = .ret v ∧ Flat v ∧ Q v) ∧ h' = h := by
  refine ⟨hs.1, ?_⟩
  intro G F w0 j w args' cs S hA hG hK
  let j0 : Inj := fun b => if b < h0.length then j b else none
  have hj0 : ∀ b L, j0 b = some L → b < h0.length ∧ j b = some L := by
    intro b L e; simp only [j0] at e; split at e
    · exact ⟨‹_›, e⟩
    · cases e
  have hbase : ∀ (b : Nat) (o : AObj), h0[b]? = some o → o = .dead ∨ ∃ c, o = .cells c true ∧ ∀ v ∈ c, Flat v := by
    intro b o ho
    have := List.all_eq_true.1 hb0 o (List.mem_of_getElem? ho)
    cases o with
    | dead => exact .inl rfl
    | cells c ro =>
      cases ro with
      | true => exact .inr ⟨c, rfl, fun v hv => flatB_flat (List.all_eq_true.1 this v hv)⟩
      | false => simp at this
    | _ => simp at this
  have hnrw : ∀ b : Nat, ¬ isRw h0[b]? := by
    intro b hr
    cases ho : h0[b]? with
    | none => rw [ho] at hr; exact hr
    | some o =>
      rw [ho] at hr
      rcases hbase b o ho with rfl | ⟨c, rfl, _⟩ <;> simp [isRw] at hr
  have S0 : Sim (allBelow w) w j0 h0 w := by
    refine ⟨Io.refl w, Nat.le_refl _, fun B o _ => keptAt_refl w B o, fun _ _ h => h, fun b L e => (hj0 b L e).1, ?_, fun b L _ hr => absurd hr (hnrw b), fun b b' L L' _ _ _ hr => absurd hr (hnrw b)⟩
    intro b L e
    obtain ⟨hlt, hj⟩ := hj0 b L e
    have ho : h0[b]? = some h0[b] := List.getElem?_eq_getElem hlt
    rcases hbase b _ ho with hd | ⟨c, hc, hf⟩
    · rw [ho, hd]; trivial
    · have hne : h0[b] ≠ .dead := by rw [hc]; simp
      have hsame := hh b _ ho hne
      have := S.obj b L hj
      rw [hsame, hc] at this
      rw [ho, hc]
      obtain ⟨d, T, fz, h1, h2, h3, h4, h5, h6⟩ := this
      refine ⟨d, T, fz, h1, h2, h3, ?_, h5, h6⟩
      rw [h4.flat_eq hf]; exact Flat.lr hf j0
  have hA0 : LR j0 args args'.toList := by rw [hA.flat_eq ha]; exact Flat.lr ha j0
  have hG0 : GlobR gs j0 := by
    intro g hgg
    obtain ⟨L, h1, h2⟩ := hG g (hg g hgg)
    exact ⟨L, by simp only [j0]; rw [if_pos (hgl g hgg)]; exact h1, h2⟩
  refine hs.2 G (allBelow w) w j0 w args' cs S0 hA0 hG0 ?_
  rintro r h' j' w' fr ⟨v, rfl, hf, hq⟩ hext hl S' hlv
  refine hK _ h j w' fr ⟨⟨v, rfl, hf, hq⟩, rfl⟩ (j.ext_refl _) (Nat.le_refl _) (S.stay S'.below_of) ?_
  obtain ⟨l1, l2, l3, l4, l5, fn, v', l6, l7, l8⟩ := hlv
  exact ⟨l1, l2, l3, l4, l5, fn, v', l6, l7, by rw [hf.eq l8]; exact hf.vr j⟩

/-- what a row's walk is to bring -/
theorem calls_of_spec {P : Program} {gs : List Nat} {f : FuncId} {args : List Value} {args' : Array Value} {h : AHeap} {v : Value} {W : World} {j : Inj} (hs : Spec P gs f args h fun r _ => r = .ret v) (hv : Flat v) (S : Sim (allBelow W) W j h W)
    (ha : LR j args args'.toList) (hg : GlobR gs j) : Calls P f args' W fun e W' => e = .returned v ∧ Below W.heap.size W W' := by
  intro cs
  have hE := hs.2 (fun m => ∃ w' fr, m = lone fr cs w' ∧ Below W.heap.size W w' ∧ fr.fn = f ∧ fr.leaving P w' (.returned v)) (allBelow W) W j W args' cs S ha hg (by
    rintro r h' j' w' fr rfl hext hl S' ⟨l1, l2, l3, l4, l5, fn, v', l6, l7, l8⟩
    refine .now ⟨w', fr, rfl, S'.below_of, l1, l2, l3, l4, fn, l6, ?_⟩
    rw [l7, hv.eq l8])
  obtain ⟨m', hst, w', fr, rfl, hb, hf, hl⟩ := hE
  exact ⟨.returned v, w', fr, ⟨rfl, hb⟩, hst, hf, hl⟩

end Go.Fm

namespace Go.Fm
open Go.ChangeShapes Go.WideShapes Go.ChangeAt Go.RowKit

inductive CK where
  | bool
  | int (k : IntKind)
  | str

def CK.ok : CK → Value → Prop
  | .bool, v => ∃ b, v = .bool b
  | .int k, v => ∃ n, v = .int k n ∧ (Lit.int k n).wf = true
  | .str, v => ∃ s : ByteArray, v = .string s ∧ s.size ≤ maxLen

inductive CKs : List CK → List Value → Prop
  | nil : CKs [] []
  | cons {k : CK} {v : Value} {ks : List CK} {vs : List Value} : k.ok v → CKs ks vs → CKs (k :: ks) (v :: vs)

theorem CKs.app {a b : List CK} {x y : List Value} (h : CKs a x) (h' : CKs b y) : CKs (a ++ b) (x ++ y) := by
  induction h with
  | nil => exact h'
  | cons h1 _ ih => exact .cons h1 ih

def fieldsK (P : Program) (g : TypeId → Option (List CK)) : List Field → Nat → Option (List CK)
  | [], _ => some []
  | f :: r, off =>
    if f.offset = off then (g f.type).bind fun ks => if ks.length = P.cellsOf f.type then (fieldsK P g r (off + ks.length)).map (ks ++ ·) else none else none

def repK : Nat → List CK → List CK
  | 0, _ => []
  | n + 1, ks => ks ++ repK n ks

def kindsOf (P : Program) : Nat → TypeId → Option (List CK)
  | 0, _ => none
  | n + 1, t => match P.underlying t with
    | some .bool => some [.bool]
    | some (.int k) => some [.int k]
    | some .string => some [.str]
    | some (.struct fs) => (fieldsK P (kindsOf P n) fs.toList 0).bind fun ks => if ks.length = P.cellsOf t then some ks else none
    | some (.array m e) => (kindsOf P n e).bind fun ks => if ks.length = P.cellsOf e ∧ m * ks.length = P.cellsOf t then some (repK m ks) else none
    | _ => none

section
variable {H : Type} {enc : TypeId × Value → H} {P : Program}

/-- what a row asks behind the call, where nothing that was there has turned -/
theorem post_of_below {f : Func} {s : ChangeSpec} {apart fresh handsOn again : Bool} {W W' : World} {args : Array Value} {v : Value} {ds gs : List (DataW H)} {before pa pv : List MemPlace}
    (hW : DataW.Whole enc P f.params.toList s.vars apart W args.toList ds gs before)
    (hres : ∀ (b : Nat) (sp : Nat → Bool) (hd : Bool), DataW.TrodAll enc P W' b sp hd f.resultTypes.toList (v.resultList f.resultTypes.size) (s.fn H (ds ++ gs)).results [])
    (hargs : ∀ sp : Nat → Bool, (∀ p ∈ before, sp p.block = true) → DataW.TrodAll enc P W' 0 sp true f.params.toList args.toList (s.fn H (ds ++ gs)).args pa)
    (hvars : ∀ sp : Nat → Bool, (∀ p ∈ before, sp p.block = true) → DataW.TrodVars enc P W' sp s.vars (s.fn H (ds ++ gs)).vars pv)
    (hps : before = pa ++ pv) (hb : Go.RowKit.Below W.heap.size W W')
    (hok : ∀ (j : Nat) (t : TypeId) (r : Value), f.resultTypes[j]? = some t → (v.resultList f.resultTypes.size)[j]? = some r → Value.okWide P W' .any 0 t r) :
    s.post enc P f apart fresh handsOn again W args v W' := by
  have hold : ∀ p ∈ before, (fun b => decide (b < W.heap.size)) p.block = true := fun p hp => by simpa using hW.lt p hp
  have hlt := hW.lt
  refine ⟨ds, gs, before, [], pa, pv, hW, hres _ _ _, hargs _ hold, hvars _ hold, World.keptBut_mono (fun p hp => ⟨hp, ?_⟩) (hb.frame (· ∈ before)), fun _ => ?_⟩
  · rw [hps, List.mem_append] at hp
    exact Or.inr hp
  · obtain ⟨_, _, _, _, _, hz, hn⟩ := hW
    refine ⟨hok, _, _, ([] ++ pa) ++ pv, ⟨[] ++ pa, pv, trodAll_append (hargs _ (fun _ _ => rfl)) (hres _ _ _), hvars _ (fun _ _ => rfl), rfl, ?_, ?_⟩, ?_⟩
    · intro b off hp
      have hp' : MemPlace.cell b off ∈ before := by rw [hps]; simpa using hp
      rw [hb.frozen (p := ⟨b, off, none⟩) (hlt _ hp')]
      exact hz b off hp'
    · intro ha
      have := hn ha
      rw [hps] at this
      simpa using this
    · intro p hp _
      rw [hps]
      simpa using hp

/-- where nothing that was there has turned, all arguments read as they did -/
theorem trodAll_below (hl : laidOutB P = true) {W W' : World} (hb : Go.RowKit.Below W.heap.size W W') {sp : Nat → Bool} : ∀ {ts : List TypeId} {vs : List Value} {ds : List (DataW H)} {ps : List MemPlace},
    ts.all (fun t => P.readableRec t && decide (t < P.types.size)) = true → DataW.TrodAll enc P W 0 (fun _ => true) true ts vs ds ps → (∀ x ∈ ps, x.block < W.heap.size) → (∀ x ∈ ps, sp x.block = true) → DataW.TrodAll enc P W' 0 sp true ts vs ds ps
  | [], _, _, _, _, h, _, _ => by
    obtain ⟨rfl, rfl, rfl⟩ := trodAll_nil h
    exact trodAll_mk0
  | t :: ts, _, _, _, hr, h, hlt, hsp => by
    obtain ⟨v, vs1, d, ds1, a, b, rfl, rfl, rfl, h1, h2⟩ := trodAll_cons h
    simp only [List.all_cons, Bool.and_eq_true, decide_eq_true_eq] at hr
    refine ⟨a, b, WideElems.Trod_stays hl hr.1.1 hr.1.2 h1 (fun x hx => hb.same (hlt x (by simp [hx]))) (fun x hx => hsp x (by simp [hx])), ?_, rfl⟩
    exact trodAll_below hl hb hr.2 h2 (fun x hx => hlt x (by simp [hx])) (fun x hx => hsp x (by simp [hx]))

/-- a row that says 'true, and the arguments read as they did', out of a call that returns true and turns nothing that was there -/
theorem close_row {f : FuncId} {fn : Func} {s : ChangeSpec} {apart fresh handsOn again : Bool} {W : World} {args : Array Value} {ds gs : List (DataW H)} {before : List MemPlace} {tb : TypeId} (hW : DataW.Whole enc P fn.params.toList s.vars apart W args.toList ds gs before)
    (hv : s.vars = []) (hfn : s.fn H (ds ++ gs) = { results := [.lit (.bool true)], args := ds, vars := [] }) (hl : laidOutB P = true) (hr : fn.params.toList.all (fun t => P.readableRec t && decide (t < P.types.size)) = true) (hres : fn.resultTypes = #[tb])
    (hb : P.underlying tb = some .bool) (hc : Calls P f args W fun e W' => e = .returned (.bool true) ∧ Go.RowKit.Below W.heap.size W W') :
    Calls P f args W fun e W' => ∃ v, e = .returned v ∧ s.post enc P fn apart fresh handsOn again W args v W' := by
  refine hc.mono ?_
  rintro e W' ⟨rfl, hbel⟩
  have hlt := hW.lt
  have hW' := hW
  obtain ⟨p, q, hA, hV, rfl, hz, hn⟩ := hW
  rw [hv] at hV
  obtain ⟨rfl, rfl⟩ := trodVars_none hV
  refine ⟨_, rfl, post_of_below (pa := p) (pv := []) hW' ?_ ?_ ?_ rfl hbel (ok_one hres rfl (okWide_bool_mk hb true))⟩
  · intro b sp hd
    rw [hfn, hres]
    exact trodAll_mk1 (shut_bool hb true)
  · intro sp hsp
    rw [hfn]
    exact trodAll_below hl hbel hr hA (fun x hx => hlt x (by simp [hx])) (fun x hx => hsp x (by simp [hx]))
  · intro sp _
    rw [hfn, hv]
    rfl

variable {W : World} {base : Nat} {sp : Nat → Bool} {held : Bool}

theorem take_both (cs : List Value) (off a b : Nat) : (cs.drop off).take (a + b) = (cs.drop off).take a ++ (cs.drop (off + a)).take b := by
  rw [List.take_add, List.drop_drop]

theorem fieldsK_sound {m : Nat} {g : TypeId → Option (List CK)} (hg : ∀ t ks cs d ps, g t = some ks → DataW.trod enc P W base sp held m t cs = some (d, ps) → CKs ks cs ∧ ps = []) {cs : List Value} : ∀ (fs : List Field) (off : Nat) (ks : List CK) (xs : List (DataW H × List MemPlace)),
    fieldsK P g fs off = some ks → fs.mapM (fun f => DataW.trod enc P W base sp held m f.type ((cs.drop f.offset).take (P.cellsOf f.type))) = some xs → CKs ks ((cs.drop off).take ks.length) ∧ ∀ x ∈ xs, x.2 = []
  | [], off, ks, xs, h1, h2 => by
    simp [fieldsK] at h1; subst h1
    simp at h2; subst h2
    exact ⟨by simpa using CKs.nil, by simp⟩
  | f :: r, off, ks, xs, h1, h2 => by
    simp only [fieldsK] at h1
    split at h1
    · rename_i hoff
      obtain ⟨kf, hkf, h1⟩ := bind_some' h1
      split at h1
      · rename_i hlen
        obtain ⟨kr, hkr, rfl⟩ := Option.map_eq_some_iff.1 h1
        rw [List.mapM_cons] at h2
        simp only [bind, Option.bind_eq_some_iff, pure, Option.some.injEq] at h2
        obtain ⟨y, hy, ys, hys, rfl⟩ := h2
        obtain ⟨i1, i2⟩ := fieldsK_sound hg r _ kr ys hkr hys
        obtain ⟨j1, j2⟩ := hg _ _ _ _ _ hkf hy
        rw [hoff, ← hlen] at j1
        refine ⟨?_, ?_⟩
        · rw [List.length_append, take_both]
          exact j1.app i1
        · intro x hx
          rcases List.mem_cons.1 hx with rfl | hx
          · exact j2
          · exact i2 x hx
      · simp at h1
    · simp at h1

theorem repK_sound {m : Nat} {e : TypeId} {ke : List CK} (hg : ∀ cs d ps, DataW.trod enc P W base sp held m e cs = some (d, ps) → CKs ke cs ∧ ps = []) (hl : ke.length = P.cellsOf e) {cs : List Value} : ∀ (n i0 : Nat) (xs : List (DataW H × List MemPlace)),
    (List.range' i0 n).mapM (fun i => DataW.trod enc P W base sp held m e ((cs.drop (i * P.cellsOf e)).take (P.cellsOf e))) = some xs → CKs (repK n ke) ((cs.drop (i0 * ke.length)).take (n * ke.length)) ∧ ∀ x ∈ xs, x.2 = []
  | 0, i0, xs, h => by
    simp at h; subst h
    exact ⟨by simpa [repK] using CKs.nil, by simp⟩
  | n + 1, i0, xs, h => by
    rw [List.range'_succ, List.mapM_cons] at h
    simp only [bind, Option.bind_eq_some_iff, pure, Option.some.injEq] at h
    obtain ⟨y, hy, ys, hys, rfl⟩ := h
    obtain ⟨i1, i2⟩ := repK_sound hg hl n (i0 + 1) ys hys
    obtain ⟨j1, j2⟩ := hg _ _ _ hy
    rw [← hl] at j1
    refine ⟨?_, ?_⟩
    · rw [show (n + 1) * ke.length = ke.length + n * ke.length by rw [Nat.succ_mul, Nat.add_comm], take_both]
      rw [show (i0 + 1) * ke.length = i0 * ke.length + ke.length by rw [Nat.succ_mul]] at i1
      exact j1.app i1
    · intro x hx
      rcases List.mem_cons.1 hx with rfl | hx
      · exact j2
      · exact i2 x hx

theorem places_nil {xs : List (DataW H × List MemPlace)} (h : ∀ x ∈ xs, x.2 = []) : xs.flatMap (·.2) = [] := by
  simp [List.flatMap_eq_nil_iff]; intro a b hab; exact h (a, b) hab

theorem read_kinds : ∀ (n : Nat) (t : TypeId) (ks : List CK), kindsOf P n t = some ks → ∀ (m : Nat) (cs : List Value) (d : DataW H) (ps : List MemPlace), DataW.trod enc P W base sp held m t cs = some (d, ps) → CKs ks cs ∧ ps = []
  | 0, _, _, h, _, _, _, _, _ => by simp [kindsOf] at h
  | n + 1, t, ks, h, m, cs, d, ps, ht => by
    have ih := read_kinds n
    cases m with
    | zero => simp [DataW.trod] at ht
    | succ m =>
      simp only [kindsOf] at h
      unfold DataW.trod at ht
      split at h
      · rename_i hu
        rw [hu] at ht
        injection h with h; subst h
        split at ht <;> simp_all
        exact .cons ⟨_, rfl⟩ .nil
      · rename_i k hu
        rw [hu] at ht
        injection h with h; subst h
        split at ht <;> simp_all
        obtain ⟨⟨h1, h2⟩, h3, h4⟩ := ht
        exact .cons ⟨_, rfl, h2⟩ .nil
      · rename_i hu
        rw [hu] at ht
        injection h with h; subst h
        split at ht <;> simp_all
        exact .cons ⟨_, rfl, ht.1⟩ .nil
      · rename_i fs hu
        rw [hu] at ht
        obtain ⟨ks', hk, h⟩ := bind_some' h
        split at h
        · rename_i hlen
          injection h with h; subst h
          have ht' : (if cs.length = P.cellsOf t then (fs.toList.mapM fun f => DataW.trod enc P W base sp held m f.type ((cs.drop f.offset).take (P.cellsOf f.type))).map fun xs => (DataW.agg (xs.map (·.1)), xs.flatMap (·.2)) else none) = some (d, ps) := by
            revert ht; simp only; exact id
          split at ht'
          · rename_i hcl
            obtain ⟨xs, hx, he⟩ := Option.map_eq_some_iff.1 ht'
            obtain ⟨i1, i2⟩ := fieldsK_sound (fun t ks cs d ps h1 h2 => ih t ks h1 m cs d ps h2) fs.toList 0 ks' xs hk hx
            simp only [Prod.mk.injEq] at he
            refine ⟨?_, by rw [← he.2]; exact places_nil i2⟩
            rw [List.drop_zero, List.take_of_length_le (by omega)] at i1
            exact i1
          · simp at ht'
        · simp at h
      · rename_i q e hu
        rw [hu] at ht
        obtain ⟨ke, hk, h⟩ := bind_some' h
        split at h
        · rename_i hlen
          injection h with h; subst h
          have ht' : (if cs.length = P.cellsOf t then ((List.range q).mapM fun i => DataW.trod enc P W base sp held m e ((cs.drop (i * P.cellsOf e)).take (P.cellsOf e))).map fun xs => (DataW.agg (xs.map (·.1)), xs.flatMap (·.2)) else none) = some (d, ps) := by
            revert ht; simp only; exact id
          split at ht'
          · rename_i hcl
            obtain ⟨xs, hx, he⟩ := Option.map_eq_some_iff.1 ht'
            rw [List.range_eq_range'] at hx
            obtain ⟨i1, i2⟩ := repK_sound (fun cs d ps h2 => ih e ke hk m cs d ps h2) hlen.1 q 0 xs hx
            simp only [Prod.mk.injEq] at he
            refine ⟨?_, by rw [← he.2]; exact places_nil i2⟩
            rw [Nat.zero_mul, List.drop_zero, List.take_of_length_le (by omega)] at i1
            exact i1
          · simp at ht'
        · simp at h
      · simp at h

/-- an argument that is an array or a struct, without pointers -/
theorem open_agg {r : Reach} {b0 : Nat} {t : TypeId} {v : Value} {d : DataW H} {ps : List MemPlace} {n : Nat} {ks : List CK} (hk : kindsOf P n t = some ks)
    (hu : (match P.underlying t with | some (.struct _) | some (.array _ _) => true | _ => false) = true) (hval : Value.okWide P W r b0 t v) (hd : DataW.Trod enc P W base sp held t v d ps) :
    ∃ l : List Value, v = .agg ⟨l⟩ ∧ CKs ks l ∧ ps = [] := by
  obtain ⟨m, hm⟩ := hd
  obtain ⟨h1, h2⟩ := read_kinds n t ks hk m _ d ps hm
  have : ∃ cs, v = .agg cs := by
    unfold Value.okWide at hval
    split at hval
    · obtain ⟨cs, h, _⟩ := hval; exact ⟨cs, h⟩
    · obtain ⟨cs, h, _⟩ := hval; exact ⟨cs, h⟩
    · split at hu <;> simp_all
  obtain ⟨cs, rfl⟩ := this
  exact ⟨cs.toList, rfl, h1, h2⟩

end

end Go.Fm

namespace Go.Fm
open Go.ChangeShapes Go.WideShapes Go.ChangeAt Go.RowKit

/-- a cell, by its kind -/
inductive XK where
  | bool
  | int (k : IntKind)
  | str
  | slice

def XK.ok : XK → Value → Prop
  | .bool, v => ∃ b, v = .bool b
  | .int k, v => ∃ n, v = .int k n
  | .str, v => ∃ s : ByteArray, v = .string s
  | .slice, v => v = .slice none 0 0 ∨ ∃ b o l c, v = .slice (some ⟨b, o, none⟩) l c

def kindX (P : Program) (t : TypeId) : Option XK :=
  match P.underlying t with
  | some .bool => some .bool
  | some (.int k) => some (.int k)
  | some .string => some .str
  | some (.slice _) => some .slice
  | _ => none

section
variable {P : Program} {W : World} {r : Reach} {b0 : Nat}

theorem kindX_ok {t : TypeId} {k : XK} {v : Value} (hk : kindX P t = some k) (h : Cell.okWide P W r b0 t v) : k.ok v := by
  unfold kindX at hk
  split at hk
  · rename_i hu
    injection hk with hk; subst hk
    unfold Cell.okWide Cell.ok at h
    rw [hu] at h
    cases v <;> simp_all [XK.ok]
  · rename_i k' hu
    injection hk with hk; subst hk
    unfold Cell.okWide Cell.ok at h
    rw [hu] at h
    cases v <;> simp_all [XK.ok]
  · rename_i hu
    injection hk with hk; subst hk
    unfold Cell.okWide Cell.ok at h
    rw [hu] at h
    cases v <;> simp_all [XK.ok]
  · rename_i e hu
    injection hk with hk; subst hk
    unfold Cell.okWide Cell.ok at h
    rw [hu] at h
    cases v with
    | slice a l c =>
      cases a with
      | none =>
        left
        revert h
        cases l <;> cases c <;> simp
      | some a =>
        right
        obtain ⟨b, o, s⟩ := a
        obtain ⟨_, _, _, hs, _⟩ := h
        simp only at hs
        subst hs
        exact ⟨b, o, l, c, rfl⟩
    | _ => simp at h
  · simp at hk

/-- an argument that is one cell -/
theorem open_cell {t : TypeId} {v : Value} {k : XK} (hk : kindX P t = some k) (hval : Value.okWide P W r b0 t v) : k.ok v := by
  refine kindX_ok (W := W) (r := r) (b0 := b0) hk ?_
  unfold Value.okWide at hval
  unfold kindX at hk
  split at hval
  · rename_i hu; rw [hu] at hk; simp at hk
  · rename_i hu; rw [hu] at hk; simp at hk
  · exact hval

end

end Go.Fm

namespace Go.Fm
open Go.ChangeShapes Go.WideShapes Go.ChangeAt Go.RowKit

/-- where nothing stands for anything, any heap will do -/
theorem Sim.unmapped (W : World) (h : AHeap) : Sim (allBelow W) W (fun _ => none) h W :=
  ⟨Io.refl W, Nat.le_refl _, fun B o _ => keptAt_refl W B o, fun _ _ h => h, fun _ _ h => (by cases h), fun _ _ h => (by cases h), fun _ _ h => (by cases h), fun _ _ _ _ _ h => (by cases h)⟩

end Go.Fm

namespace Go.Fm

variable {P : Program}

theorem aBin2_shl {t : TypeId} {ox oy : Operand} {k yk : IntKind} {x y : Int} (hy : 0 ≤ y) : aBin2 P .shl t ox oy (.int k x) (.int yk y) = some (.int k (k.wrap (x * 2 ^ min y.toNat k.bits))) := by
  have h : ¬ y < 0 := by omega
  show semFlat P (Op.shift .shl k x yk y) = _
  unfold Op.shift
  rw [if_neg h]
  rfl

theorem aIndexAddr_slice {t e : TypeId} {b o len cap s : Nat} {sp : Option Nat} {k : IntKind} {n : Int} (hu : P.underlying t = some (.slice e)) (hs : aSize P e = some s) (h0 : 0 ≤ n) (h1 : n < len) :
    aIndexAddr P t (.slice (some ⟨b, o, sp⟩) len cap) (.int k n) = some (.pointer (some ⟨b, o + n.toNat * s, none⟩)) := by
  unfold aIndexAddr
  simp only [hu]
  rw [if_pos ⟨h0, h1⟩, hs]
  rfl

/-! ## keys that are arrays of integers -/

theorem semPure_bind {α β : Type} (x : Sem α) (f : α → Sem β) : semPure P (x >>= f) = (semPure P x).bind fun a => semPure P (f a) := by
  induction x with
  | pure a => rfl
  | program k ih => exact ih P
  | _ => rfl

theorem semPure_underlying {t : TypeId} {d : TypeDesc} (hu : P.underlying t = some d) : semPure P (underlying t) = some d := by
  unfold underlying
  rw [semPure_bind]
  show (semPure P (match P.underlying t with | some d => pure d | none => stuck "no such type")) = _
  rw [hu]
  rfl

/-- the items of two arrays, one by one -/
def eqList (is : List Nat) (g : Nat → Option Bool) : Option Bool :=
  match is with
  | [] => some true
  | i :: r => (g i).bind fun b => if b = true then eqList r g else some false

theorem equalIn_array (d : Nat) {t e : TypeId} {n : Nat} (xs ys : Array Value) (c : Nat) (hu : P.underlying t = some (.array n e)) (hc : semPure P (sizeOf e) = some c) :
    semPure P (Op.equalIn (d + 1) t (.agg xs) (.agg ys)) = eqList (List.range n) fun i => (semPure P (part e xs (i * c))).bind fun a => (semPure P (part e ys (i * c))).bind fun b => semPure P (Op.equalIn d e a b) := by
  simp only [Op.equalIn, semPure_bind, semPure_underlying hu, Option.bind_some, hc]
  simp only [Std.Legacy.Range.forIn_eq_forIn_range', Std.Legacy.Range.size, Nat.sub_zero, Nat.add_one_sub_one, Nat.div_one, List.range_eq_range']
  generalize List.range' 0 n = is
  induction is with
  | nil => rfl
  | cons j is ih =>
    simp only [List.forIn_cons, eqList, semPure_bind]
    generalize semPure P (part e xs (j * c)) = r1
    cases r1 with
    | none => rfl
    | some a =>
      generalize semPure P (part e ys (j * c)) = r2
      cases r2 with
      | none => rfl
      | some b =>
        simp only [Option.bind_some]
        generalize semPure P (Op.equalIn d e a b) = r3
        cases r3 with
        | none => rfl
        | some r =>
          cases r
          · rfl
          · exact ih

/-! ## maps of one entry -/

/-! ## forgetting, with objects that nobody looks at any more -/

end Go.Fm

namespace Go.Fm

variable {P : Program}

theorem eqList_all {g : Nat → Option Bool} {f : Nat → Bool} : ∀ {is : List Nat}, (∀ i ∈ is, g i = some (f i)) → eqList is g = some (is.all f)
  | [], _ => rfl
  | i :: r, h => by
    simp only [eqList, h i (by simp), Option.bind_some, List.all_cons]
    cases hf : f i with
    | true => simp only [if_true, Bool.true_and]; exact eqList_all fun j hj => h j (by simp [hj])
    | false => simp

theorem all_range_eq {l l' : List Int} {n : Nat} (hl : l.length = n) (hl' : l'.length = n) : ((List.range n).all fun i => l.getD i 0 == l'.getD i 0) = decide (l = l') := by
  rw [Bool.eq_iff_iff, decide_eq_true_eq, List.all_eq_true]
  simp only [List.mem_range, beq_iff_eq]
  constructor
  · intro h
    apply List.ext_getElem (by omega)
    intro i h1 h2
    have := h i (by omega)
    simpa [List.getD_eq_getElem?_getD, List.getElem?_eq_getElem h1, List.getElem?_eq_getElem h2] using this
  · rintro rfl i _; rfl

theorem semPure_int {d : Nat} {e : TypeId} {k k' : IntKind} (he : P.underlying e = some (.int k')) (a b : Int) : semPure P (Op.equalIn (d + 1) e (.int k a) (.int k b)) = some (a == b) := by
  simp only [Op.equalIn, semPure_bind, semPure_underlying he, Option.bind_some]
  rw [if_pos trivial]; rfl

theorem eq_ints {d : Nat} {t e : TypeId} {n : Nat} {k k' : IntKind} (hu : P.underlying t = some (.array n e)) (he : P.underlying e = some (.int k')) (hc : semPure P (sizeOf e) = some 1) (ha : semPure P (isAgg e) = some false)
    {l l' : List Int} (hl : l.length = n) (hl' : l'.length = n) : semPure P (Op.equalIn (d + 2) t (.agg (l.map (Value.int k)).toArray) (.agg (l'.map (Value.int k)).toArray)) = some (decide (l = l')) := by
  have hp : ∀ {l : List Int} (i : Nat), i < l.length → semPure P (part e (l.map (Value.int k)).toArray (i * 1)) = some (.int k (l.getD i 0)) := by
    intro l i hi
    unfold part
    rw [semPure_bind, ha, Option.bind_some]
    simp only [Bool.false_eq_true, if_false, Nat.mul_one, List.getElem?_toArray, List.getElem?_map, List.getElem?_eq_getElem hi, Option.map_some, List.getD_eq_getElem?_getD, Option.getD_some]
    rfl
  rw [equalIn_array (d + 1) _ _ 1 hu hc, ← all_range_eq hl hl']
  refine eqList_all fun i hi => ?_
  have hi : i < n := by simpa using hi
  rw [hp i (by omega), hp i (by omega)]
  exact semPure_int he _ _

theorem aBin2_eql_agg {t : TypeId} {ox oy : Operand} {x y : Array Value} (hx : flatB (.agg x) = true) (hy : flatB (.agg y) = true) (hg : P.eqGuardType P.depth t = false) {b : Bool} (hb : semPure P (Op.equalIn 10000 t (.agg x) (.agg y)) = some b) :
    aBin2 P .eql t ox oy (.agg x) (.agg y) = some (.bool b) := by
  have h1 : semPure P (eqGuard .eql t ox oy (.agg x) (.agg y)) = some () := by
    show (semPure P ((program >>= fun p => _) : Sem Unit)) = _
    rw [semPure_bind]
    show semPure P (program >>= fun p => _) = _
    rw [semPure_bind]
    show semPure P (if (!(P.eqGuardType P.depth t)) = true then _ else _) = _
    rw [hg]; rfl
  have h2 : semPure P (binOp .eql t (.agg x) (.agg y)) = some (.bool b) := by
    show semPure P (Op.equal t (.agg x) (.agg y) >>= fun r => pure (Value.bool r)) = _
    rw [semPure_bind]
    show (semPure P (Op.equalIn 10000 t (.agg x) (.agg y))).bind _ = _
    rw [hb]; rfl
  unfold aBin2
  rw [hx, hy]
  simp only [Bool.and_self, if_true]
  unfold semFlat
  rw [semPure_bind, h1, Option.bind_some, h2]
  rfl

theorem aBin2_neq_agg {t : TypeId} {ox oy : Operand} {x y : Array Value} (hx : flatB (.agg x) = true) (hy : flatB (.agg y) = true) (hg : P.eqGuardType P.depth t = false) {b : Bool} (hb : semPure P (Op.equalIn 10000 t (.agg x) (.agg y)) = some b) :
    aBin2 P .neq t ox oy (.agg x) (.agg y) = some (.bool !b) := by
  have h1 : semPure P (eqGuard .neq t ox oy (.agg x) (.agg y)) = some () := by
    show (semPure P ((program >>= fun p => _) : Sem Unit)) = _
    rw [semPure_bind]
    show semPure P (program >>= fun p => _) = _
    rw [semPure_bind]
    show semPure P (if (!(P.eqGuardType P.depth t)) = true then _ else _) = _
    rw [hg]; rfl
  have h2 : semPure P (binOp .neq t (.agg x) (.agg y)) = some (.bool !b) := by
    show semPure P (Op.equal t (.agg x) (.agg y) >>= fun r => pure (Value.bool !r)) = _
    rw [semPure_bind]
    show (semPure P (Op.equalIn 10000 t (.agg x) (.agg y))).bind _ = _
    rw [hb]; rfl
  unfold aBin2
  rw [hx, hy]
  simp only [Bool.and_self, if_true]
  unfold semFlat
  rw [semPure_bind, h1, Option.bind_some, h2]
  rfl

/-- a struct, field by field -/
def eqFields (P : Program) (d : Nat) (xs ys : Array Value) : List Field → Option Bool
  | [] => some true
  | f :: r =>
    if f.name ≠ "_" then
      (semPure P (part f.type xs f.offset)).bind fun a => (semPure P (part f.type ys f.offset)).bind fun b => (semPure P (Op.equalIn d f.type a b)).bind fun q => if q = true then eqFields P d xs ys r else some false
    else eqFields P d xs ys r

theorem equalIn_struct (d : Nat) {t : TypeId} {fs : Array Field} (xs ys : Array Value) (hu : P.underlying t = some (.struct fs)) (hh : P.stoodInHeld t = false) :
    semPure P (Op.equalIn (d + 1) t (.agg xs) (.agg ys)) = eqFields P d xs ys fs.toList := by
  simp only [Op.equalIn, semPure_bind, semPure_underlying hu, Option.bind_some]
  show (semPure P (if P.stoodInHeld t = true then _ else _)) = _
  rw [hh]
  simp only [Bool.false_eq_true, if_false, semPure_bind, ← Array.forIn_toList]
  generalize fs.toList = l
  induction l with
  | nil => rfl
  | cons f l ih =>
    simp only [List.forIn_cons, eqFields, semPure_bind]
    by_cases hn : f.name ≠ "_"
    · rw [if_pos hn, if_pos hn]
      simp only [semPure_bind]
      generalize semPure P (part f.type xs f.offset) = r1
      cases r1 with
      | none => rfl
      | some a =>
        generalize semPure P (part f.type ys f.offset) = r2
        cases r2 with
        | none => rfl
        | some b =>
          simp only [Option.bind_some]
          generalize semPure P (Op.equalIn d f.type a b) = r3
          cases r3 with
          | none => rfl
          | some r =>
            cases r
            · rfl
            · exact ih
    · rw [if_neg hn, if_neg hn]
      exact ih

end Go.Fm

namespace Go.Fm
open Go.RowKit

variable {P : Program} {H : Type} {enc : TypeId × Value → H} {W : World} {base : Nat} {sp : Nat → Bool} {held : Bool}

end Go.Fm

namespace Go.Fm

variable {P : Program}

/-! ## renaming -/

def renV (f : Nat → Nat) : Nat → Value → Value
  | 0, v => v
  | n + 1, v =>
    match v with
    | .pointer (some ⟨b, o, s⟩) => .pointer (some ⟨f b, o, s⟩)
    | .slice (some ⟨b, o, s⟩) l c => .slice (some ⟨f b, o, s⟩) l c
    | .map (some r) => .map (some (f r))
    | .iface t v => .iface t (renV f n v)
    | .agg x => .agg ⟨x.toList.map (renV f n)⟩
    | .tuple x => .tuple ⟨x.toList.map (renV f n)⟩
    | .func (.func g) x y => .func (.func g) ⟨x.toList.map (renV f n)⟩ ⟨y.toList.map (renV f n)⟩
    | .func (.yield l) x y => .func (.yield (f l)) x y
    | v => v

def renO (f : Nat → Nat) (N : Nat) (o : AObj) : AObj :=
  match o with
  | .cells c ro => cond (c.all (scopeV N 8)) (.cells (c.map (renV f 8)) ro) .dead
  | .tcells c t z => cond (c.all (scopeV N 8)) (.tcells (c.map (renV f 8)) t z) .dead
  | .map es clock => cond (es.all fun e => scopeV N 8 e.key && scopeV N 8 e.val) (.map (es.map fun e => { e with key := renV f 8 e.key, val := renV f 8 e.val }) clock) .dead
  | .mapIter none a b c => .mapIter none a b c
  | .mapIter (some m) a b c => .mapIter (some (f m)) a b c
  | .strIter s p => .strIter s p
  | .spec .defq => .spec .defq
  | .spec .over => .spec .over
  | _ => .dead

def updO (f : Nat → Nat) (N : Nat) (old new : Option AObj) : AObj :=
  match old with
  | some (.cells c true) => .cells c true
  | _ => match new with
    | some (.cells _ true) => .dead
    | some o => renO f N o
    | none => .dead

section
variable {j1 j2 : Inj} {f : Nat → Nat} (hf : ∀ b L, j1 b = some L → j2 (f b) = some L)
include hf

theorem renV_vr {N : Nat} : ∀ (n : Nat) (v : Value), scopeV N n v = true → ∀ v', VR j1 v v' → VR j2 (renV f n v) v'
  | 0, v, h => by simp [scopeV] at h
  | n + 1, v, h => by
    have ih := renV_vr (N := N) n
    have arr : ∀ (x x' : Array Value), x.toList.all (scopeV N n) = true → x.size = x'.size → (∀ (i : Nat) (v v' : Value), x[i]? = some v → x'[i]? = some v' → VR j1 v v') →
        (⟨x.toList.map (renV f n)⟩ : Array Value).size = x'.size ∧ ∀ (i : Nat) (v v' : Value), (⟨x.toList.map (renV f n)⟩ : Array Value)[i]? = some v → x'[i]? = some v' → VR j2 v v' := by
      intro x x' hx hs hr
      refine ⟨by simpa using hs, fun i v v' e e' => ?_⟩
      have e2 : (x.toList.map (renV f n))[i]? = some v := by simpa using e
      rw [List.getElem?_map] at e2
      obtain ⟨u, hu, rfl⟩ := Option.map_eq_some_iff.1 e2
      exact ih u (List.all_eq_true.1 hx u (List.mem_of_getElem? hu)) v' (hr i u v' (by simpa using hu) e')
    unfold scopeV at h
    intro v' hv
    cases hv with
    | bool b => exact .bool b
    | int k m => exact .int k m
    | float k m => exact .float k m
    | complex k x y => exact .complex k x y
    | string s => exact .string s
    | pnil => exact .pnil
    | ptr hj => exact .ptr (hf _ _ hj)
    | snil l c => exact .snil l c
    | slice l c hj => exact .slice l c (hf _ _ hj)
    | oslice l c hj he hc => exact .oslice l c (hf _ _ hj) he hc
    | slice0 a a' => obtain ⟨b, o, s⟩ := a; exact .slice0 _ a'
    | mnil => exact .mnil
    | map hj => exact .map (hf _ _ hj)
    | cnil => exact .cnil
    | hole hc => exact .hole hc
    | func g h1 h2 h3 h4 =>
      simp only [Bool.and_eq_true] at h
      obtain ⟨a1, a2⟩ := arr _ _ h.1 h1 h2
      obtain ⟨b1, b2⟩ := arr _ _ h.2 h3 h4
      exact .func g a1 a2 b1 b2
    | method m h1 h2 h3 h4 => cases h
    | yield hj => exact .yield (hf _ _ hj)
    | nilFunc => exact .nilFunc
    | iface t hv => exact .iface t (ih _ h _ hv)
    | nilIface => exact .nilIface
    | agg h1 h2 => obtain ⟨a1, a2⟩ := arr _ _ h h1 h2; exact .agg a1 a2
    | tuple h1 h2 => obtain ⟨a1, a2⟩ := arr _ _ h h1 h2; exact .tuple a1 a2

theorem renV_lr {N : Nat} : ∀ {l l' : List Value}, l.all (scopeV N 8) = true → LR j1 l l' → LR j2 (l.map (renV f 8)) l'
  | [], _, _, h => by cases h; exact .nil
  | v :: l, _, hs, h => by
    cases h with
    | cons hv hl =>
      simp only [List.all_cons, Bool.and_eq_true] at hs
      exact .cons (renV_vr hf 8 v hs.1 _ hv) (renV_lr hs.2 hl)

theorem renE_er {N : Nat} : ∀ {l l' : List MapEntry}, (l.all fun e => scopeV N 8 e.key && scopeV N 8 e.val) = true → ER j1 l l' →
    ER j2 (l.map fun e => { e with key := renV f 8 e.key, val := renV f 8 e.val }) l'
  | [], _, _, h => by cases h; exact .nil
  | e :: l, _, hs, h => by
    cases h with
    | cons hr hl =>
      simp only [List.all_cons, Bool.and_eq_true] at hs
      exact .cons ⟨renV_vr hf 8 _ hs.1.1 _ hr.1, renV_vr hf 8 _ hs.1.2 _ hr.2.1, hr.2.2⟩ (renE_er hs.2 hl)

theorem renO_objR {N : Nat} {L : Loc} {w : World} {o : AObj} (h : ObjR j1 L w (some o)) : ObjR j2 L w (some (renO f N o)) := by
  unfold renO
  split
  · rename_i c ro
    cases hs : c.all (scopeV N 8) with
    | false => trivial
    | true =>
      obtain ⟨d, T, fz, h1, h2, h3, h4, h5, h6⟩ := h
      exact ⟨d, T, fz, h1, by simpa using h2, h3, renV_lr hf hs h4, h5, h6⟩
  · rename_i c t z
    cases hs : c.all (scopeV N 8) with
    | false => trivial
    | true =>
      obtain ⟨d, fz, h1, h2, h3, h4, h5⟩ := h
      exact ⟨d, fz, h1, by simpa using h2, h3, renV_lr hf hs h4, h5⟩
  · rename_i es clock
    cases hs : (es.all fun e => scopeV N 8 e.key && scopeV N 8 e.val) with
    | false => trivial
    | true =>
      obtain ⟨es', h1, h2, h3⟩ := h
      exact ⟨es', h1, renE_er hf hs h2, h3⟩
  · obtain ⟨h0, m', h1, h2⟩ := h
    rcases h2 with h2 | ⟨r0, L', h3, _⟩
    · exact ⟨h0, m', h1, .inl h2⟩
    · cases h3
  · obtain ⟨h0, m', h1, h2⟩ := h
    rcases h2 with h2 | ⟨r0, L', h3, h4, h5⟩
    · cases h2.1
    · injection h3 with h3; subst h3
      exact ⟨h0, m', h1, .inr ⟨_, L', rfl, hf _ _ h4, h5⟩⟩
  · exact h
  · exact h
  · exact h
  · trivial
end

theorem renO_owns {f : Nat → Nat} {N : Nat} {o : AObj} {L : Loc} {B x : Nat} (h : owns L (some (renO f N o)) B x) : owns L (some o) B x := by
  unfold renO at h
  split at h
  · rename_i c ro; cases hs : c.all (scopeV N 8) <;> rw [hs] at h
    · exact h.elim
    · exact h
  · rename_i c t z; cases hs : c.all (scopeV N 8) <;> rw [hs] at h
    · exact h.elim
    · exact h
  · rename_i es clock; cases hs : (es.all fun e => scopeV N 8 e.key && scopeV N 8 e.val) <;> rw [hs] at h
    · exact h.elim
    · exact h
  · exact h
  · exact h
  · exact h
  · exact h
  · exact h
  · exact h.elim

theorem renO_isRw {f : Nat → Nat} {N : Nat} {o : AObj} (h : isRw (some (renO f N o))) : isRw (some o) := by
  unfold renO at h
  split at h
  · rename_i c ro; cases hs : c.all (scopeV N 8) <;> rw [hs] at h
    · exact h.elim
    · exact h
  · rename_i c t z; trivial
  · rename_i es clock; trivial
  · trivial
  · trivial
  · trivial
  · trivial
  · trivial
  · exact h.elim

/-- an object that has places of its own, and is not only read, may be written -/
theorem owns_rw {o : AObj} {L : Loc} {B x : Nat} (h : owns L (some o) B x) (hro : ∀ c, o ≠ .cells c true) : isRw (some o) := by
  match o, h with
  | .cells c false, _ => rfl
  | .cells c true, _ => exact (hro c rfl).elim
  | .tcells _ _ _, _ | .map _ _, _ | .mapIter _ _ _ _, _ | .strIter _ _, _ | .spec _, _ => trivial

/-- the ways an object of the run comes back: as it was (only read), renamed, or dead -/
theorem updO_cases (f : Nat → Nat) (N : Nat) (old new : Option AObj) :
    (∃ c, old = some (.cells c true) ∧ updO f N old new = .cells c true) ∨ updO f N old new = .dead ∨ ∃ o, new = some o ∧ (∀ c, o ≠ .cells c true) ∧ updO f N old new = renO f N o := by
  unfold updO
  split
  · rename_i c; exact .inl ⟨c, rfl, rfl⟩
  · split
    · exact .inr (.inl rfl)
    · rename_i o hno
      exact .inr (.inr ⟨o, rfl, fun c hc => hno c (by rw [hc]), rfl⟩)
    · exact .inr (.inl rfl)

theorem keptAt_trans {a b c : World} {B o : Nat} (h : keptAt a b B o) (h' : keptAt b c B o) : keptAt a c B o := by
  unfold keptAt at h ⊢
  split at h
  · rename_i d T f ha
    obtain ⟨d', h1, h2, h3⟩ := h
    unfold keptAt at h'
    rw [h1] at h'
    obtain ⟨d2, k1, k2, k3⟩ := h'
    exact ⟨d2, k1, k2.trans h2, k3.trans h3⟩
  · rename_i x hx ha
    unfold keptAt at h'
    rw [h] at h'
    split at h'
    · rename_i d T f hb; injection hb with hb; exact (hx _ _ _ hb).elim
    · rename_i y hy hb; injection hb with hb; subst hb; exact h'
    · rename_i hb; cases hb
  · trivial

/-- an object whose places are all kept -/
theorem ObjR.kept {j : Inj} {L : Loc} {w w' : World} {o : Option AObj} (h : ObjR j L w o) (hk : ∀ B x, owns L o B x → keptAt w w' B x) (hne : ∀ ro, o ≠ some (.cells [] ro)) : ObjR j L w' o := by
  match o, h with
  | some (.cells c ro), ⟨d, T, f, h1, h2, h3, h4, h5, h6⟩ =>
    have hc : 0 < L.size := by
      cases c with
      | nil => exact (hne ro rfl).elim
      | cons a r => rw [← h2]; simp
    have hpos : 0 < L.ext := by unfold Loc.ext; omega
    have all : ∀ x : Nat, L.off ≤ x → x < L.off + L.ext → ∃ d', w'.heap[L.blk]? = some (.cells d' T f) ∧ d'.size = d.size ∧ d'[x]? = d[x]? := by
      intro x hx hx'
      have := hk L.blk x ⟨rfl, hx, hx'⟩
      unfold keptAt at this
      rw [h1] at this
      exact this
    obtain ⟨d', k1, k2, _⟩ := all L.off (Nat.le_refl _) (by omega)
    refine ⟨d', T, f, k1, h2, by rw [k2]; exact h3, ?_, h5, h6⟩
    have : (d'.toList.drop L.off).take L.size = (d.toList.drop L.off).take L.size := by
      apply List.ext_getElem?
      intro i
      simp only [List.getElem?_take, List.getElem?_drop]
      split
      · rename_i hi
        obtain ⟨d2, m1, m2, m3⟩ := all (L.off + i) (by omega) (by unfold Loc.ext; omega)
        rw [k1] at m1; injection m1 with m1; injection m1 with m1; subst m1
        simpa using m3
      · rfl
    rw [this]; exact h4
  | some (.tcells c t z), ⟨d, f, h1, h2, h3, h4, h5, h6, h7⟩ =>
    have all : ∀ x : Nat, ∃ d', w'.heap[L.blk]? = some (.cells d' t f) ∧ d'.size = d.size ∧ d'[x]? = d[x]? := by
      intro x
      have := hk L.blk x rfl
      unfold keptAt at this
      rw [h1] at this
      exact this
    obtain ⟨d', k1, k2, _⟩ := all 0
    have hd : d' = d := by
      apply Array.ext_getElem?
      intro i
      obtain ⟨d2, m1, m2, m3⟩ := all i
      rw [k1] at m1; injection m1 with m1; injection m1 with m1; subst m1
      exact m3
    rw [hd] at k1
    exact ⟨d, f, k1, h2, h3, h4, h5, h6, h7⟩
  | some (.map es clock), ⟨es', h1, h2⟩ =>
    have := hk L.blk 0 rfl; unfold keptAt at this; rw [h1] at this; exact ⟨es', this, h2⟩
  | some (.mapIter _ _ _ _), ⟨h0, m', h1, h2⟩ =>
    have := hk L.blk 0 rfl; unfold keptAt at this; rw [h1] at this; exact ⟨h0, m', this, h2⟩
  | some (.strIter _ _), ⟨h0, h1⟩ =>
    have := hk L.blk 0 rfl; unfold keptAt at this; rw [h1] at this; exact ⟨h0, this⟩
  | some (.spec x), ⟨h0, y, h1, h2⟩ =>
    have := hk L.blk 0 rfl
    unfold keptAt at this; rw [h1] at this
    cases y with
    | cells d T f => exact (SpecR.cells h2).elim
    | _ => exact ⟨h0, _, this, h2⟩
  | some .dead, _ => trivial
  | none, h => exact h.elim

/-! ## the greater heap behind the run -/

/-- the new name of a block of the run: n0 blocks were handed in, n there are in all -/
def renB (i : Nat → Option Nat) (n0 n : Nat) (b : Nat) : Nat := cond (Nat.blt b n0) ((i b).getD 0) (n + (b - n0))

def putOld (i : Nat → Option Nat) (n0 n : Nat) (h0' : AHeap) (h : AHeap) : List Nat → AHeap → AHeap
  | [], g => g
  | b :: r, g => match i b with
    | some q => putOld i n0 n h0' h r (g.set q (updO (renB i n0 n) h0'.length h[q]? h0'[b]?))
    | none => putOld i n0 n h0' h r g

/-- the greater heap, behind a run that left h0' of the small one -/
def putH (i : Nat → Option Nat) (n0 : Nat) (h0' h : AHeap) : AHeap :=
  putOld i n0 h.length h0' h (List.range n0) h ++ (h0'.drop n0).map fun o => updO (renB i n0 h.length) h0'.length none (some o)

theorem putOld_length (i : Nat → Option Nat) (n0 n : Nat) (h0' h : AHeap) : ∀ (l : List Nat) (g : AHeap), (putOld i n0 n h0' h l g).length = g.length
  | [], _ => rfl
  | b :: r, g => by
    unfold putOld; split
    · rw [putOld_length i n0 n h0' h r]; simp
    · exact putOld_length i n0 n h0' h r g

theorem putOld_other (i : Nat → Option Nat) (n0 n : Nat) (h0' h : AHeap) {q : Nat} : ∀ (l : List Nat) (g : AHeap), (∀ b ∈ l, i b ≠ some q) → (putOld i n0 n h0' h l g)[q]? = g[q]?
  | [], _, _ => rfl
  | b :: r, g, hq => by
    unfold putOld; split
    · rename_i p hp
      rw [putOld_other i n0 n h0' h r _ fun c hc => hq c (by simp [hc]), List.getElem?_set]
      have : p ≠ q := by rintro rfl; exact hq b (by simp) hp
      simp [this]
    · exact putOld_other i n0 n h0' h r _ fun c hc => hq c (by simp [hc])

theorem putOld_get (i : Nat → Option Nat) (n0 n : Nat) (h0' h : AHeap) (hinj : ∀ b c q, i b = some q → i c = some q → b = c) {b q : Nat} (hb : i b = some q) : ∀ (l : List Nat) (g : AHeap), l.Nodup → b ∈ l → q < g.length →
    (putOld i n0 n h0' h l g)[q]? = some (updO (renB i n0 n) h0'.length h[q]? h0'[b]?)
  | [], _, _, h, _ => by simp at h
  | c :: r, g, hd, hm, hq => by
    rw [List.nodup_cons] at hd
    unfold putOld
    by_cases hc : c = b
    · subst hc
      rw [hb]
      simp only
      rw [putOld_other i n0 n h0' h r _ fun d hdr hdq => by
        have := hinj d c q hdq hb
        subst this; exact hd.1 hdr]
      simp [hq]
    · have hm' : b ∈ r := by
        rcases List.mem_cons.1 hm with e | e
        · exact (hc e.symm).elim
        · exact e
      split
      · exact putOld_get i n0 n h0' h hinj hb r _ hd.2 hm' (by simpa using hq)
      · exact putOld_get i n0 n h0' h hinj hb r _ hd.2 hm' hq

def renRes (f : Nat → Nat) : Res → Res
  | .ret v => .ret (renV f 8 v)
  | .pan ch => .pan (ch.map fun p => (renV f 8 p.1, p.2))

def okRes (N : Nat) : Res → Bool
  | .ret v => scopeV N 8 v
  | .pan ch => ch.all fun p => scopeV N 8 p.1

theorem renCh {j1 j2 : Inj} {f : Nat → Nat} (hf : ∀ b L, j1 b = some L → j2 (f b) = some L) {N : Nat} : ∀ {ch : Chain} {ch' : List PanicEntry}, (ch.all fun p => scopeV N 8 p.1) = true → ChR j1 ch ch' → ChR j2 (ch.map fun p => (renV f 8 p.1, p.2)) ch'
  | [], _, _, h => by cases h; exact .nil
  | (v, r) :: l, _, hs, h => by
    cases h with
    | cons hv hl =>
      simp only [List.all_cons, Bool.and_eq_true] at hs
      exact .cons (renV_vr hf 8 v hs.1 _ hv) (renCh hf hs.2 hl)

/-- what is handed to a run -/
structure Emb (gs : List Nat) (i : Nat → Option Nat) (h0 h : AHeap) : Prop where
  inj : ∀ b c q, i b = some q → i c = some q → b = c
  glob : ∀ g ∈ gs, i g = some g
  obj : ∀ b q, i b = some q → ∃ o o', h0[b]? = some o ∧ h[q]? = some o' ∧ RO i o o'
  full : ∀ (q : Nat) (ro : Bool), h[q]? = some (.cells [] ro) → ro = false ∧ ∃ b, i b = some q

theorem Spec.frame {gs gs' : List Nat} {i : Nat → Option Nat} {f : FuncId} {h0 h : AHeap} {args0 args : List Value} {Q0 : Res → AHeap → Prop} (hs : Spec P gs f args0 h0 Q0) (E : Emb gs i h0 h) (ha : RVs i args0 args)
    (hg : ∀ g ∈ gs, g ∈ gs') (hok : ∀ r h0', Q0 r h0' → okRes h0'.length r = true) :
    Spec P gs' f args h fun r h' => ∃ r0 h0', Q0 r0 h0' ∧ r = renRes (renB i h0.length h.length) r0 ∧ h' = putH i h0.length h0' h := by
  refine ⟨hs.1, fun G F w0 j w args' cs S hA hG hK => ?_⟩
  -- what the run is not handed
  let PO : Nat → Nat → Prop := fun B o => ∃ b q L, i b = some q ∧ j q = some L ∧ isRw h[q]? ∧ owns L h[q]? B o
  let F2 : Nat → Nat → Prop := fun B o => B < w.heap.size ∧ ¬ PO B o
  have hFF : ∀ B o, F B o → F2 B o := fun B o hF =>
    ⟨Nat.lt_of_lt_of_le (S.below B o hF) S.size, fun ⟨b, q, L, h1, h2, h3, h4⟩ => S.own q L h2 h3 B o h4 hF⟩
  have hib : ∀ b q, i b = some q → b < h0.length ∧ q < h.length := fun b q hb => by
    obtain ⟨o, o', h1, h2, _⟩ := E.obj b q hb
    exact ⟨(List.getElem?_eq_some_iff.1 h1).1, (List.getElem?_eq_some_iff.1 h2).1⟩
  have S0' := S.gc (i := i) E.inj E.obj
  have S0 : Sim F2 w (j.by i) h0 w := by
    refine ⟨Io.refl w, Nat.le_refl _, fun B o _ => keptAt_refl w B o, fun B o hF => hF.1, S0'.dom, S0'.obj, ?_, S0'.apart⟩
    intro b L e hr B x ho hF
    obtain ⟨q, hq, hj⟩ := Inj.of_by e
    obtain ⟨o, o', h1, h2, h3⟩ := E.obj b q hq
    rw [h1] at hr ho
    exact hF.2 ⟨b, q, L, hq, hj, by rw [h2]; exact h3.isRw hr, by rw [h2]; exact h3.owns ho⟩
  have hA0 : LR (j.by i) args0 args'.toList := ha.lr hA
  have hG0 : GlobR gs (j.by i) := fun g hgg => by
    obtain ⟨L, h1, h2⟩ := hG g (hg g hgg)
    exact ⟨L, (Inj.by_some (E.glob g hgg)).trans h1, h2⟩
  refine hs.2 G F2 w (j.by i) w args' cs S0 hA0 hG0 ?_
  intro r0 h0' j1 w1 fr hq0 hext hl S1 hlv
  have hle : h0.length ≤ h0'.length := hl
  let n0 := h0.length
  let n := h.length
  let rn := renB i n0 n
  let j' : Inj := fun q => if q < n then j q else j1 (n0 + (q - n))
  have hjold : ∀ q, q < n → j' q = j q := fun q hq => by show (if q < n then _ else _) = _; rw [if_pos hq]
  have hjnew : ∀ q, n ≤ q → j' q = j1 (n0 + (q - n)) := fun q hq => by show (if q < n then _ else _) = _; rw [if_neg (by omega)]
  have hj1old : ∀ b, b < n0 → j1 b = (j.by i) b := fun b hb => hext.2 b hb
  have hle' : j.le j' := fun q L e => by rw [hjold q (S.dom q L e)]; exact e
  -- the run's names, and the new ones
  have hrn : ∀ b L, j1 b = some L → j' (rn b) = some L := by
    intro b L e
    show j' (renB i n0 n b) = some L
    unfold renB
    cases hb : Nat.blt b n0 with
    | true =>
      rw [Nat.blt_eq] at hb
      rw [hj1old b hb] at e
      obtain ⟨q, hq, hj⟩ := Inj.of_by e
      rw [hq]
      show j' q = some L
      rw [hjold q (hib b q hq).2]; exact hj
    | false =>
      have hb' : ¬ b < n0 := by intro hlt; rw [← Nat.blt_eq] at hlt; rw [hlt] at hb; cases hb
      show j' (n + (b - n0)) = some L
      rw [hjnew _ (by omega), show n0 + (n + (b - n0) - n) = b by omega]; exact e
  have hlen : (putH i n0 h0' h).length = n + (h0'.length - n0) := by
    unfold putH; rw [List.length_append, putOld_length, List.length_map, List.length_drop]
  have hgetNew : ∀ q, n ≤ q → (putH i n0 h0' h)[q]? = (h0'[n0 + (q - n)]?).map fun o => updO rn h0'.length none (some o) := by
    intro q hq
    unfold putH
    rw [List.getElem?_append_right (by rw [putOld_length]; exact hq), putOld_length, List.getElem?_map, List.getElem?_drop]
  have hgetIn : ∀ b q, i b = some q → (putH i n0 h0' h)[q]? = some (updO rn h0'.length h[q]? h0'[b]?) := by
    intro b q hb
    obtain ⟨h1, h2⟩ := hib b q hb
    unfold putH
    rw [List.getElem?_append_left (by rw [putOld_length]; exact h2)]
    exact putOld_get i n0 n h0' h E.inj hb _ _ List.nodup_range (List.mem_range.2 h1) h2
  have hgetOut : ∀ q, q < n → (∀ b, i b ≠ some q) → (putH i n0 h0' h)[q]? = h[q]? := by
    intro q hq hb
    unfold putH
    rw [List.getElem?_append_left (by rw [putOld_length]; exact hq), putOld_other i n0 n h0' h _ _ fun b _ => hb b]
  -- what is not handed stays
  have hF2 : ∀ q L, j q = some L → ((∀ b, i b ≠ some q) ∨ ¬ isRw h[q]?) → ∀ B x, owns L h[q]? B x → F2 B x := by
    intro q L hj hq B x ho
    refine ⟨(S.obj q L hj).lt B x ho, ?_⟩
    rintro ⟨b, p, M, h1, h2, h3, h4⟩
    have hpq : p ≠ q := by
      rintro rfl
      rcases hq with hq | hq
      · exact hq b h1
      · exact hq h3
    exact S.apart p q M L hpq h2 hj h3 B x h4 ho
  have hkeep : ∀ q L, j q = some L → ((∀ b, i b ≠ some q) ∨ ∃ c, h[q]? = some (.cells c true)) → ObjR j' L w1 h[q]? := by
    intro q L hj hq
    refine ObjR.mono hle' ((S.obj q L hj).kept (fun B x ho => S1.kept B x (hF2 q L hj ?_ B x ho)) ?_)
    · rcases hq with hq | ⟨c, hc⟩
      · exact .inl hq
      · exact .inr (by rw [hc]; simp [isRw])
    · intro ro he
      obtain ⟨h1, b, h2⟩ := E.full q ro he
      rcases hq with hq | ⟨c, hc⟩
      · exact hq b h2
      · rw [hc] at he; injection he with he; injection he with _ he; rw [← he] at h1; cases h1
  -- each name is of one of three kinds
  have kinds : ∀ q L, j' q = some L → (q < n ∧ (∀ b, i b ≠ some q) ∧ j q = some L ∧ (putH i n0 h0' h)[q]? = h[q]?) ∨
      ∃ b, j1 b = some L ∧ (∀ b' q', b' = b → q' ≠ q → rn b' ≠ q') ∧ rn b = q ∧ ∃ old, (old = h[q]? ∧ j q = some L ∧ (∃ b, i b = some q) ∨ old = none) ∧ (putH i n0 h0' h)[q]? = some (updO rn h0'.length old h0'[b]?) := by
    intro q L e
    by_cases hq : q < n
    · rw [hjold q hq] at e
      by_cases hb : ∃ b, i b = some q
      · obtain ⟨b, hb⟩ := hb
        obtain ⟨h1, _⟩ := hib b q hb
        have hrb : rn b = q := by
          show renB i n0 n b = q
          unfold renB
          rw [show Nat.blt b n0 = true by rw [Nat.blt_eq]; exact h1, hb]; rfl
        refine .inr ⟨b, ?_, ?_, hrb, h[q]?, .inl ⟨rfl, e, b, hb⟩, hgetIn b q hb⟩
        · rw [hj1old b h1]; exact (Inj.by_some hb).trans e
        · rintro b' q' rfl hne; rw [hrb]; exact Ne.symm hne
      · have hb : ∀ b, i b ≠ some q := fun b hbq => hb ⟨b, hbq⟩
        exact .inl ⟨hq, hb, e, hgetOut q hq hb⟩
    · rw [hjnew q (by omega)] at e
      have hlt := S1.dom _ _ e
      have hrb : rn (n0 + (q - n)) = q := by
        show renB i n0 n (n0 + (q - n)) = q
        unfold renB
        have : Nat.blt (n0 + (q - n)) n0 = false := by
          rw [Bool.eq_false_iff]; intro hh; rw [Nat.blt_eq] at hh; omega
        rw [this]; show n + (n0 + (q - n) - n0) = q; omega
      refine .inr ⟨n0 + (q - n), e, ?_, hrb, none, .inr rfl, ?_⟩
      · rintro b' q' rfl hne; rw [hrb]; exact Ne.symm hne
      · rw [hgetNew q (by omega), List.getElem?_eq_getElem hlt]; rfl
  have S' : Sim F w0 j' (putH i n0 h0' h) w1 := by
    refine ⟨S.io.trans S1.io, Nat.le_trans S.size S1.size, fun B o hF => keptAt_trans (S.kept B o hF) (S1.kept B o (hFF B o hF)), S.below, ?_, ?_, ?_, ?_⟩
    · intro q L e
      rw [hlen]
      by_cases hq : q < n
      · omega
      · rw [hjnew q (by omega)] at e
        have := S1.dom _ _ e
        omega
    · intro q L e
      rcases kinds q L e with ⟨hq, hb, hj, hg⟩ | ⟨b, hb, _, _, old, hold, hg⟩
      · rw [hg]; exact hkeep q L hj (.inl hb)
      · rw [hg]
        rcases updO_cases rn h0'.length old h0'[b]? with ⟨c, hc, hu⟩ | hu | ⟨o, ho, _, hu⟩
        · rw [hu]
          rcases hold with ⟨ho, hj, _⟩ | ho
          · rw [← hc, ho]; exact hkeep q L hj (.inr ⟨c, by rw [← ho]; exact hc⟩)
          · rw [ho] at hc; cases hc
        · rw [hu]; trivial
        · rw [hu]
          have := S1.obj b L hb
          rw [ho] at this
          exact renO_objR hrn this
    · intro q L e hr B x ho hF
      rcases kinds q L e with ⟨hq, hb, hj, hg⟩ | ⟨b, hb, _, _, old, hold, hg⟩
      · rw [hg] at hr ho; exact S.own q L hj hr B x ho hF
      · rw [hg] at hr ho
        rcases updO_cases rn h0'.length old h0'[b]? with ⟨c, hc, hu⟩ | hu | ⟨o, ho', _, hu⟩
        · rw [hu] at hr; cases hr
        · rw [hu] at hr; exact hr
        · rw [hu] at hr ho
          exact S1.own b L hb (by rw [ho']; exact renO_isRw hr) B x (by rw [ho']; exact renO_owns ho) (hFF B x hF)
    · intro q1 q2 L1 L2 hne e1 e2 hr B x ho1 ho2
      rcases kinds q1 L1 e1 with ⟨_, hb1, hj1', hg1⟩ | ⟨b1, hb1, hun, hrb1, old1, hold1, hg1⟩
      · rw [hg1] at hr ho1
        have hx := hF2 q1 L1 hj1' (.inl hb1) B x ho1
        rcases kinds q2 L2 e2 with ⟨_, hb2, hj2', hg2⟩ | ⟨b2, hb2, _, _, old2, hold2, hg2⟩
        · rw [hg2] at ho2; exact S.apart q1 q2 L1 L2 hne hj1' hj2' hr B x ho1 ho2
        · rw [hg2] at ho2
          rcases updO_cases rn h0'.length old2 h0'[b2]? with ⟨c, hc, hu⟩ | hu | ⟨o, ho', hro, hu⟩
          · rw [hu] at ho2
            rcases hold2 with ⟨hol, hj2', _⟩ | hol
            · exact S.apart q1 q2 L1 L2 hne hj1' hj2' hr B x ho1 (by rw [← hol, hc]; exact ho2)
            · rw [hol] at hc; cases hc
          · rw [hu] at ho2; exact ho2
          · rw [hu] at ho2
            have ho3 := renO_owns ho2
            exact S1.own b2 L2 hb2 (by rw [ho']; exact owns_rw ho3 hro) B x (by rw [ho']; exact ho3) hx
      · rw [hg1] at hr ho1
        rcases updO_cases rn h0'.length old1 h0'[b1]? with ⟨c, hc, hu⟩ | hu | ⟨o1, ho1', hro1, hu⟩
        · rw [hu] at hr; cases hr
        · rw [hu] at hr; exact hr
        · rw [hu] at hr ho1
          have hr1 := renO_isRw hr
          have ho3 := renO_owns ho1
          have hnF : ¬ F2 B x := S1.own b1 L1 hb1 (by rw [ho1']; exact hr1) B x (by rw [ho1']; exact ho3)
          rcases kinds q2 L2 e2 with ⟨_, hb2, hj2', hg2⟩ | ⟨b2, hb2, _, hrb2, old2, hold2, hg2⟩
          · rw [hg2] at ho2; exact hnF (hF2 q2 L2 hj2' (.inl hb2) B x ho2)
          · rw [hg2] at ho2
            rcases updO_cases rn h0'.length old2 h0'[b2]? with ⟨c, hc, hu2⟩ | hu2 | ⟨o2, ho2', _, hu2⟩
            · rw [hu2] at ho2
              rcases hold2 with ⟨hol, hj2', _⟩ | hol
              · refine hnF (hF2 q2 L2 hj2' (.inr (by rw [← hol, hc]; simp [isRw])) B x (by rw [← hol, hc]; exact ho2))
              · rw [hol] at hc; cases hc
            · rw [hu2] at ho2; exact ho2
            · rw [hu2] at ho2
              have hbb : b1 ≠ b2 := by rintro rfl; exact hne (hrb1.symm.trans hrb2)
              exact S1.apart b1 b2 L1 L2 hbb hb1 hb2 (by rw [ho1']; exact hr1) B x (by rw [ho1']; exact ho3) (by rw [ho2']; exact renO_owns ho2)
  have hext' : j.ext h.length j' := ⟨hle', fun q hq => hjold q hq⟩
  have hlenle : h.length ≤ (putH i n0 h0' h).length := by rw [hlen]; show n ≤ _; omega
  refine hK (renRes rn r0) _ j' w1 fr ⟨r0, h0', hq0, rfl, rfl⟩ hext' hlenle S' ?_
  have hsc := hok r0 h0' hq0
  cases r0 with
  | ret v =>
    obtain ⟨l1, l2, l3, l4, l5, fn, v', l6, l7, l8⟩ := hlv
    exact ⟨l1, l2, l3, l4, l5, fn, v', l6, l7, renV_vr hrn 8 v hsc _ l8⟩
  | pan ch =>
    obtain ⟨l1, ch', l2, l3, l4, l5, l6, l7⟩ := hlv
    exact ⟨l1, ch', l2, l3, l4, l5, l6, renCh hrn hsc l7⟩

end Go.Fm

namespace Go.Fm

variable {P : Program}

/-- a string by its bytes -/
def bs (l : List UInt8) : ByteArray := ⟨⟨l⟩⟩

theorem bs_size (l : List UInt8) : (bs l).size = l.length := rfl

theorem bs_get {l : List UInt8} {i : Nat} (h : i < l.length) : (bs l)[i]? = some (l.getD i 0) := by
  have h' : i < (bs l).size := h
  rw [getElem?_pos (bs l) i h']
  have : (bs l)[i] = l[i] := rfl
  rw [this, List.getD_eq_getElem?_getD, List.getElem?_eq_getElem h]; rfl

theorem aIndex_bs {t : TypeId} {k : IntKind} {l : List UInt8} {i : Int} (hu : P.underlying t = some .string) (h0 : 0 ≤ i) (h1 : i < l.length) :
    aIndex P t (.string (bs l)) (.int k i) = some (.int .u8 (l.getD i.toNat 0).toNat) := by
  unfold aIndex
  simp only [hu]
  rw [if_pos h0, bs_get (by omega)]
  rfl

/-! ## blocks of bytes -/

/-! ## operators on strings -/

theorem bs_loop (l : List UInt8) : ∀ (n i : Nat) (r : List UInt8), l.length - i = n → ByteArray.toList.loop (bs l) i r = r.reverse ++ l.drop i := by
  intro n
  induction n with
  | zero =>
    intro i r h
    unfold ByteArray.toList.loop
    rw [if_neg (by rw [bs_size]; omega), List.drop_of_length_le (by omega), List.append_nil]
  | succ n ih =>
    intro i r h
    unfold ByteArray.toList.loop
    have hi : i < l.length := by omega
    rw [if_pos (by rw [bs_size]; exact hi), ih (i + 1) _ (by omega)]
    have : (bs l).get! i = l[i] := by
      show (Array.mk l)[i]! = l[i]
      simp [hi]
    rw [this, List.reverse_cons, List.append_assoc, List.drop_eq_getElem_cons hi]
    rfl

theorem bs_toList (l : List UInt8) : (bs l).toList = l := by
  unfold ByteArray.toList
  rw [bs_loop l l.length 0 [] (by omega)]
  rfl

/-! ## rows of strings -/

/-! ## rows of any cells, of integers; letters of a string -/

end Go.Fm

namespace Go.Fm

variable {P : Program}

theorem RV.mono {i i' : Nat → Option Nat} {v u : Value} (h : RV i v u) (hi : ∀ b c, i b = some c → i' b = some c) : RV i' v u := by
  induction h with
  | bool b => exact .bool b
  | int k n => exact .int k n
  | float k n => exact .float k n
  | complex k x y => exact .complex k x y
  | string s => exact .string s
  | pnil => exact .pnil
  | ptr o s h => exact .ptr o s (hi _ _ h)
  | snil l c => exact .snil l c
  | slice o s l m h => exact .slice o s l m (hi _ _ h)
  | slice0 a b o => exact .slice0 a b o
  | mnil => exact .mnil
  | map h => exact .map (hi _ _ h)
  | cnil => exact .cnil
  | hole => exact .hole
  | func f h1 _ h2 _ i1 i2 => exact .func f h1 i1 h2 i2
  | yield h => exact .yield (hi _ _ h)
  | nilFunc => exact .nilFunc
  | iface t _ ih => exact .iface t ih
  | nilIface => exact .nilIface
  | agg h1 _ ih => exact .agg h1 ih
  | tuple h1 _ ih => exact .tuple h1 ih

theorem RVs.mono {i i' : Nat → Option Nat} {l u : List Value} (h : RVs i l u) (hi : ∀ b c, i b = some c → i' b = some c) : RVs i' l u := by
  induction h with
  | nil => exact .nil
  | cons h _ ih => exact .cons (h.mono hi) ih

theorem RMs.mono {i i' : Nat → Option Nat} {l u : List MapEntry} (h : RMs i l u) (hi : ∀ b c, i b = some c → i' b = some c) : RMs i' l u := by
  induction h with
  | nil => exact .nil
  | cons h1 h2 h3 _ ih => exact .cons (h1.mono hi) (h2.mono hi) h3 ih

theorem RO.mono {i i' : Nat → Option Nat} {o u : AObj} (h : RO i o u) (hi : ∀ b c, i b = some c → i' b = some c) : RO i' o u := by
  cases h with
  | cells ro h => exact .cells ro (h.mono hi)
  | tcells t z h => exact .tcells t z (h.mono hi)
  | map clock h => exact .map clock (h.mono hi)
  | mapIter0 a b c => exact .mapIter0 a b c
  | mapIter a b c h => exact .mapIter a b c (hi _ _ h)
  | strIter s p => exact .strIter s p
  | dead => exact .dead _
  | defq => exact .defq
  | over => exact .over
  | loop he hq => exact .loop (fun t v ht => by obtain ⟨u, h1, h2⟩ := he t v ht; exact ⟨u, h1, h2.mono hi⟩) (hi _ _ hq)

/-- old numbers, by the new ones -/
def ren (m : List Nat) (b : Nat) : Option Nat := m[b]?

theorem ro_flat {i : Nat → Option Nat} {o : AObj} (h : scopeO 0 o = true) : RO i o o :=
  (scopeO_ro (n := 0) o h).mono fun b c e => by obtain ⟨_, hlt⟩ := upto_some e; omega

theorem rv_flat {i : Nat → Option Nat} {v : Value} (h : scopeV 0 8 v = true) : RV i v v :=
  (scopeV_rv (n := 0) 8 v h).mono fun b c e => by obtain ⟨_, hlt⟩ := upto_some e; omega

def HeapRen (i : Nat → Option Nat) (h : AHeap) : List Nat → AHeap → Prop
  | [], [] => True
  | q :: r, o :: h' => (∃ o', h[q]? = some o' ∧ RO i o o') ∧ HeapRen i h r h'
  | _, _ => False

theorem HeapRen.get {i : Nat → Option Nat} {h : AHeap} : ∀ {r : List Nat} {h' : AHeap}, HeapRen i h r h' → ∀ {b q : Nat}, r[b]? = some q → ∃ o o', h'[b]? = some o ∧ h[q]? = some o' ∧ RO i o o'
  | q :: r, o :: h', e, 0, p, hb => by
    injection hb with hb; subst hb
    obtain ⟨⟨o', h1, h2⟩, _⟩ := e
    exact ⟨o, o', rfl, h1, h2⟩
  | q :: r, o :: h', e, b + 1, p, hb => e.2.get (b := b) (by simpa using hb)
  | [], _, _, _, _, hb => by cases hb
  | _ :: _, [], e, _, _, _ => e.elim

theorem HeapRen.length {i : Nat → Option Nat} {h : AHeap} : ∀ {r : List Nat} {h' : AHeap}, HeapRen i h r h' → r.length = h'.length
  | [], [], _ => rfl
  | _ :: _, _ :: _, e => by simp [e.2.length]
  | [], _ :: _, e => e.elim
  | _ :: _, [], e => e.elim

def EnvRen (i : Nat → Option Nat) (e : AEnv) : AEnv → Prop
  | [] => True
  | (t, v) :: r => (∃ u, e.get t = some u ∧ RV i v u) ∧ EnvRen i e r

theorem EnvRen.get {i : Nat → Option Nat} {e : AEnv} : ∀ {e' : AEnv}, EnvRen i e e' → ∀ {t : Nat} {v : Value}, e'.get t = some v → ∃ u, e.get t = some u ∧ RV i v u
  | [], _, t, v, h => by simp [AEnv.get] at h
  | (a, x) :: r, h, t, v, hg => by
    rw [AEnv.get_cons] at hg
    split at hg
    · rename_i hat; subst hat; injection hg with hg; subst hg; exact h.1
    · exact h.2.get hg

/-- what is forgotten goes, and what stays is numbered anew: 'm' lists the old numbers -/
theorem Gc.ren (m : List Nat) {gs : List Nat} {n0 : Nat} {e e' : AEnv} {h h' : AHeap} {u : UMode} (hnd : m.Nodup) (hn : Nat.ble n0 m.length = true) (ho : (List.range n0).all (fun b => m[b]? == some b) = true)
    (hg : gs.all (fun g => m[g]? == some g) = true) (hh : HeapRen (Fm.ren m) h m h') (he : EnvRen (Fm.ren m) e e') (hu : u.flat = true) : Gc gs n0 ⟨e, [], h, u⟩ ⟨e', [], h', u⟩ := by
  rw [Nat.ble_eq] at hn
  refine .inl ⟨Fm.ren m, ?_, ?_, ?_, ?_, ?_, fun t v hv => he.get hv, .nil, rfl, hu⟩
  · intro b hb
    have := List.all_eq_true.1 ho b (List.mem_range.2 hb)
    exact beq_iff_eq.1 this
  · intro b c q h1 h2
    obtain ⟨hb, e1⟩ := List.getElem?_eq_some_iff.1 h1
    obtain ⟨hc, e2⟩ := List.getElem?_eq_some_iff.1 h2
    exact (List.getElem_inj hnd).1 (e1.trans e2.symm)
  · intro g hgg
    exact beq_iff_eq.1 (List.all_eq_true.1 hg g hgg)
  · rw [← hh.length]; exact hn
  · intro b q hb
    exact hh.get hb

end Go.Fm

namespace Go.Fm

section
variable {P : Program} {E : Type} {c : E → List Value} {m : Nat}

def rwl {E : Type} (c : E → List Value) (l : List E) : List Value := l.flatMap c

theorem rwl_cons (e : E) (l : List E) : rwl c (e :: l) = c e ++ rwl c l := by simp [rwl]
theorem rwl_nil : rwl c ([] : List E) = [] := rfl
theorem rwl_app (l l' : List E) : rwl c (l ++ l') = rwl c l ++ rwl c l' := by simp [rwl]

theorem rwl_len (hm : ∀ e, (c e).length = m) : ∀ l : List E, (rwl c l).length = l.length * m
  | [] => by simp [rwl]
  | e :: l => by rw [rwl_cons, List.length_append, rwl_len hm l, hm, List.length_cons, Nat.succ_mul, Nat.add_comm]

theorem rwl_part (hm : ∀ e, (c e).length = m) {d : E} {k n : Nat} (h : k + n ≤ m) : ∀ {l : List E} {i : Nat}, i < l.length → ((rwl c l).drop (i * m + k)).take n = ((c (l.getD i d)).drop k).take n
  | e :: l, 0, _ => by
    rw [rwl_cons, Nat.zero_mul, Nat.zero_add, List.getD_cons_zero, List.drop_append_of_le_length (by rw [hm]; omega), List.take_append_of_le_length (by rw [List.length_drop, hm]; omega)]
  | e :: l, i + 1, hi => by
    have ih := rwl_part hm (d := d) h (l := l) (i := i) (by simpa using hi)
    have h1 : (i + 1) * m + k = (c e).length + (i * m + k) := by rw [hm, Nat.succ_mul]; omega
    rw [rwl_cons, List.getD_cons_succ, h1, List.drop_append, List.drop_eq_nil_of_le (by omega), List.nil_append, Nat.add_sub_cancel_left, ih]

theorem rwl_take (hm : ∀ e, (c e).length = m) : ∀ (l : List E) (i : Nat), (rwl c l).take (i * m) = rwl c (l.take i)
  | [], i => by simp [rwl]
  | e :: l, 0 => by simp [rwl]
  | e :: l, i + 1 => by
    rw [rwl_cons, List.take_succ_cons, rwl_cons, Nat.succ_mul, Nat.add_comm, List.take_append, hm, Nat.add_sub_cancel_left, rwl_take hm l i, List.take_of_length_le (by rw [hm]; omega)]

theorem rwl_drop (hm : ∀ e, (c e).length = m) : ∀ (l : List E) (i : Nat), (rwl c l).drop (i * m) = rwl c (l.drop i)
  | [], i => by simp [rwl]
  | e :: l, 0 => by simp [rwl]
  | e :: l, i + 1 => by
    rw [rwl_cons, List.drop_succ_cons, Nat.succ_mul, Nat.add_comm, List.drop_append, hm, Nat.add_sub_cancel_left, rwl_drop hm l i, List.drop_eq_nil_of_le (by rw [hm]; omega), List.nil_append]

theorem rwl_splice (hm : ∀ e, (c e).length = m) (x : E) : ∀ {l : List E} {i : Nat}, i < l.length → splice (rwl c l) (i * m) (c x) = rwl c (l.set i x)
  | e :: l, 0, _ => by
    unfold splice
    rw [rwl_cons, List.set_cons_zero, rwl_cons, Nat.zero_mul, List.take_zero, List.nil_append, Nat.zero_add, List.drop_append, hm, hm, Nat.sub_self, List.drop_zero, List.drop_eq_nil_of_le (by rw [hm]; omega), List.nil_append]
  | e :: l, i + 1, hi => by
    have ih := rwl_splice hm x (l := l) (i := i) (by simpa using hi)
    unfold splice at ih ⊢
    rw [rwl_cons, List.set_cons_succ, rwl_cons, ← ih, Nat.succ_mul, Nat.add_comm, List.take_append, hm, Nat.add_sub_cancel_left, List.take_of_length_le (by rw [hm]; omega),
      show m + i * m + (c x).length = m + (i * m + (c x).length) by omega, List.drop_append, hm e, Nat.add_sub_cancel_left, List.drop_eq_nil_of_le (by rw [hm e]; omega), List.nil_append]
    simp only [List.append_assoc]

theorem aCells_rw {h : AHeap} {b o i k n : Nat} {l : List E} {t : TypeId} {z : Option Nat} {d : E} (hm : ∀ e, (c e).length = m) (hb : h[b]? = some (.tcells (rwl c l) t z)) (hi : i < l.length) (ho : o = i * m + k) (hn : k + n ≤ m) :
    aCells h ⟨b, o, none⟩ n = some (((c (l.getD i d)).drop k).take n) := by
  subst ho
  have hle : i * m + k + n ≤ l.length * m := by
    have : (i + 1) * m ≤ l.length * m := Nat.mul_le_mul_right _ hi
    rw [Nat.succ_mul] at this; omega
  unfold aCells
  simp only [Option.isSome_none, Bool.false_eq_true, if_false, hb, rwl_len hm, hle, if_true, rwl_part hm (d := d) hn hi]

/-- a record, or a part of one that is a record -/
theorem aLoad_rw {h : AHeap} {b o i k n : Nat} {l : List E} {t u : TypeId} {z : Option Nat} {d : E} {vs : List Value} (hm : ∀ e, (c e).length = m) (hT : aIsAgg P t = some true) (hs : aSize P t = some n)
    (hb : h[b]? = some (.tcells (rwl c l) u z)) (hi : i < l.length) (ho : o = i * m + k) (hn : k + n ≤ m) (hv : ((c (l.getD i d)).drop k).take n = vs) : aLoad P t (.pointer (some ⟨b, o, none⟩)) h = some (.agg ⟨vs⟩) := by
  unfold aLoad
  simp only [hT, hs, Option.bind_some, aCells_rw (d := d) hm hb hi ho hn, hv, Option.map_some]

theorem aLoad_rw1 {h : AHeap} {b o i k : Nat} {l : List E} {t u : TypeId} {z : Option Nat} {d : E} {v : Value} (hm : ∀ e, (c e).length = m) (hT : aIsAgg P t = some false)
    (hb : h[b]? = some (.tcells (rwl c l) u z)) (hi : i < l.length) (ho : o = i * m + k) (hk : k < m) (hv : (c (l.getD i d))[k]? = some v) : aLoad P t (.pointer (some ⟨b, o, none⟩)) h = some v := by
  have h1 := aCells_rw (d := d) (n := 1) (k := k) hm hb hi ho (by omega)
  unfold aLoad
  simp only [hT]
  unfold aCells at h1
  unfold aCell
  simp only [Option.isSome_none, Bool.false_eq_true, if_false, hb] at h1 ⊢
  split at h1
  · injection h1 with h1
    have := congrArg (fun x => x[0]?) h1
    simp only [List.getElem?_take, List.getElem?_drop, Nat.add_zero, Nat.zero_lt_one, if_true, hv] at this
    exact this
  · simp at h1

theorem aStoreAt_rw {h : AHeap} {b o i : Nat} {l : List E} {t u : TypeId} {x : Value} {e : E} (hm : ∀ e, (c e).length = m) (hs : aSize P t = some m) (hx : x.cells.toList = c e) (hcell : (c e).all Value.isCell = true)
    (hb : h[b]? = some (.tcells (rwl c l) u (some 0))) (hi : i < l.length) (ho : o = i * m) : aStoreAt P t (.pointer (some ⟨b, o, none⟩)) x h = some (h.set b (.tcells (rwl c (l.set i e)) u (some 0))) := by
  subst ho
  have hle : i * m + m ≤ l.length * m := by
    have : (i + 1) * m ≤ l.length * m := Nat.mul_le_mul_right _ hi
    rw [Nat.succ_mul] at this; omega
  unfold aStoreAt
  simp only [hs, Option.bind_some, hx, hm, if_true]
  unfold aStore
  simp only [Option.isSome_none, Bool.false_eq_true, if_false, hb, hm, rwl_len hm, hle, hcell, Option.getD_some, Nat.zero_le, and_self, if_true, rwl_splice hm e hi]

theorem all_rw (hcell : ∀ e, (c e).all Value.isCell = true) (l : List E) : (rwl c l).all Value.isCell = true := by
  unfold rwl
  rw [List.all_flatMap, List.all_eq_true]
  intro e _; exact hcell e

/-- rows behind rows: a new block -/
theorem aAppend_rw_next {t xt e : TypeId} {i : TypeInfo} {x : Value} {h : AHeap} {l y : List E} {b : Nat} {z : Option Nat} (hm : ∀ e, (c e).length = m) (hm0 : 0 < m) (hu : P.underlying t = some (.slice e)) (hi : P.info? e = some i) (hs : i.size = m) (hb : i.bytes ≤ 4096)
    (hz : ((aZero P e).map fun z => z.cells.size) = some i.size) (hn : aNew P e m xt x h = some (y.length, rwl c y)) (hcell : ∀ e, (c e).all Value.isCell = true) (hc : h[b]? = some (.tcells (rwl c l) e z)) (hz0 : z.getD 0 = 0)
    (h0 : 0 < y.length) (hl : l.length + y.length ≤ 2 ^ 30) :
    aAppend P t xt (.slice (some ⟨b, 0, some m⟩) l.length l.length) x h = some (.slice (some ⟨h.length, 0, some m⟩) (l.length + y.length) (l.length + y.length), h.set b .dead ++ [.tcells (rwl c (l ++ y)) e z]) := by
  have hb1 : y.length * i.bytes ≤ y.length * 4096 := Nat.mul_le_mul_left _ hb
  have hb2 : (l.length + y.length) * i.bytes ≤ (l.length + y.length) * 4096 := Nat.mul_le_mul_left _ hb
  unfold aAppend
  simp only [hu, hi, hs] at hz ⊢
  rw [if_neg (by omega), hn]
  simp only [Option.bind_some, hz, all_rw hcell, rwl_len hm]
  rw [if_neg (by omega), if_neg (by omega), if_pos ⟨by omega, by omega, trivial, trivial⟩]
  unfold aGrow
  simp only [hc, ne_eq, not_true, if_false, rwl_len hm, Nat.zero_add, Nat.le_refl, true_and, hz0, Nat.zero_le, if_true, List.drop_zero]
  rw [List.take_of_length_le (by rw [rwl_len hm]; omega), rwl_app]

theorem aAppend_rw_empty {t xt e : TypeId} {i : TypeInfo} {x : Value} {h : AHeap} {y : List E} {b : Nat} {sp : Option Nat} (hm : ∀ e, (c e).length = m) (hm0 : 0 < m) (hu : P.underlying t = some (.slice e)) (hi : P.info? e = some i) (hs : i.size = m) (hb : i.bytes ≤ 4096)
    (hz : ((aZero P e).map fun z => z.cells.size) = some i.size) (hn : aNew P e m xt x h = some (y.length, rwl c y)) (hcell : ∀ e, (c e).all Value.isCell = true) (h0 : 0 < y.length) (hl : y.length ≤ 2 ^ 30) (hsp : sp = none) :
    aAppend P t xt (.slice (some ⟨b, 0, sp⟩) 0 0) x h = some (.slice (some ⟨h.length, 0, some m⟩) y.length y.length, h ++ [.tcells (rwl c y) e (some 0)]) := by
  subst hsp
  have hb1 : y.length * i.bytes ≤ y.length * 4096 := Nat.mul_le_mul_left _ hb
  unfold aAppend
  simp only [hu, hi, hs] at hz ⊢
  rw [if_neg (by omega), hn]
  simp only [Option.bind_some, hz, all_rw hcell, rwl_len hm, Nat.zero_add]
  rw [if_neg (by omega), if_neg (by omega), if_pos ⟨by omega, by omega, trivial, trivial⟩]
  unfold aGrow
  simp only [if_true]

/-- nothing behind rows: the same -/
theorem aAppend_rw_none {t xt e : TypeId} {i : TypeInfo} {x : Value} {h : AHeap} {s : Option Addr} {n k : Nat} (hu : P.underlying t = some (.slice e)) (hi : P.info? e = some i) (hs : i.size ≠ 0) (hk : n ≤ k)
    (hn : aNew P e i.size xt x h = some (0, [])) : aAppend P t xt (.slice s n k) x h = some (.slice s n k, h) := by
  unfold aAppend
  simp only [hu, hi]
  rw [if_neg (by omega), hn]
  simp only [Option.bind_some, List.length_nil, Nat.zero_mul, Nat.add_zero, hk, if_true]
  rw [if_neg (by omega)]
  cases s with
  | none => rfl
  | some a => obtain ⟨b, o, sp⟩ := a; rfl

/-- what an append takes: rows of a slice -/
theorem aNew_rw {e xt : TypeId} {D : TypeDesc} {h : AHeap} {b o i n cap : Nat} {sp : Option Nat} {l : List E} {u : TypeId} {z : Option Nat} (hm : ∀ e, (c e).length = m) (hx : P.underlying xt = some D) (hD : ∀ k, D ≠ .int k)
    (hb : h[b]? = some (.tcells (rwl c l) u z)) (ho : o = i * m) (hn : i + n ≤ l.length) : aNew P e m xt (.slice (some ⟨b, o, sp⟩) n cap) h = some (n, rwl c ((l.drop i).take n)) := by
  subst ho
  have hle : i * m + n * m ≤ l.length * m := by rw [← Nat.add_mul]; exact Nat.mul_le_mul_right _ hn
  have hc : aCells h ⟨b, i * m, none⟩ (n * m) = some (rwl c ((l.drop i).take n)) := by
    unfold aCells
    simp only [Option.isSome_none, Bool.false_eq_true, if_false, hb, rwl_len hm, hle, if_true, rwl_drop hm, rwl_take hm]
  unfold aNew
  rw [hx]
  have key : ((aLenOf (.slice (some ⟨b, i * m, sp⟩) n cap)).bind fun k => (aFirst m k (.slice (some ⟨b, i * m, sp⟩) n cap) h).map fun cs => (k, cs)) = some (n, rwl c ((l.drop i).take n)) := by
    simp only [aLenOf, Option.bind_some, aFirst, aView, Nat.le_refl, if_true, hc]
    split
    · rename_i h0
      rcases Nat.mul_eq_zero.1 h0 with h0 | h0
      · subst h0; simp [rwl]
      · have h1 := rwl_len hm ((l.drop i).take n)
        rw [h0, Nat.mul_zero] at h1
        rw [List.length_eq_zero_iff.1 h1]; rfl
    · rfl
  cases D with
  | int k => exact absurd rfl (hD k)
  | _ => exact key

theorem rvs_flat {i : Nat → Option Nat} : ∀ {l : List Value}, l.all (scopeV 0 8) = true → RVs i l l
  | [], _ => .nil
  | v :: l, h => by
    simp only [List.all_cons, Bool.and_eq_true] at h
    exact .cons (rv_flat h.1) (rvs_flat h.2)

theorem rvs_rw {i : Nat → Option Nat} (hf : ∀ e, (c e).all (scopeV 0 8) = true) (l : List E) : RVs i (rwl c l) (rwl c l) := by
  refine rvs_flat ?_
  unfold rwl
  rw [List.all_flatMap, List.all_eq_true]
  intro e _; exact hf e

theorem ro_rw {i : Nat → Option Nat} (hf : ∀ e, (c e).all (scopeV 0 8) = true) (l : List E) (t : TypeId) (z : Option Nat) : RO i (.tcells (rwl c l) t z) (.tcells (rwl c l) t z) := .tcells t z (rvs_rw hf l)

theorem scope_up {n : Nat} : ∀ (f : Nat) {v : Value}, scopeV 0 f v = true → scopeV n f v = true
  | 0, _, h => by simp [scopeV] at h
  | f + 1, v, h => by
    have ih : ∀ {l : List Value}, l.all (scopeV 0 f) = true → l.all (scopeV n f) = true := by
      intro l hl
      rw [List.all_eq_true] at hl ⊢
      intro x hx; exact scope_up f (hl x hx)
    unfold scopeV at h ⊢
    cases v with
    | bool _ | int _ _ | float _ _ | complex _ _ _ | string _ | nilFunc | nilIface => rfl
    | pointer a => cases a with
      | none => rfl
      | some a => simp [Nat.blt] at h
    | slice a l c => cases a with
      | none => rfl
      | some a => simp [Nat.blt] at h
    | map r => cases r with
      | none => rfl
      | some r => simp [Nat.blt] at h
    | chan r => cases r with
      | none => rfl
      | some r => exact h
    | iface t v => exact scope_up f h
    | agg x => exact ih h
    | tuple x => exact ih h
    | func g x y =>
      cases g with
      | func g =>
        simp only [Bool.and_eq_true] at h ⊢
        exact ⟨ih h.1, ih h.2⟩
      | yield l =>
        obtain ⟨x⟩ := x; obtain ⟨y⟩ := y
        cases x <;> cases y <;> simp [Nat.blt] at h
      | _ => simp at h

theorem scope_rw {n : Nat} (hf : ∀ e, (c e).all (scopeV 0 8) = true) (l : List E) (t : TypeId) (z : Option Nat) : scopeO n (.tcells (rwl c l) t z) = true := by
  show (rwl c l).all (scopeV n 8) = true
  unfold rwl
  rw [List.all_flatMap, List.all_eq_true]
  intro e _
  rw [List.all_eq_true]
  intro v hv
  exact scope_up 8 (List.all_eq_true.1 (hf e) v hv)
end

/-! ## maps -/

section
variable {P : Program} {E : Type} (kv vv : E → Value)

def mpl (l : List (E × Nat)) : List MapEntry := l.map fun e => ⟨kv e.1, vv e.1, e.2⟩

/-- an entry put in the place of the one of its key -/
def mset (q : E → Bool) (e : E) : List (E × Nat) → List (E × Nat)
  | [] => []
  | x :: l => cond (q x.1) ((e, x.2) :: l) (x :: mset q e l)

variable {kv vv} {q : E → Bool} {k : Value} {kt : TypeId}

theorem aFind_mpl (hq : ∀ e, keyEq P kt k (kv e) = some (q e)) (hf : ∀ e, flatB (kv e) = true) : ∀ (l : List (E × Nat)) (i : Nat),
    aFind P kt k (mpl kv vv l) i = some ((l.findIdx? fun e => q e.1).bind fun j => (l[j]?).map fun e => (i + j, vv e.1))
  | [], i => rfl
  | e :: l, i => by
    simp only [mpl, List.map_cons, aFind, hf, if_true, hq, List.findIdx?_cons]
    cases hqe : q e.1 with
    | true => simp
    | false =>
      have ih := aFind_mpl hq hf l (i + 1)
      simp only [mpl] at ih
      simp only [ih, Bool.false_eq_true, if_false, Option.bind_map]
      congr 1
      cases l.findIdx? fun e => q e.1 with
      | none => rfl
      | some j =>
        simp only [Option.bind_some, Function.comp, List.getElem?_cons_succ]
        cases l[j]? with
        | none => rfl
        | some x => simp; omega

theorem findIdx_find {l : List (E × Nat)} : (l.findIdx? fun e => q e.1).bind (fun j => l[j]?) = l.find? fun e => q e.1 := by
  induction l with
  | nil => rfl
  | cons e l ih =>
    rw [List.findIdx?_cons, List.find?_cons]
    cases hqe : q e.1 with
    | true => simp
    | false =>
      simp only [Bool.false_eq_true, if_false, Option.bind_map]
      rw [← ih]
      cases l.findIdx? fun e => q e.1 <;> rfl

theorem aLookup_mpl {t et : TypeId} {m cl : Nat} {l : List (E × Nat)} {h : AHeap} {ok : Bool} {z : Value} (hu : P.underlying t = some (.map kt et)) (hm : h[m]? = some (.map (mpl kv vv l) cl)) (hk : ∀ b, aCheckKey P b kt k = true) (hz : aZero P et = some z)
    (hq : ∀ e, keyEq P kt k (kv e) = some (q e)) (hf : ∀ e, flatB (kv e) = true) :
    aLookup P t (.map (some m)) k ok h = some (match l.find? fun e => q e.1 with
      | some e => if ok = true then .tuple #[vv e.1, .bool true] else vv e.1
      | none => if ok = true then .tuple #[z, .bool false] else z) := by
  unfold aLookup
  simp only [hu, aEntries, hm, Option.bind_some, hk, if_true, aFind_mpl hq hf, hz, Option.map_some]
  rw [← findIdx_find]
  cases hi : l.findIdx? fun e => q e.1 with
  | none => rfl
  | some j =>
    simp only [Option.bind_some]
    cases hj : l[j]? with
    | none =>
      rw [List.findIdx?_eq_some_iff_getElem] at hi
      obtain ⟨hlt, _⟩ := hi
      rw [List.getElem?_eq_getElem hlt] at hj; cases hj
    | some e => rfl

theorem eraseIdx_erase {l : List (E × Nat)} {j : Nat} (h : l.findIdx? (fun e => q e.1) = some j) : l.eraseIdx j = l.eraseP fun e => q e.1 := by
  induction l generalizing j with
  | nil => simp at h
  | cons e l ih =>
    rw [List.findIdx?_cons] at h
    cases hqe : q e.1 with
    | true => rw [hqe] at h; simp at h; subst h; simp [hqe]
    | false =>
      rw [hqe] at h
      simp at h
      obtain ⟨a, h1, h2⟩ := h
      subst h2
      simp [hqe, ih h1]

theorem map_erase {α β : Type} (f : α → β) : ∀ (l : List α) (j : Nat), (l.map f).eraseIdx j = (l.eraseIdx j).map f
  | [], _ => rfl
  | _ :: _, 0 => rfl
  | a :: l, j + 1 => by simp only [List.map_cons, List.eraseIdx_cons_succ, map_erase f l j]

theorem aDelete_mpl {t et : TypeId} {m cl : Nat} {l : List (E × Nat)} {h : AHeap} (hu : P.underlying t = some (.map kt et)) (hm : h[m]? = some (.map (mpl kv vv l) cl)) (hk : ∀ b, aCheckKey P b kt k = true)
    (hq : ∀ e, keyEq P kt k (kv e) = some (q e)) (hf : ∀ e, flatB (kv e) = true) :
    aDelete P t (.map (some m)) k h = some (h.set m (.map (mpl kv vv (l.eraseP fun e => q e.1)) cl)) := by
  unfold aDelete
  simp only [hu, mapRow, hm, Option.bind_some, hk, if_true, aFind_mpl hq hf]
  cases hi : l.findIdx? fun e => q e.1 with
  | none =>
    simp only [Option.bind_none]
    rw [List.eraseP_of_forall_not]
    intro a ha
    rw [List.findIdx?_eq_none_iff] at hi
    simpa using hi a ha
  | some j =>
    have hj := hi
    rw [List.findIdx?_eq_some_iff_getElem] at hj
    obtain ⟨hlt, _⟩ := hj
    simp only [Option.bind_some, List.getElem?_eq_getElem hlt, Option.map_some, Nat.zero_add]
    rw [← eraseIdx_erase hi]
    simp only [mpl, map_erase]

theorem modify_mset {l : List (E × Nat)} {j : Nat} {e : E} (h : l.findIdx? (fun e => q e.1) = some j) : (mpl kv vv l).modify j (fun x => { x with key := kv e, val := vv e }) = mpl kv vv (mset q e l) := by
  induction l generalizing j with
  | nil => simp at h
  | cons x l ih =>
    rw [List.findIdx?_cons] at h
    cases hqe : q x.1 with
    | true => rw [hqe] at h; simp at h; subst h; simp [mpl, mset, hqe]
    | false =>
      rw [hqe] at h
      simp at h
      obtain ⟨a, h1, h2⟩ := h
      subst h2
      have := ih h1
      simp only [mpl] at this
      simp only [mpl, mset, hqe, cond_false, List.map_cons, List.modify_succ_cons, this]

theorem aMapUpdate_mpl {t et : TypeId} {m cl : Nat} {l : List (E × Nat)} {h : AHeap} {e : E} (hu : P.underlying t = some (.map kt et)) (hm : h[m]? = some (.map (mpl kv vv l) cl)) (hk : ∀ b, aCheckKey P b kt k = true)
    (hq : ∀ e, keyEq P kt k (kv e) = some (q e)) (hf : ∀ e, flatB (kv e) = true) (hke : k = kv e) (hsb : ∀ x, q x = true → Instr.sameBits 10000 (kv x) k = true) :
    aMapUpdate P t (.map (some m)) k (vv e) h = some (h.set m (if l.any (fun e => q e.1) = true then .map (mpl kv vv (mset q e l)) cl else .map (mpl kv vv (l ++ [(e, cl)])) (cl + 1))) := by
  unfold aMapUpdate
  simp only [hu, mapRow, hm, Option.bind_some, hk, if_true, aFind_mpl hq hf]
  cases hi : l.findIdx? fun e => q e.1 with
  | none =>
    have : l.any (fun e => q e.1) = false := by
      rw [List.findIdx?_eq_none_iff] at hi
      rw [List.any_eq_false]
      intro x hx; simpa using hi x hx
    simp only [Option.bind_none, this, Bool.false_eq_true, if_false]
    simp only [mpl, List.map_append, List.map_cons, List.map_nil, hke]
  | some j =>
    have hj := hi
    rw [List.findIdx?_eq_some_iff_getElem] at hj
    obtain ⟨hlt, hqj, _⟩ := hj
    have : l.any (fun e => q e.1) = true := by
      rw [List.any_eq_true]; exact ⟨l[j], List.getElem_mem _, hqj⟩
    simp only [Option.bind_some, List.getElem?_eq_getElem hlt, Option.map_some, Nat.zero_add, this, if_true]
    have hb : Instr.sameBits 10000 ((((mpl kv vv l)[j]?).map (·.key)).getD k) k = true := by
      simp only [mpl, List.getElem?_map, List.getElem?_eq_getElem hlt, Option.map_some, Option.getD_some]
      exact hsb _ hqj
    rw [if_pos hb, ← modify_mset (kv := kv) (vv := vv) (e := e) hi, hke]

theorem aNextMap_mpl {r m cl : Nat} {l : List (E × Nat)} {S : List Nat} {h : AHeap} (hr : h[r]? = some (.mapIter (some m) cl S cl)) (hm : h[m]? = some (.map (mpl kv vv l) cl)) (hb : ∀ e ∈ l, e.2 < cl) :
    ∃ outs, aNextMap (.pointer (some ⟨r, 0, none⟩)) h = some outs ∧ ∀ x ∈ outs, ((∀ e ∈ l, e.2 ∈ S) ∧ x = (.tuple #[.bool false], h)) ∨
      ∃ e, (e ∈ l ∧ e.2 ∉ S) ∧ x = (.tuple #[.bool true, kv e.1, vv e.1], h.set r (.mapIter (some m) cl (S ++ [e.2]) cl)) := by
  have hall : (!S.isEmpty && !(mpl kv vv l).isEmpty && (mpl kv vv l).all fun e => decide (e.born ≥ cl)) = false := by
    cases l with
    | nil => simp [mpl]
    | cons e l =>
      have := hb e (by simp)
      simp [mpl]
      intro _ h; omega
  refine ⟨_, by unfold aNextMap; simp only [hr, hm, hall, Bool.false_eq_true, if_false]; exact rfl, ?_⟩
  intro x hx
  rw [List.mem_append] at hx
  have hold : ∀ e ∈ mpl kv vv l, e.born < cl := by
    intro e he
    simp only [mpl, List.mem_map] at he
    obtain ⟨a, ha, rfl⟩ := he
    exact hb a ha
  rcases hx with hx | hx
  · left
    split at hx
    · rename_i hemp
      simp only [List.mem_singleton] at hx
      refine ⟨?_, hx⟩
      intro e he
      rw [List.isEmpty_iff, List.filter_eq_nil_iff] at hemp
      have hm' : (⟨kv e.1, vv e.1, e.2⟩ : MapEntry) ∈ mpl kv vv l := List.mem_map.2 ⟨e, he, rfl⟩
      by_cases hS : e.2 ∈ S
      · exact hS
      · exact absurd (by simpa using hold _ hm') (hemp _ (List.mem_filter.2 ⟨hm', by simpa using hS⟩))
    · simp at hx
  · right
    rw [List.mem_map] at hx
    obtain ⟨a, ha, rfl⟩ := hx
    rw [List.mem_append] at ha
    have ha' : a ∈ mpl kv vv l ∧ a.born ∉ S := by
      rcases ha with ha | ha <;> (rw [List.mem_filter, List.mem_filter] at ha; exact ⟨ha.1.1, by simpa using ha.1.2⟩)
    obtain ⟨h1, h2⟩ := ha'
    simp only [mpl, List.mem_map] at h1
    obtain ⟨e, he, rfl⟩ := h1
    exact ⟨e, ⟨he, h2⟩, rfl⟩

/-- an entry that may come next -/
def nxp (kv vv : E → Value) (l : List (E × Nat)) (h : AHeap) (r m since : Nat) (S : List Nat) (last : Nat) (e : E × Nat) : Prop × Value × AHeap :=
  (e ∈ l ∧ e.2 ∉ S, .tuple ⟨[.bool true, kv e.1, vv e.1]⟩, h.set r (.mapIter (some m) since (S ++ [e.2]) last))

/-- what may come next of a map -/
def nxtOk {A : Type} (it : Value) (h : AHeap) (e : Prop) (p : A → Prop × Value × AHeap) : Prop :=
  ∃ outs, aNextMap it h = some outs ∧ ∀ x ∈ outs, (e ∧ x = (.tuple #[.bool false], h)) ∨ ∃ a, (p a).1 ∧ x = (p a).2

theorem nxtOk_mpl {r m cl : Nat} {l : List (E × Nat)} {S : List Nat} {h : AHeap} (hr : h[r]? = some (.mapIter (some m) cl S cl)) (hm : h[m]? = some (.map (mpl kv vv l) cl)) (hb : ∀ e ∈ l, e.2 < cl) :
    nxtOk (.pointer (some ⟨r, 0, none⟩)) h (∀ e ∈ l, e.2 ∈ S) (nxp kv vv l h r m cl S cl) := aNextMap_mpl hr hm hb

theorem rms_mpl {i : Nat → Option Nat} (hk : ∀ e, scopeV 0 8 (kv e) = true) (hv : ∀ e, scopeV 0 8 (vv e) = true) : ∀ l : List (E × Nat), RMs i (mpl kv vv l) (mpl kv vv l)
  | [] => .nil
  | e :: l => .cons (rv_flat (hk e.1)) (rv_flat (hv e.1)) rfl (rms_mpl hk hv l)

theorem ro_mpl {i : Nat → Option Nat} (hk : ∀ e, scopeV 0 8 (kv e) = true) (hv : ∀ e, scopeV 0 8 (vv e) = true) (l : List (E × Nat)) (c : Nat) : RO i (.map (mpl kv vv l) c) (.map (mpl kv vv l) c) := .map c (rms_mpl hk hv l)

theorem scope_mpl {n : Nat} (hk : ∀ e, scopeV 0 8 (kv e) = true) (hv : ∀ e, scopeV 0 8 (vv e) = true) (l : List (E × Nat)) (c : Nat) : scopeO n (.map (mpl kv vv l) c) = true := by
  simp only [scopeO, mpl, List.all_map, List.all_eq_true]
  intro e _
  simp only [Function.comp, Bool.and_eq_true]
  exact ⟨scope_up 8 (hk _), scope_up 8 (hv _)⟩

end

/-! ## contracts with names -/

/-- a call: its arguments, the heap; what may come of it -/
structure Ctr where
  as : List Value
  h : AHeap
  A : Type
  post : A → Prop × Res × AHeap

def Ctr.asks (K : Ctr) (P : Program) (gs : List Nat) (f : FuncId) : Prop :=
  SpecC P gs (.fn f) K.as K.h (fun r h' => ∃ a, (K.post a).1 ∧ r = (K.post a).2.1 ∧ h' = (K.post a).2.2)

/-- a call with some shapes of outcome -/
structure CtrN where
  as : List Value
  h : AHeap
  A : Type
  posts : List (A → Prop × Res × AHeap)

def CtrN.asks (K : CtrN) (P : Program) (gs : List Nat) (f : FuncId) : Prop := SpecC P gs (.fn f) K.as K.h (fun r h' => anyP r h' K.posts)

/-- behind a call: what is new gets new numbers, what nobody looks at is called dead -/
theorem Spec.re {P : Program} {gs : List Nat} {f : FuncId} {args : List Value} {h : AHeap} {Q : Res → AHeap → Prop}
    (hs : Spec P gs f args h fun r h' => ∃ (m : List Nat) (v v' : Value) (h'' : AHeap), r = .ret v ∧ m.Nodup ∧ (List.range h.length).all (fun b => m[b]? == some b) = true ∧ h.length ≤ m.length ∧ HeapRen (ren m) h' m h'' ∧ RV (ren m) v' v ∧ Q (.ret v') h'') : Spec P gs f args h Q := by
  refine ⟨hs.1, ?_⟩
  intro G F w0 j w args' cs S hA hg hK
  refine hs.2 G F w0 j w args' cs S hA hg ?_
  rintro r h' j' w' fr ⟨m, v, v', h'', rfl, hnd, ho, hlm, hh, hv, hq⟩ hext hl S' hlv
  have hold : ∀ b, b < h.length → ren m b = some b := fun b hb => beq_iff_eq.1 (List.all_eq_true.1 ho b (List.mem_range.2 hb))
  have key : ∀ b, b < h.length → (j'.by (ren m)) b = j' b := fun b hb => Inj.by_some (hold b hb)
  have hinj : ∀ b c q, ren m b = some q → ren m c = some q → b = c := by
    intro b c q h1 h2
    obtain ⟨hb, e1⟩ := List.getElem?_eq_some_iff.1 h1
    obtain ⟨hc, e2⟩ := List.getElem?_eq_some_iff.1 h2
    exact (List.getElem_inj hnd).1 (e1.trans e2.symm)
  refine hK (.ret v') h'' _ w' fr hq ⟨fun b L e => (key b (S.dom b L e)).trans (hext.1 b L e), fun b hb => (key b hb).trans (hext.2 b hb)⟩ (by rw [← hh.length]; exact hlm) (S'.gc hinj fun b q hb => hh.get hb) ?_
  obtain ⟨l1, l2, l3, l4, l5, fn, u, l6, l7, l8⟩ := hlv
  exact ⟨l1, l2, l3, l4, l5, fn, u, l6, l7, hv.vr l8⟩

end Go.Fm

namespace Go.Fm
open Go.ChangeShapes Go.WideShapes Go.ChangeAt Go.RowKit

section
variable {H : Type} {enc : TypeId × Value → H} {P : Program} {W : World} {base : Nat} {held : Bool}

/-- what the reading of a slice of records says of each of them -/
theorem open_recs {t e : TypeId} {n fuel : Nat} {ks : List CK} {cs : List Value} {x : DataW H × List MemPlace} (ht : P.underlying t = some (.slice e)) (hk : kindsOf P n e = some ks) (h : DataW.trod enc P W base (fun _ => true) held fuel t cs = some x) :
    cs = [.slice none 0 0] ∨ ∃ (a : Addr) (len cap : Nat), cs = [.slice (some a) len cap] ∧ len ≤ cap ∧ ∀ i, i < cap → ∃ l, CKs ks l ∧ ∀ q, q < P.cellsOf e → W.cell? ((a.add (i * P.cellsOf e)).add q) = l[q]? := by
  rcases DataW.trod_slice ht h with h0 | ⟨a, len, cap, elems, rest, m, _, rfl, rfl, _, hl, _, hlen, hel, hsp, _⟩
  · exact .inl h0.1
  right
  obtain ⟨hrl, hr⟩ := hsp rfl
  refine ⟨a, len, cap, rfl, hl, fun i hi => ?_⟩
  have hy : ∃ y, (W.cells? base (a.add (i * P.cellsOf e)) (P.cellsOf e)).bind (DataW.trod enc P W base (fun _ => true) held m e) = some y := by
    by_cases hi2 : i < len
    · rw [hel i hi2]; exact ⟨_, List.getElem?_eq_getElem (by omega)⟩
    · have := hr (i - len) (by omega)
      rw [show len + (i - len) = i by omega] at this
      rw [this]; exact ⟨_, List.getElem?_eq_getElem (by omega)⟩
  obtain ⟨y, hy⟩ := hy
  rw [Option.bind_eq_some_iff] at hy
  obtain ⟨l, hl1, hl2⟩ := hy
  exact ⟨l, (read_kinds n e ks hk m l y.1 y.2 hl2).1, (World.cells?_some hl1).2.2⟩

end

/-- a row, item by item -/
theorem list_of {A : Type} [Inhabited A] {p : Nat → A → Prop} : ∀ {n : Nat}, (∀ i, i < n → ∃ a, p i a) → ∃ L : List A, L.length = n ∧ ∀ i, i < n → p i (L.getD i default)
  | 0, _ => ⟨[], rfl, fun i h => absurd h (Nat.not_lt_zero i)⟩
  | n + 1, h => by
    obtain ⟨L, h1, h2⟩ := list_of (n := n) fun i hi => h i (by omega)
    obtain ⟨a, ha⟩ := h n (by omega)
    refine ⟨L ++ [a], by simp [h1], fun i hi => ?_⟩
    by_cases e : i = n
    · subst e
      rw [List.getD_eq_getElem?_getD, List.getElem?_append_right (by omega), h1]
      simpa using ha
    · have := h2 i (by omega)
      rw [List.getD_eq_getElem?_getD] at this ⊢
      rwa [List.getElem?_append_left (by omega)]

theorem sim_rows {E : Type} [Inhabited E] {c : E → List Value} {m : Nat} (hm : ∀ e, (c e).length = m) (hm0 : 0 < m) (hf : ∀ e, ∀ v ∈ c e, Flat v) {W : World} {B off cap : Nat} {L : List E} (hL : L.length = cap) (hpos : 0 < cap)
    (hc : ∀ i, i < cap → ∀ q, q < m → W.cell? ⟨B, off + i * m + q, none⟩ = (c (L.getD i default))[q]?) :
    ∃ j, Sim (allBelow W) W j [.cells (rwl c L) true] W ∧ j 0 = some ⟨B, off, cap * m, m, 0⟩ := by
  have hcell : ∀ o, o < cap * m → ∃ v, W.cell? ⟨B, off + o, none⟩ = some v ∧ (rwl c L)[o]? = some v ∧ Flat v := by
    intro o ho
    have h1 : o / m < cap := Nat.div_lt_of_lt_mul (by rw [Nat.mul_comm]; exact ho)
    have h2 : o % m < m := Nat.mod_lt _ hm0
    have h3 := hc (o / m) h1 (o % m) h2
    have h4 : o / m * m + o % m = o := by rw [Nat.mul_comm]; exact Nat.div_add_mod o m
    rw [Nat.add_assoc, h4] at h3
    have h5 := rwl_part (c := c) hm (d := default) (k := o % m) (n := 1) (by omega) (l := L) (i := o / m) (by omega)
    rw [h4] at h5
    have h6 : o % m < (c (L.getD (o / m) default)).length := by rw [hm]; exact h2
    have h7 : (rwl c L)[o]? = (c (L.getD (o / m) default))[o % m]? := by
      have := congrArg (fun x => x[0]?) h5
      simpa [List.getElem?_take, List.getElem?_drop] using this
    refine ⟨_, by rw [h3, List.getElem?_eq_getElem h6], by rw [h7, List.getElem?_eq_getElem h6], hf _ _ (List.getElem_mem h6)⟩
  have hlen : (rwl c L).length = cap * m := by rw [rwl_len hm, hL]
  have hall : 0 < cap * m := Nat.mul_pos hpos hm0
  have hblk : ∃ d T f, W.heap[B]? = some (.cells d T f) := by
    obtain ⟨v, h0, _⟩ := hcell 0 hall
    unfold World.cell? at h0
    split at h0
    · rename_i d T f hb; exact ⟨d, T, f, hb⟩
    · cases h0
  obtain ⟨d, T, f, hb⟩ := hblk
  have hd : ∀ o, o < cap * m → d[off + o]? = (rwl c L)[o]? := by
    intro o ho
    obtain ⟨v, h1, h2, _⟩ := hcell o ho
    rw [World.cell?_of hb] at h1
    rw [h2]; exact h1
  have hsz : off + cap * m ≤ d.size := by
    obtain ⟨v, _, h2, _⟩ := hcell (cap * m - 1) (by omega)
    have := hd (cap * m - 1) (by omega)
    rw [h2] at this
    have hlt := (Array.getElem?_eq_some_iff.1 this).1
    omega
  have hobj : ∀ j' : Inj, ObjR j' ⟨B, off, cap * m, m, 0⟩ W (some (.cells (rwl c L) true)) := by
    intro j'
    refine ⟨d, T, f, hb, hlen, by unfold Loc.ext; simpa using hsz, ?_, by simp, fun _ => rfl⟩
    refine LR.of_get (by rw [List.length_take, List.length_drop, hlen]; simp; omega) fun i v v' hv hv' => ?_
    have hi : i < cap * m := by rw [← hlen]; exact (List.getElem?_eq_some_iff.1 hv).1
    rw [List.getElem?_take, if_pos hi, List.getElem?_drop] at hv'
    have h1 := hd i hi
    rw [← Array.getElem?_toList] at h1
    rw [h1, hv] at hv'
    injection hv' with hv'
    subst hv'
    obtain ⟨u, _, h2, h3⟩ := hcell i hi
    rw [hv] at h2
    injection h2 with h2
    subst h2
    exact h3.vr j'
  have S := Sim.addRo (Sim.start W) (c := rwl c L) (L := ⟨B, off, cap * m, m, 0⟩) (by intro b hr; simp [Fm.isRw] at hr) fun j' _ => hobj j'
  exact ⟨_, S, Inj.put_same _ _ _⟩

end Go.Fm
