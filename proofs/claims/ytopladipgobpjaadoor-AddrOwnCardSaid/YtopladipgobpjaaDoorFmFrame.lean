/-
  FmFrame: a contract shown in a small heap, laid into a greater one: what it is not handed stays as it was.
-/
import Derived.Test.YtopladipgobpjaaDoorFmRow
import Derived.Test.YtopladipgobpjaaDoorFmGc2
namespace Go.Fm

variable {P : Program}

/-! ## renaming -/

def renV (f : Nat → Nat) : Nat → Value → Value
  | 0, v => v
  | n + 1, v =>
    match v with
    | .pointer (some ⟨b, o, s⟩) => .pointer (some ⟨f b, o, s⟩)
    | .slice (some ⟨b, o, s⟩) l c => .slice (some ⟨f b, o, s⟩) l c
    | .map (some r) => .map (some (f r))
    | .iface t v => .iface t (renV f n v)
    | .agg x => .agg ⟨x.toList.map (renV f n)⟩
    | .tuple x => .tuple ⟨x.toList.map (renV f n)⟩
    | .func (.func g) x y => .func (.func g) ⟨x.toList.map (renV f n)⟩ ⟨y.toList.map (renV f n)⟩
    | .func (.yield l) x y => .func (.yield (f l)) x y
    | v => v

def renO (f : Nat → Nat) (N : Nat) (o : AObj) : AObj :=
  match o with
  | .cells c ro => cond (c.all (scopeV N 8)) (.cells (c.map (renV f 8)) ro) .dead
  | .tcells c t z => cond (c.all (scopeV N 8)) (.tcells (c.map (renV f 8)) t z) .dead
  | .map es clock => cond (es.all fun e => scopeV N 8 e.key && scopeV N 8 e.val) (.map (es.map fun e => { e with key := renV f 8 e.key, val := renV f 8 e.val }) clock) .dead
  | .mapIter none a b c => .mapIter none a b c
  | .mapIter (some m) a b c => .mapIter (some (f m)) a b c
  | .strIter s p => .strIter s p
  | .spec .defq => .spec .defq
  | .spec .over => .spec .over
  | _ => .dead

def updO (f : Nat → Nat) (N : Nat) (old new : Option AObj) : AObj :=
  match old with
  | some (.cells c true) => .cells c true
  | _ => match new with
    | some (.cells _ true) => .dead
    | some o => renO f N o
    | none => .dead

section
variable {j1 j2 : Inj} {f : Nat → Nat} (hf : ∀ b L, j1 b = some L → j2 (f b) = some L)
include hf

theorem renV_vr {N : Nat} : ∀ (n : Nat) (v : Value), scopeV N n v = true → ∀ v', VR j1 v v' → VR j2 (renV f n v) v'
  | 0, v, h => by simp [scopeV] at h
  | n + 1, v, h => by
    have ih := renV_vr (N := N) n
    have arr : ∀ (x x' : Array Value), x.toList.all (scopeV N n) = true → x.size = x'.size → (∀ (i : Nat) (v v' : Value), x[i]? = some v → x'[i]? = some v' → VR j1 v v') →
        (⟨x.toList.map (renV f n)⟩ : Array Value).size = x'.size ∧ ∀ (i : Nat) (v v' : Value), (⟨x.toList.map (renV f n)⟩ : Array Value)[i]? = some v → x'[i]? = some v' → VR j2 v v' := by
      intro x x' hx hs hr
      refine ⟨by simpa using hs, fun i v v' e e' => ?_⟩
      have e2 : (x.toList.map (renV f n))[i]? = some v := by simpa using e
      rw [List.getElem?_map] at e2
      obtain ⟨u, hu, rfl⟩ := Option.map_eq_some_iff.1 e2
      exact ih u (List.all_eq_true.1 hx u (List.mem_of_getElem? hu)) v' (hr i u v' (by simpa using hu) e')
    unfold scopeV at h
    intro v' hv
    cases hv with
    | bool b => exact .bool b
    | int k m => exact .int k m
    | float k m => exact .float k m
    | complex k x y => exact .complex k x y
    | string s => exact .string s
    | pnil => exact .pnil
    | ptr hj => exact .ptr (hf _ _ hj)
    | snil l c => exact .snil l c
    | slice l c hj => exact .slice l c (hf _ _ hj)
    | oslice l c hj he hc => exact .oslice l c (hf _ _ hj) he hc
    | slice0 a a' => obtain ⟨b, o, s⟩ := a; exact .slice0 _ a'
    | mnil => exact .mnil
    | map hj => exact .map (hf _ _ hj)
    | cnil => exact .cnil
    | hole hc => exact .hole hc
    | func g h1 h2 h3 h4 =>
      simp only [Bool.and_eq_true] at h
      obtain ⟨a1, a2⟩ := arr _ _ h.1 h1 h2
      obtain ⟨b1, b2⟩ := arr _ _ h.2 h3 h4
      exact .func g a1 a2 b1 b2
    | method m h1 h2 h3 h4 => cases h
    | yield hj => exact .yield (hf _ _ hj)
    | nilFunc => exact .nilFunc
    | iface t hv => exact .iface t (ih _ h _ hv)
    | nilIface => exact .nilIface
    | agg h1 h2 => obtain ⟨a1, a2⟩ := arr _ _ h h1 h2; exact .agg a1 a2
    | tuple h1 h2 => obtain ⟨a1, a2⟩ := arr _ _ h h1 h2; exact .tuple a1 a2

theorem renV_lr {N : Nat} : ∀ {l l' : List Value}, l.all (scopeV N 8) = true → LR j1 l l' → LR j2 (l.map (renV f 8)) l'
  | [], _, _, h => by cases h; exact .nil
  | v :: l, _, hs, h => by
    cases h with
    | cons hv hl =>
      simp only [List.all_cons, Bool.and_eq_true] at hs
      exact .cons (renV_vr hf 8 v hs.1 _ hv) (renV_lr hs.2 hl)

theorem renE_er {N : Nat} : ∀ {l l' : List MapEntry}, (l.all fun e => scopeV N 8 e.key && scopeV N 8 e.val) = true → ER j1 l l' →
    ER j2 (l.map fun e => { e with key := renV f 8 e.key, val := renV f 8 e.val }) l'
  | [], _, _, h => by cases h; exact .nil
  | e :: l, _, hs, h => by
    cases h with
    | cons hr hl =>
      simp only [List.all_cons, Bool.and_eq_true] at hs
      exact .cons ⟨renV_vr hf 8 _ hs.1.1 _ hr.1, renV_vr hf 8 _ hs.1.2 _ hr.2.1, hr.2.2⟩ (renE_er hs.2 hl)

theorem renO_objR {N : Nat} {L : Loc} {w : World} {o : AObj} (h : ObjR j1 L w (some o)) : ObjR j2 L w (some (renO f N o)) := by
  unfold renO
  split
  · rename_i c ro
    cases hs : c.all (scopeV N 8) with
    | false => trivial
    | true =>
      obtain ⟨d, T, fz, h1, h2, h3, h4, h5, h6⟩ := h
      exact ⟨d, T, fz, h1, by simpa using h2, h3, renV_lr hf hs h4, h5, h6⟩
  · rename_i c t z
    cases hs : c.all (scopeV N 8) with
    | false => trivial
    | true =>
      obtain ⟨d, fz, h1, h2, h3, h4, h5⟩ := h
      exact ⟨d, fz, h1, by simpa using h2, h3, renV_lr hf hs h4, h5⟩
  · rename_i es clock
    cases hs : (es.all fun e => scopeV N 8 e.key && scopeV N 8 e.val) with
    | false => trivial
    | true =>
      obtain ⟨es', h1, h2, h3⟩ := h
      exact ⟨es', h1, renE_er hf hs h2, h3⟩
  · obtain ⟨h0, m', h1, h2⟩ := h
    rcases h2 with h2 | ⟨r0, L', h3, _⟩
    · exact ⟨h0, m', h1, .inl h2⟩
    · cases h3
  · obtain ⟨h0, m', h1, h2⟩ := h
    rcases h2 with h2 | ⟨r0, L', h3, h4, h5⟩
    · cases h2.1
    · injection h3 with h3; subst h3
      exact ⟨h0, m', h1, .inr ⟨_, L', rfl, hf _ _ h4, h5⟩⟩
  · exact h
  · exact h
  · exact h
  · trivial
end

theorem renO_owns {f : Nat → Nat} {N : Nat} {o : AObj} {L : Loc} {B x : Nat} (h : owns L (some (renO f N o)) B x) : owns L (some o) B x := by
  unfold renO at h
  split at h
  · rename_i c ro; cases hs : c.all (scopeV N 8) <;> rw [hs] at h
    · exact h.elim
    · exact h
  · rename_i c t z; cases hs : c.all (scopeV N 8) <;> rw [hs] at h
    · exact h.elim
    · exact h
  · rename_i es clock; cases hs : (es.all fun e => scopeV N 8 e.key && scopeV N 8 e.val) <;> rw [hs] at h
    · exact h.elim
    · exact h
  · exact h
  · exact h
  · exact h
  · exact h
  · exact h
  · exact h.elim

theorem renO_isRw {f : Nat → Nat} {N : Nat} {o : AObj} (h : isRw (some (renO f N o))) : isRw (some o) := by
  unfold renO at h
  split at h
  · rename_i c ro; cases hs : c.all (scopeV N 8) <;> rw [hs] at h
    · exact h.elim
    · exact h
  · rename_i c t z; trivial
  · rename_i es clock; trivial
  · trivial
  · trivial
  · trivial
  · trivial
  · trivial
  · exact h.elim

/-- an object that has places of its own, and is not only read, may be written -/
theorem owns_rw {o : AObj} {L : Loc} {B x : Nat} (h : owns L (some o) B x) (hro : ∀ c, o ≠ .cells c true) : isRw (some o) := by
  match o, h with
  | .cells c false, _ => rfl
  | .cells c true, _ => exact (hro c rfl).elim
  | .tcells _ _ _, _ | .map _ _, _ | .mapIter _ _ _ _, _ | .strIter _ _, _ | .spec _, _ => trivial

/-- the ways an object of the run comes back: as it was (only read), renamed, or dead -/
theorem updO_cases (f : Nat → Nat) (N : Nat) (old new : Option AObj) :
    (∃ c, old = some (.cells c true) ∧ updO f N old new = .cells c true) ∨ updO f N old new = .dead ∨ ∃ o, new = some o ∧ (∀ c, o ≠ .cells c true) ∧ updO f N old new = renO f N o := by
  unfold updO
  split
  · rename_i c; exact .inl ⟨c, rfl, rfl⟩
  · split
    · exact .inr (.inl rfl)
    · rename_i o hno
      exact .inr (.inr ⟨o, rfl, fun c hc => hno c (by rw [hc]), rfl⟩)
    · exact .inr (.inl rfl)

theorem keptAt_trans {a b c : World} {B o : Nat} (h : keptAt a b B o) (h' : keptAt b c B o) : keptAt a c B o := by
  unfold keptAt at h ⊢
  split at h
  · rename_i d T f ha
    obtain ⟨d', h1, h2, h3⟩ := h
    unfold keptAt at h'
    rw [h1] at h'
    obtain ⟨d2, k1, k2, k3⟩ := h'
    exact ⟨d2, k1, k2.trans h2, k3.trans h3⟩
  · rename_i x hx ha
    unfold keptAt at h'
    rw [h] at h'
    split at h'
    · rename_i d T f hb; injection hb with hb; exact (hx _ _ _ hb).elim
    · rename_i y hy hb; injection hb with hb; subst hb; exact h'
    · rename_i hb; cases hb
  · trivial

/-- an object whose places are all kept -/
theorem ObjR.kept {j : Inj} {L : Loc} {w w' : World} {o : Option AObj} (h : ObjR j L w o) (hk : ∀ B x, owns L o B x → keptAt w w' B x) (hne : ∀ ro, o ≠ some (.cells [] ro)) : ObjR j L w' o := by
  match o, h with
  | some (.cells c ro), ⟨d, T, f, h1, h2, h3, h4, h5, h6⟩ =>
    have hc : 0 < L.size := by
      cases c with
      | nil => exact (hne ro rfl).elim
      | cons a r => rw [← h2]; simp
    have hpos : 0 < L.ext := by unfold Loc.ext; omega
    have all : ∀ x : Nat, L.off ≤ x → x < L.off + L.ext → ∃ d', w'.heap[L.blk]? = some (.cells d' T f) ∧ d'.size = d.size ∧ d'[x]? = d[x]? := by
      intro x hx hx'
      have := hk L.blk x ⟨rfl, hx, hx'⟩
      unfold keptAt at this
      rw [h1] at this
      exact this
    obtain ⟨d', k1, k2, _⟩ := all L.off (Nat.le_refl _) (by omega)
    refine ⟨d', T, f, k1, h2, by rw [k2]; exact h3, ?_, h5, h6⟩
    have : (d'.toList.drop L.off).take L.size = (d.toList.drop L.off).take L.size := by
      apply List.ext_getElem?
      intro i
      simp only [List.getElem?_take, List.getElem?_drop]
      split
      · rename_i hi
        obtain ⟨d2, m1, m2, m3⟩ := all (L.off + i) (by omega) (by unfold Loc.ext; omega)
        rw [k1] at m1; injection m1 with m1; injection m1 with m1; subst m1
        simpa using m3
      · rfl
    rw [this]; exact h4
  | some (.tcells c t z), ⟨d, f, h1, h2, h3, h4, h5, h6, h7⟩ =>
    have all : ∀ x : Nat, ∃ d', w'.heap[L.blk]? = some (.cells d' t f) ∧ d'.size = d.size ∧ d'[x]? = d[x]? := by
      intro x
      have := hk L.blk x rfl
      unfold keptAt at this
      rw [h1] at this
      exact this
    obtain ⟨d', k1, k2, _⟩ := all 0
    have hd : d' = d := by
      apply Array.ext_getElem?
      intro i
      obtain ⟨d2, m1, m2, m3⟩ := all i
      rw [k1] at m1; injection m1 with m1; injection m1 with m1; subst m1
      exact m3
    rw [hd] at k1
    exact ⟨d, f, k1, h2, h3, h4, h5, h6, h7⟩
  | some (.map es clock), ⟨es', h1, h2⟩ =>
    have := hk L.blk 0 rfl; unfold keptAt at this; rw [h1] at this; exact ⟨es', this, h2⟩
  | some (.mapIter _ _ _ _), ⟨h0, m', h1, h2⟩ =>
    have := hk L.blk 0 rfl; unfold keptAt at this; rw [h1] at this; exact ⟨h0, m', this, h2⟩
  | some (.strIter _ _), ⟨h0, h1⟩ =>
    have := hk L.blk 0 rfl; unfold keptAt at this; rw [h1] at this; exact ⟨h0, this⟩
  | some (.spec x), ⟨h0, y, h1, h2⟩ =>
    have := hk L.blk 0 rfl
    unfold keptAt at this; rw [h1] at this
    cases y with
    | cells d T f => exact (SpecR.cells h2).elim
    | _ => exact ⟨h0, _, this, h2⟩
  | some .dead, _ => trivial
  | none, h => exact h.elim

/-! ## the greater heap behind the run -/

/-- the new name of a block of the run: n0 blocks were handed in, n there are in all -/
def renB (i : Nat → Option Nat) (n0 n : Nat) (b : Nat) : Nat := cond (Nat.blt b n0) ((i b).getD 0) (n + (b - n0))

def putOld (i : Nat → Option Nat) (n0 n : Nat) (h0' : AHeap) (h : AHeap) : List Nat → AHeap → AHeap
  | [], g => g
  | b :: r, g => match i b with
    | some q => putOld i n0 n h0' h r (g.set q (updO (renB i n0 n) h0'.length h[q]? h0'[b]?))
    | none => putOld i n0 n h0' h r g

/-- the greater heap, behind a run that left h0' of the small one -/
def putH (i : Nat → Option Nat) (n0 : Nat) (h0' h : AHeap) : AHeap :=
  putOld i n0 h.length h0' h (List.range n0) h ++ (h0'.drop n0).map fun o => updO (renB i n0 h.length) h0'.length none (some o)

theorem putOld_length (i : Nat → Option Nat) (n0 n : Nat) (h0' h : AHeap) : ∀ (l : List Nat) (g : AHeap), (putOld i n0 n h0' h l g).length = g.length
  | [], _ => rfl
  | b :: r, g => by
    unfold putOld; split
    · rw [putOld_length i n0 n h0' h r]; simp
    · exact putOld_length i n0 n h0' h r g

theorem putOld_other (i : Nat → Option Nat) (n0 n : Nat) (h0' h : AHeap) {q : Nat} : ∀ (l : List Nat) (g : AHeap), (∀ b ∈ l, i b ≠ some q) → (putOld i n0 n h0' h l g)[q]? = g[q]?
  | [], _, _ => rfl
  | b :: r, g, hq => by
    unfold putOld; split
    · rename_i p hp
      rw [putOld_other i n0 n h0' h r _ fun c hc => hq c (by simp [hc]), List.getElem?_set]
      have : p ≠ q := by rintro rfl; exact hq b (by simp) hp
      simp [this]
    · exact putOld_other i n0 n h0' h r _ fun c hc => hq c (by simp [hc])

theorem putOld_get (i : Nat → Option Nat) (n0 n : Nat) (h0' h : AHeap) (hinj : ∀ b c q, i b = some q → i c = some q → b = c) {b q : Nat} (hb : i b = some q) : ∀ (l : List Nat) (g : AHeap), l.Nodup → b ∈ l → q < g.length →
    (putOld i n0 n h0' h l g)[q]? = some (updO (renB i n0 n) h0'.length h[q]? h0'[b]?)
  | [], _, _, h, _ => by simp at h
  | c :: r, g, hd, hm, hq => by
    rw [List.nodup_cons] at hd
    unfold putOld
    by_cases hc : c = b
    · subst hc
      rw [hb]
      simp only
      rw [putOld_other i n0 n h0' h r _ fun d hdr hdq => by
        have := hinj d c q hdq hb
        subst this; exact hd.1 hdr]
      simp [hq]
    · have hm' : b ∈ r := by
        rcases List.mem_cons.1 hm with e | e
        · exact (hc e.symm).elim
        · exact e
      split
      · exact putOld_get i n0 n h0' h hinj hb r _ hd.2 hm' (by simpa using hq)
      · exact putOld_get i n0 n h0' h hinj hb r _ hd.2 hm' hq

def renRes (f : Nat → Nat) : Res → Res
  | .ret v => .ret (renV f 8 v)
  | .pan ch => .pan (ch.map fun p => (renV f 8 p.1, p.2))

def okRes (N : Nat) : Res → Bool
  | .ret v => scopeV N 8 v
  | .pan ch => ch.all fun p => scopeV N 8 p.1

theorem renCh {j1 j2 : Inj} {f : Nat → Nat} (hf : ∀ b L, j1 b = some L → j2 (f b) = some L) {N : Nat} : ∀ {ch : Chain} {ch' : List PanicEntry}, (ch.all fun p => scopeV N 8 p.1) = true → ChR j1 ch ch' → ChR j2 (ch.map fun p => (renV f 8 p.1, p.2)) ch'
  | [], _, _, h => by cases h; exact .nil
  | (v, r) :: l, _, hs, h => by
    cases h with
    | cons hv hl =>
      simp only [List.all_cons, Bool.and_eq_true] at hs
      exact .cons (renV_vr hf 8 v hs.1 _ hv) (renCh hf hs.2 hl)

/-- what is handed to a run -/
structure Emb (gs : List Nat) (i : Nat → Option Nat) (h0 h : AHeap) : Prop where
  inj : ∀ b c q, i b = some q → i c = some q → b = c
  glob : ∀ g ∈ gs, i g = some g
  obj : ∀ b q, i b = some q → ∃ o o', h0[b]? = some o ∧ h[q]? = some o' ∧ RO i o o'
  full : ∀ (q : Nat) (ro : Bool), h[q]? = some (.cells [] ro) → ro = false ∧ ∃ b, i b = some q

theorem Spec.frame {gs gs' : List Nat} {i : Nat → Option Nat} {f : FuncId} {h0 h : AHeap} {args0 args : List Value} {Q0 : Res → AHeap → Prop} (hs : Spec P gs f args0 h0 Q0) (E : Emb gs i h0 h) (ha : RVs i args0 args)
    (hg : ∀ g ∈ gs, g ∈ gs') (hok : ∀ r h0', Q0 r h0' → okRes h0'.length r = true) :
    Spec P gs' f args h fun r h' => ∃ r0 h0', Q0 r0 h0' ∧ r = renRes (renB i h0.length h.length) r0 ∧ h' = putH i h0.length h0' h := by
  refine ⟨hs.1, fun G F w0 j w args' cs S hA hG hK => ?_⟩
  -- what the run is not handed
  let PO : Nat → Nat → Prop := fun B o => ∃ b q L, i b = some q ∧ j q = some L ∧ isRw h[q]? ∧ owns L h[q]? B o
  let F2 : Nat → Nat → Prop := fun B o => B < w.heap.size ∧ ¬ PO B o
  have hFF : ∀ B o, F B o → F2 B o := fun B o hF =>
    ⟨Nat.lt_of_lt_of_le (S.below B o hF) S.size, fun ⟨b, q, L, h1, h2, h3, h4⟩ => S.own q L h2 h3 B o h4 hF⟩
  have hib : ∀ b q, i b = some q → b < h0.length ∧ q < h.length := fun b q hb => by
    obtain ⟨o, o', h1, h2, _⟩ := E.obj b q hb
    exact ⟨(List.getElem?_eq_some_iff.1 h1).1, (List.getElem?_eq_some_iff.1 h2).1⟩
  have S0' := S.gc (i := i) E.inj E.obj
  have S0 : Sim F2 w (j.by i) h0 w := by
    refine ⟨Io.refl w, Nat.le_refl _, fun B o _ => keptAt_refl w B o, fun B o hF => hF.1, S0'.dom, S0'.obj, ?_, S0'.apart⟩
    intro b L e hr B x ho hF
    obtain ⟨q, hq, hj⟩ := Inj.of_by e
    obtain ⟨o, o', h1, h2, h3⟩ := E.obj b q hq
    rw [h1] at hr ho
    exact hF.2 ⟨b, q, L, hq, hj, by rw [h2]; exact h3.isRw hr, by rw [h2]; exact h3.owns ho⟩
  have hA0 : LR (j.by i) args0 args'.toList := ha.lr hA
  have hG0 : GlobR gs (j.by i) := fun g hgg => by
    obtain ⟨L, h1, h2⟩ := hG g (hg g hgg)
    exact ⟨L, (Inj.by_some (E.glob g hgg)).trans h1, h2⟩
  refine hs.2 G F2 w (j.by i) w args' cs S0 hA0 hG0 ?_
  intro r0 h0' j1 w1 fr hq0 hext hl S1 hlv
  have hle : h0.length ≤ h0'.length := hl
  let n0 := h0.length
  let n := h.length
  let rn := renB i n0 n
  let j' : Inj := fun q => if q < n then j q else j1 (n0 + (q - n))
  have hjold : ∀ q, q < n → j' q = j q := fun q hq => by show (if q < n then _ else _) = _; rw [if_pos hq]
  have hjnew : ∀ q, n ≤ q → j' q = j1 (n0 + (q - n)) := fun q hq => by show (if q < n then _ else _) = _; rw [if_neg (by omega)]
  have hj1old : ∀ b, b < n0 → j1 b = (j.by i) b := fun b hb => hext.2 b hb
  have hle' : j.le j' := fun q L e => by rw [hjold q (S.dom q L e)]; exact e
  -- the run's names, and the new ones
  have hrn : ∀ b L, j1 b = some L → j' (rn b) = some L := by
    intro b L e
    show j' (renB i n0 n b) = some L
    unfold renB
    cases hb : Nat.blt b n0 with
    | true =>
      rw [Nat.blt_eq] at hb
      rw [hj1old b hb] at e
      obtain ⟨q, hq, hj⟩ := Inj.of_by e
      rw [hq]
      show j' q = some L
      rw [hjold q (hib b q hq).2]; exact hj
    | false =>
      have hb' : ¬ b < n0 := by intro hlt; rw [← Nat.blt_eq] at hlt; rw [hlt] at hb; cases hb
      show j' (n + (b - n0)) = some L
      rw [hjnew _ (by omega), show n0 + (n + (b - n0) - n) = b by omega]; exact e
  have hlen : (putH i n0 h0' h).length = n + (h0'.length - n0) := by
    unfold putH; rw [List.length_append, putOld_length, List.length_map, List.length_drop]
  have hgetNew : ∀ q, n ≤ q → (putH i n0 h0' h)[q]? = (h0'[n0 + (q - n)]?).map fun o => updO rn h0'.length none (some o) := by
    intro q hq
    unfold putH
    rw [List.getElem?_append_right (by rw [putOld_length]; exact hq), putOld_length, List.getElem?_map, List.getElem?_drop]
  have hgetIn : ∀ b q, i b = some q → (putH i n0 h0' h)[q]? = some (updO rn h0'.length h[q]? h0'[b]?) := by
    intro b q hb
    obtain ⟨h1, h2⟩ := hib b q hb
    unfold putH
    rw [List.getElem?_append_left (by rw [putOld_length]; exact h2)]
    exact putOld_get i n0 n h0' h E.inj hb _ _ List.nodup_range (List.mem_range.2 h1) h2
  have hgetOut : ∀ q, q < n → (∀ b, i b ≠ some q) → (putH i n0 h0' h)[q]? = h[q]? := by
    intro q hq hb
    unfold putH
    rw [List.getElem?_append_left (by rw [putOld_length]; exact hq), putOld_other i n0 n h0' h _ _ fun b _ => hb b]
  -- what is not handed stays
  have hF2 : ∀ q L, j q = some L → ((∀ b, i b ≠ some q) ∨ ¬ isRw h[q]?) → ∀ B x, owns L h[q]? B x → F2 B x := by
    intro q L hj hq B x ho
    refine ⟨(S.obj q L hj).lt B x ho, ?_⟩
    rintro ⟨b, p, M, h1, h2, h3, h4⟩
    have hpq : p ≠ q := by
      rintro rfl
      rcases hq with hq | hq
      · exact hq b h1
      · exact hq h3
    exact S.apart p q M L hpq h2 hj h3 B x h4 ho
  have hkeep : ∀ q L, j q = some L → ((∀ b, i b ≠ some q) ∨ ∃ c, h[q]? = some (.cells c true)) → ObjR j' L w1 h[q]? := by
    intro q L hj hq
    refine ObjR.mono hle' ((S.obj q L hj).kept (fun B x ho => S1.kept B x (hF2 q L hj ?_ B x ho)) ?_)
    · rcases hq with hq | ⟨c, hc⟩
      · exact .inl hq
      · exact .inr (by rw [hc]; simp [isRw])
    · intro ro he
      obtain ⟨h1, b, h2⟩ := E.full q ro he
      rcases hq with hq | ⟨c, hc⟩
      · exact hq b h2
      · rw [hc] at he; injection he with he; injection he with _ he; rw [← he] at h1; cases h1
  -- each name is of one of three kinds
  have kinds : ∀ q L, j' q = some L → (q < n ∧ (∀ b, i b ≠ some q) ∧ j q = some L ∧ (putH i n0 h0' h)[q]? = h[q]?) ∨
      ∃ b, j1 b = some L ∧ (∀ b' q', b' = b → q' ≠ q → rn b' ≠ q') ∧ rn b = q ∧ ∃ old, (old = h[q]? ∧ j q = some L ∧ (∃ b, i b = some q) ∨ old = none) ∧ (putH i n0 h0' h)[q]? = some (updO rn h0'.length old h0'[b]?) := by
    intro q L e
    by_cases hq : q < n
    · rw [hjold q hq] at e
      by_cases hb : ∃ b, i b = some q
      · obtain ⟨b, hb⟩ := hb
        obtain ⟨h1, _⟩ := hib b q hb
        have hrb : rn b = q := by
          show renB i n0 n b = q
          unfold renB
          rw [show Nat.blt b n0 = true by rw [Nat.blt_eq]; exact h1, hb]; rfl
        refine .inr ⟨b, ?_, ?_, hrb, h[q]?, .inl ⟨rfl, e, b, hb⟩, hgetIn b q hb⟩
        · rw [hj1old b h1]; exact (Inj.by_some hb).trans e
        · rintro b' q' rfl hne; rw [hrb]; exact Ne.symm hne
      · have hb : ∀ b, i b ≠ some q := fun b hbq => hb ⟨b, hbq⟩
        exact .inl ⟨hq, hb, e, hgetOut q hq hb⟩
    · rw [hjnew q (by omega)] at e
      have hlt := S1.dom _ _ e
      have hrb : rn (n0 + (q - n)) = q := by
        show renB i n0 n (n0 + (q - n)) = q
        unfold renB
        have : Nat.blt (n0 + (q - n)) n0 = false := by
          rw [Bool.eq_false_iff]; intro hh; rw [Nat.blt_eq] at hh; omega
        rw [this]; show n + (n0 + (q - n) - n0) = q; omega
      refine .inr ⟨n0 + (q - n), e, ?_, hrb, none, .inr rfl, ?_⟩
      · rintro b' q' rfl hne; rw [hrb]; exact Ne.symm hne
      · rw [hgetNew q (by omega), List.getElem?_eq_getElem hlt]; rfl
  have S' : Sim F w0 j' (putH i n0 h0' h) w1 := by
    refine ⟨S.io.trans S1.io, Nat.le_trans S.size S1.size, fun B o hF => keptAt_trans (S.kept B o hF) (S1.kept B o (hFF B o hF)), S.below, ?_, ?_, ?_, ?_⟩
    · intro q L e
      rw [hlen]
      by_cases hq : q < n
      · omega
      · rw [hjnew q (by omega)] at e
        have := S1.dom _ _ e
        omega
    · intro q L e
      rcases kinds q L e with ⟨hq, hb, hj, hg⟩ | ⟨b, hb, _, _, old, hold, hg⟩
      · rw [hg]; exact hkeep q L hj (.inl hb)
      · rw [hg]
        rcases updO_cases rn h0'.length old h0'[b]? with ⟨c, hc, hu⟩ | hu | ⟨o, ho, _, hu⟩
        · rw [hu]
          rcases hold with ⟨ho, hj, _⟩ | ho
          · rw [← hc, ho]; exact hkeep q L hj (.inr ⟨c, by rw [← ho]; exact hc⟩)
          · rw [ho] at hc; cases hc
        · rw [hu]; trivial
        · rw [hu]
          have := S1.obj b L hb
          rw [ho] at this
          exact renO_objR hrn this
    · intro q L e hr B x ho hF
      rcases kinds q L e with ⟨hq, hb, hj, hg⟩ | ⟨b, hb, _, _, old, hold, hg⟩
      · rw [hg] at hr ho; exact S.own q L hj hr B x ho hF
      · rw [hg] at hr ho
        rcases updO_cases rn h0'.length old h0'[b]? with ⟨c, hc, hu⟩ | hu | ⟨o, ho', _, hu⟩
        · rw [hu] at hr; cases hr
        · rw [hu] at hr; exact hr
        · rw [hu] at hr ho
          exact S1.own b L hb (by rw [ho']; exact renO_isRw hr) B x (by rw [ho']; exact renO_owns ho) (hFF B x hF)
    · intro q1 q2 L1 L2 hne e1 e2 hr B x ho1 ho2
      rcases kinds q1 L1 e1 with ⟨_, hb1, hj1', hg1⟩ | ⟨b1, hb1, hun, hrb1, old1, hold1, hg1⟩
      · rw [hg1] at hr ho1
        have hx := hF2 q1 L1 hj1' (.inl hb1) B x ho1
        rcases kinds q2 L2 e2 with ⟨_, hb2, hj2', hg2⟩ | ⟨b2, hb2, _, _, old2, hold2, hg2⟩
        · rw [hg2] at ho2; exact S.apart q1 q2 L1 L2 hne hj1' hj2' hr B x ho1 ho2
        · rw [hg2] at ho2
          rcases updO_cases rn h0'.length old2 h0'[b2]? with ⟨c, hc, hu⟩ | hu | ⟨o, ho', hro, hu⟩
          · rw [hu] at ho2
            rcases hold2 with ⟨hol, hj2', _⟩ | hol
            · exact S.apart q1 q2 L1 L2 hne hj1' hj2' hr B x ho1 (by rw [← hol, hc]; exact ho2)
            · rw [hol] at hc; cases hc
          · rw [hu] at ho2; exact ho2
          · rw [hu] at ho2
            have ho3 := renO_owns ho2
            exact S1.own b2 L2 hb2 (by rw [ho']; exact owns_rw ho3 hro) B x (by rw [ho']; exact ho3) hx
      · rw [hg1] at hr ho1
        rcases updO_cases rn h0'.length old1 h0'[b1]? with ⟨c, hc, hu⟩ | hu | ⟨o1, ho1', hro1, hu⟩
        · rw [hu] at hr; cases hr
        · rw [hu] at hr; exact hr
        · rw [hu] at hr ho1
          have hr1 := renO_isRw hr
          have ho3 := renO_owns ho1
          have hnF : ¬ F2 B x := S1.own b1 L1 hb1 (by rw [ho1']; exact hr1) B x (by rw [ho1']; exact ho3)
          rcases kinds q2 L2 e2 with ⟨_, hb2, hj2', hg2⟩ | ⟨b2, hb2, _, hrb2, old2, hold2, hg2⟩
          · rw [hg2] at ho2; exact hnF (hF2 q2 L2 hj2' (.inl hb2) B x ho2)
          · rw [hg2] at ho2
            rcases updO_cases rn h0'.length old2 h0'[b2]? with ⟨c, hc, hu2⟩ | hu2 | ⟨o2, ho2', _, hu2⟩
            · rw [hu2] at ho2
              rcases hold2 with ⟨hol, hj2', _⟩ | hol
              · refine hnF (hF2 q2 L2 hj2' (.inr (by rw [← hol, hc]; simp [isRw])) B x (by rw [← hol, hc]; exact ho2))
              · rw [hol] at hc; cases hc
            · rw [hu2] at ho2; exact ho2
            · rw [hu2] at ho2
              have hbb : b1 ≠ b2 := by rintro rfl; exact hne (hrb1.symm.trans hrb2)
              exact S1.apart b1 b2 L1 L2 hbb hb1 hb2 (by rw [ho1']; exact hr1) B x (by rw [ho1']; exact ho3) (by rw [ho2']; exact renO_owns ho2)
  have hext' : j.ext h.length j' := ⟨hle', fun q hq => hjold q hq⟩
  have hlenle : h.length ≤ (putH i n0 h0' h).length := by rw [hlen]; show n ≤ _; omega
  refine hK (renRes rn r0) _ j' w1 fr ⟨r0, h0', hq0, rfl, rfl⟩ hext' hlenle S' ?_
  have hsc := hok r0 h0' hq0
  cases r0 with
  | ret v =>
    obtain ⟨l1, l2, l3, l4, l5, fn, v', l6, l7, l8⟩ := hlv
    exact ⟨l1, l2, l3, l4, l5, fn, v', l6, l7, renV_vr hrn 8 v hsc _ l8⟩
  | pan ch =>
    obtain ⟨l1, ch', l2, l3, l4, l5, l6, l7⟩ := hlv
    exact ⟨l1, ch', l2, l3, l4, l5, l6, renCh hrn hsc l7⟩

end Go.Fm
