/-
  FmGc: what may be forgotten between a loop's rounds.
-/
import Derived.Test.YtopladipgobpjaaDoorFmRel
namespace Go.Fm

/-- the places of what is renamed -/
def Inj.by (j : Inj) (i : Nat → Option Nat) : Inj := fun b => (i b).bind j

theorem Inj.by_some {j : Inj} {i : Nat → Option Nat} {b q : Nat} (h : i b = some q) : j.by i b = j q := by unfold Inj.by; rw [h]; rfl

theorem Inj.of_by {j : Inj} {i : Nat → Option Nat} {b : Nat} {L : Loc} (h : j.by i b = some L) : ∃ q, i b = some q ∧ j q = some L := by
  unfold Inj.by at h
  exact Option.bind_eq_some_iff.1 h

variable {j : Inj} {i : Nat → Option Nat}

theorem RV.vr {v u : Value} (h : RV i v u) : ∀ {w : Value}, VR j u w → VR (j.by i) v w := by
  induction h with
  | bool b => intro w r; cases r; exact .bool b
  | int k n => intro w r; cases r; exact .int k n
  | float k n => intro w r; cases r; exact .float k n
  | complex k x y => intro w r; cases r; exact .complex k x y
  | string s => intro w r; cases r; exact .string s
  | pnil => intro w r; cases r; exact .pnil
  | ptr o s h => intro w r; cases r with | ptr hj => exact .ptr ((Inj.by_some h).trans hj)
  | snil l c => intro w r; cases r; exact .snil l c
  | slice o s l m h =>
    intro w r
    cases r with
    | slice _ _ hj => exact .slice l m ((Inj.by_some h).trans hj)
    | oslice _ _ hj he hc => exact .oslice l m ((Inj.by_some h).trans hj) he hc
    | slice0 _ a' => exact .slice0 _ a'
  | slice0 a b o =>
    intro w r
    cases r with
    | slice _ _ hj => exact .slice0 _ _
    | slice0 _ a2 => exact .slice0 _ a2
  | mnil => intro w r; cases r; exact .mnil
  | map h => intro w r; cases r with | map hj => exact .map ((Inj.by_some h).trans hj)
  | cnil => intro w r; cases r; exact .cnil
  | hole => intro w r; cases r with | hole h => exact .hole h
  | func f h1 _ h3 _ ih1 ih2 =>
    intro w r
    cases r with
    | func _ k1 k2 k3 k4 =>
      refine .func f (h1.trans k1) (fun k v v' e e' => ?_) (h3.trans k3) (fun k v v' e e' => ?_)
      · obtain ⟨hk, _⟩ := Array.getElem?_eq_some_iff.1 e
        have hu := Array.getElem?_eq_getElem (h1 ▸ hk)
        exact ih1 k v _ e hu (k2 k _ v' hu e')
      · obtain ⟨hk, _⟩ := Array.getElem?_eq_some_iff.1 e
        have hu := Array.getElem?_eq_getElem (h3 ▸ hk)
        exact ih2 k v _ e hu (k4 k _ v' hu e')
  | yield h => intro w r; cases r with | yield hj => exact .yield ((Inj.by_some h).trans hj)
  | nilFunc => intro w r; cases r; exact .nilFunc
  | iface t _ ih => intro w r; cases r with | iface _ hr => exact .iface t (ih hr)
  | nilIface => intro w r; cases r; exact .nilIface
  | agg h1 _ ih =>
    intro w r
    cases r with
    | agg k1 k2 =>
      refine .agg (h1.trans k1) (fun k v v' e e' => ?_)
      obtain ⟨hk, _⟩ := Array.getElem?_eq_some_iff.1 e
      have hu := Array.getElem?_eq_getElem (h1 ▸ hk)
      exact ih k v _ e hu (k2 k _ v' hu e')
  | tuple h1 _ ih =>
    intro w r
    cases r with
    | tuple k1 k2 =>
      refine .tuple (h1.trans k1) (fun k v v' e e' => ?_)
      obtain ⟨hk, _⟩ := Array.getElem?_eq_some_iff.1 e
      have hu := Array.getElem?_eq_getElem (h1 ▸ hk)
      exact ih k v _ e hu (k2 k _ v' hu e')

theorem RVs.lr {l u : List Value} (h : RVs i l u) : ∀ {w : List Value}, LR j u w → LR (j.by i) l w := by
  induction h with
  | nil => intro w r; cases r; exact .nil
  | cons hv _ ih => intro w r; cases r with | cons h1 h2 => exact .cons (hv.vr h1) (ih h2)

theorem RVs.length {l u : List Value} (h : RVs i l u) : l.length = u.length := by
  induction h with
  | nil => rfl
  | cons _ _ ih => simp [ih]

theorem RMs.er {l u : List MapEntry} (h : RMs i l u) : ∀ {w : List MapEntry}, ER j u w → ER (j.by i) l w := by
  induction h with
  | nil => intro w r; cases r; exact .nil
  | cons h1 h2 h3 _ ih =>
    intro w r
    cases r with
    | cons k1 k2 => exact .cons ⟨h1.vr k1.1, h2.vr k1.2.1, h3.trans k1.2.2⟩ (ih k2)

theorem RO.objR {o o' : AObj} (h : RO i o o') {L : Loc} {w : World} (r : ObjR j L w (some o')) : ObjR (j.by i) L w (some o) := by
  cases h with
  | cells ro hc =>
    obtain ⟨d, T, f, h1, h2, h3, h4, h5, h6⟩ := r
    exact ⟨d, T, f, h1, hc.length.trans h2, h3, hc.lr h4, h5, h6⟩
  | tcells t z hc =>
    obtain ⟨d, f, h1, h2, h3, h4, h5⟩ := r
    exact ⟨d, f, h1, hc.length.trans h2, h3, hc.lr h4, h5⟩
  | map clock hm =>
    obtain ⟨es', h1, h2, h3⟩ := r
    exact ⟨es', h1, hm.er h2, h3⟩
  | mapIter0 since seen stepped =>
    obtain ⟨h0, m', h1, h2⟩ := r
    rcases h2 with h2 | ⟨r0, L', h3, _⟩
    · exact ⟨h0, m', h1, .inl h2⟩
    · cases h3
  | mapIter since seen stepped hm =>
    obtain ⟨h0, m', h1, h2⟩ := r
    rcases h2 with h2 | ⟨r0, L', h3, h4, h5⟩
    · cases h2.1
    · injection h3 with h3; subst h3
      exact ⟨h0, m', h1, .inr ⟨_, L', rfl, (Inj.by_some hm).trans h4, h5⟩⟩
  | strIter s pos => exact r
  | dead o => trivial
  | defq => exact r
  | over => exact r
  | loop he hd =>
    obtain ⟨h0, y, h1, fn, tmps, Lq, h2, h3, h4, h5⟩ := r
    refine ⟨h0, y, h1, fn, tmps, Lq, h2, h3, ⟨h4.1, fun t v ht => ?_⟩, (Inj.by_some hd).trans h5⟩
    obtain ⟨u, k1, k2⟩ := he t v ht
    obtain ⟨v', k3, k4⟩ := h4.2 t u k1
    exact ⟨v', k3, k2.vr k4⟩

theorem RO.owns {o o' : AObj} (h : RO i o o') {L : Loc} {B x : Nat} (r : owns L (some o) B x) : Fm.owns L (some o') B x := by
  cases h <;> first | exact r | exact r.elim

theorem RO.isRw {o o' : AObj} (h : RO i o o') (r : isRw (some o)) : Fm.isRw (some o') := by
  cases h <;> first | exact r | exact r.elim

theorem Sim.gc {F : Nat → Nat → Prop} {w0 w : World} {h h' : AHeap} (S : Sim F w0 j h w) (hinj : ∀ b c q, i b = some q → i c = some q → b = c)
    (hobj : ∀ b q, i b = some q → ∃ o o', h'[b]? = some o ∧ h[q]? = some o' ∧ RO i o o') : Sim F w0 (j.by i) h' w := by
  refine ⟨S.io, S.size, S.kept, S.below, ?_, ?_, ?_, ?_⟩
  · intro b L e
    obtain ⟨q, hq, _⟩ := Inj.of_by e
    obtain ⟨o, o', h1, _⟩ := hobj b q hq
    exact (List.getElem?_eq_some_iff.1 h1).1
  · intro b L e
    obtain ⟨q, hq, hj⟩ := Inj.of_by e
    obtain ⟨o, o', h1, h2, h3⟩ := hobj b q hq
    have := S.obj q L hj
    rw [h2] at this
    rw [h1]
    exact h3.objR this
  · intro b L e hr B x ho
    obtain ⟨q, hq, hj⟩ := Inj.of_by e
    obtain ⟨o, o', h1, h2, h3⟩ := hobj b q hq
    rw [h1] at hr ho
    exact S.own q L hj (by rw [h2]; exact h3.isRw hr) B x (by rw [h2]; exact h3.owns ho)
  · intro b c L M hne e e' hr B x ho ho'
    obtain ⟨q, hq, hj⟩ := Inj.of_by e
    obtain ⟨q', hq', hj'⟩ := Inj.of_by e'
    obtain ⟨o, o', h1, h2, h3⟩ := hobj b q hq
    obtain ⟨u, u', k1, k2, k3⟩ := hobj c q' hq'
    rw [h1] at hr ho
    rw [k1] at ho'
    have hqq : q ≠ q' := by intro hh; subst hh; exact hne (hinj b c q hq hq')
    exact S.apart q q' L M hqq hj hj' (by rw [h2]; exact h3.isRw hr) B x (by rw [h2]; exact h3.owns ho) (by rw [k2]; exact k3.owns ho')

theorem RD.dsR {l u : List ADef} (h : RD i l u) : ∀ {w : List Deferred}, DsR j u w → DsR (j.by i) l w := by
  induction h with
  | nil => intro w r; cases r; exact .nil
  | call f ha _ ih =>
    intro w r
    cases r with
    | cons cap h1 h2 h3 h4 => exact .cons cap h1 h2 (ha.lr h3) (ih h4)
  | mark hq _ ih =>
    intro w r
    cases r with
    | mark h1 h2 h3 => exact .mark ((Inj.by_some hq).trans h1) h2 (ih h3)

theorem dedupe_get : ∀ (e : AEnv) (seen t : Nat) (v : Value), (dedupe e seen).get t = some v → e.get t = some v ∧ Nat.testBit seen t = false
  | [], _, _, _, h => by simp [dedupe, AEnv.get] at h
  | (a, u) :: r, seen, t, v, h => by
    simp only [dedupe] at h
    cases hb : Nat.testBit seen a with
    | true =>
      rw [hb, cond_true] at h
      obtain ⟨h1, h2⟩ := dedupe_get r seen t v h
      have hne : a ≠ t := by intro e; subst e; rw [hb] at h2; cases h2
      rw [AEnv.get_cons, if_neg hne]
      exact ⟨h1, h2⟩
    | false =>
      rw [hb, cond_false, AEnv.get_cons] at h
      rw [AEnv.get_cons]
      split at h
      · rename_i hat; subst hat; rw [if_pos rfl]; exact ⟨h, hb⟩
      · rename_i hne
        rw [if_neg hne]
        obtain ⟨h1, h2⟩ := dedupe_get r _ t v h
        refine ⟨h1, ?_⟩
        have : (Nat.lor seen (Nat.shiftLeft 1 a)).testBit t = (seen.testBit t || (Nat.shiftLeft 1 a).testBit t) := Nat.testBit_or ..
        rw [this, Bool.or_eq_false_iff] at h2
        exact h2.1

theorem Gc.dedupe {gs : List Nat} {n0 : Nat} {e : AEnv} {ds : List ADef} {h : AHeap} {u : UMode} : Gc gs n0 ⟨e, ds, h, u⟩ ⟨Fm.dedupe e 0, ds, h, u⟩ :=
  .inr ⟨rfl, rfl, rfl, fun t v ht => (dedupe_get e 0 t v ht).1⟩

theorem Rel.gc {X : Cx} {s s' : St} {a : Act} {cs : List Frame} {w : World} (h : Rel X j s a cs w) (g : Gc X.gs X.h0.length s s') : ∃ j', Rel X j' s' a cs w := by
  rcases Or.symm g with g | ⟨i, g⟩
  · exact ⟨j, h.1.env_eq g.h g.ds g.u, h.2.1, fun t v ht => h.2.2 t v (g.env t v ht)⟩
  refine ⟨j.by i, ⟨h.1.sim.gc g.inj g.obj, g.ds.dsR h.1.ds, ?_, h.1.callers, ?_, ?_, ?_, g.len⟩, h.2.1, ?_⟩
  · have hu := h.1.um
    rw [g.mode.1]
    have hf := g.mode.2
    cases hm : s.u with
    | pan ch => rw [hm] at hf; simp [UMode.flat] at hf
    | _ => rw [hm] at hu; exact hu
  · rw [g.mode.1]; exact h.1.norm
  · intro x hx
    obtain ⟨L, h1, h2⟩ := h.1.glob x hx
    exact ⟨L, (Inj.by_some (g.glob x hx)).trans h1, h2⟩
  · have hext := h.1.ext
    refine ⟨fun b L hb => ?_, fun b hb => ?_⟩
    · have hlt : b < X.h0.length := X.dom b L hb
      exact (Inj.by_some (g.old b hlt)).trans (hext.1 b L hb)
    · exact (Inj.by_some (g.old b hb)).trans (hext.2 b hb)
  · intro t v ht
    obtain ⟨u, h1, h2⟩ := g.env t v ht
    obtain ⟨v', k1, k2⟩ := h.2.2 t u h1
    exact ⟨v', k1, h2.vr k2⟩

end Go.Fm
