/-
  FmRen: at a loop's head blocks may get new numbers.
-/
import Derived.Test.YtopladipgobpjaaDoorFmStr
namespace Go.Fm

variable {P : Program}

theorem RV.mono {i i' : Nat → Option Nat} {v u : Value} (h : RV i v u) (hi : ∀ b c, i b = some c → i' b = some c) : RV i' v u := by
  induction h with
  | bool b => exact .bool b
  | int k n => exact .int k n
  | float k n => exact .float k n
  | complex k x y => exact .complex k x y
  | string s => exact .string s
  | pnil => exact .pnil
  | ptr o s h => exact .ptr o s (hi _ _ h)
  | snil l c => exact .snil l c
  | slice o s l m h => exact .slice o s l m (hi _ _ h)
  | slice0 a b o => exact .slice0 a b o
  | mnil => exact .mnil
  | map h => exact .map (hi _ _ h)
  | cnil => exact .cnil
  | hole => exact .hole
  | func f h1 _ h2 _ i1 i2 => exact .func f h1 i1 h2 i2
  | yield h => exact .yield (hi _ _ h)
  | nilFunc => exact .nilFunc
  | iface t _ ih => exact .iface t ih
  | nilIface => exact .nilIface
  | agg h1 _ ih => exact .agg h1 ih
  | tuple h1 _ ih => exact .tuple h1 ih

theorem RVs.mono {i i' : Nat → Option Nat} {l u : List Value} (h : RVs i l u) (hi : ∀ b c, i b = some c → i' b = some c) : RVs i' l u := by
  induction h with
  | nil => exact .nil
  | cons h _ ih => exact .cons (h.mono hi) ih

theorem RMs.mono {i i' : Nat → Option Nat} {l u : List MapEntry} (h : RMs i l u) (hi : ∀ b c, i b = some c → i' b = some c) : RMs i' l u := by
  induction h with
  | nil => exact .nil
  | cons h1 h2 h3 _ ih => exact .cons (h1.mono hi) (h2.mono hi) h3 ih

theorem RO.mono {i i' : Nat → Option Nat} {o u : AObj} (h : RO i o u) (hi : ∀ b c, i b = some c → i' b = some c) : RO i' o u := by
  cases h with
  | cells ro h => exact .cells ro (h.mono hi)
  | tcells t z h => exact .tcells t z (h.mono hi)
  | map clock h => exact .map clock (h.mono hi)
  | mapIter0 a b c => exact .mapIter0 a b c
  | mapIter a b c h => exact .mapIter a b c (hi _ _ h)
  | strIter s p => exact .strIter s p
  | dead => exact .dead _
  | defq => exact .defq
  | over => exact .over
  | loop he hq => exact .loop (fun t v ht => by obtain ⟨u, h1, h2⟩ := he t v ht; exact ⟨u, h1, h2.mono hi⟩) (hi _ _ hq)

/-- old numbers, by the new ones -/
def ren (m : List Nat) (b : Nat) : Option Nat := m[b]?

theorem ro_flat {i : Nat → Option Nat} {o : AObj} (h : scopeO 0 o = true) : RO i o o :=
  (scopeO_ro (n := 0) o h).mono fun b c e => by obtain ⟨_, hlt⟩ := upto_some e; omega

theorem rv_flat {i : Nat → Option Nat} {v : Value} (h : scopeV 0 8 v = true) : RV i v v :=
  (scopeV_rv (n := 0) 8 v h).mono fun b c e => by obtain ⟨_, hlt⟩ := upto_some e; omega

theorem rvs_bc {i : Nat → Option Nat} : ∀ l : List UInt8, RVs i (bc l) (bc l)
  | [] => .nil
  | _ :: l => .cons (.int _ _) (rvs_bc l)

theorem ro_bc {i : Nat → Option Nat} (l : List UInt8) (t : TypeId) (z : Option Nat) : RO i (.tcells (bc l) t z) (.tcells (bc l) t z) := .tcells t z (rvs_bc l)

def HeapRen (i : Nat → Option Nat) (h : AHeap) : List Nat → AHeap → Prop
  | [], [] => True
  | q :: r, o :: h' => (∃ o', h[q]? = some o' ∧ RO i o o') ∧ HeapRen i h r h'
  | _, _ => False

theorem HeapRen.get {i : Nat → Option Nat} {h : AHeap} : ∀ {r : List Nat} {h' : AHeap}, HeapRen i h r h' → ∀ {b q : Nat}, r[b]? = some q → ∃ o o', h'[b]? = some o ∧ h[q]? = some o' ∧ RO i o o'
  | q :: r, o :: h', e, 0, p, hb => by
    injection hb with hb; subst hb
    obtain ⟨⟨o', h1, h2⟩, _⟩ := e
    exact ⟨o, o', rfl, h1, h2⟩
  | q :: r, o :: h', e, b + 1, p, hb => e.2.get (b := b) (by simpa using hb)
  | [], _, _, _, _, hb => by cases hb
  | _ :: _, [], e, _, _, _ => e.elim

theorem HeapRen.length {i : Nat → Option Nat} {h : AHeap} : ∀ {r : List Nat} {h' : AHeap}, HeapRen i h r h' → r.length = h'.length
  | [], [], _ => rfl
  | _ :: _, _ :: _, e => by simp [e.2.length]
  | [], _ :: _, e => e.elim
  | _ :: _, [], e => e.elim

def EnvRen (i : Nat → Option Nat) (e : AEnv) : AEnv → Prop
  | [] => True
  | (t, v) :: r => (∃ u, e.get t = some u ∧ RV i v u) ∧ EnvRen i e r

theorem EnvRen.get {i : Nat → Option Nat} {e : AEnv} : ∀ {e' : AEnv}, EnvRen i e e' → ∀ {t : Nat} {v : Value}, e'.get t = some v → ∃ u, e.get t = some u ∧ RV i v u
  | [], _, t, v, h => by simp [AEnv.get] at h
  | (a, x) :: r, h, t, v, hg => by
    rw [AEnv.get_cons] at hg
    split at hg
    · rename_i hat; subst hat; injection hg with hg; subst hg; exact h.1
    · exact h.2.get hg

/-- what is forgotten goes, and what stays is numbered anew: 'm' lists the old numbers -/
theorem Gc.ren (m : List Nat) {gs : List Nat} {n0 : Nat} {e e' : AEnv} {h h' : AHeap} {u : UMode} (hnd : m.Nodup) (hn : Nat.ble n0 m.length = true) (ho : (List.range n0).all (fun b => m[b]? == some b) = true)
    (hg : gs.all (fun g => m[g]? == some g) = true) (hh : HeapRen (Fm.ren m) h m h') (he : EnvRen (Fm.ren m) e e') (hu : u.flat = true) : Gc gs n0 ⟨e, [], h, u⟩ ⟨e', [], h', u⟩ := by
  rw [Nat.ble_eq] at hn
  refine .inl ⟨Fm.ren m, ?_, ?_, ?_, ?_, ?_, fun t v hv => he.get hv, .nil, rfl, hu⟩
  · intro b hb
    have := List.all_eq_true.1 ho b (List.mem_range.2 hb)
    exact beq_iff_eq.1 this
  · intro b c q h1 h2
    obtain ⟨hb, e1⟩ := List.getElem?_eq_some_iff.1 h1
    obtain ⟨hc, e2⟩ := List.getElem?_eq_some_iff.1 h2
    exact (List.getElem_inj hnd).1 (e1.trans e2.symm)
  · intro g hgg
    exact beq_iff_eq.1 (List.all_eq_true.1 hg g hgg)
  · rw [← hh.length]; exact hn
  · intro b q hb
    exact hh.get hb

end Go.Fm
