/-
  FmRow: from contracts on abstract heaps to what a given row asks; and a closed run, laid into any heap.
-/
import Derived.Test.YtopladipgobpjaaDoorFmEvalSound
import Derived.Carry
namespace Go.Fm
open Go.RowKit (Below)

def allBelow (W : World) : Nat → Nat → Prop := fun B _ => B < W.heap.size

theorem keptAt_all {w w' : World} {B : Nat} (hB : B < w.heap.size) (h : ∀ o, keptAt w w' B o) : w'.heap[B]? = w.heap[B]? := by
  have h0 := h 0
  unfold keptAt at h0
  have hg : w.heap[B]? = some w.heap[B] := Array.getElem?_eq_getElem hB
  split at h0
  · rename_i d T f hd
    obtain ⟨d', k1, k2, k3⟩ := h0
    have : d' = d := by
      apply Array.ext_getElem?
      intro i
      have hi := h i
      unfold keptAt at hi
      rw [hd] at hi
      obtain ⟨d2, m1, m2, m3⟩ := hi
      rw [k1] at m1; injection m1 with m1; injection m1 with m1; subst m1
      exact m3
    rw [k1, hd, this]
  · rename_i x hx hnot
    rw [h0, hnot]
  · rename_i hn; rw [hg] at hn; cases hn

theorem Sim.below_of {W w : World} {j : Inj} {h : AHeap} (S : Sim (allBelow W) W j h w) : Below W.heap.size W w :=
  ⟨S.io.1, S.io.2.1, S.io.2.2, S.size, fun k hk => keptAt_all hk fun o => S.kept k o hk⟩

/-- nothing stands for anything yet -/
theorem Sim.start (W : World) : Sim (allBelow W) W (fun _ => none) [] W :=
  ⟨Io.refl W, Nat.le_refl _, fun B o _ => keptAt_refl W B o, fun _ _ h => h, fun _ _ h => (by cases h), fun _ _ h => (by cases h), fun _ _ h => (by cases h), fun _ _ _ _ _ h => (by cases h)⟩

/-- one more block that is only read -/
theorem Sim.addRo {F : Nat → Nat → Prop} {W w : World} {j : Inj} {h : AHeap} (S : Sim F W j h w) (hro : ∀ b : Nat, ¬ isRw h[b]?) {c : List Value} {L : Loc} (ho : ∀ j', j.le j' → ObjR j' L w (some (.cells c true))) :
    Sim F W (j.put h.length L) (h ++ [.cells c true]) w := by
  have hn : j h.length = none := by
    cases hj : j h.length with
    | none => rfl
    | some L' => exact absurd (S.dom _ _ hj) (Nat.lt_irrefl _)
  have hle : j.le (j.put h.length L) := Inj.put_le hn
  have hget : ∀ b : Nat, b < h.length → (h ++ [AObj.cells c true])[b]? = h[b]? := fun b hb => List.getElem?_append_left hb
  have hlast : (h ++ [AObj.cells c true])[h.length]? = some (.cells c true) := by simp
  have hput : ∀ b M, j.put h.length L b = some M → (b = h.length ∧ M = L) ∨ (b < h.length ∧ j b = some M) := by
    intro b M e; unfold Inj.put at e; split at e
    · injection e with e; exact .inl ⟨‹_›, e.symm⟩
    · exact .inr ⟨S.dom _ _ e, e⟩
  have hnrw : ∀ b : Nat, ¬ isRw (h ++ [AObj.cells c true])[b]? := by
    intro b hb
    rcases Nat.lt_trichotomy b h.length with hlt | heq | hgt
    · rw [hget b hlt] at hb; exact hro b hb
    · subst heq; rw [hlast] at hb; simp [isRw] at hb
    · rw [List.getElem?_eq_none (by simp; omega)] at hb; exact hb
  have hmono : ∀ (b : Nat) (M : Loc), ObjR j M w h[b]? → ObjR (j.put h.length L) M w h[b]? := by
    exact fun b M hb => ObjR.mono hle hb
  refine ⟨S.io, S.size, S.kept, S.below, ?_, ?_, fun b M _ hr => absurd hr (hnrw b), fun b b' M M' _ _ _ hr => absurd hr (hnrw b)⟩
  · intro b M e
    rcases hput b M e with ⟨rfl, _⟩ | ⟨hlt, _⟩
    · simp
    · simp; omega
  · intro b M e
    rcases hput b M e with ⟨rfl, rfl⟩ | ⟨hlt, hb⟩
    · rw [hlast]; exact ho _ hle
    · rw [hget b hlt]; exact hmono b M (S.obj b M hb)

/-- a world that is the same below what stands for the heap stands for it too -/
theorem Sim.stay {F : Nat → Nat → Prop} {w0 w w' : World} {j : Inj} {h : AHeap} (S : Sim F w0 j h w) (hb : Below w.heap.size w w') : Sim F w0 j h w' := by
  refine ⟨S.io.trans ⟨hb.os, hb.tape, hb.output⟩, Nat.le_trans S.size hb.size, ?_, S.below, S.dom, ?_, S.own, S.apart⟩
  · intro B o hF
    have hlt : B < w.heap.size := Nat.lt_of_lt_of_le (S.below B o hF) S.size
    have := S.kept B o hF
    unfold keptAt at this ⊢
    rw [hb.block B hlt]; exact this
  · intro b L hj
    have := S.obj b L hj
    have key : ∀ x, w.heap[L.blk]? = some x → w'.heap[L.blk]? = some x := by
      intro x hx
      have hlt : L.blk < w.heap.size := (Array.getElem?_eq_some_iff.1 hx).1
      rw [hb.block _ hlt]; exact hx
    unfold ObjR at this ⊢
    split at this
    · obtain ⟨d, T, f, h1, h2⟩ := this; exact ⟨d, T, f, key _ h1, h2⟩
    · obtain ⟨d, f, h1, h2⟩ := this; exact ⟨d, f, key _ h1, h2⟩
    · obtain ⟨es', h1, h2⟩ := this; exact ⟨es', key _ h1, h2⟩
    · obtain ⟨h0, m', h1, h2⟩ := this; exact ⟨h0, m', key _ h1, h2⟩
    · exact ⟨this.1, key _ this.2⟩
    · obtain ⟨h0, y, h1, h2⟩ := this; exact ⟨h0, y, key _ h1, h2⟩
    · trivial
    · exact this.elim

theorem Flat.lr : ∀ {l : List Value}, (∀ v ∈ l, Flat v) → ∀ j, LR j l l
  | [], _, _ => .nil
  | v :: r, h, j => .cons ((h v (by simp)).vr j) (Flat.lr (fun u hu => h u (by simp [hu])) j)

theorem LR.flat_eq {j : Inj} {l l' : List Value} (hl : ∀ v ∈ l, Flat v) (h : LR j l l') : l' = l := by
  induction h with
  | nil => rfl
  | cons hv _ ih => rw [(hl _ (by simp)).eq hv, ih fun u hu => hl u (by simp [hu])]

/-- what a closed run may look at: dead, or only read and flat -/
def baseB : AHeap → Bool := fun h => h.all fun
  | .dead => true
  | .cells c true => c.all flatB
  | _ => false

/-- A CLOSED RUN: run in a heap of its own, it goes the same way in any other, and leaves that as it was. -/
theorem Spec.lift {P : Program} {gs gs' : List Nat} {f : FuncId} {args : List Value} {h0 : AHeap} {Q : Value → Prop} (hs : Spec P gs f args h0 fun r _ => ∃ v, r = .ret v ∧ Flat v ∧ Q v) (ha : ∀ v ∈ args, Flat v) (hg : ∀ g ∈ gs, g ∈ gs')
    (hb0 : baseB h0 = true) {h : AHeap} (hgl : ∀ g ∈ gs, g < h0.length) (hh : ∀ (b : Nat) (o : AObj), h0[b]? = some o → o ≠ .dead → h[b]? = some o) (_hlen : h0.length ≤ h.length) :
    Spec P gs' f args h fun r h' => (∃ v, r = .ret v ∧ Flat v ∧ Q v) ∧ h' = h := by
  refine ⟨hs.1, ?_⟩
  intro G F w0 j w args' cs S hA hG hK
  let j0 : Inj := fun b => if b < h0.length then j b else none
  have hj0 : ∀ b L, j0 b = some L → b < h0.length ∧ j b = some L := by
    intro b L e; simp only [j0] at e; split at e
    · exact ⟨‹_›, e⟩
    · cases e
  have hbase : ∀ (b : Nat) (o : AObj), h0[b]? = some o → o = .dead ∨ ∃ c, o = .cells c true ∧ ∀ v ∈ c, Flat v := by
    intro b o ho
    have := List.all_eq_true.1 hb0 o (List.mem_of_getElem? ho)
    cases o with
    | dead => exact .inl rfl
    | cells c ro =>
      cases ro with
      | true => exact .inr ⟨c, rfl, fun v hv => flatB_flat (List.all_eq_true.1 this v hv)⟩
      | false => simp at this
    | _ => simp at this
  have hnrw : ∀ b : Nat, ¬ isRw h0[b]? := by
    intro b hr
    cases ho : h0[b]? with
    | none => rw [ho] at hr; exact hr
    | some o =>
      rw [ho] at hr
      rcases hbase b o ho with rfl | ⟨c, rfl, _⟩ <;> simp [isRw] at hr
  have S0 : Sim (allBelow w) w j0 h0 w := by
    refine ⟨Io.refl w, Nat.le_refl _, fun B o _ => keptAt_refl w B o, fun _ _ h => h, fun b L e => (hj0 b L e).1, ?_, fun b L _ hr => absurd hr (hnrw b), fun b b' L L' _ _ _ hr => absurd hr (hnrw b)⟩
    intro b L e
    obtain ⟨hlt, hj⟩ := hj0 b L e
    have ho : h0[b]? = some h0[b] := List.getElem?_eq_getElem hlt
    rcases hbase b _ ho with hd | ⟨c, hc, hf⟩
    · rw [ho, hd]; trivial
    · have hne : h0[b] ≠ .dead := by rw [hc]; simp
      have hsame := hh b _ ho hne
      have := S.obj b L hj
      rw [hsame, hc] at this
      rw [ho, hc]
      obtain ⟨d, T, fz, h1, h2, h3, h4, h5, h6⟩ := this
      refine ⟨d, T, fz, h1, h2, h3, ?_, h5, h6⟩
      rw [h4.flat_eq hf]; exact Flat.lr hf j0
  have hA0 : LR j0 args args'.toList := by rw [hA.flat_eq ha]; exact Flat.lr ha j0
  have hG0 : GlobR gs j0 := by
    intro g hgg
    obtain ⟨L, h1, h2⟩ := hG g (hg g hgg)
    exact ⟨L, by simp only [j0]; rw [if_pos (hgl g hgg)]; exact h1, h2⟩
  refine hs.2 G (allBelow w) w j0 w args' cs S0 hA0 hG0 ?_
  rintro r h' j' w' fr ⟨v, rfl, hf, hq⟩ hext hl S' hlv
  refine hK _ h j w' fr ⟨⟨v, rfl, hf, hq⟩, rfl⟩ (j.ext_refl _) (Nat.le_refl _) (S.stay S'.below_of) ?_
  obtain ⟨l1, l2, l3, l4, l5, fn, v', l6, l7, l8⟩ := hlv
  exact ⟨l1, l2, l3, l4, l5, fn, v', l6, l7, by rw [hf.eq l8]; exact hf.vr j⟩

/-- what a row's walk is to bring -/
theorem calls_of_spec {P : Program} {gs : List Nat} {f : FuncId} {args : List Value} {args' : Array Value} {h : AHeap} {v : Value} {W : World} {j : Inj} (hs : Spec P gs f args h fun r _ => r = .ret v) (hv : Flat v) (S : Sim (allBelow W) W j h W)
    (ha : LR j args args'.toList) (hg : GlobR gs j) : Calls P f args' W fun e W' => e = .returned v ∧ Below W.heap.size W W' := by
  intro cs
  have hE := hs.2 (fun m => ∃ w' fr, m = lone fr cs w' ∧ Below W.heap.size W w' ∧ fr.fn = f ∧ fr.leaving P w' (.returned v)) (allBelow W) W j W args' cs S ha hg (by
    rintro r h' j' w' fr rfl hext hl S' ⟨l1, l2, l3, l4, l5, fn, v', l6, l7, l8⟩
    refine .now ⟨w', fr, rfl, S'.below_of, l1, l2, l3, l4, fn, l6, ?_⟩
    rw [l7, hv.eq l8])
  obtain ⟨m', hst, w', fr, rfl, hb, hf, hl⟩ := hE
  exact ⟨.returned v, w', fr, ⟨rfl, hb⟩, hst, hf, hl⟩

end Go.Fm
