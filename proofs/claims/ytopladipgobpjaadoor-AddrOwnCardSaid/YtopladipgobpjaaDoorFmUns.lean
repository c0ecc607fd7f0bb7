/-
  FmUns: unsafe.String (a string shares a block's bytes) and a slice of bytes that is turned to its own type.
-/
import Derived.Test.YtopladipgobpjaaDoorFmEff4
namespace Go.Fm

variable {P : Program} {F : Nat → Nat → Prop} {w0 w : World} {j : Inj} {h : AHeap}

theorem run_loadBytes' (B : Nat) : ∀ (ns : List Int) (o : Nat) (acc : ByteArray) (w : World), (∀ i x, ns[i]? = some x → w.cell? ⟨B, o + i, none⟩ = some (.int .u8 x)) →
    (loadBytes ⟨B, o, none⟩ acc ns.length).run P w = .ok ⟨(acc.data.toList ++ ns.map fun n => UInt8.ofNat n.toNat).toArray⟩ w
  | [], o, acc, w, _ => by simp [loadBytes]
  | n :: ns, o, acc, w, h => by
    have h0 : w.cell? ⟨B, o, none⟩ = some (.int .u8 n) := by simpa using h 0 n (by simp)
    have ih := run_loadBytes' B ns (o + 1) (acc.push n.toNat.toUInt8) w (fun i x hx => by
      have := h (i + 1) x (by simpa using hx)
      rwa [show o + 1 + i = o + (i + 1) by omega])
    simp only [List.length_cons, loadBytes, Sem.run_bind, run_load, h0, Result.andThen_ok, Addr.add_none, ih]
    simp [ByteArray.push]

theorem heap_freeze {w : World} {B o n : Nat} {d : Array Value} {T : TypeId} {f : Nat × Nat} (hb : w.heap[B]? = some (.cells d T f)) (hn : n ≠ 0) :
    ∃ w' : World, w.freeze ⟨B, o, none⟩ n = w' ∧ Io w w' ∧ w'.heap.size = w.heap.size ∧ (∀ B', B' ≠ B → w'.heap[B']? = w.heap[B']?) ∧
      w'.heap[B]? = some (.cells d T (if f.1 == f.2 then (o, o + n) else (min f.1 o, max f.2 (o + n)))) := by
  refine ⟨_, rfl, ?_, ?_, ?_, ?_⟩
  · unfold World.freeze; rw [if_neg hn]; exact ⟨rfl, rfl, rfl⟩
  · unfold World.freeze; rw [if_neg hn]; simp
  · intro B' hB'
    unfold World.freeze; rw [if_neg hn]
    simp [Array.getElem?_modify, Ne.symm hB']
  · unfold World.freeze; rw [if_neg hn]
    obtain ⟨f1, f2⟩ := f
    simp [Array.getElem?_modify, hb]

theorem aUnsafeString_sim (S : Sim F w0 j h w) {pt ty : TypeId} {ts : Array TypeId} (ht : ts[0]? = some pt) {p p' n n' r : Value} (hp : VR j p p') (hn : VR j n n') {h' : AHeap}
    (e : aUnsafeString P pt p n h = some (r, h')) : VR j r r ∧ ∃ w', (Builtin.unsafeString_ ts ty #[p', n']).run P w = .ok r w' ∧ Sim F w0 j h' w' := by
  unfold aUnsafeString at e
  split at e
  · rename_i k n
    cases hn
    split at e
    · simp at e
    · rename_i hrange
      have c1 : ¬ (n < 0) := by omega
      have c2 : ¬ (n > IntKind.i64.max) := by omega
      split at e
      · rename_i u hu
        split at e
        · rename_i h0
          simp at e; obtain ⟨e1, e2⟩ := e; subst e1 e2
          cases hp
          refine ⟨.string _, w, ?_, S⟩
          delta Builtin.unsafeString_
          change Sem.run P (bind (asInt (.int k n)) _) _ = _
          simp [asInt, asIntOf, ht, h0]
        · simp at e
      · rename_i b o u hu
        split at e
        · rename_i h0
          simp at e; obtain ⟨e1, e2⟩ := e; subst e1 e2
          cases hp
          refine ⟨.string _, w, ?_, S⟩
          delta Builtin.unsafeString_
          change Sem.run P (bind (asInt (.int k n)) _) _ = _
          simp [asInt, asIntOf, ht, h0]
        · rename_i h0
          split at e
          · rename_i c t z hc
            split at e
            · rename_i hcond
              obtain ⟨hle, hlies⟩ := hcond
              cases hbs : bytesOf? ((c.drop o).take n.toNat) with
              | none => rw [hbs] at e; simp at e
              | some bs =>
                rw [hbs] at e; simp at e; obtain ⟨e1, e2⟩ := e; subst e1 e2
                cases hp with
                | ptr hj =>
                  rename_i L
                  have hob := S.obj _ _ hj
                  rw [hc] at hob
                  obtain ⟨d, f, g1, g2, g3, g4, g5, g6, g7⟩ := hob
                  obtain ⟨d2, f2, l1, l2, l3, l4, l5⟩ := tcells_lies (P := P) S hj hc hlies
                  rw [g1] at l1; injection l1 with l1; injection l1 with l1 _ l1'; subst l1 l1'
                  obtain ⟨ns, k1, k2⟩ := bytesOf_ints hbs
                  have hlen : ns.length = n.toNat := by
                    have := congrArg List.length k1; simp at this; omega
                  have hn0 : n.toNat ≠ 0 := by omega
                  have hld := run_loadBytes' (P := P) L.blk ns (L.off + o) .empty w (fun i x hx => by
                    have hi : i < ns.length := (List.getElem?_eq_some_iff.1 hx).1
                    have hci : c[o + i]? = some (.int .u8 x) := by
                      have := congrArg (fun l => l[i]?) k1
                      simp only [List.getElem?_take, List.getElem?_drop, List.getElem?_map, hx, Option.map_some] at this
                      rw [if_pos (by omega)] at this
                      exact this
                    obtain ⟨v', q1, q2⟩ := LR.slot g4 (o + i) _ hci
                    cases q2
                    rw [World.cell?_of g1]
                    simpa [Nat.add_assoc] using q1)
                  rw [hlen] at hld
                  obtain ⟨w', fz, f1, f2, f3, f4⟩ := heap_freeze (o := L.off + o) (n := n.toNat) g1 hn0
                  refine ⟨.string _, w', ?_, ?_⟩
                  · have hel : (elemOf pt).run P w = .ok u w := by simp [elemOf, run_underlying hu]
                    have hfr : (freeze ⟨L.blk, L.off + o, none⟩ n.toNat).run P w = .ok () w' := by simp [freeze, Sem.run, fz]
                    delta Builtin.unsafeString_
                    change Sem.run P (bind (asInt (.int k n)) _) _ = _
                    simp only [asInt, asIntOf, ht, Sem.run_bind, Sem.run_pure, Result.andThen_ok, if_neg c1, if_neg c2, if_neg h0, hel, l5, if_true, hld, hfr]
                    rw [k2]; rfl
                  · refine S.refz hj hc g1 f4 f1 f2 f3 ?_
                    obtain ⟨a1, a2⟩ := g5
                    rw [g6]
                    simp only [Nat.zero_add]
                    split
                    · exact ⟨by simp, Nat.le_max_right _ _⟩
                    · refine ⟨?_, ?_⟩
                      · simp only; omega
                      · show max f.2 (o + n.toNat) ≤ Nat.max z (o + n.toNat)
                        exact Nat.max_le.2 ⟨Nat.le_trans a2 (Nat.le_max_left _ _), Nat.le_max_right _ _⟩
            · simp at e
          · simp at e
      · simp at e
  · simp at e

theorem aUnsafeString_len {pt : TypeId} {p n r : Value} {h' : AHeap} (e : aUnsafeString P pt p n h = some (r, h')) : h.length ≤ h'.length := by
  unfold aUnsafeString at e
  split at e
  · split at e
    · simp at e
    · split at e
      · split at e
        · simp at e; rw [← e.2]; exact Nat.le_refl _
        · simp at e
      · split at e
        · simp at e; rw [← e.2]; exact Nat.le_refl _
        · split at e
          · split at e
            · obtain ⟨bs, _, e2⟩ := Option.map_eq_some_iff.1 e
              injection e2 with _ e2; subst e2; simp
            · simp at e
          · simp at e
      · simp at e
  · simp at e

theorem aConvMark_sim (S : Sim F w0 j h w) {src dst : TypeId} {v v' r : Value} (hv : VR j v v') {h' : AHeap} (e : aConvMark P src dst v h = some (r, h')) :
    VR j r v' ∧ ∃ w', (convert src dst v').run P w = .ok v' w' ∧ Sim F w0 j h' w' := by
  unfold aConvMark at e
  split at e
  · rename_i e0 el hs hd
    split at e
    · rename_i b o sp l c he
      split at e
      · rename_i hcond
        obtain ⟨hsd, hc0⟩ := hcond
        split at e
        · rename_i cs t z hc
          split at e
          · rename_i hz
            simp at e; obtain ⟨e1, e2⟩ := e; subst e1 e2
            refine ⟨hv, ?_⟩
            have key : ∀ (L : Loc) (q l c : Nat), j b = some L → ∃ w', (convert src dst (.slice (some ⟨L.blk, q, none⟩) l c)).run P w = .ok (.slice (some ⟨L.blk, q, none⟩) l c) w' ∧ Sim F w0 j (h.set b (.tcells cs t none)) w' := by
              intro L q l c hj
              have hob := S.obj _ _ hj
              rw [hc] at hob
              obtain ⟨d, f, g1, g2, g3, g4, g5, g6, g7⟩ := hob
              obtain ⟨w', fz, f1, f2, f3, f4⟩ := heap_freeze (o := d.size) (n := 1) g1 (by simp)
              refine ⟨w', ?_, S.refz hj hc g1 f4 f1 f2 f3 ?_⟩
              · have hm : (markStringish ⟨L.blk, q, none⟩).run P w = .ok () w' := by
                  simp [markStringish, shape, freeze, Sem.run, World.shape?, g1, fz]
                subst hsd
                rw [hs] at hd
                injection hd with hd; injection hd with hd; subst hd
                simp only [convert, Sem.run_bind, run_underlying hs, Result.andThen_ok, run_underlying he, beq_self_eq_true, hm, Sem.run_pure]
              · have hf : f = (0, 0) ∨ f = (d.size, d.size + 1) := by
                  cases z with
                  | none => exact g5
                  | some k =>
                    obtain ⟨a1, a2⟩ := g5
                    simp at hz
                    obtain ⟨f1, f2⟩ := f
                    left; simp at a1 a2 ⊢; omega
                right
                rcases hf with hf | hf <;> subst hf
                · simp
                · simp
            cases hv with
            | slice _ _ hj => exact key _ _ _ _ hj
            | oslice _ _ hj _ _ => exact key _ _ _ _ hj
            | slice0 => exact absurd rfl hc0
          · simp at e
        · simp at e
      · simp at e
    · simp at e
  · simp at e

theorem aConvMark_len {src dst : TypeId} {v r : Value} {h' : AHeap} (e : aConvMark P src dst v h = some (r, h')) : h.length ≤ h'.length := by
  unfold aConvMark at e
  split at e
  · split at e
    · split at e
      · split at e
        · split at e
          · simp at e; rw [← e.2]; simp
          · simp at e
        · simp at e
      · simp at e
    · simp at e
  · simp at e

end Go.Fm
