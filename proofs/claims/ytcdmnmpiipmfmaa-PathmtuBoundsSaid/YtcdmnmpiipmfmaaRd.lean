/-
  From the law's arguments to the abstract heap: settings and a row of calls as they are read; the laws on no row at all. No condition.
-/
import Derived.Test.YtcdmnmpiipmfmaaLw5
import Derived.Test.YtcdmnmpiipmfmaaRows
namespace Go.Proofs.Ytcdmnmpiipmfmaa
open Go.ChangeShapes Go.WideShapes Go.ChangeAt Go.RowKit Go.Fm

/-- a record of a call, out of its cells -/
theorem row_of {l : List Value} (h : CKs ([.int .i64, .int .i64] ++ repK 16 [.int .u8] ++ [.int .i64]) l) : ∃ o : Ow, l = rowO o ∧ okA o.d := by
  have hb : ∀ z : Int, (Lit.int .u8 z).wf = true → 0 ≤ z ∧ z < 256 := by
    intro z hz
    have : (decide (IntKind.u8.min ≤ z) && decide (z ≤ IntKind.u8.max)) = true := hz
    rw [Bool.and_eq_true, decide_eq_true_iff, decide_eq_true_iff] at this
    have h1 : IntKind.u8.min = 0 := by decide
    have h2 : IntKind.u8.max = 255 := by decide
    omega
  obtain _ | ⟨⟨c0, rfl, wc0⟩, h⟩ := h
  obtain _ | ⟨⟨c1, rfl, wc1⟩, h⟩ := h
  obtain _ | ⟨⟨c2, rfl, wc2⟩, h⟩ := h
  obtain _ | ⟨⟨c3, rfl, wc3⟩, h⟩ := h
  obtain _ | ⟨⟨c4, rfl, wc4⟩, h⟩ := h
  obtain _ | ⟨⟨c5, rfl, wc5⟩, h⟩ := h
  obtain _ | ⟨⟨c6, rfl, wc6⟩, h⟩ := h
  obtain _ | ⟨⟨c7, rfl, wc7⟩, h⟩ := h
  obtain _ | ⟨⟨c8, rfl, wc8⟩, h⟩ := h
  obtain _ | ⟨⟨c9, rfl, wc9⟩, h⟩ := h
  obtain _ | ⟨⟨c10, rfl, wc10⟩, h⟩ := h
  obtain _ | ⟨⟨c11, rfl, wc11⟩, h⟩ := h
  obtain _ | ⟨⟨c12, rfl, wc12⟩, h⟩ := h
  obtain _ | ⟨⟨c13, rfl, wc13⟩, h⟩ := h
  obtain _ | ⟨⟨c14, rfl, wc14⟩, h⟩ := h
  obtain _ | ⟨⟨c15, rfl, wc15⟩, h⟩ := h
  obtain _ | ⟨⟨c16, rfl, wc16⟩, h⟩ := h
  obtain _ | ⟨⟨c17, rfl, wc17⟩, h⟩ := h
  obtain _ | ⟨⟨c18, rfl, wc18⟩, h⟩ := h
  cases h
  refine ⟨⟨c0, c1, ⟨c2, c3, c4, c5, c6, c7, c8, c9, c10, c11, c12, c13, c14, c15, c16, c17⟩, c18⟩, rfl, ?_⟩
  intro z hz
  simp only [Ad.l, List.mem_cons, List.not_mem_nil, or_false] at hz
  rcases hz with rfl | rfl | rfl | rfl | rfl | rfl | rfl | rfl | rfl | rfl | rfl | rfl | rfl | rfl | rfl | rfl
  · exact hb _ wc2
  · exact hb _ wc3
  · exact hb _ wc4
  · exact hb _ wc5
  · exact hb _ wc6
  · exact hb _ wc7
  · exact hb _ wc8
  · exact hb _ wc9
  · exact hb _ wc10
  · exact hb _ wc11
  · exact hb _ wc12
  · exact hb _ wc13
  · exact hb _ wc14
  · exact hb _ wc15
  · exact hb _ wc16
  · exact hb _ wc17
theorem flat_o (o : Ow) : ∀ v ∈ rowO o, Flat v := by
  intro v hv
  have := List.all_eq_true.1 (show (rowO o).all (fun v => match v with | .int _ _ => true | _ => false) = true from rfl) v hv
  split at this
  · exact .int _ _
  · cases this
theorem kinds37 : kindsOf Try.prog 5 37 = some ([.int .i64, .int .i64] ++ repK 16 [.int .u8] ++ [.int .i64]) := by kernel_rfl
theorem cells37 : Try.prog.cellsOf 37 = 19 := by kernel_rfl
theorem calls_of {H : Type} {enc : TypeId × Value → H} {f : FuncId} (W : World) {l0 : List Value} {v1 : Value} {d1 : DataW H} {p1 : List MemPlace} (h0 : CKs (repK 4 [.int .i64]) l0)
    (hk : XK.slice.ok v1) (h1 : DataW.Trod enc Try.prog W 0 (fun _ => true) true 24 v1 d1 p1)
    (hs : ∀ (L : List Ow) (x : Cf) (n cap : Nat), L ≠ [] → n ≤ L.length → (∀ o ∈ L, okA o.d) → Fm.Spec Try.prog [] f [aX x, .slice (some ⟨0, 0, none⟩) n cap] [oO L] fun r _ => r = .ret (.bool true))
    (hs0 : ∀ (L : List Ow) (x : Cf), L ≠ [] → Fm.Spec Try.prog [] f [aX x, .slice none 0 0] [oO L] fun r _ => r = .ret (.bool true)) :
    Calls Try.prog f #[.agg ⟨l0⟩, v1] W fun e W' => e = .returned (.bool true) ∧ Go.RowKit.Below W.heap.size W W' := by
  obtain _ | ⟨⟨b0, rfl, wb0⟩, h0⟩ := h0
  obtain _ | ⟨⟨b1, rfl, wb1⟩, h0⟩ := h0
  obtain _ | ⟨⟨b2, rfl, wb2⟩, h0⟩ := h0
  obtain _ | ⟨⟨b3, rfl, wb3⟩, h0⟩ := h0
  cases h0
  have f0 : ∀ j, VR j (aX ⟨b0, b1, b2, b3⟩) (aX ⟨b0, b1, b2, b3⟩) := fun j => (flat_ints (l := [.int .i64 b0, .int .i64 b1, .int .i64 b2, .int .i64 b3]) rfl).vr j
  rcases hk with rfl | ⟨B, off, len, cap, rfl⟩
  · refine calls_of_spec (hs0 [default] ⟨b0, b1, b2, b3⟩ (by simp)) (.bool true) (Sim.unmapped W _) ?_ (fun g hg => absurd hg (by simp))
    exact .cons (f0 _) (.cons (.snil 0 0) .nil)
  · obtain ⟨fuel, ht⟩ := h1
    rcases open_recs xu24 kinds37 ht with hcs | ⟨a, len', cap', hcs, hle, hrec⟩
    · cases hcs
    · injection hcs with hcs _
      injection hcs with e1 e2 e3
      injection e1 with e1
      subst e1 e2 e3
      by_cases hc : cap = 0
      · subst hc
        have hl0 : len = 0 := by omega
        subst hl0
        refine calls_of_spec (hs [default] ⟨b0, b1, b2, b3⟩ 0 0 (by simp) (Nat.zero_le _) ?_) (.bool true) (Sim.unmapped W _) ?_ (fun g hg => absurd hg (by simp))
        · intro o ho
          rw [List.mem_singleton] at ho
          subst ho
          intro z hz
          simp only [default, Ad.l, List.mem_cons, List.not_mem_nil, or_false, or_self] at hz
          omega
        · exact .cons (f0 _) (.cons (.slice0 _ _) .nil)
      · obtain ⟨L, hL, hget⟩ := list_of (n := cap) (p := fun i (o : Ow) => okA o.d ∧ ∀ q, q < 19 → W.cell? ⟨B, off + i * 19 + q, none⟩ = (rowO o)[q]?) fun i hi => by
          obtain ⟨l, hl1, hl2⟩ := hrec i hi
          obtain ⟨o, rfl, ho⟩ := row_of hl1
          refine ⟨o, ho, fun q hq => ?_⟩
          rw [cells37] at hl2
          have := hl2 q hq
          rw [Addr.add_none, Addr.add_none] at this
          exact this
        obtain ⟨j, S, hj⟩ := sim_rows (W := W) (B := B) (off := off) (cap := cap) rowO_len (by omega) flat_o hL (by omega) (fun i hi => (hget i hi).2)
        refine calls_of_spec (hs L ⟨b0, b1, b2, b3⟩ len cap ?_ (by omega) ?_) (.bool true) S ?_ (fun g hg => absurd hg (by simp))
        · intro e; rw [e] at hL; simp at hL; omega
        · intro o ho
          obtain ⟨i, hi, he⟩ := List.getElem_of_mem ho
          have := (hget i (by omega)).1
          rw [List.getD_eq_getElem?_getD, List.getElem?_eq_getElem hi] at this
          have this : okA L[i].d := this
          rw [he] at this; exact this
        · exact .cons (f0 _) (.cons (VR.slice (o := 0) len cap hj) .nil)

end Go.Proofs.Ytcdmnmpiipmfmaa
