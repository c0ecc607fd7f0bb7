/-
  'ferrymanlaw16.PathmtuFalls': whatever the settings, the address and the row of MTUs told, the law returns true, and they read as they did. No condition.
-/
import Derived.Test.YtheaklgkfagdiaaFallsB
import Derived.Test.YtheaklgkfagdiaaFmRead3
namespace Go.Proofs.Ytheaklgkfagdiaa
open Go.ChangeShapes Go.WideShapes Go.ChangeAt Go.RowKit Go.Fm

theorem flat_row {ks : List CK} {l : List Value} (h : CKs ks l) (j : Inj) : VR j (.agg ⟨l⟩) (.agg ⟨l⟩) :=
  (Flat.agg fun i v e => h.flat v (List.mem_of_getElem? (by simpa using e))).vr j

theorem falls_calls {H : Type} {enc : TypeId × Value → H} (W : World) {l0 l1 : List Value} {v2 : Value} {d2 : DataW H} {p2 : List MemPlace} (h0 : CKs (repK 4 [.int .i64]) l0) (h1 : CKs (repK 16 [.int .u8]) l1)
    (hk : XK.slice.ok v2) (h2 : DataW.Trod enc Try.prog W 0 (fun _ => true) true 26 v2 d2 p2) :
    Calls Try.prog 3 #[.agg ⟨l0⟩, .agg ⟨l1⟩, v2] W fun e W' => e = .returned (.bool true) ∧ Go.RowKit.Below W.heap.size W W' := by
  have f0 := fun j => flat_row h0 j
  have f1 := fun j => flat_row h1 j
  obtain _ | ⟨⟨a, rfl, _⟩, h0⟩ := h0
  obtain _ | ⟨⟨b, rfl, _⟩, h0⟩ := h0
  obtain _ | ⟨⟨c, rfl, _⟩, h0⟩ := h0
  obtain _ | ⟨⟨d, rfl, _⟩, h0⟩ := h0
  cases h0
  obtain _ | ⟨⟨d0, rfl, _⟩, h1⟩ := h1
  obtain _ | ⟨⟨d1, rfl, _⟩, h1⟩ := h1
  obtain _ | ⟨⟨d2, rfl, _⟩, h1⟩ := h1
  obtain _ | ⟨⟨d3, rfl, _⟩, h1⟩ := h1
  obtain _ | ⟨⟨d4, rfl, _⟩, h1⟩ := h1
  obtain _ | ⟨⟨d5, rfl, _⟩, h1⟩ := h1
  obtain _ | ⟨⟨d6, rfl, _⟩, h1⟩ := h1
  obtain _ | ⟨⟨d7, rfl, _⟩, h1⟩ := h1
  obtain _ | ⟨⟨d8, rfl, _⟩, h1⟩ := h1
  obtain _ | ⟨⟨d9, rfl, _⟩, h1⟩ := h1
  obtain _ | ⟨⟨d10, rfl, _⟩, h1⟩ := h1
  obtain _ | ⟨⟨d11, rfl, _⟩, h1⟩ := h1
  obtain _ | ⟨⟨d12, rfl, _⟩, h1⟩ := h1
  obtain _ | ⟨⟨d13, rfl, _⟩, h1⟩ := h1
  obtain _ | ⟨⟨d14, rfl, _⟩, h1⟩ := h1
  obtain _ | ⟨⟨d15, rfl, _⟩, h1⟩ := h1
  cases h1
  rcases hk with rfl | ⟨B, off, len, cap, rfl⟩
  · refine calls_of_spec (falls0_spec a b c d d0 d1 d2 d3 d4 d5 d6 d7 d8 d9 d10 d11 d12 d13 d14 d15) (.bool true) (Sim.start W) ?_ (fun g hg => absurd hg (by simp))
    exact .cons (f0 _) (.cons (f1 _) (.cons (.snil 0 0) .nil))
  · obtain ⟨fuel, ht⟩ := h2
    rcases open_ints u26 (show Try.prog.underlying 3 = some (.int .i64) by kernel_rfl) (show Try.prog.cellsOf 3 = 1 by kernel_rfl) ht with ⟨hcs, _⟩ | ⟨ad, len', cap', zs, hcs, _, hle, _, hlen, _, hcell, _⟩
    · cases hcs
    · injection hcs with hcs _
      injection hcs with e1 e2 e3
      injection e1 with e1
      subst e1 e2 e3
      rw [if_pos rfl] at hlen
      by_cases hc : cap = 0
      · subst hc
        have hl0 : len = 0 := by omega
        subst hl0
        refine calls_of_spec (h := [.cells (([] : List Int).map (Value.int .i64)) true]) (falls_spec a b c d d0 d1 d2 d3 d4 d5 d6 d7 d8 d9 d10 d11 d12 d13 d14 d15 [] 0 0 (Nat.le_refl _)) (.bool true) (Sim.unmapped W _) ?_ (fun g hg => absurd hg (by simp))
        exact .cons (f0 _) (.cons (f1 _) (.cons (.slice0 _ _) .nil))
      · obtain ⟨j, S, hj⟩ := sim_ints (W := W) (B := B) (off := off) (cap := cap) (k := .i64) (zs := zs) hlen (by omega) (fun i hi => by
          have := hcell i (by omega)
          rwa [Addr.add_none] at this)
        refine calls_of_spec (falls_spec a b c d d0 d1 d2 d3 d4 d5 d6 d7 d8 d9 d10 d11 d12 d13 d14 d15 zs len cap (by omega)) (.bool true) S ?_ (fun g hg => absurd hg (by simp))
        exact .cons (f0 _) (.cons (f1 _) (.cons (VR.slice (o := 0) len cap hj) .nil))

set_option maxRecDepth 100000 in
theorem falls_lifted (os : Os) (started : os.Started) (H : Type) (enc : TypeId × Value → H) :
    ReturnsInHanded {} Try.checked os 3 .any (Rows.pathmtuFallsSpec.pre6 enc Try.prog Try.f3 Rows.pathmtuFallsRow.domain false) (Rows.pathmtuFallsSpec.post enc Try.prog Try.f3 false true false false) := by
  refine returnsInHanded_of_change (C := Try.checked) Try.own started (by kernel_rfl) Try.func3
    (ChangeSpec.witness6 (enc := enc) (C := Try.checked) false ⟨#[], #[.agg #[.int .i64 0, .int .i64 0, .int .i64 0, .int .i64 0], .agg #[.int .u8 0, .int .u8 0, .int .u8 0, .int .u8 0, .int .u8 0, .int .u8 0, .int .u8 0, .int .u8 0, .int .u8 0, .int .u8 0, .int .u8 0, .int .u8 0, .int .u8 0, .int .u8 0, .int .u8 0, .int .u8 0], .slice none 0 0], []⟩ 8 (by kernel_rfl) (by kernel_rfl) (by kernel_rfl) (by kernel_rfl)) ?_
  intro W base args ds gs before hval0 hW hcnd _
  have hval : ∀ (j : Nat) t v, Try.f3.params[j]? = some t → args[j]? = some v → Value.okWide Try.prog W .any base t v := hval0
  have hW' := hW
  obtain ⟨p, q, hA0, hV, rfl, hfz, hnd⟩ := hW
  have hA : DataW.TrodAll enc Try.prog W 0 (fun _ => true) true Try.f3.params.toList args.toList ds p := hA0
  rw [Try.params3] at hA hval
  obtain ⟨v0, v1, v2, e0, e1, e2, p0, p1, p2, rfl, rfl, rfl, h0, h1, h2⟩ := trodAll_three hA
  obtain ⟨rfl, rfl⟩ := trodVars_none hV
  obtain ⟨l0, rfl, k0, _⟩ := open_agg (n := 4) (ks := repK 4 [.int .i64]) (by kernel_rfl) (by kernel_rfl) (hval 0 23 v0 rfl rfl) h0
  obtain ⟨l1, rfl, k1, _⟩ := open_agg (n := 4) (ks := repK 16 [.int .u8]) (by kernel_rfl) (by kernel_rfl) (hval 1 25 v1 rfl rfl) h1
  have k2 := open_cell (k := .slice) (by kernel_rfl) (hval 2 26 v2 rfl rfl)
  refine close_row (tb := 4) hW' rfl rfl Try.laidOut (by kernel_rfl) (by kernel_rfl) (by kernel_rfl) ?_
  exact falls_calls W k0 k1 k2 h2

theorem falls_holds : Rows.PathmtuFallsSaid :=
  OpenClaim.holds_of_wide 3 Try.f3 rfl rfl rfl rfl rfl rfl rfl ⟨rfl, rfl, rfl, rfl, rfl⟩ rfl rfl rfl rfl rfl (by kernel_rfl) Try.func3 (by kernel_rfl)
    (of_decide_eq_true (by kernel_rfl)) (by unfold Func.isWrapper; rw [if_neg (of_decide_eq_false (by kernel_rfl))]; exact ⟨rfl, rfl⟩)
    (fun os started H enc _ => falls_lifted os started H enc)

#print axioms falls_holds

end Go.Proofs.Ytheaklgkfagdiaa
