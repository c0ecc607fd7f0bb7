/- 'ferrymanlaw20.NaptNobody': whatever the arguments, the law returns true, and they read as they did. No condition. -/
import Derived.Test.YtegaojifeildfaaGreatSeat
import Derived.Test.YtegaojifeildfaaGreatFmRead2
namespace Go.Proofs.YtegaojifeildfaaGreat
open Go.ChangeShapes Go.WideShapes Go.ChangeAt Go.RowKit Go.Fm

theorem napt_runnn (x0 : Int) (x1 : Int) (x2 : Int) (x3 : Int) (x4 : Int) (x5 : Int) (x6 : Int) (x7 : Int) (x8 : Int) (x9 : Int) (x10 : Int) (x11 : Bool) (x12 : Bool) (x13 : Int) (x14 : Int) (x15 : Int) (x16 : Int) (x17 : Int) (x18 : Int) (x19 : Int) (x20 : Int) (x21 : Int) (x22 : Int) (x23 : Int) : runB Tryz.prog [] 3000 90 3 [.agg ⟨[.int .i64 x0, .int .i64 x1, .int .u8 x2, .int .u8 x3, .int .u8 x4, .int .u8 x5, .int .u8 x6, .int .u16 x7, .int .u8 x8, .int .u8 x9, .int .u16 x10, .bool x11, .bool x12, .int .i64 x13, .int .u8 x14, .int .u8 x15, .int .u8 x16, .int .u8 x17, .int .u8 x18, .int .u8 x19, .int .u8 x20, .int .u8 x21, .int .u8 x22, .int .u8 x23, .slice none 0 0, .slice none 0 0]⟩] [] .norm (fun r _ h => isT r h) = true := by kernel_rfl

theorem napt_runns (x0 : Int) (x1 : Int) (x2 : Int) (x3 : Int) (x4 : Int) (x5 : Int) (x6 : Int) (x7 : Int) (x8 : Int) (x9 : Int) (x10 : Int) (x11 : Bool) (x12 : Bool) (x13 : Int) (x14 : Int) (x15 : Int) (x16 : Int) (x17 : Int) (x18 : Int) (x19 : Int) (x20 : Int) (x21 : Int) (x22 : Int) (x23 : Int) (x25l : Nat) (x25c : Nat) : runB Tryz.prog [] 3000 90 3 [.agg ⟨[.int .i64 x0, .int .i64 x1, .int .u8 x2, .int .u8 x3, .int .u8 x4, .int .u8 x5, .int .u8 x6, .int .u16 x7, .int .u8 x8, .int .u8 x9, .int .u16 x10, .bool x11, .bool x12, .int .i64 x13, .int .u8 x14, .int .u8 x15, .int .u8 x16, .int .u8 x17, .int .u8 x18, .int .u8 x19, .int .u8 x20, .int .u8 x21, .int .u8 x22, .int .u8 x23, .slice none 0 0, .slice (some ⟨0, 0, none⟩) x25l x25c]⟩] [.dead] .norm (fun r _ h => isT r h) = true := by kernel_rfl

theorem napt_runsn (x0 : Int) (x1 : Int) (x2 : Int) (x3 : Int) (x4 : Int) (x5 : Int) (x6 : Int) (x7 : Int) (x8 : Int) (x9 : Int) (x10 : Int) (x11 : Bool) (x12 : Bool) (x13 : Int) (x14 : Int) (x15 : Int) (x16 : Int) (x17 : Int) (x18 : Int) (x19 : Int) (x20 : Int) (x21 : Int) (x22 : Int) (x23 : Int) (x24l : Nat) (x24c : Nat) : runB Tryz.prog [] 3000 90 3 [.agg ⟨[.int .i64 x0, .int .i64 x1, .int .u8 x2, .int .u8 x3, .int .u8 x4, .int .u8 x5, .int .u8 x6, .int .u16 x7, .int .u8 x8, .int .u8 x9, .int .u16 x10, .bool x11, .bool x12, .int .i64 x13, .int .u8 x14, .int .u8 x15, .int .u8 x16, .int .u8 x17, .int .u8 x18, .int .u8 x19, .int .u8 x20, .int .u8 x21, .int .u8 x22, .int .u8 x23, .slice (some ⟨0, 0, none⟩) x24l x24c, .slice none 0 0]⟩] [.dead] .norm (fun r _ h => isT r h) = true := by kernel_rfl

theorem napt_runss (x0 : Int) (x1 : Int) (x2 : Int) (x3 : Int) (x4 : Int) (x5 : Int) (x6 : Int) (x7 : Int) (x8 : Int) (x9 : Int) (x10 : Int) (x11 : Bool) (x12 : Bool) (x13 : Int) (x14 : Int) (x15 : Int) (x16 : Int) (x17 : Int) (x18 : Int) (x19 : Int) (x20 : Int) (x21 : Int) (x22 : Int) (x23 : Int) (x24l : Nat) (x24c : Nat) (x25l : Nat) (x25c : Nat) : runB Tryz.prog [] 3000 90 3 [.agg ⟨[.int .i64 x0, .int .i64 x1, .int .u8 x2, .int .u8 x3, .int .u8 x4, .int .u8 x5, .int .u8 x6, .int .u16 x7, .int .u8 x8, .int .u8 x9, .int .u16 x10, .bool x11, .bool x12, .int .i64 x13, .int .u8 x14, .int .u8 x15, .int .u8 x16, .int .u8 x17, .int .u8 x18, .int .u8 x19, .int .u8 x20, .int .u8 x21, .int .u8 x22, .int .u8 x23, .slice (some ⟨0, 0, none⟩) x24l x24c, .slice (some ⟨1, 0, none⟩) x25l x25c]⟩] [.dead, .dead] .norm (fun r _ h => isT r h) = true := by kernel_rfl

theorem napt_calls (W : World) {l0 : List Value} (h0 : XKs [.int .i64, .int .i64, .int .u8, .int .u8, .int .u8, .int .u8, .int .u8, .int .u16, .int .u8, .int .u8, .int .u16, .bool, .bool, .int .i64, .int .u8, .int .u8, .int .u8, .int .u8, .int .u8, .int .u8, .int .u8, .int .u8, .int .u8, .int .u8, .slice, .slice] l0) : Calls Tryz.prog 3 #[.agg ⟨l0⟩] W fun e W' => e = .returned (.bool true) ∧ Go.RowKit.Below W.heap.size W W' := by
  obtain _ | ⟨⟨x0, rfl⟩, h0⟩ := h0
  obtain _ | ⟨⟨x1, rfl⟩, h0⟩ := h0
  obtain _ | ⟨⟨x2, rfl⟩, h0⟩ := h0
  obtain _ | ⟨⟨x3, rfl⟩, h0⟩ := h0
  obtain _ | ⟨⟨x4, rfl⟩, h0⟩ := h0
  obtain _ | ⟨⟨x5, rfl⟩, h0⟩ := h0
  obtain _ | ⟨⟨x6, rfl⟩, h0⟩ := h0
  obtain _ | ⟨⟨x7, rfl⟩, h0⟩ := h0
  obtain _ | ⟨⟨x8, rfl⟩, h0⟩ := h0
  obtain _ | ⟨⟨x9, rfl⟩, h0⟩ := h0
  obtain _ | ⟨⟨x10, rfl⟩, h0⟩ := h0
  obtain _ | ⟨⟨x11, rfl⟩, h0⟩ := h0
  obtain _ | ⟨⟨x12, rfl⟩, h0⟩ := h0
  obtain _ | ⟨⟨x13, rfl⟩, h0⟩ := h0
  obtain _ | ⟨⟨x14, rfl⟩, h0⟩ := h0
  obtain _ | ⟨⟨x15, rfl⟩, h0⟩ := h0
  obtain _ | ⟨⟨x16, rfl⟩, h0⟩ := h0
  obtain _ | ⟨⟨x17, rfl⟩, h0⟩ := h0
  obtain _ | ⟨⟨x18, rfl⟩, h0⟩ := h0
  obtain _ | ⟨⟨x19, rfl⟩, h0⟩ := h0
  obtain _ | ⟨⟨x20, rfl⟩, h0⟩ := h0
  obtain _ | ⟨⟨x21, rfl⟩, h0⟩ := h0
  obtain _ | ⟨⟨x22, rfl⟩, h0⟩ := h0
  obtain _ | ⟨⟨x23, rfl⟩, h0⟩ := h0
  obtain _ | ⟨qx24, h0⟩ := h0
  obtain _ | ⟨qx25, h0⟩ := h0
  cases h0
  rcases qx24 with rfl | ⟨x24b, x24o, x24l, x24c, rfl⟩
  · rcases qx25 with rfl | ⟨x25b, x25o, x25l, x25c, rfl⟩
    · refine calls_of_spec (h := []) (args := [.agg ⟨[.int .i64 x0, .int .i64 x1, .int .u8 x2, .int .u8 x3, .int .u8 x4, .int .u8 x5, .int .u8 x6, .int .u16 x7, .int .u8 x8, .int .u8 x9, .int .u16 x10, .bool x11, .bool x12, .int .i64 x13, .int .u8 x14, .int .u8 x15, .int .u8 x16, .int .u8 x17, .int .u8 x18, .int .u8 x19, .int .u8 x20, .int .u8 x21, .int .u8 x22, .int .u8 x23, .slice none 0 0, .slice none 0 0]⟩]) (spec_of_run Tryz.mixed (Q := isT) (fun r h e => isT_spec e) (napt_runnn x0 x1 x2 x3 x4 x5 x6 x7 x8 x9 x10 x11 x12 x13 x14 x15 x16 x17 x18 x19 x20 x21 x22 x23)) (.bool true) (Sim.standins W []) ?_ (fun g hg => absurd hg (by simp))
      exact .cons (VR.agg' (.cons (.int .i64 x0) (.cons (.int .i64 x1) (.cons (.int .u8 x2) (.cons (.int .u8 x3) (.cons (.int .u8 x4) (.cons (.int .u8 x5) (.cons (.int .u8 x6) (.cons (.int .u16 x7) (.cons (.int .u8 x8) (.cons (.int .u8 x9) (.cons (.int .u16 x10) (.cons (.bool x11) (.cons (.bool x12) (.cons (.int .i64 x13) (.cons (.int .u8 x14) (.cons (.int .u8 x15) (.cons (.int .u8 x16) (.cons (.int .u8 x17) (.cons (.int .u8 x18) (.cons (.int .u8 x19) (.cons (.int .u8 x20) (.cons (.int .u8 x21) (.cons (.int .u8 x22) (.cons (.int .u8 x23) (.cons (.snil 0 0) (.cons (.snil 0 0) .nil))))))))))))))))))))))))))) .nil
    · refine calls_of_spec (h := [.dead]) (args := [.agg ⟨[.int .i64 x0, .int .i64 x1, .int .u8 x2, .int .u8 x3, .int .u8 x4, .int .u8 x5, .int .u8 x6, .int .u16 x7, .int .u8 x8, .int .u8 x9, .int .u16 x10, .bool x11, .bool x12, .int .i64 x13, .int .u8 x14, .int .u8 x15, .int .u8 x16, .int .u8 x17, .int .u8 x18, .int .u8 x19, .int .u8 x20, .int .u8 x21, .int .u8 x22, .int .u8 x23, .slice none 0 0, .slice (some ⟨0, 0, none⟩) x25l x25c]⟩]) (spec_of_run Tryz.mixed (Q := isT) (fun r h e => isT_spec e) (napt_runns x0 x1 x2 x3 x4 x5 x6 x7 x8 x9 x10 x11 x12 x13 x14 x15 x16 x17 x18 x19 x20 x21 x22 x23 x25l x25c)) (.bool true) (Sim.standins W [(x25b, x25o)]) ?_ (fun g hg => absurd hg (by simp))
      exact .cons (VR.agg' (.cons (.int .i64 x0) (.cons (.int .i64 x1) (.cons (.int .u8 x2) (.cons (.int .u8 x3) (.cons (.int .u8 x4) (.cons (.int .u8 x5) (.cons (.int .u8 x6) (.cons (.int .u16 x7) (.cons (.int .u8 x8) (.cons (.int .u8 x9) (.cons (.int .u16 x10) (.cons (.bool x11) (.cons (.bool x12) (.cons (.int .i64 x13) (.cons (.int .u8 x14) (.cons (.int .u8 x15) (.cons (.int .u8 x16) (.cons (.int .u8 x17) (.cons (.int .u8 x18) (.cons (.int .u8 x19) (.cons (.int .u8 x20) (.cons (.int .u8 x21) (.cons (.int .u8 x22) (.cons (.int .u8 x23) (.cons (.snil 0 0) (.cons (VR.stand rfl x25l x25c) .nil))))))))))))))))))))))))))) .nil
  · rcases qx25 with rfl | ⟨x25b, x25o, x25l, x25c, rfl⟩
    · refine calls_of_spec (h := [.dead]) (args := [.agg ⟨[.int .i64 x0, .int .i64 x1, .int .u8 x2, .int .u8 x3, .int .u8 x4, .int .u8 x5, .int .u8 x6, .int .u16 x7, .int .u8 x8, .int .u8 x9, .int .u16 x10, .bool x11, .bool x12, .int .i64 x13, .int .u8 x14, .int .u8 x15, .int .u8 x16, .int .u8 x17, .int .u8 x18, .int .u8 x19, .int .u8 x20, .int .u8 x21, .int .u8 x22, .int .u8 x23, .slice (some ⟨0, 0, none⟩) x24l x24c, .slice none 0 0]⟩]) (spec_of_run Tryz.mixed (Q := isT) (fun r h e => isT_spec e) (napt_runsn x0 x1 x2 x3 x4 x5 x6 x7 x8 x9 x10 x11 x12 x13 x14 x15 x16 x17 x18 x19 x20 x21 x22 x23 x24l x24c)) (.bool true) (Sim.standins W [(x24b, x24o)]) ?_ (fun g hg => absurd hg (by simp))
      exact .cons (VR.agg' (.cons (.int .i64 x0) (.cons (.int .i64 x1) (.cons (.int .u8 x2) (.cons (.int .u8 x3) (.cons (.int .u8 x4) (.cons (.int .u8 x5) (.cons (.int .u8 x6) (.cons (.int .u16 x7) (.cons (.int .u8 x8) (.cons (.int .u8 x9) (.cons (.int .u16 x10) (.cons (.bool x11) (.cons (.bool x12) (.cons (.int .i64 x13) (.cons (.int .u8 x14) (.cons (.int .u8 x15) (.cons (.int .u8 x16) (.cons (.int .u8 x17) (.cons (.int .u8 x18) (.cons (.int .u8 x19) (.cons (.int .u8 x20) (.cons (.int .u8 x21) (.cons (.int .u8 x22) (.cons (.int .u8 x23) (.cons (VR.stand rfl x24l x24c) (.cons (.snil 0 0) .nil))))))))))))))))))))))))))) .nil
    · refine calls_of_spec (h := [.dead, .dead]) (args := [.agg ⟨[.int .i64 x0, .int .i64 x1, .int .u8 x2, .int .u8 x3, .int .u8 x4, .int .u8 x5, .int .u8 x6, .int .u16 x7, .int .u8 x8, .int .u8 x9, .int .u16 x10, .bool x11, .bool x12, .int .i64 x13, .int .u8 x14, .int .u8 x15, .int .u8 x16, .int .u8 x17, .int .u8 x18, .int .u8 x19, .int .u8 x20, .int .u8 x21, .int .u8 x22, .int .u8 x23, .slice (some ⟨0, 0, none⟩) x24l x24c, .slice (some ⟨1, 0, none⟩) x25l x25c]⟩]) (spec_of_run Tryz.mixed (Q := isT) (fun r h e => isT_spec e) (napt_runss x0 x1 x2 x3 x4 x5 x6 x7 x8 x9 x10 x11 x12 x13 x14 x15 x16 x17 x18 x19 x20 x21 x22 x23 x24l x24c x25l x25c)) (.bool true) (Sim.standins W [(x24b, x24o), (x25b, x25o)]) ?_ (fun g hg => absurd hg (by simp))
      exact .cons (VR.agg' (.cons (.int .i64 x0) (.cons (.int .i64 x1) (.cons (.int .u8 x2) (.cons (.int .u8 x3) (.cons (.int .u8 x4) (.cons (.int .u8 x5) (.cons (.int .u8 x6) (.cons (.int .u16 x7) (.cons (.int .u8 x8) (.cons (.int .u8 x9) (.cons (.int .u16 x10) (.cons (.bool x11) (.cons (.bool x12) (.cons (.int .i64 x13) (.cons (.int .u8 x14) (.cons (.int .u8 x15) (.cons (.int .u8 x16) (.cons (.int .u8 x17) (.cons (.int .u8 x18) (.cons (.int .u8 x19) (.cons (.int .u8 x20) (.cons (.int .u8 x21) (.cons (.int .u8 x22) (.cons (.int .u8 x23) (.cons (VR.stand rfl x24l x24c) (.cons (VR.stand rfl x25l x25c) .nil))))))))))))))))))))))))))) .nil

set_option maxRecDepth 100000 in
theorem napt_lifted (os : Os) (started : os.Started) (H : Type) (enc : TypeId × Value → H) :
    ReturnsInHanded {} Tryz.checked os 3 .any (Rows.naptNobodySpec.pre6 enc Tryz.prog Tryz.f3 Rows.naptNobodyRow.domain false) (Rows.naptNobodySpec.post enc Tryz.prog Tryz.f3 false true false false) := by
  refine returnsInHanded_of_change (C := Tryz.checked) Tryz.own started (by kernel_rfl) Tryz.func3
    (ChangeSpec.witness6 (enc := enc) (C := Tryz.checked) false ⟨#[], #[.agg #[.int .i64 0, .int .i64 0, .int .u8 0, .int .u8 0, .int .u8 0, .int .u8 0, .int .u8 0, .int .u16 0, .int .u8 0, .int .u8 0, .int .u16 0, .bool false, .bool false, .int .i64 0, .int .u8 0, .int .u8 0, .int .u8 0, .int .u8 0, .int .u8 0, .int .u8 0, .int .u8 0, .int .u8 0, .int .u8 0, .int .u8 0, .slice none 0 0, .slice none 0 0]], []⟩ 8 (by kernel_rfl) (by kernel_rfl) (by kernel_rfl) (by kernel_rfl)) ?_
  intro W base args ds gs before hval0 hW hcnd _
  have hval : ∀ (j : Nat) t v, Tryz.f3.params[j]? = some t → args[j]? = some v → Value.okWide Tryz.prog W .any base t v := hval0
  have hW' := hW
  obtain ⟨p, q, hA0, hV, rfl, hfz, hnd⟩ := hW
  have hA : DataW.TrodAll enc Tryz.prog W 0 (fun _ => true) true Tryz.f3.params.toList args.toList ds p := hA0
  rw [Tryz.params3] at hA hval
  obtain ⟨v0, d0, rfl, rfl, h0⟩ := trodAll_one hA
  obtain ⟨rfl, rfl⟩ := trodVars_none hV
  obtain ⟨l0, rfl, k0⟩ := open_agg_cells (ks := [.int .i64, .int .i64, .int .u8, .int .u8, .int .u8, .int .u8, .int .u8, .int .u16, .int .u8, .int .u8, .int .u16, .bool, .bool, .int .i64, .int .u8, .int .u8, .int .u8, .int .u8, .int .u8, .int .u8, .int .u8, .int .u8, .int .u8, .int .u8, .slice, .slice]) (by kernel_rfl) (by kernel_rfl) (hval 0 29 v0 rfl rfl)
  refine close_row (tb := 4) hW' rfl rfl Tryz.laidOut (by kernel_rfl) (by kernel_rfl) (by kernel_rfl) ?_
  exact napt_calls W k0

theorem napt_holds : Rows.NaptNobodySaid :=
  OpenClaim.holds_of_wide 3 Tryz.f3 rfl rfl rfl rfl rfl rfl rfl ⟨rfl, rfl, rfl, rfl, rfl⟩ rfl rfl rfl rfl rfl (by kernel_rfl) Tryz.func3 (by kernel_rfl)
    (of_decide_eq_true (by kernel_rfl)) (by unfold Func.isWrapper; rw [if_neg (of_decide_eq_false (by kernel_rfl))]; exact ⟨rfl, rfl⟩)
    (fun os started H enc _ => napt_lifted os started H enc)

#print axioms napt_holds

end Go.Proofs.YtegaojifeildfaaGreat
