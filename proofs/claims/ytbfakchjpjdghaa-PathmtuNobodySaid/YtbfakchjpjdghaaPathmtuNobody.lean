/- 'ferrymanlaw16.PathmtuNobody': whatever the address, the law returns true, and the address reads as it did. No condition. -/
import Derived.Test.YtbfakchjpjdghaaSeat
namespace Go.Proofs.Ytbfakchjpjdghaa
open Go.ChangeShapes Go.WideShapes Go.ChangeAt Go.RowKit Go.Fm

theorem nobody_run (a0 a1 a2 a3 a4 a5 a6 a7 a8 a9 a10 a11 a12 a13 a14 a15 : Int) : runB Try.prog [] 1000 50 6 [.agg ⟨[.int .u8 a0, .int .u8 a1, .int .u8 a2, .int .u8 a3, .int .u8 a4, .int .u8 a5, .int .u8 a6, .int .u8 a7, .int .u8 a8, .int .u8 a9, .int .u8 a10, .int .u8 a11, .int .u8 a12, .int .u8 a13, .int .u8 a14, .int .u8 a15]⟩] [] .norm (fun r _ h => isT r h) = true := by kernel_rfl

theorem nobody_spec {l : List Value} (hl : CKs (repK 16 [.int .u8]) l) : Fm.Spec Try.prog [] 6 [.agg ⟨l⟩] [] fun r _ => r = .ret (.bool true) := by
  obtain _ | ⟨⟨a0, rfl, _⟩, hl⟩ := hl
  obtain _ | ⟨⟨a1, rfl, _⟩, hl⟩ := hl
  obtain _ | ⟨⟨a2, rfl, _⟩, hl⟩ := hl
  obtain _ | ⟨⟨a3, rfl, _⟩, hl⟩ := hl
  obtain _ | ⟨⟨a4, rfl, _⟩, hl⟩ := hl
  obtain _ | ⟨⟨a5, rfl, _⟩, hl⟩ := hl
  obtain _ | ⟨⟨a6, rfl, _⟩, hl⟩ := hl
  obtain _ | ⟨⟨a7, rfl, _⟩, hl⟩ := hl
  obtain _ | ⟨⟨a8, rfl, _⟩, hl⟩ := hl
  obtain _ | ⟨⟨a9, rfl, _⟩, hl⟩ := hl
  obtain _ | ⟨⟨a10, rfl, _⟩, hl⟩ := hl
  obtain _ | ⟨⟨a11, rfl, _⟩, hl⟩ := hl
  obtain _ | ⟨⟨a12, rfl, _⟩, hl⟩ := hl
  obtain _ | ⟨⟨a13, rfl, _⟩, hl⟩ := hl
  obtain _ | ⟨⟨a14, rfl, _⟩, hl⟩ := hl
  obtain _ | ⟨⟨a15, rfl, _⟩, hl⟩ := hl
  cases hl
  exact spec_of_run Try.mixed (Q := isT) (fun r h e => isT_spec e) (nobody_run a0 a1 a2 a3 a4 a5 a6 a7 a8 a9 a10 a11 a12 a13 a14 a15)

set_option maxRecDepth 100000 in
theorem nobody_lifted (os : Os) (started : os.Started) (H : Type) (enc : TypeId × Value → H) :
    ReturnsInHanded {} Try.checked os 6 .any (Rows.pathmtuNobodySpec.pre6 enc Try.prog Try.f6 Rows.pathmtuNobodyRow.domain false) (Rows.pathmtuNobodySpec.post enc Try.prog Try.f6 false true false false) := by
  refine returnsInHanded_of_change (C := Try.checked) Try.own started (by kernel_rfl) Try.func6
    (ChangeSpec.witness6 (enc := enc) (C := Try.checked) false ⟨#[], #[.agg #[.int .u8 0, .int .u8 0, .int .u8 0, .int .u8 0, .int .u8 0, .int .u8 0, .int .u8 0, .int .u8 0, .int .u8 0, .int .u8 0, .int .u8 0, .int .u8 0, .int .u8 0, .int .u8 0, .int .u8 0, .int .u8 0]], []⟩ 8 (by kernel_rfl) (by kernel_rfl) (by kernel_rfl) (by kernel_rfl)) ?_
  intro W base args ds gs before hval0 hW hcnd _
  have hval : ∀ (j : Nat) t v, Try.f6.params[j]? = some t → args[j]? = some v → Value.okWide Try.prog W .any base t v := hval0
  have hW' := hW
  obtain ⟨p, q, hA0, hV, rfl, hfz, hnd⟩ := hW
  have hA : DataW.TrodAll enc Try.prog W 0 (fun _ => true) true Try.f6.params.toList args.toList ds p := hA0
  rw [Try.params6] at hA hval
  obtain ⟨v0, d0, rfl, rfl, h0⟩ := trodAll_one hA
  obtain ⟨rfl, rfl⟩ := trodVars_none hV
  obtain ⟨l, rfl, hl, rfl⟩ := open_agg (n := 3) (ks := repK 16 [.int .u8]) (by kernel_rfl) (by kernel_rfl) (hval 0 25 v0 rfl rfl) h0
  refine close_row (tb := 4) hW' rfl rfl Try.laidOut (by kernel_rfl) (by kernel_rfl) (by kernel_rfl) ?_
  exact calls_of_spec (nobody_spec hl) (.bool true) (Sim.start W) (Flat.lr (by intro v hv; rw [List.mem_singleton] at hv; subst hv; exact .agg fun i v e => hl.flat v (List.mem_of_getElem? (by simpa using e))) _) (fun g hg => absurd hg (by simp))

theorem nobody_holds : Rows.PathmtuNobodySaid :=
  OpenClaim.holds_of_wide 6 Try.f6 rfl rfl rfl rfl rfl rfl rfl ⟨rfl, rfl, rfl, rfl, rfl⟩ rfl rfl rfl rfl rfl (by kernel_rfl) Try.func6 (by kernel_rfl)
    (of_decide_eq_true (by kernel_rfl)) (by unfold Func.isWrapper; rw [if_neg (of_decide_eq_false (by kernel_rfl))]; exact ⟨rfl, rfl⟩)
    (fun os started H enc _ => nobody_lifted os started H enc)

#print axioms nobody_holds

end Go.Proofs.Ytbfakchjpjdghaa
