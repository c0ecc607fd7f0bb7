/-
  PathmtuFalls, where nothing is told: true. No condition.
-/
import Derived.Test.YtheaklgkfagdiaaFallsRun
namespace Go.Proofs.Ytheaklgkfagdiaa
open Go.Fm

theorem awake_run : runB Try.prog [] 1000 50 8 [] [] .norm (fun r _ h => isT r h) = true := by kernel_rfl

theorem awake_any (h : AHeap) : Fm.Spec Try.prog [] 8 [] h fun r h' => (∃ v, r = .ret v ∧ Flat v ∧ v = .bool true) ∧ h' = h :=
  Spec.lift (h0 := []) (Q := fun v => v = .bool true) (spec_of_run Try.mixed (Q := isT) (fun r h e => ⟨_, isT_spec e, .bool true, rfl⟩) awake_run) (by simp) (by simp) rfl (by simp) (by simp) (by simp)

theorem aw (h : AHeap) : SpecC Try.prog [] (.fn 8) [] h fun r h' => ∃ ia, ((fun _ : Unit => (True, Res.ret (.bool true), h)) ia).1 ∧ r = ((fun _ : Unit => (True, Res.ret (.bool true), h)) ia).2.1 ∧ h' = ((fun _ : Unit => (True, Res.ret (.bool true), h)) ia).2.2 := by
  refine SpecC_mono _ _ _ _ _ (fun r h' e => ?_) (show SpecC Try.prog [] (.fn 8) [] h _ from awake_any h)
  obtain ⟨⟨v, rfl, _, rfl⟩, rfl⟩ := e
  exact ⟨(), trivial, rfl, rfl⟩

set_option maxRecDepth 100000 in
theorem falls0_spec (a b c d d0 d1 d2 d3 d4 d5 d6 d7 d8 d9 d10 d11 d12 d13 d14 d15 : Int) :
    Fm.Spec Try.prog [] 3 [.agg ⟨abcd a b c d⟩, .agg ⟨dl d0 d1 d2 d3 d4 d5 d6 d7 d8 d9 d10 d11 d12 d13 d14 d15⟩, .slice none 0 0] [] fun r _ => r = .ret (.bool true) := by
  refine spec_of_script Try.mixed (Eq.mp (falls0_run a b c d d0 d1 d2 d3 d4 d5 d6 d7 d8 d9 d10 d11 d12 d13 d14 d15 fun r _ => r = .ret (.bool true)) ?_)
  refine ⟨fun _ => ⟨aw _, fun _ _ => rfl⟩, fun h1 => ?_⟩
  refine ⟨fun _ => ⟨aw _, fun _ _ => rfl⟩, fun h2 => ?_⟩
  refine ⟨fun _ => ⟨aw _, fun _ _ => rfl⟩, fun h3 => ?_⟩
  refine ⟨fun _ => ⟨aw _, fun _ _ => rfl⟩, fun h4 => ?_⟩
  refine ⟨fun _ => ⟨aw _, fun _ _ => rfl⟩, fun h5 => ?_⟩
  refine ⟨fun _ => ⟨aw _, fun _ _ => rfl⟩, fun h6 => ?_⟩
  refine ⟨fun _ => ⟨aw _, fun _ _ => rfl⟩, fun h7 => ?_⟩
  refine ⟨fun _ => ⟨aw _, fun _ _ => rfl⟩, fun h8 => ?_⟩
  have h7 := of_decide_eq_false h7
  have h8 := of_decide_eq_false h8
  refine ⟨aw _, fun _ _ => ⟨fun h => ?_, fun _ => ⟨fun h => ?_, fun _ => ⟨fun _ => rfl, fun h => ?_⟩⟩⟩⟩
  · have := of_decide_eq_true h; omega
  · have := of_decide_eq_true h; omega
  · simp at h

end Go.Proofs.Ytheaklgkfagdiaa
