/-
  The given program's tables, its head awake(), and what stands for the memory when a law is called. No condition.
-/
import Derived.Test.YtopladipgobpjaaDoorWords
import Derived.Test.YtopladipgobpjaaDoorFmE
import Derived.ProofKit
import Derived.Stop.Joined
namespace Go.Proofs.YtopladipgobpjaaDoor
open Go.Fm Go.ChangeShapes Go.WideShapes Go.ChangeAt Go.RowKit
def pow10Z : List Int := [1, 10, 100, 1000, 10000, 100000, 1000000, 10000000, 100000000, 1000000000, 10000000000, 100000000000, 1000000000000, 10000000000000, 100000000000000, 1000000000000000, 10000000000000000, 100000000000000000, 1000000000000000000, 10000000000000000000]
def tab32Z : List Int := [0, 1, 28, 2, 29, 14, 24, 3, 30, 22, 20, 15, 25, 17, 4, 8, 31, 27, 13, 23, 21, 19, 16, 7, 26, 12, 18, 6, 11, 5, 10, 9]
def tab64Z : List Int := [0, 1, 56, 2, 57, 49, 28, 3, 61, 58, 42, 50, 38, 29, 17, 4, 62, 47, 59, 36, 45, 43, 51, 22, 53, 39, 33, 30, 24, 18, 12, 5, 63, 55, 48, 27, 60, 41, 37, 16, 46, 35, 44, 21, 52, 32, 23, 11, 54, 26, 40, 15, 34, 20, 31, 10, 25, 14, 19, 9, 13, 8, 7, 6]
def pow10 : List Value := [.int .u64 1, .int .u64 10, .int .u64 100, .int .u64 1000, .int .u64 10000, .int .u64 100000, .int .u64 1000000, .int .u64 10000000, .int .u64 100000000, .int .u64 1000000000, .int .u64 10000000000, .int .u64 100000000000, .int .u64 1000000000000, .int .u64 10000000000000, .int .u64 100000000000000, .int .u64 1000000000000000, .int .u64 10000000000000000, .int .u64 100000000000000000, .int .u64 1000000000000000000, .int .u64 10000000000000000000]
def tab32 : List Value := [.int .u8 0, .int .u8 1, .int .u8 28, .int .u8 2, .int .u8 29, .int .u8 14, .int .u8 24, .int .u8 3, .int .u8 30, .int .u8 22, .int .u8 20, .int .u8 15, .int .u8 25, .int .u8 17, .int .u8 4, .int .u8 8, .int .u8 31, .int .u8 27, .int .u8 13, .int .u8 23, .int .u8 21, .int .u8 19, .int .u8 16, .int .u8 7, .int .u8 26, .int .u8 12, .int .u8 18, .int .u8 6, .int .u8 11, .int .u8 5, .int .u8 10, .int .u8 9]
def tab64 : List Value := [.int .u8 0, .int .u8 1, .int .u8 56, .int .u8 2, .int .u8 57, .int .u8 49, .int .u8 28, .int .u8 3, .int .u8 61, .int .u8 58, .int .u8 42, .int .u8 50, .int .u8 38, .int .u8 29, .int .u8 17, .int .u8 4, .int .u8 62, .int .u8 47, .int .u8 59, .int .u8 36, .int .u8 45, .int .u8 43, .int .u8 51, .int .u8 22, .int .u8 53, .int .u8 39, .int .u8 33, .int .u8 30, .int .u8 24, .int .u8 18, .int .u8 12, .int .u8 5, .int .u8 63, .int .u8 55, .int .u8 48, .int .u8 27, .int .u8 60, .int .u8 41, .int .u8 37, .int .u8 16, .int .u8 46, .int .u8 35, .int .u8 44, .int .u8 21, .int .u8 52, .int .u8 32, .int .u8 23, .int .u8 11, .int .u8 54, .int .u8 26, .int .u8 40, .int .u8 15, .int .u8 34, .int .u8 20, .int .u8 31, .int .u8 10, .int .u8 25, .int .u8 14, .int .u8 19, .int .u8 9, .int .u8 13, .int .u8 8, .int .u8 7, .int .u8 6]
theorem pow10_eq : pow10 = pow10Z.map (Value.int .u64) := rfl
theorem tab32_eq : tab32 = tab32Z.map (Value.int .u8) := rfl
theorem tab64_eq : tab64 = tab64Z.map (Value.int .u8) := rfl
abbrev gh : AHeap := [.cells pow10 true, .dead, .cells tab32 true, .cells tab64 true]
theorem awake_run (Q : Res → Prop) : ((((some (.slice none 0 0)) : Option Value) = (some (.slice none 0 0))) ∧ (((some (.slice (some ⟨13, 0, (some 1)⟩) 1 1)) : Option Value) = (some (.slice (some ⟨13, 0, (some 1)⟩) 1 1))) ∧ (((some (.slice none 0 0)) : Option Value) = (some (.slice none 0 0))) ∧ Q (.ret (.bool true))) =
    runS Tryd.prog [0, 2, 3] false [] 1000 (SpecC Tryd.prog [0, 2, 3]) 60 17 [] gh .norm (.go) (fun r _ _ _ => Q r) := by kernel_rfl
set_option maxRecDepth 100000 in
theorem awake_s : Fm.Spec Tryd.prog [0, 2, 3] 17 [] gh fun r _ => ∃ v, r = .ret v ∧ Flat v ∧ v = .bool true :=
  Spec.mono (spec_of_script Tryd.mixed (Eq.mp (awake_run fun r => r = .ret (.bool true)) ⟨rfl, rfl, rfl, rfl⟩)) (by rintro r h' rfl; exact ⟨_, rfl, .bool true, rfl⟩)
theorem awake_any (t : AHeap) : Fm.Spec Tryd.prog [0, 2, 3] 17 [] (.cells pow10 true :: .dead :: .cells tab32 true :: .cells tab64 true :: t) fun r h' => (∃ v, r = .ret v ∧ Flat v ∧ v = .bool true) ∧ h' = .cells pow10 true :: .dead :: .cells tab32 true :: .cells tab64 true :: t :=
  Spec.lift (h0 := gh) (Q := fun v => v = .bool true) awake_s (by simp) (fun g hg => hg) rfl (by
    intro g hg
    simp only [List.mem_cons, List.not_mem_nil, or_false] at hg
    rcases hg with rfl | rfl | rfl <;> simp) (by
    intro b o hb _
    match b, hb with
    | 0, hb => exact hb
    | 1, hb => exact hb
    | 2, hb => exact hb
    | 3, hb => exact hb
    | b + 4, hb => simp at hb) (by simp)
theorem awake_call (t : AHeap) {X : Prop} (hX : X) : SpecC Tryd.prog [0, 2, 3] (.fn 17) [] (.cells pow10 true :: .dead :: .cells tab32 true :: .cells tab64 true :: t)
    (fun r h' => ∃ ia, ((fun _ : Unit => (True, Res.ret (.bool true), .cells pow10 true :: .dead :: .cells tab32 true :: .cells tab64 true :: t)) ia).1 ∧ r = ((fun _ : Unit => (True, Res.ret (.bool true), (.cells pow10 true :: .dead :: .cells tab32 true :: .cells tab64 true :: t : AHeap))) ia).2.1 ∧
      h' = ((fun _ : Unit => (True, Res.ret (.bool true), (.cells pow10 true :: .dead :: .cells tab32 true :: .cells tab64 true :: t : AHeap))) ia).2.2) ∧ ∀ _ : Unit, True → X := by
  refine ⟨.inl (Spec.mono (awake_any t) ?_), fun _ _ => hX⟩
  rintro r h' ⟨⟨v, rfl, _, rfl⟩, rfl⟩
  exact ⟨(), trivial, rfl, rfl⟩
theorem g0 : Tryd.prog.globalNamed "internal/strconv.uint64pow10" = some 0 := by kernel_rfl
theorem g2 : Tryd.prog.globalNamed "math/bits.deBruijn32tab" = some 2 := by kernel_rfl
theorem g3 : Tryd.prog.globalNamed "math/bits.deBruijn64tab" = some 3 := by kernel_rfl
theorem gt0 : (Tryd.prog.globals[0]?).map (·.type) = some 138 := by kernel_rfl
theorem gt2 : (Tryd.prog.globals[2]?).map (·.type) = some 147 := by kernel_rfl
theorem gt3 : (Tryd.prog.globals[3]?).map (·.type) = some 148 := by kernel_rfl
theorem tu138 : Tryd.prog.underlying 138 = some (.array 20 130) := by kernel_rfl
theorem tu147 : Tryd.prog.underlying 147 = some (.array 32 5) := by kernel_rfl
theorem tu148 : Tryd.prog.underlying 148 = some (.array 64 5) := by kernel_rfl
theorem tuE : Tryd.prog.underlying 130 = some (.int .u64) := by kernel_rfl
theorem c5 : Tryd.prog.cellsOf 5 = 1 := by kernel_rfl
theorem cE : Tryd.prog.cellsOf 130 = 1 := by kernel_rfl
abbrev laidL : List (String × DataW Unit) := [("math/bits.deBruijn32tab", Rows.laid_math_bits_deBruijn32tab), ("math/bits.deBruijn64tab", Rows.laid_math_bits_deBruijn64tab), ("internal/strconv.uint64pow10", Rows.laid_internal_strconv_uint64pow10)]
def gj : Inj
  | 0 => some ⟨0, 0, 20, 1, 0⟩
  | 2 => some ⟨2, 0, 32, 1, 0⟩
  | 3 => some ⟨3, 0, 64, 1, 0⟩
  | _ => none
theorem flat_ints (k : IntKind) (zs : List Int) : ∀ v ∈ zs.map (Value.int k), Flat v := by
  intro v hv; obtain ⟨z, _, rfl⟩ := List.mem_map.1 hv; exact .int _ _
theorem begins {W : World} (h : laidMetH Tryd.prog laidL W) : Sim (allBelow W) W gj gh W := by
  rw [MakeChecks.laidMetH_plain _ _ _ (by kernel_rfl)] at h
  obtain ⟨ps, ⟨b2, t2, cs2, f2, p2, q2, hg2, ht2, hv2, hd2, ⟨b3, t3, cs3, f3, p3, q3, hg3, ht3, hv3, hd3, ⟨b0, t0, cs0, f0, p0, q0, hg0, ht0, hv0, hd0, _, _⟩, _⟩, _⟩, _, _⟩ := h
  obtain rfl := Option.some.inj (g0.symm.trans hg0)
  obtain rfl := Option.some.inj (g2.symm.trans hg2)
  obtain rfl := Option.some.inj (g3.symm.trans hg3)
  obtain rfl := Option.some.inj (gt0.symm.trans ht0)
  obtain rfl := Option.some.inj (gt2.symm.trans ht2)
  obtain rfl := Option.some.inj (gt3.symm.trans ht3)
  have e0 : cs0.toList.take 20 = pow10Z.map (Value.int .u64) := laid_ints tu138 tuE cE hd0 rfl
  have e2 : cs2.toList.take 32 = tab32Z.map (Value.int .u8) := laid_ints tu147 ty_u5 c5 hd2 rfl
  have e3 : cs3.toList.take 64 = tab64Z.map (Value.int .u8) := laid_ints tu148 ty_u5 c5 hd3 rfl
  refine Sim.ro W ?_ ?_ ?_
  · intro b L hb
    match b, hb with
    | 0, _ => simp
    | 1, hb => cases hb
    | 2, _ => simp
    | 3, _ => simp
    | b + 4, hb => cases hb
  · intro b L hb
    match b, hb with
    | 0, hb => injection hb with hb; subst hb; exact laid_obj (tab := pow10) (by rw [pow10_eq]; exact flat_ints _ _) g0 hv0 e0 rfl gj
    | 1, hb => cases hb
    | 2, hb => injection hb with hb; subst hb; exact laid_obj (tab := tab32) (by rw [tab32_eq]; exact flat_ints _ _) g2 hv2 e2 rfl gj
    | 3, hb => injection hb with hb; subst hb; exact laid_obj (tab := tab64) (by rw [tab64_eq]; exact flat_ints _ _) g3 hv3 e3 rfl gj
    | b + 4, hb => cases hb
  · intro b hr
    match b, hr with
    | 0, hr => cases hr
    | 1, hr => exact hr
    | 2, hr => cases hr
    | 3, hr => cases hr
    | b + 4, hr => exact hr
theorem begins_glob : GlobR [0, 2, 3] gj := by
  intro g hg
  simp only [List.mem_cons, List.not_mem_nil, or_false] at hg
  rcases hg with rfl | rfl | rfl
  · exact ⟨_, rfl, rfl, rfl⟩
  · exact ⟨_, rfl, rfl, rfl⟩
  · exact ⟨_, rfl, rfl, rfl⟩
theorem door_met (os : Os) (args : Array Value) : laidMetH Tryd.prog laidL ((World.doorLaid Tryd.prog 400 os).forCall (fun _ _ => 0) ⟨#[], args, []⟩).memory :=
  laidMetH_of_parts3 (fuel := 8) (laidMet_of_run' 8 (by kernel_rfl) (by kernel_rfl)) (by kernel_rfl) (by kernel_rfl)
end Go.Proofs.YtopladipgobpjaaDoor
