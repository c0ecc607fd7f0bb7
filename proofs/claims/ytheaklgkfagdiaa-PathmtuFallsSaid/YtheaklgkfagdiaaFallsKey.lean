/-
  PathmtuFalls: an address as a map's key: it is found again. No condition.
-/
import Derived.Test.YtheaklgkfagdiaaFallsRun
import Derived.IntWalk
namespace Go.Proofs.Ytheaklgkfagdiaa
open Go.Fm

theorem u50 : Try.prog.underlying 50 = some (.map 25 64) := by kernel_rfl
theorem u25 : Try.prog.underlying 25 = some (.array 16 5) := by kernel_rfl
theorem u26 : Try.prog.underlying 26 = some (.slice 3) := by kernel_rfl
theorem s5 : semPure Try.prog (sizeOf 5) = some 1 := by kernel_rfl
theorem s3 : aSize Try.prog 3 = some 1 := by kernel_rfl
theorem a3 : aIsAgg Try.prog 3 = some false := by kernel_rfl

section
variable (d0 d1 d2 d3 d4 d5 d6 d7 d8 d9 d10 d11 d12 d13 d14 d15 : Int)

theorem key_check : aCheckKey Try.prog false 25 (.agg ⟨dl d0 d1 d2 d3 d4 d5 d6 d7 d8 d9 d10 d11 d12 d13 d14 d15⟩) = true := by kernel_rfl
theorem key_flat : flatB (.agg ⟨dl d0 d1 d2 d3 d4 d5 d6 d7 d8 d9 d10 d11 d12 d13 d14 d15⟩) = true := by kernel_rfl
theorem key_item0 : ((semPure Try.prog (part 5 ⟨dl d0 d1 d2 d3 d4 d5 d6 d7 d8 d9 d10 d11 d12 d13 d14 d15⟩ (0 * 1))).bind fun a => (semPure Try.prog (part 5 ⟨dl d0 d1 d2 d3 d4 d5 d6 d7 d8 d9 d10 d11 d12 d13 d14 d15⟩ (0 * 1))).bind fun b => semPure Try.prog (Op.equalIn 9999 5 a b)) = some true :=
  (show _ = some (d0 == d0) by kernel_rfl).trans (by simp)
theorem key_item1 : ((semPure Try.prog (part 5 ⟨dl d0 d1 d2 d3 d4 d5 d6 d7 d8 d9 d10 d11 d12 d13 d14 d15⟩ (1 * 1))).bind fun a => (semPure Try.prog (part 5 ⟨dl d0 d1 d2 d3 d4 d5 d6 d7 d8 d9 d10 d11 d12 d13 d14 d15⟩ (1 * 1))).bind fun b => semPure Try.prog (Op.equalIn 9999 5 a b)) = some true :=
  (show _ = some (d1 == d1) by kernel_rfl).trans (by simp)
theorem key_item2 : ((semPure Try.prog (part 5 ⟨dl d0 d1 d2 d3 d4 d5 d6 d7 d8 d9 d10 d11 d12 d13 d14 d15⟩ (2 * 1))).bind fun a => (semPure Try.prog (part 5 ⟨dl d0 d1 d2 d3 d4 d5 d6 d7 d8 d9 d10 d11 d12 d13 d14 d15⟩ (2 * 1))).bind fun b => semPure Try.prog (Op.equalIn 9999 5 a b)) = some true :=
  (show _ = some (d2 == d2) by kernel_rfl).trans (by simp)
theorem key_item3 : ((semPure Try.prog (part 5 ⟨dl d0 d1 d2 d3 d4 d5 d6 d7 d8 d9 d10 d11 d12 d13 d14 d15⟩ (3 * 1))).bind fun a => (semPure Try.prog (part 5 ⟨dl d0 d1 d2 d3 d4 d5 d6 d7 d8 d9 d10 d11 d12 d13 d14 d15⟩ (3 * 1))).bind fun b => semPure Try.prog (Op.equalIn 9999 5 a b)) = some true :=
  (show _ = some (d3 == d3) by kernel_rfl).trans (by simp)
theorem key_item4 : ((semPure Try.prog (part 5 ⟨dl d0 d1 d2 d3 d4 d5 d6 d7 d8 d9 d10 d11 d12 d13 d14 d15⟩ (4 * 1))).bind fun a => (semPure Try.prog (part 5 ⟨dl d0 d1 d2 d3 d4 d5 d6 d7 d8 d9 d10 d11 d12 d13 d14 d15⟩ (4 * 1))).bind fun b => semPure Try.prog (Op.equalIn 9999 5 a b)) = some true :=
  (show _ = some (d4 == d4) by kernel_rfl).trans (by simp)
theorem key_item5 : ((semPure Try.prog (part 5 ⟨dl d0 d1 d2 d3 d4 d5 d6 d7 d8 d9 d10 d11 d12 d13 d14 d15⟩ (5 * 1))).bind fun a => (semPure Try.prog (part 5 ⟨dl d0 d1 d2 d3 d4 d5 d6 d7 d8 d9 d10 d11 d12 d13 d14 d15⟩ (5 * 1))).bind fun b => semPure Try.prog (Op.equalIn 9999 5 a b)) = some true :=
  (show _ = some (d5 == d5) by kernel_rfl).trans (by simp)
theorem key_item6 : ((semPure Try.prog (part 5 ⟨dl d0 d1 d2 d3 d4 d5 d6 d7 d8 d9 d10 d11 d12 d13 d14 d15⟩ (6 * 1))).bind fun a => (semPure Try.prog (part 5 ⟨dl d0 d1 d2 d3 d4 d5 d6 d7 d8 d9 d10 d11 d12 d13 d14 d15⟩ (6 * 1))).bind fun b => semPure Try.prog (Op.equalIn 9999 5 a b)) = some true :=
  (show _ = some (d6 == d6) by kernel_rfl).trans (by simp)
theorem key_item7 : ((semPure Try.prog (part 5 ⟨dl d0 d1 d2 d3 d4 d5 d6 d7 d8 d9 d10 d11 d12 d13 d14 d15⟩ (7 * 1))).bind fun a => (semPure Try.prog (part 5 ⟨dl d0 d1 d2 d3 d4 d5 d6 d7 d8 d9 d10 d11 d12 d13 d14 d15⟩ (7 * 1))).bind fun b => semPure Try.prog (Op.equalIn 9999 5 a b)) = some true :=
  (show _ = some (d7 == d7) by kernel_rfl).trans (by simp)
theorem key_item8 : ((semPure Try.prog (part 5 ⟨dl d0 d1 d2 d3 d4 d5 d6 d7 d8 d9 d10 d11 d12 d13 d14 d15⟩ (8 * 1))).bind fun a => (semPure Try.prog (part 5 ⟨dl d0 d1 d2 d3 d4 d5 d6 d7 d8 d9 d10 d11 d12 d13 d14 d15⟩ (8 * 1))).bind fun b => semPure Try.prog (Op.equalIn 9999 5 a b)) = some true :=
  (show _ = some (d8 == d8) by kernel_rfl).trans (by simp)
theorem key_item9 : ((semPure Try.prog (part 5 ⟨dl d0 d1 d2 d3 d4 d5 d6 d7 d8 d9 d10 d11 d12 d13 d14 d15⟩ (9 * 1))).bind fun a => (semPure Try.prog (part 5 ⟨dl d0 d1 d2 d3 d4 d5 d6 d7 d8 d9 d10 d11 d12 d13 d14 d15⟩ (9 * 1))).bind fun b => semPure Try.prog (Op.equalIn 9999 5 a b)) = some true :=
  (show _ = some (d9 == d9) by kernel_rfl).trans (by simp)
theorem key_item10 : ((semPure Try.prog (part 5 ⟨dl d0 d1 d2 d3 d4 d5 d6 d7 d8 d9 d10 d11 d12 d13 d14 d15⟩ (10 * 1))).bind fun a => (semPure Try.prog (part 5 ⟨dl d0 d1 d2 d3 d4 d5 d6 d7 d8 d9 d10 d11 d12 d13 d14 d15⟩ (10 * 1))).bind fun b => semPure Try.prog (Op.equalIn 9999 5 a b)) = some true :=
  (show _ = some (d10 == d10) by kernel_rfl).trans (by simp)
theorem key_item11 : ((semPure Try.prog (part 5 ⟨dl d0 d1 d2 d3 d4 d5 d6 d7 d8 d9 d10 d11 d12 d13 d14 d15⟩ (11 * 1))).bind fun a => (semPure Try.prog (part 5 ⟨dl d0 d1 d2 d3 d4 d5 d6 d7 d8 d9 d10 d11 d12 d13 d14 d15⟩ (11 * 1))).bind fun b => semPure Try.prog (Op.equalIn 9999 5 a b)) = some true :=
  (show _ = some (d11 == d11) by kernel_rfl).trans (by simp)
theorem key_item12 : ((semPure Try.prog (part 5 ⟨dl d0 d1 d2 d3 d4 d5 d6 d7 d8 d9 d10 d11 d12 d13 d14 d15⟩ (12 * 1))).bind fun a => (semPure Try.prog (part 5 ⟨dl d0 d1 d2 d3 d4 d5 d6 d7 d8 d9 d10 d11 d12 d13 d14 d15⟩ (12 * 1))).bind fun b => semPure Try.prog (Op.equalIn 9999 5 a b)) = some true :=
  (show _ = some (d12 == d12) by kernel_rfl).trans (by simp)
theorem key_item13 : ((semPure Try.prog (part 5 ⟨dl d0 d1 d2 d3 d4 d5 d6 d7 d8 d9 d10 d11 d12 d13 d14 d15⟩ (13 * 1))).bind fun a => (semPure Try.prog (part 5 ⟨dl d0 d1 d2 d3 d4 d5 d6 d7 d8 d9 d10 d11 d12 d13 d14 d15⟩ (13 * 1))).bind fun b => semPure Try.prog (Op.equalIn 9999 5 a b)) = some true :=
  (show _ = some (d13 == d13) by kernel_rfl).trans (by simp)
theorem key_item14 : ((semPure Try.prog (part 5 ⟨dl d0 d1 d2 d3 d4 d5 d6 d7 d8 d9 d10 d11 d12 d13 d14 d15⟩ (14 * 1))).bind fun a => (semPure Try.prog (part 5 ⟨dl d0 d1 d2 d3 d4 d5 d6 d7 d8 d9 d10 d11 d12 d13 d14 d15⟩ (14 * 1))).bind fun b => semPure Try.prog (Op.equalIn 9999 5 a b)) = some true :=
  (show _ = some (d14 == d14) by kernel_rfl).trans (by simp)
theorem key_item15 : ((semPure Try.prog (part 5 ⟨dl d0 d1 d2 d3 d4 d5 d6 d7 d8 d9 d10 d11 d12 d13 d14 d15⟩ (15 * 1))).bind fun a => (semPure Try.prog (part 5 ⟨dl d0 d1 d2 d3 d4 d5 d6 d7 d8 d9 d10 d11 d12 d13 d14 d15⟩ (15 * 1))).bind fun b => semPure Try.prog (Op.equalIn 9999 5 a b)) = some true :=
  (show _ = some (d15 == d15) by kernel_rfl).trans (by simp)

theorem key_eq : keyEq Try.prog 25 (.agg ⟨dl d0 d1 d2 d3 d4 d5 d6 d7 d8 d9 d10 d11 d12 d13 d14 d15⟩) (.agg ⟨dl d0 d1 d2 d3 d4 d5 d6 d7 d8 d9 d10 d11 d12 d13 d14 d15⟩) = some true := by
  refine keyEq_array _ _ 1 u25 s5 fun i hi => ?_
  match i, hi with
  | 0, _ => exact key_item0 d0 d1 d2 d3 d4 d5 d6 d7 d8 d9 d10 d11 d12 d13 d14 d15
  | 1, _ => exact key_item1 d0 d1 d2 d3 d4 d5 d6 d7 d8 d9 d10 d11 d12 d13 d14 d15
  | 2, _ => exact key_item2 d0 d1 d2 d3 d4 d5 d6 d7 d8 d9 d10 d11 d12 d13 d14 d15
  | 3, _ => exact key_item3 d0 d1 d2 d3 d4 d5 d6 d7 d8 d9 d10 d11 d12 d13 d14 d15
  | 4, _ => exact key_item4 d0 d1 d2 d3 d4 d5 d6 d7 d8 d9 d10 d11 d12 d13 d14 d15
  | 5, _ => exact key_item5 d0 d1 d2 d3 d4 d5 d6 d7 d8 d9 d10 d11 d12 d13 d14 d15
  | 6, _ => exact key_item6 d0 d1 d2 d3 d4 d5 d6 d7 d8 d9 d10 d11 d12 d13 d14 d15
  | 7, _ => exact key_item7 d0 d1 d2 d3 d4 d5 d6 d7 d8 d9 d10 d11 d12 d13 d14 d15
  | 8, _ => exact key_item8 d0 d1 d2 d3 d4 d5 d6 d7 d8 d9 d10 d11 d12 d13 d14 d15
  | 9, _ => exact key_item9 d0 d1 d2 d3 d4 d5 d6 d7 d8 d9 d10 d11 d12 d13 d14 d15
  | 10, _ => exact key_item10 d0 d1 d2 d3 d4 d5 d6 d7 d8 d9 d10 d11 d12 d13 d14 d15
  | 11, _ => exact key_item11 d0 d1 d2 d3 d4 d5 d6 d7 d8 d9 d10 d11 d12 d13 d14 d15
  | 12, _ => exact key_item12 d0 d1 d2 d3 d4 d5 d6 d7 d8 d9 d10 d11 d12 d13 d14 d15
  | 13, _ => exact key_item13 d0 d1 d2 d3 d4 d5 d6 d7 d8 d9 d10 d11 d12 d13 d14 d15
  | 14, _ => exact key_item14 d0 d1 d2 d3 d4 d5 d6 d7 d8 d9 d10 d11 d12 d13 d14 d15
  | 15, _ => exact key_item15 d0 d1 d2 d3 d4 d5 d6 d7 d8 d9 d10 d11 d12 d13 d14 d15
  | n + 16, h => omega

theorem key_same : Instr.sameBits 10000 (.agg ⟨dl d0 d1 d2 d3 d4 d5 d6 d7 d8 d9 d10 d11 d12 d13 d14 d15⟩) (.agg ⟨dl d0 d1 d2 d3 d4 d5 d6 d7 d8 d9 d10 d11 d12 d13 d14 d15⟩) = true := by
  simp [Instr.sameBits]

end

theorem wrap_c {c : Int} (h1 : ¬ c < 1) (h2 : ¬ c > 2147483648) : IntKind.i64.wrap (0 + c) = c := by
  rw [IntWalk.i64_in _ (by omega)]; omega
theorem wrap_i {i : Int} (h1 : 0 ≤ i) (h2 : i ≤ 200) : IntKind.i64.wrap (i + 1) = i + 1 := IntWalk.i64_in _ (by omega)

end Go.Proofs.Ytheaklgkfagdiaa
