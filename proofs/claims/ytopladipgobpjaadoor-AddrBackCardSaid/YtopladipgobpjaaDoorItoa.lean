/-
  strconv.Itoa of a number below 256: its decimal digits. No condition but the bounds.
-/
import Derived.Test.YtopladipgobpjaaDoorHex
namespace Go.Proofs.YtopladipgobpjaaDoor
open Go.Fm
def decL (n : Int) : List UInt8 :=
  if n < 10 then [UInt8.ofNat (48 + n).toNat] else if n < 100 then [UInt8.ofNat (48 + n / 10).toNat, UInt8.ofNat (48 + n % 10).toNat] else [UInt8.ofNat (48 + n / 100).toNat, UInt8.ofNat (48 + n / 10 % 10).toNat, UInt8.ofNat (48 + n % 10).toNat]
theorem decL_ne (n : Int) : decL n ≠ [] := by
  unfold decL; split <;> (try split) <;> simp
theorem decL_len (n : Int) : (decL n).length ≤ 3 := by
  unfold decL; split <;> (try split) <;> simp
def isS (r : Res) (l : List UInt8) : Bool := match r with
  | .ret (.string s) => s.data.toList == l
  | _ => false
theorem isS_spec {r : Res} {l : List UInt8} (h : isS r l = true) : r = .ret (.string (bs l)) := by
  unfold isS at h
  split at h
  · rename_i s
    have h : s.data.toList = l := by simpa using h
    rw [← h, bs_of]
  · cases h
theorem itoa_run0 : (List.range 32).all (fun k => runB Tryd.prog [0, 2, 3] 1000 60 56 [.int .i64 ((k + 0 : Nat) : Int)] gh .norm (fun r _ _ => isS r (decL ((k + 0 : Nat) : Int)))) = true := by kernel_rfl
theorem itoa_run1 : (List.range 32).all (fun k => runB Tryd.prog [0, 2, 3] 1000 60 56 [.int .i64 ((k + 32 : Nat) : Int)] gh .norm (fun r _ _ => isS r (decL ((k + 32 : Nat) : Int)))) = true := by kernel_rfl
theorem itoa_run2 : (List.range 32).all (fun k => runB Tryd.prog [0, 2, 3] 1000 60 56 [.int .i64 ((k + 64 : Nat) : Int)] gh .norm (fun r _ _ => isS r (decL ((k + 64 : Nat) : Int)))) = true := by kernel_rfl
theorem itoa_run3 : (List.range 32).all (fun k => runB Tryd.prog [0, 2, 3] 1000 60 56 [.int .i64 ((k + 96 : Nat) : Int)] gh .norm (fun r _ _ => isS r (decL ((k + 96 : Nat) : Int)))) = true := by kernel_rfl
theorem itoa_run4 : (List.range 32).all (fun k => runB Tryd.prog [0, 2, 3] 1000 60 56 [.int .i64 ((k + 128 : Nat) : Int)] gh .norm (fun r _ _ => isS r (decL ((k + 128 : Nat) : Int)))) = true := by kernel_rfl
theorem itoa_run5 : (List.range 32).all (fun k => runB Tryd.prog [0, 2, 3] 1000 60 56 [.int .i64 ((k + 160 : Nat) : Int)] gh .norm (fun r _ _ => isS r (decL ((k + 160 : Nat) : Int)))) = true := by kernel_rfl
theorem itoa_run6 : (List.range 32).all (fun k => runB Tryd.prog [0, 2, 3] 1000 60 56 [.int .i64 ((k + 192 : Nat) : Int)] gh .norm (fun r _ _ => isS r (decL ((k + 192 : Nat) : Int)))) = true := by kernel_rfl
theorem itoa_run7 : (List.range 32).all (fun k => runB Tryd.prog [0, 2, 3] 1000 60 56 [.int .i64 ((k + 224 : Nat) : Int)] gh .norm (fun r _ _ => isS r (decL ((k + 224 : Nat) : Int)))) = true := by kernel_rfl
theorem itoa_all (n : Nat) (h : n < 256) : runB Tryd.prog [0, 2, 3] 1000 60 56 [.int .i64 (n : Int)] gh .norm (fun r _ _ => isS r (decL (n : Int))) = true := by
  rcases (show (0 ≤ n ∧ n < 32) ∨ (32 ≤ n ∧ n < 64) ∨ (64 ≤ n ∧ n < 96) ∨ (96 ≤ n ∧ n < 128) ∨ (128 ≤ n ∧ n < 160) ∨ (160 ≤ n ∧ n < 192) ∨ (192 ≤ n ∧ n < 224) ∨ (224 ≤ n ∧ n < 256) by omega) with h | h | h | h | h | h | h | h
  · have := List.all_eq_true.1 itoa_run0 (n - 0) (List.mem_range.2 (by omega))
    rwa [show n - 0 + 0 = n by omega] at this
  · have := List.all_eq_true.1 itoa_run1 (n - 32) (List.mem_range.2 (by omega))
    rwa [show n - 32 + 32 = n by omega] at this
  · have := List.all_eq_true.1 itoa_run2 (n - 64) (List.mem_range.2 (by omega))
    rwa [show n - 64 + 64 = n by omega] at this
  · have := List.all_eq_true.1 itoa_run3 (n - 96) (List.mem_range.2 (by omega))
    rwa [show n - 96 + 96 = n by omega] at this
  · have := List.all_eq_true.1 itoa_run4 (n - 128) (List.mem_range.2 (by omega))
    rwa [show n - 128 + 128 = n by omega] at this
  · have := List.all_eq_true.1 itoa_run5 (n - 160) (List.mem_range.2 (by omega))
    rwa [show n - 160 + 160 = n by omega] at this
  · have := List.all_eq_true.1 itoa_run6 (n - 192) (List.mem_range.2 (by omega))
    rwa [show n - 192 + 192 = n by omega] at this
  · have := List.all_eq_true.1 itoa_run7 (n - 224) (List.mem_range.2 (by omega))
    rwa [show n - 224 + 224 = n by omega] at this
theorem itoa_spec {n : Int} (h0 : 0 ≤ n) (h1 : n < 256) : Fm.Spec Tryd.prog [0, 2, 3] 56 [.int .i64 n] gh fun r _ => ∃ u, r = .ret u ∧ Flat u ∧ u = .string (bs (decL n)) := by
  have hr := itoa_all n.toNat (by omega)
  rw [show ((n.toNat : Nat) : Int) = n by omega] at hr
  exact spec_of_run Tryd.mixed (Q := fun r _ => isS r (decL n)) (fun r _ e => ⟨_, isS_spec e, .string _, rfl⟩) hr
end Go.Proofs.YtopladipgobpjaaDoor
