/-
  addr.groups: the eight groups of an address. No condition but that bytes are bytes.
-/
import Derived.Test.YtopladipgobpjaaDoorWords
namespace Go.Proofs.YtopladipgobpjaaDoor
open Go.Fm
def gg (a b : Int) : Int := a * 256 + b
theorem gg_lo {a b : Int} (ha : 0 ≤ a) (hb : 0 ≤ b) : 0 ≤ gg a b := by unfold gg; omega
theorem gg_hi {a b : Int} (ha : a < 256) (hb : b < 256) : gg a b < 65536 := by unfold gg; omega
theorem grp_fin : ∀ a : Fin 256, ∀ b : Fin 256, IntKind.i64.wrap ↑(BitVec.ofInt IntKind.i64.bits ((a.val * 256 : Nat) : Int) ||| BitVec.ofInt IntKind.i64.bits ((b.val : Nat) : Int)).toNat = ((a.val * 256 + b.val : Nat) : Int) := by
  decide +kernel
theorem wrapi {x : Int} (h0 : 0 ≤ x) (h1 : x < 2 ^ 40) : IntKind.i64.wrap x = x := by
  simp only [IntKind.wrap, IntKind.bits, IntKind.signed]
  simp; omega
theorem grp_step {a b : Int} (ha : 0 ≤ a ∧ a < 256) (hb : 0 ≤ b ∧ b < 256) {X : Int → Prop} (hX : X (gg a b)) :
    ∀ z1 : Int, z1 = (IntKind.i64.wrap a) → ∀ z2 : Int, z2 = (IntKind.i64.wrap (z1 * 2 ^ Min.min (Int.toNat 8) IntKind.i64.bits)) → ∀ z3 : Int, z3 = (IntKind.i64.wrap b) →
      ∀ z4 : Int, z4 = (IntKind.i64.wrap ↑(BitVec.ofInt IntKind.i64.bits z2 ||| BitVec.ofInt IntKind.i64.bits z3).toNat) → X z4 := by
  intro z1 h1 z2 h2 z3 h3 z4 h4
  rw [wrapi ha.1 (by omega)] at h1
  rw [wrapi hb.1 (by omega)] at h3
  rw [h1] at h2
  have e : a * 2 ^ Min.min (Int.toNat 8) IntKind.i64.bits = a * 256 := by
    have : (2 : Int) ^ Min.min (Int.toNat 8) IntKind.i64.bits = 256 := by decide
    rw [this]
  rw [e, wrapi (by omega) (by omega)] at h2
  have := grp_fin ⟨a.toNat, by omega⟩ ⟨b.toNat, by omega⟩
  simp only at this
  rw [show ((a.toNat * 256 : Nat) : Int) = a * 256 by omega, show ((b.toNat : Nat) : Int) = b by omega, show ((a.toNat * 256 + b.toNat : Nat) : Int) = gg a b by unfold gg; omega] at this
  rw [h4, h2, h3, this]
  exact hX
theorem run_groups (a0 a1 a2 a3 a4 a5 a6 a7 a8 a9 a10 a11 a12 a13 a14 a15 : Int) (Q : Res → Prop) : (∀ z1 : Int, z1 = (IntKind.i64.wrap a0) →
  ∀ z2 : Int, z2 = (IntKind.i64.wrap (z1 * 2 ^ Min.min (Int.toNat 8) IntKind.i64.bits)) →
  ∀ z3 : Int, z3 = (IntKind.i64.wrap a1) →
  ∀ z4 : Int, z4 = (IntKind.i64.wrap (((BitVec.ofInt IntKind.i64.bits z2 ||| BitVec.ofInt IntKind.i64.bits z3).toNat : Nat) : Int)) →
  ∀ z5 : Int, z5 = (IntKind.i64.wrap a2) →
  ∀ z6 : Int, z6 = (IntKind.i64.wrap (z5 * 2 ^ Min.min (Int.toNat 8) IntKind.i64.bits)) →
  ∀ z7 : Int, z7 = (IntKind.i64.wrap a3) →
  ∀ z8 : Int, z8 = (IntKind.i64.wrap (((BitVec.ofInt IntKind.i64.bits z6 ||| BitVec.ofInt IntKind.i64.bits z7).toNat : Nat) : Int)) →
  ∀ z9 : Int, z9 = (IntKind.i64.wrap a4) →
  ∀ z10 : Int, z10 = (IntKind.i64.wrap (z9 * 2 ^ Min.min (Int.toNat 8) IntKind.i64.bits)) →
  ∀ z11 : Int, z11 = (IntKind.i64.wrap a5) →
  ∀ z12 : Int, z12 = (IntKind.i64.wrap (((BitVec.ofInt IntKind.i64.bits z10 ||| BitVec.ofInt IntKind.i64.bits z11).toNat : Nat) : Int)) →
  ∀ z13 : Int, z13 = (IntKind.i64.wrap a6) →
  ∀ z14 : Int, z14 = (IntKind.i64.wrap (z13 * 2 ^ Min.min (Int.toNat 8) IntKind.i64.bits)) →
  ∀ z15 : Int, z15 = (IntKind.i64.wrap a7) →
  ∀ z16 : Int, z16 = (IntKind.i64.wrap (((BitVec.ofInt IntKind.i64.bits z14 ||| BitVec.ofInt IntKind.i64.bits z15).toNat : Nat) : Int)) →
  ∀ z17 : Int, z17 = (IntKind.i64.wrap a8) →
  ∀ z18 : Int, z18 = (IntKind.i64.wrap (z17 * 2 ^ Min.min (Int.toNat 8) IntKind.i64.bits)) →
  ∀ z19 : Int, z19 = (IntKind.i64.wrap a9) →
  ∀ z20 : Int, z20 = (IntKind.i64.wrap (((BitVec.ofInt IntKind.i64.bits z18 ||| BitVec.ofInt IntKind.i64.bits z19).toNat : Nat) : Int)) →
  ∀ z21 : Int, z21 = (IntKind.i64.wrap a10) →
  ∀ z22 : Int, z22 = (IntKind.i64.wrap (z21 * 2 ^ Min.min (Int.toNat 8) IntKind.i64.bits)) →
  ∀ z23 : Int, z23 = (IntKind.i64.wrap a11) →
  ∀ z24 : Int, z24 = (IntKind.i64.wrap (((BitVec.ofInt IntKind.i64.bits z22 ||| BitVec.ofInt IntKind.i64.bits z23).toNat : Nat) : Int)) →
  ∀ z25 : Int, z25 = (IntKind.i64.wrap a12) →
  ∀ z26 : Int, z26 = (IntKind.i64.wrap (z25 * 2 ^ Min.min (Int.toNat 8) IntKind.i64.bits)) →
  ∀ z27 : Int, z27 = (IntKind.i64.wrap a13) →
  ∀ z28 : Int, z28 = (IntKind.i64.wrap (((BitVec.ofInt IntKind.i64.bits z26 ||| BitVec.ofInt IntKind.i64.bits z27).toNat : Nat) : Int)) →
  ∀ z29 : Int, z29 = (IntKind.i64.wrap a14) →
  ∀ z30 : Int, z30 = (IntKind.i64.wrap (z29 * 2 ^ Min.min (Int.toNat 8) IntKind.i64.bits)) →
  ∀ z31 : Int, z31 = (IntKind.i64.wrap a15) →
  ∀ z32 : Int, z32 = (IntKind.i64.wrap (((BitVec.ofInt IntKind.i64.bits z30 ||| BitVec.ofInt IntKind.i64.bits z31).toNat : Nat) : Int)) → Q (.ret (.agg ⟨[(.int .i64 z4), (.int .i64 z8), (.int .i64 z12), (.int .i64 z16), (.int .i64 z20), (.int .i64 z24), (.int .i64 z28), (.int .i64 z32)]⟩))) =
    runS Tryd.prog [] false [] 1000 (SpecC Tryd.prog []) 20 62 [.agg ⟨[.int .u8 a0, .int .u8 a1, .int .u8 a2, .int .u8 a3, .int .u8 a4, .int .u8 a5, .int .u8 a6, .int .u8 a7, .int .u8 a8, .int .u8 a9, .int .u8 a10, .int .u8 a11, .int .u8 a12, .int .u8 a13, .int .u8 a14, .int .u8 a15]⟩] [] .norm (.skip 14 (.all (fun _z1 => .skip 0 (.all (fun _z2 => .skip 5 (.all (fun _z3 => .skip 0 (.all (fun _z4 => .skip 13 (.all (fun _z5 => .skip 0 (.all (fun _z6 => .skip 5 (.all (fun _z7 => .skip 0 (.all (fun _z8 => .skip 13 (.all (fun _z9 => .skip 0 (.all (fun _z10 => .skip 5 (.all (fun _z11 => .skip 0 (.all (fun _z12 => .skip 13 (.all (fun _z13 => .skip 0 (.all (fun _z14 => .skip 5 (.all (fun _z15 => .skip 0 (.all (fun _z16 => .skip 13 (.all (fun _z17 => .skip 0 (.all (fun _z18 => .skip 5 (.all (fun _z19 => .skip 0 (.all (fun _z20 => .skip 13 (.all (fun _z21 => .skip 0 (.all (fun _z22 => .skip 5 (.all (fun _z23 => .skip 0 (.all (fun _z24 => .skip 13 (.all (fun _z25 => .skip 0 (.all (fun _z26 => .skip 5 (.all (fun _z27 => .skip 0 (.all (fun _z28 => .skip 13 (.all (fun _z29 => .skip 0 (.all (fun _z30 => .skip 5 (.all (fun _z31 => .skip 0 (.all (fun _z32 => .go))))))))))))))))))))))))))))))))))))))))))))))))))))))))))))))))) (fun r _ _ _ => Q r) := by kernel_rfl
set_option maxRecDepth 10000 in
theorem groups_fun {a0 a1 a2 a3 a4 a5 a6 a7 a8 a9 a10 a11 a12 a13 a14 a15 : Int} (h0 : 0 ≤ a0 ∧ a0 < 256) (h1 : 0 ≤ a1 ∧ a1 < 256) (h2 : 0 ≤ a2 ∧ a2 < 256) (h3 : 0 ≤ a3 ∧ a3 < 256) (h4 : 0 ≤ a4 ∧ a4 < 256) (h5 : 0 ≤ a5 ∧ a5 < 256) (h6 : 0 ≤ a6 ∧ a6 < 256) (h7 : 0 ≤ a7 ∧ a7 < 256) (h8 : 0 ≤ a8 ∧ a8 < 256) (h9 : 0 ≤ a9 ∧ a9 < 256) (h10 : 0 ≤ a10 ∧ a10 < 256) (h11 : 0 ≤ a11 ∧ a11 < 256) (h12 : 0 ≤ a12 ∧ a12 < 256) (h13 : 0 ≤ a13 ∧ a13 < 256) (h14 : 0 ≤ a14 ∧ a14 < 256) (h15 : 0 ≤ a15 ∧ a15 < 256) : Fun 62 [.agg ⟨[.int .u8 a0, .int .u8 a1, .int .u8 a2, .int .u8 a3, .int .u8 a4, .int .u8 a5, .int .u8 a6, .int .u8 a7, .int .u8 a8, .int .u8 a9, .int .u8 a10, .int .u8 a11, .int .u8 a12, .int .u8 a13, .int .u8 a14, .int .u8 a15]⟩] (.agg ⟨[.int .i64 (gg a0 a1), .int .i64 (gg a2 a3), .int .i64 (gg a4 a5), .int .i64 (gg a6 a7), .int .i64 (gg a8 a9), .int .i64 (gg a10 a11), .int .i64 (gg a12 a13), .int .i64 (gg a14 a15)]⟩) := by
  unfold Fun
  suffices Fm.Spec Tryd.prog [] 62 [.agg ⟨[.int .u8 a0, .int .u8 a1, .int .u8 a2, .int .u8 a3, .int .u8 a4, .int .u8 a5, .int .u8 a6, .int .u8 a7, .int .u8 a8, .int .u8 a9, .int .u8 a10, .int .u8 a11, .int .u8 a12, .int .u8 a13, .int .u8 a14, .int .u8 a15]⟩] [] fun r _ => r = .ret (.agg ⟨[.int .i64 (gg a0 a1), .int .i64 (gg a2 a3), .int .i64 (gg a4 a5), .int .i64 (gg a6 a7), .int .i64 (gg a8 a9), .int .i64 (gg a10 a11), .int .i64 (gg a12 a13), .int .i64 (gg a14 a15)]⟩) by
    refine Spec.mono this ?_
    rintro r h' rfl
    refine ⟨_, rfl, ?_, rfl⟩
    refine .agg fun i u e => ?_
    have e' : ([.int .i64 (gg a0 a1), .int .i64 (gg a2 a3), .int .i64 (gg a4 a5), .int .i64 (gg a6 a7), .int .i64 (gg a8 a9), .int .i64 (gg a10 a11), .int .i64 (gg a12 a13), .int .i64 (gg a14 a15)] : List Value)[i]? = some u := by simpa using e
    have := List.mem_of_getElem? e'
    simp only [List.mem_cons, List.not_mem_nil, or_false] at this
    rcases this with rfl | rfl | rfl | rfl | rfl | rfl | rfl | rfl <;> exact .int _ _
  refine spec_of_script Tryd.mixed (Eq.mp (run_groups a0 a1 a2 a3 a4 a5 a6 a7 a8 a9 a10 a11 a12 a13 a14 a15 fun r => r = .ret (.agg ⟨[.int .i64 (gg a0 a1), .int .i64 (gg a2 a3), .int .i64 (gg a4 a5), .int .i64 (gg a6 a7), .int .i64 (gg a8 a9), .int .i64 (gg a10 a11), .int .i64 (gg a12 a13), .int .i64 (gg a14 a15)]⟩)) ?_)
  refine grp_step h0 h1 ?_
  refine grp_step h2 h3 ?_
  refine grp_step h4 h5 ?_
  refine grp_step h6 h7 ?_
  refine grp_step h8 h9 ?_
  refine grp_step h10 h11 ?_
  refine grp_step h12 h13 ?_
  refine grp_step h14 h15 ?_
  rfl
end Go.Proofs.YtopladipgobpjaaDoor
