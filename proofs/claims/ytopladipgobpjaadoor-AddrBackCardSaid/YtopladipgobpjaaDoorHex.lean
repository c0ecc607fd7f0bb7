/-
  strconv.FormatInt(n, 16) of a number below 65536: its digits. No condition but the bounds.
-/
import Derived.Test.YtopladipgobpjaaDoorBase
import Derived.Test.YtopladipgobpjaaDoorFmE
namespace Go.Proofs.YtopladipgobpjaaDoor
open Go.Fm
def dgs : List UInt8 := [48, 49, 50, 51, 52, 53, 54, 55, 56, 57, 97, 98, 99, 100, 101, 102, 103, 104, 105, 106, 107, 108, 109, 110, 111, 112, 113, 114, 115, 116, 117, 118, 119, 120, 121, 122]
def dg (d : Int) : UInt8 := dgs.getD d.toNat 0
def hexL (n : Int) : List UInt8 :=
  if n < 16 then [dg n] else if n < 256 then [dg (n / 16), dg (n % 16)] else if n < 4096 then [dg (n / 16 / 16), dg (n / 16 % 16), dg (n % 16)] else [dg (n / 16 / 16 / 16), dg (n / 16 / 16 % 16), dg (n / 16 % 16), dg (n % 16)]
theorem hexL_ne (n : Int) : hexL n ≠ [] := by
  unfold hexL; split <;> (try split) <;> (try split) <;> simp
theorem hexL_len (n : Int) : (hexL n).length ≤ 4 := by
  unfold hexL; split <;> (try split) <;> (try split) <;> simp
theorem ty_u9 : Tryd.prog.underlying 9 = some .string := by kernel_rfl
theorem dig_at {k : IntKind} {d : Int} (h0 : 0 ≤ d) (h1 : d < 16) : aIndex Tryd.prog 9 (.string (bs dgs)) (.int k d) = some (.int .u8 (dg d).toNat) :=
  aIndex_bs ty_u9 h0 (by simp only [dgs, List.length_cons, List.length_nil]; omega)
theorem dig_step {k : IntKind} {d : Int} (h0 : 0 ≤ d) (h1 : d < 16) {X : Int → Prop} (hX : X ((dg d).toNat : Int)) :
    (∃ z : Int, aIndex Tryd.prog 9 (.string (bs dgs)) (.int k d) = some (.int .u8 z)) ∧ ∀ z : Int, aIndex Tryd.prog 9 (.string (bs dgs)) (.int k d) = some (.int .u8 z) → X z := by
  refine ⟨⟨_, dig_at h0 h1⟩, fun z hz => ?_⟩
  rw [dig_at h0 h1] at hz
  injection hz with hz
  injection hz with _ hz
  rw [← hz]; exact hX
theorem ofNat_dg (d : Int) : UInt8.ofNat (Int.toNat ((dg d).toNat : Int)) = dg d := by simp
theorem low_fin : ∀ a : Fin 256, ∀ b : Fin 256, IntKind.u64.wrap ↑(BitVec.ofInt IntKind.u64.bits ((a.val * 256 + b.val : Nat) : Int) &&& BitVec.ofInt IntKind.u64.bits (Int.ofNat (14 + 1))).toNat = (((a.val * 256 + b.val) % 16 : Nat) : Int) := by
  decide +kernel
theorem low16 {x : Int} (h0 : 0 ≤ x) (h1 : x < 65536) : IntKind.u64.wrap ↑(BitVec.ofInt IntKind.u64.bits x &&& BitVec.ofInt IntKind.u64.bits (Int.ofNat (14 + 1))).toNat = x % 16 := by
  have := low_fin ⟨x.toNat / 256, by omega⟩ ⟨x.toNat % 256, by omega⟩
  simp only at this
  rw [show ((x.toNat / 256 * 256 + x.toNat % 256 : Nat) : Int) = x by omega] at this
  rw [this]; omega
theorem shr16 (x : Int) : x.fdiv (2 ^ Min.min (Int.ofNat (3 + 1)).toNat IntKind.u64.bits) = x / 16 :=
  Int.fdiv_eq_ediv_of_nonneg x (by decide)
theorem wrapu {x : Int} (h0 : 0 ≤ x) (h1 : x < 65536) : IntKind.u64.wrap x = x := by
  simp only [IntKind.wrap, IntKind.bits, IntKind.signed, Bool.false_and, Bool.false_eq_true, if_false]
  omega
theorem run_fmt (n : Int) (Q : Res → Prop) : (∀ z1 : Int, z1 = (IntKind.u64.wrap n) →
  (((decide (n < 0)) = true → False) ∧
   ((decide (n < 0)) = false →
    (((decide (z1 ≥ Int.ofNat (15 + 1))) = true →
      ∀ z2 : Int, z2 = (IntKind.u64.wrap (((BitVec.ofInt IntKind.u64.bits z1 &&& BitVec.ofInt IntKind.u64.bits (Int.ofNat (14 + 1))).toNat : Nat) : Int)) →
      ((∃ z3 : Int, aIndex Tryd.prog 9 (.string (bs dgs)) (.int .u64 z2) = some (.int .u8 z3)) ∧ ∀ z3 : Int, aIndex Tryd.prog 9 (.string (bs dgs)) (.int .u64 z2) = some (.int .u8 z3) →
      ∀ z4 : Int, z4 = (z1.fdiv (2 ^ Min.min (Int.ofNat (3 + 1)).toNat IntKind.u64.bits)) →
      (((decide (z4 ≥ Int.ofNat (15 + 1))) = true →
        ∀ z5 : Int, z5 = (IntKind.u64.wrap (((BitVec.ofInt IntKind.u64.bits z4 &&& BitVec.ofInt IntKind.u64.bits (Int.ofNat (14 + 1))).toNat : Nat) : Int)) →
        ((∃ z6 : Int, aIndex Tryd.prog 9 (.string (bs dgs)) (.int .u64 z5) = some (.int .u8 z6)) ∧ ∀ z6 : Int, aIndex Tryd.prog 9 (.string (bs dgs)) (.int .u64 z5) = some (.int .u8 z6) →
        ∀ z7 : Int, z7 = (z4.fdiv (2 ^ Min.min (Int.ofNat (3 + 1)).toNat IntKind.u64.bits)) →
        (((decide (z7 ≥ Int.ofNat (15 + 1))) = true →
          ∀ z8 : Int, z8 = (IntKind.u64.wrap (((BitVec.ofInt IntKind.u64.bits z7 &&& BitVec.ofInt IntKind.u64.bits (Int.ofNat (14 + 1))).toNat : Nat) : Int)) →
          ((∃ z9 : Int, aIndex Tryd.prog 9 (.string (bs dgs)) (.int .u64 z8) = some (.int .u8 z9)) ∧ ∀ z9 : Int, aIndex Tryd.prog 9 (.string (bs dgs)) (.int .u64 z8) = some (.int .u8 z9) →
          ∀ z10 : Int, z10 = (z7.fdiv (2 ^ Min.min (Int.ofNat (3 + 1)).toNat IntKind.u64.bits)) →
          (((decide (z10 ≥ Int.ofNat (15 + 1))) = true → False) ∧
           ((decide (z10 ≥ Int.ofNat (15 + 1))) = false →
            ((∃ z11 : Int, aIndex Tryd.prog 9 (.string (bs dgs)) (.int .u64 z10) = some (.int .u8 z11)) ∧ ∀ z11 : Int, aIndex Tryd.prog 9 (.string (bs dgs)) (.int .u64 z10) = some (.int .u8 z11) →
            (((some (.string ({ data := ((fun x => UInt8.ofNat z11.toNat :: x) ((fun x => UInt8.ofNat z9.toNat :: x) ((fun x => UInt8.ofNat z6.toNat :: x) ((fun x => UInt8.ofNat z3.toNat :: x) [])))).toArray })) : Option Value) = some (.string (bs ([UInt8.ofNat z11.toNat, UInt8.ofNat z9.toNat, UInt8.ofNat z6.toNat, UInt8.ofNat z3.toNat])))) ∧ Q (.ret (.string (bs ([UInt8.ofNat z11.toNat, UInt8.ofNat z9.toNat, UInt8.ofNat z6.toNat, UInt8.ofNat z3.toNat])))))))))) ∧
         ((decide (z7 ≥ Int.ofNat (15 + 1))) = false →
          ((∃ z8 : Int, aIndex Tryd.prog 9 (.string (bs dgs)) (.int .u64 z7) = some (.int .u8 z8)) ∧ ∀ z8 : Int, aIndex Tryd.prog 9 (.string (bs dgs)) (.int .u64 z7) = some (.int .u8 z8) →
          (((some (.string ({ data := ((fun x => UInt8.ofNat z8.toNat :: x) ((fun x => UInt8.ofNat z6.toNat :: x) ((fun x => UInt8.ofNat z3.toNat :: x) []))).toArray })) : Option Value) = some (.string (bs ([UInt8.ofNat z8.toNat, UInt8.ofNat z6.toNat, UInt8.ofNat z3.toNat])))) ∧ Q (.ret (.string (bs ([UInt8.ofNat z8.toNat, UInt8.ofNat z6.toNat, UInt8.ofNat z3.toNat])))))))))) ∧
       ((decide (z4 ≥ Int.ofNat (15 + 1))) = false →
        ((∃ z5 : Int, aIndex Tryd.prog 9 (.string (bs dgs)) (.int .u64 z4) = some (.int .u8 z5)) ∧ ∀ z5 : Int, aIndex Tryd.prog 9 (.string (bs dgs)) (.int .u64 z4) = some (.int .u8 z5) →
        (((some (.string ({ data := ((fun x => UInt8.ofNat z5.toNat :: x) ((fun x => UInt8.ofNat z3.toNat :: x) [])).toArray })) : Option Value) = some (.string (bs ([UInt8.ofNat z5.toNat, UInt8.ofNat z3.toNat])))) ∧ Q (.ret (.string (bs ([UInt8.ofNat z5.toNat, UInt8.ofNat z3.toNat])))))))))) ∧
     ((decide (z1 ≥ Int.ofNat (15 + 1))) = false →
      ((∃ z2 : Int, aIndex Tryd.prog 9 (.string (bs dgs)) (.int .u64 z1) = some (.int .u8 z2)) ∧ ∀ z2 : Int, aIndex Tryd.prog 9 (.string (bs dgs)) (.int .u64 z1) = some (.int .u8 z2) →
      (((some (.string ({ data := ((fun x => UInt8.ofNat z2.toNat :: x) []).toArray })) : Option Value) = some (.string (bs ([UInt8.ofNat z2.toNat])))) ∧ Q (.ret (.string (bs ([UInt8.ofNat z2.toNat]))))))))))) =
    runS Tryd.prog [0, 2, 3] false [] 1000 (SpecC Tryd.prog [0, 2, 3]) 20 67 [.int .i64 n, .int .i64 16] [.cells pow10 true, .dead, .cells tab32 true, .cells tab64 true] .norm (.skip 9 (.all (fun _z1 => .skip 2 (.ask (.skip 0 .go) (.skip 66 (.ask (.skip 7 (.all (fun _z2 => .skip 0 (.gen Int (fun x => .int .u8 x) fun z3 => .skip 4 (.all (fun _z4 => .skip 3 (.ask (.skip 7 (.all (fun _z5 => .skip 0 (.gen Int (fun x => .int .u8 x) fun z6 => .skip 4 (.all (fun _z7 => .skip 3 (.ask (.skip 7 (.all (fun _z8 => .skip 0 (.gen Int (fun x => .int .u8 x) fun z9 => .skip 4 (.all (fun _z10 => .skip 3 (.ask (.skip 0 .go) (.skip 6 (.gen Int (fun x => .int .u8 x) fun z11 => .skip 8 (.val (.string (bs ([UInt8.ofNat z11.toNat, UInt8.ofNat z9.toNat, UInt8.ofNat z6.toNat, UInt8.ofNat z3.toNat]))) (.go))))))))))) (.skip 6 (.gen Int (fun x => .int .u8 x) fun z8 => .skip 8 (.val (.string (bs ([UInt8.ofNat z8.toNat, UInt8.ofNat z6.toNat, UInt8.ofNat z3.toNat]))) (.go))))))))))) (.skip 6 (.gen Int (fun x => .int .u8 x) fun z5 => .skip 8 (.val (.string (bs ([UInt8.ofNat z5.toNat, UInt8.ofNat z3.toNat]))) (.go))))))))))) (.skip 6 (.gen Int (fun x => .int .u8 x) fun z2 => .skip 8 (.val (.string (bs ([UInt8.ofNat z2.toNat]))) (.go)))))))))) (fun r _ _ _ => Q r) := by kernel_rfl
set_option maxRecDepth 10000 in
theorem fmt_spec {n : Int} (h0 : 0 ≤ n) (h1 : n < 65536) : Fm.Spec Tryd.prog [0, 2, 3] 67 [.int .i64 n, .int .i64 16] gh fun r _ => ∃ u, r = .ret u ∧ Flat u ∧ u = .string (bs (hexL n)) := by
  suffices Fm.Spec Tryd.prog [0, 2, 3] 67 [.int .i64 n, .int .i64 16] gh fun r _ => r = .ret (.string (bs (hexL n))) by
    refine Spec.mono this ?_
    rintro r h' rfl
    exact ⟨_, rfl, .string _, rfl⟩
  refine spec_of_script Tryd.mixed (Eq.mp (run_fmt n fun r => r = .ret (.string (bs (hexL n)))) ?_)
  intro z1 hz1
  rw [wrapu h0 h1] at hz1; subst hz1
  refine ⟨fun h => by have := of_decide_eq_true h; omega, fun _ => ⟨fun ha => ?_, fun ha => ?_⟩⟩
  · have ha := of_decide_eq_true ha
    intro z2 hz2
    rw [low16 h0 h1] at hz2; subst hz2
    refine dig_step (by omega) (by omega) ?_
    intro z4 hz4
    rw [shr16] at hz4; subst hz4
    refine ⟨fun hb => ?_, fun hb => ?_⟩
    · have hb := of_decide_eq_true hb
      intro z5 hz5
      rw [low16 (by omega) (by omega)] at hz5; subst hz5
      refine dig_step (by omega) (by omega) ?_
      intro z7 hz7
      rw [shr16] at hz7; subst hz7
      refine ⟨fun hc => ?_, fun hc => ?_⟩
      · have hc := of_decide_eq_true hc
        intro z8 hz8
        rw [low16 (by omega) (by omega)] at hz8; subst hz8
        refine dig_step (by omega) (by omega) ?_
        intro z10 hz10
        rw [shr16] at hz10; subst hz10
        refine ⟨fun hd => by have := of_decide_eq_true hd; simp only [Int.ofNat_eq_natCast] at this; omega, fun hd => ?_⟩
        refine dig_step (by omega) (by omega) ?_
        refine ⟨rfl, ?_⟩
        simp only [ofNat_dg]
        simp only [Int.ofNat_eq_natCast] at ha hb hc
        rw [hexL, if_neg (by omega), if_neg (by omega), if_neg (by omega)]
      · have hc := of_decide_eq_false hc
        simp only [Int.ofNat_eq_natCast] at ha hb hc
        refine dig_step (by omega) (by omega) ?_
        refine ⟨rfl, ?_⟩
        simp only [ofNat_dg]
        rw [hexL, if_neg (by omega), if_neg (by omega), if_pos (by omega)]
    · have hb := of_decide_eq_false hb
      simp only [Int.ofNat_eq_natCast] at ha hb
      refine dig_step (by omega) (by omega) ?_
      refine ⟨rfl, ?_⟩
      simp only [ofNat_dg]
      rw [hexL, if_neg (by omega), if_pos (by omega)]
  · have ha := of_decide_eq_false ha
    simp only [Int.ofNat_eq_natCast] at ha
    refine dig_step (by omega) (by omega) ?_
    refine ⟨rfl, ?_⟩
    simp only [ofNat_dg]
    rw [hexL, if_pos (by omega)]
theorem lift_gh {f : FuncId} {args : List Value} {v : Value} (hs : Fm.Spec Tryd.prog [0, 2, 3] f args gh fun r _ => ∃ u, r = .ret u ∧ Flat u ∧ u = v) (ha : ∀ u ∈ args, Flat u) (t : AHeap) :
    Fm.Spec Tryd.prog [0, 2, 3] f args (.cells pow10 true :: .dead :: .cells tab32 true :: .cells tab64 true :: t) fun r h' => r = .ret v ∧ h' = .cells pow10 true :: .dead :: .cells tab32 true :: .cells tab64 true :: t := by
  refine Spec.mono (Spec.lift (gs' := [0, 2, 3]) (h := .cells pow10 true :: .dead :: .cells tab32 true :: .cells tab64 true :: t) (Q := fun u => u = v) hs ha (fun g hg => hg) rfl ?_ ?_ (by simp)) (by rintro r h' ⟨⟨u, rfl, _, rfl⟩, rfl⟩; exact ⟨rfl, rfl⟩)
  · intro g hg
    simp only [List.mem_cons, List.not_mem_nil, or_false] at hg
    rcases hg with rfl | rfl | rfl <;> simp
  · intro b o hb _
    match b, hb with
    | 0, hb => exact hb
    | 1, hb => exact hb
    | 2, hb => exact hb
    | 3, hb => exact hb
    | b + 4, hb => simp at hb
theorem lift_gh_call {f : FuncId} {args : List Value} {v : Value} (hs : Fm.Spec Tryd.prog [0, 2, 3] f args gh fun r _ => ∃ u, r = .ret u ∧ Flat u ∧ u = v) (ha : ∀ u ∈ args, Flat u) (t : AHeap) {X : Prop} (hX : X) :
    SpecC Tryd.prog [0, 2, 3] (.fn f) args (.cells pow10 true :: .dead :: .cells tab32 true :: .cells tab64 true :: t)
      (fun r h' => ∃ ia, ((fun _ : Unit => (True, Res.ret v, (.cells pow10 true :: .dead :: .cells tab32 true :: .cells tab64 true :: t : AHeap))) ia).1 ∧ r = ((fun _ : Unit => (True, Res.ret v, (.cells pow10 true :: .dead :: .cells tab32 true :: .cells tab64 true :: t : AHeap))) ia).2.1 ∧
        h' = ((fun _ : Unit => (True, Res.ret v, (.cells pow10 true :: .dead :: .cells tab32 true :: .cells tab64 true :: t : AHeap))) ia).2.2) ∧ ∀ _ : Unit, True → X :=
  ⟨.inl (Spec.mono (lift_gh hs ha t) (by rintro r h' ⟨rfl, rfl⟩; exact ⟨(), trivial, rfl, rfl⟩)), fun _ _ => hX⟩
end Go.Proofs.YtopladipgobpjaaDoor
