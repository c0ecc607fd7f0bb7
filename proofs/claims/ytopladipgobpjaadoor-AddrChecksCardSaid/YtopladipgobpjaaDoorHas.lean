/-
  Contract of function 24: which addresses a prefix of 4 bytes has. No condition but that bytes are bytes.
-/
import Derived.Test.YtopladipgobpjaaDoorChk
namespace Go.Proofs.YtopladipgobpjaaDoor
open Go.Fm

def qhas (a0 a1 a2 a3 an b0 b1 b2 b3 : Int) (i : Int) : Prop × St := (0 ≤ an ∧ an ≤ 32 ∧ 0 ≤ i ∧ i ≤ an ∧ ∀ k : Nat, k < i.toNat → bitI [a0, a1, a2, a3] k = bitI [b0, b1, b2, b3] k, ⟨[(9, .int .i64 i), (8, .int .i64 an), (0, .slice (some ⟨0, 0, none⟩) 4 4), (1, .slice (some ⟨1, 0, none⟩) 4 4)], [], [.cells [.int .u8 a0, .int .u8 a1, .int .u8 a2, .int .u8 a3, .int .i64 an] false, .cells [.int .u8 b0, .int .u8 b1, .int .u8 b2, .int .u8 b3] false], .norm⟩)
def mhas (_a0 _a1 _a2 _a3 _an _b0 _b1 _b2 _b3 : Int) (i : Int) : Nat := (32 - i).toNat

theorem runhas (a0 a1 a2 a3 an b0 b1 b2 b3 : Int) (Q : Res → AHeap → Prop) : ((SpecC Tryd.prog [] (.fn 39) [(.agg ⟨[(.int .u8 a0), (.int .u8 a1), (.int .u8 a2), (.int .u8 a3), (.int .i64 an)]⟩)] [.cells [(.int .u8 a0), (.int .u8 a1), (.int .u8 a2), (.int .u8 a3), (.int .i64 an)] false, .cells [(.int .u8 b0), (.int .u8 b1), (.int .u8 b2), (.int .u8 b3)] false] (fun r h' => ∃ ia, ((fun _ : Unit => (True, Res.ret (.int .i64 (chk [a0, a1, a2, a3] an)), ([.cells [(.int .u8 a0), (.int .u8 a1), (.int .u8 a2), (.int .u8 a3), (.int .i64 an)] false, .cells [(.int .u8 b0), (.int .u8 b1), (.int .u8 b2), (.int .u8 b3)] false] : AHeap))) ia).1 ∧ r = ((fun _ : Unit => (True, Res.ret (.int .i64 (chk [a0, a1, a2, a3] an)), ([.cells [(.int .u8 a0), (.int .u8 a1), (.int .u8 a2), (.int .u8 a3), (.int .i64 an)] false, .cells [(.int .u8 b0), (.int .u8 b1), (.int .u8 b2), (.int .u8 b3)] false] : AHeap))) ia).2.1 ∧ h' = ((fun _ : Unit => (True, Res.ret (.int .i64 (chk [a0, a1, a2, a3] an)), ([.cells [(.int .u8 a0), (.int .u8 a1), (.int .u8 a2), (.int .u8 a3), (.int .i64 an)] false, .cells [(.int .u8 b0), (.int .u8 b1), (.int .u8 b2), (.int .u8 b3)] false] : AHeap))) ia).2.2) ∧ ∀ _ : Unit, True → 
  (((chk [a0, a1, a2, a3] an != 0) = true → Q (.ret (.tuple ⟨[(.bool false), (.int .i64 (chk [a0, a1, a2, a3] an))]⟩)) [.cells [(.int .u8 a0), (.int .u8 a1), (.int .u8 a2), (.int .u8 a3), (.int .i64 an)] false, .cells [(.int .u8 b0), (.int .u8 b1), (.int .u8 b2), (.int .u8 b3)] false]) ∧
   ((chk [a0, a1, a2, a3] an != 0) = false → 
    ((∃ ia, ((qhas a0 a1 a2 a3 an b0 b1 b2 b3 ia).fst) ∧ Gc [] 2 ⟨[(9, (.int .i64 0)), (8, (.int .i64 an)), (6, (.bool false)), (0, (.slice (some ⟨0, 0, none⟩) 4 4)), (1, (.slice (some ⟨1, 0, none⟩) 4 4)), (2, (.int .i64 an))], [], [.cells [(.int .u8 a0), (.int .u8 a1), (.int .u8 a2), (.int .u8 a3), (.int .i64 an)] false, .cells [(.int .u8 b0), (.int .u8 b1), (.int .u8 b2), (.int .u8 b3)] false], .norm⟩ ((qhas a0 a1 a2 a3 an b0 b1 b2 b3 ia).snd)) ∧
     ∀ i1, (qhas a0 a1 a2 a3 an b0 b1 b2 b3 i1).fst → 
      (((decide (i1 < an)) = true → 
        ∀ z2 : Int, z2 = (IntKind.i64.wrap (i1.tdiv 8)) → 
        ((aIndexAddr Tryd.prog 90 (.slice (some ⟨0, 0, none⟩) 4 4) (.int .i64 z2) = some (.pointer (some ⟨0, 0 + z2.toNat * 1, none⟩))) ∧ 
        ((∃ z3 : Int, aLoad Tryd.prog 5 (.pointer (some ⟨0, 0 + z2.toNat * 1, none⟩)) [.cells [(.int .u8 a0), (.int .u8 a1), (.int .u8 a2), (.int .u8 a3), (.int .i64 an)] false, .cells [(.int .u8 b0), (.int .u8 b1), (.int .u8 b2), (.int .u8 b3)] false] = some (.int .u8 z3)) ∧ ∀ z3 : Int, aLoad Tryd.prog 5 (.pointer (some ⟨0, 0 + z2.toNat * 1, none⟩)) [.cells [(.int .u8 a0), (.int .u8 a1), (.int .u8 a2), (.int .u8 a3), (.int .i64 an)] false, .cells [(.int .u8 b0), (.int .u8 b1), (.int .u8 b2), (.int .u8 b3)] false] = some (.int .u8 z3) → 
        ∀ z4 : Int, z4 = (IntKind.i64.wrap (i1.tdiv 8)) → 
        ((aIndexAddr Tryd.prog 90 (.slice (some ⟨1, 0, none⟩) 4 4) (.int .i64 z4) = some (.pointer (some ⟨1, 0 + z4.toNat * 1, none⟩))) ∧ 
        ((∃ z5 : Int, aLoad Tryd.prog 5 (.pointer (some ⟨1, 0 + z4.toNat * 1, none⟩)) [.cells [(.int .u8 a0), (.int .u8 a1), (.int .u8 a2), (.int .u8 a3), (.int .i64 an)] false, .cells [(.int .u8 b0), (.int .u8 b1), (.int .u8 b2), (.int .u8 b3)] false] = some (.int .u8 z5)) ∧ ∀ z5 : Int, aLoad Tryd.prog 5 (.pointer (some ⟨1, 0 + z4.toNat * 1, none⟩)) [.cells [(.int .u8 a0), (.int .u8 a1), (.int .u8 a2), (.int .u8 a3), (.int .i64 an)] false, .cells [(.int .u8 b0), (.int .u8 b1), (.int .u8 b2), (.int .u8 b3)] false] = some (.int .u8 z5) → 
        ∀ z6 : Int, z6 = (IntKind.u8.wrap ↑(BitVec.ofInt IntKind.u8.bits z3 ^^^ BitVec.ofInt IntKind.u8.bits z5).toNat) → 
        ∀ z7 : Int, z7 = (i1.tmod 8) → 
        ∀ z8 : Int, z8 = (IntKind.i64.wrap (7 - z7)) → 
        ((∃ z9 : Int, aBin2 Tryd.prog BinOp.shr 5 (Operand.tmp 22) (Operand.tmp 25) (.int .u8 z6) (.int .i64 z8) = some (.int .u8 z9)) ∧ ∀ z9 : Int, aBin2 Tryd.prog BinOp.shr 5 (Operand.tmp 22) (Operand.tmp 25) (.int .u8 z6) (.int .i64 z8) = some (.int .u8 z9) → 
        ∀ z10 : Int, z10 = (IntKind.u8.wrap ↑(BitVec.ofInt IntKind.u8.bits z9 &&& BitVec.ofInt IntKind.u8.bits 1).toNat) → 
        (((z10 != 0) = true → Q (.ret (.tuple ⟨[(.bool false), (.int .i64 0)]⟩)) [.cells [(.int .u8 a0), (.int .u8 a1), (.int .u8 a2), (.int .u8 a3), (.int .i64 an)] false, .cells [(.int .u8 b0), (.int .u8 b1), (.int .u8 b2), (.int .u8 b3)] false]) ∧
         ((z10 != 0) = false → 
          ∀ z11 : Int, z11 = (IntKind.i64.wrap (i1 + 1)) → (∃ ia', ((qhas a0 a1 a2 a3 an b0 b1 b2 b3 ia').fst) ∧ (mhas a0 a1 a2 a3 an b0 b1 b2 b3 ia' < mhas a0 a1 a2 a3 an b0 b1 b2 b3 i1) ∧ Gc [] 2 ⟨[(9, (.int .i64 z11)), (29, (.int .i64 z11)), (28, (.bool false)), (27, (.int .u8 z10)), (26, (.int .u8 z9)), (25, (.int .i64 z8)), (24, (.int .i64 z7)), (23, (.int .i64 i1)), (22, (.int .u8 z6)), (21, (.int .u8 z5)), (20, (.pointer (some ⟨1, 0 + z4.toNat * 1, none⟩))), (19, (.int .i64 z4)), (18, (.int .i64 i1)), (17, (.slice (some ⟨1, 0, none⟩) 4 4)), (16, (.int .u8 z3)), (15, (.pointer (some ⟨0, 0 + z2.toNat * 1, none⟩))), (14, (.int .i64 z2)), (13, (.int .i64 i1)), (12, (.slice (some ⟨0, 0, none⟩) 4 4)), (7, (.int .i64 i1)), (11, (.int .i64 i1)), (10, (.bool true)), (9, (.int .i64 i1)), (8, (.int .i64 an)), (0, (.slice (some ⟨0, 0, none⟩) 4 4)), (1, (.slice (some ⟨1, 0, none⟩) 4 4))], [], [.cells [(.int .u8 a0), (.int .u8 a1), (.int .u8 a2), (.int .u8 a3), (.int .i64 an)] false, .cells [(.int .u8 b0), (.int .u8 b1), (.int .u8 b2), (.int .u8 b3)] false], .norm⟩ ((qhas a0 a1 a2 a3 an b0 b1 b2 b3 ia').snd)))))))))) ∧
       ((decide (i1 < an)) = false → Q (.ret (.tuple ⟨[(.bool true), (.int .i64 0)]⟩)) [.cells [(.int .u8 a0), (.int .u8 a1), (.int .u8 a2), (.int .u8 a3), (.int .i64 an)] false, .cells [(.int .u8 b0), (.int .u8 b1), (.int .u8 b2), (.int .u8 b3)] false]))))))) =
    runS Tryd.prog [] false [39] 0 (SpecC Tryd.prog []) 20 24 [.agg ⟨[.int .u8 a0, .int .u8 a1, .int .u8 a2, .int .u8 a3, .int .i64 an]⟩, .agg ⟨[.int .u8 b0, .int .u8 b1, .int .u8 b2, .int .u8 b3]⟩] [] .norm (.skip 5 (.call Unit (fun _ : Unit => (True, Res.ret (.int .i64 (chk [a0, a1, a2, a3] an)), ([.cells [(.int .u8 a0), (.int .u8 a1), (.int .u8 a2), (.int .u8 a3), (.int .i64 an)] false, .cells [(.int .u8 b0), (.int .u8 b1), (.int .u8 b2), (.int .u8 b3)] false] : AHeap))) fun _ => .skip 2 (.ask (.go) (.skip 10 (.inv _ (qhas a0 a1 a2 a3 an b0 b1 b2 b3) (mhas a0 a1 a2 a3 an b0 b1 b2 b3) fun _i1 => .skip 0 (.ask (.skip 5 (.all (fun z2 => .skip 0 (.val (.pointer (some ⟨0, 0 + z2.toNat * 1, none⟩)) (.skip 0 (.gen Int (fun x => .int .u8 x) fun _z3 => .skip 2 (.all (fun z4 => .skip 0 (.val (.pointer (some ⟨1, 0 + z4.toNat * 1, none⟩)) (.skip 0 (.gen Int (fun x => .int .u8 x) fun _z5 => .skip 0 (.all (fun _z6 => .skip 1 (.all (fun _z7 => .skip 0 (.all (fun _z8 => .skip 0 (.gen Int (fun x => .int .u8 x) fun _z9 => .skip 0 (.all (fun _z10 => .skip 0 (.ask (.go) (.skip 1 (.all (fun _z11 => .go)))))))))))))))))))))))) (.go))))))) (fun r _ h _ => Q r h) := by kernel_rfl

set_option maxRecDepth 100000 in
theorem has_run (a0 a1 a2 a3 an b0 b1 b2 b3 : Int) (ha : Bytes [a0, a1, a2, a3]) (hb : Bytes [b0, b1, b2, b3]) : Fm.Spec Tryd.prog [] 24 [.agg ⟨[.int .u8 a0, .int .u8 a1, .int .u8 a2, .int .u8 a3, .int .i64 an]⟩, .agg ⟨[.int .u8 b0, .int .u8 b1, .int .u8 b2, .int .u8 b3]⟩] [] fun r _ => r = .ret (.tuple ⟨[.bool (hasV [a0, a1, a2, a3] an [b0, b1, b2, b3]), .int .i64 (chk [a0, a1, a2, a3] an)]⟩) := by
  refine spec_of_script Tryd.mixed (Eq.mp (runhas a0 a1 a2 a3 an b0 b1 b2 b3 fun r _ => r = .ret (.tuple ⟨[.bool (hasV [a0, a1, a2, a3] an [b0, b1, b2, b3]), .int .i64 (chk [a0, a1, a2, a3] an)]⟩)) ?_)
  refine (chk_fun a0 a1 a2 a3 an ha).call (one_mem (flat_bytes [a0, a1, a2, a3] [.int .i64 an] (flat_int _ _))) ?_
  refine ⟨fun h0 => ?_, fun h0 => ?_⟩
  · have h0 : chk [a0, a1, a2, a3] an ≠ 0 := by simpa using h0
    show Res.ret (.tuple ⟨[.bool false, .int .i64 (chk [a0, a1, a2, a3] an)]⟩) = .ret (.tuple ⟨[.bool (hasV [a0, a1, a2, a3] an [b0, b1, b2, b3]), .int .i64 (chk [a0, a1, a2, a3] an)]⟩)
    rw [show hasV [a0, a1, a2, a3] an [b0, b1, b2, b3] = false by unfold hasV; rw [decide_eq_false h0, Bool.false_and]]
  have h0 : chk [a0, a1, a2, a3] an = 0 := by simpa using h0
  obtain ⟨w0, w1, _⟩ := chk_zero.1 h0
  simp only [List.length_cons, List.length_nil] at w1
  refine ⟨⟨0, ⟨w0, by omega, Int.le_refl _, w0, fun k hk => by omega⟩, Gc.env ⟨rfl, rfl, rfl, rfl, trivial⟩⟩, fun i hi => ?_⟩
  obtain ⟨g0, g1, g2, g2', g3⟩ := hi
  refine ⟨fun hlt => ?_, fun hge => ?_⟩
  · have hlt : i < an := of_decide_eq_true hlt
    intro z2 hz2
    rw [div8 (by omega) (by omega)] at hz2
    subst hz2
    have hk : i.toNat / 8 < [a0, a1, a2, a3].length := by simp only [List.length_cons, List.length_nil]; omega
    have hk' : i.toNat / 8 < [b0, b1, b2, b3].length := by simp only [List.length_cons, List.length_nil]; omega
    refine ⟨aIndexAddr_slice ty_u90 ty_s5 (by omega) (by omega), ?_⟩
    rw [Int.toNat_natCast]
    have hl : aLoad Tryd.prog 5 (.pointer (some ⟨0, 0 + i.toNat / 8 * 1, none⟩)) [.cells [.int .u8 a0, .int .u8 a1, .int .u8 a2, .int .u8 a3, .int .i64 an] false, .cells [.int .u8 b0, .int .u8 b1, .int .u8 b2, .int .u8 b3] false] = some (.int .u8 ([a0, a1, a2, a3].getD (i.toNat / 8) 0)) :=
      ld8 (l := [a0, a1, a2, a3]) (rest := [.int .i64 an]) ty_a5 rfl hk
    refine ⟨⟨_, hl⟩, fun z4 hz4 => ?_⟩
    rw [hl] at hz4
    injection hz4 with hz4; injection hz4 with _ hz4; subst hz4
    intro z2 hz2
    rw [div8 (by omega) (by omega)] at hz2
    subst hz2
    refine ⟨aIndexAddr_slice ty_u90 ty_s5 (by omega) (by omega), ?_⟩
    rw [Int.toNat_natCast]
    have hl' : aLoad Tryd.prog 5 (.pointer (some ⟨1, 0 + i.toNat / 8 * 1, none⟩)) [.cells [.int .u8 a0, .int .u8 a1, .int .u8 a2, .int .u8 a3, .int .i64 an] false, .cells [.int .u8 b0, .int .u8 b1, .int .u8 b2, .int .u8 b3] false] = some (.int .u8 ([b0, b1, b2, b3].getD (i.toNat / 8) 0)) :=
      ld8 (l := [b0, b1, b2, b3]) (rest := []) ty_a5 rfl hk'
    refine ⟨⟨_, hl'⟩, fun z4 hz4 => ?_⟩
    rw [hl'] at hz4
    injection hz4 with hz4; injection hz4 with _ hz4; subst hz4
    obtain ⟨hb0, hb1⟩ := ha.getD (i.toNat / 8)
    obtain ⟨hc0, hc1⟩ := hb.getD (i.toNat / 8)
    intro z7 hz7
    rw [xor_word hb0 hb1 hc0 hc1] at hz7
    subst hz7
    intro z5 hz5
    rw [mod8 (by omega)] at hz5
    subst hz5
    intro z6 hz6
    rw [sub7 _ (by omega)] at hz6
    subst hz6
    refine ⟨⟨_, aBin2_shr (by omega)⟩, fun z7 hz7 => ?_⟩
    rw [aBin2_shr (by omega)] at hz7
    injection hz7 with hz7; injection hz7 with _ hz7; subst hz7
    intro z8 hz8
    rw [xor_bit hb0 hb1 hc0 hc1 (by omega)] at hz8
    change z8 = if (bitI [a0, a1, a2, a3] i.toNat ^^ bitI [b0, b1, b2, b3] i.toNat) = true then 1 else 0 at hz8
    refine ⟨fun hne => ?_, fun heq z9 hz9 => ?_⟩
    · have hbit : (bitI [a0, a1, a2, a3] i.toNat ^^ bitI [b0, b1, b2, b3] i.toNat) = true := by
        by_cases hh : (bitI [a0, a1, a2, a3] i.toNat ^^ bitI [b0, b1, b2, b3] i.toNat) = true
        · exact hh
        · rw [if_neg hh] at hz8; subst hz8; simp at hne
      have hns : sameB [a0, a1, a2, a3] [b0, b1, b2, b3] an.toNat = false := by
        rw [Bool.eq_false_iff]; intro hs
        rw [sameB_iff] at hs
        rw [hs i.toNat (by omega)] at hbit
        simp at hbit
      show Res.ret (.tuple ⟨[.bool false, .int .i64 0]⟩) = .ret (.tuple ⟨[.bool (hasV [a0, a1, a2, a3] an [b0, b1, b2, b3]), .int .i64 (chk [a0, a1, a2, a3] an)]⟩)
      rw [show hasV [a0, a1, a2, a3] an [b0, b1, b2, b3] = false by unfold hasV; rw [hns, Bool.and_false], h0]
    · have hbit : bitI [a0, a1, a2, a3] i.toNat = bitI [b0, b1, b2, b3] i.toNat := by
        by_cases hh : (bitI [a0, a1, a2, a3] i.toNat ^^ bitI [b0, b1, b2, b3] i.toNat) = true
        · rw [if_pos hh] at hz8; subst hz8; simp at heq
        · simpa using hh
      rw [add1 (by omega) (by omega)] at hz9
      subst hz9
      refine ⟨i + 1, ⟨by omega, by omega, by omega, by omega, fun k k2 => ?_⟩, by show (32 - (i + 1)).toNat < (32 - i).toNat; omega, Gc.env ⟨rfl, rfl, rfl, rfl, trivial⟩⟩
      by_cases hk2 : k = i.toNat
      · subst hk2; exact hbit
      · exact g3 k (by omega)
  · have hge : ¬ i < an := of_decide_eq_false hge
    have hs : sameB [a0, a1, a2, a3] [b0, b1, b2, b3] an.toNat = true := sameB_iff.2 fun k hk => g3 k (by omega)
    show Res.ret (.tuple ⟨[.bool true, .int .i64 0]⟩) = .ret (.tuple ⟨[.bool (hasV [a0, a1, a2, a3] an [b0, b1, b2, b3]), .int .i64 (chk [a0, a1, a2, a3] an)]⟩)
    rw [show hasV [a0, a1, a2, a3] an [b0, b1, b2, b3] = true by unfold hasV; rw [hs, Bool.and_true, decide_eq_true h0], h0]

theorem has_fun (a0 a1 a2 a3 an b0 b1 b2 b3 : Int) (ha : Bytes [a0, a1, a2, a3]) (hb : Bytes [b0, b1, b2, b3]) : Fun 24 [.agg ⟨[.int .u8 a0, .int .u8 a1, .int .u8 a2, .int .u8 a3, .int .i64 an]⟩, .agg ⟨[.int .u8 b0, .int .u8 b1, .int .u8 b2, .int .u8 b3]⟩] (.tuple ⟨[.bool (hasV [a0, a1, a2, a3] an [b0, b1, b2, b3]), .int .i64 (chk [a0, a1, a2, a3] an)]⟩) :=
  Spec.mono (has_run a0 a1 a2 a3 an b0 b1 b2 b3 ha hb) fun _ _ e => ⟨_, e, .tuple (two_get (.bool _) (.int _ _)), rfl⟩

end Go.Proofs.YtopladipgobpjaaDoor
