/-
  Contract of function 39: which prefixes of 4 bytes may be. No condition but that bytes are bytes.
-/
import Derived.Test.YtopladipgobpjaaDoorWords
namespace Go.Proofs.YtopladipgobpjaaDoor
open Go.Fm

def qchk (a0 a1 a2 a3 n : Int) (i : Int) : Prop × St := (0 ≤ n ∧ n ≤ i ∧ i ≤ 32 ∧ ∀ k : Nat, n.toNat ≤ k → k < i.toNat → bitI [a0, a1, a2, a3] k = false, ⟨[(5, .int .i64 i), (4, .bool false), (0, .slice (some ⟨0, 0, none⟩) 4 4)], [], [.cells [.int .u8 a0, .int .u8 a1, .int .u8 a2, .int .u8 a3, .int .i64 n] false], .norm⟩)
def mchk (_a0 _a1 _a2 _a3 _n : Int) (i : Int) : Nat := (32 - i).toNat

theorem runchk (a0 a1 a2 a3 n : Int) (Q : Res → AHeap → Prop) : ((((decide (n < 0)) = true → Q (.ret (.int .i64 22)) [.cells [(.int .u8 a0), (.int .u8 a1), (.int .u8 a2), (.int .u8 a3), (.int .i64 n)] false]) ∧
   ((decide (n < 0)) = false → 
    (((decide (n > 32)) = true → Q (.ret (.int .i64 22)) [.cells [(.int .u8 a0), (.int .u8 a1), (.int .u8 a2), (.int .u8 a3), (.int .i64 n)] false]) ∧
     ((decide (n > 32)) = false → 
      ((∃ ia, ((qchk a0 a1 a2 a3 n ia).fst) ∧ Gc [] 1 ⟨[(5, (.int .i64 n)), (6, (.int .i64 n)), (4, (.bool false)), (0, (.slice (some ⟨0, 0, none⟩) 4 4)), (1, (.int .i64 n))], [], [.cells [(.int .u8 a0), (.int .u8 a1), (.int .u8 a2), (.int .u8 a3), (.int .i64 n)] false], .norm⟩ ((qchk a0 a1 a2 a3 n ia).snd)) ∧
       ∀ i1, (qchk a0 a1 a2 a3 n i1).fst → 
        (((decide (i1 < Int.ofNat (31 + 1))) = true → 
          ∀ z2 : Int, z2 = (IntKind.i64.wrap (i1.tdiv 8)) → 
          ((aIndexAddr Tryd.prog 90 (.slice (some ⟨0, 0, none⟩) 4 4) (.int .i64 z2) = some (.pointer (some ⟨0, 0 + z2.toNat * 1, none⟩))) ∧ 
          ((∃ z3 : Int, aLoad Tryd.prog 5 (.pointer (some ⟨0, 0 + z2.toNat * 1, none⟩)) [.cells [(.int .u8 a0), (.int .u8 a1), (.int .u8 a2), (.int .u8 a3), (.int .i64 n)] false] = some (.int .u8 z3)) ∧ ∀ z3 : Int, aLoad Tryd.prog 5 (.pointer (some ⟨0, 0 + z2.toNat * 1, none⟩)) [.cells [(.int .u8 a0), (.int .u8 a1), (.int .u8 a2), (.int .u8 a3), (.int .i64 n)] false] = some (.int .u8 z3) → 
          ∀ z4 : Int, z4 = (i1.tmod 8) → 
          ∀ z5 : Int, z5 = (IntKind.i64.wrap (7 - z4)) → 
          ((∃ z6 : Int, aBin2 Tryd.prog BinOp.shr 5 (Operand.tmp 18) (Operand.tmp 21) (.int .u8 z3) (.int .i64 z5) = some (.int .u8 z6)) ∧ ∀ z6 : Int, aBin2 Tryd.prog BinOp.shr 5 (Operand.tmp 18) (Operand.tmp 21) (.int .u8 z3) (.int .i64 z5) = some (.int .u8 z6) → 
          ∀ z7 : Int, z7 = (IntKind.u8.wrap ↑(BitVec.ofInt IntKind.u8.bits z6 &&& BitVec.ofInt IntKind.u8.bits 1).toNat) → 
          (((z7 != 0) = true → Q (.ret (.int .i64 22)) [.cells [(.int .u8 a0), (.int .u8 a1), (.int .u8 a2), (.int .u8 a3), (.int .i64 n)] false]) ∧
           ((z7 != 0) = false → 
            ∀ z8 : Int, z8 = (IntKind.i64.wrap (i1 + 1)) → (∃ ia', ((qchk a0 a1 a2 a3 n ia').fst) ∧ (mchk a0 a1 a2 a3 n ia' < mchk a0 a1 a2 a3 n i1) ∧ Gc [] 1 ⟨[(5, (.int .i64 z8)), (13, (.int .i64 z8)), (12, (.int .i64 i1)), (24, (.bool false)), (23, (.int .u8 z7)), (22, (.int .u8 z6)), (21, (.int .i64 z5)), (20, (.int .i64 z4)), (19, (.int .i64 i1)), (18, (.int .u8 z3)), (17, (.pointer (some ⟨0, 0 + z2.toNat * 1, none⟩))), (16, (.int .i64 z2)), (15, (.int .i64 i1)), (14, (.slice (some ⟨0, 0, none⟩) 4 4)), (11, (.bool true)), (10, (.int .i64 32)), (9, (.int .i64 4)), (8, (.slice (some ⟨0, 0, none⟩) 4 4)), (7, (.int .i64 i1)), (5, (.int .i64 i1)), (4, (.bool false)), (0, (.slice (some ⟨0, 0, none⟩) 4 4))], [], [.cells [(.int .u8 a0), (.int .u8 a1), (.int .u8 a2), (.int .u8 a3), (.int .i64 n)] false], .norm⟩ ((qchk a0 a1 a2 a3 n ia').snd)))))))) ∧
         ((decide (i1 < Int.ofNat (31 + 1))) = false → Q (.ret (.int .i64 0)) [.cells [(.int .u8 a0), (.int .u8 a1), (.int .u8 a2), (.int .u8 a3), (.int .i64 n)] false])))))))) =
    runS Tryd.prog [] false [] 0 (SpecC Tryd.prog []) 20 39 [.agg ⟨[.int .u8 a0, .int .u8 a1, .int .u8 a2, .int .u8 a3, .int .i64 n]⟩] [] .norm (.skip 4 (.ask (.go) (.skip 6 (.ask (.go) (.skip 15 (.inv _ (qchk a0 a1 a2 a3 n) (mchk a0 a1 a2 a3 n) fun _i1 => .skip 4 (.ask (.skip 3 (.all (fun z2 => .skip 0 (.val (.pointer (some ⟨0, 0 + z2.toNat * 1, none⟩)) (.skip 0 (.gen Int (fun x => .int .u8 x) fun _z3 => .skip 1 (.all (fun _z4 => .skip 0 (.all (fun _z5 => .skip 0 (.gen Int (fun x => .int .u8 x) fun _z6 => .skip 0 (.all (fun _z7 => .skip 0 (.ask (.go) (.skip 2 (.all (fun _z8 => .go))))))))))))))))) (.go)))))))) (fun r _ h _ => Q r h) := by kernel_rfl

set_option maxRecDepth 100000 in
theorem chk_run (a0 a1 a2 a3 n : Int) (hb : Bytes [a0, a1, a2, a3]) : Fm.Spec Tryd.prog [] 39 [.agg ⟨[.int .u8 a0, .int .u8 a1, .int .u8 a2, .int .u8 a3, .int .i64 n]⟩] [] fun r _ => r = .ret (.int .i64 (chk [a0, a1, a2, a3] n)) := by
  refine spec_of_script Tryd.mixed (Eq.mp (runchk a0 a1 a2 a3 n fun r _ => r = .ret (.int .i64 (chk [a0, a1, a2, a3] n))) ?_)
  refine ⟨fun h => ?_, fun h0 => ⟨fun h => ?_, fun h1 => ?_⟩⟩
  · have := of_decide_eq_true h
    show Res.ret (.int .i64 22) = _
    rw [chk, if_neg (by simp only [List.length_cons, List.length_nil]; omega)]
  · have := of_decide_eq_true h
    show Res.ret (.int .i64 22) = _
    rw [chk, if_neg (by simp only [List.length_cons, List.length_nil]; omega)]
  have h0 := of_decide_eq_false h0
  have h1 := of_decide_eq_false h1
  refine ⟨⟨n, ⟨by omega, Int.le_refl _, by omega, fun k h2 h3 => by omega⟩, Gc.env ⟨rfl, rfl, rfl, trivial⟩⟩, fun i hi => ?_⟩
  obtain ⟨g0, g1, g2, g3⟩ := hi
  refine ⟨fun hlt => ?_, fun hge => ?_⟩
  · have hlt : i < 32 := of_decide_eq_true hlt
    intro z2 hz2
    rw [div8 (by omega) (by omega)] at hz2
    subst hz2
    have hk : i.toNat / 8 < [a0, a1, a2, a3].length := by simp only [List.length_cons, List.length_nil]; omega
    refine ⟨aIndexAddr_slice ty_u90 ty_s5 (by omega) (by omega), ?_⟩
    rw [Int.toNat_natCast]
    have hl : aLoad Tryd.prog 5 (.pointer (some ⟨0, 0 + i.toNat / 8 * 1, none⟩)) [.cells [.int .u8 a0, .int .u8 a1, .int .u8 a2, .int .u8 a3, .int .i64 n] false] = some (.int .u8 ([a0, a1, a2, a3].getD (i.toNat / 8) 0)) :=
      ld8 (l := [a0, a1, a2, a3]) (rest := [.int .i64 n]) ty_a5 rfl hk
    refine ⟨⟨_, hl⟩, fun z4 hz4 => ?_⟩
    rw [hl] at hz4
    injection hz4 with hz4; injection hz4 with _ hz4; subst hz4
    obtain ⟨hb0, hb1⟩ := hb.getD (i.toNat / 8)
    intro z5 hz5
    rw [mod8 (by omega)] at hz5
    subst hz5
    intro z6 hz6
    rw [sub7 _ (by omega)] at hz6
    subst hz6
    refine ⟨⟨_, aBin2_shr (by omega)⟩, fun z7 hz7 => ?_⟩
    rw [aBin2_shr (by omega)] at hz7
    injection hz7 with hz7; injection hz7 with _ hz7; subst hz7
    intro z8 hz8
    rw [bit_word hb0 hb1 (by omega)] at hz8
    change z8 = if bitI [a0, a1, a2, a3] i.toNat = true then 1 else 0 at hz8
    refine ⟨fun hne => ?_, fun heq z9 hz9 => ?_⟩
    · show Res.ret (.int .i64 22) = _
      have hbit : bitI [a0, a1, a2, a3] i.toNat = true := by
        by_cases hh : bitI [a0, a1, a2, a3] i.toNat = true
        · exact hh
        · rw [if_neg hh] at hz8; subst hz8; simp at hne
      rw [chk, if_neg]
      rintro ⟨_, _, hlow⟩
      rw [lowB_iff] at hlow
      have := hlow i.toNat (by omega) (by simp only [List.length_cons, List.length_nil]; omega)
      rw [this] at hbit; cases hbit
    · have hbit : bitI [a0, a1, a2, a3] i.toNat = false := by
        by_cases hh : bitI [a0, a1, a2, a3] i.toNat = true
        · rw [if_pos hh] at hz8; subst hz8; simp at heq
        · simpa using hh
      rw [add1 (by omega) (by omega)] at hz9
      subst hz9
      refine ⟨i + 1, ⟨by omega, by omega, by omega, fun k k1 k2 => ?_⟩, by show (32 - (i + 1)).toNat < (32 - i).toNat; omega, Gc.env ⟨rfl, rfl, rfl, trivial⟩⟩
      by_cases hk2 : k = i.toNat
      · subst hk2; exact hbit
      · exact g3 k k1 (by omega)
  · have hge : ¬ i < 32 := of_decide_eq_false hge
    show Res.ret (.int .i64 0) = _
    rw [chk, if_pos]
    refine ⟨by omega, by simp only [List.length_cons, List.length_nil]; omega, ?_⟩
    rw [lowB_iff]
    intro k k1 k2
    simp only [List.length_cons, List.length_nil] at k2
    exact g3 k k1 (by omega)

theorem chk_fun (a0 a1 a2 a3 n : Int) (hb : Bytes [a0, a1, a2, a3]) : Fun 39 [.agg ⟨[.int .u8 a0, .int .u8 a1, .int .u8 a2, .int .u8 a3, .int .i64 n]⟩] (.int .i64 (chk [a0, a1, a2, a3] n)) :=
  Spec.mono (chk_run a0 a1 a2 a3 n hb) fun _ _ e => ⟨_, e, .int _ _, rfl⟩

end Go.Proofs.YtopladipgobpjaaDoor
