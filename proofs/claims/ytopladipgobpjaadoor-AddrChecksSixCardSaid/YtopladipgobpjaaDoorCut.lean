/-
  Contract of function 35: bits of 4 bytes turned from one on. No condition but that bytes are bytes.
-/
import Derived.Test.YtopladipgobpjaaDoorChk
namespace Go.Proofs.YtopladipgobpjaaDoor
open Go.Fm

def cutOk (l : List Int) (n : Int) : Prop := 0 ≤ n ∧ n ≤ 8 * l.length
instance (l : List Int) (n : Int) : Decidable (cutOk l n) := by unfold cutOk; infer_instance
def cutL (l : List Int) (n : Int) (j : Nat) : Int := if cutOk l n then (turnN clrB l n.toNat (8 * l.length - n.toNat)).getD j 0 else 0
def cutN (l : List Int) (n : Int) : Int := if cutOk l n then n else 0
def cutE (l : List Int) (n : Int) : Int := if cutOk l n then 0 else 5

def qcut (a0 a1 a2 a3 n : Int) (i : Int × (Nat → Int)) : Prop × St := (0 ≤ n ∧ n ≤ i.1 ∧ i.1 ≤ 32 ∧ [i.2 0, i.2 1, i.2 2, i.2 3] = turnN clrB [a0, a1, a2, a3] n.toNat (i.1 - n).toNat, ⟨[(4, .int .i64 i.1), (0, .slice (some ⟨0, 0, none⟩) 4 4)], [], [.cells [.int .u8 (i.2 0), .int .u8 (i.2 1), .int .u8 (i.2 2), .int .u8 (i.2 3)] false, .tcells [.int .u8 0, .int .u8 0, .int .u8 0, .int .u8 0, .int .i64 0] 39 (some 0)], .norm⟩)
def mcut (_a0 _a1 _a2 _a3 _n : Int) (i : Int × (Nat → Int)) : Nat := (32 - i.1).toNat

theorem runcut (a0 a1 a2 a3 n : Int) (Q : Res → AHeap → Prop) : ((((decide (n < 0)) = true → Q (.ret (.tuple ⟨[(.agg ⟨[(.int .u8 0), (.int .u8 0), (.int .u8 0), (.int .u8 0), (.int .i64 0)]⟩), (.int .i64 5)]⟩)) [.cells [(.int .u8 a0), (.int .u8 a1), (.int .u8 a2), (.int .u8 a3)] false, .tcells [(.int .u8 0), (.int .u8 0), (.int .u8 0), (.int .u8 0), (.int .i64 0)] 39 (some 0)]) ∧
   ((decide (n < 0)) = false → 
    (((decide (n > 32)) = true → Q (.ret (.tuple ⟨[(.agg ⟨[(.int .u8 0), (.int .u8 0), (.int .u8 0), (.int .u8 0), (.int .i64 0)]⟩), (.int .i64 5)]⟩)) [.cells [(.int .u8 a0), (.int .u8 a1), (.int .u8 a2), (.int .u8 a3)] false, .tcells [(.int .u8 0), (.int .u8 0), (.int .u8 0), (.int .u8 0), (.int .i64 0)] 39 (some 0)]) ∧
     ((decide (n > 32)) = false → 
      ((∃ ia, ((qcut a0 a1 a2 a3 n ia).fst) ∧ Gc [] 2 ⟨[(4, (.int .i64 n)), (5, (.int .i64 n)), (0, (.slice (some ⟨0, 0, none⟩) 4 4)), (1, (.int .i64 n))], [], [.cells [(.int .u8 a0), (.int .u8 a1), (.int .u8 a2), (.int .u8 a3)] false, .tcells [(.int .u8 0), (.int .u8 0), (.int .u8 0), (.int .u8 0), (.int .i64 0)] 39 (some 0)], .norm⟩ ((qcut a0 a1 a2 a3 n ia).snd)) ∧
       ∀ i1, (qcut a0 a1 a2 a3 n i1).fst → 
        (((decide (i1.fst < Int.ofNat (31 + 1))) = true → 
          ∀ z2 : Int, z2 = (IntKind.i64.wrap (i1.fst.tdiv 8)) → 
          ((aIndexAddr Tryd.prog 90 (.slice (some ⟨0, 0, none⟩) 4 4) (.int .i64 z2) = some (.pointer (some ⟨0, 0 + z2.toNat * 1, none⟩))) ∧ 
          ((∃ z3 : Int, aLoad Tryd.prog 5 (.pointer (some ⟨0, 0 + z2.toNat * 1, none⟩)) [.cells [(.int .u8 (i1.snd 0)), (.int .u8 (i1.snd 1)), (.int .u8 (i1.snd 2)), (.int .u8 (i1.snd 3))] false, .tcells [(.int .u8 0), (.int .u8 0), (.int .u8 0), (.int .u8 0), (.int .i64 0)] 39 (some 0)] = some (.int .u8 z3)) ∧ ∀ z3 : Int, aLoad Tryd.prog 5 (.pointer (some ⟨0, 0 + z2.toNat * 1, none⟩)) [.cells [(.int .u8 (i1.snd 0)), (.int .u8 (i1.snd 1)), (.int .u8 (i1.snd 2)), (.int .u8 (i1.snd 3))] false, .tcells [(.int .u8 0), (.int .u8 0), (.int .u8 0), (.int .u8 0), (.int .i64 0)] 39 (some 0)] = some (.int .u8 z3) → 
          ∀ z4 : Int, z4 = (i1.fst.tmod 8) → 
          ∀ z5 : Int, z5 = (IntKind.i64.wrap (7 - z4)) → 
          ((∃ z6 : Int, aBin2 Tryd.prog BinOp.shl 5 (Operand.const (Go.Value.int IntKind.u8 1)) (Operand.tmp 20) (.int .u8 1) (.int .i64 z5) = some (.int .u8 z6)) ∧ ∀ z6 : Int, aBin2 Tryd.prog BinOp.shl 5 (Operand.const (Go.Value.int IntKind.u8 1)) (Operand.tmp 20) (.int .u8 1) (.int .i64 z5) = some (.int .u8 z6) → 
          ∀ z7 : Int, z7 = (IntKind.u8.wrap ↑(BitVec.ofInt IntKind.u8.bits z3 &&& ~~~BitVec.ofInt IntKind.u8.bits z6).toNat) → 
          ((aIndexAddr Tryd.prog 90 (.slice (some ⟨0, 0, none⟩) 4 4) (.int .i64 z2) = some (.pointer (some ⟨0, 0 + z2.toNat * 1, none⟩))) ∧ 
          ((((aStoreAt Tryd.prog 5 (.pointer (some ⟨0, 0 + z2.toNat * 1, none⟩)) (.int .u8 z7) [.cells [(.int .u8 (i1.snd 0)), (.int .u8 (i1.snd 1)), (.int .u8 (i1.snd 2)), (.int .u8 (i1.snd 3))] false, .tcells [(.int .u8 0), (.int .u8 0), (.int .u8 0), (.int .u8 0), (.int .i64 0)] 39 (some 0)]).map fun h => (undefV, h)) = some (undefV, ([.cells [(.int .u8 (([i1.snd 0, i1.snd 1, i1.snd 2, i1.snd 3].set (0 + z2.toNat * 1) z7).getD 0 0)), (.int .u8 (([i1.snd 0, i1.snd 1, i1.snd 2, i1.snd 3].set (0 + z2.toNat * 1) z7).getD 1 0)), (.int .u8 (([i1.snd 0, i1.snd 1, i1.snd 2, i1.snd 3].set (0 + z2.toNat * 1) z7).getD 2 0)), (.int .u8 (([i1.snd 0, i1.snd 1, i1.snd 2, i1.snd 3].set (0 + z2.toNat * 1) z7).getD 3 0))] false, .tcells [(.int .u8 0), (.int .u8 0), (.int .u8 0), (.int .u8 0), (.int .i64 0)] 39 (some 0)] : AHeap))) ∧ 
          ∀ z8 : Int, z8 = (IntKind.i64.wrap (i1.fst + 1)) → (∃ ia', ((qcut a0 a1 a2 a3 n ia').fst) ∧ (mcut a0 a1 a2 a3 n ia' < mcut a0 a1 a2 a3 n i1) ∧ Gc [] 2 ⟨[(4, (.int .i64 z8)), (12, (.int .i64 z8)), (11, (.int .i64 i1.fst)), (23, (.pointer (some ⟨0, 0 + z2.toNat * 1, none⟩))), (22, (.int .u8 z7)), (21, (.int .u8 z6)), (20, (.int .i64 z5)), (19, (.int .i64 z4)), (18, (.int .i64 i1.fst)), (17, (.int .u8 z3)), (16, (.pointer (some ⟨0, 0 + z2.toNat * 1, none⟩))), (15, (.int .i64 z2)), (14, (.int .i64 i1.fst)), (13, (.slice (some ⟨0, 0, none⟩) 4 4)), (10, (.bool true)), (9, (.int .i64 32)), (8, (.int .i64 4)), (7, (.slice (some ⟨0, 0, none⟩) 4 4)), (6, (.int .i64 i1.fst)), (4, (.int .i64 i1.fst)), (0, (.slice (some ⟨0, 0, none⟩) 4 4))], [], [.cells [(.int .u8 (([i1.snd 0, i1.snd 1, i1.snd 2, i1.snd 3].set (0 + z2.toNat * 1) z7).getD 0 0)), (.int .u8 (([i1.snd 0, i1.snd 1, i1.snd 2, i1.snd 3].set (0 + z2.toNat * 1) z7).getD 1 0)), (.int .u8 (([i1.snd 0, i1.snd 1, i1.snd 2, i1.snd 3].set (0 + z2.toNat * 1) z7).getD 2 0)), (.int .u8 (([i1.snd 0, i1.snd 1, i1.snd 2, i1.snd 3].set (0 + z2.toNat * 1) z7).getD 3 0))] false, .tcells [(.int .u8 0), (.int .u8 0), (.int .u8 0), (.int .u8 0), (.int .i64 0)] 39 (some 0)], .norm⟩ ((qcut a0 a1 a2 a3 n ia').snd)))))))) ∧
         ((decide (i1.fst < Int.ofNat (31 + 1))) = false → Q (.ret (.tuple ⟨[(.agg ⟨[(.int .u8 (i1.snd 0)), (.int .u8 (i1.snd 1)), (.int .u8 (i1.snd 2)), (.int .u8 (i1.snd 3)), (.int .i64 n)]⟩), (.int .i64 0)]⟩)) [.cells [(.int .u8 (i1.snd 0)), (.int .u8 (i1.snd 1)), (.int .u8 (i1.snd 2)), (.int .u8 (i1.snd 3))] false, .tcells [(.int .u8 (i1.snd 0)), (.int .u8 (i1.snd 1)), (.int .u8 (i1.snd 2)), (.int .u8 (i1.snd 3)), (.int .i64 n)] 39 (some 0)])))))))) =
    runS Tryd.prog [] false [] 0 (SpecC Tryd.prog []) 20 35 [.agg ⟨[.int .u8 a0, .int .u8 a1, .int .u8 a2, .int .u8 a3]⟩, .int .i64 n] [] .norm (.skip 4 (.ask (.go) (.skip 4 (.ask (.go) (.skip 7 (.inv _ (qcut a0 a1 a2 a3 n) (mcut a0 a1 a2 a3 n) fun i1 => .skip 4 (.ask (.skip 3 (.all (fun z2 => .skip 0 (.val (.pointer (some ⟨0, 0 + z2.toNat * 1, none⟩)) (.skip 0 (.gen Int (fun x => .int .u8 x) fun _z3 => .skip 1 (.all (fun _z4 => .skip 0 (.all (fun _z5 => .skip 0 (.gen Int (fun x => .int .u8 x) fun _z6 => .skip 0 (.all (fun z7 => .skip 0 (.val (.pointer (some ⟨0, 0 + z2.toNat * 1, none⟩)) (.skip 0 (.put undefV [.cells [(.int .u8 (([i1.snd 0, i1.snd 1, i1.snd 2, i1.snd 3].set (0 + z2.toNat * 1) z7).getD 0 0)), (.int .u8 (([i1.snd 0, i1.snd 1, i1.snd 2, i1.snd 3].set (0 + z2.toNat * 1) z7).getD 1 0)), (.int .u8 (([i1.snd 0, i1.snd 1, i1.snd 2, i1.snd 3].set (0 + z2.toNat * 1) z7).getD 2 0)), (.int .u8 (([i1.snd 0, i1.snd 1, i1.snd 2, i1.snd 3].set (0 + z2.toNat * 1) z7).getD 3 0))] false, .tcells [(.int .u8 0), (.int .u8 0), (.int .u8 0), (.int .u8 0), (.int .i64 0)] 39 (some 0)] (.skip 1 (.all (fun _z8 => .go))))))))))))))))))) (.go)))))))) (fun r _ h _ => Q r h) := by kernel_rfl

set_option maxRecDepth 100000 in
set_option maxHeartbeats 1000000 in
theorem cut_run (a0 a1 a2 a3 n : Int) (ha : Bytes [a0, a1, a2, a3]) : Fm.Spec Tryd.prog [] 35 [.agg ⟨[.int .u8 a0, .int .u8 a1, .int .u8 a2, .int .u8 a3]⟩, .int .i64 n] [] fun r _ => r = .ret (.tuple ⟨[.agg ⟨[.int .u8 (cutL [a0, a1, a2, a3] n 0), .int .u8 (cutL [a0, a1, a2, a3] n 1), .int .u8 (cutL [a0, a1, a2, a3] n 2), .int .u8 (cutL [a0, a1, a2, a3] n 3), .int .i64 (cutN [a0, a1, a2, a3] n)]⟩, .int .i64 (cutE [a0, a1, a2, a3] n)]⟩) := by
  refine spec_of_script Tryd.mixed (Eq.mp (runcut a0 a1 a2 a3 n fun r _ => r = .ret (.tuple ⟨[.agg ⟨[.int .u8 (cutL [a0, a1, a2, a3] n 0), .int .u8 (cutL [a0, a1, a2, a3] n 1), .int .u8 (cutL [a0, a1, a2, a3] n 2), .int .u8 (cutL [a0, a1, a2, a3] n 3), .int .i64 (cutN [a0, a1, a2, a3] n)]⟩, .int .i64 (cutE [a0, a1, a2, a3] n)]⟩)) ?_)
  refine ⟨fun h => ?_, fun h0 => ⟨fun h => ?_, fun h1 => ?_⟩⟩
  · have := of_decide_eq_true h
    show Res.ret (.tuple ⟨[.agg ⟨[.int .u8 0, .int .u8 0, .int .u8 0, .int .u8 0, .int .i64 0]⟩, .int .i64 5]⟩) = .ret (.tuple ⟨[.agg ⟨[.int .u8 (cutL [a0, a1, a2, a3] n 0), .int .u8 (cutL [a0, a1, a2, a3] n 1), .int .u8 (cutL [a0, a1, a2, a3] n 2), .int .u8 (cutL [a0, a1, a2, a3] n 3), .int .i64 (cutN [a0, a1, a2, a3] n)]⟩, .int .i64 (cutE [a0, a1, a2, a3] n)]⟩)
    have hc : ¬ cutOk [a0, a1, a2, a3] n := by unfold cutOk; simp only [List.length_cons, List.length_nil]; omega
    simp only [cutL, cutN, cutE, if_neg hc]
  · have := of_decide_eq_true h
    show Res.ret (.tuple ⟨[.agg ⟨[.int .u8 0, .int .u8 0, .int .u8 0, .int .u8 0, .int .i64 0]⟩, .int .i64 5]⟩) = .ret (.tuple ⟨[.agg ⟨[.int .u8 (cutL [a0, a1, a2, a3] n 0), .int .u8 (cutL [a0, a1, a2, a3] n 1), .int .u8 (cutL [a0, a1, a2, a3] n 2), .int .u8 (cutL [a0, a1, a2, a3] n 3), .int .i64 (cutN [a0, a1, a2, a3] n)]⟩, .int .i64 (cutE [a0, a1, a2, a3] n)]⟩)
    have hc : ¬ cutOk [a0, a1, a2, a3] n := by unfold cutOk; simp only [List.length_cons, List.length_nil]; omega
    simp only [cutL, cutN, cutE, if_neg hc]
  have h0 := of_decide_eq_false h0
  have h1 := of_decide_eq_false h1
  refine ⟨⟨(n, fun j => [a0, a1, a2, a3].getD j 0), ⟨by omega, Int.le_refl _, by omega, by rw [show (n - n).toNat = 0 by omega]; rfl⟩, Gc.env ⟨rfl, rfl, trivial⟩⟩, fun i hi => ?_⟩
  obtain ⟨i, g⟩ := i
  obtain ⟨g0, g1, g2, g3⟩ := hi
  simp only at g1 g2 g3
  have hg : Bytes [g 0, g 1, g 2, g 3] := by rw [g3]; exact clrN_bytes ha _ _
  refine ⟨fun hlt => ?_, fun hge => ?_⟩
  · have hlt : i < 32 := of_decide_eq_true hlt
    intro z2 hz2
    rw [div8 (by omega) (by omega)] at hz2
    subst hz2
    have hk : i.toNat / 8 < [g 0, g 1, g 2, g 3].length := by simp only [List.length_cons, List.length_nil]; omega
    simp only [Int.toNat_natCast]
    refine ⟨aIndexAddr_slice ty_u90 ty_s5 (by omega) (by omega), ?_⟩
    have hl : aLoad Tryd.prog 5 (.pointer (some ⟨0, 0 + i.toNat / 8 * 1, none⟩)) [.cells [.int .u8 (g 0), .int .u8 (g 1), .int .u8 (g 2), .int .u8 (g 3)] false, .tcells [.int .u8 0, .int .u8 0, .int .u8 0, .int .u8 0, .int .i64 0] 39 (some 0)] = some (.int .u8 ([g 0, g 1, g 2, g 3].getD (i.toNat / 8) 0)) :=
      ld8 (l := [g 0, g 1, g 2, g 3]) (rest := []) ty_a5 rfl hk
    refine ⟨⟨_, hl⟩, fun z4 hz4 => ?_⟩
    rw [hl] at hz4
    injection hz4 with hz4; injection hz4 with _ hz4; subst hz4
    obtain ⟨hb0, hb1⟩ := hg.getD (i.toNat / 8)
    intro z5 hz5
    rw [mod8 (by omega)] at hz5
    subst hz5
    intro z6 hz6
    rw [sub7 _ (by omega)] at hz6
    subst hz6
    refine ⟨⟨_, aBin2_shl (by omega)⟩, fun z7 hz7 => ?_⟩
    rw [aBin2_shl (by omega)] at hz7
    injection hz7 with hz7; injection hz7 with _ hz7
    rw [shl_word (by omega)] at hz7
    subst hz7
    intro z8 hz8
    rw [clr_word hb0 hb1 (by omega)] at hz8
    subst hz8
    refine ⟨aIndexAddr_slice ty_u90 ty_s5 (by omega) (by omega), ?_⟩
    refine ⟨storeN (l := [g 0, g 1, g 2, g 3]) (rest := []) (k := i.toNat / 8) ty_s5 (.inl rfl) rfl hk (by rw [list4m _ (by rw [List.length_set]; rfl)]; rfl), ?_⟩
    intro z9 hz9
    rw [add1 (by omega) (by omega)] at hz9
    subst hz9
    refine ⟨(i + 1, fun j => ([g 0, g 1, g 2, g 3].set (0 + i.toNat / 8 * 1) (clrB ([g 0, g 1, g 2, g 3].getD (i.toNat / 8) 0) (7 - i.toNat % 8))).getD j 0), ⟨g0, by show n ≤ i + 1; omega, by show i + 1 ≤ 32; omega, ?_⟩, by show (32 - (i + 1)).toNat < (32 - i).toNat; omega, Gc.env ⟨rfl, rfl, trivial⟩⟩
    show [([g 0, g 1, g 2, g 3].set (0 + i.toNat / 8 * 1) (clrB ([g 0, g 1, g 2, g 3].getD (i.toNat / 8) 0) (7 - i.toNat % 8))).getD 0 0, ([g 0, g 1, g 2, g 3].set (0 + i.toNat / 8 * 1) (clrB ([g 0, g 1, g 2, g 3].getD (i.toNat / 8) 0) (7 - i.toNat % 8))).getD 1 0, ([g 0, g 1, g 2, g 3].set (0 + i.toNat / 8 * 1) (clrB ([g 0, g 1, g 2, g 3].getD (i.toNat / 8) 0) (7 - i.toNat % 8))).getD 2 0, ([g 0, g 1, g 2, g 3].set (0 + i.toNat / 8 * 1) (clrB ([g 0, g 1, g 2, g 3].getD (i.toNat / 8) 0) (7 - i.toNat % 8))).getD 3 0] = _
    rw [← list4 _ (by rw [List.length_set]; rfl)]
    rw [show (i + 1 - n).toNat = (i - n).toNat + 1 by omega, turnN, ← g3, show n.toNat + (i - n).toNat = i.toNat by omega, Nat.zero_add, Nat.mul_one]
  · have hge : ¬ i < 32 := of_decide_eq_false hge
    have hi : i = 32 := by omega
    subst hi
    show Res.ret (.tuple ⟨[.agg ⟨[.int .u8 (g 0), .int .u8 (g 1), .int .u8 (g 2), .int .u8 (g 3), .int .i64 n]⟩, .int .i64 0]⟩) = .ret (.tuple ⟨[.agg ⟨[.int .u8 (cutL [a0, a1, a2, a3] n 0), .int .u8 (cutL [a0, a1, a2, a3] n 1), .int .u8 (cutL [a0, a1, a2, a3] n 2), .int .u8 (cutL [a0, a1, a2, a3] n 3), .int .i64 (cutN [a0, a1, a2, a3] n)]⟩, .int .i64 (cutE [a0, a1, a2, a3] n)]⟩)
    have hc : cutOk [a0, a1, a2, a3] n := by unfold cutOk; simp only [List.length_cons, List.length_nil]; omega
    have hl : ∀ j, cutL [a0, a1, a2, a3] n j = [g 0, g 1, g 2, g 3].getD j 0 := fun j => by
      unfold cutL; rw [if_pos hc, g3, show 8 * [a0, a1, a2, a3].length - n.toNat = (32 - n).toNat by simp only [List.length_cons, List.length_nil]; omega]
    simp only [hl, cutN, cutE, if_pos hc]
    rfl

theorem cut_fun (a0 a1 a2 a3 n : Int) (ha : Bytes [a0, a1, a2, a3]) : Fun 35 [.agg ⟨[.int .u8 a0, .int .u8 a1, .int .u8 a2, .int .u8 a3]⟩, .int .i64 n] (.tuple ⟨[.agg ⟨[.int .u8 (cutL [a0, a1, a2, a3] n 0), .int .u8 (cutL [a0, a1, a2, a3] n 1), .int .u8 (cutL [a0, a1, a2, a3] n 2), .int .u8 (cutL [a0, a1, a2, a3] n 3), .int .i64 (cutN [a0, a1, a2, a3] n)]⟩, .int .i64 (cutE [a0, a1, a2, a3] n)]⟩) :=
  Spec.mono (cut_run a0 a1 a2 a3 n ha) fun _ _ e => ⟨_, e, .tuple (two_get (flat_bytes [cutL [a0, a1, a2, a3] n 0, cutL [a0, a1, a2, a3] n 1, cutL [a0, a1, a2, a3] n 2, cutL [a0, a1, a2, a3] n 3] [.int .i64 (cutN [a0, a1, a2, a3] n)] (flat_int _ _)) (.int _ _)), rfl⟩

end Go.Proofs.YtopladipgobpjaaDoor
