/-
  Contract of function 33: which addresses a prefix of 4 bytes has. No condition but that bytes are bytes.
-/
import Derived.Test.YtopladipgobpjaaDoorRChk
import Derived.Test.YtopladipgobpjaaDoorRCut
namespace Go.Proofs.YtopladipgobpjaaDoor
open Go.Fm

theorem runrhas (a0 a1 a2 a3 an b0 b1 b2 b3 : Int) (Q : Res → Prop) : ((SpecC Tryd.prog [] (.fn 23) [(.agg ⟨[(.int .u8 a0), (.int .u8 a1), (.int .u8 a2), (.int .u8 a3), (.int .i64 an)]⟩)] [.cells [(.int .u8 a0), (.int .u8 a1), (.int .u8 a2), (.int .u8 a3), (.int .i64 an)] false, .cells [(.int .u8 b0), (.int .u8 b1), (.int .u8 b2), (.int .u8 b3)] false] (fun r h' => ∃ ia, ((fun _ : Unit => (True, Res.ret (.int .i64 (chk [a0, a1, a2, a3] an)), ([.cells [(.int .u8 a0), (.int .u8 a1), (.int .u8 a2), (.int .u8 a3), (.int .i64 an)] false, .cells [(.int .u8 b0), (.int .u8 b1), (.int .u8 b2), (.int .u8 b3)] false] : AHeap))) ia).1 ∧ r = ((fun _ : Unit => (True, Res.ret (.int .i64 (chk [a0, a1, a2, a3] an)), ([.cells [(.int .u8 a0), (.int .u8 a1), (.int .u8 a2), (.int .u8 a3), (.int .i64 an)] false, .cells [(.int .u8 b0), (.int .u8 b1), (.int .u8 b2), (.int .u8 b3)] false] : AHeap))) ia).2.1 ∧ h' = ((fun _ : Unit => (True, Res.ret (.int .i64 (chk [a0, a1, a2, a3] an)), ([.cells [(.int .u8 a0), (.int .u8 a1), (.int .u8 a2), (.int .u8 a3), (.int .i64 an)] false, .cells [(.int .u8 b0), (.int .u8 b1), (.int .u8 b2), (.int .u8 b3)] false] : AHeap))) ia).2.2) ∧ ∀ _ : Unit, True → 
  (((chk [a0, a1, a2, a3] an != 0) = true → Q (.ret (.tuple ⟨[(.bool false), (.int .i64 22)]⟩))) ∧
   ((chk [a0, a1, a2, a3] an != 0) = false → 
    (SpecC Tryd.prog [] (.fn 36) [(.agg ⟨[(.int .u8 b0), (.int .u8 b1), (.int .u8 b2), (.int .u8 b3)]⟩), (.int .i64 an)] [.cells [(.int .u8 a0), (.int .u8 a1), (.int .u8 a2), (.int .u8 a3), (.int .i64 an)] false, .cells [(.int .u8 b0), (.int .u8 b1), (.int .u8 b2), (.int .u8 b3)] false] (fun r h' => ∃ ia, ((fun _ : Unit => (True, Res.ret (.tuple ⟨[(.agg ⟨[(.int .u8 (cutL [b0, b1, b2, b3] an 0)), (.int .u8 (cutL [b0, b1, b2, b3] an 1)), (.int .u8 (cutL [b0, b1, b2, b3] an 2)), (.int .u8 (cutL [b0, b1, b2, b3] an 3)), (.int .i64 (cutN [b0, b1, b2, b3] an))]⟩), (.int .i64 (cutE [b0, b1, b2, b3] an))]⟩), ([.cells [(.int .u8 a0), (.int .u8 a1), (.int .u8 a2), (.int .u8 a3), (.int .i64 an)] false, .cells [(.int .u8 b0), (.int .u8 b1), (.int .u8 b2), (.int .u8 b3)] false] : AHeap))) ia).1 ∧ r = ((fun _ : Unit => (True, Res.ret (.tuple ⟨[(.agg ⟨[(.int .u8 (cutL [b0, b1, b2, b3] an 0)), (.int .u8 (cutL [b0, b1, b2, b3] an 1)), (.int .u8 (cutL [b0, b1, b2, b3] an 2)), (.int .u8 (cutL [b0, b1, b2, b3] an 3)), (.int .i64 (cutN [b0, b1, b2, b3] an))]⟩), (.int .i64 (cutE [b0, b1, b2, b3] an))]⟩), ([.cells [(.int .u8 a0), (.int .u8 a1), (.int .u8 a2), (.int .u8 a3), (.int .i64 an)] false, .cells [(.int .u8 b0), (.int .u8 b1), (.int .u8 b2), (.int .u8 b3)] false] : AHeap))) ia).2.1 ∧ h' = ((fun _ : Unit => (True, Res.ret (.tuple ⟨[(.agg ⟨[(.int .u8 (cutL [b0, b1, b2, b3] an 0)), (.int .u8 (cutL [b0, b1, b2, b3] an 1)), (.int .u8 (cutL [b0, b1, b2, b3] an 2)), (.int .u8 (cutL [b0, b1, b2, b3] an 3)), (.int .i64 (cutN [b0, b1, b2, b3] an))]⟩), (.int .i64 (cutE [b0, b1, b2, b3] an))]⟩), ([.cells [(.int .u8 a0), (.int .u8 a1), (.int .u8 a2), (.int .u8 a3), (.int .i64 an)] false, .cells [(.int .u8 b0), (.int .u8 b1), (.int .u8 b2), (.int .u8 b3)] false] : AHeap))) ia).2.2) ∧ ∀ _ : Unit, True → 
    ((∃ z1 : Bool, aBin2 Tryd.prog BinOp.eql 39 (Operand.tmp 18) (Operand.tmp 19) (.agg ⟨[(.int .u8 (cutL [b0, b1, b2, b3] an 0)), (.int .u8 (cutL [b0, b1, b2, b3] an 1)), (.int .u8 (cutL [b0, b1, b2, b3] an 2)), (.int .u8 (cutL [b0, b1, b2, b3] an 3)), (.int .i64 (cutN [b0, b1, b2, b3] an))]⟩) (.agg ⟨[(.int .u8 a0), (.int .u8 a1), (.int .u8 a2), (.int .u8 a3), (.int .i64 an)]⟩) = some (.bool z1)) ∧
     (aBin2 Tryd.prog BinOp.eql 39 (Operand.tmp 18) (Operand.tmp 19) (.agg ⟨[(.int .u8 (cutL [b0, b1, b2, b3] an 0)), (.int .u8 (cutL [b0, b1, b2, b3] an 1)), (.int .u8 (cutL [b0, b1, b2, b3] an 2)), (.int .u8 (cutL [b0, b1, b2, b3] an 3)), (.int .i64 (cutN [b0, b1, b2, b3] an))]⟩) (.agg ⟨[(.int .u8 a0), (.int .u8 a1), (.int .u8 a2), (.int .u8 a3), (.int .i64 an)]⟩) = some (.bool true) → Q (.ret (.tuple ⟨[(.bool true), (.int .i64 0)]⟩))) ∧
     (aBin2 Tryd.prog BinOp.eql 39 (Operand.tmp 18) (Operand.tmp 19) (.agg ⟨[(.int .u8 (cutL [b0, b1, b2, b3] an 0)), (.int .u8 (cutL [b0, b1, b2, b3] an 1)), (.int .u8 (cutL [b0, b1, b2, b3] an 2)), (.int .u8 (cutL [b0, b1, b2, b3] an 3)), (.int .i64 (cutN [b0, b1, b2, b3] an))]⟩) (.agg ⟨[(.int .u8 a0), (.int .u8 a1), (.int .u8 a2), (.int .u8 a3), (.int .i64 an)]⟩) = some (.bool false) → Q (.ret (.tuple ⟨[(.bool false), (.int .i64 0)]⟩))))))))) =
    runS Tryd.prog [] false [23, 36] 0 (SpecC Tryd.prog []) 20 33 [.agg ⟨[.int .u8 a0, .int .u8 a1, .int .u8 a2, .int .u8 a3, .int .i64 an]⟩, .agg ⟨[.int .u8 b0, .int .u8 b1, .int .u8 b2, .int .u8 b3]⟩] [] .norm (.skip 5 (.call Unit (fun _ : Unit => (True, Res.ret (.int .i64 (chk [a0, a1, a2, a3] an)), ([.cells [(.int .u8 a0), (.int .u8 a1), (.int .u8 a2), (.int .u8 a3), (.int .i64 an)] false, .cells [(.int .u8 b0), (.int .u8 b1), (.int .u8 b2), (.int .u8 b3)] false] : AHeap))) fun _ => .skip 0 (.ask (.go) (.skip 4 (.call Unit (fun _ : Unit => (True, Res.ret (.tuple ⟨[(.agg ⟨[(.int .u8 (cutL [b0, b1, b2, b3] an 0)), (.int .u8 (cutL [b0, b1, b2, b3] an 1)), (.int .u8 (cutL [b0, b1, b2, b3] an 2)), (.int .u8 (cutL [b0, b1, b2, b3] an 3)), (.int .i64 (cutN [b0, b1, b2, b3] an))]⟩), (.int .i64 (cutE [b0, b1, b2, b3] an))]⟩), ([.cells [(.int .u8 a0), (.int .u8 a1), (.int .u8 a2), (.int .u8 a3), (.int .i64 an)] false, .cells [(.int .u8 b0), (.int .u8 b1), (.int .u8 b2), (.int .u8 b3)] false] : AHeap))) fun _ => .skip 8 (.two (.go) (.go))))))) (fun r _ _ _ => Q r) := by kernel_rfl

theorem rhas_cut (a0 a1 a2 a3 an b0 b1 b2 b3 : Int) (ha : Bytes [a0, a1, a2, a3]) (hb : Bytes [b0, b1, b2, b3]) (h0 : chk [a0, a1, a2, a3] an = 0) : (decide ([cutL [b0, b1, b2, b3] an 0, cutL [b0, b1, b2, b3] an 1, cutL [b0, b1, b2, b3] an 2, cutL [b0, b1, b2, b3] an 3] = [a0, a1, a2, a3]) && decide (cutN [b0, b1, b2, b3] an = an)) = hasV [a0, a1, a2, a3] an [b0, b1, b2, b3] := by
  obtain ⟨w0, w1, _⟩ := chk_zero.1 h0
  simp only [List.length_cons, List.length_nil] at w1
  have hc : cutOk [b0, b1, b2, b3] an := by unfold cutOk; simp only [List.length_cons, List.length_nil]; omega
  have hl : [cutL [b0, b1, b2, b3] an 0, cutL [b0, b1, b2, b3] an 1, cutL [b0, b1, b2, b3] an 2, cutL [b0, b1, b2, b3] an 3] = turnN clrB [b0, b1, b2, b3] an.toNat (8 * [b0, b1, b2, b3].length - an.toNat) := by
    have hj : ∀ j, cutL [b0, b1, b2, b3] an j = (turnN clrB [b0, b1, b2, b3] an.toNat (8 * [b0, b1, b2, b3].length - an.toNat)).getD j 0 := fun j => by unfold cutL; rw [if_pos hc]
    simp only [hj]
    exact (list4 _ (by rw [turnN_length]; rfl)).symm
  rw [hl, show cutN [b0, b1, b2, b3] an = an by unfold cutN; rw [if_pos hc], decide_eq_true (rfl : an = an), Bool.and_true, ← has_cut ha hb rfl h0]
  unfold hasV; rw [decide_eq_true h0, Bool.true_and]

set_option maxRecDepth 100000 in
theorem rhas_run (a0 a1 a2 a3 an b0 b1 b2 b3 : Int) (ha : Bytes [a0, a1, a2, a3]) (hb : Bytes [b0, b1, b2, b3]) : Fm.Spec Tryd.prog [] 33 [.agg ⟨[.int .u8 a0, .int .u8 a1, .int .u8 a2, .int .u8 a3, .int .i64 an]⟩, .agg ⟨[.int .u8 b0, .int .u8 b1, .int .u8 b2, .int .u8 b3]⟩] [] fun r _ => r = .ret (.tuple ⟨[.bool (hasV [a0, a1, a2, a3] an [b0, b1, b2, b3]), .int .i64 (chk [a0, a1, a2, a3] an)]⟩) := by
  refine spec_of_script Tryd.mixed (Eq.mp (runrhas a0 a1 a2 a3 an b0 b1 b2 b3 fun r => r = .ret (.tuple ⟨[.bool (hasV [a0, a1, a2, a3] an [b0, b1, b2, b3]), .int .i64 (chk [a0, a1, a2, a3] an)]⟩)) ?_)
  refine (rchk_fun a0 a1 a2 a3 an ha).call (one_mem (flat_bytes [a0, a1, a2, a3] [.int .i64 an] (flat_int _ _))) ?_
  refine ⟨fun h0 => ?_, fun h0 => ?_⟩
  · have h0 : chk [a0, a1, a2, a3] an ≠ 0 := by simpa using h0
    show Res.ret (.tuple ⟨[.bool false, .int .i64 22]⟩) = .ret (.tuple ⟨[.bool (hasV [a0, a1, a2, a3] an [b0, b1, b2, b3]), .int .i64 (chk [a0, a1, a2, a3] an)]⟩)
    rw [show hasV [a0, a1, a2, a3] an [b0, b1, b2, b3] = false by unfold hasV; rw [decide_eq_false h0, Bool.false_and], (chk_or [a0, a1, a2, a3] an).resolve_left h0]
  have h0 : chk [a0, a1, a2, a3] an = 0 := by simpa using h0
  refine (rcut_fun b0 b1 b2 b3 an hb).call (two_mem (flat_bytes [b0, b1, b2, b3] [] none_mem) (.int _ _)) ?_
  have hx := rhas_cut a0 a1 a2 a3 an b0 b1 b2 b3 ha hb h0
  refine two_of (pfx4 (cutL [b0, b1, b2, b3] an 0) (cutL [b0, b1, b2, b3] an 1) (cutL [b0, b1, b2, b3] an 2) (cutL [b0, b1, b2, b3] an 3) (cutN [b0, b1, b2, b3] an) a0 a1 a2 a3 an) (fun hb => ?_) (fun hb => ?_)
  · show Res.ret (.tuple ⟨[.bool true, .int .i64 0]⟩) = .ret (.tuple ⟨[.bool (hasV [a0, a1, a2, a3] an [b0, b1, b2, b3]), .int .i64 (chk [a0, a1, a2, a3] an)]⟩)
    rw [← hx, hb, h0]
  · show Res.ret (.tuple ⟨[.bool false, .int .i64 0]⟩) = .ret (.tuple ⟨[.bool (hasV [a0, a1, a2, a3] an [b0, b1, b2, b3]), .int .i64 (chk [a0, a1, a2, a3] an)]⟩)
    rw [← hx, hb, h0]

theorem rhas_fun (a0 a1 a2 a3 an b0 b1 b2 b3 : Int) (ha : Bytes [a0, a1, a2, a3]) (hb : Bytes [b0, b1, b2, b3]) : Fun 33 [.agg ⟨[.int .u8 a0, .int .u8 a1, .int .u8 a2, .int .u8 a3, .int .i64 an]⟩, .agg ⟨[.int .u8 b0, .int .u8 b1, .int .u8 b2, .int .u8 b3]⟩] (.tuple ⟨[.bool (hasV [a0, a1, a2, a3] an [b0, b1, b2, b3]), .int .i64 (chk [a0, a1, a2, a3] an)]⟩) :=
  Spec.mono (rhas_run a0 a1 a2 a3 an b0 b1 b2 b3 ha hb) fun _ _ e => ⟨_, e, .tuple (two_get (.bool _) (.int _ _)), rfl⟩

end Go.Proofs.YtopladipgobpjaaDoor
