/-
  Contract of function 34: which prefixes a prefix of 4 bytes covers. No condition but that bytes are bytes.
-/
import Derived.Test.YtopladipgobpjaaDoorRHas
namespace Go.Proofs.YtopladipgobpjaaDoor
open Go.Fm

theorem runrcover (a0 a1 a2 a3 an b0 b1 b2 b3 bn : Int) (Q : Res → Prop) : ((SpecC Tryd.prog [] (.fn 23) [(.agg ⟨[(.int .u8 a0), (.int .u8 a1), (.int .u8 a2), (.int .u8 a3), (.int .i64 an)]⟩)] [.cells [(.int .u8 a0), (.int .u8 a1), (.int .u8 a2), (.int .u8 a3), (.int .i64 an)] false, .cells [(.int .u8 b0), (.int .u8 b1), (.int .u8 b2), (.int .u8 b3), (.int .i64 bn)] false] (fun r h' => ∃ ia, ((fun _ : Unit => (True, Res.ret (.int .i64 (chk [a0, a1, a2, a3] an)), ([.cells [(.int .u8 a0), (.int .u8 a1), (.int .u8 a2), (.int .u8 a3), (.int .i64 an)] false, .cells [(.int .u8 b0), (.int .u8 b1), (.int .u8 b2), (.int .u8 b3), (.int .i64 bn)] false] : AHeap))) ia).1 ∧ r = ((fun _ : Unit => (True, Res.ret (.int .i64 (chk [a0, a1, a2, a3] an)), ([.cells [(.int .u8 a0), (.int .u8 a1), (.int .u8 a2), (.int .u8 a3), (.int .i64 an)] false, .cells [(.int .u8 b0), (.int .u8 b1), (.int .u8 b2), (.int .u8 b3), (.int .i64 bn)] false] : AHeap))) ia).2.1 ∧ h' = ((fun _ : Unit => (True, Res.ret (.int .i64 (chk [a0, a1, a2, a3] an)), ([.cells [(.int .u8 a0), (.int .u8 a1), (.int .u8 a2), (.int .u8 a3), (.int .i64 an)] false, .cells [(.int .u8 b0), (.int .u8 b1), (.int .u8 b2), (.int .u8 b3), (.int .i64 bn)] false] : AHeap))) ia).2.2) ∧ ∀ _ : Unit, True → 
  (((chk [a0, a1, a2, a3] an != 0) = true → Q (.ret (.tuple ⟨[(.bool false), (.int .i64 22)]⟩))) ∧
   ((chk [a0, a1, a2, a3] an != 0) = false → 
    (SpecC Tryd.prog [] (.fn 23) [(.agg ⟨[(.int .u8 b0), (.int .u8 b1), (.int .u8 b2), (.int .u8 b3), (.int .i64 bn)]⟩)] [.cells [(.int .u8 a0), (.int .u8 a1), (.int .u8 a2), (.int .u8 a3), (.int .i64 an)] false, .cells [(.int .u8 b0), (.int .u8 b1), (.int .u8 b2), (.int .u8 b3), (.int .i64 bn)] false] (fun r h' => ∃ ia, ((fun _ : Unit => (True, Res.ret (.int .i64 (chk [b0, b1, b2, b3] bn)), ([.cells [(.int .u8 a0), (.int .u8 a1), (.int .u8 a2), (.int .u8 a3), (.int .i64 an)] false, .cells [(.int .u8 b0), (.int .u8 b1), (.int .u8 b2), (.int .u8 b3), (.int .i64 bn)] false] : AHeap))) ia).1 ∧ r = ((fun _ : Unit => (True, Res.ret (.int .i64 (chk [b0, b1, b2, b3] bn)), ([.cells [(.int .u8 a0), (.int .u8 a1), (.int .u8 a2), (.int .u8 a3), (.int .i64 an)] false, .cells [(.int .u8 b0), (.int .u8 b1), (.int .u8 b2), (.int .u8 b3), (.int .i64 bn)] false] : AHeap))) ia).2.1 ∧ h' = ((fun _ : Unit => (True, Res.ret (.int .i64 (chk [b0, b1, b2, b3] bn)), ([.cells [(.int .u8 a0), (.int .u8 a1), (.int .u8 a2), (.int .u8 a3), (.int .i64 an)] false, .cells [(.int .u8 b0), (.int .u8 b1), (.int .u8 b2), (.int .u8 b3), (.int .i64 bn)] false] : AHeap))) ia).2.2) ∧ ∀ _ : Unit, True → 
    (((chk [b0, b1, b2, b3] bn != 0) = true → Q (.ret (.tuple ⟨[(.bool false), (.int .i64 22)]⟩))) ∧
     ((chk [b0, b1, b2, b3] bn != 0) = false → 
      (SpecC Tryd.prog [] (.fn 33) [(.agg ⟨[(.int .u8 a0), (.int .u8 a1), (.int .u8 a2), (.int .u8 a3), (.int .i64 an)]⟩), (.agg ⟨[(.int .u8 b0), (.int .u8 b1), (.int .u8 b2), (.int .u8 b3)]⟩)] [.cells [(.int .u8 a0), (.int .u8 a1), (.int .u8 a2), (.int .u8 a3), (.int .i64 an)] false, .cells [(.int .u8 b0), (.int .u8 b1), (.int .u8 b2), (.int .u8 b3), (.int .i64 bn)] false] (fun r h' => ∃ ia, ((fun _ : Unit => (True, Res.ret (.tuple ⟨[(.bool (hasV [a0, a1, a2, a3] an [b0, b1, b2, b3])), (.int .i64 (chk [a0, a1, a2, a3] an))]⟩), ([.cells [(.int .u8 a0), (.int .u8 a1), (.int .u8 a2), (.int .u8 a3), (.int .i64 an)] false, .cells [(.int .u8 b0), (.int .u8 b1), (.int .u8 b2), (.int .u8 b3), (.int .i64 bn)] false] : AHeap))) ia).1 ∧ r = ((fun _ : Unit => (True, Res.ret (.tuple ⟨[(.bool (hasV [a0, a1, a2, a3] an [b0, b1, b2, b3])), (.int .i64 (chk [a0, a1, a2, a3] an))]⟩), ([.cells [(.int .u8 a0), (.int .u8 a1), (.int .u8 a2), (.int .u8 a3), (.int .i64 an)] false, .cells [(.int .u8 b0), (.int .u8 b1), (.int .u8 b2), (.int .u8 b3), (.int .i64 bn)] false] : AHeap))) ia).2.1 ∧ h' = ((fun _ : Unit => (True, Res.ret (.tuple ⟨[(.bool (hasV [a0, a1, a2, a3] an [b0, b1, b2, b3])), (.int .i64 (chk [a0, a1, a2, a3] an))]⟩), ([.cells [(.int .u8 a0), (.int .u8 a1), (.int .u8 a2), (.int .u8 a3), (.int .i64 an)] false, .cells [(.int .u8 b0), (.int .u8 b1), (.int .u8 b2), (.int .u8 b3), (.int .i64 bn)] false] : AHeap))) ia).2.2) ∧ ∀ _ : Unit, True → 
      (((hasV [a0, a1, a2, a3] an [b0, b1, b2, b3]) = true → 
        (((decide (an ≤ bn)) = true → Q (.ret (.tuple ⟨[(.bool true), (.int .i64 0)]⟩))) ∧
         ((decide (an ≤ bn)) = false → Q (.ret (.tuple ⟨[(.bool false), (.int .i64 0)]⟩))))) ∧
       ((hasV [a0, a1, a2, a3] an [b0, b1, b2, b3]) = false → Q (.ret (.tuple ⟨[(.bool false), (.int .i64 0)]⟩)))))))))))) =
    runS Tryd.prog [] false [23, 33] 0 (SpecC Tryd.prog []) 20 34 [.agg ⟨[.int .u8 a0, .int .u8 a1, .int .u8 a2, .int .u8 a3, .int .i64 an]⟩, .agg ⟨[.int .u8 b0, .int .u8 b1, .int .u8 b2, .int .u8 b3, .int .i64 bn]⟩] [] .norm (.skip 5 (.call Unit (fun _ : Unit => (True, Res.ret (.int .i64 (chk [a0, a1, a2, a3] an)), ([.cells [(.int .u8 a0), (.int .u8 a1), (.int .u8 a2), (.int .u8 a3), (.int .i64 an)] false, .cells [(.int .u8 b0), (.int .u8 b1), (.int .u8 b2), (.int .u8 b3), (.int .i64 bn)] false] : AHeap))) fun _ => .skip 0 (.ask (.go) (.skip 4 (.call Unit (fun _ : Unit => (True, Res.ret (.int .i64 (chk [b0, b1, b2, b3] bn)), ([.cells [(.int .u8 a0), (.int .u8 a1), (.int .u8 a2), (.int .u8 a3), (.int .i64 an)] false, .cells [(.int .u8 b0), (.int .u8 b1), (.int .u8 b2), (.int .u8 b3), (.int .i64 bn)] false] : AHeap))) fun _ => .skip 1 (.ask (.go) (.skip 5 (.call Unit (fun _ : Unit => (True, Res.ret (.tuple ⟨[(.bool (hasV [a0, a1, a2, a3] an [b0, b1, b2, b3])), (.int .i64 (chk [a0, a1, a2, a3] an))]⟩), ([.cells [(.int .u8 a0), (.int .u8 a1), (.int .u8 a2), (.int .u8 a3), (.int .i64 an)] false, .cells [(.int .u8 b0), (.int .u8 b1), (.int .u8 b2), (.int .u8 b3), (.int .i64 bn)] false] : AHeap))) fun _ => .skip 5 (.ask (.skip 10 (.ask (.go) (.go))) (.go)))))))))) (fun r _ _ _ => Q r) := by kernel_rfl

set_option maxRecDepth 100000 in
theorem rcover_run (a0 a1 a2 a3 an b0 b1 b2 b3 bn : Int) (ha : Bytes [a0, a1, a2, a3]) (hb : Bytes [b0, b1, b2, b3]) : Fm.Spec Tryd.prog [] 34 [.agg ⟨[.int .u8 a0, .int .u8 a1, .int .u8 a2, .int .u8 a3, .int .i64 an]⟩, .agg ⟨[.int .u8 b0, .int .u8 b1, .int .u8 b2, .int .u8 b3, .int .i64 bn]⟩] [] fun r _ => r = .ret (.tuple ⟨[.bool (coverV [a0, a1, a2, a3] an [b0, b1, b2, b3] bn), .int .i64 (coverE [a0, a1, a2, a3] an [b0, b1, b2, b3] bn)]⟩) := by
  refine spec_of_script Tryd.mixed (Eq.mp (runrcover a0 a1 a2 a3 an b0 b1 b2 b3 bn fun r => r = .ret (.tuple ⟨[.bool (coverV [a0, a1, a2, a3] an [b0, b1, b2, b3] bn), .int .i64 (coverE [a0, a1, a2, a3] an [b0, b1, b2, b3] bn)]⟩)) ?_)
  refine (rchk_fun a0 a1 a2 a3 an ha).call (one_mem (flat_bytes [a0, a1, a2, a3] [.int .i64 an] (flat_int _ _))) ?_
  refine ⟨fun h0 => ?_, fun h0 => ?_⟩
  · have h0 : chk [a0, a1, a2, a3] an ≠ 0 := by simpa using h0
    show Res.ret (.tuple ⟨[.bool false, .int .i64 22]⟩) = .ret (.tuple ⟨[.bool (coverV [a0, a1, a2, a3] an [b0, b1, b2, b3] bn), .int .i64 (coverE [a0, a1, a2, a3] an [b0, b1, b2, b3] bn)]⟩)
    have hn : ¬ (chk [a0, a1, a2, a3] an = 0 ∧ chk [b0, b1, b2, b3] bn = 0) := fun h => h0 h.1
    rw [show coverV [a0, a1, a2, a3] an [b0, b1, b2, b3] bn = false by unfold coverV; rw [decide_eq_false hn, Bool.false_and], show coverE [a0, a1, a2, a3] an [b0, b1, b2, b3] bn = 22 by unfold coverE; rw [if_neg hn]]
  have h0 : chk [a0, a1, a2, a3] an = 0 := by simpa using h0
  refine (rchk_fun b0 b1 b2 b3 bn hb).call (one_mem (flat_bytes [b0, b1, b2, b3] [.int .i64 bn] (flat_int _ _))) ?_
  refine ⟨fun h1 => ?_, fun h1 => ?_⟩
  · have h1 : chk [b0, b1, b2, b3] bn ≠ 0 := by simpa using h1
    show Res.ret (.tuple ⟨[.bool false, .int .i64 22]⟩) = .ret (.tuple ⟨[.bool (coverV [a0, a1, a2, a3] an [b0, b1, b2, b3] bn), .int .i64 (coverE [a0, a1, a2, a3] an [b0, b1, b2, b3] bn)]⟩)
    have hn : ¬ (chk [a0, a1, a2, a3] an = 0 ∧ chk [b0, b1, b2, b3] bn = 0) := fun h => h1 h.2
    rw [show coverV [a0, a1, a2, a3] an [b0, b1, b2, b3] bn = false by unfold coverV; rw [decide_eq_false hn, Bool.false_and], show coverE [a0, a1, a2, a3] an [b0, b1, b2, b3] bn = 22 by unfold coverE; rw [if_neg hn]]
  have h1 : chk [b0, b1, b2, b3] bn = 0 := by simpa using h1
  have hE : coverE [a0, a1, a2, a3] an [b0, b1, b2, b3] bn = 0 := by unfold coverE; rw [if_pos ⟨h0, h1⟩]
  have hV : coverV [a0, a1, a2, a3] an [b0, b1, b2, b3] bn = (hasV [a0, a1, a2, a3] an [b0, b1, b2, b3] && decide (an ≤ bn)) := by
    rw [cover_has ha hb rfl h0 h1]; unfold hasV; rw [decide_eq_true h0, Bool.true_and]
  refine (rhas_fun a0 a1 a2 a3 an b0 b1 b2 b3 ha hb).call (two_mem (flat_bytes [a0, a1, a2, a3] [.int .i64 an] (flat_int _ _)) (flat_bytes [b0, b1, b2, b3] [] none_mem)) ?_
  refine ⟨fun hx => ⟨fun hy => ?_, fun hy => ?_⟩, fun hx => ?_⟩
  · show Res.ret (.tuple ⟨[.bool true, .int .i64 0]⟩) = .ret (.tuple ⟨[.bool (coverV [a0, a1, a2, a3] an [b0, b1, b2, b3] bn), .int .i64 (coverE [a0, a1, a2, a3] an [b0, b1, b2, b3] bn)]⟩)
    rw [hV, hx, hy, hE]; rfl
  · show Res.ret (.tuple ⟨[.bool false, .int .i64 0]⟩) = .ret (.tuple ⟨[.bool (coverV [a0, a1, a2, a3] an [b0, b1, b2, b3] bn), .int .i64 (coverE [a0, a1, a2, a3] an [b0, b1, b2, b3] bn)]⟩)
    rw [hV, hx, hy, hE]; rfl
  · show Res.ret (.tuple ⟨[.bool false, .int .i64 0]⟩) = .ret (.tuple ⟨[.bool (coverV [a0, a1, a2, a3] an [b0, b1, b2, b3] bn), .int .i64 (coverE [a0, a1, a2, a3] an [b0, b1, b2, b3] bn)]⟩)
    rw [hV, hx, hE]; rfl

theorem rcover_fun (a0 a1 a2 a3 an b0 b1 b2 b3 bn : Int) (ha : Bytes [a0, a1, a2, a3]) (hb : Bytes [b0, b1, b2, b3]) : Fun 34 [.agg ⟨[.int .u8 a0, .int .u8 a1, .int .u8 a2, .int .u8 a3, .int .i64 an]⟩, .agg ⟨[.int .u8 b0, .int .u8 b1, .int .u8 b2, .int .u8 b3, .int .i64 bn]⟩] (.tuple ⟨[.bool (coverV [a0, a1, a2, a3] an [b0, b1, b2, b3] bn), .int .i64 (coverE [a0, a1, a2, a3] an [b0, b1, b2, b3] bn)]⟩) :=
  Spec.mono (rcover_run a0 a1 a2 a3 an b0 b1 b2 b3 bn ha hb) fun _ _ e => ⟨_, e, .tuple (two_get (.bool _) (.int _ _)), rfl⟩

end Go.Proofs.YtopladipgobpjaaDoor
