/-
  room and mayDot: their contracts, in any memory that holds the reader's state. Condition: at most eight groups, a gap below 100.
-/
import Derived.Test.YtopladipgobpjaaDoorSix2
namespace Go.Proofs.YtopladipgobpjaaDoor
open Go.Fm
def xnoE : AObj → Bool
  | .cells [] _ => false
  | _ => true
theorem xwraps {x : Int} (h0 : -100 ≤ x) (h1 : x < 100) : IntKind.i64.wrap x = x := by
  simp only [IntKind.wrap, IntKind.bits, IntKind.signed]
  simp; omega
theorem ic_scope (N : Nat) (g : List Int) : (ic g).all (scopeV N 8) = true := by
  rw [List.all_eq_true]
  intro v hv
  obtain ⟨p, _, rfl⟩ := List.mem_map.1 hv
  rfl
theorem ic_ren (f : Nat → Nat) : ∀ g : List Int, (ic g).map (renV f 8) = ic g
  | [] => rfl
  | a :: r => by
    show renV f 8 (.int .i64 a) :: (ic r).map (renV f 8) = .int .i64 a :: ic r
    rw [ic_ren f r]; rfl
theorem ic_renO (f : Nat → Nat) (N : Nat) (g : List Int) (u : TypeId) (z : Option Nat) : renO f N (.tcells (ic g) u z) = .tcells (ic g) u z := by
  unfold renO
  simp only [ic_scope, ic_ren, cond_true]
theorem run_roomn (t p : List UInt8) (k : Nat) (c f d : Bool) (Q : Res → AHeap → Prop) : ((((decide (((k : Nat) : Int) > 0)) = true → Q (.ret (.int .i64 7)) [.cells [(.string (bs (t))), (.slice none 0 0), (.string (bs (p))), (.int .i64 ((k : Nat) : Int)), (.bool c), (.bool f), (.slice none 0 0), (.bool d)] false]) ∧
   ((decide (((k : Nat) : Int) > 0)) = false → Q (.ret (.int .i64 8)) [.cells [(.string (bs (t))), (.slice none 0 0), (.string (bs (p))), (.int .i64 ((k : Nat) : Int)), (.bool c), (.bool f), (.slice none 0 0), (.bool d)] false]))) =
    runS Tryd.prog [] false [] 0 (SpecC Tryd.prog []) 20 103 [.pointer (some ⟨0, 0, none⟩)] [.cells [.string (bs t), .slice none 0 0, .string (bs p), .int .i64 k, .bool c, .bool f, .slice none 0 0, .bool d] false] .norm (.skip 12 (.ask (.go) (.go))) (fun r _ h _ => Q r h) := by kernel_rfl
theorem run_roomb (t p : List UInt8) (g : List Int) (k : Nat) (c f d : Bool) (Q : Res → AHeap → Prop) : (∀ z1 : Int, z1 = (((g.length : Nat) : Int)) →
  ∀ z2 : Int, z2 = (IntKind.i64.wrap (8 - z1)) →
  (((decide (((k : Nat) : Int) > 0)) = true →
    ∀ z3 : Int, z3 = (IntKind.i64.wrap (z2 - 1)) → Q (.ret (.int .i64 z3)) [.cells [(.string (bs (t))), (.slice (some ⟨1, 0, (some 1)⟩) g.length g.length), (.string (bs (p))), (.int .i64 ((k : Nat) : Int)), (.bool c), (.bool f), (.slice none 0 0), (.bool d)] false, .tcells (ic g) 3 (some 0)]) ∧
   ((decide (((k : Nat) : Int) > 0)) = false → Q (.ret (.int .i64 z2)) [.cells [(.string (bs (t))), (.slice (some ⟨1, 0, (some 1)⟩) g.length g.length), (.string (bs (p))), (.int .i64 ((k : Nat) : Int)), (.bool c), (.bool f), (.slice none 0 0), (.bool d)] false, .tcells (ic g) 3 (some 0)]))) =
    runS Tryd.prog [] false [] 0 (SpecC Tryd.prog []) 20 103 [.pointer (some ⟨0, 0, none⟩)] [.cells [.string (bs t), .slice (some ⟨1, 0, some 1⟩) g.length g.length, .string (bs p), .int .i64 k, .bool c, .bool f, .slice none 0 0, .bool d] false, .tcells (ic g) 3 (some 0)] .norm (.skip 5 (.all (fun _z1 => .skip 0 (.all (fun _z2 => .skip 5 (.ask (.skip 2 (.all (fun _z3 => .go))) (.go))))))) (fun r _ h _ => Q r h) := by kernel_rfl
theorem run_mayDotn (t p : List UInt8) (k : Nat) (c f d : Bool) (Q : Res → AHeap → Prop) : ((((decide (((k : Nat) : Int) > 0)) = true →
    (((decide (((k : Nat) : Int) > 0)) = true → Q (.ret (.bool true)) [.cells [(.string (bs (t))), (.slice none 0 0), (.string (bs (p))), (.int .i64 ((k : Nat) : Int)), (.bool c), (.bool f), (.slice none 0 0), (.bool d)] false]) ∧
     ((decide (((k : Nat) : Int) > 0)) = false → False))) ∧
   ((decide (((k : Nat) : Int) > 0)) = false → Q (.ret (.bool false)) [.cells [(.string (bs (t))), (.slice none 0 0), (.string (bs (p))), (.int .i64 ((k : Nat) : Int)), (.bool c), (.bool f), (.slice none 0 0), (.bool d)] false]))) =
    runS Tryd.prog [] false [] 0 (SpecC Tryd.prog []) 20 100 [.pointer (some ⟨0, 0, none⟩)] [.cells [.string (bs t), .slice none 0 0, .string (bs p), .int .i64 k, .bool c, .bool f, .slice none 0 0, .bool d] false] .norm (.skip 5 (.ask (.skip 15 (.ask (.go) (.skip 0 .go))) (.go))) (fun r _ h _ => Q r h) := by kernel_rfl
theorem run_mayDotb (t p : List UInt8) (g : List Int) (k : Nat) (c f d : Bool) (Q : Res → AHeap → Prop) : ((((decide (((k : Nat) : Int) > 0)) = true →
    ∀ z1 : Int, z1 = (((g.length : Nat) : Int)) →
    ∀ z2 : Int, z2 = (IntKind.i64.wrap (8 - z1)) →
    (((decide (((k : Nat) : Int) > 0)) = true →
      ∀ z3 : Int, z3 = (IntKind.i64.wrap (z2 - 1)) →
      (((decide (z3 ≥ 2)) = true → Q (.ret (.bool true)) [.cells [(.string (bs (t))), (.slice (some ⟨1, 0, (some 1)⟩) g.length g.length), (.string (bs (p))), (.int .i64 ((k : Nat) : Int)), (.bool c), (.bool f), (.slice none 0 0), (.bool d)] false, .tcells (ic g) 3 (some 0)]) ∧
       ((decide (z3 ≥ 2)) = false → Q (.ret (.bool false)) [.cells [(.string (bs (t))), (.slice (some ⟨1, 0, (some 1)⟩) g.length g.length), (.string (bs (p))), (.int .i64 ((k : Nat) : Int)), (.bool c), (.bool f), (.slice none 0 0), (.bool d)] false, .tcells (ic g) 3 (some 0)]))) ∧
     ((decide (((k : Nat) : Int) > 0)) = false → False))) ∧
   ((decide (((k : Nat) : Int) > 0)) = false →
    ∀ z1 : Int, z1 = (((g.length : Nat) : Int)) →
    (((z1 == 6) = true → Q (.ret (.bool true)) [.cells [(.string (bs (t))), (.slice (some ⟨1, 0, (some 1)⟩) g.length g.length), (.string (bs (p))), (.int .i64 ((k : Nat) : Int)), (.bool c), (.bool f), (.slice none 0 0), (.bool d)] false, .tcells (ic g) 3 (some 0)]) ∧
     ((z1 == 6) = false → Q (.ret (.bool false)) [.cells [(.string (bs (t))), (.slice (some ⟨1, 0, (some 1)⟩) g.length g.length), (.string (bs (p))), (.int .i64 ((k : Nat) : Int)), (.bool c), (.bool f), (.slice none 0 0), (.bool d)] false, .tcells (ic g) 3 (some 0)]))))) =
    runS Tryd.prog [] false [] 0 (SpecC Tryd.prog []) 20 100 [.pointer (some ⟨0, 0, none⟩)] [.cells [.string (bs t), .slice (some ⟨1, 0, some 1⟩) g.length g.length, .string (bs p), .int .i64 k, .bool c, .bool f, .slice none 0 0, .bool d] false, .tcells (ic g) 3 (some 0)] .norm (.skip 5 (.ask (.skip 8 (.all (fun _z1 => .skip 0 (.all (fun _z2 => .skip 5 (.ask (.skip 2 (.all (fun _z3 => .skip 3 (.ask (.go) (.go))))) (.skip 0 .go))))))) (.skip 5 (.all (fun _z1 => .skip 0 (.ask (.go) (.go))))))) (fun r _ h _ => Q r h) := by kernel_rfl
theorem roomn_spec {t p : List UInt8} {k : Nat} {c f d : Bool} (hk : k < 100) : Fm.Spec Tryd.prog [] 103 [.pointer (some ⟨0, 0, none⟩)] [.cells [.string (bs t), .slice none 0 0, .string (bs p), .int .i64 k, .bool c, .bool f, .slice none 0 0, .bool d] false] fun r h => r = .ret (.int .i64 (rmI 0 k)) ∧ h = [.cells [.string (bs t), .slice none 0 0, .string (bs p), .int .i64 k, .bool c, .bool f, .slice none 0 0, .bool d] false] := by
  refine xspec (run_roomn t p k c f d fun r h => r = .ret (.int .i64 (rmI 0 k)) ∧ h = [.cells [.string (bs t), .slice none 0 0, .string (bs p), .int .i64 k, .bool c, .bool f, .slice none 0 0, .bool d] false]) ?_
  refine ⟨fun h => ⟨?_, rfl⟩, fun h => ⟨?_, rfl⟩⟩
  · have h := of_decide_eq_true h
    unfold rmI; rw [if_neg (show ¬ k = 0 by omega)]; rfl
  · have h := of_decide_eq_false h
    unfold rmI; rw [if_pos (show k = 0 by omega)]; rfl
theorem mayDotn_spec {t p : List UInt8} {k : Nat} {c f d : Bool} (hk : k < 100) : Fm.Spec Tryd.prog [] 100 [.pointer (some ⟨0, 0, none⟩)] [.cells [.string (bs t), .slice none 0 0, .string (bs p), .int .i64 k, .bool c, .bool f, .slice none 0 0, .bool d] false] fun r h => r = .ret (.bool (mdB 0 k)) ∧ h = [.cells [.string (bs t), .slice none 0 0, .string (bs p), .int .i64 k, .bool c, .bool f, .slice none 0 0, .bool d] false] := by
  refine xspec (run_mayDotn t p k c f d fun r h => r = .ret (.bool (mdB 0 k)) ∧ h = [.cells [.string (bs t), .slice none 0 0, .string (bs p), .int .i64 k, .bool c, .bool f, .slice none 0 0, .bool d] false]) ?_
  refine ⟨fun h => ⟨fun _ => ⟨?_, rfl⟩, fun h' => ?_⟩, fun h => ⟨?_, rfl⟩⟩
  · have h := of_decide_eq_true h
    unfold mdB; rw [if_neg (show ¬ k = 0 by omega)]; rfl
  · rw [h] at h'; cases h'
  · have h := of_decide_eq_false h
    unfold mdB; rw [if_pos (show k = 0 by omega)]; rfl
theorem roomb_spec {t p : List UInt8} {g : List Int} {k : Nat} {c f d : Bool} (hk : k < 100) (hg : g.length ≤ 8) : Fm.Spec Tryd.prog [] 103 [.pointer (some ⟨0, 0, none⟩)] [.cells [.string (bs t), .slice (some ⟨1, 0, some 1⟩) g.length g.length, .string (bs p), .int .i64 k, .bool c, .bool f, .slice none 0 0, .bool d] false, .tcells (ic g) 3 (some 0)] fun r h => r = .ret (.int .i64 (rmI g.length k)) ∧ h = [.cells [.string (bs t), .slice (some ⟨1, 0, some 1⟩) g.length g.length, .string (bs p), .int .i64 k, .bool c, .bool f, .slice none 0 0, .bool d] false, .tcells (ic g) 3 (some 0)] := by
  refine xspec (run_roomb t p g k c f d fun r h => r = .ret (.int .i64 (rmI g.length k)) ∧ h = [.cells [.string (bs t), .slice (some ⟨1, 0, some 1⟩) g.length g.length, .string (bs p), .int .i64 k, .bool c, .bool f, .slice none 0 0, .bool d] false, .tcells (ic g) 3 (some 0)]) ?_
  intro z1 hz1 z2 hz2
  rw [hz1, xwraps (by omega) (by omega)] at hz2
  refine ⟨fun h => ?_, fun h => ⟨?_, rfl⟩⟩
  · have h := of_decide_eq_true h
    intro z3 hz3
    rw [hz2, xwraps (by omega) (by omega)] at hz3
    refine ⟨?_, rfl⟩
    rw [hz3]; unfold rmI; rw [if_neg (show ¬ k = 0 by omega)]
  · have h := of_decide_eq_false h
    rw [hz2]; unfold rmI; rw [if_pos (show k = 0 by omega), Int.sub_zero]
theorem mayDotb_spec {t p : List UInt8} {g : List Int} {k : Nat} {c f d : Bool} (hk : k < 100) (hg : g.length ≤ 8) : Fm.Spec Tryd.prog [] 100 [.pointer (some ⟨0, 0, none⟩)] [.cells [.string (bs t), .slice (some ⟨1, 0, some 1⟩) g.length g.length, .string (bs p), .int .i64 k, .bool c, .bool f, .slice none 0 0, .bool d] false, .tcells (ic g) 3 (some 0)] fun r h => r = .ret (.bool (mdB g.length k)) ∧ h = [.cells [.string (bs t), .slice (some ⟨1, 0, some 1⟩) g.length g.length, .string (bs p), .int .i64 k, .bool c, .bool f, .slice none 0 0, .bool d] false, .tcells (ic g) 3 (some 0)] := by
  refine xspec (run_mayDotb t p g k c f d fun r h => r = .ret (.bool (mdB g.length k)) ∧ h = [.cells [.string (bs t), .slice (some ⟨1, 0, some 1⟩) g.length g.length, .string (bs p), .int .i64 k, .bool c, .bool f, .slice none 0 0, .bool d] false, .tcells (ic g) 3 (some 0)]) ?_
  refine ⟨fun h => ?_, fun h => ?_⟩
  · intro z1 hz1 z2 hz2
    rw [hz1, xwraps (by omega) (by omega)] at hz2
    refine ⟨fun _ => ?_, fun h' => by rw [h] at h'; cases h'⟩
    have h := of_decide_eq_true h
    intro z3 hz3
    rw [hz2, xwraps (by omega) (by omega)] at hz3
    unfold mdB; rw [if_neg (show ¬ k = 0 by omega)]
    refine ⟨fun h2 => ⟨?_, rfl⟩, fun h2 => ⟨?_, rfl⟩⟩
    · have h2 := of_decide_eq_true h2
      rw [decide_eq_true (show g.length ≤ 5 by omega)]
    · have h2 := of_decide_eq_false h2
      rw [decide_eq_false (show ¬ g.length ≤ 5 by omega)]
  · have h := of_decide_eq_false h
    intro z1 hz1
    unfold mdB; rw [if_pos (show k = 0 by omega)]
    refine ⟨fun h2 => ⟨?_, rfl⟩, fun h2 => ⟨?_, rfl⟩⟩
    · have h2 : z1 = 6 := by simpa using h2
      rw [decide_eq_true (show g.length = 6 by omega)]
    · have h2 : z1 ≠ 6 := by simpa using h2
      rw [decide_eq_false (show ¬ g.length = 6 by omega)]
theorem roomn_at {H : AHeap} {b : Nat} {t p : List UInt8} {k : Nat} {c f d : Bool} (hk : k < 100) (hb : H[b]? = some (.cells [.string (bs t), .slice none 0 0, .string (bs p), .int .i64 k, .bool c, .bool f, .slice none 0 0, .bool d] false)) (he : H.all xnoE = true) :
    Fm.Spec Tryd.prog [] 103 [.pointer (some ⟨b, 0, none⟩)] H fun r h' => r = .ret (.int .i64 (rmI 0 k)) ∧ h' = H := by
  let i : Nat → Option Nat := fun x => if x = 0 then some b else none
  have E : Emb [] i [.cells [.string (bs t), .slice none 0 0, .string (bs p), .int .i64 k, .bool c, .bool f, .slice none 0 0, .bool d] false] H := by
    refine ⟨?_, by simp, ?_, ?_⟩
    · intro x y q hx hy
      have hx0 : x = 0 := by
        by_cases h : x = 0
        · exact h
        · simp [i, h] at hx
      have hy0 : y = 0 := by
        by_cases h : y = 0
        · exact h
        · simp [i, h] at hy
      rw [hx0, hy0]
    · intro x q hx
      simp only [i] at hx
      split at hx
      · rename_i h0; subst h0
        injection hx with hx; subst hx
        exact ⟨_, _, rfl, hb, ro_flat rfl⟩
      · cases hx
    · intro q ro hq
      have := List.all_eq_true.1 he _ (List.mem_of_getElem? hq)
      cases this
  refine Spec.mono (Spec.frame (gs' := []) (roomn_spec (t := t) (p := p) (c := c) (f := f) (d := d) hk) E (.cons (.ptr _ _ rfl) .nil) (by simp) ?_) ?_
  · rintro r h0' ⟨rfl, rfl⟩; rfl
  · rintro r h' ⟨r0, h0', ⟨rfl, rfl⟩, rfl, rfl⟩
    refine ⟨rfl, ?_⟩
    show putOld i 1 H.length _ H [0] H ++ [] = H
    rw [List.append_nil]
    show H.set b (updO _ 1 H[b]? (some (.cells [.string (bs t), .slice none 0 0, .string (bs p), .int .i64 k, .bool c, .bool f, .slice none 0 0, .bool d] false))) = H
    rw [hb]
    have hlt : b < H.length := (List.getElem?_eq_some_iff.1 hb).1
    have hv : H[b] = .cells [.string (bs t), .slice none 0 0, .string (bs p), .int .i64 k, .bool c, .bool f, .slice none 0 0, .bool d] false := (List.getElem?_eq_some_iff.1 hb).2
    show H.set b (.cells [.string (bs t), .slice none 0 0, .string (bs p), .int .i64 k, .bool c, .bool f, .slice none 0 0, .bool d] false) = H
    rw [← hv]; exact List.set_getElem_self hlt
theorem roomb_at {H : AHeap} {b q : Nat} {t p : List UInt8} {g : List Int} {k : Nat} {c f d : Bool} (hk : k < 100) (hg : g.length ≤ 8) (hne : b ≠ q) (hb : H[b]? = some (.cells [.string (bs t), .slice (some ⟨q, 0, some 1⟩) g.length g.length, .string (bs p), .int .i64 k, .bool c, .bool f, .slice none 0 0, .bool d] false)) (hq : H[q]? = some (.tcells (ic g) 3 (some 0))) (he : H.all xnoE = true) :
    Fm.Spec Tryd.prog [] 103 [.pointer (some ⟨b, 0, none⟩)] H fun r h' => r = .ret (.int .i64 (rmI g.length k)) ∧ h' = H := by
  let i : Nat → Option Nat := fun x => if x = 0 then some b else if x = 1 then some q else none
  have E : Emb [] i [.cells [.string (bs t), .slice (some ⟨1, 0, some 1⟩) g.length g.length, .string (bs p), .int .i64 k, .bool c, .bool f, .slice none 0 0, .bool d] false, .tcells (ic g) 3 (some 0)] H := by
    refine ⟨?_, by simp, ?_, ?_⟩
    · intro x y z hx hy
      simp only [i] at hx hy
      by_cases h0 : x = 0
      · rw [if_pos h0] at hx
        by_cases h1 : y = 0
        · omega
        · rw [if_neg h1] at hy
          by_cases h2 : y = 1
          · rw [if_pos h2] at hy
            exact absurd (Option.some.inj (hx.trans hy.symm)) hne
          · rw [if_neg h2] at hy; cases hy
      · rw [if_neg h0] at hx
        by_cases h3 : x = 1
        · rw [if_pos h3] at hx
          by_cases h1 : y = 0
          · rw [if_pos h1] at hy
            exact absurd (Option.some.inj (hy.trans hx.symm)) hne
          · rw [if_neg h1] at hy
            by_cases h2 : y = 1
            · omega
            · rw [if_neg h2] at hy; cases hy
        · rw [if_neg h3] at hx; cases hx
    · intro x z hx
      simp only [i] at hx
      by_cases h0 : x = 0
      · rw [if_pos h0] at hx
        injection hx with hx; subst h0 hx
        exact ⟨_, _, rfl, hb, .cells _ (.cons (.string _) (.cons (.slice _ _ _ _ rfl) (.cons (.string _) (.cons (.int _ _) (.cons (.bool _) (.cons (.bool _) (.cons (.snil _ _) (.cons (.bool _) .nil))))))))⟩
      · rw [if_neg h0] at hx
        by_cases h1 : x = 1
        · rw [if_pos h1] at hx
          injection hx with hx; subst h1 hx
          exact ⟨_, _, rfl, hq, ro_ic g 3 (some 0)⟩
        · rw [if_neg h1] at hx; cases hx
    · intro z ro hz
      have := List.all_eq_true.1 he _ (List.mem_of_getElem? hz)
      cases this
  refine Spec.mono (Spec.frame (gs' := []) (roomb_spec (t := t) (p := p) (c := c) (f := f) (d := d) hk hg) E (.cons (.ptr _ _ rfl) .nil) (by simp) ?_) ?_
  · rintro r h0' ⟨rfl, rfl⟩; rfl
  · rintro r h' ⟨r0, h0', ⟨rfl, rfl⟩, rfl, rfl⟩
    refine ⟨rfl, ?_⟩
    have e1 : updO (renB i 2 H.length) 2 H[b]? (some (.cells [.string (bs t), .slice (some ⟨1, 0, some 1⟩) g.length g.length, .string (bs p), .int .i64 k, .bool c, .bool f, .slice none 0 0, .bool d] false)) = .cells [.string (bs t), .slice (some ⟨q, 0, some 1⟩) g.length g.length, .string (bs p), .int .i64 k, .bool c, .bool f, .slice none 0 0, .bool d] false := by rw [hb]; rfl
    have e2 : updO (renB i 2 H.length) 2 H[q]? (some (.tcells (ic g) 3 (some 0))) = .tcells (ic g) 3 (some 0) := by rw [hq]; exact ic_renO _ _ _ _ _
    show ((H.set b (updO (renB i 2 H.length) 2 H[b]? (some (.cells [.string (bs t), .slice (some ⟨1, 0, some 1⟩) g.length g.length, .string (bs p), .int .i64 k, .bool c, .bool f, .slice none 0 0, .bool d] false)))).set q (updO (renB i 2 H.length) 2 H[q]? (some (.tcells (ic g) 3 (some 0))))) ++ [] = H
    rw [e1, e2, List.append_nil]
    have hlt : b < H.length := (List.getElem?_eq_some_iff.1 hb).1
    have hv : H[b] = .cells [.string (bs t), .slice (some ⟨q, 0, some 1⟩) g.length g.length, .string (bs p), .int .i64 k, .bool c, .bool f, .slice none 0 0, .bool d] false := (List.getElem?_eq_some_iff.1 hb).2
    have hlt2 : q < H.length := (List.getElem?_eq_some_iff.1 hq).1
    have hv2 : H[q] = .tcells (ic g) 3 (some 0) := (List.getElem?_eq_some_iff.1 hq).2
    rw [← hv, List.set_getElem_self hlt, ← hv2]; exact List.set_getElem_self hlt2
theorem mayDotn_at {H : AHeap} {b : Nat} {t p : List UInt8} {k : Nat} {c f d : Bool} (hk : k < 100) (hb : H[b]? = some (.cells [.string (bs t), .slice none 0 0, .string (bs p), .int .i64 k, .bool c, .bool f, .slice none 0 0, .bool d] false)) (he : H.all xnoE = true) :
    Fm.Spec Tryd.prog [] 100 [.pointer (some ⟨b, 0, none⟩)] H fun r h' => r = .ret (.bool (mdB 0 k)) ∧ h' = H := by
  let i : Nat → Option Nat := fun x => if x = 0 then some b else none
  have E : Emb [] i [.cells [.string (bs t), .slice none 0 0, .string (bs p), .int .i64 k, .bool c, .bool f, .slice none 0 0, .bool d] false] H := by
    refine ⟨?_, by simp, ?_, ?_⟩
    · intro x y q hx hy
      have hx0 : x = 0 := by
        by_cases h : x = 0
        · exact h
        · simp [i, h] at hx
      have hy0 : y = 0 := by
        by_cases h : y = 0
        · exact h
        · simp [i, h] at hy
      rw [hx0, hy0]
    · intro x q hx
      simp only [i] at hx
      split at hx
      · rename_i h0; subst h0
        injection hx with hx; subst hx
        exact ⟨_, _, rfl, hb, ro_flat rfl⟩
      · cases hx
    · intro q ro hq
      have := List.all_eq_true.1 he _ (List.mem_of_getElem? hq)
      cases this
  refine Spec.mono (Spec.frame (gs' := []) (mayDotn_spec (t := t) (p := p) (c := c) (f := f) (d := d) hk) E (.cons (.ptr _ _ rfl) .nil) (by simp) ?_) ?_
  · rintro r h0' ⟨rfl, rfl⟩; rfl
  · rintro r h' ⟨r0, h0', ⟨rfl, rfl⟩, rfl, rfl⟩
    refine ⟨rfl, ?_⟩
    show putOld i 1 H.length _ H [0] H ++ [] = H
    rw [List.append_nil]
    show H.set b (updO _ 1 H[b]? (some (.cells [.string (bs t), .slice none 0 0, .string (bs p), .int .i64 k, .bool c, .bool f, .slice none 0 0, .bool d] false))) = H
    rw [hb]
    have hlt : b < H.length := (List.getElem?_eq_some_iff.1 hb).1
    have hv : H[b] = .cells [.string (bs t), .slice none 0 0, .string (bs p), .int .i64 k, .bool c, .bool f, .slice none 0 0, .bool d] false := (List.getElem?_eq_some_iff.1 hb).2
    show H.set b (.cells [.string (bs t), .slice none 0 0, .string (bs p), .int .i64 k, .bool c, .bool f, .slice none 0 0, .bool d] false) = H
    rw [← hv]; exact List.set_getElem_self hlt
theorem mayDotb_at {H : AHeap} {b q : Nat} {t p : List UInt8} {g : List Int} {k : Nat} {c f d : Bool} (hk : k < 100) (hg : g.length ≤ 8) (hne : b ≠ q) (hb : H[b]? = some (.cells [.string (bs t), .slice (some ⟨q, 0, some 1⟩) g.length g.length, .string (bs p), .int .i64 k, .bool c, .bool f, .slice none 0 0, .bool d] false)) (hq : H[q]? = some (.tcells (ic g) 3 (some 0))) (he : H.all xnoE = true) :
    Fm.Spec Tryd.prog [] 100 [.pointer (some ⟨b, 0, none⟩)] H fun r h' => r = .ret (.bool (mdB g.length k)) ∧ h' = H := by
  let i : Nat → Option Nat := fun x => if x = 0 then some b else if x = 1 then some q else none
  have E : Emb [] i [.cells [.string (bs t), .slice (some ⟨1, 0, some 1⟩) g.length g.length, .string (bs p), .int .i64 k, .bool c, .bool f, .slice none 0 0, .bool d] false, .tcells (ic g) 3 (some 0)] H := by
    refine ⟨?_, by simp, ?_, ?_⟩
    · intro x y z hx hy
      simp only [i] at hx hy
      by_cases h0 : x = 0
      · rw [if_pos h0] at hx
        by_cases h1 : y = 0
        · omega
        · rw [if_neg h1] at hy
          by_cases h2 : y = 1
          · rw [if_pos h2] at hy
            exact absurd (Option.some.inj (hx.trans hy.symm)) hne
          · rw [if_neg h2] at hy; cases hy
      · rw [if_neg h0] at hx
        by_cases h3 : x = 1
        · rw [if_pos h3] at hx
          by_cases h1 : y = 0
          · rw [if_pos h1] at hy
            exact absurd (Option.some.inj (hy.trans hx.symm)) hne
          · rw [if_neg h1] at hy
            by_cases h2 : y = 1
            · omega
            · rw [if_neg h2] at hy; cases hy
        · rw [if_neg h3] at hx; cases hx
    · intro x z hx
      simp only [i] at hx
      by_cases h0 : x = 0
      · rw [if_pos h0] at hx
        injection hx with hx; subst h0 hx
        exact ⟨_, _, rfl, hb, .cells _ (.cons (.string _) (.cons (.slice _ _ _ _ rfl) (.cons (.string _) (.cons (.int _ _) (.cons (.bool _) (.cons (.bool _) (.cons (.snil _ _) (.cons (.bool _) .nil))))))))⟩
      · rw [if_neg h0] at hx
        by_cases h1 : x = 1
        · rw [if_pos h1] at hx
          injection hx with hx; subst h1 hx
          exact ⟨_, _, rfl, hq, ro_ic g 3 (some 0)⟩
        · rw [if_neg h1] at hx; cases hx
    · intro z ro hz
      have := List.all_eq_true.1 he _ (List.mem_of_getElem? hz)
      cases this
  refine Spec.mono (Spec.frame (gs' := []) (mayDotb_spec (t := t) (p := p) (c := c) (f := f) (d := d) hk hg) E (.cons (.ptr _ _ rfl) .nil) (by simp) ?_) ?_
  · rintro r h0' ⟨rfl, rfl⟩; rfl
  · rintro r h' ⟨r0, h0', ⟨rfl, rfl⟩, rfl, rfl⟩
    refine ⟨rfl, ?_⟩
    have e1 : updO (renB i 2 H.length) 2 H[b]? (some (.cells [.string (bs t), .slice (some ⟨1, 0, some 1⟩) g.length g.length, .string (bs p), .int .i64 k, .bool c, .bool f, .slice none 0 0, .bool d] false)) = .cells [.string (bs t), .slice (some ⟨q, 0, some 1⟩) g.length g.length, .string (bs p), .int .i64 k, .bool c, .bool f, .slice none 0 0, .bool d] false := by rw [hb]; rfl
    have e2 : updO (renB i 2 H.length) 2 H[q]? (some (.tcells (ic g) 3 (some 0))) = .tcells (ic g) 3 (some 0) := by rw [hq]; exact ic_renO _ _ _ _ _
    show ((H.set b (updO (renB i 2 H.length) 2 H[b]? (some (.cells [.string (bs t), .slice (some ⟨1, 0, some 1⟩) g.length g.length, .string (bs p), .int .i64 k, .bool c, .bool f, .slice none 0 0, .bool d] false)))).set q (updO (renB i 2 H.length) 2 H[q]? (some (.tcells (ic g) 3 (some 0))))) ++ [] = H
    rw [e1, e2, List.append_nil]
    have hlt : b < H.length := (List.getElem?_eq_some_iff.1 hb).1
    have hv : H[b] = .cells [.string (bs t), .slice (some ⟨q, 0, some 1⟩) g.length g.length, .string (bs p), .int .i64 k, .bool c, .bool f, .slice none 0 0, .bool d] false := (List.getElem?_eq_some_iff.1 hb).2
    have hlt2 : q < H.length := (List.getElem?_eq_some_iff.1 hq).1
    have hv2 : H[q] = .tcells (ic g) 3 (some 0) := (List.getElem?_eq_some_iff.1 hq).2
    rw [← hv, List.set_getElem_self hlt, ← hv2]; exact List.set_getElem_self hlt2
end Go.Proofs.YtopladipgobpjaaDoor
