/-
  Small facts for the texts on IPv6 addresses. No condition.
-/
import Derived.Test.YtopladipgobpjaaDoorWords
import Derived.Test.YtopladipgobpjaaDoorFmE
import Derived.Test.YtopladipgobpjaaDoorPlain6
namespace Go.Proofs.YtopladipgobpjaaDoor
open Go.Fm
instance ufX : UF := ⟨[5, 9, 3]⟩
theorem xwrapi {x : Int} (h0 : 0 ≤ x) (h1 : x < 2 ^ 63) : IntKind.i64.wrap x = x := by
  simp only [IntKind.wrap, IntKind.bits, IntKind.signed]
  simp; omega
theorem xwrap8 {x : Int} (h0 : 0 ≤ x) (h1 : x < 256) : IntKind.u8.wrap x = x := by
  simp only [IntKind.wrap, IntKind.bits, IntKind.signed, Bool.false_and, Bool.false_eq_true, if_false]
  omega
theorem xstep {o : Option Value} {k : IntKind} {v : Int} {X : Int → Prop} (h : o = some (.int k v)) (hX : X v) : (∃ z : Int, o = some (.int k z)) ∧ ∀ z : Int, o = some (.int k z) → X z :=
  ⟨⟨v, h⟩, fun z hz => by
    have e : v = z := by
      have := h.symm.trans hz
      injection this with this; injection this
    rw [← e]; exact hX⟩
theorem xu9 : Tryd.prog.underlying 9 = some .string := by kernel_rfl
theorem xu90 : Tryd.prog.underlying 90 = some (.slice 5) := by kernel_rfl
theorem xs5 : aSize Tryd.prog 5 = some 1 := by kernel_rfl
theorem xa5 : aIsAgg Tryd.prog 5 = some false := by kernel_rfl
theorem xfun_of {f : FuncId} {args : List Value} {v : Value} (h : Fm.Spec Tryd.prog [] f args [] fun r _ => r = .ret v) (hv : Flat v) : Fun f args v :=
  Spec.mono h (by rintro r h' rfl; exact ⟨_, rfl, hv, rfl⟩)
theorem xspec {T : Prop} {fg : Bool} {kn gs : List Nat} {lf m : Nat} {f : FuncId} {args : List Value} {h : AHeap} {c : Scr} {Q : Res → AHeap → Prop}
    (e : T = runS Tryd.prog gs fg kn lf (SpecC Tryd.prog gs) m f args h .norm c (fun r _ h _ => Q r h)) (t : T) : Fm.Spec Tryd.prog gs f args h Q := spec_of_script Tryd.mixed (Eq.mp e t)
theorem xspecr {T : Prop} {fg : Bool} {kn gs : List Nat} {lf m : Nat} {f : FuncId} {args : List Value} {h : AHeap} {c : Scr} {Q : Res → Prop}
    (e : T = runS Tryd.prog gs fg kn lf (SpecC Tryd.prog gs) m f args h .norm c (fun r _ _ _ => Q r)) (t : T) : Fm.Spec Tryd.prog gs f args h (fun r _ => Q r) := spec_of_script Tryd.mixed (Eq.mp e t)
theorem xtake {l : List UInt8} {i : Nat} (h : i < l.length) : l.take (i + 1) = l.take i ++ [l.getD i 0] := by
  rw [List.take_succ_eq_append_getElem h, List.getD_eq_getElem?_getD, List.getElem?_eq_getElem h]; rfl
theorem xmem {l : List UInt8} {i : Nat} (h : i < l.length) : l.getD i 0 ∈ l := by
  rw [List.getD_eq_getElem?_getD, List.getElem?_eq_getElem h]; exact List.getElem_mem h
theorem xbyte {b k u : Nat} {h : AHeap} {l : List UInt8} {z : Option Nat} (hb : h[b]? = some (.tcells (bc l) u z)) (hk : k < l.length) : aLoad Tryd.prog 5 (.pointer (some ⟨b, 0 + k * 1, none⟩)) h = some (.int .u8 (l.getD k 0).toNat) := by
  rw [Nat.zero_add, Nat.mul_one]; exact aLoad_row xa5 hb (bc_get hk)
abbrev SpecK (P : Program) (f : Nat) (args : List Value) (H : AHeap) (v : Value) : Prop :=
  SpecC P [] (.fn f) args H (fun r h' => ∃ ia, ((fun _ : Unit => (True, Res.ret v, H)) ia).1 ∧ r = ((fun _ : Unit => (True, Res.ret v, H)) ia).2.1 ∧ h' = ((fun _ : Unit => (True, Res.ret v, H)) ia).2.2)
abbrev ck (v : Value) (h : AHeap) : Unit → Prop × Res × AHeap := fun _ => (True, .ret v, h)
abbrev By1 (b N : Nat) (L : List Int) (j s : Nat) (X : Int → Prop) : Prop :=
  (aIndexAddr Tryd.prog 80 (.slice (some ⟨b, 0, some 1⟩) N N) (.int .i64 ((j : Nat) : Int)) = some (.pointer (some ⟨b, j, none⟩))) ∧
  (∃ z : Int, aLoad Tryd.prog 3 (.pointer (some ⟨0, j, none⟩)) [.tcells (ic L) 3 (some 0)] = some (.int .i64 z)) ∧
  ∀ z : Int, aLoad Tryd.prog 3 (.pointer (some ⟨0, j, none⟩)) [.tcells (ic L) 3 (some 0)] = some (.int .i64 z) →
  ∀ z2 : Int, z2 = (z.fdiv (2 ^ Min.min s IntKind.i64.bits)) → ∀ z3 : Int, z3 = (IntKind.u8.wrap z2) → X z3
theorem xsim_less {F : Nat → Nat → Prop} {w0 w : World} {j : Inj} {h h' : AHeap} (S : Fm.Sim F w0 j h w) (hle : HeapLe h h') (hs : h'.all (scopeO h'.length) = true) : Fm.Sim F w0 (j.by (upto h'.length)) h' w := by
  refine S.gc ?_ ?_
  · intro b c q h1 h2
    obtain ⟨rfl, _⟩ := upto_some h1
    exact (upto_some h2).1
  · intro b q hb
    obtain ⟨rfl, hlt⟩ := upto_some hb
    have hb' : h'[q]? = some h'[q] := List.getElem?_eq_getElem hlt
    obtain ⟨o, h1, h2⟩ := hle.get hb'
    refine ⟨_, _, hb', h1, ?_⟩
    rcases h2 with h2 | h2
    · rw [h2]; exact .dead _
    · rw [h2]
      have := List.all_eq_true.1 hs _ (List.getElem_mem hlt)
      rw [h2] at this
      exact scopeO_ro _ this
theorem xless {P : Program} {gs : List Nat} {f : FuncId} {args : List Value} {h : AHeap} {Q : Res → AHeap → Prop}
    (hs : Fm.Spec P gs f args h fun r h' => ∃ h'', HeapLe h' h'' ∧ h''.length = h.length ∧ mayForget h''.length r h'' = true ∧ Q r h'') : Fm.Spec P gs f args h Q := by
  refine ⟨hs.1, ?_⟩
  intro G F w0 j w args' cs S hA hg hK
  refine hs.2 G F w0 j w args' cs S hA hg ?_
  rintro r h' j' w' fr ⟨h'', hle, hlen, hb, hq⟩ hext hl S' hlv
  unfold mayForget at hb
  rw [Bool.and_eq_true] at hb
  refine hK r h'' _ w' fr hq (hlen ▸ ext_forget (hlen ▸ S.dom) (hlen ▸ hext)) (by omega) (xsim_less S' hle hb.2) ?_
  cases r with
  | ret v =>
    obtain ⟨l1, l2, l3, l4, l5, fn, v', l6, l7, l8⟩ := hlv
    exact ⟨l1, l2, l3, l4, l5, fn, v', l6, l7, (scopeV_rv 8 v hb.1).vr l8⟩
  | pan ch => simp [scopeR] at hb
end Go.Proofs.YtopladipgobpjaaDoor
