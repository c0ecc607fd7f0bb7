/-
  The reference's Told by the pure model. Conditions: fewer than 2^20 entries, rising by their addresses; a limit of one at least; bounded words.
-/
import Derived.Test.YtcdmnmpiipmfmaaRf5
namespace Go.Proofs.Ytcdmnmpiipmfmaa
open Go.Fm

def EndR (h0 : AHeap) (Q : Res → AHeap → Prop) (r : Res) (h' : AHeap) : Prop :=
  ∃ (m : List Nat) (v v' : Value) (h'' : AHeap), r = .ret v ∧ m.Nodup ∧ (List.range h0.length).all (fun b => m[b]? == some b) = true ∧ h0.length ≤ m.length ∧ HeapRen (ren m) h' m h'' ∧ RV (ren m) v' v ∧ Q (.ret v') h''
/-- the entry that is put -/
abbrev eT (x : Cf) (t : Int) (D : Ad) (mtu : Int) : En := ⟨D, maxE x mtu, endE x t⟩
abbrev QT (h0 : AHeap) (x : Cf) (t : Int) (D : Ad) (mtu : Int) (E : List En) (r : Res) (h' : AHeap) : Prop := EndR h0 (PJ h0 0 (some 1) x (vB (true, 0)) t (insE (eT x t D mtu) (roomE x D E))) r h'
theorem insE_nil {e : En} : insE e [] = [e] := rfl
theorem insE_ne {e : En} {L : List En} : insE e L ≠ [] := by unfold insE; simp
theorem room_nil {x : Cf} {D : Ad} : roomE x D [] = [] := by
  unfold roomE
  split
  · rfl
  · split <;> rfl
theorem tidy_nil {t : Int} : tidyE t [] = [] := rfl
theorem endE_of {x : Cf} {t z : Int} (h : z = IntKind.i64.wrap (t + x.life)) (h0 : -2 ^ 63 ≤ t + x.life) (h1 : t + x.life < 2 ^ 63) : (if 1099511627776 < z then 1099511627776 else z) = endE x t := by
  rw [wr h0 h1] at h; subst h; rfl
abbrev krf60t0 (x : Cf) (t : Int) (D : Ad) (Q : Res →
 AHeap →
 Prop) (z1 : Int) : Prop := ∀ z2 : Int, z2 = (IntKind.i64.wrap (t + x.life)) →
∀ z3 : Int, z3 = (if 1099511627776 < z2 then 1099511627776 else z2) →
 Q (.ret (.tuple ⟨[(.bool true), (iv 0)]⟩)) [oS x t (sB 4 1), oA D, .tcells [] 66 (some 0), .tcells (rowE { d := D, m := z1, u := z3 }) 66 (some 0), .tcells (rowE { d := D, m := z1, u := z3 }) 66 (some 0)]
noncomputable abbrev krf60s0 (x : Cf) (t : Int) (D : Ad) : Scr := .skip 3 (.call (Unit) (kWoF (atM D []) [oS x t sN, oA D]).post fun _ => .skip 1 (.unr 60 (.skip 40 (.all (fun _z2 => .skip 0 (.all (fun _z3 => .go)))))))
theorem run_rtoldN (x : Cf) (now : Int) (t : Int) (D : Ad) (mtu : Int) (Q : Res → AHeap → Prop) : ((((decide (t < now)) = true →
 Q (.ret (.tuple ⟨[(.bool false), (iv 153)]⟩)) [oS x now sN, oA D]) ∧
((decide (t < now)) = false →
(((decide (t > 1099511627776)) = true →
 Q (.ret (.tuple ⟨[(.bool false), (iv 153)]⟩)) [oS x now sN, oA D]) ∧
((decide (t > 1099511627776)) = false →
(((decide (mtu < 0)) = true →
 Q (.ret (.tuple ⟨[(.bool false), (iv 131)]⟩)) [oS x now sN, oA D]) ∧
((decide (mtu < 0)) = false →
(((decide (mtu > 65535)) = true →
 Q (.ret (.tuple ⟨[(.bool false), (iv 131)]⟩)) [oS x now sN, oA D]) ∧
((decide (mtu > 65535)) = false →
((kBtN (oA D) x now t).asks Try.prog [] 25 ∧
∀ _ : Unit, (True) →
∀ z1 : Int, z1 = (if x.least > mtu then x.least else mtu) →
((kMtN (oA D) x t D).asks Try.prog [] 26 ∧
∀ _ : Unit, (True) →
(((decide (z1 ≥ lookE D x [])) = true →
 Q (.ret (.tuple ⟨[(.bool false), (iv 0)]⟩)) [oS x t sN, oA D]) ∧
((decide (z1 ≥ lookE D x [])) = false →
((kAtN (oA D) x t D).asks Try.prog [] 33 ∧
∀ _ : Unit, (True) →
(((decide (atM D [] < 0)) = true →
(((decide (Int.ofNat 0 ≥ x.lim)) = true →
((kWoF 0 [oS x t sN, oA D]).asks Try.prog [] 34 ∧
∀ _ : Unit, (False) →
(krf60t0 x t D Q z1))) ∧
((decide (Int.ofNat 0 ≥ x.lim)) = false →
(((decide (atM D [] ≥ 0)) = true →
((kWoF (atM D []) [oS x t sN, oA D]).asks Try.prog [] 34 ∧
∀ _ : Unit, (False) →
(krf60t0 x t D Q z1))) ∧
((decide (atM D [] ≥ 0)) = false →
(krf60t0 x t D Q z1)))))) ∧
((decide (atM D [] < 0)) = false →
(((decide (atM D [] ≥ 0)) = true →
((kWoF (atM D []) [oS x t sN, oA D]).asks Try.prog [] 34 ∧
∀ _ : Unit, (False) →
(krf60t0 x t D Q z1))) ∧
((decide (atM D [] ≥ 0)) = false →
(krf60t0 x t D Q z1))))))))))))))))))) =
    runS Try.prog [] false [25, 26, 33, 34] 0 (SpecC Try.prog []) 20 15 [pR, .int .i64 t, .agg ⟨rowA D⟩, .int .i64 mtu] (hN x now) .norm (.skip 8 (.ask (.go) (.skip 4 (.ask (.go) (.skip 3 (.ask (.go) (.skip 4 (.ask (.go) (.skip 4 (.call (Unit) (kBtN (oA D) x now t).post fun _ => .skip 6 (.all (fun _z1 => .skip 4 (.call (Unit) (kMtN (oA D) x t D).post fun _ => .skip 0 (.ask (.go) (.skip 3 (.call (Unit) (kAtN (oA D) x t D).post fun _ => .skip 2 (.ask (.skip 22 (.ask (.skip 4 (.unr 60 (.skip 13 (.call (Unit) (kWoF 0 [oS x t sN, oA D]).post fun _ => .skip 1 (.unr 60 (.skip 40 (.all (fun _z2 => .skip 0 (.all (fun _z3 => .go)))))))))) (.skip 3 (.ask (krf60s0 x t D) (.skip 2 (.unr 60 (.skip 40 (.all (fun _z2 => .skip 0 (.all (fun _z3 => .go))))))))))) (.skip 15 (.ask (krf60s0 x t D) (.skip 2 (.unr 60 (.skip 40 (.all (fun _z2 => .skip 0 (.all (fun _z3 => .go)))))))))))))))))))))))))) (fun r _ h _ => Q r h) := by kernel_rfl

theorem rtoldN_ok {x : Cf} {now t mtu : Int} {D : Ad} (HL : 1 ≤ x.lim) (HF : 0 ≤ x.life ∧ x.life < 2 ^ 62) (HT : -(2 ^ 62) ≤ now) : Fm.Spec Try.prog [] 15 [pR, .int .i64 t, .agg ⟨rowA D⟩, .int .i64 mtu] (hN x now) (PJ (hN x now) 0 none x (vB (toldM x now [] t D mtu).1) (toldM x now [] t D mtu).2.1 (toldM x now [] t D mtu).2.2) := by
  refine Spec.re (spec_T (run_rtoldN x now t D mtu _) ?_)
  refine ⟨fun h0 => ?_, fun h0 => ?_⟩
  replace h0 := of_decide_eq_true h0
  rw [toldM_err (.inl h0)]; exact jN0 rfl
  replace h0 := of_decide_eq_false h0
  refine ⟨fun h1 => ?_, fun h1 => ?_⟩
  replace h1 := of_decide_eq_true h1
  rw [toldM_err (.inr h1)]; exact jN0 rfl
  replace h1 := of_decide_eq_false h1
  have he : ¬ errT t now := errT_no h0 h1
  refine ⟨fun h2 => ?_, fun h2 => ?_⟩
  replace h2 := of_decide_eq_true h2
  rw [toldM_mtu he (.inl h2)]; exact jN0 rfl
  replace h2 := of_decide_eq_false h2
  refine ⟨fun h3 => ?_, fun h3 => ?_⟩
  replace h3 := of_decide_eq_true h3
  rw [toldM_mtu he (.inr h3)]; exact jN0 rfl
  replace h3 := of_decide_eq_false h3
  have hm : ¬ (mtu < 0 ∨ mtu > 65535) := fun h => h.elim h2 h3
  refine ⟨btN_ok rfl he, ?_⟩
  intro _ _
  intro z1 hz1
  replace hz1 : z1 = maxE x mtu := hz1
  subst hz1
  refine ⟨mtN_ok rfl, ?_⟩
  intro _ _
  refine ⟨fun h4 => ?_, fun h4 => ?_⟩
  replace h4 := of_decide_eq_true h4
  rw [toldM_low he hm (by rw [tidy_nil]; exact h4), tidy_nil]; exact jN0 rfl
  replace h4 := of_decide_eq_false h4
  refine ⟨atN1_ok rfl, ?_⟩
  intro _ _
  refine ⟨fun h5 => ?_, fun h5 => ?_⟩
  replace h5 := of_decide_eq_true h5
  refine ⟨fun h6 => ?_, fun h6 => ?_⟩
  replace h6 := of_decide_eq_true h6
  exact absurd (show (0 : Int) ≥ x.lim from h6) (by omega)
  replace h6 := of_decide_eq_false h6
  refine ⟨fun h7 => ?_, fun h7 => ?_⟩
  replace h7 := of_decide_eq_true h7
  exact absurd (show (-1 : Int) ≥ 0 from h7) (by decide)
  replace h7 := of_decide_eq_false h7
  intro z2 hz2
  intro z3 hz3
  replace hz3 : z3 = endE x t := hz3.trans (endE_of hz2 (by omega) (by omega))
  subst hz3
  rw [toldM_put he hm (by rw [tidy_nil]; exact h4), tidy_nil, room_nil, insE_nil]; exact jN1 (k := 4) rfl (by decide) rfl rfl (by simp)
  replace h5 := of_decide_eq_false h5
  exact absurd at_nil h5
abbrev krf61t0 (x : Cf) (E : List En) (t : Int) (D : Ad) (Q : Res →
 AHeap →
 Prop) (z1 : Int) : Prop := ∀ z2 : Int, z2 = (IntKind.i64.wrap (t + x.life)) →
∀ z3 : Int, z3 = (if 1099511627776 < z2 then 1099511627776 else z2) →
 Q (.ret (.tuple ⟨[(.bool true), (iv 0)]⟩)) [oS x t (sB 5 1), oR E, oA D, .tcells [] 66 (some 0), .tcells (rowE { d := D, m := z1, u := z3 }) 66 (some 0), .tcells (rowE { d := D, m := z1, u := z3 }) 66 (some 0)]
abbrev krf61t1 (x : Cf) (E : List En) (t : Int) (D : Ad) (Q : Res →
 AHeap →
 Prop) (z1 : Int) : Prop := ((decide (atM D [] ≥ 0)) = true →
((kWoF (atM D []) [oS x t sN, oR E, oA D]).asks Try.prog [] 34 ∧
∀ _ : Unit, (False) →
(krf61t0 x E t D Q z1))) ∧
((decide (atM D [] ≥ 0)) = false →
(krf61t0 x E t D Q z1))
noncomputable abbrev krf61s0 (x : Cf) (E : List En) (t : Int) (D : Ad) : Scr := .skip 3 (.call (Unit) (kWoF (atM D []) [oS x t sN, oR E, oA D]).post fun _ => .skip 1 (.unr 60 (.skip 40 (.all (fun _z2 => .skip 0 (.all (fun _z3 => .go)))))))
theorem run_rtol0 (x : Cf) (now : Int) (E : List En) (n : Nat) (t : Int) (D : Ad) (mtu : Int) (Q : Res → AHeap → Prop) : ((((decide (t < now)) = true →
 Q (.ret (.tuple ⟨[(.bool false), (iv 153)]⟩)) [oS x now (sB 1 n), oR E, oA D]) ∧
((decide (t < now)) = false →
(((decide (t > 1099511627776)) = true →
 Q (.ret (.tuple ⟨[(.bool false), (iv 153)]⟩)) [oS x now (sB 1 n), oR E, oA D]) ∧
((decide (t > 1099511627776)) = false →
(((decide (mtu < 0)) = true →
 Q (.ret (.tuple ⟨[(.bool false), (iv 131)]⟩)) [oS x now (sB 1 n), oR E, oA D]) ∧
((decide (mtu < 0)) = false →
(((decide (mtu > 65535)) = true →
 Q (.ret (.tuple ⟨[(.bool false), (iv 131)]⟩)) [oS x now (sB 1 n), oR E, oA D]) ∧
((decide (mtu > 65535)) = false →
((kBt0 (oA D) x now t E n).asks Try.prog [] 25 ∧
∀ _ : Unit, (True) →
∀ z1 : Int, z1 = (if x.least > mtu then x.least else mtu) →
((kMtN2 (oR E) (oA D) x t D).asks Try.prog [] 26 ∧
∀ _ : Unit, (True) →
(((decide (z1 ≥ lookE D x [])) = true →
 Q (.ret (.tuple ⟨[(.bool false), (iv 0)]⟩)) [oS x t sN, oR E, oA D]) ∧
((decide (z1 ≥ lookE D x [])) = false →
((kAtN2 (oR E) (oA D) x t D).asks Try.prog [] 33 ∧
∀ _ : Unit, (True) →
(((decide (atM D [] < 0)) = true →
(((decide (Int.ofNat 0 ≥ x.lim)) = true →
((kWoF 0 [oS x t sN, oR E, oA D]).asks Try.prog [] 34 ∧
∀ _ : Unit, (False) →
(krf61t0 x E t D Q z1))) ∧
((decide (Int.ofNat 0 ≥ x.lim)) = false →
((krf61t1 x E t D Q z1))))) ∧
((decide (atM D [] < 0)) = false →
((krf61t1 x E t D Q z1)))))))))))))))))) =
    runS Try.prog [] false [25, 26, 33, 34] 0 (SpecC Try.prog []) 20 15 [pR, .int .i64 t, .agg ⟨rowA D⟩, .int .i64 mtu] (hB x now E n) .norm (.skip 8 (.ask (.go) (.skip 4 (.ask (.go) (.skip 3 (.ask (.go) (.skip 4 (.ask (.go) (.skip 4 (.call (Unit) (kBt0 (oA D) x now t E n).post fun _ => .skip 6 (.all (fun _z1 => .skip 4 (.call (Unit) (kMtN2 (oR E) (oA D) x t D).post fun _ => .skip 0 (.ask (.go) (.skip 3 (.call (Unit) (kAtN2 (oR E) (oA D) x t D).post fun _ => .skip 2 (.ask (.skip 22 (.ask (.skip 4 (.unr 60 (.skip 13 (.call (Unit) (kWoF 0 [oS x t sN, oR E, oA D]).post fun _ => .skip 1 (.unr 60 (.skip 40 (.all (fun _z2 => .skip 0 (.all (fun _z3 => .go)))))))))) (.skip 3 (.ask (krf61s0 x E t D) (.skip 2 (.unr 60 (.skip 40 (.all (fun _z2 => .skip 0 (.all (fun _z3 => .go))))))))))) (.skip 15 (.ask (krf61s0 x E t D) (.skip 2 (.unr 60 (.skip 40 (.all (fun _z2 => .skip 0 (.all (fun _z3 => .go)))))))))))))))))))))))))) (fun r _ h _ => Q r h) := by kernel_rfl

theorem rtol0_ok {x : Cf} {now t mtu : Int} {D : Ad} {E : List En} {n : Nat} (hl : E.length = n) (hn : 1 ≤ n) (hb : n < 2 ^ 20) (HL : 1 ≤ x.lim) (HF : 0 ≤ x.life ∧ x.life < 2 ^ 62) (HT : -(2 ^ 62) ≤ now) (e0 : tidyE t E = []) : Fm.Spec Try.prog [] 15 [pR, .int .i64 t, .agg ⟨rowA D⟩, .int .i64 mtu] (hB x now E n) (PJ (hB x now E n) 0 (some 1) x (vB (toldM x now E t D mtu).1) (toldM x now E t D mtu).2.1 (toldM x now E t D mtu).2.2) := by
  refine Spec.re (spec_T (run_rtol0 x now E n t D mtu _) ?_)
  refine ⟨fun h0 => ?_, fun h0 => ?_⟩
  replace h0 := of_decide_eq_true h0
  rw [toldM_err (.inl h0)]; exact jBs rfl hl hn
  replace h0 := of_decide_eq_false h0
  refine ⟨fun h1 => ?_, fun h1 => ?_⟩
  replace h1 := of_decide_eq_true h1
  rw [toldM_err (.inr h1)]; exact jBs rfl hl hn
  replace h1 := of_decide_eq_false h1
  have he : ¬ errT t now := errT_no h0 h1
  refine ⟨fun h2 => ?_, fun h2 => ?_⟩
  replace h2 := of_decide_eq_true h2
  rw [toldM_mtu he (.inl h2)]; exact jBs rfl hl hn
  replace h2 := of_decide_eq_false h2
  refine ⟨fun h3 => ?_, fun h3 => ?_⟩
  replace h3 := of_decide_eq_true h3
  rw [toldM_mtu he (.inr h3)]; exact jBs rfl hl hn
  replace h3 := of_decide_eq_false h3
  have hm : ¬ (mtu < 0 ∨ mtu > 65535) := fun h => h.elim h2 h3
  refine ⟨bt0_ok hl hb rfl he e0, ?_⟩
  intro _ _
  intro z1 hz1
  replace hz1 : z1 = maxE x mtu := hz1
  subst hz1
  refine ⟨mtN2_ok rfl rfl, ?_⟩
  intro _ _
  refine ⟨fun h4 => ?_, fun h4 => ?_⟩
  replace h4 := of_decide_eq_true h4
  rw [toldM_low he hm (by rw [e0]; exact h4), e0]; exact jB0 rfl
  replace h4 := of_decide_eq_false h4
  refine ⟨atN2_ok rfl rfl, ?_⟩
  intro _ _
  refine ⟨fun h5 => ?_, fun h5 => ?_⟩
  replace h5 := of_decide_eq_true h5
  refine ⟨fun h6 => ?_, fun h6 => ?_⟩
  replace h6 := of_decide_eq_true h6
  exact absurd (show (0 : Int) ≥ x.lim from h6) (by omega)
  replace h6 := of_decide_eq_false h6
  refine ⟨fun h7 => ?_, fun h7 => ?_⟩
  replace h7 := of_decide_eq_true h7
  exact absurd (show (-1 : Int) ≥ 0 from h7) (by decide)
  replace h7 := of_decide_eq_false h7
  intro z2 hz2
  intro z3 hz3
  replace hz3 : z3 = endE x t := hz3.trans (endE_of hz2 (by omega) (by omega))
  subst hz3
  rw [toldM_put he hm (by rw [e0]; exact h4), e0, room_nil, insE_nil]; exact jB1 (k := 5) rfl (by decide) rfl rfl rfl (by simp)
  replace h5 := of_decide_eq_false h5
  exact absurd at_nil h5

end Go.Proofs.Ytcdmnmpiipmfmaa
