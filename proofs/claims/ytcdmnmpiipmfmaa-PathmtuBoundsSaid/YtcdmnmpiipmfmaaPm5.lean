/-
  The cache's methods answer as the pure model says (PlainM, PlainN). Conditions: the map stands for a row (Rep); where an entry is put: bytes, a limit of one at least, bounded words.
-/
import Derived.Test.YtcdmnmpiipmfmaaPlainN
namespace Go.Proofs.Ytcdmnmpiipmfmaa
open Go.Fm

/-- what is behind a call that leaves no block -/
def Pst (x : Cf) (v : Value) (n : Int) (E : List En) (r : Res) (h' : AHeap) : Prop := ∃ v' now' l' cl' T, (v' = v ∧ now' = n ∧ T = [] ∧ Rep cl' l' E) ∧ r = .ret v' ∧ h' = hC x now' l' cl' ++ T.map oR ∧ scopeV (2 + T.length) 8 v' = true
theorem leafP {x : Cf} {v : Value} {n : Int} {E : List En} {l : List (En × Nat)} {cl : Nat} {rest : AHeap} (HR : Rep cl l E) (h0 : scopeV 0 8 v = true) (h2 : scopeV 2 8 v = true) :
    ∃ v1 l1 cl1 x1 now1 rest1, Res.ret v = .ret v1 ∧ scopeV 0 8 v1 = true ∧ (oM l cl :: oC x n :: rest) = oM l1 cl1 :: oC x1 now1 :: rest1 ∧ Pst x v n E (.ret v1) (hC x1 now1 l1 cl1) :=
  ⟨v, l, cl, x, n, rest, rfl, h0, rfl, v, n, l, cl, [], ⟨rfl, rfl, rfl, HR⟩, rfl, (List.append_nil _).symm, h2⟩
theorem errT_no {t now : Int} (h1 : ¬ t < now) (h2 : ¬ t > 1099511627776) : ¬ errT t now := fun h => h.elim h1 h2
def vI (p : Int × Int) : Value := .tuple ⟨[.int .i64 p.1, .int .i64 p.2]⟩
def vB (p : Bool × Int) : Value := .tuple ⟨[.bool p.1, .int .i64 p.2]⟩
theorem tidy_len {t : Int} {E : List En} : (tidyE t E).length ≤ E.length := List.length_filter_le _ _
theorem run_get (x : Cf) (now t : Int) (l : List (En × Nat)) (cl : Nat) (D : Ad) (Q : Res → AHeap → Prop) : ((((decide (t < now)) = true →
 Q (.ret (.tuple ⟨[(iv 0), (iv 153)]⟩)) [oM l cl, oC x now, oA D]) ∧
((decide (t < now)) = false →
(((decide (t > 1099511627776)) = true →
 Q (.ret (.tuple ⟨[(iv 0), (iv 153)]⟩)) [oM l cl, oC x now, oA D]) ∧
((decide (t > 1099511627776)) = false →
((kAt1 (oA D) x now t l cl).asks Try.prog [] 23 ∧
∀ i1 : List (En × Nat), (pAt t l cl i1) →
((aLookup Try.prog 46 (.map (some 0)) (.agg ⟨(rowA D)⟩) true [oM i1 cl] = some (.tuple ⟨[(.agg ⟨[(iv ((fnd D i1).m)), (iv ((fnd D i1).u))]⟩), (.bool (has D i1))]⟩)) ∧
(((has D i1) = true →
 Q (.ret (.tuple ⟨[(iv ((fnd D i1).m)), (iv 0)]⟩)) [oM i1 cl, oC x t, oA D, oA D, .tcells [(iv ((fnd D i1).m)), (iv ((fnd D i1).u))] 62 (some 0)]) ∧
((has D i1) = false →
 Q (.ret (.tuple ⟨[(iv x.link), (iv 0)]⟩)) [oM i1 cl, oC x t, oA D, oA D, .tcells [(iv ((fnd D i1).m)), (iv ((fnd D i1).u))] 62 (some 0)]))))))))) =
    runS Try.prog [] false [23] 0 (SpecC Try.prog []) 20 10 [pC, .int .i64 t, .agg ⟨rowA D⟩] (hC x now l cl) .norm (.skip 32 (.ask (.go) (.skip 4 (.ask (.go) (.skip 9 (.call (List (En × Nat)) (kAt1 (oA D) x now t l cl).post fun i1 => .skip 10 (.val (.tuple ⟨[(.agg ⟨[(iv ((fnd D i1).m)), (iv ((fnd D i1).u))]⟩), (.bool (has D i1))]⟩) (.skip 5 (.ask (.go) (.go)))))))))) (fun r _ h _ => Q r h) := by kernel_rfl

theorem getM_err {x : Cf} {now t : Int} {E : List En} {D : Ad} (h : errT t now) : getM x now E t D = ((0, 153), now, E) := if_pos h
theorem getM_ok {x : Cf} {now t : Int} {E : List En} {D : Ad} (h : ¬ errT t now) : getM x now E t D = ((lookE D x (tidyE t E), 0), t, tidyE t E) := if_neg h
theorem get_ok {x : Cf} {now t : Int} {l : List (En × Nat)} {cl : Nat} {E : List En} {D : Ad} (HR : Rep cl l E) :
    Fm.Spec Try.prog [] 10 [pC, .int .i64 t, .agg ⟨rowA D⟩] (hC x now l cl) (Pst x (vI (getM x now E t D).1) (getM x now E t D).2.1 (getM x now E t D).2.2) := by
  refine forget2 rfl (spec_T (run_get x now t l cl D _) ?_)
  refine ⟨fun h0 => ?_, fun h0 => ?_⟩
  replace h0 := of_decide_eq_true h0
  rw [getM_err (.inl h0)]; exact leafP HR rfl rfl
  replace h0 := of_decide_eq_false h0
  refine ⟨fun h1 => ?_, fun h1 => ?_⟩
  replace h1 := of_decide_eq_true h1
  rw [getM_err (.inr h1)]; exact leafP HR rfl rfl
  replace h1 := of_decide_eq_false h1
  refine ⟨at1_ok HR.wf rfl, ?_⟩
  intro i1 hi1
  have Hi1 := HR.tidy hi1
  refine ⟨look_m _ rfl, ?_⟩
  refine ⟨fun h2 => ?_, fun h2 => ?_⟩
  rw [getM_ok (errT_no h0 h1), ← Hi1.look, if_pos h2]; exact leafP Hi1 rfl rfl
  rw [getM_ok (errT_no h0 h1), ← Hi1.look, if_neg (by rw [h2]; decide)]; exact leafP Hi1 rfl rfl
theorem run_drop (x : Cf) (now t : Int) (l : List (En × Nat)) (cl : Nat) (D : Ad) (Q : Res → AHeap → Prop) : ((((decide (t < now)) = true →
 Q (.ret (.tuple ⟨[(.bool false), (iv 153)]⟩)) [oM l cl, oC x now, oA D]) ∧
((decide (t < now)) = false →
(((decide (t > 1099511627776)) = true →
 Q (.ret (.tuple ⟨[(.bool false), (iv 153)]⟩)) [oM l cl, oC x now, oA D]) ∧
((decide (t > 1099511627776)) = false →
((kAt1 (oA D) x now t l cl).asks Try.prog [] 23 ∧
∀ i1 : List (En × Nat), (pAt t l cl i1) →
((aLookup Try.prog 46 (.map (some 0)) (.agg ⟨(rowA D)⟩) true [oM i1 cl] = some (.tuple ⟨[(.agg ⟨[(iv ((fnd D i1).m)), (iv ((fnd D i1).u))]⟩), (.bool (has D i1))]⟩)) ∧
((((aDelete Try.prog 46 (.map (some 0)) (.agg ⟨(rowA D)⟩) [oM i1 cl, oC x t, oA D, .tcells [(iv ((fnd D i1).m)), (iv ((fnd D i1).u))] 62 (some 0)]).map fun h => (undefV, h)) = some (undefV, ([oM (List.eraseP (fun e => isD D e.fst) i1) cl, oC x t, oA D, .tcells [(iv ((fnd D i1).m)), (iv ((fnd D i1).u))] 62 (some 0)] : AHeap))) ∧
(((has D i1) = true →
 Q (.ret (.tuple ⟨[(.bool true), (iv 0)]⟩)) [oM (List.eraseP (fun e => isD D e.fst) i1) cl, oC x t, oA D, .tcells [(iv ((fnd D i1).m)), (iv ((fnd D i1).u))] 62 (some 0)]) ∧
((has D i1) = false →
 Q (.ret (.tuple ⟨[(.bool false), (iv 0)]⟩)) [oM (List.eraseP (fun e => isD D e.fst) i1) cl, oC x t, oA D, .tcells [(iv ((fnd D i1).m)), (iv ((fnd D i1).u))] 62 (some 0)])))))))))) =
    runS Try.prog [] false [23] 0 (SpecC Try.prog []) 20 16 [pC, .int .i64 t, .agg ⟨rowA D⟩] (hC x now l cl) .norm (.skip 32 (.ask (.go) (.skip 4 (.ask (.go) (.skip 9 (.call (List (En × Nat)) (kAt1 (oA D) x now t l cl).post fun i1 => .skip 5 (.val (.tuple ⟨[(.agg ⟨[(iv ((fnd D i1).m)), (iv ((fnd D i1).u))]⟩), (.bool (has D i1))]⟩) (.skip 10 (.put undefV [oM (List.eraseP (fun e => isD D e.fst) i1) cl, oC x t, oA D, .tcells [(iv ((fnd D i1).m)), (iv ((fnd D i1).u))] 62 (some 0)] (.skip 0 (.ask (.go) (.go)))))))))))) (fun r _ h _ => Q r h) := by kernel_rfl

theorem dropM_err {now t : Int} {E : List En} {D : Ad} (h : errT t now) : dropM now E t D = ((false, 153), now, E) := if_pos h
theorem dropM_ok {now t : Int} {E : List En} {D : Ad} (h : ¬ errT t now) : dropM now E t D = ((hasE D (tidyE t E), 0), t, butE D (tidyE t E)) := if_neg h
theorem drop_ok {x : Cf} {now t : Int} {l : List (En × Nat)} {cl : Nat} {E : List En} {D : Ad} (HR : Rep cl l E) :
    Fm.Spec Try.prog [] 16 [pC, .int .i64 t, .agg ⟨rowA D⟩] (hC x now l cl) (Pst x (vB (dropM now E t D).1) (dropM now E t D).2.1 (dropM now E t D).2.2) := by
  refine forget2 rfl (spec_T (run_drop x now t l cl D _) ?_)
  refine ⟨fun h0 => ?_, fun h0 => ?_⟩
  replace h0 := of_decide_eq_true h0
  rw [dropM_err (.inl h0)]; exact leafP HR rfl rfl
  replace h0 := of_decide_eq_false h0
  refine ⟨fun h1 => ?_, fun h1 => ?_⟩
  replace h1 := of_decide_eq_true h1
  rw [dropM_err (.inr h1)]; exact leafP HR rfl rfl
  replace h1 := of_decide_eq_false h1
  refine ⟨at1_ok HR.wf rfl, ?_⟩
  intro i1 hi1
  have Hi1 := HR.tidy hi1
  refine ⟨look_m _ rfl, ?_⟩
  refine ⟨del_m _ rfl, ?_⟩
  refine ⟨fun h2 => ?_, fun h2 => ?_⟩
  rw [dropM_ok (errT_no h0 h1), ← Hi1.has, h2]; exact leafP (Hi1.erase D) rfl rfl
  rw [dropM_ok (errT_no h0 h1), ← Hi1.has, h2]; exact leafP (Hi1.erase D) rfl rfl

theorem mpl_len (l : List (En × Nat)) : (mpl kA vA l).length = l.length := List.length_map ..
def kMinN (h : AHeap) : Ctr := ⟨[.slice none 0 0, fU], h, Unit, fun _ => (False, .ret (.agg ⟨rowE default⟩), h)⟩
abbrev kpm52t0 (x : Cf) (t : Int) (cl : Nat) (D : Ad) (Q : Res →
 AHeap →
 Prop) (z2 : Int) (i1 : List (En × Nat)) : Prop := ∀ z3 : Int, z3 = (IntKind.i64.wrap (t + x.life)) →
∀ z4 : Int, z4 = (if 1099511627776 < z3 then 1099511627776 else z3) →
((((aMapUpdate Try.prog 46 (.map (some 0)) (.agg ⟨(rowA D)⟩) (.agg ⟨[(iv z2), (iv z4)]⟩) [oM i1 cl, oC x t, oA D, oA D, .tcells [(iv ((fnd D i1).m)), (iv ((fnd D i1).u))] 62 (some 0), .tcells [(iv ((fnd D i1).m)), (iv ((fnd D i1).u))] 62 (some 0)]).map fun h => (undefV, h)) = some (undefV, ([oM (put { d := D, m := z2, u := z4 } cl i1) (clk D cl i1), oC x t, oA D, oA D, .tcells [(iv ((fnd D i1).m)), (iv ((fnd D i1).u))] 62 (some 0), .tcells [(iv ((fnd D i1).m)), (iv ((fnd D i1).u))] 62 (some 0)] : AHeap))) ∧
 Q (.ret (.tuple ⟨[(.bool true), (iv 0)]⟩)) [oM (put { d := D, m := z2, u := z4 } cl i1) (clk D cl i1), oC x t, oA D, oA D, .tcells [(iv ((fnd D i1).m)), (iv ((fnd D i1).u))] 62 (some 0), .tcells [(iv ((fnd D i1).m)), (iv ((fnd D i1).u))] 62 (some 0)])
theorem run_told (x : Cf) (now t : Int) (l : List (En × Nat)) (cl : Nat) (D : Ad) (mtu : Int) (Q : Res → AHeap → Prop) : ((((decide (t < now)) = true →
 Q (.ret (.tuple ⟨[(.bool false), (iv 153)]⟩)) [oM l cl, oC x now, oA D]) ∧
((decide (t < now)) = false →
(((decide (t > 1099511627776)) = true →
 Q (.ret (.tuple ⟨[(.bool false), (iv 153)]⟩)) [oM l cl, oC x now, oA D]) ∧
((decide (t > 1099511627776)) = false →
(((decide (mtu < 0)) = true →
 Q (.ret (.tuple ⟨[(.bool false), (iv 131)]⟩)) [oM l cl, oC x now, oA D]) ∧
((decide (mtu < 0)) = false →
(((decide (mtu > 65535)) = true →
 Q (.ret (.tuple ⟨[(.bool false), (iv 131)]⟩)) [oM l cl, oC x now, oA D]) ∧
((decide (mtu > 65535)) = false →
((kAt1 (oA D) x now t l cl).asks Try.prog [] 23 ∧
∀ i1 : List (En × Nat), (pAt t l cl i1) →
∀ z2 : Int, z2 = (if x.least > mtu then x.least else mtu) →
((aLookup Try.prog 46 (.map (some 0)) (.agg ⟨(rowA D)⟩) true [oM i1 cl] = some (.tuple ⟨[(.agg ⟨[(iv ((fnd D i1).m)), (iv ((fnd D i1).u))]⟩), (.bool (has D i1))]⟩)) ∧
(((has D i1) = true →
(((decide (z2 ≥ (fnd D i1).m)) = true →
 Q (.ret (.tuple ⟨[(.bool false), (iv 0)]⟩)) [oM i1 cl, oC x t, oA D, oA D, .tcells [(iv ((fnd D i1).m)), (iv ((fnd D i1).u))] 62 (some 0)]) ∧
((decide (z2 ≥ (fnd D i1).m)) = false →
((aLookup Try.prog 46 (.map (some 0)) (.agg ⟨(rowA D)⟩) true [oM i1 cl] = some (.tuple ⟨[(.agg ⟨[(iv ((fnd D i1).m)), (iv ((fnd D i1).u))]⟩), (.bool (has D i1))]⟩)) ∧
(((has D i1) = true →
(kpm52t0 x t cl D Q z2 i1)) ∧
((has D i1) = false →
 False)))))) ∧
((has D i1) = false →
(((decide (z2 ≥ x.link)) = true →
 Q (.ret (.tuple ⟨[(.bool false), (iv 0)]⟩)) [oM i1 cl, oC x t, oA D, oA D, .tcells [(iv ((fnd D i1).m)), (iv ((fnd D i1).u))] 62 (some 0)]) ∧
((decide (z2 ≥ x.link)) = false →
((aLookup Try.prog 46 (.map (some 0)) (.agg ⟨(rowA D)⟩) true [oM i1 cl] = some (.tuple ⟨[(.agg ⟨[(iv ((fnd D i1).m)), (iv ((fnd D i1).u))]⟩), (.bool (has D i1))]⟩)) ∧
(((has D i1) = true →
 False) ∧
((has D i1) = false →
∀ z3 : Int, z3 = ((((mpl kA vA i1).length : Nat) : Int)) →
(((decide (z3 ≥ x.lim)) = true →
((kAll4 (oA D) (oA D) (AObj.tcells [Go.Value.int IntKind.i64 (fnd D i1).m, Go.Value.int IntKind.i64 (fnd D i1).u] 62 (Option.some 0)) (AObj.tcells [Go.Value.int IntKind.i64 (fnd D i1).m, Go.Value.int IntKind.i64 (fnd D i1).u] 62 (Option.some 0)) x t i1 cl).asks Try.prog [] 29 ∧
(∀ _ : List En, (i1 = []) →
((kMinN [oM i1 cl, oC x t, oA D, oA D, AObj.tcells [Go.Value.int IntKind.i64 (fnd D i1).m, Go.Value.int IntKind.i64 (fnd D i1).u] 62 (Option.some 0), AObj.tcells [Go.Value.int IntKind.i64 (fnd D i1).m, Go.Value.int IntKind.i64 (fnd D i1).u] 62 (Option.some 0)]).asks Try.prog [] 30 ∧
∀ _ : Unit, (False) →
(((some (.map (some 0))) : Option Value) = (some (.map (some 0)))) ∧
((((aDelete Try.prog 46 (.map (some 0)) (.agg ⟨(rowA { a0 := 0, a1 := 0, a2 := 0, a3 := 0, a4 := 0, a5 := 0, a6 := 0, a7 := 0, a8 := 0, a9 := 0, a10 := 0, a11 := 0, a12 := 0, a13 := 0, a14 := 0, a15 := 0 })⟩) [oM i1 cl, oC x t, oA D, oA D, .tcells [(iv ((fnd D i1).m)), (iv ((fnd D i1).u))] 62 (some 0), .tcells [(iv ((fnd D i1).m)), (iv ((fnd D i1).u))] 62 (some 0)]).map fun h => (undefV, h)) = some (undefV, ([oM (List.eraseP (fun e => isD { a0 := 0, a1 := 0, a2 := 0, a3 := 0, a4 := 0, a5 := 0, a6 := 0, a7 := 0, a8 := 0, a9 := 0, a10 := 0, a11 := 0, a12 := 0, a13 := 0, a14 := 0, a15 := 0 } e.fst) i1) cl, oC x t, oA D, oA D, .tcells [(iv ((fnd D i1).m)), (iv ((fnd D i1).u))] 62 (some 0), .tcells [(iv ((fnd D i1).m)), (iv ((fnd D i1).u))] 62 (some 0)] : AHeap))) ∧
∀ z5 : Int, z5 = (IntKind.i64.wrap (t + x.life)) →
∀ z6 : Int, z6 = (if 1099511627776 < z5 then 1099511627776 else z5) →
((((aMapUpdate Try.prog 46 (.map (some 0)) (.agg ⟨(rowA D)⟩) (.agg ⟨[(iv z2), (iv z6)]⟩) [oM (List.eraseP (fun e => isD { a0 := 0, a1 := 0, a2 := 0, a3 := 0, a4 := 0, a5 := 0, a6 := 0, a7 := 0, a8 := 0, a9 := 0, a10 := 0, a11 := 0, a12 := 0, a13 := 0, a14 := 0, a15 := 0 } e.fst) i1) cl, oC x t, oA D, oA D, .tcells [(iv ((fnd D i1).m)), (iv ((fnd D i1).u))] 62 (some 0), .tcells [(iv ((fnd D i1).m)), (iv ((fnd D i1).u))] 62 (some 0)]).map fun h => (undefV, h)) = some (undefV, ([oM (put { d := D, m := z2, u := z6 } cl (List.eraseP (fun e => isD { a0 := 0, a1 := 0, a2 := 0, a3 := 0, a4 := 0, a5 := 0, a6 := 0, a7 := 0, a8 := 0, a9 := 0, a10 := 0, a11 := 0, a12 := 0, a13 := 0, a14 := 0, a15 := 0 } e.fst) i1)) (clk D cl (List.eraseP (fun e => isD { a0 := 0, a1 := 0, a2 := 0, a3 := 0, a4 := 0, a5 := 0, a6 := 0, a7 := 0, a8 := 0, a9 := 0, a10 := 0, a11 := 0, a12 := 0, a13 := 0, a14 := 0, a15 := 0 } e.fst) i1)), oC x t, oA D, oA D, .tcells [(iv ((fnd D i1).m)), (iv ((fnd D i1).u))] 62 (some 0), .tcells [(iv ((fnd D i1).m)), (iv ((fnd D i1).u))] 62 (some 0)] : AHeap))) ∧
 Q (.ret (.tuple ⟨[(.bool true), (iv 0)]⟩)) [oM (put { d := D, m := z2, u := z6 } cl (List.eraseP (fun e => isD { a0 := 0, a1 := 0, a2 := 0, a3 := 0, a4 := 0, a5 := 0, a6 := 0, a7 := 0, a8 := 0, a9 := 0, a10 := 0, a11 := 0, a12 := 0, a13 := 0, a14 := 0, a15 := 0 } e.fst) i1)) (clk D cl (List.eraseP (fun e => isD { a0 := 0, a1 := 0, a2 := 0, a3 := 0, a4 := 0, a5 := 0, a6 := 0, a7 := 0, a8 := 0, a9 := 0, a10 := 0, a11 := 0, a12 := 0, a13 := 0, a14 := 0, a15 := 0 } e.fst) i1)), oC x t, oA D, oA D, .tcells [(iv ((fnd D i1).m)), (iv ((fnd D i1).u))] 62 (some 0), .tcells [(iv ((fnd D i1).m)), (iv ((fnd D i1).u))] 62 (some 0)])))) ∧
(∀ i4 : List En, (pAll i1 i4) →
((kMin6 (oM i1 cl) (oC x t) (oA D) (oA D) (AObj.tcells [Go.Value.int IntKind.i64 (fnd D i1).m, Go.Value.int IntKind.i64 (fnd D i1).u] 62 (Option.some 0)) (AObj.tcells [Go.Value.int IntKind.i64 (fnd D i1).m, Go.Value.int IntKind.i64 (fnd D i1).u] 62 (Option.some 0)) i4 i4.length).asks Try.prog [] 30 ∧
∀ i5 : En, (pMin i4 i5) →
(((some (.map (some 0))) : Option Value) = (some (.map (some 0)))) ∧
((((aDelete Try.prog 46 (.map (some 0)) (.agg ⟨(rowA i5.d)⟩) [oM i1 cl, oC x t, oA D, oA D, .tcells [(iv ((fnd D i1).m)), (iv ((fnd D i1).u))] 62 (some 0), .tcells [(iv ((fnd D i1).m)), (iv ((fnd D i1).u))] 62 (some 0), oR i4]).map fun h => (undefV, h)) = some (undefV, ([oM (List.eraseP (fun e => isD i5.d e.fst) i1) cl, oC x t, oA D, oA D, .tcells [(iv ((fnd D i1).m)), (iv ((fnd D i1).u))] 62 (some 0), .tcells [(iv ((fnd D i1).m)), (iv ((fnd D i1).u))] 62 (some 0), oR i4] : AHeap))) ∧
∀ z6 : Int, z6 = (IntKind.i64.wrap (t + x.life)) →
∀ z7 : Int, z7 = (if 1099511627776 < z6 then 1099511627776 else z6) →
((((aMapUpdate Try.prog 46 (.map (some 0)) (.agg ⟨(rowA D)⟩) (.agg ⟨[(iv z2), (iv z7)]⟩) [oM (List.eraseP (fun e => isD i5.d e.fst) i1) cl, oC x t, oA D, oA D, .tcells [(iv ((fnd D i1).m)), (iv ((fnd D i1).u))] 62 (some 0), .tcells [(iv ((fnd D i1).m)), (iv ((fnd D i1).u))] 62 (some 0), oR i4]).map fun h => (undefV, h)) = some (undefV, ([oM (put { d := D, m := z2, u := z7 } cl (List.eraseP (fun e => isD i5.d e.fst) i1)) (clk D cl (List.eraseP (fun e => isD i5.d e.fst) i1)), oC x t, oA D, oA D, .tcells [(iv ((fnd D i1).m)), (iv ((fnd D i1).u))] 62 (some 0), .tcells [(iv ((fnd D i1).m)), (iv ((fnd D i1).u))] 62 (some 0), oR i4] : AHeap))) ∧
 Q (.ret (.tuple ⟨[(.bool true), (iv 0)]⟩)) [oM (put { d := D, m := z2, u := z7 } cl (List.eraseP (fun e => isD i5.d e.fst) i1)) (clk D cl (List.eraseP (fun e => isD i5.d e.fst) i1)), oC x t, oA D, oA D, .tcells [(iv ((fnd D i1).m)), (iv ((fnd D i1).u))] 62 (some 0), .tcells [(iv ((fnd D i1).m)), (iv ((fnd D i1).u))] 62 (some 0), oR i4])))))) ∧
((decide (z3 ≥ x.lim)) = false →
(kpm52t0 x t cl D Q z2 i1))))))))))))))))))))) =
    runS Try.prog [] false [23, 29, 30] 0 (SpecC Try.prog []) 20 13 [pC, .int .i64 t, .agg ⟨rowA D⟩, .int .i64 mtu] (hC x now l cl) .norm (.skip 32 (.ask (.go) (.skip 4 (.ask (.go) (.skip 8 (.ask (.go) (.skip 4 (.ask (.go) (.skip 4 (.call (List (En × Nat)) (kAt1 (oA D) x now t l cl).post fun i1 => .skip 6 (.all (fun z2 => .skip 12 (.val (.tuple ⟨[(.agg ⟨[(iv ((fnd D i1).m)), (iv ((fnd D i1).u))]⟩), (.bool (has D i1))]⟩) (.skip 5 (.ask (.skip 4 (.ask (.go) (.skip 6 (.val (.tuple ⟨[(.agg ⟨[(iv ((fnd D i1).m)), (iv ((fnd D i1).u))]⟩), (.bool (has D i1))]⟩) (.skip 5 (.ask (.skip 27 (.all (fun _z3 => .skip 0 (.all (fun z4 => .skip 1 (.put undefV [oM (put { d := D, m := z2, u := z4 } cl i1) (clk D cl i1), oC x t, oA D, oA D, .tcells [(iv ((fnd D i1).m)), (iv ((fnd D i1).u))] 62 (some 0), .tcells [(iv ((fnd D i1).m)), (iv ((fnd D i1).u))] 62 (some 0)] (.go))))))) (.skip 0 .go))))))) (.skip 7 (.ask (.go) (.skip 6 (.val (.tuple ⟨[(.agg ⟨[(iv ((fnd D i1).m)), (iv ((fnd D i1).u))]⟩), (.bool (has D i1))]⟩) (.skip 5 (.ask (.skip 0 .go) (.skip 11 (.all (fun _z3 => .skip 11 (.ask (.skip 3 (.callN (List En) (kAll4 (oA D) (oA D) (AObj.tcells [Go.Value.int IntKind.i64 (fnd D i1).m, Go.Value.int IntKind.i64 (fnd D i1).u] 62 (Option.some 0)) (AObj.tcells [Go.Value.int IntKind.i64 (fnd D i1).m, Go.Value.int IntKind.i64 (fnd D i1).u] 62 (Option.some 0)) x t i1 cl).posts (fun k => match k with | 0 => fun _i4 => .skip 6 (.call (Unit) (kMinN [oM i1 cl, oC x t, oA D, oA D, AObj.tcells [Go.Value.int IntKind.i64 (fnd D i1).m, Go.Value.int IntKind.i64 (fnd D i1).u] 62 (Option.some 0), AObj.tcells [Go.Value.int IntKind.i64 (fnd D i1).m, Go.Value.int IntKind.i64 (fnd D i1).u] 62 (Option.some 0)]).post fun _ => .skip 1 (.put undefV [oM (List.eraseP (fun e => isD { a0 := 0, a1 := 0, a2 := 0, a3 := 0, a4 := 0, a5 := 0, a6 := 0, a7 := 0, a8 := 0, a9 := 0, a10 := 0, a11 := 0, a12 := 0, a13 := 0, a14 := 0, a15 := 0 } e.fst) i1) cl, oC x t, oA D, oA D, .tcells [(iv ((fnd D i1).m)), (iv ((fnd D i1).u))] 62 (some 0), .tcells [(iv ((fnd D i1).m)), (iv ((fnd D i1).u))] 62 (some 0)] (.skip 12 (.all (fun _z5 => .skip 0 (.all (fun z6 => .skip 1 (.put undefV [oM (put { d := D, m := z2, u := z6 } cl (List.eraseP (fun e => isD { a0 := 0, a1 := 0, a2 := 0, a3 := 0, a4 := 0, a5 := 0, a6 := 0, a7 := 0, a8 := 0, a9 := 0, a10 := 0, a11 := 0, a12 := 0, a13 := 0, a14 := 0, a15 := 0 } e.fst) i1)) (clk D cl (List.eraseP (fun e => isD { a0 := 0, a1 := 0, a2 := 0, a3 := 0, a4 := 0, a5 := 0, a6 := 0, a7 := 0, a8 := 0, a9 := 0, a10 := 0, a11 := 0, a12 := 0, a13 := 0, a14 := 0, a15 := 0 } e.fst) i1)), oC x t, oA D, oA D, .tcells [(iv ((fnd D i1).m)), (iv ((fnd D i1).u))] 62 (some 0), .tcells [(iv ((fnd D i1).m)), (iv ((fnd D i1).u))] 62 (some 0)] (.go))))))))) | _ => fun i4 => .skip 6 (.call (En) (kMin6 (oM i1 cl) (oC x t) (oA D) (oA D) (AObj.tcells [Go.Value.int IntKind.i64 (fnd D i1).m, Go.Value.int IntKind.i64 (fnd D i1).u] 62 (Option.some 0)) (AObj.tcells [Go.Value.int IntKind.i64 (fnd D i1).m, Go.Value.int IntKind.i64 (fnd D i1).u] 62 (Option.some 0)) i4 i4.length).post fun i5 => .skip 1 (.put undefV [oM (List.eraseP (fun e => isD i5.d e.fst) i1) cl, oC x t, oA D, oA D, .tcells [(iv ((fnd D i1).m)), (iv ((fnd D i1).u))] 62 (some 0), .tcells [(iv ((fnd D i1).m)), (iv ((fnd D i1).u))] 62 (some 0), oR i4] (.skip 12 (.all (fun _z6 => .skip 0 (.all (fun z7 => .skip 1 (.put undefV [oM (put { d := D, m := z2, u := z7 } cl (List.eraseP (fun e => isD i5.d e.fst) i1)) (clk D cl (List.eraseP (fun e => isD i5.d e.fst) i1)), oC x t, oA D, oA D, .tcells [(iv ((fnd D i1).m)), (iv ((fnd D i1).u))] 62 (some 0), .tcells [(iv ((fnd D i1).m)), (iv ((fnd D i1).u))] 62 (some 0), oR i4] (.go)))))))))))) (.skip 14 (.all (fun _z4 => .skip 0 (.all (fun z5 => .skip 1 (.put undefV [oM (put { d := D, m := z2, u := z5 } cl i1) (clk D cl i1), oC x t, oA D, oA D, .tcells [(iv ((fnd D i1).m)), (iv ((fnd D i1).u))] 62 (some 0), .tcells [(iv ((fnd D i1).m)), (iv ((fnd D i1).u))] 62 (some 0)] (.go)))))))))))))))))))))))))))))))) (fun r _ h _ => Q r h) := by kernel_rfl

section
variable {x : Cf} {now t mtu : Int} {E : List En} {D : Ad}
theorem toldM_err (h : errT t now) : toldM x now E t D mtu = ((false, 153), now, E) := if_pos h
theorem toldM_mtu (h : ¬ errT t now) (h1 : mtu < 0 ∨ mtu > 65535) : toldM x now E t D mtu = ((false, 131), now, E) := (if_neg h).trans (if_pos h1)
theorem toldM_low (h : ¬ errT t now) (h1 : ¬ (mtu < 0 ∨ mtu > 65535)) (h2 : maxE x mtu ≥ lookE D x (tidyE t E)) : toldM x now E t D mtu = ((false, 0), t, tidyE t E) := (if_neg h).trans ((if_neg h1).trans (if_pos h2))
theorem toldM_put (h : ¬ errT t now) (h1 : ¬ (mtu < 0 ∨ mtu > 65535)) (h2 : ¬ maxE x mtu ≥ lookE D x (tidyE t E)) : toldM x now E t D mtu = ((true, 0), t, insE ⟨D, maxE x mtu, endE x t⟩ (roomE x D (tidyE t E))) := (if_neg h).trans ((if_neg h1).trans (if_neg h2))
theorem room_full (h : hasE D E = false) (h1 : (E.length : Int) ≥ x.lim) : roomE x D E = butE (minE E).d E := (if_neg (by rw [h]; decide)).trans (if_pos h1)
theorem room_free (h : hasE D E = false) (h1 : ¬ (E.length : Int) ≥ x.lim) : roomE x D E = E := (if_neg (by rw [h]; decide)).trans (if_neg h1)
end
theorem told_ok {x : Cf} {now t mtu : Int} {l : List (En × Nat)} {cl : Nat} {E : List En} {D : Ad} (HR : Rep cl l E) (HD : okA D) (HL : 1 ≤ x.lim) (HB : E.length < 2 ^ 20) (HF : 0 ≤ x.life ∧ x.life < 2 ^ 62) (HT : -(2 ^ 62) ≤ now) :
    Fm.Spec Try.prog [] 13 [pC, .int .i64 t, .agg ⟨rowA D⟩, .int .i64 mtu] (hC x now l cl) (Pst x (vB (toldM x now E t D mtu).1) (toldM x now E t D mtu).2.1 (toldM x now E t D mtu).2.2) := by
  refine forget2 rfl (spec_T (run_told x now t l cl D mtu _) ?_)
  refine ⟨fun h0 => ?_, fun h0 => ?_⟩
  replace h0 := of_decide_eq_true h0
  rw [toldM_err (.inl h0)]; exact leafP HR rfl rfl
  replace h0 := of_decide_eq_false h0
  refine ⟨fun h1 => ?_, fun h1 => ?_⟩
  replace h1 := of_decide_eq_true h1
  rw [toldM_err (.inr h1)]; exact leafP HR rfl rfl
  replace h1 := of_decide_eq_false h1
  refine ⟨fun h2 => ?_, fun h2 => ?_⟩
  replace h2 := of_decide_eq_true h2
  rw [toldM_mtu (errT_no h0 h1) (.inl h2)]; exact leafP HR rfl rfl
  replace h2 := of_decide_eq_false h2
  refine ⟨fun h3 => ?_, fun h3 => ?_⟩
  replace h3 := of_decide_eq_true h3
  rw [toldM_mtu (errT_no h0 h1) (.inr h3)]; exact leafP HR rfl rfl
  replace h3 := of_decide_eq_false h3
  refine ⟨at1_ok HR.wf rfl, ?_⟩
  intro i1 hi1
  have Hi1 := HR.tidy hi1
  intro z2 hz2
  replace hz2 : z2 = maxE x mtu := hz2
  subst hz2
  refine ⟨look_m _ rfl, ?_⟩
  refine ⟨fun h4 => ?_, fun h4 => ?_⟩
  refine ⟨fun h5 => ?_, fun h5 => ?_⟩
  replace h5 := of_decide_eq_true h5
  have hlk : lookE D x (tidyE t E) = (fnd D i1).m := by rw [← Hi1.look, if_pos h4]
  have hhe : hasE D (tidyE t E) = true := by rw [← Hi1.has, h4]
  rw [toldM_low (errT_no h0 h1) (fun h => h.elim h2 h3) (by rw [hlk]; exact h5)]; exact leafP Hi1 rfl rfl
  replace h5 := of_decide_eq_false h5
  refine ⟨look_m _ rfl, ?_⟩
  refine ⟨fun h6 => ?_, fun h6 => ?_⟩
  intro z3 hz3
  rw [wr (by omega) (by omega)] at hz3
  subst hz3
  intro z4 hz4
  replace hz4 : z4 = endE x t := hz4
  subst hz4
  refine ⟨put_m ⟨D, maxE x mtu, endE x t⟩ rfl, ?_⟩
  have hlk : lookE D x (tidyE t E) = (fnd D i1).m := by rw [← Hi1.look, if_pos h4]
  have hhe : hasE D (tidyE t E) = true := by rw [← Hi1.has, h4]
  rw [toldM_put (errT_no h0 h1) (fun h => h.elim h2 h3) (by rw [hlk]; exact h5)]
  rw [show roomE x D (tidyE t E) = butE D (tidyE t E) from if_pos hhe]; exact leafP (Hi1.put (e := ⟨D, maxE x mtu, endE x t⟩) HD) rfl rfl
  exact Bool.noConfusion (h4.symm.trans h6)
  refine ⟨fun h5 => ?_, fun h5 => ?_⟩
  replace h5 := of_decide_eq_true h5
  have hlk : lookE D x (tidyE t E) = x.link := by rw [← Hi1.look, if_neg (by rw [h4]; decide)]
  have hhe : hasE D (tidyE t E) = false := by rw [← Hi1.has, h4]
  rw [toldM_low (errT_no h0 h1) (fun h => h.elim h2 h3) (by rw [hlk]; exact h5)]; exact leafP Hi1 rfl rfl
  replace h5 := of_decide_eq_false h5
  refine ⟨look_m _ rfl, ?_⟩
  refine ⟨fun h6 => ?_, fun h6 => ?_⟩
  exact Bool.noConfusion (h4.symm.trans h6)
  intro z3 hz3
  rw [mpl_len] at hz3
  subst hz3
  refine ⟨fun h7 => ?_, fun h7 => ?_⟩
  replace h7 := of_decide_eq_true h7
  have HN1 : i1.length < 2 ^ 20 := by rw [Hi1.len]; exact Nat.lt_of_le_of_lt tidy_len HB
  have HG : 1 ≤ i1.length := by have := h7; omega
  refine ⟨all4_ok Hi1.wf HN1 rfl rfl rfl rfl, ?_⟩
  refine ⟨?_, ?_⟩
  intro _ he
  exact absurd (congrArg List.length he) (by rw [List.length_nil]; omega)
  intro i4 hi4
  have ei4 := Hi1.all hi4
  subst ei4
  have HL1 : 1 ≤ (tidyE t E).length := by rw [← Hi1.len]; exact HG
  have HL2 : (tidyE t E).length < 2 ^ 40 := by rw [← Hi1.len]; omega
  refine ⟨min6_ok rfl HL1 HL2 rfl rfl rfl rfl rfl rfl, ?_⟩
  intro i5 hi5
  have ei5 := pMin_minE hi5
  subst ei5
  refine ⟨rfl, ?_⟩
  refine ⟨del_m _ rfl, ?_⟩
  intro z6 hz6
  rw [wr (by omega) (by omega)] at hz6
  subst hz6
  intro z7 hz7
  replace hz7 : z7 = endE x t := hz7
  subst hz7
  refine ⟨put_m ⟨D, maxE x mtu, endE x t⟩ rfl, ?_⟩
  have hlk : lookE D x (tidyE t E) = x.link := by rw [← Hi1.look, if_neg (by rw [h4]; decide)]
  have hhe : hasE D (tidyE t E) = false := by rw [← Hi1.has, h4]
  rw [toldM_put (errT_no h0 h1) (fun h => h.elim h2 h3) (by rw [hlk]; exact h5)]
  rw [room_full hhe (by rw [← Hi1.len]; exact h7), ← butE_no (D := D) (hasE_sub hhe)]; exact leafP ((Hi1.erase _).put (e := ⟨D, maxE x mtu, endE x t⟩) HD) rfl rfl
  replace h7 := of_decide_eq_false h7
  intro z4 hz4
  rw [wr (by omega) (by omega)] at hz4
  subst hz4
  intro z5 hz5
  replace hz5 : z5 = endE x t := hz5
  subst hz5
  refine ⟨put_m ⟨D, maxE x mtu, endE x t⟩ rfl, ?_⟩
  have hlk : lookE D x (tidyE t E) = x.link := by rw [← Hi1.look, if_neg (by rw [h4]; decide)]
  have hhe : hasE D (tidyE t E) = false := by rw [← Hi1.has, h4]
  rw [toldM_put (errT_no h0 h1) (fun h => h.elim h2 h3) (by rw [hlk]; exact h5)]
  rw [room_free hhe (by rw [← Hi1.len]; exact h7), ← butE_no (D := D) hhe]; exact leafP (Hi1.put (e := ⟨D, maxE x mtu, endE x t⟩) HD) rfl rfl

end Go.Proofs.Ytcdmnmpiipmfmaa
