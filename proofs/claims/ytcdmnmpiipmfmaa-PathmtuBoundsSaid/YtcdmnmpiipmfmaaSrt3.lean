/-
  The greater parts of slices.SortFunc on entries: partial insertion, partition, the whole. Conditions stand with each theorem.
-/
import Derived.Test.YtcdmnmpiipmfmaaSrt2
namespace Go.Proofs.Ytcdmnmpiipmfmaa
open Go.Fm
abbrev ksrt30t2 (l : List En) (n : Nat) (a : Int) (b : Int) (i10 : List En × Int × Int × Int) (i2 : List En × Int × Int × Int) : Prop := ∀ z13 : Int, z13 = (IntKind.i64.wrap (i10.snd.snd.fst + 1)) →
(someN [] 1 (fun a' => (mP1 l n a b) a' < (mP1 l n a b) i2) ⟨[(10, (iv z13)), (9, (iv i10.snd.fst)), (8, (.bool false)), (0, (sl n)), (1, (iv a)), (2, (iv b)), (3, fC)], [], (hp i10.fst), .norm⟩ [(qP1 l n a b)])
abbrev ksrt30t1 (l : List En) (n : Nat) (a : Int) (b : Int) (i10 : List En × Int × Int × Int) (i2 : List En × Int × Int × Int) : Prop := ∀ i14, (qP4 l n a b i10 i14).fst →
(((decide (i14.snd.snd.snd < b)) = true →
(IX n i14.snd.snd.snd ∧
(LD i14.fst i14.snd.snd.snd ∧
∀ z15 : Int, z15 = (IntKind.i64.wrap (i14.snd.snd.snd - 1)) →
(IX n z15 ∧
(LD i14.fst z15 ∧
((kCmp (gx i14.fst i14.snd.snd.snd) (gx i14.fst z15) (hp i14.fst)).asks Try.prog [] 39 ∧
∀ _ : Unit, (True) →
(((decide (cmpD (gx i14.fst i14.snd.snd.snd) (gx i14.fst z15) < 0)) = true →
∀ z16 : Int, z16 = (IntKind.i64.wrap (i14.snd.snd.snd - 1)) →
∀ z17 : Int, z17 = (IntKind.i64.wrap (i14.snd.snd.snd - 1)) →
(IX n z17 ∧
(LD i14.fst z17 ∧
(IX n i14.snd.snd.snd ∧
(LD i14.fst i14.snd.snd.snd ∧
(IX n i14.snd.snd.snd ∧
(SO i14.fst i14.snd.snd.snd (gx i14.fst z17) (i14.fst.set i14.snd.snd.snd.toNat (gx i14.fst z17)) ∧
(IX n z16 ∧
(SO (i14.fst.set i14.snd.snd.snd.toNat (gx i14.fst z17)) z16 (gx i14.fst i14.snd.snd.snd) ((i14.fst.set i14.snd.snd.snd.toNat (gx i14.fst z17)).set z16.toNat (gx i14.fst i14.snd.snd.snd)) ∧
∀ z18 : Int, z18 = (IntKind.i64.wrap (i14.snd.snd.snd + 1)) →
(someN [] 1 (fun a' => (mP4 l n a b i10) a' < (mP4 l n a b i10) i14) ⟨[(12, (iv z18)), (10, (iv i14.snd.snd.fst)), (9, (iv i14.snd.fst)), (8, (.bool false)), (0, (sl n)), (1, (iv a)), (2, (iv b)), (3, fC)], [], (hp ((i14.fst.set i14.snd.snd.snd.toNat (gx i14.fst z17)).set z16.toNat (gx i14.fst i14.snd.snd.snd))), .norm⟩ [(qP4 l n a b i10)])))))))))) ∧
((decide (cmpD (gx i14.fst i14.snd.snd.snd) (gx i14.fst z15) < 0)) = false →
(ksrt30t2 l n a b i14 i2))))))))) ∧
((decide (i14.snd.snd.snd < b)) = false →
(ksrt30t2 l n a b i14 i2)))
abbrev ksrt30t3 (l : List En) (n : Nat) (a : Int) (b : Int) (i10 : List En × Int × Int × Int) (i2 : List En × Int × Int × Int) : Prop := ∀ z12 : Int, z12 = (IntKind.i64.wrap (b - i10.snd.fst)) →
(((decide (z12 ≥ 2)) = true →
∀ z13 : Int, z13 = (IntKind.i64.wrap (i10.snd.fst + 1)) →
((someN [] 1 (fun _ => True) ⟨[(12, (iv z13)), (10, (iv i10.snd.snd.fst)), (9, (iv i10.snd.fst)), (8, (.bool false)), (0, (sl n)), (1, (iv a)), (2, (iv b)), (3, fC)], [], (hp i10.fst), .norm⟩ [(qP4 l n a b i10)]) ∧
((ksrt30t1 l n a b i10 i2)))) ∧
((decide (z12 ≥ 2)) = false →
(ksrt30t2 l n a b i10 i2)))
abbrev ksrt30t0 (l : List En) (n : Nat) (a : Int) (b : Int) (Q : Res →
 AHeap →
 Prop) (i3 : List En × Int × Int × Int) (i2 : List En × Int × Int × Int) : Prop := ((i3.snd.fst == b) = true →
 Q (.ret (.bool true)) (hp i3.fst)) ∧
((i3.snd.fst == b) = false →
∀ z5 : Int, z5 = (IntKind.i64.wrap (b - a)) →
(((decide (z5 < 50)) = true →
 Q (.ret (.bool false)) (hp i3.fst)) ∧
((decide (z5 < 50)) = false →
∀ z6 : Int, z6 = (IntKind.i64.wrap (i3.snd.fst - 1)) →
∀ z7 : Int, z7 = (IntKind.i64.wrap (i3.snd.fst - 1)) →
(IX n z7 ∧
(LD i3.fst z7 ∧
(IX n i3.snd.fst ∧
(LD i3.fst i3.snd.fst ∧
(IX n i3.snd.fst ∧
(SO i3.fst i3.snd.fst (gx i3.fst z7) (i3.fst.set i3.snd.fst.toNat (gx i3.fst z7)) ∧
(IX n z6 ∧
(SO (i3.fst.set i3.snd.fst.toNat (gx i3.fst z7)) z6 (gx i3.fst i3.snd.fst) ((i3.fst.set i3.snd.fst.toNat (gx i3.fst z7)).set z6.toNat (gx i3.fst i3.snd.fst)) ∧
∀ z8 : Int, z8 = (IntKind.i64.wrap (i3.snd.fst - a)) →
(((decide (z8 ≥ 2)) = true →
∀ z9 : Int, z9 = (IntKind.i64.wrap (i3.snd.fst - 1)) →
((someN [] 1 (fun _ => True) ⟨[(11, (iv z9)), (10, (iv i3.snd.snd.fst)), (9, (iv i3.snd.fst)), (8, (.bool false)), (0, (sl n)), (1, (iv a)), (2, (iv b)), (3, fC)], [], (hp ((i3.fst.set i3.snd.fst.toNat (gx i3.fst z7)).set z6.toNat (gx i3.fst i3.snd.fst))), .norm⟩ [(qP3 l n a b i3)]) ∧
(∀ i10, (qP3 l n a b i3 i10).fst →
(((decide (i10.snd.snd.snd ≥ 1)) = true →
(IX n i10.snd.snd.snd ∧
(LD i10.fst i10.snd.snd.snd ∧
∀ z11 : Int, z11 = (IntKind.i64.wrap (i10.snd.snd.snd - 1)) →
(IX n z11 ∧
(LD i10.fst z11 ∧
((kCmp (gx i10.fst i10.snd.snd.snd) (gx i10.fst z11) (hp i10.fst)).asks Try.prog [] 39 ∧
∀ _ : Unit, (True) →
(((decide (cmpD (gx i10.fst i10.snd.snd.snd) (gx i10.fst z11) < 0)) = true →
∀ z12 : Int, z12 = (IntKind.i64.wrap (i10.snd.snd.snd - 1)) →
∀ z13 : Int, z13 = (IntKind.i64.wrap (i10.snd.snd.snd - 1)) →
(IX n z13 ∧
(LD i10.fst z13 ∧
(IX n i10.snd.snd.snd ∧
(LD i10.fst i10.snd.snd.snd ∧
(IX n i10.snd.snd.snd ∧
(SO i10.fst i10.snd.snd.snd (gx i10.fst z13) (i10.fst.set i10.snd.snd.snd.toNat (gx i10.fst z13)) ∧
(IX n z12 ∧
(SO (i10.fst.set i10.snd.snd.snd.toNat (gx i10.fst z13)) z12 (gx i10.fst i10.snd.snd.snd) ((i10.fst.set i10.snd.snd.snd.toNat (gx i10.fst z13)).set z12.toNat (gx i10.fst i10.snd.snd.snd)) ∧
∀ z14 : Int, z14 = (IntKind.i64.wrap (i10.snd.snd.snd - 1)) →
(someN [] 1 (fun a' => (mP3 l n a b i3) a' < (mP3 l n a b i3) i10) ⟨[(11, (iv z14)), (10, (iv i10.snd.snd.fst)), (9, (iv i10.snd.fst)), (8, (.bool false)), (0, (sl n)), (1, (iv a)), (2, (iv b)), (3, fC)], [], (hp ((i10.fst.set i10.snd.snd.snd.toNat (gx i10.fst z13)).set z12.toNat (gx i10.fst i10.snd.snd.snd))), .norm⟩ [(qP3 l n a b i3)])))))))))) ∧
((decide (cmpD (gx i10.fst i10.snd.snd.snd) (gx i10.fst z11) < 0)) = false →
(ksrt30t3 l n a b i10 i2))))))))) ∧
((decide (i10.snd.snd.snd ≥ 1)) = false →
(ksrt30t3 l n a b i10 i2)))))) ∧
((decide (z8 ≥ 2)) = false →
∀ z9 : Int, z9 = (IntKind.i64.wrap (b - i3.snd.fst)) →
(((decide (z9 ≥ 2)) = true →
∀ z10 : Int, z10 = (IntKind.i64.wrap (i3.snd.fst + 1)) →
((someN [] 1 (fun _ => True) ⟨[(12, (iv z10)), (10, (iv i3.snd.snd.fst)), (9, (iv i3.snd.fst)), (8, (.bool false)), (0, (sl n)), (1, (iv a)), (2, (iv b)), (3, fC)], [], (hp ((i3.fst.set i3.snd.fst.toNat (gx i3.fst z7)).set z6.toNat (gx i3.fst i3.snd.fst))), .norm⟩ [(qP4 l n a b i3)]) ∧
((ksrt30t1 l n a b i3 i2)))) ∧
((decide (z9 ≥ 2)) = false →
∀ z10 : Int, z10 = (IntKind.i64.wrap (i3.snd.snd.fst + 1)) →
(someN [] 1 (fun a' => (mP1 l n a b) a' < (mP1 l n a b) i2) ⟨[(10, (iv z10)), (9, (iv i3.snd.fst)), (8, (.bool false)), (0, (sl n)), (1, (iv a)), (2, (iv b)), (3, fC)], [], (hp ((i3.fst.set i3.snd.fst.toNat (gx i3.fst z7)).set z6.toNat (gx i3.fst i3.snd.fst))), .norm⟩ [(qP1 l n a b)]))))))))))))))))
abbrev ksrt30s2 (i14 : List En × Int × Int × Int) : Scr := .skip 6 (.all (fun z16 => .skip 2 (.all (fun z17 => .skip 0 (.val (pt z17) (.skip 0 (.val (rv (gx i14.fst z17)) (.skip 2 (.val (pt i14.snd.snd.snd) (.skip 0 (.val (rv (gx i14.fst i14.snd.snd.snd)) (.skip 0 (.val (pt i14.snd.snd.snd) (.skip 0 (.put undefV (hp (i14.fst.set i14.snd.snd.snd.toNat (gx i14.fst z17))) (.skip 0 (.val (pt z16) (.skip 0 (.put undefV (hp ((i14.fst.set i14.snd.snd.snd.toNat (gx i14.fst z17)).set z16.toNat (gx i14.fst i14.snd.snd.snd))) (.skip 1 (.all (fun _z18 => .go))))))))))))))))))))))
abbrev ksrt30s0 (l : List En) (n : Nat) (a : Int) (b : Int) (i10 : List En × Int × Int × Int) : Scr := .skip 2 (.all (fun _z13 => .skip 1 (.invN [12, 10, 9, 8, 0, 1, 2, 3] _ (mP4 l n a b i10) [(qP4 l n a b i10)] (fun k => match k with | _ => fun i14 => .skip 2 (.ask (.skip 4 (.val (pt i14.snd.snd.snd) (.skip 0 (.val (rv (gx i14.fst i14.snd.snd.snd)) (.skip 2 (.all (fun z15 => .skip 0 (.val (pt z15) (.skip 0 (.val (rv (gx i14.fst z15)) (.skip 0 (.call (Unit) (kCmp (gx i14.fst i14.snd.snd.snd) (gx i14.fst z15) (hp i14.fst)).post fun _ => .skip 0 (.ask (ksrt30s2 i14) (.skip 3 (.all (fun _z16 => .go)))))))))))))))) (.skip 2 (.all (fun _z15 => .go))))))))
abbrev ksrt30s3 (l : List En) (n : Nat) (a : Int) (b : Int) (i10 : List En × Int × Int × Int) : Scr := .skip 3 (.all (fun _z11 => .skip 0 (.ask (ksrt30s0 l n a b i10) (.skip 2 (.all (fun _z12 => .go))))))
abbrev ksrt30s1 (l : List En) (n : Nat) (a : Int) (b : Int) (i3 : List En × Int × Int × Int) : Scr := .skip 3 (.all (fun _z5 => .skip 0 (.ask (.go) (.skip 5 (.all (fun z6 => .skip 2 (.all (fun z7 => .skip 0 (.val (pt z7) (.skip 0 (.val (rv (gx i3.fst z7)) (.skip 2 (.val (pt i3.snd.fst) (.skip 0 (.val (rv (gx i3.fst i3.snd.fst)) (.skip 0 (.val (pt i3.snd.fst) (.skip 0 (.put undefV (hp (i3.fst.set i3.snd.fst.toNat (gx i3.fst z7))) (.skip 0 (.val (pt z6) (.skip 0 (.put undefV (hp ((i3.fst.set i3.snd.fst.toNat (gx i3.fst z7)).set z6.toNat (gx i3.fst i3.snd.fst))) (.skip 2 (.all (fun _z8 => .skip 0 (.ask (.skip 2 (.all (fun _z9 => .skip 1 (.invN [11, 10, 9, 8, 0, 1, 2, 3] _ (mP3 l n a b i3) [(qP3 l n a b i3)] (fun k => match k with | _ => fun i10 => .skip 1 (.ask (.skip 4 (.val (pt i10.snd.snd.snd) (.skip 0 (.val (rv (gx i10.fst i10.snd.snd.snd)) (.skip 2 (.all (fun z11 => .skip 0 (.val (pt z11) (.skip 0 (.val (rv (gx i10.fst z11)) (.skip 0 (.call (Unit) (kCmp (gx i10.fst i10.snd.snd.snd) (gx i10.fst z11) (hp i10.fst)).post fun _ => .skip 0 (.ask (ksrt30s2 i10) (.skip 4 (.all (fun _z12 => .skip 0 (.ask (ksrt30s0 l n a b i10) (.skip 2 (.all (fun _z13 => .go)))))))))))))))))))) (ksrt30s3 l n a b i10))))))) (ksrt30s3 l n a b i3))))))))))))))))))))))))))))
theorem run_par (l : List En) (n : Nat) (a b : Int) (Q : Res → AHeap → Prop) : (∀ z1 : Int, z1 = (IntKind.i64.wrap (a + 1)) →
((someN [] 1 (fun _ => True) ⟨[(10, (iv 0)), (9, (iv z1)), (8, (.bool false)), (0, (sl n)), (1, (iv a)), (2, (iv b)), (3, fC)], [], (hp l), .norm⟩ [(qP1 l n a b)]) ∧
(∀ i2, (qP1 l n a b i2).fst →
(((decide (i2.snd.snd.fst < 5)) = true →
((someN [] 1 (fun _ => True) ⟨[(10, (iv i2.snd.snd.fst)), (9, (iv i2.snd.fst)), (8, (.bool false)), (0, (sl n)), (1, (iv a)), (2, (iv b)), (3, fC)], [], (hp i2.fst), .norm⟩ [(qP2 l n a b i2)]) ∧
(∀ i3, (qP2 l n a b i2 i3).fst →
(((decide (i3.snd.fst < b)) = true →
(IX n i3.snd.fst ∧
(LD i3.fst i3.snd.fst ∧
∀ z4 : Int, z4 = (IntKind.i64.wrap (i3.snd.fst - 1)) →
(IX n z4 ∧
(LD i3.fst z4 ∧
((kCmp (gx i3.fst i3.snd.fst) (gx i3.fst z4) (hp i3.fst)).asks Try.prog [] 39 ∧
∀ _ : Unit, (True) →
(((decide (cmpD (gx i3.fst i3.snd.fst) (gx i3.fst z4) < 0)) = true →
((ksrt30t0 l n a b Q i3 i2))) ∧
((decide (cmpD (gx i3.fst i3.snd.fst) (gx i3.fst z4) < 0)) = false →
∀ z5 : Int, z5 = (IntKind.i64.wrap (i3.snd.fst + 1)) →
(someN [] 1 (fun a' => (mP2 l n a b i2) a' < (mP2 l n a b i2) i3) ⟨[(10, (iv i3.snd.snd.fst)), (9, (iv z5)), (8, (.bool false)), (0, (sl n)), (1, (iv a)), (2, (iv b)), (3, fC)], [], (hp i3.fst), .norm⟩ [(qP2 l n a b i2)]))))))))) ∧
((decide (i3.snd.fst < b)) = false →
((ksrt30t0 l n a b Q i3 i2))))))) ∧
((decide (i2.snd.snd.fst < 5)) = false →
 Q (.ret (.bool false)) (hp i2.fst)))))) =
    runS Try.prog [] false [39] 0 (SpecC Try.prog []) 20 50 [sl n, .int .i64 a, .int .i64 b, fC] (hp l) .norm (.skip 2 (.all (fun _z1 => .skip 2 (.invN [10, 9, 8, 0, 1, 2, 3] _ (mP1 l n a b) [(qP1 l n a b)] (fun k => match k with | _ => fun i2 => .skip 1 (.ask (.skip 1 (.invN [10, 9, 8, 0, 1, 2, 3] _ (mP2 l n a b i2) [(qP2 l n a b i2)] (fun k => match k with | _ => fun i3 => .skip 2 (.ask (.skip 8 (.val (pt i3.snd.fst) (.skip 1 (.val (rv (gx i3.fst i3.snd.fst)) (.skip 5 (.all (fun z4 => .skip 1 (.val (pt z4) (.skip 1 (.val (rv (gx i3.fst z4)) (.skip 1 (.call (Unit) (kCmp (gx i3.fst i3.snd.fst) (gx i3.fst z4) (hp i3.fst)).post fun _ => .skip 1 (.ask (.skip 6 (.ask (.go) (ksrt30s1 l n a b i3))) (.skip 5 (.all (fun _z5 => .go)))))))))))))))) (.skip 18 (.ask (.go) (ksrt30s1 l n a b i3))))))) (.go))))))) (fun r _ h _ => Q r h) := by kernel_rfl
theorem par_spec {l : List En} {n : Nat} {a b : Int} (H : Pre nkE l n a b) (HW : Low nkE a b l) (hab : a < b) : (kPar l n a b).asks Try.prog [] 50 := by
  have HL := H.len
  have H0 := H.a0
  have HB := H.bn
  have HAB := H.ab
  have HG := H.big
  refine asks_of (spec_T (run_par l n a b _) ?_)
  intro z1 hz1
  rw [wr (by omega) (by omega)] at hz1
  subst hz1
  refine ⟨?_, ?_⟩
  exact ⟨_, P1_first H hab, trivial, Gc.same⟩
  intro i2 hi2
  replace hi2 : iP1 nkE l a b i2 := hi2
  obtain ⟨fi21, fi22, fi23, fi24, fi25⟩ := id hi2
  have gi2 := fi21.len
  refine ⟨fun h0 => ?_, fun h0 => ?_⟩
  replace h0 := of_decide_eq_true h0
  refine ⟨?_, ?_⟩
  exact ⟨_, P2_first hi2 h0, trivial, Gc.same⟩
  intro i3 hi3
  replace hi3 : iP2 nkE l a b _ i3 := hi3
  obtain ⟨⟨fi31, fi32, fi33, fi34, fi35⟩, fi36, fi37, fi38⟩ := id hi3
  have gi3 := fi31.len
  refine ⟨fun h1 => ?_, fun h1 => ?_⟩
  replace h1 := of_decide_eq_true h1
  refine ⟨ixa (by omega) (by omega), ?_⟩
  refine ⟨lda (by first | omega | (rw [List.length_set]; omega)), ?_⟩
  intro z4 hz4
  rw [wr (by omega) (by omega)] at hz4
  subst hz4
  refine ⟨ixa (by omega) (by omega), ?_⟩
  refine ⟨lda (by first | omega | (rw [List.length_set]; omega)), ?_⟩
  refine ⟨cmp_ok _ _ _, ?_⟩
  intro _ _
  refine ⟨fun h2 => ?_, fun h2 => ?_⟩
  replace h2 := ltT h2
  refine ⟨fun h3 => ?_, fun h3 => ?_⟩
  replace h3 := beq_iff_eq.1 h3
  exact ⟨(true, i3.1), ⟨fi31, fun _ => by rw [← h3]; exact fi35⟩, rfl, rfl⟩
  replace h3 := ne_of_beq_false h3
  intro z5 hz5
  rw [wr (by omega) (by omega)] at hz5
  subst hz5
  refine ⟨fun h4 => ?_, fun h4 => ?_⟩
  replace h4 := of_decide_eq_true h4
  exact ⟨(false, i3.1), ⟨fi31, fun h => by cases h⟩, rfl, rfl⟩
  replace h4 := of_decide_eq_false h4
  intro z6 hz6
  rw [wr (by omega) (by omega)] at hz6
  subst hz6
  intro z7 hz7
  rw [wr (by omega) (by omega)] at hz7
  subst hz7
  refine ⟨ixa (by omega) (by omega), ?_⟩
  refine ⟨lda (by first | omega | (rw [List.length_set]; omega)), ?_⟩
  refine ⟨ixa (by omega) (by omega), ?_⟩
  refine ⟨lda (by first | omega | (rw [List.length_set]; omega)), ?_⟩
  refine ⟨ixa (by omega) (by omega), ?_⟩
  refine ⟨sta (by first | omega | (rw [List.length_set]; omega)), ?_⟩
  refine ⟨ixa (by omega) (by omega), ?_⟩
  refine ⟨sta (by first | omega | (rw [List.length_set]; omega)), ?_⟩
  intro z8 hz8
  rw [wr (by omega) (by omega)] at hz8
  subst hz8
  refine ⟨fun h5 => ?_, fun h5 => ?_⟩
  replace h5 := of_decide_eq_true h5
  intro z9 hz9
  rw [wr (by omega) (by omega)] at hz9
  subst hz9
  refine ⟨?_, ?_⟩
  exact ⟨_, P3_first H hi3 (by omega), trivial, Gc.same⟩
  intro i10 hi10
  replace hi10 : iP3 nkE l a b _ i10 := hi10
  obtain ⟨fi101, fi102, fi103, fi104, fi105, fi106, fi107, _⟩ := id hi10
  have gi10 := fi101.len
  refine ⟨fun h6 => ?_, fun h6 => ?_⟩
  replace h6 := of_decide_eq_true h6
  refine ⟨ixa (by omega) (by omega), ?_⟩
  refine ⟨lda (by first | omega | (rw [List.length_set]; omega)), ?_⟩
  intro z11 hz11
  rw [wr (by omega) (by omega)] at hz11
  subst hz11
  refine ⟨ixa (by omega) (by omega), ?_⟩
  refine ⟨lda (by first | omega | (rw [List.length_set]; omega)), ?_⟩
  refine ⟨cmp_ok _ _ _, ?_⟩
  intro _ _
  refine ⟨fun h7 => ?_, fun h7 => ?_⟩
  replace h7 := ltT h7
  intro z12 hz12
  rw [wr (by omega) (by omega)] at hz12
  subst hz12
  intro z13 hz13
  rw [wr (by omega) (by omega)] at hz13
  subst hz13
  refine ⟨ixa (by omega) (by omega), ?_⟩
  refine ⟨lda (by first | omega | (rw [List.length_set]; omega)), ?_⟩
  refine ⟨ixa (by omega) (by omega), ?_⟩
  refine ⟨lda (by first | omega | (rw [List.length_set]; omega)), ?_⟩
  refine ⟨ixa (by omega) (by omega), ?_⟩
  refine ⟨sta (by first | omega | (rw [List.length_set]; omega)), ?_⟩
  refine ⟨ixa (by omega) (by omega), ?_⟩
  refine ⟨sta (by first | omega | (rw [List.length_set]; omega)), ?_⟩
  intro z14 hz14
  rw [wr (by omega) (by omega)] at hz14
  subst hz14
  exact ⟨_, P3_step H hi10 (P3_low H HW hi10 h6 h7) h7, by show (i10.2.2.2 - 1).toNat < i10.2.2.2.toNat; omega, Gc.same⟩
  replace h7 := ltF h7
  intro z12 hz12
  rw [wr (by omega) (by omega)] at hz12
  subst hz12
  refine ⟨fun h8 => ?_, fun h8 => ?_⟩
  replace h8 := of_decide_eq_true h8
  intro z13 hz13
  rw [wr (by omega) (by omega)] at hz13
  subst hz13
  refine ⟨?_, ?_⟩
  exact ⟨_, P4_first fi101 fi102 fi103 rfl rfl (P3_done H hi10 (.inr h7)) rfl, trivial, Gc.same⟩
  intro i14 hi14
  replace hi14 : iP4 nkE l a b _ i14 := hi14
  obtain ⟨fi141, fi142, fi143, fi144, fi145, fi146, fi147, fi148⟩ := id hi14
  have gi14 := fi141.len
  refine ⟨fun h9 => ?_, fun h9 => ?_⟩
  replace h9 := of_decide_eq_true h9
  refine ⟨ixa (by omega) (by omega), ?_⟩
  refine ⟨lda (by first | omega | (rw [List.length_set]; omega)), ?_⟩
  intro z15 hz15
  rw [wr (by omega) (by omega)] at hz15
  subst hz15
  refine ⟨ixa (by omega) (by omega), ?_⟩
  refine ⟨lda (by first | omega | (rw [List.length_set]; omega)), ?_⟩
  refine ⟨cmp_ok _ _ _, ?_⟩
  intro _ _
  refine ⟨fun h10 => ?_, fun h10 => ?_⟩
  replace h10 := ltT h10
  intro z16 hz16
  rw [wr (by omega) (by omega)] at hz16
  subst hz16
  intro z17 hz17
  rw [wr (by omega) (by omega)] at hz17
  subst hz17
  refine ⟨ixa (by omega) (by omega), ?_⟩
  refine ⟨lda (by first | omega | (rw [List.length_set]; omega)), ?_⟩
  refine ⟨ixa (by omega) (by omega), ?_⟩
  refine ⟨lda (by first | omega | (rw [List.length_set]; omega)), ?_⟩
  refine ⟨ixa (by omega) (by omega), ?_⟩
  refine ⟨sta (by first | omega | (rw [List.length_set]; omega)), ?_⟩
  refine ⟨ixa (by omega) (by omega), ?_⟩
  refine ⟨sta (by first | omega | (rw [List.length_set]; omega)), ?_⟩
  intro z18 hz18
  rw [wr (by omega) (by omega)] at hz18
  subst hz18
  exact ⟨_, P4_step H hi14 h9, by show (b - (i14.2.2.2 + 1)).toNat < (b - i14.2.2.2).toNat; omega, Gc.same⟩
  replace h10 := ltF h10
  intro z16 hz16
  rw [wr (by omega) (by omega)] at hz16
  subst hz16
  exact ⟨_, P1_next (j := 0) fi141 (by omega) (by omega) ⟨(by omega), (by omega)⟩ fi148, by show (5 - (i14.2.2.1 + 1)).toNat < (5 - i2.2.2.1).toNat; omega, Gc.same⟩
  replace h9 := of_decide_eq_false h9
  intro z15 hz15
  rw [wr (by omega) (by omega)] at hz15
  subst hz15
  exact ⟨_, P1_next (j := 0) fi141 (by omega) (by omega) ⟨(by omega), (by omega)⟩ fi148, by show (5 - (i14.2.2.1 + 1)).toNat < (5 - i2.2.2.1).toNat; omega, Gc.same⟩
  replace h8 := of_decide_eq_false h8
  intro z13 hz13
  rw [wr (by omega) (by omega)] at hz13
  subst hz13
  exact ⟨_, P1_next (j := 0) fi101 (by omega) (by omega) ⟨(by omega), (by omega)⟩ (P3_done H hi10 (.inr h7)), by show (5 - (i10.2.2.1 + 1)).toNat < (5 - i2.2.2.1).toNat; omega, Gc.same⟩
  replace h6 := of_decide_eq_false h6
  intro z11 hz11
  rw [wr (by omega) (by omega)] at hz11
  subst hz11
  refine ⟨fun h7 => ?_, fun h7 => ?_⟩
  replace h7 := of_decide_eq_true h7
  intro z12 hz12
  rw [wr (by omega) (by omega)] at hz12
  subst hz12
  refine ⟨?_, ?_⟩
  exact ⟨_, P4_first fi101 fi102 fi103 rfl rfl (P3_done H hi10 (.inl (by omega))) rfl, trivial, Gc.same⟩
  intro i13 hi13
  replace hi13 : iP4 nkE l a b _ i13 := hi13
  obtain ⟨fi131, fi132, fi133, fi134, fi135, fi136, fi137, fi138⟩ := id hi13
  have gi13 := fi131.len
  refine ⟨fun h8 => ?_, fun h8 => ?_⟩
  replace h8 := of_decide_eq_true h8
  refine ⟨ixa (by omega) (by omega), ?_⟩
  refine ⟨lda (by first | omega | (rw [List.length_set]; omega)), ?_⟩
  intro z14 hz14
  rw [wr (by omega) (by omega)] at hz14
  subst hz14
  refine ⟨ixa (by omega) (by omega), ?_⟩
  refine ⟨lda (by first | omega | (rw [List.length_set]; omega)), ?_⟩
  refine ⟨cmp_ok _ _ _, ?_⟩
  intro _ _
  refine ⟨fun h9 => ?_, fun h9 => ?_⟩
  replace h9 := ltT h9
  intro z15 hz15
  rw [wr (by omega) (by omega)] at hz15
  subst hz15
  intro z16 hz16
  rw [wr (by omega) (by omega)] at hz16
  subst hz16
  refine ⟨ixa (by omega) (by omega), ?_⟩
  refine ⟨lda (by first | omega | (rw [List.length_set]; omega)), ?_⟩
  refine ⟨ixa (by omega) (by omega), ?_⟩
  refine ⟨lda (by first | omega | (rw [List.length_set]; omega)), ?_⟩
  refine ⟨ixa (by omega) (by omega), ?_⟩
  refine ⟨sta (by first | omega | (rw [List.length_set]; omega)), ?_⟩
  refine ⟨ixa (by omega) (by omega), ?_⟩
  refine ⟨sta (by first | omega | (rw [List.length_set]; omega)), ?_⟩
  intro z17 hz17
  rw [wr (by omega) (by omega)] at hz17
  subst hz17
  exact ⟨_, P4_step H hi13 h8, by show (b - (i13.2.2.2 + 1)).toNat < (b - i13.2.2.2).toNat; omega, Gc.same⟩
  replace h9 := ltF h9
  intro z15 hz15
  rw [wr (by omega) (by omega)] at hz15
  subst hz15
  exact ⟨_, P1_next (j := 0) fi131 (by omega) (by omega) ⟨(by omega), (by omega)⟩ fi138, by show (5 - (i13.2.2.1 + 1)).toNat < (5 - i2.2.2.1).toNat; omega, Gc.same⟩
  replace h8 := of_decide_eq_false h8
  intro z14 hz14
  rw [wr (by omega) (by omega)] at hz14
  subst hz14
  exact ⟨_, P1_next (j := 0) fi131 (by omega) (by omega) ⟨(by omega), (by omega)⟩ fi138, by show (5 - (i13.2.2.1 + 1)).toNat < (5 - i2.2.2.1).toNat; omega, Gc.same⟩
  replace h7 := of_decide_eq_false h7
  intro z12 hz12
  rw [wr (by omega) (by omega)] at hz12
  subst hz12
  exact ⟨_, P1_next (j := 0) fi101 (by omega) (by omega) ⟨(by omega), (by omega)⟩ (P3_done H hi10 (.inl (by omega))), by show (5 - (i10.2.2.1 + 1)).toNat < (5 - i2.2.2.1).toNat; omega, Gc.same⟩
  replace h5 := of_decide_eq_false h5
  intro z9 hz9
  rw [wr (by omega) (by omega)] at hz9
  subst hz9
  refine ⟨fun h6 => ?_, fun h6 => ?_⟩
  replace h6 := of_decide_eq_true h6
  intro z10 hz10
  rw [wr (by omega) (by omega)] at hz10
  subst hz10
  refine ⟨?_, ?_⟩
  exact ⟨_, P4_first (P3_none hi3 (by omega) (by omega)).1 (by omega) (by omega) rfl rfl (P3_none hi3 (by omega) (by omega)).2 rfl, trivial, Gc.same⟩
  intro i11 hi11
  replace hi11 : iP4 nkE l a b _ i11 := hi11
  obtain ⟨fi111, fi112, fi113, fi114, fi115, fi116, fi117, fi118⟩ := id hi11
  have gi11 := fi111.len
  refine ⟨fun h7 => ?_, fun h7 => ?_⟩
  replace h7 := of_decide_eq_true h7
  refine ⟨ixa (by omega) (by omega), ?_⟩
  refine ⟨lda (by first | omega | (rw [List.length_set]; omega)), ?_⟩
  intro z12 hz12
  rw [wr (by omega) (by omega)] at hz12
  subst hz12
  refine ⟨ixa (by omega) (by omega), ?_⟩
  refine ⟨lda (by first | omega | (rw [List.length_set]; omega)), ?_⟩
  refine ⟨cmp_ok _ _ _, ?_⟩
  intro _ _
  refine ⟨fun h8 => ?_, fun h8 => ?_⟩
  replace h8 := ltT h8
  intro z13 hz13
  rw [wr (by omega) (by omega)] at hz13
  subst hz13
  intro z14 hz14
  rw [wr (by omega) (by omega)] at hz14
  subst hz14
  refine ⟨ixa (by omega) (by omega), ?_⟩
  refine ⟨lda (by first | omega | (rw [List.length_set]; omega)), ?_⟩
  refine ⟨ixa (by omega) (by omega), ?_⟩
  refine ⟨lda (by first | omega | (rw [List.length_set]; omega)), ?_⟩
  refine ⟨ixa (by omega) (by omega), ?_⟩
  refine ⟨sta (by first | omega | (rw [List.length_set]; omega)), ?_⟩
  refine ⟨ixa (by omega) (by omega), ?_⟩
  refine ⟨sta (by first | omega | (rw [List.length_set]; omega)), ?_⟩
  intro z15 hz15
  rw [wr (by omega) (by omega)] at hz15
  subst hz15
  exact ⟨_, P4_step H hi11 h7, by show (b - (i11.2.2.2 + 1)).toNat < (b - i11.2.2.2).toNat; omega, Gc.same⟩
  replace h8 := ltF h8
  intro z13 hz13
  rw [wr (by omega) (by omega)] at hz13
  subst hz13
  exact ⟨_, P1_next (j := 0) fi111 (by omega) (by omega) ⟨(by omega), (by omega)⟩ fi118, by show (5 - (i11.2.2.1 + 1)).toNat < (5 - i2.2.2.1).toNat; omega, Gc.same⟩
  replace h7 := of_decide_eq_false h7
  intro z12 hz12
  rw [wr (by omega) (by omega)] at hz12
  subst hz12
  exact ⟨_, P1_next (j := 0) fi111 (by omega) (by omega) ⟨(by omega), (by omega)⟩ fi118, by show (5 - (i11.2.2.1 + 1)).toNat < (5 - i2.2.2.1).toNat; omega, Gc.same⟩
  replace h6 := of_decide_eq_false h6
  intro z10 hz10
  rw [wr (by omega) (by omega)] at hz10
  subst hz10
  exact ⟨_, P1_next (j := 0) (P3_none hi3 (by omega) (by omega)).1 (by omega) (by omega) ⟨(by omega), (by omega)⟩ (P3_none hi3 (by omega) (by omega)).2, by show (5 - (i3.2.2.1 + 1)).toNat < (5 - i2.2.2.1).toNat; omega, Gc.same⟩
  replace h2 := ltF h2
  intro z5 hz5
  rw [wr (by omega) (by omega)] at hz5
  subst hz5
  exact ⟨_, P2_step H hi3 h1 h2, by show (b - (i3.2.1 + 1)).toNat < (b - i3.2.1).toNat; omega, Gc.same⟩
  replace h1 := of_decide_eq_false h1
  refine ⟨fun h2 => ?_, fun h2 => ?_⟩
  replace h2 := beq_iff_eq.1 h2
  exact ⟨(true, i3.1), ⟨fi31, fun _ => by rw [← h2]; exact fi35⟩, rfl, rfl⟩
  replace h2 := ne_of_beq_false h2
  exfalso
  omega
  replace h0 := of_decide_eq_false h0
  exact ⟨(false, i2.1), ⟨fi21, fun h => by cases h⟩, rfl, rfl⟩
abbrev ksrt31t1 (l : List En) (n : Nat) (a : Int) (b : Int) (pv : Int) (Q : Res →
 AHeap →
 Prop) (i9 : List En × Int × Int) (i7 : List En × Int × Int) : Prop := ((decide (i9.snd.fst > i9.snd.snd)) = true →
(IX n a ∧
(LD i9.fst a ∧
(IX n i9.snd.snd ∧
(LD i9.fst i9.snd.snd ∧
(IX n i9.snd.snd ∧
(SO i9.fst i9.snd.snd (gx i9.fst a) (i9.fst.set i9.snd.snd.toNat (gx i9.fst a)) ∧
(IX n a ∧
(SO (i9.fst.set i9.snd.snd.toNat (gx i9.fst a)) a (gx i9.fst i9.snd.snd) ((i9.fst.set i9.snd.snd.toNat (gx i9.fst a)).set a.toNat (gx i9.fst i9.snd.snd)) ∧
 Q (.ret (.tuple ⟨[(iv i9.snd.snd), (.bool false)]⟩)) (hp ((i9.fst.set i9.snd.snd.toNat (gx i9.fst a)).set a.toNat (gx i9.fst i9.snd.snd)))))))))))) ∧
((decide (i9.snd.fst > i9.snd.snd)) = false →
(IX n i9.snd.snd ∧
(LD i9.fst i9.snd.snd ∧
(IX n i9.snd.fst ∧
(LD i9.fst i9.snd.fst ∧
(IX n i9.snd.fst ∧
(SO i9.fst i9.snd.fst (gx i9.fst i9.snd.snd) (i9.fst.set i9.snd.fst.toNat (gx i9.fst i9.snd.snd)) ∧
(IX n i9.snd.snd ∧
(SO (i9.fst.set i9.snd.fst.toNat (gx i9.fst i9.snd.snd)) i9.snd.snd (gx i9.fst i9.snd.fst) ((i9.fst.set i9.snd.fst.toNat (gx i9.fst i9.snd.snd)).set i9.snd.snd.toNat (gx i9.fst i9.snd.fst)) ∧
∀ z10 : Int, z10 = (IntKind.i64.wrap (i9.snd.fst + 1)) →
∀ z11 : Int, z11 = (IntKind.i64.wrap (i9.snd.snd - 1)) →
(someN [] 1 (fun a' => (mT3 l n a b pv) a' < (mT3 l n a b pv) i7) ⟨[(13, (iv z11)), (12, (iv z10)), (11, (.bool false)), (10, (iv 0)), (0, (sl n)), (1, (iv a)), (2, (iv b)), (3, (iv pv)), (4, fC)], [], (hp ((i9.fst.set i9.snd.fst.toNat (gx i9.fst i9.snd.snd)).set i9.snd.snd.toNat (gx i9.fst i9.snd.fst))), .norm⟩ [(qT3 l n a b pv)]))))))))))
abbrev ksrt31t2 (l : List En) (n : Nat) (a : Int) (b : Int) (pv : Int) (Q : Res →
 AHeap →
 Prop) (i8 : List En × Int × Int) (i7 : List En × Int × Int) : Prop := (someN [] 1 (fun _ => True) ⟨[(13, (iv i8.snd.snd)), (12, (iv i8.snd.fst)), (11, (.bool false)), (10, (iv 0)), (0, (sl n)), (1, (iv a)), (2, (iv b)), (3, (iv pv)), (4, fC)], [], (hp i8.fst), .norm⟩ [(qT5 l n a b pv i8)]) ∧
(∀ i9, (qT5 l n a b pv i8 i9).fst →
(((decide (i9.snd.fst ≤ i9.snd.snd)) = true →
(IX n i9.snd.snd ∧
(LD i9.fst i9.snd.snd ∧
(IX n a ∧
(LD i9.fst a ∧
((kCmp (gx i9.fst i9.snd.snd) (gx i9.fst a) (hp i9.fst)).asks Try.prog [] 39 ∧
∀ _ : Unit, (True) →
(((decide (cmpD (gx i9.fst i9.snd.snd) (gx i9.fst a) < 0)) = true →
((ksrt31t1 l n a b pv Q i9 i7))) ∧
((decide (cmpD (gx i9.fst i9.snd.snd) (gx i9.fst a) < 0)) = false →
∀ z10 : Int, z10 = (IntKind.i64.wrap (i9.snd.snd - 1)) →
(someN [] 1 (fun a' => (mT5 l n a b pv i8) a' < (mT5 l n a b pv i8) i9) ⟨[(13, (iv z10)), (12, (iv i9.snd.fst)), (11, (.bool false)), (10, (iv 0)), (0, (sl n)), (1, (iv a)), (2, (iv b)), (3, (iv pv)), (4, fC)], [], (hp i9.fst), .norm⟩ [(qT5 l n a b pv i8)]))))))))) ∧
((decide (i9.snd.fst ≤ i9.snd.snd)) = false →
((ksrt31t1 l n a b pv Q i9 i7)))))
abbrev ksrt31t0 (l : List En) (n : Nat) (a : Int) (b : Int) (pv : Int) (Q : Res →
 AHeap →
 Prop) (i4 : List En × Int × Int) : Prop := ((decide (i4.snd.fst > i4.snd.snd)) = true →
(IX n a ∧
(LD i4.fst a ∧
(IX n i4.snd.snd ∧
(LD i4.fst i4.snd.snd ∧
(IX n i4.snd.snd ∧
(SO i4.fst i4.snd.snd (gx i4.fst a) (i4.fst.set i4.snd.snd.toNat (gx i4.fst a)) ∧
(IX n a ∧
(SO (i4.fst.set i4.snd.snd.toNat (gx i4.fst a)) a (gx i4.fst i4.snd.snd) ((i4.fst.set i4.snd.snd.toNat (gx i4.fst a)).set a.toNat (gx i4.fst i4.snd.snd)) ∧
 Q (.ret (.tuple ⟨[(iv i4.snd.snd), (.bool true)]⟩)) (hp ((i4.fst.set i4.snd.snd.toNat (gx i4.fst a)).set a.toNat (gx i4.fst i4.snd.snd)))))))))))) ∧
((decide (i4.snd.fst > i4.snd.snd)) = false →
(IX n i4.snd.snd ∧
(LD i4.fst i4.snd.snd ∧
(IX n i4.snd.fst ∧
(LD i4.fst i4.snd.fst ∧
(IX n i4.snd.fst ∧
(SO i4.fst i4.snd.fst (gx i4.fst i4.snd.snd) (i4.fst.set i4.snd.fst.toNat (gx i4.fst i4.snd.snd)) ∧
(IX n i4.snd.snd ∧
(SO (i4.fst.set i4.snd.fst.toNat (gx i4.fst i4.snd.snd)) i4.snd.snd (gx i4.fst i4.snd.fst) ((i4.fst.set i4.snd.fst.toNat (gx i4.fst i4.snd.snd)).set i4.snd.snd.toNat (gx i4.fst i4.snd.fst)) ∧
∀ z5 : Int, z5 = (IntKind.i64.wrap (i4.snd.fst + 1)) →
∀ z6 : Int, z6 = (IntKind.i64.wrap (i4.snd.snd - 1)) →
((someN [] 1 (fun _ => True) ⟨[(13, (iv z6)), (12, (iv z5)), (11, (.bool false)), (10, (iv 0)), (0, (sl n)), (1, (iv a)), (2, (iv b)), (3, (iv pv)), (4, fC)], [], (hp ((i4.fst.set i4.snd.fst.toNat (gx i4.fst i4.snd.snd)).set i4.snd.snd.toNat (gx i4.fst i4.snd.fst))), .norm⟩ [(qT3 l n a b pv)]) ∧
(∀ i7, (qT3 l n a b pv i7).fst →
((someN [] 1 (fun _ => True) ⟨[(13, (iv i7.snd.snd)), (12, (iv i7.snd.fst)), (11, (.bool false)), (10, (iv 0)), (0, (sl n)), (1, (iv a)), (2, (iv b)), (3, (iv pv)), (4, fC)], [], (hp i7.fst), .norm⟩ [(qT4 l n a b pv i7)]) ∧
(∀ i8, (qT4 l n a b pv i7 i8).fst →
(((decide (i8.snd.fst ≤ i8.snd.snd)) = true →
(IX n i8.snd.fst ∧
(LD i8.fst i8.snd.fst ∧
(IX n a ∧
(LD i8.fst a ∧
((kCmp (gx i8.fst i8.snd.fst) (gx i8.fst a) (hp i8.fst)).asks Try.prog [] 39 ∧
∀ _ : Unit, (True) →
(((decide (cmpD (gx i8.fst i8.snd.fst) (gx i8.fst a) < 0)) = true →
∀ z9 : Int, z9 = (IntKind.i64.wrap (i8.snd.fst + 1)) →
(someN [] 1 (fun a' => (mT4 l n a b pv i7) a' < (mT4 l n a b pv i7) i8) ⟨[(13, (iv i8.snd.snd)), (12, (iv z9)), (11, (.bool false)), (10, (iv 0)), (0, (sl n)), (1, (iv a)), (2, (iv b)), (3, (iv pv)), (4, fC)], [], (hp i8.fst), .norm⟩ [(qT4 l n a b pv i7)])) ∧
((decide (cmpD (gx i8.fst i8.snd.fst) (gx i8.fst a) < 0)) = false →
((ksrt31t2 l n a b pv Q i8 i7)))))))))) ∧
((decide (i8.snd.fst ≤ i8.snd.snd)) = false →
((ksrt31t2 l n a b pv Q i8 i7)))))))))))))))))
abbrev ksrt31t3 (l : List En) (n : Nat) (a : Int) (b : Int) (pv : Int) (Q : Res →
 AHeap →
 Prop) (i3 : List En × Int × Int) : Prop := (someN [] 1 (fun _ => True) ⟨[(13, (iv i3.snd.snd)), (12, (iv i3.snd.fst)), (11, (.bool false)), (10, (iv 0)), (0, (sl n)), (1, (iv a)), (2, (iv b)), (3, (iv pv)), (4, fC)], [], (hp i3.fst), .norm⟩ [(qT2 l n a b pv)]) ∧
(∀ i4, (qT2 l n a b pv i4).fst →
(((decide (i4.snd.fst ≤ i4.snd.snd)) = true →
(IX n i4.snd.snd ∧
(LD i4.fst i4.snd.snd ∧
(IX n a ∧
(LD i4.fst a ∧
((kCmp (gx i4.fst i4.snd.snd) (gx i4.fst a) (hp i4.fst)).asks Try.prog [] 39 ∧
∀ _ : Unit, (True) →
(((decide (cmpD (gx i4.fst i4.snd.snd) (gx i4.fst a) < 0)) = true →
((ksrt31t0 l n a b pv Q i4))) ∧
((decide (cmpD (gx i4.fst i4.snd.snd) (gx i4.fst a) < 0)) = false →
∀ z5 : Int, z5 = (IntKind.i64.wrap (i4.snd.snd - 1)) →
(someN [] 1 (fun a' => (mT2 l n a b pv) a' < (mT2 l n a b pv) i4) ⟨[(13, (iv z5)), (12, (iv i4.snd.fst)), (11, (.bool false)), (10, (iv 0)), (0, (sl n)), (1, (iv a)), (2, (iv b)), (3, (iv pv)), (4, fC)], [], (hp i4.fst), .norm⟩ [(qT2 l n a b pv)]))))))))) ∧
((decide (i4.snd.fst ≤ i4.snd.snd)) = false →
((ksrt31t0 l n a b pv Q i4)))))
abbrev ksrt31s1 (a : Int) (i4 : List En × Int × Int) : Scr := .skip 7 (.val (pt a) (.skip 0 (.val (rv (gx i4.fst a)) (.skip 2 (.val (pt i4.snd.snd) (.skip 0 (.val (rv (gx i4.fst i4.snd.snd)) (.skip 0 (.val (pt i4.snd.snd) (.skip 0 (.put undefV (hp (i4.fst.set i4.snd.snd.toNat (gx i4.fst a))) (.skip 0 (.val (pt a) (.skip 0 (.put undefV (hp ((i4.fst.set i4.snd.snd.toNat (gx i4.fst a)).set a.toNat (gx i4.fst i4.snd.snd))) (.go))))))))))))))))
abbrev ksrt31s2 (i9 : List En × Int × Int) : Scr := .skip 7 (.val (pt i9.snd.snd) (.skip 0 (.val (rv (gx i9.fst i9.snd.snd)) (.skip 2 (.val (pt i9.snd.fst) (.skip 0 (.val (rv (gx i9.fst i9.snd.fst)) (.skip 0 (.val (pt i9.snd.fst) (.skip 0 (.put undefV (hp (i9.fst.set i9.snd.fst.toNat (gx i9.fst i9.snd.snd))) (.skip 0 (.val (pt i9.snd.snd) (.skip 0 (.put undefV (hp ((i9.fst.set i9.snd.fst.toNat (gx i9.fst i9.snd.snd)).set i9.snd.snd.toNat (gx i9.fst i9.snd.fst))) (.skip 1 (.all (fun _z10 => .skip 2 (.all (fun _z11 => .go))))))))))))))))))))
abbrev ksrt31s4 (a : Int) (i9 : List En × Int × Int) : Scr := .skip 8 (.val (pt i9.snd.snd) (.skip 1 (.val (rv (gx i9.fst i9.snd.snd)) (.skip 5 (.val (pt a) (.skip 1 (.val (rv (gx i9.fst a)) (.skip 1 (.call (Unit) (kCmp (gx i9.fst i9.snd.snd) (gx i9.fst a) (hp i9.fst)).post fun _ => .skip 1 (.ask (.skip 6 (.ask (ksrt31s1 a i9) (ksrt31s2 i9))) (.skip 5 (.all (fun _z10 => .go)))))))))))))
abbrev ksrt31s0 (l : List En) (n : Nat) (a : Int) (b : Int) (pv : Int) (i4 : List En × Int × Int) : Scr := .skip 7 (.val (pt i4.snd.snd) (.skip 0 (.val (rv (gx i4.fst i4.snd.snd)) (.skip 2 (.val (pt i4.snd.fst) (.skip 0 (.val (rv (gx i4.fst i4.snd.fst)) (.skip 0 (.val (pt i4.snd.fst) (.skip 0 (.put undefV (hp (i4.fst.set i4.snd.fst.toNat (gx i4.fst i4.snd.snd))) (.skip 0 (.val (pt i4.snd.snd) (.skip 0 (.put undefV (hp ((i4.fst.set i4.snd.fst.toNat (gx i4.fst i4.snd.snd)).set i4.snd.snd.toNat (gx i4.fst i4.snd.fst))) (.skip 1 (.all (fun _z5 => .skip 2 (.all (fun _z6 => .skip 1 (.invN [13, 12, 11, 10, 0, 1, 2, 3, 4] _ (mT3 l n a b pv) [(qT3 l n a b pv)] (fun k => match k with | _ => fun i7 => .skip 0 (.invN [13, 12, 11, 10, 0, 1, 2, 3, 4] _ (mT4 l n a b pv i7) [(qT4 l n a b pv i7)] (fun k => match k with | _ => fun i8 => .skip 2 (.ask (.skip 8 (.val (pt i8.snd.fst) (.skip 1 (.val (rv (gx i8.fst i8.snd.fst)) (.skip 5 (.val (pt a) (.skip 1 (.val (rv (gx i8.fst a)) (.skip 1 (.call (Unit) (kCmp (gx i8.fst i8.snd.fst) (gx i8.fst a) (hp i8.fst)).post fun _ => .skip 1 (.ask (.skip 3 (.all (fun _z9 => .go))) (.skip 2 (.invN [13, 12, 11, 10, 0, 1, 2, 3, 4] _ (mT5 l n a b pv i8) [(qT5 l n a b pv i8)] (fun k => match k with | _ => fun i9 => .skip 2 (.ask (ksrt31s4 a i9) (.skip 17 (.ask (ksrt31s1 a i9) (ksrt31s2 i9)))))))))))))))))) (.skip 14 (.invN [13, 12, 11, 10, 0, 1, 2, 3, 4] _ (mT5 l n a b pv i8) [(qT5 l n a b pv i8)] (fun k => match k with | _ => fun i9 => .skip 2 (.ask (ksrt31s4 a i9) (.skip 17 (.ask (ksrt31s1 a i9) (ksrt31s2 i9))))))))))))))))))))))))))))))))
abbrev ksrt31s3 (l : List En) (n : Nat) (a : Int) (b : Int) (pv : Int) (i4 : List En × Int × Int) : Scr := .skip 8 (.val (pt i4.snd.snd) (.skip 1 (.val (rv (gx i4.fst i4.snd.snd)) (.skip 5 (.val (pt a) (.skip 1 (.val (rv (gx i4.fst a)) (.skip 1 (.call (Unit) (kCmp (gx i4.fst i4.snd.snd) (gx i4.fst a) (hp i4.fst)).post fun _ => .skip 1 (.ask (.skip 6 (.ask (ksrt31s1 a i4) (ksrt31s0 l n a b pv i4))) (.skip 5 (.all (fun _z5 => .go)))))))))))))
theorem run_prt (l : List En) (n : Nat) (a b pv : Int) (Q : Res → AHeap → Prop) : ((IX n pv ∧
(LD l pv ∧
(IX n a ∧
(LD l a ∧
(IX n a ∧
(SO l a (gx l pv) (l.set a.toNat (gx l pv)) ∧
(IX n pv ∧
(SO (l.set a.toNat (gx l pv)) pv (gx l a) ((l.set a.toNat (gx l pv)).set pv.toNat (gx l a)) ∧
∀ z1 : Int, z1 = (IntKind.i64.wrap (a + 1)) →
∀ z2 : Int, z2 = (IntKind.i64.wrap (b - 1)) →
((someN [] 1 (fun _ => True) ⟨[(13, (iv z2)), (12, (iv z1)), (11, (.bool false)), (10, (iv 0)), (0, (sl n)), (1, (iv a)), (2, (iv b)), (3, (iv pv)), (4, fC)], [], (hp ((l.set a.toNat (gx l pv)).set pv.toNat (gx l a))), .norm⟩ [(qT1 l n a b pv)]) ∧
(∀ i3, (qT1 l n a b pv i3).fst →
(((decide (i3.snd.fst ≤ i3.snd.snd)) = true →
(IX n i3.snd.fst ∧
(LD i3.fst i3.snd.fst ∧
(IX n a ∧
(LD i3.fst a ∧
((kCmp (gx i3.fst i3.snd.fst) (gx i3.fst a) (hp i3.fst)).asks Try.prog [] 39 ∧
∀ _ : Unit, (True) →
(((decide (cmpD (gx i3.fst i3.snd.fst) (gx i3.fst a) < 0)) = true →
∀ z4 : Int, z4 = (IntKind.i64.wrap (i3.snd.fst + 1)) →
(someN [] 1 (fun a' => (mT1 l n a b pv) a' < (mT1 l n a b pv) i3) ⟨[(13, (iv i3.snd.snd)), (12, (iv z4)), (11, (.bool false)), (10, (iv 0)), (0, (sl n)), (1, (iv a)), (2, (iv b)), (3, (iv pv)), (4, fC)], [], (hp i3.fst), .norm⟩ [(qT1 l n a b pv)])) ∧
((decide (cmpD (gx i3.fst i3.snd.fst) (gx i3.fst a) < 0)) = false →
((ksrt31t3 l n a b pv Q i3)))))))))) ∧
((decide (i3.snd.fst ≤ i3.snd.snd)) = false →
((ksrt31t3 l n a b pv Q i3))))))))))))))) =
    runS Try.prog [] false [39] 0 (SpecC Try.prog []) 20 52 [sl n, .int .i64 a, .int .i64 b, .int .i64 pv, fC] (hp l) .norm (.skip 8 (.val (pt pv) (.skip 0 (.val (rv (gx l pv)) (.skip 2 (.val (pt a) (.skip 0 (.val (rv (gx l a)) (.skip 0 (.val (pt a) (.skip 0 (.put undefV (hp (l.set a.toNat (gx l pv))) (.skip 0 (.val (pt pv) (.skip 0 (.put undefV (hp ((l.set a.toNat (gx l pv)).set pv.toNat (gx l a))) (.skip 1 (.all (fun _z1 => .skip 1 (.all (fun _z2 => .skip 2 (.invN [13, 12, 11, 10, 0, 1, 2, 3, 4] _ (mT1 l n a b pv) [(qT1 l n a b pv)] (fun k => match k with | _ => fun i3 => .skip 2 (.ask (.skip 8 (.val (pt i3.snd.fst) (.skip 1 (.val (rv (gx i3.fst i3.snd.fst)) (.skip 5 (.val (pt a) (.skip 1 (.val (rv (gx i3.fst a)) (.skip 1 (.call (Unit) (kCmp (gx i3.fst i3.snd.fst) (gx i3.fst a) (hp i3.fst)).post fun _ => .skip 1 (.ask (.skip 3 (.all (fun _z4 => .go))) (.skip 2 (.invN [13, 12, 11, 10, 0, 1, 2, 3, 4] _ (mT2 l n a b pv) [(qT2 l n a b pv)] (fun k => match k with | _ => fun i4 => .skip 2 (.ask (ksrt31s3 l n a b pv i4) (.skip 17 (.ask (ksrt31s1 a i4) (ksrt31s0 l n a b pv i4)))))))))))))))))) (.skip 14 (.invN [13, 12, 11, 10, 0, 1, 2, 3, 4] _ (mT2 l n a b pv) [(qT2 l n a b pv)] (fun k => match k with | _ => fun i4 => .skip 2 (.ask (ksrt31s3 l n a b pv i4) (.skip 17 (.ask (ksrt31s1 a i4) (ksrt31s0 l n a b pv i4))))))))))))))))))))))))))))))) (fun r _ h _ => Q r h) := by kernel_rfl
theorem prt_spec {l : List En} {n : Nat} {a b pv : Int} (H : Pre nkE l n a b) (hp : a ≤ pv ∧ pv < b) : (kPrt l n a b pv).asks Try.prog [] 52 := by
  have HL := H.len
  have H0 := H.a0
  have HB := H.bn
  have HAB := H.ab
  have HG := H.big
  refine asks_of (spec_T (run_prt l n a b pv _) ?_)
  refine ⟨ixa (by omega) (by omega), ?_⟩
  refine ⟨lda (by first | omega | (rw [List.length_set]; omega)), ?_⟩
  refine ⟨ixa (by omega) (by omega), ?_⟩
  refine ⟨lda (by first | omega | (rw [List.length_set]; omega)), ?_⟩
  refine ⟨ixa (by omega) (by omega), ?_⟩
  refine ⟨sta (by first | omega | (rw [List.length_set]; omega)), ?_⟩
  refine ⟨ixa (by omega) (by omega), ?_⟩
  refine ⟨sta (by first | omega | (rw [List.length_set]; omega)), ?_⟩
  intro z1 hz1
  rw [wr (by omega) (by omega)] at hz1
  subst hz1
  intro z2 hz2
  rw [wr (by omega) (by omega)] at hz2
  subst hz2
  refine ⟨?_, ?_⟩
  exact ⟨_, ⟨T_first hp, rfl⟩, trivial, Gc.same⟩
  intro i3 hi3
  replace hi3 : iT3 nkE l a b i3 ∧ i3.2.2 = b - 1 := hi3
  obtain ⟨fi30, fi37⟩ := id hi3
  obtain ⟨fi31, fi32, fi33, fi34, fi35, fi36⟩ := id fi30
  have gi3 := fi31.len
  refine ⟨fun h0 => ?_, fun h0 => ?_⟩
  replace h0 := of_decide_eq_true h0
  refine ⟨ixa (by omega) (by omega), ?_⟩
  refine ⟨lda (by first | omega | (rw [List.length_set]; omega)), ?_⟩
  refine ⟨ixa (by omega) (by omega), ?_⟩
  refine ⟨lda (by first | omega | (rw [List.length_set]; omega)), ?_⟩
  refine ⟨cmp_ok _ _ _, ?_⟩
  intro _ _
  refine ⟨fun h1 => ?_, fun h1 => ?_⟩
  replace h1 := ltT h1
  intro z4 hz4
  rw [wr (by omega) (by omega)] at hz4
  subst hz4
  exact ⟨_, ⟨T_right fi30 (by omega) h1, fi37⟩, by show (b - (i3.2.1 + 1)).toNat < (b - i3.2.1).toNat; omega, Gc.same⟩
  replace h1 := ltF h1
  refine ⟨?_, ?_⟩
  exact ⟨_, ⟨fi30, Int.le_refl _, Int.le_refl _, fun h => h1⟩, trivial, Gc.same⟩
  intro i4 hi4
  replace hi4 : iT5 nkE l a b i4 i4 := hi4
  obtain ⟨fi40, _, _, fi49⟩ := id hi4
  obtain ⟨fi41, fi42, fi43, fi44, fi45, fi46⟩ := id fi40
  have gi4 := fi41.len
  refine ⟨fun h2 => ?_, fun h2 => ?_⟩
  replace h2 := of_decide_eq_true h2
  refine ⟨ixa (by omega) (by omega), ?_⟩
  refine ⟨lda (by first | omega | (rw [List.length_set]; omega)), ?_⟩
  refine ⟨ixa (by omega) (by omega), ?_⟩
  refine ⟨lda (by first | omega | (rw [List.length_set]; omega)), ?_⟩
  refine ⟨cmp_ok _ _ _, ?_⟩
  intro _ _
  refine ⟨fun h3 => ?_, fun h3 => ?_⟩
  replace h3 := ltT h3
  refine ⟨fun h4 => ?_, fun h4 => ?_⟩
  replace h4 := of_decide_eq_true h4
  refine ⟨ixa (by omega) (by omega), ?_⟩
  refine ⟨lda (by first | omega | (rw [List.length_set]; omega)), ?_⟩
  refine ⟨ixa (by omega) (by omega), ?_⟩
  refine ⟨lda (by first | omega | (rw [List.length_set]; omega)), ?_⟩
  refine ⟨ixa (by omega) (by omega), ?_⟩
  refine ⟨sta (by first | omega | (rw [List.length_set]; omega)), ?_⟩
  refine ⟨ixa (by omega) (by omega), ?_⟩
  refine ⟨sta (by first | omega | (rw [List.length_set]; omega)), ?_⟩
  exact ⟨(i4.2.2, true, _), T_done H fi40 (by omega), rfl, rfl⟩
  replace h4 := of_decide_eq_false h4
  refine ⟨ixa (by omega) (by omega), ?_⟩
  refine ⟨lda (by first | omega | (rw [List.length_set]; omega)), ?_⟩
  refine ⟨ixa (by omega) (by omega), ?_⟩
  refine ⟨lda (by first | omega | (rw [List.length_set]; omega)), ?_⟩
  refine ⟨ixa (by omega) (by omega), ?_⟩
  refine ⟨sta (by first | omega | (rw [List.length_set]; omega)), ?_⟩
  refine ⟨ixa (by omega) (by omega), ?_⟩
  refine ⟨sta (by first | omega | (rw [List.length_set]; omega)), ?_⟩
  intro z5 hz5
  rw [wr (by omega) (by omega)] at hz5
  subst hz5
  intro z6 hz6
  rw [wr (by omega) (by omega)] at hz6
  subst hz6
  refine ⟨?_, ?_⟩
  exact ⟨_, (T_swap H fi40 (by omega) (fi49 (by omega)) h3).1, trivial, Gc.same⟩
  intro i7 hi7
  replace hi7 : iT3 nkE l a b i7 := hi7
  have fi70 := hi7
  obtain ⟨fi71, fi72, fi73, fi74, fi75, fi76⟩ := id fi70
  have gi7 := fi71.len
  refine ⟨?_, ?_⟩
  exact ⟨_, ⟨hi7, Int.le_refl _, Int.le_refl _⟩, trivial, Gc.same⟩
  intro i8 hi8
  replace hi8 : iT4 nkE l a b _ i8 := hi8
  obtain ⟨fi80, fi87, fi88⟩ := id hi8
  obtain ⟨fi81, fi82, fi83, fi84, fi85, fi86⟩ := id fi80
  have gi8 := fi81.len
  refine ⟨fun h5 => ?_, fun h5 => ?_⟩
  replace h5 := of_decide_eq_true h5
  refine ⟨ixa (by omega) (by omega), ?_⟩
  refine ⟨lda (by first | omega | (rw [List.length_set]; omega)), ?_⟩
  refine ⟨ixa (by omega) (by omega), ?_⟩
  refine ⟨lda (by first | omega | (rw [List.length_set]; omega)), ?_⟩
  refine ⟨cmp_ok _ _ _, ?_⟩
  intro _ _
  refine ⟨fun h6 => ?_, fun h6 => ?_⟩
  replace h6 := ltT h6
  intro z9 hz9
  rw [wr (by omega) (by omega)] at hz9
  subst hz9
  exact ⟨_, ⟨T_right fi80 (by omega) h6, (by show _ ≤ i8.2.1 + 1; omega), fi88⟩, by show (b - (i8.2.1 + 1)).toNat < (b - i8.2.1).toNat; omega, Gc.same⟩
  replace h6 := ltF h6
  refine ⟨?_, ?_⟩
  exact ⟨_, ⟨fi80, Int.le_refl _, Int.le_refl _, fun h => h6⟩, trivial, Gc.same⟩
  intro i9 hi9
  replace hi9 : iT5 nkE l a b _ i9 := hi9
  obtain ⟨fi90, fi98, fi97, fi99⟩ := id hi9
  obtain ⟨fi91, fi92, fi93, fi94, fi95, fi96⟩ := id fi90
  have gi9 := fi91.len
  refine ⟨fun h7 => ?_, fun h7 => ?_⟩
  replace h7 := of_decide_eq_true h7
  refine ⟨ixa (by omega) (by omega), ?_⟩
  refine ⟨lda (by first | omega | (rw [List.length_set]; omega)), ?_⟩
  refine ⟨ixa (by omega) (by omega), ?_⟩
  refine ⟨lda (by first | omega | (rw [List.length_set]; omega)), ?_⟩
  refine ⟨cmp_ok _ _ _, ?_⟩
  intro _ _
  refine ⟨fun h8 => ?_, fun h8 => ?_⟩
  replace h8 := ltT h8
  refine ⟨fun h9 => ?_, fun h9 => ?_⟩
  replace h9 := of_decide_eq_true h9
  refine ⟨ixa (by omega) (by omega), ?_⟩
  refine ⟨lda (by first | omega | (rw [List.length_set]; omega)), ?_⟩
  refine ⟨ixa (by omega) (by omega), ?_⟩
  refine ⟨lda (by first | omega | (rw [List.length_set]; omega)), ?_⟩
  refine ⟨ixa (by omega) (by omega), ?_⟩
  refine ⟨sta (by first | omega | (rw [List.length_set]; omega)), ?_⟩
  refine ⟨ixa (by omega) (by omega), ?_⟩
  refine ⟨sta (by first | omega | (rw [List.length_set]; omega)), ?_⟩
  exact ⟨(i9.2.2, false, _), T_done H fi90 (by omega), rfl, rfl⟩
  replace h9 := of_decide_eq_false h9
  refine ⟨ixa (by omega) (by omega), ?_⟩
  refine ⟨lda (by first | omega | (rw [List.length_set]; omega)), ?_⟩
  refine ⟨ixa (by omega) (by omega), ?_⟩
  refine ⟨lda (by first | omega | (rw [List.length_set]; omega)), ?_⟩
  refine ⟨ixa (by omega) (by omega), ?_⟩
  refine ⟨sta (by first | omega | (rw [List.length_set]; omega)), ?_⟩
  refine ⟨ixa (by omega) (by omega), ?_⟩
  refine ⟨sta (by first | omega | (rw [List.length_set]; omega)), ?_⟩
  intro z10 hz10
  rw [wr (by omega) (by omega)] at hz10
  subst hz10
  intro z11 hz11
  rw [wr (by omega) (by omega)] at hz11
  subst hz11
  exact ⟨_, (T_swap H fi90 (by omega) (fi99 (by omega)) h8).1, by show (i9.2.2 - 1 + 1 - (i9.2.1 + 1)).toNat < (i7.2.2 + 1 - i7.2.1).toNat; have := (T_swap H fi90 (by omega) (fi99 (by omega)) h8).2; omega, Gc.same⟩
  replace h8 := ltF h8
  intro z10 hz10
  rw [wr (by omega) (by omega)] at hz10
  subst hz10
  exact ⟨_, ⟨T_left H fi90 (by omega) h8, fi98, (by show i9.2.2 - 1 ≤ _; omega), fun h => fi99 (by omega)⟩, by show (i9.2.2 - 1 + 1).toNat < (i9.2.2 + 1).toNat; omega, Gc.same⟩
  replace h7 := of_decide_eq_false h7
  refine ⟨fun h8 => ?_, fun h8 => ?_⟩
  replace h8 := of_decide_eq_true h8
  refine ⟨ixa (by omega) (by omega), ?_⟩
  refine ⟨lda (by first | omega | (rw [List.length_set]; omega)), ?_⟩
  refine ⟨ixa (by omega) (by omega), ?_⟩
  refine ⟨lda (by first | omega | (rw [List.length_set]; omega)), ?_⟩
  refine ⟨ixa (by omega) (by omega), ?_⟩
  refine ⟨sta (by first | omega | (rw [List.length_set]; omega)), ?_⟩
  refine ⟨ixa (by omega) (by omega), ?_⟩
  refine ⟨sta (by first | omega | (rw [List.length_set]; omega)), ?_⟩
  exact ⟨(i9.2.2, false, _), T_done H fi90 (by omega), rfl, rfl⟩
  replace h8 := of_decide_eq_false h8
  exfalso
  omega
  replace h5 := of_decide_eq_false h5
  refine ⟨?_, ?_⟩
  exact ⟨_, ⟨fi80, Int.le_refl _, Int.le_refl _, fun h => absurd h (by omega)⟩, trivial, Gc.same⟩
  intro i9 hi9
  replace hi9 : iT5 nkE l a b _ i9 := hi9
  obtain ⟨fi90, fi98, fi97, fi99⟩ := id hi9
  obtain ⟨fi91, fi92, fi93, fi94, fi95, fi96⟩ := id fi90
  have gi9 := fi91.len
  refine ⟨fun h6 => ?_, fun h6 => ?_⟩
  replace h6 := of_decide_eq_true h6
  refine ⟨ixa (by omega) (by omega), ?_⟩
  refine ⟨lda (by first | omega | (rw [List.length_set]; omega)), ?_⟩
  refine ⟨ixa (by omega) (by omega), ?_⟩
  refine ⟨lda (by first | omega | (rw [List.length_set]; omega)), ?_⟩
  refine ⟨cmp_ok _ _ _, ?_⟩
  intro _ _
  refine ⟨fun h7 => ?_, fun h7 => ?_⟩
  replace h7 := ltT h7
  refine ⟨fun h8 => ?_, fun h8 => ?_⟩
  replace h8 := of_decide_eq_true h8
  refine ⟨ixa (by omega) (by omega), ?_⟩
  refine ⟨lda (by first | omega | (rw [List.length_set]; omega)), ?_⟩
  refine ⟨ixa (by omega) (by omega), ?_⟩
  refine ⟨lda (by first | omega | (rw [List.length_set]; omega)), ?_⟩
  refine ⟨ixa (by omega) (by omega), ?_⟩
  refine ⟨sta (by first | omega | (rw [List.length_set]; omega)), ?_⟩
  refine ⟨ixa (by omega) (by omega), ?_⟩
  refine ⟨sta (by first | omega | (rw [List.length_set]; omega)), ?_⟩
  exact ⟨(i9.2.2, false, _), T_done H fi90 (by omega), rfl, rfl⟩
  replace h8 := of_decide_eq_false h8
  refine ⟨ixa (by omega) (by omega), ?_⟩
  refine ⟨lda (by first | omega | (rw [List.length_set]; omega)), ?_⟩
  refine ⟨ixa (by omega) (by omega), ?_⟩
  refine ⟨lda (by first | omega | (rw [List.length_set]; omega)), ?_⟩
  refine ⟨ixa (by omega) (by omega), ?_⟩
  refine ⟨sta (by first | omega | (rw [List.length_set]; omega)), ?_⟩
  refine ⟨ixa (by omega) (by omega), ?_⟩
  refine ⟨sta (by first | omega | (rw [List.length_set]; omega)), ?_⟩
  intro z10 hz10
  rw [wr (by omega) (by omega)] at hz10
  subst hz10
  intro z11 hz11
  rw [wr (by omega) (by omega)] at hz11
  subst hz11
  exact ⟨_, (T_swap H fi90 (by omega) (fi99 (by omega)) h7).1, by show (i9.2.2 - 1 + 1 - (i9.2.1 + 1)).toNat < (i7.2.2 + 1 - i7.2.1).toNat; have := (T_swap H fi90 (by omega) (fi99 (by omega)) h7).2; omega, Gc.same⟩
  replace h7 := ltF h7
  intro z10 hz10
  rw [wr (by omega) (by omega)] at hz10
  subst hz10
  exact ⟨_, ⟨T_left H fi90 (by omega) h7, fi98, (by show i9.2.2 - 1 ≤ _; omega), fun h => fi99 (by omega)⟩, by show (i9.2.2 - 1 + 1).toNat < (i9.2.2 + 1).toNat; omega, Gc.same⟩
  replace h6 := of_decide_eq_false h6
  refine ⟨fun h7 => ?_, fun h7 => ?_⟩
  replace h7 := of_decide_eq_true h7
  refine ⟨ixa (by omega) (by omega), ?_⟩
  refine ⟨lda (by first | omega | (rw [List.length_set]; omega)), ?_⟩
  refine ⟨ixa (by omega) (by omega), ?_⟩
  refine ⟨lda (by first | omega | (rw [List.length_set]; omega)), ?_⟩
  refine ⟨ixa (by omega) (by omega), ?_⟩
  refine ⟨sta (by first | omega | (rw [List.length_set]; omega)), ?_⟩
  refine ⟨ixa (by omega) (by omega), ?_⟩
  refine ⟨sta (by first | omega | (rw [List.length_set]; omega)), ?_⟩
  exact ⟨(i9.2.2, false, _), T_done H fi90 (by omega), rfl, rfl⟩
  replace h7 := of_decide_eq_false h7
  exfalso
  omega
  replace h3 := ltF h3
  intro z5 hz5
  rw [wr (by omega) (by omega)] at hz5
  subst hz5
  exact ⟨_, ⟨T_left H fi40 (by omega) h3, Int.le_refl _, Int.le_refl _, fun h => fi49 (by omega)⟩, by show (i4.2.2 - 1 + 1).toNat < (i4.2.2 + 1).toNat; omega, Gc.same⟩
  replace h2 := of_decide_eq_false h2
  refine ⟨fun h3 => ?_, fun h3 => ?_⟩
  replace h3 := of_decide_eq_true h3
  refine ⟨ixa (by omega) (by omega), ?_⟩
  refine ⟨lda (by first | omega | (rw [List.length_set]; omega)), ?_⟩
  refine ⟨ixa (by omega) (by omega), ?_⟩
  refine ⟨lda (by first | omega | (rw [List.length_set]; omega)), ?_⟩
  refine ⟨ixa (by omega) (by omega), ?_⟩
  refine ⟨sta (by first | omega | (rw [List.length_set]; omega)), ?_⟩
  refine ⟨ixa (by omega) (by omega), ?_⟩
  refine ⟨sta (by first | omega | (rw [List.length_set]; omega)), ?_⟩
  exact ⟨(i4.2.2, true, _), T_done H fi40 (by omega), rfl, rfl⟩
  replace h3 := of_decide_eq_false h3
  exfalso
  omega
  replace h0 := of_decide_eq_false h0
  refine ⟨?_, ?_⟩
  exact ⟨_, ⟨fi30, Int.le_refl _, Int.le_refl _, fun h => absurd h (by omega)⟩, trivial, Gc.same⟩
  intro i4 hi4
  replace hi4 : iT5 nkE l a b i4 i4 := hi4
  obtain ⟨fi40, _, _, fi49⟩ := id hi4
  obtain ⟨fi41, fi42, fi43, fi44, fi45, fi46⟩ := id fi40
  have gi4 := fi41.len
  refine ⟨fun h1 => ?_, fun h1 => ?_⟩
  replace h1 := of_decide_eq_true h1
  refine ⟨ixa (by omega) (by omega), ?_⟩
  refine ⟨lda (by first | omega | (rw [List.length_set]; omega)), ?_⟩
  refine ⟨ixa (by omega) (by omega), ?_⟩
  refine ⟨lda (by first | omega | (rw [List.length_set]; omega)), ?_⟩
  refine ⟨cmp_ok _ _ _, ?_⟩
  intro _ _
  refine ⟨fun h2 => ?_, fun h2 => ?_⟩
  replace h2 := ltT h2
  refine ⟨fun h3 => ?_, fun h3 => ?_⟩
  replace h3 := of_decide_eq_true h3
  refine ⟨ixa (by omega) (by omega), ?_⟩
  refine ⟨lda (by first | omega | (rw [List.length_set]; omega)), ?_⟩
  refine ⟨ixa (by omega) (by omega), ?_⟩
  refine ⟨lda (by first | omega | (rw [List.length_set]; omega)), ?_⟩
  refine ⟨ixa (by omega) (by omega), ?_⟩
  refine ⟨sta (by first | omega | (rw [List.length_set]; omega)), ?_⟩
  refine ⟨ixa (by omega) (by omega), ?_⟩
  refine ⟨sta (by first | omega | (rw [List.length_set]; omega)), ?_⟩
  exact ⟨(i4.2.2, true, _), T_done H fi40 (by omega), rfl, rfl⟩
  replace h3 := of_decide_eq_false h3
  refine ⟨ixa (by omega) (by omega), ?_⟩
  refine ⟨lda (by first | omega | (rw [List.length_set]; omega)), ?_⟩
  refine ⟨ixa (by omega) (by omega), ?_⟩
  refine ⟨lda (by first | omega | (rw [List.length_set]; omega)), ?_⟩
  refine ⟨ixa (by omega) (by omega), ?_⟩
  refine ⟨sta (by first | omega | (rw [List.length_set]; omega)), ?_⟩
  refine ⟨ixa (by omega) (by omega), ?_⟩
  refine ⟨sta (by first | omega | (rw [List.length_set]; omega)), ?_⟩
  intro z5 hz5
  rw [wr (by omega) (by omega)] at hz5
  subst hz5
  intro z6 hz6
  rw [wr (by omega) (by omega)] at hz6
  subst hz6
  refine ⟨?_, ?_⟩
  exact ⟨_, (T_swap H fi40 (by omega) (fi49 (by omega)) h2).1, trivial, Gc.same⟩
  intro i7 hi7
  replace hi7 : iT3 nkE l a b i7 := hi7
  have fi70 := hi7
  obtain ⟨fi71, fi72, fi73, fi74, fi75, fi76⟩ := id fi70
  have gi7 := fi71.len
  refine ⟨?_, ?_⟩
  exact ⟨_, ⟨hi7, Int.le_refl _, Int.le_refl _⟩, trivial, Gc.same⟩
  intro i8 hi8
  replace hi8 : iT4 nkE l a b _ i8 := hi8
  obtain ⟨fi80, fi87, fi88⟩ := id hi8
  obtain ⟨fi81, fi82, fi83, fi84, fi85, fi86⟩ := id fi80
  have gi8 := fi81.len
  refine ⟨fun h4 => ?_, fun h4 => ?_⟩
  replace h4 := of_decide_eq_true h4
  refine ⟨ixa (by omega) (by omega), ?_⟩
  refine ⟨lda (by first | omega | (rw [List.length_set]; omega)), ?_⟩
  refine ⟨ixa (by omega) (by omega), ?_⟩
  refine ⟨lda (by first | omega | (rw [List.length_set]; omega)), ?_⟩
  refine ⟨cmp_ok _ _ _, ?_⟩
  intro _ _
  refine ⟨fun h5 => ?_, fun h5 => ?_⟩
  replace h5 := ltT h5
  intro z9 hz9
  rw [wr (by omega) (by omega)] at hz9
  subst hz9
  exact ⟨_, ⟨T_right fi80 (by omega) h5, (by show _ ≤ i8.2.1 + 1; omega), fi88⟩, by show (b - (i8.2.1 + 1)).toNat < (b - i8.2.1).toNat; omega, Gc.same⟩
  replace h5 := ltF h5
  refine ⟨?_, ?_⟩
  exact ⟨_, ⟨fi80, Int.le_refl _, Int.le_refl _, fun h => h5⟩, trivial, Gc.same⟩
  intro i9 hi9
  replace hi9 : iT5 nkE l a b _ i9 := hi9
  obtain ⟨fi90, fi98, fi97, fi99⟩ := id hi9
  obtain ⟨fi91, fi92, fi93, fi94, fi95, fi96⟩ := id fi90
  have gi9 := fi91.len
  refine ⟨fun h6 => ?_, fun h6 => ?_⟩
  replace h6 := of_decide_eq_true h6
  refine ⟨ixa (by omega) (by omega), ?_⟩
  refine ⟨lda (by first | omega | (rw [List.length_set]; omega)), ?_⟩
  refine ⟨ixa (by omega) (by omega), ?_⟩
  refine ⟨lda (by first | omega | (rw [List.length_set]; omega)), ?_⟩
  refine ⟨cmp_ok _ _ _, ?_⟩
  intro _ _
  refine ⟨fun h7 => ?_, fun h7 => ?_⟩
  replace h7 := ltT h7
  refine ⟨fun h8 => ?_, fun h8 => ?_⟩
  replace h8 := of_decide_eq_true h8
  refine ⟨ixa (by omega) (by omega), ?_⟩
  refine ⟨lda (by first | omega | (rw [List.length_set]; omega)), ?_⟩
  refine ⟨ixa (by omega) (by omega), ?_⟩
  refine ⟨lda (by first | omega | (rw [List.length_set]; omega)), ?_⟩
  refine ⟨ixa (by omega) (by omega), ?_⟩
  refine ⟨sta (by first | omega | (rw [List.length_set]; omega)), ?_⟩
  refine ⟨ixa (by omega) (by omega), ?_⟩
  refine ⟨sta (by first | omega | (rw [List.length_set]; omega)), ?_⟩
  exact ⟨(i9.2.2, false, _), T_done H fi90 (by omega), rfl, rfl⟩
  replace h8 := of_decide_eq_false h8
  refine ⟨ixa (by omega) (by omega), ?_⟩
  refine ⟨lda (by first | omega | (rw [List.length_set]; omega)), ?_⟩
  refine ⟨ixa (by omega) (by omega), ?_⟩
  refine ⟨lda (by first | omega | (rw [List.length_set]; omega)), ?_⟩
  refine ⟨ixa (by omega) (by omega), ?_⟩
  refine ⟨sta (by first | omega | (rw [List.length_set]; omega)), ?_⟩
  refine ⟨ixa (by omega) (by omega), ?_⟩
  refine ⟨sta (by first | omega | (rw [List.length_set]; omega)), ?_⟩
  intro z10 hz10
  rw [wr (by omega) (by omega)] at hz10
  subst hz10
  intro z11 hz11
  rw [wr (by omega) (by omega)] at hz11
  subst hz11
  exact ⟨_, (T_swap H fi90 (by omega) (fi99 (by omega)) h7).1, by show (i9.2.2 - 1 + 1 - (i9.2.1 + 1)).toNat < (i7.2.2 + 1 - i7.2.1).toNat; have := (T_swap H fi90 (by omega) (fi99 (by omega)) h7).2; omega, Gc.same⟩
  replace h7 := ltF h7
  intro z10 hz10
  rw [wr (by omega) (by omega)] at hz10
  subst hz10
  exact ⟨_, ⟨T_left H fi90 (by omega) h7, fi98, (by show i9.2.2 - 1 ≤ _; omega), fun h => fi99 (by omega)⟩, by show (i9.2.2 - 1 + 1).toNat < (i9.2.2 + 1).toNat; omega, Gc.same⟩
  replace h6 := of_decide_eq_false h6
  refine ⟨fun h7 => ?_, fun h7 => ?_⟩
  replace h7 := of_decide_eq_true h7
  refine ⟨ixa (by omega) (by omega), ?_⟩
  refine ⟨lda (by first | omega | (rw [List.length_set]; omega)), ?_⟩
  refine ⟨ixa (by omega) (by omega), ?_⟩
  refine ⟨lda (by first | omega | (rw [List.length_set]; omega)), ?_⟩
  refine ⟨ixa (by omega) (by omega), ?_⟩
  refine ⟨sta (by first | omega | (rw [List.length_set]; omega)), ?_⟩
  refine ⟨ixa (by omega) (by omega), ?_⟩
  refine ⟨sta (by first | omega | (rw [List.length_set]; omega)), ?_⟩
  exact ⟨(i9.2.2, false, _), T_done H fi90 (by omega), rfl, rfl⟩
  replace h7 := of_decide_eq_false h7
  exfalso
  omega
  replace h4 := of_decide_eq_false h4
  refine ⟨?_, ?_⟩
  exact ⟨_, ⟨fi80, Int.le_refl _, Int.le_refl _, fun h => absurd h (by omega)⟩, trivial, Gc.same⟩
  intro i9 hi9
  replace hi9 : iT5 nkE l a b _ i9 := hi9
  obtain ⟨fi90, fi98, fi97, fi99⟩ := id hi9
  obtain ⟨fi91, fi92, fi93, fi94, fi95, fi96⟩ := id fi90
  have gi9 := fi91.len
  refine ⟨fun h5 => ?_, fun h5 => ?_⟩
  replace h5 := of_decide_eq_true h5
  refine ⟨ixa (by omega) (by omega), ?_⟩
  refine ⟨lda (by first | omega | (rw [List.length_set]; omega)), ?_⟩
  refine ⟨ixa (by omega) (by omega), ?_⟩
  refine ⟨lda (by first | omega | (rw [List.length_set]; omega)), ?_⟩
  refine ⟨cmp_ok _ _ _, ?_⟩
  intro _ _
  refine ⟨fun h6 => ?_, fun h6 => ?_⟩
  replace h6 := ltT h6
  refine ⟨fun h7 => ?_, fun h7 => ?_⟩
  replace h7 := of_decide_eq_true h7
  refine ⟨ixa (by omega) (by omega), ?_⟩
  refine ⟨lda (by first | omega | (rw [List.length_set]; omega)), ?_⟩
  refine ⟨ixa (by omega) (by omega), ?_⟩
  refine ⟨lda (by first | omega | (rw [List.length_set]; omega)), ?_⟩
  refine ⟨ixa (by omega) (by omega), ?_⟩
  refine ⟨sta (by first | omega | (rw [List.length_set]; omega)), ?_⟩
  refine ⟨ixa (by omega) (by omega), ?_⟩
  refine ⟨sta (by first | omega | (rw [List.length_set]; omega)), ?_⟩
  exact ⟨(i9.2.2, false, _), T_done H fi90 (by omega), rfl, rfl⟩
  replace h7 := of_decide_eq_false h7
  refine ⟨ixa (by omega) (by omega), ?_⟩
  refine ⟨lda (by first | omega | (rw [List.length_set]; omega)), ?_⟩
  refine ⟨ixa (by omega) (by omega), ?_⟩
  refine ⟨lda (by first | omega | (rw [List.length_set]; omega)), ?_⟩
  refine ⟨ixa (by omega) (by omega), ?_⟩
  refine ⟨sta (by first | omega | (rw [List.length_set]; omega)), ?_⟩
  refine ⟨ixa (by omega) (by omega), ?_⟩
  refine ⟨sta (by first | omega | (rw [List.length_set]; omega)), ?_⟩
  intro z10 hz10
  rw [wr (by omega) (by omega)] at hz10
  subst hz10
  intro z11 hz11
  rw [wr (by omega) (by omega)] at hz11
  subst hz11
  exact ⟨_, (T_swap H fi90 (by omega) (fi99 (by omega)) h6).1, by show (i9.2.2 - 1 + 1 - (i9.2.1 + 1)).toNat < (i7.2.2 + 1 - i7.2.1).toNat; have := (T_swap H fi90 (by omega) (fi99 (by omega)) h6).2; omega, Gc.same⟩
  replace h6 := ltF h6
  intro z10 hz10
  rw [wr (by omega) (by omega)] at hz10
  subst hz10
  exact ⟨_, ⟨T_left H fi90 (by omega) h6, fi98, (by show i9.2.2 - 1 ≤ _; omega), fun h => fi99 (by omega)⟩, by show (i9.2.2 - 1 + 1).toNat < (i9.2.2 + 1).toNat; omega, Gc.same⟩
  replace h5 := of_decide_eq_false h5
  refine ⟨fun h6 => ?_, fun h6 => ?_⟩
  replace h6 := of_decide_eq_true h6
  refine ⟨ixa (by omega) (by omega), ?_⟩
  refine ⟨lda (by first | omega | (rw [List.length_set]; omega)), ?_⟩
  refine ⟨ixa (by omega) (by omega), ?_⟩
  refine ⟨lda (by first | omega | (rw [List.length_set]; omega)), ?_⟩
  refine ⟨ixa (by omega) (by omega), ?_⟩
  refine ⟨sta (by first | omega | (rw [List.length_set]; omega)), ?_⟩
  refine ⟨ixa (by omega) (by omega), ?_⟩
  refine ⟨sta (by first | omega | (rw [List.length_set]; omega)), ?_⟩
  exact ⟨(i9.2.2, false, _), T_done H fi90 (by omega), rfl, rfl⟩
  replace h6 := of_decide_eq_false h6
  exfalso
  omega
  replace h2 := ltF h2
  intro z5 hz5
  rw [wr (by omega) (by omega)] at hz5
  subst hz5
  exact ⟨_, ⟨T_left H fi40 (by omega) h2, Int.le_refl _, Int.le_refl _, fun h => fi49 (by omega)⟩, by show (i4.2.2 - 1 + 1).toNat < (i4.2.2 + 1).toNat; omega, Gc.same⟩
  replace h1 := of_decide_eq_false h1
  refine ⟨fun h2 => ?_, fun h2 => ?_⟩
  replace h2 := of_decide_eq_true h2
  refine ⟨ixa (by omega) (by omega), ?_⟩
  refine ⟨lda (by first | omega | (rw [List.length_set]; omega)), ?_⟩
  refine ⟨ixa (by omega) (by omega), ?_⟩
  refine ⟨lda (by first | omega | (rw [List.length_set]; omega)), ?_⟩
  refine ⟨ixa (by omega) (by omega), ?_⟩
  refine ⟨sta (by first | omega | (rw [List.length_set]; omega)), ?_⟩
  refine ⟨ixa (by omega) (by omega), ?_⟩
  refine ⟨sta (by first | omega | (rw [List.length_set]; omega)), ?_⟩
  exact ⟨(i4.2.2, true, _), T_done H fi40 (by omega), rfl, rfl⟩
  replace h2 := of_decide_eq_false h2
  exfalso
  omega

end Go.Proofs.Ytcdmnmpiipmfmaa
