/-
  slices.SortFunc on entries: the row comes to rise by its addresses. Conditions: fewer than 2^31 entries, no two of one address.
-/
import Derived.Test.YtcdmnmpiipmfmaaSrt3
namespace Go.Proofs.Ytcdmnmpiipmfmaa
open Go.Fm
abbrev ksrt40t0 (l : List En) (n : Nat) (a : Int) (b : Int) (lim : Int) (i10 : Int × Bool × List En) (i1 : PQ En) (z2 : Int) : Prop := ((i10.snd.fst) = true →
∀ z11 : Int, z11 = (IntKind.i64.wrap (i10.fst - i1.a)) →
∀ z12 : Int, z12 = (IntKind.i64.wrap (i1.b - i10.fst)) →
∀ z13 : Int, z13 = (IntKind.i64.wrap (z2.tdiv 8)) →
(((decide (z11 < z12)) = true →
(((decide (z11 ≥ z13)) = true →
((kPdq i10.snd.snd n i1.a i10.fst i1.lim).asks Try.prog [] 42 ∧
∀ i14 : List En, (pSort nkE i10.snd.snd i1.a i10.fst i14) →
∀ z15 : Int, z15 = (IntKind.i64.wrap (i10.fst + 1)) →
(someN [] 1 (fun a' => (mQ l n a b lim) a' < (mQ l n a b lim) i1) ⟨[(11, (.bool true)), (10, (.bool true)), (0, (sl n)), (1, (iv z15)), (2, (iv i1.b)), (3, (iv i1.lim)), (4, fC)], [], (hp i14), .norm⟩ [(qQ l n a b lim)]))) ∧
((decide (z11 ≥ z13)) = false →
((kPdq i10.snd.snd n i1.a i10.fst i1.lim).asks Try.prog [] 42 ∧
∀ i14 : List En, (pSort nkE i10.snd.snd i1.a i10.fst i14) →
∀ z15 : Int, z15 = (IntKind.i64.wrap (i10.fst + 1)) →
(someN [] 1 (fun a' => (mQ l n a b lim) a' < (mQ l n a b lim) i1) ⟨[(11, (.bool true)), (10, (.bool false)), (0, (sl n)), (1, (iv z15)), (2, (iv i1.b)), (3, (iv i1.lim)), (4, fC)], [], (hp i14), .norm⟩ [(qQ l n a b lim)]))))) ∧
((decide (z11 < z12)) = false →
(((decide (z12 ≥ z13)) = true →
∀ z14 : Int, z14 = (IntKind.i64.wrap (i10.fst + 1)) →
((kPdq i10.snd.snd n z14 i1.b i1.lim).asks Try.prog [] 42 ∧
∀ i15 : List En, (pSort nkE i10.snd.snd z14 i1.b i15) →
(someN [] 1 (fun a' => (mQ l n a b lim) a' < (mQ l n a b lim) i1) ⟨[(11, (.bool true)), (10, (.bool true)), (0, (sl n)), (1, (iv i1.a)), (2, (iv i10.fst)), (3, (iv i1.lim)), (4, fC)], [], (hp i15), .norm⟩ [(qQ l n a b lim)]))) ∧
((decide (z12 ≥ z13)) = false →
∀ z14 : Int, z14 = (IntKind.i64.wrap (i10.fst + 1)) →
((kPdq i10.snd.snd n z14 i1.b i1.lim).asks Try.prog [] 42 ∧
∀ i15 : List En, (pSort nkE i10.snd.snd z14 i1.b i15) →
(someN [] 1 (fun a' => (mQ l n a b lim) a' < (mQ l n a b lim) i1) ⟨[(11, (.bool true)), (10, (.bool false)), (0, (sl n)), (1, (iv i1.a)), (2, (iv i10.fst)), (3, (iv i1.lim)), (4, fC)], [], (hp i15), .norm⟩ [(qQ l n a b lim)]))))))) ∧
((i10.snd.fst) = false →
∀ z11 : Int, z11 = (IntKind.i64.wrap (i10.fst - i1.a)) →
∀ z12 : Int, z12 = (IntKind.i64.wrap (i1.b - i10.fst)) →
∀ z13 : Int, z13 = (IntKind.i64.wrap (z2.tdiv 8)) →
(((decide (z11 < z12)) = true →
(((decide (z11 ≥ z13)) = true →
((kPdq i10.snd.snd n i1.a i10.fst i1.lim).asks Try.prog [] 42 ∧
∀ i14 : List En, (pSort nkE i10.snd.snd i1.a i10.fst i14) →
∀ z15 : Int, z15 = (IntKind.i64.wrap (i10.fst + 1)) →
(someN [] 1 (fun a' => (mQ l n a b lim) a' < (mQ l n a b lim) i1) ⟨[(11, (.bool false)), (10, (.bool true)), (0, (sl n)), (1, (iv z15)), (2, (iv i1.b)), (3, (iv i1.lim)), (4, fC)], [], (hp i14), .norm⟩ [(qQ l n a b lim)]))) ∧
((decide (z11 ≥ z13)) = false →
((kPdq i10.snd.snd n i1.a i10.fst i1.lim).asks Try.prog [] 42 ∧
∀ i14 : List En, (pSort nkE i10.snd.snd i1.a i10.fst i14) →
∀ z15 : Int, z15 = (IntKind.i64.wrap (i10.fst + 1)) →
(someN [] 1 (fun a' => (mQ l n a b lim) a' < (mQ l n a b lim) i1) ⟨[(11, (.bool false)), (10, (.bool false)), (0, (sl n)), (1, (iv z15)), (2, (iv i1.b)), (3, (iv i1.lim)), (4, fC)], [], (hp i14), .norm⟩ [(qQ l n a b lim)]))))) ∧
((decide (z11 < z12)) = false →
(((decide (z12 ≥ z13)) = true →
∀ z14 : Int, z14 = (IntKind.i64.wrap (i10.fst + 1)) →
((kPdq i10.snd.snd n z14 i1.b i1.lim).asks Try.prog [] 42 ∧
∀ i15 : List En, (pSort nkE i10.snd.snd z14 i1.b i15) →
(someN [] 1 (fun a' => (mQ l n a b lim) a' < (mQ l n a b lim) i1) ⟨[(11, (.bool false)), (10, (.bool true)), (0, (sl n)), (1, (iv i1.a)), (2, (iv i10.fst)), (3, (iv i1.lim)), (4, fC)], [], (hp i15), .norm⟩ [(qQ l n a b lim)]))) ∧
((decide (z12 ≥ z13)) = false →
∀ z14 : Int, z14 = (IntKind.i64.wrap (i10.fst + 1)) →
((kPdq i10.snd.snd n z14 i1.b i1.lim).asks Try.prog [] 42 ∧
∀ i15 : List En, (pSort nkE i10.snd.snd z14 i1.b i15) →
(someN [] 1 (fun a' => (mQ l n a b lim) a' < (mQ l n a b lim) i1) ⟨[(11, (.bool false)), (10, (.bool false)), (0, (sl n)), (1, (iv i1.a)), (2, (iv i10.fst)), (3, (iv i1.lim)), (4, fC)], [], (hp i15), .norm⟩ [(qQ l n a b lim)])))))))
abbrev ksrt40t1 (l : List En) (n : Nat) (a : Int) (b : Int) (lim : Int) (i1006 : List En) (i1 : PQ En) (z2 : Int) (z4 : Int) : Prop := ∀ i1011 : Int × Bool × List En, (pPrt nkE i1006 i1.a i1.b i1011) →
(((i1011.snd.fst) = true →
∀ z12 : Int, z12 = (IntKind.i64.wrap (i1011.fst - i1.a)) →
∀ z13 : Int, z13 = (IntKind.i64.wrap (i1.b - i1011.fst)) →
∀ z14 : Int, z14 = (IntKind.i64.wrap (z2.tdiv 8)) →
(((decide (z12 < z13)) = true →
(((decide (z12 ≥ z14)) = true →
((kPdq i1011.snd.snd n i1.a i1011.fst z4).asks Try.prog [] 42 ∧
∀ i15 : List En, (pSort nkE i1011.snd.snd i1.a i1011.fst i15) →
∀ z16 : Int, z16 = (IntKind.i64.wrap (i1011.fst + 1)) →
(someN [] 1 (fun a' => (mQ l n a b lim) a' < (mQ l n a b lim) i1) ⟨[(11, (.bool true)), (10, (.bool true)), (0, (sl n)), (1, (iv z16)), (2, (iv i1.b)), (3, (iv z4)), (4, fC)], [], (hp i15), .norm⟩ [(qQ l n a b lim)]))) ∧
((decide (z12 ≥ z14)) = false →
((kPdq i1011.snd.snd n i1.a i1011.fst z4).asks Try.prog [] 42 ∧
∀ i15 : List En, (pSort nkE i1011.snd.snd i1.a i1011.fst i15) →
∀ z16 : Int, z16 = (IntKind.i64.wrap (i1011.fst + 1)) →
(someN [] 1 (fun a' => (mQ l n a b lim) a' < (mQ l n a b lim) i1) ⟨[(11, (.bool true)), (10, (.bool false)), (0, (sl n)), (1, (iv z16)), (2, (iv i1.b)), (3, (iv z4)), (4, fC)], [], (hp i15), .norm⟩ [(qQ l n a b lim)]))))) ∧
((decide (z12 < z13)) = false →
(((decide (z13 ≥ z14)) = true →
∀ z15 : Int, z15 = (IntKind.i64.wrap (i1011.fst + 1)) →
((kPdq i1011.snd.snd n z15 i1.b z4).asks Try.prog [] 42 ∧
∀ i16 : List En, (pSort nkE i1011.snd.snd z15 i1.b i16) →
(someN [] 1 (fun a' => (mQ l n a b lim) a' < (mQ l n a b lim) i1) ⟨[(11, (.bool true)), (10, (.bool true)), (0, (sl n)), (1, (iv i1.a)), (2, (iv i1011.fst)), (3, (iv z4)), (4, fC)], [], (hp i16), .norm⟩ [(qQ l n a b lim)]))) ∧
((decide (z13 ≥ z14)) = false →
∀ z15 : Int, z15 = (IntKind.i64.wrap (i1011.fst + 1)) →
((kPdq i1011.snd.snd n z15 i1.b z4).asks Try.prog [] 42 ∧
∀ i16 : List En, (pSort nkE i1011.snd.snd z15 i1.b i16) →
(someN [] 1 (fun a' => (mQ l n a b lim) a' < (mQ l n a b lim) i1) ⟨[(11, (.bool true)), (10, (.bool false)), (0, (sl n)), (1, (iv i1.a)), (2, (iv i1011.fst)), (3, (iv z4)), (4, fC)], [], (hp i16), .norm⟩ [(qQ l n a b lim)]))))))) ∧
((i1011.snd.fst) = false →
∀ z12 : Int, z12 = (IntKind.i64.wrap (i1011.fst - i1.a)) →
∀ z13 : Int, z13 = (IntKind.i64.wrap (i1.b - i1011.fst)) →
∀ z14 : Int, z14 = (IntKind.i64.wrap (z2.tdiv 8)) →
(((decide (z12 < z13)) = true →
(((decide (z12 ≥ z14)) = true →
((kPdq i1011.snd.snd n i1.a i1011.fst z4).asks Try.prog [] 42 ∧
∀ i15 : List En, (pSort nkE i1011.snd.snd i1.a i1011.fst i15) →
∀ z16 : Int, z16 = (IntKind.i64.wrap (i1011.fst + 1)) →
(someN [] 1 (fun a' => (mQ l n a b lim) a' < (mQ l n a b lim) i1) ⟨[(11, (.bool false)), (10, (.bool true)), (0, (sl n)), (1, (iv z16)), (2, (iv i1.b)), (3, (iv z4)), (4, fC)], [], (hp i15), .norm⟩ [(qQ l n a b lim)]))) ∧
((decide (z12 ≥ z14)) = false →
((kPdq i1011.snd.snd n i1.a i1011.fst z4).asks Try.prog [] 42 ∧
∀ i15 : List En, (pSort nkE i1011.snd.snd i1.a i1011.fst i15) →
∀ z16 : Int, z16 = (IntKind.i64.wrap (i1011.fst + 1)) →
(someN [] 1 (fun a' => (mQ l n a b lim) a' < (mQ l n a b lim) i1) ⟨[(11, (.bool false)), (10, (.bool false)), (0, (sl n)), (1, (iv z16)), (2, (iv i1.b)), (3, (iv z4)), (4, fC)], [], (hp i15), .norm⟩ [(qQ l n a b lim)]))))) ∧
((decide (z12 < z13)) = false →
(((decide (z13 ≥ z14)) = true →
∀ z15 : Int, z15 = (IntKind.i64.wrap (i1011.fst + 1)) →
((kPdq i1011.snd.snd n z15 i1.b z4).asks Try.prog [] 42 ∧
∀ i16 : List En, (pSort nkE i1011.snd.snd z15 i1.b i16) →
(someN [] 1 (fun a' => (mQ l n a b lim) a' < (mQ l n a b lim) i1) ⟨[(11, (.bool false)), (10, (.bool true)), (0, (sl n)), (1, (iv i1.a)), (2, (iv i1011.fst)), (3, (iv z4)), (4, fC)], [], (hp i16), .norm⟩ [(qQ l n a b lim)]))) ∧
((decide (z13 ≥ z14)) = false →
∀ z15 : Int, z15 = (IntKind.i64.wrap (i1011.fst + 1)) →
((kPdq i1011.snd.snd n z15 i1.b z4).asks Try.prog [] 42 ∧
∀ i16 : List En, (pSort nkE i1011.snd.snd z15 i1.b i16) →
(someN [] 1 (fun a' => (mQ l n a b lim) a' < (mQ l n a b lim) i1) ⟨[(11, (.bool false)), (10, (.bool false)), (0, (sl n)), (1, (iv i1.a)), (2, (iv i1011.fst)), (3, (iv z4)), (4, fC)], [], (hp i16), .norm⟩ [(qQ l n a b lim)]))))))))
abbrev ksrt40t2 (l : List En) (n : Nat) (a : Int) (b : Int) (lim : Int) (i1 : PQ En) (i1003 : Int × Int) (z2 : Int) : Prop := ((decide (i1.a > 0)) = true →
∀ z4 : Int, z4 = (IntKind.i64.wrap (i1.a - 1)) →
(IX n z4 ∧
(LD i1.l z4 ∧
(IX n i1003.fst ∧
(LD i1.l i1003.fst ∧
((kCmp (gx i1.l z4) (gx i1.l i1003.fst) (hp i1.l)).asks Try.prog [] 39 ∧
∀ _ : Unit, (True) →
(((decide (cmpD (gx i1.l z4) (gx i1.l i1003.fst) < 0)) = true →
((kPrt i1.l n i1.a i1.b i1003.fst).asks Try.prog [] 52 ∧
∀ i5 : Int × Bool × List En, (pPrt nkE i1.l i1.a i1.b i5) →
((ksrt40t0 l n a b lim i5 i1 z2)))) ∧
((decide (cmpD (gx i1.l z4) (gx i1.l i1003.fst) < 0)) = false →
 False)))))))) ∧
((decide (i1.a > 0)) = false →
((kPrt i1.l n i1.a i1.b i1003.fst).asks Try.prog [] 52 ∧
∀ i2004 : Int × Bool × List En, (pPrt nkE i1.l i1.a i1.b i2004) →
((ksrt40t0 l n a b lim i2004 i1 z2))))
abbrev ksrt40s4 (n : Nat) (i10 : Int × Bool × List En) (i1 : PQ En) : Scr := .skip 6 (.call (List En) (kPdq i10.snd.snd n i1.a i10.fst i1.lim).post fun _i14 => .skip 1 (.all (fun _z15 => .go)))
abbrev ksrt40s5 (n : Nat) (i1011 : Int × Bool × List En) (i1 : PQ En) (z4 : Int) : Scr := .skip 6 (.call (List En) (kPdq i1011.snd.snd n i1.a i1011.fst z4).post fun _i15 => .skip 1 (.all (fun _z16 => .go)))
abbrev ksrt40s6 (n : Nat) (i10 : Int × Bool × List En) (i1 : PQ En) : Scr := .skip 3 (.all (fun z14 => .skip 3 (.call (List En) (kPdq i10.snd.snd n z14 i1.b i1.lim).post fun _i15 => .go)))
abbrev ksrt40s0 (n : Nat) (i10 : Int × Bool × List En) (i1 : PQ En) : Scr := .skip 3 (.all (fun _z11 => .skip 2 (.all (fun _z12 => .skip 3 (.all (fun _z13 => .skip 3 (.ask (.skip 3 (.ask (ksrt40s4 n i10 i1) (ksrt40s4 n i10 i1))) (.skip 3 (.ask (ksrt40s6 n i10 i1) (ksrt40s6 n i10 i1))))))))))
abbrev ksrt40s2 (n : Nat) (i1 : PQ En) (i1003 : Int × Int) : Scr := .skip 8 (.all (fun z4 => .skip 1 (.val (pt z4) (.skip 1 (.val (rv (gx i1.l z4)) (.skip 5 (.val (pt i1003.fst) (.skip 1 (.val (rv (gx i1.l i1003.fst)) (.skip 1 (.call (Unit) (kCmp (gx i1.l z4) (gx i1.l i1003.fst) (hp i1.l)).post fun _ => .skip 1 (.ask (.skip 9 (.call (Int × Bool × List En) (kPrt i1.l n i1.a i1.b i1003.fst).post fun i5 => .skip 5 (.ask (ksrt40s0 n i5 i1) (ksrt40s0 n i5 i1)))) (.skip 0 .go)))))))))))))
abbrev ksrt40s3 (n : Nat) (i1 : PQ En) (i1003 : Int × Int) : Scr := .skip 21 (.call (Int × Bool × List En) (kPrt i1.l n i1.a i1.b i1003.fst).post fun i2004 => .skip 5 (.ask (ksrt40s0 n i2004 i1) (ksrt40s0 n i2004 i1)))
abbrev ksrt40s7 (n : Nat) (i1011 : Int × Bool × List En) (i1 : PQ En) (z4 : Int) : Scr := .skip 3 (.all (fun z15 => .skip 3 (.call (List En) (kPdq i1011.snd.snd n z15 i1.b z4).post fun _i16 => .go)))
abbrev ksrt40s1 (n : Nat) (i1011 : Int × Bool × List En) (i1 : PQ En) (z4 : Int) : Scr := .skip 3 (.all (fun _z12 => .skip 2 (.all (fun _z13 => .skip 3 (.all (fun _z14 => .skip 3 (.ask (.skip 3 (.ask (ksrt40s5 n i1011 i1 z4) (ksrt40s5 n i1011 i1 z4))) (.skip 3 (.ask (ksrt40s7 n i1011 i1 z4) (ksrt40s7 n i1011 i1 z4))))))))))
theorem run_pdq (l : List En) (n : Nat) (a b lim : Int) (Q : Res → AHeap → Prop) : (((someN [] 1 (fun _ => True) ⟨[(11, (.bool true)), (10, (.bool true)), (0, (sl n)), (1, (iv a)), (2, (iv b)), (3, (iv lim)), (4, fC)], [], (hp l), .norm⟩ [(qQ l n a b lim)]) ∧
(∀ i1, (qQ l n a b lim i1).fst →
∀ z2 : Int, z2 = (IntKind.i64.wrap (i1.b - i1.a)) →
(((decide (z2 ≤ 12)) = true →
((kIns i1.l n i1.a i1.b).asks Try.prog [] 45 ∧
∀ i3 : List En, (pSort nkE i1.l i1.a i1.b i3) →
 Q (.ret (.tuple ⟨[]⟩)) (hp i3))) ∧
((decide (z2 ≤ 12)) = false →
(((i1.lim == 0) = true →
((kIns i1.l n i1.a i1.b).asks Try.prog [] 46 ∧
∀ i3 : List En, (pSort nkE i1.l i1.a i1.b i3) →
 Q (.ret (.tuple ⟨[]⟩)) (hp i3))) ∧
((i1.lim == 0) = false →
(((i1.wb) = true →
((kCho i1.l n i1.a i1.b).asks Try.prog [] 48 ∧
∀ i1003 : Int × Int, (pCho i1.a i1.b i1003) →
(((i1003.snd == 2) = true →
((kSw i1.l n i1.a i1.b).asks Try.prog [] 49 ∧
∀ i4 : List En, (Sw i1.a i1.b i1.l i4) →
∀ z5 : Int, z5 = (IntKind.i64.wrap (i1.b - 1)) →
∀ z6 : Int, z6 = (IntKind.i64.wrap (i1003.fst - i1.a)) →
∀ z7 : Int, z7 = (IntKind.i64.wrap (z5 - z6)) →
(((i1.wb) = true →
(((i1.wp) = true →
((kPar i4 n i1.a i1.b).asks Try.prog [] 50 ∧
∀ i8 : Bool × List En, (pPar nkE i4 i1.a i1.b i8) →
(((i8.fst) = true →
 Q (.ret (.tuple ⟨[]⟩)) (hp i8.snd)) ∧
((i8.fst) = false →
(((decide (i1.a > 0)) = true →
∀ z9 : Int, z9 = (IntKind.i64.wrap (i1.a - 1)) →
(IX n z9 ∧
(LD i8.snd z9 ∧
(IX n z7 ∧
(LD i8.snd z7 ∧
((kCmp (gx i8.snd z9) (gx i8.snd z7) (hp i8.snd)).asks Try.prog [] 39 ∧
∀ _ : Unit, (True) →
(((decide (cmpD (gx i8.snd z9) (gx i8.snd z7) < 0)) = true →
((kPrt i8.snd n i1.a i1.b z7).asks Try.prog [] 52 ∧
∀ i10 : Int × Bool × List En, (pPrt nkE i8.snd i1.a i1.b i10) →
((ksrt40t0 l n a b lim i10 i1 z2)))) ∧
((decide (cmpD (gx i8.snd z9) (gx i8.snd z7) < 0)) = false →
 False)))))))) ∧
((decide (i1.a > 0)) = false →
((kPrt i8.snd n i1.a i1.b z7).asks Try.prog [] 52 ∧
∀ i9 : Int × Bool × List En, (pPrt nkE i8.snd i1.a i1.b i9) →
((ksrt40t0 l n a b lim i9 i1 z2))))))))) ∧
((i1.wp) = false →
(((decide (i1.a > 0)) = true →
∀ z8 : Int, z8 = (IntKind.i64.wrap (i1.a - 1)) →
(IX n z8 ∧
(LD i4 z8 ∧
(IX n z7 ∧
(LD i4 z7 ∧
((kCmp (gx i4 z8) (gx i4 z7) (hp i4)).asks Try.prog [] 39 ∧
∀ _ : Unit, (True) →
(((decide (cmpD (gx i4 z8) (gx i4 z7) < 0)) = true →
((kPrt i4 n i1.a i1.b z7).asks Try.prog [] 52 ∧
∀ i9 : Int × Bool × List En, (pPrt nkE i4 i1.a i1.b i9) →
((ksrt40t0 l n a b lim i9 i1 z2)))) ∧
((decide (cmpD (gx i4 z8) (gx i4 z7) < 0)) = false →
 False)))))))) ∧
((decide (i1.a > 0)) = false →
((kPrt i4 n i1.a i1.b z7).asks Try.prog [] 52 ∧
∀ i1008 : Int × Bool × List En, (pPrt nkE i4 i1.a i1.b i1008) →
((ksrt40t0 l n a b lim i1008 i1 z2)))))))) ∧
((i1.wb) = false →
 False)))) ∧
((i1003.snd == 2) = false →
(((i1.wb) = true →
(((i1.wp) = true →
(((i1003.snd == 1) = true →
((kPar i1.l n i1.a i1.b).asks Try.prog [] 50 ∧
∀ i1004 : Bool × List En, (pPar nkE i1.l i1.a i1.b i1004) →
(((i1004.fst) = true →
 Q (.ret (.tuple ⟨[]⟩)) (hp i1004.snd)) ∧
((i1004.fst) = false →
(((decide (i1.a > 0)) = true →
∀ z5 : Int, z5 = (IntKind.i64.wrap (i1.a - 1)) →
(IX n z5 ∧
(LD i1004.snd z5 ∧
(IX n i1003.fst ∧
(LD i1004.snd i1003.fst ∧
((kCmp (gx i1004.snd z5) (gx i1004.snd i1003.fst) (hp i1004.snd)).asks Try.prog [] 39 ∧
∀ _ : Unit, (True) →
(((decide (cmpD (gx i1004.snd z5) (gx i1004.snd i1003.fst) < 0)) = true →
((kPrt i1004.snd n i1.a i1.b i1003.fst).asks Try.prog [] 52 ∧
∀ i6 : Int × Bool × List En, (pPrt nkE i1004.snd i1.a i1.b i6) →
((ksrt40t0 l n a b lim i6 i1 z2)))) ∧
((decide (cmpD (gx i1004.snd z5) (gx i1004.snd i1003.fst) < 0)) = false →
 False)))))))) ∧
((decide (i1.a > 0)) = false →
((kPrt i1004.snd n i1.a i1.b i1003.fst).asks Try.prog [] 52 ∧
∀ i5 : Int × Bool × List En, (pPrt nkE i1004.snd i1.a i1.b i5) →
((ksrt40t0 l n a b lim i5 i1 z2))))))))) ∧
((i1003.snd == 1) = false →
((ksrt40t2 l n a b lim i1 i1003 z2))))) ∧
((i1.wp) = false →
((ksrt40t2 l n a b lim i1 i1003 z2))))) ∧
((i1.wb) = false →
 False)))))) ∧
((i1.wb) = false →
((kSw i1.l n i1.a i1.b).asks Try.prog [] 47 ∧
∀ i3 : List En, (Sw i1.a i1.b i1.l i3) →
∀ z4 : Int, z4 = (IntKind.i64.wrap (i1.lim - 1)) →
((kCho i3 n i1.a i1.b).asks Try.prog [] 48 ∧
∀ i1005 : Int × Int, (pCho i1.a i1.b i1005) →
(((i1005.snd == 2) = true →
((kSw i3 n i1.a i1.b).asks Try.prog [] 49 ∧
∀ i1006 : List En, (Sw i1.a i1.b i3 i1006) →
∀ z7 : Int, z7 = (IntKind.i64.wrap (i1.b - 1)) →
∀ z8 : Int, z8 = (IntKind.i64.wrap (i1005.fst - i1.a)) →
∀ z9 : Int, z9 = (IntKind.i64.wrap (z7 - z8)) →
(((i1.wb) = true →
 False) ∧
((i1.wb) = false →
(((decide (i1.a > 0)) = true →
∀ z10 : Int, z10 = (IntKind.i64.wrap (i1.a - 1)) →
(IX n z10 ∧
(LD i1006 z10 ∧
(IX n z9 ∧
(LD i1006 z9 ∧
((kCmp (gx i1006 z10) (gx i1006 z9) (hp i1006)).asks Try.prog [] 39 ∧
∀ _ : Unit, (True) →
(((decide (cmpD (gx i1006 z10) (gx i1006 z9) < 0)) = true →
((kPrt i1006 n i1.a i1.b z9).asks Try.prog [] 52 ∧
(ksrt40t1 l n a b lim i1006 i1 z2 z4))) ∧
((decide (cmpD (gx i1006 z10) (gx i1006 z9) < 0)) = false →
 False)))))))) ∧
((decide (i1.a > 0)) = false →
((kPrt i1006 n i1.a i1.b z9).asks Try.prog [] 52 ∧
(ksrt40t1 l n a b lim i1006 i1 z2 z4)))))))) ∧
((i1005.snd == 2) = false →
(((i1.wb) = true →
 False) ∧
((i1.wb) = false →
(((decide (i1.a > 0)) = true →
∀ z6 : Int, z6 = (IntKind.i64.wrap (i1.a - 1)) →
(IX n z6 ∧
(LD i3 z6 ∧
(IX n i1005.fst ∧
(LD i3 i1005.fst ∧
((kCmp (gx i3 z6) (gx i3 i1005.fst) (hp i3)).asks Try.prog [] 39 ∧
∀ _ : Unit, (True) →
(((decide (cmpD (gx i3 z6) (gx i3 i1005.fst) < 0)) = true →
((kPrt i3 n i1.a i1.b i1005.fst).asks Try.prog [] 52 ∧
(ksrt40t1 l n a b lim i3 i1 z2 z4))) ∧
((decide (cmpD (gx i3 z6) (gx i3 i1005.fst) < 0)) = false →
 False)))))))) ∧
((decide (i1.a > 0)) = false →
((kPrt i3 n i1.a i1.b i1005.fst).asks Try.prog [] 52 ∧
(ksrt40t1 l n a b lim i3 i1 z2 z4))))))))))))))))))) =
    runS Try.prog [] false [39, 42, 45, 46, 47, 48, 49, 50, 51, 52] 0 (SpecC Try.prog []) 20 42 [sl n, .int .i64 a, .int .i64 b, .int .i64 lim, fC] (hp l) .norm (.skip 2 (.invN [11, 10, 0, 1, 2, 3, 4] _ (mQ l n a b lim) [(qQ l n a b lim)] (fun k => match k with | _ => fun i1 => .skip 2 (.all (fun _z2 => .skip 2 (.ask (.skip 5 (.call (List En) (kIns i1.l n i1.a i1.b).post fun _i3 => .go)) (.skip 2 (.ask (.skip 5 (.call (List En) (kIns i1.l n i1.a i1.b).post fun _i3 => .go)) (.skip 1 (.ask (.skip 6 (.call (Int × Int) (kCho i1.l n i1.a i1.b).post fun i1003 => .skip 6 (.ask (.skip 5 (.call (List En) (kSw i1.l n i1.a i1.b).post fun i4 => .skip 1 (.all (fun _z5 => .skip 2 (.all (fun _z6 => .skip 0 (.all (fun z7 => .skip 2 (.ask (.skip 2 (.ask (.skip 12 (.call (Bool × List En) (kPar i4 n i1.a i1.b).post fun i8 => .skip 0 (.ask (.go) (.skip 1 (.ask (.skip 8 (.all (fun z9 => .skip 1 (.val (pt z9) (.skip 1 (.val (rv (gx i8.snd z9)) (.skip 5 (.val (pt z7) (.skip 1 (.val (rv (gx i8.snd z7)) (.skip 1 (.call (Unit) (kCmp (gx i8.snd z9) (gx i8.snd z7) (hp i8.snd)).post fun _ => .skip 1 (.ask (.skip 9 (.call (Int × Bool × List En) (kPrt i8.snd n i1.a i1.b z7).post fun i10 => .skip 5 (.ask (ksrt40s0 n i10 i1) (ksrt40s0 n i10 i1)))) (.skip 0 .go)))))))))))))) (.skip 21 (.call (Int × Bool × List En) (kPrt i8.snd n i1.a i1.b z7).post fun i9 => .skip 5 (.ask (ksrt40s0 n i9 i1) (ksrt40s0 n i9 i1))))))))) (.skip 7 (.ask (.skip 8 (.all (fun z8 => .skip 1 (.val (pt z8) (.skip 1 (.val (rv (gx i4 z8)) (.skip 5 (.val (pt z7) (.skip 1 (.val (rv (gx i4 z7)) (.skip 1 (.call (Unit) (kCmp (gx i4 z8) (gx i4 z7) (hp i4)).post fun _ => .skip 1 (.ask (.skip 9 (.call (Int × Bool × List En) (kPrt i4 n i1.a i1.b z7).post fun i9 => .skip 5 (.ask (ksrt40s0 n i9 i1) (ksrt40s0 n i9 i1)))) (.skip 0 .go)))))))))))))) (.skip 21 (.call (Int × Bool × List En) (kPrt i4 n i1.a i1.b z7).post fun i1008 => .skip 5 (.ask (ksrt40s0 n i1008 i1) (ksrt40s0 n i1008 i1)))))))) (.skip 0 .go)))))))))) (.skip 1 (.ask (.skip 2 (.ask (.skip 5 (.ask (.skip 6 (.call (Bool × List En) (kPar i1.l n i1.a i1.b).post fun i1004 => .skip 0 (.ask (.go) (.skip 1 (.ask (.skip 8 (.all (fun z5 => .skip 1 (.val (pt z5) (.skip 1 (.val (rv (gx i1004.snd z5)) (.skip 5 (.val (pt i1003.fst) (.skip 1 (.val (rv (gx i1004.snd i1003.fst)) (.skip 1 (.call (Unit) (kCmp (gx i1004.snd z5) (gx i1004.snd i1003.fst) (hp i1004.snd)).post fun _ => .skip 1 (.ask (.skip 9 (.call (Int × Bool × List En) (kPrt i1004.snd n i1.a i1.b i1003.fst).post fun i6 => .skip 5 (.ask (ksrt40s0 n i6 i1) (ksrt40s0 n i6 i1)))) (.skip 0 .go)))))))))))))) (.skip 21 (.call (Int × Bool × List En) (kPrt i1004.snd n i1.a i1.b i1003.fst).post fun i5 => .skip 5 (.ask (ksrt40s0 n i5 i1) (ksrt40s0 n i5 i1))))))))) (.skip 3 (.ask (ksrt40s2 n i1 i1003) (ksrt40s3 n i1 i1003))))) (.skip 7 (.ask (ksrt40s2 n i1 i1003) (ksrt40s3 n i1 i1003))))) (.skip 0 .go)))))) (.skip 6 (.call (List En) (kSw i1.l n i1.a i1.b).post fun i3 => .skip 1 (.all (fun z4 => .skip 5 (.call (Int × Int) (kCho i3 n i1.a i1.b).post fun i1005 => .skip 6 (.ask (.skip 5 (.call (List En) (kSw i3 n i1.a i1.b).post fun i1006 => .skip 1 (.all (fun _z7 => .skip 2 (.all (fun _z8 => .skip 0 (.all (fun z9 => .skip 2 (.ask (.skip 0 .go) (.skip 9 (.ask (.skip 8 (.all (fun z10 => .skip 1 (.val (pt z10) (.skip 1 (.val (rv (gx i1006 z10)) (.skip 5 (.val (pt z9) (.skip 1 (.val (rv (gx i1006 z9)) (.skip 1 (.call (Unit) (kCmp (gx i1006 z10) (gx i1006 z9) (hp i1006)).post fun _ => .skip 1 (.ask (.skip 9 (.call (Int × Bool × List En) (kPrt i1006 n i1.a i1.b z9).post fun i1011 => .skip 5 (.ask (ksrt40s1 n i1011 i1 z4) (ksrt40s1 n i1011 i1 z4)))) (.skip 0 .go)))))))))))))) (.skip 21 (.call (Int × Bool × List En) (kPrt i1006 n i1.a i1.b z9).post fun i10 => .skip 5 (.ask (ksrt40s1 n i10 i1 z4) (ksrt40s1 n i10 i1 z4))))))))))))))) (.skip 1 (.ask (.skip 0 .go) (.skip 9 (.ask (.skip 8 (.all (fun z6 => .skip 1 (.val (pt z6) (.skip 1 (.val (rv (gx i3 z6)) (.skip 5 (.val (pt i1005.fst) (.skip 1 (.val (rv (gx i3 i1005.fst)) (.skip 1 (.call (Unit) (kCmp (gx i3 z6) (gx i3 i1005.fst) (hp i3)).post fun _ => .skip 1 (.ask (.skip 9 (.call (Int × Bool × List En) (kPrt i3 n i1.a i1.b i1005.fst).post fun i7 => .skip 5 (.ask (ksrt40s1 n i7 i1 z4) (ksrt40s1 n i7 i1 z4)))) (.skip 0 .go)))))))))))))) (.skip 21 (.call (Int × Bool × List En) (kPrt i3 n i1.a i1.b i1005.fst).post fun i6 => .skip 5 (.ask (ksrt40s1 n i6 i1 z4) (ksrt40s1 n i6 i1 z4)))))))))))))))))))))))) (fun r _ h _ => Q r h) := by kernel_rfl
set_option maxHeartbeats 4000000 in
theorem pdq_step {n : Nat} (HN : n < 2 ^ 31) (k : Nat) (IH : ∀ (l : List En) (a b lim : Int), Pre nkE l n a b → Low nkE a b l → (b - a).toNat < k → (kPdq l n a b lim).asks Try.prog [] 42)
    (l : List En) (a b lim : Int) (H : Pre nkE l n a b) (HW : Low nkE a b l) (hk : (b - a).toNat < k + 1) : (kPdq l n a b lim).asks Try.prog [] 42 := by
  have HL := H.len
  have H0 := H.a0
  have HB := H.bn
  have HAB := H.ab
  have HG := H.big
  refine asks_of (spec_T (run_pdq l n a b lim _) ?_)
  refine ⟨?_, ?_⟩
  exact ⟨_, Q_first H, trivial, Gc.same⟩
  intro i1 hi1
  replace hi1 : iQ nkE l a b i1 := hi1
  obtain ⟨fi11, fi12, fi13, fi14, _⟩ := id hi1
  have Si1 : Sw i1.a i1.b i1.l i1.l := .refl
  have Pi1 := Q_pre H hi1
  have Wi1 := Q_low H HW hi1
  have Li1 := Pi1.len
  have Ai1 := Pi1.a0
  have Bi1 := Pi1.bn
  intro z2 hz2
  rw [wr (by omega) (by omega)] at hz2
  subst hz2
  refine ⟨fun h0 => ?_, fun h0 => ?_⟩
  replace h0 := of_decide_eq_true h0
  refine ⟨asks_of (ins_spec Pi1), ?_⟩
  intro i3 hi3
  exact ⟨_, Q_done H hi1 hi3, rfl, rfl⟩
  replace h0 := of_decide_eq_false h0
  refine ⟨fun h1 => ?_, fun h1 => ?_⟩
  replace h1 := beq_iff_eq.1 h1
  refine ⟨asks_of (heap_spec Pi1), ?_⟩
  intro i3 hi3
  exact ⟨_, Q_done H hi1 hi3, rfl, rfl⟩
  replace h1 := ne_of_beq_false h1
  refine ⟨fun h2 => ?_, fun h2 => ?_⟩
  refine ⟨cho_spec Pi1 (by omega), ?_⟩
  intro i3 hi3
  unfold pCho at hi3
  refine ⟨fun h3 => ?_, fun h3 => ?_⟩
  replace h3 := beq_iff_eq.1 h3
  refine ⟨asks_of (rev_spec Pi1), ?_⟩
  intro i4 hi4
  have Si4 := Si1.trans hi4
  have qi4 := Q_sw H hi1 Si4 (lim := 0) (wb := true) (wp := true)
  have Pi4 : Pre nkE i4 n i1.a i1.b := by have x := Q_pre H qi4; exact x
  have Wi4 : Low nkE i1.a i1.b i4 := by have x := Q_low H HW qi4; exact x
  have Li4 := Pi4.len
  intro z5 hz5
  rw [wr (by omega) (by omega)] at hz5
  subst hz5
  intro z6 hz6
  rw [wr (by omega) (by omega)] at hz6
  subst hz6
  intro z7 hz7
  rw [wr (by omega) (by omega)] at hz7
  subst hz7
  refine ⟨fun h4 => ?_, fun h4 => ?_⟩
  refine ⟨fun h5 => ?_, fun h5 => ?_⟩
  refine ⟨par_spec Pi4 Wi4 (by omega), ?_⟩
  intro i8 hi8
  have Si8 := Si4.trans hi8.1
  have qi8 := Q_sw H hi1 Si8 (lim := 0) (wb := true) (wp := true)
  have Pi8 : Pre nkE i8.2 n i1.a i1.b := by have x := Q_pre H qi8; exact x
  have Wi8 : Low nkE i1.a i1.b i8.2 := by have x := Q_low H HW qi8; exact x
  have Li8 := Pi8.len
  refine ⟨fun h6 => ?_, fun h6 => ?_⟩
  exact ⟨_, Q_one H qi8 (hi8.2 h6), rfl, rfl⟩
  refine ⟨fun h7 => ?_, fun h7 => ?_⟩
  replace h7 := of_decide_eq_true h7
  intro z9 hz9
  rw [wr (by omega) (by omega)] at hz9
  subst hz9
  refine ⟨ixa (by omega) (by omega), ?_⟩
  refine ⟨lda (by first | omega | (rw [List.length_set]; omega)), ?_⟩
  refine ⟨ixa (by omega) (by omega), ?_⟩
  refine ⟨lda (by first | omega | (rw [List.length_set]; omega)), ?_⟩
  refine ⟨cmp_ok _ _ _, ?_⟩
  intro _ h_
  refine ⟨fun h8 => ?_, fun h8 => ?_⟩
  replace h8 := ltT h8
  refine ⟨prt_spec Pi8 (by omega), ?_⟩
  intro i10 hi10
  have ci10 := hi10.1
  have qi10 := Q_sw H hi1 Si8 (lim := 0) (wb := true) (wp := true)
  refine ⟨fun h9 => ?_, fun h9 => ?_⟩
  intro z11 hz11
  rw [wr (by omega) (by omega)] at hz11
  subst hz11
  intro z12 hz12
  rw [wr (by omega) (by omega)] at hz12
  subst hz12
  intro z13 hz13
  rw [wrt (by omega) (by omega) (by omega)] at hz13
  subst hz13
  refine ⟨fun h10 => ?_, fun h10 => ?_⟩
  replace h10 := of_decide_eq_true h10
  refine ⟨fun h11 => ?_, fun h11 => ?_⟩
  replace h11 := of_decide_eq_true h11
  refine ⟨IH _ _ _ _ (Q_pre1 H qi10 hi10) (Q_low1 H HW qi10 hi10) (by omega), ?_⟩
  intro i14 hi14
  intro z15 hz15
  rw [wr (by omega) (by omega)] at hz15
  subst hz15
  exact ⟨_, Q_left H qi10 hi10 hi14, by show (i1.b - (i10.1 + 1)).toNat < (i1.b - i1.a).toNat; omega, Gc.same⟩
  replace h11 := of_decide_eq_false h11
  refine ⟨IH _ _ _ _ (Q_pre1 H qi10 hi10) (Q_low1 H HW qi10 hi10) (by omega), ?_⟩
  intro i14 hi14
  intro z15 hz15
  rw [wr (by omega) (by omega)] at hz15
  subst hz15
  exact ⟨_, Q_left H qi10 hi10 hi14, by show (i1.b - (i10.1 + 1)).toNat < (i1.b - i1.a).toNat; omega, Gc.same⟩
  replace h10 := of_decide_eq_false h10
  refine ⟨fun h11 => ?_, fun h11 => ?_⟩
  replace h11 := of_decide_eq_true h11
  intro z14 hz14
  rw [wr (by omega) (by omega)] at hz14
  subst hz14
  refine ⟨IH _ _ _ _ (Q_pre2 H qi10 hi10) (Q_low2 qi10 hi10) (by omega), ?_⟩
  intro i15 hi15
  exact ⟨_, Q_right H qi10 hi10 hi15, by show (i10.1 - i1.a).toNat < (i1.b - i1.a).toNat; omega, Gc.same⟩
  replace h11 := of_decide_eq_false h11
  intro z14 hz14
  rw [wr (by omega) (by omega)] at hz14
  subst hz14
  refine ⟨IH _ _ _ _ (Q_pre2 H qi10 hi10) (Q_low2 qi10 hi10) (by omega), ?_⟩
  intro i15 hi15
  exact ⟨_, Q_right H qi10 hi10 hi15, by show (i10.1 - i1.a).toNat < (i1.b - i1.a).toNat; omega, Gc.same⟩
  intro z11 hz11
  rw [wr (by omega) (by omega)] at hz11
  subst hz11
  intro z12 hz12
  rw [wr (by omega) (by omega)] at hz12
  subst hz12
  intro z13 hz13
  rw [wrt (by omega) (by omega) (by omega)] at hz13
  subst hz13
  refine ⟨fun h10 => ?_, fun h10 => ?_⟩
  replace h10 := of_decide_eq_true h10
  refine ⟨fun h11 => ?_, fun h11 => ?_⟩
  replace h11 := of_decide_eq_true h11
  refine ⟨IH _ _ _ _ (Q_pre1 H qi10 hi10) (Q_low1 H HW qi10 hi10) (by omega), ?_⟩
  intro i14 hi14
  intro z15 hz15
  rw [wr (by omega) (by omega)] at hz15
  subst hz15
  exact ⟨_, Q_left H qi10 hi10 hi14, by show (i1.b - (i10.1 + 1)).toNat < (i1.b - i1.a).toNat; omega, Gc.same⟩
  replace h11 := of_decide_eq_false h11
  refine ⟨IH _ _ _ _ (Q_pre1 H qi10 hi10) (Q_low1 H HW qi10 hi10) (by omega), ?_⟩
  intro i14 hi14
  intro z15 hz15
  rw [wr (by omega) (by omega)] at hz15
  subst hz15
  exact ⟨_, Q_left H qi10 hi10 hi14, by show (i1.b - (i10.1 + 1)).toNat < (i1.b - i1.a).toNat; omega, Gc.same⟩
  replace h10 := of_decide_eq_false h10
  refine ⟨fun h11 => ?_, fun h11 => ?_⟩
  replace h11 := of_decide_eq_true h11
  intro z14 hz14
  rw [wr (by omega) (by omega)] at hz14
  subst hz14
  refine ⟨IH _ _ _ _ (Q_pre2 H qi10 hi10) (Q_low2 qi10 hi10) (by omega), ?_⟩
  intro i15 hi15
  exact ⟨_, Q_right H qi10 hi10 hi15, by show (i10.1 - i1.a).toNat < (i1.b - i1.a).toNat; omega, Gc.same⟩
  replace h11 := of_decide_eq_false h11
  intro z14 hz14
  rw [wr (by omega) (by omega)] at hz14
  subst hz14
  refine ⟨IH _ _ _ _ (Q_pre2 H qi10 hi10) (Q_low2 qi10 hi10) (by omega), ?_⟩
  intro i15 hi15
  exact ⟨_, Q_right H qi10 hi10 hi15, by show (i10.1 - i1.a).toNat < (i1.b - i1.a).toNat; omega, Gc.same⟩
  replace h8 := ltF h8
  exact h8 (Wi8 h7 _ (by omega) (by omega))
  replace h7 := of_decide_eq_false h7
  refine ⟨prt_spec Pi8 (by omega), ?_⟩
  intro i9 hi9
  have ci9 := hi9.1
  have qi9 := Q_sw H hi1 Si8 (lim := 0) (wb := true) (wp := true)
  refine ⟨fun h8 => ?_, fun h8 => ?_⟩
  intro z10 hz10
  rw [wr (by omega) (by omega)] at hz10
  subst hz10
  intro z11 hz11
  rw [wr (by omega) (by omega)] at hz11
  subst hz11
  intro z12 hz12
  rw [wrt (by omega) (by omega) (by omega)] at hz12
  subst hz12
  refine ⟨fun h9 => ?_, fun h9 => ?_⟩
  replace h9 := of_decide_eq_true h9
  refine ⟨fun h10 => ?_, fun h10 => ?_⟩
  replace h10 := of_decide_eq_true h10
  refine ⟨IH _ _ _ _ (Q_pre1 H qi9 hi9) (Q_low1 H HW qi9 hi9) (by omega), ?_⟩
  intro i13 hi13
  intro z14 hz14
  rw [wr (by omega) (by omega)] at hz14
  subst hz14
  exact ⟨_, Q_left H qi9 hi9 hi13, by show (i1.b - (i9.1 + 1)).toNat < (i1.b - i1.a).toNat; omega, Gc.same⟩
  replace h10 := of_decide_eq_false h10
  refine ⟨IH _ _ _ _ (Q_pre1 H qi9 hi9) (Q_low1 H HW qi9 hi9) (by omega), ?_⟩
  intro i13 hi13
  intro z14 hz14
  rw [wr (by omega) (by omega)] at hz14
  subst hz14
  exact ⟨_, Q_left H qi9 hi9 hi13, by show (i1.b - (i9.1 + 1)).toNat < (i1.b - i1.a).toNat; omega, Gc.same⟩
  replace h9 := of_decide_eq_false h9
  refine ⟨fun h10 => ?_, fun h10 => ?_⟩
  replace h10 := of_decide_eq_true h10
  intro z13 hz13
  rw [wr (by omega) (by omega)] at hz13
  subst hz13
  refine ⟨IH _ _ _ _ (Q_pre2 H qi9 hi9) (Q_low2 qi9 hi9) (by omega), ?_⟩
  intro i14 hi14
  exact ⟨_, Q_right H qi9 hi9 hi14, by show (i9.1 - i1.a).toNat < (i1.b - i1.a).toNat; omega, Gc.same⟩
  replace h10 := of_decide_eq_false h10
  intro z13 hz13
  rw [wr (by omega) (by omega)] at hz13
  subst hz13
  refine ⟨IH _ _ _ _ (Q_pre2 H qi9 hi9) (Q_low2 qi9 hi9) (by omega), ?_⟩
  intro i14 hi14
  exact ⟨_, Q_right H qi9 hi9 hi14, by show (i9.1 - i1.a).toNat < (i1.b - i1.a).toNat; omega, Gc.same⟩
  intro z10 hz10
  rw [wr (by omega) (by omega)] at hz10
  subst hz10
  intro z11 hz11
  rw [wr (by omega) (by omega)] at hz11
  subst hz11
  intro z12 hz12
  rw [wrt (by omega) (by omega) (by omega)] at hz12
  subst hz12
  refine ⟨fun h9 => ?_, fun h9 => ?_⟩
  replace h9 := of_decide_eq_true h9
  refine ⟨fun h10 => ?_, fun h10 => ?_⟩
  replace h10 := of_decide_eq_true h10
  refine ⟨IH _ _ _ _ (Q_pre1 H qi9 hi9) (Q_low1 H HW qi9 hi9) (by omega), ?_⟩
  intro i13 hi13
  intro z14 hz14
  rw [wr (by omega) (by omega)] at hz14
  subst hz14
  exact ⟨_, Q_left H qi9 hi9 hi13, by show (i1.b - (i9.1 + 1)).toNat < (i1.b - i1.a).toNat; omega, Gc.same⟩
  replace h10 := of_decide_eq_false h10
  refine ⟨IH _ _ _ _ (Q_pre1 H qi9 hi9) (Q_low1 H HW qi9 hi9) (by omega), ?_⟩
  intro i13 hi13
  intro z14 hz14
  rw [wr (by omega) (by omega)] at hz14
  subst hz14
  exact ⟨_, Q_left H qi9 hi9 hi13, by show (i1.b - (i9.1 + 1)).toNat < (i1.b - i1.a).toNat; omega, Gc.same⟩
  replace h9 := of_decide_eq_false h9
  refine ⟨fun h10 => ?_, fun h10 => ?_⟩
  replace h10 := of_decide_eq_true h10
  intro z13 hz13
  rw [wr (by omega) (by omega)] at hz13
  subst hz13
  refine ⟨IH _ _ _ _ (Q_pre2 H qi9 hi9) (Q_low2 qi9 hi9) (by omega), ?_⟩
  intro i14 hi14
  exact ⟨_, Q_right H qi9 hi9 hi14, by show (i9.1 - i1.a).toNat < (i1.b - i1.a).toNat; omega, Gc.same⟩
  replace h10 := of_decide_eq_false h10
  intro z13 hz13
  rw [wr (by omega) (by omega)] at hz13
  subst hz13
  refine ⟨IH _ _ _ _ (Q_pre2 H qi9 hi9) (Q_low2 qi9 hi9) (by omega), ?_⟩
  intro i14 hi14
  exact ⟨_, Q_right H qi9 hi9 hi14, by show (i9.1 - i1.a).toNat < (i1.b - i1.a).toNat; omega, Gc.same⟩
  refine ⟨fun h6 => ?_, fun h6 => ?_⟩
  replace h6 := of_decide_eq_true h6
  intro z8 hz8
  rw [wr (by omega) (by omega)] at hz8
  subst hz8
  refine ⟨ixa (by omega) (by omega), ?_⟩
  refine ⟨lda (by first | omega | (rw [List.length_set]; omega)), ?_⟩
  refine ⟨ixa (by omega) (by omega), ?_⟩
  refine ⟨lda (by first | omega | (rw [List.length_set]; omega)), ?_⟩
  refine ⟨cmp_ok _ _ _, ?_⟩
  intro _ h_
  refine ⟨fun h7 => ?_, fun h7 => ?_⟩
  replace h7 := ltT h7
  refine ⟨prt_spec Pi4 (by omega), ?_⟩
  intro i9 hi9
  have ci9 := hi9.1
  have qi9 := Q_sw H hi1 Si4 (lim := 0) (wb := true) (wp := true)
  refine ⟨fun h8 => ?_, fun h8 => ?_⟩
  intro z10 hz10
  rw [wr (by omega) (by omega)] at hz10
  subst hz10
  intro z11 hz11
  rw [wr (by omega) (by omega)] at hz11
  subst hz11
  intro z12 hz12
  rw [wrt (by omega) (by omega) (by omega)] at hz12
  subst hz12
  refine ⟨fun h9 => ?_, fun h9 => ?_⟩
  replace h9 := of_decide_eq_true h9
  refine ⟨fun h10 => ?_, fun h10 => ?_⟩
  replace h10 := of_decide_eq_true h10
  refine ⟨IH _ _ _ _ (Q_pre1 H qi9 hi9) (Q_low1 H HW qi9 hi9) (by omega), ?_⟩
  intro i13 hi13
  intro z14 hz14
  rw [wr (by omega) (by omega)] at hz14
  subst hz14
  exact ⟨_, Q_left H qi9 hi9 hi13, by show (i1.b - (i9.1 + 1)).toNat < (i1.b - i1.a).toNat; omega, Gc.same⟩
  replace h10 := of_decide_eq_false h10
  refine ⟨IH _ _ _ _ (Q_pre1 H qi9 hi9) (Q_low1 H HW qi9 hi9) (by omega), ?_⟩
  intro i13 hi13
  intro z14 hz14
  rw [wr (by omega) (by omega)] at hz14
  subst hz14
  exact ⟨_, Q_left H qi9 hi9 hi13, by show (i1.b - (i9.1 + 1)).toNat < (i1.b - i1.a).toNat; omega, Gc.same⟩
  replace h9 := of_decide_eq_false h9
  refine ⟨fun h10 => ?_, fun h10 => ?_⟩
  replace h10 := of_decide_eq_true h10
  intro z13 hz13
  rw [wr (by omega) (by omega)] at hz13
  subst hz13
  refine ⟨IH _ _ _ _ (Q_pre2 H qi9 hi9) (Q_low2 qi9 hi9) (by omega), ?_⟩
  intro i14 hi14
  exact ⟨_, Q_right H qi9 hi9 hi14, by show (i9.1 - i1.a).toNat < (i1.b - i1.a).toNat; omega, Gc.same⟩
  replace h10 := of_decide_eq_false h10
  intro z13 hz13
  rw [wr (by omega) (by omega)] at hz13
  subst hz13
  refine ⟨IH _ _ _ _ (Q_pre2 H qi9 hi9) (Q_low2 qi9 hi9) (by omega), ?_⟩
  intro i14 hi14
  exact ⟨_, Q_right H qi9 hi9 hi14, by show (i9.1 - i1.a).toNat < (i1.b - i1.a).toNat; omega, Gc.same⟩
  intro z10 hz10
  rw [wr (by omega) (by omega)] at hz10
  subst hz10
  intro z11 hz11
  rw [wr (by omega) (by omega)] at hz11
  subst hz11
  intro z12 hz12
  rw [wrt (by omega) (by omega) (by omega)] at hz12
  subst hz12
  refine ⟨fun h9 => ?_, fun h9 => ?_⟩
  replace h9 := of_decide_eq_true h9
  refine ⟨fun h10 => ?_, fun h10 => ?_⟩
  replace h10 := of_decide_eq_true h10
  refine ⟨IH _ _ _ _ (Q_pre1 H qi9 hi9) (Q_low1 H HW qi9 hi9) (by omega), ?_⟩
  intro i13 hi13
  intro z14 hz14
  rw [wr (by omega) (by omega)] at hz14
  subst hz14
  exact ⟨_, Q_left H qi9 hi9 hi13, by show (i1.b - (i9.1 + 1)).toNat < (i1.b - i1.a).toNat; omega, Gc.same⟩
  replace h10 := of_decide_eq_false h10
  refine ⟨IH _ _ _ _ (Q_pre1 H qi9 hi9) (Q_low1 H HW qi9 hi9) (by omega), ?_⟩
  intro i13 hi13
  intro z14 hz14
  rw [wr (by omega) (by omega)] at hz14
  subst hz14
  exact ⟨_, Q_left H qi9 hi9 hi13, by show (i1.b - (i9.1 + 1)).toNat < (i1.b - i1.a).toNat; omega, Gc.same⟩
  replace h9 := of_decide_eq_false h9
  refine ⟨fun h10 => ?_, fun h10 => ?_⟩
  replace h10 := of_decide_eq_true h10
  intro z13 hz13
  rw [wr (by omega) (by omega)] at hz13
  subst hz13
  refine ⟨IH _ _ _ _ (Q_pre2 H qi9 hi9) (Q_low2 qi9 hi9) (by omega), ?_⟩
  intro i14 hi14
  exact ⟨_, Q_right H qi9 hi9 hi14, by show (i9.1 - i1.a).toNat < (i1.b - i1.a).toNat; omega, Gc.same⟩
  replace h10 := of_decide_eq_false h10
  intro z13 hz13
  rw [wr (by omega) (by omega)] at hz13
  subst hz13
  refine ⟨IH _ _ _ _ (Q_pre2 H qi9 hi9) (Q_low2 qi9 hi9) (by omega), ?_⟩
  intro i14 hi14
  exact ⟨_, Q_right H qi9 hi9 hi14, by show (i9.1 - i1.a).toNat < (i1.b - i1.a).toNat; omega, Gc.same⟩
  replace h7 := ltF h7
  exact h7 (Wi4 h6 _ (by omega) (by omega))
  replace h6 := of_decide_eq_false h6
  refine ⟨prt_spec Pi4 (by omega), ?_⟩
  intro i8 hi8
  have ci8 := hi8.1
  have qi8 := Q_sw H hi1 Si4 (lim := 0) (wb := true) (wp := true)
  refine ⟨fun h7 => ?_, fun h7 => ?_⟩
  intro z9 hz9
  rw [wr (by omega) (by omega)] at hz9
  subst hz9
  intro z10 hz10
  rw [wr (by omega) (by omega)] at hz10
  subst hz10
  intro z11 hz11
  rw [wrt (by omega) (by omega) (by omega)] at hz11
  subst hz11
  refine ⟨fun h8 => ?_, fun h8 => ?_⟩
  replace h8 := of_decide_eq_true h8
  refine ⟨fun h9 => ?_, fun h9 => ?_⟩
  replace h9 := of_decide_eq_true h9
  refine ⟨IH _ _ _ _ (Q_pre1 H qi8 hi8) (Q_low1 H HW qi8 hi8) (by omega), ?_⟩
  intro i12 hi12
  intro z13 hz13
  rw [wr (by omega) (by omega)] at hz13
  subst hz13
  exact ⟨_, Q_left H qi8 hi8 hi12, by show (i1.b - (i8.1 + 1)).toNat < (i1.b - i1.a).toNat; omega, Gc.same⟩
  replace h9 := of_decide_eq_false h9
  refine ⟨IH _ _ _ _ (Q_pre1 H qi8 hi8) (Q_low1 H HW qi8 hi8) (by omega), ?_⟩
  intro i12 hi12
  intro z13 hz13
  rw [wr (by omega) (by omega)] at hz13
  subst hz13
  exact ⟨_, Q_left H qi8 hi8 hi12, by show (i1.b - (i8.1 + 1)).toNat < (i1.b - i1.a).toNat; omega, Gc.same⟩
  replace h8 := of_decide_eq_false h8
  refine ⟨fun h9 => ?_, fun h9 => ?_⟩
  replace h9 := of_decide_eq_true h9
  intro z12 hz12
  rw [wr (by omega) (by omega)] at hz12
  subst hz12
  refine ⟨IH _ _ _ _ (Q_pre2 H qi8 hi8) (Q_low2 qi8 hi8) (by omega), ?_⟩
  intro i13 hi13
  exact ⟨_, Q_right H qi8 hi8 hi13, by show (i8.1 - i1.a).toNat < (i1.b - i1.a).toNat; omega, Gc.same⟩
  replace h9 := of_decide_eq_false h9
  intro z12 hz12
  rw [wr (by omega) (by omega)] at hz12
  subst hz12
  refine ⟨IH _ _ _ _ (Q_pre2 H qi8 hi8) (Q_low2 qi8 hi8) (by omega), ?_⟩
  intro i13 hi13
  exact ⟨_, Q_right H qi8 hi8 hi13, by show (i8.1 - i1.a).toNat < (i1.b - i1.a).toNat; omega, Gc.same⟩
  intro z9 hz9
  rw [wr (by omega) (by omega)] at hz9
  subst hz9
  intro z10 hz10
  rw [wr (by omega) (by omega)] at hz10
  subst hz10
  intro z11 hz11
  rw [wrt (by omega) (by omega) (by omega)] at hz11
  subst hz11
  refine ⟨fun h8 => ?_, fun h8 => ?_⟩
  replace h8 := of_decide_eq_true h8
  refine ⟨fun h9 => ?_, fun h9 => ?_⟩
  replace h9 := of_decide_eq_true h9
  refine ⟨IH _ _ _ _ (Q_pre1 H qi8 hi8) (Q_low1 H HW qi8 hi8) (by omega), ?_⟩
  intro i12 hi12
  intro z13 hz13
  rw [wr (by omega) (by omega)] at hz13
  subst hz13
  exact ⟨_, Q_left H qi8 hi8 hi12, by show (i1.b - (i8.1 + 1)).toNat < (i1.b - i1.a).toNat; omega, Gc.same⟩
  replace h9 := of_decide_eq_false h9
  refine ⟨IH _ _ _ _ (Q_pre1 H qi8 hi8) (Q_low1 H HW qi8 hi8) (by omega), ?_⟩
  intro i12 hi12
  intro z13 hz13
  rw [wr (by omega) (by omega)] at hz13
  subst hz13
  exact ⟨_, Q_left H qi8 hi8 hi12, by show (i1.b - (i8.1 + 1)).toNat < (i1.b - i1.a).toNat; omega, Gc.same⟩
  replace h8 := of_decide_eq_false h8
  refine ⟨fun h9 => ?_, fun h9 => ?_⟩
  replace h9 := of_decide_eq_true h9
  intro z12 hz12
  rw [wr (by omega) (by omega)] at hz12
  subst hz12
  refine ⟨IH _ _ _ _ (Q_pre2 H qi8 hi8) (Q_low2 qi8 hi8) (by omega), ?_⟩
  intro i13 hi13
  exact ⟨_, Q_right H qi8 hi8 hi13, by show (i8.1 - i1.a).toNat < (i1.b - i1.a).toNat; omega, Gc.same⟩
  replace h9 := of_decide_eq_false h9
  intro z12 hz12
  rw [wr (by omega) (by omega)] at hz12
  subst hz12
  refine ⟨IH _ _ _ _ (Q_pre2 H qi8 hi8) (Q_low2 qi8 hi8) (by omega), ?_⟩
  intro i13 hi13
  exact ⟨_, Q_right H qi8 hi8 hi13, by show (i8.1 - i1.a).toNat < (i1.b - i1.a).toNat; omega, Gc.same⟩
  exact absurd (h2.symm.trans h4) (by decide)
  replace h3 := ne_of_beq_false h3
  refine ⟨fun h4 => ?_, fun h4 => ?_⟩
  refine ⟨fun h5 => ?_, fun h5 => ?_⟩
  refine ⟨fun h6 => ?_, fun h6 => ?_⟩
  replace h6 := beq_iff_eq.1 h6
  refine ⟨par_spec Pi1 Wi1 (by omega), ?_⟩
  intro i4 hi4
  have Si4 := Si1.trans hi4.1
  have qi4 := Q_sw H hi1 Si4 (lim := 0) (wb := true) (wp := true)
  have Pi4 : Pre nkE i4.2 n i1.a i1.b := by have x := Q_pre H qi4; exact x
  have Wi4 : Low nkE i1.a i1.b i4.2 := by have x := Q_low H HW qi4; exact x
  have Li4 := Pi4.len
  refine ⟨fun h7 => ?_, fun h7 => ?_⟩
  exact ⟨_, Q_one H qi4 (hi4.2 h7), rfl, rfl⟩
  refine ⟨fun h8 => ?_, fun h8 => ?_⟩
  replace h8 := of_decide_eq_true h8
  intro z5 hz5
  rw [wr (by omega) (by omega)] at hz5
  subst hz5
  refine ⟨ixa (by omega) (by omega), ?_⟩
  refine ⟨lda (by first | omega | (rw [List.length_set]; omega)), ?_⟩
  refine ⟨ixa (by omega) (by omega), ?_⟩
  refine ⟨lda (by first | omega | (rw [List.length_set]; omega)), ?_⟩
  refine ⟨cmp_ok _ _ _, ?_⟩
  intro _ h_
  refine ⟨fun h9 => ?_, fun h9 => ?_⟩
  replace h9 := ltT h9
  refine ⟨prt_spec Pi4 (by omega), ?_⟩
  intro i6 hi6
  have ci6 := hi6.1
  have qi6 := Q_sw H hi1 Si4 (lim := 0) (wb := true) (wp := true)
  refine ⟨fun h10 => ?_, fun h10 => ?_⟩
  intro z7 hz7
  rw [wr (by omega) (by omega)] at hz7
  subst hz7
  intro z8 hz8
  rw [wr (by omega) (by omega)] at hz8
  subst hz8
  intro z9 hz9
  rw [wrt (by omega) (by omega) (by omega)] at hz9
  subst hz9
  refine ⟨fun h11 => ?_, fun h11 => ?_⟩
  replace h11 := of_decide_eq_true h11
  refine ⟨fun h12 => ?_, fun h12 => ?_⟩
  replace h12 := of_decide_eq_true h12
  refine ⟨IH _ _ _ _ (Q_pre1 H qi6 hi6) (Q_low1 H HW qi6 hi6) (by omega), ?_⟩
  intro i10 hi10
  intro z11 hz11
  rw [wr (by omega) (by omega)] at hz11
  subst hz11
  exact ⟨_, Q_left H qi6 hi6 hi10, by show (i1.b - (i6.1 + 1)).toNat < (i1.b - i1.a).toNat; omega, Gc.same⟩
  replace h12 := of_decide_eq_false h12
  refine ⟨IH _ _ _ _ (Q_pre1 H qi6 hi6) (Q_low1 H HW qi6 hi6) (by omega), ?_⟩
  intro i10 hi10
  intro z11 hz11
  rw [wr (by omega) (by omega)] at hz11
  subst hz11
  exact ⟨_, Q_left H qi6 hi6 hi10, by show (i1.b - (i6.1 + 1)).toNat < (i1.b - i1.a).toNat; omega, Gc.same⟩
  replace h11 := of_decide_eq_false h11
  refine ⟨fun h12 => ?_, fun h12 => ?_⟩
  replace h12 := of_decide_eq_true h12
  intro z10 hz10
  rw [wr (by omega) (by omega)] at hz10
  subst hz10
  refine ⟨IH _ _ _ _ (Q_pre2 H qi6 hi6) (Q_low2 qi6 hi6) (by omega), ?_⟩
  intro i11 hi11
  exact ⟨_, Q_right H qi6 hi6 hi11, by show (i6.1 - i1.a).toNat < (i1.b - i1.a).toNat; omega, Gc.same⟩
  replace h12 := of_decide_eq_false h12
  intro z10 hz10
  rw [wr (by omega) (by omega)] at hz10
  subst hz10
  refine ⟨IH _ _ _ _ (Q_pre2 H qi6 hi6) (Q_low2 qi6 hi6) (by omega), ?_⟩
  intro i11 hi11
  exact ⟨_, Q_right H qi6 hi6 hi11, by show (i6.1 - i1.a).toNat < (i1.b - i1.a).toNat; omega, Gc.same⟩
  intro z7 hz7
  rw [wr (by omega) (by omega)] at hz7
  subst hz7
  intro z8 hz8
  rw [wr (by omega) (by omega)] at hz8
  subst hz8
  intro z9 hz9
  rw [wrt (by omega) (by omega) (by omega)] at hz9
  subst hz9
  refine ⟨fun h11 => ?_, fun h11 => ?_⟩
  replace h11 := of_decide_eq_true h11
  refine ⟨fun h12 => ?_, fun h12 => ?_⟩
  replace h12 := of_decide_eq_true h12
  refine ⟨IH _ _ _ _ (Q_pre1 H qi6 hi6) (Q_low1 H HW qi6 hi6) (by omega), ?_⟩
  intro i10 hi10
  intro z11 hz11
  rw [wr (by omega) (by omega)] at hz11
  subst hz11
  exact ⟨_, Q_left H qi6 hi6 hi10, by show (i1.b - (i6.1 + 1)).toNat < (i1.b - i1.a).toNat; omega, Gc.same⟩
  replace h12 := of_decide_eq_false h12
  refine ⟨IH _ _ _ _ (Q_pre1 H qi6 hi6) (Q_low1 H HW qi6 hi6) (by omega), ?_⟩
  intro i10 hi10
  intro z11 hz11
  rw [wr (by omega) (by omega)] at hz11
  subst hz11
  exact ⟨_, Q_left H qi6 hi6 hi10, by show (i1.b - (i6.1 + 1)).toNat < (i1.b - i1.a).toNat; omega, Gc.same⟩
  replace h11 := of_decide_eq_false h11
  refine ⟨fun h12 => ?_, fun h12 => ?_⟩
  replace h12 := of_decide_eq_true h12
  intro z10 hz10
  rw [wr (by omega) (by omega)] at hz10
  subst hz10
  refine ⟨IH _ _ _ _ (Q_pre2 H qi6 hi6) (Q_low2 qi6 hi6) (by omega), ?_⟩
  intro i11 hi11
  exact ⟨_, Q_right H qi6 hi6 hi11, by show (i6.1 - i1.a).toNat < (i1.b - i1.a).toNat; omega, Gc.same⟩
  replace h12 := of_decide_eq_false h12
  intro z10 hz10
  rw [wr (by omega) (by omega)] at hz10
  subst hz10
  refine ⟨IH _ _ _ _ (Q_pre2 H qi6 hi6) (Q_low2 qi6 hi6) (by omega), ?_⟩
  intro i11 hi11
  exact ⟨_, Q_right H qi6 hi6 hi11, by show (i6.1 - i1.a).toNat < (i1.b - i1.a).toNat; omega, Gc.same⟩
  replace h9 := ltF h9
  exact h9 (Wi4 h8 _ (by omega) (by omega))
  replace h8 := of_decide_eq_false h8
  refine ⟨prt_spec Pi4 (by omega), ?_⟩
  intro i5 hi5
  have ci5 := hi5.1
  have qi5 := Q_sw H hi1 Si4 (lim := 0) (wb := true) (wp := true)
  refine ⟨fun h9 => ?_, fun h9 => ?_⟩
  intro z6 hz6
  rw [wr (by omega) (by omega)] at hz6
  subst hz6
  intro z7 hz7
  rw [wr (by omega) (by omega)] at hz7
  subst hz7
  intro z8 hz8
  rw [wrt (by omega) (by omega) (by omega)] at hz8
  subst hz8
  refine ⟨fun h10 => ?_, fun h10 => ?_⟩
  replace h10 := of_decide_eq_true h10
  refine ⟨fun h11 => ?_, fun h11 => ?_⟩
  replace h11 := of_decide_eq_true h11
  refine ⟨IH _ _ _ _ (Q_pre1 H qi5 hi5) (Q_low1 H HW qi5 hi5) (by omega), ?_⟩
  intro i9 hi9
  intro z10 hz10
  rw [wr (by omega) (by omega)] at hz10
  subst hz10
  exact ⟨_, Q_left H qi5 hi5 hi9, by show (i1.b - (i5.1 + 1)).toNat < (i1.b - i1.a).toNat; omega, Gc.same⟩
  replace h11 := of_decide_eq_false h11
  refine ⟨IH _ _ _ _ (Q_pre1 H qi5 hi5) (Q_low1 H HW qi5 hi5) (by omega), ?_⟩
  intro i9 hi9
  intro z10 hz10
  rw [wr (by omega) (by omega)] at hz10
  subst hz10
  exact ⟨_, Q_left H qi5 hi5 hi9, by show (i1.b - (i5.1 + 1)).toNat < (i1.b - i1.a).toNat; omega, Gc.same⟩
  replace h10 := of_decide_eq_false h10
  refine ⟨fun h11 => ?_, fun h11 => ?_⟩
  replace h11 := of_decide_eq_true h11
  intro z9 hz9
  rw [wr (by omega) (by omega)] at hz9
  subst hz9
  refine ⟨IH _ _ _ _ (Q_pre2 H qi5 hi5) (Q_low2 qi5 hi5) (by omega), ?_⟩
  intro i10 hi10
  exact ⟨_, Q_right H qi5 hi5 hi10, by show (i5.1 - i1.a).toNat < (i1.b - i1.a).toNat; omega, Gc.same⟩
  replace h11 := of_decide_eq_false h11
  intro z9 hz9
  rw [wr (by omega) (by omega)] at hz9
  subst hz9
  refine ⟨IH _ _ _ _ (Q_pre2 H qi5 hi5) (Q_low2 qi5 hi5) (by omega), ?_⟩
  intro i10 hi10
  exact ⟨_, Q_right H qi5 hi5 hi10, by show (i5.1 - i1.a).toNat < (i1.b - i1.a).toNat; omega, Gc.same⟩
  intro z6 hz6
  rw [wr (by omega) (by omega)] at hz6
  subst hz6
  intro z7 hz7
  rw [wr (by omega) (by omega)] at hz7
  subst hz7
  intro z8 hz8
  rw [wrt (by omega) (by omega) (by omega)] at hz8
  subst hz8
  refine ⟨fun h10 => ?_, fun h10 => ?_⟩
  replace h10 := of_decide_eq_true h10
  refine ⟨fun h11 => ?_, fun h11 => ?_⟩
  replace h11 := of_decide_eq_true h11
  refine ⟨IH _ _ _ _ (Q_pre1 H qi5 hi5) (Q_low1 H HW qi5 hi5) (by omega), ?_⟩
  intro i9 hi9
  intro z10 hz10
  rw [wr (by omega) (by omega)] at hz10
  subst hz10
  exact ⟨_, Q_left H qi5 hi5 hi9, by show (i1.b - (i5.1 + 1)).toNat < (i1.b - i1.a).toNat; omega, Gc.same⟩
  replace h11 := of_decide_eq_false h11
  refine ⟨IH _ _ _ _ (Q_pre1 H qi5 hi5) (Q_low1 H HW qi5 hi5) (by omega), ?_⟩
  intro i9 hi9
  intro z10 hz10
  rw [wr (by omega) (by omega)] at hz10
  subst hz10
  exact ⟨_, Q_left H qi5 hi5 hi9, by show (i1.b - (i5.1 + 1)).toNat < (i1.b - i1.a).toNat; omega, Gc.same⟩
  replace h10 := of_decide_eq_false h10
  refine ⟨fun h11 => ?_, fun h11 => ?_⟩
  replace h11 := of_decide_eq_true h11
  intro z9 hz9
  rw [wr (by omega) (by omega)] at hz9
  subst hz9
  refine ⟨IH _ _ _ _ (Q_pre2 H qi5 hi5) (Q_low2 qi5 hi5) (by omega), ?_⟩
  intro i10 hi10
  exact ⟨_, Q_right H qi5 hi5 hi10, by show (i5.1 - i1.a).toNat < (i1.b - i1.a).toNat; omega, Gc.same⟩
  replace h11 := of_decide_eq_false h11
  intro z9 hz9
  rw [wr (by omega) (by omega)] at hz9
  subst hz9
  refine ⟨IH _ _ _ _ (Q_pre2 H qi5 hi5) (Q_low2 qi5 hi5) (by omega), ?_⟩
  intro i10 hi10
  exact ⟨_, Q_right H qi5 hi5 hi10, by show (i5.1 - i1.a).toNat < (i1.b - i1.a).toNat; omega, Gc.same⟩
  replace h6 := ne_of_beq_false h6
  refine ⟨fun h7 => ?_, fun h7 => ?_⟩
  replace h7 := of_decide_eq_true h7
  intro z4 hz4
  rw [wr (by omega) (by omega)] at hz4
  subst hz4
  refine ⟨ixa (by omega) (by omega), ?_⟩
  refine ⟨lda (by first | omega | (rw [List.length_set]; omega)), ?_⟩
  refine ⟨ixa (by omega) (by omega), ?_⟩
  refine ⟨lda (by first | omega | (rw [List.length_set]; omega)), ?_⟩
  refine ⟨cmp_ok _ _ _, ?_⟩
  intro _ h_
  refine ⟨fun h8 => ?_, fun h8 => ?_⟩
  replace h8 := ltT h8
  refine ⟨prt_spec Pi1 (by omega), ?_⟩
  intro i5 hi5
  have ci5 := hi5.1
  have qi5 := Q_sw H hi1 Si1 (lim := 0) (wb := true) (wp := true)
  refine ⟨fun h9 => ?_, fun h9 => ?_⟩
  intro z6 hz6
  rw [wr (by omega) (by omega)] at hz6
  subst hz6
  intro z7 hz7
  rw [wr (by omega) (by omega)] at hz7
  subst hz7
  intro z8 hz8
  rw [wrt (by omega) (by omega) (by omega)] at hz8
  subst hz8
  refine ⟨fun h10 => ?_, fun h10 => ?_⟩
  replace h10 := of_decide_eq_true h10
  refine ⟨fun h11 => ?_, fun h11 => ?_⟩
  replace h11 := of_decide_eq_true h11
  refine ⟨IH _ _ _ _ (Q_pre1 H qi5 hi5) (Q_low1 H HW qi5 hi5) (by omega), ?_⟩
  intro i9 hi9
  intro z10 hz10
  rw [wr (by omega) (by omega)] at hz10
  subst hz10
  exact ⟨_, Q_left H qi5 hi5 hi9, by show (i1.b - (i5.1 + 1)).toNat < (i1.b - i1.a).toNat; omega, Gc.same⟩
  replace h11 := of_decide_eq_false h11
  refine ⟨IH _ _ _ _ (Q_pre1 H qi5 hi5) (Q_low1 H HW qi5 hi5) (by omega), ?_⟩
  intro i9 hi9
  intro z10 hz10
  rw [wr (by omega) (by omega)] at hz10
  subst hz10
  exact ⟨_, Q_left H qi5 hi5 hi9, by show (i1.b - (i5.1 + 1)).toNat < (i1.b - i1.a).toNat; omega, Gc.same⟩
  replace h10 := of_decide_eq_false h10
  refine ⟨fun h11 => ?_, fun h11 => ?_⟩
  replace h11 := of_decide_eq_true h11
  intro z9 hz9
  rw [wr (by omega) (by omega)] at hz9
  subst hz9
  refine ⟨IH _ _ _ _ (Q_pre2 H qi5 hi5) (Q_low2 qi5 hi5) (by omega), ?_⟩
  intro i10 hi10
  exact ⟨_, Q_right H qi5 hi5 hi10, by show (i5.1 - i1.a).toNat < (i1.b - i1.a).toNat; omega, Gc.same⟩
  replace h11 := of_decide_eq_false h11
  intro z9 hz9
  rw [wr (by omega) (by omega)] at hz9
  subst hz9
  refine ⟨IH _ _ _ _ (Q_pre2 H qi5 hi5) (Q_low2 qi5 hi5) (by omega), ?_⟩
  intro i10 hi10
  exact ⟨_, Q_right H qi5 hi5 hi10, by show (i5.1 - i1.a).toNat < (i1.b - i1.a).toNat; omega, Gc.same⟩
  intro z6 hz6
  rw [wr (by omega) (by omega)] at hz6
  subst hz6
  intro z7 hz7
  rw [wr (by omega) (by omega)] at hz7
  subst hz7
  intro z8 hz8
  rw [wrt (by omega) (by omega) (by omega)] at hz8
  subst hz8
  refine ⟨fun h10 => ?_, fun h10 => ?_⟩
  replace h10 := of_decide_eq_true h10
  refine ⟨fun h11 => ?_, fun h11 => ?_⟩
  replace h11 := of_decide_eq_true h11
  refine ⟨IH _ _ _ _ (Q_pre1 H qi5 hi5) (Q_low1 H HW qi5 hi5) (by omega), ?_⟩
  intro i9 hi9
  intro z10 hz10
  rw [wr (by omega) (by omega)] at hz10
  subst hz10
  exact ⟨_, Q_left H qi5 hi5 hi9, by show (i1.b - (i5.1 + 1)).toNat < (i1.b - i1.a).toNat; omega, Gc.same⟩
  replace h11 := of_decide_eq_false h11
  refine ⟨IH _ _ _ _ (Q_pre1 H qi5 hi5) (Q_low1 H HW qi5 hi5) (by omega), ?_⟩
  intro i9 hi9
  intro z10 hz10
  rw [wr (by omega) (by omega)] at hz10
  subst hz10
  exact ⟨_, Q_left H qi5 hi5 hi9, by show (i1.b - (i5.1 + 1)).toNat < (i1.b - i1.a).toNat; omega, Gc.same⟩
  replace h10 := of_decide_eq_false h10
  refine ⟨fun h11 => ?_, fun h11 => ?_⟩
  replace h11 := of_decide_eq_true h11
  intro z9 hz9
  rw [wr (by omega) (by omega)] at hz9
  subst hz9
  refine ⟨IH _ _ _ _ (Q_pre2 H qi5 hi5) (Q_low2 qi5 hi5) (by omega), ?_⟩
  intro i10 hi10
  exact ⟨_, Q_right H qi5 hi5 hi10, by show (i5.1 - i1.a).toNat < (i1.b - i1.a).toNat; omega, Gc.same⟩
  replace h11 := of_decide_eq_false h11
  intro z9 hz9
  rw [wr (by omega) (by omega)] at hz9
  subst hz9
  refine ⟨IH _ _ _ _ (Q_pre2 H qi5 hi5) (Q_low2 qi5 hi5) (by omega), ?_⟩
  intro i10 hi10
  exact ⟨_, Q_right H qi5 hi5 hi10, by show (i5.1 - i1.a).toNat < (i1.b - i1.a).toNat; omega, Gc.same⟩
  replace h8 := ltF h8
  exact h8 (Wi1 h7 _ (by omega) (by omega))
  replace h7 := of_decide_eq_false h7
  refine ⟨prt_spec Pi1 (by omega), ?_⟩
  intro i4 hi4
  have ci4 := hi4.1
  have qi4 := Q_sw H hi1 Si1 (lim := 0) (wb := true) (wp := true)
  refine ⟨fun h8 => ?_, fun h8 => ?_⟩
  intro z5 hz5
  rw [wr (by omega) (by omega)] at hz5
  subst hz5
  intro z6 hz6
  rw [wr (by omega) (by omega)] at hz6
  subst hz6
  intro z7 hz7
  rw [wrt (by omega) (by omega) (by omega)] at hz7
  subst hz7
  refine ⟨fun h9 => ?_, fun h9 => ?_⟩
  replace h9 := of_decide_eq_true h9
  refine ⟨fun h10 => ?_, fun h10 => ?_⟩
  replace h10 := of_decide_eq_true h10
  refine ⟨IH _ _ _ _ (Q_pre1 H qi4 hi4) (Q_low1 H HW qi4 hi4) (by omega), ?_⟩
  intro i8 hi8
  intro z9 hz9
  rw [wr (by omega) (by omega)] at hz9
  subst hz9
  exact ⟨_, Q_left H qi4 hi4 hi8, by show (i1.b - (i4.1 + 1)).toNat < (i1.b - i1.a).toNat; omega, Gc.same⟩
  replace h10 := of_decide_eq_false h10
  refine ⟨IH _ _ _ _ (Q_pre1 H qi4 hi4) (Q_low1 H HW qi4 hi4) (by omega), ?_⟩
  intro i8 hi8
  intro z9 hz9
  rw [wr (by omega) (by omega)] at hz9
  subst hz9
  exact ⟨_, Q_left H qi4 hi4 hi8, by show (i1.b - (i4.1 + 1)).toNat < (i1.b - i1.a).toNat; omega, Gc.same⟩
  replace h9 := of_decide_eq_false h9
  refine ⟨fun h10 => ?_, fun h10 => ?_⟩
  replace h10 := of_decide_eq_true h10
  intro z8 hz8
  rw [wr (by omega) (by omega)] at hz8
  subst hz8
  refine ⟨IH _ _ _ _ (Q_pre2 H qi4 hi4) (Q_low2 qi4 hi4) (by omega), ?_⟩
  intro i9 hi9
  exact ⟨_, Q_right H qi4 hi4 hi9, by show (i4.1 - i1.a).toNat < (i1.b - i1.a).toNat; omega, Gc.same⟩
  replace h10 := of_decide_eq_false h10
  intro z8 hz8
  rw [wr (by omega) (by omega)] at hz8
  subst hz8
  refine ⟨IH _ _ _ _ (Q_pre2 H qi4 hi4) (Q_low2 qi4 hi4) (by omega), ?_⟩
  intro i9 hi9
  exact ⟨_, Q_right H qi4 hi4 hi9, by show (i4.1 - i1.a).toNat < (i1.b - i1.a).toNat; omega, Gc.same⟩
  intro z5 hz5
  rw [wr (by omega) (by omega)] at hz5
  subst hz5
  intro z6 hz6
  rw [wr (by omega) (by omega)] at hz6
  subst hz6
  intro z7 hz7
  rw [wrt (by omega) (by omega) (by omega)] at hz7
  subst hz7
  refine ⟨fun h9 => ?_, fun h9 => ?_⟩
  replace h9 := of_decide_eq_true h9
  refine ⟨fun h10 => ?_, fun h10 => ?_⟩
  replace h10 := of_decide_eq_true h10
  refine ⟨IH _ _ _ _ (Q_pre1 H qi4 hi4) (Q_low1 H HW qi4 hi4) (by omega), ?_⟩
  intro i8 hi8
  intro z9 hz9
  rw [wr (by omega) (by omega)] at hz9
  subst hz9
  exact ⟨_, Q_left H qi4 hi4 hi8, by show (i1.b - (i4.1 + 1)).toNat < (i1.b - i1.a).toNat; omega, Gc.same⟩
  replace h10 := of_decide_eq_false h10
  refine ⟨IH _ _ _ _ (Q_pre1 H qi4 hi4) (Q_low1 H HW qi4 hi4) (by omega), ?_⟩
  intro i8 hi8
  intro z9 hz9
  rw [wr (by omega) (by omega)] at hz9
  subst hz9
  exact ⟨_, Q_left H qi4 hi4 hi8, by show (i1.b - (i4.1 + 1)).toNat < (i1.b - i1.a).toNat; omega, Gc.same⟩
  replace h9 := of_decide_eq_false h9
  refine ⟨fun h10 => ?_, fun h10 => ?_⟩
  replace h10 := of_decide_eq_true h10
  intro z8 hz8
  rw [wr (by omega) (by omega)] at hz8
  subst hz8
  refine ⟨IH _ _ _ _ (Q_pre2 H qi4 hi4) (Q_low2 qi4 hi4) (by omega), ?_⟩
  intro i9 hi9
  exact ⟨_, Q_right H qi4 hi4 hi9, by show (i4.1 - i1.a).toNat < (i1.b - i1.a).toNat; omega, Gc.same⟩
  replace h10 := of_decide_eq_false h10
  intro z8 hz8
  rw [wr (by omega) (by omega)] at hz8
  subst hz8
  refine ⟨IH _ _ _ _ (Q_pre2 H qi4 hi4) (Q_low2 qi4 hi4) (by omega), ?_⟩
  intro i9 hi9
  exact ⟨_, Q_right H qi4 hi4 hi9, by show (i4.1 - i1.a).toNat < (i1.b - i1.a).toNat; omega, Gc.same⟩
  refine ⟨fun h6 => ?_, fun h6 => ?_⟩
  replace h6 := of_decide_eq_true h6
  intro z4 hz4
  rw [wr (by omega) (by omega)] at hz4
  subst hz4
  refine ⟨ixa (by omega) (by omega), ?_⟩
  refine ⟨lda (by first | omega | (rw [List.length_set]; omega)), ?_⟩
  refine ⟨ixa (by omega) (by omega), ?_⟩
  refine ⟨lda (by first | omega | (rw [List.length_set]; omega)), ?_⟩
  refine ⟨cmp_ok _ _ _, ?_⟩
  intro _ h_
  refine ⟨fun h7 => ?_, fun h7 => ?_⟩
  replace h7 := ltT h7
  refine ⟨prt_spec Pi1 (by omega), ?_⟩
  intro i5 hi5
  have ci5 := hi5.1
  have qi5 := Q_sw H hi1 Si1 (lim := 0) (wb := true) (wp := true)
  refine ⟨fun h8 => ?_, fun h8 => ?_⟩
  intro z6 hz6
  rw [wr (by omega) (by omega)] at hz6
  subst hz6
  intro z7 hz7
  rw [wr (by omega) (by omega)] at hz7
  subst hz7
  intro z8 hz8
  rw [wrt (by omega) (by omega) (by omega)] at hz8
  subst hz8
  refine ⟨fun h9 => ?_, fun h9 => ?_⟩
  replace h9 := of_decide_eq_true h9
  refine ⟨fun h10 => ?_, fun h10 => ?_⟩
  replace h10 := of_decide_eq_true h10
  refine ⟨IH _ _ _ _ (Q_pre1 H qi5 hi5) (Q_low1 H HW qi5 hi5) (by omega), ?_⟩
  intro i9 hi9
  intro z10 hz10
  rw [wr (by omega) (by omega)] at hz10
  subst hz10
  exact ⟨_, Q_left H qi5 hi5 hi9, by show (i1.b - (i5.1 + 1)).toNat < (i1.b - i1.a).toNat; omega, Gc.same⟩
  replace h10 := of_decide_eq_false h10
  refine ⟨IH _ _ _ _ (Q_pre1 H qi5 hi5) (Q_low1 H HW qi5 hi5) (by omega), ?_⟩
  intro i9 hi9
  intro z10 hz10
  rw [wr (by omega) (by omega)] at hz10
  subst hz10
  exact ⟨_, Q_left H qi5 hi5 hi9, by show (i1.b - (i5.1 + 1)).toNat < (i1.b - i1.a).toNat; omega, Gc.same⟩
  replace h9 := of_decide_eq_false h9
  refine ⟨fun h10 => ?_, fun h10 => ?_⟩
  replace h10 := of_decide_eq_true h10
  intro z9 hz9
  rw [wr (by omega) (by omega)] at hz9
  subst hz9
  refine ⟨IH _ _ _ _ (Q_pre2 H qi5 hi5) (Q_low2 qi5 hi5) (by omega), ?_⟩
  intro i10 hi10
  exact ⟨_, Q_right H qi5 hi5 hi10, by show (i5.1 - i1.a).toNat < (i1.b - i1.a).toNat; omega, Gc.same⟩
  replace h10 := of_decide_eq_false h10
  intro z9 hz9
  rw [wr (by omega) (by omega)] at hz9
  subst hz9
  refine ⟨IH _ _ _ _ (Q_pre2 H qi5 hi5) (Q_low2 qi5 hi5) (by omega), ?_⟩
  intro i10 hi10
  exact ⟨_, Q_right H qi5 hi5 hi10, by show (i5.1 - i1.a).toNat < (i1.b - i1.a).toNat; omega, Gc.same⟩
  intro z6 hz6
  rw [wr (by omega) (by omega)] at hz6
  subst hz6
  intro z7 hz7
  rw [wr (by omega) (by omega)] at hz7
  subst hz7
  intro z8 hz8
  rw [wrt (by omega) (by omega) (by omega)] at hz8
  subst hz8
  refine ⟨fun h9 => ?_, fun h9 => ?_⟩
  replace h9 := of_decide_eq_true h9
  refine ⟨fun h10 => ?_, fun h10 => ?_⟩
  replace h10 := of_decide_eq_true h10
  refine ⟨IH _ _ _ _ (Q_pre1 H qi5 hi5) (Q_low1 H HW qi5 hi5) (by omega), ?_⟩
  intro i9 hi9
  intro z10 hz10
  rw [wr (by omega) (by omega)] at hz10
  subst hz10
  exact ⟨_, Q_left H qi5 hi5 hi9, by show (i1.b - (i5.1 + 1)).toNat < (i1.b - i1.a).toNat; omega, Gc.same⟩
  replace h10 := of_decide_eq_false h10
  refine ⟨IH _ _ _ _ (Q_pre1 H qi5 hi5) (Q_low1 H HW qi5 hi5) (by omega), ?_⟩
  intro i9 hi9
  intro z10 hz10
  rw [wr (by omega) (by omega)] at hz10
  subst hz10
  exact ⟨_, Q_left H qi5 hi5 hi9, by show (i1.b - (i5.1 + 1)).toNat < (i1.b - i1.a).toNat; omega, Gc.same⟩
  replace h9 := of_decide_eq_false h9
  refine ⟨fun h10 => ?_, fun h10 => ?_⟩
  replace h10 := of_decide_eq_true h10
  intro z9 hz9
  rw [wr (by omega) (by omega)] at hz9
  subst hz9
  refine ⟨IH _ _ _ _ (Q_pre2 H qi5 hi5) (Q_low2 qi5 hi5) (by omega), ?_⟩
  intro i10 hi10
  exact ⟨_, Q_right H qi5 hi5 hi10, by show (i5.1 - i1.a).toNat < (i1.b - i1.a).toNat; omega, Gc.same⟩
  replace h10 := of_decide_eq_false h10
  intro z9 hz9
  rw [wr (by omega) (by omega)] at hz9
  subst hz9
  refine ⟨IH _ _ _ _ (Q_pre2 H qi5 hi5) (Q_low2 qi5 hi5) (by omega), ?_⟩
  intro i10 hi10
  exact ⟨_, Q_right H qi5 hi5 hi10, by show (i5.1 - i1.a).toNat < (i1.b - i1.a).toNat; omega, Gc.same⟩
  replace h7 := ltF h7
  exact h7 (Wi1 h6 _ (by omega) (by omega))
  replace h6 := of_decide_eq_false h6
  refine ⟨prt_spec Pi1 (by omega), ?_⟩
  intro i4 hi4
  have ci4 := hi4.1
  have qi4 := Q_sw H hi1 Si1 (lim := 0) (wb := true) (wp := true)
  refine ⟨fun h7 => ?_, fun h7 => ?_⟩
  intro z5 hz5
  rw [wr (by omega) (by omega)] at hz5
  subst hz5
  intro z6 hz6
  rw [wr (by omega) (by omega)] at hz6
  subst hz6
  intro z7 hz7
  rw [wrt (by omega) (by omega) (by omega)] at hz7
  subst hz7
  refine ⟨fun h8 => ?_, fun h8 => ?_⟩
  replace h8 := of_decide_eq_true h8
  refine ⟨fun h9 => ?_, fun h9 => ?_⟩
  replace h9 := of_decide_eq_true h9
  refine ⟨IH _ _ _ _ (Q_pre1 H qi4 hi4) (Q_low1 H HW qi4 hi4) (by omega), ?_⟩
  intro i8 hi8
  intro z9 hz9
  rw [wr (by omega) (by omega)] at hz9
  subst hz9
  exact ⟨_, Q_left H qi4 hi4 hi8, by show (i1.b - (i4.1 + 1)).toNat < (i1.b - i1.a).toNat; omega, Gc.same⟩
  replace h9 := of_decide_eq_false h9
  refine ⟨IH _ _ _ _ (Q_pre1 H qi4 hi4) (Q_low1 H HW qi4 hi4) (by omega), ?_⟩
  intro i8 hi8
  intro z9 hz9
  rw [wr (by omega) (by omega)] at hz9
  subst hz9
  exact ⟨_, Q_left H qi4 hi4 hi8, by show (i1.b - (i4.1 + 1)).toNat < (i1.b - i1.a).toNat; omega, Gc.same⟩
  replace h8 := of_decide_eq_false h8
  refine ⟨fun h9 => ?_, fun h9 => ?_⟩
  replace h9 := of_decide_eq_true h9
  intro z8 hz8
  rw [wr (by omega) (by omega)] at hz8
  subst hz8
  refine ⟨IH _ _ _ _ (Q_pre2 H qi4 hi4) (Q_low2 qi4 hi4) (by omega), ?_⟩
  intro i9 hi9
  exact ⟨_, Q_right H qi4 hi4 hi9, by show (i4.1 - i1.a).toNat < (i1.b - i1.a).toNat; omega, Gc.same⟩
  replace h9 := of_decide_eq_false h9
  intro z8 hz8
  rw [wr (by omega) (by omega)] at hz8
  subst hz8
  refine ⟨IH _ _ _ _ (Q_pre2 H qi4 hi4) (Q_low2 qi4 hi4) (by omega), ?_⟩
  intro i9 hi9
  exact ⟨_, Q_right H qi4 hi4 hi9, by show (i4.1 - i1.a).toNat < (i1.b - i1.a).toNat; omega, Gc.same⟩
  intro z5 hz5
  rw [wr (by omega) (by omega)] at hz5
  subst hz5
  intro z6 hz6
  rw [wr (by omega) (by omega)] at hz6
  subst hz6
  intro z7 hz7
  rw [wrt (by omega) (by omega) (by omega)] at hz7
  subst hz7
  refine ⟨fun h8 => ?_, fun h8 => ?_⟩
  replace h8 := of_decide_eq_true h8
  refine ⟨fun h9 => ?_, fun h9 => ?_⟩
  replace h9 := of_decide_eq_true h9
  refine ⟨IH _ _ _ _ (Q_pre1 H qi4 hi4) (Q_low1 H HW qi4 hi4) (by omega), ?_⟩
  intro i8 hi8
  intro z9 hz9
  rw [wr (by omega) (by omega)] at hz9
  subst hz9
  exact ⟨_, Q_left H qi4 hi4 hi8, by show (i1.b - (i4.1 + 1)).toNat < (i1.b - i1.a).toNat; omega, Gc.same⟩
  replace h9 := of_decide_eq_false h9
  refine ⟨IH _ _ _ _ (Q_pre1 H qi4 hi4) (Q_low1 H HW qi4 hi4) (by omega), ?_⟩
  intro i8 hi8
  intro z9 hz9
  rw [wr (by omega) (by omega)] at hz9
  subst hz9
  exact ⟨_, Q_left H qi4 hi4 hi8, by show (i1.b - (i4.1 + 1)).toNat < (i1.b - i1.a).toNat; omega, Gc.same⟩
  replace h8 := of_decide_eq_false h8
  refine ⟨fun h9 => ?_, fun h9 => ?_⟩
  replace h9 := of_decide_eq_true h9
  intro z8 hz8
  rw [wr (by omega) (by omega)] at hz8
  subst hz8
  refine ⟨IH _ _ _ _ (Q_pre2 H qi4 hi4) (Q_low2 qi4 hi4) (by omega), ?_⟩
  intro i9 hi9
  exact ⟨_, Q_right H qi4 hi4 hi9, by show (i4.1 - i1.a).toNat < (i1.b - i1.a).toNat; omega, Gc.same⟩
  replace h9 := of_decide_eq_false h9
  intro z8 hz8
  rw [wr (by omega) (by omega)] at hz8
  subst hz8
  refine ⟨IH _ _ _ _ (Q_pre2 H qi4 hi4) (Q_low2 qi4 hi4) (by omega), ?_⟩
  intro i9 hi9
  exact ⟨_, Q_right H qi4 hi4 hi9, by show (i4.1 - i1.a).toNat < (i1.b - i1.a).toNat; omega, Gc.same⟩
  exact absurd (h2.symm.trans h4) (by decide)
  refine ⟨brk_spec Pi1 HN, ?_⟩
  intro i3 hi3
  have Si3 := Si1.trans hi3
  have qi3 := Q_sw H hi1 Si3 (lim := 0) (wb := true) (wp := true)
  have Pi3 : Pre nkE i3 n i1.a i1.b := by have x := Q_pre H qi3; exact x
  have Wi3 : Low nkE i1.a i1.b i3 := by have x := Q_low H HW qi3; exact x
  have Li3 := Pi3.len
  intro z4 _
  refine ⟨cho_spec Pi3 (by omega), ?_⟩
  intro i5 hi5
  unfold pCho at hi5
  refine ⟨fun h3 => ?_, fun h3 => ?_⟩
  replace h3 := beq_iff_eq.1 h3
  refine ⟨asks_of (rev_spec Pi3), ?_⟩
  intro i6 hi6
  have Si6 := Si3.trans hi6
  have qi6 := Q_sw H hi1 Si6 (lim := 0) (wb := true) (wp := true)
  have Pi6 : Pre nkE i6 n i1.a i1.b := by have x := Q_pre H qi6; exact x
  have Wi6 : Low nkE i1.a i1.b i6 := by have x := Q_low H HW qi6; exact x
  have Li6 := Pi6.len
  intro z7 hz7
  rw [wr (by omega) (by omega)] at hz7
  subst hz7
  intro z8 hz8
  rw [wr (by omega) (by omega)] at hz8
  subst hz8
  intro z9 hz9
  rw [wr (by omega) (by omega)] at hz9
  subst hz9
  refine ⟨fun h4 => ?_, fun h4 => ?_⟩
  exact absurd (h2.symm.trans h4) (by decide)
  refine ⟨fun h5 => ?_, fun h5 => ?_⟩
  replace h5 := of_decide_eq_true h5
  intro z10 hz10
  rw [wr (by omega) (by omega)] at hz10
  subst hz10
  refine ⟨ixa (by omega) (by omega), ?_⟩
  refine ⟨lda (by first | omega | (rw [List.length_set]; omega)), ?_⟩
  refine ⟨ixa (by omega) (by omega), ?_⟩
  refine ⟨lda (by first | omega | (rw [List.length_set]; omega)), ?_⟩
  refine ⟨cmp_ok _ _ _, ?_⟩
  intro _ h_
  refine ⟨fun h6 => ?_, fun h6 => ?_⟩
  replace h6 := ltT h6
  refine ⟨prt_spec Pi6 (by omega), ?_⟩
  intro i11 hi11
  have ci11 := hi11.1
  have qi11 := Q_sw H hi1 Si6 (lim := 0) (wb := true) (wp := true)
  refine ⟨fun h7 => ?_, fun h7 => ?_⟩
  intro z12 hz12
  rw [wr (by omega) (by omega)] at hz12
  subst hz12
  intro z13 hz13
  rw [wr (by omega) (by omega)] at hz13
  subst hz13
  intro z14 hz14
  rw [wrt (by omega) (by omega) (by omega)] at hz14
  subst hz14
  refine ⟨fun h8 => ?_, fun h8 => ?_⟩
  replace h8 := of_decide_eq_true h8
  refine ⟨fun h9 => ?_, fun h9 => ?_⟩
  replace h9 := of_decide_eq_true h9
  refine ⟨IH _ _ _ _ (Q_pre1 H qi11 hi11) (Q_low1 H HW qi11 hi11) (by omega), ?_⟩
  intro i15 hi15
  intro z16 hz16
  rw [wr (by omega) (by omega)] at hz16
  subst hz16
  exact ⟨_, Q_left H qi11 hi11 hi15, by show (i1.b - (i11.1 + 1)).toNat < (i1.b - i1.a).toNat; omega, Gc.same⟩
  replace h9 := of_decide_eq_false h9
  refine ⟨IH _ _ _ _ (Q_pre1 H qi11 hi11) (Q_low1 H HW qi11 hi11) (by omega), ?_⟩
  intro i15 hi15
  intro z16 hz16
  rw [wr (by omega) (by omega)] at hz16
  subst hz16
  exact ⟨_, Q_left H qi11 hi11 hi15, by show (i1.b - (i11.1 + 1)).toNat < (i1.b - i1.a).toNat; omega, Gc.same⟩
  replace h8 := of_decide_eq_false h8
  refine ⟨fun h9 => ?_, fun h9 => ?_⟩
  replace h9 := of_decide_eq_true h9
  intro z15 hz15
  rw [wr (by omega) (by omega)] at hz15
  subst hz15
  refine ⟨IH _ _ _ _ (Q_pre2 H qi11 hi11) (Q_low2 qi11 hi11) (by omega), ?_⟩
  intro i16 hi16
  exact ⟨_, Q_right H qi11 hi11 hi16, by show (i11.1 - i1.a).toNat < (i1.b - i1.a).toNat; omega, Gc.same⟩
  replace h9 := of_decide_eq_false h9
  intro z15 hz15
  rw [wr (by omega) (by omega)] at hz15
  subst hz15
  refine ⟨IH _ _ _ _ (Q_pre2 H qi11 hi11) (Q_low2 qi11 hi11) (by omega), ?_⟩
  intro i16 hi16
  exact ⟨_, Q_right H qi11 hi11 hi16, by show (i11.1 - i1.a).toNat < (i1.b - i1.a).toNat; omega, Gc.same⟩
  intro z12 hz12
  rw [wr (by omega) (by omega)] at hz12
  subst hz12
  intro z13 hz13
  rw [wr (by omega) (by omega)] at hz13
  subst hz13
  intro z14 hz14
  rw [wrt (by omega) (by omega) (by omega)] at hz14
  subst hz14
  refine ⟨fun h8 => ?_, fun h8 => ?_⟩
  replace h8 := of_decide_eq_true h8
  refine ⟨fun h9 => ?_, fun h9 => ?_⟩
  replace h9 := of_decide_eq_true h9
  refine ⟨IH _ _ _ _ (Q_pre1 H qi11 hi11) (Q_low1 H HW qi11 hi11) (by omega), ?_⟩
  intro i15 hi15
  intro z16 hz16
  rw [wr (by omega) (by omega)] at hz16
  subst hz16
  exact ⟨_, Q_left H qi11 hi11 hi15, by show (i1.b - (i11.1 + 1)).toNat < (i1.b - i1.a).toNat; omega, Gc.same⟩
  replace h9 := of_decide_eq_false h9
  refine ⟨IH _ _ _ _ (Q_pre1 H qi11 hi11) (Q_low1 H HW qi11 hi11) (by omega), ?_⟩
  intro i15 hi15
  intro z16 hz16
  rw [wr (by omega) (by omega)] at hz16
  subst hz16
  exact ⟨_, Q_left H qi11 hi11 hi15, by show (i1.b - (i11.1 + 1)).toNat < (i1.b - i1.a).toNat; omega, Gc.same⟩
  replace h8 := of_decide_eq_false h8
  refine ⟨fun h9 => ?_, fun h9 => ?_⟩
  replace h9 := of_decide_eq_true h9
  intro z15 hz15
  rw [wr (by omega) (by omega)] at hz15
  subst hz15
  refine ⟨IH _ _ _ _ (Q_pre2 H qi11 hi11) (Q_low2 qi11 hi11) (by omega), ?_⟩
  intro i16 hi16
  exact ⟨_, Q_right H qi11 hi11 hi16, by show (i11.1 - i1.a).toNat < (i1.b - i1.a).toNat; omega, Gc.same⟩
  replace h9 := of_decide_eq_false h9
  intro z15 hz15
  rw [wr (by omega) (by omega)] at hz15
  subst hz15
  refine ⟨IH _ _ _ _ (Q_pre2 H qi11 hi11) (Q_low2 qi11 hi11) (by omega), ?_⟩
  intro i16 hi16
  exact ⟨_, Q_right H qi11 hi11 hi16, by show (i11.1 - i1.a).toNat < (i1.b - i1.a).toNat; omega, Gc.same⟩
  replace h6 := ltF h6
  exact h6 (Wi6 h5 _ (by omega) (by omega))
  replace h5 := of_decide_eq_false h5
  refine ⟨prt_spec Pi6 (by omega), ?_⟩
  intro i10 hi10
  have ci10 := hi10.1
  have qi10 := Q_sw H hi1 Si6 (lim := 0) (wb := true) (wp := true)
  refine ⟨fun h6 => ?_, fun h6 => ?_⟩
  intro z11 hz11
  rw [wr (by omega) (by omega)] at hz11
  subst hz11
  intro z12 hz12
  rw [wr (by omega) (by omega)] at hz12
  subst hz12
  intro z13 hz13
  rw [wrt (by omega) (by omega) (by omega)] at hz13
  subst hz13
  refine ⟨fun h7 => ?_, fun h7 => ?_⟩
  replace h7 := of_decide_eq_true h7
  refine ⟨fun h8 => ?_, fun h8 => ?_⟩
  replace h8 := of_decide_eq_true h8
  refine ⟨IH _ _ _ _ (Q_pre1 H qi10 hi10) (Q_low1 H HW qi10 hi10) (by omega), ?_⟩
  intro i14 hi14
  intro z15 hz15
  rw [wr (by omega) (by omega)] at hz15
  subst hz15
  exact ⟨_, Q_left H qi10 hi10 hi14, by show (i1.b - (i10.1 + 1)).toNat < (i1.b - i1.a).toNat; omega, Gc.same⟩
  replace h8 := of_decide_eq_false h8
  refine ⟨IH _ _ _ _ (Q_pre1 H qi10 hi10) (Q_low1 H HW qi10 hi10) (by omega), ?_⟩
  intro i14 hi14
  intro z15 hz15
  rw [wr (by omega) (by omega)] at hz15
  subst hz15
  exact ⟨_, Q_left H qi10 hi10 hi14, by show (i1.b - (i10.1 + 1)).toNat < (i1.b - i1.a).toNat; omega, Gc.same⟩
  replace h7 := of_decide_eq_false h7
  refine ⟨fun h8 => ?_, fun h8 => ?_⟩
  replace h8 := of_decide_eq_true h8
  intro z14 hz14
  rw [wr (by omega) (by omega)] at hz14
  subst hz14
  refine ⟨IH _ _ _ _ (Q_pre2 H qi10 hi10) (Q_low2 qi10 hi10) (by omega), ?_⟩
  intro i15 hi15
  exact ⟨_, Q_right H qi10 hi10 hi15, by show (i10.1 - i1.a).toNat < (i1.b - i1.a).toNat; omega, Gc.same⟩
  replace h8 := of_decide_eq_false h8
  intro z14 hz14
  rw [wr (by omega) (by omega)] at hz14
  subst hz14
  refine ⟨IH _ _ _ _ (Q_pre2 H qi10 hi10) (Q_low2 qi10 hi10) (by omega), ?_⟩
  intro i15 hi15
  exact ⟨_, Q_right H qi10 hi10 hi15, by show (i10.1 - i1.a).toNat < (i1.b - i1.a).toNat; omega, Gc.same⟩
  intro z11 hz11
  rw [wr (by omega) (by omega)] at hz11
  subst hz11
  intro z12 hz12
  rw [wr (by omega) (by omega)] at hz12
  subst hz12
  intro z13 hz13
  rw [wrt (by omega) (by omega) (by omega)] at hz13
  subst hz13
  refine ⟨fun h7 => ?_, fun h7 => ?_⟩
  replace h7 := of_decide_eq_true h7
  refine ⟨fun h8 => ?_, fun h8 => ?_⟩
  replace h8 := of_decide_eq_true h8
  refine ⟨IH _ _ _ _ (Q_pre1 H qi10 hi10) (Q_low1 H HW qi10 hi10) (by omega), ?_⟩
  intro i14 hi14
  intro z15 hz15
  rw [wr (by omega) (by omega)] at hz15
  subst hz15
  exact ⟨_, Q_left H qi10 hi10 hi14, by show (i1.b - (i10.1 + 1)).toNat < (i1.b - i1.a).toNat; omega, Gc.same⟩
  replace h8 := of_decide_eq_false h8
  refine ⟨IH _ _ _ _ (Q_pre1 H qi10 hi10) (Q_low1 H HW qi10 hi10) (by omega), ?_⟩
  intro i14 hi14
  intro z15 hz15
  rw [wr (by omega) (by omega)] at hz15
  subst hz15
  exact ⟨_, Q_left H qi10 hi10 hi14, by show (i1.b - (i10.1 + 1)).toNat < (i1.b - i1.a).toNat; omega, Gc.same⟩
  replace h7 := of_decide_eq_false h7
  refine ⟨fun h8 => ?_, fun h8 => ?_⟩
  replace h8 := of_decide_eq_true h8
  intro z14 hz14
  rw [wr (by omega) (by omega)] at hz14
  subst hz14
  refine ⟨IH _ _ _ _ (Q_pre2 H qi10 hi10) (Q_low2 qi10 hi10) (by omega), ?_⟩
  intro i15 hi15
  exact ⟨_, Q_right H qi10 hi10 hi15, by show (i10.1 - i1.a).toNat < (i1.b - i1.a).toNat; omega, Gc.same⟩
  replace h8 := of_decide_eq_false h8
  intro z14 hz14
  rw [wr (by omega) (by omega)] at hz14
  subst hz14
  refine ⟨IH _ _ _ _ (Q_pre2 H qi10 hi10) (Q_low2 qi10 hi10) (by omega), ?_⟩
  intro i15 hi15
  exact ⟨_, Q_right H qi10 hi10 hi15, by show (i10.1 - i1.a).toNat < (i1.b - i1.a).toNat; omega, Gc.same⟩
  replace h3 := ne_of_beq_false h3
  refine ⟨fun h4 => ?_, fun h4 => ?_⟩
  exact absurd (h2.symm.trans h4) (by decide)
  refine ⟨fun h5 => ?_, fun h5 => ?_⟩
  replace h5 := of_decide_eq_true h5
  intro z6 hz6
  rw [wr (by omega) (by omega)] at hz6
  subst hz6
  refine ⟨ixa (by omega) (by omega), ?_⟩
  refine ⟨lda (by first | omega | (rw [List.length_set]; omega)), ?_⟩
  refine ⟨ixa (by omega) (by omega), ?_⟩
  refine ⟨lda (by first | omega | (rw [List.length_set]; omega)), ?_⟩
  refine ⟨cmp_ok _ _ _, ?_⟩
  intro _ h_
  refine ⟨fun h6 => ?_, fun h6 => ?_⟩
  replace h6 := ltT h6
  refine ⟨prt_spec Pi3 (by omega), ?_⟩
  intro i7 hi7
  have ci7 := hi7.1
  have qi7 := Q_sw H hi1 Si3 (lim := 0) (wb := true) (wp := true)
  refine ⟨fun h7 => ?_, fun h7 => ?_⟩
  intro z8 hz8
  rw [wr (by omega) (by omega)] at hz8
  subst hz8
  intro z9 hz9
  rw [wr (by omega) (by omega)] at hz9
  subst hz9
  intro z10 hz10
  rw [wrt (by omega) (by omega) (by omega)] at hz10
  subst hz10
  refine ⟨fun h8 => ?_, fun h8 => ?_⟩
  replace h8 := of_decide_eq_true h8
  refine ⟨fun h9 => ?_, fun h9 => ?_⟩
  replace h9 := of_decide_eq_true h9
  refine ⟨IH _ _ _ _ (Q_pre1 H qi7 hi7) (Q_low1 H HW qi7 hi7) (by omega), ?_⟩
  intro i11 hi11
  intro z12 hz12
  rw [wr (by omega) (by omega)] at hz12
  subst hz12
  exact ⟨_, Q_left H qi7 hi7 hi11, by show (i1.b - (i7.1 + 1)).toNat < (i1.b - i1.a).toNat; omega, Gc.same⟩
  replace h9 := of_decide_eq_false h9
  refine ⟨IH _ _ _ _ (Q_pre1 H qi7 hi7) (Q_low1 H HW qi7 hi7) (by omega), ?_⟩
  intro i11 hi11
  intro z12 hz12
  rw [wr (by omega) (by omega)] at hz12
  subst hz12
  exact ⟨_, Q_left H qi7 hi7 hi11, by show (i1.b - (i7.1 + 1)).toNat < (i1.b - i1.a).toNat; omega, Gc.same⟩
  replace h8 := of_decide_eq_false h8
  refine ⟨fun h9 => ?_, fun h9 => ?_⟩
  replace h9 := of_decide_eq_true h9
  intro z11 hz11
  rw [wr (by omega) (by omega)] at hz11
  subst hz11
  refine ⟨IH _ _ _ _ (Q_pre2 H qi7 hi7) (Q_low2 qi7 hi7) (by omega), ?_⟩
  intro i12 hi12
  exact ⟨_, Q_right H qi7 hi7 hi12, by show (i7.1 - i1.a).toNat < (i1.b - i1.a).toNat; omega, Gc.same⟩
  replace h9 := of_decide_eq_false h9
  intro z11 hz11
  rw [wr (by omega) (by omega)] at hz11
  subst hz11
  refine ⟨IH _ _ _ _ (Q_pre2 H qi7 hi7) (Q_low2 qi7 hi7) (by omega), ?_⟩
  intro i12 hi12
  exact ⟨_, Q_right H qi7 hi7 hi12, by show (i7.1 - i1.a).toNat < (i1.b - i1.a).toNat; omega, Gc.same⟩
  intro z8 hz8
  rw [wr (by omega) (by omega)] at hz8
  subst hz8
  intro z9 hz9
  rw [wr (by omega) (by omega)] at hz9
  subst hz9
  intro z10 hz10
  rw [wrt (by omega) (by omega) (by omega)] at hz10
  subst hz10
  refine ⟨fun h8 => ?_, fun h8 => ?_⟩
  replace h8 := of_decide_eq_true h8
  refine ⟨fun h9 => ?_, fun h9 => ?_⟩
  replace h9 := of_decide_eq_true h9
  refine ⟨IH _ _ _ _ (Q_pre1 H qi7 hi7) (Q_low1 H HW qi7 hi7) (by omega), ?_⟩
  intro i11 hi11
  intro z12 hz12
  rw [wr (by omega) (by omega)] at hz12
  subst hz12
  exact ⟨_, Q_left H qi7 hi7 hi11, by show (i1.b - (i7.1 + 1)).toNat < (i1.b - i1.a).toNat; omega, Gc.same⟩
  replace h9 := of_decide_eq_false h9
  refine ⟨IH _ _ _ _ (Q_pre1 H qi7 hi7) (Q_low1 H HW qi7 hi7) (by omega), ?_⟩
  intro i11 hi11
  intro z12 hz12
  rw [wr (by omega) (by omega)] at hz12
  subst hz12
  exact ⟨_, Q_left H qi7 hi7 hi11, by show (i1.b - (i7.1 + 1)).toNat < (i1.b - i1.a).toNat; omega, Gc.same⟩
  replace h8 := of_decide_eq_false h8
  refine ⟨fun h9 => ?_, fun h9 => ?_⟩
  replace h9 := of_decide_eq_true h9
  intro z11 hz11
  rw [wr (by omega) (by omega)] at hz11
  subst hz11
  refine ⟨IH _ _ _ _ (Q_pre2 H qi7 hi7) (Q_low2 qi7 hi7) (by omega), ?_⟩
  intro i12 hi12
  exact ⟨_, Q_right H qi7 hi7 hi12, by show (i7.1 - i1.a).toNat < (i1.b - i1.a).toNat; omega, Gc.same⟩
  replace h9 := of_decide_eq_false h9
  intro z11 hz11
  rw [wr (by omega) (by omega)] at hz11
  subst hz11
  refine ⟨IH _ _ _ _ (Q_pre2 H qi7 hi7) (Q_low2 qi7 hi7) (by omega), ?_⟩
  intro i12 hi12
  exact ⟨_, Q_right H qi7 hi7 hi12, by show (i7.1 - i1.a).toNat < (i1.b - i1.a).toNat; omega, Gc.same⟩
  replace h6 := ltF h6
  exact h6 (Wi3 h5 _ (by omega) (by omega))
  replace h5 := of_decide_eq_false h5
  refine ⟨prt_spec Pi3 (by omega), ?_⟩
  intro i6 hi6
  have ci6 := hi6.1
  have qi6 := Q_sw H hi1 Si3 (lim := 0) (wb := true) (wp := true)
  refine ⟨fun h6 => ?_, fun h6 => ?_⟩
  intro z7 hz7
  rw [wr (by omega) (by omega)] at hz7
  subst hz7
  intro z8 hz8
  rw [wr (by omega) (by omega)] at hz8
  subst hz8
  intro z9 hz9
  rw [wrt (by omega) (by omega) (by omega)] at hz9
  subst hz9
  refine ⟨fun h7 => ?_, fun h7 => ?_⟩
  replace h7 := of_decide_eq_true h7
  refine ⟨fun h8 => ?_, fun h8 => ?_⟩
  replace h8 := of_decide_eq_true h8
  refine ⟨IH _ _ _ _ (Q_pre1 H qi6 hi6) (Q_low1 H HW qi6 hi6) (by omega), ?_⟩
  intro i10 hi10
  intro z11 hz11
  rw [wr (by omega) (by omega)] at hz11
  subst hz11
  exact ⟨_, Q_left H qi6 hi6 hi10, by show (i1.b - (i6.1 + 1)).toNat < (i1.b - i1.a).toNat; omega, Gc.same⟩
  replace h8 := of_decide_eq_false h8
  refine ⟨IH _ _ _ _ (Q_pre1 H qi6 hi6) (Q_low1 H HW qi6 hi6) (by omega), ?_⟩
  intro i10 hi10
  intro z11 hz11
  rw [wr (by omega) (by omega)] at hz11
  subst hz11
  exact ⟨_, Q_left H qi6 hi6 hi10, by show (i1.b - (i6.1 + 1)).toNat < (i1.b - i1.a).toNat; omega, Gc.same⟩
  replace h7 := of_decide_eq_false h7
  refine ⟨fun h8 => ?_, fun h8 => ?_⟩
  replace h8 := of_decide_eq_true h8
  intro z10 hz10
  rw [wr (by omega) (by omega)] at hz10
  subst hz10
  refine ⟨IH _ _ _ _ (Q_pre2 H qi6 hi6) (Q_low2 qi6 hi6) (by omega), ?_⟩
  intro i11 hi11
  exact ⟨_, Q_right H qi6 hi6 hi11, by show (i6.1 - i1.a).toNat < (i1.b - i1.a).toNat; omega, Gc.same⟩
  replace h8 := of_decide_eq_false h8
  intro z10 hz10
  rw [wr (by omega) (by omega)] at hz10
  subst hz10
  refine ⟨IH _ _ _ _ (Q_pre2 H qi6 hi6) (Q_low2 qi6 hi6) (by omega), ?_⟩
  intro i11 hi11
  exact ⟨_, Q_right H qi6 hi6 hi11, by show (i6.1 - i1.a).toNat < (i1.b - i1.a).toNat; omega, Gc.same⟩
  intro z7 hz7
  rw [wr (by omega) (by omega)] at hz7
  subst hz7
  intro z8 hz8
  rw [wr (by omega) (by omega)] at hz8
  subst hz8
  intro z9 hz9
  rw [wrt (by omega) (by omega) (by omega)] at hz9
  subst hz9
  refine ⟨fun h7 => ?_, fun h7 => ?_⟩
  replace h7 := of_decide_eq_true h7
  refine ⟨fun h8 => ?_, fun h8 => ?_⟩
  replace h8 := of_decide_eq_true h8
  refine ⟨IH _ _ _ _ (Q_pre1 H qi6 hi6) (Q_low1 H HW qi6 hi6) (by omega), ?_⟩
  intro i10 hi10
  intro z11 hz11
  rw [wr (by omega) (by omega)] at hz11
  subst hz11
  exact ⟨_, Q_left H qi6 hi6 hi10, by show (i1.b - (i6.1 + 1)).toNat < (i1.b - i1.a).toNat; omega, Gc.same⟩
  replace h8 := of_decide_eq_false h8
  refine ⟨IH _ _ _ _ (Q_pre1 H qi6 hi6) (Q_low1 H HW qi6 hi6) (by omega), ?_⟩
  intro i10 hi10
  intro z11 hz11
  rw [wr (by omega) (by omega)] at hz11
  subst hz11
  exact ⟨_, Q_left H qi6 hi6 hi10, by show (i1.b - (i6.1 + 1)).toNat < (i1.b - i1.a).toNat; omega, Gc.same⟩
  replace h7 := of_decide_eq_false h7
  refine ⟨fun h8 => ?_, fun h8 => ?_⟩
  replace h8 := of_decide_eq_true h8
  intro z10 hz10
  rw [wr (by omega) (by omega)] at hz10
  subst hz10
  refine ⟨IH _ _ _ _ (Q_pre2 H qi6 hi6) (Q_low2 qi6 hi6) (by omega), ?_⟩
  intro i11 hi11
  exact ⟨_, Q_right H qi6 hi6 hi11, by show (i6.1 - i1.a).toNat < (i1.b - i1.a).toNat; omega, Gc.same⟩
  replace h8 := of_decide_eq_false h8
  intro z10 hz10
  rw [wr (by omega) (by omega)] at hz10
  subst hz10
  refine ⟨IH _ _ _ _ (Q_pre2 H qi6 hi6) (Q_low2 qi6 hi6) (by omega), ?_⟩
  intro i11 hi11
  exact ⟨_, Q_right H qi6 hi6 hi11, by show (i6.1 - i1.a).toNat < (i1.b - i1.a).toNat; omega, Gc.same⟩
theorem pdq_ok {n : Nat} (HN : n < 2 ^ 31) : ∀ (k : Nat) (l : List En) (a b lim : Int), Pre nkE l n a b → Low nkE a b l → (b - a).toNat < k → (kPdq l n a b lim).asks Try.prog [] 42
  | 0, _, _, _, _, _, _, h => by omega
  | k + 1, l, a, b, lim, H, HW, h => pdq_step HN k (fun l a b lim H HW h => pdq_ok HN k l a b lim H HW h) l a b lim H HW h
def kSrt (l : List En) (n : Nat) : Ctr := ⟨[sl n, fC], hp l, List En, fun r => (pSort nkE l 0 n r, .ret unitV, hp r)⟩
theorem run_srt (l : List En) (n : Nat) (Q : Res → AHeap → Prop) : (∀ z1 : Int, z1 = (((n : Nat) : Int)) →
∀ z2 : Int, z2 = (IntKind.u64.wrap z1) →
((kLen z2 (hp l)).asks Try.prog [] 43 ∧
∀ i3 : Int, (pLen z2 i3) →
((kPdq l n 0 z1 i3).asks Try.prog [] 42 ∧
∀ i4 : List En, (pSort nkE l 0 z1 i4) →
 Q (.ret (.tuple ⟨[]⟩)) (hp i4)))) =
    runS Try.prog [] false [42, 43] 0 (SpecC Try.prog []) 20 38 [sl n, fC] (hp l) .norm (.skip 1 (.all (fun z1 => .skip 4 (.all (fun z2 => .skip 0 (.call (Int) (kLen z2 (hp l)).post fun i3 => .skip 1 (.call (List En) (kPdq l n 0 z1 i3).post fun _i4 => .go))))))) (fun r _ h _ => Q r h) := by kernel_rfl
theorem srt_ok {l : List En} {n : Nat} (HN : n < 2 ^ 31) (HL : l.length = n) (HD : Dis nkE l) : (kSrt l n).asks Try.prog [] 38 := by
  have H : Pre nkE l n 0 n := ⟨HL, by omega, Int.le_refl _, by omega, Int.le_refl _, HD⟩
  refine asks_of (spec_T (run_srt l n _) ?_)
  intro z1 hz1 z2 hz2
  subst hz1
  rw [wru (by omega) (by omega)] at hz2
  subst hz2
  refine ⟨len_ok (by omega) (by omega) _, ?_⟩
  intro i3 _
  refine ⟨pdq_ok HN _ _ _ _ _ H (fun h => absurd h (by omega)) (Nat.lt_succ_self _), ?_⟩
  intro i4 hi4
  exact ⟨i4, hi4, rfl, rfl⟩

end Go.Proofs.Ytcdmnmpiipmfmaa
