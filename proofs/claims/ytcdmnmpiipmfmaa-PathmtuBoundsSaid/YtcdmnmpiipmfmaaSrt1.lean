/-
  The smaller parts of slices.SortFunc on entries: what each does to a row. Conditions: Pre (the row's length, the bounds, no two entries of one address).
-/
import Derived.Test.YtcdmnmpiipmfmaaPm0
namespace Go.Proofs.Ytcdmnmpiipmfmaa
open Go.Fm
def kCmp (X Y : En) (h : AHeap) : Ctr := ⟨[.agg ⟨rowE X⟩, .agg ⟨rowE Y⟩], h, Unit, fun _ => (True, .ret (.int .i64 (cmpD X Y)), h)⟩
def kIns (l : List En) (n : Nat) (a b : Int) : Ctr := ⟨[sl n, .int .i64 a, .int .i64 b, fC], hp l, List En, fun r => (pSort nkE l a b r, .ret unitV, hp r)⟩
def kPdq (l : List En) (n : Nat) (a b lim : Int) : Ctr := ⟨[sl n, .int .i64 a, .int .i64 b, .int .i64 lim, fC], hp l, List En, fun r => (pSort nkE l a b r, .ret unitV, hp r)⟩
def kSw (l : List En) (n : Nat) (a b : Int) : Ctr := ⟨[sl n, .int .i64 a, .int .i64 b, fC], hp l, List En, fun r => (Sw a b l r, .ret unitV, hp r)⟩
def kSift (l : List En) (n : Nat) (lo hi first : Int) : Ctr := ⟨[sl n, .int .i64 lo, .int .i64 hi, .int .i64 first, fC], hp l, List En, fun r => (pSift nkE l lo hi first r, .ret unitV, hp r)⟩
def kOrd (l : List En) (n : Nat) (a b w : Int) : Ctr := ⟨[sl n, .int .i64 a, .int .i64 b, pS, fC], hp2 l w, Int × Int × Int, fun p => (pOrd a b p, .ret (.tuple ⟨[.int .i64 p.1, .int .i64 p.2.1]⟩), hp2 l p.2.2)⟩
def kMed (l : List En) (n : Nat) (a b c w : Int) : Ctr := ⟨[sl n, .int .i64 a, .int .i64 b, .int .i64 c, pS, fC], hp2 l w, Int × Int, fun p => (pMed a b c p, .ret (.int .i64 p.1), hp2 l p.2)⟩
def kAdj (l : List En) (n : Nat) (a w : Int) : Ctr := ⟨[sl n, .int .i64 a, pS, fC], hp2 l w, Int × Int, fun p => (pMed (a - 1) a (a + 1) p, .ret (.int .i64 p.1), hp2 l p.2)⟩
def kCho (l : List En) (n : Nat) (a b : Int) : Ctr := ⟨[sl n, .int .i64 a, .int .i64 b, fC], hp l, Int × Int, fun p => (pCho a b p, .ret (.tuple ⟨[.int .i64 p.1, .int .i64 p.2]⟩), hp l)⟩
def kPar (l : List En) (n : Nat) (a b : Int) : Ctr := ⟨[sl n, .int .i64 a, .int .i64 b, fC], hp l, Bool × List En, fun p => (pPar nkE l a b p, .ret (.bool p.1), hp p.2)⟩
def kPrt (l : List En) (n : Nat) (a b pv : Int) : Ctr := ⟨[sl n, .int .i64 a, .int .i64 b, .int .i64 pv, fC], hp l, Int × Bool × List En, fun p => (pPrt nkE l a b p, .ret (.tuple ⟨[.int .i64 p.1, .bool p.2.1]⟩), hp p.2.2)⟩
def qI1 (l : List En) (n : Nat) (a : Int) (b : Int) (p : List En × Int) : Prop × St := (iI1 nkE l a b p, ⟨[(8, .int .i64 p.2), (0, sl n), (1, .int .i64 a), (2, .int .i64 b), (3, fC)], [], hp p.1, .norm⟩)
def mI1 (_l : List En) (_n : Nat) (_a : Int) (b : Int) (p : List En × Int) : Nat := (b - p.2).toNat
def qI2 (l : List En) (n : Nat) (a : Int) (b : Int) (o : List En × Int) (p : List En × Int) : Prop × St := (iI2 nkE l a b o p, ⟨[(9, .int .i64 p.2), (12, .int .i64 o.2), (8, .int .i64 o.2), (0, sl n), (1, .int .i64 a), (2, .int .i64 b), (3, fC)], [], hp p.1, .norm⟩)
def mI2 (_l : List En) (_n : Nat) (_a : Int) (_b : Int) (_o : List En × Int) (p : List En × Int) : Nat := p.2.toNat
def qR (l : List En) (n : Nat) (a : Int) (b : Int) (p : List En × Int × Int) : Prop × St := (iR l a b p, ⟨[(9, .int .i64 p.2.2), (8, .int .i64 p.2.1), (0, sl n), (1, .int .i64 a), (2, .int .i64 b), (3, fC)], [], hp p.1, .norm⟩)
def mR (_l : List En) (_n : Nat) (_a : Int) (_b : Int) (p : List En × Int × Int) : Nat := (p.2.2 - p.2.1).toNat
def qS (l : List En) (n : Nat) (lo : Int) (hi : Int) (first : Int) (p : List En × Int) : Prop × St := (iS nkE l lo hi first p, ⟨[(10, .int .i64 p.2), (0, sl n), (1, .int .i64 lo), (2, .int .i64 hi), (3, .int .i64 first), (4, fC)], [], hp p.1, .norm⟩)
def mS (_l : List En) (_n : Nat) (_lo : Int) (hi : Int) (_first : Int) (p : List En × Int) : Nat := (hi - p.2).toNat
def qH1 (l : List En) (n : Nat) (a : Int) (b : Int) (p : List En × Int) : Prop × St := (iH1 nkE l a b p, ⟨[(11, .int .i64 p.2), (10, .int .i64 (b - a)), (9, .int .i64 0), (8, .int .i64 a), (0, sl n), (1, .int .i64 a), (2, .int .i64 b), (3, fC)], [], hp p.1, .norm⟩)
def mH1 (_l : List En) (_n : Nat) (_a : Int) (_b : Int) (p : List En × Int) : Nat := (p.2 + 1).toNat
def qH2 (l : List En) (n : Nat) (a : Int) (b : Int) (p : List En × Int) : Prop × St := (iH2 nkE l a b p, ⟨[(12, .int .i64 p.2), (10, .int .i64 (b - a)), (9, .int .i64 0), (8, .int .i64 a), (0, sl n), (1, .int .i64 a), (2, .int .i64 b), (3, fC)], [], hp p.1, .norm⟩)
def mH2 (_l : List En) (_n : Nat) (_a : Int) (_b : Int) (p : List En × Int) : Nat := (p.2 + 1).toNat
def qB (l : List En) (n : Nat) (a : Int) (b : Int) (p : List En × Int × Int × Int) : Prop × St := (iB l a b p, ⟨[(11, .int .i64 p.2.1), (10, .int .u64 p.2.2.2), (9, .pointer (some ⟨1, 0, none⟩)), (8, .int .i64 (b - a)), (0, sl n), (1, .int .i64 a), (2, .int .i64 b), (3, fC)], [], [.tcells (rwl rowE p.1) 66 (some 0), .tcells [.int .u64 p.2.2.1] 89 (some 0)], .norm⟩)
def mB (_l : List En) (_n : Nat) (a : Int) (b : Int) (p : List En × Int × Int × Int) : Nat := (a + (b - a).tdiv 4 * 2 + 2 - p.2.1).toNat
def qP1 (l : List En) (n : Nat) (a : Int) (b : Int) (p : List En × Int × Int × Int) : Prop × St := (iP1 nkE l a b p, ⟨[(10, .int .i64 p.2.2.1), (9, .int .i64 p.2.1), (8, .bool false), (0, sl n), (1, .int .i64 a), (2, .int .i64 b), (3, fC)], [], hp p.1, .norm⟩)
def mP1 (_l : List En) (_n : Nat) (_a : Int) (_b : Int) (p : List En × Int × Int × Int) : Nat := (5 - p.2.2.1).toNat
def qP2 (l : List En) (n : Nat) (a : Int) (b : Int) (o : List En × Int × Int × Int) (p : List En × Int × Int × Int) : Prop × St := (iP2 nkE l a b o p, ⟨[(10, .int .i64 p.2.2.1), (9, .int .i64 p.2.1), (8, .bool false), (0, sl n), (1, .int .i64 a), (2, .int .i64 b), (3, fC)], [], hp p.1, .norm⟩)
def mP2 (_l : List En) (_n : Nat) (_a : Int) (b : Int) (_o : List En × Int × Int × Int) (p : List En × Int × Int × Int) : Nat := (b - p.2.1).toNat
def qP3 (l : List En) (n : Nat) (a : Int) (b : Int) (o : List En × Int × Int × Int) (p : List En × Int × Int × Int) : Prop × St := (iP3 nkE l a b o p, ⟨[(11, .int .i64 p.2.2.2), (10, .int .i64 p.2.2.1), (9, .int .i64 p.2.1), (8, .bool false), (0, sl n), (1, .int .i64 a), (2, .int .i64 b), (3, fC)], [], hp p.1, .norm⟩)
def mP3 (_l : List En) (_n : Nat) (_a : Int) (_b : Int) (_o : List En × Int × Int × Int) (p : List En × Int × Int × Int) : Nat := p.2.2.2.toNat
def qP4 (l : List En) (n : Nat) (a : Int) (b : Int) (o : List En × Int × Int × Int) (p : List En × Int × Int × Int) : Prop × St := (iP4 nkE l a b o p, ⟨[(12, .int .i64 p.2.2.2), (10, .int .i64 p.2.2.1), (9, .int .i64 p.2.1), (8, .bool false), (0, sl n), (1, .int .i64 a), (2, .int .i64 b), (3, fC)], [], hp p.1, .norm⟩)
def mP4 (_l : List En) (_n : Nat) (_a : Int) (b : Int) (_o : List En × Int × Int × Int) (p : List En × Int × Int × Int) : Nat := (b - p.2.2.2).toNat
def qT1 (l : List En) (n : Nat) (a : Int) (b : Int) (pv : Int) (p : List En × Int × Int) : Prop × St := (iT3 nkE l a b p ∧ p.2.2 = b - 1, ⟨[(13, .int .i64 p.2.2), (12, .int .i64 p.2.1), (11, .bool false), (10, .int .i64 0), (0, sl n), (1, .int .i64 a), (2, .int .i64 b), (3, .int .i64 pv), (4, fC)], [], hp p.1, .norm⟩)
def mT1 (_l : List En) (_n : Nat) (_a : Int) (b : Int) (_pv : Int) (p : List En × Int × Int) : Nat := (b - p.2.1).toNat
def qT2 (l : List En) (n : Nat) (a : Int) (b : Int) (pv : Int) (p : List En × Int × Int) : Prop × St := (iT5 nkE l a b p p, ⟨[(13, .int .i64 p.2.2), (12, .int .i64 p.2.1), (11, .bool false), (10, .int .i64 0), (0, sl n), (1, .int .i64 a), (2, .int .i64 b), (3, .int .i64 pv), (4, fC)], [], hp p.1, .norm⟩)
def mT2 (_l : List En) (_n : Nat) (_a : Int) (_b : Int) (_pv : Int) (p : List En × Int × Int) : Nat := (p.2.2 + 1).toNat
def qT3 (l : List En) (n : Nat) (a : Int) (b : Int) (pv : Int) (p : List En × Int × Int) : Prop × St := (iT3 nkE l a b p, ⟨[(13, .int .i64 p.2.2), (12, .int .i64 p.2.1), (11, .bool false), (10, .int .i64 0), (0, sl n), (1, .int .i64 a), (2, .int .i64 b), (3, .int .i64 pv), (4, fC)], [], hp p.1, .norm⟩)
def mT3 (_l : List En) (_n : Nat) (_a : Int) (_b : Int) (_pv : Int) (p : List En × Int × Int) : Nat := (p.2.2 + 1 - p.2.1).toNat
def qT4 (l : List En) (n : Nat) (a : Int) (b : Int) (pv : Int) (o : List En × Int × Int) (p : List En × Int × Int) : Prop × St := (iT4 nkE l a b o p, ⟨[(13, .int .i64 p.2.2), (12, .int .i64 p.2.1), (11, .bool false), (10, .int .i64 0), (0, sl n), (1, .int .i64 a), (2, .int .i64 b), (3, .int .i64 pv), (4, fC)], [], hp p.1, .norm⟩)
def mT4 (_l : List En) (_n : Nat) (_a : Int) (b : Int) (_pv : Int) (_o : List En × Int × Int) (p : List En × Int × Int) : Nat := (b - p.2.1).toNat
def qT5 (l : List En) (n : Nat) (a : Int) (b : Int) (pv : Int) (o : List En × Int × Int) (p : List En × Int × Int) : Prop × St := (iT5 nkE l a b o p, ⟨[(13, .int .i64 p.2.2), (12, .int .i64 p.2.1), (11, .bool false), (10, .int .i64 0), (0, sl n), (1, .int .i64 a), (2, .int .i64 b), (3, .int .i64 pv), (4, fC)], [], hp p.1, .norm⟩)
def mT5 (_l : List En) (_n : Nat) (_a : Int) (_b : Int) (_pv : Int) (_o : List En × Int × Int) (p : List En × Int × Int) : Nat := (p.2.2 + 1).toNat
def qQ (l : List En) (n : Nat) (a : Int) (b : Int) (_lim : Int) (p : PQ En) : Prop × St := (iQ nkE l a b p, ⟨[(11, .bool p.wp), (10, .bool p.wb), (0, sl n), (1, .int .i64 p.a), (2, .int .i64 p.b), (3, .int .i64 p.lim), (4, fC)], [], hp p.l, .norm⟩)
def mQ (_l : List En) (_n : Nat) (_a : Int) (_b : Int) (_lim : Int) (p : PQ En) : Nat := (p.b - p.a).toNat

theorem run_cmp (X Y : En) (Q : Res → Prop) : (Q (.ret (.int .i64 (cmpD X Y)))) = runS Try.prog [] false [] 0 (SpecC Try.prog []) 20 39 [.agg ⟨rowE X⟩, .agg ⟨rowE Y⟩] [] .norm (.go) (fun r _ _ _ => Q r) := by kernel_rfl
theorem cmp_fun (X Y : En) : Fun 39 [.agg ⟨rowE X⟩, .agg ⟨rowE Y⟩] (.int .i64 (cmpD X Y)) := spec_R (run_cmp X Y fun r => r = .ret (.int .i64 (cmpD X Y))) rfl
theorem two_flat {u w : Value} (hu : Flat u) (hw : Flat w) : ∀ x ∈ [u, w], Flat x := by
  intro x hx
  rcases List.mem_cons.1 hx with rfl | hx
  · exact hu
  · rw [List.mem_singleton] at hx; subst hx; exact hw
theorem cmp_ok (X Y : En) (h : AHeap) : (kCmp X Y h).asks Try.prog [] 39 :=
  asks_of (Spec.mono ((cmp_fun X Y).any (two_flat (flat_row X) (flat_row Y)) (.int _ _) [] h) (by rintro r h' ⟨rfl, rfl⟩; exact ⟨(), trivial, rfl, rfl⟩))
abbrev ksrt10t0 (l : List En) (n : Nat) (a : Int) (b : Int) (i2 : List En × Int) (i3 : List En × Int) : Prop := ∀ z5 : Int, z5 = (IntKind.i64.wrap (i2.snd + 1)) →
(someN [] 1 (fun a' => (mI1 l n a b) a' < (mI1 l n a b) i2) ⟨[(8, (iv z5)), (0, (sl n)), (1, (iv a)), (2, (iv b)), (3, fC)], [], (hp i3.fst), .norm⟩ [(qI1 l n a b)])
theorem run_ins (l : List En) (n : Nat) (a b : Int) (Q : Res → AHeap → Prop) : (∀ z1 : Int, z1 = (IntKind.i64.wrap (a + 1)) →
((someN [] 1 (fun _ => True) ⟨[(8, (iv z1)), (0, (sl n)), (1, (iv a)), (2, (iv b)), (3, fC)], [], (hp l), .norm⟩ [(qI1 l n a b)]) ∧
(∀ i2, (qI1 l n a b i2).fst →
(((decide (i2.snd < b)) = true →
((someN [] 1 (fun _ => True) ⟨[(9, (iv i2.snd)), (12, (iv i2.snd)), (8, (iv i2.snd)), (0, (sl n)), (1, (iv a)), (2, (iv b)), (3, fC)], [], (hp i2.fst), .norm⟩ [(qI2 l n a b i2)]) ∧
(∀ i3, (qI2 l n a b i2 i3).fst →
(((decide (i3.snd > a)) = true →
(IX n i3.snd ∧
(LD i3.fst i3.snd ∧
∀ z4 : Int, z4 = (IntKind.i64.wrap (i3.snd - 1)) →
(IX n z4 ∧
(LD i3.fst z4 ∧
((kCmp (gx i3.fst i3.snd) (gx i3.fst z4) (hp i3.fst)).asks Try.prog [] 39 ∧
∀ _ : Unit, (True) →
(((decide (cmpD (gx i3.fst i3.snd) (gx i3.fst z4) < 0)) = true →
∀ z5 : Int, z5 = (IntKind.i64.wrap (i3.snd - 1)) →
∀ z6 : Int, z6 = (IntKind.i64.wrap (i3.snd - 1)) →
(IX n z6 ∧
(LD i3.fst z6 ∧
(IX n i3.snd ∧
(LD i3.fst i3.snd ∧
(IX n i3.snd ∧
(SO i3.fst i3.snd (gx i3.fst z6) (i3.fst.set i3.snd.toNat (gx i3.fst z6)) ∧
(IX n z5 ∧
(SO (i3.fst.set i3.snd.toNat (gx i3.fst z6)) z5 (gx i3.fst i3.snd) ((i3.fst.set i3.snd.toNat (gx i3.fst z6)).set z5.toNat (gx i3.fst i3.snd)) ∧
∀ z7 : Int, z7 = (IntKind.i64.wrap (i3.snd - 1)) →
(someN [] 1 (fun a' => (mI2 l n a b i2) a' < (mI2 l n a b i2) i3) ⟨[(9, (iv z7)), (12, (iv i2.snd)), (8, (iv i2.snd)), (0, (sl n)), (1, (iv a)), (2, (iv b)), (3, fC)], [], (hp ((i3.fst.set i3.snd.toNat (gx i3.fst z6)).set z5.toNat (gx i3.fst i3.snd))), .norm⟩ [(qI2 l n a b i2)])))))))))) ∧
((decide (cmpD (gx i3.fst i3.snd) (gx i3.fst z4) < 0)) = false →
(ksrt10t0 l n a b i2 i3))))))))) ∧
((decide (i3.snd > a)) = false →
(ksrt10t0 l n a b i2 i3)))))) ∧
((decide (i2.snd < b)) = false →
 Q (.ret (.tuple ⟨[]⟩)) (hp i2.fst)))))) =
    runS Try.prog [] false [39] 0 (SpecC Try.prog []) 20 45 [sl n, .int .i64 a, .int .i64 b, fC] (hp l) .norm (.skip 1 (.all (fun _z1 => .skip 1 (.invN [8, 0, 1, 2, 3] _ (mI1 l n a b) [(qI1 l n a b)] (fun k => match k with | _ => fun i2 => .skip 2 (.ask (.skip 3 (.invN [9, 12, 8, 0, 1, 2, 3] _ (mI2 l n a b i2) [(qI2 l n a b i2)] (fun k => match k with | _ => fun i3 => .skip 2 (.ask (.skip 8 (.val (pt i3.snd) (.skip 1 (.val (rv (gx i3.fst i3.snd)) (.skip 5 (.all (fun z4 => .skip 1 (.val (pt z4) (.skip 1 (.val (rv (gx i3.fst z4)) (.skip 1 (.call (Unit) (kCmp (gx i3.fst i3.snd) (gx i3.fst z4) (hp i3.fst)).post fun _ => .skip 1 (.ask (.skip 6 (.all (fun z5 => .skip 2 (.all (fun z6 => .skip 0 (.val (pt z6) (.skip 0 (.val (rv (gx i3.fst z6)) (.skip 2 (.val (pt i3.snd) (.skip 0 (.val (rv (gx i3.fst i3.snd)) (.skip 0 (.val (pt i3.snd) (.skip 0 (.put undefV (hp (i3.fst.set i3.snd.toNat (gx i3.fst z6))) (.skip 0 (.val (pt z5) (.skip 0 (.put undefV (hp ((i3.fst.set i3.snd.toNat (gx i3.fst z6)).set z5.toNat (gx i3.fst i3.snd))) (.skip 1 (.all (fun _z7 => .go))))))))))))))))))))))) (.skip 3 (.all (fun _z5 => .go)))))))))))))))) (.skip 16 (.all (fun _z4 => .go))))))) (.go))))))) (fun r _ h _ => Q r h) := by kernel_rfl
theorem ins_spec {l : List En} {n : Nat} {a b : Int} (H : Pre nkE l n a b) : Fm.Spec Try.prog [] 45 (kIns l n a b).as (kIns l n a b).h fun r h' => ∃ x, ((kIns l n a b).post x).1 ∧ r = ((kIns l n a b).post x).2.1 ∧ h' = ((kIns l n a b).post x).2.2 := by
  refine spec_T (run_ins l n a b _) ?_
  have HL := H.len
  have H0 := H.a0
  have HB := H.bn
  have HAB := H.ab
  have HG := H.big
  intro z1 hz1
  rw [wr (by omega) (by omega)] at hz1
  subst hz1
  refine ⟨?_, ?_⟩
  exact ⟨_, I1_first H, trivial, Gc.same⟩
  intro i2 hi2
  replace hi2 : iI1 nkE l a b i2 := hi2
  obtain ⟨fi21, fi22, fi23, _⟩ := id hi2
  have gi2 := fi21.len
  refine ⟨fun h0 => ?_, fun h0 => ?_⟩
  replace h0 := of_decide_eq_true h0
  refine ⟨?_, ?_⟩
  exact ⟨_, I2_first hi2 h0, trivial, Gc.same⟩
  intro i3 hi3
  replace hi3 : iI2 nkE l a b _ i3 := hi3
  obtain ⟨fi31, fi32, fi33, fi34, fi35, _⟩ := id hi3
  have gi3 := fi31.len
  refine ⟨fun h1 => ?_, fun h1 => ?_⟩
  replace h1 := of_decide_eq_true h1
  refine ⟨ixa (by omega) (by omega), ?_⟩
  refine ⟨lda (by first | omega | (rw [List.length_set]; omega)), ?_⟩
  intro z4 hz4
  rw [wr (by omega) (by omega)] at hz4
  subst hz4
  refine ⟨ixa (by omega) (by omega), ?_⟩
  refine ⟨lda (by first | omega | (rw [List.length_set]; omega)), ?_⟩
  refine ⟨cmp_ok _ _ _, ?_⟩
  intro _ _
  refine ⟨fun h2 => ?_, fun h2 => ?_⟩
  replace h2 := ltT h2
  intro z5 hz5
  rw [wr (by omega) (by omega)] at hz5
  subst hz5
  intro z6 hz6
  rw [wr (by omega) (by omega)] at hz6
  subst hz6
  refine ⟨ixa (by omega) (by omega), ?_⟩
  refine ⟨lda (by first | omega | (rw [List.length_set]; omega)), ?_⟩
  refine ⟨ixa (by omega) (by omega), ?_⟩
  refine ⟨lda (by first | omega | (rw [List.length_set]; omega)), ?_⟩
  refine ⟨ixa (by omega) (by omega), ?_⟩
  refine ⟨sta (by first | omega | (rw [List.length_set]; omega)), ?_⟩
  refine ⟨ixa (by omega) (by omega), ?_⟩
  refine ⟨sta (by first | omega | (rw [List.length_set]; omega)), ?_⟩
  intro z7 hz7
  rw [wr (by omega) (by omega)] at hz7
  subst hz7
  exact ⟨_, I2_step H hi3 h1 h2, by show (i3.2 - 1).toNat < i3.2.toNat; omega, Gc.same⟩
  replace h2 := ltF h2
  intro z5 hz5
  rw [wr (by omega) (by omega)] at hz5
  subst hz5
  exact ⟨_, I2_done H hi3 (.inr h2), by show (b - (i2.2 + 1)).toNat < (b - i2.2).toNat; omega, Gc.same⟩
  replace h1 := of_decide_eq_false h1
  intro z4 hz4
  rw [wr (by omega) (by omega)] at hz4
  subst hz4
  exact ⟨_, I2_done H hi3 (.inl (by omega)), by show (b - (i2.2 + 1)).toNat < (b - i2.2).toNat; omega, Gc.same⟩
  replace h0 := of_decide_eq_false h0
  exact ⟨_, I1_done hi2 h0, rfl, rfl⟩
theorem run_rev (l : List En) (n : Nat) (a b : Int) (Q : Res → AHeap → Prop) : (∀ z1 : Int, z1 = (IntKind.i64.wrap (b - 1)) →
((someN [] 1 (fun _ => True) ⟨[(9, (iv z1)), (8, (iv a)), (0, (sl n)), (1, (iv a)), (2, (iv b)), (3, fC)], [], (hp l), .norm⟩ [(qR l n a b)]) ∧
(∀ i2, (qR l n a b i2).fst →
(((decide (i2.snd.fst < i2.snd.snd)) = true →
(IX n i2.snd.snd ∧
(LD i2.fst i2.snd.snd ∧
(IX n i2.snd.fst ∧
(LD i2.fst i2.snd.fst ∧
(IX n i2.snd.fst ∧
(SO i2.fst i2.snd.fst (gx i2.fst i2.snd.snd) (i2.fst.set i2.snd.fst.toNat (gx i2.fst i2.snd.snd)) ∧
(IX n i2.snd.snd ∧
(SO (i2.fst.set i2.snd.fst.toNat (gx i2.fst i2.snd.snd)) i2.snd.snd (gx i2.fst i2.snd.fst) ((i2.fst.set i2.snd.fst.toNat (gx i2.fst i2.snd.snd)).set i2.snd.snd.toNat (gx i2.fst i2.snd.fst)) ∧
∀ z3 : Int, z3 = (IntKind.i64.wrap (i2.snd.fst + 1)) →
∀ z4 : Int, z4 = (IntKind.i64.wrap (i2.snd.snd - 1)) →
(someN [] 1 (fun a' => (mR l n a b) a' < (mR l n a b) i2) ⟨[(9, (iv z4)), (8, (iv z3)), (0, (sl n)), (1, (iv a)), (2, (iv b)), (3, fC)], [], (hp ((i2.fst.set i2.snd.fst.toNat (gx i2.fst i2.snd.snd)).set i2.snd.snd.toNat (gx i2.fst i2.snd.fst))), .norm⟩ [(qR l n a b)])))))))))) ∧
((decide (i2.snd.fst < i2.snd.snd)) = false →
 Q (.ret (.tuple ⟨[]⟩)) (hp i2.fst)))))) =
    runS Try.prog [] false [39] 0 (SpecC Try.prog []) 20 49 [sl n, .int .i64 a, .int .i64 b, fC] (hp l) .norm (.skip 3 (.all (fun _z1 => .skip 1 (.invN [9, 8, 0, 1, 2, 3] _ (mR l n a b) [(qR l n a b)] (fun k => match k with | _ => fun i2 => .skip 2 (.ask (.skip 7 (.val (pt i2.snd.snd) (.skip 0 (.val (rv (gx i2.fst i2.snd.snd)) (.skip 2 (.val (pt i2.snd.fst) (.skip 0 (.val (rv (gx i2.fst i2.snd.fst)) (.skip 0 (.val (pt i2.snd.fst) (.skip 0 (.put undefV (hp (i2.fst.set i2.snd.fst.toNat (gx i2.fst i2.snd.snd))) (.skip 0 (.val (pt i2.snd.snd) (.skip 0 (.put undefV (hp ((i2.fst.set i2.snd.fst.toNat (gx i2.fst i2.snd.snd)).set i2.snd.snd.toNat (gx i2.fst i2.snd.fst))) (.skip 1 (.all (fun _z3 => .skip 2 (.all (fun _z4 => .go))))))))))))))))))))) (.go))))))) (fun r _ h _ => Q r h) := by kernel_rfl
theorem rev_spec {l : List En} {n : Nat} {a b : Int} (H : Pre nkE l n a b) : Fm.Spec Try.prog [] 49 (kSw l n a b).as (kSw l n a b).h fun r h' => ∃ x, ((kSw l n a b).post x).1 ∧ r = ((kSw l n a b).post x).2.1 ∧ h' = ((kSw l n a b).post x).2.2 := by
  refine spec_T (run_rev l n a b _) ?_
  have HL := H.len
  have H0 := H.a0
  have HB := H.bn
  have HAB := H.ab
  have HG := H.big
  intro z1 hz1
  rw [wr (by omega) (by omega)] at hz1
  subst hz1
  refine ⟨?_, ?_⟩
  exact ⟨_, R_first H, trivial, Gc.same⟩
  intro i2 hi2
  replace hi2 : iR l a b i2 := hi2
  obtain ⟨fi21, fi22, fi23, fi24, fi25⟩ := id hi2
  have gi2 := fi21.len
  refine ⟨fun h0 => ?_, fun h0 => ?_⟩
  replace h0 := of_decide_eq_true h0
  refine ⟨ixa (by omega) (by omega), ?_⟩
  refine ⟨lda (by first | omega | (rw [List.length_set]; omega)), ?_⟩
  refine ⟨ixa (by omega) (by omega), ?_⟩
  refine ⟨lda (by first | omega | (rw [List.length_set]; omega)), ?_⟩
  refine ⟨ixa (by omega) (by omega), ?_⟩
  refine ⟨sta (by first | omega | (rw [List.length_set]; omega)), ?_⟩
  refine ⟨ixa (by omega) (by omega), ?_⟩
  refine ⟨sta (by first | omega | (rw [List.length_set]; omega)), ?_⟩
  intro z3 hz3
  rw [wr (by omega) (by omega)] at hz3
  subst hz3
  intro z4 hz4
  rw [wr (by omega) (by omega)] at hz4
  subst hz4
  exact ⟨_, R_step hi2 h0, by show (i2.2.2 - 1 - (i2.2.1 + 1)).toNat < (i2.2.2 - i2.2.1).toNat; omega, Gc.same⟩
  replace h0 := of_decide_eq_false h0
  exact ⟨_, fi21, rfl, rfl⟩
abbrev ksrt12t0 (l : List En) (n : Nat) (lo : Int) (hi : Int) (first : Int) (Q : Res →
 AHeap →
 Prop) (i1 : List En × Int) (z8 : Int) : Prop := ∀ z9 : Int, z9 = (IntKind.i64.wrap (first + i1.snd)) →
(IX n z9 ∧
(LD i1.fst z9 ∧
∀ z10 : Int, z10 = (IntKind.i64.wrap (first + z8)) →
(IX n z10 ∧
(LD i1.fst z10 ∧
((kCmp (gx i1.fst z9) (gx i1.fst z10) (hp i1.fst)).asks Try.prog [] 39 ∧
∀ _ : Unit, (True) →
(((decide (cmpD (gx i1.fst z9) (gx i1.fst z10) < 0)) = true →
∀ z11 : Int, z11 = (IntKind.i64.wrap (first + i1.snd)) →
∀ z12 : Int, z12 = (IntKind.i64.wrap (first + z8)) →
∀ z13 : Int, z13 = (IntKind.i64.wrap (first + z8)) →
(IX n z13 ∧
(LD i1.fst z13 ∧
∀ z14 : Int, z14 = (IntKind.i64.wrap (first + i1.snd)) →
(IX n z14 ∧
(LD i1.fst z14 ∧
(IX n z11 ∧
(SO i1.fst z11 (gx i1.fst z13) (i1.fst.set z11.toNat (gx i1.fst z13)) ∧
(IX n z12 ∧
(SO (i1.fst.set z11.toNat (gx i1.fst z13)) z12 (gx i1.fst z14) ((i1.fst.set z11.toNat (gx i1.fst z13)).set z12.toNat (gx i1.fst z14)) ∧
(someN [] 1 (fun a' => (mS l n lo hi first) a' < (mS l n lo hi first) i1) ⟨[(10, (iv z8)), (0, (sl n)), (1, (iv lo)), (2, (iv hi)), (3, (iv first)), (4, fC)], [], (hp ((i1.fst.set z11.toNat (gx i1.fst z13)).set z12.toNat (gx i1.fst z14))), .norm⟩ [(qS l n lo hi first)])))))))))) ∧
((decide (cmpD (gx i1.fst z9) (gx i1.fst z10) < 0)) = false →
 Q (.ret (.tuple ⟨[]⟩)) (hp i1.fst))))))))
abbrev ksrt12s0 (i1 : List En × Int) (z9 : Int) : Scr := .skip 0 (.val (rv (gx i1.fst z9)) (.skip 3 (.all (fun z10 => .skip 0 (.val (pt z10) (.skip 0 (.val (rv (gx i1.fst z10)) (.skip 0 (.call (Unit) (kCmp (gx i1.fst z9) (gx i1.fst z10) (hp i1.fst)).post fun _ => .skip 0 (.ask (.skip 5 (.all (fun z11 => .skip 3 (.all (fun z12 => .skip 3 (.all (fun z13 => .skip 0 (.val (pt z13) (.skip 0 (.val (rv (gx i1.fst z13)) (.skip 3 (.all (fun z14 => .skip 0 (.val (pt z14) (.skip 0 (.val (rv (gx i1.fst z14)) (.skip 0 (.val (pt z11) (.skip 0 (.put undefV (hp (i1.fst.set z11.toNat (gx i1.fst z13))) (.skip 0 (.val (pt z12) (.skip 0 (.put undefV (hp ((i1.fst.set z11.toNat (gx i1.fst z13)).set z12.toNat (gx i1.fst z14))) (.go))))))))))))))))))))))))) (.go)))))))))))
theorem run_sift (l : List En) (n : Nat) (lo hi first : Int) (Q : Res → AHeap → Prop) : (((someN [] 1 (fun _ => True) ⟨[(10, (iv lo)), (0, (sl n)), (1, (iv lo)), (2, (iv hi)), (3, (iv first)), (4, fC)], [], (hp l), .norm⟩ [(qS l n lo hi first)]) ∧
(∀ i1, (qS l n lo hi first i1).fst →
∀ z2 : Int, z2 = (IntKind.i64.wrap (2 * i1.snd)) →
∀ z3 : Int, z3 = (IntKind.i64.wrap (z2 + 1)) →
(((decide (z3 ≥ hi)) = true →
 Q (.ret (.tuple ⟨[]⟩)) (hp i1.fst)) ∧
((decide (z3 ≥ hi)) = false →
∀ z4 : Int, z4 = (IntKind.i64.wrap (z3 + 1)) →
(((decide (z4 < hi)) = true →
∀ z5 : Int, z5 = (IntKind.i64.wrap (first + z3)) →
(IX n z5 ∧
(LD i1.fst z5 ∧
∀ z6 : Int, z6 = (IntKind.i64.wrap (first + z3)) →
∀ z7 : Int, z7 = (IntKind.i64.wrap (z6 + 1)) →
(IX n z7 ∧
(LD i1.fst z7 ∧
((kCmp (gx i1.fst z5) (gx i1.fst z7) (hp i1.fst)).asks Try.prog [] 39 ∧
∀ _ : Unit, (True) →
(((decide (cmpD (gx i1.fst z5) (gx i1.fst z7) < 0)) = true →
∀ z8 : Int, z8 = (IntKind.i64.wrap (z3 + 1)) →
(ksrt12t0 l n lo hi first Q i1 z8)) ∧
((decide (cmpD (gx i1.fst z5) (gx i1.fst z7) < 0)) = false →
(ksrt12t0 l n lo hi first Q i1 z3))))))))) ∧
((decide (z4 < hi)) = false →
(ksrt12t0 l n lo hi first Q i1 z3)))))))) =
    runS Try.prog [] false [39] 0 (SpecC Try.prog []) 20 55 [sl n, .int .i64 lo, .int .i64 hi, .int .i64 first, fC] (hp l) .norm (.skip 2 (.invN [10, 0, 1, 2, 3, 4] _ (mS l n lo hi first) [(qS l n lo hi first)] (fun k => match k with | _ => fun i1 => .skip 1 (.all (fun _z2 => .skip 0 (.all (fun _z3 => .skip 3 (.ask (.go) (.skip 2 (.all (fun _z4 => .skip 1 (.ask (.skip 10 (.all (fun z5 => .skip 1 (.val (pt z5) (.skip 1 (.val (rv (gx i1.fst z5)) (.skip 7 (.all (fun _z6 => .skip 1 (.all (fun z7 => .skip 1 (.val (pt z7) (.skip 1 (.val (rv (gx i1.fst z7)) (.skip 1 (.call (Unit) (kCmp (gx i1.fst z5) (gx i1.fst z7) (hp i1.fst)).post fun _ => .skip 1 (.ask (.skip 3 (.all (fun _z8 => .skip 5 (.all (fun z9 => .skip 0 (.val (pt z9) (ksrt12s0 i1 z9))))))) (.skip 6 (.all (fun z8 => .skip 0 (.val (pt z8) (ksrt12s0 i1 z8)))))))))))))))))))))) (.skip 23 (.all (fun z5 => .skip 0 (.val (pt z5) (ksrt12s0 i1 z5))))))))))))))))) (fun r _ h _ => Q r h) := by kernel_rfl
theorem sift_spec {l : List En} {n : Nat} {lo hi first : Int} (H : PreF nkE l n lo hi first) (HH : ∀ x c : Int, lo < x → (c = 2 * x + 1 ∨ c = 2 * x + 2) → c < hi → K nkE l (first + c) < K nkE l (first + x)) :
    (kSift l n lo hi first).asks Try.prog [] 55 := by
  refine asks_of (spec_T (run_sift l n lo hi first _) ?_)
  have HL := H.len
  have H0 := H.f0
  have H1 := H.lo0
  have H2 := H.hi0
  have H3 := H.fn
  have H4 := H.ln
  have HG := H.big
  refine ⟨?_, ?_⟩
  exact ⟨_, S_first H HH, trivial, Gc.same⟩
  intro i1 hi1
  replace hi1 : iS nkE l lo hi first i1 := hi1
  obtain ⟨fi11, fi12, fi13, _⟩ := id hi1
  have gi1 := fi11.len
  intro z2 hz2
  rw [wr (by omega) (by omega)] at hz2
  subst hz2
  intro z3 hz3
  rw [wr (by omega) (by omega)] at hz3
  subst hz3
  refine ⟨fun h0 => ?_, fun h0 => ?_⟩
  replace h0 := of_decide_eq_true h0
  exact ⟨_, S_doneE H hi1 h0, rfl, rfl⟩
  replace h0 := of_decide_eq_false h0
  intro z4 hz4
  rw [wr (by omega) (by omega)] at hz4
  subst hz4
  refine ⟨fun h1 => ?_, fun h1 => ?_⟩
  replace h1 := of_decide_eq_true h1
  intro z5 hz5
  rw [wr (by omega) (by omega)] at hz5
  subst hz5
  refine ⟨ixa (by omega) (by omega), ?_⟩
  refine ⟨lda (by first | omega | (rw [List.length_set]; omega)), ?_⟩
  intro z6 hz6
  rw [wr (by omega) (by omega)] at hz6
  subst hz6
  intro z7 hz7
  rw [wr (by omega) (by omega)] at hz7
  subst hz7
  refine ⟨ixa (by omega) (by omega), ?_⟩
  refine ⟨lda (by first | omega | (rw [List.length_set]; omega)), ?_⟩
  refine ⟨cmp_ok _ _ _, ?_⟩
  intro _ _
  refine ⟨fun h2 => ?_, fun h2 => ?_⟩
  replace h2 := ltT h2
  intro z8 hz8
  rw [wr (by omega) (by omega)] at hz8
  subst hz8
  intro z9 hz9
  rw [wr (by omega) (by omega)] at hz9
  subst hz9
  refine ⟨ixa (by omega) (by omega), ?_⟩
  refine ⟨lda (by first | omega | (rw [List.length_set]; omega)), ?_⟩
  intro z10 hz10
  rw [wr (by omega) (by omega)] at hz10
  subst hz10
  refine ⟨ixa (by omega) (by omega), ?_⟩
  refine ⟨lda (by first | omega | (rw [List.length_set]; omega)), ?_⟩
  refine ⟨cmp_ok _ _ _, ?_⟩
  intro _ _
  refine ⟨fun h3 => ?_, fun h3 => ?_⟩
  replace h3 := ltT h3
  intro z11 hz11
  rw [wr (by omega) (by omega)] at hz11
  subst hz11
  intro z12 hz12
  rw [wr (by omega) (by omega)] at hz12
  subst hz12
  intro z13 hz13
  rw [wr (by omega) (by omega)] at hz13
  subst hz13
  refine ⟨ixa (by omega) (by omega), ?_⟩
  refine ⟨lda (by first | omega | (rw [List.length_set]; omega)), ?_⟩
  intro z14 hz14
  rw [wr (by omega) (by omega)] at hz14
  subst hz14
  refine ⟨ixa (by omega) (by omega), ?_⟩
  refine ⟨lda (by first | omega | (rw [List.length_set]; omega)), ?_⟩
  refine ⟨ixa (by omega) (by omega), ?_⟩
  refine ⟨sta (by first | omega | (rw [List.length_set]; omega)), ?_⟩
  refine ⟨ixa (by omega) (by omega), ?_⟩
  refine ⟨sta (by first | omega | (rw [List.length_set]; omega)), ?_⟩
  exact ⟨_, S_rightG H hi1 h1 h2 h3, by show (hi - (2 * i1.2 + 1 + 1)).toNat < (hi - i1.2).toNat; omega, Gc.same⟩
  replace h3 := ltF h3
  exact ⟨_, S_doneR H hi1 h2 h3, rfl, rfl⟩
  replace h2 := ltF h2
  intro z8 hz8
  rw [wr (by omega) (by omega)] at hz8
  subst hz8
  refine ⟨ixa (by omega) (by omega), ?_⟩
  refine ⟨lda (by first | omega | (rw [List.length_set]; omega)), ?_⟩
  intro z9 hz9
  rw [wr (by omega) (by omega)] at hz9
  subst hz9
  refine ⟨ixa (by omega) (by omega), ?_⟩
  refine ⟨lda (by first | omega | (rw [List.length_set]; omega)), ?_⟩
  refine ⟨cmp_ok _ _ _, ?_⟩
  intro _ _
  refine ⟨fun h3 => ?_, fun h3 => ?_⟩
  replace h3 := ltT h3
  intro z10 hz10
  rw [wr (by omega) (by omega)] at hz10
  subst hz10
  intro z11 hz11
  rw [wr (by omega) (by omega)] at hz11
  subst hz11
  intro z12 hz12
  rw [wr (by omega) (by omega)] at hz12
  subst hz12
  refine ⟨ixa (by omega) (by omega), ?_⟩
  refine ⟨lda (by first | omega | (rw [List.length_set]; omega)), ?_⟩
  intro z13 hz13
  rw [wr (by omega) (by omega)] at hz13
  subst hz13
  refine ⟨ixa (by omega) (by omega), ?_⟩
  refine ⟨lda (by first | omega | (rw [List.length_set]; omega)), ?_⟩
  refine ⟨ixa (by omega) (by omega), ?_⟩
  refine ⟨sta (by first | omega | (rw [List.length_set]; omega)), ?_⟩
  refine ⟨ixa (by omega) (by omega), ?_⟩
  refine ⟨sta (by first | omega | (rw [List.length_set]; omega)), ?_⟩
  exact ⟨_, S_leftG H hi1 h0 h2 h3, by show (hi - (2 * i1.2 + 1)).toNat < (hi - i1.2).toNat; omega, Gc.same⟩
  replace h3 := ltF h3
  exact ⟨_, S_doneL H hi1 h2 h3, rfl, rfl⟩
  replace h1 := of_decide_eq_false h1
  intro z5 hz5
  rw [wr (by omega) (by omega)] at hz5
  subst hz5
  refine ⟨ixa (by omega) (by omega), ?_⟩
  refine ⟨lda (by first | omega | (rw [List.length_set]; omega)), ?_⟩
  intro z6 hz6
  rw [wr (by omega) (by omega)] at hz6
  subst hz6
  refine ⟨ixa (by omega) (by omega), ?_⟩
  refine ⟨lda (by first | omega | (rw [List.length_set]; omega)), ?_⟩
  refine ⟨cmp_ok _ _ _, ?_⟩
  intro _ _
  refine ⟨fun h2 => ?_, fun h2 => ?_⟩
  replace h2 := ltT h2
  intro z7 hz7
  rw [wr (by omega) (by omega)] at hz7
  subst hz7
  intro z8 hz8
  rw [wr (by omega) (by omega)] at hz8
  subst hz8
  intro z9 hz9
  rw [wr (by omega) (by omega)] at hz9
  subst hz9
  refine ⟨ixa (by omega) (by omega), ?_⟩
  refine ⟨lda (by first | omega | (rw [List.length_set]; omega)), ?_⟩
  intro z10 hz10
  rw [wr (by omega) (by omega)] at hz10
  subst hz10
  refine ⟨ixa (by omega) (by omega), ?_⟩
  refine ⟨lda (by first | omega | (rw [List.length_set]; omega)), ?_⟩
  refine ⟨ixa (by omega) (by omega), ?_⟩
  refine ⟨sta (by first | omega | (rw [List.length_set]; omega)), ?_⟩
  refine ⟨ixa (by omega) (by omega), ?_⟩
  refine ⟨sta (by first | omega | (rw [List.length_set]; omega)), ?_⟩
  exact ⟨_, S_oneG H hi1 h0 h1 h2, by show (hi - (2 * i1.2 + 1)).toNat < (hi - i1.2).toNat; omega, Gc.same⟩
  replace h2 := ltF h2
  exact ⟨_, S_doneO H hi1 h1 h2, rfl, rfl⟩
theorem run_heap (l : List En) (n : Nat) (a b : Int) (Q : Res → AHeap → Prop) : (∀ z1 : Int, z1 = (IntKind.i64.wrap (b - a)) →
∀ z2 : Int, z2 = (IntKind.i64.wrap (z1 - 1)) →
∀ z3 : Int, z3 = (IntKind.i64.wrap (z2.tdiv 2)) →
((someN [] 1 (fun _ => True) ⟨[(11, (iv z3)), (10, (iv z1)), (9, (iv 0)), (8, (iv a)), (0, (sl n)), (1, (iv a)), (2, (iv b)), (3, fC)], [], (hp l), .norm⟩ [(qH1 l n a b)]) ∧
(∀ i4, (qH1 l n a b i4).fst →
(((decide (i4.snd ≥ 0)) = true →
((kSift i4.fst n i4.snd (b - a) a).asks Try.prog [] 55 ∧
∀ i5 : List En, (pSift nkE i4.fst i4.snd (b - a) a i5) →
∀ z6 : Int, z6 = (IntKind.i64.wrap (i4.snd - 1)) →
(someN [] 1 (fun a' => (mH1 l n a b) a' < (mH1 l n a b) i4) ⟨[(11, (iv z6)), (10, (iv (b - a))), (9, (iv 0)), (8, (iv a)), (0, (sl n)), (1, (iv a)), (2, (iv b)), (3, fC)], [], (hp i5), .norm⟩ [(qH1 l n a b)]))) ∧
((decide (i4.snd ≥ 0)) = false →
∀ z5 : Int, z5 = (IntKind.i64.wrap (b - a - 1)) →
((someN [] 1 (fun _ => True) ⟨[(12, (iv z5)), (10, (iv (b - a))), (9, (iv 0)), (8, (iv a)), (0, (sl n)), (1, (iv a)), (2, (iv b)), (3, fC)], [], (hp i4.fst), .norm⟩ [(qH2 l n a b)]) ∧
(∀ i6, (qH2 l n a b i6).fst →
(((decide (i6.snd ≥ 0)) = true →
∀ z7 : Int, z7 = (IntKind.i64.wrap (a + i6.snd)) →
∀ z8 : Int, z8 = (IntKind.i64.wrap (a + i6.snd)) →
(IX n z8 ∧
(LD i6.fst z8 ∧
(IX n a ∧
(LD i6.fst a ∧
(IX n a ∧
(SO i6.fst a (gx i6.fst z8) (i6.fst.set a.toNat (gx i6.fst z8)) ∧
(IX n z7 ∧
(SO (i6.fst.set a.toNat (gx i6.fst z8)) z7 (gx i6.fst a) ((i6.fst.set a.toNat (gx i6.fst z8)).set z7.toNat (gx i6.fst a)) ∧
((kSift ((i6.fst.set a.toNat (gx i6.fst z8)).set z7.toNat (gx i6.fst a)) n 0 i6.snd a).asks Try.prog [] 55 ∧
∀ i9 : List En, (pSift nkE ((i6.fst.set a.toNat (gx i6.fst z8)).set z7.toNat (gx i6.fst a)) 0 i6.snd a i9) →
∀ z10 : Int, z10 = (IntKind.i64.wrap (i6.snd - 1)) →
(someN [] 1 (fun a' => (mH2 l n a b) a' < (mH2 l n a b) i6) ⟨[(12, (iv z10)), (10, (iv (b - a))), (9, (iv 0)), (8, (iv a)), (0, (sl n)), (1, (iv a)), (2, (iv b)), (3, fC)], [], (hp i9), .norm⟩ [(qH2 l n a b)]))))))))))) ∧
((decide (i6.snd ≥ 0)) = false →
 Q (.ret (.tuple ⟨[]⟩)) (hp i6.fst)))))))))) =
    runS Try.prog [] false [39, 55] 0 (SpecC Try.prog []) 20 46 [sl n, .int .i64 a, .int .i64 b, fC] (hp l) .norm (.skip 5 (.all (fun _z1 => .skip 2 (.all (fun _z2 => .skip 0 (.all (fun _z3 => .skip 1 (.invN [11, 10, 9, 8, 0, 1, 2, 3] _ (mH1 l n a b) [(qH1 l n a b)] (fun k => match k with | _ => fun i4 => .skip 1 (.ask (.skip 6 (.call (List En) (kSift i4.fst n i4.snd (b - a) a).post fun _i5 => .skip 1 (.all (fun _z6 => .go)))) (.skip 2 (.all (fun _z5 => .skip 1 (.invN [12, 10, 9, 8, 0, 1, 2, 3] _ (mH2 l n a b) [(qH2 l n a b)] (fun k => match k with | _ => fun i6 => .skip 1 (.ask (.skip 6 (.all (fun z7 => .skip 3 (.all (fun z8 => .skip 0 (.val (pt z8) (.skip 0 (.val (rv (gx i6.fst z8)) (.skip 2 (.val (pt a) (.skip 0 (.val (rv (gx i6.fst a)) (.skip 0 (.val (pt a) (.skip 0 (.put undefV (hp (i6.fst.set a.toNat (gx i6.fst z8))) (.skip 0 (.val (pt z7) (.skip 0 (.put undefV (hp ((i6.fst.set a.toNat (gx i6.fst z8)).set z7.toNat (gx i6.fst a))) (.skip 5 (.call (List En) (kSift ((i6.fst.set a.toNat (gx i6.fst z8)).set z7.toNat (gx i6.fst a)) n 0 i6.snd a).post fun _i9 => .skip 1 (.all (fun _z10 => .go)))))))))))))))))))))))) (.go))))))))))))))))) (fun r _ h _ => Q r h) := by kernel_rfl
theorem heap_spec {l : List En} {n : Nat} {a b : Int} (H : Pre nkE l n a b) : Fm.Spec Try.prog [] 46 (kIns l n a b).as (kIns l n a b).h fun r h' => ∃ x, ((kIns l n a b).post x).1 ∧ r = ((kIns l n a b).post x).2.1 ∧ h' = ((kIns l n a b).post x).2.2 := by
  refine spec_T (run_heap l n a b _) ?_
  have HL := H.len
  have H0 := H.a0
  have HB := H.bn
  have HAB := H.ab
  have HG := H.big
  intro z1 hz1
  rw [wr (by omega) (by omega)] at hz1
  subst hz1
  intro z2 hz2
  rw [wr (by omega) (by omega)] at hz2
  subst hz2
  intro z3 hz3
  rw [wrt (by omega) (by omega) (by omega)] at hz3
  subst hz3
  refine ⟨?_, ?_⟩
  exact ⟨_, H1_first H, trivial, Gc.same⟩
  intro i4 hi4
  replace hi4 : iH1 nkE l a b i4 := hi4
  obtain ⟨fi41, fi42, fi43, _⟩ := id hi4
  have gi4 := fi41.len
  refine ⟨fun h0 => ?_, fun h0 => ?_⟩
  replace h0 := of_decide_eq_true h0
  refine ⟨sift_spec (H1_pre H hi4 h0).1 (H1_pre H hi4 h0).2, ?_⟩
  intro i5 hi5
  intro z6 hz6
  rw [wr (by omega) (by omega)] at hz6
  subst hz6
  exact ⟨_, H1_step H hi4 h0 hi5, by show (i4.2 - 1 + 1).toNat < (i4.2 + 1).toNat; omega, Gc.same⟩
  replace h0 := of_decide_eq_false h0
  intro z5 hz5
  rw [wr (by omega) (by omega)] at hz5
  subst hz5
  refine ⟨?_, ?_⟩
  exact ⟨_, H2_first H hi4 h0, trivial, Gc.same⟩
  intro i6 hi6
  replace hi6 : iH2 nkE l a b i6 := hi6
  obtain ⟨fi61, fi62, fi63, _⟩ := id hi6
  have gi6 := fi61.len
  refine ⟨fun h1 => ?_, fun h1 => ?_⟩
  replace h1 := of_decide_eq_true h1
  intro z7 hz7
  rw [wr (by omega) (by omega)] at hz7
  subst hz7
  intro z8 hz8
  rw [wr (by omega) (by omega)] at hz8
  subst hz8
  refine ⟨ixa (by omega) (by omega), ?_⟩
  refine ⟨lda (by first | omega | (rw [List.length_set]; omega)), ?_⟩
  refine ⟨ixa (by omega) (by omega), ?_⟩
  refine ⟨lda (by first | omega | (rw [List.length_set]; omega)), ?_⟩
  refine ⟨ixa (by omega) (by omega), ?_⟩
  refine ⟨sta (by first | omega | (rw [List.length_set]; omega)), ?_⟩
  refine ⟨ixa (by omega) (by omega), ?_⟩
  refine ⟨sta (by first | omega | (rw [List.length_set]; omega)), ?_⟩
  refine ⟨sift_spec (H2_pre H hi6 h1).1 (H2_pre H hi6 h1).2, ?_⟩
  intro i9 hi9
  intro z10 hz10
  rw [wr (by omega) (by omega)] at hz10
  subst hz10
  exact ⟨_, H2_step H hi6 h1 hi9, by show (i6.2 - 1 + 1).toNat < (i6.2 + 1).toNat; omega, Gc.same⟩
  replace h1 := of_decide_eq_false h1
  exact ⟨_, H2_done hi6 h1, rfl, rfl⟩
theorem run_ord (l : List En) (n : Nat) (a b w : Int) (Q : Res → AHeap → Prop) : ((IX n b ∧
(LD l b ∧
(IX n a ∧
(LD l a ∧
((kCmp (gx l b) (gx l a) [oR l, AObj.tcells [Go.Value.int IntKind.i64 w] 3 (Option.some 0)]).asks Try.prog [] 39 ∧
∀ _ : Unit, (True) →
(((decide (cmpD (gx l b) (gx l a) < 0)) = true →
∀ z1 : Int, z1 = (IntKind.i64.wrap (w + 1)) →
 Q (.ret (.tuple ⟨[(iv b), (iv a)]⟩)) [oR l, .tcells [(iv z1)] 3 (some 0)]) ∧
((decide (cmpD (gx l b) (gx l a) < 0)) = false →
 Q (.ret (.tuple ⟨[(iv a), (iv b)]⟩)) [oR l, .tcells [(iv w)] 3 (some 0)])))))))) =
    runS Try.prog [] false [39] 0 (SpecC Try.prog []) 20 60 [sl n, .int .i64 a, .int .i64 b, pS, fC] (hp2 l w) .norm (.skip 5 (.val (pt b) (.skip 0 (.val (rv (gx l b)) (.skip 2 (.val (pt a) (.skip 0 (.val (rv (gx l a)) (.skip 0 (.call (Unit) (kCmp (gx l b) (gx l a) [oR l, AObj.tcells [Go.Value.int IntKind.i64 w] 3 (Option.some 0)]).post fun _ => .skip 0 (.ask (.skip 4 (.all (fun _z1 => .go))) (.go)))))))))))) (fun r _ h _ => Q r h) := by kernel_rfl
theorem ord_spec {l : List En} {n : Nat} {a b : Int} (w : Int) (HL : l.length = n) (ha : 0 ≤ a ∧ a < n) (hb : 0 ≤ b ∧ b < n) : (kOrd l n a b w).asks Try.prog [] 60 := by
  refine asks_of (spec_T (run_ord l n a b w _) ?_)
  refine ⟨ixa (by omega) (by omega), ?_⟩
  refine ⟨lda (by first | omega | (rw [List.length_set]; omega)), ?_⟩
  refine ⟨ixa (by omega) (by omega), ?_⟩
  refine ⟨lda (by first | omega | (rw [List.length_set]; omega)), ?_⟩
  refine ⟨cmp_ok _ _ _, ?_⟩
  intro _ _
  refine ⟨fun h0 => ?_, fun h0 => ?_⟩
  replace h0 := ltT h0
  intro z1 _
  exact ⟨(b, a, _), .inr ⟨rfl, rfl⟩, rfl, rfl⟩
  replace h0 := ltF h0
  exact ⟨(a, b, _), .inl ⟨rfl, rfl⟩, rfl, rfl⟩

end Go.Proofs.Ytcdmnmpiipmfmaa
