/-
  The reference's zeros: how many groups of zeros stand from a place on. No condition but that the place is among the groups.
-/
import Derived.Test.YtopladipgobpjaaDoorGrp
import Derived.Test.YtopladipgobpjaaDoorFmE
namespace Go.Proofs.YtopladipgobpjaaDoor
open Go.Fm

/-- how many groups of zeros stand from a place on -/
def zrun : List Int → Nat
  | [] => 0
  | x :: l => if x = 0 then zrun l + 1 else 0

theorem zrun_of : ∀ (l : List Int) (n : Nat), (∀ j < n, l.getD j 0 = 0) → n ≤ l.length → (n = l.length ∨ l.getD n 0 ≠ 0) → zrun l = n
  | [], n, _, h, _ => by simp at h; subst h; rfl
  | x :: l, 0, _, _, h => by
    rcases h with h | h
    · simp at h
    · have : x ≠ 0 := by simpa using h
      rw [zrun, if_neg this]
  | x :: l, n + 1, h0, h1, h2 => by
    have hx : x = 0 := by simpa using h0 0 (by omega)
    rw [zrun, if_pos hx, zrun_of l n (fun j hj => by simpa using h0 (j + 1) (by omega)) (by simpa using h1) (by simpa using h2)]

theorem zrun_drop {l : List Int} {k n : Nat} (h0 : ∀ j < n, l.getD (k + j) 0 = 0) (h1 : k + n ≤ l.length) (h2 : k + n = l.length ∨ l.getD (k + n) 0 ≠ 0) : zrun (l.drop k) = n := by
  have e : ∀ j, (l.drop k).getD j 0 = l.getD (k + j) 0 := fun j => by rw [List.getD_eq_getElem?_getD, List.getElem?_drop, ← List.getD_eq_getElem?_getD]
  refine zrun_of _ _ (fun j hj => by rw [e]; exact h0 j hj) (by rw [List.length_drop]; omega) ?_
  rw [e, List.length_drop]
  rcases h2 with h | h
  · exact .inl (by omega)
  · exact .inr h

theorem ldT {P : Program} {t : TypeId} {h : AHeap} {b k : Nat} {l : List Int} {u : TypeId} {z : Option Nat} (hT : aIsAgg P t = some false) (hb : h[b]? = some (.tcells (l.map (Value.int .i64)) u z)) (hk : k < l.length) :
    aLoad P t (.pointer (some ⟨b, 0 + k * 1, none⟩)) h = some (.int .i64 (l.getD k 0)) := by
  unfold aLoad
  simp only [hT]
  unfold aCell
  simp only [Option.isSome_none, Bool.false_eq_true, if_false, hb]
  rw [List.getElem?_map, Nat.zero_add, Nat.mul_one, List.getElem?_eq_getElem hk, List.getD_eq_getElem?_getD, List.getElem?_eq_getElem hk]
  rfl

theorem ty_a3 : aIsAgg Tryd.prog 3 = some false := by kernel_rfl
theorem ty_u80 : Tryd.prog.underlying 80 = some (.slice 3) := by kernel_rfl
theorem ty_s3 : aSize Tryd.prog 3 = some 1 := by kernel_rfl

theorem gen_step {o : Option Value} {k : IntKind} {x : Int} (ho : o = some (.int k x)) {X : Int → Prop} (hX : X x) : (∃ z : Int, o = some (.int k z)) ∧ ∀ z : Int, o = some (.int k z) → X z := by
  subst ho
  refine ⟨⟨_, rfl⟩, fun z hz => ?_⟩
  injection hz with hz
  injection hz with _ hz
  rw [← hz]; exact hX

theorem wrapadd {a b : Nat} (h : a + b ≤ 100) : IntKind.i64.wrap ((a : Int) + (b : Int)) = ((a + b : Nat) : Int) := by
  rw [wrapi (by omega) (by omega)]; omega

def qz (p q r : List Value) (g0 g1 g2 g3 g4 g5 g6 g7 : Int) (k : Nat) (n : Nat) : Prop × St := (k + n ≤ 8 ∧ ∀ j < n, [g0, g1, g2, g3, g4, g5, g6, g7].getD (k + j) 0 = 0, ⟨[(5, .int .i64 n), (4, .int .i64 0), (1, .int .i64 k), (0, .slice (some ⟨4, 0, some 1⟩) 8 8)], [], [.cells p true, .dead, .cells q true, .cells r true, .tcells [.int .i64 g0, .int .i64 g1, .int .i64 g2, .int .i64 g3, .int .i64 g4, .int .i64 g5, .int .i64 g6, .int .i64 g7] 3 (some 0)], .norm⟩)
def mz (_p _q _r : List Value) (_g0 _g1 _g2 _g3 _g4 _g5 _g6 _g7 : Int) (k : Nat) (n : Nat) : Nat := 8 - (k + n)

theorem run_zeros (p q r : List Value) (g0 g1 g2 g3 g4 g5 g6 g7 : Int) (k : Nat) (Q : Res → AHeap → Prop) : (((∃ ia, ((qz p q r g0 g1 g2 g3 g4 g5 g6 g7 k ia).fst) ∧ Gc [0, 2, 3] 5 ⟨[(5, (.int .i64 0)), (4, (.int .i64 0)), (0, (.slice (some ⟨4, 0, (some 1)⟩) 8 8)), (1, (.int .i64 ((k : Nat) : Int)))], [], [.cells (p) true, .dead, .cells (q) true, .cells (r) true, .tcells [(.int .i64 g0), (.int .i64 g1), (.int .i64 g2), (.int .i64 g3), (.int .i64 g4), (.int .i64 g5), (.int .i64 g6), (.int .i64 g7)] 3 (some 0)], .norm⟩ ((qz p q r g0 g1 g2 g3 g4 g5 g6 g7 k ia).snd)) ∧
   ∀ i1, (qz p q r g0 g1 g2 g3 g4 g5 g6 g7 k i1).fst → 
    ∀ z2 : Int, z2 = (IntKind.i64.wrap (((k : Nat) : Int) + ((i1 : Nat) : Int))) → 
    (((decide (z2 < Int.ofNat (7 + 1))) = true → 
      ∀ z3 : Int, z3 = (IntKind.i64.wrap (((k : Nat) : Int) + ((i1 : Nat) : Int))) → 
      ((aIndexAddr Tryd.prog 80 (.slice (some ⟨4, 0, (some 1)⟩) 8 8) (.int .i64 z3) = some (.pointer (some ⟨4, (0 + z3.toNat * 1), none⟩))) ∧ 
      ((∃ z4 : Int, aLoad Tryd.prog 3 (.pointer (some ⟨4, (0 + z3.toNat * 1), none⟩)) [.cells (p) true, .dead, .cells (q) true, .cells (r) true, .tcells [(.int .i64 g0), (.int .i64 g1), (.int .i64 g2), (.int .i64 g3), (.int .i64 g4), (.int .i64 g5), (.int .i64 g6), (.int .i64 g7)] 3 (some 0)] = some (.int .i64 z4)) ∧ ∀ z4 : Int, aLoad Tryd.prog 3 (.pointer (some ⟨4, (0 + z3.toNat * 1), none⟩)) [.cells (p) true, .dead, .cells (q) true, .cells (r) true, .tcells [(.int .i64 g0), (.int .i64 g1), (.int .i64 g2), (.int .i64 g3), (.int .i64 g4), (.int .i64 g5), (.int .i64 g6), (.int .i64 g7)] 3 (some 0)] = some (.int .i64 z4) → 
      (((z4 == 0) = true → 
        ∀ z5 : Int, z5 = (IntKind.i64.wrap (((i1 : Nat) : Int) + 1)) → (∃ ia', ((qz p q r g0 g1 g2 g3 g4 g5 g6 g7 k ia').fst) ∧ (mz p q r g0 g1 g2 g3 g4 g5 g6 g7 k ia' < mz p q r g0 g1 g2 g3 g4 g5 g6 g7 k i1) ∧ Gc [0, 2, 3] 5 ⟨[(5, (.int .i64 z5)), (22, (.int .i64 z5)), (21, (.int .i64 ((i1 : Nat) : Int))), (20, (.bool true)), (19, (.bool true)), (18, (.int .i64 z4)), (17, (.pointer (some ⟨4, (0 + z3.toNat * 1), none⟩))), (16, (.int .i64 z3)), (15, (.int .i64 ((i1 : Nat) : Int))), (14, (.int .i64 ((k : Nat) : Int))), (13, (.slice (some ⟨4, 0, (some 1)⟩) 8 8)), (12, (.bool true)), (11, (.bool true)), (10, (.int .i64 8)), (9, (.slice (some ⟨4, 0, (some 1)⟩) 8 8)), (8, (.int .i64 z2)), (7, (.int .i64 ((i1 : Nat) : Int))), (6, (.int .i64 ((k : Nat) : Int))), (5, (.int .i64 ((i1 : Nat) : Int))), (4, (.int .i64 0)), (1, (.int .i64 ((k : Nat) : Int))), (0, (.slice (some ⟨4, 0, (some 1)⟩) 8 8))], [], [.cells (p) true, .dead, .cells (q) true, .cells (r) true, .tcells [(.int .i64 g0), (.int .i64 g1), (.int .i64 g2), (.int .i64 g3), (.int .i64 g4), (.int .i64 g5), (.int .i64 g6), (.int .i64 g7)] 3 (some 0)], .norm⟩ ((qz p q r g0 g1 g2 g3 g4 g5 g6 g7 k ia').snd))) ∧
       ((z4 == 0) = false → Q (.ret (.int .i64 ((i1 : Nat) : Int))) [.cells (p) true, .dead, .cells (q) true, .cells (r) true, .tcells [(.int .i64 g0), (.int .i64 g1), (.int .i64 g2), (.int .i64 g3), (.int .i64 g4), (.int .i64 g5), (.int .i64 g6), (.int .i64 g7)] 3 (some 0)]))))) ∧
     ((decide (z2 < Int.ofNat (7 + 1))) = false → Q (.ret (.int .i64 ((i1 : Nat) : Int))) [.cells (p) true, .dead, .cells (q) true, .cells (r) true, .tcells [(.int .i64 g0), (.int .i64 g1), (.int .i64 g2), (.int .i64 g3), (.int .i64 g4), (.int .i64 g5), (.int .i64 g6), (.int .i64 g7)] 3 (some 0)])))) =
    runS Tryd.prog [0, 2, 3] false [] 0 (SpecC Tryd.prog [0, 2, 3]) 20 68 [.slice (some ⟨4, 0, some 1⟩) 8 8, .int .i64 k] [.cells p true, .dead, .cells q true, .cells r true, .tcells [.int .i64 g0, .int .i64 g1, .int .i64 g2, .int .i64 g3, .int .i64 g4, .int .i64 g5, .int .i64 g6, .int .i64 g7] 3 (some 0)] .norm (.skip 2 (.inv _ (qz p q r g0 g1 g2 g3 g4 g5 g6 g7 k) (mz p q r g0 g1 g2 g3 g4 g5 g6 g7 k) fun _i1 => .skip 2 (.all (fun _z2 => .skip 2 (.ask (.skip 8 (.all (fun z3 => .skip 1 (.val (.pointer (some ⟨4, (0 + z3.toNat * 1), none⟩)) (.skip 1 (.gen Int (fun x => .int .i64 x) fun _z4 => .skip 1 (.ask (.skip 3 (.all (fun _z5 => .go))) (.go)))))))) (.go)))))) (fun r _ h _ => Q r h) := by kernel_rfl

set_option maxRecDepth 10000 in
theorem zeros_spec (p q r : List Value) (g0 g1 g2 g3 g4 g5 g6 g7 : Int) (k : Nat) (hk : k ≤ 8) : Fm.Spec Tryd.prog [0, 2, 3] 68 [.slice (some ⟨4, 0, some 1⟩) 8 8, .int .i64 k] [.cells p true, .dead, .cells q true, .cells r true, .tcells [.int .i64 g0, .int .i64 g1, .int .i64 g2, .int .i64 g3, .int .i64 g4, .int .i64 g5, .int .i64 g6, .int .i64 g7] 3 (some 0)] fun u h' => u = .ret (.int .i64 (zrun ([g0, g1, g2, g3, g4, g5, g6, g7].drop k))) ∧ h' = [.cells p true, .dead, .cells q true, .cells r true, .tcells [.int .i64 g0, .int .i64 g1, .int .i64 g2, .int .i64 g3, .int .i64 g4, .int .i64 g5, .int .i64 g6, .int .i64 g7] 3 (some 0)] := by
  refine spec_of_script Tryd.mixed (Eq.mp (run_zeros p q r g0 g1 g2 g3 g4 g5 g6 g7 k fun u h' => u = .ret (.int .i64 (zrun ([g0, g1, g2, g3, g4, g5, g6, g7].drop k))) ∧ h' = [.cells p true, .dead, .cells q true, .cells r true, .tcells [.int .i64 g0, .int .i64 g1, .int .i64 g2, .int .i64 g3, .int .i64 g4, .int .i64 g5, .int .i64 g6, .int .i64 g7] 3 (some 0)]) ?_)
  refine ⟨⟨0, ⟨by omega, fun j hj => absurd hj (Nat.not_lt_zero j)⟩, Gc.env ⟨rfl, rfl, rfl, rfl, trivial⟩⟩, fun n hn => ?_⟩
  obtain ⟨h1, h2⟩ := hn
  intro z2 hz2
  rw [wrapadd (by omega)] at hz2; subst hz2
  refine ⟨fun hlt => ?_, fun hge => ?_⟩
  · have hlt := of_decide_eq_true hlt
    have hlt : k + n < 8 := by simp only [Int.ofNat_eq_natCast] at hlt; omega
    intro z3 hz3
    rw [wrapadd (by omega)] at hz3; subst hz3
    refine ⟨aIndexAddr_slice ty_u80 ty_s3 (by omega) (by omega), ?_⟩
    rw [Int.toNat_natCast]
    refine gen_step (ldT (l := [g0, g1, g2, g3, g4, g5, g6, g7]) ty_a3 rfl hlt) ?_
    refine ⟨fun h0 => ?_, fun h0 => ?_⟩
    · have h0 : ([g0, g1, g2, g3, g4, g5, g6, g7] : List Int).getD (k + n) 0 = 0 := by simpa using h0
      intro z5 hz5
      have hz5 : z5 = ((n + 1 : Nat) : Int) := by rw [hz5, add1 (by omega) (by omega)]; omega
      subst hz5
      refine ⟨n + 1, ⟨by omega, fun j hj => ?_⟩, by show 8 - (k + (n + 1)) < 8 - (k + n); omega, Gc.env ⟨rfl, rfl, rfl, rfl, trivial⟩⟩
      rcases Nat.lt_succ_iff_lt_or_eq.1 hj with hj | rfl
      · exact h2 j hj
      · exact h0
    · have h0 : ([g0, g1, g2, g3, g4, g5, g6, g7] : List Int).getD (k + n) 0 ≠ 0 := by simpa using h0
      refine ⟨?_, rfl⟩
      rw [zrun_drop h2 h1 (.inr h0)]
  · have hge := of_decide_eq_false hge
    have hge : k + n = 8 := by simp only [Int.ofNat_eq_natCast] at hge; omega
    refine ⟨?_, rfl⟩
    rw [zrun_drop h2 h1 (.inl hge)]

end Go.Proofs.YtopladipgobpjaaDoor
