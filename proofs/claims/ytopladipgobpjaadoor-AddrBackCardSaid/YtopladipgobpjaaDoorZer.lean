/-
  The reference's zeros: how many groups of zeros stand from a place on. No condition but that the place is among the groups.
-/
import Derived.Test.YtopladipgobpjaaDoorGrp
import Derived.Test.YtopladipgobpjaaDoorFmE
namespace Go.Proofs.YtopladipgobpjaaDoor
open Go.Fm
def zrun : List Int → Nat
  | [] => 0
  | x :: l => if x = 0 then zrun l + 1 else 0
theorem zrun_of : ∀ (l : List Int) (n : Nat), (∀ j < n, l.getD j 0 = 0) → n ≤ l.length → (n = l.length ∨ l.getD n 0 ≠ 0) → zrun l = n
  | [], n, _, h, _ => by simp at h; subst h; rfl
  | x :: l, 0, _, _, h => by
    rcases h with h | h
    · simp at h
    · have : x ≠ 0 := by simpa using h
      rw [zrun, if_neg this]
  | x :: l, n + 1, h0, h1, h2 => by
    have hx : x = 0 := by simpa using h0 0 (by omega)
    rw [zrun, if_pos hx, zrun_of l n (fun j hj => by simpa using h0 (j + 1) (by omega)) (by simpa using h1) (by simpa using h2)]
theorem zrun_drop {l : List Int} {k n : Nat} (h0 : ∀ j < n, l.getD (k + j) 0 = 0) (h1 : k + n ≤ l.length) (h2 : k + n = l.length ∨ l.getD (k + n) 0 ≠ 0) : zrun (l.drop k) = n := by
  have e : ∀ j, (l.drop k).getD j 0 = l.getD (k + j) 0 := fun j => by rw [List.getD_eq_getElem?_getD, List.getElem?_drop, ← List.getD_eq_getElem?_getD]
  refine zrun_of _ _ (fun j hj => by rw [e]; exact h0 j hj) (by rw [List.length_drop]; omega) ?_
  rw [e, List.length_drop]
  rcases h2 with h | h
  · exact .inl (by omega)
  · exact .inr h
theorem ldT {P : Program} {t : TypeId} {h : AHeap} {b k : Nat} {l : List Int} {u : TypeId} {z : Option Nat} (hT : aIsAgg P t = some false) (hb : h[b]? = some (.tcells (l.map (Value.int .i64)) u z)) (hk : k < l.length) :
    aLoad P t (.pointer (some ⟨b, 0 + k * 1, none⟩)) h = some (.int .i64 (l.getD k 0)) := by
  unfold aLoad
  simp only [hT]
  unfold aCell
  simp only [Option.isSome_none, Bool.false_eq_true, if_false, hb]
  rw [List.getElem?_map, Nat.zero_add, Nat.mul_one, List.getElem?_eq_getElem hk, List.getD_eq_getElem?_getD, List.getElem?_eq_getElem hk]
  rfl
theorem ty_a3 : aIsAgg Tryd.prog 3 = some false := by kernel_rfl
theorem ty_s3 : aSize Tryd.prog 3 = some 1 := by kernel_rfl
theorem gen_step {o : Option Value} {k : IntKind} {x : Int} (ho : o = some (.int k x)) {X : Int → Prop} (hX : X x) : (∃ z : Int, o = some (.int k z)) ∧ ∀ z : Int, o = some (.int k z) → X z := by
  subst ho
  refine ⟨⟨_, rfl⟩, fun z hz => ?_⟩
  injection hz with hz
  injection hz with _ hz
  rw [← hz]; exact hX
theorem wrapadd {a b : Nat} (h : a + b ≤ 100) : IntKind.i64.wrap ((a : Int) + (b : Int)) = ((a + b : Nat) : Int) := by
  rw [wrapi (by omega) (by omega)]; omega
end Go.Proofs.YtopladipgobpjaaDoor
