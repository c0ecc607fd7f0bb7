/-
  FmRead3: a slice of integers that is only read, laid into the abstract heap.
-/
import Derived.Test.YtheaklgkfagdiaaFmRead2
import Derived.ChangeSlices
namespace Go.Fm
open Go.ChangeShapes Go.WideShapes Go.ChangeAt Go.RowKit

/-- where nothing stands for anything, any heap will do -/
theorem Sim.unmapped (W : World) (h : AHeap) : Sim (allBelow W) W (fun _ => none) h W :=
  ⟨Io.refl W, Nat.le_refl _, fun B o _ => keptAt_refl W B o, fun _ _ h => h, fun _ _ h => (by cases h), fun _ _ h => (by cases h), fun _ _ h => (by cases h), fun _ _ _ _ _ h => (by cases h)⟩

theorem sim_ints {W : World} {B off cap : Nat} {k : IntKind} {zs : List Int} (hz : zs.length = cap) (hpos : 0 < cap) (hc : ∀ i, i < cap → W.cell? ⟨B, off + i, none⟩ = some (.int k (zs.getD i 0))) :
    ∃ j, Sim (allBelow W) W j [.cells (zs.map (Value.int k)) true] W ∧ j 0 = some ⟨B, off, cap, 1, 0⟩ := by
  have hblk : ∃ d T f, W.heap[B]? = some (.cells d T f) := by
    have h0 := hc 0 hpos
    unfold World.cell? at h0
    split at h0
    · rename_i d T f hb; exact ⟨d, T, f, hb⟩
    · cases h0
  obtain ⟨d, T, f, hb⟩ := hblk
  have hd : ∀ i, i < cap → d[off + i]? = some (.int k (zs.getD i 0)) := by
    intro i hi
    have := hc i hi
    rw [World.cell?_of hb] at this
    exact this
  have hsz : off + cap ≤ d.size := by
    have := hd (cap - 1) (by omega)
    have hlt := (Array.getElem?_eq_some_iff.1 this).1
    omega
  have hobj : ∀ j' : Inj, ObjR j' ⟨B, off, cap, 1, 0⟩ W (some (.cells (zs.map (Value.int k)) true)) := by
    intro j'
    refine ⟨d, T, f, hb, by simpa using hz, by unfold Loc.ext; simpa using hsz, ?_, by simp, fun _ => rfl⟩
    refine LR.of_get (by simp; omega) fun i v v' hv hv' => ?_
    rw [List.getElem?_map] at hv
    obtain ⟨z, hzi, rfl⟩ := Option.map_eq_some_iff.1 hv
    have hi : i < cap := by rw [← hz]; exact (List.getElem?_eq_some_iff.1 hzi).1
    rw [List.getElem?_take, if_pos hi, List.getElem?_drop] at hv'
    have h1 := hd i hi
    rw [← Array.getElem?_toList] at h1
    rw [h1] at hv'
    injection hv' with hv'
    subst hv'
    have : zs.getD i 0 = z := by rw [List.getD_eq_getElem?_getD, hzi]; rfl
    rw [this]
    exact .int k z
  have S := Sim.addRo (Sim.start W) (c := zs.map (Value.int k)) (L := ⟨B, off, cap, 1, 0⟩) (by intro b hr; simp [Fm.isRw] at hr) fun j' _ => hobj j'
  exact ⟨_, S, Inj.put_same _ _ _⟩

end Go.Fm
