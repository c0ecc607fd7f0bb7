/-
  Bits of addresses: lists of bytes as integers, and what the operations on them come to. No program here.
-/
import Derived.Test.YtopladipgobpjaaDoorFmE
namespace Go.Fm
variable {P : Program}
def Bytes (l : List Int) : Prop := ∀ x ∈ l, 0 ≤ x ∧ x < 256
theorem add1 {i : Int} (h0 : 0 ≤ i) (h1 : i < 2 ^ 40) : IntKind.i64.wrap (i + 1) = i + 1 := by
  simp only [IntKind.wrap, IntKind.bits, IntKind.signed]
  simp; omega
theorem Gc.env {gs : List Nat} {n0 : Nat} {e e' : AEnv} {ds : List ADef} {h : AHeap} {u : UMode} (he : EnvLe e e') : Gc gs n0 ⟨e, ds, h, u⟩ ⟨e', ds, h, u⟩ :=
  .inr ⟨rfl, rfl, rfl, fun _ _ hv => he.get hv⟩
end Go.Fm
