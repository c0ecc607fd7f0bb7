/-
  Bits of addresses: lists of bytes as integers, and what the operations on them come to. No program here.
-/
import Derived.Test.YtopladipgobpjaaDoorFmE
namespace Go.Fm

variable {P : Program}

/-! ## the machine's words for a bit -/

/-! ## steps -/

/-- fewer slots -/
theorem Gc.env {gs : List Nat} {n0 : Nat} {e e' : AEnv} {ds : List ADef} {h : AHeap} {u : UMode} (he : EnvLe e e') : Gc gs n0 ⟨e, ds, h, u⟩ ⟨e', ds, h, u⟩ :=
  .inr ⟨rfl, rfl, rfl, fun _ _ hv => he.get hv⟩

/-! ## clearing and setting bits -/

/-! ## prefixes -/

end Go.Fm
