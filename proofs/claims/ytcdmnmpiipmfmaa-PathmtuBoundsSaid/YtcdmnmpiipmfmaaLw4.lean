/-
  The law's loop: its states; PathmtuRuns returns true on every row of calls. Conditions: the row of calls is not empty, its addresses are of bytes.
-/
import Derived.Test.YtcdmnmpiipmfmaaLw3
namespace Go.Proofs.Ytcdmnmpiipmfmaa
open Go.Fm

def iL (x : Cf) (_L : List Ow) (_n : Nat) (p : LQ) : Prop := 0 ≤ p.i ∧ okC x ∧ SOk x p
def qL0 (L : List Ow) (x : Cf) (n cap : Nat) (_p : LQ) : Prop × St := (¬ okC x, ⟨[(9, .int .i64 0), (7, .pointer none), (5, .pointer none), (2, .pointer (some ⟨1, 0, none⟩)), (1, .slice (some ⟨0, 0, none⟩) n cap)], [], [oO L, oX x], .norm⟩)
def qLF (L : List Ow) (x : Cf) (n cap : Nat) (_p : LQ) : Prop × St := (False, ⟨[(9, .int .i64 0), (7, .pointer none), (5, .pointer none), (2, .pointer (some ⟨1, 0, none⟩)), (1, .slice (some ⟨0, 0, none⟩) n cap)], [], [oO L, oX x], .norm⟩)
def qLN (L : List Ow) (x : Cf) (n cap : Nat) (p : LQ) : Prop × St := (iL x L n p ∧ p.E = [], ⟨[(9, .int .i64 p.i), (7, pQ), (5, pP), (2, .pointer (some ⟨1, 0, none⟩)), (1, .slice (some ⟨0, 0, none⟩) n cap)], [], [oO L, oX x, oM p.l p.cl, oCb x p.now, oS x p.now sN], .norm⟩)
def qLB (L : List Ow) (x : Cf) (n cap : Nat) (p : LQ) : Prop × St := (iL x L n p ∧ p.E ≠ [], ⟨[(9, .int .i64 p.i), (7, pQ), (5, pP), (2, .pointer (some ⟨1, 0, none⟩)), (1, .slice (some ⟨0, 0, none⟩) n cap)], [], [oO L, oX x, oM p.l p.cl, oCb x p.now, oS x p.now (sB 5 p.E.length), oR p.E], .norm⟩)
def mL (_L : List Ow) (_x : Cf) (_n _cap : Nat) (p : LQ) : Nat := (200 - p.i).toNat

abbrev envL (i : Int) (n cap : Nat) : AEnv := [(9, .int .i64 i), (7, pQ), (5, pP), (2, .pointer (some ⟨1, 0, none⟩)), (1, .slice (some ⟨0, 0, none⟩) n cap)]
section
variable {L : List Ow} {x : Cf} {now i : Int} {l : List (En × Nat)} {cl n cap k : Nat} {E : List En} {h rest : AHeap}
theorem gcN : Gc [] 1 ⟨envL i n cap, [], oO L :: oX x :: oM l cl :: oCb x now :: oS x now sN :: rest, .norm⟩ ⟨envL i n cap, [], [oO L, oX x, oM l cl, oCb x now, oS x now sN], .norm⟩ :=
  Gc.ren [0, 1, 2, 3, 4] (by decide) (by decide) (by decide) (by decide) ⟨⟨_, rfl, ro_o L⟩, ⟨_, rfl, ro_x x⟩, ⟨_, rfl, ro_m _ _⟩, ⟨_, rfl, ro_b rfl⟩, ⟨_, rfl, ro_s (.snil _ _)⟩, trivial⟩
    (by exact ⟨⟨_, rfl, .int _ _⟩, ⟨_, rfl, .ptr _ _ rfl⟩, ⟨_, rfl, .ptr _ _ rfl⟩, ⟨_, rfl, .ptr _ _ rfl⟩, ⟨_, rfl, .slice _ _ _ _ rfl⟩, trivial⟩) rfl
theorem gcB (hk : 5 ≤ k) (h0 : h[0]? = some (oO L)) (h1 : h[1]? = some (oX x)) (h2 : h[2]? = some (oM l cl)) (h3 : h[3]? = some (oCb x now)) (h4 : h[4]? = some (oS x now (sB k E.length))) (h5 : h[k]? = some (oR E)) :
    Gc [] 1 ⟨envL i n cap, [], h, .norm⟩ ⟨envL i n cap, [], [oO L, oX x, oM l cl, oCb x now, oS x now (sB 5 E.length), oR E], .norm⟩ := by
  have hk5 : ren [0, 1, 2, 3, 4, k] 5 = some k := rfl
  refine Gc.ren [0, 1, 2, 3, 4, k] ?_ (by rfl) (by rfl) (by rfl) ⟨⟨_, h0, ro_o L⟩, ⟨_, h1, ro_x x⟩, ⟨_, h2, ro_m _ _⟩, ⟨_, h3, ro_b rfl⟩, ⟨_, h4, ro_s (.slice _ _ _ _ hk5)⟩, ⟨_, h5, ro_r _⟩, trivial⟩
    (by exact ⟨⟨_, rfl, .int _ _⟩, ⟨_, rfl, .ptr _ _ rfl⟩, ⟨_, rfl, .ptr _ _ rfl⟩, ⟨_, rfl, .ptr _ _ rfl⟩, ⟨_, rfl, .slice _ _ _ _ rfl⟩, trivial⟩) rfl
  simp; omega
theorem xu24 : Try.prog.underlying 24 = some (.slice 37) := by kernel_rfl
theorem xs37 : aSize Try.prog 37 = some 19 := by kernel_rfl
theorem xa37 : aIsAgg Try.prog 37 = some true := by kernel_rfl
theorem ixo {z : Int} (h0 : 0 ≤ z) (h1 : z < n) : aIndexAddr Try.prog 24 (.slice (some ⟨0, 0, none⟩) n cap) (.int .i64 z) = some (.pointer (some ⟨0, 0 + z.toNat * 19, none⟩)) := aIndexAddr_slice xu24 xs37 h0 h1
theorem rowO_len (o : Ow) : (rowO o).length = 19 := rfl
theorem ld_ro {P : Program} {t u : TypeId} {q : Nat} {c : List Value} {b : Bool} {z : Option Nat} : aLoad P t (.pointer (some ⟨0, q, none⟩)) [.cells c b] = aLoad P t (.pointer (some ⟨0, q, none⟩)) [.tcells c u z] := by
  unfold aLoad aCells aCell; rfl
theorem ldo {z : Int} (h : z.toNat < L.length) : aLoad Try.prog 37 (.pointer (some ⟨0, 0 + z.toNat * 19, none⟩)) [oO L] = some (.agg ⟨rowO (L.getD z.toNat default)⟩) := by
  rw [ld_ro (u := 37) (z := none)]
  exact aLoad_rw (c := rowO) (m := 19) (n := 19) (k := 0) (i := z.toNat) rowO_len xa37 xs37 rfl h (by omega) (by omega) (by rw [List.drop_zero]; exact List.take_of_length_le (by rw [rowO_len]; omega))
theorem ldod {z : Int} (h : z.toNat < L.length) : aLoad Try.prog 35 (.pointer (some ⟨0, 0 + z.toNat * 19 + 2, none⟩)) [oO L] = some (.agg ⟨rowA (L.getD z.toNat default).d⟩) := by
  rw [ld_ro (u := 37) (z := none)]
  exact aLoad_rw (c := rowO) (m := 19) (n := 16) (k := 2) (i := z.toNat) rowO_len xa35 xs35 rfl h (by omega) (by omega) rfl
theorem okA_get (hD : ∀ o ∈ L, okA o.d) {j : Nat} (hj : j < L.length) : okA (L.getD j default).d :=
  hD _ (by rw [List.getD_eq_getElem?_getD, List.getElem?_eq_getElem hj]; exact List.getElem_mem hj)
theorem noE_o (h : L ≠ []) : noE (oO L) = true := by
  cases L with
  | nil => exact absurd rfl h
  | cons a L => rfl
theorem sok_i {j j' : Int} (h : SOk x ⟨j, l, cl, now, E⟩) : SOk x ⟨j', l, cl, now, E⟩ := ⟨h.rep, h.good, h.t0, h.t1⟩
theorem sok_0 (hx : okC x) : SOk x ⟨0, [], 0, 0, []⟩ := ⟨⟨⟨by simp, by simp, by simp, by simp⟩, by simp, List.Pairwise.nil⟩, Good.nil hx, Int.le_refl _, (by decide : (0 : Int) ≤ 1099511627776)⟩
theorem getM_now {D : Ad} (h1 : now ≤ 1099511627776) : getM x now E now D = ((lookE D x (tidyE now E), 0), now, tidyE now E) := getM_ok (by unfold errT; omega)
end

end Go.Proofs.Ytcdmnmpiipmfmaa
