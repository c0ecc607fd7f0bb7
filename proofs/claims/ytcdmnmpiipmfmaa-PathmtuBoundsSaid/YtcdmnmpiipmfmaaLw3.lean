/-
  A step of the law: both caches answer the same, and go on in a good state. Conditions: good settings, a good state, the address is of bytes.
-/
import Derived.Test.YtcdmnmpiipmfmaaLw2
namespace Go.Proofs.Ytcdmnmpiipmfmaa
open Go.Fm

theorem rowO_flat (o : Ow) : (rowO o).all (scopeV 0 8) = true := rfl
theorem ro_o {i : Nat → Option Nat} (L : List Ow) : RO i (oO L) (oO L) := .cells true (rvs_rw rowO_flat L)
theorem ro_x {i : Nat → Option Nat} (x : Cf) : RO i (oX x) (oX x) := ro_flat rfl
theorem ro_b {i : Nat → Option Nat} {x : Cf} {now : Int} (h : i 2 = some 2) : RO i (oCb x now) (oCb x now) := .cells false (.cons (.int _ _) (.cons (.int _ _) (.cons (.int _ _) (.cons (.int _ _) (.cons (.int _ _) (.cons (.map h) .nil))))))
theorem nE {L : List Ow} {h : AHeap} (hL : noE (oO L) = true) (hh : h.all noE = true) : (oO L :: h).all noE = true := by
  show (noE (oO L) && h.all noE) = true
  rw [hL, hh]; rfl
section
variable {L : List Ow} {x : Cf} {now n' : Int} {l l' : List (En × Nat)} {cl cl' k : Nat} {E E' : List En} {n : Nat} {o : Ow} {o5 : AObj} {h rest : AHeap}
abbrev bN (L : List Ow) (x : Cf) (now : Int) (l : List (En × Nat)) (cl : Nat) : AHeap := [oO L, oX x, oM l cl, oCb x now, oS x now sN]
abbrev bB (L : List Ow) (x : Cf) (now : Int) (l : List (En × Nat)) (cl : Nat) (E : List En) (n : Nat) : AHeap := [oO L, oX x, oM l cl, oCb x now, oS x now (sB 5 n), oR E]
/-- the ends of a step -/
theorem sNN (hs : SOk x ⟨0, l', cl', n', []⟩) : EndR (bN L x now l cl) (fun r h' => anyP r h' (kStepN L x now l cl o).posts) (.ret (.bool true)) (oO L :: oX x :: oM l' cl' :: oCb x n' :: oS x n' sN :: o5 :: rest) :=
  ⟨[0, 1, 2, 3, 4, 5], _, _, [oO L, oX x, oM l' cl', oCb x n', oS x n' sN, .dead], rfl, by decide, rfl, Nat.le_succ _, ⟨⟨_, rfl, ro_o L⟩, ⟨_, rfl, ro_x x⟩, ⟨_, rfl, ro_m _ _⟩, ⟨_, rfl, ro_b rfl⟩, ⟨_, rfl, ro_s (.snil _ _)⟩, ⟨_, rfl, .dead _⟩, trivial⟩, .bool true, .inl ⟨⟨0, l', cl', n', []⟩, ⟨hs, rfl⟩, rfl, rfl⟩⟩
theorem sNB (hs : SOk x ⟨0, l', cl', n', E'⟩) (hne : E' ≠ []) : EndR (bN L x now l cl) (fun r h' => anyP r h' (kStepN L x now l cl o).posts) (.ret (.bool true)) (oO L :: oX x :: oM l' cl' :: oCb x n' :: oS x n' (sB 6 E'.length) :: o5 :: oR E' :: rest) :=
  ⟨[0, 1, 2, 3, 4, 6], _, _, [oO L, oX x, oM l' cl', oCb x n', oS x n' (sB 5 E'.length), oR E'], rfl, by decide, rfl, Nat.le_succ _, ⟨⟨_, rfl, ro_o L⟩, ⟨_, rfl, ro_x x⟩, ⟨_, rfl, ro_m _ _⟩, ⟨_, rfl, ro_b rfl⟩, ⟨_, rfl, ro_s (.slice _ _ _ _ rfl)⟩, ⟨_, rfl, ro_r _⟩, trivial⟩, .bool true, .inr ⟨⟨0, l', cl', n', E'⟩, ⟨hs, hne⟩, rfl, rfl⟩⟩
theorem sBN (hs : SOk x ⟨0, l', cl', n', []⟩) : EndR (bB L x now l cl E n) (fun r h' => anyP r h' (kStepB L x now l cl E n o).posts) (.ret (.bool true)) (oO L :: oX x :: oM l' cl' :: oCb x n' :: oS x n' sN :: o5 :: rest) :=
  ⟨[0, 1, 2, 3, 4, 5], _, _, [oO L, oX x, oM l' cl', oCb x n', oS x n' sN, .dead], rfl, by decide, rfl, Nat.le_refl _, ⟨⟨_, rfl, ro_o L⟩, ⟨_, rfl, ro_x x⟩, ⟨_, rfl, ro_m _ _⟩, ⟨_, rfl, ro_b rfl⟩, ⟨_, rfl, ro_s (.snil _ _)⟩, ⟨_, rfl, .dead _⟩, trivial⟩, .bool true, .inl ⟨⟨0, l', cl', n', []⟩, ⟨hs, rfl⟩, rfl, rfl⟩⟩
theorem sB5 (hs : SOk x ⟨0, l', cl', n', E'⟩) (hne : E' ≠ []) : EndR (bB L x now l cl E n) (fun r h' => anyP r h' (kStepB L x now l cl E n o).posts) (.ret (.bool true)) (oO L :: oX x :: oM l' cl' :: oCb x n' :: oS x n' (sB 5 E'.length) :: oR E' :: rest) :=
  ⟨[0, 1, 2, 3, 4, 5], _, _, [oO L, oX x, oM l' cl', oCb x n', oS x n' (sB 5 E'.length), oR E'], rfl, by decide, rfl, Nat.le_refl _, ⟨⟨_, rfl, ro_o L⟩, ⟨_, rfl, ro_x x⟩, ⟨_, rfl, ro_m _ _⟩, ⟨_, rfl, ro_b rfl⟩, ⟨_, rfl, ro_s (.slice _ _ _ _ rfl)⟩, ⟨_, rfl, ro_r _⟩, trivial⟩, .bool true, .inr (.inl ⟨⟨0, l', cl', n', E'⟩, ⟨hs, hne⟩, rfl, rfl⟩)⟩
theorem sB6 (hk : 6 ≤ k) (hs : SOk x ⟨0, l', cl', n', E'⟩) (hne : E' ≠ []) (h0 : h[0]? = some (oO L)) (h1 : h[1]? = some (oX x)) (h2 : h[2]? = some (oM l' cl')) (h3 : h[3]? = some (oCb x n')) (h4 : h[4]? = some (oS x n' (sB k E'.length))) (h5 : h[5]? = some o5) (h6 : h[k]? = some (oR E')) :
    EndR (bB L x now l cl E n) (fun r h' => anyP r h' (kStepB L x now l cl E n o).posts) (.ret (.bool true)) h := by
  have hk6 : ren [0, 1, 2, 3, 4, 5, k] 6 = some k := rfl
  refine ⟨[0, 1, 2, 3, 4, 5, k], _, _, [oO L, oX x, oM l' cl', oCb x n', oS x n' (sB 6 E'.length), .dead, oR E'], rfl, ?_, rfl, Nat.le_succ _, ⟨⟨_, h0, ro_o L⟩, ⟨_, h1, ro_x x⟩, ⟨_, h2, ro_m _ _⟩, ⟨_, h3, ro_b rfl⟩, ⟨_, h4, ro_s (.slice _ _ _ _ hk6)⟩, ⟨_, h5, .dead _⟩, ⟨_, h6, ro_r _⟩, trivial⟩, .bool true, .inr (.inr ⟨⟨0, l', cl', n', E'⟩, ⟨hs, hne⟩, rfl, rfl⟩)⟩
  simp; omega
end
theorem beq_no {a : Int} (h : (a == a) = false) : False := by rw [beq_self_eq_true] at h; cases h
theorem tf_no {b : Bool} (h : b = true) (h' : b = false) : False := Bool.noConfusion (h.symm.trans h')
theorem run_stepN (L : List Ow) (x : Cf) (now : Int) (l : List (En × Nat)) (cl : Nat) (o : Ow) (Q : Res → AHeap → Prop) : (((kWhen now o.w [oO L, oX x, oM l cl, oCb x now, oS x now sN, .cells (rowO o) false]).asks Try.prog [] 14 ∧
∀ _ : Unit, (True) →
(((o.k == 1) = true →
((kGetP (oO L) (oX x) x now (whenM now o.w) l cl o.d [oS x now sN, .cells (rowO o) false]).asks Try.prog [] 10 ∧
∀ i1 : List (En × Nat) × Nat, (Rep i1.snd i1.fst (getM x now (srt l) (whenM now o.w) o.d).snd.snd) →
((kGetRN (oO L) (oX x) (oM i1.fst i1.snd) (oCb x (getM x now (srt l) (whenM now o.w) o.d).snd.fst) x now (whenM now o.w) o.d [.cells (rowO o) false]).asks Try.prog [] 11 ∧
∀ _ : Unit, (True) →
((((getM x now (srt l) (whenM now o.w) o.d).fst.fst == (getM x now [] (whenM now o.w) o.d).fst.fst) = true →
((((getM x now (srt l) (whenM now o.w) o.d).fst.snd == (getM x now [] (whenM now o.w) o.d).fst.snd) = true →
 Q (.ret (.bool true)) [oO L, oX x, oM i1.fst i1.snd, oCb x ((getM x now (srt l) (whenM now o.w) o.d).snd.fst), oS x ((getM x now [] (whenM now o.w) o.d).snd.fst) sN, .cells (rowO o) false, .dead]) ∧
(((getM x now (srt l) (whenM now o.w) o.d).fst.snd == (getM x now [] (whenM now o.w) o.d).fst.snd) = false →
 Q (.ret (.bool false)) [oO L, oX x, oM i1.fst i1.snd, oCb x ((getM x now (srt l) (whenM now o.w) o.d).snd.fst), oS x ((getM x now [] (whenM now o.w) o.d).snd.fst) sN, .cells (rowO o) false, .dead]))) ∧
(((getM x now (srt l) (whenM now o.w) o.d).fst.fst == (getM x now [] (whenM now o.w) o.d).fst.fst) = false →
 Q (.ret (.bool false)) [oO L, oX x, oM i1.fst i1.snd, oCb x ((getM x now (srt l) (whenM now o.w) o.d).snd.fst), oS x ((getM x now [] (whenM now o.w) o.d).snd.fst) sN, .cells (rowO o) false, .dead]))))) ∧
((o.k == 1) = false →
(((o.k == 2) = true →
((kToldP (oO L) (oX x) x now (whenM now o.w) l cl o.d o.m [oS x now sN, .cells (rowO o) false]).asks Try.prog [] 13 ∧
∀ i1 : List (En × Nat) × Nat, (Rep i1.snd i1.fst (toldM x now (srt l) (whenM now o.w) o.d o.m).snd.snd) →
((kToldRN (oO L) (oX x) (oM i1.fst i1.snd) (oCb x (toldM x now (srt l) (whenM now o.w) o.d o.m).snd.fst) x now (whenM now o.w) o.d o.m [.cells (rowO o) false]).asks Try.prog [] 15 ∧
(∀ _ : Unit, ((toldM x now [] (whenM now o.w) o.d o.m).snd.snd = []) →
((((toldM x now (srt l) (whenM now o.w) o.d o.m).fst.fst) = true →
((((toldM x now [] (whenM now o.w) o.d o.m).fst.fst) = true →
((((toldM x now (srt l) (whenM now o.w) o.d o.m).fst.snd == (toldM x now [] (whenM now o.w) o.d o.m).fst.snd) = true →
 Q (.ret (.bool true)) [oO L, oX x, oM i1.fst i1.snd, oCb x ((toldM x now (srt l) (whenM now o.w) o.d o.m).snd.fst), oS x ((toldM x now [] (whenM now o.w) o.d o.m).snd.fst) sN, .cells (rowO o) false, .dead]) ∧
(((toldM x now (srt l) (whenM now o.w) o.d o.m).fst.snd == (toldM x now [] (whenM now o.w) o.d o.m).fst.snd) = false →
 Q (.ret (.bool false)) [oO L, oX x, oM i1.fst i1.snd, oCb x ((toldM x now (srt l) (whenM now o.w) o.d o.m).snd.fst), oS x ((toldM x now [] (whenM now o.w) o.d o.m).snd.fst) sN, .cells (rowO o) false, .dead]))) ∧
(((toldM x now [] (whenM now o.w) o.d o.m).fst.fst) = false →
 Q (.ret (.bool false)) [oO L, oX x, oM i1.fst i1.snd, oCb x ((toldM x now (srt l) (whenM now o.w) o.d o.m).snd.fst), oS x ((toldM x now [] (whenM now o.w) o.d o.m).snd.fst) sN, .cells (rowO o) false, .dead]))) ∧
(((toldM x now (srt l) (whenM now o.w) o.d o.m).fst.fst) = false →
((((toldM x now [] (whenM now o.w) o.d o.m).fst.fst) = true →
 Q (.ret (.bool false)) [oO L, oX x, oM i1.fst i1.snd, oCb x ((toldM x now (srt l) (whenM now o.w) o.d o.m).snd.fst), oS x ((toldM x now [] (whenM now o.w) o.d o.m).snd.fst) sN, .cells (rowO o) false, .dead]) ∧
(((toldM x now [] (whenM now o.w) o.d o.m).fst.fst) = false →
((((toldM x now (srt l) (whenM now o.w) o.d o.m).fst.snd == (toldM x now [] (whenM now o.w) o.d o.m).fst.snd) = true →
 Q (.ret (.bool true)) [oO L, oX x, oM i1.fst i1.snd, oCb x ((toldM x now (srt l) (whenM now o.w) o.d o.m).snd.fst), oS x ((toldM x now [] (whenM now o.w) o.d o.m).snd.fst) sN, .cells (rowO o) false, .dead]) ∧
(((toldM x now (srt l) (whenM now o.w) o.d o.m).fst.snd == (toldM x now [] (whenM now o.w) o.d o.m).fst.snd) = false →
 Q (.ret (.bool false)) [oO L, oX x, oM i1.fst i1.snd, oCb x ((toldM x now (srt l) (whenM now o.w) o.d o.m).snd.fst), oS x ((toldM x now [] (whenM now o.w) o.d o.m).snd.fst) sN, .cells (rowO o) false, .dead]))))))) ∧
(∀ _ : Unit, ((toldM x now [] (whenM now o.w) o.d o.m).snd.snd ≠ []) →
((((toldM x now (srt l) (whenM now o.w) o.d o.m).fst.fst) = true →
((((toldM x now [] (whenM now o.w) o.d o.m).fst.fst) = true →
((((toldM x now (srt l) (whenM now o.w) o.d o.m).fst.snd == (toldM x now [] (whenM now o.w) o.d o.m).fst.snd) = true →
 Q (.ret (.bool true)) [oO L, oX x, oM i1.fst i1.snd, oCb x ((toldM x now (srt l) (whenM now o.w) o.d o.m).snd.fst), oS x ((toldM x now [] (whenM now o.w) o.d o.m).snd.fst) (sB 6 ((toldM x now [] (whenM now o.w) o.d o.m).snd.snd.length)), .cells (rowO o) false, oR (toldM x now [] (whenM now o.w) o.d o.m).snd.snd]) ∧
(((toldM x now (srt l) (whenM now o.w) o.d o.m).fst.snd == (toldM x now [] (whenM now o.w) o.d o.m).fst.snd) = false →
 Q (.ret (.bool false)) [oO L, oX x, oM i1.fst i1.snd, oCb x ((toldM x now (srt l) (whenM now o.w) o.d o.m).snd.fst), oS x ((toldM x now [] (whenM now o.w) o.d o.m).snd.fst) (sB 6 ((toldM x now [] (whenM now o.w) o.d o.m).snd.snd.length)), .cells (rowO o) false, oR (toldM x now [] (whenM now o.w) o.d o.m).snd.snd]))) ∧
(((toldM x now [] (whenM now o.w) o.d o.m).fst.fst) = false →
 Q (.ret (.bool false)) [oO L, oX x, oM i1.fst i1.snd, oCb x ((toldM x now (srt l) (whenM now o.w) o.d o.m).snd.fst), oS x ((toldM x now [] (whenM now o.w) o.d o.m).snd.fst) (sB 6 ((toldM x now [] (whenM now o.w) o.d o.m).snd.snd.length)), .cells (rowO o) false, oR (toldM x now [] (whenM now o.w) o.d o.m).snd.snd]))) ∧
(((toldM x now (srt l) (whenM now o.w) o.d o.m).fst.fst) = false →
((((toldM x now [] (whenM now o.w) o.d o.m).fst.fst) = true →
 Q (.ret (.bool false)) [oO L, oX x, oM i1.fst i1.snd, oCb x ((toldM x now (srt l) (whenM now o.w) o.d o.m).snd.fst), oS x ((toldM x now [] (whenM now o.w) o.d o.m).snd.fst) (sB 6 ((toldM x now [] (whenM now o.w) o.d o.m).snd.snd.length)), .cells (rowO o) false, oR (toldM x now [] (whenM now o.w) o.d o.m).snd.snd]) ∧
(((toldM x now [] (whenM now o.w) o.d o.m).fst.fst) = false →
((((toldM x now (srt l) (whenM now o.w) o.d o.m).fst.snd == (toldM x now [] (whenM now o.w) o.d o.m).fst.snd) = true →
 Q (.ret (.bool true)) [oO L, oX x, oM i1.fst i1.snd, oCb x ((toldM x now (srt l) (whenM now o.w) o.d o.m).snd.fst), oS x ((toldM x now [] (whenM now o.w) o.d o.m).snd.fst) (sB 6 ((toldM x now [] (whenM now o.w) o.d o.m).snd.snd.length)), .cells (rowO o) false, oR (toldM x now [] (whenM now o.w) o.d o.m).snd.snd]) ∧
(((toldM x now (srt l) (whenM now o.w) o.d o.m).fst.snd == (toldM x now [] (whenM now o.w) o.d o.m).fst.snd) = false →
 Q (.ret (.bool false)) [oO L, oX x, oM i1.fst i1.snd, oCb x ((toldM x now (srt l) (whenM now o.w) o.d o.m).snd.fst), oS x ((toldM x now [] (whenM now o.w) o.d o.m).snd.fst) (sB 6 ((toldM x now [] (whenM now o.w) o.d o.m).snd.snd.length)), .cells (rowO o) false, oR (toldM x now [] (whenM now o.w) o.d o.m).snd.snd])))))))))) ∧
((o.k == 2) = false →
(((o.k == 3) = true →
((kDropP (oO L) (oX x) x now (whenM now o.w) l cl o.d [oS x now sN, .cells (rowO o) false]).asks Try.prog [] 16 ∧
∀ i1 : List (En × Nat) × Nat, (Rep i1.snd i1.fst (dropM now (srt l) (whenM now o.w) o.d).snd.snd) →
((kDropRN (oO L) (oX x) (oM i1.fst i1.snd) (oCb x (dropM now (srt l) (whenM now o.w) o.d).snd.fst) x now (whenM now o.w) o.d [.cells (rowO o) false]).asks Try.prog [] 17 ∧
∀ _ : Unit, (True) →
((((dropM now (srt l) (whenM now o.w) o.d).fst.fst) = true →
((((dropM now [] (whenM now o.w) o.d).fst.fst) = true →
((((dropM now (srt l) (whenM now o.w) o.d).fst.snd == (dropM now [] (whenM now o.w) o.d).fst.snd) = true →
 Q (.ret (.bool true)) [oO L, oX x, oM i1.fst i1.snd, oCb x ((dropM now (srt l) (whenM now o.w) o.d).snd.fst), oS x ((dropM now [] (whenM now o.w) o.d).snd.fst) sN, .cells (rowO o) false, .dead]) ∧
(((dropM now (srt l) (whenM now o.w) o.d).fst.snd == (dropM now [] (whenM now o.w) o.d).fst.snd) = false →
 Q (.ret (.bool false)) [oO L, oX x, oM i1.fst i1.snd, oCb x ((dropM now (srt l) (whenM now o.w) o.d).snd.fst), oS x ((dropM now [] (whenM now o.w) o.d).snd.fst) sN, .cells (rowO o) false, .dead]))) ∧
(((dropM now [] (whenM now o.w) o.d).fst.fst) = false →
 Q (.ret (.bool false)) [oO L, oX x, oM i1.fst i1.snd, oCb x ((dropM now (srt l) (whenM now o.w) o.d).snd.fst), oS x ((dropM now [] (whenM now o.w) o.d).snd.fst) sN, .cells (rowO o) false, .dead]))) ∧
(((dropM now (srt l) (whenM now o.w) o.d).fst.fst) = false →
((((dropM now [] (whenM now o.w) o.d).fst.fst) = true →
 Q (.ret (.bool false)) [oO L, oX x, oM i1.fst i1.snd, oCb x ((dropM now (srt l) (whenM now o.w) o.d).snd.fst), oS x ((dropM now [] (whenM now o.w) o.d).snd.fst) sN, .cells (rowO o) false, .dead]) ∧
(((dropM now [] (whenM now o.w) o.d).fst.fst) = false →
((((dropM now (srt l) (whenM now o.w) o.d).fst.snd == (dropM now [] (whenM now o.w) o.d).fst.snd) = true →
 Q (.ret (.bool true)) [oO L, oX x, oM i1.fst i1.snd, oCb x ((dropM now (srt l) (whenM now o.w) o.d).snd.fst), oS x ((dropM now [] (whenM now o.w) o.d).snd.fst) sN, .cells (rowO o) false, .dead]) ∧
(((dropM now (srt l) (whenM now o.w) o.d).fst.snd == (dropM now [] (whenM now o.w) o.d).fst.snd) = false →
 Q (.ret (.bool false)) [oO L, oX x, oM i1.fst i1.snd, oCb x ((dropM now (srt l) (whenM now o.w) o.d).snd.fst), oS x ((dropM now [] (whenM now o.w) o.d).snd.fst) sN, .cells (rowO o) false, .dead]))))))))) ∧
((o.k == 3) = false →
(((o.k == 4) = true →
((kAllP (oO L) (oX x) x now (whenM now o.w) l cl [oS x now sN, .cells (rowO o) false]).asks Try.prog [] 18 ∧
(∀ i1 : List (En × Nat) × Nat, (errT (whenM now o.w) now ∧
 Rep i1.snd i1.fst (srt l)) →
((kAllRN (oO L) (oX x) (oM i1.fst i1.snd) (oCb x now) x now (whenM now o.w) [.cells (rowO o) false]).asks Try.prog [] 19 ∧
(∀ _ : Unit, (errT (whenM now o.w) now) →
((kSameN [oO L, oX x, oM i1.fst i1.snd, oCb x now, oS x now sN, .cells (rowO o) false]).asks Try.prog [] 20 ∧
∀ _ : Unit, (True) →
 Q (.ret (.bool true)) [oO L, oX x, oM i1.fst i1.snd, oCb x now, oS x now sN, .cells (rowO o) false])) ∧
(∀ _ : Unit, (¬errT (whenM now o.w) now) →
((kSame0 [oO L, oX x, oM i1.fst i1.snd, oCb x now, oS x (whenM now o.w) sN, .cells (rowO o) false]).asks Try.prog [] 20 ∧
∀ _ : Unit, (True) →
 Q (.ret (.bool false)) [oO L, oX x, oM i1.fst i1.snd, oCb x now, oS x (whenM now o.w) sN, .cells (rowO o) false])))) ∧
(∀ i1 : List (En × Nat) × Nat, (¬errT (whenM now o.w) now ∧
 tidyE (whenM now o.w) (srt l) = [] ∧
 Rep i1.snd i1.fst (tidyE (whenM now o.w) (srt l))) →
((kAllRN (oO L) (oX x) (oM i1.fst i1.snd) (oCb x (whenM now o.w)) x now (whenM now o.w) [.cells (rowO o) false]).asks Try.prog [] 19 ∧
(∀ _ : Unit, (errT (whenM now o.w) now) →
((kSameN [oO L, oX x, oM i1.fst i1.snd, oCb x (whenM now o.w), oS x now sN, .cells (rowO o) false]).asks Try.prog [] 20 ∧
∀ _ : Unit, (True) →
 Q (.ret (.bool false)) [oO L, oX x, oM i1.fst i1.snd, oCb x (whenM now o.w), oS x now sN, .cells (rowO o) false])) ∧
(∀ _ : Unit, (¬errT (whenM now o.w) now) →
((kSame0 [oO L, oX x, oM i1.fst i1.snd, oCb x (whenM now o.w), oS x (whenM now o.w) sN, .cells (rowO o) false]).asks Try.prog [] 20 ∧
∀ _ : Unit, (True) →
 Q (.ret (.bool true)) [oO L, oX x, oM i1.fst i1.snd, oCb x (whenM now o.w), oS x (whenM now o.w) sN, .cells (rowO o) false])))) ∧
(∀ i1 : List (En × Nat) × Nat, (¬errT (whenM now o.w) now ∧
 tidyE (whenM now o.w) (srt l) ≠ [] ∧
 Rep i1.snd i1.fst (tidyE (whenM now o.w) (srt l))) →
((kAllRN (oO L) (oX x) (oM i1.fst i1.snd) (oCb x (whenM now o.w)) x now (whenM now o.w) [.cells (rowO o) false, oR (tidyE (whenM now o.w) (srt l))]).asks Try.prog [] 19 ∧
(∀ _ : Unit, (errT (whenM now o.w) now) →
((kSameF (sB 6 (tidyE (whenM now o.w) (srt l)).length) (sN) [oO L, oX x, oM i1.fst i1.snd, oCb x (whenM now o.w), oS x now sN, .cells (rowO o) false, oR (tidyE (whenM now o.w) (srt l))]).asks Try.prog [] 20 ∧
∀ _ : Unit, (False) →
 Q (.ret (.bool false)) [oO L, oX x, oM i1.fst i1.snd, oCb x (whenM now o.w), oS x now sN, .cells (rowO o) false, oR (tidyE (whenM now o.w) (srt l))])) ∧
(∀ _ : Unit, (¬errT (whenM now o.w) now) →
((kSameF (sB 6 (tidyE (whenM now o.w) (srt l)).length) (Go.Value.slice (Option.some { block := 4, off := 0 }) 0 0) [oO L, oX x, oM i1.fst i1.snd, oCb x (whenM now o.w), oS x (whenM now o.w) sN, .cells (rowO o) false, oR (tidyE (whenM now o.w) (srt l))]).asks Try.prog [] 20 ∧
∀ _ : Unit, (False) →
 Q (.ret (.bool true)) [oO L, oX x, oM i1.fst i1.snd, oCb x (whenM now o.w), oS x (whenM now o.w) sN, .cells (rowO o) false, oR (tidyE (whenM now o.w) (srt l))])))))) ∧
((o.k == 4) = false →
 Q (.ret (.bool true)) [oO L, oX x, oM l cl, oCb x now, oS x now sN, .cells (rowO o) false])))))))))) =
    runS Try.prog [] false [10, 11, 13, 14, 15, 16, 17, 18, 19, 20] 0 (SpecC Try.prog []) 20 8 [pP, pQ, .agg ⟨rowO o⟩] [oO L, oX x, oM l cl, oCb x now, oS x now sN] .norm (.skip 8 (.call (Unit) (kWhen now o.w [oO L, oX x, oM l cl, oCb x now, oS x now sN, .cells (rowO o) false]).post fun _ => .skip 3 (.ask (.skip 6 (.call (List (En × Nat) × Nat) (kGetP (oO L) (oX x) x now (whenM now o.w) l cl o.d [oS x now sN, .cells (rowO o) false]).post fun i1 => .skip 9 (.call (Unit) (kGetRN (oO L) (oX x) (oM i1.fst i1.snd) (oCb x (getM x now (srt l) (whenM now o.w) o.d).snd.fst) x now (whenM now o.w) o.d [.cells (rowO o) false]).post fun _ => .skip 7 (.ask (.skip 6 (.ask (.go) (.go))) (.go))))) (.skip 2 (.ask (.skip 8 (.call (List (En × Nat) × Nat) (kToldP (oO L) (oX x) x now (whenM now o.w) l cl o.d o.m [oS x now sN, .cells (rowO o) false]).post fun i1 => .skip 11 (.callN (Unit) (kToldRN (oO L) (oX x) (oM i1.fst i1.snd) (oCb x (toldM x now (srt l) (whenM now o.w) o.d o.m).snd.fst) x now (whenM now o.w) o.d o.m [.cells (rowO o) false]).posts (fun k => match k with | 0 => fun _i2 => .skip 5 (.ask (.skip 0 (.ask (.skip 7 (.ask (.go) (.go))) (.go))) (.skip 0 (.ask (.go) (.skip 7 (.ask (.go) (.go)))))) | _ => fun _i2 => .skip 5 (.ask (.skip 0 (.ask (.skip 7 (.ask (.go) (.go))) (.go))) (.skip 0 (.ask (.go) (.skip 7 (.ask (.go) (.go)))))))))) (.skip 2 (.ask (.skip 6 (.call (List (En × Nat) × Nat) (kDropP (oO L) (oX x) x now (whenM now o.w) l cl o.d [oS x now sN, .cells (rowO o) false]).post fun i1 => .skip 9 (.call (Unit) (kDropRN (oO L) (oX x) (oM i1.fst i1.snd) (oCb x (dropM now (srt l) (whenM now o.w) o.d).snd.fst) x now (whenM now o.w) o.d [.cells (rowO o) false]).post fun _ => .skip 5 (.ask (.skip 0 (.ask (.skip 7 (.ask (.go) (.go))) (.go))) (.skip 0 (.ask (.go) (.skip 7 (.ask (.go) (.go))))))))) (.skip 2 (.ask (.skip 4 (.callN (List (En × Nat) × Nat) (kAllP (oO L) (oX x) x now (whenM now o.w) l cl [oS x now sN, .cells (rowO o) false]).posts (fun k => match k with | 0 => fun i1 => .skip 7 (.callN (Unit) (kAllRN (oO L) (oX x) (oM i1.fst i1.snd) (oCb x now) x now (whenM now o.w) [.cells (rowO o) false]).posts (fun k => match k with | 0 => fun _i2 => .skip 7 (.call (Unit) (kSameN [oO L, oX x, oM i1.fst i1.snd, oCb x now, oS x now sN, .cells (rowO o) false]).post fun _ => .go) | _ => fun _i2 => .skip 7 (.call (Unit) (kSame0 [oO L, oX x, oM i1.fst i1.snd, oCb x now, oS x (whenM now o.w) sN, .cells (rowO o) false]).post fun _ => .go))) | 1 => fun i1 => .skip 7 (.callN (Unit) (kAllRN (oO L) (oX x) (oM i1.fst i1.snd) (oCb x (whenM now o.w)) x now (whenM now o.w) [.cells (rowO o) false]).posts (fun k => match k with | 0 => fun _i2 => .skip 7 (.call (Unit) (kSameN [oO L, oX x, oM i1.fst i1.snd, oCb x (whenM now o.w), oS x now sN, .cells (rowO o) false]).post fun _ => .go) | _ => fun _i2 => .skip 7 (.call (Unit) (kSame0 [oO L, oX x, oM i1.fst i1.snd, oCb x (whenM now o.w), oS x (whenM now o.w) sN, .cells (rowO o) false]).post fun _ => .go))) | _ => fun i1 => .skip 7 (.callN (Unit) (kAllRN (oO L) (oX x) (oM i1.fst i1.snd) (oCb x (whenM now o.w)) x now (whenM now o.w) [.cells (rowO o) false, oR (tidyE (whenM now o.w) (srt l))]).posts (fun k => match k with | 0 => fun _i2 => .skip 7 (.call (Unit) (kSameF (sB 6 (tidyE (whenM now o.w) (srt l)).length) (sN) [oO L, oX x, oM i1.fst i1.snd, oCb x (whenM now o.w), oS x now sN, .cells (rowO o) false, oR (tidyE (whenM now o.w) (srt l))]).post fun _ => .go) | _ => fun _i2 => .skip 7 (.call (Unit) (kSameF (sB 6 (tidyE (whenM now o.w) (srt l)).length) (Go.Value.slice (Option.some { block := 4, off := 0 }) 0 0) [oO L, oX x, oM i1.fst i1.snd, oCb x (whenM now o.w), oS x (whenM now o.w) sN, .cells (rowO o) false, oR (tidyE (whenM now o.w) (srt l))]).post fun _ => .go)))))) (.go)))))))))) (fun r _ h _ => Q r h) := by kernel_rfl

theorem stepN_ok {L : List Ow} {x : Cf} {now : Int} {l : List (En × Nat)} {cl : Nat} {o : Ow} (hx : okC x) (HD : okA o.d) (HR : Rep cl l (srt l)) (HG : Good x (srt l)) (ht0 : 0 ≤ now) (ht1 : now ≤ 1099511627776) (hL : noE (oO L) = true) (HE : srt l = []) :
    (kStepN L x now l cl o).asks Try.prog [] 8 := by
  have HB : (srt l).length < 2 ^ 20 := HG.len hx
  have HL : 1 ≤ x.lim := by have := hx.1; omega
  have HF : 0 ≤ x.life ∧ x.life < 2 ^ 62 := by have := hx.2.2.2.2.2.2; omega
  have HT : -(2 ^ 62) ≤ now := by omega
  refine .inl (Spec.re (spec_T (run_stepN L x now l cl o _) ?_))
  rw [HE] at HG ⊢
  refine ⟨when_ok ht0 ht1, ?_⟩
  intro _ _
  refine ⟨fun h0 => ?_, fun h0 => ?_⟩
  refine ⟨getP_ok HR (nE hL rfl), ?_⟩
  intro i1 hR
  refine ⟨getRN_ok (nE hL rfl), ?_⟩
  intro _ _
  refine ⟨fun h1 => ?_, fun h1 => ?_⟩
  refine ⟨fun h2 => ?_, fun h2 => ?_⟩
  have hs := sok_get HG ht0 ht1 hR
  rw [getM_nil] at hs
  exact sNN hs
  exact (beq_no h2).elim
  exact (beq_no h1).elim
  refine ⟨fun h1 => ?_, fun h1 => ?_⟩
  refine ⟨toldP_ok HR HD HL HB HF HT (nE hL rfl), ?_⟩
  intro i1 hR
  refine ⟨toldRN_ok HL HF HT (nE hL rfl), ?_⟩
  refine ⟨?_, ?_⟩
  intro _ hE
  refine ⟨fun h3 => ?_, fun h3 => ?_⟩
  refine ⟨fun h4 => ?_, fun h4 => ?_⟩
  refine ⟨fun h5 => ?_, fun h5 => ?_⟩
  have hs := sok_told hx HG ht0 ht1 hR
  rw [hE] at hs
  exact sNN hs
  exact (beq_no h5).elim
  exact (tf_no h3 h4).elim
  refine ⟨fun h4 => ?_, fun h4 => ?_⟩
  exact (tf_no h4 h3).elim
  refine ⟨fun h5 => ?_, fun h5 => ?_⟩
  have hs := sok_told hx HG ht0 ht1 hR
  rw [hE] at hs
  exact sNN hs
  exact (beq_no h5).elim
  intro _ hE
  refine ⟨fun h3 => ?_, fun h3 => ?_⟩
  refine ⟨fun h4 => ?_, fun h4 => ?_⟩
  refine ⟨fun h5 => ?_, fun h5 => ?_⟩
  exact sNB (sok_told hx HG ht0 ht1 hR) hE
  exact (beq_no h5).elim
  exact (tf_no h3 h4).elim
  refine ⟨fun h4 => ?_, fun h4 => ?_⟩
  exact (tf_no h4 h3).elim
  refine ⟨fun h5 => ?_, fun h5 => ?_⟩
  exact sNB (sok_told hx HG ht0 ht1 hR) hE
  exact (beq_no h5).elim
  refine ⟨fun h2 => ?_, fun h2 => ?_⟩
  refine ⟨dropP_ok HR (nE hL rfl), ?_⟩
  intro i1 hR
  refine ⟨dropRN_ok (nE hL rfl), ?_⟩
  intro _ _
  refine ⟨fun h3 => ?_, fun h3 => ?_⟩
  refine ⟨fun h4 => ?_, fun h4 => ?_⟩
  refine ⟨fun h5 => ?_, fun h5 => ?_⟩
  have hs := sok_drop HG ht0 ht1 hR
  rw [dropM_nil] at hs
  exact sNN hs
  exact (beq_no h5).elim
  exact (tf_no h3 h4).elim
  refine ⟨fun h4 => ?_, fun h4 => ?_⟩
  exact (tf_no h4 h3).elim
  refine ⟨fun h5 => ?_, fun h5 => ?_⟩
  have hs := sok_drop HG ht0 ht1 hR
  rw [dropM_nil] at hs
  exact sNN hs
  exact (beq_no h5).elim
  refine ⟨fun h3 => ?_, fun h3 => ?_⟩
  refine ⟨allP_ok HR HB (nE hL rfl), ?_⟩
  refine ⟨?_, ?_⟩
  rintro i1 ⟨her, hR⟩
  refine ⟨allRN_ok (nE hL rfl), ?_⟩
  refine ⟨?_, ?_⟩
  intro _ h5
  refine ⟨sameN_ok (nE hL rfl), ?_⟩
  intro _ _
  have hs := sok_err HG ht0 ht1 hR
  exact sNN hs
  intro _ h5
  exact absurd her h5
  refine ⟨?_, ?_⟩
  rintro i1 ⟨hne, hem, hR⟩
  refine ⟨allRN_ok (nE hL rfl), ?_⟩
  refine ⟨?_, ?_⟩
  intro _ h5
  exact absurd h5 hne
  intro _ h5
  refine ⟨same0_ok (nE hL rfl), ?_⟩
  intro _ _
  have hs := sok_tidy HG ht0 hne hR
  rw [hem] at hs
  exact sNN hs
  rintro i1 ⟨hne, hem, hR⟩
  exact absurd rfl hem
  have hs := sok_err HG ht0 ht1 (by rw [HE] at HR; exact HR)
  exact sNN hs
theorem run_stepB (L : List Ow) (x : Cf) (now : Int) (l : List (En × Nat)) (cl : Nat) (E : List En) (n : Nat) (o : Ow) (Q : Res → AHeap → Prop) : (((kWhen now o.w [oO L, oX x, oM l cl, oCb x now, oS x now (sB 5 n), oR E, .cells (rowO o) false]).asks Try.prog [] 14 ∧
∀ _ : Unit, (True) →
(((o.k == 1) = true →
((kGetP (oO L) (oX x) x now (whenM now o.w) l cl o.d [oS x now (sB 5 n), oR E, .cells (rowO o) false]).asks Try.prog [] 10 ∧
∀ i1 : List (En × Nat) × Nat, (Rep i1.snd i1.fst (getM x now (srt l) (whenM now o.w) o.d).snd.snd) →
((kGetRB (oO L) (oX x) (oM i1.fst i1.snd) (oCb x (getM x now (srt l) (whenM now o.w) o.d).snd.fst) x now (whenM now o.w) E n o.d [.cells (rowO o) false]).asks Try.prog [] 11 ∧
(∀ _ : Unit, ((getM x now E (whenM now o.w) o.d).snd.snd = []) →
((((getM x now (srt l) (whenM now o.w) o.d).fst.fst == (getM x now E (whenM now o.w) o.d).fst.fst) = true →
((((getM x now (srt l) (whenM now o.w) o.d).fst.snd == (getM x now E (whenM now o.w) o.d).fst.snd) = true →
 Q (.ret (.bool true)) [oO L, oX x, oM i1.fst i1.snd, oCb x ((getM x now (srt l) (whenM now o.w) o.d).snd.fst), oS x ((getM x now E (whenM now o.w) o.d).snd.fst) sN, oR E, .cells (rowO o) false, .dead]) ∧
(((getM x now (srt l) (whenM now o.w) o.d).fst.snd == (getM x now E (whenM now o.w) o.d).fst.snd) = false →
 Q (.ret (.bool false)) [oO L, oX x, oM i1.fst i1.snd, oCb x ((getM x now (srt l) (whenM now o.w) o.d).snd.fst), oS x ((getM x now E (whenM now o.w) o.d).snd.fst) sN, oR E, .cells (rowO o) false, .dead]))) ∧
(((getM x now (srt l) (whenM now o.w) o.d).fst.fst == (getM x now E (whenM now o.w) o.d).fst.fst) = false →
 Q (.ret (.bool false)) [oO L, oX x, oM i1.fst i1.snd, oCb x ((getM x now (srt l) (whenM now o.w) o.d).snd.fst), oS x ((getM x now E (whenM now o.w) o.d).snd.fst) sN, oR E, .cells (rowO o) false, .dead]))) ∧
(∀ _ : Unit, ((getM x now E (whenM now o.w) o.d).snd.snd ≠ [] ∧
 E = (getM x now E (whenM now o.w) o.d).snd.snd) →
((((getM x now (srt l) (whenM now o.w) o.d).fst.fst == (getM x now E (whenM now o.w) o.d).fst.fst) = true →
((((getM x now (srt l) (whenM now o.w) o.d).fst.snd == (getM x now E (whenM now o.w) o.d).fst.snd) = true →
 Q (.ret (.bool true)) [oO L, oX x, oM i1.fst i1.snd, oCb x ((getM x now (srt l) (whenM now o.w) o.d).snd.fst), oS x ((getM x now E (whenM now o.w) o.d).snd.fst) (sB 5 ((getM x now E (whenM now o.w) o.d).snd.snd.length)), oR (getM x now E (whenM now o.w) o.d).snd.snd, .cells (rowO o) false, .dead]) ∧
(((getM x now (srt l) (whenM now o.w) o.d).fst.snd == (getM x now E (whenM now o.w) o.d).fst.snd) = false →
 Q (.ret (.bool false)) [oO L, oX x, oM i1.fst i1.snd, oCb x ((getM x now (srt l) (whenM now o.w) o.d).snd.fst), oS x ((getM x now E (whenM now o.w) o.d).snd.fst) (sB 5 ((getM x now E (whenM now o.w) o.d).snd.snd.length)), oR (getM x now E (whenM now o.w) o.d).snd.snd, .cells (rowO o) false, .dead]))) ∧
(((getM x now (srt l) (whenM now o.w) o.d).fst.fst == (getM x now E (whenM now o.w) o.d).fst.fst) = false →
 Q (.ret (.bool false)) [oO L, oX x, oM i1.fst i1.snd, oCb x ((getM x now (srt l) (whenM now o.w) o.d).snd.fst), oS x ((getM x now E (whenM now o.w) o.d).snd.fst) (sB 5 ((getM x now E (whenM now o.w) o.d).snd.snd.length)), oR (getM x now E (whenM now o.w) o.d).snd.snd, .cells (rowO o) false, .dead]))) ∧
(∀ _ : Unit, ((getM x now E (whenM now o.w) o.d).snd.snd ≠ []) →
((((getM x now (srt l) (whenM now o.w) o.d).fst.fst == (getM x now E (whenM now o.w) o.d).fst.fst) = true →
((((getM x now (srt l) (whenM now o.w) o.d).fst.snd == (getM x now E (whenM now o.w) o.d).fst.snd) = true →
 Q (.ret (.bool true)) [oO L, oX x, oM i1.fst i1.snd, oCb x ((getM x now (srt l) (whenM now o.w) o.d).snd.fst), oS x ((getM x now E (whenM now o.w) o.d).snd.fst) (sB 7 ((getM x now E (whenM now o.w) o.d).snd.snd.length)), oR E, .cells (rowO o) false, oR (getM x now E (whenM now o.w) o.d).snd.snd]) ∧
(((getM x now (srt l) (whenM now o.w) o.d).fst.snd == (getM x now E (whenM now o.w) o.d).fst.snd) = false →
 Q (.ret (.bool false)) [oO L, oX x, oM i1.fst i1.snd, oCb x ((getM x now (srt l) (whenM now o.w) o.d).snd.fst), oS x ((getM x now E (whenM now o.w) o.d).snd.fst) (sB 7 ((getM x now E (whenM now o.w) o.d).snd.snd.length)), oR E, .cells (rowO o) false, oR (getM x now E (whenM now o.w) o.d).snd.snd]))) ∧
(((getM x now (srt l) (whenM now o.w) o.d).fst.fst == (getM x now E (whenM now o.w) o.d).fst.fst) = false →
 Q (.ret (.bool false)) [oO L, oX x, oM i1.fst i1.snd, oCb x ((getM x now (srt l) (whenM now o.w) o.d).snd.fst), oS x ((getM x now E (whenM now o.w) o.d).snd.fst) (sB 7 ((getM x now E (whenM now o.w) o.d).snd.snd.length)), oR E, .cells (rowO o) false, oR (getM x now E (whenM now o.w) o.d).snd.snd])))))) ∧
((o.k == 1) = false →
(((o.k == 2) = true →
((kToldP (oO L) (oX x) x now (whenM now o.w) l cl o.d o.m [oS x now (sB 5 n), oR E, .cells (rowO o) false]).asks Try.prog [] 13 ∧
∀ i1 : List (En × Nat) × Nat, (Rep i1.snd i1.fst (toldM x now (srt l) (whenM now o.w) o.d o.m).snd.snd) →
((kToldRB (oO L) (oX x) (oM i1.fst i1.snd) (oCb x (toldM x now (srt l) (whenM now o.w) o.d o.m).snd.fst) x now (whenM now o.w) E n o.d o.m [.cells (rowO o) false]).asks Try.prog [] 15 ∧
(∀ _ : Unit, ((toldM x now E (whenM now o.w) o.d o.m).snd.snd = []) →
((((toldM x now (srt l) (whenM now o.w) o.d o.m).fst.fst) = true →
((((toldM x now E (whenM now o.w) o.d o.m).fst.fst) = true →
((((toldM x now (srt l) (whenM now o.w) o.d o.m).fst.snd == (toldM x now E (whenM now o.w) o.d o.m).fst.snd) = true →
 Q (.ret (.bool true)) [oO L, oX x, oM i1.fst i1.snd, oCb x ((toldM x now (srt l) (whenM now o.w) o.d o.m).snd.fst), oS x ((toldM x now E (whenM now o.w) o.d o.m).snd.fst) sN, oR E, .cells (rowO o) false, .dead]) ∧
(((toldM x now (srt l) (whenM now o.w) o.d o.m).fst.snd == (toldM x now E (whenM now o.w) o.d o.m).fst.snd) = false →
 Q (.ret (.bool false)) [oO L, oX x, oM i1.fst i1.snd, oCb x ((toldM x now (srt l) (whenM now o.w) o.d o.m).snd.fst), oS x ((toldM x now E (whenM now o.w) o.d o.m).snd.fst) sN, oR E, .cells (rowO o) false, .dead]))) ∧
(((toldM x now E (whenM now o.w) o.d o.m).fst.fst) = false →
 Q (.ret (.bool false)) [oO L, oX x, oM i1.fst i1.snd, oCb x ((toldM x now (srt l) (whenM now o.w) o.d o.m).snd.fst), oS x ((toldM x now E (whenM now o.w) o.d o.m).snd.fst) sN, oR E, .cells (rowO o) false, .dead]))) ∧
(((toldM x now (srt l) (whenM now o.w) o.d o.m).fst.fst) = false →
((((toldM x now E (whenM now o.w) o.d o.m).fst.fst) = true →
 Q (.ret (.bool false)) [oO L, oX x, oM i1.fst i1.snd, oCb x ((toldM x now (srt l) (whenM now o.w) o.d o.m).snd.fst), oS x ((toldM x now E (whenM now o.w) o.d o.m).snd.fst) sN, oR E, .cells (rowO o) false, .dead]) ∧
(((toldM x now E (whenM now o.w) o.d o.m).fst.fst) = false →
((((toldM x now (srt l) (whenM now o.w) o.d o.m).fst.snd == (toldM x now E (whenM now o.w) o.d o.m).fst.snd) = true →
 Q (.ret (.bool true)) [oO L, oX x, oM i1.fst i1.snd, oCb x ((toldM x now (srt l) (whenM now o.w) o.d o.m).snd.fst), oS x ((toldM x now E (whenM now o.w) o.d o.m).snd.fst) sN, oR E, .cells (rowO o) false, .dead]) ∧
(((toldM x now (srt l) (whenM now o.w) o.d o.m).fst.snd == (toldM x now E (whenM now o.w) o.d o.m).fst.snd) = false →
 Q (.ret (.bool false)) [oO L, oX x, oM i1.fst i1.snd, oCb x ((toldM x now (srt l) (whenM now o.w) o.d o.m).snd.fst), oS x ((toldM x now E (whenM now o.w) o.d o.m).snd.fst) sN, oR E, .cells (rowO o) false, .dead]))))))) ∧
(∀ _ : Unit, ((toldM x now E (whenM now o.w) o.d o.m).snd.snd ≠ [] ∧
 E = (toldM x now E (whenM now o.w) o.d o.m).snd.snd) →
((((toldM x now (srt l) (whenM now o.w) o.d o.m).fst.fst) = true →
((((toldM x now E (whenM now o.w) o.d o.m).fst.fst) = true →
((((toldM x now (srt l) (whenM now o.w) o.d o.m).fst.snd == (toldM x now E (whenM now o.w) o.d o.m).fst.snd) = true →
 Q (.ret (.bool true)) [oO L, oX x, oM i1.fst i1.snd, oCb x ((toldM x now (srt l) (whenM now o.w) o.d o.m).snd.fst), oS x ((toldM x now E (whenM now o.w) o.d o.m).snd.fst) (sB 5 ((toldM x now E (whenM now o.w) o.d o.m).snd.snd.length)), oR (toldM x now E (whenM now o.w) o.d o.m).snd.snd, .cells (rowO o) false, .dead]) ∧
(((toldM x now (srt l) (whenM now o.w) o.d o.m).fst.snd == (toldM x now E (whenM now o.w) o.d o.m).fst.snd) = false →
 Q (.ret (.bool false)) [oO L, oX x, oM i1.fst i1.snd, oCb x ((toldM x now (srt l) (whenM now o.w) o.d o.m).snd.fst), oS x ((toldM x now E (whenM now o.w) o.d o.m).snd.fst) (sB 5 ((toldM x now E (whenM now o.w) o.d o.m).snd.snd.length)), oR (toldM x now E (whenM now o.w) o.d o.m).snd.snd, .cells (rowO o) false, .dead]))) ∧
(((toldM x now E (whenM now o.w) o.d o.m).fst.fst) = false →
 Q (.ret (.bool false)) [oO L, oX x, oM i1.fst i1.snd, oCb x ((toldM x now (srt l) (whenM now o.w) o.d o.m).snd.fst), oS x ((toldM x now E (whenM now o.w) o.d o.m).snd.fst) (sB 5 ((toldM x now E (whenM now o.w) o.d o.m).snd.snd.length)), oR (toldM x now E (whenM now o.w) o.d o.m).snd.snd, .cells (rowO o) false, .dead]))) ∧
(((toldM x now (srt l) (whenM now o.w) o.d o.m).fst.fst) = false →
((((toldM x now E (whenM now o.w) o.d o.m).fst.fst) = true →
 Q (.ret (.bool false)) [oO L, oX x, oM i1.fst i1.snd, oCb x ((toldM x now (srt l) (whenM now o.w) o.d o.m).snd.fst), oS x ((toldM x now E (whenM now o.w) o.d o.m).snd.fst) (sB 5 ((toldM x now E (whenM now o.w) o.d o.m).snd.snd.length)), oR (toldM x now E (whenM now o.w) o.d o.m).snd.snd, .cells (rowO o) false, .dead]) ∧
(((toldM x now E (whenM now o.w) o.d o.m).fst.fst) = false →
((((toldM x now (srt l) (whenM now o.w) o.d o.m).fst.snd == (toldM x now E (whenM now o.w) o.d o.m).fst.snd) = true →
 Q (.ret (.bool true)) [oO L, oX x, oM i1.fst i1.snd, oCb x ((toldM x now (srt l) (whenM now o.w) o.d o.m).snd.fst), oS x ((toldM x now E (whenM now o.w) o.d o.m).snd.fst) (sB 5 ((toldM x now E (whenM now o.w) o.d o.m).snd.snd.length)), oR (toldM x now E (whenM now o.w) o.d o.m).snd.snd, .cells (rowO o) false, .dead]) ∧
(((toldM x now (srt l) (whenM now o.w) o.d o.m).fst.snd == (toldM x now E (whenM now o.w) o.d o.m).fst.snd) = false →
 Q (.ret (.bool false)) [oO L, oX x, oM i1.fst i1.snd, oCb x ((toldM x now (srt l) (whenM now o.w) o.d o.m).snd.fst), oS x ((toldM x now E (whenM now o.w) o.d o.m).snd.fst) (sB 5 ((toldM x now E (whenM now o.w) o.d o.m).snd.snd.length)), oR (toldM x now E (whenM now o.w) o.d o.m).snd.snd, .cells (rowO o) false, .dead]))))))) ∧
(∀ _ : Unit, ((toldM x now E (whenM now o.w) o.d o.m).snd.snd ≠ []) →
((((toldM x now (srt l) (whenM now o.w) o.d o.m).fst.fst) = true →
((((toldM x now E (whenM now o.w) o.d o.m).fst.fst) = true →
((((toldM x now (srt l) (whenM now o.w) o.d o.m).fst.snd == (toldM x now E (whenM now o.w) o.d o.m).fst.snd) = true →
 Q (.ret (.bool true)) [oO L, oX x, oM i1.fst i1.snd, oCb x ((toldM x now (srt l) (whenM now o.w) o.d o.m).snd.fst), oS x ((toldM x now E (whenM now o.w) o.d o.m).snd.fst) (sB 7 ((toldM x now E (whenM now o.w) o.d o.m).snd.snd.length)), oR E, .cells (rowO o) false, oR (toldM x now E (whenM now o.w) o.d o.m).snd.snd]) ∧
(((toldM x now (srt l) (whenM now o.w) o.d o.m).fst.snd == (toldM x now E (whenM now o.w) o.d o.m).fst.snd) = false →
 Q (.ret (.bool false)) [oO L, oX x, oM i1.fst i1.snd, oCb x ((toldM x now (srt l) (whenM now o.w) o.d o.m).snd.fst), oS x ((toldM x now E (whenM now o.w) o.d o.m).snd.fst) (sB 7 ((toldM x now E (whenM now o.w) o.d o.m).snd.snd.length)), oR E, .cells (rowO o) false, oR (toldM x now E (whenM now o.w) o.d o.m).snd.snd]))) ∧
(((toldM x now E (whenM now o.w) o.d o.m).fst.fst) = false →
 Q (.ret (.bool false)) [oO L, oX x, oM i1.fst i1.snd, oCb x ((toldM x now (srt l) (whenM now o.w) o.d o.m).snd.fst), oS x ((toldM x now E (whenM now o.w) o.d o.m).snd.fst) (sB 7 ((toldM x now E (whenM now o.w) o.d o.m).snd.snd.length)), oR E, .cells (rowO o) false, oR (toldM x now E (whenM now o.w) o.d o.m).snd.snd]))) ∧
(((toldM x now (srt l) (whenM now o.w) o.d o.m).fst.fst) = false →
((((toldM x now E (whenM now o.w) o.d o.m).fst.fst) = true →
 Q (.ret (.bool false)) [oO L, oX x, oM i1.fst i1.snd, oCb x ((toldM x now (srt l) (whenM now o.w) o.d o.m).snd.fst), oS x ((toldM x now E (whenM now o.w) o.d o.m).snd.fst) (sB 7 ((toldM x now E (whenM now o.w) o.d o.m).snd.snd.length)), oR E, .cells (rowO o) false, oR (toldM x now E (whenM now o.w) o.d o.m).snd.snd]) ∧
(((toldM x now E (whenM now o.w) o.d o.m).fst.fst) = false →
((((toldM x now (srt l) (whenM now o.w) o.d o.m).fst.snd == (toldM x now E (whenM now o.w) o.d o.m).fst.snd) = true →
 Q (.ret (.bool true)) [oO L, oX x, oM i1.fst i1.snd, oCb x ((toldM x now (srt l) (whenM now o.w) o.d o.m).snd.fst), oS x ((toldM x now E (whenM now o.w) o.d o.m).snd.fst) (sB 7 ((toldM x now E (whenM now o.w) o.d o.m).snd.snd.length)), oR E, .cells (rowO o) false, oR (toldM x now E (whenM now o.w) o.d o.m).snd.snd]) ∧
(((toldM x now (srt l) (whenM now o.w) o.d o.m).fst.snd == (toldM x now E (whenM now o.w) o.d o.m).fst.snd) = false →
 Q (.ret (.bool false)) [oO L, oX x, oM i1.fst i1.snd, oCb x ((toldM x now (srt l) (whenM now o.w) o.d o.m).snd.fst), oS x ((toldM x now E (whenM now o.w) o.d o.m).snd.fst) (sB 7 ((toldM x now E (whenM now o.w) o.d o.m).snd.snd.length)), oR E, .cells (rowO o) false, oR (toldM x now E (whenM now o.w) o.d o.m).snd.snd])))))))))) ∧
((o.k == 2) = false →
(((o.k == 3) = true →
((kDropP (oO L) (oX x) x now (whenM now o.w) l cl o.d [oS x now (sB 5 n), oR E, .cells (rowO o) false]).asks Try.prog [] 16 ∧
∀ i1 : List (En × Nat) × Nat, (Rep i1.snd i1.fst (dropM now (srt l) (whenM now o.w) o.d).snd.snd) →
((kDropRB (oO L) (oX x) (oM i1.fst i1.snd) (oCb x (dropM now (srt l) (whenM now o.w) o.d).snd.fst) x now (whenM now o.w) E n o.d [.cells (rowO o) false]).asks Try.prog [] 17 ∧
(∀ _ : Unit, ((dropM now E (whenM now o.w) o.d).snd.snd = []) →
((((dropM now (srt l) (whenM now o.w) o.d).fst.fst) = true →
((((dropM now E (whenM now o.w) o.d).fst.fst) = true →
((((dropM now (srt l) (whenM now o.w) o.d).fst.snd == (dropM now E (whenM now o.w) o.d).fst.snd) = true →
 Q (.ret (.bool true)) [oO L, oX x, oM i1.fst i1.snd, oCb x ((dropM now (srt l) (whenM now o.w) o.d).snd.fst), oS x ((dropM now E (whenM now o.w) o.d).snd.fst) sN, oR E, .cells (rowO o) false, .dead]) ∧
(((dropM now (srt l) (whenM now o.w) o.d).fst.snd == (dropM now E (whenM now o.w) o.d).fst.snd) = false →
 Q (.ret (.bool false)) [oO L, oX x, oM i1.fst i1.snd, oCb x ((dropM now (srt l) (whenM now o.w) o.d).snd.fst), oS x ((dropM now E (whenM now o.w) o.d).snd.fst) sN, oR E, .cells (rowO o) false, .dead]))) ∧
(((dropM now E (whenM now o.w) o.d).fst.fst) = false →
 Q (.ret (.bool false)) [oO L, oX x, oM i1.fst i1.snd, oCb x ((dropM now (srt l) (whenM now o.w) o.d).snd.fst), oS x ((dropM now E (whenM now o.w) o.d).snd.fst) sN, oR E, .cells (rowO o) false, .dead]))) ∧
(((dropM now (srt l) (whenM now o.w) o.d).fst.fst) = false →
((((dropM now E (whenM now o.w) o.d).fst.fst) = true →
 Q (.ret (.bool false)) [oO L, oX x, oM i1.fst i1.snd, oCb x ((dropM now (srt l) (whenM now o.w) o.d).snd.fst), oS x ((dropM now E (whenM now o.w) o.d).snd.fst) sN, oR E, .cells (rowO o) false, .dead]) ∧
(((dropM now E (whenM now o.w) o.d).fst.fst) = false →
((((dropM now (srt l) (whenM now o.w) o.d).fst.snd == (dropM now E (whenM now o.w) o.d).fst.snd) = true →
 Q (.ret (.bool true)) [oO L, oX x, oM i1.fst i1.snd, oCb x ((dropM now (srt l) (whenM now o.w) o.d).snd.fst), oS x ((dropM now E (whenM now o.w) o.d).snd.fst) sN, oR E, .cells (rowO o) false, .dead]) ∧
(((dropM now (srt l) (whenM now o.w) o.d).fst.snd == (dropM now E (whenM now o.w) o.d).fst.snd) = false →
 Q (.ret (.bool false)) [oO L, oX x, oM i1.fst i1.snd, oCb x ((dropM now (srt l) (whenM now o.w) o.d).snd.fst), oS x ((dropM now E (whenM now o.w) o.d).snd.fst) sN, oR E, .cells (rowO o) false, .dead]))))))) ∧
(∀ _ : Unit, ((dropM now E (whenM now o.w) o.d).snd.snd ≠ [] ∧
 E = (dropM now E (whenM now o.w) o.d).snd.snd) →
((((dropM now (srt l) (whenM now o.w) o.d).fst.fst) = true →
((((dropM now E (whenM now o.w) o.d).fst.fst) = true →
((((dropM now (srt l) (whenM now o.w) o.d).fst.snd == (dropM now E (whenM now o.w) o.d).fst.snd) = true →
 Q (.ret (.bool true)) [oO L, oX x, oM i1.fst i1.snd, oCb x ((dropM now (srt l) (whenM now o.w) o.d).snd.fst), oS x ((dropM now E (whenM now o.w) o.d).snd.fst) (sB 5 ((dropM now E (whenM now o.w) o.d).snd.snd.length)), oR (dropM now E (whenM now o.w) o.d).snd.snd, .cells (rowO o) false, .dead]) ∧
(((dropM now (srt l) (whenM now o.w) o.d).fst.snd == (dropM now E (whenM now o.w) o.d).fst.snd) = false →
 Q (.ret (.bool false)) [oO L, oX x, oM i1.fst i1.snd, oCb x ((dropM now (srt l) (whenM now o.w) o.d).snd.fst), oS x ((dropM now E (whenM now o.w) o.d).snd.fst) (sB 5 ((dropM now E (whenM now o.w) o.d).snd.snd.length)), oR (dropM now E (whenM now o.w) o.d).snd.snd, .cells (rowO o) false, .dead]))) ∧
(((dropM now E (whenM now o.w) o.d).fst.fst) = false →
 Q (.ret (.bool false)) [oO L, oX x, oM i1.fst i1.snd, oCb x ((dropM now (srt l) (whenM now o.w) o.d).snd.fst), oS x ((dropM now E (whenM now o.w) o.d).snd.fst) (sB 5 ((dropM now E (whenM now o.w) o.d).snd.snd.length)), oR (dropM now E (whenM now o.w) o.d).snd.snd, .cells (rowO o) false, .dead]))) ∧
(((dropM now (srt l) (whenM now o.w) o.d).fst.fst) = false →
((((dropM now E (whenM now o.w) o.d).fst.fst) = true →
 Q (.ret (.bool false)) [oO L, oX x, oM i1.fst i1.snd, oCb x ((dropM now (srt l) (whenM now o.w) o.d).snd.fst), oS x ((dropM now E (whenM now o.w) o.d).snd.fst) (sB 5 ((dropM now E (whenM now o.w) o.d).snd.snd.length)), oR (dropM now E (whenM now o.w) o.d).snd.snd, .cells (rowO o) false, .dead]) ∧
(((dropM now E (whenM now o.w) o.d).fst.fst) = false →
((((dropM now (srt l) (whenM now o.w) o.d).fst.snd == (dropM now E (whenM now o.w) o.d).fst.snd) = true →
 Q (.ret (.bool true)) [oO L, oX x, oM i1.fst i1.snd, oCb x ((dropM now (srt l) (whenM now o.w) o.d).snd.fst), oS x ((dropM now E (whenM now o.w) o.d).snd.fst) (sB 5 ((dropM now E (whenM now o.w) o.d).snd.snd.length)), oR (dropM now E (whenM now o.w) o.d).snd.snd, .cells (rowO o) false, .dead]) ∧
(((dropM now (srt l) (whenM now o.w) o.d).fst.snd == (dropM now E (whenM now o.w) o.d).fst.snd) = false →
 Q (.ret (.bool false)) [oO L, oX x, oM i1.fst i1.snd, oCb x ((dropM now (srt l) (whenM now o.w) o.d).snd.fst), oS x ((dropM now E (whenM now o.w) o.d).snd.fst) (sB 5 ((dropM now E (whenM now o.w) o.d).snd.snd.length)), oR (dropM now E (whenM now o.w) o.d).snd.snd, .cells (rowO o) false, .dead]))))))) ∧
(∀ _ : Unit, ((dropM now E (whenM now o.w) o.d).snd.snd ≠ []) →
((((dropM now (srt l) (whenM now o.w) o.d).fst.fst) = true →
((((dropM now E (whenM now o.w) o.d).fst.fst) = true →
((((dropM now (srt l) (whenM now o.w) o.d).fst.snd == (dropM now E (whenM now o.w) o.d).fst.snd) = true →
 Q (.ret (.bool true)) [oO L, oX x, oM i1.fst i1.snd, oCb x ((dropM now (srt l) (whenM now o.w) o.d).snd.fst), oS x ((dropM now E (whenM now o.w) o.d).snd.fst) (sB 7 ((dropM now E (whenM now o.w) o.d).snd.snd.length)), oR E, .cells (rowO o) false, oR (dropM now E (whenM now o.w) o.d).snd.snd]) ∧
(((dropM now (srt l) (whenM now o.w) o.d).fst.snd == (dropM now E (whenM now o.w) o.d).fst.snd) = false →
 Q (.ret (.bool false)) [oO L, oX x, oM i1.fst i1.snd, oCb x ((dropM now (srt l) (whenM now o.w) o.d).snd.fst), oS x ((dropM now E (whenM now o.w) o.d).snd.fst) (sB 7 ((dropM now E (whenM now o.w) o.d).snd.snd.length)), oR E, .cells (rowO o) false, oR (dropM now E (whenM now o.w) o.d).snd.snd]))) ∧
(((dropM now E (whenM now o.w) o.d).fst.fst) = false →
 Q (.ret (.bool false)) [oO L, oX x, oM i1.fst i1.snd, oCb x ((dropM now (srt l) (whenM now o.w) o.d).snd.fst), oS x ((dropM now E (whenM now o.w) o.d).snd.fst) (sB 7 ((dropM now E (whenM now o.w) o.d).snd.snd.length)), oR E, .cells (rowO o) false, oR (dropM now E (whenM now o.w) o.d).snd.snd]))) ∧
(((dropM now (srt l) (whenM now o.w) o.d).fst.fst) = false →
((((dropM now E (whenM now o.w) o.d).fst.fst) = true →
 Q (.ret (.bool false)) [oO L, oX x, oM i1.fst i1.snd, oCb x ((dropM now (srt l) (whenM now o.w) o.d).snd.fst), oS x ((dropM now E (whenM now o.w) o.d).snd.fst) (sB 7 ((dropM now E (whenM now o.w) o.d).snd.snd.length)), oR E, .cells (rowO o) false, oR (dropM now E (whenM now o.w) o.d).snd.snd]) ∧
(((dropM now E (whenM now o.w) o.d).fst.fst) = false →
((((dropM now (srt l) (whenM now o.w) o.d).fst.snd == (dropM now E (whenM now o.w) o.d).fst.snd) = true →
 Q (.ret (.bool true)) [oO L, oX x, oM i1.fst i1.snd, oCb x ((dropM now (srt l) (whenM now o.w) o.d).snd.fst), oS x ((dropM now E (whenM now o.w) o.d).snd.fst) (sB 7 ((dropM now E (whenM now o.w) o.d).snd.snd.length)), oR E, .cells (rowO o) false, oR (dropM now E (whenM now o.w) o.d).snd.snd]) ∧
(((dropM now (srt l) (whenM now o.w) o.d).fst.snd == (dropM now E (whenM now o.w) o.d).fst.snd) = false →
 Q (.ret (.bool false)) [oO L, oX x, oM i1.fst i1.snd, oCb x ((dropM now (srt l) (whenM now o.w) o.d).snd.fst), oS x ((dropM now E (whenM now o.w) o.d).snd.fst) (sB 7 ((dropM now E (whenM now o.w) o.d).snd.snd.length)), oR E, .cells (rowO o) false, oR (dropM now E (whenM now o.w) o.d).snd.snd])))))))))) ∧
((o.k == 3) = false →
(((o.k == 4) = true →
((kAllP (oO L) (oX x) x now (whenM now o.w) l cl [oS x now (sB 5 n), oR E, .cells (rowO o) false]).asks Try.prog [] 18 ∧
(∀ i1 : List (En × Nat) × Nat, (errT (whenM now o.w) now ∧
 Rep i1.snd i1.fst (srt l)) →
((kAllRB (oO L) (oX x) (oM i1.fst i1.snd) (oCb x now) x now (whenM now o.w) E n [.cells (rowO o) false]).asks Try.prog [] 19 ∧
(∀ _ : Unit, (errT (whenM now o.w) now) →
((kSameN [oO L, oX x, oM i1.fst i1.snd, oCb x now, oS x now (sB 5 n), oR E, .cells (rowO o) false]).asks Try.prog [] 20 ∧
∀ _ : Unit, (True) →
 Q (.ret (.bool true)) [oO L, oX x, oM i1.fst i1.snd, oCb x now, oS x now (sB 5 n), oR E, .cells (rowO o) false])) ∧
(∀ _ : Unit, (¬errT (whenM now o.w) now ∧
 tidyE (whenM now o.w) E = []) →
((kSame0 [oO L, oX x, oM i1.fst i1.snd, oCb x now, oS x (whenM now o.w) sN, oR E, .cells (rowO o) false]).asks Try.prog [] 20 ∧
∀ _ : Unit, (True) →
 Q (.ret (.bool false)) [oO L, oX x, oM i1.fst i1.snd, oCb x now, oS x (whenM now o.w) sN, oR E, .cells (rowO o) false])) ∧
(∀ _ : Unit, (¬errT (whenM now o.w) now ∧
 tidyE (whenM now o.w) E ≠ []) →
((kSameF (sN) (sB 8 (tidyE (whenM now o.w) E).length) [oO L, oX x, oM i1.fst i1.snd, oCb x now, oS x (whenM now o.w) (sB 7 (tidyE (whenM now o.w) E).length), oR E, .cells (rowO o) false, oR (tidyE (whenM now o.w) E), oR (tidyE (whenM now o.w) E)]).asks Try.prog [] 20 ∧
∀ _ : Unit, (False) →
 Q (.ret (.bool false)) [oO L, oX x, oM i1.fst i1.snd, oCb x now, oS x (whenM now o.w) (sB 7 ((tidyE (whenM now o.w) E).length)), oR E, .cells (rowO o) false, oR (tidyE (whenM now o.w) E), oR (tidyE (whenM now o.w) E)])))) ∧
(∀ i1 : List (En × Nat) × Nat, (¬errT (whenM now o.w) now ∧
 tidyE (whenM now o.w) (srt l) = [] ∧
 Rep i1.snd i1.fst (tidyE (whenM now o.w) (srt l))) →
((kAllRB (oO L) (oX x) (oM i1.fst i1.snd) (oCb x (whenM now o.w)) x now (whenM now o.w) E n [.cells (rowO o) false]).asks Try.prog [] 19 ∧
(∀ _ : Unit, (errT (whenM now o.w) now) →
((kSameN [oO L, oX x, oM i1.fst i1.snd, oCb x (whenM now o.w), oS x now (sB 5 n), oR E, .cells (rowO o) false]).asks Try.prog [] 20 ∧
∀ _ : Unit, (True) →
 Q (.ret (.bool false)) [oO L, oX x, oM i1.fst i1.snd, oCb x (whenM now o.w), oS x now (sB 5 n), oR E, .cells (rowO o) false])) ∧
(∀ _ : Unit, (¬errT (whenM now o.w) now ∧
 tidyE (whenM now o.w) E = []) →
((kSame0 [oO L, oX x, oM i1.fst i1.snd, oCb x (whenM now o.w), oS x (whenM now o.w) sN, oR E, .cells (rowO o) false]).asks Try.prog [] 20 ∧
∀ _ : Unit, (True) →
 Q (.ret (.bool true)) [oO L, oX x, oM i1.fst i1.snd, oCb x (whenM now o.w), oS x (whenM now o.w) sN, oR E, .cells (rowO o) false])) ∧
(∀ _ : Unit, (¬errT (whenM now o.w) now ∧
 tidyE (whenM now o.w) E ≠ []) →
((kSameF (sN) (sB 8 (tidyE (whenM now o.w) E).length) [oO L, oX x, oM i1.fst i1.snd, oCb x (whenM now o.w), oS x (whenM now o.w) (sB 7 (tidyE (whenM now o.w) E).length), oR E, .cells (rowO o) false, oR (tidyE (whenM now o.w) E), oR (tidyE (whenM now o.w) E)]).asks Try.prog [] 20 ∧
∀ _ : Unit, (False) →
 Q (.ret (.bool true)) [oO L, oX x, oM i1.fst i1.snd, oCb x (whenM now o.w), oS x (whenM now o.w) (sB 7 ((tidyE (whenM now o.w) E).length)), oR E, .cells (rowO o) false, oR (tidyE (whenM now o.w) E), oR (tidyE (whenM now o.w) E)])))) ∧
(∀ i1 : List (En × Nat) × Nat, (¬errT (whenM now o.w) now ∧
 tidyE (whenM now o.w) (srt l) ≠ [] ∧
 Rep i1.snd i1.fst (tidyE (whenM now o.w) (srt l))) →
((kAllRB (oO L) (oX x) (oM i1.fst i1.snd) (oCb x (whenM now o.w)) x now (whenM now o.w) E n [.cells (rowO o) false, oR (tidyE (whenM now o.w) (srt l))]).asks Try.prog [] 19 ∧
(∀ _ : Unit, (errT (whenM now o.w) now) →
((kSameF (sB 7 (tidyE (whenM now o.w) (srt l)).length) (sN) [oO L, oX x, oM i1.fst i1.snd, oCb x (whenM now o.w), oS x now (sB 5 n), oR E, .cells (rowO o) false, oR (tidyE (whenM now o.w) (srt l))]).asks Try.prog [] 20 ∧
∀ _ : Unit, (False) →
 Q (.ret (.bool false)) [oO L, oX x, oM i1.fst i1.snd, oCb x (whenM now o.w), oS x now (sB 5 n), oR E, .cells (rowO o) false, oR (tidyE (whenM now o.w) (srt l))])) ∧
(∀ _ : Unit, (¬errT (whenM now o.w) now ∧
 tidyE (whenM now o.w) E = []) →
((kSameF (sB 7 (tidyE (whenM now o.w) (srt l)).length) (Go.Value.slice (Option.some { block := 4, off := 0 }) 0 0) [oO L, oX x, oM i1.fst i1.snd, oCb x (whenM now o.w), oS x (whenM now o.w) sN, oR E, .cells (rowO o) false, oR (tidyE (whenM now o.w) (srt l))]).asks Try.prog [] 20 ∧
∀ _ : Unit, (False) →
 Q (.ret (.bool true)) [oO L, oX x, oM i1.fst i1.snd, oCb x (whenM now o.w), oS x (whenM now o.w) sN, oR E, .cells (rowO o) false, oR (tidyE (whenM now o.w) (srt l))])) ∧
(∀ _ : Unit, (¬errT (whenM now o.w) now ∧
 tidyE (whenM now o.w) E ≠ []) →
((kSameB (oO L) (oX x) (oM i1.fst i1.snd) (oCb x (whenM now o.w)) (oS x (whenM now o.w) (sB 8 (tidyE (whenM now o.w) E).length)) (oR E) (.cells (rowO o) false) (oR (tidyE (whenM now o.w) E)) (tidyE (whenM now o.w) (srt l)) (tidyE (whenM now o.w) E) (tidyE (whenM now o.w) (srt l)).length (tidyE (whenM now o.w) E).length).asks Try.prog [] 20 ∧
∀ _ : Unit, (True) →
 Q (.ret (.bool true)) [oO L, oX x, oM i1.fst i1.snd, oCb x (whenM now o.w), oS x (whenM now o.w) (sB 8 ((tidyE (whenM now o.w) E).length)), oR E, .cells (rowO o) false, oR (tidyE (whenM now o.w) (srt l)), oR (tidyE (whenM now o.w) E), oR (tidyE (whenM now o.w) E)])))))) ∧
((o.k == 4) = false →
 Q (.ret (.bool true)) [oO L, oX x, oM l cl, oCb x now, oS x now (sB 5 n), oR E, .cells (rowO o) false])))))))))) =
    runS Try.prog [] false [10, 11, 13, 14, 15, 16, 17, 18, 19, 20] 0 (SpecC Try.prog []) 20 8 [pP, pQ, .agg ⟨rowO o⟩] [oO L, oX x, oM l cl, oCb x now, oS x now (sB 5 n), oR E] .norm (.skip 8 (.call (Unit) (kWhen now o.w [oO L, oX x, oM l cl, oCb x now, oS x now (sB 5 n), oR E, .cells (rowO o) false]).post fun _ => .skip 3 (.ask (.skip 6 (.call (List (En × Nat) × Nat) (kGetP (oO L) (oX x) x now (whenM now o.w) l cl o.d [oS x now (sB 5 n), oR E, .cells (rowO o) false]).post fun i1 => .skip 9 (.callN (Unit) (kGetRB (oO L) (oX x) (oM i1.fst i1.snd) (oCb x (getM x now (srt l) (whenM now o.w) o.d).snd.fst) x now (whenM now o.w) E n o.d [.cells (rowO o) false]).posts (fun k => match k with | 0 => fun _i2 => .skip 7 (.ask (.skip 6 (.ask (.go) (.go))) (.go)) | 1 => fun _i2 => .skip 7 (.ask (.skip 6 (.ask (.go) (.go))) (.go)) | _ => fun _i2 => .skip 7 (.ask (.skip 6 (.ask (.go) (.go))) (.go)))))) (.skip 2 (.ask (.skip 8 (.call (List (En × Nat) × Nat) (kToldP (oO L) (oX x) x now (whenM now o.w) l cl o.d o.m [oS x now (sB 5 n), oR E, .cells (rowO o) false]).post fun i1 => .skip 11 (.callN (Unit) (kToldRB (oO L) (oX x) (oM i1.fst i1.snd) (oCb x (toldM x now (srt l) (whenM now o.w) o.d o.m).snd.fst) x now (whenM now o.w) E n o.d o.m [.cells (rowO o) false]).posts (fun k => match k with | 0 => fun _i2 => .skip 5 (.ask (.skip 0 (.ask (.skip 7 (.ask (.go) (.go))) (.go))) (.skip 0 (.ask (.go) (.skip 7 (.ask (.go) (.go)))))) | 1 => fun _i2 => .skip 5 (.ask (.skip 0 (.ask (.skip 7 (.ask (.go) (.go))) (.go))) (.skip 0 (.ask (.go) (.skip 7 (.ask (.go) (.go)))))) | _ => fun _i2 => .skip 5 (.ask (.skip 0 (.ask (.skip 7 (.ask (.go) (.go))) (.go))) (.skip 0 (.ask (.go) (.skip 7 (.ask (.go) (.go)))))))))) (.skip 2 (.ask (.skip 6 (.call (List (En × Nat) × Nat) (kDropP (oO L) (oX x) x now (whenM now o.w) l cl o.d [oS x now (sB 5 n), oR E, .cells (rowO o) false]).post fun i1 => .skip 9 (.callN (Unit) (kDropRB (oO L) (oX x) (oM i1.fst i1.snd) (oCb x (dropM now (srt l) (whenM now o.w) o.d).snd.fst) x now (whenM now o.w) E n o.d [.cells (rowO o) false]).posts (fun k => match k with | 0 => fun _i2 => .skip 5 (.ask (.skip 0 (.ask (.skip 7 (.ask (.go) (.go))) (.go))) (.skip 0 (.ask (.go) (.skip 7 (.ask (.go) (.go)))))) | 1 => fun _i2 => .skip 5 (.ask (.skip 0 (.ask (.skip 7 (.ask (.go) (.go))) (.go))) (.skip 0 (.ask (.go) (.skip 7 (.ask (.go) (.go)))))) | _ => fun _i2 => .skip 5 (.ask (.skip 0 (.ask (.skip 7 (.ask (.go) (.go))) (.go))) (.skip 0 (.ask (.go) (.skip 7 (.ask (.go) (.go)))))))))) (.skip 2 (.ask (.skip 4 (.callN (List (En × Nat) × Nat) (kAllP (oO L) (oX x) x now (whenM now o.w) l cl [oS x now (sB 5 n), oR E, .cells (rowO o) false]).posts (fun k => match k with | 0 => fun i1 => .skip 7 (.callN (Unit) (kAllRB (oO L) (oX x) (oM i1.fst i1.snd) (oCb x now) x now (whenM now o.w) E n [.cells (rowO o) false]).posts (fun k => match k with | 0 => fun _i2 => .skip 7 (.call (Unit) (kSameN [oO L, oX x, oM i1.fst i1.snd, oCb x now, oS x now (sB 5 n), oR E, .cells (rowO o) false]).post fun _ => .go) | 1 => fun _i2 => .skip 7 (.call (Unit) (kSame0 [oO L, oX x, oM i1.fst i1.snd, oCb x now, oS x (whenM now o.w) sN, oR E, .cells (rowO o) false]).post fun _ => .go) | _ => fun _i2 => .skip 7 (.call (Unit) (kSameF (sN) (sB 8 (tidyE (whenM now o.w) E).length) [oO L, oX x, oM i1.fst i1.snd, oCb x now, oS x (whenM now o.w) (sB 7 (tidyE (whenM now o.w) E).length), oR E, .cells (rowO o) false, oR (tidyE (whenM now o.w) E), oR (tidyE (whenM now o.w) E)]).post fun _ => .go))) | 1 => fun i1 => .skip 7 (.callN (Unit) (kAllRB (oO L) (oX x) (oM i1.fst i1.snd) (oCb x (whenM now o.w)) x now (whenM now o.w) E n [.cells (rowO o) false]).posts (fun k => match k with | 0 => fun _i2 => .skip 7 (.call (Unit) (kSameN [oO L, oX x, oM i1.fst i1.snd, oCb x (whenM now o.w), oS x now (sB 5 n), oR E, .cells (rowO o) false]).post fun _ => .go) | 1 => fun _i2 => .skip 7 (.call (Unit) (kSame0 [oO L, oX x, oM i1.fst i1.snd, oCb x (whenM now o.w), oS x (whenM now o.w) sN, oR E, .cells (rowO o) false]).post fun _ => .go) | _ => fun _i2 => .skip 7 (.call (Unit) (kSameF (sN) (sB 8 (tidyE (whenM now o.w) E).length) [oO L, oX x, oM i1.fst i1.snd, oCb x (whenM now o.w), oS x (whenM now o.w) (sB 7 (tidyE (whenM now o.w) E).length), oR E, .cells (rowO o) false, oR (tidyE (whenM now o.w) E), oR (tidyE (whenM now o.w) E)]).post fun _ => .go))) | _ => fun i1 => .skip 7 (.callN (Unit) (kAllRB (oO L) (oX x) (oM i1.fst i1.snd) (oCb x (whenM now o.w)) x now (whenM now o.w) E n [.cells (rowO o) false, oR (tidyE (whenM now o.w) (srt l))]).posts (fun k => match k with | 0 => fun _i2 => .skip 7 (.call (Unit) (kSameF (sB 7 (tidyE (whenM now o.w) (srt l)).length) (sN) [oO L, oX x, oM i1.fst i1.snd, oCb x (whenM now o.w), oS x now (sB 5 n), oR E, .cells (rowO o) false, oR (tidyE (whenM now o.w) (srt l))]).post fun _ => .go) | 1 => fun _i2 => .skip 7 (.call (Unit) (kSameF (sB 7 (tidyE (whenM now o.w) (srt l)).length) (Go.Value.slice (Option.some { block := 4, off := 0 }) 0 0) [oO L, oX x, oM i1.fst i1.snd, oCb x (whenM now o.w), oS x (whenM now o.w) sN, oR E, .cells (rowO o) false, oR (tidyE (whenM now o.w) (srt l))]).post fun _ => .go) | _ => fun _i2 => .skip 7 (.call (Unit) (kSameB (oO L) (oX x) (oM i1.fst i1.snd) (oCb x (whenM now o.w)) (oS x (whenM now o.w) (sB 8 (tidyE (whenM now o.w) E).length)) (oR E) (.cells (rowO o) false) (oR (tidyE (whenM now o.w) E)) (tidyE (whenM now o.w) (srt l)) (tidyE (whenM now o.w) E) (tidyE (whenM now o.w) (srt l)).length (tidyE (whenM now o.w) E).length).post fun _ => .go)))))) (.go)))))))))) (fun r _ h _ => Q r h) := by kernel_rfl

theorem stepB_ok {L : List Ow} {x : Cf} {now : Int} {l : List (En × Nat)} {cl : Nat} {o : Ow} (hx : okC x) (HD : okA o.d) (HR : Rep cl l (srt l)) (HG : Good x (srt l)) (ht0 : 0 ≤ now) (ht1 : now ≤ 1099511627776) (hL : noE (oO L) = true) {E : List En} {n : Nat} (HE : srt l = E) (hnE : E.length = n) (HNE0 : E ≠ []) :
    (kStepB L x now l cl E n o).asks Try.prog [] 8 := by
  have HB : (srt l).length < 2 ^ 20 := HG.len hx
  have HL : 1 ≤ x.lim := by have := hx.1; omega
  have HF : 0 ≤ x.life ∧ x.life < 2 ^ 62 := by have := hx.2.2.2.2.2.2; omega
  have HT : -(2 ^ 62) ≤ now := by omega
  subst HE
  subst hnE
  have HNE := HNE0
  have hn : 1 ≤ (srt l).length := List.length_pos_iff.2 HNE
  refine .inl (Spec.re (spec_T (run_stepB L x now l cl (srt l) (srt l).length o _) ?_))
  refine ⟨when_ok ht0 ht1, ?_⟩
  intro _ _
  refine ⟨fun h0 => ?_, fun h0 => ?_⟩
  refine ⟨getP_ok HR (nE hL rfl), ?_⟩
  intro i1 hR
  refine ⟨getRB_ok rfl hn HB (nE hL rfl), ?_⟩
  refine ⟨?_, ?_⟩
  intro _ hE
  refine ⟨fun h2 => ?_, fun h2 => ?_⟩
  refine ⟨fun h3 => ?_, fun h3 => ?_⟩
  have hs := sok_get HG ht0 ht1 hR
  rw [hE] at hs
  exact sBN hs
  exact (beq_no h3).elim
  exact (beq_no h2).elim
  refine ⟨?_, ?_⟩
  rintro _ ⟨hE, hEE⟩
  refine ⟨fun h2 => ?_, fun h2 => ?_⟩
  refine ⟨fun h3 => ?_, fun h3 => ?_⟩
  exact sB5 (sok_get HG ht0 ht1 hR) hE
  exact (beq_no h3).elim
  exact (beq_no h2).elim
  intro _ hE
  refine ⟨fun h2 => ?_, fun h2 => ?_⟩
  refine ⟨fun h3 => ?_, fun h3 => ?_⟩
  exact sB6 (k := 7) (by decide) (sok_get HG ht0 ht1 hR) hE rfl rfl rfl rfl rfl rfl rfl
  exact (beq_no h3).elim
  exact (beq_no h2).elim
  refine ⟨fun h1 => ?_, fun h1 => ?_⟩
  refine ⟨toldP_ok HR HD HL HB HF HT (nE hL rfl), ?_⟩
  intro i1 hR
  refine ⟨toldRB_ok rfl hn HB HR.up HL HF HT (nE hL rfl), ?_⟩
  refine ⟨?_, ?_⟩
  intro _ hE
  refine ⟨fun h3 => ?_, fun h3 => ?_⟩
  refine ⟨fun h4 => ?_, fun h4 => ?_⟩
  refine ⟨fun h5 => ?_, fun h5 => ?_⟩
  have hs := sok_told hx HG ht0 ht1 hR
  rw [hE] at hs
  exact sBN hs
  exact (beq_no h5).elim
  exact (tf_no h3 h4).elim
  refine ⟨fun h4 => ?_, fun h4 => ?_⟩
  exact (tf_no h4 h3).elim
  refine ⟨fun h5 => ?_, fun h5 => ?_⟩
  have hs := sok_told hx HG ht0 ht1 hR
  rw [hE] at hs
  exact sBN hs
  exact (beq_no h5).elim
  refine ⟨?_, ?_⟩
  rintro _ ⟨hE, hEE⟩
  refine ⟨fun h3 => ?_, fun h3 => ?_⟩
  refine ⟨fun h4 => ?_, fun h4 => ?_⟩
  refine ⟨fun h5 => ?_, fun h5 => ?_⟩
  exact sB5 (sok_told hx HG ht0 ht1 hR) hE
  exact (beq_no h5).elim
  exact (tf_no h3 h4).elim
  refine ⟨fun h4 => ?_, fun h4 => ?_⟩
  exact (tf_no h4 h3).elim
  refine ⟨fun h5 => ?_, fun h5 => ?_⟩
  exact sB5 (sok_told hx HG ht0 ht1 hR) hE
  exact (beq_no h5).elim
  intro _ hE
  refine ⟨fun h3 => ?_, fun h3 => ?_⟩
  refine ⟨fun h4 => ?_, fun h4 => ?_⟩
  refine ⟨fun h5 => ?_, fun h5 => ?_⟩
  exact sB6 (k := 7) (by decide) (sok_told hx HG ht0 ht1 hR) hE rfl rfl rfl rfl rfl rfl rfl
  exact (beq_no h5).elim
  exact (tf_no h3 h4).elim
  refine ⟨fun h4 => ?_, fun h4 => ?_⟩
  exact (tf_no h4 h3).elim
  refine ⟨fun h5 => ?_, fun h5 => ?_⟩
  exact sB6 (k := 7) (by decide) (sok_told hx HG ht0 ht1 hR) hE rfl rfl rfl rfl rfl rfl rfl
  exact (beq_no h5).elim
  refine ⟨fun h2 => ?_, fun h2 => ?_⟩
  refine ⟨dropP_ok HR (nE hL rfl), ?_⟩
  intro i1 hR
  refine ⟨dropRB_ok rfl hn HB HR.up (nE hL rfl), ?_⟩
  refine ⟨?_, ?_⟩
  intro _ hE
  refine ⟨fun h4 => ?_, fun h4 => ?_⟩
  refine ⟨fun h5 => ?_, fun h5 => ?_⟩
  refine ⟨fun h6 => ?_, fun h6 => ?_⟩
  have hs := sok_drop HG ht0 ht1 hR
  rw [hE] at hs
  exact sBN hs
  exact (beq_no h6).elim
  exact (tf_no h4 h5).elim
  refine ⟨fun h5 => ?_, fun h5 => ?_⟩
  exact (tf_no h5 h4).elim
  refine ⟨fun h6 => ?_, fun h6 => ?_⟩
  have hs := sok_drop HG ht0 ht1 hR
  rw [hE] at hs
  exact sBN hs
  exact (beq_no h6).elim
  refine ⟨?_, ?_⟩
  rintro _ ⟨hE, hEE⟩
  refine ⟨fun h4 => ?_, fun h4 => ?_⟩
  refine ⟨fun h5 => ?_, fun h5 => ?_⟩
  refine ⟨fun h6 => ?_, fun h6 => ?_⟩
  exact sB5 (sok_drop HG ht0 ht1 hR) hE
  exact (beq_no h6).elim
  exact (tf_no h4 h5).elim
  refine ⟨fun h5 => ?_, fun h5 => ?_⟩
  exact (tf_no h5 h4).elim
  refine ⟨fun h6 => ?_, fun h6 => ?_⟩
  exact sB5 (sok_drop HG ht0 ht1 hR) hE
  exact (beq_no h6).elim
  intro _ hE
  refine ⟨fun h4 => ?_, fun h4 => ?_⟩
  refine ⟨fun h5 => ?_, fun h5 => ?_⟩
  refine ⟨fun h6 => ?_, fun h6 => ?_⟩
  exact sB6 (k := 7) (by decide) (sok_drop HG ht0 ht1 hR) hE rfl rfl rfl rfl rfl rfl rfl
  exact (beq_no h6).elim
  exact (tf_no h4 h5).elim
  refine ⟨fun h5 => ?_, fun h5 => ?_⟩
  exact (tf_no h5 h4).elim
  refine ⟨fun h6 => ?_, fun h6 => ?_⟩
  exact sB6 (k := 7) (by decide) (sok_drop HG ht0 ht1 hR) hE rfl rfl rfl rfl rfl rfl rfl
  exact (beq_no h6).elim
  refine ⟨fun h3 => ?_, fun h3 => ?_⟩
  refine ⟨allP_ok HR HB (nE hL rfl), ?_⟩
  refine ⟨?_, ?_⟩
  rintro i1 ⟨her, hR⟩
  refine ⟨allRB_ok rfl hn HB (nE hL rfl), ?_⟩
  refine ⟨?_, ?_⟩
  intro _ h5
  refine ⟨sameN_ok (nE hL rfl), ?_⟩
  intro _ _
  exact sB5 (sok_err HG ht0 ht1 hR) HNE
  refine ⟨?_, ?_⟩
  rintro _ ⟨h5, hk⟩
  exact absurd her h5
  rintro _ ⟨h5, hk⟩
  exact absurd her h5
  refine ⟨?_, ?_⟩
  rintro i1 ⟨hne, hem, hR⟩
  refine ⟨allRB_ok rfl hn HB (nE hL rfl), ?_⟩
  refine ⟨?_, ?_⟩
  intro _ h5
  exact absurd h5 hne
  refine ⟨?_, ?_⟩
  rintro _ ⟨h5, hk⟩
  refine ⟨same0_ok (nE hL rfl), ?_⟩
  intro _ _
  have hs := sok_tidy HG ht0 hne hR
  rw [hem] at hs
  exact sBN hs
  rintro _ ⟨h5, hk⟩
  exact absurd hem hk
  rintro i1 ⟨hne, hem, hR⟩
  refine ⟨allRB_ok rfl hn HB (nE hL rfl), ?_⟩
  refine ⟨?_, ?_⟩
  intro _ h5
  exact absurd h5 hne
  refine ⟨?_, ?_⟩
  rintro _ ⟨h5, hk⟩
  exact absurd hk hem
  rintro _ ⟨h5, hk⟩
  refine ⟨sameB_ok rfl rfl rfl (Nat.lt_of_le_of_lt tidy_len HB) (nE hL rfl), ?_⟩
  intro _ _
  exact sB6 (k := 8) (by decide) (sok_tidy HG ht0 hne hR) hem rfl rfl rfl rfl rfl rfl rfl
  exact sB5 (sok_err HG ht0 ht1 HR) HNE

end Go.Proofs.Ytcdmnmpiipmfmaa
