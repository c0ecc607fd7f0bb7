/-
  The law's loop: its states; PathmtuRuns returns true on every row of calls. Conditions: the row of calls is not empty, its addresses are of bytes.
-/
import Derived.Test.YtcdmnmpiipmfmaaLw3
namespace Go.Proofs.Ytcdmnmpiipmfmaa
open Go.Fm

def iL (x : Cf) (_L : List Ow) (_n : Nat) (p : LQ) : Prop := 0 ≤ p.i ∧ okC x ∧ SOk x p
def qL0 (L : List Ow) (x : Cf) (n cap : Nat) (_p : LQ) : Prop × St := (¬ okC x, ⟨[(9, .int .i64 0), (7, .pointer none), (5, .pointer none), (2, .pointer (some ⟨1, 0, none⟩)), (1, .slice (some ⟨0, 0, none⟩) n cap)], [], [oO L, oX x], .norm⟩)
def qLF (L : List Ow) (x : Cf) (n cap : Nat) (_p : LQ) : Prop × St := (False, ⟨[(9, .int .i64 0), (7, .pointer none), (5, .pointer none), (2, .pointer (some ⟨1, 0, none⟩)), (1, .slice (some ⟨0, 0, none⟩) n cap)], [], [oO L, oX x], .norm⟩)
def qLN (L : List Ow) (x : Cf) (n cap : Nat) (p : LQ) : Prop × St := (iL x L n p ∧ p.E = [], ⟨[(9, .int .i64 p.i), (7, pQ), (5, pP), (2, .pointer (some ⟨1, 0, none⟩)), (1, .slice (some ⟨0, 0, none⟩) n cap)], [], [oO L, oX x, oM p.l p.cl, oCb x p.now, oS x p.now sN], .norm⟩)
def qLB (L : List Ow) (x : Cf) (n cap : Nat) (p : LQ) : Prop × St := (iL x L n p ∧ p.E ≠ [], ⟨[(9, .int .i64 p.i), (7, pQ), (5, pP), (2, .pointer (some ⟨1, 0, none⟩)), (1, .slice (some ⟨0, 0, none⟩) n cap)], [], [oO L, oX x, oM p.l p.cl, oCb x p.now, oS x p.now (sB 5 p.E.length), oR p.E], .norm⟩)
def mL (_L : List Ow) (_x : Cf) (_n _cap : Nat) (p : LQ) : Nat := (200 - p.i).toNat

abbrev envL (i : Int) (n cap : Nat) : AEnv := [(9, .int .i64 i), (7, pQ), (5, pP), (2, .pointer (some ⟨1, 0, none⟩)), (1, .slice (some ⟨0, 0, none⟩) n cap)]
section
variable {L : List Ow} {x : Cf} {now i : Int} {l : List (En × Nat)} {cl n cap k : Nat} {E : List En} {h rest : AHeap}
theorem gcN : Gc [] 1 ⟨envL i n cap, [], oO L :: oX x :: oM l cl :: oCb x now :: oS x now sN :: rest, .norm⟩ ⟨envL i n cap, [], [oO L, oX x, oM l cl, oCb x now, oS x now sN], .norm⟩ :=
  Gc.ren [0, 1, 2, 3, 4] (by decide) (by decide) (by decide) (by decide) ⟨⟨_, rfl, ro_o L⟩, ⟨_, rfl, ro_x x⟩, ⟨_, rfl, ro_m _ _⟩, ⟨_, rfl, ro_b rfl⟩, ⟨_, rfl, ro_s (.snil _ _)⟩, trivial⟩
    (by exact ⟨⟨_, rfl, .int _ _⟩, ⟨_, rfl, .ptr _ _ rfl⟩, ⟨_, rfl, .ptr _ _ rfl⟩, ⟨_, rfl, .ptr _ _ rfl⟩, ⟨_, rfl, .slice _ _ _ _ rfl⟩, trivial⟩) rfl
theorem gcB (hk : 5 ≤ k) (h0 : h[0]? = some (oO L)) (h1 : h[1]? = some (oX x)) (h2 : h[2]? = some (oM l cl)) (h3 : h[3]? = some (oCb x now)) (h4 : h[4]? = some (oS x now (sB k E.length))) (h5 : h[k]? = some (oR E)) :
    Gc [] 1 ⟨envL i n cap, [], h, .norm⟩ ⟨envL i n cap, [], [oO L, oX x, oM l cl, oCb x now, oS x now (sB 5 E.length), oR E], .norm⟩ := by
  have hk5 : ren [0, 1, 2, 3, 4, k] 5 = some k := rfl
  refine Gc.ren [0, 1, 2, 3, 4, k] ?_ (by rfl) (by rfl) (by rfl) ⟨⟨_, h0, ro_o L⟩, ⟨_, h1, ro_x x⟩, ⟨_, h2, ro_m _ _⟩, ⟨_, h3, ro_b rfl⟩, ⟨_, h4, ro_s (.slice _ _ _ _ hk5)⟩, ⟨_, h5, ro_r _⟩, trivial⟩
    (by exact ⟨⟨_, rfl, .int _ _⟩, ⟨_, rfl, .ptr _ _ rfl⟩, ⟨_, rfl, .ptr _ _ rfl⟩, ⟨_, rfl, .ptr _ _ rfl⟩, ⟨_, rfl, .slice _ _ _ _ rfl⟩, trivial⟩) rfl
  simp; omega
theorem xu24 : Try.prog.underlying 24 = some (.slice 37) := by kernel_rfl
theorem xs37 : aSize Try.prog 37 = some 19 := by kernel_rfl
theorem xa37 : aIsAgg Try.prog 37 = some true := by kernel_rfl
theorem ixo {z : Int} (h0 : 0 ≤ z) (h1 : z < n) : aIndexAddr Try.prog 24 (.slice (some ⟨0, 0, none⟩) n cap) (.int .i64 z) = some (.pointer (some ⟨0, 0 + z.toNat * 19, none⟩)) := aIndexAddr_slice xu24 xs37 h0 h1
theorem rowO_len (o : Ow) : (rowO o).length = 19 := rfl
theorem ld_ro {P : Program} {t u : TypeId} {q : Nat} {c : List Value} {b : Bool} {z : Option Nat} : aLoad P t (.pointer (some ⟨0, q, none⟩)) [.cells c b] = aLoad P t (.pointer (some ⟨0, q, none⟩)) [.tcells c u z] := by
  unfold aLoad aCells aCell; rfl
theorem ldo {z : Int} (h : z.toNat < L.length) : aLoad Try.prog 37 (.pointer (some ⟨0, 0 + z.toNat * 19, none⟩)) [oO L] = some (.agg ⟨rowO (L.getD z.toNat default)⟩) := by
  rw [ld_ro (u := 37) (z := none)]
  exact aLoad_rw (c := rowO) (m := 19) (n := 19) (k := 0) (i := z.toNat) rowO_len xa37 xs37 rfl h (by omega) (by omega) (by rw [List.drop_zero]; exact List.take_of_length_le (by rw [rowO_len]; omega))
theorem okA_get (hD : ∀ o ∈ L, okA o.d) {j : Nat} (hj : j < L.length) : okA (L.getD j default).d :=
  hD _ (by rw [List.getD_eq_getElem?_getD, List.getElem?_eq_getElem hj]; exact List.getElem_mem hj)
theorem noE_o (h : L ≠ []) : noE (oO L) = true := by
  cases L with
  | nil => exact absurd rfl h
  | cons a L => rfl
theorem sok_go {q : LQ} (h : SOk x q) {j : Int} (hR : Rep cl l q.E) : SOk x ⟨j, l, cl, q.now, q.E⟩ := ⟨hR, h.good, h.t0, h.t1⟩
theorem sok_0 (hx : okC x) : SOk x ⟨0, [], 0, 0, []⟩ := ⟨⟨⟨by simp, by simp, by simp, by simp⟩, by simp, List.Pairwise.nil⟩, Good.nil hx, Int.le_refl _, (by decide : (0 : Int) ≤ 1099511627776)⟩
end
noncomputable abbrev klw40s2 (L : List Ow) (x : Cf) (i5 : LQ) (i6 : List (En × Nat) × Nat) : Scr := .skip 15 (.all (fun _z7 => .skip 1 (.call (List (En × Nat) × Nat) (kLenP (oO L) (oX x) x i5.now i6.fst i6.snd [oS x i5.now (sB 5 i5.E.length), oR i5.E]).post fun _i8 => .skip 1 (.ask (.skip 7 (.all (fun _z9 => .go))) (.go)))))
noncomputable abbrev klw40s3 (L : List Ow) (x : Cf) (i5 : LQ) (i6 : List (En × Nat) × Nat) : Scr := .skip 17 (.call (List (En × Nat) × Nat) (kLenP (oO L) (oX x) x i5.now i6.fst i6.snd [oS x i5.now sN, AObj.dead]).post fun _i7 => .skip 1 (.ask (.skip 7 (.all (fun _z8 => .go))) (.go)))
noncomputable abbrev klw40s4 (L : List Ow) (x : Cf) (i5 : LQ) (i6 : List (En × Nat) × Nat) : Scr := .skip 15 (.all (fun _z7 => .skip 1 (.call (List (En × Nat) × Nat) (kLenP (oO L) (oX x) x i5.now i6.fst i6.snd [oS x i5.now (sB 6 i5.E.length), AObj.dead, oR i5.E]).post fun _i8 => .skip 1 (.ask (.skip 7 (.all (fun _z9 => .go))) (.go)))))
noncomputable abbrev klw40s5 (L : List Ow) (x : Cf) (i5 : LQ) (i6 : List (En × Nat) × Nat) : Scr := .skip 2 (.ask (.skip 1 (.ask (klw40s3 L x i5 i6) (.go))) (.skip 1 (.ask (.go) (klw40s3 L x i5 i6))))
noncomputable abbrev klw40s6 (L : List Ow) (x : Cf) (i5 : LQ) (i6 : List (En × Nat) × Nat) : Scr := .skip 2 (.ask (.skip 1 (.ask (klw40s2 L x i5 i6) (.go))) (.skip 1 (.ask (.go) (klw40s2 L x i5 i6))))
noncomputable abbrev klw40s0 (L : List Ow) (x : Cf) (i3 : LQ) : Scr := .skip 5 (.ask (.skip 6 (.val (.pointer (some ⟨0, (0 + i3.i.toNat * 19), none⟩)) (.skip 0 (.val (.agg ⟨(rowO (gxo L i3.i))⟩) (.skip 0 (.callN (LQ) (kStepB L x i3.now i3.l i3.cl i3.E i3.E.length (gxo L i3.i)).posts (fun k => match k with | 0 => fun i5 => .skip 10 (.call (List (En × Nat) × Nat) (kNextP (oO L) (oX x) x i5.now i5.l i5.cl [oS x i5.now sN, AObj.dead]).post fun i6 => .skip 6 (.call (Unit) (kNextRN (oO L) (oX x) (oM i6.fst i6.snd) (oCb x i5.now) x i5.now [AObj.dead]).post fun _ => .skip 7 (.ask (klw40s5 L x i5 i6) (.go)))) | 1 => fun i5 => .skip 10 (.call (List (En × Nat) × Nat) (kNextP (oO L) (oX x) x i5.now i5.l i5.cl [oS x i5.now (sB 5 i5.E.length), oR i5.E]).post fun i6 => .skip 6 (.call (Unit) (kNextRB (oO L) (oX x) (oM i6.fst i6.snd) (oCb x i5.now) x i5.now i5.E i5.E.length []).post fun _ => .skip 7 (.ask (klw40s6 L x i5 i6) (.go)))) | _ => fun i5 => .skip 10 (.call (List (En × Nat) × Nat) (kNextP (oO L) (oX x) x i5.now i5.l i5.cl [oS x i5.now (sB 6 i5.E.length), AObj.dead, oR i5.E]).post fun i6 => .skip 6 (.call (Unit) (kNextRB6 (oO L) (oX x) (oM i6.fst i6.snd) (oCb x i5.now) AObj.dead x i5.now i5.E i5.E.length []).post fun _ => .skip 7 (.ask (.skip 2 (.ask (.skip 1 (.ask (klw40s4 L x i5 i6) (.go))) (.skip 1 (.ask (.go) (klw40s4 L x i5 i6))))) (.go))))))))))) (.go))
noncomputable abbrev klw40s1 (L : List Ow) (x : Cf) (i3 : LQ) : Scr := .skip 5 (.ask (.skip 6 (.val (.pointer (some ⟨0, (0 + i3.i.toNat * 19), none⟩)) (.skip 0 (.val (.agg ⟨(rowO (gxo L i3.i))⟩) (.skip 0 (.callN (LQ) (kStepN L x i3.now i3.l i3.cl (gxo L i3.i)).posts (fun k => match k with | 0 => fun i5 => .skip 10 (.call (List (En × Nat) × Nat) (kNextP (oO L) (oX x) x i5.now i5.l i5.cl [oS x i5.now sN, AObj.dead]).post fun i6 => .skip 6 (.call (Unit) (kNextRN (oO L) (oX x) (oM i6.fst i6.snd) (oCb x i5.now) x i5.now [AObj.dead]).post fun _ => .skip 7 (.ask (klw40s5 L x i5 i6) (.go)))) | _ => fun i5 => .skip 10 (.call (List (En × Nat) × Nat) (kNextP (oO L) (oX x) x i5.now i5.l i5.cl [oS x i5.now (sB 5 i5.E.length), oR i5.E]).post fun i6 => .skip 6 (.call (Unit) (kNextRB (oO L) (oX x) (oM i6.fst i6.snd) (oCb x i5.now) x i5.now i5.E i5.E.length []).post fun _ => .skip 7 (.ask (klw40s6 L x i5 i6) (.go))))))))))) (.go))
theorem run_law4 (L : List Ow) (x : Cf) (n cap : Nat) (Q : Res → AHeap → Prop) : (((kNewP (oO L) (oX x) x).asks Try.prog [] 5 ∧
(∀ _ : Unit, (¬okC x) →
((kNewR3 (oO L) (oX x) AObj.dead x).asks Try.prog [] 6 ∧
(∀ _ : Unit, (¬okC x) →
((kAwake [oO L, oX x, AObj.dead, AObj.dead]).asks Try.prog [] 7 ∧
∀ _ : Unit, (True) →
((someN [] 1 (fun _ => True) ⟨[(9, (iv 0)), (7, (.pointer none)), (5, (.pointer none)), (2, (pp 1)), (1, (.slice (some ⟨0, 0, none⟩) n cap))], [], [oO L, oX x, .dead, .dead], .norm⟩ [(qL0 L x n cap), (qLN L x n cap), (qLB L x n cap), (qLF L x n cap)]) ∧
(∀ i3, (qL0 L x n cap i3).fst →
 Q (.ret (.bool true)) [oO L, oX x]) ∧
(∀ i3, (qLN L x n cap i3).fst →
∀ z4 : Int, z4 = (((n : Nat) : Int)) →
(((decide (i3.i < z4)) = true →
(((decide (i3.i < 200)) = true →
((aIndexAddr Try.prog 24 (.slice (some ⟨0, 0, none⟩) n cap) (iv i3.i) = some (.pointer (some ⟨0, (0 + i3.i.toNat * 19), none⟩))) ∧
((aLoad Try.prog 37 (.pointer (some ⟨0, (0 + i3.i.toNat * 19), none⟩)) [oO L] = some (.agg ⟨(rowO (gxo L i3.i))⟩)) ∧
((kStepN L x i3.now i3.l i3.cl (gxo L i3.i)).asks Try.prog [] 8 ∧
(∀ i5 : LQ, (SOk x i5 ∧
 i5.E = []) →
((kNextP (oO L) (oX x) x i5.now i5.l i5.cl [oS x i5.now sN, AObj.dead]).asks Try.prog [] 27 ∧
∀ i6 : List (En × Nat) × Nat, (Rep i6.snd i6.fst (srt i5.l)) →
((kNextRN (oO L) (oX x) (oM i6.fst i6.snd) (oCb x i5.now) x i5.now [AObj.dead]).asks Try.prog [] 28 ∧
∀ _ : Unit, (True) →
((((nextM (srt i5.l)).fst == (nextM []).fst) = true →
((((nextM (srt i5.l)).snd) = true →
((((nextM []).snd) = true →
((kLenP (oO L) (oX x) x i5.now i6.fst i6.snd [oS x i5.now sN, AObj.dead]).asks Try.prog [] 9 ∧
∀ i7 : List (En × Nat) × Nat, (Rep i7.snd i7.fst (srt i6.fst)) →
(((some sN) : Option Value) = (some sN)) ∧
((((((srt i6.fst).length : Nat) : Int) == Int.ofNat 0) = true →
∀ z8 : Int, z8 = (IntKind.i64.wrap (i3.i + 1)) →
(someN [] 1 (fun a' => (mL L x n cap) a' < (mL L x n cap) i3) ⟨[(9, (iv z8)), (7, (pp 4)), (5, (pp 3)), (2, (pp 1)), (1, (.slice (some ⟨0, 0, none⟩) n cap))], [], [oO L, oX x, oM i7.fst i7.snd, oCb x i5.now, oS x i5.now sN, .dead], .norm⟩ [(qL0 L x n cap), (qLN L x n cap), (qLB L x n cap), (qLF L x n cap)])) ∧
(((((srt i6.fst).length : Nat) : Int) == Int.ofNat 0) = false →
 Q (.ret (.bool false)) [oO L, oX x, oM i7.fst i7.snd, oCb x i5.now, oS x i5.now sN, .dead])))) ∧
(((nextM []).snd) = false →
 Q (.ret (.bool false)) [oO L, oX x, oM i6.fst i6.snd, oCb x i5.now, oS x i5.now sN, .dead]))) ∧
(((nextM (srt i5.l)).snd) = false →
((((nextM []).snd) = true →
 Q (.ret (.bool false)) [oO L, oX x, oM i6.fst i6.snd, oCb x i5.now, oS x i5.now sN, .dead]) ∧
(((nextM []).snd) = false →
((kLenP (oO L) (oX x) x i5.now i6.fst i6.snd [oS x i5.now sN, AObj.dead]).asks Try.prog [] 9 ∧
∀ i7 : List (En × Nat) × Nat, (Rep i7.snd i7.fst (srt i6.fst)) →
(((some sN) : Option Value) = (some sN)) ∧
((((((srt i6.fst).length : Nat) : Int) == Int.ofNat 0) = true →
∀ z8 : Int, z8 = (IntKind.i64.wrap (i3.i + 1)) →
(someN [] 1 (fun a' => (mL L x n cap) a' < (mL L x n cap) i3) ⟨[(9, (iv z8)), (7, (pp 4)), (5, (pp 3)), (2, (pp 1)), (1, (.slice (some ⟨0, 0, none⟩) n cap))], [], [oO L, oX x, oM i7.fst i7.snd, oCb x i5.now, oS x i5.now sN, .dead], .norm⟩ [(qL0 L x n cap), (qLN L x n cap), (qLB L x n cap), (qLF L x n cap)])) ∧
(((((srt i6.fst).length : Nat) : Int) == Int.ofNat 0) = false →
 Q (.ret (.bool false)) [oO L, oX x, oM i7.fst i7.snd, oCb x i5.now, oS x i5.now sN, .dead])))))))) ∧
(((nextM (srt i5.l)).fst == (nextM []).fst) = false →
 Q (.ret (.bool false)) [oO L, oX x, oM i6.fst i6.snd, oCb x i5.now, oS x i5.now sN, .dead]))))) ∧
(∀ i5 : LQ, (SOk x i5 ∧
 i5.E ≠ []) →
((kNextP (oO L) (oX x) x i5.now i5.l i5.cl [oS x i5.now (sB 5 i5.E.length), oR i5.E]).asks Try.prog [] 27 ∧
∀ i6 : List (En × Nat) × Nat, (Rep i6.snd i6.fst (srt i5.l)) →
((kNextRB (oO L) (oX x) (oM i6.fst i6.snd) (oCb x i5.now) x i5.now i5.E i5.E.length []).asks Try.prog [] 28 ∧
∀ _ : Unit, (True) →
((((nextM (srt i5.l)).fst == (nextM i5.E).fst) = true →
((((nextM (srt i5.l)).snd) = true →
((((nextM i5.E).snd) = true →
∀ z7 : Int, z7 = (((i5.E.length : Nat) : Int)) →
((kLenP (oO L) (oX x) x i5.now i6.fst i6.snd [oS x i5.now (sB 5 i5.E.length), oR i5.E]).asks Try.prog [] 9 ∧
∀ i8 : List (En × Nat) × Nat, (Rep i8.snd i8.fst (srt i6.fst)) →
(((some (sB 5 i5.E.length)) : Option Value) = (some (sB 5 i5.E.length))) ∧
((((((srt i6.fst).length : Nat) : Int) == z7) = true →
∀ z9 : Int, z9 = (IntKind.i64.wrap (i3.i + 1)) →
(someN [] 1 (fun a' => (mL L x n cap) a' < (mL L x n cap) i3) ⟨[(9, (iv z9)), (7, (pp 4)), (5, (pp 3)), (2, (pp 1)), (1, (.slice (some ⟨0, 0, none⟩) n cap))], [], [oO L, oX x, oM i8.fst i8.snd, oCb x i5.now, oS x i5.now (sB 5 i5.E.length), oR i5.E], .norm⟩ [(qL0 L x n cap), (qLN L x n cap), (qLB L x n cap), (qLF L x n cap)])) ∧
(((((srt i6.fst).length : Nat) : Int) == z7) = false →
 Q (.ret (.bool false)) [oO L, oX x, oM i8.fst i8.snd, oCb x i5.now, oS x i5.now (sB 5 i5.E.length), oR i5.E])))) ∧
(((nextM i5.E).snd) = false →
 Q (.ret (.bool false)) [oO L, oX x, oM i6.fst i6.snd, oCb x i5.now, oS x i5.now (sB 5 i5.E.length), oR i5.E]))) ∧
(((nextM (srt i5.l)).snd) = false →
((((nextM i5.E).snd) = true →
 Q (.ret (.bool false)) [oO L, oX x, oM i6.fst i6.snd, oCb x i5.now, oS x i5.now (sB 5 i5.E.length), oR i5.E]) ∧
(((nextM i5.E).snd) = false →
∀ z7 : Int, z7 = (((i5.E.length : Nat) : Int)) →
((kLenP (oO L) (oX x) x i5.now i6.fst i6.snd [oS x i5.now (sB 5 i5.E.length), oR i5.E]).asks Try.prog [] 9 ∧
∀ i8 : List (En × Nat) × Nat, (Rep i8.snd i8.fst (srt i6.fst)) →
(((some (sB 5 i5.E.length)) : Option Value) = (some (sB 5 i5.E.length))) ∧
((((((srt i6.fst).length : Nat) : Int) == z7) = true →
∀ z9 : Int, z9 = (IntKind.i64.wrap (i3.i + 1)) →
(someN [] 1 (fun a' => (mL L x n cap) a' < (mL L x n cap) i3) ⟨[(9, (iv z9)), (7, (pp 4)), (5, (pp 3)), (2, (pp 1)), (1, (.slice (some ⟨0, 0, none⟩) n cap))], [], [oO L, oX x, oM i8.fst i8.snd, oCb x i5.now, oS x i5.now (sB 5 i5.E.length), oR i5.E], .norm⟩ [(qL0 L x n cap), (qLN L x n cap), (qLB L x n cap), (qLF L x n cap)])) ∧
(((((srt i6.fst).length : Nat) : Int) == z7) = false →
 Q (.ret (.bool false)) [oO L, oX x, oM i8.fst i8.snd, oCb x i5.now, oS x i5.now (sB 5 i5.E.length), oR i5.E])))))))) ∧
(((nextM (srt i5.l)).fst == (nextM i5.E).fst) = false →
 Q (.ret (.bool false)) [oO L, oX x, oM i6.fst i6.snd, oCb x i5.now, oS x i5.now (sB 5 i5.E.length), oR i5.E]))))))))) ∧
((decide (i3.i < 200)) = false →
 Q (.ret (.bool true)) [oO L, oX x, oM i3.l i3.cl, oCb x i3.now, oS x i3.now sN]))) ∧
((decide (i3.i < z4)) = false →
 Q (.ret (.bool true)) [oO L, oX x, oM i3.l i3.cl, oCb x i3.now, oS x i3.now sN]))) ∧
(∀ i3, (qLB L x n cap i3).fst →
∀ z4 : Int, z4 = (((n : Nat) : Int)) →
(((decide (i3.i < z4)) = true →
(((decide (i3.i < 200)) = true →
((aIndexAddr Try.prog 24 (.slice (some ⟨0, 0, none⟩) n cap) (iv i3.i) = some (.pointer (some ⟨0, (0 + i3.i.toNat * 19), none⟩))) ∧
((aLoad Try.prog 37 (.pointer (some ⟨0, (0 + i3.i.toNat * 19), none⟩)) [oO L] = some (.agg ⟨(rowO (gxo L i3.i))⟩)) ∧
((kStepB L x i3.now i3.l i3.cl i3.E i3.E.length (gxo L i3.i)).asks Try.prog [] 8 ∧
(∀ i5 : LQ, (SOk x i5 ∧
 i5.E = []) →
((kNextP (oO L) (oX x) x i5.now i5.l i5.cl [oS x i5.now sN, AObj.dead]).asks Try.prog [] 27 ∧
∀ i6 : List (En × Nat) × Nat, (Rep i6.snd i6.fst (srt i5.l)) →
((kNextRN (oO L) (oX x) (oM i6.fst i6.snd) (oCb x i5.now) x i5.now [AObj.dead]).asks Try.prog [] 28 ∧
∀ _ : Unit, (True) →
((((nextM (srt i5.l)).fst == (nextM []).fst) = true →
((((nextM (srt i5.l)).snd) = true →
((((nextM []).snd) = true →
((kLenP (oO L) (oX x) x i5.now i6.fst i6.snd [oS x i5.now sN, AObj.dead]).asks Try.prog [] 9 ∧
∀ i7 : List (En × Nat) × Nat, (Rep i7.snd i7.fst (srt i6.fst)) →
(((some sN) : Option Value) = (some sN)) ∧
((((((srt i6.fst).length : Nat) : Int) == Int.ofNat 0) = true →
∀ z8 : Int, z8 = (IntKind.i64.wrap (i3.i + 1)) →
(someN [] 1 (fun a' => (mL L x n cap) a' < (mL L x n cap) i3) ⟨[(9, (iv z8)), (7, (pp 4)), (5, (pp 3)), (2, (pp 1)), (1, (.slice (some ⟨0, 0, none⟩) n cap))], [], [oO L, oX x, oM i7.fst i7.snd, oCb x i5.now, oS x i5.now sN, .dead], .norm⟩ [(qL0 L x n cap), (qLN L x n cap), (qLB L x n cap), (qLF L x n cap)])) ∧
(((((srt i6.fst).length : Nat) : Int) == Int.ofNat 0) = false →
 Q (.ret (.bool false)) [oO L, oX x, oM i7.fst i7.snd, oCb x i5.now, oS x i5.now sN, .dead])))) ∧
(((nextM []).snd) = false →
 Q (.ret (.bool false)) [oO L, oX x, oM i6.fst i6.snd, oCb x i5.now, oS x i5.now sN, .dead]))) ∧
(((nextM (srt i5.l)).snd) = false →
((((nextM []).snd) = true →
 Q (.ret (.bool false)) [oO L, oX x, oM i6.fst i6.snd, oCb x i5.now, oS x i5.now sN, .dead]) ∧
(((nextM []).snd) = false →
((kLenP (oO L) (oX x) x i5.now i6.fst i6.snd [oS x i5.now sN, AObj.dead]).asks Try.prog [] 9 ∧
∀ i7 : List (En × Nat) × Nat, (Rep i7.snd i7.fst (srt i6.fst)) →
(((some sN) : Option Value) = (some sN)) ∧
((((((srt i6.fst).length : Nat) : Int) == Int.ofNat 0) = true →
∀ z8 : Int, z8 = (IntKind.i64.wrap (i3.i + 1)) →
(someN [] 1 (fun a' => (mL L x n cap) a' < (mL L x n cap) i3) ⟨[(9, (iv z8)), (7, (pp 4)), (5, (pp 3)), (2, (pp 1)), (1, (.slice (some ⟨0, 0, none⟩) n cap))], [], [oO L, oX x, oM i7.fst i7.snd, oCb x i5.now, oS x i5.now sN, .dead], .norm⟩ [(qL0 L x n cap), (qLN L x n cap), (qLB L x n cap), (qLF L x n cap)])) ∧
(((((srt i6.fst).length : Nat) : Int) == Int.ofNat 0) = false →
 Q (.ret (.bool false)) [oO L, oX x, oM i7.fst i7.snd, oCb x i5.now, oS x i5.now sN, .dead])))))))) ∧
(((nextM (srt i5.l)).fst == (nextM []).fst) = false →
 Q (.ret (.bool false)) [oO L, oX x, oM i6.fst i6.snd, oCb x i5.now, oS x i5.now sN, .dead]))))) ∧
(∀ i5 : LQ, (SOk x i5 ∧
 i5.E ≠ []) →
((kNextP (oO L) (oX x) x i5.now i5.l i5.cl [oS x i5.now (sB 5 i5.E.length), oR i5.E]).asks Try.prog [] 27 ∧
∀ i6 : List (En × Nat) × Nat, (Rep i6.snd i6.fst (srt i5.l)) →
((kNextRB (oO L) (oX x) (oM i6.fst i6.snd) (oCb x i5.now) x i5.now i5.E i5.E.length []).asks Try.prog [] 28 ∧
∀ _ : Unit, (True) →
((((nextM (srt i5.l)).fst == (nextM i5.E).fst) = true →
((((nextM (srt i5.l)).snd) = true →
((((nextM i5.E).snd) = true →
∀ z7 : Int, z7 = (((i5.E.length : Nat) : Int)) →
((kLenP (oO L) (oX x) x i5.now i6.fst i6.snd [oS x i5.now (sB 5 i5.E.length), oR i5.E]).asks Try.prog [] 9 ∧
∀ i8 : List (En × Nat) × Nat, (Rep i8.snd i8.fst (srt i6.fst)) →
(((some (sB 5 i5.E.length)) : Option Value) = (some (sB 5 i5.E.length))) ∧
((((((srt i6.fst).length : Nat) : Int) == z7) = true →
∀ z9 : Int, z9 = (IntKind.i64.wrap (i3.i + 1)) →
(someN [] 1 (fun a' => (mL L x n cap) a' < (mL L x n cap) i3) ⟨[(9, (iv z9)), (7, (pp 4)), (5, (pp 3)), (2, (pp 1)), (1, (.slice (some ⟨0, 0, none⟩) n cap))], [], [oO L, oX x, oM i8.fst i8.snd, oCb x i5.now, oS x i5.now (sB 5 i5.E.length), oR i5.E], .norm⟩ [(qL0 L x n cap), (qLN L x n cap), (qLB L x n cap), (qLF L x n cap)])) ∧
(((((srt i6.fst).length : Nat) : Int) == z7) = false →
 Q (.ret (.bool false)) [oO L, oX x, oM i8.fst i8.snd, oCb x i5.now, oS x i5.now (sB 5 i5.E.length), oR i5.E])))) ∧
(((nextM i5.E).snd) = false →
 Q (.ret (.bool false)) [oO L, oX x, oM i6.fst i6.snd, oCb x i5.now, oS x i5.now (sB 5 i5.E.length), oR i5.E]))) ∧
(((nextM (srt i5.l)).snd) = false →
((((nextM i5.E).snd) = true →
 Q (.ret (.bool false)) [oO L, oX x, oM i6.fst i6.snd, oCb x i5.now, oS x i5.now (sB 5 i5.E.length), oR i5.E]) ∧
(((nextM i5.E).snd) = false →
∀ z7 : Int, z7 = (((i5.E.length : Nat) : Int)) →
((kLenP (oO L) (oX x) x i5.now i6.fst i6.snd [oS x i5.now (sB 5 i5.E.length), oR i5.E]).asks Try.prog [] 9 ∧
∀ i8 : List (En × Nat) × Nat, (Rep i8.snd i8.fst (srt i6.fst)) →
(((some (sB 5 i5.E.length)) : Option Value) = (some (sB 5 i5.E.length))) ∧
((((((srt i6.fst).length : Nat) : Int) == z7) = true →
∀ z9 : Int, z9 = (IntKind.i64.wrap (i3.i + 1)) →
(someN [] 1 (fun a' => (mL L x n cap) a' < (mL L x n cap) i3) ⟨[(9, (iv z9)), (7, (pp 4)), (5, (pp 3)), (2, (pp 1)), (1, (.slice (some ⟨0, 0, none⟩) n cap))], [], [oO L, oX x, oM i8.fst i8.snd, oCb x i5.now, oS x i5.now (sB 5 i5.E.length), oR i5.E], .norm⟩ [(qL0 L x n cap), (qLN L x n cap), (qLB L x n cap), (qLF L x n cap)])) ∧
(((((srt i6.fst).length : Nat) : Int) == z7) = false →
 Q (.ret (.bool false)) [oO L, oX x, oM i8.fst i8.snd, oCb x i5.now, oS x i5.now (sB 5 i5.E.length), oR i5.E])))))))) ∧
(((nextM (srt i5.l)).fst == (nextM i5.E).fst) = false →
 Q (.ret (.bool false)) [oO L, oX x, oM i6.fst i6.snd, oCb x i5.now, oS x i5.now (sB 5 i5.E.length), oR i5.E]))))) ∧
(∀ i5 : LQ, (SOk x i5 ∧
 i5.E ≠ []) →
((kNextP (oO L) (oX x) x i5.now i5.l i5.cl [oS x i5.now (sB 6 i5.E.length), AObj.dead, oR i5.E]).asks Try.prog [] 27 ∧
∀ i6 : List (En × Nat) × Nat, (Rep i6.snd i6.fst (srt i5.l)) →
((kNextRB6 (oO L) (oX x) (oM i6.fst i6.snd) (oCb x i5.now) AObj.dead x i5.now i5.E i5.E.length []).asks Try.prog [] 28 ∧
∀ _ : Unit, (True) →
((((nextM (srt i5.l)).fst == (nextM i5.E).fst) = true →
((((nextM (srt i5.l)).snd) = true →
((((nextM i5.E).snd) = true →
∀ z7 : Int, z7 = (((i5.E.length : Nat) : Int)) →
((kLenP (oO L) (oX x) x i5.now i6.fst i6.snd [oS x i5.now (sB 6 i5.E.length), AObj.dead, oR i5.E]).asks Try.prog [] 9 ∧
∀ i8 : List (En × Nat) × Nat, (Rep i8.snd i8.fst (srt i6.fst)) →
(((some (sB 6 i5.E.length)) : Option Value) = (some (sB 6 i5.E.length))) ∧
((((((srt i6.fst).length : Nat) : Int) == z7) = true →
∀ z9 : Int, z9 = (IntKind.i64.wrap (i3.i + 1)) →
(someN [] 1 (fun a' => (mL L x n cap) a' < (mL L x n cap) i3) ⟨[(9, (iv z9)), (7, (pp 4)), (5, (pp 3)), (2, (pp 1)), (1, (.slice (some ⟨0, 0, none⟩) n cap))], [], [oO L, oX x, oM i8.fst i8.snd, oCb x i5.now, oS x i5.now (sB 6 i5.E.length), .dead, oR i5.E], .norm⟩ [(qL0 L x n cap), (qLN L x n cap), (qLB L x n cap), (qLF L x n cap)])) ∧
(((((srt i6.fst).length : Nat) : Int) == z7) = false →
 Q (.ret (.bool false)) [oO L, oX x, oM i8.fst i8.snd, oCb x i5.now, oS x i5.now (sB 6 i5.E.length), .dead, oR i5.E])))) ∧
(((nextM i5.E).snd) = false →
 Q (.ret (.bool false)) [oO L, oX x, oM i6.fst i6.snd, oCb x i5.now, oS x i5.now (sB 6 i5.E.length), .dead, oR i5.E]))) ∧
(((nextM (srt i5.l)).snd) = false →
((((nextM i5.E).snd) = true →
 Q (.ret (.bool false)) [oO L, oX x, oM i6.fst i6.snd, oCb x i5.now, oS x i5.now (sB 6 i5.E.length), .dead, oR i5.E]) ∧
(((nextM i5.E).snd) = false →
∀ z7 : Int, z7 = (((i5.E.length : Nat) : Int)) →
((kLenP (oO L) (oX x) x i5.now i6.fst i6.snd [oS x i5.now (sB 6 i5.E.length), AObj.dead, oR i5.E]).asks Try.prog [] 9 ∧
∀ i8 : List (En × Nat) × Nat, (Rep i8.snd i8.fst (srt i6.fst)) →
(((some (sB 6 i5.E.length)) : Option Value) = (some (sB 6 i5.E.length))) ∧
((((((srt i6.fst).length : Nat) : Int) == z7) = true →
∀ z9 : Int, z9 = (IntKind.i64.wrap (i3.i + 1)) →
(someN [] 1 (fun a' => (mL L x n cap) a' < (mL L x n cap) i3) ⟨[(9, (iv z9)), (7, (pp 4)), (5, (pp 3)), (2, (pp 1)), (1, (.slice (some ⟨0, 0, none⟩) n cap))], [], [oO L, oX x, oM i8.fst i8.snd, oCb x i5.now, oS x i5.now (sB 6 i5.E.length), .dead, oR i5.E], .norm⟩ [(qL0 L x n cap), (qLN L x n cap), (qLB L x n cap), (qLF L x n cap)])) ∧
(((((srt i6.fst).length : Nat) : Int) == z7) = false →
 Q (.ret (.bool false)) [oO L, oX x, oM i8.fst i8.snd, oCb x i5.now, oS x i5.now (sB 6 i5.E.length), .dead, oR i5.E])))))))) ∧
(((nextM (srt i5.l)).fst == (nextM i5.E).fst) = false →
 Q (.ret (.bool false)) [oO L, oX x, oM i6.fst i6.snd, oCb x i5.now, oS x i5.now (sB 6 i5.E.length), .dead, oR i5.E]))))))))) ∧
((decide (i3.i < 200)) = false →
 Q (.ret (.bool true)) [oO L, oX x, oM i3.l i3.cl, oCb x i3.now, oS x i3.now (sB 5 i3.E.length), oR i3.E]))) ∧
((decide (i3.i < z4)) = false →
 Q (.ret (.bool true)) [oO L, oX x, oM i3.l i3.cl, oCb x i3.now, oS x i3.now (sB 5 i3.E.length), oR i3.E]))) ∧
(∀ i3, (qLF L x n cap i3).fst →
 Q (.ret (.bool true)) [oO L, oX x])))) ∧
(∀ _ : Unit, (okC x) →
 Q (.ret (.bool false)) [oO L, oX x, .dead, .dead, oS x 0 sN]))) ∧
(∀ _ : Unit, (okC x) →
((kNewR5 (oO L) (oX x) AObj.dead (oM [] 0) (AObj.cells [Go.Value.int IntKind.i64 x.lim, Go.Value.int IntKind.i64 x.link, Go.Value.int IntKind.i64 x.life, Go.Value.int IntKind.i64 x.least, Go.Value.int IntKind.i64 0, Go.Value.map (Option.some 3)] Bool.false) x).asks Try.prog [] 6 ∧
(∀ _ : Unit, (¬okC x) →
 Q (.ret (.bool false)) [oO L, oX x, .dead, .map [] 0, oS x 0 (.map (some 3)), .dead]) ∧
(∀ _ : Unit, (okC x) →
((kAwake [oO L, oX x, AObj.dead, oM [] 0, AObj.cells [Go.Value.int IntKind.i64 x.lim, Go.Value.int IntKind.i64 x.link, Go.Value.int IntKind.i64 x.life, Go.Value.int IntKind.i64 x.least, Go.Value.int IntKind.i64 0, Go.Value.map (Option.some 3)] Bool.false, AObj.dead, oS x 0 sN]).asks Try.prog [] 7 ∧
∀ _ : Unit, (True) →
((someN [] 1 (fun _ => True) ⟨[(9, (iv 0)), (7, (pp 6)), (5, (pp 4)), (2, (pp 1)), (1, (.slice (some ⟨0, 0, none⟩) n cap))], [], [oO L, oX x, .dead, .map [] 0, oS x 0 (.map (some 3)), .dead, oS x 0 sN], .norm⟩ [(qL0 L x n cap), (qLN L x n cap), (qLB L x n cap), (qLF L x n cap)]) ∧
(∀ i3, (qL0 L x n cap i3).fst →
 Q (.ret (.bool true)) [oO L, oX x]) ∧
(∀ i3, (qLN L x n cap i3).fst →
∀ z4 : Int, z4 = (((n : Nat) : Int)) →
(((decide (i3.i < z4)) = true →
(((decide (i3.i < 200)) = true →
((aIndexAddr Try.prog 24 (.slice (some ⟨0, 0, none⟩) n cap) (iv i3.i) = some (.pointer (some ⟨0, (0 + i3.i.toNat * 19), none⟩))) ∧
((aLoad Try.prog 37 (.pointer (some ⟨0, (0 + i3.i.toNat * 19), none⟩)) [oO L] = some (.agg ⟨(rowO (gxo L i3.i))⟩)) ∧
((kStepN L x i3.now i3.l i3.cl (gxo L i3.i)).asks Try.prog [] 8 ∧
(∀ i5 : LQ, (SOk x i5 ∧
 i5.E = []) →
((kNextP (oO L) (oX x) x i5.now i5.l i5.cl [oS x i5.now sN, AObj.dead]).asks Try.prog [] 27 ∧
∀ i6 : List (En × Nat) × Nat, (Rep i6.snd i6.fst (srt i5.l)) →
((kNextRN (oO L) (oX x) (oM i6.fst i6.snd) (oCb x i5.now) x i5.now [AObj.dead]).asks Try.prog [] 28 ∧
∀ _ : Unit, (True) →
((((nextM (srt i5.l)).fst == (nextM []).fst) = true →
((((nextM (srt i5.l)).snd) = true →
((((nextM []).snd) = true →
((kLenP (oO L) (oX x) x i5.now i6.fst i6.snd [oS x i5.now sN, AObj.dead]).asks Try.prog [] 9 ∧
∀ i7 : List (En × Nat) × Nat, (Rep i7.snd i7.fst (srt i6.fst)) →
(((some sN) : Option Value) = (some sN)) ∧
((((((srt i6.fst).length : Nat) : Int) == Int.ofNat 0) = true →
∀ z8 : Int, z8 = (IntKind.i64.wrap (i3.i + 1)) →
(someN [] 1 (fun a' => (mL L x n cap) a' < (mL L x n cap) i3) ⟨[(9, (iv z8)), (7, (pp 4)), (5, (pp 3)), (2, (pp 1)), (1, (.slice (some ⟨0, 0, none⟩) n cap))], [], [oO L, oX x, oM i7.fst i7.snd, oCb x i5.now, oS x i5.now sN, .dead], .norm⟩ [(qL0 L x n cap), (qLN L x n cap), (qLB L x n cap), (qLF L x n cap)])) ∧
(((((srt i6.fst).length : Nat) : Int) == Int.ofNat 0) = false →
 Q (.ret (.bool false)) [oO L, oX x, oM i7.fst i7.snd, oCb x i5.now, oS x i5.now sN, .dead])))) ∧
(((nextM []).snd) = false →
 Q (.ret (.bool false)) [oO L, oX x, oM i6.fst i6.snd, oCb x i5.now, oS x i5.now sN, .dead]))) ∧
(((nextM (srt i5.l)).snd) = false →
((((nextM []).snd) = true →
 Q (.ret (.bool false)) [oO L, oX x, oM i6.fst i6.snd, oCb x i5.now, oS x i5.now sN, .dead]) ∧
(((nextM []).snd) = false →
((kLenP (oO L) (oX x) x i5.now i6.fst i6.snd [oS x i5.now sN, AObj.dead]).asks Try.prog [] 9 ∧
∀ i7 : List (En × Nat) × Nat, (Rep i7.snd i7.fst (srt i6.fst)) →
(((some sN) : Option Value) = (some sN)) ∧
((((((srt i6.fst).length : Nat) : Int) == Int.ofNat 0) = true →
∀ z8 : Int, z8 = (IntKind.i64.wrap (i3.i + 1)) →
(someN [] 1 (fun a' => (mL L x n cap) a' < (mL L x n cap) i3) ⟨[(9, (iv z8)), (7, (pp 4)), (5, (pp 3)), (2, (pp 1)), (1, (.slice (some ⟨0, 0, none⟩) n cap))], [], [oO L, oX x, oM i7.fst i7.snd, oCb x i5.now, oS x i5.now sN, .dead], .norm⟩ [(qL0 L x n cap), (qLN L x n cap), (qLB L x n cap), (qLF L x n cap)])) ∧
(((((srt i6.fst).length : Nat) : Int) == Int.ofNat 0) = false →
 Q (.ret (.bool false)) [oO L, oX x, oM i7.fst i7.snd, oCb x i5.now, oS x i5.now sN, .dead])))))))) ∧
(((nextM (srt i5.l)).fst == (nextM []).fst) = false →
 Q (.ret (.bool false)) [oO L, oX x, oM i6.fst i6.snd, oCb x i5.now, oS x i5.now sN, .dead]))))) ∧
(∀ i5 : LQ, (SOk x i5 ∧
 i5.E ≠ []) →
((kNextP (oO L) (oX x) x i5.now i5.l i5.cl [oS x i5.now (sB 5 i5.E.length), oR i5.E]).asks Try.prog [] 27 ∧
∀ i6 : List (En × Nat) × Nat, (Rep i6.snd i6.fst (srt i5.l)) →
((kNextRB (oO L) (oX x) (oM i6.fst i6.snd) (oCb x i5.now) x i5.now i5.E i5.E.length []).asks Try.prog [] 28 ∧
∀ _ : Unit, (True) →
((((nextM (srt i5.l)).fst == (nextM i5.E).fst) = true →
((((nextM (srt i5.l)).snd) = true →
((((nextM i5.E).snd) = true →
∀ z7 : Int, z7 = (((i5.E.length : Nat) : Int)) →
((kLenP (oO L) (oX x) x i5.now i6.fst i6.snd [oS x i5.now (sB 5 i5.E.length), oR i5.E]).asks Try.prog [] 9 ∧
∀ i8 : List (En × Nat) × Nat, (Rep i8.snd i8.fst (srt i6.fst)) →
(((some (sB 5 i5.E.length)) : Option Value) = (some (sB 5 i5.E.length))) ∧
((((((srt i6.fst).length : Nat) : Int) == z7) = true →
∀ z9 : Int, z9 = (IntKind.i64.wrap (i3.i + 1)) →
(someN [] 1 (fun a' => (mL L x n cap) a' < (mL L x n cap) i3) ⟨[(9, (iv z9)), (7, (pp 4)), (5, (pp 3)), (2, (pp 1)), (1, (.slice (some ⟨0, 0, none⟩) n cap))], [], [oO L, oX x, oM i8.fst i8.snd, oCb x i5.now, oS x i5.now (sB 5 i5.E.length), oR i5.E], .norm⟩ [(qL0 L x n cap), (qLN L x n cap), (qLB L x n cap), (qLF L x n cap)])) ∧
(((((srt i6.fst).length : Nat) : Int) == z7) = false →
 Q (.ret (.bool false)) [oO L, oX x, oM i8.fst i8.snd, oCb x i5.now, oS x i5.now (sB 5 i5.E.length), oR i5.E])))) ∧
(((nextM i5.E).snd) = false →
 Q (.ret (.bool false)) [oO L, oX x, oM i6.fst i6.snd, oCb x i5.now, oS x i5.now (sB 5 i5.E.length), oR i5.E]))) ∧
(((nextM (srt i5.l)).snd) = false →
((((nextM i5.E).snd) = true →
 Q (.ret (.bool false)) [oO L, oX x, oM i6.fst i6.snd, oCb x i5.now, oS x i5.now (sB 5 i5.E.length), oR i5.E]) ∧
(((nextM i5.E).snd) = false →
∀ z7 : Int, z7 = (((i5.E.length : Nat) : Int)) →
((kLenP (oO L) (oX x) x i5.now i6.fst i6.snd [oS x i5.now (sB 5 i5.E.length), oR i5.E]).asks Try.prog [] 9 ∧
∀ i8 : List (En × Nat) × Nat, (Rep i8.snd i8.fst (srt i6.fst)) →
(((some (sB 5 i5.E.length)) : Option Value) = (some (sB 5 i5.E.length))) ∧
((((((srt i6.fst).length : Nat) : Int) == z7) = true →
∀ z9 : Int, z9 = (IntKind.i64.wrap (i3.i + 1)) →
(someN [] 1 (fun a' => (mL L x n cap) a' < (mL L x n cap) i3) ⟨[(9, (iv z9)), (7, (pp 4)), (5, (pp 3)), (2, (pp 1)), (1, (.slice (some ⟨0, 0, none⟩) n cap))], [], [oO L, oX x, oM i8.fst i8.snd, oCb x i5.now, oS x i5.now (sB 5 i5.E.length), oR i5.E], .norm⟩ [(qL0 L x n cap), (qLN L x n cap), (qLB L x n cap), (qLF L x n cap)])) ∧
(((((srt i6.fst).length : Nat) : Int) == z7) = false →
 Q (.ret (.bool false)) [oO L, oX x, oM i8.fst i8.snd, oCb x i5.now, oS x i5.now (sB 5 i5.E.length), oR i5.E])))))))) ∧
(((nextM (srt i5.l)).fst == (nextM i5.E).fst) = false →
 Q (.ret (.bool false)) [oO L, oX x, oM i6.fst i6.snd, oCb x i5.now, oS x i5.now (sB 5 i5.E.length), oR i5.E]))))))))) ∧
((decide (i3.i < 200)) = false →
 Q (.ret (.bool true)) [oO L, oX x, oM i3.l i3.cl, oCb x i3.now, oS x i3.now sN]))) ∧
((decide (i3.i < z4)) = false →
 Q (.ret (.bool true)) [oO L, oX x, oM i3.l i3.cl, oCb x i3.now, oS x i3.now sN]))) ∧
(∀ i3, (qLB L x n cap i3).fst →
∀ z4 : Int, z4 = (((n : Nat) : Int)) →
(((decide (i3.i < z4)) = true →
(((decide (i3.i < 200)) = true →
((aIndexAddr Try.prog 24 (.slice (some ⟨0, 0, none⟩) n cap) (iv i3.i) = some (.pointer (some ⟨0, (0 + i3.i.toNat * 19), none⟩))) ∧
((aLoad Try.prog 37 (.pointer (some ⟨0, (0 + i3.i.toNat * 19), none⟩)) [oO L] = some (.agg ⟨(rowO (gxo L i3.i))⟩)) ∧
((kStepB L x i3.now i3.l i3.cl i3.E i3.E.length (gxo L i3.i)).asks Try.prog [] 8 ∧
(∀ i5 : LQ, (SOk x i5 ∧
 i5.E = []) →
((kNextP (oO L) (oX x) x i5.now i5.l i5.cl [oS x i5.now sN, AObj.dead]).asks Try.prog [] 27 ∧
∀ i6 : List (En × Nat) × Nat, (Rep i6.snd i6.fst (srt i5.l)) →
((kNextRN (oO L) (oX x) (oM i6.fst i6.snd) (oCb x i5.now) x i5.now [AObj.dead]).asks Try.prog [] 28 ∧
∀ _ : Unit, (True) →
((((nextM (srt i5.l)).fst == (nextM []).fst) = true →
((((nextM (srt i5.l)).snd) = true →
((((nextM []).snd) = true →
((kLenP (oO L) (oX x) x i5.now i6.fst i6.snd [oS x i5.now sN, AObj.dead]).asks Try.prog [] 9 ∧
∀ i7 : List (En × Nat) × Nat, (Rep i7.snd i7.fst (srt i6.fst)) →
(((some sN) : Option Value) = (some sN)) ∧
((((((srt i6.fst).length : Nat) : Int) == Int.ofNat 0) = true →
∀ z8 : Int, z8 = (IntKind.i64.wrap (i3.i + 1)) →
(someN [] 1 (fun a' => (mL L x n cap) a' < (mL L x n cap) i3) ⟨[(9, (iv z8)), (7, (pp 4)), (5, (pp 3)), (2, (pp 1)), (1, (.slice (some ⟨0, 0, none⟩) n cap))], [], [oO L, oX x, oM i7.fst i7.snd, oCb x i5.now, oS x i5.now sN, .dead], .norm⟩ [(qL0 L x n cap), (qLN L x n cap), (qLB L x n cap), (qLF L x n cap)])) ∧
(((((srt i6.fst).length : Nat) : Int) == Int.ofNat 0) = false →
 Q (.ret (.bool false)) [oO L, oX x, oM i7.fst i7.snd, oCb x i5.now, oS x i5.now sN, .dead])))) ∧
(((nextM []).snd) = false →
 Q (.ret (.bool false)) [oO L, oX x, oM i6.fst i6.snd, oCb x i5.now, oS x i5.now sN, .dead]))) ∧
(((nextM (srt i5.l)).snd) = false →
((((nextM []).snd) = true →
 Q (.ret (.bool false)) [oO L, oX x, oM i6.fst i6.snd, oCb x i5.now, oS x i5.now sN, .dead]) ∧
(((nextM []).snd) = false →
((kLenP (oO L) (oX x) x i5.now i6.fst i6.snd [oS x i5.now sN, AObj.dead]).asks Try.prog [] 9 ∧
∀ i7 : List (En × Nat) × Nat, (Rep i7.snd i7.fst (srt i6.fst)) →
(((some sN) : Option Value) = (some sN)) ∧
((((((srt i6.fst).length : Nat) : Int) == Int.ofNat 0) = true →
∀ z8 : Int, z8 = (IntKind.i64.wrap (i3.i + 1)) →
(someN [] 1 (fun a' => (mL L x n cap) a' < (mL L x n cap) i3) ⟨[(9, (iv z8)), (7, (pp 4)), (5, (pp 3)), (2, (pp 1)), (1, (.slice (some ⟨0, 0, none⟩) n cap))], [], [oO L, oX x, oM i7.fst i7.snd, oCb x i5.now, oS x i5.now sN, .dead], .norm⟩ [(qL0 L x n cap), (qLN L x n cap), (qLB L x n cap), (qLF L x n cap)])) ∧
(((((srt i6.fst).length : Nat) : Int) == Int.ofNat 0) = false →
 Q (.ret (.bool false)) [oO L, oX x, oM i7.fst i7.snd, oCb x i5.now, oS x i5.now sN, .dead])))))))) ∧
(((nextM (srt i5.l)).fst == (nextM []).fst) = false →
 Q (.ret (.bool false)) [oO L, oX x, oM i6.fst i6.snd, oCb x i5.now, oS x i5.now sN, .dead]))))) ∧
(∀ i5 : LQ, (SOk x i5 ∧
 i5.E ≠ []) →
((kNextP (oO L) (oX x) x i5.now i5.l i5.cl [oS x i5.now (sB 5 i5.E.length), oR i5.E]).asks Try.prog [] 27 ∧
∀ i6 : List (En × Nat) × Nat, (Rep i6.snd i6.fst (srt i5.l)) →
((kNextRB (oO L) (oX x) (oM i6.fst i6.snd) (oCb x i5.now) x i5.now i5.E i5.E.length []).asks Try.prog [] 28 ∧
∀ _ : Unit, (True) →
((((nextM (srt i5.l)).fst == (nextM i5.E).fst) = true →
((((nextM (srt i5.l)).snd) = true →
((((nextM i5.E).snd) = true →
∀ z7 : Int, z7 = (((i5.E.length : Nat) : Int)) →
((kLenP (oO L) (oX x) x i5.now i6.fst i6.snd [oS x i5.now (sB 5 i5.E.length), oR i5.E]).asks Try.prog [] 9 ∧
∀ i8 : List (En × Nat) × Nat, (Rep i8.snd i8.fst (srt i6.fst)) →
(((some (sB 5 i5.E.length)) : Option Value) = (some (sB 5 i5.E.length))) ∧
((((((srt i6.fst).length : Nat) : Int) == z7) = true →
∀ z9 : Int, z9 = (IntKind.i64.wrap (i3.i + 1)) →
(someN [] 1 (fun a' => (mL L x n cap) a' < (mL L x n cap) i3) ⟨[(9, (iv z9)), (7, (pp 4)), (5, (pp 3)), (2, (pp 1)), (1, (.slice (some ⟨0, 0, none⟩) n cap))], [], [oO L, oX x, oM i8.fst i8.snd, oCb x i5.now, oS x i5.now (sB 5 i5.E.length), oR i5.E], .norm⟩ [(qL0 L x n cap), (qLN L x n cap), (qLB L x n cap), (qLF L x n cap)])) ∧
(((((srt i6.fst).length : Nat) : Int) == z7) = false →
 Q (.ret (.bool false)) [oO L, oX x, oM i8.fst i8.snd, oCb x i5.now, oS x i5.now (sB 5 i5.E.length), oR i5.E])))) ∧
(((nextM i5.E).snd) = false →
 Q (.ret (.bool false)) [oO L, oX x, oM i6.fst i6.snd, oCb x i5.now, oS x i5.now (sB 5 i5.E.length), oR i5.E]))) ∧
(((nextM (srt i5.l)).snd) = false →
((((nextM i5.E).snd) = true →
 Q (.ret (.bool false)) [oO L, oX x, oM i6.fst i6.snd, oCb x i5.now, oS x i5.now (sB 5 i5.E.length), oR i5.E]) ∧
(((nextM i5.E).snd) = false →
∀ z7 : Int, z7 = (((i5.E.length : Nat) : Int)) →
((kLenP (oO L) (oX x) x i5.now i6.fst i6.snd [oS x i5.now (sB 5 i5.E.length), oR i5.E]).asks Try.prog [] 9 ∧
∀ i8 : List (En × Nat) × Nat, (Rep i8.snd i8.fst (srt i6.fst)) →
(((some (sB 5 i5.E.length)) : Option Value) = (some (sB 5 i5.E.length))) ∧
((((((srt i6.fst).length : Nat) : Int) == z7) = true →
∀ z9 : Int, z9 = (IntKind.i64.wrap (i3.i + 1)) →
(someN [] 1 (fun a' => (mL L x n cap) a' < (mL L x n cap) i3) ⟨[(9, (iv z9)), (7, (pp 4)), (5, (pp 3)), (2, (pp 1)), (1, (.slice (some ⟨0, 0, none⟩) n cap))], [], [oO L, oX x, oM i8.fst i8.snd, oCb x i5.now, oS x i5.now (sB 5 i5.E.length), oR i5.E], .norm⟩ [(qL0 L x n cap), (qLN L x n cap), (qLB L x n cap), (qLF L x n cap)])) ∧
(((((srt i6.fst).length : Nat) : Int) == z7) = false →
 Q (.ret (.bool false)) [oO L, oX x, oM i8.fst i8.snd, oCb x i5.now, oS x i5.now (sB 5 i5.E.length), oR i5.E])))))))) ∧
(((nextM (srt i5.l)).fst == (nextM i5.E).fst) = false →
 Q (.ret (.bool false)) [oO L, oX x, oM i6.fst i6.snd, oCb x i5.now, oS x i5.now (sB 5 i5.E.length), oR i5.E]))))) ∧
(∀ i5 : LQ, (SOk x i5 ∧
 i5.E ≠ []) →
((kNextP (oO L) (oX x) x i5.now i5.l i5.cl [oS x i5.now (sB 6 i5.E.length), AObj.dead, oR i5.E]).asks Try.prog [] 27 ∧
∀ i6 : List (En × Nat) × Nat, (Rep i6.snd i6.fst (srt i5.l)) →
((kNextRB6 (oO L) (oX x) (oM i6.fst i6.snd) (oCb x i5.now) AObj.dead x i5.now i5.E i5.E.length []).asks Try.prog [] 28 ∧
∀ _ : Unit, (True) →
((((nextM (srt i5.l)).fst == (nextM i5.E).fst) = true →
((((nextM (srt i5.l)).snd) = true →
((((nextM i5.E).snd) = true →
∀ z7 : Int, z7 = (((i5.E.length : Nat) : Int)) →
((kLenP (oO L) (oX x) x i5.now i6.fst i6.snd [oS x i5.now (sB 6 i5.E.length), AObj.dead, oR i5.E]).asks Try.prog [] 9 ∧
∀ i8 : List (En × Nat) × Nat, (Rep i8.snd i8.fst (srt i6.fst)) →
(((some (sB 6 i5.E.length)) : Option Value) = (some (sB 6 i5.E.length))) ∧
((((((srt i6.fst).length : Nat) : Int) == z7) = true →
∀ z9 : Int, z9 = (IntKind.i64.wrap (i3.i + 1)) →
(someN [] 1 (fun a' => (mL L x n cap) a' < (mL L x n cap) i3) ⟨[(9, (iv z9)), (7, (pp 4)), (5, (pp 3)), (2, (pp 1)), (1, (.slice (some ⟨0, 0, none⟩) n cap))], [], [oO L, oX x, oM i8.fst i8.snd, oCb x i5.now, oS x i5.now (sB 6 i5.E.length), .dead, oR i5.E], .norm⟩ [(qL0 L x n cap), (qLN L x n cap), (qLB L x n cap), (qLF L x n cap)])) ∧
(((((srt i6.fst).length : Nat) : Int) == z7) = false →
 Q (.ret (.bool false)) [oO L, oX x, oM i8.fst i8.snd, oCb x i5.now, oS x i5.now (sB 6 i5.E.length), .dead, oR i5.E])))) ∧
(((nextM i5.E).snd) = false →
 Q (.ret (.bool false)) [oO L, oX x, oM i6.fst i6.snd, oCb x i5.now, oS x i5.now (sB 6 i5.E.length), .dead, oR i5.E]))) ∧
(((nextM (srt i5.l)).snd) = false →
((((nextM i5.E).snd) = true →
 Q (.ret (.bool false)) [oO L, oX x, oM i6.fst i6.snd, oCb x i5.now, oS x i5.now (sB 6 i5.E.length), .dead, oR i5.E]) ∧
(((nextM i5.E).snd) = false →
∀ z7 : Int, z7 = (((i5.E.length : Nat) : Int)) →
((kLenP (oO L) (oX x) x i5.now i6.fst i6.snd [oS x i5.now (sB 6 i5.E.length), AObj.dead, oR i5.E]).asks Try.prog [] 9 ∧
∀ i8 : List (En × Nat) × Nat, (Rep i8.snd i8.fst (srt i6.fst)) →
(((some (sB 6 i5.E.length)) : Option Value) = (some (sB 6 i5.E.length))) ∧
((((((srt i6.fst).length : Nat) : Int) == z7) = true →
∀ z9 : Int, z9 = (IntKind.i64.wrap (i3.i + 1)) →
(someN [] 1 (fun a' => (mL L x n cap) a' < (mL L x n cap) i3) ⟨[(9, (iv z9)), (7, (pp 4)), (5, (pp 3)), (2, (pp 1)), (1, (.slice (some ⟨0, 0, none⟩) n cap))], [], [oO L, oX x, oM i8.fst i8.snd, oCb x i5.now, oS x i5.now (sB 6 i5.E.length), .dead, oR i5.E], .norm⟩ [(qL0 L x n cap), (qLN L x n cap), (qLB L x n cap), (qLF L x n cap)])) ∧
(((((srt i6.fst).length : Nat) : Int) == z7) = false →
 Q (.ret (.bool false)) [oO L, oX x, oM i8.fst i8.snd, oCb x i5.now, oS x i5.now (sB 6 i5.E.length), .dead, oR i5.E])))))))) ∧
(((nextM (srt i5.l)).fst == (nextM i5.E).fst) = false →
 Q (.ret (.bool false)) [oO L, oX x, oM i6.fst i6.snd, oCb x i5.now, oS x i5.now (sB 6 i5.E.length), .dead, oR i5.E]))))))))) ∧
((decide (i3.i < 200)) = false →
 Q (.ret (.bool true)) [oO L, oX x, oM i3.l i3.cl, oCb x i3.now, oS x i3.now (sB 5 i3.E.length), oR i3.E]))) ∧
((decide (i3.i < z4)) = false →
 Q (.ret (.bool true)) [oO L, oX x, oM i3.l i3.cl, oCb x i3.now, oS x i3.now (sB 5 i3.E.length), oR i3.E]))) ∧
(∀ i3, (qLF L x n cap i3).fst →
 Q (.ret (.bool true)) [oO L, oX x])))))))) =
    runS Try.prog [] false [5, 6, 7, 8, 9, 10, 11, 27, 28] 0 (SpecC Try.prog []) 20 4 [aX x, .slice (some ⟨0, 0, none⟩) n cap] [oO L] .norm (.skip 3 (.callN (Unit) (kNewP (oO L) (oX x) x).posts (fun k => match k with | 0 => fun _i1 => .skip 6 (.callN (Unit) (kNewR3 (oO L) (oX x) AObj.dead x).posts (fun k => match k with | 0 => fun _i2 => .skip 22 (.call (Unit) (kAwake [oO L, oX x, AObj.dead, AObj.dead]).post fun _ => .skip 5 (.invN [9, 7, 5, 2, 1] _ (mL L x n cap) [(qL0 L x n cap), (qLN L x n cap), (qLB L x n cap), (qLF L x n cap)] (fun k => match k with | 0 => fun _i3 => .go | 1 => fun i3 => .skip 8 (.all (fun _z4 => .skip 1 (.ask (klw40s1 L x i3) (.go)))) | 2 => fun i3 => .skip 8 (.all (fun _z4 => .skip 1 (.ask (klw40s0 L x i3) (.go)))) | _ => fun _i3 => .go))) | _ => fun _i2 => .go)) | _ => fun _i1 => .skip 6 (.callN (Unit) (kNewR5 (oO L) (oX x) AObj.dead (oM [] 0) (AObj.cells [Go.Value.int IntKind.i64 x.lim, Go.Value.int IntKind.i64 x.link, Go.Value.int IntKind.i64 x.life, Go.Value.int IntKind.i64 x.least, Go.Value.int IntKind.i64 0, Go.Value.map (Option.some 3)] Bool.false) x).posts (fun k => match k with | 0 => fun _i2 => .go | _ => fun _i2 => .skip 22 (.call (Unit) (kAwake [oO L, oX x, AObj.dead, oM [] 0, AObj.cells [Go.Value.int IntKind.i64 x.lim, Go.Value.int IntKind.i64 x.link, Go.Value.int IntKind.i64 x.life, Go.Value.int IntKind.i64 x.least, Go.Value.int IntKind.i64 0, Go.Value.map (Option.some 3)] Bool.false, AObj.dead, oS x 0 sN]).post fun _ => .skip 5 (.invN [9, 7, 5, 2, 1] _ (mL L x n cap) [(qL0 L x n cap), (qLN L x n cap), (qLB L x n cap), (qLF L x n cap)] (fun k => match k with | 0 => fun _i3 => .go | 1 => fun i3 => .skip 8 (.all (fun _z4 => .skip 1 (.ask (klw40s1 L x i3) (.go)))) | 2 => fun i3 => .skip 8 (.all (fun _z4 => .skip 1 (.ask (klw40s0 L x i3) (.go)))) | _ => fun _i3 => .go)))))))) (fun r _ h _ => Q r h) := by kernel_rfl

theorem runs_spec {L : List Ow} {x : Cf} {n cap : Nat} (hL0 : L ≠ []) (hn : n ≤ L.length) (hD : ∀ o ∈ L, okA o.d) : Fm.Spec Try.prog [] 4 [aX x, .slice (some ⟨0, 0, none⟩) n cap] [oO L] fun r _ => r = .ret (.bool true) := by
  have hL := noE_o hL0
  refine spec_T (run_law4 L x n cap _) ?_
  refine ⟨newP_ok (nE hL rfl), ?_⟩
  refine ⟨?_, ?_⟩
  intro _ hno
  refine ⟨newR3_ok (nE hL rfl), ?_⟩
  refine ⟨?_, ?_⟩
  intro _ hno
  refine ⟨awake_ok, ?_⟩
  intro _ _
  refine ⟨?_, ?_⟩
  exact .inl ⟨⟨0, [], 0, 0, []⟩, hno, trivial, Gc.ren [0, 1] (by decide) (by decide) (by decide) (by decide) ⟨⟨_, rfl, ro_o L⟩, ⟨_, rfl, ro_x x⟩, trivial⟩ (by exact ⟨⟨_, rfl, .int _ _⟩, ⟨_, rfl, .pnil⟩, ⟨_, rfl, .pnil⟩, ⟨_, rfl, .ptr _ _ rfl⟩, ⟨_, rfl, .slice _ _ _ _ rfl⟩, trivial⟩) rfl⟩
  refine ⟨?_, ?_⟩
  intro i3 hno
  rfl
  refine ⟨?_, ?_⟩
  rintro i3 ⟨⟨hi, hx, hs0⟩, hE0⟩
  have e0 := hs0.rep.srt
  intro z4 hz4
  replace hz4 : z4 = ((n : Nat) : Int) := hz4
  subst hz4
  refine ⟨fun h3 => ?_, fun h3 => ?_⟩
  replace h3 := of_decide_eq_true h3
  refine ⟨fun h4 => ?_, fun h4 => ?_⟩
  replace h4 := of_decide_eq_true h4
  refine ⟨ixo hi (by omega), ?_⟩
  refine ⟨ldo (by omega), ?_⟩
  refine ⟨stepN_ok hx (okA_get hD (by omega)) (by rw [e0]; exact hs0.rep) (by rw [e0]; exact hs0.good) hs0.t0 hs0.t1 hL (e0.trans hE0), ?_⟩
  refine ⟨?_, ?_⟩
  rintro i5 ⟨hs, hE⟩
  have e5 := hs.rep.srt
  rw [hE] at e5
  rw [e5]
  refine ⟨nextP_ok (by rw [e5]; have := hs.rep; rw [hE] at this; exact this) (by rw [e5]; intro e he; cases he) (nE hL rfl), ?_⟩
  intro i6 hRi6
  have ei6 := hRi6.srt
  try rw [ei6]
  refine ⟨nextRN_ok (nE hL rfl), ?_⟩
  intro _ _
  refine ⟨fun h6 => ?_, fun h6 => ?_⟩
  refine ⟨fun h7 => ?_, fun h7 => ?_⟩
  exact absurd h7 (by decide)
  refine ⟨fun h8 => ?_, fun h8 => ?_⟩
  exact (tf_no h8 h7).elim
  refine ⟨lenP_ok (by rw [ei6]; exact hRi6) (nE hL rfl), ?_⟩
  intro i7 hRi7
  have ei7 := hRi7.srt
  try rw [ei7]
  refine ⟨rfl, ?_⟩
  refine ⟨fun h9 => ?_, fun h9 => ?_⟩
  intro z8 hz8
  rw [wr (by omega) (by omega)] at hz8
  subst hz8
  exact .inr (.inl ⟨⟨i3.i + 1, i7.1, i7.2, i5.now, []⟩, ⟨⟨by show 0 ≤ i3.i + 1; omega, hx, by have h := sok_go (j := i3.i + 1) hs (hE.symm ▸ hRi7); rw [hE] at h; exact h⟩, rfl⟩, by show (200 - (i3.i + 1)).toNat < (200 - i3.i).toNat; omega, gcN⟩)
  exact absurd h9 (by decide)
  exact (beq_no h6).elim
  rintro i5 ⟨hs, hE⟩
  have e5 := hs.rep.srt
  have hn5 : 1 ≤ i5.E.length := List.length_pos_iff.2 hE
  have hb5 : i5.E.length < 2 ^ 20 := hs.good.len hx
  rw [e5]
  refine ⟨nextP_ok (by rw [e5]; exact hs.rep) (by rw [e5]; exact fun e he => (hs.good.2 e he).2.2) (nE hL rfl), ?_⟩
  intro i6 hRi6
  have ei6 := hRi6.srt
  try rw [ei6]
  refine ⟨nextRB_ok rfl hn5 hb5 (nE hL rfl), ?_⟩
  intro _ _
  refine ⟨fun h6 => ?_, fun h6 => ?_⟩
  refine ⟨fun h7 => ?_, fun h7 => ?_⟩
  refine ⟨fun h8 => ?_, fun h8 => ?_⟩
  intro z7 hz7
  replace hz7 : z7 = ((i5.E.length : Nat) : Int) := hz7
  subst hz7
  refine ⟨lenP_ok (by rw [ei6]; exact hRi6) (nE hL rfl), ?_⟩
  intro i8 hRi8
  have ei8 := hRi8.srt
  try rw [ei8]
  refine ⟨rfl, ?_⟩
  refine ⟨fun h9 => ?_, fun h9 => ?_⟩
  intro z9 hz9
  rw [wr (by omega) (by omega)] at hz9
  subst hz9
  exact .inr (.inr (.inl ⟨⟨i3.i + 1, i8.1, i8.2, i5.now, i5.E⟩, ⟨⟨by show 0 ≤ i3.i + 1; omega, hx, sok_go hs hRi8⟩, hE⟩, by show (200 - (i3.i + 1)).toNat < (200 - i3.i).toNat; omega, gcB (k := 5) (by decide) rfl rfl rfl rfl rfl rfl⟩))
  exact (beq_no h9).elim
  exact (tf_no h7 h8).elim
  refine ⟨fun h8 => ?_, fun h8 => ?_⟩
  exact (tf_no h8 h7).elim
  intro z7 hz7
  replace hz7 : z7 = ((i5.E.length : Nat) : Int) := hz7
  subst hz7
  refine ⟨lenP_ok (by rw [ei6]; exact hRi6) (nE hL rfl), ?_⟩
  intro i8 hRi8
  have ei8 := hRi8.srt
  try rw [ei8]
  refine ⟨rfl, ?_⟩
  refine ⟨fun h9 => ?_, fun h9 => ?_⟩
  intro z9 hz9
  rw [wr (by omega) (by omega)] at hz9
  subst hz9
  exact .inr (.inr (.inl ⟨⟨i3.i + 1, i8.1, i8.2, i5.now, i5.E⟩, ⟨⟨by show 0 ≤ i3.i + 1; omega, hx, sok_go hs hRi8⟩, hE⟩, by show (200 - (i3.i + 1)).toNat < (200 - i3.i).toNat; omega, gcB (k := 5) (by decide) rfl rfl rfl rfl rfl rfl⟩))
  exact (beq_no h9).elim
  exact (beq_no h6).elim
  replace h4 := of_decide_eq_false h4
  rfl
  replace h3 := of_decide_eq_false h3
  rfl
  refine ⟨?_, ?_⟩
  rintro i3 ⟨⟨hi, hx, hs0⟩, hE0⟩
  have e0 := hs0.rep.srt
  intro z4 hz4
  replace hz4 : z4 = ((n : Nat) : Int) := hz4
  subst hz4
  refine ⟨fun h3 => ?_, fun h3 => ?_⟩
  replace h3 := of_decide_eq_true h3
  refine ⟨fun h4 => ?_, fun h4 => ?_⟩
  replace h4 := of_decide_eq_true h4
  refine ⟨ixo hi (by omega), ?_⟩
  refine ⟨ldo (by omega), ?_⟩
  refine ⟨stepB_ok hx (okA_get hD (by omega)) (by rw [e0]; exact hs0.rep) (by rw [e0]; exact hs0.good) hs0.t0 hs0.t1 hL e0 rfl hE0, ?_⟩
  refine ⟨?_, ?_⟩
  rintro i5 ⟨hs, hE⟩
  have e5 := hs.rep.srt
  rw [hE] at e5
  rw [e5]
  refine ⟨nextP_ok (by rw [e5]; have := hs.rep; rw [hE] at this; exact this) (by rw [e5]; intro e he; cases he) (nE hL rfl), ?_⟩
  intro i6 hRi6
  have ei6 := hRi6.srt
  try rw [ei6]
  refine ⟨nextRN_ok (nE hL rfl), ?_⟩
  intro _ _
  refine ⟨fun h6 => ?_, fun h6 => ?_⟩
  refine ⟨fun h7 => ?_, fun h7 => ?_⟩
  exact absurd h7 (by decide)
  refine ⟨fun h8 => ?_, fun h8 => ?_⟩
  exact (tf_no h8 h7).elim
  refine ⟨lenP_ok (by rw [ei6]; exact hRi6) (nE hL rfl), ?_⟩
  intro i7 hRi7
  have ei7 := hRi7.srt
  try rw [ei7]
  refine ⟨rfl, ?_⟩
  refine ⟨fun h9 => ?_, fun h9 => ?_⟩
  intro z8 hz8
  rw [wr (by omega) (by omega)] at hz8
  subst hz8
  exact .inr (.inl ⟨⟨i3.i + 1, i7.1, i7.2, i5.now, []⟩, ⟨⟨by show 0 ≤ i3.i + 1; omega, hx, by have h := sok_go (j := i3.i + 1) hs (hE.symm ▸ hRi7); rw [hE] at h; exact h⟩, rfl⟩, by show (200 - (i3.i + 1)).toNat < (200 - i3.i).toNat; omega, gcN⟩)
  exact absurd h9 (by decide)
  exact (beq_no h6).elim
  refine ⟨?_, ?_⟩
  rintro i5 ⟨hs, hE⟩
  have e5 := hs.rep.srt
  have hn5 : 1 ≤ i5.E.length := List.length_pos_iff.2 hE
  have hb5 : i5.E.length < 2 ^ 20 := hs.good.len hx
  rw [e5]
  refine ⟨nextP_ok (by rw [e5]; exact hs.rep) (by rw [e5]; exact fun e he => (hs.good.2 e he).2.2) (nE hL rfl), ?_⟩
  intro i6 hRi6
  have ei6 := hRi6.srt
  try rw [ei6]
  refine ⟨nextRB_ok rfl hn5 hb5 (nE hL rfl), ?_⟩
  intro _ _
  refine ⟨fun h6 => ?_, fun h6 => ?_⟩
  refine ⟨fun h7 => ?_, fun h7 => ?_⟩
  refine ⟨fun h8 => ?_, fun h8 => ?_⟩
  intro z7 hz7
  replace hz7 : z7 = ((i5.E.length : Nat) : Int) := hz7
  subst hz7
  refine ⟨lenP_ok (by rw [ei6]; exact hRi6) (nE hL rfl), ?_⟩
  intro i8 hRi8
  have ei8 := hRi8.srt
  try rw [ei8]
  refine ⟨rfl, ?_⟩
  refine ⟨fun h9 => ?_, fun h9 => ?_⟩
  intro z9 hz9
  rw [wr (by omega) (by omega)] at hz9
  subst hz9
  exact .inr (.inr (.inl ⟨⟨i3.i + 1, i8.1, i8.2, i5.now, i5.E⟩, ⟨⟨by show 0 ≤ i3.i + 1; omega, hx, sok_go hs hRi8⟩, hE⟩, by show (200 - (i3.i + 1)).toNat < (200 - i3.i).toNat; omega, gcB (k := 5) (by decide) rfl rfl rfl rfl rfl rfl⟩))
  exact (beq_no h9).elim
  exact (tf_no h7 h8).elim
  refine ⟨fun h8 => ?_, fun h8 => ?_⟩
  exact (tf_no h8 h7).elim
  intro z7 hz7
  replace hz7 : z7 = ((i5.E.length : Nat) : Int) := hz7
  subst hz7
  refine ⟨lenP_ok (by rw [ei6]; exact hRi6) (nE hL rfl), ?_⟩
  intro i8 hRi8
  have ei8 := hRi8.srt
  try rw [ei8]
  refine ⟨rfl, ?_⟩
  refine ⟨fun h9 => ?_, fun h9 => ?_⟩
  intro z9 hz9
  rw [wr (by omega) (by omega)] at hz9
  subst hz9
  exact .inr (.inr (.inl ⟨⟨i3.i + 1, i8.1, i8.2, i5.now, i5.E⟩, ⟨⟨by show 0 ≤ i3.i + 1; omega, hx, sok_go hs hRi8⟩, hE⟩, by show (200 - (i3.i + 1)).toNat < (200 - i3.i).toNat; omega, gcB (k := 5) (by decide) rfl rfl rfl rfl rfl rfl⟩))
  exact (beq_no h9).elim
  exact (beq_no h6).elim
  rintro i5 ⟨hs, hE⟩
  have e5 := hs.rep.srt
  have hn5 : 1 ≤ i5.E.length := List.length_pos_iff.2 hE
  have hb5 : i5.E.length < 2 ^ 20 := hs.good.len hx
  rw [e5]
  refine ⟨nextP_ok (by rw [e5]; exact hs.rep) (by rw [e5]; exact fun e he => (hs.good.2 e he).2.2) (nE hL rfl), ?_⟩
  intro i6 hRi6
  have ei6 := hRi6.srt
  try rw [ei6]
  refine ⟨nextRB6_ok rfl hn5 hb5 (nE hL rfl), ?_⟩
  intro _ _
  refine ⟨fun h6 => ?_, fun h6 => ?_⟩
  refine ⟨fun h7 => ?_, fun h7 => ?_⟩
  refine ⟨fun h8 => ?_, fun h8 => ?_⟩
  intro z7 hz7
  replace hz7 : z7 = ((i5.E.length : Nat) : Int) := hz7
  subst hz7
  refine ⟨lenP_ok (by rw [ei6]; exact hRi6) (nE hL rfl), ?_⟩
  intro i8 hRi8
  have ei8 := hRi8.srt
  try rw [ei8]
  refine ⟨rfl, ?_⟩
  refine ⟨fun h9 => ?_, fun h9 => ?_⟩
  intro z9 hz9
  rw [wr (by omega) (by omega)] at hz9
  subst hz9
  exact .inr (.inr (.inl ⟨⟨i3.i + 1, i8.1, i8.2, i5.now, i5.E⟩, ⟨⟨by show 0 ≤ i3.i + 1; omega, hx, sok_go hs hRi8⟩, hE⟩, by show (200 - (i3.i + 1)).toNat < (200 - i3.i).toNat; omega, gcB (k := 6) (by decide) rfl rfl rfl rfl rfl rfl⟩))
  exact (beq_no h9).elim
  exact (tf_no h7 h8).elim
  refine ⟨fun h8 => ?_, fun h8 => ?_⟩
  exact (tf_no h8 h7).elim
  intro z7 hz7
  replace hz7 : z7 = ((i5.E.length : Nat) : Int) := hz7
  subst hz7
  refine ⟨lenP_ok (by rw [ei6]; exact hRi6) (nE hL rfl), ?_⟩
  intro i8 hRi8
  have ei8 := hRi8.srt
  try rw [ei8]
  refine ⟨rfl, ?_⟩
  refine ⟨fun h9 => ?_, fun h9 => ?_⟩
  intro z9 hz9
  rw [wr (by omega) (by omega)] at hz9
  subst hz9
  exact .inr (.inr (.inl ⟨⟨i3.i + 1, i8.1, i8.2, i5.now, i5.E⟩, ⟨⟨by show 0 ≤ i3.i + 1; omega, hx, sok_go hs hRi8⟩, hE⟩, by show (200 - (i3.i + 1)).toNat < (200 - i3.i).toNat; omega, gcB (k := 6) (by decide) rfl rfl rfl rfl rfl rfl⟩))
  exact (beq_no h9).elim
  exact (beq_no h6).elim
  replace h4 := of_decide_eq_false h4
  rfl
  replace h3 := of_decide_eq_false h3
  rfl
  intro i3 hf
  exact hf.elim
  intro _ hx
  exact absurd hx hno
  intro _ hx
  refine ⟨newR5_ok (nE hL rfl), ?_⟩
  refine ⟨?_, ?_⟩
  intro _ hno2
  exact absurd hx hno2
  intro _ hx
  refine ⟨awake_ok, ?_⟩
  intro _ _
  refine ⟨?_, ?_⟩
  exact .inr (.inl ⟨⟨0, [], 0, 0, []⟩, ⟨⟨Int.le_refl _, hx, sok_0 hx⟩, rfl⟩, trivial, Gc.ren [0, 1, 3, 4, 6] (by decide) (by decide) (by decide) (by decide) ⟨⟨_, rfl, ro_o L⟩, ⟨_, rfl, ro_x x⟩, ⟨_, rfl, ro_m _ _⟩, ⟨_, rfl, .cells false (.cons (.int _ _) (.cons (.int _ _) (.cons (.int _ _) (.cons (.int _ _) (.cons (.int _ _) (.cons (.map rfl) .nil))))))⟩, ⟨_, rfl, ro_s (.snil _ _)⟩, trivial⟩ (by exact ⟨⟨_, rfl, .int _ _⟩, ⟨_, rfl, .ptr _ _ rfl⟩, ⟨_, rfl, .ptr _ _ rfl⟩, ⟨_, rfl, .ptr _ _ rfl⟩, ⟨_, rfl, .slice _ _ _ _ rfl⟩, trivial⟩) rfl⟩)
  refine ⟨?_, ?_⟩
  intro i3 hno
  rfl
  refine ⟨?_, ?_⟩
  rintro i3 ⟨⟨hi, hx, hs0⟩, hE0⟩
  have e0 := hs0.rep.srt
  intro z4 hz4
  replace hz4 : z4 = ((n : Nat) : Int) := hz4
  subst hz4
  refine ⟨fun h3 => ?_, fun h3 => ?_⟩
  replace h3 := of_decide_eq_true h3
  refine ⟨fun h4 => ?_, fun h4 => ?_⟩
  replace h4 := of_decide_eq_true h4
  refine ⟨ixo hi (by omega), ?_⟩
  refine ⟨ldo (by omega), ?_⟩
  refine ⟨stepN_ok hx (okA_get hD (by omega)) (by rw [e0]; exact hs0.rep) (by rw [e0]; exact hs0.good) hs0.t0 hs0.t1 hL (e0.trans hE0), ?_⟩
  refine ⟨?_, ?_⟩
  rintro i5 ⟨hs, hE⟩
  have e5 := hs.rep.srt
  rw [hE] at e5
  rw [e5]
  refine ⟨nextP_ok (by rw [e5]; have := hs.rep; rw [hE] at this; exact this) (by rw [e5]; intro e he; cases he) (nE hL rfl), ?_⟩
  intro i6 hRi6
  have ei6 := hRi6.srt
  try rw [ei6]
  refine ⟨nextRN_ok (nE hL rfl), ?_⟩
  intro _ _
  refine ⟨fun h6 => ?_, fun h6 => ?_⟩
  refine ⟨fun h7 => ?_, fun h7 => ?_⟩
  exact absurd h7 (by decide)
  refine ⟨fun h8 => ?_, fun h8 => ?_⟩
  exact (tf_no h8 h7).elim
  refine ⟨lenP_ok (by rw [ei6]; exact hRi6) (nE hL rfl), ?_⟩
  intro i7 hRi7
  have ei7 := hRi7.srt
  try rw [ei7]
  refine ⟨rfl, ?_⟩
  refine ⟨fun h9 => ?_, fun h9 => ?_⟩
  intro z8 hz8
  rw [wr (by omega) (by omega)] at hz8
  subst hz8
  exact .inr (.inl ⟨⟨i3.i + 1, i7.1, i7.2, i5.now, []⟩, ⟨⟨by show 0 ≤ i3.i + 1; omega, hx, by have h := sok_go (j := i3.i + 1) hs (hE.symm ▸ hRi7); rw [hE] at h; exact h⟩, rfl⟩, by show (200 - (i3.i + 1)).toNat < (200 - i3.i).toNat; omega, gcN⟩)
  exact absurd h9 (by decide)
  exact (beq_no h6).elim
  rintro i5 ⟨hs, hE⟩
  have e5 := hs.rep.srt
  have hn5 : 1 ≤ i5.E.length := List.length_pos_iff.2 hE
  have hb5 : i5.E.length < 2 ^ 20 := hs.good.len hx
  rw [e5]
  refine ⟨nextP_ok (by rw [e5]; exact hs.rep) (by rw [e5]; exact fun e he => (hs.good.2 e he).2.2) (nE hL rfl), ?_⟩
  intro i6 hRi6
  have ei6 := hRi6.srt
  try rw [ei6]
  refine ⟨nextRB_ok rfl hn5 hb5 (nE hL rfl), ?_⟩
  intro _ _
  refine ⟨fun h6 => ?_, fun h6 => ?_⟩
  refine ⟨fun h7 => ?_, fun h7 => ?_⟩
  refine ⟨fun h8 => ?_, fun h8 => ?_⟩
  intro z7 hz7
  replace hz7 : z7 = ((i5.E.length : Nat) : Int) := hz7
  subst hz7
  refine ⟨lenP_ok (by rw [ei6]; exact hRi6) (nE hL rfl), ?_⟩
  intro i8 hRi8
  have ei8 := hRi8.srt
  try rw [ei8]
  refine ⟨rfl, ?_⟩
  refine ⟨fun h9 => ?_, fun h9 => ?_⟩
  intro z9 hz9
  rw [wr (by omega) (by omega)] at hz9
  subst hz9
  exact .inr (.inr (.inl ⟨⟨i3.i + 1, i8.1, i8.2, i5.now, i5.E⟩, ⟨⟨by show 0 ≤ i3.i + 1; omega, hx, sok_go hs hRi8⟩, hE⟩, by show (200 - (i3.i + 1)).toNat < (200 - i3.i).toNat; omega, gcB (k := 5) (by decide) rfl rfl rfl rfl rfl rfl⟩))
  exact (beq_no h9).elim
  exact (tf_no h7 h8).elim
  refine ⟨fun h8 => ?_, fun h8 => ?_⟩
  exact (tf_no h8 h7).elim
  intro z7 hz7
  replace hz7 : z7 = ((i5.E.length : Nat) : Int) := hz7
  subst hz7
  refine ⟨lenP_ok (by rw [ei6]; exact hRi6) (nE hL rfl), ?_⟩
  intro i8 hRi8
  have ei8 := hRi8.srt
  try rw [ei8]
  refine ⟨rfl, ?_⟩
  refine ⟨fun h9 => ?_, fun h9 => ?_⟩
  intro z9 hz9
  rw [wr (by omega) (by omega)] at hz9
  subst hz9
  exact .inr (.inr (.inl ⟨⟨i3.i + 1, i8.1, i8.2, i5.now, i5.E⟩, ⟨⟨by show 0 ≤ i3.i + 1; omega, hx, sok_go hs hRi8⟩, hE⟩, by show (200 - (i3.i + 1)).toNat < (200 - i3.i).toNat; omega, gcB (k := 5) (by decide) rfl rfl rfl rfl rfl rfl⟩))
  exact (beq_no h9).elim
  exact (beq_no h6).elim
  replace h4 := of_decide_eq_false h4
  rfl
  replace h3 := of_decide_eq_false h3
  rfl
  refine ⟨?_, ?_⟩
  rintro i3 ⟨⟨hi, hx, hs0⟩, hE0⟩
  have e0 := hs0.rep.srt
  intro z4 hz4
  replace hz4 : z4 = ((n : Nat) : Int) := hz4
  subst hz4
  refine ⟨fun h3 => ?_, fun h3 => ?_⟩
  replace h3 := of_decide_eq_true h3
  refine ⟨fun h4 => ?_, fun h4 => ?_⟩
  replace h4 := of_decide_eq_true h4
  refine ⟨ixo hi (by omega), ?_⟩
  refine ⟨ldo (by omega), ?_⟩
  refine ⟨stepB_ok hx (okA_get hD (by omega)) (by rw [e0]; exact hs0.rep) (by rw [e0]; exact hs0.good) hs0.t0 hs0.t1 hL e0 rfl hE0, ?_⟩
  refine ⟨?_, ?_⟩
  rintro i5 ⟨hs, hE⟩
  have e5 := hs.rep.srt
  rw [hE] at e5
  rw [e5]
  refine ⟨nextP_ok (by rw [e5]; have := hs.rep; rw [hE] at this; exact this) (by rw [e5]; intro e he; cases he) (nE hL rfl), ?_⟩
  intro i6 hRi6
  have ei6 := hRi6.srt
  try rw [ei6]
  refine ⟨nextRN_ok (nE hL rfl), ?_⟩
  intro _ _
  refine ⟨fun h6 => ?_, fun h6 => ?_⟩
  refine ⟨fun h7 => ?_, fun h7 => ?_⟩
  exact absurd h7 (by decide)
  refine ⟨fun h8 => ?_, fun h8 => ?_⟩
  exact (tf_no h8 h7).elim
  refine ⟨lenP_ok (by rw [ei6]; exact hRi6) (nE hL rfl), ?_⟩
  intro i7 hRi7
  have ei7 := hRi7.srt
  try rw [ei7]
  refine ⟨rfl, ?_⟩
  refine ⟨fun h9 => ?_, fun h9 => ?_⟩
  intro z8 hz8
  rw [wr (by omega) (by omega)] at hz8
  subst hz8
  exact .inr (.inl ⟨⟨i3.i + 1, i7.1, i7.2, i5.now, []⟩, ⟨⟨by show 0 ≤ i3.i + 1; omega, hx, by have h := sok_go (j := i3.i + 1) hs (hE.symm ▸ hRi7); rw [hE] at h; exact h⟩, rfl⟩, by show (200 - (i3.i + 1)).toNat < (200 - i3.i).toNat; omega, gcN⟩)
  exact absurd h9 (by decide)
  exact (beq_no h6).elim
  refine ⟨?_, ?_⟩
  rintro i5 ⟨hs, hE⟩
  have e5 := hs.rep.srt
  have hn5 : 1 ≤ i5.E.length := List.length_pos_iff.2 hE
  have hb5 : i5.E.length < 2 ^ 20 := hs.good.len hx
  rw [e5]
  refine ⟨nextP_ok (by rw [e5]; exact hs.rep) (by rw [e5]; exact fun e he => (hs.good.2 e he).2.2) (nE hL rfl), ?_⟩
  intro i6 hRi6
  have ei6 := hRi6.srt
  try rw [ei6]
  refine ⟨nextRB_ok rfl hn5 hb5 (nE hL rfl), ?_⟩
  intro _ _
  refine ⟨fun h6 => ?_, fun h6 => ?_⟩
  refine ⟨fun h7 => ?_, fun h7 => ?_⟩
  refine ⟨fun h8 => ?_, fun h8 => ?_⟩
  intro z7 hz7
  replace hz7 : z7 = ((i5.E.length : Nat) : Int) := hz7
  subst hz7
  refine ⟨lenP_ok (by rw [ei6]; exact hRi6) (nE hL rfl), ?_⟩
  intro i8 hRi8
  have ei8 := hRi8.srt
  try rw [ei8]
  refine ⟨rfl, ?_⟩
  refine ⟨fun h9 => ?_, fun h9 => ?_⟩
  intro z9 hz9
  rw [wr (by omega) (by omega)] at hz9
  subst hz9
  exact .inr (.inr (.inl ⟨⟨i3.i + 1, i8.1, i8.2, i5.now, i5.E⟩, ⟨⟨by show 0 ≤ i3.i + 1; omega, hx, sok_go hs hRi8⟩, hE⟩, by show (200 - (i3.i + 1)).toNat < (200 - i3.i).toNat; omega, gcB (k := 5) (by decide) rfl rfl rfl rfl rfl rfl⟩))
  exact (beq_no h9).elim
  exact (tf_no h7 h8).elim
  refine ⟨fun h8 => ?_, fun h8 => ?_⟩
  exact (tf_no h8 h7).elim
  intro z7 hz7
  replace hz7 : z7 = ((i5.E.length : Nat) : Int) := hz7
  subst hz7
  refine ⟨lenP_ok (by rw [ei6]; exact hRi6) (nE hL rfl), ?_⟩
  intro i8 hRi8
  have ei8 := hRi8.srt
  try rw [ei8]
  refine ⟨rfl, ?_⟩
  refine ⟨fun h9 => ?_, fun h9 => ?_⟩
  intro z9 hz9
  rw [wr (by omega) (by omega)] at hz9
  subst hz9
  exact .inr (.inr (.inl ⟨⟨i3.i + 1, i8.1, i8.2, i5.now, i5.E⟩, ⟨⟨by show 0 ≤ i3.i + 1; omega, hx, sok_go hs hRi8⟩, hE⟩, by show (200 - (i3.i + 1)).toNat < (200 - i3.i).toNat; omega, gcB (k := 5) (by decide) rfl rfl rfl rfl rfl rfl⟩))
  exact (beq_no h9).elim
  exact (beq_no h6).elim
  rintro i5 ⟨hs, hE⟩
  have e5 := hs.rep.srt
  have hn5 : 1 ≤ i5.E.length := List.length_pos_iff.2 hE
  have hb5 : i5.E.length < 2 ^ 20 := hs.good.len hx
  rw [e5]
  refine ⟨nextP_ok (by rw [e5]; exact hs.rep) (by rw [e5]; exact fun e he => (hs.good.2 e he).2.2) (nE hL rfl), ?_⟩
  intro i6 hRi6
  have ei6 := hRi6.srt
  try rw [ei6]
  refine ⟨nextRB6_ok rfl hn5 hb5 (nE hL rfl), ?_⟩
  intro _ _
  refine ⟨fun h6 => ?_, fun h6 => ?_⟩
  refine ⟨fun h7 => ?_, fun h7 => ?_⟩
  refine ⟨fun h8 => ?_, fun h8 => ?_⟩
  intro z7 hz7
  replace hz7 : z7 = ((i5.E.length : Nat) : Int) := hz7
  subst hz7
  refine ⟨lenP_ok (by rw [ei6]; exact hRi6) (nE hL rfl), ?_⟩
  intro i8 hRi8
  have ei8 := hRi8.srt
  try rw [ei8]
  refine ⟨rfl, ?_⟩
  refine ⟨fun h9 => ?_, fun h9 => ?_⟩
  intro z9 hz9
  rw [wr (by omega) (by omega)] at hz9
  subst hz9
  exact .inr (.inr (.inl ⟨⟨i3.i + 1, i8.1, i8.2, i5.now, i5.E⟩, ⟨⟨by show 0 ≤ i3.i + 1; omega, hx, sok_go hs hRi8⟩, hE⟩, by show (200 - (i3.i + 1)).toNat < (200 - i3.i).toNat; omega, gcB (k := 6) (by decide) rfl rfl rfl rfl rfl rfl⟩))
  exact (beq_no h9).elim
  exact (tf_no h7 h8).elim
  refine ⟨fun h8 => ?_, fun h8 => ?_⟩
  exact (tf_no h8 h7).elim
  intro z7 hz7
  replace hz7 : z7 = ((i5.E.length : Nat) : Int) := hz7
  subst hz7
  refine ⟨lenP_ok (by rw [ei6]; exact hRi6) (nE hL rfl), ?_⟩
  intro i8 hRi8
  have ei8 := hRi8.srt
  try rw [ei8]
  refine ⟨rfl, ?_⟩
  refine ⟨fun h9 => ?_, fun h9 => ?_⟩
  intro z9 hz9
  rw [wr (by omega) (by omega)] at hz9
  subst hz9
  exact .inr (.inr (.inl ⟨⟨i3.i + 1, i8.1, i8.2, i5.now, i5.E⟩, ⟨⟨by show 0 ≤ i3.i + 1; omega, hx, sok_go hs hRi8⟩, hE⟩, by show (200 - (i3.i + 1)).toNat < (200 - i3.i).toNat; omega, gcB (k := 6) (by decide) rfl rfl rfl rfl rfl rfl⟩))
  exact (beq_no h9).elim
  exact (beq_no h6).elim
  replace h4 := of_decide_eq_false h4
  rfl
  replace h3 := of_decide_eq_false h3
  rfl
  intro i3 hf
  exact hf.elim
theorem run_nil4 (L : List Ow) (x : Cf) (Q : Res → AHeap → Prop) : (((kNewP (oO L) (oX x) x).asks Try.prog [] 5 ∧
(∀ _ : Unit, (¬okC x) →
((kNewR3 (oO L) (oX x) AObj.dead x).asks Try.prog [] 6 ∧
(∀ _ : Unit, (¬okC x) →
((kAwake [oO L, oX x, AObj.dead, AObj.dead]).asks Try.prog [] 7 ∧
∀ _ : Unit, (True) →
 Q (.ret (.bool true)) [oO L, oX x, .dead, .dead])) ∧
(∀ _ : Unit, (okC x) →
 Q (.ret (.bool false)) [oO L, oX x, .dead, .dead, oS x 0 sN]))) ∧
(∀ _ : Unit, (okC x) →
((kNewR5 (oO L) (oX x) AObj.dead (oM [] 0) (AObj.cells [Go.Value.int IntKind.i64 x.lim, Go.Value.int IntKind.i64 x.link, Go.Value.int IntKind.i64 x.life, Go.Value.int IntKind.i64 x.least, Go.Value.int IntKind.i64 0, Go.Value.map (Option.some 3)] Bool.false) x).asks Try.prog [] 6 ∧
(∀ _ : Unit, (¬okC x) →
 Q (.ret (.bool false)) [oO L, oX x, .dead, .map [] 0, oS x 0 (.map (some 3)), .dead]) ∧
(∀ _ : Unit, (okC x) →
((kAwake [oO L, oX x, AObj.dead, oM [] 0, AObj.cells [Go.Value.int IntKind.i64 x.lim, Go.Value.int IntKind.i64 x.link, Go.Value.int IntKind.i64 x.life, Go.Value.int IntKind.i64 x.least, Go.Value.int IntKind.i64 0, Go.Value.map (Option.some 3)] Bool.false, AObj.dead, oS x 0 sN]).asks Try.prog [] 7 ∧
∀ _ : Unit, (True) →
 Q (.ret (.bool true)) [oO L, oX x, .dead, .map [] 0, oS x 0 (.map (some 3)), .dead, oS x 0 sN])))))) =
    runS Try.prog [] false [5, 6, 7, 8, 9, 10, 11, 27, 28] 0 (SpecC Try.prog []) 20 4 [aX x, .slice none 0 0] [oO L] .norm (.skip 3 (.callN (Unit) (kNewP (oO L) (oX x) x).posts (fun k => match k with | 0 => fun _i1 => .skip 6 (.callN (Unit) (kNewR3 (oO L) (oX x) AObj.dead x).posts (fun k => match k with | 0 => fun _i2 => .skip 22 (.call (Unit) (kAwake [oO L, oX x, AObj.dead, AObj.dead]).post fun _ => .skip 5 (.unr 60 (.go))) | _ => fun _i2 => .go)) | _ => fun _i1 => .skip 6 (.callN (Unit) (kNewR5 (oO L) (oX x) AObj.dead (oM [] 0) (AObj.cells [Go.Value.int IntKind.i64 x.lim, Go.Value.int IntKind.i64 x.link, Go.Value.int IntKind.i64 x.life, Go.Value.int IntKind.i64 x.least, Go.Value.int IntKind.i64 0, Go.Value.map (Option.some 3)] Bool.false) x).posts (fun k => match k with | 0 => fun _i2 => .go | _ => fun _i2 => .skip 22 (.call (Unit) (kAwake [oO L, oX x, AObj.dead, oM [] 0, AObj.cells [Go.Value.int IntKind.i64 x.lim, Go.Value.int IntKind.i64 x.link, Go.Value.int IntKind.i64 x.life, Go.Value.int IntKind.i64 x.least, Go.Value.int IntKind.i64 0, Go.Value.map (Option.some 3)] Bool.false, AObj.dead, oS x 0 sN]).post fun _ => .skip 5 (.unr 60 (.go)))))))) (fun r _ h _ => Q r h) := by kernel_rfl

theorem runs_nil {L : List Ow} {x : Cf} (hL0 : L ≠ []) : Fm.Spec Try.prog [] 4 [aX x, .slice none 0 0] [oO L] fun r _ => r = .ret (.bool true) := by
  have hL := noE_o hL0
  refine spec_T (run_nil4 L x _) ?_
  refine ⟨newP_ok (nE hL rfl), ?_⟩
  refine ⟨?_, ?_⟩
  intro _ hno
  refine ⟨newR3_ok (nE hL rfl), ?_⟩
  refine ⟨?_, ?_⟩
  intro _ hno
  refine ⟨awake_ok, ?_⟩
  intro _ _
  rfl
  intro _ hx
  exact absurd hx hno
  intro _ hx
  refine ⟨newR5_ok (nE hL rfl), ?_⟩
  refine ⟨?_, ?_⟩
  intro _ hno2
  exact absurd hx hno2
  intro _ hx
  refine ⟨awake_ok, ?_⟩
  intro _ _
  rfl

end Go.Proofs.Ytcdmnmpiipmfmaa
