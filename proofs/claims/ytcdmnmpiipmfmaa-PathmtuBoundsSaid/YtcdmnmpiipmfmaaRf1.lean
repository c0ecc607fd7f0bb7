/-
  The reference's inner functions over the row of its entries: tidy, at, without, Next, for no row (N) and for a row in a block (B). Condition: fewer than 2^20 entries.
-/
import Derived.Test.YtcdmnmpiipmfmaaPm6
namespace Go.Proofs.Ytcdmnmpiipmfmaa
open Go.Fm
abbrev oS (x : Cf) (now : Int) (v : Value) : AObj := .cells [.int .i64 x.lim, .int .i64 x.link, .int .i64 x.life, .int .i64 x.least, .int .i64 now, v] false
abbrev pR : Value := .pointer (some ⟨0, 0, none⟩)
abbrev hN (x : Cf) (now : Int) : AHeap := [oS x now sN]
abbrev hB (x : Cf) (now : Int) (E : List En) (n : Nat) : AHeap := [oS x now (sB 1 n), oR E]

theorem xa3 : aIsAgg Try.prog 3 = some false := by kernel_rfl
theorem xa35 : aIsAgg Try.prog 35 = some true := by kernel_rfl
theorem xs35 : aSize Try.prog 35 = some 16 := by kernel_rfl
theorem ixb {b n : Nat} {z : Int} (h0 : 0 ≤ z) (h1 : z < n) : aIndexAddr Try.prog 41 (sB b n) (.int .i64 z) = some (.pointer (some ⟨b, 0 + z.toNat * 18, none⟩)) := aIndexAddr_slice xu41 xs66 h0 h1
theorem ldu {l : List En} {z : Int} (h : z.toNat < l.length) : aLoad Try.prog 3 (.pointer (some ⟨0, 0 + z.toNat * 18 + 17, none⟩)) [.tcells (rwl rowE l) 66 (some 0)] = some (.int .i64 (l.getD z.toNat default).u) :=
  aLoad_rw1 (c := rowE) (m := 18) (i := z.toNat) (k := 17) (d := default) rowE_len xa3 rfl h (by omega) (by omega) rfl
theorem ldm {l : List En} {z : Int} (h : z.toNat < l.length) : aLoad Try.prog 3 (.pointer (some ⟨0, 0 + z.toNat * 18 + 16, none⟩)) [.tcells (rwl rowE l) 66 (some 0)] = some (.int .i64 (l.getD z.toNat default).m) :=
  aLoad_rw1 (c := rowE) (m := 18) (i := z.toNat) (k := 16) (d := default) rowE_len xa3 rfl h (by omega) (by omega) rfl
theorem ldd {l : List En} {z : Int} (h : z.toNat < l.length) : aLoad Try.prog 35 (.pointer (some ⟨0, 0 + z.toNat * 18, none⟩)) [.tcells (rwl rowE l) 66 (some 0)] = some (.agg ⟨rowA (l.getD z.toNat default).d⟩) :=
  aLoad_rw (c := rowE) (m := 18) (n := 16) (k := 0) (i := z.toNat) rowE_len xa35 xs35 rfl h (by omega) (by omega) rfl
theorem eqD (a b : Operand) (D : Ad) (e : En) : aBin2 Try.prog .eql 35 a b (.agg ⟨rowA e.d⟩) (.agg ⟨rowA D⟩) = some (.bool (isD D e)) := by
  have h := eq_ints (P := Try.prog) (d := 9998) (k := .u8) xu35 xu5 xz5 xg5 (l := e.d.l) (l' := D.l) rfl rfl
  have e2 : decide (e.d.l = D.l) = isD D e := by
    unfold isD
    exact decide_eq_decide.2 ⟨fun h => Ad.ext h, fun h => by rw [h]⟩
  rw [e2] at h
  exact aBin2_eql_agg (by kernel_rfl) (by kernel_rfl) (by kernel_rfl) h
theorem ro_s {i : Nat → Option Nat} {x : Cf} {now : Int} {v v' : Value} (h : RV i v v') : RO i (oS x now v) (oS x now v') :=
  .cells false (.cons (.int _ _) (.cons (.int _ _) (.cons (.int _ _) (.cons (.int _ _) (.cons (.int _ _) (.cons h .nil))))))
theorem ro_r {i : Nat → Option Nat} (r : List En) : RO i (oR r) (oR r) := ro_rw rowE_flat _ _ _

/-! ## tidy -/

theorem take_ix {E : List En} {z : Int} (h0 : 0 ≤ z) (h1 : z < E.length) : E.take (z + 1).toNat = E.take z.toNat ++ [E.getD z.toNat default] := by
  rw [show (z + 1).toNat = z.toNat + 1 by omega, List.take_add_one, List.getD_eq_getElem?_getD, List.getElem?_eq_getElem (show z.toNat < E.length by omega)]
  rfl
def iU (E : List En) (n : Nat) (t : Int) (p : List En × Int) : Prop := 0 ≤ p.2 ∧ p.2 ≤ n ∧ p.1 = tidyE t (E.take p.2.toNat)
def iP (E : List En) (n : Nat) (D : Ad) (p : Int) : Prop := 0 ≤ p ∧ p ≤ n ∧ ∀ e ∈ E.take p.toNat, isD D e = false
/-- a row but one -/
def wo (E : List En) (k : Int) : List En := E.take k.toNat ++ E.drop (k.toNat + 1)
def iV (E : List En) (n : Nat) (k : Int) (p : List En × Int) : Prop := 0 ≤ p.2 ∧ p.2 ≤ n ∧ p.1 = if p.2 ≤ k then E.take p.2.toNat else wo (E.take p.2.toNat) k
def iZ (E : List En) (n : Nat) (p : Int × Int) : Prop := 0 ≤ p.2 ∧ p.2 ≤ n ∧ (p.2 = 0 → p.1 = 0) ∧ (0 < p.2 → (∃ e ∈ E.take p.2.toNat, e.u = p.1) ∧ ∀ e ∈ E.take p.2.toNat, p.1 ≤ e.u)
def qU0 (x : Cf) (now : Int) (E : List En) (n : Nat) (t : Int) (p : List En × Int) : Prop × St := (iU E n t p ∧ p.1 = [], ⟨[(5, .int .i64 p.2), (4, sN), (0, pR), (1, .int .i64 t)], [], hB x now E n, .norm⟩)
def qU1 (x : Cf) (now : Int) (E : List En) (n : Nat) (t : Int) (p : List En × Int) : Prop × St := (iU E n t p ∧ p.1 ≠ [], ⟨[(5, .int .i64 p.2), (4, sB 2 p.1.length), (0, pR), (1, .int .i64 t)], [], [oS x now (sB 1 n), oR E, oR p.1], .norm⟩)
def mU (_x : Cf) (_now : Int) (_E : List En) (n : Nat) (_t : Int) (p : List En × Int) : Nat := (n - p.2).toNat
def qP (x : Cf) (now : Int) (E : List En) (n : Nat) (D : Ad) (p : Int) : Prop × St := (iP E n D p, ⟨[(5, .int .i64 p), (4, .int .i64 0), (3, .pointer (some ⟨2, 0, none⟩)), (0, pR), (1, .agg ⟨rowA D⟩)], [], [oS x now (sB 1 n), oR E, .cells (rowA D) false], .norm⟩)
def mP (_x : Cf) (_now : Int) (_E : List En) (n : Nat) (_D : Ad) (p : Int) : Nat := (n - p).toNat
def qV0 (x : Cf) (now : Int) (E : List En) (n : Nat) (k : Int) (p : List En × Int) : Prop × St := (iV E n k p ∧ p.1 = [], ⟨[(5, .int .i64 p.2), (4, sN), (0, pR), (1, .int .i64 k)], [], hB x now E n, .norm⟩)
def qV1 (x : Cf) (now : Int) (E : List En) (n : Nat) (k : Int) (p : List En × Int) : Prop × St := (iV E n k p ∧ p.1 ≠ [], ⟨[(5, .int .i64 p.2), (4, sB 2 p.1.length), (0, pR), (1, .int .i64 k)], [], [oS x now (sB 1 n), oR E, oR p.1], .norm⟩)
def mV (_x : Cf) (_now : Int) (_E : List En) (n : Nat) (_k : Int) (p : List En × Int) : Nat := (n - p.2).toNat
def qZ (x : Cf) (now : Int) (E : List En) (n : Nat) (p : Int × Int) : Prop × St := (iZ E n p, ⟨[(5, .int .i64 p.2), (4, .int .i64 p.1), (3, .bool false), (2, .int .i64 0), (0, pR)], [], hB x now E n, .norm⟩)
def mZ (_x : Cf) (_now : Int) (_E : List En) (n : Nat) (p : Int × Int) : Nat := (n - p.2).toNat

section
variable {E : List En} {n : Nat} {t : Int} {D : Ad}
theorem U_first : iU E n t ([], 0) := ⟨Int.le_refl _, Int.natCast_nonneg n, rfl⟩
theorem U_keep {p : List En × Int} (hl : E.length = n) (h : iU E n t p) (hp : p.2 < n) (hc : t < (E.getD p.2.toNat default).u) : iU E n t (p.1 ++ [E.getD p.2.toNat default], p.2 + 1) := by
  obtain ⟨h1, h2, h3⟩ := h
  refine ⟨by show 0 ≤ p.2 + 1; omega, by show p.2 + 1 ≤ n; omega, ?_⟩
  show _ = tidyE t (E.take (p.2 + 1).toNat)
  rw [take_ix h1 (by omega), tidyE, List.filter_append, h3, tidyE]
  congr 1
  rw [List.filter_cons_of_pos (by simpa using hc)]; rfl
theorem U_drop {p : List En × Int} (hl : E.length = n) (h : iU E n t p) (hp : p.2 < n) (hc : ¬ t < (E.getD p.2.toNat default).u) : iU E n t (p.1, p.2 + 1) := by
  obtain ⟨h1, h2, h3⟩ := h
  refine ⟨by show 0 ≤ p.2 + 1; omega, by show p.2 + 1 ≤ n; omega, ?_⟩
  show p.1 = tidyE t (E.take (p.2 + 1).toNat)
  rw [take_ix h1 (by omega), tidyE, List.filter_append, h3, tidyE, List.filter_cons_of_neg (by simpa using hc)]
  simp
theorem U_done {p : List En × Int} (hl : E.length = n) (h : iU E n t p) (hp : ¬ p.2 < n) : p.1 = tidyE t E := by
  obtain ⟨h1, h2, h3⟩ := h
  rw [h3, List.take_of_length_le (by omega)]
theorem U_len {p : List En × Int} (hl : E.length = n) (h : iU E n t p) : p.1.length ≤ n := by
  rw [h.2.2]
  refine Nat.le_trans tidy_len ?_
  rw [List.length_take]; omega
end

section
variable {E : List En} {n : Nat} {k : Int} {D : Ad}
theorem P_first : iP E n D 0 := ⟨Int.le_refl _, Int.natCast_nonneg n, fun e he => by simp at he⟩
theorem P_step {p : Int} (hl : E.length = n) (h : iP E n D p) (hp : p < n) (hc : isD D (E.getD p.toNat default) = false) : iP E n D (p + 1) := by
  obtain ⟨h1, h2, h3⟩ := h
  refine ⟨by omega, by omega, fun e he => ?_⟩
  rw [take_ix h1 (by omega)] at he
  rcases List.mem_append.1 he with he | he
  · exact h3 e he
  · rw [List.mem_singleton] at he; rw [he]; exact hc
/-- the place of an address's entry -/
noncomputable def atM (D : Ad) (E : List En) : Int := match E.findIdx? (isD D) with
  | some i => i
  | none => -1
theorem P_found {p : Int} (hl : E.length = n) (h : iP E n D p) (hp : p < n) (hc : isD D (E.getD p.toNat default) = true) : p = atM D E := by
  obtain ⟨h1, h2, h3⟩ := h
  have hd : p.toNat < E.length := by omega
  have e1 : E.findIdx? (isD D) = some p.toNat := by
    rw [List.findIdx?_eq_some_iff_getElem]
    refine ⟨hd, ?_, fun j hj => ?_⟩
    · rw [List.getD_eq_getElem?_getD, List.getElem?_eq_getElem hd] at hc; exact hc
    · have := h3 (E[j]'(by omega)) (List.mem_of_getElem? (i := j) (by rw [List.getElem?_take, if_pos hj, List.getElem?_eq_getElem]))
      rw [this]; decide
  unfold atM
  rw [e1]; show p = ((p.toNat : Nat) : Int); omega
theorem P_none {p : Int} (hl : E.length = n) (h : iP E n D p) (hp : ¬ p < n) : -1 = atM D E := by
  obtain ⟨h1, h2, h3⟩ := h
  rw [List.take_of_length_le (by omega)] at h3
  have e1 : E.findIdx? (isD D) = none := by rw [List.findIdx?_eq_none_iff]; exact h3
  unfold atM; rw [e1]
theorem V_first (hk : 0 ≤ k) : iV E n k ([], 0) := ⟨Int.le_refl _, Int.natCast_nonneg n, by show [] = if 0 ≤ k then _ else _; rw [if_pos hk]; rfl⟩
theorem V_keep {p : List En × Int} (hl : E.length = n) (hk : 0 ≤ k) (h : iV E n k p) (hp : p.2 < n) (hc : p.2 ≠ k) : iV E n k (p.1 ++ [E.getD p.2.toNat default], p.2 + 1) := by
  obtain ⟨h1, h2, h3⟩ := h
  refine ⟨by show 0 ≤ p.2 + 1; omega, by show p.2 + 1 ≤ n; omega, ?_⟩
  show _ = if p.2 + 1 ≤ k then _ else _
  by_cases hle : p.2 ≤ k
  · rw [if_pos (by omega), h3, if_pos hle]
    show _ = E.take (p.2 + 1).toNat
    rw [take_ix h1 (by omega)]
  · rw [if_neg (by omega), h3, if_neg hle]
    show _ = wo (E.take (p.2 + 1).toNat) k
    rw [take_ix h1 (by omega)]
    unfold wo
    have hlen : (E.take p.2.toNat).length = p.2.toNat := by rw [List.length_take]; omega
    rw [List.take_append_of_le_length (by omega), List.drop_append_of_le_length (by omega), List.append_assoc]
theorem V_skip {p : List En × Int} (hl : E.length = n) (h : iV E n k p) (hp : p.2 < n) (hc : p.2 = k) : iV E n k (p.1, p.2 + 1) := by
  obtain ⟨h1, h2, h3⟩ := h
  refine ⟨by show 0 ≤ p.2 + 1; omega, by show p.2 + 1 ≤ n; omega, ?_⟩
  show p.1 = if p.2 + 1 ≤ k then _ else _
  rw [if_neg (by omega), h3, if_pos (by omega)]
  show _ = wo (E.take (p.2 + 1).toNat) k
  rw [take_ix h1 (by omega)]
  unfold wo
  have hlen : (E.take p.2.toNat).length = p.2.toNat := by rw [List.length_take]; omega
  rw [← hc, List.take_left' hlen, List.drop_of_length_le (by rw [List.length_append, hlen]; simp), List.append_nil]
theorem V_done {p : List En × Int} (hl : E.length = n) (hk : k < n) (h : iV E n k p) (hp : ¬ p.2 < n) : p.1 = wo E k := by
  obtain ⟨h1, h2, h3⟩ := h
  rw [h3, if_neg (by omega), List.take_of_length_le (by omega)]
theorem wo_len : (wo E k).length ≤ E.length := by
  unfold wo
  rw [List.length_append, List.length_take, List.length_drop]; omega
theorem V_len {p : List En × Int} (hl : E.length = n) (h : iV E n k p) : p.1.length ≤ n := by
  rw [h.2.2]
  have a : (E.take p.2.toNat).length ≤ n := by rw [List.length_take]; omega
  split
  · exact a
  · exact Nat.le_trans wo_len a
theorem Z_first : iZ E n (0, 0) := ⟨Int.le_refl _, Int.natCast_nonneg n, fun _ => rfl, fun h => absurd (show (0 : Int) < 0 from h) (by decide)⟩
theorem Z_zero {p : Int × Int} (hl : E.length = n) (h : iZ E n p) (hp : p.2 < n) (hc : p.2 = 0) : iZ E n ((E.getD p.2.toNat default).u, p.2 + 1) := by
  obtain ⟨h1, h2, h3, h4⟩ := h
  refine ⟨by show 0 ≤ p.2 + 1; omega, by show p.2 + 1 ≤ n; omega, fun h => absurd (show p.2 + 1 = 0 from h) (by omega), fun _ => ?_⟩
  show (∃ e ∈ E.take (p.2 + 1).toNat, _) ∧ ∀ e ∈ E.take (p.2 + 1).toNat, _
  rw [take_ix h1 (by omega), show E.take p.2.toNat = [] by rw [hc]; rfl, List.nil_append]
  exact ⟨⟨_, List.mem_singleton.2 rfl, rfl⟩, fun e he => by rw [List.mem_singleton] at he; rw [he]; exact Int.le_refl _⟩
theorem Z_less {p : Int × Int} (hl : E.length = n) (h : iZ E n p) (hp : p.2 < n) (hz : p.2 ≠ 0) (hc : (E.getD p.2.toNat default).u < p.1) : iZ E n ((E.getD p.2.toNat default).u, p.2 + 1) := by
  obtain ⟨h1, h2, h3, h4⟩ := h
  obtain ⟨g1, g2⟩ := h4 (by omega)
  refine ⟨by show 0 ≤ p.2 + 1; omega, by show p.2 + 1 ≤ n; omega, fun h => absurd (show p.2 + 1 = 0 from h) (by omega), fun _ => ?_⟩
  show (∃ e ∈ E.take (p.2 + 1).toNat, _) ∧ ∀ e ∈ E.take (p.2 + 1).toNat, _
  rw [take_ix h1 (by omega)]
  refine ⟨⟨_, List.mem_append.2 (.inr (List.mem_singleton.2 rfl)), rfl⟩, fun e he => ?_⟩
  show (E.getD p.2.toNat default).u ≤ e.u
  rcases List.mem_append.1 he with he | he
  · have := g2 e he; omega
  · rw [List.mem_singleton] at he; rw [he]; exact Int.le_refl _
theorem Z_more {p : Int × Int} (hl : E.length = n) (h : iZ E n p) (hp : p.2 < n) (hz : p.2 ≠ 0) (hc : ¬ (E.getD p.2.toNat default).u < p.1) : iZ E n (p.1, p.2 + 1) := by
  obtain ⟨h1, h2, h3, h4⟩ := h
  obtain ⟨⟨y, g1, g3⟩, g2⟩ := h4 (by omega)
  refine ⟨by show 0 ≤ p.2 + 1; omega, by show p.2 + 1 ≤ n; omega, fun h => absurd (show p.2 + 1 = 0 from h) (by omega), fun _ => ?_⟩
  show (∃ e ∈ E.take (p.2 + 1).toNat, _) ∧ ∀ e ∈ E.take (p.2 + 1).toNat, _
  rw [take_ix h1 (by omega)]
  refine ⟨⟨y, List.mem_append.2 (.inl g1), g3⟩, fun e he => ?_⟩
  show p.1 ≤ e.u
  rcases List.mem_append.1 he with he | he
  · exact g2 e he
  · rw [List.mem_singleton] at he; rw [he]; omega
theorem leastE_of {m : Int} (h1 : ∃ e ∈ E, e.u = m) (h2 : ∀ e ∈ E, m ≤ e.u) : m = leastE E := by
  obtain ⟨e, a1, a2⟩ := h1
  have hne : E ≠ [] := fun h => by rw [h] at a1; cases a1
  obtain ⟨⟨y, b1, b2⟩, b3⟩ := leastE_mem hne
  have := h2 y b1
  have := b3 e a1
  omega
theorem Z_done {p : Int × Int} (hl : E.length = n) (hn : 1 ≤ n) (h : iZ E n p) (hp : ¬ p.2 < n) : p.1 = leastE E := by
  obtain ⟨h1, h2, h3, h4⟩ := h
  obtain ⟨g1, g2⟩ := h4 (by omega)
  rw [List.take_of_length_le (by omega)] at g1 g2
  exact leastE_of g1 g2
end
theorem run_tidyN (x : Cf) (now : Int) (t : Int) (Q : Res → AHeap → Prop) : (Q (.ret (.tuple ⟨[]⟩)) [oS x now sN]) =
    runS Try.prog [] false [] 0 (SpecC Try.prog []) 20 37 [pR, .int .i64 t] (hN x now) .norm (.skip 2 (.unr 60 (.go))) (fun r _ h _ => Q r h) := by kernel_rfl
theorem run_tidyB (x : Cf) (now : Int) (E : List En) (n : Nat) (t : Int) (Q : Res → AHeap → Prop) : (((someN [] 2 (fun _ => True) ⟨[(5, (iv 0)), (4, sN), (0, (pp 0)), (1, (iv t))], [], [oS x now (sB 1 n), oR E], .norm⟩ [(qU0 x now E n t), (qU1 x now E n t)]) ∧
(∀ i1, (qU0 x now E n t i1).fst →
∀ z2 : Int, z2 = (((n : Nat) : Int)) →
(((decide (i1.snd < z2)) = true →
((aIndexAddr Try.prog 41 (sB 1 n) (iv i1.snd) = some (.pointer (some ⟨1, (0 + i1.snd.toNat * 18), none⟩))) ∧
((∃ z3 : Int, aLoad Try.prog 3 (.pointer (some ⟨0, (0 + i1.snd.toNat * 18 + 17), none⟩)) (hp E) = some (iv z3)) ∧
∀ z3 : Int, aLoad Try.prog 3 (.pointer (some ⟨0, (0 + i1.snd.toNat * 18 + 17), none⟩)) (hp E) = some (iv z3) →
(((decide (t < z3)) = true →
((aIndexAddr Try.prog 41 (sB 1 n) (iv i1.snd) = some (.pointer (some ⟨1, (0 + i1.snd.toNat * 18), none⟩))) ∧
(LD E i1.snd ∧
∀ z4 : Int, z4 = (IntKind.i64.wrap (i1.snd + 1)) →
(someN [] 2 (fun a' => (mU x now E n t) a' < (mU x now E n t) i1) ⟨[(5, (iv z4)), (4, (sB 3 1)), (0, (pp 0)), (1, (iv t))], [], [oS x now (sB 1 n), oR E, .tcells (rowE (gx E i1.snd)) 66 (some 0), .tcells (rowE (gx E i1.snd)) 66 (some 0)], .norm⟩ [(qU0 x now E n t), (qU1 x now E n t)])))) ∧
((decide (t < z3)) = false →
∀ z4 : Int, z4 = (IntKind.i64.wrap (i1.snd + 1)) →
(someN [] 2 (fun a' => (mU x now E n t) a' < (mU x now E n t) i1) ⟨[(5, (iv z4)), (4, sN), (0, (pp 0)), (1, (iv t))], [], [oS x now (sB 1 n), oR E], .norm⟩ [(qU0 x now E n t), (qU1 x now E n t)])))))) ∧
((decide (i1.snd < z2)) = false →
 Q (.ret (.tuple ⟨[]⟩)) [oS x now sN, oR E]))) ∧
(∀ i1, (qU1 x now E n t i1).fst →
∀ z2 : Int, z2 = (((n : Nat) : Int)) →
(((decide (i1.snd < z2)) = true →
((aIndexAddr Try.prog 41 (sB 1 n) (iv i1.snd) = some (.pointer (some ⟨1, (0 + i1.snd.toNat * 18), none⟩))) ∧
((∃ z3 : Int, aLoad Try.prog 3 (.pointer (some ⟨0, (0 + i1.snd.toNat * 18 + 17), none⟩)) (hp E) = some (iv z3)) ∧
∀ z3 : Int, aLoad Try.prog 3 (.pointer (some ⟨0, (0 + i1.snd.toNat * 18 + 17), none⟩)) (hp E) = some (iv z3) →
(((decide (t < z3)) = true →
((aIndexAddr Try.prog 41 (sB 1 n) (iv i1.snd) = some (.pointer (some ⟨1, (0 + i1.snd.toNat * 18), none⟩))) ∧
(LD E i1.snd ∧
((aAppend Try.prog 41 41 (sB 2 i1.fst.length) (.slice (some ⟨3, 0, none⟩) 1 1) [oS x now (sB 1 n), oR E, oR i1.fst, .tcells (rowE (gx E i1.snd)) 66 (some 0)] = some ((sB 4 (i1.fst.length + 1)), ([oS x now (sB 1 n), oR E, .dead, .tcells (rowE (gx E i1.snd)) 66 (some 0), oR (i1.fst ++ [E.getD i1.snd.toNat Inhabited.default])] : AHeap))) ∧
∀ z4 : Int, z4 = (IntKind.i64.wrap (i1.snd + 1)) →
(someN [] 2 (fun a' => (mU x now E n t) a' < (mU x now E n t) i1) ⟨[(5, (iv z4)), (4, (sB 4 (i1.fst.length + 1))), (0, (pp 0)), (1, (iv t))], [], [oS x now (sB 1 n), oR E, .dead, .tcells (rowE (gx E i1.snd)) 66 (some 0), oR (i1.fst ++ [E.getD i1.snd.toNat Inhabited.default])], .norm⟩ [(qU0 x now E n t), (qU1 x now E n t)]))))) ∧
((decide (t < z3)) = false →
∀ z4 : Int, z4 = (IntKind.i64.wrap (i1.snd + 1)) →
(someN [] 2 (fun a' => (mU x now E n t) a' < (mU x now E n t) i1) ⟨[(5, (iv z4)), (4, (sB 2 i1.fst.length)), (0, (pp 0)), (1, (iv t))], [], [oS x now (sB 1 n), oR E, oR i1.fst], .norm⟩ [(qU0 x now E n t), (qU1 x now E n t)])))))) ∧
((decide (i1.snd < z2)) = false →
 Q (.ret (.tuple ⟨[]⟩)) [oS x now (sB 2 i1.fst.length), oR E, oR i1.fst]))))) =
    runS Try.prog [] false [] 0 (SpecC Try.prog []) 20 37 [pR, .int .i64 t] (hB x now E n) .norm (.skip 2 (.invN [5, 4, 0, 1] _ (mU x now E n t) [(qU0 x now E n t), (qU1 x now E n t)] (fun k => match k with | 0 => fun i1 => .skip 5 (.all (fun _z2 => .skip 0 (.ask (.skip 7 (.val (.pointer (some ⟨1, (0 + i1.snd.toNat * 18), none⟩)) (.skip 1 (.gen (Int) (fun x => .int .i64 x) fun _z3 => .skip 0 (.ask (.skip 7 (.val (.pointer (some ⟨1, (0 + i1.snd.toNat * 18), none⟩)) (.skip 0 (.val (rv (gx E i1.snd)) (.skip 4 (.all (fun _z4 => .go))))))) (.skip 2 (.all (fun _z4 => .go)))))))) (.go)))) | _ => fun i1 => .skip 5 (.all (fun _z2 => .skip 0 (.ask (.skip 7 (.val (.pointer (some ⟨1, (0 + i1.snd.toNat * 18), none⟩)) (.skip 1 (.gen (Int) (fun x => .int .i64 x) fun _z3 => .skip 0 (.ask (.skip 7 (.val (.pointer (some ⟨1, (0 + i1.snd.toNat * 18), none⟩)) (.skip 0 (.val (rv (gx E i1.snd)) (.skip 1 (.put (sB 4 (i1.fst.length + 1)) [oS x now (sB 1 n), oR E, .dead, .tcells (rowE (gx E i1.snd)) 66 (some 0), oR (i1.fst ++ [E.getD i1.snd.toNat Inhabited.default])] (.skip 2 (.all (fun _z4 => .go))))))))) (.skip 2 (.all (fun _z4 => .go)))))))) (.go))))))) (fun r _ h _ => Q r h) := by kernel_rfl

theorem gI {a b : Int} (h : some (Value.int .i64 a) = some (.int .i64 b)) : a = b := by injection h with h; injection h
/-- a row in the place of another one -/
def PRow (x : Cf) (now : Int) (E E' : List En) (r : Res) (h' : AHeap) : Prop := r = .ret unitV ∧ ((E' = [] ∧ h' = [oS x now sN, oR E]) ∨ (E' ≠ [] ∧ h' = [oS x now (sB 2 E'.length), oR E, oR E']))
theorem tidyN_ok {x : Cf} {now t : Int} : Fm.Spec Try.prog [] 37 [pR, .int .i64 t] (hN x now) fun r h' => r = .ret unitV ∧ h' = hN x now := spec_T (run_tidyN x now t _) ⟨rfl, rfl⟩
theorem tidyB_ok {x : Cf} {now t : Int} {E : List En} {n : Nat} (hl : E.length = n) (hb : n < 2 ^ 20) : Fm.Spec Try.prog [] 37 [pR, .int .i64 t] (hB x now E n) (PRow x now E (tidyE t E)) := by
  refine Spec.re (spec_T (run_tidyB x now E n t _) ?_)
  refine ⟨?_, ?_⟩
  exact .inl ⟨([], 0), ⟨U_first, rfl⟩, trivial, Gc.same⟩
  refine ⟨?_, ?_⟩
  intro i1 hi1
  replace hi1 : iU E n t i1 ∧ i1.1 = [] := hi1
  obtain ⟨fi11, fi12, _⟩ := id hi1.1
  intro z2 hz2
  subst hz2
  refine ⟨fun h0 => ?_, fun h0 => ?_⟩
  replace h0 := of_decide_eq_true h0
  refine ⟨ixb (by omega) (by omega), ?_⟩
  refine ⟨⟨_, ldu (by omega)⟩, ?_⟩
  intro z3 hz3
  have ez3 := gI (hz3.symm.trans (ldu (by omega)))
  subst ez3
  refine ⟨fun h1 => ?_, fun h1 => ?_⟩
  replace h1 := of_decide_eq_true h1
  refine ⟨ixb (by omega) (by omega), ?_⟩
  refine ⟨lda (by omega), ?_⟩
  intro z4 hz4
  rw [wr (by omega) (by omega)] at hz4
  subst hz4
  refine .inr ⟨(i1.1 ++ [E.getD i1.2.toNat default], i1.2 + 1), ⟨U_keep hl hi1.1 h0 h1, by simp⟩, by show (n - (i1.2 + 1)).toNat < (n - i1.2).toNat; omega, ?_⟩
  have e0 : i1.1 = [] := hi1.2
  refine Gc.ren [0, 1, 3] (by decide) (by decide) (by decide) (by decide) ⟨⟨_, rfl, ro_s (.slice _ _ _ _ rfl)⟩, ⟨_, rfl, ro_r _⟩, ⟨_, rfl, by rw [e0]; exact ro_flat rfl⟩, trivial⟩ ⟨⟨_, rfl, .int _ _⟩, ⟨_, rfl, by rw [e0]; exact .slice _ _ _ _ rfl⟩, ⟨_, rfl, .ptr _ _ rfl⟩, ⟨_, rfl, .int _ _⟩, trivial⟩ rfl
  replace h1 := of_decide_eq_false h1
  intro z4 hz4
  rw [wr (by omega) (by omega)] at hz4
  subst hz4
  exact .inl ⟨(i1.1, i1.2 + 1), ⟨U_drop hl hi1.1 h0 h1, hi1.2⟩, by show (n - (i1.2 + 1)).toNat < (n - i1.2).toNat; omega, Gc.same⟩
  replace h0 := of_decide_eq_false h0
  have hd := U_done hl hi1.1 h0
  have e0 : tidyE t E = [] := hd.symm.trans hi1.2
  exact ⟨[0, 1], _, unitV, [oS x now sN, oR E], rfl, by decide, rfl, Nat.le_refl _, ⟨⟨_, rfl, ro_s (.snil _ _)⟩, ⟨_, rfl, ro_r _⟩, trivial⟩, rv_flat rfl, rfl, .inl ⟨e0, rfl⟩⟩
  intro i1 hi1
  replace hi1 : iU E n t i1 ∧ i1.1 ≠ [] := hi1
  obtain ⟨fi11, fi12, _⟩ := id hi1.1
  intro z2 hz2
  subst hz2
  refine ⟨fun h0 => ?_, fun h0 => ?_⟩
  replace h0 := of_decide_eq_true h0
  refine ⟨ixb (by omega) (by omega), ?_⟩
  refine ⟨⟨_, ldu (by omega)⟩, ?_⟩
  intro z3 hz3
  have ez3 := gI (hz3.symm.trans (ldu (by omega)))
  subst ez3
  refine ⟨fun h1 => ?_, fun h1 => ?_⟩
  replace h1 := of_decide_eq_true h1
  refine ⟨ixb (by omega) (by omega), ?_⟩
  refine ⟨lda (by omega), ?_⟩
  have hlen := U_len hl hi1.1
  refine ⟨app_row rfl rfl (by omega), ?_⟩
  intro z4 hz4
  rw [wr (by omega) (by omega)] at hz4
  subst hz4
  refine .inr ⟨(i1.1 ++ [E.getD i1.2.toNat default], i1.2 + 1), ⟨U_keep hl hi1.1 h0 h1, by simp⟩, by show (n - (i1.2 + 1)).toNat < (n - i1.2).toNat; omega, ?_⟩
  have hl2 : (i1.1 ++ [E.getD i1.2.toNat default]).length = i1.1.length + 1 := by simp
  refine Gc.ren [0, 1, 4] (by decide) (by decide) (by decide) (by decide) ⟨⟨_, rfl, ro_s (.slice _ _ _ _ rfl)⟩, ⟨_, rfl, ro_r _⟩, ⟨_, rfl, ro_r _⟩, trivial⟩ ⟨⟨_, rfl, .int _ _⟩, ⟨_, rfl, by rw [hl2]; exact .slice _ _ _ _ rfl⟩, ⟨_, rfl, .ptr _ _ rfl⟩, ⟨_, rfl, .int _ _⟩, trivial⟩ rfl
  replace h1 := of_decide_eq_false h1
  intro z4 hz4
  rw [wr (by omega) (by omega)] at hz4
  subst hz4
  exact .inr ⟨(i1.1, i1.2 + 1), ⟨U_drop hl hi1.1 h0 h1, hi1.2⟩, by show (n - (i1.2 + 1)).toNat < (n - i1.2).toNat; omega, Gc.same⟩
  replace h0 := of_decide_eq_false h0
  have hd := U_done hl hi1.1 h0
  have e0 : tidyE t E ≠ [] := fun e => hi1.2 (hd.trans e)
  rw [hd]
  exact ⟨[0, 1, 2], _, unitV, [oS x now (sB 2 (tidyE t E).length), oR E, oR (tidyE t E)], rfl, by decide, rfl, Nat.le_succ _, ⟨⟨_, rfl, ro_s (.slice _ _ _ _ rfl)⟩, ⟨_, rfl, ro_r _⟩, ⟨_, rfl, ro_r _⟩, trivial⟩, rv_flat rfl, rfl, .inr ⟨e0, rfl⟩⟩
theorem run_woB (x : Cf) (now : Int) (E : List En) (n : Nat) (k : Int) (Q : Res → AHeap → Prop) : (((someN [] 2 (fun _ => True) ⟨[(5, (iv 0)), (4, sN), (0, (pp 0)), (1, (iv k))], [], [oS x now (sB 1 n), oR E], .norm⟩ [(qV0 x now E n k), (qV1 x now E n k)]) ∧
(∀ i1, (qV0 x now E n k i1).fst →
∀ z2 : Int, z2 = (((n : Nat) : Int)) →
(((decide (i1.snd < z2)) = true →
(((i1.snd != k) = true →
((aIndexAddr Try.prog 41 (sB 1 n) (iv i1.snd) = some (.pointer (some ⟨1, (0 + i1.snd.toNat * 18), none⟩))) ∧
(LD E i1.snd ∧
∀ z3 : Int, z3 = (IntKind.i64.wrap (i1.snd + 1)) →
(someN [] 2 (fun a' => (mV x now E n k) a' < (mV x now E n k) i1) ⟨[(5, (iv z3)), (4, (sB 3 1)), (0, (pp 0)), (1, (iv k))], [], [oS x now (sB 1 n), oR E, .tcells (rowE (gx E i1.snd)) 66 (some 0), .tcells (rowE (gx E i1.snd)) 66 (some 0)], .norm⟩ [(qV0 x now E n k), (qV1 x now E n k)])))) ∧
((i1.snd != k) = false →
∀ z3 : Int, z3 = (IntKind.i64.wrap (i1.snd + 1)) →
(someN [] 2 (fun a' => (mV x now E n k) a' < (mV x now E n k) i1) ⟨[(5, (iv z3)), (4, sN), (0, (pp 0)), (1, (iv k))], [], [oS x now (sB 1 n), oR E], .norm⟩ [(qV0 x now E n k), (qV1 x now E n k)])))) ∧
((decide (i1.snd < z2)) = false →
 Q (.ret (.tuple ⟨[]⟩)) [oS x now sN, oR E]))) ∧
(∀ i1, (qV1 x now E n k i1).fst →
∀ z2 : Int, z2 = (((n : Nat) : Int)) →
(((decide (i1.snd < z2)) = true →
(((i1.snd != k) = true →
((aIndexAddr Try.prog 41 (sB 1 n) (iv i1.snd) = some (.pointer (some ⟨1, (0 + i1.snd.toNat * 18), none⟩))) ∧
(LD E i1.snd ∧
((aAppend Try.prog 41 41 (sB 2 i1.fst.length) (.slice (some ⟨3, 0, none⟩) 1 1) [oS x now (sB 1 n), oR E, oR i1.fst, .tcells (rowE (gx E i1.snd)) 66 (some 0)] = some ((sB 4 (i1.fst.length + 1)), ([oS x now (sB 1 n), oR E, .dead, .tcells (rowE (gx E i1.snd)) 66 (some 0), oR (i1.fst ++ [E.getD i1.snd.toNat Inhabited.default])] : AHeap))) ∧
∀ z3 : Int, z3 = (IntKind.i64.wrap (i1.snd + 1)) →
(someN [] 2 (fun a' => (mV x now E n k) a' < (mV x now E n k) i1) ⟨[(5, (iv z3)), (4, (sB 4 (i1.fst.length + 1))), (0, (pp 0)), (1, (iv k))], [], [oS x now (sB 1 n), oR E, .dead, .tcells (rowE (gx E i1.snd)) 66 (some 0), oR (i1.fst ++ [E.getD i1.snd.toNat Inhabited.default])], .norm⟩ [(qV0 x now E n k), (qV1 x now E n k)]))))) ∧
((i1.snd != k) = false →
∀ z3 : Int, z3 = (IntKind.i64.wrap (i1.snd + 1)) →
(someN [] 2 (fun a' => (mV x now E n k) a' < (mV x now E n k) i1) ⟨[(5, (iv z3)), (4, (sB 2 i1.fst.length)), (0, (pp 0)), (1, (iv k))], [], [oS x now (sB 1 n), oR E, oR i1.fst], .norm⟩ [(qV0 x now E n k), (qV1 x now E n k)])))) ∧
((decide (i1.snd < z2)) = false →
 Q (.ret (.tuple ⟨[]⟩)) [oS x now (sB 2 i1.fst.length), oR E, oR i1.fst]))))) =
    runS Try.prog [] false [] 0 (SpecC Try.prog []) 20 34 [pR, .int .i64 k] (hB x now E n) .norm (.skip 2 (.invN [5, 4, 0, 1] _ (mV x now E n k) [(qV0 x now E n k), (qV1 x now E n k)] (fun k => match k with | 0 => fun i1 => .skip 5 (.all (fun _z2 => .skip 0 (.ask (.skip 3 (.ask (.skip 7 (.val (.pointer (some ⟨1, (0 + i1.snd.toNat * 18), none⟩)) (.skip 0 (.val (rv (gx E i1.snd)) (.skip 4 (.all (fun _z3 => .go))))))) (.skip 2 (.all (fun _z3 => .go))))) (.go)))) | _ => fun i1 => .skip 5 (.all (fun _z2 => .skip 0 (.ask (.skip 3 (.ask (.skip 7 (.val (.pointer (some ⟨1, (0 + i1.snd.toNat * 18), none⟩)) (.skip 0 (.val (rv (gx E i1.snd)) (.skip 1 (.put (sB 4 (i1.fst.length + 1)) [oS x now (sB 1 n), oR E, .dead, .tcells (rowE (gx E i1.snd)) 66 (some 0), oR (i1.fst ++ [E.getD i1.snd.toNat Inhabited.default])] (.skip 2 (.all (fun _z3 => .go))))))))) (.skip 2 (.all (fun _z3 => .go))))) (.go))))))) (fun r _ h _ => Q r h) := by kernel_rfl

theorem neT {a b : Int} (h : (a != b) = true) : a ≠ b := by simpa using h
theorem neF {a b : Int} (h : (a != b) = false) : a = b := by simpa using h
theorem woB_ok {x : Cf} {now k : Int} {E : List En} {n : Nat} (hl : E.length = n) (hb : n < 2 ^ 20) (hk : 0 ≤ k) (hkn : k < n) : Fm.Spec Try.prog [] 34 [pR, .int .i64 k] (hB x now E n) (PRow x now E (wo E k)) := by
  refine Spec.re (spec_T (run_woB x now E n k _) ?_)
  refine ⟨?_, ?_⟩
  exact .inl ⟨([], 0), ⟨V_first hk, rfl⟩, trivial, Gc.same⟩
  refine ⟨?_, ?_⟩
  intro i1 hi1
  replace hi1 : iV E n k i1 ∧ i1.1 = [] := hi1
  obtain ⟨fi11, fi12, _⟩ := id hi1.1
  intro z2 hz2
  subst hz2
  refine ⟨fun h0 => ?_, fun h0 => ?_⟩
  replace h0 := of_decide_eq_true h0
  refine ⟨fun h1 => ?_, fun h1 => ?_⟩
  replace h1 := neT h1
  refine ⟨ixb (by omega) (by omega), ?_⟩
  refine ⟨lda (by omega), ?_⟩
  intro z3 hz3
  rw [wr (by omega) (by omega)] at hz3
  subst hz3
  refine .inr ⟨(i1.1 ++ [E.getD i1.2.toNat default], i1.2 + 1), ⟨V_keep hl hk hi1.1 h0 h1, by simp⟩, by show (n - (i1.2 + 1)).toNat < (n - i1.2).toNat; omega, ?_⟩
  have e0 : i1.1 = [] := hi1.2
  refine Gc.ren [0, 1, 3] (by decide) (by decide) (by decide) (by decide) ⟨⟨_, rfl, ro_s (.slice _ _ _ _ rfl)⟩, ⟨_, rfl, ro_r _⟩, ⟨_, rfl, by rw [e0]; exact ro_flat rfl⟩, trivial⟩ ⟨⟨_, rfl, .int _ _⟩, ⟨_, rfl, by rw [e0]; exact .slice _ _ _ _ rfl⟩, ⟨_, rfl, .ptr _ _ rfl⟩, ⟨_, rfl, .int _ _⟩, trivial⟩ rfl
  replace h1 := neF h1
  intro z3 hz3
  rw [wr (by omega) (by omega)] at hz3
  subst hz3
  exact .inl ⟨(i1.1, i1.2 + 1), ⟨V_skip hl hi1.1 h0 h1, hi1.2⟩, by show (n - (i1.2 + 1)).toNat < (n - i1.2).toNat; omega, Gc.same⟩
  replace h0 := of_decide_eq_false h0
  have hd := V_done hl hkn hi1.1 h0
  have e0 : wo E k = [] := hd.symm.trans hi1.2
  exact ⟨[0, 1], _, unitV, [oS x now sN, oR E], rfl, by decide, rfl, Nat.le_refl _, ⟨⟨_, rfl, ro_s (.snil _ _)⟩, ⟨_, rfl, ro_r _⟩, trivial⟩, rv_flat rfl, rfl, .inl ⟨e0, rfl⟩⟩
  intro i1 hi1
  replace hi1 : iV E n k i1 ∧ i1.1 ≠ [] := hi1
  obtain ⟨fi11, fi12, _⟩ := id hi1.1
  intro z2 hz2
  subst hz2
  refine ⟨fun h0 => ?_, fun h0 => ?_⟩
  replace h0 := of_decide_eq_true h0
  refine ⟨fun h1 => ?_, fun h1 => ?_⟩
  replace h1 := neT h1
  refine ⟨ixb (by omega) (by omega), ?_⟩
  refine ⟨lda (by omega), ?_⟩
  have hlen := V_len hl hi1.1
  refine ⟨app_row rfl rfl (by omega), ?_⟩
  intro z3 hz3
  rw [wr (by omega) (by omega)] at hz3
  subst hz3
  refine .inr ⟨(i1.1 ++ [E.getD i1.2.toNat default], i1.2 + 1), ⟨V_keep hl hk hi1.1 h0 h1, by simp⟩, by show (n - (i1.2 + 1)).toNat < (n - i1.2).toNat; omega, ?_⟩
  have hl2 : (i1.1 ++ [E.getD i1.2.toNat default]).length = i1.1.length + 1 := by simp
  refine Gc.ren [0, 1, 4] (by decide) (by decide) (by decide) (by decide) ⟨⟨_, rfl, ro_s (.slice _ _ _ _ rfl)⟩, ⟨_, rfl, ro_r _⟩, ⟨_, rfl, ro_r _⟩, trivial⟩ ⟨⟨_, rfl, .int _ _⟩, ⟨_, rfl, by rw [hl2]; exact .slice _ _ _ _ rfl⟩, ⟨_, rfl, .ptr _ _ rfl⟩, ⟨_, rfl, .int _ _⟩, trivial⟩ rfl
  replace h1 := neF h1
  intro z3 hz3
  rw [wr (by omega) (by omega)] at hz3
  subst hz3
  exact .inr ⟨(i1.1, i1.2 + 1), ⟨V_skip hl hi1.1 h0 h1, hi1.2⟩, by show (n - (i1.2 + 1)).toNat < (n - i1.2).toNat; omega, Gc.same⟩
  replace h0 := of_decide_eq_false h0
  have hd := V_done hl hkn hi1.1 h0
  have e0 : wo E k ≠ [] := fun e => hi1.2 (hd.trans e)
  rw [hd]
  exact ⟨[0, 1, 2], _, unitV, [oS x now (sB 2 (wo E k).length), oR E, oR (wo E k)], rfl, by decide, rfl, Nat.le_succ _, ⟨⟨_, rfl, ro_s (.slice _ _ _ _ rfl)⟩, ⟨_, rfl, ro_r _⟩, ⟨_, rfl, ro_r _⟩, trivial⟩, rv_flat rfl, rfl, .inr ⟨e0, rfl⟩⟩
theorem run_atN (x : Cf) (now : Int) (D : Ad) (Q : Res → AHeap → Prop) : (Q (.ret (iv (-1))) [oS x now sN, oA D]) =
    runS Try.prog [] false [] 0 (SpecC Try.prog []) 20 33 [pR, .agg ⟨rowA D⟩] (hN x now) .norm (.skip 3 (.unr 60 (.go))) (fun r _ h _ => Q r h) := by kernel_rfl
theorem run_atB (x : Cf) (now : Int) (E : List En) (n : Nat) (D : Ad) (Q : Res → AHeap → Prop) : (((someN [] 2 (fun _ => True) ⟨[(5, (iv 0)), (4, (iv 0)), (3, (pp 2)), (0, (pp 0)), (1, (.agg ⟨(rowA D)⟩))], [], [oS x now (sB 1 n), oR E, oA D], .norm⟩ [(qP x now E n D)]) ∧
(∀ i1, (qP x now E n D i1).fst →
∀ z2 : Int, z2 = (((n : Nat) : Int)) →
(((decide (i1 < z2)) = true →
((aIndexAddr Try.prog 41 (sB 1 n) (iv i1) = some (.pointer (some ⟨1, (0 + i1.toNat * 18), none⟩))) ∧
((aLoad Try.prog 35 (pt i1) (hp E) = some (.agg ⟨(rowA (gx E i1).d)⟩)) ∧
((aBin2 Try.prog BinOp.eql 35 (Operand.tmp 22) (Operand.tmp 23) (.agg ⟨(rowA (gx E i1).d)⟩) (.agg ⟨(rowA D)⟩) = some (.bool (isD D (gx E i1)))) ∧
(((isD D (gx E i1)) = true →
 Q (.ret (iv i1)) [oS x now (sB 1 n), oR E, oA D]) ∧
((isD D (gx E i1)) = false →
∀ z3 : Int, z3 = (IntKind.i64.wrap (i1 + 1)) →
(someN [] 2 (fun a' => (mP x now E n D) a' < (mP x now E n D) i1) ⟨[(5, (iv z3)), (4, (iv 0)), (3, (pp 2)), (0, (pp 0)), (1, (.agg ⟨(rowA D)⟩))], [], [oS x now (sB 1 n), oR E, oA D], .norm⟩ [(qP x now E n D)]))))))) ∧
((decide (i1 < z2)) = false →
 Q (.ret (iv (-1))) [oS x now (sB 1 n), oR E, oA D]))))) =
    runS Try.prog [] false [] 0 (SpecC Try.prog []) 20 33 [pR, .agg ⟨rowA D⟩] (hB x now E n) .norm (.skip 3 (.invN [5, 4, 3, 0, 1] _ (mP x now E n D) [(qP x now E n D)] (fun k => match k with | _ => fun i1 => .skip 5 (.all (fun _z2 => .skip 0 (.ask (.skip 6 (.val (.pointer (some ⟨1, (0 + i1.toNat * 18), none⟩)) (.skip 0 (.raw (.skip 0 (.val (.agg ⟨(rowA (gx E i1).d)⟩) (.skip 1 (.val (.bool (isD D (gx E i1))) (.skip 0 (.ask (.go) (.skip 1 (.all (fun _z3 => .go))))))))))))) (.go))))))) (fun r _ h _ => Q r h) := by kernel_rfl

theorem forgetN {f : FuncId} {args : List Value} {x : Cf} {now : Int} {Q : Res → AHeap → Prop}
    (hs : Fm.Spec Try.prog [] f args (hN x now) fun r h' => ∃ v now' rest, r = .ret v ∧ scopeV 0 8 v = true ∧ h' = oS x now' sN :: rest ∧ Q (.ret v) (hN x now')) : Fm.Spec Try.prog [] f args (hN x now) Q := by
  refine Spec.re (Spec.mono hs ?_)
  rintro r h' ⟨v, now', rest, rfl, hv, rfl, hq⟩
  exact ⟨[0], v, v, hN x now', rfl, by decide, rfl, Nat.le_refl _, ⟨⟨_, rfl, ro_s (.snil _ _)⟩, trivial⟩, rv_flat hv, hq⟩
theorem atN_ok {x : Cf} {now : Int} {D : Ad} : Fm.Spec Try.prog [] 33 [pR, .agg ⟨rowA D⟩] (hN x now) fun r h' => r = .ret (.int .i64 (atM D [])) ∧ h' = hN x now :=
  forgetN (spec_T (run_atN x now D _) ⟨_, _, _, rfl, rfl, rfl, rfl, rfl⟩)
theorem atB_ok {x : Cf} {now : Int} {E : List En} {n : Nat} {D : Ad} (hl : E.length = n) (hb : n < 2 ^ 20) : Fm.Spec Try.prog [] 33 [pR, .agg ⟨rowA D⟩] (hB x now E n) fun r h' => r = .ret (.int .i64 (atM D E)) ∧ h' = hB x now E n := by
  refine Spec.re (spec_T (run_atB x now E n D _) ?_)
  refine ⟨?_, ?_⟩
  exact ⟨0, P_first, trivial, Gc.same⟩
  intro i1 hi1
  replace hi1 : iP E n D i1 := hi1
  obtain ⟨fi11, fi12, _⟩ := id hi1
  intro z2 hz2
  subst hz2
  refine ⟨fun h0 => ?_, fun h0 => ?_⟩
  replace h0 := of_decide_eq_true h0
  refine ⟨ixb (by omega) (by omega), ?_⟩
  refine ⟨ldd (by omega), ?_⟩
  refine ⟨eqD _ _ _ _, ?_⟩
  refine ⟨fun h1 => ?_, fun h1 => ?_⟩
  exact ⟨[0, 1], _, _, hB x now E n, rfl, by decide, rfl, Nat.le_refl _, ⟨⟨_, rfl, ro_s (.slice _ _ _ _ rfl)⟩, ⟨_, rfl, ro_r _⟩, trivial⟩, rv_flat rfl, by rw [← P_found hl hi1 h0 h1], rfl⟩
  intro z3 hz3
  rw [wr (by omega) (by omega)] at hz3
  subst hz3
  exact ⟨i1 + 1, P_step hl hi1 h0 h1, by show (n - (i1 + 1)).toNat < (n - i1).toNat; omega, Gc.same⟩
  replace h0 := of_decide_eq_false h0
  exact ⟨[0, 1], _, _, hB x now E n, rfl, by decide, rfl, Nat.le_refl _, ⟨⟨_, rfl, ro_s (.slice _ _ _ _ rfl)⟩, ⟨_, rfl, ro_r _⟩, trivial⟩, rv_flat rfl, by rw [← P_none hl hi1 h0], rfl⟩
theorem run_rnextN (x : Cf) (now : Int)  (Q : Res → AHeap → Prop) : (Q (.ret (.tuple ⟨[(iv 0), (.bool false)]⟩)) [oS x now sN]) =
    runS Try.prog [] false [] 0 (SpecC Try.prog []) 20 28 [pR] (hN x now) .norm (.skip 4 (.unr 60 (.go))) (fun r _ h _ => Q r h) := by kernel_rfl
abbrev krf16t0 (x : Cf) (now : Int) (E : List En) (n : Nat) (i1 : Int × Int) : Prop := (aIndexAddr Try.prog 41 (sB 1 n) (iv i1.snd) = some (.pointer (some ⟨1, (0 + i1.snd.toNat * 18), none⟩))) ∧
((∃ z3 : Int, aLoad Try.prog 3 (.pointer (some ⟨0, (0 + i1.snd.toNat * 18 + 17), none⟩)) (hp E) = some (iv z3)) ∧
∀ z3 : Int, aLoad Try.prog 3 (.pointer (some ⟨0, (0 + i1.snd.toNat * 18 + 17), none⟩)) (hp E) = some (iv z3) →
∀ z4 : Int, z4 = (IntKind.i64.wrap (i1.snd + 1)) →
(someN [] 2 (fun a' => (mZ x now E n) a' < (mZ x now E n) i1) ⟨[(5, (iv z4)), (4, (iv z3)), (3, (.bool false)), (2, (iv 0)), (0, (pp 0))], [], [oS x now (sB 1 n), oR E], .norm⟩ [(qZ x now E n)]))
theorem run_rnextB (x : Cf) (now : Int) (E : List En) (n : Nat)  (Q : Res → AHeap → Prop) : (((someN [] 2 (fun _ => True) ⟨[(5, (iv 0)), (4, (iv 0)), (3, (.bool false)), (2, (iv 0)), (0, (pp 0))], [], [oS x now (sB 1 n), oR E], .norm⟩ [(qZ x now E n)]) ∧
(∀ i1, (qZ x now E n i1).fst →
∀ z2 : Int, z2 = (((n : Nat) : Int)) →
(((decide (i1.snd < z2)) = true →
(((i1.snd == 0) = true →
((krf16t0 x now E n i1))) ∧
((i1.snd == 0) = false →
((aIndexAddr Try.prog 41 (sB 1 n) (iv i1.snd) = some (.pointer (some ⟨1, (0 + i1.snd.toNat * 18), none⟩))) ∧
((∃ z3 : Int, aLoad Try.prog 3 (.pointer (some ⟨0, (0 + i1.snd.toNat * 18 + 17), none⟩)) (hp E) = some (iv z3)) ∧
∀ z3 : Int, aLoad Try.prog 3 (.pointer (some ⟨0, (0 + i1.snd.toNat * 18 + 17), none⟩)) (hp E) = some (iv z3) →
(((decide (z3 < i1.fst)) = true →
((krf16t0 x now E n i1))) ∧
((decide (z3 < i1.fst)) = false →
∀ z4 : Int, z4 = (IntKind.i64.wrap (i1.snd + 1)) →
(someN [] 2 (fun a' => (mZ x now E n) a' < (mZ x now E n) i1) ⟨[(5, (iv z4)), (4, (iv i1.fst)), (3, (.bool false)), (2, (iv 0)), (0, (pp 0))], [], [oS x now (sB 1 n), oR E], .norm⟩ [(qZ x now E n)])))))))) ∧
((decide (i1.snd < z2)) = false →
∀ z3 : Int, z3 = (((n : Nat) : Int)) →
(((decide (z3 > 0)) = true →
 Q (.ret (.tuple ⟨[(iv i1.fst), (.bool true)]⟩)) [oS x now (sB 1 n), oR E]) ∧
((decide (z3 > 0)) = false →
 Q (.ret (.tuple ⟨[(iv i1.fst), (.bool false)]⟩)) [oS x now (sB 1 n), oR E]))))))) =
    runS Try.prog [] false [] 0 (SpecC Try.prog []) 20 28 [pR] (hB x now E n) .norm (.skip 4 (.invN [5, 4, 3, 2, 0] _ (mZ x now E n) [(qZ x now E n)] (fun k => match k with | _ => fun i1 => .skip 5 (.all (fun _z2 => .skip 0 (.ask (.skip 2 (.ask (.skip 18 (.val (.pointer (some ⟨1, (0 + i1.snd.toNat * 18), none⟩)) (.skip 1 (.gen (Int) (fun x => .int .i64 x) fun _z3 => .skip 2 (.all (fun _z4 => .go)))))) (.skip 12 (.val (.pointer (some ⟨1, (0 + i1.snd.toNat * 18), none⟩)) (.skip 3 (.gen (Int) (fun x => .int .i64 x) fun _z3 => .skip 3 (.ask (.skip 7 (.val (.pointer (some ⟨1, (0 + i1.snd.toNat * 18), none⟩)) (.skip 1 (.gen (Int) (fun x => .int .i64 x) fun _z4 => .skip 2 (.all (fun _z5 => .go)))))) (.skip 3 (.all (fun _z4 => .go)))))))))) (.skip 6 (.all (fun _z3 => .skip 0 (.ask (.go) (.go))))))))))) (fun r _ h _ => Q r h) := by kernel_rfl

theorem rnextN_ok {x : Cf} {now : Int} : Fm.Spec Try.prog [] 28 [pR] (hN x now) fun r h' => r = .ret (vN (nextM [])) ∧ h' = hN x now := spec_T (run_rnextN x now _) ⟨rfl, rfl⟩
theorem rnextB_ok {x : Cf} {now : Int} {E : List En} {n : Nat} (hl : E.length = n) (hn : 1 ≤ n) (hb : n < 2 ^ 20) : Fm.Spec Try.prog [] 28 [pR] (hB x now E n) fun r h' => r = .ret (vN (nextM E)) ∧ h' = hB x now E n := by
  refine Spec.re (spec_T (run_rnextB x now E n _) ?_)
  refine ⟨?_, ?_⟩
  exact ⟨(0, 0), Z_first, trivial, Gc.same⟩
  intro i1 hi1
  replace hi1 : iZ E n i1 := hi1
  obtain ⟨fi11, fi12, _⟩ := id hi1
  intro z2 hz2
  subst hz2
  refine ⟨fun h0 => ?_, fun h0 => ?_⟩
  replace h0 := of_decide_eq_true h0
  refine ⟨fun h1 => ?_, fun h1 => ?_⟩
  replace h1 := eq_of_beq h1
  refine ⟨ixb (by omega) (by omega), ?_⟩
  refine ⟨⟨_, ldu (by omega)⟩, ?_⟩
  intro z3 hz3
  have ez3 := gI (hz3.symm.trans (ldu (by omega)))
  subst ez3
  intro z4 hz4
  rw [wr (by omega) (by omega)] at hz4
  subst hz4
  exact ⟨((E.getD i1.2.toNat default).u, i1.2 + 1), Z_zero hl hi1 h0 h1, by show (n - (i1.2 + 1)).toNat < (n - i1.2).toNat; omega, Gc.same⟩
  replace h1 := ne_of_beq_false h1
  refine ⟨ixb (by omega) (by omega), ?_⟩
  refine ⟨⟨_, ldu (by omega)⟩, ?_⟩
  intro z3 hz3
  have ez3 := gI (hz3.symm.trans (ldu (by omega)))
  subst ez3
  refine ⟨fun h2 => ?_, fun h2 => ?_⟩
  replace h2 := of_decide_eq_true h2
  refine ⟨ixb (by omega) (by omega), ?_⟩
  refine ⟨⟨_, ldu (by omega)⟩, ?_⟩
  intro z4 hz4
  have ez4 := gI (hz4.symm.trans (ldu (by omega)))
  subst ez4
  intro z5 hz5
  rw [wr (by omega) (by omega)] at hz5
  subst hz5
  exact ⟨((E.getD i1.2.toNat default).u, i1.2 + 1), Z_less hl hi1 h0 h1 h2, by show (n - (i1.2 + 1)).toNat < (n - i1.2).toNat; omega, Gc.same⟩
  replace h2 := of_decide_eq_false h2
  intro z4 hz4
  rw [wr (by omega) (by omega)] at hz4
  subst hz4
  exact ⟨(i1.1, i1.2 + 1), Z_more hl hi1 h0 h1 h2, by show (n - (i1.2 + 1)).toNat < (n - i1.2).toNat; omega, Gc.same⟩
  replace h0 := of_decide_eq_false h0
  intro z3 hz3
  subst hz3
  refine ⟨fun h1 => ?_, fun h1 => ?_⟩
  replace h1 := of_decide_eq_true h1
  have hne : E ≠ [] := fun e => by rw [e] at hl; simp at hl; omega
  exact ⟨[0, 1], _, _, hB x now E n, rfl, by decide, rfl, Nat.le_refl _, ⟨⟨_, rfl, ro_s (.slice _ _ _ _ rfl)⟩, ⟨_, rfl, ro_r _⟩, trivial⟩, rv_flat rfl, by rw [nextM_some hne, ← Z_done hl hn hi1 h0]; rfl, rfl⟩
  replace h1 := of_decide_eq_false h1
  exact absurd h1 (by omega)

end Go.Proofs.Ytcdmnmpiipmfmaa
