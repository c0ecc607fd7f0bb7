/-
  The cache's methods All, Next, Len and New answer as the pure model says. Conditions: the map stands for a row (Rep); no entry ends behind the greatest time (for Next).
-/
import Derived.Test.YtcdmnmpiipmfmaaPm5
namespace Go.Proofs.Ytcdmnmpiipmfmaa
open Go.Fm

/-- what is behind All: a row of its own, if any -/
def PstA (x : Cf) (p : Int × Int × List En) (r : Res) (h' : AHeap) : Prop := ∃ v' now' l' cl' T, (now' = p.2.1 ∧ Rep cl' l' p.2.2 ∧ ((T = [] ∧ v' = .tuple ⟨[.slice none 0 0, .int .i64 p.1]⟩ ∧ (p.1 = 0 → p.2.2 = [])) ∨ (T = [p.2.2] ∧ p.2.2 ≠ [] ∧ p.1 = 0 ∧ v' = .tuple ⟨[.slice (some ⟨2, 0, some 18⟩) p.2.2.length p.2.2.length, .int .i64 0]⟩))) ∧ r = .ret v' ∧ h' = hC x now' l' cl' ++ T.map oR ∧ scopeV (2 + T.length) 8 v' = true
theorem allM_err {now t : Int} {E : List En} (h : errT t now) : allM now E t = (153, now, E) := if_pos h
theorem allM_ok {now t : Int} {E : List En} (h : ¬ errT t now) : allM now E t = (0, t, tidyE t E) := if_neg h
theorem run_allm (x : Cf) (now t : Int) (l : List (En × Nat)) (cl : Nat) (Q : Res → AHeap → Prop) : ((((decide (t < now)) = true →
 Q (.ret (.tuple ⟨[sN, (iv 153)]⟩)) [oM l cl, oC x now]) ∧
((decide (t < now)) = false →
(((decide (t > 1099511627776)) = true →
 Q (.ret (.tuple ⟨[sN, (iv 153)]⟩)) [oM l cl, oC x now]) ∧
((decide (t > 1099511627776)) = false →
((kAt x now t l cl).asks Try.prog [] 23 ∧
∀ i1 : List (En × Nat), (pAt t l cl i1) →
((kAll x t i1 cl).asks Try.prog [] 29 ∧
(∀ _ : List En, (i1 = []) →
 Q (.ret (.tuple ⟨[sN, (iv 0)]⟩)) [oM i1 cl, oC x t]) ∧
(∀ i2 : List En, (pAll i1 i2) →
 Q (.ret (.tuple ⟨[(sB 2 i2.length), (iv 0)]⟩)) [oM i1 cl, oC x t, oR i2])))))))) =
    runS Try.prog [] false [23, 29] 0 (SpecC Try.prog []) 20 18 [pC, .int .i64 t] (hC x now l cl) .norm (.skip 31 (.ask (.go) (.skip 4 (.ask (.go) (.skip 9 (.call (List (En × Nat)) (kAt x now t l cl).post fun i1 => .skip 1 (.callN (List En) (kAll x t i1 cl).posts (fun k => match k with | 0 => fun _i2 => .go | _ => fun _i2 => .go)))))))) (fun r _ h _ => Q r h) := by kernel_rfl

theorem allm_ok {x : Cf} {now t : Int} {l : List (En × Nat)} {cl : Nat} {E : List En} (HR : Rep cl l E) (HB : E.length < 2 ^ 20) :
    Fm.Spec Try.prog [] 18 [pC, .int .i64 t] (hC x now l cl) (PstA x (allM now E t)) := by
  refine spec_T (run_allm x now t l cl _) ?_
  refine ⟨fun h0 => ?_, fun h0 => ?_⟩
  replace h0 := of_decide_eq_true h0
  rw [allM_err (.inl h0)]; exact ⟨_, now, l, cl, [], ⟨rfl, HR, .inl ⟨rfl, rfl, fun h => absurd (show (153 : Int) = 0 from h) (by decide)⟩⟩, rfl, (List.append_nil _).symm, rfl⟩
  replace h0 := of_decide_eq_false h0
  refine ⟨fun h1 => ?_, fun h1 => ?_⟩
  replace h1 := of_decide_eq_true h1
  rw [allM_err (.inr h1)]; exact ⟨_, now, l, cl, [], ⟨rfl, HR, .inl ⟨rfl, rfl, fun h => absurd (show (153 : Int) = 0 from h) (by decide)⟩⟩, rfl, (List.append_nil _).symm, rfl⟩
  replace h1 := of_decide_eq_false h1
  refine ⟨at_ok HR.wf, ?_⟩
  intro i1 hi1
  have Hi1 := HR.tidy hi1
  have HN1 : i1.length < 2 ^ 20 := by rw [Hi1.len]; exact Nat.lt_of_le_of_lt tidy_len HB
  refine ⟨all_ok Hi1.wf HN1, ?_⟩
  refine ⟨?_, ?_⟩
  intro _ h_
  have e0 : tidyE t E = [] := List.length_eq_zero_iff.1 (by rw [← Hi1.len, h_]; rfl)
  rw [allM_ok (errT_no h0 h1)]
  exact ⟨_, t, i1, cl, [], ⟨rfl, Hi1, .inl ⟨rfl, rfl, fun _ => e0⟩⟩, rfl, (List.append_nil _).symm, rfl⟩
  intro i2 hi2
  have hne := hi2.2.2.1
  have ei2 := Hi1.all hi2
  subst ei2
  rw [allM_ok (errT_no h0 h1)]
  exact ⟨_, t, i1, cl, [tidyE t E], ⟨rfl, Hi1, .inr ⟨rfl, hne, rfl, rfl⟩⟩, rfl, rfl, rfl⟩

def iX (l : List (En × Nat)) (cl : Nat) (p : Int × List Nat) : Prop := p.2.Nodup ∧ (∀ s ∈ p.2, s < cl) ∧ p.1 ≤ 1099511627776 ∧ (∀ e ∈ l, e.2 ∈ p.2 → p.1 ≤ e.1.u) ∧ (p.1 = 1099511627776 ∨ ∃ e ∈ l, e.1.u = p.1)
def qX (x : Cf) (now : Int) (l : List (En × Nat)) (cl : Nat) (p : Int × List Nat) : Prop × St := (iX l cl p, ⟨[(22, .pointer (some ⟨2, 0, none⟩)), (4, .int .i64 p.1), (0, pC)], [], [oM l cl, oC x now, .mapIter (some 0) cl p.2 cl], .norm⟩)
def mX (_x : Cf) (_now : Int) (_l : List (En × Nat)) (cl : Nat) (p : Int × List Nat) : Nat := cl - p.2.length

theorem X_first {l : List (En × Nat)} {cl : Nat} : iX l cl (1099511627776, []) := ⟨List.nodup_nil, fun _ h => (by cases h), Int.le_refl _, fun _ _ h => (by cases h), .inl rfl⟩
theorem X_step {l : List (En × Nat)} {cl : Nat} {p : Int × List Nat} {e : En × Nat} (HW : WF cl l) (h : iX l cl p) (he : e ∈ l ∧ e.2 ∉ p.2) : iX l cl (if e.1.u < p.1 then e.1.u else p.1, p.2 ++ [e.2]) := by
  obtain ⟨h1, h2, h3, h4, h5⟩ := h
  obtain ⟨s1, s2, _⟩ := seen_new h1 h2 he.2 (HW.born _ he.1)
  refine ⟨s1, s2, ?_, fun y hy hs => ?_, ?_⟩
  · show (if e.1.u < p.1 then e.1.u else p.1) ≤ _
    split <;> omega
  · show (if e.1.u < p.1 then e.1.u else p.1) ≤ _
    rcases List.mem_append.1 hs with hs | hs
    · have := h4 y hy hs; split <;> omega
    · rw [List.mem_singleton] at hs; rw [HW.stamp hy he.1 hs]; split <;> omega
  · show (if e.1.u < p.1 then e.1.u else p.1) = _ ∨ ∃ y ∈ l, y.1.u = (if e.1.u < p.1 then e.1.u else p.1)
    split
    · exact .inr ⟨e, he.1, rfl⟩
    · exact h5
theorem leastE_cons {e a : En} {r : List En} : leastE (e :: a :: r) = if leastE (a :: r) < e.u then leastE (a :: r) else e.u := rfl
theorem leastE_mem : ∀ {E : List En}, E ≠ [] → (∃ e ∈ E, e.u = leastE E) ∧ ∀ e ∈ E, leastE E ≤ e.u
  | [], h => absurd rfl h
  | [a], _ => ⟨⟨a, by simp, rfl⟩, fun e he => by rw [List.mem_singleton] at he; subst he; exact Int.le_refl _⟩
  | a :: b :: r, _ => by
    obtain ⟨⟨e, h1, h2⟩, h3⟩ := leastE_mem (E := b :: r) (by simp)
    rw [leastE_cons]
    by_cases hc : leastE (b :: r) < a.u
    · rw [if_pos hc]
      refine ⟨⟨e, List.mem_cons_of_mem _ h1, h2⟩, fun y hy => ?_⟩
      rcases List.mem_cons.1 hy with rfl | hy
      · omega
      · exact h3 y hy
    · rw [if_neg hc]
      refine ⟨⟨a, by simp, rfl⟩, fun y hy => ?_⟩
      rcases List.mem_cons.1 hy with rfl | hy
      · exact Int.le_refl _
      · have := h3 y hy; omega
theorem X_done {l : List (En × Nat)} {cl : Nat} {p : Int × List Nat} {E : List En} (HR : Rep cl l E) (HU : ∀ e ∈ E, e.u ≤ 1099511627776) (hne : E ≠ []) (h : iX l cl p) (he : ∀ e ∈ l, e.2 ∈ p.2) : p.1 = leastE E := by
  obtain ⟨h1, h2, h3, h4, h5⟩ := h
  obtain ⟨⟨e, g1, g2⟩, g3⟩ := leastE_mem hne
  have a1 : ∀ y ∈ E, p.1 ≤ y.u := fun y hy => by
    obtain ⟨z, hz, rfl⟩ := (HR.mem y).1 hy
    exact h4 z hz (he z hz)
  have a2 := a1 e g1
  have a3 := HU e g1
  rcases h5 with h5 | ⟨z, hz, h5⟩
  · omega
  · have := g3 z.1 ((HR.mem _).2 ⟨z, hz, rfl⟩); omega
theorem ren_id3 : ∀ b, b < 3 → ren [0, 1, 2] b = some b := by decide
theorem gcX {x : Cf} {now z : Int} {cl : Nat} {l : List (En × Nat)} {S : List Nat} {rest : AHeap} :
    Gc [] 2 ⟨[(22, .pointer (some ⟨2, 0, none⟩)), (4, .int .i64 z), (0, pC)], [], oM l cl :: oC x now :: .mapIter (some 0) cl S cl :: rest, .norm⟩ ⟨[(22, .pointer (some ⟨2, 0, none⟩)), (4, .int .i64 z), (0, pC)], [], [oM l cl, oC x now, .mapIter (some 0) cl S cl], .norm⟩ := by
  refine Gc.ren [0, 1, 2] (by decide) (by decide) (by decide) (by decide) ⟨⟨_, rfl, ro_m _ _⟩, ⟨_, rfl, ro_c _ _ rfl⟩, ⟨_, rfl, .mapIter _ _ _ rfl⟩, trivial⟩ ?_ rfl
  exact ⟨⟨_, rfl, rv_id (k := 3) rfl ren_id3⟩, ⟨_, rfl, rv_id (k := 3) rfl ren_id3⟩, ⟨_, rfl, rv_id (k := 3) rfl ren_id3⟩, trivial⟩
def vN (p : Int × Bool) : Value := .tuple ⟨[.int .i64 p.1, .bool p.2]⟩
def nextM (E : List En) : Int × Bool := (leastE E, !E.isEmpty)
theorem nextM_some {E : List En} (h : E ≠ []) : nextM E = (leastE E, true) := by cases E with | nil => exact absurd rfl h | cons => rfl
theorem run_next (x : Cf) (now : Int) (l : List (En × Nat)) (cl : Nat) (Q : Res → AHeap → Prop) : (∀ z1 : Int, z1 = ((((mpl kA vA l).length : Nat) : Int)) →
(((z1 == 0) = true →
 Q (.ret (.tuple ⟨[(iv 0), (.bool false)]⟩)) [oM l cl, oC x now]) ∧
((z1 == 0) = false →
((someN [] 2 (fun _ => True) ⟨[(22, (pp 2)), (4, (iv 1099511627776)), (0, (pp 1))], [], [oM l cl, oC x now, .mapIter (some 0) cl [] cl], .norm⟩ [(qX x now l cl)]) ∧
(∀ i2, (qX x now l cl i2).fst →
(nxtOk (pp 2) [oM l cl, oC x now, .mapIter (some 0) cl (i2.snd) cl] (∀ e ∈ l, e.2 ∈ i2.snd) (nxp kA vA (l) [oM l cl, oC x now, .mapIter (some 0) cl (i2.snd) cl] 2 0 cl (i2.snd) cl) ∧
((∀ e ∈ l, e.2 ∈ i2.snd) →
 Q (.ret (.tuple ⟨[(iv i2.fst), (.bool true)]⟩)) [oM l cl, oC x now, .mapIter (some 0) cl (i2.snd) cl]) ∧
∀ i3 : En × Nat, (i3 ∈ l ∧
 i3.2 ∉ i2.snd) →
((((aEntry (pp 2) [oM l cl, oC x now, .mapIter (some 0) cl (i2.snd ++ [i3.snd]) cl]).map fun ee => (ee, ([oM l cl, oC x now, .mapIter (some 0) cl (i2.snd ++ [i3.snd]) cl] : AHeap))) = some ((.tuple ⟨[(.agg ⟨(rowA i3.fst.d)⟩), (.agg ⟨[(iv i3.fst.m), (iv i3.fst.u)]⟩)]⟩), ([oM l cl, oC x now, .mapIter (some 0) cl (i2.snd ++ [i3.snd]) cl] : AHeap))) ∧
∀ z4 : Int, z4 = (if i3.fst.u < i2.fst then i3.fst.u else i2.fst) →
(someN [] 2 (fun a' => (mX x now l cl) a' < (mX x now l cl) i2) ⟨[(22, (pp 2)), (4, (iv z4)), (0, (pp 1))], [], [oM l cl, oC x now, .mapIter (some 0) cl (i2.snd ++ [i3.snd]) cl, .tcells [(iv i3.fst.m), (iv i3.fst.u)] 62 (some 0)], .norm⟩ [(qX x now l cl)])))))))) =
    runS Try.prog [] false [] 0 (SpecC Try.prog []) 20 27 [pC] (hC x now l cl) .norm (.skip 31 (.all (fun _z1 => .skip 1 (.ask (.go) (.skip 8 (.invN [22, 4, 0] _ (mX x now l cl) [(qX x now l cl)] (fun k => match k with | _ => fun i2 => .skip 0 (.nxt (∀ e ∈ l, e.2 ∈ i2.snd) (En × Nat) (nxp kA vA (l) [oM l cl, oC x now, .mapIter (some 0) cl (i2.snd) cl] 2 0 cl (i2.snd) cl) (.go) fun i3 => .skip 2 (.put (.tuple ⟨[(.agg ⟨(rowA i3.fst.d)⟩), (.agg ⟨[(iv i3.fst.m), (iv i3.fst.u)]⟩)]⟩) [oM l cl, oC x now, .mapIter (some 0) cl (i2.snd ++ [i3.snd]) cl] (.skip 6 (.all (fun _z4 => .go)))))))))))) (fun r _ h _ => Q r h) := by kernel_rfl

theorem next_ok {x : Cf} {now : Int} {l : List (En × Nat)} {cl : Nat} {E : List En} (HR : Rep cl l E) (HU : ∀ e ∈ E, e.u ≤ 1099511627776) :
    Fm.Spec Try.prog [] 27 [pC] (hC x now l cl) (Pst x (vN (nextM E)) now E) := by
  refine forget2 rfl (spec_T (run_next x now l cl _) ?_)
  intro z1 hz1
  rw [mpl_len, HR.len] at hz1
  subst hz1
  refine ⟨fun h0 => ?_, fun h0 => ?_⟩
  have he : E = [] := List.length_eq_zero_iff.1 (by have := eq_of_beq h0; omega)
  subst he; exact leafP HR rfl rfl
  have hne : E ≠ [] := fun e => by subst e; exact absurd h0 (by decide)
  refine ⟨?_, ?_⟩
  exact ⟨_, X_first, trivial, Gc.same⟩
  intro i2 hi2
  replace hi2 : iX l cl i2 := hi2
  refine ⟨nxtOk_mpl rfl rfl HR.wf.born, ?_⟩
  refine ⟨?_, ?_⟩
  intro hend
  rw [nextM_some hne, ← X_done HR HU hne hi2 hend]; exact leafP HR rfl rfl
  intro i3 hi3
  refine ⟨ent_m rfl rfl ⟨HR.wf.nb, hi3.1⟩, ?_⟩
  intro z4 hz4
  subst hz4
  exact ⟨_, X_step HR.wf hi2 hi3, (seen_new hi2.1 hi2.2.1 hi3.2 (HR.wf.born _ hi3.1)).2.2, gcX⟩
theorem run_len9 (x : Cf) (now : Int) (l : List (En × Nat)) (cl : Nat) (Q : Res → AHeap → Prop) : (∀ z1 : Int, z1 = ((((mpl kA vA l).length : Nat) : Int)) →
 Q (.ret (iv z1)) [oM l cl, oC x now]) =
    runS Try.prog [] false [] 0 (SpecC Try.prog []) 20 9 [pC] (hC x now l cl) .norm (.skip 25 (.all (fun _z1 => .go))) (fun r _ h _ => Q r h) := by kernel_rfl

theorem lenM_ok {x : Cf} {now : Int} {l : List (En × Nat)} {cl : Nat} {E : List En} (HR : Rep cl l E) :
    Fm.Spec Try.prog [] 9 [pC] (hC x now l cl) (Pst x (.int .i64 E.length) now E) := by
  refine forget2 rfl (spec_T (run_len9 x now l cl _) ?_)
  intro z1 hz1
  rw [mpl_len, HR.len] at hz1
  subst hz1
  exact leafP HR rfl rfl

end Go.Proofs.Ytcdmnmpiipmfmaa
