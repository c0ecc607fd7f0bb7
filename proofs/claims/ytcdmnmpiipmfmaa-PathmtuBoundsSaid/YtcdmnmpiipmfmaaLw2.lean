/-
  Next, Len, New, awake and the comparison of two rows in the law's heap; states that are good. Conditions stand with each theorem.
-/
import Derived.Test.YtcdmnmpiipmfmaaLw1
namespace Go.Proofs.Ytcdmnmpiipmfmaa
open Go.Fm

/-- settings that may be -/
def okC (x : Cf) : Prop := ¬ x.lim < 1 ∧ ¬ x.lim > 4096 ∧ ¬ x.least < 68 ∧ ¬ x.least > 65535 ∧ ¬ x.link < x.least ∧ ¬ x.link > 65535 ∧ ¬ x.life < 1 ∧ ¬ x.life > 2147483648
/-- a row within its bounds -/
def Good (x : Cf) (E : List En) : Prop := (E.length : Int) ≤ x.lim ∧ ∀ e ∈ E, x.least ≤ e.m ∧ e.m ≤ x.link ∧ e.u ≤ 1099511627776
structure LQ where
  (i : Int)
  (l : List (En × Nat))
  (cl : Nat)
  (now : Int)
  (E : List En)
structure SOk (x : Cf) (q : LQ) : Prop where
  rep : Rep q.cl q.l q.E
  good : Good x q.E
  t0 : 0 ≤ q.now
  t1 : q.now ≤ 1099511627776
section
variable {x : Cf} {E : List En} {t now mtu : Int} {D : Ad} {l : List (En × Nat)} {cl : Nat}
theorem Good.len (h : Good x E) (hx : okC x) : E.length < 2 ^ 20 := by have := h.1; have := hx.2.1; omega
theorem Good.filter (h : Good x E) (p : En → Bool) : Good x (E.filter p) :=
  ⟨Int.le_trans (Int.ofNat_le.2 (List.length_filter_le _ _)) h.1, fun e he => h.2 e (List.mem_filter.1 he).1⟩
theorem Good.nil (hx : okC x) : Good x [] := ⟨by have := hx.1; show (0 : Int) ≤ _; omega, fun e he => by cases he⟩
theorem filter_lt {p : En → Bool} {e : En} (hp : p e = false) {E : List En} (he : e ∈ E) : (E.filter p).length < E.length := by
  induction E with
  | nil => cases he
  | cons a E ih =>
    rw [List.filter_cons]
    rcases List.mem_cons.1 he with h | h
    · subst h
      rw [hp]; exact Nat.lt_succ_of_le (List.length_filter_le _ _)
    · have := ih h
      split
      · simp only [List.length_cons]; omega
      · simp only [List.length_cons]; omega
theorem but_lt {e : En} (he : e ∈ E) : (butE e.d E).length < E.length := filter_lt (by rw [isD_iff.2 rfl]; rfl) he
theorem room_lt (hx : okC x) (h : Good x E) : ((roomE x D E).length : Int) < x.lim := by
  have h1 := h.1
  have h2 := hx.1
  unfold roomE
  split
  · rename_i hh
    unfold hasE at hh
    rw [List.any_eq_true] at hh
    obtain ⟨e, he, hd⟩ := hh
    have hd := isD_iff.1 hd
    subst hd
    have := but_lt he
    omega
  · split
    · rename_i hf
      have hne : E ≠ [] := fun e => by subst e; have hf : (0 : Int) ≥ x.lim := hf; omega
      have := but_lt (minE_mem hne)
      omega
    · omega
theorem Good.room (h : Good x E) : Good x (roomE x D E) := by
  unfold roomE
  split
  · exact h.filter _
  · split
    · exact h.filter _
    · exact h
theorem find_mem (h : ∃ e, E.find? (isD D) = some e) : ∃ e ∈ E, lookE D x E = e.m := by
  obtain ⟨e, he⟩ := h
  exact ⟨e, List.mem_of_find?_eq_some he, by unfold lookE; rw [he]; rfl⟩
theorem look_b (hx : okC x) (h : Good x E) : x.least ≤ lookE D x E ∧ lookE D x E ≤ x.link := by
  cases hf : E.find? (isD D) with
  | none => unfold lookE; rw [hf]; have := hx.2.2.2.2.1; exact ⟨by show x.least ≤ x.link; omega, Int.le_refl _⟩
  | some e =>
    obtain ⟨e, he, h1⟩ := find_mem (x := x) ⟨e, hf⟩
    rw [h1]; exact ⟨(h.2 e he).1, (h.2 e he).2.1⟩
theorem Good.ins {e : En} {L : List En} (h : Good x L) (hl : (L.length : Int) < x.lim) (he : x.least ≤ e.m ∧ e.m ≤ x.link ∧ e.u ≤ 1099511627776) : Good x (insE e L) := by
  have hp : (insE e L).length = L.length + 1 := by
    unfold insE
    rw [List.length_append, List.length_cons]
    have := congrArg List.length (List.takeWhile_append_dropWhile (p := fun y => decide (nkE y < nkE e)) (l := L))
    rw [List.length_append] at this
    omega
  refine ⟨by rw [hp]; omega, fun y hy => ?_⟩
  unfold insE at hy
  rcases List.mem_append.1 hy with hy | hy
  · exact h.2 y ((List.takeWhile_sublist _).subset hy)
  · rcases List.mem_cons.1 hy with rfl | hy
    · exact he
    · exact h.2 y ((List.dropWhile_sublist _).subset hy)
theorem Good.tidy (h : Good x E) : Good x (tidyE t E) := h.filter _
theorem good_get (h : Good x E) : Good x (getM x now E t D).2.2 := by unfold getM; split; exact h; exact h.tidy
theorem good_drop (h : Good x E) : Good x (dropM now E t D).2.2 := by unfold dropM; split; exact h; exact h.tidy.filter _
theorem maxE_ge : x.least ≤ maxE x mtu := by unfold maxE; split <;> omega
theorem endE_le : endE x t ≤ 1099511627776 := by unfold endE; split <;> omega
theorem good_told (hx : okC x) (h : Good x E) : Good x (toldM x now E t D mtu).2.2 := by
  unfold toldM
  split
  · exact h
  · split
    · exact h
    · split
      · exact h.tidy
      · rename_i h3
        have h4 := (look_b (D := D) hx (h.tidy (t := t))).2
        exact h.tidy.room.ins (room_lt hx h.tidy) ⟨maxE_ge, by show maxE x mtu ≤ _; omega, endE_le⟩
theorem now_get : (getM x now E t D).2.1 = bgT t now := by unfold getM bgT; split <;> rfl
theorem now_drop : (dropM now E t D).2.1 = bgT t now := by unfold dropM bgT; split <;> rfl
theorem bgT_b (h0 : 0 ≤ now) (h1 : now ≤ 1099511627776) : 0 ≤ bgT t now ∧ bgT t now ≤ 1099511627776 := by
  unfold bgT
  split
  · exact ⟨h0, h1⟩
  · rename_i h
    unfold errT at h
    omega
theorem now_told (h0 : 0 ≤ now) (h1 : now ≤ 1099511627776) : 0 ≤ (toldM x now E t D mtu).2.1 ∧ (toldM x now E t D mtu).2.1 ≤ 1099511627776 := by
  unfold toldM
  split
  · exact ⟨h0, h1⟩
  · rename_i h
    unfold errT at h
    split
    · exact ⟨h0, h1⟩
    · split
      · show 0 ≤ t ∧ t ≤ _; omega
      · show 0 ≤ t ∧ t ≤ _; omega
theorem sok_get (h : Good x E) (h0 : 0 ≤ now) (h1 : now ≤ 1099511627776) (hR : Rep cl l (getM x now E t D).2.2) : SOk x ⟨0, l, cl, (getM x now E t D).2.1, (getM x now E t D).2.2⟩ :=
  ⟨hR, good_get h, by show 0 ≤ (getM x now E t D).2.1; rw [now_get]; exact (bgT_b h0 h1).1, by show (getM x now E t D).2.1 ≤ _; rw [now_get]; exact (bgT_b h0 h1).2⟩
theorem sok_drop (h : Good x E) (h0 : 0 ≤ now) (h1 : now ≤ 1099511627776) (hR : Rep cl l (dropM now E t D).2.2) : SOk x ⟨0, l, cl, (dropM now E t D).2.1, (dropM now E t D).2.2⟩ :=
  ⟨hR, good_drop h, by show 0 ≤ (dropM now E t D).2.1; rw [now_drop]; exact (bgT_b h0 h1).1, by show (dropM now E t D).2.1 ≤ _; rw [now_drop]; exact (bgT_b h0 h1).2⟩
theorem sok_told (hx : okC x) (h : Good x E) (h0 : 0 ≤ now) (h1 : now ≤ 1099511627776) (hR : Rep cl l (toldM x now E t D mtu).2.2) : SOk x ⟨0, l, cl, (toldM x now E t D mtu).2.1, (toldM x now E t D mtu).2.2⟩ :=
  ⟨hR, good_told hx h, (now_told h0 h1).1, (now_told h0 h1).2⟩
theorem sok_err (h : Good x E) (h0 : 0 ≤ now) (h1 : now ≤ 1099511627776) (hR : Rep cl l E) : SOk x ⟨0, l, cl, now, E⟩ := ⟨hR, h, h0, h1⟩
theorem sok_tidy (h : Good x E) (h0 : 0 ≤ now) (he : ¬ errT t now) (hR : Rep cl l (tidyE t E)) : SOk x ⟨0, l, cl, t, tidyE t E⟩ :=
  ⟨hR, h.tidy, by unfold errT at he; show 0 ≤ t; omega, by unfold errT at he; show t ≤ _; omega⟩
end
def kStepN (L : List Ow) (x : Cf) (now : Int) (l : List (En × Nat)) (cl : Nat) (o : Ow) : CtrN := ⟨[pP, pQ, .agg ⟨rowO o⟩], [oO L, oX x, oM l cl, oCb x now, oS x now sN], LQ, [fun q => (SOk x q ∧ q.E = [], .ret (.bool true), [oO L, oX x, oM q.l q.cl, oCb x q.now, oS x q.now sN, .dead]), fun q => (SOk x q ∧ q.E ≠ [], .ret (.bool true), [oO L, oX x, oM q.l q.cl, oCb x q.now, oS x q.now (sB 5 q.E.length), oR q.E])]⟩
def kStepB (L : List Ow) (x : Cf) (now : Int) (l : List (En × Nat)) (cl : Nat) (E : List En) (n : Nat) (o : Ow) : CtrN := ⟨[pP, pQ, .agg ⟨rowO o⟩], [oO L, oX x, oM l cl, oCb x now, oS x now (sB 5 n), oR E], LQ, [fun q => (SOk x q ∧ q.E = [], .ret (.bool true), [oO L, oX x, oM q.l q.cl, oCb x q.now, oS x q.now sN, .dead]), fun q => (SOk x q ∧ q.E ≠ [], .ret (.bool true), [oO L, oX x, oM q.l q.cl, oCb x q.now, oS x q.now (sB 5 q.E.length), oR q.E]), fun q => (SOk x q ∧ q.E ≠ [], .ret (.bool true), [oO L, oX x, oM q.l q.cl, oCb x q.now, oS x q.now (sB 6 q.E.length), .dead, oR q.E])]⟩
noncomputable def kLenP (o0 o1 : AObj) (x : Cf) (now : Int) (l : List (En × Nat)) (cl : Nat) (rest : AHeap) : Ctr := ⟨[pP], o0 :: o1 :: oM l cl :: oCb x now :: rest, List (En × Nat) × Nat, fun q => (Rep q.2 q.1 (srt l), .ret (.int .i64 (srt l).length), o0 :: o1 :: oM q.1 q.2 :: oCb x now :: rest)⟩
abbrev aX (x : Cf) : Value := .agg ⟨[.int .i64 x.lim, .int .i64 x.link, .int .i64 x.life, .int .i64 x.least]⟩
abbrev oC3 (x : Cf) : AObj := .cells [.int .i64 x.lim, .int .i64 x.link, .int .i64 x.life, .int .i64 x.least, .int .i64 0, .map (some 3)] false
def kNewP (o0 o1 : AObj) (x : Cf) : CtrN := ⟨[aX x], [o0, o1], Unit, [fun _ => (¬ okC x, .ret (.tuple ⟨[.pointer none, .int .i64 160]⟩), [o0, o1, .dead]), fun _ => (okC x, .ret (.tuple ⟨[.pointer (some ⟨4, 0, none⟩), .int .i64 0]⟩), [o0, o1, .dead, oM [] 0, oC3 x])]⟩
def kNewR3 (o0 o1 o2 : AObj) (x : Cf) : CtrN := ⟨[aX x], [o0, o1, o2], Unit, [fun _ => (¬ okC x, .ret (.tuple ⟨[.pointer none, .int .i64 160]⟩), [o0, o1, o2, .dead]), fun _ => (okC x, .ret (.tuple ⟨[.pointer (some ⟨4, 0, none⟩), .int .i64 0]⟩), [o0, o1, o2, .dead, oS x 0 sN])]⟩
def kNewR5 (o0 o1 o2 o3 o4 : AObj) (x : Cf) : CtrN := ⟨[aX x], [o0, o1, o2, o3, o4], Unit, [fun _ => (¬ okC x, .ret (.tuple ⟨[.pointer none, .int .i64 160]⟩), [o0, o1, o2, o3, o4, .dead]), fun _ => (okC x, .ret (.tuple ⟨[.pointer (some ⟨6, 0, none⟩), .int .i64 0]⟩), [o0, o1, o2, o3, o4, .dead, oS x 0 sN])]⟩
def kAwake (h : AHeap) : Ctr := ⟨[], h, Unit, fun _ => (True, .ret (.bool true), h)⟩

theorem emb_0 {h : AHeap} (he : h.all noE = true) : Emb [] (fun _ => none) [] h :=
  ⟨fun _ _ _ h => (by cases h), by simp, fun _ _ h => (by cases h), fun q ro hq => by
    have := List.all_eq_true.1 he _ (List.mem_of_getElem? hq)
    cases this⟩
section
variable {x : Cf} {now t : Int} {l : List (En × Nat)} {cl n : Nat} {E : List En} {o0 o1 o2 o3 o4 o5 : AObj} {rest h : AHeap}
theorem lenP_ok (HR : Rep cl l (srt l)) (he : nP o0 o1 l cl x now rest) : (kLenP o0 o1 x now l cl rest).asks Try.prog [] 9 := asks_of (prg_ok (lenM_ok HR) rfl he (.cons (.ptr 0 none rfl) .nil))
end
theorem run_new5 (x : Cf) (Q : Res → AHeap → Prop) : ((((decide (x.lim < 1)) = true →
 Q (.ret (.tuple ⟨[(.pointer none), (iv 160)]⟩)) [oX x]) ∧
((decide (x.lim < 1)) = false →
(((decide (x.lim > 4096)) = true →
 Q (.ret (.tuple ⟨[(.pointer none), (iv 160)]⟩)) [oX x]) ∧
((decide (x.lim > 4096)) = false →
(((decide (x.least < 68)) = true →
 Q (.ret (.tuple ⟨[(.pointer none), (iv 160)]⟩)) [oX x]) ∧
((decide (x.least < 68)) = false →
(((decide (x.least > 65535)) = true →
 Q (.ret (.tuple ⟨[(.pointer none), (iv 160)]⟩)) [oX x]) ∧
((decide (x.least > 65535)) = false →
(((decide (x.link < x.least)) = true →
 Q (.ret (.tuple ⟨[(.pointer none), (iv 160)]⟩)) [oX x]) ∧
((decide (x.link < x.least)) = false →
(((decide (x.link > 65535)) = true →
 Q (.ret (.tuple ⟨[(.pointer none), (iv 160)]⟩)) [oX x]) ∧
((decide (x.link > 65535)) = false →
(((decide (x.life < 1)) = true →
 Q (.ret (.tuple ⟨[(.pointer none), (iv 160)]⟩)) [oX x]) ∧
((decide (x.life < 1)) = false →
(((decide (x.life > 2147483648)) = true →
 Q (.ret (.tuple ⟨[(.pointer none), (iv 160)]⟩)) [oX x]) ∧
((decide (x.life > 2147483648)) = false →
 Q (.ret (.tuple ⟨[(pp 2), (iv 0)]⟩)) [oX x, .map [] 0, oS x 0 (.map (some 1))]))))))))))))))))) =
    runS Try.prog [] false [] 0 (SpecC Try.prog []) 20 5 [.agg ⟨[.int .i64 x.lim, .int .i64 x.link, .int .i64 x.life, .int .i64 x.least]⟩] [] .norm (.skip 5 (.ask (.go) (.skip 6 (.ask (.go) (.skip 7 (.ask (.go) (.skip 7 (.ask (.go) (.skip 11 (.ask (.go) (.skip 7 (.ask (.go) (.skip 7 (.ask (.go) (.skip 7 (.ask (.go) (.go))))))))))))))))) (fun r _ h _ => Q r h) := by kernel_rfl
theorem run_new6 (x : Cf) (Q : Res → AHeap → Prop) : ((((decide (x.lim < 1)) = true →
 Q (.ret (.tuple ⟨[(.pointer none), (iv 160)]⟩)) [oX x]) ∧
((decide (x.lim < 1)) = false →
(((decide (x.lim > 4096)) = true →
 Q (.ret (.tuple ⟨[(.pointer none), (iv 160)]⟩)) [oX x]) ∧
((decide (x.lim > 4096)) = false →
(((decide (x.least < 68)) = true →
 Q (.ret (.tuple ⟨[(.pointer none), (iv 160)]⟩)) [oX x]) ∧
((decide (x.least < 68)) = false →
(((decide (x.least > 65535)) = true →
 Q (.ret (.tuple ⟨[(.pointer none), (iv 160)]⟩)) [oX x]) ∧
((decide (x.least > 65535)) = false →
(((decide (x.link < x.least)) = true →
 Q (.ret (.tuple ⟨[(.pointer none), (iv 160)]⟩)) [oX x]) ∧
((decide (x.link < x.least)) = false →
(((decide (x.link > 65535)) = true →
 Q (.ret (.tuple ⟨[(.pointer none), (iv 160)]⟩)) [oX x]) ∧
((decide (x.link > 65535)) = false →
(((decide (x.life < 1)) = true →
 Q (.ret (.tuple ⟨[(.pointer none), (iv 160)]⟩)) [oX x]) ∧
((decide (x.life < 1)) = false →
(((decide (x.life > 2147483648)) = true →
 Q (.ret (.tuple ⟨[(.pointer none), (iv 160)]⟩)) [oX x]) ∧
((decide (x.life > 2147483648)) = false →
 Q (.ret (.tuple ⟨[(pp 1), (iv 0)]⟩)) [oX x, oS x 0 sN]))))))))))))))))) =
    runS Try.prog [] false [] 0 (SpecC Try.prog []) 20 6 [.agg ⟨[.int .i64 x.lim, .int .i64 x.link, .int .i64 x.life, .int .i64 x.least]⟩] [] .norm (.skip 5 (.ask (.go) (.skip 6 (.ask (.go) (.skip 7 (.ask (.go) (.skip 7 (.ask (.go) (.skip 11 (.ask (.go) (.skip 7 (.ask (.go) (.skip 7 (.ask (.go) (.skip 7 (.ask (.go) (.go))))))))))))))))) (fun r _ h _ => Q r h) := by kernel_rfl

abbrev oC1 (x : Cf) : AObj := .cells [.int .i64 x.lim, .int .i64 x.link, .int .i64 x.life, .int .i64 x.least, .int .i64 0, .map (some 1)] false
theorem new5_b {x : Cf} : Fm.Spec Try.prog [] 5 [aX x] [] fun r h' => (¬ okC x ∧ r = .ret (.tuple ⟨[.pointer none, .int .i64 160]⟩) ∧ h' = [.dead]) ∨ (okC x ∧ r = .ret (.tuple ⟨[.pointer (some ⟨2, 0, none⟩), .int .i64 0]⟩) ∧ h' = [.dead, oM [] 0, oC1 x]) := by
  refine Spec.re (spec_T (run_new5 x _) ?_)
  refine ⟨fun h0 => ?_, fun h0 => ?_⟩
  replace h0 := of_decide_eq_true h0
  exact ⟨[0], _, _, [.dead], rfl, by decide, rfl, Nat.zero_le _, ⟨⟨_, rfl, .dead _⟩, trivial⟩, rv_cons .pnil (.int _ _), .inl ⟨fun h => h.1 h0, rfl, rfl⟩⟩
  replace h0 := of_decide_eq_false h0
  refine ⟨fun h1 => ?_, fun h1 => ?_⟩
  replace h1 := of_decide_eq_true h1
  exact ⟨[0], _, _, [.dead], rfl, by decide, rfl, Nat.zero_le _, ⟨⟨_, rfl, .dead _⟩, trivial⟩, rv_cons .pnil (.int _ _), .inl ⟨fun h => h.2.1 h1, rfl, rfl⟩⟩
  replace h1 := of_decide_eq_false h1
  refine ⟨fun h2 => ?_, fun h2 => ?_⟩
  replace h2 := of_decide_eq_true h2
  exact ⟨[0], _, _, [.dead], rfl, by decide, rfl, Nat.zero_le _, ⟨⟨_, rfl, .dead _⟩, trivial⟩, rv_cons .pnil (.int _ _), .inl ⟨fun h => h.2.2.1 h2, rfl, rfl⟩⟩
  replace h2 := of_decide_eq_false h2
  refine ⟨fun h3 => ?_, fun h3 => ?_⟩
  replace h3 := of_decide_eq_true h3
  exact ⟨[0], _, _, [.dead], rfl, by decide, rfl, Nat.zero_le _, ⟨⟨_, rfl, .dead _⟩, trivial⟩, rv_cons .pnil (.int _ _), .inl ⟨fun h => h.2.2.2.1 h3, rfl, rfl⟩⟩
  replace h3 := of_decide_eq_false h3
  refine ⟨fun h4 => ?_, fun h4 => ?_⟩
  replace h4 := of_decide_eq_true h4
  exact ⟨[0], _, _, [.dead], rfl, by decide, rfl, Nat.zero_le _, ⟨⟨_, rfl, .dead _⟩, trivial⟩, rv_cons .pnil (.int _ _), .inl ⟨fun h => h.2.2.2.2.1 h4, rfl, rfl⟩⟩
  replace h4 := of_decide_eq_false h4
  refine ⟨fun h5 => ?_, fun h5 => ?_⟩
  replace h5 := of_decide_eq_true h5
  exact ⟨[0], _, _, [.dead], rfl, by decide, rfl, Nat.zero_le _, ⟨⟨_, rfl, .dead _⟩, trivial⟩, rv_cons .pnil (.int _ _), .inl ⟨fun h => h.2.2.2.2.2.1 h5, rfl, rfl⟩⟩
  replace h5 := of_decide_eq_false h5
  refine ⟨fun h6 => ?_, fun h6 => ?_⟩
  replace h6 := of_decide_eq_true h6
  exact ⟨[0], _, _, [.dead], rfl, by decide, rfl, Nat.zero_le _, ⟨⟨_, rfl, .dead _⟩, trivial⟩, rv_cons .pnil (.int _ _), .inl ⟨fun h => h.2.2.2.2.2.2.1 h6, rfl, rfl⟩⟩
  replace h6 := of_decide_eq_false h6
  refine ⟨fun h7 => ?_, fun h7 => ?_⟩
  replace h7 := of_decide_eq_true h7
  exact ⟨[0], _, _, [.dead], rfl, by decide, rfl, Nat.zero_le _, ⟨⟨_, rfl, .dead _⟩, trivial⟩, rv_cons .pnil (.int _ _), .inl ⟨fun h => h.2.2.2.2.2.2.2 h7, rfl, rfl⟩⟩
  replace h7 := of_decide_eq_false h7
  exact ⟨[0, 1, 2], _, _, [.dead, oM [] 0, oC1 x], rfl, by decide, rfl, Nat.zero_le _, ⟨⟨_, rfl, .dead _⟩, ⟨_, rfl, ro_m [] 0⟩, ⟨_, rfl, .cells false (.cons (.int _ _) (.cons (.int _ _) (.cons (.int _ _) (.cons (.int _ _) (.cons (.int _ _) (.cons (.map rfl) .nil))))))⟩, trivial⟩, rv_cons (.ptr 0 none rfl) (.int _ _), .inr ⟨⟨h0, h1, h2, h3, h4, h5, h6, h7⟩, rfl, rfl⟩⟩
theorem new6_b {x : Cf} : Fm.Spec Try.prog [] 6 [aX x] [] fun r h' => (¬ okC x ∧ r = .ret (.tuple ⟨[.pointer none, .int .i64 160]⟩) ∧ h' = [.dead]) ∨ (okC x ∧ r = .ret (.tuple ⟨[.pointer (some ⟨1, 0, none⟩), .int .i64 0]⟩) ∧ h' = [.dead, oS x 0 sN]) := by
  refine Spec.re (spec_T (run_new6 x _) ?_)
  refine ⟨fun h0 => ?_, fun h0 => ?_⟩
  replace h0 := of_decide_eq_true h0
  exact ⟨[0], _, _, [.dead], rfl, by decide, rfl, Nat.zero_le _, ⟨⟨_, rfl, .dead _⟩, trivial⟩, rv_cons .pnil (.int _ _), .inl ⟨fun h => h.1 h0, rfl, rfl⟩⟩
  replace h0 := of_decide_eq_false h0
  refine ⟨fun h1 => ?_, fun h1 => ?_⟩
  replace h1 := of_decide_eq_true h1
  exact ⟨[0], _, _, [.dead], rfl, by decide, rfl, Nat.zero_le _, ⟨⟨_, rfl, .dead _⟩, trivial⟩, rv_cons .pnil (.int _ _), .inl ⟨fun h => h.2.1 h1, rfl, rfl⟩⟩
  replace h1 := of_decide_eq_false h1
  refine ⟨fun h2 => ?_, fun h2 => ?_⟩
  replace h2 := of_decide_eq_true h2
  exact ⟨[0], _, _, [.dead], rfl, by decide, rfl, Nat.zero_le _, ⟨⟨_, rfl, .dead _⟩, trivial⟩, rv_cons .pnil (.int _ _), .inl ⟨fun h => h.2.2.1 h2, rfl, rfl⟩⟩
  replace h2 := of_decide_eq_false h2
  refine ⟨fun h3 => ?_, fun h3 => ?_⟩
  replace h3 := of_decide_eq_true h3
  exact ⟨[0], _, _, [.dead], rfl, by decide, rfl, Nat.zero_le _, ⟨⟨_, rfl, .dead _⟩, trivial⟩, rv_cons .pnil (.int _ _), .inl ⟨fun h => h.2.2.2.1 h3, rfl, rfl⟩⟩
  replace h3 := of_decide_eq_false h3
  refine ⟨fun h4 => ?_, fun h4 => ?_⟩
  replace h4 := of_decide_eq_true h4
  exact ⟨[0], _, _, [.dead], rfl, by decide, rfl, Nat.zero_le _, ⟨⟨_, rfl, .dead _⟩, trivial⟩, rv_cons .pnil (.int _ _), .inl ⟨fun h => h.2.2.2.2.1 h4, rfl, rfl⟩⟩
  replace h4 := of_decide_eq_false h4
  refine ⟨fun h5 => ?_, fun h5 => ?_⟩
  replace h5 := of_decide_eq_true h5
  exact ⟨[0], _, _, [.dead], rfl, by decide, rfl, Nat.zero_le _, ⟨⟨_, rfl, .dead _⟩, trivial⟩, rv_cons .pnil (.int _ _), .inl ⟨fun h => h.2.2.2.2.2.1 h5, rfl, rfl⟩⟩
  replace h5 := of_decide_eq_false h5
  refine ⟨fun h6 => ?_, fun h6 => ?_⟩
  replace h6 := of_decide_eq_true h6
  exact ⟨[0], _, _, [.dead], rfl, by decide, rfl, Nat.zero_le _, ⟨⟨_, rfl, .dead _⟩, trivial⟩, rv_cons .pnil (.int _ _), .inl ⟨fun h => h.2.2.2.2.2.2.1 h6, rfl, rfl⟩⟩
  replace h6 := of_decide_eq_false h6
  refine ⟨fun h7 => ?_, fun h7 => ?_⟩
  replace h7 := of_decide_eq_true h7
  exact ⟨[0], _, _, [.dead], rfl, by decide, rfl, Nat.zero_le _, ⟨⟨_, rfl, .dead _⟩, trivial⟩, rv_cons .pnil (.int _ _), .inl ⟨fun h => h.2.2.2.2.2.2.2 h7, rfl, rfl⟩⟩
  replace h7 := of_decide_eq_false h7
  exact ⟨[0, 1], _, _, [.dead, oS x 0 sN], rfl, by decide, rfl, Nat.zero_le _, ⟨⟨_, rfl, .dead _⟩, ⟨_, rfl, ro_s (.snil _ _)⟩, trivial⟩, rv_cons (.ptr 0 none rfl) (.int _ _), .inr ⟨⟨h0, h1, h2, h3, h4, h5, h6, h7⟩, rfl, rfl⟩⟩

theorem aX_rv {i : Nat → Option Nat} {x : Cf} : RVs i [aX x] [aX x] := .cons (rv_flat rfl) .nil
theorem newP_ok {x : Cf} {o0 o1 : AObj} (he : ([o0, o1] : AHeap).all noE = true) : (kNewP o0 o1 x).asks Try.prog [] 5 := by
  refine .inl (Spec.mono (Spec.frame (gs' := []) new5_b (emb_0 he) aX_rv (by simp) ?_) ?_)
  · rintro r h' (⟨_, rfl, rfl⟩ | ⟨_, rfl, rfl⟩) <;> rfl
  · rintro r h' ⟨r0, h0', (⟨h1, rfl, rfl⟩ | ⟨h1, rfl, rfl⟩), rfl, rfl⟩
    · exact .inl ⟨(), h1, rfl, rfl⟩
    · exact .inr ⟨(), h1, rfl, rfl⟩
theorem newR3_ok {x : Cf} {o0 o1 o2 : AObj} (he : ([o0, o1, o2] : AHeap).all noE = true) : (kNewR3 o0 o1 o2 x).asks Try.prog [] 6 := by
  refine .inl (Spec.mono (Spec.frame (gs' := []) new6_b (emb_0 he) aX_rv (by simp) ?_) ?_)
  · rintro r h' (⟨_, rfl, rfl⟩ | ⟨_, rfl, rfl⟩) <;> rfl
  · rintro r h' ⟨r0, h0', (⟨h1, rfl, rfl⟩ | ⟨h1, rfl, rfl⟩), rfl, rfl⟩
    · exact .inl ⟨(), h1, rfl, rfl⟩
    · exact .inr ⟨(), h1, rfl, rfl⟩
theorem newR5_ok {x : Cf} {o0 o1 o2 o3 o4 : AObj} (he : ([o0, o1, o2, o3, o4] : AHeap).all noE = true) : (kNewR5 o0 o1 o2 o3 o4 x).asks Try.prog [] 6 := by
  refine .inl (Spec.mono (Spec.frame (gs' := []) new6_b (emb_0 he) aX_rv (by simp) ?_) ?_)
  · rintro r h' (⟨_, rfl, rfl⟩ | ⟨_, rfl, rfl⟩) <;> rfl
  · rintro r h' ⟨r0, h0', (⟨h1, rfl, rfl⟩ | ⟨h1, rfl, rfl⟩), rfl, rfl⟩
    · exact .inl ⟨(), h1, rfl, rfl⟩
    · exact .inr ⟨(), h1, rfl, rfl⟩
theorem run_awake  (Q : Res → Prop) : (Q (.ret (.bool true))) =
    runS Try.prog [] false [] 60 (SpecC Try.prog []) 20 7 [] [] .norm (.go) (fun r _ _ _ => Q r) := by kernel_rfl

theorem awake_ok {h : AHeap} : (kAwake h).asks Try.prog [] 7 := by
  have hf : Fun 7 [] (.bool true) := spec_R (run_awake fun r => r = .ret (.bool true)) rfl
  exact asks_of (Spec.mono (hf.any (by simp) (.bool _) [] h) (by rintro r h' ⟨rfl, rfl⟩; exact ⟨(), trivial, rfl, rfl⟩))
theorem run_sameN  (Q : Res → AHeap → Prop) : (Q (.ret (.bool true)) []) =
    runS Try.prog [] false [] 0 (SpecC Try.prog []) 20 20 [sN, sN] [] .norm (.skip 8 (.unr 60 (.go))) (fun r _ h _ => Q r h) := by kernel_rfl

theorem sameN_ok {h : AHeap} (he : h.all noE = true) : (kSameN h).asks Try.prog [] 20 := by
  refine asks_of (Spec.mono (Spec.frame (gs' := []) (Q0 := fun r h' => r = .ret (.bool true) ∧ h' = []) (spec_T (run_sameN _) ⟨rfl, rfl⟩) (emb_0 he) (.cons (.snil _ _) (.cons (.snil _ _) .nil)) (by simp) ?_) ?_)
  · rintro r h' ⟨rfl, rfl⟩; rfl
  · rintro r h' ⟨r0, h0', ⟨rfl, rfl⟩, rfl, rfl⟩
    refine ⟨(), trivial, rfl, ?_⟩
    show h ++ [] = _
    rw [List.append_nil]; rfl
theorem run_same0  (Q : Res → AHeap → Prop) : (Q (.ret (.bool true)) []) =
    runS Try.prog [] false [] 0 (SpecC Try.prog []) 20 20 [sN, .slice (some ⟨4, 0, none⟩) 0 0] [] .norm (.skip 8 (.unr 60 (.go))) (fun r _ h _ => Q r h) := by kernel_rfl

theorem same0_ok {h : AHeap} (he : h.all noE = true) : (kSame0 h).asks Try.prog [] 20 := by
  refine asks_of (Spec.mono (Spec.frame (gs' := []) (Q0 := fun r h' => r = .ret (.bool true) ∧ h' = []) (spec_T (run_same0 _) ⟨rfl, rfl⟩) (emb_0 he) (.cons (.snil _ _) (.cons (.slice0 _ _ _) .nil)) (by simp) ?_) ?_)
  · rintro r h' ⟨rfl, rfl⟩; rfl
  · rintro r h' ⟨r0, h0', ⟨rfl, rfl⟩, rfl, rfl⟩
    refine ⟨(), trivial, rfl, ?_⟩
    show h ++ [] = _
    rw [List.append_nil]; rfl

noncomputable def neE (e e' : En) : Bool := open Classical in !decide (e = e')
def iSm (n : Nat) (p : Int) : Prop := 0 ≤ p ∧ p ≤ n
def qSm (A : List En) (n : Nat) (p : Int) : Prop × St := (iSm n p, ⟨[(5, .int .i64 p), (4, .bool false), (0, sB 0 n), (1, sB 1 n)], [], [oR A, oR A], .norm⟩)
def mSm (_A : List En) (n : Nat) (p : Int) : Nat := (n - p).toNat
theorem run_same (A : List En) (n : Nat) (Q : Res → AHeap → Prop) : (∀ z1 : Int, z1 = (((n : Nat) : Int)) →
∀ z2 : Int, z2 = (((n : Nat) : Int)) →
(((z1 != z2) = true →
 Q (.ret (.bool false)) [oR A, oR A]) ∧
((z1 != z2) = false →
((someN [] 2 (fun _ => True) ⟨[(5, (iv 0)), (4, (.bool false)), (0, (sl n)), (1, (sB 1 n))], [], [oR A, oR A], .norm⟩ [(qSm A n)]) ∧
(∀ i3, (qSm A n i3).fst →
∀ z4 : Int, z4 = (((n : Nat) : Int)) →
(((decide (i3 < z4)) = true →
(IX n i3 ∧
(LD A i3 ∧
((aIndexAddr Try.prog 41 (sB 1 n) (iv i3) = some (.pointer (some ⟨1, (0 + i3.toNat * 18), none⟩))) ∧
(LD A i3 ∧
((aBin2 Try.prog BinOp.neq 66 (Operand.tmp 20) (Operand.tmp 24) (rv (gx A i3)) (rv (gx A i3)) = some (.bool (neE (gx A i3) (gx A i3)))) ∧
(((neE (gx A i3) (gx A i3)) = true →
 Q (.ret (.bool false)) [oR A, oR A]) ∧
((neE (gx A i3) (gx A i3)) = false →
∀ z5 : Int, z5 = (IntKind.i64.wrap (i3 + 1)) →
(someN [] 2 (fun a' => (mSm A n) a' < (mSm A n) i3) ⟨[(5, (iv z5)), (4, (.bool false)), (0, (sl n)), (1, (sB 1 n))], [], [oR A, oR A], .norm⟩ [(qSm A n)]))))))))) ∧
((decide (i3 < z4)) = false →
 Q (.ret (.bool true)) [oR A, oR A]))))))) =
    runS Try.prog [] false [] 0 (SpecC Try.prog []) 20 20 [sB 0 n, sB 1 n] [oR A, oR A] .norm (.skip 2 (.all (fun _z1 => .skip 1 (.all (fun _z2 => .skip 0 (.ask (.go) (.skip 2 (.invN [5, 4, 0, 1] _ (mSm A n) [(qSm A n)] (fun k => match k with | _ => fun i3 => .skip 2 (.all (fun _z4 => .skip 0 (.ask (.skip 3 (.val (pt i3) (.skip 0 (.val (rv (gx A i3)) (.skip 2 (.val (.pointer (some ⟨1, (0 + i3.toNat * 18), none⟩)) (.skip 0 (.val (rv (gx A i3)) (.skip 0 (.val (.bool (neE (gx A i3) (gx A i3))) (.skip 0 (.ask (.go) (.skip 1 (.all (fun _z5 => .go))))))))))))))) (.go))))))))))))) (fun r _ h _ => Q r h) := by kernel_rfl

noncomputable def flds66 : Array Field := match Try.prog.underlying 66 with
  | some (.struct fs) => fs
  | _ => #[]
theorem fields66 : Try.prog.underlying 66 = some (.struct flds66) := by kernel_rfl
theorem held66 : Try.prog.stoodInHeld 66 = false := by kernel_rfl
theorem guard66 : Try.prog.eqGuardType Try.prog.depth 66 = false := by kernel_rfl
theorem xu3 : Try.prog.underlying 3 = some (.int .i64) := by kernel_rfl
noncomputable def eqRow (A B : Value) (m m' u u' : Int) : Option Bool :=
  (semPure Try.prog (Op.equalIn 9999 35 A B)).bind fun q => if q = true then (semPure Try.prog (Op.equalIn 9999 3 (.int .i64 m) (.int .i64 m'))).bind fun q => if q = true then (semPure Try.prog (Op.equalIn 9999 3 (.int .i64 u) (.int .i64 u'))).bind fun q => if q = true then some true else some false else some false else some false
theorem eqf66 (e e' : En) : eqFields Try.prog 9999 ⟨rowE e⟩ ⟨rowE e'⟩ flds66.toList = eqRow (.agg ⟨rowA e.d⟩) (.agg ⟨rowA e'.d⟩) e.m e'.m e.u e'.u := by kernel_rfl
theorem neq_self (a b : Operand) (e : En) : aBin2 Try.prog .neq 66 a b (.agg ⟨rowE e⟩) (.agg ⟨rowE e⟩) = some (.bool (neE e e)) := by
  have h := equalIn_struct 9999 (P := Try.prog) (t := 66) ⟨rowE e⟩ ⟨rowE e⟩ fields66 held66
  rw [eqf66] at h
  unfold eqRow at h
  have h1 : semPure Try.prog (Op.equalIn 9999 35 (.agg ⟨rowA e.d⟩) (.agg ⟨rowA e.d⟩)) = some (decide (e.d.l = e.d.l)) := eq_ints (P := Try.prog) (d := 9997) (k := .u8) xu35 xu5 xz5 xg5 (l := e.d.l) (l' := e.d.l) rfl rfl
  have h2 : ∀ z : Int, semPure Try.prog (Op.equalIn 9999 3 (.int .i64 z) (.int .i64 z)) = some (z == z) := fun z => semPure_int (d := 9998) xu3 z z
  rw [h1, h2, h2] at h
  simp only [decide_true, Option.bind_some, if_true, beq_self_eq_true] at h
  have := aBin2_neq_agg (ox := a) (oy := b) rfl rfl guard66 h
  rw [this]
  unfold neE
  simp
theorem emb_rr {h : AHeap} {a b : Nat} {A : List En} (hab : a ≠ b) (ha : h[a]? = some (oR A)) (hb : h[b]? = some (oR A)) (he : h.all noE = true) : Emb [] (two a b) [oR A, oR A] h := by
  refine ⟨?_, by simp, ?_, ?_⟩
  · intro y z q hy hz
    rcases two_cases hy with ⟨rfl, rfl⟩ | ⟨rfl, rfl⟩ <;> rcases two_cases hz with ⟨rfl, h2⟩ | ⟨rfl, h2⟩
    · rfl
    · exact absurd h2 hab
    · exact absurd h2.symm hab
    · rfl
  · intro y q hy
    rcases two_cases hy with ⟨rfl, rfl⟩ | ⟨rfl, rfl⟩
    · exact ⟨_, _, rfl, ha, ro_r _⟩
    · exact ⟨_, _, rfl, hb, ro_r _⟩
  · intro q ro hq
    have := List.all_eq_true.1 he _ (List.mem_of_getElem? hq)
    cases this
theorem same_b {A : List En} {n : Nat} (hl : A.length = n) (hb : n < 2 ^ 20) : Fm.Spec Try.prog [] 20 [sB 0 n, sB 1 n] [oR A, oR A] fun r h' => r = .ret (.bool true) ∧ h' = [oR A, oR A] := by
  refine spec_T (run_same A n _) ?_
  intro z1 hz1
  replace hz1 : z1 = (n : Int) := hz1
  subst hz1
  intro z2 hz2
  replace hz2 : z2 = (n : Int) := hz2
  subst hz2
  refine ⟨fun h0 => ?_, fun h0 => ?_⟩
  simp at h0
  refine ⟨?_, ?_⟩
  exact ⟨0, ⟨Int.le_refl _, Int.natCast_nonneg n⟩, trivial, Gc.same⟩
  intro i3 hi3
  replace hi3 : iSm n i3 := hi3
  obtain ⟨f1, f2⟩ := id hi3
  intro z4 hz4
  replace hz4 : z4 = (n : Int) := hz4
  subst hz4
  refine ⟨fun h1 => ?_, fun h1 => ?_⟩
  replace h1 := of_decide_eq_true h1
  refine ⟨ixb (by omega) (by omega), ?_⟩
  refine ⟨lda (by omega), ?_⟩
  refine ⟨ixb (by omega) (by omega), ?_⟩
  refine ⟨lda (by omega), ?_⟩
  refine ⟨neq_self _ _ _, ?_⟩
  refine ⟨fun h2 => ?_, fun h2 => ?_⟩
  unfold neE at h2; simp at h2
  intro z5 hz5
  rw [wr (by omega) (by omega)] at hz5
  subst hz5
  exact ⟨i3 + 1, ⟨by omega, by omega⟩, by show (n - (i3 + 1)).toNat < (n - i3).toNat; omega, Gc.same⟩
  replace h1 := of_decide_eq_false h1
  exact ⟨rfl, rfl⟩
theorem sameB_ok {o0 o1 o2 o3 o4 o5 o6 o8 : AObj} {A B : List En} {n m : Nat} (hAB : A = B) (hn : A.length = n) (hm : B.length = m) (hb : n < 2 ^ 20) (he : ([o0, o1, o2, o3, o4, o5, o6, oR A, o8, oR B] : AHeap).all noE = true) : (kSameB o0 o1 o2 o3 o4 o5 o6 o8 A B n m).asks Try.prog [] 20 := by
  subst hAB
  subst hm
  subst hn
  refine asks_of (Spec.mono (Spec.frame (gs' := []) (same_b rfl hb) (emb_rr (a := 7) (b := 9) (by decide) rfl rfl he) (.cons (.slice _ _ _ _ rfl) (.cons (.slice _ _ _ _ rfl) .nil)) (by simp) ?_) ?_)
  · rintro r h' ⟨rfl, rfl⟩; rfl
  · have hr1 : ∀ (f : Nat → Nat) N, updO f N (some (oR A)) (some (oR A)) = oR A := fun f N => upd_r (f := f) (n := N) A
    rintro r h' ⟨r0, h0', ⟨rfl, rfl⟩, rfl, rfl⟩
    refine ⟨(), trivial, rfl, ?_⟩
    have e0 : putH (two 7 9) 2 [oR A, oR A] [o0, o1, o2, o3, o4, o5, o6, oR A, o8, oR A] = [o0, o1, o2, o3, o4, o5, o6, updO (renB (two 7 9) 2 10) 2 (some (oR A)) (some (oR A)), o8, updO (renB (two 7 9) 2 10) 2 (some (oR A)) (some (oR A))] := rfl
    rw [hr1] at e0
    exact e0

end Go.Proofs.Ytcdmnmpiipmfmaa
