/-
  The reference's inner contracts laid into a greater heap; begin and mtu. Conditions: no empty block among the objects; fewer than 2^20 entries.
-/
import Derived.Test.YtcdmnmpiipmfmaaRf1
namespace Go.Proofs.Ytcdmnmpiipmfmaa
open Go.Fm

theorem one_some {a x q : Nat} (h : one a x = some q) : x = 0 ∧ q = a := by
  unfold one at h
  split at h
  · injection h with h; exact ⟨by assumption, h.symm⟩
  · cases h
theorem emb_n {h : AHeap} {a : Nat} {x : Cf} {now : Int} (ha : h[a]? = some (oS x now sN)) (he : h.all noE = true) : Emb [] (one a) (hN x now) h := by
  refine ⟨?_, by simp, ?_, ?_⟩
  · intro y z q hy hz
    rw [(one_some hy).1, (one_some hz).1]
  · intro y q hy
    obtain ⟨rfl, rfl⟩ := one_some hy
    exact ⟨_, _, rfl, ha, ro_s (.snil _ _)⟩
  · intro q ro hq
    have := List.all_eq_true.1 he _ (List.mem_of_getElem? hq)
    cases this
theorem emb_b {h : AHeap} {a b : Nat} {x : Cf} {now : Int} {E : List En} {n : Nat} (hab : a ≠ b) (ha : h[a]? = some (oS x now (sB b n))) (hb : h[b]? = some (oR E)) (he : h.all noE = true) : Emb [] (two a b) (hB x now E n) h := by
  refine ⟨?_, by simp, ?_, ?_⟩
  · intro y z q hy hz
    rcases two_cases hy with ⟨rfl, rfl⟩ | ⟨rfl, rfl⟩ <;> rcases two_cases hz with ⟨rfl, h2⟩ | ⟨rfl, h2⟩
    · rfl
    · exact absurd h2 hab
    · exact absurd h2.symm hab
    · rfl
  · intro y q hy
    rcases two_cases hy with ⟨rfl, rfl⟩ | ⟨rfl, rfl⟩
    · exact ⟨_, _, rfl, ha, ro_s (.slice _ _ _ _ rfl)⟩
    · exact ⟨_, _, rfl, hb, ro_r _⟩
  · intro q ro hq
    have := List.all_eq_true.1 he _ (List.mem_of_getElem? hq)
    cases this
theorem scope8 {v : Value} (h : scopeV 0 8 v = true) (n : Nat) : scopeV n 8 v = true := scope_up 8 h
theorem fr_n {f : FuncId} {args0 args : List Value} {x : Cf} {now n' : Int} {v : Value} {h : AHeap} {a : Nat} (hs : Fm.Spec Try.prog [] f args0 (hN x now) fun r h' => r = .ret v ∧ h' = hN x n')
    (hv : scopeV 0 8 v = true) (ha : h[a]? = some (oS x now sN)) (he : h.all noE = true) (hr : RVs (one a) args0 args) : Fm.Spec Try.prog [] f args h fun r h' => r = .ret v ∧ h' = h.set a (oS x n' sN) := by
  refine Spec.mono (Spec.frame (gs' := []) hs (emb_n ha he) hr (by simp) ?_) ?_
  · rintro r h0' ⟨rfl, rfl⟩
    exact scope8 hv _
  · rintro r h' ⟨r0, h0', ⟨rfl, rfl⟩, rfl, rfl⟩
    refine ⟨?_, ?_⟩
    · show Res.ret (renV _ 8 v) = _
      rw [renV_flat 8 hv]
    · show h.set a (updO _ _ h[a]? (some (oS x n' sN))) ++ [] = _
      rw [ha, List.append_nil]; rfl
/-- a row gone on -/
def RowTo (h0 h' : AHeap) (a : Nat) (x : Cf) (n' : Int) (c : Value) (E' : List En) (ch : Bool) : Prop :=
  (ch = true ∧ E' = [] ∧ h' = h0.set a (oS x n' sN)) ∨ (ch = true ∧ E' ≠ [] ∧ h' = h0.set a (oS x n' (sB h0.length E'.length)) ++ [oR E']) ∨ (ch = false ∧ h' = h0.set a (oS x n' c))
theorem fr_b {f : FuncId} {args0 args : List Value} {x : Cf} {now n' : Int} {E E' : List En} {n : Nat} {v : Value} {h : AHeap} {a b : Nat} {ch : Bool} (hs : Fm.Spec Try.prog [] f args0 (hB x now E n) fun r h' => r = .ret v ∧ RowTo (hB x now E n) h' 0 x n' (sB 1 n) E' ch)
    (hv : scopeV 0 8 v = true) (hab : a ≠ b) (ha : h[a]? = some (oS x now (sB b n))) (hb : h[b]? = some (oR E)) (he : h.all noE = true) (hr : RVs (two a b) args0 args) :
    Fm.Spec Try.prog [] f args h fun r h' => r = .ret v ∧ RowTo h h' a x n' (sB b n) E' ch := by
  have hbs : ∀ o, (h.set a o).set b (oR E) = h.set a o := fun o => by
    obtain ⟨hlt, e⟩ := List.getElem?_eq_some_iff.1 hb
    have : (h.set a o)[b]? = some (oR E) := by rw [List.getElem?_set_ne hab]; exact hb
    obtain ⟨hlt2, e2⟩ := List.getElem?_eq_some_iff.1 this
    conv => lhs; rw [← e2]
    exact List.set_getElem_self hlt2
  have hrr : ∀ f N, updO f N h[b]? (some (oR E)) = oR E := fun f N => by rw [hb]; exact upd_r (f := f) (n := N) E
  refine Spec.mono (Spec.frame (gs' := []) hs (emb_b hab ha hb he) hr (by simp) ?_) ?_
  · rintro r h0' ⟨rfl, _⟩
    exact scope8 hv _
  · rintro r h' ⟨r0, h0', ⟨rfl, hc⟩, rfl, rfl⟩
    refine ⟨?_, ?_⟩
    · show Res.ret (renV _ 8 v) = _
      rw [renV_flat 8 hv]
    · rcases hc with ⟨h0, h1, rfl⟩ | ⟨h0, h1, rfl⟩ | ⟨h0, rfl⟩
      · refine .inl ⟨h0, h1, ?_⟩
        show (h.set a (updO _ _ h[a]? (some (oS x n' sN)))).set b (updO _ _ h[b]? (some (oR E))) ++ [] = _
        rw [hrr, hbs, ha, List.append_nil]; rfl
      · refine .inr (.inl ⟨h0, h1, ?_⟩)
        show (h.set a (updO _ _ h[a]? (some (oS x n' (sB 2 E'.length))))).set b (updO _ _ h[b]? (some (oR E))) ++ [updO _ _ none (some (oR E'))] = _
        rw [hrr, hbs, ha, upd_r]; rfl
      · refine .inr (.inr ⟨h0, ?_⟩)
        show (h.set a (updO _ _ h[a]? (some (oS x n' (sB 1 n))))).set b (updO _ _ h[b]? (some (oR E))) ++ [] = _
        rw [hrr, hbs, ha, List.append_nil]; rfl

theorem fr_b0 {f : FuncId} {args0 args : List Value} {x : Cf} {now : Int} {E : List En} {n : Nat} {v : Value} {h : AHeap} {a b : Nat} (hs : Fm.Spec Try.prog [] f args0 (hB x now E n) fun r h' => r = .ret v ∧ h' = hB x now E n)
    (hv : scopeV 0 8 v = true) (hab : a ≠ b) (ha : h[a]? = some (oS x now (sB b n))) (hb : h[b]? = some (oR E)) (he : h.all noE = true) (hr : RVs (two a b) args0 args) :
    Fm.Spec Try.prog [] f args h fun r h' => r = .ret v ∧ h' = h := by
  refine Spec.mono (fr_b (E' := E) (n' := now) (ch := false) (Spec.mono hs ?_) hv hab ha hb he hr) ?_
  · rintro r h' ⟨rfl, rfl⟩; exact ⟨rfl, .inr (.inr ⟨rfl, rfl⟩)⟩
  · rintro r h' ⟨rfl, (⟨h0, _⟩ | ⟨h0, _⟩ | ⟨_, rfl⟩)⟩
    · cases h0
    · cases h0
    · refine ⟨rfl, ?_⟩
      obtain ⟨hlt, e⟩ := List.getElem?_eq_some_iff.1 ha
      rw [← e]; exact List.set_getElem_self hlt
def kTdN (x : Cf) (now t : Int) : Ctr := ⟨[pR, .int .i64 t], hN x now, Unit, fun _ => (True, .ret unitV, hN x now)⟩
noncomputable def kTdB (x : Cf) (now t : Int) (E : List En) (n : Nat) : CtrN := ⟨[pR, .int .i64 t], hB x now E n, List En, [fun _ => (tidyE t E = [], .ret unitV, [oS x now sN, oR E]), fun r => (r = tidyE t E ∧ r ≠ [], .ret unitV, [oS x now (sB 2 r.length), oR E, oR r])]⟩
noncomputable def kAtN (o : AObj) (x : Cf) (now : Int) (D : Ad) : Ctr := ⟨[pR, .agg ⟨rowA D⟩], [oS x now sN, o], Unit, fun _ => (True, .ret (.int .i64 (atM D [])), [oS x now sN, o])⟩
noncomputable def kAtB (o : AObj) (x : Cf) (now : Int) (E : List En) (n : Nat) (D : Ad) : Ctr := ⟨[pR, .agg ⟨rowA D⟩], [oS x now (sB 1 n), oR E, o], Unit, fun _ => (True, .ret (.int .i64 (atM D E)), [oS x now (sB 1 n), oR E, o])⟩

theorem tdN_ok {x : Cf} {now t : Int} : (kTdN x now t).asks Try.prog [] 37 := asks_of (Spec.mono tidyN_ok (by rintro r h' ⟨rfl, rfl⟩; exact ⟨(), trivial, rfl, rfl⟩))
theorem tdB_ok {x : Cf} {now t : Int} {E : List En} {n : Nat} (hl : E.length = n) (hb : n < 2 ^ 20) : (kTdB x now t E n).asks Try.prog [] 37 := by
  refine .inl (Spec.mono (tidyB_ok hl hb) ?_)
  rintro r h' ⟨rfl, (⟨h1, rfl⟩ | ⟨h1, rfl⟩)⟩
  · exact .inl ⟨[], h1, rfl, rfl⟩
  · exact .inr ⟨_, ⟨rfl, h1⟩, rfl, rfl⟩
theorem noE2 {x : Cf} {now : Int} {v : Value} {o : AObj} (h : noE o = true) : ([oS x now v, o] : AHeap).all noE = true := by
  show (noE _ && (noE o && true)) = true
  rw [h]; rfl
theorem noER (E : List En) : noE (oR E) = true := rfl
theorem noE3 {x : Cf} {now : Int} {v : Value} {o o2 : AObj} (h : noE o = true) (h2 : noE o2 = true) : ([oS x now v, o, o2] : AHeap).all noE = true := by
  show (noE _ && (noE o && (noE o2 && true))) = true
  rw [h, h2]; rfl
theorem rowA_flat (D : Ad) : scopeV 0 8 (.agg ⟨rowA D⟩) = true := rfl
theorem atN1_ok {o : AObj} {x : Cf} {now : Int} {D : Ad} (ho : noE o = true) : (kAtN o x now D).asks Try.prog [] 33 :=
  asks_of (Spec.mono (fr_n (h := [oS x now sN, o]) (a := 0) atN_ok rfl rfl (noE2 ho) (.cons (.ptr 0 none rfl) (.cons (rv_flat (rowA_flat D)) .nil))) (by rintro r h' ⟨rfl, rfl⟩; exact ⟨(), trivial, rfl, rfl⟩))
theorem atB1_ok {o : AObj} {x : Cf} {now : Int} {E : List En} {n : Nat} {D : Ad} (hl : E.length = n) (hb : n < 2 ^ 20) (ho : noE o = true) : (kAtB o x now E n D).asks Try.prog [] 33 :=
  asks_of (Spec.mono (fr_b0 (h := [oS x now (sB 1 n), oR E, o]) (a := 0) (b := 1) (atB_ok hl hb) rfl (by decide) rfl rfl (noE3 (noER E) ho) (.cons (.ptr 0 none rfl) (.cons (rv_flat (rowA_flat D)) .nil))) (by rintro r h' ⟨rfl, rfl⟩; exact ⟨(), trivial, rfl, rfl⟩))
theorem at_cases (D : Ad) : ∀ E : List En, (E.findIdx? (isD D) = none ∧ E.find? (isD D) = none) ∨ ∃ i, E.findIdx? (isD D) = some i ∧ i < E.length ∧ E.find? (isD D) = some (E.getD i default)
  | [] => .inl ⟨rfl, rfl⟩
  | a :: E => by
    rw [List.findIdx?_cons, List.find?_cons]
    cases ha : isD D a with
    | true => exact .inr ⟨0, rfl, by simp, rfl⟩
    | false =>
      rcases at_cases D E with ⟨h1, h2⟩ | ⟨i, h1, h2, h3⟩
      · exact .inl ⟨by rw [h1]; rfl, h2⟩
      · exact .inr ⟨i + 1, by rw [h1]; rfl, by simpa using h2, by rw [h3]; rfl⟩
theorem at_no {D : Ad} {E : List En} (h : atM D E < 0) : E.find? (isD D) = none ∧ atM D E = -1 := by
  unfold atM at h ⊢
  rcases at_cases D E with ⟨h1, h2⟩ | ⟨i, h1, h2, h3⟩
  · rw [h1]; exact ⟨h2, rfl⟩
  · rw [h1] at h; have h : ((i : Nat) : Int) < 0 := h; omega
theorem at_yes {D : Ad} {E : List En} (h : ¬ atM D E < 0) : 0 ≤ atM D E ∧ atM D E < E.length ∧ E.find? (isD D) = some (E.getD (atM D E).toNat default) := by
  unfold atM at h ⊢
  rcases at_cases D E with ⟨h1, h2⟩ | ⟨i, h1, h2, h3⟩
  · rw [h1] at h; exact absurd (by decide) h
  · rw [h1]
    refine ⟨Int.natCast_nonneg i, by show ((i : Nat) : Int) < _; omega, ?_⟩
    exact h3
theorem look_no {D : Ad} {x : Cf} {E : List En} (h : atM D E < 0) : lookE D x E = x.link := by unfold lookE; rw [(at_no h).1]; rfl
theorem look_yes {D : Ad} {x : Cf} {E : List En} (h : ¬ atM D E < 0) : lookE D x E = (E.getD (atM D E).toNat default).m := by unfold lookE; rw [(at_yes h).2.2]; rfl
def bgE (t now : Int) : Int := if errT t now then 153 else 0
def bgT (t now : Int) : Int := if errT t now then now else t
theorem bgE_err {t now : Int} (h : errT t now) : bgE t now = 153 := if_pos h
theorem bgT_err {t now : Int} (h : errT t now) : bgT t now = now := if_pos h
theorem bgE_ok {t now : Int} (h : ¬ errT t now) : bgE t now = 0 := if_neg h
theorem bgT_ok {t now : Int} (h : ¬ errT t now) : bgT t now = t := if_neg h
theorem run_beginN (x : Cf) (now : Int) (t : Int) (Q : Res → AHeap → Prop) : ((((decide (t < now)) = true →
 Q (.ret (iv 153)) [oS x now sN]) ∧
((decide (t < now)) = false →
(((decide (t > 1099511627776)) = true →
 Q (.ret (iv 153)) [oS x now sN]) ∧
((decide (t > 1099511627776)) = false →
((kTdN x now t).asks Try.prog [] 37 ∧
∀ _ : Unit, (True) →
 Q (.ret (iv 0)) [oS x t sN])))))) =
    runS Try.prog [] false [37] 0 (SpecC Try.prog []) 20 25 [pR, .int .i64 t] (hN x now) .norm (.skip 6 (.ask (.go) (.skip 4 (.ask (.go) (.skip 4 (.call (Unit) (kTdN x now t).post fun _ => .go)))))) (fun r _ h _ => Q r h) := by kernel_rfl

theorem beginN_ok {x : Cf} {now t : Int} : Fm.Spec Try.prog [] 25 [pR, .int .i64 t] (hN x now) fun r h' => r = .ret (.int .i64 (bgE t now)) ∧ h' = hN x (bgT t now) := by
  refine spec_T (run_beginN x now t _) ?_
  refine ⟨fun h0 => ?_, fun h0 => ?_⟩
  replace h0 := of_decide_eq_true h0
  rw [bgE_err (.inl h0), bgT_err (.inl h0)]; exact ⟨rfl, rfl⟩
  replace h0 := of_decide_eq_false h0
  refine ⟨fun h1 => ?_, fun h1 => ?_⟩
  replace h1 := of_decide_eq_true h1
  rw [bgE_err (.inr h1), bgT_err (.inr h1)]; exact ⟨rfl, rfl⟩
  replace h1 := of_decide_eq_false h1
  refine ⟨tdN_ok, ?_⟩
  intro _ _
  rw [bgE_ok (errT_no h0 h1), bgT_ok (errT_no h0 h1)]
  exact ⟨rfl, rfl⟩
theorem run_beginB (x : Cf) (now : Int) (E : List En) (n : Nat) (t : Int) (Q : Res → AHeap → Prop) : ((((decide (t < now)) = true →
 Q (.ret (iv 153)) [oS x now (sB 1 n), oR E]) ∧
((decide (t < now)) = false →
(((decide (t > 1099511627776)) = true →
 Q (.ret (iv 153)) [oS x now (sB 1 n), oR E]) ∧
((decide (t > 1099511627776)) = false →
((kTdB x now t E n).asks Try.prog [] 37 ∧
(∀ _ : List En, (tidyE t E = []) →
 Q (.ret (iv 0)) [oS x t sN, oR E]) ∧
(∀ i1 : List En, (i1 = tidyE t E ∧
 i1 ≠ []) →
 Q (.ret (iv 0)) [oS x t (sB 2 i1.length), oR E, oR i1]))))))) =
    runS Try.prog [] false [37] 0 (SpecC Try.prog []) 20 25 [pR, .int .i64 t] (hB x now E n) .norm (.skip 6 (.ask (.go) (.skip 4 (.ask (.go) (.skip 4 (.callN (List En) (kTdB x now t E n).posts (fun k => match k with | 0 => fun _i1 => .go | _ => fun _i1 => .go))))))) (fun r _ h _ => Q r h) := by kernel_rfl

theorem beginB_ok {x : Cf} {now t : Int} {E : List En} {n : Nat} (hl : E.length = n) (hb : n < 2 ^ 20) : Fm.Spec Try.prog [] 25 [pR, .int .i64 t] (hB x now E n) fun r h' => r = .ret (.int .i64 (bgE t now)) ∧ RowTo (hB x now E n) h' 0 x (bgT t now) (sB 1 n) (tidyE t E) (decide (¬ errT t now)) := by
  refine spec_T (run_beginB x now E n t _) ?_
  refine ⟨fun h0 => ?_, fun h0 => ?_⟩
  replace h0 := of_decide_eq_true h0
  rw [bgE_err (.inl h0), bgT_err (.inl h0)]; exact ⟨rfl, .inr (.inr ⟨decide_eq_false (fun h => h (.inl h0)), rfl⟩)⟩
  replace h0 := of_decide_eq_false h0
  refine ⟨fun h1 => ?_, fun h1 => ?_⟩
  replace h1 := of_decide_eq_true h1
  rw [bgE_err (.inr h1), bgT_err (.inr h1)]; exact ⟨rfl, .inr (.inr ⟨decide_eq_false (fun h => h (.inr h1)), rfl⟩)⟩
  replace h1 := of_decide_eq_false h1
  refine ⟨tdB_ok hl hb, ?_⟩
  refine ⟨?_, ?_⟩
  intro _ h_
  rw [bgE_ok (errT_no h0 h1), bgT_ok (errT_no h0 h1)]
  exact ⟨rfl, .inl ⟨decide_eq_true (errT_no h0 h1), h_, rfl⟩⟩
  intro i1 hi1
  rw [bgE_ok (errT_no h0 h1), bgT_ok (errT_no h0 h1)]
  obtain ⟨rfl, hne⟩ := hi1
  exact ⟨rfl, .inr (.inl ⟨decide_eq_true (errT_no h0 h1), hne, rfl⟩)⟩
theorem run_mtuN (x : Cf) (now : Int) (D : Ad) (Q : Res → AHeap → Prop) : (((kAtN (oA D) x now D).asks Try.prog [] 33 ∧
∀ _ : Unit, (True) →
(((decide (atM D [] < 0)) = true →
 Q (.ret (iv x.link)) [oS x now sN, oA D]) ∧
((decide (atM D [] < 0)) = false →
 False)))) =
    runS Try.prog [] false [33] 0 (SpecC Try.prog []) 20 26 [pR, .agg ⟨rowA D⟩] (hN x now) .norm (.skip 4 (.call (Unit) (kAtN (oA D) x now D).post fun _ => .skip 2 (.ask (.go) (.go)))) (fun r _ h _ => Q r h) := by kernel_rfl

theorem mtuN_ok {x : Cf} {now : Int} {D : Ad} : Fm.Spec Try.prog [] 26 [pR, .agg ⟨rowA D⟩] (hN x now) fun r h' => r = .ret (.int .i64 (lookE D x [])) ∧ h' = hN x now := by
  refine Spec.re (spec_T (run_mtuN x now D _) ?_)
  refine ⟨atN1_ok rfl, ?_⟩
  intro _ _
  refine ⟨fun h0 => ?_, fun h0 => ?_⟩
  replace h0 := of_decide_eq_true h0
  exact ⟨[0], _, _, hN x now, rfl, by decide, rfl, Nat.le_refl _, ⟨⟨_, rfl, ro_s (.snil _ _)⟩, trivial⟩, rv_flat rfl, by rw [look_no h0], rfl⟩
  exact absurd (show (-1 : Int) < 0 by decide) (of_decide_eq_false h0)
theorem run_mtuB (x : Cf) (now : Int) (E : List En) (n : Nat) (D : Ad) (Q : Res → AHeap → Prop) : (((kAtB (oA D) x now E n D).asks Try.prog [] 33 ∧
∀ _ : Unit, (True) →
(((decide (atM D E < 0)) = true →
 Q (.ret (iv x.link)) [oS x now (sB 1 n), oR E, oA D]) ∧
((decide (atM D E < 0)) = false →
((aIndexAddr Try.prog 41 (sB 1 n) (iv (atM D E)) = some (.pointer (some ⟨1, (0 + (atM D E).toNat * 18), none⟩))) ∧
((∃ z1 : Int, aLoad Try.prog 3 (.pointer (some ⟨0, (0 + (atM D E).toNat * 18 + 16), none⟩)) (hp E) = some (iv z1)) ∧
∀ z1 : Int, aLoad Try.prog 3 (.pointer (some ⟨0, (0 + (atM D E).toNat * 18 + 16), none⟩)) (hp E) = some (iv z1) →
 Q (.ret (iv z1)) [oS x now (sB 1 n), oR E, oA D])))))) =
    runS Try.prog [] false [33] 0 (SpecC Try.prog []) 20 26 [pR, .agg ⟨rowA D⟩] (hB x now E n) .norm (.skip 4 (.call (Unit) (kAtB (oA D) x now E n D).post fun _ => .skip 2 (.ask (.go) (.skip 6 (.val (.pointer (some ⟨1, (0 + (atM D E).toNat * 18), none⟩)) (.skip 1 (.gen (Int) (fun x => .int .i64 x) fun _z1 => .go))))))) (fun r _ h _ => Q r h) := by kernel_rfl

theorem mtuB_ok {x : Cf} {now : Int} {E : List En} {n : Nat} {D : Ad} (hl : E.length = n) (hb : n < 2 ^ 20) : Fm.Spec Try.prog [] 26 [pR, .agg ⟨rowA D⟩] (hB x now E n) fun r h' => r = .ret (.int .i64 (lookE D x E)) ∧ h' = hB x now E n := by
  refine Spec.re (spec_T (run_mtuB x now E n D _) ?_)
  refine ⟨atB1_ok hl hb rfl, ?_⟩
  intro _ _
  refine ⟨fun h0 => ?_, fun h0 => ?_⟩
  replace h0 := of_decide_eq_true h0
  exact ⟨[0, 1], _, _, hB x now E n, rfl, by decide, rfl, Nat.le_refl _, ⟨⟨_, rfl, ro_s (.slice _ _ _ _ rfl)⟩, ⟨_, rfl, ro_r _⟩, trivial⟩, rv_flat rfl, by rw [look_no h0], rfl⟩
  replace h0 := of_decide_eq_false h0
  obtain ⟨g1, g2, _⟩ := at_yes h0
  refine ⟨ixb (by omega) (by omega), ?_⟩
  refine ⟨⟨_, ldm (by omega)⟩, ?_⟩
  intro z1 hz1
  have ez1 := gI (hz1.symm.trans (ldm (by omega)))
  subst ez1
  exact ⟨[0, 1], _, _, hB x now E n, rfl, by decide, rfl, Nat.le_refl _, ⟨⟨_, rfl, ro_s (.slice _ _ _ _ rfl)⟩, ⟨_, rfl, ro_r _⟩, trivial⟩, rv_flat rfl, by rw [look_yes h0], rfl⟩

end Go.Proofs.Ytcdmnmpiipmfmaa
