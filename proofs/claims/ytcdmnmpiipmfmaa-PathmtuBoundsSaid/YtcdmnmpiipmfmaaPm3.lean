/-
  The cache's entries by their addresses (all), the first one of those that end first (MinFunc). Conditions: WF, addresses are of bytes, fewer than 2^20 entries.
-/
import Derived.Test.YtcdmnmpiipmfmaaPm2
namespace Go.Proofs.Ytcdmnmpiipmfmaa
open Go.Fm

/-! ## contracts laid into a greater heap -/

def noE : AObj → Bool
  | .cells [] _ => false
  | _ => true
theorem renV_flat {f : Nat → Nat} : ∀ (n : Nat) {v : Value}, scopeV 0 n v = true → renV f n v = v
  | 0, _, h => by simp [scopeV] at h
  | n + 1, v, h => by
    have arr : ∀ x : Array Value, x.toList.all (scopeV 0 n) = true → (⟨x.toList.map (renV f n)⟩ : Array Value) = x := by
      intro x hx
      have : x.toList.map (renV f n) = x.toList := by
        conv => rhs; rw [← List.map_id x.toList]
        refine List.map_congr_left fun a ha => renV_flat n (List.all_eq_true.1 hx a ha)
      rw [this]
    unfold scopeV at h
    unfold renV
    cases v with
    | pointer a => cases a with
      | none => rfl
      | some a => simp [Nat.blt] at h
    | slice a l c => cases a with
      | none => rfl
      | some a => simp [Nat.blt] at h
    | map r => cases r with
      | none => rfl
      | some r => simp [Nat.blt] at h
    | iface t v => exact congrArg _ (renV_flat n h)
    | agg x => exact congrArg _ (arr x h)
    | tuple x => exact congrArg _ (arr x h)
    | func g x y =>
      cases g with
      | func g =>
        simp only [Bool.and_eq_true] at h
        show Value.func _ _ _ = _
        rw [arr x h.1, arr y h.2]
      | yield l =>
        obtain ⟨x⟩ := x; obtain ⟨y⟩ := y
        cases x <;> cases y <;> simp [Nat.blt] at h
      | _ => rfl
    | _ => rfl
theorem rw_ren (f : Nat → Nat) (l : List En) : (rwl rowE l).map (renV f 8) = rwl rowE l := by
  unfold rwl
  rw [List.map_flatMap]; rfl
theorem rw_scope (n : Nat) (l : List En) : (rwl rowE l).all (scopeV n 8) = true := scope_rw rowE_flat l 66 (some 0)
def one (b : Nat) : Nat → Option Nat := fun x => if x = 0 then some b else none
theorem one_inj {b x y q : Nat} (hx : one b x = some q) (hy : one b y = some q) : x = y := by
  have hx0 : x = 0 := by
    by_cases h : x = 0
    · exact h
    · simp [one, h] at hx
  have hy0 : y = 0 := by
    by_cases h : y = 0
    · exact h
    · simp [one, h] at hy
  rw [hx0, hy0]
theorem emb_row {h : AHeap} {b : Nat} {l : List En} (hb : h[b]? = some (.tcells (rwl rowE l) 66 (some 0))) (he : h.all noE = true) : Emb [] (one b) (hp l) h := by
  refine ⟨fun x y q hx hy => one_inj hx hy, by simp, ?_, ?_⟩
  · intro x q hx
    simp only [one] at hx
    split at hx
    · rename_i h0; subst h0
      injection hx with hx; subst hx
      exact ⟨_, _, rfl, hb, ro_rw rowE_flat l 66 (some 0)⟩
    · cases hx
  · intro q ro hq
    have := List.all_eq_true.1 he _ (List.mem_of_getElem? hq)
    cases this
theorem frame_row {f : FuncId} {args0 args : List Value} {l : List En} {b : Nat} {h : AHeap} {Q : Value → List En → Prop} (hs : Fm.Spec Try.prog [] f args0 (hp l) fun r h' => ∃ v l', r = .ret v ∧ scopeV 0 8 v = true ∧ h' = hp l' ∧ Q v l')
    (hb : h[b]? = some (.tcells (rwl rowE l) 66 (some 0))) (he : h.all noE = true) (ha : RVs (one b) args0 args) : Fm.Spec Try.prog [] f args h fun r h' => ∃ v l', r = .ret v ∧ h' = h.set b (.tcells (rwl rowE l') 66 (some 0)) ∧ Q v l' := by
  refine Spec.mono (Spec.frame (gs' := []) hs (emb_row hb he) ha (by simp) ?_) ?_
  · rintro r h0' ⟨v, l', rfl, hv, rfl, _⟩
    exact scope_up 8 hv
  · rintro r h' ⟨r0, h0', ⟨v, l', rfl, hv, rfl, hq⟩, rfl, rfl⟩
    refine ⟨v, l', ?_, ?_, hq⟩
    · show Res.ret (renV _ 8 v) = _
      rw [renV_flat 8 hv]
    · show h.set b (updO _ 1 h[b]? (some (.tcells (rwl rowE l') 66 (some 0)))) ++ [] = _
      rw [hb, List.append_nil]
      show h.set b (cond ((rwl rowE l').all (scopeV 1 8)) (.tcells ((rwl rowE l').map (renV _ 8)) 66 (some 0)) .dead) = _
      rw [rw_scope, rw_ren]; rfl

theorem body38 : hasBody Try.prog 38 = true := by kernel_rfl
theorem srt4_ok {o0 o1 o2 : AObj} {l : List En} {n : Nat} (HN : n < 2 ^ 31) (HL : l.length = n) (HD : Dis nkE l) (he : ([o0, o1, o2] : AHeap).all noE = true) : (kSrt4 o0 o1 o2 l n).asks Try.prog [] 38 := by
  rcases srt_ok HN HL HD with hs | hs
  · refine asks_of (Spec.mono (frame_row (h := [o0, o1, o2, .tcells (rwl rowE l) 66 (some 0)]) (b := 3) (Q := fun v r => v = unitV ∧ pSort nkE l 0 n r) (Spec.mono hs ?_) rfl ?_ ?_) ?_)
    · rintro r h' ⟨r, hr, rfl, rfl⟩
      exact ⟨unitV, r, rfl, rfl, rfl, rfl, hr⟩
    · simp only [List.all_cons, List.all_nil, Bool.and_true] at he ⊢
      rw [Bool.and_eq_true, Bool.and_eq_true] at he
      rw [he.1, he.2.1, he.2.2]
      cases hr : rwl rowE l <;> rfl
    · exact .cons (.slice _ _ _ _ rfl) (.cons (.func _ rfl (fun _ _ _ h => by simp at h) rfl (fun _ _ _ h => by simp at h)) .nil)
    · rintro r h' ⟨v, l', rfl, rfl, rfl, hr⟩
      exact ⟨l', hr, rfl, rfl⟩
  · have h1 := hs.1; rw [body38] at h1; cases h1
theorem fC_flat {i : Nat → Option Nat} (f : FuncId) : RV i (.func (.func f) #[] #[]) (.func (.func f) #[] #[]) := .func _ rfl (fun _ _ _ h => by simp at h) rfl (fun _ _ _ h => by simp at h)
theorem run_srt0 (_u : Unit) (Q : Res → AHeap → Prop) : (Q (.ret (.tuple ⟨[]⟩)) []) =
    runS Try.prog [] false [] 0 (SpecC Try.prog []) 20 38 [.slice none 0 0, fC] [] .norm (.skip 34 (.unr 60 (.skip 15 (.unr 60 (.go))))) (fun r _ h _ => Q r h) := by kernel_rfl
theorem emb_none {h : AHeap} (he : h.all noE = true) : Emb [] (fun _ => none) [] h := by
  refine ⟨fun _ _ _ h => (by cases h), by simp, fun _ _ h => (by cases h), fun q ro hq => ?_⟩
  have := List.all_eq_true.1 he _ (List.mem_of_getElem? hq)
  cases this
theorem srt0_ok {h : AHeap} (he : h.all noE = true) : (kSrt0 h).asks Try.prog [] 38 := by
  refine asks_of (Spec.mono (Spec.frame (gs' := []) (h := h) (spec_T (run_srt0 () fun r h' => r = .ret unitV ∧ h' = []) ⟨rfl, rfl⟩) (emb_none he) (.cons (.snil _ _) (.cons (fC_flat 39) .nil)) (by simp) ?_) ?_)
  · rintro r h' ⟨rfl, rfl⟩; rfl
  · rintro r h' ⟨r0, h0', ⟨rfl, rfl⟩, rfl, rfl⟩
    exact ⟨(), trivial, rfl, List.append_nil _⟩
theorem run_all (x : Cf) (now : Int) (l : List (En × Nat)) (cl : Nat) (Q : Res → AHeap → Prop) : (((someN [] 2 (fun _ => True) ⟨[(10, (pp 2)), (3, sN), (0, (pp 1))], [], [oM l cl, oC x now, .mapIter (some 0) cl [] cl], .norm⟩ [(qE0 x now l cl), (qE1 x now l cl)]) ∧
(∀ i1, (qE0 x now l cl i1).fst →
(nxtOk (pp 2) [oM l cl, oC x now, .mapIter (some 0) cl (i1.snd) cl] (∀ e ∈ l, e.2 ∈ i1.snd) (nxp kA vA (l) [oM l cl, oC x now, .mapIter (some 0) cl (i1.snd) cl] 2 0 cl (i1.snd) cl) ∧
((∀ e ∈ l, e.2 ∈ i1.snd) →
((kSrt0 [oM l cl, oC x now, AObj.mapIter (Option.some 0) cl i1.snd cl]).asks Try.prog [] 38 ∧
∀ _ : Unit, (True) →
 Q (.ret sN) [oM l cl, oC x now, .mapIter (some 0) cl (i1.snd) cl])) ∧
∀ i2 : En × Nat, (i2 ∈ l ∧
 i2.2 ∉ i1.snd) →
((((aEntry (pp 2) [oM l cl, oC x now, .mapIter (some 0) cl (i1.snd ++ [i2.snd]) cl]).map fun ee => (ee, ([oM l cl, oC x now, .mapIter (some 0) cl (i1.snd ++ [i2.snd]) cl] : AHeap))) = some ((.tuple ⟨[(.agg ⟨(rowA i2.fst.d)⟩), (.agg ⟨[(iv i2.fst.m), (iv i2.fst.u)]⟩)]⟩), ([oM l cl, oC x now, .mapIter (some 0) cl (i1.snd ++ [i2.snd]) cl] : AHeap))) ∧
(someN [] 2 (fun a' => (mE x now l cl) a' < (mE x now l cl) i1) ⟨[(10, (pp 2)), (3, (sB 6 1)), (0, (pp 1))], [], [oM l cl, oC x now, .mapIter (some 0) cl (i1.snd ++ [i2.snd]) cl, .tcells (rowA i2.fst.d) 35 (some 0), .tcells [(iv i2.fst.m), (iv i2.fst.u)] 62 (some 0), .tcells (rowE i2.fst) 66 (some 0), .tcells (rowE i2.fst) 66 (some 0)], .norm⟩ [(qE0 x now l cl), (qE1 x now l cl)])))) ∧
(∀ i1, (qE1 x now l cl i1).fst →
(nxtOk (pp 2) [oM l cl, oC x now, .mapIter (some 0) cl (i1.snd) cl, oR i1.fst] (∀ e ∈ l, e.2 ∈ i1.snd) (nxp kA vA (l) [oM l cl, oC x now, .mapIter (some 0) cl (i1.snd) cl, oR i1.fst] 2 0 cl (i1.snd) cl) ∧
((∀ e ∈ l, e.2 ∈ i1.snd) →
((kSrt4 (oM l cl) (oC x now) (AObj.mapIter (Option.some 0) cl i1.snd cl) i1.fst i1.fst.length).asks Try.prog [] 38 ∧
∀ i1002 : List En, (pSort nkE i1.fst 0 (((i1.fst.length : Nat) : Int)) i1002) →
 Q (.ret (sB 3 i1.fst.length)) [oM l cl, oC x now, .mapIter (some 0) cl (i1.snd) cl, oR i1002])) ∧
∀ i2 : En × Nat, (i2 ∈ l ∧
 i2.2 ∉ i1.snd) →
((((aEntry (pp 2) [oM l cl, oC x now, .mapIter (some 0) cl (i1.snd ++ [i2.snd]) cl, oR i1.fst]).map fun ee => (ee, ([oM l cl, oC x now, .mapIter (some 0) cl (i1.snd ++ [i2.snd]) cl, oR i1.fst] : AHeap))) = some ((.tuple ⟨[(.agg ⟨(rowA i2.fst.d)⟩), (.agg ⟨[(iv i2.fst.m), (iv i2.fst.u)]⟩)]⟩), ([oM l cl, oC x now, .mapIter (some 0) cl (i1.snd ++ [i2.snd]) cl, oR i1.fst] : AHeap))) ∧
((aAppend Try.prog 41 41 (sB 3 i1.fst.length) (.slice (some ⟨6, 0, none⟩) 1 1) [oM l cl, oC x now, .mapIter (some 0) cl (i1.snd ++ [i2.snd]) cl, oR i1.fst, .tcells (rowA i2.fst.d) 35 (some 0), .tcells [(iv i2.fst.m), (iv i2.fst.u)] 62 (some 0), .tcells (rowE i2.fst) 66 (some 0)] = some ((sB 7 (i1.fst.length + 1)), ([oM l cl, oC x now, .mapIter (some 0) cl (i1.snd ++ [i2.snd]) cl, .dead, .tcells (rowA i2.fst.d) 35 (some 0), .tcells [(iv i2.fst.m), (iv i2.fst.u)] 62 (some 0), .tcells (rowE i2.fst) 66 (some 0), oR (i1.fst ++ [i2.fst])] : AHeap))) ∧
(someN [] 2 (fun a' => (mE x now l cl) a' < (mE x now l cl) i1) ⟨[(10, (pp 2)), (3, (sB 7 (i1.fst.length + 1))), (0, (pp 1))], [], [oM l cl, oC x now, .mapIter (some 0) cl (i1.snd ++ [i2.snd]) cl, .dead, .tcells (rowA i2.fst.d) 35 (some 0), .tcells [(iv i2.fst.m), (iv i2.fst.u)] 62 (some 0), .tcells (rowE i2.fst) 66 (some 0), oR (i1.fst ++ [i2.fst])], .norm⟩ [(qE0 x now l cl), (qE1 x now l cl)]))))))) =
    runS Try.prog [] false [38] 0 (SpecC Try.prog []) 20 29 [pC] (hC x now l cl) .norm (.skip 7 (.invN [10, 3, 0] _ (mE x now l cl) [(qE0 x now l cl), (qE1 x now l cl)] (fun k => match k with | 0 => fun i1 => .skip 0 (.nxt (∀ e ∈ l, e.2 ∈ i1.snd) (En × Nat) (nxp kA vA (l) [oM l cl, oC x now, .mapIter (some 0) cl (i1.snd) cl] 2 0 cl (i1.snd) cl) (.skip 3 (.call (Unit) (kSrt0 [oM l cl, oC x now, AObj.mapIter (Option.some 0) cl i1.snd cl]).post fun _ => .go)) fun i2 => .skip 2 (.put (.tuple ⟨[(.agg ⟨(rowA i2.fst.d)⟩), (.agg ⟨[(iv i2.fst.m), (iv i2.fst.u)]⟩)]⟩) [oM l cl, oC x now, .mapIter (some 0) cl (i1.snd ++ [i2.snd]) cl] (.go))) | _ => fun i1 => .skip 0 (.nxt (∀ e ∈ l, e.2 ∈ i1.snd) (En × Nat) (nxp kA vA (l) [oM l cl, oC x now, .mapIter (some 0) cl (i1.snd) cl, oR i1.fst] 2 0 cl (i1.snd) cl) (.skip 3 (.call (List En) (kSrt4 (oM l cl) (oC x now) (AObj.mapIter (Option.some 0) cl i1.snd cl) i1.fst i1.fst.length).post fun _i1002 => .go)) fun i2 => .skip 2 (.put (.tuple ⟨[(.agg ⟨(rowA i2.fst.d)⟩), (.agg ⟨[(iv i2.fst.m), (iv i2.fst.u)]⟩)]⟩) [oM l cl, oC x now, .mapIter (some 0) cl (i1.snd ++ [i2.snd]) cl, oR i1.fst] (.skip 14 (.put (sB 7 (i1.fst.length + 1)) [oM l cl, oC x now, .mapIter (some 0) cl (i1.snd ++ [i2.snd]) cl, .dead, .tcells (rowA i2.fst.d) 35 (some 0), .tcells [(iv i2.fst.m), (iv i2.fst.u)] 62 (some 0), .tcells (rowE i2.fst) 66 (some 0), oR (i1.fst ++ [i2.fst])] (.go)))))))) (fun r _ h _ => Q r h) := by kernel_rfl

/-! ## the entries that are gone over -/

theorem nodup_sub {α : Type} [DecidableEq α] : ∀ (l' l : List α), l.Nodup → (∀ x ∈ l, x ∈ l') → l.length ≤ l'.length
  | [], [], _, _ => Nat.le_refl _
  | [], x :: _, _, h => by cases h x (by simp)
  | a :: l', l, hn, h => by
    have ih := nodup_sub l' (l.erase a) (hn.erase a) (fun x hx => by
      have h1 := h x (List.mem_of_mem_erase hx)
      rcases List.mem_cons.1 h1 with rfl | h1
      · exact absurd hx hn.not_mem_erase
      · exact h1)
    by_cases hm : a ∈ l
    · rw [List.length_erase_of_mem hm] at ih; rw [List.length_cons]; omega
    · rw [List.erase_of_not_mem hm] at ih; rw [List.length_cons]; omega
theorem E_first {l : List (En × Nat)} {cl : Nat} : iE l cl ([], []) := ⟨fun e => by simp, List.nodup_nil, List.nodup_nil, fun _ h => (by cases h)⟩
theorem E_step {l : List (En × Nat)} {cl : Nat} {p : List En × List Nat} {e : En × Nat} (HW : WF cl l) (h : iE l cl p) (he : e ∈ l ∧ e.2 ∉ p.2) : iE l cl (p.1 ++ [e.1], p.2 ++ [e.2]) := by
  obtain ⟨h1, h2, h3, h4⟩ := h
  obtain ⟨s1, s2, _⟩ := seen_new h3 h4 he.2 (HW.born _ he.1)
  refine ⟨fun y => ?_, ?_, s1, s2⟩
  · rw [List.mem_append, h1, List.mem_singleton]
    constructor
    · rintro (⟨x, hx, rfl, hs⟩ | rfl)
      · exact ⟨x, hx, rfl, List.mem_append_left _ hs⟩
      · exact ⟨e, he.1, rfl, by simp⟩
    · rintro ⟨x, hx, rfl, hs⟩
      rcases List.mem_append.1 hs with hs | hs
      · exact .inl ⟨x, hx, rfl, hs⟩
      · rw [List.mem_singleton] at hs; right; rw [HW.stamp hx he.1 hs]
  · rw [List.map_append, List.nodup_append]
    refine ⟨h2, by simp, fun a ha b hb => ?_⟩
    obtain ⟨y, hy, rfl⟩ := List.mem_map.1 ha
    have hb : b = e.1.d := by simpa using hb
    subst hb
    intro hyd
    obtain ⟨x, hx, rfl, hs⟩ := (h1 y).1 hy
    rw [HW.key hx he.1 hyd] at hs
    exact he.2 hs
theorem E_len {l : List (En × Nat)} {cl : Nat} {p : List En × List Nat} (h : iE l cl p) : p.1.length ≤ l.length := by
  have := nodup_sub (l.map (·.1.d)) (p.1.map (·.d)) h.2.1 (fun x hx => by
    obtain ⟨y, hy, rfl⟩ := List.mem_map.1 hx
    obtain ⟨z, hz, rfl, _⟩ := (h.1 y).1 hy
    exact List.mem_map.2 ⟨z, hz, rfl⟩)
  simpa using this
theorem fold_inj : ∀ (l l' : List UInt8) (s s' : Int), l.length = l'.length → l.foldl stp s = l'.foldl stp s' → s = s' ∧ l = l'
  | [], [], _, _, _, h => ⟨h, rfl⟩
  | [], _ :: _, _, _, h, _ => by simp at h
  | _ :: _, [], _, _, h, _ => by simp at h
  | c :: l, c' :: l', s, s', hl, h => by
    obtain ⟨h1, h2⟩ := fold_inj l l' (stp s c) (stp s' c') (by simpa using hl) h
    have h1 : s * 256 + (c.toNat : Int) = s' * 256 + (c'.toNat : Int) := h1
    have b1 := c.toNat_lt
    have b2 := c'.toNat_lt
    have e : c = c' := UInt8.toNat.inj (by omega)
    subst e h2
    exact ⟨by omega, rfl⟩
theorem ints_inj : ∀ (l l' : List Int), (∀ z ∈ l, 0 ≤ z ∧ z < 256) → (∀ z ∈ l', 0 ≤ z ∧ z < 256) → (l.map fun z => UInt8.ofNat z.toNat) = (l'.map fun z => UInt8.ofNat z.toNat) → l = l'
  | [], [], _, _, _ => rfl
  | [], _ :: _, _, _, h => by simp at h
  | _ :: _, [], _, _, h => by simp at h
  | z :: l, z' :: l', h1, h2, h => by
    simp only [List.map_cons, List.cons.injEq] at h
    have e := congrArg UInt8.toNat h.1
    rw [UInt8.toNat_ofNat', UInt8.toNat_ofNat'] at e
    have a1 := h1 z (by simp)
    have a2 := h2 z' (by simp)
    rw [ints_inj l l' (fun z hz => h1 z (by simp [hz])) (fun z hz => h2 z (by simp [hz])) h.2, show z = z' by omega]
theorem nkE_inj {x y : En} (hx : okA x.d) (hy : okA y.d) (h : nkE x = nkE y) : x.d = y.d :=
  Ad.ext (ints_inj x.d.l y.d.l hx hy (fold_inj (bytesA x.d) (bytesA y.d) 0 0 rfl h).2)
theorem ix_get {l : List En} {i : Int} (h0 : 0 ≤ i) (h1 : i < l.length) : ix l i = l[i.toNat]'(by omega) := by
  unfold ix
  rw [List.getD_eq_getElem?_getD, List.getElem?_eq_getElem (by omega : i.toNat < l.length)]; rfl
theorem dis_of {r : List En} (hn : (r.map (·.d)).Nodup) (ho : ∀ e ∈ r, okA e.d) : Dis nkE r := by
  intro i j hi hi' hj hj' h
  unfold K at h
  rw [ix_get hi hi', ix_get hj hj'] at h
  have hd := nkE_inj (ho _ (List.getElem_mem _)) (ho _ (List.getElem_mem _)) h
  have := (List.getElem_inj hn (i := i.toNat) (j := j.toNat) (h₀ := by rw [List.length_map]; omega) (h₁ := by rw [List.length_map]; omega)).1 (by rw [List.getElem_map, List.getElem_map]; exact hd)
  omega
theorem E_dis {l : List (En × Nat)} {cl : Nat} {p : List En × List Nat} (HW : WF cl l) (h : iE l cl p) : Dis nkE p.1 :=
  dis_of h.2.1 fun e he => by
    obtain ⟨x, hx, rfl, _⟩ := (h.1 e).1 he
    exact HW.ok x hx
/-- all entries, by their addresses -/
def pAll (l : List (En × Nat)) (r : List En) : Prop := (∀ e, e ∈ r ↔ ∃ x ∈ l, x.1 = e) ∧ Srt nkE 0 r.length r ∧ r ≠ [] ∧ r.length ≤ l.length
theorem E_none {l : List (En × Nat)} {cl : Nat} {p : List En × List Nat} (h : iE l cl p) (h0 : p.1 = []) (he : ∀ e ∈ l, e.2 ∈ p.2) : l = [] := by
  cases l with
  | nil => rfl
  | cons a l =>
    have := (h.1 a.1).2 ⟨a, by simp, rfl, he a (by simp)⟩
    rw [h0] at this; cases this
theorem E_all {l : List (En × Nat)} {cl : Nat} {p : List En × List Nat} {r : List En} (h : iE l cl p) (h0 : p.1 ≠ []) (he : ∀ e ∈ l, e.2 ∈ p.2) (hr : pSort nkE p.1 0 p.1.length r) : pAll l r := by
  have hp := hr.1.perm (Int.le_refl 0) (Int.le_refl _)
  refine ⟨fun e => ?_, ?_, fun e => ?_, ?_⟩
  · rw [hp.mem_iff, h.1]
    exact ⟨fun ⟨x, h1, h2, _⟩ => ⟨x, h1, h2⟩, fun ⟨x, h1, h2⟩ => ⟨x, h1, h2, he x h1⟩⟩
  · have := hr.2; rw [hr.1.len]; exact this
  · subst e; exact h0 (List.eq_nil_of_length_eq_zero (by have := hp.length_eq; simpa using this.symm))
  · rw [hp.length_eq]; exact E_len h
theorem info66 : ∃ i, Try.prog.info? 66 = some i ∧ i.size = 18 ∧ i.bytes ≤ 4096 ∧ ((aZero Try.prog 66).map fun z => z.cells.size) = some i.size := by
  refine ⟨((Try.prog.info? 66).getD default), by kernel_rfl, by kernel_rfl, by decide +kernel, by kernel_rfl⟩
theorem app_row {h : AHeap} {l : List En} {e : En} {b c : Nat} (hb : h[b]? = some (.tcells (rwl rowE l) 66 (some 0))) (hc : h[c]? = some (.tcells (rowE e) 66 (some 0))) (hl : l.length + 1 ≤ 2 ^ 30) :
    aAppend Try.prog 41 41 (.slice (some ⟨b, 0, some 18⟩) l.length l.length) (.slice (some ⟨c, 0, none⟩) 1 1) h = some (.slice (some ⟨h.length, 0, some 18⟩) (l.length + 1) (l.length + 1), h.set b .dead ++ [.tcells (rwl rowE (l ++ [e])) 66 (some 0)]) := by
  obtain ⟨i, h1, h2, h3, h4⟩ := info66
  have hc' : h[c]? = some (.tcells (rwl rowE [e]) 66 (some 0)) := hc
  exact aAppend_rw_next (c := rowE) (y := [e]) rowE_len (by omega) xu41 h1 h2 h3 h4 (aNew_rw (i := 0) rowE_len xu41 (fun _ h => by cases h) hc' (by omega) (by simp)) rowE_cell hb rfl (by simp) hl
def kAll (x : Cf) (now : Int) (l : List (En × Nat)) (cl : Nat) : CtrN := ⟨[pC], hC x now l cl, List En, [fun _ => (l = [], .ret (.slice none 0 0), hC x now l cl), fun r => (pAll l r, .ret (.slice (some ⟨2, 0, some 18⟩) r.length r.length), [oM l cl, oC x now, .tcells (rwl rowE r) 66 (some 0)])]⟩
theorem all_ok {x : Cf} {now : Int} {l : List (En × Nat)} {cl : Nat} (HW : WF cl l) (HN : l.length < 2 ^ 20) : (kAll x now l cl).asks Try.prog [] 29 := by
  refine .inl (Spec.re (spec_T (run_all x now l cl _) ?_))
  refine ⟨?_, ?_⟩
  exact .inl ⟨([], []), ⟨E_first, rfl⟩, trivial, Gc.same⟩
  refine ⟨?_, ?_⟩
  intro i1 hi1
  refine ⟨nxtOk_mpl rfl rfl HW.born, ?_⟩
  refine ⟨?_, ?_⟩
  intro hend
  refine ⟨srt0_ok rfl, ?_⟩
  intro _ _
  exact ⟨[0, 1], _, _, hC x now l cl, rfl, by decide, rfl, Nat.le_refl _, ⟨⟨_, rfl, ro_m _ _⟩, ⟨_, rfl, ro_c _ _ rfl⟩, trivial⟩, .snil _ _, .inl ⟨[], E_none hi1.1 hi1.2 hend, rfl, rfl⟩⟩
  intro i2 hi2
  refine ⟨ent_m rfl rfl ⟨HW.nb, hi2.1⟩, ?_⟩
  refine .inr ⟨(i1.1 ++ [i2.1], i1.2 ++ [i2.2]), ⟨E_step HW hi1.1 hi2, by simp⟩, (seen_new hi1.1.2.2.1 hi1.1.2.2.2 hi2.2 (HW.born _ hi2.1)).2.2, ?_⟩
  have h0 : i1.1 = [] := hi1.2
  refine Gc.ren [0, 1, 2, 6] (by decide) (by decide) (by decide) (by decide) ⟨⟨_, rfl, ro_m _ _⟩, ⟨_, rfl, ro_c _ _ rfl⟩, ⟨_, rfl, .mapIter _ _ _ rfl⟩, ⟨_, rfl, by rw [h0]; exact ro_flat rfl⟩, trivial⟩ ⟨⟨_, rfl, .ptr _ _ rfl⟩, ⟨_, rfl, by rw [h0]; exact .slice _ _ _ _ rfl⟩, ⟨_, rfl, .ptr _ _ rfl⟩, trivial⟩ rfl
  intro i1 hi1
  refine ⟨nxtOk_mpl rfl rfl HW.born, ?_⟩
  refine ⟨?_, ?_⟩
  intro hend
  have hlen := E_len hi1.1
  refine ⟨srt4_ok (by omega) rfl (E_dis HW hi1.1) rfl, ?_⟩
  intro i2 hi2
  have hlr : i2.length = i1.1.length := hi2.1.len
  exact ⟨[0, 1, 3], _, .slice (some ⟨2, 0, some 18⟩) i2.length i2.length, [oM l cl, oC x now, .tcells (rwl rowE i2) 66 (some 0)], rfl, by decide, rfl, Nat.le_succ _, ⟨⟨_, rfl, ro_m _ _⟩, ⟨_, rfl, ro_c _ _ rfl⟩, ⟨_, rfl, ro_rw rowE_flat _ _ _⟩, trivial⟩, by rw [hlr]; exact .slice _ _ _ _ rfl, .inr ⟨i2, E_all hi1.1 hi1.2 hend hi2, rfl, rfl⟩⟩
  intro i2 hi2
  refine ⟨ent_m rfl rfl ⟨HW.nb, hi2.1⟩, ?_⟩
  have hlen := E_len (E_step HW hi1.1 hi2)
  rw [List.length_append, List.length_singleton] at hlen
  refine ⟨app_row rfl rfl (by omega), ?_⟩
  refine .inr ⟨(i1.1 ++ [i2.1], i1.2 ++ [i2.2]), ⟨E_step HW hi1.1 hi2, by simp⟩, (seen_new hi1.1.2.2.1 hi1.1.2.2.2 hi2.2 (HW.born _ hi2.1)).2.2, ?_⟩
  have hl2 : (i1.1 ++ [i2.1]).length = i1.1.length + 1 := by simp
  refine Gc.ren [0, 1, 2, 7] (by decide) (by decide) (by decide) (by decide) ⟨⟨_, rfl, ro_m _ _⟩, ⟨_, rfl, ro_c _ _ rfl⟩, ⟨_, rfl, .mapIter _ _ _ rfl⟩, ⟨_, rfl, ro_rw rowE_flat _ _ _⟩, trivial⟩ ⟨⟨_, rfl, .ptr _ _ rfl⟩, ⟨_, rfl, by rw [hl2]; exact .slice _ _ _ _ rfl⟩, ⟨_, rfl, .ptr _ _ rfl⟩, trivial⟩ rfl

/-! ## the entry that ends first -/

def cmpU (a b : Int) : Int := if a < b then -1 else if a > b then 1 else 0
theorem cmpU_lt {a b : Int} : cmpU a b < 0 ↔ a < b := by
  unfold cmpU; split
  · exact ⟨fun _ => by assumption, fun _ => by omega⟩
  · split <;> exact ⟨fun h => by omega, fun h => by omega⟩
def iN (l : List En) (n : Nat) (p : Int × En) : Prop := 1 ≤ p.1 ∧ p.1 ≤ n ∧ ∃ k : Int, 0 ≤ k ∧ k < p.1 ∧ p.2 = ix l k ∧ (∀ j : Int, 0 ≤ j → j < p.1 → p.2.u ≤ (ix l j).u) ∧ ∀ j : Int, 0 ≤ j → j < k → p.2.u < (ix l j).u
/-- the first one of those that end first -/
def pMin (l : List En) (e : En) : Prop := ∃ k : Int, 0 ≤ k ∧ k < l.length ∧ e = ix l k ∧ (∀ j : Int, 0 ≤ j → j < l.length → e.u ≤ (ix l j).u) ∧ ∀ j : Int, 0 ≤ j → j < k → e.u < (ix l j).u
abbrev fU : Value := .func (.func 31) #[] #[]
def kCmpU (X Y : En) (h : AHeap) : Ctr := ⟨[.agg ⟨rowE X⟩, .agg ⟨rowE Y⟩], h, Unit, fun _ => (True, .ret (.int .i64 (cmpU X.u Y.u)), h)⟩
def qN (l : List En) (n : Nat) (p : Int × En) : Prop × St := (iN l n p, ⟨[(6, .int .i64 p.1), (5, .pointer (some ⟨2, 0, none⟩)), (4, .pointer (some ⟨1, 0, none⟩)), (0, sl n), (1, fU)], [], [.tcells (rwl rowE l) 66 (some 0), .tcells (rowE default) 66 (some 0), .tcells (rowE p.2) 66 (some 0)], .norm⟩)
def mN (_l : List En) (n : Nat) (p : Int × En) : Nat := (n - p.1).toNat
theorem run_cmpU (X Y : En) (Q : Res → Prop) : ((((X.u != X.u) = true →
(((Y.u != Y.u) = true →
 Q (.ret (iv 0))) ∧
((Y.u != Y.u) = false →
 Q (.ret (iv (-1)))))) ∧
((X.u != X.u) = false →
(((Y.u != Y.u) = true →
 Q (.ret (iv 1))) ∧
((Y.u != Y.u) = false →
(((decide (X.u < Y.u)) = true →
 Q (.ret (iv (-1)))) ∧
((decide (X.u < Y.u)) = false →
(((decide (X.u > Y.u)) = true →
 Q (.ret (iv 1))) ∧
((decide (X.u > Y.u)) = false →
 Q (.ret (iv 0))))))))))) =
    runS Try.prog [] false [] 0 (SpecC Try.prog []) 20 31 [.agg ⟨rowE X⟩, .agg ⟨rowE Y⟩] [] .norm (.skip 14 (.ask (.skip 7 (.ask (.go) (.go))) (.skip 7 (.ask (.go) (.skip 8 (.ask (.go) (.skip 3 (.ask (.go) (.go))))))))) (fun r _ _ _ => Q r) := by kernel_rfl

theorem cmpU_ok (X Y : En) (h : AHeap) : (kCmpU X Y h).asks Try.prog [] 31 := by
  have hf : Fun 31 [.agg ⟨rowE X⟩, .agg ⟨rowE Y⟩] (.int .i64 (cmpU X.u Y.u)) := by
    refine spec_R (run_cmpU X Y fun r => r = .ret (.int .i64 (cmpU X.u Y.u))) ?_
    refine ⟨fun h => by simp at h, fun _ => ⟨fun h => by simp at h, fun _ => ⟨fun h => ?_, fun h => ⟨fun h2 => ?_, fun h2 => ?_⟩⟩⟩⟩
    · have h := of_decide_eq_true h; unfold cmpU; rw [if_pos h]
    · have h := of_decide_eq_false h; have h2 := of_decide_eq_true h2; unfold cmpU; rw [if_neg h, if_pos h2]
    · have h := of_decide_eq_false h; have h2 := of_decide_eq_false h2; unfold cmpU; rw [if_neg h, if_neg h2]
  exact asks_of (Spec.mono (hf.any (two_flat (flat_row X) (flat_row Y)) (.int _ _) [] h) (by rintro r h' ⟨rfl, rfl⟩; exact ⟨(), trivial, rfl, rfl⟩))
theorem N_first {l : List En} {n : Nat} (hn : 1 ≤ n) : iN l n (1, l.getD 0 default) :=
  ⟨Int.le_refl _, by show (1 : Int) ≤ n; omega, 0, by omega, by show (0 : Int) < 1; omega, rfl, fun j h0 h1 => by
    have h1 : j < 1 := h1
    have e : j = 0 := by omega
    subst e; exact Int.le_refl _, fun j h0 h1 => by omega⟩
theorem N_less {l : List En} {n : Nat} {p : Int × En} (h : iN l n p) (hp : p.1 < n) (hc : (l.getD p.1.toNat default).u < p.2.u) : iN l n (p.1 + 1, l.getD p.1.toNat default) := by
  obtain ⟨h1, h2, k, h3, h4, h5, h6, h7⟩ := h
  have hc : (ix l p.1).u < p.2.u := hc
  refine ⟨by show 1 ≤ p.1 + 1; omega, by show p.1 + 1 ≤ _; omega, p.1, by omega, by show p.1 < p.1 + 1; omega, rfl, fun j a b => ?_, fun j a b => ?_⟩
  · show (ix l p.1).u ≤ _
    by_cases e : j = p.1
    · subst e; exact Int.le_refl _
    · have := h6 j a (by have b : j < p.1 + 1 := b; omega); omega
  · show (ix l p.1).u < _
    have := h6 j a b; omega
theorem N_more {l : List En} {n : Nat} {p : Int × En} (h : iN l n p) (hp : p.1 < n) (hc : ¬ (l.getD p.1.toNat default).u < p.2.u) : iN l n (p.1 + 1, p.2) := by
  obtain ⟨h1, h2, k, h3, h4, h5, h6, h7⟩ := h
  have hc : ¬ (ix l p.1).u < p.2.u := hc
  refine ⟨by show 1 ≤ p.1 + 1; omega, by show p.1 + 1 ≤ _; omega, k, h3, by show k < p.1 + 1; omega, h5, fun j a b => ?_, h7⟩
  by_cases e : j = p.1
  · subst e; show p.2.u ≤ _; omega
  · exact h6 j a (by have b : j < p.1 + 1 := b; omega)
theorem N_done {l : List En} {n : Nat} {p : Int × En} (hl : l.length = n) (h : iN l n p) (hp : ¬ p.1 < n) : pMin l p.2 := by
  obtain ⟨h1, h2, k, h3, h4, h5, h6, h7⟩ := h
  exact ⟨k, h3, by omega, h5, fun j a b => h6 j a (by omega), h7⟩
theorem run_min (l : List En) (n : Nat) (Q : Res → AHeap → Prop) : (∀ z1 : Int, z1 = (((n : Nat) : Int)) →
(((decide (z1 < 1)) = true →
 Q (.pan [((.iface 9 (.string (bs ([115, 108, 105, 99, 101, 115, 46, 77, 105, 110, 70, 117, 110, 99, 58, 32, 101, 109, 112, 116, 121, 32, 108, 105, 115, 116])))), false)]) [oR l, .tcells [(.int .u8 0), (.int .u8 0), (.int .u8 0), (.int .u8 0), (.int .u8 0), (.int .u8 0), (.int .u8 0), (.int .u8 0), (.int .u8 0), (.int .u8 0), (.int .u8 0), (.int .u8 0), (.int .u8 0), (.int .u8 0), (.int .u8 0), (.int .u8 0), (iv 0), (iv 0)] 66 (some 0)]) ∧
((decide (z1 < 1)) = false →
((aIndexAddr Try.prog 41 (sl n) (iv 0) = some (pp 0)) ∧
((aLoad Try.prog 66 (pp 0) (hp l) = some (rv (l.getD 0 Inhabited.default))) ∧
((someN [] 1 (fun _ => True) ⟨[(6, (iv 1)), (5, (pp 2)), (4, (pp 1)), (0, (sl n)), (1, (.func (.func 31) ⟨[]⟩ ⟨[]⟩))], [], [oR l, .tcells [(.int .u8 0), (.int .u8 0), (.int .u8 0), (.int .u8 0), (.int .u8 0), (.int .u8 0), (.int .u8 0), (.int .u8 0), (.int .u8 0), (.int .u8 0), (.int .u8 0), (.int .u8 0), (.int .u8 0), (.int .u8 0), (.int .u8 0), (.int .u8 0), (iv 0), (iv 0)] 66 (some 0), .tcells (rowE (l.getD 0 Inhabited.default)) 66 (some 0)], .norm⟩ [(qN l n)]) ∧
(∀ i2, (qN l n i2).fst →
∀ z3 : Int, z3 = (((n : Nat) : Int)) →
(((decide (i2.fst < z3)) = true →
(IX n i2.fst ∧
(LD l i2.fst ∧
((kCmpU (gx l i2.fst) i2.snd [oR l, AObj.tcells [Go.Value.int IntKind.u8 0, Go.Value.int IntKind.u8 0, Go.Value.int IntKind.u8 0, Go.Value.int IntKind.u8 0, Go.Value.int IntKind.u8 0, Go.Value.int IntKind.u8 0, Go.Value.int IntKind.u8 0, Go.Value.int IntKind.u8 0, Go.Value.int IntKind.u8 0, Go.Value.int IntKind.u8 0, Go.Value.int IntKind.u8 0, Go.Value.int IntKind.u8 0, Go.Value.int IntKind.u8 0, Go.Value.int IntKind.u8 0, Go.Value.int IntKind.u8 0, Go.Value.int IntKind.u8 0, Go.Value.int IntKind.i64 0, Go.Value.int IntKind.i64 0] 66 (Option.some 0), AObj.tcells [Go.Value.int IntKind.u8 i2.snd.d.a0, Go.Value.int IntKind.u8 i2.snd.d.a1, Go.Value.int IntKind.u8 i2.snd.d.a2, Go.Value.int IntKind.u8 i2.snd.d.a3, Go.Value.int IntKind.u8 i2.snd.d.a4, Go.Value.int IntKind.u8 i2.snd.d.a5, Go.Value.int IntKind.u8 i2.snd.d.a6, Go.Value.int IntKind.u8 i2.snd.d.a7, Go.Value.int IntKind.u8 i2.snd.d.a8, Go.Value.int IntKind.u8 i2.snd.d.a9, Go.Value.int IntKind.u8 i2.snd.d.a10, Go.Value.int IntKind.u8 i2.snd.d.a11, Go.Value.int IntKind.u8 i2.snd.d.a12, Go.Value.int IntKind.u8 i2.snd.d.a13, Go.Value.int IntKind.u8 i2.snd.d.a14, Go.Value.int IntKind.u8 i2.snd.d.a15, Go.Value.int IntKind.i64 i2.snd.m, Go.Value.int IntKind.i64 i2.snd.u] 66 (Option.some 0)]).asks Try.prog [] 31 ∧
∀ _ : Unit, (True) →
(((decide (cmpU (gx l i2.fst).u i2.snd.u < 0)) = true →
(IX n i2.fst ∧
(LD l i2.fst ∧
∀ z4 : Int, z4 = (IntKind.i64.wrap (i2.fst + 1)) →
(someN [] 1 (fun a' => (mN l n) a' < (mN l n) i2) ⟨[(6, (iv z4)), (5, (pp 2)), (4, (pp 1)), (0, (sl n)), (1, (.func (.func 31) ⟨[]⟩ ⟨[]⟩))], [], [oR l, .tcells [(.int .u8 0), (.int .u8 0), (.int .u8 0), (.int .u8 0), (.int .u8 0), (.int .u8 0), (.int .u8 0), (.int .u8 0), (.int .u8 0), (.int .u8 0), (.int .u8 0), (.int .u8 0), (.int .u8 0), (.int .u8 0), (.int .u8 0), (.int .u8 0), (iv 0), (iv 0)] 66 (some 0), .tcells (rowE (gx l i2.fst)) 66 (some 0)], .norm⟩ [(qN l n)])))) ∧
((decide (cmpU (gx l i2.fst).u i2.snd.u < 0)) = false →
∀ z4 : Int, z4 = (IntKind.i64.wrap (i2.fst + 1)) →
(someN [] 1 (fun a' => (mN l n) a' < (mN l n) i2) ⟨[(6, (iv z4)), (5, (pp 2)), (4, (pp 1)), (0, (sl n)), (1, (.func (.func 31) ⟨[]⟩ ⟨[]⟩))], [], [oR l, .tcells [(.int .u8 0), (.int .u8 0), (.int .u8 0), (.int .u8 0), (.int .u8 0), (.int .u8 0), (.int .u8 0), (.int .u8 0), (.int .u8 0), (.int .u8 0), (.int .u8 0), (.int .u8 0), (.int .u8 0), (.int .u8 0), (.int .u8 0), (.int .u8 0), (iv 0), (iv 0)] 66 (some 0), .tcells (rowE i2.snd) 66 (some 0)], .norm⟩ [(qN l n)]))))))) ∧
((decide (i2.fst < z3)) = false →
 Q (.ret (rv i2.snd)) [oR l, .tcells (rowE i2.snd) 66 (some 0), .tcells (rowE i2.snd) 66 (some 0)]))))))))) =
    runS Try.prog [] false [31] 0 (SpecC Try.prog []) 20 30 [sl n, fU] (hp l) .norm (.skip 2 (.all (fun _z1 => .skip 0 (.ask (.go) (.skip 2 (.val (pp 0) (.skip 0 (.val (rv (l.getD 0 Inhabited.default)) (.skip 3 (.invN [6, 5, 4, 0, 1] _ (mN l n) [(qN l n)] (fun k => match k with | _ => fun i2 => .skip 2 (.all (fun _z3 => .skip 0 (.ask (.skip 4 (.val (pt i2.fst) (.skip 0 (.val (rv (gx l i2.fst)) (.skip 1 (.call (Unit) (kCmpU (gx l i2.fst) i2.snd [oR l, AObj.tcells [Go.Value.int IntKind.u8 0, Go.Value.int IntKind.u8 0, Go.Value.int IntKind.u8 0, Go.Value.int IntKind.u8 0, Go.Value.int IntKind.u8 0, Go.Value.int IntKind.u8 0, Go.Value.int IntKind.u8 0, Go.Value.int IntKind.u8 0, Go.Value.int IntKind.u8 0, Go.Value.int IntKind.u8 0, Go.Value.int IntKind.u8 0, Go.Value.int IntKind.u8 0, Go.Value.int IntKind.u8 0, Go.Value.int IntKind.u8 0, Go.Value.int IntKind.u8 0, Go.Value.int IntKind.u8 0, Go.Value.int IntKind.i64 0, Go.Value.int IntKind.i64 0] 66 (Option.some 0), AObj.tcells [Go.Value.int IntKind.u8 i2.snd.d.a0, Go.Value.int IntKind.u8 i2.snd.d.a1, Go.Value.int IntKind.u8 i2.snd.d.a2, Go.Value.int IntKind.u8 i2.snd.d.a3, Go.Value.int IntKind.u8 i2.snd.d.a4, Go.Value.int IntKind.u8 i2.snd.d.a5, Go.Value.int IntKind.u8 i2.snd.d.a6, Go.Value.int IntKind.u8 i2.snd.d.a7, Go.Value.int IntKind.u8 i2.snd.d.a8, Go.Value.int IntKind.u8 i2.snd.d.a9, Go.Value.int IntKind.u8 i2.snd.d.a10, Go.Value.int IntKind.u8 i2.snd.d.a11, Go.Value.int IntKind.u8 i2.snd.d.a12, Go.Value.int IntKind.u8 i2.snd.d.a13, Go.Value.int IntKind.u8 i2.snd.d.a14, Go.Value.int IntKind.u8 i2.snd.d.a15, Go.Value.int IntKind.i64 i2.snd.m, Go.Value.int IntKind.i64 i2.snd.u] 66 (Option.some 0)]).post fun _ => .skip 0 (.ask (.skip 3 (.val (pt i2.fst) (.skip 0 (.val (rv (gx l i2.fst)) (.skip 2 (.all (fun _z4 => .go))))))) (.skip 2 (.all (fun _z4 => .go)))))))))) (.go))))))))))))))) (fun r _ h _ => Q r h) := by kernel_rfl

theorem lda0 {l : List En} (h : 0 < l.length) : aLoad Try.prog 66 (.pointer (some ⟨0, 0, none⟩)) [.tcells (rwl rowE l) 66 (some 0)] = some (.agg ⟨rowE (l.getD 0 default)⟩) :=
  aLoad_rw (c := rowE) (m := 18) (n := 18) (k := 0) (i := 0) rowE_len xa66 xs66 rfl h (by omega) (by omega) (by rw [List.drop_zero]; exact List.take_of_length_le (by rw [rowE_len]; omega))
theorem ixa0 {n : Nat} (h : 0 < n) : aIndexAddr Try.prog 41 (sl n) (.int .i64 0) = some (.pointer (some ⟨0, 0, none⟩)) := aIndexAddr_slice xu41 xs66 (Int.le_refl 0) (by omega)
theorem ltUT {a b : Int} (h : decide (cmpU a b < 0) = true) : a < b := cmpU_lt.1 (of_decide_eq_true h)
theorem ltUF {a b : Int} (h : decide (cmpU a b < 0) = false) : ¬ a < b := fun e => of_decide_eq_false h (cmpU_lt.2 e)
theorem min_spec {l : List En} {n : Nat} (hl : l.length = n) (h1 : 1 ≤ n) (h2 : n < 2 ^ 40) : Fm.Spec Try.prog [] 30 [sl n, fU] (hp l) fun r h' => ∃ v l', r = .ret v ∧ scopeV 0 8 v = true ∧ h' = hp l' ∧ (l' = l ∧ ∃ e, pMin l e ∧ v = .agg ⟨rowE e⟩) := by
  refine forget1 (spec_T (run_min l n _) ?_)
  intro z1 hz1
  subst hz1
  refine ⟨fun h0 => ?_, fun h0 => ?_⟩
  replace h0 := of_decide_eq_true h0
  omega
  replace h0 := of_decide_eq_false h0
  refine ⟨ixa0 (by omega), ?_⟩
  refine ⟨lda0 (by omega), ?_⟩
  refine ⟨?_, ?_⟩
  exact ⟨(1, l.getD 0 default), N_first (by omega), trivial, Gc.same⟩
  intro i2 hi2
  replace hi2 : iN l n i2 := hi2
  obtain ⟨fi21, fi22, _⟩ := id hi2
  intro z3 hz3
  subst hz3
  refine ⟨fun h1 => ?_, fun h1 => ?_⟩
  replace h1 := of_decide_eq_true h1
  refine ⟨ixa (by omega) (by omega), ?_⟩
  refine ⟨lda (by first | omega | (rw [List.length_set]; omega)), ?_⟩
  refine ⟨cmpU_ok _ _ _, ?_⟩
  intro _ _
  refine ⟨fun h2 => ?_, fun h2 => ?_⟩
  replace h2 := ltUT h2
  refine ⟨ixa (by omega) (by omega), ?_⟩
  refine ⟨lda (by first | omega | (rw [List.length_set]; omega)), ?_⟩
  intro z4 hz4
  rw [wr (by omega) (by omega)] at hz4
  subst hz4
  exact ⟨_, N_less hi2 h1 h2, by show (n - (i2.1 + 1)).toNat < (n - i2.1).toNat; omega, Gc.same⟩
  replace h2 := ltUF h2
  intro z4 hz4
  rw [wr (by omega) (by omega)] at hz4
  subst hz4
  exact ⟨_, N_more hi2 h1 h2, by show (n - (i2.1 + 1)).toNat < (n - i2.1).toNat; omega, Gc.same⟩
  replace h1 := of_decide_eq_false h1
  exact ⟨_, l, _, rfl, rfl, rfl, _, l, rfl, rfl, rfl, rfl, i2.2, N_done hl hi2 h1, rfl⟩

end Go.Proofs.Ytcdmnmpiipmfmaa
