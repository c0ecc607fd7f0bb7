/-
  FmGc2: forgetting the newest blocks, where nothing that stays looks at them.
-/
import Derived.Test.YtopladipgobpjaaDoorFmGc
import Derived.Test.YtopladipgobpjaaDoorFmOpSound
namespace Go.Fm

def upto (n : Nat) (b : Nat) : Option Nat := if b < n then some b else none

def scopeV (n : Nat) : Nat → Value → Bool
  | 0, _ => false
  | f + 1, v =>
    match v with
    | .bool _ | .int _ _ | .float _ _ | .complex _ _ _ | .string _ | .nilFunc | .nilIface | .pointer none | .slice none _ _ | .map none | .chan none => true
    | .chan (some r) => Nat.beq r 0
    | .pointer (some ⟨b, _, _⟩) => Nat.blt b n
    | .slice (some ⟨b, _, _⟩) _ _ => Nat.blt b n
    | .map (some r) => Nat.blt r n
    | .iface _ v => scopeV n f v
    | .agg x | .tuple x => x.toList.all (scopeV n f)
    | .func (.func _) x y => x.toList.all (scopeV n f) && y.toList.all (scopeV n f)
    | .func (.yield l) ⟨[]⟩ ⟨[]⟩ => Nat.blt l n
    | _ => false

def scopeO (n : Nat) : AObj → Bool
  | .cells c _ | .tcells c _ _ => c.all (scopeV n 8)
  | .map es _ => es.all fun e => scopeV n 8 e.key && scopeV n 8 e.val
  | .mapIter none _ _ _ => true
  | .mapIter (some m) _ _ _ => Nat.blt m n
  | .strIter _ _ => true
  | .dead => true
  | .spec .defq => true
  | .spec .over => true
  | .spec (.loop e _ _ _ _ _ _ _ dq) => Nat.blt dq n && e.all fun p => scopeV n 8 p.2

def scopeD (n : Nat) : List ADef → Bool
  | [] => true
  | .call _ as :: r => as.all (scopeV n 8) && scopeD n r
  | .mark q :: r => Nat.blt q n && scopeD n r

theorem upto_of {n b : Nat} (h : Nat.blt b n = true) : upto n b = some b := by rw [Nat.blt_eq] at h; simp [upto, h]

theorem upto_some {n b q : Nat} (h : upto n b = some q) : q = b ∧ b < n := by
  unfold upto at h
  split at h
  · injection h with h; exact ⟨h.symm, ‹_›⟩
  · cases h

theorem scopeV_rv {n : Nat} : ∀ (f : Nat) (v : Value), scopeV n f v = true → RV (upto n) v v
  | 0, _, h => by simp [scopeV] at h
  | f + 1, v, h => by
    have ih := scopeV_rv (n := n) f
    have arr : ∀ (x : Array Value), x.toList.all (scopeV n f) = true → ∀ (k : Nat) (a b : Value), x[k]? = some a → x[k]? = some b → RV (upto n) a b := by
      intro x hx k a b ha hb
      rw [ha] at hb; injection hb with hb; subst hb
      exact ih a (List.all_eq_true.1 hx a (by rw [Array.mem_toList_iff]; exact Array.mem_of_getElem? ha))
    unfold scopeV at h
    split at h
    · exact .bool _
    · exact .int _ _
    · exact .float _ _
    · exact .complex _ _ _
    · exact .string _
    · exact .nilFunc
    · exact .nilIface
    · exact .pnil
    · exact .snil _ _
    · exact .mnil
    · exact .cnil
    · rename_i r; have := Nat.eq_of_beq_eq_true h; subst this; exact .hole
    · exact .ptr _ _ (upto_of h)
    · exact .slice _ _ _ _ (upto_of h)
    · exact .map (upto_of h)
    · exact .iface _ (ih _ h)
    · exact .agg rfl (arr _ h)
    · exact .tuple rfl (arr _ h)
    · simp only [Bool.and_eq_true] at h
      exact .func _ rfl (arr _ h.1) rfl (arr _ h.2)
    · exact .yield (upto_of h)
    · cases h

theorem scopeVs_rvs {n f : Nat} : ∀ (l : List Value), l.all (scopeV n f) = true → RVs (upto n) l l
  | [], _ => .nil
  | v :: r, h => by
    simp only [List.all_cons, Bool.and_eq_true] at h
    exact .cons (scopeV_rv f v h.1) (scopeVs_rvs r h.2)

theorem scopeMs_rms {n : Nat} : ∀ (l : List MapEntry), (l.all fun e => scopeV n 8 e.key && scopeV n 8 e.val) = true → RMs (upto n) l l
  | [], _ => .nil
  | e :: r, h => by
    simp only [List.all_cons, Bool.and_eq_true] at h
    exact .cons (scopeV_rv 8 _ h.1.1) (scopeV_rv 8 _ h.1.2) rfl (scopeMs_rms r h.2)

theorem scopeE_get {n : Nat} {t : Nat} {v : Value} : ∀ (l : AEnv), (l.all fun p => scopeV n 8 p.2) = true → l.get t = some v → scopeV n 8 v = true
  | [], _, h => by simp [AEnv.get] at h
  | (a, x) :: r, hl, hg => by
    simp only [List.all_cons, Bool.and_eq_true] at hl
    rw [AEnv.get_cons] at hg
    split at hg
    · injection hg with hg; subst hg; exact hl.1
    · exact scopeE_get r hl.2 hg

theorem scopeO_ro {n : Nat} : ∀ (o : AObj), scopeO n o = true → RO (upto n) o o
  | .cells c ro, h => .cells ro (scopeVs_rvs c h)
  | .tcells c t z, h => .tcells t z (scopeVs_rvs c h)
  | .map es clock, h => .map clock (scopeMs_rms es h)
  | .mapIter none _ _ _, _ => .mapIter0 _ _ _
  | .mapIter (some m) _ _ _, h => .mapIter _ _ _ (upto_of h)
  | .strIter _ _, _ => .strIter _ _
  | .dead, _ => .dead _
  | .spec .defq, _ => .defq
  | .spec .over, _ => .over
  | .spec (.loop e _ _ _ _ _ _ _ dq), h => by
    simp only [scopeO, Bool.and_eq_true] at h
    exact .loop (fun t v ht => ⟨v, ht, scopeV_rv 8 v (scopeE_get e h.2 ht)⟩) (upto_of h.1)

theorem scopeD_rd {n : Nat} : ∀ (l : List ADef), scopeD n l = true → RD (upto n) l l
  | [], _ => .nil
  | .call f as :: r, h => by
    simp only [scopeD, Bool.and_eq_true] at h
    exact .call f (scopeVs_rvs as h.1) (scopeD_rd r h.2)
  | .mark q :: r, h => by
    simp only [scopeD, Bool.and_eq_true] at h
    exact .mark (upto_of h.1) (scopeD_rd r h.2)

/-- each slot that is kept holds what it held -/
def EnvLe (e : AEnv) : AEnv → Prop
  | [] => True
  | (t, v) :: r => e.get t = some v ∧ EnvLe e r

theorem EnvLe.get {e : AEnv} : ∀ {e' : AEnv}, EnvLe e e' → ∀ {t : Nat} {v : Value}, e'.get t = some v → e.get t = some v
  | [], _, t, v, h => by simp [AEnv.get] at h
  | (a, u) :: r, h, t, v, hg => by
    rw [AEnv.get_cons] at hg
    split at hg
    · rename_i hat; subst hat; injection hg with hg; subst hg; exact h.1
    · exact h.2.get hg

theorem Gc.refl_of {gs : List Nat} {n0 : Nat} {e e' : AEnv} {ds : List ADef} {h h' : AHeap} {u : UMode} (ht : h.take h'.length = h') (hn : Nat.ble n0 h'.length = true) (hg : gs.all (fun g => Nat.blt g h'.length) = true)
    (he : EnvLe e e') (hse : e'.all (fun p => scopeV h'.length 8 p.2) = true) (hsd : scopeD h'.length ds = true) (hsh : h'.all (scopeO h'.length) = true) (hu : u.flat = true) :
    Gc gs n0 ⟨e, ds, h, u⟩ ⟨e', ds, h', u⟩ := by
  have hget : ∀ b, b < h'.length → h[b]? = h'[b]? := by
    intro b hb
    rw [← ht, List.getElem?_take, if_pos hb]
  rw [Nat.ble_eq] at hn
  refine .inl ⟨upto h'.length, ?_, ?_, ?_, hn, ?_, ?_, scopeD_rd ds hsd, rfl, hu⟩
  · intro b hb
    unfold upto; rw [if_pos (by omega)]
  · intro b c q h1 h2
    obtain ⟨rfl, _⟩ := upto_some h1
    exact (upto_some h2).1
  · intro g hgg
    exact upto_of (List.all_eq_true.1 hg g hgg)
  · intro b q hb
    obtain ⟨rfl, hlt⟩ := upto_some hb
    have hb' : h'[q]? = some h'[q] := List.getElem?_eq_getElem hlt
    exact ⟨_, _, hb', by rw [hget q hlt, hb'], scopeO_ro _ (List.all_eq_true.1 hsh _ (List.getElem_mem _))⟩
  · intro t v hv
    refine ⟨v, he.get hv, ?_⟩
    exact scopeV_rv 8 v (scopeE_get e' hse hv)

/-! ## forgetting behind a call -/

def scopeR (n : Nat) : Res → Bool
  | .ret v => scopeV n 8 v
  | .pan _ => false

/-- may what is newer than n be forgotten? -/
def mayForget (n : Nat) (r : Res) (h : AHeap) : Bool := scopeR n r && h.all (scopeO n)

theorem Sim.forget {F : Nat → Nat → Prop} {w0 w : World} {j : Inj} {h' : AHeap} {n : Nat} (S : Sim F w0 j h' w) (hn : n ≤ h'.length) (hs : (h'.take n).all (scopeO n) = true) : Sim F w0 (j.by (upto n)) (h'.take n) w := by
  refine S.gc ?_ ?_
  · intro b c q h1 h2
    obtain ⟨rfl, _⟩ := upto_some h1
    exact (upto_some h2).1
  · intro b q hb
    obtain ⟨rfl, hlt⟩ := upto_some hb
    have hlt' : q < (h'.take n).length := by rw [List.length_take]; omega
    have hb' : (h'.take n)[q]? = some (h'.take n)[q] := List.getElem?_eq_getElem hlt'
    refine ⟨_, _, hb', ?_, scopeO_ro _ (List.all_eq_true.1 hs _ (List.getElem_mem _))⟩
    rw [← hb', List.getElem?_take, if_pos hlt]

theorem ext_forget {j j' : Inj} {n : Nat} (hd : ∀ b L, j b = some L → b < n) (hx : j.ext n j') : j.ext n (j'.by (upto n)) := by
  have key : ∀ b, b < n → (j'.by (upto n)) b = j' b := fun b hb => Inj.by_some (by unfold upto; rw [if_pos hb])
  exact ⟨fun b L h => (key b (hd b L h)).trans (hx.1 b L h), fun b hb => (key b hb).trans (hx.2 b hb)⟩

variable {P : Program} {gs : List Nat}

theorem Spec.forget {f : FuncId} {args : List Value} {h : AHeap} {Q : Res → AHeap → Prop} (hs : Spec P gs f args h fun r h' => cond (mayForget h.length r (h'.take h.length)) (Q r (h'.take h.length)) (Q r h')) : Spec P gs f args h Q := by
  refine ⟨hs.1, ?_⟩
  intro G F w0 j w args' cs S hA hg hK
  refine hs.2 G F w0 j w args' cs S hA hg ?_
  intro r h' j' w' fr hq hext hl S' hlv
  cases hb : mayForget h.length r (h'.take h.length) with
  | false => rw [hb] at hq; exact hK r h' j' w' fr hq hext hl S' hlv
  | true =>
    rw [hb] at hq
    unfold mayForget at hb
    rw [Bool.and_eq_true] at hb
    refine hK r _ _ w' fr hq (ext_forget S.dom hext) (by rw [List.length_take]; omega) (S'.forget hl hb.2) ?_
    cases r with
    | ret v =>
      obtain ⟨l1, l2, l3, l4, l5, fn, v', l6, l7, l8⟩ := hlv
      exact ⟨l1, l2, l3, l4, l5, fn, v', l6, l7, (scopeV_rv 8 v hb.1).vr l8⟩
    | pan ch => simp [scopeR] at hb

theorem SpecY.forget {l : Nat} {args : List Value} {h : AHeap} {Q : Res → AHeap → Prop} (hs : SpecY P gs l args h fun r h' => cond (mayForget h.length r (h'.take h.length)) (Q r (h'.take h.length)) (Q r h')) : SpecY P gs l args h Q := by
  intro G F w0 j w args' c cs L S hA hg hj hr hp
  refine hs G F w0 j w args' c cs L S hA hg hj ?_ ?_
  · intro v h' j' w' v' hq hext hl S' hv
    cases hb : mayForget h.length (.ret v) (h'.take h.length) with
    | false => rw [hb] at hq; exact hr v h' j' w' v' hq hext hl S' hv
    | true =>
      rw [hb] at hq
      unfold mayForget at hb
      rw [Bool.and_eq_true] at hb
      exact hr v _ _ w' v' hq (ext_forget S.dom hext) (by rw [List.length_take]; omega) (S'.forget hl hb.2) ((scopeV_rv 8 v hb.1).vr hv)
  · intro ch h' j' w' ch' hq hext hl S' hch
    have hb : mayForget h.length (.pan ch) (h'.take h.length) = false := rfl
    rw [hb] at hq
    exact hp ch h' j' w' ch' hq hext hl S' hch

theorem SpecC.forget {c : Callee} {args : List Value} {h : AHeap} {Q : Res → AHeap → Prop} (hs : SpecC P gs c args h fun r h' => cond (mayForget h.length r (h'.take h.length)) (Q r (h'.take h.length)) (Q r h')) : SpecC P gs c args h Q := by
  cases c with
  | fn f =>
    rcases hs with hs | hs
    · exact .inl (Spec.forget hs)
    · refine .inr ⟨hs.1, fun F w0 j w args' S hA => ?_⟩
      obtain ⟨v, h', j', v', w', hq, hrun, hext, hl, S', hv⟩ := hs.2 F w0 j w args' S hA
      cases hb : mayForget h.length (.ret v) (h'.take h.length) with
      | false => rw [hb] at hq; exact ⟨v, h', j', v', w', hq, hrun, hext, hl, S', hv⟩
      | true =>
        rw [hb] at hq
        unfold mayForget at hb
        rw [Bool.and_eq_true] at hb
        exact ⟨v, _, _, v', w', hq, hrun, ext_forget S.dom hext, by rw [List.length_take]; omega, S'.forget hl hb.2, (scopeV_rv 8 v hb.1).vr hv⟩
  | yield l => exact SpecY.forget hs

end Go.Fm
