/-
  Contracts of the cache laid into a greater heap. Condition: no empty block among its objects.
-/
import Derived.Test.YtcdmnmpiipmfmaaPm3
namespace Go.Proofs.Ytcdmnmpiipmfmaa
open Go.Fm

def two (a b : Nat) : Nat → Option Nat := fun x => if x = 0 then some a else if x = 1 then some b else none
/-- the cache's struct, its map at a -/
abbrev oCa (x : Cf) (now : Int) (a : Nat) : AObj := .cells [.int .i64 x.lim, .int .i64 x.link, .int .i64 x.life, .int .i64 x.least, .int .i64 now, .map (some a)] false
theorem two_cases {a b x q : Nat} (h : two a b x = some q) : (x = 0 ∧ q = a) ∨ (x = 1 ∧ q = b) := by
  unfold two at h
  split at h
  · injection h with h; exact .inl ⟨by assumption, h.symm⟩
  · split at h
    · injection h with h; exact .inr ⟨by assumption, h.symm⟩
    · cases h
theorem emb_c {h : AHeap} {a b : Nat} {x : Cf} {now : Int} {l : List (En × Nat)} {cl : Nat} (hab : a ≠ b) (ha : h[a]? = some (oM l cl)) (hb : h[b]? = some (oCa x now a)) (he : h.all noE = true) : Emb [] (two a b) (hC x now l cl) h := by
  refine ⟨?_, by simp, ?_, ?_⟩
  · intro y z q hy hz
    rcases two_cases hy with ⟨rfl, rfl⟩ | ⟨rfl, rfl⟩ <;> rcases two_cases hz with ⟨rfl, h2⟩ | ⟨rfl, h2⟩
    · rfl
    · exact absurd h2 hab
    · exact absurd h2.symm hab
    · rfl
  · intro y q hy
    rcases two_cases hy with ⟨rfl, rfl⟩ | ⟨rfl, rfl⟩
    · exact ⟨_, _, rfl, ha, ro_m l cl⟩
    · exact ⟨_, _, rfl, hb, .cells false (.cons (.int _ _) (.cons (.int _ _) (.cons (.int _ _) (.cons (.int _ _) (.cons (.int _ _) (.cons (.map rfl) .nil))))))⟩
  · intro q ro hq
    have := List.all_eq_true.1 he _ (List.mem_of_getElem? hq)
    cases this
theorem mpl_scope (n : Nat) (l : List (En × Nat)) : ((mpl kA vA l).all fun e => scopeV n 8 e.key && scopeV n 8 e.val) = true := scope_mpl kA_flat vA_flat l 0
theorem mpl_ren (f : Nat → Nat) (l : List (En × Nat)) : ((mpl kA vA l).map fun e => ({ e with key := renV f 8 e.key, val := renV f 8 e.val } : MapEntry)) = mpl kA vA l := by
  unfold mpl
  rw [List.map_map]
  refine List.map_congr_left fun e _ => ?_
  show (⟨renV f 8 (kA e.1), renV f 8 (vA e.1), e.2⟩ : MapEntry) = _
  rw [renV_flat 8 (kA_flat e.1), renV_flat 8 (vA_flat e.1)]
theorem upd_m {f : Nat → Nat} {n : Nat} {l0 l : List (En × Nat)} {c0 cl : Nat} : updO f n (some (oM l0 c0)) (some (oM l cl)) = oM l cl := by
  show cond ((mpl kA vA l).all fun e => scopeV n 8 e.key && scopeV n 8 e.val) (AObj.map ((mpl kA vA l).map fun e => ({ e with key := renV f 8 e.key, val := renV f 8 e.val } : MapEntry)) cl) .dead = _
  rw [mpl_scope, mpl_ren]; rfl
theorem upd_r {f : Nat → Nat} {n : Nat} (r : List En) : updO f n none (some (oR r)) = oR r := by
  show cond ((rwl rowE r).all (scopeV n 8)) (AObj.tcells ((rwl rowE r).map (renV f 8)) 66 (some 0)) .dead = _
  rw [rw_scope, rw_ren]; rfl
theorem frame_c {f : FuncId} {args0 args : List Value} {h : AHeap} {a b : Nat} {x : Cf} {now : Int} {l : List (En × Nat)} {cl : Nat} {Q : Value → Int → List (En × Nat) → Nat → List (List En) → Prop}
    (hs : Fm.Spec Try.prog [] f args0 (hC x now l cl) fun r h' => ∃ v now' l' cl' T, Q v now' l' cl' T ∧ r = .ret v ∧ h' = hC x now' l' cl' ++ T.map oR ∧ scopeV (2 + T.length) 8 v = true)
    (hab : a ≠ b) (ha : h[a]? = some (oM l cl)) (hb : h[b]? = some (oCa x now a)) (he : h.all noE = true) (hr : RVs (two a b) args0 args) :
    Fm.Spec Try.prog [] f args h fun r h' => ∃ v now' l' cl' T, Q v now' l' cl' T ∧ r = .ret (renV (renB (two a b) 2 h.length) 8 v) ∧ h' = ((h.set a (oM l' cl')).set b (oCa x now' a)) ++ T.map oR := by
  refine Spec.mono (Spec.frame (gs' := []) hs (emb_c hab ha hb he) hr (by simp) ?_) ?_
  · rintro r h0' ⟨v, now', l', cl', T, _, rfl, rfl, hv⟩
    have hl : (hC x now' l' cl' ++ T.map oR).length = 2 + T.length := by simp; omega
    rw [hl]; exact hv
  · rintro r h' ⟨r0, h0', ⟨v, now', l', cl', T, hq, rfl, rfl, hv⟩, rfl, rfl⟩
    refine ⟨v, now', l', cl', T, hq, rfl, ?_⟩
    have h2 : (hC x now l cl).length = 2 := rfl
    unfold putH
    rw [h2]
    have h3 : ((hC x now' l' cl' ++ T.map oR).drop 2) = T.map oR := rfl
    rw [h3, List.map_map]
    have h4 : List.map ((fun o => updO (renB (two a b) 2 h.length) (hC x now' l' cl' ++ T.map oR).length none (some o)) ∘ oR) T = T.map oR := List.map_congr_left fun r _ => upd_r r
    rw [h4]
    congr 1
    show (h.set a (updO _ _ h[a]? (some (oM l' cl')))).set b (updO _ _ h[b]? (some (oC x now'))) = _
    rw [ha, upd_m, hb]
    rfl

def kAt1 (o : AObj) (x : Cf) (now t : Int) (l : List (En × Nat)) (cl : Nat) : Ctr := ⟨[pC, .int .i64 t], [oM l cl, oC x now, o], List (En × Nat), fun l2 => (pAt t l cl l2, .ret unitV, [oM l2 cl, oC x t, o])⟩
theorem ptr_c {i : Nat → Option Nat} {b : Nat} (h : i 1 = some b) : RV i pC (.pointer (some ⟨b, 0, none⟩)) := .ptr 0 none h
theorem body23 : hasBody Try.prog 23 = true := by kernel_rfl
theorem at_spec {x : Cf} {now t : Int} {l : List (En × Nat)} {cl : Nat} (HW : WF cl l) : Fm.Spec Try.prog [] 23 [pC, .int .i64 t] (hC x now l cl) fun r h' => ∃ v now' l' cl' T, (v = unitV ∧ now' = t ∧ cl' = cl ∧ T = [] ∧ pAt t l cl l') ∧ r = .ret v ∧ h' = hC x now' l' cl' ++ T.map oR ∧ scopeV (2 + T.length) 8 v = true := by
  rcases at_ok (x := x) (now := now) (t := t) HW with hs | hs
  · refine Spec.mono hs ?_
    rintro r h' ⟨l2, h1, rfl, rfl⟩
    exact ⟨unitV, t, l2, cl, [], ⟨rfl, rfl, rfl, rfl, h1⟩, rfl, (List.append_nil _).symm, rfl⟩
  · have h1 := hs.1; rw [body23] at h1; cases h1
theorem at1_ok {o : AObj} {x : Cf} {now t : Int} {l : List (En × Nat)} {cl : Nat} (HW : WF cl l) (ho : noE o = true) : (kAt1 o x now t l cl).asks Try.prog [] 23 := by
  refine asks_of (Spec.mono (frame_c (h := [oM l cl, oC x now, o]) (a := 0) (b := 1) (args := [pC, .int .i64 t]) (at_spec HW) (by decide) rfl rfl (by show (noE _ && (noE _ && (noE o && true))) = true; rw [ho]; rfl) (.cons (ptr_c rfl) (.cons (.int _ _) .nil))) ?_)
  rintro r h' ⟨v, now', l', cl', T, ⟨rfl, rfl, rfl, rfl, hp⟩, rfl, rfl⟩
  exact ⟨l', hp, rfl, rfl⟩
def kAll4 (o2 o3 o4 o5 : AObj) (x : Cf) (now : Int) (l : List (En × Nat)) (cl : Nat) : CtrN := ⟨[pC], [oM l cl, oC x now, o2, o3, o4, o5], List En, [fun _ => (l = [], .ret (.slice none 0 0), [oM l cl, oC x now, o2, o3, o4, o5]), fun r => (pAll l r, .ret (.slice (some ⟨6, 0, some 18⟩) r.length r.length), [oM l cl, oC x now, o2, o3, o4, o5, oR r])]⟩
theorem body29 : hasBody Try.prog 29 = true := by kernel_rfl
theorem all_spec {x : Cf} {now : Int} {l : List (En × Nat)} {cl : Nat} (HW : WF cl l) (HN : l.length < 2 ^ 20) : Fm.Spec Try.prog [] 29 [pC] (hC x now l cl) fun r h' => ∃ v now' l' cl' T, (now' = now ∧ l' = l ∧ cl' = cl ∧ ((l = [] ∧ v = .slice none 0 0 ∧ T = []) ∨ ∃ r, pAll l r ∧ v = .slice (some ⟨2, 0, some 18⟩) r.length r.length ∧ T = [r])) ∧ r = .ret v ∧ h' = hC x now' l' cl' ++ T.map oR ∧ scopeV (2 + T.length) 8 v = true := by
  rcases all_ok (x := x) (now := now) HW HN with hs | hs
  · refine Spec.mono hs ?_
    rintro r h' (⟨r, h1, rfl, rfl⟩ | ⟨r, h1, rfl, rfl⟩)
    · exact ⟨_, now, l, cl, [], ⟨rfl, rfl, rfl, .inl ⟨h1, rfl, rfl⟩⟩, rfl, (List.append_nil _).symm, rfl⟩
    · exact ⟨_, now, l, cl, [r], ⟨rfl, rfl, rfl, .inr ⟨r, h1, rfl, rfl⟩⟩, rfl, rfl, rfl⟩
  · have h1 := hs.1; rw [body29] at h1; cases h1
theorem noE5 {o2 o3 o4 o5 o0 o1 : AObj} (h0 : noE o0 = true) (h1 : noE o1 = true) (h2 : noE o2 = true) (h3 : noE o3 = true) (h4 : noE o4 = true) (h5 : noE o5 = true) : ([o0, o1, o2, o3, o4, o5] : AHeap).all noE = true := by
  show (noE o0 && (noE o1 && (noE o2 && (noE o3 && (noE o4 && (noE o5 && true)))))) = true
  rw [h0, h1, h2, h3, h4, h5]; rfl
theorem all4_ok {o2 o3 o4 o5 : AObj} {x : Cf} {now : Int} {l : List (En × Nat)} {cl : Nat} (HW : WF cl l) (HN : l.length < 2 ^ 20) (h2 : noE o2 = true) (h3 : noE o3 = true) (h4 : noE o4 = true) (h5 : noE o5 = true) : (kAll4 o2 o3 o4 o5 x now l cl).asks Try.prog [] 29 := by
  refine .inl (Spec.mono (frame_c (h := [oM l cl, oC x now, o2, o3, o4, o5]) (a := 0) (b := 1) (args := [pC]) (all_spec HW HN) (by decide) rfl rfl (noE5 rfl rfl h2 h3 h4 h5) (.cons (ptr_c rfl) .nil)) ?_)
  rintro r h' ⟨v, now', l', cl', T, ⟨rfl, rfl, rfl, h1⟩, rfl, rfl⟩
  rcases h1 with ⟨h1, rfl, rfl⟩ | ⟨r, h1, rfl, rfl⟩
  · exact .inl ⟨[], h1, rfl, rfl⟩
  · exact .inr ⟨r, h1, rfl, rfl⟩
def kMin6 (o0 o1 o2 o3 o4 o5 : AObj) (l : List En) (n : Nat) : Ctr := ⟨[.slice (some ⟨6, 0, some 18⟩) n n, fU], [o0, o1, o2, o3, o4, o5, .tcells (rwl rowE l) 66 (some 0)], En, fun e => (pMin l e, .ret (.agg ⟨rowE e⟩), [o0, o1, o2, o3, o4, o5, .tcells (rwl rowE l) 66 (some 0)])⟩
theorem min6_ok {o0 o1 o2 o3 o4 o5 : AObj} {l : List En} {n : Nat} (hl : l.length = n) (h1 : 1 ≤ n) (h2 : n < 2 ^ 40) (g0 : noE o0 = true) (g1 : noE o1 = true) (g2 : noE o2 = true) (g3 : noE o3 = true) (g4 : noE o4 = true) (g5 : noE o5 = true) : (kMin6 o0 o1 o2 o3 o4 o5 l n).asks Try.prog [] 30 := by
  refine asks_of (Spec.mono (frame_row (h := [o0, o1, o2, o3, o4, o5, .tcells (rwl rowE l) 66 (some 0)]) (b := 6) (Q := fun v r => r = l ∧ ∃ e, pMin l e ∧ v = .agg ⟨rowE e⟩) (min_spec hl h1 h2) rfl ?_ ?_) ?_)
  · show (noE o0 && (noE o1 && (noE o2 && (noE o3 && (noE o4 && (noE o5 && (noE _ && true))))))) = true
    rw [g0, g1, g2, g3, g4, g5]
    cases hr : rwl rowE l <;> rfl
  · exact .cons (.slice _ _ _ _ rfl) (.cons (fC_flat 31) .nil)
  · rintro r h' ⟨v, l', rfl, rfl, rfl, e, hp, rfl⟩
    exact ⟨e, hp, rfl, rfl⟩

end Go.Proofs.Ytcdmnmpiipmfmaa
