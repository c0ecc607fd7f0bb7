/-
  The cache as a map of entries; what lookups, deletions, steps of an iterator come to. No condition but that keys and stamps differ (WF).
-/
import Derived.Test.YtcdmnmpiipmfmaaSrt4
namespace Go.Proofs.Ytcdmnmpiipmfmaa
open Go.Fm

noncomputable def isD (D : Ad) (e : En) : Bool := decide (e.d = D)
noncomputable def fnd (D : Ad) (l : List (En × Nat)) : En := ((l.find? fun e => isD D e.1).map (·.1)).getD default
noncomputable def has (D : Ad) (l : List (En × Nat)) : Bool := l.any fun e => isD D e.1
noncomputable def put (e : En) (cl : Nat) (l : List (En × Nat)) : List (En × Nat) := if has e.d l = true then mset (isD e.d) e l else l ++ [(e, cl)]
noncomputable def clk (D : Ad) (cl : Nat) (l : List (En × Nat)) : Nat := if has D l = true then cl else cl + 1

structure Cf where
  (lim link life least : Int)
abbrev oC (x : Cf) (now : Int) : AObj := .cells [.int .i64 x.lim, .int .i64 x.link, .int .i64 x.life, .int .i64 x.least, .int .i64 now, .map (some 0)] false
abbrev oM (l : List (En × Nat)) (cl : Nat) : AObj := .map (mpl kA vA l) cl
abbrev hC (x : Cf) (now : Int) (l : List (En × Nat)) (cl : Nat) : AHeap := [oM l cl, oC x now]
abbrev pC : Value := .pointer (some ⟨1, 0, none⟩)

theorem xu46 : Try.prog.underlying 46 = some (.map 35 62) := by kernel_rfl
theorem xu35 : Try.prog.underlying 35 = some (.array 16 5) := by kernel_rfl
theorem xu5 : Try.prog.underlying 5 = some (.int .u8) := by kernel_rfl
theorem xz5 : semPure Try.prog (sizeOf 5) = some 1 := by kernel_rfl
theorem xg5 : semPure Try.prog (isAgg 5) = some false := by kernel_rfl
theorem xz62 : aZero Try.prog 62 = some (.agg ⟨[.int .i64 0, .int .i64 0]⟩) := by kernel_rfl
theorem key_ok (D : Ad) : ∀ b, aCheckKey Try.prog b 35 (.agg ⟨rowA D⟩) = true
  | true => by kernel_rfl
  | false => by kernel_rfl
theorem key_flat (e : En) : flatB (kA e) = true := by kernel_rfl
theorem Ad.ext {D D' : Ad} (h : D.l = D'.l) : D = D' := by
  cases D; cases D'
  simp only [Ad.l, List.cons.injEq] at h
  simp only [Ad.mk.injEq]
  simp only [h, and_self]
theorem key_q (D : Ad) (e : En) : keyEq Try.prog 35 (.agg ⟨rowA D⟩) (kA e) = some (isD D e) := by
  have h := eq_ints (P := Try.prog) (d := 9998) (k := .u8) xu35 xu5 xz5 xg5 (l := D.l) (l' := e.d.l) rfl rfl
  have e2 : decide (D.l = e.d.l) = isD D e := by
    unfold isD
    exact decide_eq_decide.2 ⟨fun h => (Ad.ext h).symm, fun h => by rw [h]⟩
  rw [e2] at h; exact h
theorem isD_iff {D : Ad} {e : En} : isD D e = true ↔ e.d = D := by unfold isD; exact decide_eq_true_iff

/-- an address of bytes -/
def okA (D : Ad) : Prop := ∀ z ∈ D.l, 0 ≤ z ∧ z < 256
structure WF (cl : Nat) (l : List (En × Nat)) : Prop where
  ok : ∀ e ∈ l, okA e.1.d
  born : ∀ e ∈ l, e.2 < cl
  nb : (l.map (·.2)).Nodup
  nd : (l.map (·.1.d)).Nodup

theorem inj_of_nodup {α β : Type} {f : α → β} : ∀ {l : List α}, (l.map f).Nodup → ∀ {a b : α}, a ∈ l → b ∈ l → f a = f b → a = b
  | [], _, _, _, h, _, _ => by cases h
  | x :: l, hn, a, b, ha, hb, e => by
    simp only [List.map_cons, List.nodup_cons, List.mem_map, not_exists, not_and] at hn
    rcases List.mem_cons.1 ha with ea | ha'
    · rcases List.mem_cons.1 hb with eb | hb'
      · rw [ea, eb]
      · rw [ea] at e; exact absurd e.symm (hn.1 b hb')
    · rcases List.mem_cons.1 hb with eb | hb'
      · rw [eb] at e; exact absurd e (hn.1 a ha')
      · exact inj_of_nodup hn.2 ha' hb' e

theorem WF.key {cl : Nat} {l : List (En × Nat)} (h : WF cl l) {a b : En × Nat} (ha : a ∈ l) (hb : b ∈ l) (e : a.1.d = b.1.d) : a = b := inj_of_nodup h.nd ha hb e
theorem WF.stamp {cl : Nat} {l : List (En × Nat)} (h : WF cl l) {a b : En × Nat} (ha : a ∈ l) (hb : b ∈ l) (e : a.2 = b.2) : a = b := inj_of_nodup h.nb ha hb e
theorem WF.sub {cl : Nat} {l l' : List (En × Nat)} (h : WF cl l) (hs : l'.Sublist l) : WF cl l' :=
  ⟨fun e he => h.ok e (hs.subset he), fun e he => h.born e (hs.subset he), (hs.map _).nodup h.nb, (hs.map _).nodup h.nd⟩

theorem mem_erase {α : Type} {p : α → Bool} : ∀ {l : List α} {e : α}, l.Nodup → e ∈ l → p e = true → (∀ x ∈ l, p x = true → x = e) → ∀ x, x ∈ l.eraseP p ↔ x ∈ l ∧ x ≠ e
  | [], _, _, h, _, _, _ => by cases h
  | a :: l, e, hn, he, hp, hu, x => by
    simp only [List.nodup_cons] at hn
    by_cases ha : p a = true
    · have e1 := hu a (by simp) ha
      subst e1
      rw [List.eraseP_cons_of_pos ha]
      constructor
      · intro hx; exact ⟨by simp [hx], fun e => hn.1 (e ▸ hx)⟩
      · rintro ⟨hx, hne⟩
        rcases List.mem_cons.1 hx with rfl | hx
        · exact absurd rfl hne
        · exact hx
    · rw [List.eraseP_cons_of_neg ha]
      have he' : e ∈ l := by
        rcases List.mem_cons.1 he with rfl | he
        · exact absurd hp ha
        · exact he
      have ih := mem_erase hn.2 he' hp (fun x hx => hu x (by simp [hx])) x
      rw [List.mem_cons, ih, List.mem_cons]
      constructor
      · rintro (rfl | ⟨h1, h2⟩)
        · exact ⟨.inl rfl, fun e => ha (e ▸ hp)⟩
        · exact ⟨.inr h1, h2⟩
      · rintro ⟨rfl | h1, h2⟩
        · exact .inl rfl
        · exact .inr ⟨h1, h2⟩

theorem nodup_of_map {α β : Type} {f : α → β} : ∀ {l : List α}, (l.map f).Nodup → l.Nodup
  | [], _ => List.nodup_nil
  | a :: l, h => by
    simp only [List.map_cons, List.nodup_cons, List.mem_map, not_exists, not_and] at h
    exact List.nodup_cons.2 ⟨fun ha => h.1 a ha rfl, nodup_of_map h.2⟩

theorem WF.erase {cl : Nat} {l : List (En × Nat)} (h : WF cl l) {e : En × Nat} (he : e ∈ l) (x : En × Nat) : x ∈ l.eraseP (fun y => isD e.1.d y.1) ↔ x ∈ l ∧ x ≠ e :=
  mem_erase (nodup_of_map h.nd) he (isD_iff.2 rfl) (fun _ hy hp => h.key hy he (isD_iff.1 hp)) x

theorem nodup_len : ∀ (n : Nat) (l : List Nat), l.Nodup → (∀ x ∈ l, x < n) → l.length ≤ n
  | 0, [], _, _ => Nat.le_refl _
  | 0, x :: _, _, h => absurd (h x (by simp)) (by omega)
  | n + 1, l, hn, h => by
    have ih := nodup_len n (l.erase n) (hn.erase n) (fun x hx => by
      have h1 := h x (List.mem_of_mem_erase hx)
      have h2 : x ≠ n := fun e => by subst e; exact (hn.not_mem_erase) hx
      omega)
    by_cases hm : n ∈ l
    · rw [List.length_erase_of_mem hm] at ih; omega
    · rw [List.erase_of_not_mem hm] at ih; omega

theorem aEntry_mpl {r m cl since : Nat} {l : List (En × Nat)} {S : List Nat} {h : AHeap} {e : En × Nat} (hr : h[r]? = some (.mapIter (some m) since (S ++ [e.2]) cl)) (hm : h[m]? = some (.map (mpl kA vA l) cl)) (hw : (l.map (·.2)).Nodup) (he : e ∈ l) :
    aEntry (.pointer (some ⟨r, 0, none⟩)) h = some (.tuple #[kA e.1, vA e.1]) := by
  have hf : (mpl kA vA l).find? (·.born == e.2) = some ⟨kA e.1, vA e.1, e.2⟩ := by
    clear hm
    induction l with
    | nil => cases he
    | cons a l ih =>
      simp only [mpl, List.map_cons, List.find?_cons]
      by_cases ha : a.2 = e.2
      · have : a = e := inj_of_nodup hw (by simp) he ha
        subst this; simp
      · have hb : (a.2 == e.2) = false := by simpa using ha
        simp only [hb]
        simp only [List.map_cons, List.nodup_cons] at hw
        rcases List.mem_cons.1 he with rfl | he
        · exact absurd rfl ha
        · exact ih hw.2 he
  unfold aEntry
  simp only [hr, hm, if_true, List.getLast?_append, List.getLast?_singleton, Option.some_or, hf]

theorem del_m {cl m : Nat} {l : List (En × Nat)} {h : AHeap} (D : Ad) (hm : h[m]? = some (oM l cl)) : ((aDelete Try.prog 46 (.map (some m)) (.agg ⟨rowA D⟩) h).map fun h => (undefV, h)) = some (undefV, h.set m (oM (l.eraseP fun e => isD D e.1) cl)) := by
  rw [aDelete_mpl (kv := kA) (vv := vA) (q := isD D) xu46 hm (key_ok D) (key_q D) key_flat]; rfl
theorem look_m {cl m : Nat} {l : List (En × Nat)} {h : AHeap} (D : Ad) (hm : h[m]? = some (oM l cl)) : aLookup Try.prog 46 (.map (some m)) (.agg ⟨rowA D⟩) true h = some (.tuple ⟨[.agg ⟨rowV (fnd D l)⟩, .bool (has D l)]⟩) := by
  rw [aLookup_mpl (kv := kA) (vv := vA) (q := isD D) xu46 hm (key_ok D) xz62 (key_q D) key_flat]
  unfold fnd has
  cases hf : l.find? fun e => isD D e.1 with
  | none =>
    have : l.any (fun e => isD D e.1) = false := by
      rw [List.any_eq_false]; intro x hx
      rw [List.find?_eq_none] at hf; exact hf x hx
    rw [this]; rfl
  | some e =>
    have : l.any (fun e => isD D e.1) = true := by
      rw [List.any_eq_true]; exact ⟨e, List.mem_of_find?_eq_some hf, by have := List.find?_some hf; exact this⟩
    rw [this]; rfl
theorem put_m {cl m : Nat} {l : List (En × Nat)} {h : AHeap} (e : En) (hm : h[m]? = some (oM l cl)) :
    ((aMapUpdate Try.prog 46 (.map (some m)) (.agg ⟨rowA e.d⟩) (.agg ⟨[.int .i64 e.m, .int .i64 e.u]⟩) h).map fun h => (undefV, h)) = some (undefV, h.set m (oM (put e cl l) (clk e.d cl l))) := by
  have hx := aMapUpdate_mpl (P := Try.prog) (kv := kA) (vv := vA) (q := isD e.d) (e := e) xu46 hm (key_ok e.d) (key_q e.d) key_flat rfl (fun x hx => by
    have : kA x = .agg ⟨rowA e.d⟩ := by show Value.agg ⟨rowA x.d⟩ = _; rw [isD_iff.1 hx]
    rw [this]; simp [Instr.sameBits, rowA])
  have hx' : aMapUpdate Try.prog 46 (.map (some m)) (.agg ⟨rowA e.d⟩) (.agg ⟨[.int .i64 e.m, .int .i64 e.u]⟩) h = _ := hx
  rw [hx']
  unfold put clk has
  by_cases hh : l.any (fun x => isD e.d x.1) = true
  · rw [if_pos hh, if_pos hh, if_pos hh]; rfl
  · rw [if_neg hh, if_neg hh, if_neg hh]; rfl

theorem ro_m {i : Nat → Option Nat} (l : List (En × Nat)) (cl : Nat) : RO i (oM l cl) (oM l cl) := ro_mpl kA_flat vA_flat l cl
theorem ro_c {i : Nat → Option Nat} (x : Cf) (now : Int) (h : i 0 = some 0) : RO i (oC x now) (oC x now) :=
  .cells false (.cons (.int _ _) (.cons (.int _ _) (.cons (.int _ _) (.cons (.int _ _) (.cons (.int _ _) (.cons (.map h) .nil))))))

/-- behind a call of the cache: all but the cache is forgotten -/
theorem forget2 {f : FuncId} {args : List Value} {h0 : AHeap} {Q : Res → AHeap → Prop} (hl : h0.length = 2)
    (hs : Fm.Spec Try.prog [] f args h0 fun r h' => ∃ v l' cl' x now' rest, r = .ret v ∧ scopeV 0 8 v = true ∧ h' = oM l' cl' :: oC x now' :: rest ∧ Q (.ret v) (hC x now' l' cl')) : Fm.Spec Try.prog [] f args h0 Q := by
  refine Spec.re (Spec.mono hs ?_)
  rintro r h' ⟨v, l', cl', x, now', rest, rfl, hv, rfl, hq⟩
  exact ⟨[0, 1], v, v, hC x now' l' cl', rfl, by decide, by rw [hl]; rfl, by rw [hl]; exact Nat.le_refl _, ⟨⟨_, rfl, ro_m _ _⟩, ⟨_, rfl, ro_c _ _ rfl⟩, trivial⟩, rv_flat hv, hq⟩

end Go.Proofs.Ytcdmnmpiipmfmaa
