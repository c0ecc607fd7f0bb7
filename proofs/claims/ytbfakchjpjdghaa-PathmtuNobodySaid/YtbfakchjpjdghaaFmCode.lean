/-
  FmCode: code and functions: weakest preconditions, and that they are good for the machine.
-/
import Derived.Test.YtbfakchjpjdghaaFmDrawEnd
import Derived.Defers
namespace Go.Fm

def Ann.l : Ann → Ann
  | .leaf => .leaf
  | .node _ a _ => a
def Ann.r : Ann → Ann
  | .leaf => .leaf
  | .node _ _ b => b
def keepA (ann : Ann) (s : St) : St :=
  match ann with
  | .leaf => s
  | .node live _ _ => keep live s

def condW (v : Option Value) (t f : Prop) : Prop :=
  match v with
  | some (.bool b) => if b = true then t else f
  | _ => False

def gdOf (L : List Oper) (j : Nat) : Option Nat :=
  match L[j]? with
  | some o => o.dst
  | none => none

section
variable (P : Program) (gs : List Nat) (n : Nat) (S : FSpec)

def wpc : Code → Ann → Kont → St → Prop
  | .skip, _, K, s | .label _, _, K, s => K .normal s
  | .seq x y, ann, K, s => wpc x ann.l (K.seq fun s' => wpc y ann.r K (keepA ann s')) s
  | .cond c x y, ann, K, s => condW (ev gs s.e c) (wpc x ann.l K s) (wpc y ann.r K s)
  | .block id c, ann, K, s => wpc c ann.l (K.block id) s
  | .scope c, ann, K, s => wpc c ann.l K s
  | .loop c, ann, K, s => loopW (fun K' s' => wpc c ann.l K' (keepA ann s')) K s
  | .exit id, _, K, s => K (.exit id) s
  | .ret, _, K, s => K .ret s
  | .region _ ops true, _, K, s => drawW P gs S ops.toList s (K .normal) (fun ch => K (.panic ch))
  | .region _ ops false, _, K, s => opsW P gs n S (gdOf ops.toList) ops.toList s (K .normal) (fun ch => K (.panic ch))
  | _, _, _, _ => False

def okCode : Code → Bool
  | .seq x y => okCode x && okCode y
  | .cond _ x y => okCode x && okCode y
  | .block _ c | .scope c | .loop c => okCode c
  | .region _ ops true => tameB P n ops.toList
  | _ => true

end

variable {P : Program}

/-! ## a region in the order of its text -/

theorem putW_sound {X : Cx} {j : Inj} {s : St} {tmps : Array Value} {df : List Deferred} {cs : List Frame} {w : World} {dst : Option Nat} {v v' : Value} {k : St → Prop} (hR : RelM X j s df cs w) (hE : EnvR j X.n s.e tmps) (hv : VR j v v')
    (h : putW X.n dst v s k) : ∃ s', k s' ∧ Rel X j s' (Act.put ⟨tmps, df⟩ dst v') cs w := by
  unfold putW at h
  split at h
  · rename_i d
    cases hb : Nat.blt d X.n with
    | false => rw [hb] at h; exact h.elim
    | true =>
      rw [hb] at h
      rw [Nat.blt_eq] at hb
      exact ⟨_, h, hR.env_eq rfl rfl rfl, hE.put hb hv⟩
  · exact ⟨s, h, hR, hE⟩

theorem opsW_sound {X : Cx} {ops : Array Oper} {k : List Item} {G : Machine → Prop} {kk : St → Prop} {pan : Chain → St → Prop}
    (hK : ∀ s' j' a' cs' w', kk s' → Rel X j' s' a' cs' w' → Ends P G (lone (mk X.b a' k) cs' w'))
    (hP : ∀ ch s' j' ch' a' cs' w' k', pan ch s' → Rel X j' s' a' cs' w' → ChR j' ch ch' → Ends P G (lone { mk X.b a' k' with mode := .panicking ch' } cs' w')) :
    ∀ (rest pre : List Oper), ops.toList = pre ++ rest → ∀ (s : St) (j : Inj) (a : Act) (cs : List Frame) (w : World), Rel X j s a cs w →
      opsW P X.gs X.n (Spec P X.gs) (gdOf ops.toList) rest s kk pan → Ends P G (lone (mk X.b a (.inRegion ops (List.range' pre.length rest.length) :: k)) cs w)
  | [], pre, _, s, j, a, cs, w, hR, h => .step st_regionEnd (hK s j a cs w h hR)
  | o :: rest, pre, hL, s, j, a, cs, w, hR, h => by
    have hio : ops[pre.length]? = some o := by rw [← Array.getElem?_toList, hL]; simp
    have hL' : ops.toList = (pre ++ [o]) ++ rest := by rw [hL]; simp
    have ih := opsW_sound hK hP rest (pre ++ [o]) hL'
    simp only [List.length_append, List.length_singleton] at ih
    simp only [List.length_cons, List.range'_succ]
    simp only [opsW, operW] at h
    have hval : ∀ v s' j' v' df' cs' w', putW X.n o.dst v s' (fun s' => opsW P X.gs X.n (Spec P X.gs) (gdOf ops.toList) rest s' kk pan) → s'.e = s.e → j.ext s.h.length j' → RelM X j' s' df' cs' w' → VR j' v v' →
        Ends P G (lone (mk X.b (Act.put ⟨a.tmps, df'⟩ o.dst v') (.inRegion ops (List.range' (pre.length + 1) rest.length) :: k)) cs' w') := by
      intro v s' j' v' df' cs' w' hp he hx hr hv
      have hE : EnvR j' X.n s'.e a.tmps := by rw [he]; exact hR.2.mono hx.1
      obtain ⟨s2, h1, h2⟩ := putW_sound hr hE hv hp
      exact ih s2 j' _ cs' w' h2 h1
    have hop : ∀ (hw : Region.wanted o (yielded ops a.tmps) = true), opW P (Spec P X.gs) (ev X.gs s.e) o.op s (fun v s' => putW X.n o.dst v s' (fun s' => opsW P X.gs X.n (Spec P X.gs) (gdOf ops.toList) rest s' kk pan)) pan →
        Ends P G (lone (mk X.b a (.inRegion ops (pre.length :: List.range' (pre.length + 1) rest.length) :: k)) cs w) := by
      intro hw ho
      refine opW_sound hR.1 (ev_rel hR.2 hR.1.glob) hio hw ho ⟨fun v s' j' v' df' cs' w' hn he hx _ hr hv => hval v s' j' v' df' cs' w' hn he hx hr hv, ?_⟩
      intro ch s' j' ch' w' hp he hx hr hch
      exact hP ch s' j' ch' a cs w' _ hp ⟨hr, by rw [he]; exact hR.2.mono hx.1⟩ hch
    split at h
    · rename_i hg
      exact hop (by simp [Region.wanted, hg]) h
    · rename_i g want hg
      unfold guardK at h
      split at h
      · rename_i b hb
        have hy : Region.wanted o (yielded ops a.tmps) = (b == want) := by
          obtain ⟨d, hd, hb⟩ := bind_some' hb
          unfold gdOf at hd
          split at hd
          · rename_i og hog
            obtain ⟨v', h1, h2⟩ := hR.2.2 d _ hb
            cases h2
            have hog' : ops[g]? = some og := by rw [← Array.getElem?_toList]; exact hog
            simp [Region.wanted, hg, yielded, hog', hd, h1]
          · simp at hd
        split at h
        · rename_i hbw; subst hbw
          exact hop (by rw [hy]; simp) h
        · rename_i hbw
          have hw' : Region.wanted o (yielded ops a.tmps) = false := by rw [hy]; cases b <;> cases want <;> simp_all
          have hstep := st_opSkip (P := P) (b := X.b) (a := a) (k := k) (cs := cs) (w := w) (ops := ops) (i := pre.length) (rest := List.range' (pre.length + 1) rest.length) (by rw [hio]; simpa using hw')
          rw [hio] at hstep
          simp only [Option.bind_some] at hstep
          exact .step hstep (hval undefV s j undef a.defers cs w h rfl (j.ext_refl _) hR.1 (VR.tuple' .nil))
      · exact h.elim

/-! ## code -/

theorem After.pass {G : Machine → Prop} {b : Frame} {k : List Item} {x : AExit} {j : Inj} {a : Act} {cs : List Frame} {w : World} {it : Item} (hx : x ≠ .normal) (hit : ∀ id, exitTo id (it :: k) = exitTo id k)
    (h : After P G b k x j a cs w) : After P G b (it :: k) x j a cs w := by
  cases x with
  | normal => exact absurd rfl hx
  | exit id => exact ⟨fun k' hk => h.1 k' (by rw [← hit]; exact hk), fun hn => h.2 (by rw [← hit]; exact hn)⟩
  | ret => exact h
  | panic ch => exact h

theorem wpc_sound (hm : P.follows .mixedOrders = true) {X : Cx} {G : Machine → Prop} : ∀ (c : Code) (ann : Ann) (K : Kont) (s : St), okCode P X.n c = true → wpc P X.gs X.n (Spec P X.gs) c ann K s →
    ∀ (j : Inj) (a : Act) (cs : List Frame) (w : World) (k : List Item), Rel X j s a cs w →
      (∀ x s' j' a' cs' w', K x s' → Rel X j' s' a' cs' w' → After P G X.b k x j' a' cs' w') → Ends P G (lone (mk X.b a (.code c :: k)) cs w) := by
  intro c
  induction c with
  | skip => intro ann K s _ h j a cs w k hR hK; exact .step st_skip (hK .normal s j a cs w h hR)
  | label l => intro ann K s _ h j a cs w k hR hK; exact .step st_label (hK .normal s j a cs w h hR)
  | seq x y ihx ihy =>
    intro ann K s hok h j a cs w k hR hK
    simp only [okCode, Bool.and_eq_true] at hok
    simp only [wpc] at h
    refine .step st_seq (ihx _ _ s hok.1 h j a cs w _ hR ?_)
    intro x s' j' a' cs' w' hx hR'
    cases x with
    | normal =>
      refine ihy _ K _ hok.2 hx j' a' cs' w' k ?_ hK
      cases ann with
      | leaf => exact hR'
      | node live _ _ => exact hR'.keep live
    | exit id => exact After.pass (by simp) (fun id => rfl) (hK _ s' j' a' cs' w' hx hR')
    | ret => exact After.pass (by simp) (fun id => rfl) (hK _ s' j' a' cs' w' hx hR')
    | panic ch => exact After.pass (by simp) (fun id => rfl) (hK _ s' j' a' cs' w' hx hR')
  | cond c x y ihx ihy =>
    intro ann K s hok h j a cs w k hR hK
    simp only [okCode, Bool.and_eq_true] at hok
    simp only [wpc] at h
    unfold condW at h
    split at h
    · rename_i b hb
      have hv := ev_rel hR.2 hR.1.glob c _ hb
      have hc : a.eval c = .bool b := by revert hv; cases a.eval c <;> intro q <;> cases q; rfl
      refine .step (st_cond hc) ?_
      cases b with
      | true => exact ihx _ K s hok.1 (by simpa using h) j a cs w k hR hK
      | false => exact ihy _ K s hok.2 (by simpa using h) j a cs w k hR hK
    · exact h.elim
  | block id c ih =>
    intro ann K s hok h j a cs w k hR hK
    simp only [okCode] at hok
    simp only [wpc] at h
    refine .step st_block (ih _ _ s hok h j a cs w _ hR ?_)
    intro x s' j' a' cs' w' hx hR'
    cases x with
    | normal => exact .step st_inBlock (hK .normal s' j' a' cs' w' hx hR')
    | exit id' =>
      simp only [Kont.block] at hx
      split at hx
      · rename_i hid
        subst hid
        refine ⟨fun k' hk => ?_, fun hn => ?_⟩
        · simp [exitTo] at hk; subst hk; exact hK .normal s' j' a' cs' w' hx hR'
        · simp [exitTo] at hn
      · rename_i hid
        have hA := hK _ s' j' a' cs' w' hx hR'
        have he : exitTo id' (.inBlock id :: k) = exitTo id' k := by
          have : (id == id') = false := by simp; exact fun e => hid e.symm
          simp [exitTo, this]
        exact ⟨fun k' hk => hA.1 k' (by rw [← he]; exact hk), fun hn => hA.2 (by rw [← he]; exact hn)⟩
    | ret => exact hK .ret s' j' a' cs' w' hx hR'
    | panic ch => exact hK (.panic ch) s' j' a' cs' w' hx hR'
  | scope c ih =>
    intro ann K s hok h j a cs w k hR hK
    simp only [okCode] at hok
    simp only [wpc] at h
    refine .step st_scope (ih _ _ s hok h j a cs w _ hR ?_)
    intro x s' j' a' cs' w' hx hR'
    cases x with
    | normal => exact .step st_inScope (hK .normal s' j' a' cs' w' hx hR')
    | exit id => exact After.pass (by simp) (fun id => rfl) (hK _ s' j' a' cs' w' hx hR')
    | ret => exact After.pass (by simp) (fun id => rfl) (hK _ s' j' a' cs' w' hx hR')
    | panic ch => exact After.pass (by simp) (fun id => rfl) (hK _ s' j' a' cs' w' hx hR')
  | loop c ih =>
    intro ann K s hok h j a cs w k hR hK
    simp only [okCode] at hok
    simp only [wpc] at h
    have hX := h (fun s => ∀ j a cs w, Rel X j s a cs w → Ends P G (lone (mk X.b a (.code c :: .inLoop c :: k)) cs w)) (by
      intro s hs j a cs w hR
      have hR' : Rel X j (keepA ann s) a cs w := by
        cases ann with
        | leaf => exact hR
        | node live _ _ => exact hR.keep live
      refine ih _ _ _ hok hs j a cs w _ hR' ?_
      intro x s' j' a' cs' w' hx hR'
      cases x with
      | normal => exact .step st_inLoop (hx j' a' cs' w' hR')
      | exit id => exact After.pass (by simp) (fun id => rfl) (hK _ s' j' a' cs' w' hx hR')
      | ret => exact After.pass (by simp) (fun id => rfl) (hK _ s' j' a' cs' w' hx hR')
      | panic ch => exact After.pass (by simp) (fun id => rfl) (hK _ s' j' a' cs' w' hx hR'))
    exact .step st_loop (hX j a cs w hR)
  | exit id =>
    intro ann K s _ h j a cs w k hR hK
    have := hK (.exit id) s j a cs w h hR
    cases he : exitTo id k with
    | some k' => exact .step (st_exit he) (this.1 k' he)
    | none => exact this.2 he k he
  | ret => intro ann K s _ h j a cs w k hR hK; exact hK .ret s j a cs w h hR k
  | region id ops draw =>
    intro ann K s hok h j a cs w k hR hK
    cases draw with
    | true =>
      exact draw_sound hm hok hR h (fun s' j' a' cs' w' h1 h2 => hK .normal s' j' a' cs' w' h1 h2) (fun ch s' j' ch' a' cs' w' k' h1 h2 h3 => hK (.panic ch) s' j' a' cs' w' h1 h2 k' ch' h3)
    | false =>
      refine .step st_region ?_
      have := opsW_sound (P := P) (X := X) (ops := ops) (k := k) (G := G) (kk := K .normal) (pan := fun ch => K (.panic ch)) (fun s' j' a' cs' w' h1 h2 => hK .normal s' j' a' cs' w' h1 h2)
        (fun ch s' j' ch' a' cs' w' k' h1 h2 h3 => hK (.panic ch) s' j' a' cs' w' h1 h2 k' ch' h3) ops.toList [] rfl s j a cs w hR h
      rw [List.range_eq_range']
      simpa using this
  | rangeFunc f ps as b => intro ann K s _ h; exact h.elim
  | goto l => intro ann K s _ h; exact h.elim
  | refuse y => intro ann K s _ h; exact h.elim

end Go.Fm
