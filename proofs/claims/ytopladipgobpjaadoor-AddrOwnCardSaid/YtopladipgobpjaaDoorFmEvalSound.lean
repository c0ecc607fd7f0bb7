/-
  FmEvalSound: what the tests pass, the preconditions say.
-/
import Derived.Test.YtopladipgobpjaaDoorFmEval2
namespace Go.Fm

variable {P : Program} {gs : List Nat}

theorem bndB_sound {α : Type} {o : Option α} {k : α → Bool} {k' : α → Prop} (h : bndB o k = true) (hk : ∀ a, k a = true → k' a) : bnd o k' := by
  cases o with
  | none => simp [bndB] at h
  | some a => exact hk a h

theorem allB_sound {k : Value → AHeap → Bool} {k' : Value → AHeap → Prop} (hk : ∀ v h, k v h = true → k' v h) : ∀ {l : List (Value × AHeap)}, allB l k = true → allW l k'
  | [], _ => trivial
  | (v, h) :: r, e => by
    unfold allB at e
    cases hb : k v h with
    | false => rw [hb] at e; simp at e
    | true => rw [hb] at e; exact ⟨hk v h hb, allB_sound hk e⟩

def LE1 (k : Value → St → Bool) (k' : Value → St → Prop) : Prop := ∀ v s, k v s = true → k' v s
def LE2 (k : Chain → St → Bool) (k' : Chain → St → Prop) : Prop := ∀ v s, k v s = true → k' v s
def LE0 (k : St → Bool) (k' : St → Prop) : Prop := ∀ s, k s = true → k' s
def LES (S : FSpecB) (S' : FSpec) : Prop := ∀ f args h Q (Q' : Res → AHeap → Prop), (∀ r h, Q r h = true → Q' r h) → S f args h Q = true → S' f args h Q'
def LED (S : DSpecB) (S' : DSpec) : Prop := ∀ f args h u Q (Q' : Res → UMode → AHeap → Prop), (∀ r u h, Q r u h = true → Q' r u h) → S f args h u Q = true → S' f args h u Q'

theorem afterB_sound {s : St} {next : Value → St → Bool} {next' : Value → St → Prop} {pan : Chain → St → Bool} {pan' : Chain → St → Prop} (hn : LE1 next next') (hp : LE2 pan pan') :
    ∀ r h, afterB s next pan r h = true → afterCall s next' pan' r h
  | .ret _, _, e => hn _ _ e
  | .pan _, _, e => hp _ _ e

theorem recoverB_sound {s : St} {next : Value → St → Bool} {next' : Value → St → Prop} (hn : LE1 next next') (h : recoverB s next = true) : recoverW s next' := by
  obtain ⟨e, ds, hh, u⟩ := s
  unfold recoverB at h
  unfold recoverW
  split at h
  · rename_i heq; injection heq with h1 h2 h3 h4; subst h1 h2 h3 h4; exact hn _ _ h
  · simp at h
  · rename_i h1 h2
    simp only
    split
    · rename_i v older; exact absurd rfl (h1 _ _ _ _ _)
    · exact absurd rfl (h2 _ _ _)
    · exact hn _ _ h

theorem dataB_sound {ρ : Operand → Option Value} {op : Op} {s : St} {next : Value → St → Bool} {next' : Value → St → Prop} (hn : LE1 next next') (h : dataB P ρ op s next = true) : dataW P ρ op s next' := by
  unfold dataB at h
  unfold dataW
  obtain ⟨e, ds, hh, u⟩ := s
  split at h
  · rename_i hc; rw [hc]; exact bndB_sound h fun v hv => hn _ _ (by simpa only [fR_eq] using hv)
  · rename_i hc; rw [hc]; exact bndB_sound h fun v hv => hn _ _ (by simpa only [fR_eq] using hv)
  · rename_i hc; rw [hc]; exact bndB_sound h fun v hv => hn _ _ (by simpa only [fV_eq, fObj_eq, fList_eq (fun _ _ => rfl)] using hv)
  · rename_i hc; rw [hc]; exact bndB_sound h fun v hv => hn _ _ (by simpa only [fV_eq, fEff_eq] using hv)

theorem opB_sound {S : FSpecB} {S' : FSpec} (hS : LES S S') {ρ : Operand → Option Value} {op : Op} {s : St} {next : Value → St → Bool} {next' : Value → St → Prop} {pan : Chain → St → Bool} {pan' : Chain → St → Prop} (hn : LE1 next next') (hp : LE2 pan pan')
    (h : opB P S ρ op s next pan = true) : opW P S' ρ op s next' pan' := by
  unfold opB at h
  split at h
  · exact bndB_sound h fun p hb => hS _ _ _ _ _ (afterB_sound hn hp) hb
  · exact recoverB_sound hn h
  · obtain ⟨e, ds, hh, u⟩ := s
    unfold opW
    split at h
    · simp at h
    · rename_i hno heq
      injection heq with h1 h2 h3 h4; subst h1 h2 h3 h4
      simp only
      refine bndB_sound h fun p hb => ?_
      obtain ⟨g, as⟩ := p
      cases g with
      | fn g => exact hn _ _ (by simpa only [fList_eq (fSp_eq 3)] using hb)
      | yield l => simp at hb
  · unfold opW
    simp only
    split at h
    · rename_i heq; rw [heq]; exact hp _ _ h
    · simp at h
  · unfold opW
    exact bndB_sound h fun outs hb => allB_sound (fun v h' e => hn _ _ (by obtain ⟨e', ds, hh, u⟩ := s; simpa only [fSp_eq, fHeap_eq] using e)) hb
  · rename_i h1 h2 h3 h4 h5
    unfold opW
    split
    · exact absurd rfl (h1 _ _ _)
    · exact absurd rfl (h2 _ _)
    · exact absurd rfl (h3 _ _ _)
    · exact absurd rfl (h4 _)
    · exact absurd rfl (h5 _)
    · exact dataB_sound hn h

theorem guardB_sound {g : Option Value} {want : Bool} {run : (Value → St → Bool) → Bool} {run' : (Value → St → Prop) → Prop} {s : St} {next : Value → St → Bool} {next' : Value → St → Prop} (hn : LE1 next next') (hr : run next = true → run' next')
    (h : guardB g want run s next = true) : guardK g want run' s next' := by
  unfold guardB at h
  split at h
  · rename_i b
    unfold guardK
    cases b <;> cases want <;> simp only [cond_true, cond_false] at h <;> simp
    · exact hr h
    · exact hn _ _ h
    · exact hn _ _ h
    · exact hr h
  · exact hn _ _ h
  · simp at h

theorem putB_sound {n : Nat} {dst : Option Nat} {v : Value} {s : St} {k : St → Bool} {k' : St → Prop} (hk : LE0 k k') (h : putB n dst v s k = true) : putW n dst v s k' := by
  unfold putB at h
  unfold putW
  split at h
  · rename_i d
    cases hb : Nat.blt d n with
    | false => rw [hb] at h; simp at h
    | true =>
      rw [hb] at h; obtain ⟨e, ds, hh, u⟩ := s
      simp only [hb, cond_true]
      exact hk _ h
  · exact hk _ h

theorem opsB_sound {n : Nat} {S : FSpecB} {S' : FSpec} (hS : LES S S') {gd : Nat → Option Nat} {k : St → Bool} {k' : St → Prop} {pan : Chain → St → Bool} {pan' : Chain → St → Prop} (hk : LE0 k k') (hp : LE2 pan pan') :
    ∀ (l : List Oper) (s : St), opsB P gs n S gd l s k pan = true → opsW P gs n S' gd l s k' pan'
  | [], s, h => hk s h
  | o :: r, s, h => by
    have ih := opsB_sound (n := n) hS (gd := gd) hk hp r
    have hput : LE1 (fun v s' => putB n o.dst v s' fun s' => opsB P gs n S gd r s' k pan) (fun v s' => putW n o.dst v s' fun s' => opsW P gs n S' gd r s' k' pan') := fun v s' e => putB_sound ih e
    simp only [opsB, operB] at h
    simp only [opsW, operW]
    split at h
    · rename_i hg; rw [hg]; exact opB_sound hS hput hp h
    · rename_i j want hg; rw [hg]; exact guardB_sound hput (fun e => opB_sound hS hput hp e) h

/-! ## regions that draw -/

def LEP (a : PdB) (b : Pd) : Prop := a.hi = b.hi ∧ ∀ h, a.chk h = true → b.chk h
inductive LEPs : List PdB → List Pd → Prop
  | nil : LEPs [] []
  | cons {a : PdB} {b : Pd} {l : List PdB} {l' : List Pd} : LEP a b → LEPs l l' → LEPs (a :: l) (b :: l')
def LE3 (k : AEnv → List PdB → St → Bool) (k' : AEnv → List Pd → St → Prop) : Prop := ∀ R p p' s, LEPs p p' → k R p s = true → k' R p' s

theorem checksB_sound {st : Nat} {h : AHeap} {p : Bool} {p' : Prop} (hp : p = true → p') : ∀ {l : List PdB} {l' : List Pd}, LEPs l l' → checksB l st h p = true → checks l' st h p'
  | _, _, .nil, e => hp e
  | _, _, .cons hd ht, e => by
    unfold checksB at e
    unfold checks
    rw [← hd.1]
    revert e
    cases Nat.ble st _ with
    | true =>
      simp only [cond_true]
      intro e
      cases hc : PdB.chk _ h with
      | true => rw [hc] at e; exact ⟨hd.2 _ hc, checksB_sound hp ht e⟩
      | false => rw [hc] at e; simp at e
    | false =>
      simp only [cond_false]
      intro e
      exact checksB_sound hp ht e

theorem addPd_LE {st hi : Nat} {chk : AHeap → Bool} {chk' : AHeap → Prop} (hc : ∀ h, chk h = true → chk' h) {p : List PdB} {p' : List Pd} (hp : LEPs p p') : LEPs (addPdB st hi chk p) (addPd st hi chk' p') := by
  unfold addPdB addPd
  cases Nat.blt st hi with
  | true => exact .cons ⟨rfl, hc⟩ hp
  | false => exact hp

theorem floatB_sound {ρ : Operand → Option Value} {i hi st : Nat} {op : Op} {R : AEnv} {pend : List PdB} {pend' : List Pd} (hp : LEPs pend pend') {s : St} {k : AEnv → List PdB → St → Bool} {k' : AEnv → List Pd → St → Prop} (hk : LE3 k k')
    (h : floatB P ρ i hi st op R pend s k = true) : floatK P ρ i hi st op R pend' s k' := by
  unfold floatB at h
  unfold floatK
  obtain ⟨e, ds, hh, u⟩ := s
  split at h
  · rename_i hc; rw [hc]; exact bndB_sound h fun v hv => hk _ _ _ _ hp (by simpa only [fR_eq] using hv)
  · rename_i hc; rw [hc]
    refine bndB_sound h fun v hv => ?_
    simp only [fR_eq] at hv
    exact hk _ _ _ _ (addPd_LE (fun h e => eqOV_eq e) hp) hv
  · rename_i hc; rw [hc]
    refine bndB_sound h fun v hv => ?_
    simp only [fV_eq, fObj_eq, fHeap_eq] at hv
    exact hk _ _ _ _ (addPd_LE (fun h e => eqO_eq e) hp) hv
  · simp at h

theorem guardFB_sound {g : Option Value} {want : Bool} {run : (AEnv → List PdB → St → Bool) → Bool} {run' : (AEnv → List Pd → St → Prop) → Prop} {i : Nat} {R : AEnv} {pend : List PdB} {pend' : List Pd} (hp : LEPs pend pend') {s : St}
    {k : AEnv → List PdB → St → Bool} {k' : AEnv → List Pd → St → Prop} (hk : LE3 k k') (hr : run k = true → run' k') (h : guardFB g want run i R pend s k = true) : guardF g want run' i R pend' s k' := by
  unfold guardFB at h
  split at h
  · rename_i b
    unfold guardF
    cases b <;> cases want <;> simp only [cond_true, cond_false] at h <;> simp
    · exact hr h
    · exact hk _ _ _ _ hp h
    · exact hk _ _ _ _ hp h
    · exact hr h
  · exact hk _ _ _ _ hp h
  · simp at h

theorem floatsB_sound {L : List Oper} {ms ws : List Nat} {e0 : AEnv} {st : Nat} {k : AEnv → List PdB → St → Bool} {k' : AEnv → List Pd → St → Prop} (hk : LE3 k k') :
    ∀ (l : List Nat) (R : AEnv) (pend : List PdB) (pend' : List Pd) (s : St), LEPs pend pend' → floatsB P gs L ms ws e0 st l R pend s k = true → floatsW P gs L ms ws e0 st l R pend' s k'
  | [], R, pend, pend', s, hp, h => hk _ _ _ _ hp h
  | i :: r, R, pend, pend', s, hp, h => by
    have ih : LE3 (fun R p s => floatsB P gs L ms ws e0 st r R p s k) (fun R p s => floatsW P gs L ms ws e0 st r R p s k') := fun R p p' s h1 h2 => floatsB_sound hk r R p p' s h1 h2
    simp only [floatsB] at h
    simp only [floatsW]
    split at h
    · simp at h
    · rename_i o ho
      rw [ho]
      simp only
      split at h
      · rename_i hg; rw [hg]; exact floatB_sound hp ih h
      · rename_i hg; rw [hg]; exact guardFB_sound hp ih (fun e => floatB_sound hp ih e) h

theorem effB_sound {S : FSpecB} {S' : FSpec} (hS : LES S S') {L : List Oper} {ms : List Nat} {e0 : AEnv} {i : Nat} {R : AEnv} {s : St} {next : Value → St → Bool} {next' : Value → St → Prop} {pan : Chain → St → Bool} {pan' : Chain → St → Prop} (hn : LE1 next next') (hp : LE2 pan pan')
    (h : effB P gs S L ms e0 i R s next pan = true) : effK P gs S' L ms e0 i R s next' pan' := by
  unfold effB at h
  unfold effK
  split at h
  · simp at h
  · rename_i o ho
    rw [ho]
    simp only
    split at h
    · rename_i hg; rw [hg]; exact opB_sound hS hn hp h
    · rename_i hg; rw [hg]; exact guardB_sound hn (fun e => opB_sound hS hn hp e) h

theorem stagesB_sound {S : FSpecB} {S' : FSpec} (hS : LES S S') {L : List Oper} {ms ws : List Nat} {e0 : AEnv} {k : AEnv → St → Bool} {k' : AEnv → St → Prop} {pan : Chain → St → Bool} {pan' : Chain → St → Prop} (hk : ∀ R s, k R s = true → k' R s) (hp : LE2 pan pan') :
    ∀ (l : List (List Nat × Option Nat)) (st : Nat) (R : AEnv) (pend : List PdB) (pend' : List Pd) (s : St), LEPs pend pend' → stagesB P gs S L ms ws e0 l st R pend s k pan = true → stagesW P gs S' L ms ws e0 l st R pend' s k' pan'
  | [], _, R, _, _, s, _, h => hk R s h
  | (fl, none) :: _, st, R, pend, pend', s, hpd, h => floatsB_sound (fun R _ _ s _ e => hk R s e) fl R pend pend' s hpd h
  | (fl, some w) :: r, st, R, pend, pend', s, hpd, h => by
    refine floatsB_sound (fun R1 p1 p1' s1 hp1 e1 => ?_) fl R pend pend' s hpd h
    refine effB_sound hS (fun v s2 e2 => ?_) hp e1
    exact checksB_sound (fun e3 => stagesB_sound hS hk hp r _ _ _ _ _ hp1 e3) hp1 e2

theorem drawB_sound {S : FSpecB} {S' : FSpec} (hS : LES S S') {L : List Oper} {s : St} {k : St → Bool} {k' : St → Prop} {pan : Chain → St → Bool} {pan' : Chain → St → Prop} (hk : LE0 k k') (hp : LE2 pan pan') (h : drawB P gs S L s k pan = true) : drawW P gs S' L s k' pan' := by
  obtain ⟨e, ds, hh, u⟩ := s
  exact stagesB_sound hS (fun R s' e => hk _ e) (fun ch s' e => hp _ _ e) _ _ _ _ _ _ .nil h

/-! ## code -/

def LEK (K : KontB) (K' : Kont) : Prop := ∀ x s, K x s = true → K' x s

theorem seq_LE {K : KontB} {K' : Kont} (hK : LEK K K') {n : St → Bool} {n' : St → Prop} (hn : LE0 n n') : LEK (K.seq n) (K'.seq n') := by
  intro x s h
  cases x with
  | normal => exact hn s h
  | _ => exact hK _ _ h

theorem block_LE {K : KontB} {K' : Kont} (hK : LEK K K') {id : Nat} : LEK (K.block id) (K'.block id) := by
  intro x s h
  cases x with
  | exit id' =>
    simp only [KontB.block] at h
    simp only [Kont.block]
    cases hb : Nat.beq id' id with
    | true => rw [hb] at h; rw [if_pos (Nat.eq_of_beq_eq_true hb)]; exact hK _ _ h
    | false => rw [hb] at h; rw [if_neg (Nat.ne_of_beq_eq_false hb)]; exact hK _ _ h
  | _ => exact hK _ _ h

theorem loopB_sound {B : KontB → St → Bool} {B' : Kont → St → Prop} (hB : ∀ KB K s, LEK KB K → B KB s = true → B' K s) {K : KontB} {K' : Kont} (hK : LEK K K') {n0 : Nat} : ∀ (m : Nat) (s : St), loopB m B K s = true → loopW gs n0 B' K' s
  | 0, s, h => by simp [loopB] at h
  | m + 1, s, h => by
    intro X hX hG
    obtain ⟨e, ds, hh, u⟩ := s
    simp only [loopB, fList_eq (fun _ _ => rfl)] at h
    refine hG _ _ Gc.dedupe (hX _ (hB _ _ _ (seq_LE hK fun s' e => ?_) h))
    exact loopB_sound hB hK m s' e X hX hG

theorem jumpB_sound {K : KontB} {K' : Kont} (hK : LEK K K') {s : St} {o : Option Code} (h : jumpB K s o = true) : jumpW K' s o := by
  cases o with
  | none => exact hK _ _ h
  | some c => cases c <;> first | exact hK _ _ h | simp [jumpB] at h

theorem endLoopB_sound {l : Nat} {K : KontB} {K' : Kont} (hK : LEK K K') {s : St} (h : endLoopB l K s = true) : endLoopW l K' s := by
  obtain ⟨e, ds, hh, u⟩ := s
  unfold endLoopB at h
  unfold endLoopW
  simp only at h ⊢
  split at h
  · rename_i st pd dq heq
    rw [heq]
    simp only
    cases st with
    | busy => simp at h
    | _ => exact jumpB_sound hK (by simpa only [fHeap_eq] using h)
  · simp at h

theorem afterRangeB_sound {l : Nat} {K : KontB} {K' : Kont} (hK : LEK K K') {s : St} : ∀ r h, afterRangeB l K s r h = true → afterRange l K' s r h
  | .ret _, _, e => endLoopB_sound hK e
  | .pan _, _, e => hK _ _ e

theorem rangeB_sound {n : Nat} {S : FSpecB} {S' : FSpec} (hS : LES S S') {v : Option Value} {ps : List Nat} {x y : Code} {K : KontB} {K' : Kont} (hK : LEK K K') {s : St} (h : rangeB P n S v ps x y K s = true) : rangeW P n S' v ps x y K' s := by
  obtain ⟨e, ds, hh, u⟩ := s
  unfold rangeB at h
  unfold rangeW
  simp only at h ⊢
  split at h
  · simp at h
  · rename_i hu
    split
    · exact absurd rfl hu
    · split at h
      · rename_i g first cap
        cases hb : hasBody P g with
        | false => rw [hb] at h; cases h
        | true =>
          rw [hb, cond_true] at h
          simp only [fNat_eq, fHeap_eq] at h
          exact ⟨hb, hS _ _ _ _ _ (afterRangeB_sound hK) h⟩
      · simp at h

theorem wpB_sound {n lf n0 : Nat} {S : FSpecB} {S' : FSpec} (hS : LES S S') : ∀ (c : Code) (K : KontB) (K' : Kont) (s : St), LEK K K' → wpB P gs n lf S c K s = true → wpc P gs n S' n0 c .leaf K' s := by
  intro c
  induction c with
  | skip => intro K K' s hK h; exact hK _ _ h
  | label l => intro K K' s hK h; exact hK _ _ h
  | seq x y ihx ihy => intro K K' s hK h; exact ihx _ _ s (seq_LE hK fun s' e => ihy _ _ s' hK e) h
  | cond c x y ihx ihy =>
    intro K K' s hK h
    simp only [wpB, condB] at h
    simp only [wpc, condW]
    split at h
    · rename_i b hb
      rw [hb]
      cases b with
      | true => exact ihx _ _ s hK h
      | false => exact ihy _ _ s hK h
    · simp at h
  | block id c ih => intro K K' s hK h; exact ih _ _ s (block_LE hK) h
  | scope c ih => intro K K' s hK h; exact ih _ _ s hK h
  | loop c ih => intro K K' s hK h; exact loopB_sound (fun KB K s hk e => ih KB K s hk e) hK lf s h
  | exit id => intro K K' s hK h; exact hK _ _ h
  | ret => intro K K' s hK h; exact hK _ _ h
  | region id ops draw =>
    intro K K' s hK h
    cases draw with
    | true => exact drawB_sound hS (fun s e => hK _ _ e) (fun ch s e => hK _ _ e) h
    | false => exact opsB_sound hS (fun s e => hK _ _ e) (fun ch s e => hK _ _ e) _ s h
  | rangeFunc f ps x y => intro K K' s hK h; exact rangeB_sound hS hK h
  | goto l => intro K K' s hK h; simp [wpB] at h
  | refuse y => intro K K' s hK h; simp [wpB] at h

theorem setB_sound {o : Option AHeap} {k : AHeap → Bool} {k' : AHeap → Prop} (hk : ∀ h, k h = true → k' h) (h : setB o k = true) : bnd o k' := by
  cases o with
  | none => simp [setB] at h
  | some x => exact hk _ (by simpa only [setB, fHeap_eq] using h)

theorem roundKB_sound {l : Nat} {Q : Res → AHeap → Bool} {Q' : Res → AHeap → Prop} (hQ : ∀ r h, Q r h = true → Q' r h) : LEK (roundKB l Q) (roundK l Q') := by
  intro x s h
  cases x with
  | normal => exact setB_sound (fun h e => hQ _ _ e) h
  | ret => exact setB_sound (fun h e => hQ _ _ e) h
  | exit id => exact setB_sound (fun h e => hQ _ _ e) h
  | panic ch =>
    obtain ⟨e, ds, hh, u⟩ := s
    cases ds with
    | nil => exact hQ _ _ h
    | cons _ _ => simp [roundKB, noDefers] at h

theorem assignKB_sound {l : Nat} {k : St → Bool} {k' : St → Prop} (hk : LE0 k k') {Q : Res → AHeap → Bool} {Q' : Res → AHeap → Prop} (hQ : ∀ r h, Q r h = true → Q' r h) : LEK (assignKB l k Q) (assignK l k' Q') := by
  intro x s h
  cases x with
  | normal => obtain ⟨e, ds, hh, u⟩ := s; exact setB_sound (fun h e => hk _ e) h
  | ret => simp [assignKB] at h
  | exit id => simp [assignKB] at h
  | panic ch =>
    obtain ⟨e, ds, hh, u⟩ := s
    cases ds with
    | nil => exact hQ _ _ h
    | cons _ _ => simp [assignKB, noDefers] at h

theorem yieldB_sound {lf : Nat} {S : FSpecB} {S' : FSpec} (hS : LES S S') {l : Nat} {args : List Value} {h : AHeap} {Q : Res → AHeap → Bool} {Q' : Res → AHeap → Prop} (hQ : ∀ r h, Q r h = true → Q' r h) (e : yieldB P gs lf S l args h Q = true) :
    yieldW P gs S' l args h Q' := by
  unfold yieldB at e
  unfold yieldW
  split at e
  · rename_i e0 n m ps x y st pd dq heq
    rw [heq]
    simp only
    generalize hc : (Nat.beq args.length ps.length && (Nat.beq m P.funcs.size && (ps.all (Nat.blt · n) && (okCode P n x && okCode P n y)))) = c at e ⊢
    cases c with
    | false => simp at e
    | true => exact ⟨rfl, wpB_sound hS x _ _ _ (assignKB_sound (fun s e => wpB_sound hS y _ _ _ (roundKB_sound hQ) e) hQ) e⟩
  · simp at e

theorem leaveB_sound {D : DSpecB} {D' : DSpec} (hD : LED D D') {rs : List ResultVar} {e : AEnv} {Q : Res → AHeap → Bool} {Q' : Res → AHeap → Prop} (hQ : ∀ r h, Q r h = true → Q' r h) :
    ∀ (ds : List ADef) (u : UMode) (h : AHeap), leaveB P D rs e ds u h Q = true → leaveW P D' rs e ds u h Q'
  | [], u, h, x => by
    cases u with
    | norm => simp [leaveB] at x
    | round => simp [leaveB] at x
    | ret => simp only [leaveB] at x; exact bndB_sound x fun l hl => hQ _ _ (by simpa only [fList_eq (fSp_eq 3)] using hl)
    | pan ch => exact hQ _ _ x
  | .mark q :: ds, u, h, x => by
    simp only [leaveB] at x
    simp only [leaveW]
    split at x
    · rename_i heq
      rw [heq]
      exact leaveB_sound hD hQ ds _ _ (by simpa only [fHeap_eq] using x)
    · simp at x
  | .call f as :: ds, u, h, x => by
    simp only [leaveB] at x
    simp only [leaveW]
    refine hD f as h u _ _ (fun r u' h' e => ?_) x
    cases r with
    | ret v => exact leaveB_sound hD hQ ds _ _ e
    | pan ch => exact leaveB_sound hD hQ ds _ _ e

theorem fnKontB_sound {D : DSpecB} {D' : DSpec} (hD : LED D D') {rs : List ResultVar} {Q : Res → UMode → AHeap → Bool} {Q' : Res → UMode → AHeap → Prop} (hQ : ∀ r u h, Q r u h = true → Q' r u h) : LEK (fnKontB P D rs Q) (fnKont P D' rs Q') := by
  intro x s h
  obtain ⟨e, ds, hh, u⟩ := s
  cases x with
  | normal => exact leaveB_sound hD (fun r h e => hQ _ _ _ e) ds _ _ h
  | ret => exact leaveB_sound hD (fun r h e => hQ _ _ _ e) ds _ _ h
  | panic ch => exact leaveB_sound hD (fun r h e => hQ _ _ _ e) ds _ _ h
  | exit id => simp [fnKontB] at h

theorem okFn_spec {f : FuncId} (h : okFn P f = true) : ∃ fn c, P.funcs[f]? = some fn ∧ fn.body = some c ∧ (fn.name == "runtime.NumGoroutine") = false ∧ okCode P fn.ntmps c = true := by
  unfold okFn at h
  split at h
  · rename_i fn hf
    split at h
    · rename_i c hc
      simp only [Bool.and_eq_true, Bool.not_eq_true'] at h
      exact ⟨fn, c, hf, hc, h.1, h.2⟩
    · simp at h
  · simp at h

theorem forget_LES {R : FSpecB} (hR : LES R (SpecC P gs)) : LES (fun f args h Q => R f args h fun r h' => forgetB h.length r h' (Q r)) (SpecC P gs) := by
  intro f args h Q Q' hQ e
  refine SpecC.forget (hR f args h _ _ (fun r h' e => ?_) e)
  unfold forgetB at e
  cases hb : mayForget h.length r (h'.take h.length) with
  | true => rw [hb] at e; exact hQ _ _ (by simpa only [cond_true, fHeap_eq] using e)
  | false => rw [hb] at e; exact hQ _ _ e

theorem extOf_spec {f : FuncId} {fn : Func} (h : extOf P f = some fn) : P.funcs[f]? = some fn ∧ (fn.name == "runtime.NumGoroutine") = false ∧ extB fn = true := by
  unfold extOf at h
  split at h
  · rename_i fn' hf
    split at h
    · cases h
    · cases hb : (extB fn' && !(fn'.name == "runtime.NumGoroutine")) with
      | false => rw [hb] at h; cases h
      | true =>
        rw [hb] at h; injection h with h; subst h
        rw [Bool.and_eq_true, Bool.not_eq_true'] at hb
        exact ⟨hf, hb.2, hb.1⟩
  · cases h

theorem specX_of {f : FuncId} {fn : Func} (hx : extOf P f = some fn) {args : List Value} {h : AHeap} {v : Value} {h' : AHeap} (e : aExt P fn args h = some (v, h')) {Q : Res → AHeap → Prop} (hq : Q (.ret v) h') :
    SpecX P f args h Q := by
  obtain ⟨h1, h2, h3⟩ := extOf_spec hx
  refine ⟨?_, ?_⟩
  · unfold extB at h3
    rw [Bool.and_eq_true] at h3
    unfold hasBody
    rw [h1]
    have := h3.1
    cases hb : fn.body with
    | none => simp only [hb]
    | some b => rw [hb] at this; cases this
  intro F w0 j w args' S hA
  obtain ⟨j', r', w', k1, k2, k3, k4, k5⟩ := aExt_sim S h1 h2 h3 hA e
  exact ⟨v, h', j', r', w', hq, k4, k1, k2, k5, k3⟩

theorem ext_LES {R : FSpecB} (hR : LES R (SpecC P gs)) : LES (fun f args h Q => extOr P f args h Q (R f args h Q)) (SpecC P gs) := by
  intro f args h Q Q' hQ e
  cases f with
  | yield l => exact hR _ _ _ _ _ hQ e
  | fn f =>
    simp only [extOr] at e
    split at e
    · rename_i fn hx
      split at e
      · rename_i v h' ha
        simp only [fV_eq, fHeap_eq] at e
        exact .inr (specX_of hx ha (hQ _ _ e))
      · cases e
    · exact hR _ _ _ _ _ hQ e

/-- what the kernel has run -/
theorem runC_sound (hm : P.follows .mixedOrders = true) {lf : Nat} : ∀ (m : Nat),
    (LES (fun f args h Q => runC P gs lf m f args h .norm fun r _ h => Q r h) (SpecC0 P gs)) ∧ LED (fun f => runC P gs lf m (.fn f)) (SpecD P gs)
  | 0 => ⟨fun f args h Q Q' _ e => by simp [runC] at e, fun f args h u Q Q' _ e => by simp [runC] at e⟩
  | m + 1 => by
    obtain ⟨ihS0, ihD⟩ := runC_sound hm m
    have ihS : LES (fun f args h Q => runC P gs lf m f args h .norm fun r _ h => Q r h) (SpecC P gs) := fun f args h Q Q' hQ e => (ihS0 f args h Q Q' hQ e).toC
    have open1 : ∀ {f : FuncId} {args : List Value} {h : AHeap} {u : UMode} {Q : Res → UMode → AHeap → Bool}, runC P gs lf (m + 1) (.fn f) args h u Q = true →
        ∃ fn c, P.funcs[f]? = some fn ∧ fn.body = some c ∧ (fn.name == "runtime.NumGoroutine") = false ∧ okCode P fn.ntmps c = true ∧ args.length ≤ fn.ntmps ∧
          ∀ Q' : Res → UMode → AHeap → Prop, (∀ r u h, Q r u h = true → Q' r u h) → fnW P gs fn c .leaf args h u Q' := by
      intro f args h u Q e
      simp only [runC] at e
      cases hb : okFn P f with
      | false => rw [hb] at e; simp at e
      | true =>
        rw [hb, cond_true] at e
        obtain ⟨fn, c, h1, h2, h3, h4⟩ := okFn_spec hb
        rw [h1] at e
        simp only [h2] at e
        cases hl : Nat.ble args.length fn.ntmps with
        | false => rw [hl] at e; simp at e
        | true =>
          rw [hl, cond_true] at e
          refine ⟨fn, c, h1, h2, h3, h4, Nat.ble_eq.mp hl, fun Q' hQ => ?_⟩
          exact wpB_sound (ext_LES (forget_LES ihS)) c _ _ _ (fnKontB_sound ihD hQ) e
    constructor
    · intro f args h Q Q' hQ e
      cases f with
      | fn f =>
        obtain ⟨fn, c, h1, h2, h3, h4, h5, h6⟩ := open1 e
        exact spec_of_body hm .leaf h1 h2 h3 h4 h5 (h6 _ fun r u h e => hQ r h e)
      | yield l =>
        simp only [runC] at e
        exact specY_of hm (yieldB_sound (ext_LES (forget_LES ihS)) hQ e)
    · intro f args h u Q Q' hQ e
      obtain ⟨fn, c, h1, h2, h3, h4, h5, h6⟩ := open1 e
      exact specD_of_body hm .leaf h1 h2 h3 h4 h5 (h6 _ hQ)

theorem spec_of_run (hm : P.follows .mixedOrders = true) {lf m : Nat} {f : FuncId} {args : List Value} {h : AHeap} {Q : Res → AHeap → Bool} {Q' : Res → AHeap → Prop} (hQ : ∀ r h, Q r h = true → Q' r h)
    (e : runB P gs lf m f args h .norm (fun r _ h => Q r h) = true) : Spec P gs f args h Q' :=
  (runC_sound (gs := gs) (lf := lf) hm m).1 (.fn f) args h Q Q' hQ e

end Go.Fm
