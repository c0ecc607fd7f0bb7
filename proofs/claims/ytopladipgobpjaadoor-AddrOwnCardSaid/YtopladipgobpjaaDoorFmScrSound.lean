/-
  FmScrSound: what a scripted run asks for is enough.
-/
import Derived.Test.YtopladipgobpjaaDoorFmScr
namespace Go.Fm

variable {P : Program} {gs : List Nat} [UF]

def LS1 (k : NextS) (k' : Value → St → Prop) : Prop := ∀ v s c, k v s c → k' v s
def LS2 (k : PanS) (k' : Chain → St → Prop) : Prop := ∀ v s c, k v s c → k' v s
def LS0 (k : St → Scr → Prop) (k' : St → Prop) : Prop := ∀ s c, k s c → k' s
def LS3 (k : AEnv → List Pd → St → Scr → Prop) (k' : AEnv → List Pd → St → Prop) : Prop := ∀ R p s c, k R p s c → k' R p s
def LSS (S : FSpecS) (S' : FSpec) : Prop := ∀ f args h c Q (Q' : Res → AHeap → Prop), (∀ r h c, Q r h c → Q' r h) → S f args h c Q → S' f args h Q'
def LSD (S : DSpecS) (S' : DSpec) : Prop := ∀ f args h u c Q (Q' : Res → UMode → AHeap → Prop), (∀ r u h c, Q r u h c → Q' r u h) → S f args h u c Q → S' f args h u Q'
/-- contracts may say less -/
def Mono (S : FSpec) : Prop := ∀ f args h (Q Q' : Res → AHeap → Prop), (∀ r h, Q r h → Q' r h) → S f args h Q → S f args h Q'

omit [UF] in
theorem bnd_mono {α : Type} {o : Option α} {k k' : α → Prop} (h : bnd o k) (hk : ∀ a, k a → k' a) : bnd o k' := by
  cases o with
  | none => exact h
  | some a => exact hk a h

omit [UF] in
theorem stepS_sound {op : Op} {vs : List (Option Value)} {h0 : AHeap} {o : Option Value} {c : Scr} {next : Value → Scr → Prop} {k : Value → Prop} (hk : ∀ v c, next v c → k v) (h : stepS op vs h0 o c next) : bnd o k := by
  unfold stepS at h
  split at h
  · exact bnd_mono h fun v hv => hk v _ (by simpa only [gR_eq] using hv)
  · exact bnd_mono h fun v hv => hk v _ (by simpa only [gR_eq] using hv)
  · split at h
    · split at h
      · rename_i b
        cases b with
        | true => exact hk _ _ (h.1 rfl)
        | false => exact hk _ _ (h.2 rfl)
      · exact h.elim
    · obtain ⟨⟨b, hb⟩, ht, hf⟩ := h
      rw [hb]
      cases b with
      | true => exact hk _ _ (ht hb)
      | false => exact hk _ _ (hf hb)
    · rw [h.1]; exact hk _ _ h.2
    · rw [h.1]; exact hk _ _ h.2
    · split at h
      · exact hk _ _ (h _ rfl)
      · exact h.elim
    · exact bnd_mono h fun v hv => hk v _ hv
    · rw [h.1]; exact hk _ _ h.2
    · obtain ⟨⟨a, ha⟩, hn⟩ := h
      rw [ha]; exact hk _ _ (hn a ha)
    · exact h.2.elim
    · exact h.elim
  · exact h.elim

omit [UF] in
theorem turnS_sound {o : Option Value} {c : Scr} {t f : Scr → Prop} {p : Bool → Prop} (ht : ∀ c, t c → p true) (hf : ∀ c, f c → p false) (h : turnS o c t f) : ∃ b, o = some (.bool b) ∧ p b := by
  unfold turnS at h
  split at h
  · split at h
    · rename_i b
      cases b with
      | true => exact ⟨_, rfl, ht _ h⟩
      | false => exact ⟨_, rfl, hf _ h⟩
    · exact h.elim
  · split at h
    · rename_i b
      cases b with
      | true => exact ⟨_, rfl, ht _ h⟩
      | false => exact ⟨_, rfl, hf _ h⟩
    · exact h.elim
  · split at h
    · split at h
      · rename_i b
        cases b with
        | true => exact ⟨_, rfl, ht _ (h.1 rfl)⟩
        | false => exact ⟨_, rfl, hf _ (h.2 rfl)⟩
      · exact h.elim
    · exact ⟨_, h.1, ht _ h.2⟩
    · exact ⟨_, h.1, hf _ h.2⟩
    · exact h.2.elim
    · exact h.elim
  · exact h.elim

theorem effS1_sound {op : Op} {vs : List (Option Value)} {h0 : AHeap} {o : Option (Value × AHeap)} {c : Scr} {next : Value → AHeap → Scr → Prop} {k : Value × AHeap → Prop} (hk : ∀ v h c, next v h c → k (v, h)) (h : effS1 op vs h0 o c next) : bnd o k := by
  unfold effS1 at h
  split at h
  · exact bnd_mono h fun p hv => hk _ _ _ (by simpa only [gE_eq, gHeap_eq] using hv)
  · exact bnd_mono h fun p hv => hk _ _ _ (by simpa only [gE_eq, gHeap_eq] using hv)
  · split at h
    · exact bnd_mono h fun p hv => hk _ _ _ (by simpa only [gHeap_eq] using hv)
    · rw [h.1]; exact hk _ _ _ h.2
    · obtain ⟨⟨a, ha⟩, hn⟩ := h
      rw [ha]; exact hk _ _ _ (hn a ha)
    · exact h.2.elim
    · exact h.elim
  · exact h.elim

theorem effS_sound {op : Op} {vs : List (Option Value)} {h0 : AHeap} {o : Option (Value × AHeap)} {c : Scr} {next : Value → AHeap → Scr → Prop} {k : Value × AHeap → Prop} (hk : ∀ v h c, next v h c → k (v, h)) (h : effS op vs h0 o c next) : bnd o k := by
  unfold effS at h
  split at h
  · rename_i b _ _
    cases b with
    | true => exact effS1_sound hk (h.1 rfl)
    | false => exact effS1_sound hk (h.2 rfl)
  · exact effS1_sound hk h

omit [UF] in
theorem allS_sound {k k' : Value → AHeap → Prop} (hk : ∀ v h, k v h → k' v h) : ∀ {l : List (Value × AHeap)}, allS l k → allW l k'
  | [], _ => trivial
  | [(_, _)], e => ⟨hk _ _ e, trivial⟩
  | (_, _) :: (_, _) :: _, e => ⟨hk _ _ e.1, allS_sound hk e.2⟩

omit [UF] in
theorem afterS_sound {s : St} {next : NextS} {next' : Value → St → Prop} {pan : PanS} {pan' : Chain → St → Prop} (hn : LS1 next next') (hp : LS2 pan pan') : ∀ r h c, afterS s next pan r h c → afterCall s next' pan' r h
  | .ret _, _, _, e => hn _ _ _ e
  | .pan _, _, _, e => hp _ _ _ e

omit [UF] in
theorem recoverS_sound {s : St} {c : Scr} {next : NextS} {next' : Value → St → Prop} (hn : LS1 next next') (h : recoverS s c next) : recoverW s next' := by
  obtain ⟨e, ds, hh, u⟩ := s
  unfold recoverS at h
  unfold recoverW
  split at h
  · rename_i heq; injection heq with h1 h2 h3 h4; subst h1 h2 h3 h4; exact hn _ _ _ h
  · exact h.elim
  · rename_i h1 h2
    simp only
    split
    · rename_i v older; exact absurd rfl (h1 _ _ _ _ _)
    · exact absurd rfl (h2 _ _ _)
    · exact hn _ _ _ h

theorem dataS_sound {ρ : Operand → Option Value} {op : Op} {s : St} {c : Scr} {next : NextS} {next' : Value → St → Prop} (hn : LS1 next next') (h : dataS P ρ op s c next) : dataW P ρ op s next' := by
  unfold dataS at h
  unfold dataW
  obtain ⟨e, ds, hh, u⟩ := s
  split at h
  · rename_i hc; rw [hc]; exact stepS_sound (fun v c hv => hn _ _ _ hv) h
  · rename_i hc; rw [hc]; exact stepS_sound (fun v c hv => hn _ _ _ hv) h
  · rename_i hc; rw [hc]
    have := effS_sound (k := fun p => next' p.1 ⟨e, ds, p.2, u⟩) (fun v h c hv => hn _ _ _ hv) h
    simp only
    cases ha : aAlloc P ρ hh.length op with
    | none => rw [ha] at this; exact this
    | some p => rw [ha] at this; exact this
  · rename_i hc; rw [hc]
    exact effS_sound (k := fun p => next' p.1 ⟨e, ds, p.2, u⟩) (fun v h c hv => hn _ _ _ hv) h

omit [UF] in
theorem callS_sound {S : FSpecS} {K : FSpec} (hS : LSS S K) (hK : Mono K) {p : Callee × List Value} {h : AHeap} {c : Scr} {Q : Res → AHeap → Scr → Prop} {Q' : Res → AHeap → Prop} (hQ : ∀ r h c, Q r h c → Q' r h) (e : callS S K p h c Q) : K p.1 p.2 h Q' := by
  obtain ⟨g, as⟩ := p
  unfold callS at e
  split at e
  · obtain ⟨e1, e2⟩ := e
    refine hK _ _ _ _ _ ?_ e1
    rintro r h' ⟨a, h1, rfl, rfl⟩
    exact hQ _ _ _ (e2 a h1)
  · cases g with
    | fn f => exact e.2.elim
    | yield l => exact e.2.elim
  · exact hS _ _ _ _ _ _ hQ e
  · exact hS _ _ _ _ _ _ hQ e

section
variable {S : FSpecS} {K : FSpec}

theorem opS_sound (hS : LSS S K) (hK : Mono K) {ρ : Operand → Option Value} {op : Op} {s : St} {c : Scr} {next : NextS} {next' : Value → St → Prop} {pan : PanS} {pan' : Chain → St → Prop} (hn : LS1 next next') (hp : LS2 pan pan')
    (h : opS P S K ρ op s c next pan) : opW P K ρ op s next' pan' := by
  unfold opS at h
  split at h
  · exact bnd_mono h fun p hb => callS_sound hS hK (afterS_sound hn hp) hb
  · exact recoverS_sound hn h
  · obtain ⟨e, ds, hh, u⟩ := s
    unfold opW
    split at h
    · exact h.elim
    · rename_i hno heq
      injection heq with h1 h2 h3 h4; subst h1 h2 h3 h4
      simp only
      refine bnd_mono h fun p hb => ?_
      obtain ⟨g, as⟩ := p
      cases g with
      | fn g => exact hn _ _ _ (by simpa only [gList_eq (gSp_eq 3)] using hb)
      | yield l => exact hb.elim
  · unfold opW
    simp only
    split at h
    · rename_i heq; rw [heq]; exact hp _ _ _ h
    · exact h.elim
  · unfold opW
    exact bnd_mono h fun outs hb => allS_sound (fun v h' e => hn _ _ c (by obtain ⟨e', ds, hh, u⟩ := s; simpa only [gSp_eq, gHeap_eq] using e)) hb
  · rename_i h1 h2 h3 h4 h5
    unfold opW
    split
    · exact absurd rfl (h1 _ _ _)
    · exact absurd rfl (h2 _ _)
    · exact absurd rfl (h3 _ _ _)
    · exact absurd rfl (h4 _)
    · exact absurd rfl (h5 _)
    · exact dataS_sound hn h

omit [UF] in
theorem guardS_sound {g : Option Value} {want : Bool} {run : Scr → NextS → Prop} {run' : (Value → St → Prop) → Prop} {s : St} {c : Scr} {next : NextS} {next' : Value → St → Prop} (hn : LS1 next next') (hr : ∀ c, run c next → run' next')
    (h : guardS g want run s c next) : guardK g want run' s next' := by
  unfold guardS at h
  split at h
  · exact hn _ _ _ h
  have := turnS_sound (p := fun b => cond b (cond want (run' next') (next' undefV s)) (cond want (next' undefV s) (run' next'))) (fun c hc => by
      cases want with
      | true => exact hr c hc
      | false => exact hn _ _ _ hc) (fun c hc => by
      cases want with
      | true => exact hn _ _ _ hc
      | false => exact hr c hc) h
  obtain ⟨b, rfl, hb⟩ := this
  unfold guardK
  simp only
  cases b <;> cases want <;> simpa using hb

omit [UF] in
theorem putS_sound {n : Nat} {dst : Option Nat} {v : Value} {s : St} {c : Scr} {k : St → Scr → Prop} {k' : St → Prop} (hk : LS0 k k') (h : putS n dst v s c k) : putW n dst v s k' := by
  unfold putS at h
  unfold putW
  split at h
  · rename_i d
    cases hb : Nat.blt d n with
    | false => rw [hb] at h; exact h.elim
    | true =>
      rw [hb] at h; obtain ⟨e, ds, hh, u⟩ := s
      simp only [hb, cond_true]
      exact hk _ _ h
  · exact hk _ _ h

theorem opsS_sound (hS : LSS S K) (hK : Mono K) {n : Nat} {gd : Nat → Option Nat} {k : St → Scr → Prop} {k' : St → Prop} {pan : PanS} {pan' : Chain → St → Prop} (hk : LS0 k k') (hp : LS2 pan pan') :
    ∀ (l : List Oper) (s : St) (c : Scr), opsS P gs n S K gd l s c k pan → opsW P gs n K gd l s k' pan'
  | [], s, c, h => hk s c h
  | o :: r, s, c, h => by
    have ih : LS0 (fun s c => opsS P gs n S K gd r s c k pan) (fun s => opsW P gs n K gd r s k' pan') := fun s c e => opsS_sound hS hK hk hp r s c e
    have hput : LS1 (fun v s' c => putS n o.dst v s' c fun s' c => opsS P gs n S K gd r s' c k pan) (fun v s' => putW n o.dst v s' fun s' => opsW P gs n K gd r s' k' pan') := fun v s' c e => putS_sound ih e
    simp only [opsS, operS] at h
    simp only [opsW, operW]
    split at h
    · rename_i hg; rw [hg]; exact opS_sound hS hK hput hp h
    · rename_i j want hg; rw [hg]; exact guardS_sound hput (fun c e => opS_sound hS hK hput hp e) h

/-! ## regions that draw -/

omit [UF] in
theorem checks_mono {st : Nat} {h : AHeap} {p p' : Prop} (hp : p → p') : ∀ {l : List Pd}, checks l st h p → checks l st h p'
  | [], e => hp e
  | d :: r, e => by
    unfold checks at e ⊢
    cases hb : Nat.ble st d.hi with
    | true => rw [hb] at e; exact ⟨e.1, checks_mono hp e.2⟩
    | false => rw [hb] at e; exact checks_mono hp e

theorem floatS_sound {ρ : Operand → Option Value} {i hi st : Nat} {op : Op} {R : AEnv} {pend : List Pd} {s : St} {c : Scr} {k : AEnv → List Pd → St → Scr → Prop} {k' : AEnv → List Pd → St → Prop} (hk : LS3 k k')
    (h : floatS P ρ i hi st op R pend s c k) : floatK P ρ i hi st op R pend s k' := by
  unfold floatS at h
  unfold floatK
  obtain ⟨e, ds, hh, u⟩ := s
  split at h
  · rename_i hc; rw [hc]; exact stepS_sound (fun v c hv => hk _ _ _ _ hv) h
  · rename_i hc; rw [hc]; exact stepS_sound (fun v c hv => hk _ _ _ _ hv) h
  · rename_i hc; rw [hc]
    refine bnd_mono h fun v hv => ?_
    simp only [gV_eq, gObj_eq, gHeap_eq] at hv
    exact hk _ _ _ _ hv
  · exact h.elim

omit [UF] in
theorem guardFS_sound {g : Option Value} {want : Bool} {run : Scr → (AEnv → List Pd → St → Scr → Prop) → Prop} {run' : (AEnv → List Pd → St → Prop) → Prop} {i : Nat} {R : AEnv} {pend : List Pd} {s : St} {c : Scr}
    {k : AEnv → List Pd → St → Scr → Prop} {k' : AEnv → List Pd → St → Prop} (hk : LS3 k k') (hr : ∀ c, run c k → run' k') (h : guardFS g want run i R pend s c k) : guardF g want run' i R pend s k' := by
  unfold guardFS at h
  split at h
  · exact hk _ _ _ _ h
  have := turnS_sound (p := fun b => cond b (cond want (run' k') (k' ((i, undefV) :: R) pend s)) (cond want (k' ((i, undefV) :: R) pend s) (run' k'))) (fun c hc => by
      cases want with
      | true => exact hr c hc
      | false => exact hk _ _ _ _ hc) (fun c hc => by
      cases want with
      | true => exact hk _ _ _ _ hc
      | false => exact hr c hc) h
  obtain ⟨b, rfl, hb⟩ := this
  unfold guardF
  simp only
  cases b <;> cases want <;> simpa using hb

theorem floatsS_sound {L : List Oper} {ms ws : List Nat} {e0 : AEnv} {st : Nat} {k : AEnv → List Pd → St → Scr → Prop} {k' : AEnv → List Pd → St → Prop} (hk : LS3 k k') :
    ∀ (l : List Nat) (R : AEnv) (pend : List Pd) (s : St) (c : Scr), floatsS P gs L ms ws e0 st l R pend s c k → floatsW P gs L ms ws e0 st l R pend s k'
  | [], R, pend, s, c, h => hk _ _ _ _ h
  | i :: r, R, pend, s, c, h => by
    have ih : LS3 (fun R p s c => floatsS P gs L ms ws e0 st r R p s c k) (fun R p s => floatsW P gs L ms ws e0 st r R p s k') := fun R p s c h => floatsS_sound hk r R p s c h
    simp only [floatsS] at h
    simp only [floatsW]
    split at h
    · exact h.elim
    · rename_i o ho
      rw [ho]
      simp only
      split at h
      · rename_i hg; rw [hg]; exact floatS_sound ih h
      · rename_i hg; rw [hg]; exact guardFS_sound ih (fun c e => floatS_sound ih e) h

theorem effKS_sound (hS : LSS S K) (hK : Mono K) {L : List Oper} {ms : List Nat} {e0 : AEnv} {i : Nat} {R : AEnv} {s : St} {c : Scr} {next : NextS} {next' : Value → St → Prop} {pan : PanS} {pan' : Chain → St → Prop} (hn : LS1 next next') (hp : LS2 pan pan')
    (h : effKS P gs S K L ms e0 i R s c next pan) : effK P gs K L ms e0 i R s next' pan' := by
  unfold effKS at h
  unfold effK
  split at h
  · exact h.elim
  · rename_i o ho
    rw [ho]
    simp only
    split at h
    · rename_i hg; rw [hg]; exact opS_sound hS hK hn hp h
    · rename_i hg; rw [hg]; exact guardS_sound hn (fun c e => opS_sound hS hK hn hp e) h

theorem stagesS_sound (hS : LSS S K) (hK : Mono K) {L : List Oper} {ms ws : List Nat} {e0 : AEnv} {k : AEnv → St → Scr → Prop} {k' : AEnv → St → Prop} {pan : PanS} {pan' : Chain → St → Prop} (hk : ∀ R s c, k R s c → k' R s) (hp : LS2 pan pan') :
    ∀ (l : List (List Nat × Option Nat)) (st : Nat) (R : AEnv) (pend : List Pd) (s : St) (c : Scr), stagesS P gs S K L ms ws e0 l st R pend s c k pan → stagesW P gs K L ms ws e0 l st R pend s k' pan'
  | [], _, R, _, s, c, h => hk R s c h
  | (fl, none) :: _, st, R, pend, s, c, h => floatsS_sound (fun R _ s c e => hk R s c e) fl R pend s c h
  | (fl, some w) :: r, st, R, pend, s, c, h => by
    refine floatsS_sound (fun R1 p1 s1 c1 e1 => ?_) fl R pend s c h
    refine effKS_sound hS hK (fun v s2 c2 e2 => ?_) hp e1
    exact checks_mono (fun e3 => stagesS_sound hS hK hk hp r _ _ _ _ _ e3) e2

theorem drawS_sound (hS : LSS S K) (hK : Mono K) {L : List Oper} {s : St} {c : Scr} {k : St → Scr → Prop} {k' : St → Prop} {pan : PanS} {pan' : Chain → St → Prop} (hk : LS0 k k') (hp : LS2 pan pan') (h : drawS P gs S K L s c k pan) : drawW P gs K L s k' pan' := by
  obtain ⟨e, ds, hh, u⟩ := s
  exact stagesS_sound hS hK (fun R s' c e => hk _ _ e) (fun ch s' c e => hp _ _ _ e) _ _ _ _ _ _ h

/-! ## code -/

def LSK (K : KontS) (K' : Kont) : Prop := ∀ x s c, K x s c → K' x s

omit [UF] in
theorem seq_LS {K : KontS} {K' : Kont} (hK : LSK K K') {n : St → Scr → Prop} {n' : St → Prop} (hn : LS0 n n') : LSK (K.seq n) (K'.seq n') := by
  intro x s c h
  cases x with
  | normal => exact hn s c h
  | _ => exact hK _ _ c h

omit [UF] in
theorem block_LS {K : KontS} {K' : Kont} (hK : LSK K K') {id : Nat} : LSK (K.block id) (K'.block id) := by
  intro x s c h
  cases x with
  | exit id' =>
    simp only [KontS.block] at h
    simp only [Kont.block]
    cases hb : Nat.beq id' id with
    | true => rw [hb] at h; rw [if_pos (Nat.eq_of_beq_eq_true hb)]; exact hK _ _ c h
    | false => rw [hb] at h; rw [if_neg (Nat.ne_of_beq_eq_false hb)]; exact hK _ _ c h
  | _ => exact hK _ _ c h

omit [UF] in
theorem loopS_sound {B : KontS → St → Scr → Prop} {B' : Kont → St → Prop} (hB : ∀ KB K s c, LSK KB K → B KB s c → B' K s) {K : KontS} {K' : Kont} (hK : LSK K K') {n0 : Nat} : ∀ (m : Nat) (s : St) (c : Scr), loopS m B K s c → loopW gs n0 B' K' s
  | 0, s, c, h => h.elim
  | m + 1, s, c, h => by
    intro X hX hG
    obtain ⟨e, ds, hh, u⟩ := s
    simp only [loopS, gList_eq (fun _ _ => rfl)] at h
    refine hG _ _ Gc.dedupe (hX _ (hB _ _ _ c (seq_LS hK fun s' c' e => ?_) h))
    exact loopS_sound hB hK m s' c' e X hX hG

omit [UF] in
theorem loopC_sound {lf n0 : Nat} {B : KontS → St → Scr → Prop} {B' : Kont → St → Prop} (hB : ∀ KB K s c, LSK KB K → B KB s c → B' K s) {K : KontS} {K' : Kont} (hK : LSK K K') (s : St) (c : Scr) (h : loopC gs lf n0 B K s c) : loopW gs n0 B' K' s := by
  unfold loopC at h
  split at h
  · rename_i A q m sc
    obtain ⟨⟨a0, h1, h2⟩, h3⟩ := h
    intro X hX hG
    have key : ∀ (k : Nat) (a : A), m a < k → (q a).1 → X (q a).2 := by
      intro k
      induction k with
      | zero => intro a ha _; omega
      | succ k ih =>
        intro a ha hq
        refine hX _ (hB _ _ _ (sc a) (seq_LS hK fun s' c' e => ?_) (h3 a hq))
        obtain ⟨a', e1, e2, e3⟩ := e
        exact hG _ _ e3 (ih a' (by omega) e1)
    exact hG _ _ h2 (key (m a0 + 1) a0 (by omega) h1)
  · rename_i A A' q m sc q' m' sc'
    obtain ⟨h0, h3, h4⟩ := h
    intro X hX hG
    have key : ∀ (k : Nat), (∀ a : A, m a < k → (q a).1 → X (q a).2) ∧ ∀ a : A', m' a < k → (q' a).1 → X (q' a).2 := by
      intro k
      induction k with
      | zero => exact ⟨fun a ha _ => by omega, fun a ha _ => by omega⟩
      | succ k ih =>
        refine ⟨fun a ha hq => ?_, fun a ha hq => ?_⟩
        · refine hX _ (hB _ _ _ (sc a) (seq_LS hK fun s' c' e => ?_) (h3 a hq))
          rcases e with ⟨a', e1, e2, e3⟩ | ⟨a', e1, e2, e3⟩
          · exact hG _ _ e3 (ih.1 a' (by omega) e1)
          · exact hG _ _ e3 (ih.2 a' (by omega) e1)
        · refine hX _ (hB _ _ _ (sc' a) (seq_LS hK fun s' c' e => ?_) (h4 a hq))
          rcases e with ⟨a', e1, e2, e3⟩ | ⟨a', e1, e2, e3⟩
          · exact hG _ _ e3 (ih.1 a' (by omega) e1)
          · exact hG _ _ e3 (ih.2 a' (by omega) e1)
    rcases h0 with ⟨a0, h1, h2⟩ | ⟨a0, h1, h2⟩
    · exact hG _ _ h2 ((key (m a0 + 1)).1 a0 (by omega) h1)
    · exact hG _ _ h2 ((key (m' a0 + 1)).2 a0 (by omega) h1)
  · exact loopS_sound hB hK _ s _ h
  · exact h.2.elim
  · exact loopS_sound hB hK lf s _ h
  · exact loopS_sound hB hK lf s _ h

omit [UF] in
theorem jumpS_sound {k : KontS} {k' : Kont} (hK : LSK k k') {s : St} {c : Scr} {o : Option Code} (h : jumpS k s c o) : jumpW k' s o := by
  cases o with
  | none => exact hK _ _ _ h
  | some x => cases x <;> first | exact hK _ _ _ h | exact h.elim

theorem endLoopS_sound {l : Nat} {k : KontS} {k' : Kont} (hK : LSK k k') {s : St} {c : Scr} (h : endLoopS l k s c) : endLoopW l k' s := by
  obtain ⟨e, ds, hh, u⟩ := s
  unfold endLoopS at h
  unfold endLoopW
  simp only at h ⊢
  split at h
  · rename_i st pd dq heq
    rw [heq]
    simp only
    cases st with
    | busy => exact h.elim
    | _ => exact jumpS_sound hK (by simpa only [gHeap_eq] using h)
  · exact h.elim

theorem afterRangeS_sound {l : Nat} {k : KontS} {k' : Kont} (hK : LSK k k') {s : St} : ∀ r h c, afterRangeS l k s r h c → afterRange l k' s r h
  | .ret _, _, _, e => endLoopS_sound hK e
  | .pan _, _, _, e => hK _ _ _ e

theorem rangeS_sound (hS : LSS S K) {n : Nat} {v : Option Value} {ps : List Nat} {x y : Code} {k : KontS} {k' : Kont} (hK : LSK k k') {s : St} {c : Scr} (h : rangeS P n S v ps x y k s c) : rangeW P n K v ps x y k' s := by
  obtain ⟨e, ds, hh, u⟩ := s
  unfold rangeS at h
  unfold rangeW
  simp only at h ⊢
  split at h
  · exact h.elim
  · rename_i hu
    split
    · exact absurd rfl hu
    · split at h
      · rename_i g first cap
        cases hb : hasBody P g with
        | false => rw [hb] at h; exact h.elim
        | true =>
          rw [hb, cond_true] at h
          simp only [gNat_eq, gHeap_eq] at h
          exact ⟨hb, hS _ _ _ _ _ _ (afterRangeS_sound hK) h⟩
      · exact h.elim

theorem wpS_sound (hS : LSS S K) (hM : Mono K) {n lf n0 : Nat} : ∀ (b : Code) (k : KontS) (k' : Kont) (s : St) (c : Scr), LSK k k' → wpS P gs n lf S K n0 b k s c → wpc P gs n K n0 b .leaf k' s := by
  intro b
  induction b with
  | skip => intro k k' s c hk h; exact hk _ _ _ h
  | label l => intro k k' s c hk h; exact hk _ _ _ h
  | seq x y ihx ihy => intro k k' s c hk h; exact ihx _ _ s c (seq_LS hk fun s' c' e => ihy _ _ s' c' hk e) h
  | cond q x y ihx ihy =>
    intro k k' s c hk h
    simp only [wpS] at h
    simp only [wpc]
    obtain ⟨b, hb, hp⟩ := turnS_sound (p := fun b => cond b (wpc P gs n K n0 x .leaf k' s) (wpc P gs n K n0 y .leaf k' s)) (fun c hc => ihx _ _ s c hk hc) (fun c hc => ihy _ _ s c hk hc) h
    unfold condW
    rw [hb]
    cases b with
    | true => exact hp
    | false => exact hp
  | block id x ih => intro k k' s c hk h; exact ih _ _ s c (block_LS hk) h
  | scope x ih => intro k k' s c hk h; exact ih _ _ s c hk h
  | loop x ih => intro k k' s c hk h; exact loopC_sound (fun KB K s c hk e => ih KB K s c hk e) hk s c h
  | exit id => intro k k' s c hk h; exact hk _ _ _ h
  | ret => intro k k' s c hk h; exact hk _ _ _ h
  | region id ops draw =>
    intro k k' s c hk h
    cases draw with
    | true => exact drawS_sound hS hM (fun s c e => hk _ _ c e) (fun ch s c e => hk _ _ c e) h
    | false => exact opsS_sound hS hM (fun s c e => hk _ _ c e) (fun ch s c e => hk _ _ c e) _ s c h
  | rangeFunc f ps x y => intro k k' s c hk h; exact rangeS_sound hS hk h
  | goto l => intro k k' s c hk h; exact h.elim
  | refuse y => intro k k' s c hk h; exact h.elim

end

theorem setS_sound {o : Option AHeap} {k k' : AHeap → Prop} (hk : ∀ h, k h → k' h) (h : setS o k) : bnd o k' := by
  cases o with
  | none => exact h
  | some x => exact hk _ (by simpa only [setS, gHeap_eq] using h)

theorem roundKS_sound {l : Nat} {Q : Res → AHeap → Scr → Prop} {Q' : Res → AHeap → Prop} (hQ : ∀ r h c, Q r h c → Q' r h) : LSK (roundKS l Q) (roundK l Q') := by
  intro x s c h
  cases x with
  | normal => exact setS_sound (fun h e => hQ _ _ _ e) h
  | ret => exact setS_sound (fun h e => hQ _ _ _ e) h
  | exit id => exact setS_sound (fun h e => hQ _ _ _ e) h
  | panic ch =>
    obtain ⟨e, ds, hh, u⟩ := s
    cases ds with
    | nil => exact hQ _ _ _ h
    | cons _ _ => exact h.elim

theorem assignKS_sound {l : Nat} {k : St → Scr → Prop} {k' : St → Prop} (hk : LS0 k k') {Q : Res → AHeap → Scr → Prop} {Q' : Res → AHeap → Prop} (hQ : ∀ r h c, Q r h c → Q' r h) : LSK (assignKS l k Q) (assignK l k' Q') := by
  intro x s c h
  cases x with
  | normal => obtain ⟨e, ds, hh, u⟩ := s; exact setS_sound (fun h e => hk _ _ e) h
  | ret => exact h.elim
  | exit id => exact h.elim
  | panic ch =>
    obtain ⟨e, ds, hh, u⟩ := s
    cases ds with
    | nil => exact hQ _ _ _ h
    | cons _ _ => exact h.elim

theorem yieldS_sound {S : FSpecS} {K : FSpec} (hS : LSS S K) (hM : Mono K) {lf : Nat} {l : Nat} {args : List Value} {h : AHeap} {c : Scr} {Q : Res → AHeap → Scr → Prop} {Q' : Res → AHeap → Prop} (hQ : ∀ r h c, Q r h c → Q' r h)
    (e : yieldS P gs lf S K l args h c Q) : yieldW P gs K l args h Q' := by
  unfold yieldS at e
  unfold yieldW
  split at e
  · rename_i e0 n m ps x y st pd dq heq
    rw [heq]
    simp only
    generalize hc : (Nat.beq args.length ps.length && (Nat.beq m P.funcs.size && (ps.all (Nat.blt · n) && (okCode P n x && okCode P n y)))) = b at e ⊢
    cases b with
    | false => exact e.elim
    | true => exact ⟨rfl, wpS_sound hS hM x _ _ _ _ (assignKS_sound (fun s c e => wpS_sound hS hM y _ _ _ _ (roundKS_sound hQ) e) hQ) e⟩
  · exact e.elim

theorem leaveS_sound {D : DSpecS} {D' : DSpec} (hD : LSD D D') {rs : List ResultVar} {e : AEnv} {Q : Res → AHeap → Scr → Prop} {Q' : Res → AHeap → Prop} (hQ : ∀ r h c, Q r h c → Q' r h) :
    ∀ (ds : List ADef) (u : UMode) (h : AHeap) (c : Scr), leaveS P D rs e ds u h c Q → leaveW P D' rs e ds u h Q'
  | [], u, h, c, x => by
    cases u with
    | norm => exact x.elim
    | round => exact x.elim
    | ret => exact bnd_mono x fun l hl => hQ _ _ c (by simpa only [gList_eq (gSp_eq 3)] using hl)
    | pan ch => exact hQ _ _ _ x
  | .mark q :: ds, u, h, c, x => by
    simp only [leaveS] at x
    simp only [leaveW]
    split at x
    · rename_i heq
      rw [heq]
      exact leaveS_sound hD hQ ds _ _ c (by simpa only [gHeap_eq] using x)
    · exact x.elim
  | .call f as :: ds, u, h, c, x => by
    simp only [leaveS] at x
    simp only [leaveW]
    refine hD f as h u _ _ _ (fun r u' h' c' e => ?_) x
    cases r with
    | ret v => exact leaveS_sound hD hQ ds _ _ _ e
    | pan ch => exact leaveS_sound hD hQ ds _ _ _ e

theorem fnKontS_sound {D : DSpecS} {D' : DSpec} (hD : LSD D D') {rs : List ResultVar} {Q : Res → UMode → AHeap → Scr → Prop} {Q' : Res → UMode → AHeap → Prop} (hQ : ∀ r u h c, Q r u h c → Q' r u h) : LSK (fnKontS P D rs Q) (fnKont P D' rs Q') := by
  intro x s c h
  obtain ⟨e, ds, hh, u⟩ := s
  cases x with
  | normal => exact leaveS_sound hD (fun r h c e => hQ _ _ _ c e) ds _ _ _ h
  | ret => exact leaveS_sound hD (fun r h c e => hQ _ _ _ c e) ds _ _ _ h
  | panic ch => exact leaveS_sound hD (fun r h c e => hQ _ _ _ c e) ds _ _ _ h
  | exit id => exact h.elim

omit [UF] in
theorem SpecC_mono : Mono (SpecC P gs) := by
  intro f args h Q Q' hq hs
  cases f with
  | fn f =>
    rcases hs with hs | hs
    · exact .inl (Spec.mono hs hq)
    · refine .inr ⟨hs.1, fun F w0 j w args' S hA => ?_⟩
      obtain ⟨v, h', j', v', w', k, r⟩ := hs.2 F w0 j w args' S hA
      exact ⟨v, h', j', v', w', hq _ _ k, r⟩
  | yield l =>
    intro G F w0 j w args' c cs L S hA hg hj hr hp
    exact hs G F w0 j w args' c cs L S hA hg hj (fun v h' j' w' v' q => hr v h' j' w' v' (hq _ _ q)) (fun ch h' j' w' ch' q => hp ch h' j' w' ch' (hq _ _ q))

omit [UF] in
theorem known_LSS {kn : List Nat} {R : FSpecS} (hR : LSS R (SpecC P gs)) : LSS (fun f args h c Q => knownS kn f (R f args h c Q)) (SpecC P gs) := by
  intro f args h c Q Q' hQ e
  cases f with
  | fn f =>
    simp only [knownS] at e
    cases hb : kn.contains f with
    | true => rw [hb] at e; exact e.elim
    | false => rw [hb] at e; exact hR _ _ _ _ _ _ hQ e
  | yield l => exact hR _ _ _ _ _ _ hQ e

theorem forget_LSS {fg : Bool} {R : FSpecS} (hR : LSS R (SpecC P gs)) : LSS (fun f args h c Q => R f args h c fun r h' c => forgetS fg h.length r h' c (Q r)) (SpecC P gs) := by
  intro f args h c Q Q' hQ e
  cases fg with
  | false => exact hR f args h c _ _ (fun r h' c e => hQ _ _ c e) e
  | true =>
  refine SpecC.forget (hR f args h c _ _ (fun r h' c e => ?_) e)
  simp only [forgetS, cond_true] at e
  cases hb : mayForget h.length r (h'.take h.length) with
  | true => rw [hb] at e; exact hQ _ _ c (by simpa only [cond_true, gHeap_eq] using e)
  | false => rw [hb] at e; exact hQ _ _ c e

theorem ext_LSS {R : FSpecS} (hR : LSS R (SpecC P gs)) : LSS (fun f args h c Q => extOrS P f args h c Q (R f args h c Q)) (SpecC P gs) := by
  intro f args h c Q Q' hQ e
  cases f with
  | yield l => exact hR _ _ _ _ _ _ hQ e
  | fn f =>
    simp only [extOrS] at e
    split at e
    · rename_i fn hx
      split at e
      · rename_i v h' ha
        simp only [gHeap_eq] at e
        exact .inr (specX_of hx ha (hQ _ _ _ e))
      · exact e.elim
    · exact hR _ _ _ _ _ _ hQ e

/-- what a scripted run asks for is enough -/
theorem runX_sound (hm : P.follows .mixedOrders = true) {fg : Bool} {kn : List Nat} {lf : Nat} : ∀ (m : Nat),
    (LSS (fun f args h c Q => runX P gs fg kn lf (SpecC P gs) m f args h .norm c fun r _ h c => Q r h c) (SpecC0 P gs)) ∧ LSD (fun f => runX P gs fg kn lf (SpecC P gs) m (.fn f)) (SpecD P gs)
  | 0 => ⟨fun f args h c Q Q' _ e => e.elim, fun f args h u c Q Q' _ e => e.elim⟩
  | m + 1 => by
    obtain ⟨ihS0, ihD⟩ := runX_sound hm m
    have ihS : LSS (fun f args h c Q => runX P gs fg kn lf (SpecC P gs) m f args h .norm c fun r _ h c => Q r h c) (SpecC P gs) := fun f args h c Q Q' hQ e => (ihS0 f args h c Q Q' hQ e).toC
    have open1 : ∀ {f : FuncId} {args : List Value} {h : AHeap} {u : UMode} {c : Scr} {Q : Res → UMode → AHeap → Scr → Prop}, runX P gs fg kn lf (SpecC P gs) (m + 1) (.fn f) args h u c Q →
        ∃ fn b, P.funcs[f]? = some fn ∧ fn.body = some b ∧ (fn.name == "runtime.NumGoroutine") = false ∧ okCode P fn.ntmps b = true ∧ args.length ≤ fn.ntmps ∧
          ∀ Q' : Res → UMode → AHeap → Prop, (∀ r u h c, Q r u h c → Q' r u h) → fnW P gs fn b .leaf args h u Q' := by
      intro f args h u c Q e
      simp only [runX] at e
      cases hb : okFn P f with
      | false => rw [hb] at e; exact e.elim
      | true =>
        rw [hb, cond_true] at e
        obtain ⟨fn, b, h1, h2, h3, h4⟩ := okFn_spec hb
        rw [h1] at e
        simp only [h2] at e
        cases hl : Nat.ble args.length fn.ntmps with
        | false => rw [hl] at e; exact e.elim
        | true =>
          rw [hl, cond_true] at e
          refine ⟨fn, b, h1, h2, h3, h4, Nat.ble_eq.mp hl, fun Q' hQ => ?_⟩
          exact wpS_sound (ext_LSS (known_LSS (forget_LSS ihS))) SpecC_mono b _ _ _ _ (fnKontS_sound ihD hQ) e
    constructor
    · intro f args h c Q Q' hQ e
      cases f with
      | fn f =>
        obtain ⟨fn, b, h1, h2, h3, h4, h5, h6⟩ := open1 e
        exact spec_of_body hm .leaf h1 h2 h3 h4 h5 (h6 _ fun r u h c e => hQ r h c e)
      | yield l =>
        simp only [runX] at e
        exact specY_of hm (yieldS_sound (ext_LSS (known_LSS (forget_LSS ihS))) SpecC_mono hQ e)
    · intro f args h u c Q Q' hQ e
      obtain ⟨fn, b, h1, h2, h3, h4, h5, h6⟩ := open1 e
      exact specD_of_body hm .leaf h1 h2 h3 h4 h5 (h6 _ hQ)

theorem spec_of_script (hm : P.follows .mixedOrders = true) {fg : Bool} {kn : List Nat} {lf m : Nat} {f : FuncId} {args : List Value} {h : AHeap} {c : Scr} {Q : Res → AHeap → Prop}
    (e : runS P gs fg kn lf (SpecC P gs) m f args h .norm c (fun r _ h _ => Q r h)) : Spec P gs f args h Q :=
  (runX_sound (gs := gs) (fg := fg) (kn := kn) (lf := lf) hm m).1 (.fn f) args h c (fun r h _ => Q r h) Q (fun _ _ _ e => e) e

end Go.Fm
