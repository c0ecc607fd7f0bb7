/-
  FmEff4: append on abstract values.
-/
import Derived.Test.YtopladipgobpjaaDoorFmEff3
namespace Go.Fm

variable {P : Program} {F : Nat → Nat → Prop} {w0 w : World} {j : Inj} {h : AHeap}

theorem Sim.set_unmapped (S : Sim F w0 j h w) {b : Nat} (hj : j b = none) (o : AObj) : Sim F w0 j (h.set b o) w := by
  have hget : ∀ b' L', j b' = some L' → (h.set b o)[b']? = h[b']? := by
    intro b' L' e
    rw [List.getElem?_set]
    have : b ≠ b' := by intro hh; subst hh; rw [hj] at e; simp at e
    simp [this]
  refine ⟨S.io, S.size, S.kept, S.below, ?_, ?_, ?_, ?_⟩
  · intro b' L' e; simp; exact S.dom _ _ e
  · intro b' L' e; rw [hget b' L' e]; exact S.obj _ _ e
  · intro b' L' e; rw [hget b' L' e]; exact S.own _ _ e
  · intro b1 b2 L1 L2 hne e1 e2; rw [hget b1 L1 e1, hget b2 L2 e2]; exact S.apart b1 b2 L1 L2 hne e1 e2

theorem Sim.kill_any (S : Sim F w0 j h w) {b : Nat} {mk : List Value → AObj} (hm : CellsLike mk) {c : List Value} (hc : h[b]? = some (mk c)) : Sim F w0 j (h.set b .dead) w := by
  cases hj : j b with
  | none => exact S.set_unmapped hj _
  | some L => exact S.kill hj hm hc

/-- how an append's new cells may be known -/
def NewLike (el : TypeId) (mk : List Value → AObj) : Prop := (mk = fun c => .cells c false) ∨ ∃ z, mk = fun c => .tcells c el z

theorem Makes.sim {w' : World} {ob : AObj} {r r' : Value} (S : Sim F w0 j h w) (hm : Makes j w w' h.length ob r r') :
    ∃ j', j.ext h.length j' ∧ VR j' r r' ∧ Sim F w0 j' (h ++ [ob]) w' := by
  obtain ⟨hio, L, x, h1, h2, h3, h4⟩ := hm
  have hle : j.le (j.put h.length L) := Inj.put_le S.fresh
  exact ⟨j.put h.length L, Inj.put_ext S.fresh (Nat.le_refl _), h4 _ hle (Inj.put_same _ _ _), S.new h2 ob hio h1 (h3 _ hle)⟩

theorem aCells_length {a : Addr} {n : Nat} {l : List Value} (e : aCells h a n = some l) : l.length = n := by
  unfold aCells at e
  split at e
  · simp at e
  · split at e
    · split at e
      · simp at e; subst e; simp; omega
      · simp at e
    · split at e
      · simp at e; subst e; simp; omega
      · simp at e
    · simp at e

/-- a new array stands for the appended slice -/
theorem append_makes {el : TypeId} {i : TypeInfo} {mk : List Value → AObj} (hmk : NewLike el mk) {old new old' new' rest : List Value} (ho : LR j old old') (hn : LR j new new') {need q : Nat}
    (hq : need ≤ q) (hrest : rest.length = (q - need) * i.size) (hlen : (old ++ new).length = need * i.size) :
    Makes j w { w with heap := w.heap.push (.cells (old' ++ new' ++ rest).toArray el), drawn := w.drawn + 1 } h.length (mk (old ++ new))
      (.slice (some ⟨h.length, 0, some i.size⟩) need need) (.slice (some ⟨w.heap.size, 0, none⟩) need q) := by
  rcases hmk with rfl | ⟨z, rfl⟩
  refine makes_cells (c' := old' ++ new') (tail := rest) (esz := i.size) (extra := q - need) (ho.app hn) hrest (by exact ⟨rfl, rfl, rfl⟩) rfl (fun o _ => by simp) (fun j' L hj e hL => ?_)
  rotate_left
  refine makes_tcells (c' := old' ++ new') (tail := rest) (esz := i.size) (extra := q - need) (ho.app hn) hrest (by exact ⟨rfl, rfl, rfl⟩) rfl (by cases z <;> simp [fzOk]) (fun j' L hj e hL => ?_)
  all_goals subst hL
  all_goals
    have := VR.oslice (j := j') (o := 0) (e := i.size) need need e rfl (by simp at hlen; simp; omega)
    simpa [show need + (q - need) = q by omega] using this


section
variable {t xt ty el : TypeId} {i : TypeInfo} {len cap n : Nat} {x' : Value} {new new' : List Value}

/-- what a growing append knows -/
structure Grows (P : Program) (w : World) (t xt el : TypeId) (i : TypeInfo) (len n : Nat) (x' : Value) (new' : List Value) : Prop where
  hu : P.underlying t = some (.slice el)
  hi : P.info? el = some i
  hT : ∀ k, Taken P { w with drawn := w.drawn + k } el xt i.size n x' new'
  hb : (len + n) * i.bytes ≤ 2 ^ 46
  hmax : len + n < 2 ^ 60
  hz : ∃ z, (∀ w, (zeroValue el).run P w = .ok z w) ∧ z.cells.size = i.size

theorem grow_new (S : Sim F w0 j h w) {mk : List Value → AObj} (hmk : NewLike el mk) (G : Grows P w t xt el i len n x' new') (hln : LR j new new') (hnl : new.length = n * i.size) {base : Option Addr} {cap : Nat} (hbig : cap < len + n) (hlc : len ≤ cap)
    {old old' : List Value} (ho : LR j old old') (hol : old.length = len * i.size)
    (hold : (Builtin.firstCells i.size len (.slice base len cap)).run P { w with drawn := w.drawn + 1 } = .ok old'.toArray { w with drawn := w.drawn + 1 }) :
    ∃ j' r' w', j.ext h.length j' ∧ VR j' (.slice (some ⟨h.length, 0, some i.size⟩) (len + n) (len + n)) r' ∧ (Builtin.append_ #[t, xt] ty #[.slice base len cap, x']).run P w = .ok r' w' ∧
      Sim F w0 j' (h ++ [mk (old ++ new)]) w' := by
  obtain ⟨z, hzr, hzs⟩ := G.hz
  obtain ⟨q, rest, q1, q2, q3⟩ := run_append_new (ty := ty) (old' := old') G.hu G.hi G.hT hbig hlc G.hb G.hmax hzr hzs hold
  have hm := append_makes (w := w) (h := h) (el := el) (i := i) hmk ho hln q1 q2 (by simp only [List.length_append, hol, hnl, Nat.add_mul])
  obtain ⟨j', g1, g2, g3⟩ := Makes.sim S hm
  exact ⟨j', _, _, g1, g2, q3, g3⟩

/-- how an append within a block's spare room may be known, before and behind -/
def InLike (el : TypeId) (o m : Nat) (mk mk' : List Value → AObj) : Prop :=
  ((mk = fun c => .cells c false) ∧ mk' = fun c => .cells c false) ∨ (∃ t z, (mk = fun c => .tcells c t z) ∧ z.getD 0 ≤ o ∧ mk' = fun c => .cells c false) ∨
    ∃ z, (mk = fun c => .tcells c el z) ∧ o = 0 ∧ z.getD 0 ≤ m ∧ mk' = fun c => .tcells c el z

theorem InLike.cells {o m : Nat} {mk mk' : List Value → AObj} (hI : InLike el o m mk mk') : CellsLike mk := by
  rcases hI with ⟨rfl, rfl⟩ | ⟨t, z, rfl, _, rfl⟩ | ⟨z, rfl, _, _, rfl⟩
  · exact .inl rfl
  · exact .inr ⟨t, z, rfl⟩
  · exact .inr ⟨el, z, rfl⟩

theorem InLike.newLike {o m : Nat} {mk mk' : List Value → AObj} (hI : InLike el o m mk mk') : NewLike el mk' := by
  rcases hI with ⟨rfl, rfl⟩ | ⟨t, z, rfl, _, rfl⟩ | ⟨z, rfl, _, _, rfl⟩
  · exact .inl rfl
  · exact .inl rfl
  · exact .inr ⟨z, rfl⟩

theorem InLike.obj {o m : Nat} {mk mk' : List Value → AObj} (hI : InLike el o m mk mk') {c : List Value} {L : Loc} (h : ObjR j L w (some (mk c))) :
    ∃ d T f, w.heap[L.blk]? = some (.cells d T f) ∧ c.length = L.size ∧ L.off + L.ext ≤ d.size ∧ LR j c ((d.toList.drop L.off).take L.size) ∧
      (∀ p, L.off + o + m ≤ p → p < L.off + L.ext → (f.1 ≤ p && p < f.2) = false) ∧
      (∀ (L' : Loc) (j' : Inj) (c' : List Value) (w' : World) (d' : Array Value), L'.blk = L.blk → L'.off = L.off + o → L'.off + L'.ext = L.off + L.ext → w'.heap[L.blk]? = some (.cells d' T f) → d'.size = d.size → c'.length = L'.size →
        LR j' c' ((d'.toList.drop L'.off).take L'.size) → ObjR j' L' w' (some (mk' c'))) ∧
      ∀ (L' : Loc) (c' : List Value), L'.blk = L.blk → L'.off = L.off + o → L'.off + L'.ext = L.off + L.ext → ∀ B p, owns L' (some (mk' c')) B p → owns L (some (mk c)) B p := by
  rcases hI with ⟨rfl, rfl⟩ | ⟨t, z, rfl, hz, rfl⟩ | ⟨z, rfl, ho, hz, rfl⟩
  · obtain ⟨d, T, f, h1, h2, h3, h4, h5, h6⟩ := h
    refine ⟨d, T, f, h1, h2, h3, h4, fun p hp hp' => h5 rfl p (by omega) hp', ?_, ?_⟩
    · intro L' j' c' w' d' e1 e2 e3 k1 k2 k3 k4
      exact ⟨d', T, f, by rw [e1]; exact k1, k3, by omega, k4, fun _ p hp hp' => h5 rfl p (by omega) (by omega), by simp⟩
    · intro L' c' e1 e2 e3 B p hp
      exact ⟨hp.1.trans e1, by have := hp.2.1; omega, by have := hp.2.2; omega⟩
  · obtain ⟨d, f, h1, h2, h3, h4, h5, h6, h7⟩ := h
    refine ⟨d, t, f, h1, h2, h3, h4, fun p hp hp' => h5.free (by omega) (by omega), ?_, ?_⟩
    · intro L' j' c' w' d' e1 e2 e3 k1 k2 k3 k4
      exact ⟨d', t, f, by rw [e1]; exact k1, k3, by omega, k4, fun _ p hp hp' => h5.free (by omega) (by omega), by simp⟩
    · intro L' c' e1 e2 e3 B p hp
      exact hp.1.trans e1
  · obtain ⟨d, f, h1, h2, h3, h4, h5, h6, h7⟩ := h
    refine ⟨d, el, f, h1, h2, h3, h4, fun p hp hp' => h5.free (by omega) (by omega), ?_, ?_⟩
    · intro L' j' c' w' d' e1 e2 e3 k1 k2 k3 k4
      exact ⟨d', f, by rw [e1]; exact k1, k3, by omega, k4, by rw [k2]; exact h5, by omega, by omega⟩
    · intro L' c' e1 e2 e3 B p hp
      exact Eq.trans hp e1

theorem grow_in (S : Sim F w0 j h w) {mk mk' : List Value → AObj} (G : Grows P w t xt el i len n x' new') (hln : LR j new new') (hnl : new.length = n * i.size) (hcell : new.all Value.isCell = true)
    {b o : Nat} {L : Loc} (hj : j b = some L) (he : i.size = L.esz) (ho : o + cap * i.size = L.size) {c : List Value} (hI : InLike el o (len * i.size) mk mk') (hc : h[b]? = some (mk c)) (hoc : o + len * i.size ≤ c.length)
    (_hbig : cap < len + n) (_hlc : len ≤ cap) (hin : len + n ≤ cap + L.extra) :
    ∃ j' r' w', j.ext h.length j' ∧ VR j' (.slice (some ⟨h.length, 0, some i.size⟩) (len + n) (len + n)) r' ∧
      (Builtin.append_ #[t, xt] ty #[.slice (some ⟨L.blk, L.off + o, none⟩) len (cap + L.extra), x']).run P w = .ok r' w' ∧
      Sim F w0 j' (h.set b .dead ++ [mk' ((c.drop o).take (len * i.size) ++ new)]) w' := by
  have hblt : b < h.length := (List.getElem?_eq_some_iff.1 hc).1
  have hlset : (h.set b AObj.dead).length = h.length := by simp
  have holdlen : ((c.drop o).take (len * i.size)).length = len * i.size := by simp; omega
  have hnl' : new'.length = n * i.size := by rw [← hln.length]; exact hnl
  have hobj := S.obj _ _ hj
  rw [hc] at hobj
  obtain ⟨d, T, f, hb1, hl1, hd1, hr1, hfz, hmkobj, hmkown⟩ := hI.obj hobj
  have hext : L.ext = L.size + L.extra * i.size := by unfold Loc.ext; rw [he]
  have hneed : o + (len + n) * i.size ≤ L.ext := by
    have : (len + n) * i.size ≤ (cap + L.extra) * i.size := Nat.mul_le_mul_right _ hin
    rw [Nat.add_mul] at this
    rw [hext]; rw [Nat.add_mul] at this ⊢; omega
  have hsum : (len + n) * i.size = len * i.size + n * i.size := Nat.add_mul _ _ _
  have hrun := run_storeCells_cells (P := P) L.blk (L.off + o + len * i.size) new' 0 w
    (fun k hk => by rw [World.cell?_of hb1]; simp; omega)
    (fun k hk => by
      have := hfz (L.off + o + len * i.size + 0 + k) (by omega) (by omega)
      simp only [World.frozen?, hb1]; exact this)
    (fun v hv => by
      obtain ⟨k, hk⟩ := List.getElem?_of_mem hv
      have hlt : k < new.length := by rw [hln.length]; exact (List.getElem?_eq_some_iff.1 hk).1
      have hrel := hln.rel k _ _ (List.getElem?_eq_getElem hlt) hk
      refine isCell_oneCell ?_
      rw [hrel.isCell]
      exact (List.all_eq_true.1 hcell) _ (List.getElem_mem hlt))
  obtain ⟨d', k1, k2, k3⟩ := heap_setCells_same L.blk T f new' (L.off + o + len * i.size + 0) w d hb1
  have hcur := S.wipe hj hI.cells hc hb1 k1 (io_setCells _ _ _ _) k2 (heap_setCells_size _ _ _ _) (fun B hB => heap_setCells_other _ _ _ _ _ hB) (fun p hp => by
    rw [k3, if_neg (by omega)])
  obtain ⟨L', hL'⟩ : ∃ L' : Loc, L' = { blk := L.blk, off := L.off + o, size := (len + n) * i.size, esz := i.size, extra := cap + L.extra - (len + n) } := ⟨_, rfl⟩
  have hL1 : L'.blk = L.blk := by rw [hL']
  have hL2 : L'.off = L.off + o := by rw [hL']
  have hL3 : L'.size = (len + n) * i.size := by rw [hL']
  have hL4 : L'.esz = i.size := by rw [hL']
  have hL5 : L'.extra = cap + L.extra - (len + n) := by rw [hL']
  have hL'ext : L'.off + L'.ext = L.off + L.ext := by
    unfold Loc.ext
    rw [hL2, hL3, hL4, hL5, ← he]
    have h1 : (len + n) * i.size + (cap + L.extra - (len + n)) * i.size = (cap + L.extra) * i.size := by rw [← Nat.add_mul]; congr 1; omega
    have h2 : (cap + L.extra) * i.size = cap * i.size + L.extra * i.size := Nat.add_mul _ _ _
    omega
  have hclaim := hcur.claim (L := L') (mk' ((c.drop o).take (len * i.size) ++ new)) (by
      refine hmkobj L' _ _ _ d' hL1 hL2 hL'ext k1 k2 (by rw [List.length_append, holdlen, hnl, hL3, hsum]) ?_
      · have hle : j.le (j.put (h.set b AObj.dead).length L') := Inj.put_le (by rw [hlset]; exact S.fresh)
        refine LR.of_get (by rw [List.length_append, holdlen, hnl, hL2, hL3, hsum]; simp; omega) ?_
        intro k v v' ev ev'
        simp only [hL2, hL3, List.getElem?_take, List.getElem?_drop] at ev'
        split at ev'
        · rename_i hk
          have ev'' : d'[L.off + o + k]? = some v' := by simpa using ev'
          rw [k3] at ev''
          by_cases hk2 : k < len * i.size
          · rw [List.getElem?_append_left (by omega)] at ev
            rw [if_neg (by omega)] at ev''
            simp only [List.getElem?_take, List.getElem?_drop, hk2, if_true] at ev
            obtain ⟨u, u1, u2⟩ := LR.slot hr1 (o + k) v ev
            have : d[L.off + o + k]? = some u := by simpa [Nat.add_assoc] using u1
            rw [this] at ev''; injection ev'' with ev''; subst ev''
            exact u2.mono hle
          · rw [List.getElem?_append_right (by omega), holdlen] at ev
            have hkn : k - len * i.size < n * i.size := by omega
            rw [if_pos ⟨by omega, by omega, by omega⟩] at ev''
            rw [show L.off + o + k - (L.off + o + len * i.size + 0) = k - len * i.size by omega] at ev''
            exact (hln.rel _ _ _ ev ev'').mono hle
        · simp at ev')
    (by
      intro _ B p hp hF
      exact S.own b L hj (by rw [hc]; exact hI.cells.rw c) B p (by rw [hc]; exact hmkown L' _ hL1 hL2 hL'ext B p hp) hF)
    (by
      intro b' M hM _ B p hp hp'
      by_cases hbb : b' = b
      · subst hbb; simp [owns, hblt] at hp'
      · rw [List.get_set h b hblt, if_neg hbb] at hp'
        exact S.apart b b' L M (Ne.symm hbb) hj hM (by rw [hc]; exact hI.cells.rw c) B p (by rw [hc]; exact hmkown L' _ hL1 hL2 hL'ext B p hp) hp')
  rw [hlset] at hclaim
  refine ⟨j.put h.length L', .slice (some ⟨L.blk, L.off + o, none⟩) (len + n) (cap + L.extra), _, Inj.put_ext S.fresh (Nat.le_refl _), ?_, ?_, hclaim⟩
  · have := VR.oslice (j := j.put h.length L') (o := 0) (e := i.size) (len + n) (len + n) (Inj.put_same _ _ _) hL4.symm (by rw [hL3]; omega)
    have h2 : len + n + L'.extra = cap + L.extra := by rw [hL5]; omega
    rw [h2, hL1, hL2] at this
    exact this
  · have hT0 : Taken P w el xt i.size n x' new' := by simpa using G.hT 0
    refine run_append_in G.hu G.hi hT0 ?_ hin ?_
    · have h1 : n * i.bytes ≤ (len + n) * i.bytes := Nat.mul_le_mul_right _ (by omega)
      have hbb := G.hb
      have : ((n * i.bytes : Nat) : Int) ≤ 2 ^ 48 := by
        have : n * i.bytes ≤ 2 ^ 48 := by omega
        exact_mod_cast this
      push_cast at this; exact this
    · simp only [Addr.add_none]; exact hrun

theorem aGrow_sim (S : Sim F w0 j h w) (G : Grows P w t xt el i len n x' new') (hln : LR j new new') (hnl : new.length = n * i.size) (hcell : new.all Value.isCell = true)
    {base : Option Addr} {s' r : Value} (hs : VR j (.slice base len cap) s') (hbig : cap < len + n) (hlc : len ≤ cap) {h' : AHeap} (e : aGrow el i.size base len n new h = some (r, h')) :
    ∃ j' r' w', j.ext h.length j' ∧ VR j' r r' ∧ (Builtin.append_ #[t, xt] ty #[s', x']).run P w = .ok r' w' ∧ Sim F w0 j' h' w' := by
  unfold aGrow at e
  have hf0 : ∀ (b : Option Addr) (cap : Nat), (Builtin.firstCells i.size 0 (.slice b 0 cap)).run P { w with drawn := w.drawn + 1 } = .ok ([] : List Value).toArray { w with drawn := w.drawn + 1 } := by
    intro b cap; cases b <;> simp [Builtin.firstCells, loadCells, loadCellsFrom]
  split at e
  · split at e
    · rename_i hl0
      simp at e
      obtain ⟨e1, e2⟩ := e; subst e1 e2; subst hl0
      cases hs
      have := grow_new (ty := ty) S (.inr ⟨some 0, rfl⟩) G hln hnl hbig hlc .nil (by simp) (hf0 none cap)
      simpa using this
    · simp at e
  · rename_i b o
    split at e
    · rename_i hl0
      simp at e
      obtain ⟨e1, e2⟩ := e; subst e1 e2; subst hl0
      cases hs with
      | slice _ _ hj =>
        rename_i L
        have := grow_new (ty := ty) S (.inr ⟨some 0, rfl⟩) G hln hnl hbig hlc .nil (by simp) (hf0 (some ⟨L.blk, L.off + o, none⟩) cap)
        simpa using this
      | slice0 a a' =>
        have := grow_new (ty := ty) S (.inr ⟨some 0, rfl⟩) G hln hnl hbig hlc .nil (by simp) (hf0 (some a') 0)
        simpa using this
    · rename_i hl0
      cases hold : aCells h ⟨b, o, none⟩ (len * i.size) with
      | none => rw [hold] at e; simp at e
      | some old =>
        rw [hold] at e; simp at e
        obtain ⟨e1, e2⟩ := e; subst e1 e2
        cases hs with
        | slice _ _ hj =>
          obtain ⟨old', k1, k2⟩ := aCells_sim (P := P) (S.heap_eq (w' := { w with drawn := w.drawn + 1 }) (by exact ⟨rfl, rfl, rfl⟩) rfl) (a := ⟨b, o, none⟩) hj hold
          exact grow_new (ty := ty) S (.inr ⟨some 0, rfl⟩) G hln hnl hbig hlc k2 (aCells_length hold) k1
        | slice0 => exact absurd rfl hl0
  · rename_i b o sp
    split at e
    · simp at e
    · rename_i hsp
      have hsp : sp = i.size := by simpa using hsp
      subst hsp
      have key : ∀ {mk mk' : List Value → AObj} {c : List Value}, InLike el o (len * i.size) mk mk' → h[b]? = some (mk c) → o + len * i.size ≤ c.length →
          r = .slice (some ⟨h.length, 0, some i.size⟩) (len + n) (len + n) → h' = h.set b .dead ++ [mk' ((c.drop o).take (len * i.size) ++ new)] →
          ∃ j' r' w', j.ext h.length j' ∧ VR j' r r' ∧ (Builtin.append_ #[t, xt] ty #[s', x']).run P w = .ok r' w' ∧ Sim F w0 j' h' w' := by
        intro mk mk' c hI hc hoc e1 e2
        subst e1 e2
        have hlset : (h.set b AObj.dead).length = h.length := by simp
        have holdlen : ((c.drop o).take (len * i.size)).length = len * i.size := by simp; omega
        have Sk := S.kill_any hI.cells hc
        cases hs with
        | slice0 a a' =>
          have := grow_new (ty := ty) Sk hI.newLike G hln hnl hbig hlc .nil (by simp) (hf0 (some a') 0)
          rw [hlset] at this
          simpa using this
        | oslice _ _ hj he ho =>
          rename_i L
          by_cases hin : len + n ≤ cap + L.extra
          · exact grow_in (ty := ty) S G hln hnl hcell hj he ho hI hc hoc hbig hlc hin
          · obtain ⟨d, T, f, hb1, hl1, hd1, hr1, _⟩ := hI.cells.obj (by have := S.obj _ _ hj; rwa [hc] at this)
            have holdA : aCells h ⟨b, o, none⟩ (len * i.size) = some ((c.drop o).take (len * i.size)) := by
              rcases hI.cells with rfl | ⟨_, _, rfl⟩ <;> simp [aCells, hc, hoc]
            obtain ⟨old', k1, k2⟩ := aCells_sim (P := P) (S.heap_eq (w' := { w with drawn := w.drawn + 1 }) (by exact ⟨rfl, rfl, rfl⟩) rfl) (a := ⟨b, o, none⟩) hj holdA
            have := grow_new (ty := ty) (base := some ⟨L.blk, L.off + o, none⟩) (cap := cap + L.extra) Sk hI.newLike G hln hnl (by omega) (by omega) k2 holdlen k1
            rw [hlset] at this
            exact this
      split at e
      · rename_i c hc
        split at e
        · rename_i hoc
          simp only [Option.some.injEq, Prod.mk.injEq] at e
          exact key (.inl ⟨rfl, rfl⟩) hc hoc e.1.symm e.2.symm
        · simp at e
      · rename_i c t z hc
        split at e
        · rename_i hoc
          obtain ⟨q1, q2, q3, q4⟩ := hoc
          subst q3
          simp only [Option.some.injEq, Prod.mk.injEq] at e
          exact key (.inr (.inr ⟨z, rfl, q2, q4, rfl⟩)) hc q1 e.1.symm e.2.symm
        · split at e
          · rename_i hoc
            simp only [Option.some.injEq, Prod.mk.injEq] at e
            exact key (.inr (.inl ⟨t, z, rfl, hoc.2, rfl⟩)) hc hoc.1 e.1.symm e.2.symm
          · simp at e
      · simp at e
end

theorem aAppend_sim (S : Sim F w0 j h w) {t xt ty : TypeId} {s s' x x' r : Value} (hs : VR j s s') (hx : VR j x x') {h' : AHeap} (e : aAppend P t xt s x h = some (r, h')) :
    ∃ j' r' w', j.ext h.length j' ∧ VR j' r r' ∧ (Builtin.append_ #[t, xt] ty #[s', x']).run P w = .ok r' w' ∧ Sim F w0 j' h' w' := by
  unfold aAppend at e
  split at e
  · rename_i el base len cap hu
    split at e
    · simp at e
    · rename_i i hi
      split at e
      · simp at e
      · rename_i hcond
        have hlc : len ≤ cap := by omega
        obtain ⟨⟨n, new⟩, hnew, e⟩ := bind_some' e
        obtain ⟨new', hln, hT⟩ := Taken.tape (P := P) S hx hnew
        have hT0 : Taken P w el xt i.size n x' new' := by simpa using hT 0
        simp only at e
        split at e
        · simp at e
        · rename_i hnl
          have hnb : n * i.bytes ≤ 2 ^ 47 := by omega
          have hnl : new.length = n * i.size := by omega
          split at e
          · rename_i hfit
            have hnb' : (n : Int) * i.bytes ≤ 2 ^ 48 := by
              have : ((n * i.bytes : Nat) : Int) ≤ 2 ^ 48 := by
                have : n * i.bytes ≤ 2 ^ 48 := by omega
                exact_mod_cast this
              push_cast at this; exact this
            have hn0 : n = 0 → new' = [] := by
              intro h0
              have : new = [] := List.eq_nil_of_length_eq_zero (by rw [hnl, h0]; simp)
              subst this; cases hln; rfl
            split at e
            · simp at e
              obtain ⟨e1, e2⟩ := e; subst e1 e2
              cases hs
              exact ⟨j, _, w, j.ext_refl _, .snil _ _, run_append_in hu hi hT0 hnb' hfit rfl, S⟩
            · rename_i b o sp _
              split at e
              · rename_i hn
                simp at e
                obtain ⟨e1, e2⟩ := e; subst e1 e2
                have hnn := hn0 hn
                subst hnn; subst hn
                cases hs with
                | slice _ _ hj => exact ⟨j, _, w, j.ext_refl _, .slice _ _ hj, run_append_in hu hi hT0 hnb' hfit rfl, S⟩
                | oslice _ _ hj he ho => exact ⟨j, _, w, j.ext_refl _, .oslice _ _ hj he ho, run_append_in hu hi hT0 hnb' (by omega) rfl, S⟩
                | slice0 => exact ⟨j, _, w, j.ext_refl _, .slice0 _ _, run_append_in hu hi hT0 hnb' hfit rfl, S⟩
              · rename_i hn
                cases hst : aStore h ⟨b, o + len * i.size, none⟩ new with
                | none => rw [hst] at e; simp at e
                | some h2 =>
                  rw [hst] at e; simp at e
                  obtain ⟨e1, e2⟩ := e; subst e1 e2
                  cases hs with
                  | slice _ _ hj =>
                    obtain ⟨w', q1, q2⟩ := aStore_sim (P := P) S (a := ⟨b, o + len * i.size, none⟩) hj hln hst
                    exact ⟨j, _, w', j.ext_refl _, .slice _ _ hj, run_append_in hu hi hT0 hnb' hfit (by simp only [Addr.add_none, Nat.add_assoc]; exact q1), q2⟩
                  | oslice _ _ hj he ho =>
                    obtain ⟨w', q1, q2⟩ := aStore_sim (P := P) S (a := ⟨b, o + len * i.size, none⟩) hj hln hst
                    exact ⟨j, _, w', j.ext_refl _, .oslice _ _ hj he ho, run_append_in hu hi hT0 hnb' (by omega) (by simp only [Addr.add_none, Nat.add_assoc]; exact q1), q2⟩
                  | slice0 => omega
          · rename_i hfit
            split at e
            · rename_i hc2
              obtain ⟨hb, hmax, hz, hcell⟩ := hc2
              cases hz0 : aZero P el with
              | none => simp [hz0] at hz
              | some z =>
                simp [hz0] at hz
                exact aGrow_sim S ⟨hu, hi, hT, hb, hmax, z, fun w => (run_zero' hz0 w).1, hz⟩ hln hnl hcell hs (by omega) hlc e
            · simp at e
  · simp at e

end Go.Fm
