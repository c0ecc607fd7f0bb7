/-
  The reference's Whole6: what it gives. Conditions: at most seven groups, a part of at most 15 letters, a gap that is not behind the groups.
-/
import Derived.Test.YtopladipgobpjaaDoorRx3
import Derived.Test.YtopladipgobpjaaDoorRx5
namespace Go.Proofs.YtopladipgobpjaaDoor
open Go.Fm

/-! ## what a call leaves, renumbered -/

/-- what a value may be called instead -/
def Less (i : Nat → Option Nat) (v2 v : Value) : Prop := ∀ (j : Inj) (w : Value), VR j v w → VR (j.by i) v2 w

theorem Less.rv {i : Nat → Option Nat} {v2 v : Value} (h : RV i v2 v) : Less i v2 v := fun _ _ hw => h.vr hw
theorem Less.hole {i : Nat → Option Nat} {s : Value} {b : Bool} (hs : Value.isCell s = true) : Less i (.tuple ⟨[.chan (some 0), .bool b]⟩) (.tuple ⟨[s, .bool b]⟩) := by
  intro j w hw
  cases hw with
  | tuple h1 h2 =>
    rename_i x'
    refine .tuple h1 fun k v v' e e' => ?_
    match k with
    | 0 =>
      have h := h2 0 s v' rfl e'
      have e : Value.chan (some 0) = v := by simpa using e
      subst e
      exact .hole (h.isCell.trans hs)
    | 1 =>
      have h := h2 1 (.bool b) v' rfl e'
      have e : Value.bool b = v := by simpa using e
      subst e
      cases h; exact .bool _
    | k + 2 => simp at e

theorem xren {P : Program} {gs : List Nat} {f : FuncId} {args : List Value} {h : AHeap} {Q : Res → AHeap → Prop}
    (hs : Fm.Spec P gs f args h fun r h' => ∃ (m : List Nat) (v v2 : Value) (h2 : AHeap), r = .ret v ∧ Q (.ret v2) h2 ∧ m.Nodup ∧ h.length ≤ m.length ∧ (∀ b, b < h.length → m[b]? = some b) ∧ HeapRen (Fm.ren m) h' m h2 ∧ Less (Fm.ren m) v2 v) : Fm.Spec P gs f args h Q := by
  refine ⟨hs.1, ?_⟩
  intro G F w0 j w args' cs S hA hg hK
  refine hs.2 G F w0 j w args' cs S hA hg ?_
  rintro r h' j' w' fr ⟨m, v, v2, h2, rfl, hq, hnd, hlen, hold, hh, hless⟩ hext hl S' hlv
  have key : ∀ b, b < h.length → (j'.by (Fm.ren m)) b = j' b := fun b hb => Inj.by_some (hold b hb)
  refine hK (.ret v2) h2 (j'.by (Fm.ren m)) w' fr hq ⟨fun b L e => (key b (S.dom b L e)).trans (hext.1 b L e), fun b hb => (key b hb).trans (hext.2 b hb)⟩ (by rw [← hh.length]; exact hlen) (S'.gc ?_ (fun b q hb => hh.get hb)) ?_
  · intro b c q h1 h2
    obtain ⟨hb, e1⟩ := List.getElem?_eq_some_iff.1 h1
    obtain ⟨hc, e2⟩ := List.getElem?_eq_some_iff.1 h2
    exact (List.getElem_inj hnd).1 (e1.trans e2.symm)
  · obtain ⟨l1, l2, l3, l4, l5, fn, v', l6, l7, l8⟩ := hlv
    exact ⟨l1, l2, l3, l4, l5, fn, v', l6, l7, hless _ _ l8⟩

/-! ## the reference's Parse4, of a whole text -/

theorem w4_p4R {p : List UInt8} (hw : w4 p = true) : p4R p = (some ((splitL 46 [] p).map val), 0) := by
  obtain ⟨hs, hg, _⟩ := w4_parts hw
  unfold p4R
  rw [if_neg (by omega), hg]

theorem p4b_val {p : List UInt8} (hw : w4 p = true) (j : Nat) : p4b p j = ((splitL 46 [] p).map val).getD j 0 := by
  unfold p4b; rw [w4_p4R hw]; rfl

theorem p4b_ok {p : List UInt8} (hw : w4 p = true) (j : Nat) : 0 ≤ p4b p j ∧ p4b p j ≤ 255 := by
  obtain ⟨_, _, _, hall⟩ := w4_parts hw
  rw [p4b_val hw, List.getD_eq_getElem?_getD, List.getElem?_map]
  cases hj : (splitL 46 [] p)[j]? with
  | none => exact ⟨by decide, by decide⟩
  | some q => exact (oct_parts (hall q (List.mem_of_getElem? hj))).2.2

theorem p4V_tup (l : List UInt8) : p4V l = .tuple ⟨[.agg ⟨[.int .u8 (p4b l 0), .int .u8 (p4b l 1), .int .u8 (p4b l 2), .int .u8 (p4b l 3)]⟩, .int .i64 (p4n l), .int .i64 (p4e l)]⟩ := by
  have four : ∀ {v : List Int} {n : Nat}, p4R l = (some v, n) → v.length = 4 := by
    intro v n h
    unfold p4R at h
    split at h
    · cases h
    · split at h
      · rename_i w hg
        injection h with h1 _
        injection h1 with h1
        subst h1
        exact gv_some_len _ _ _ _ _ hg
      · cases h
  unfold p4V p4b p4n p4e
  cases h : p4R l with
  | mk o n =>
    cases o with
    | none => rfl
    | some v =>
      match v, four h with
      | [a, b, c, d], _ => rfl

theorem flat_p4V (l : List UInt8) : Flat (.tuple ⟨[.agg ⟨[.int .u8 (p4b l 0), .int .u8 (p4b l 1), .int .u8 (p4b l 2), .int .u8 (p4b l 3)]⟩, .int .i64 (p4n l), .int .i64 (p4e l)]⟩) := by
  refine .tuple fun i v e => ?_
  have hm := List.mem_of_getElem? (show ([.agg ⟨[.int .u8 (p4b l 0), .int .u8 (p4b l 1), .int .u8 (p4b l 2), .int .u8 (p4b l 3)]⟩, .int .i64 (p4n l), .int .i64 (p4e l)] : List Value)[i]? = some v by simpa using e)
  simp only [List.mem_cons, List.not_mem_nil, or_false] at hm
  rcases hm with rfl | rfl | rfl
  · exact flat_bytes [p4b l 0, p4b l 1, p4b l 2, p4b l 3] [] none_mem
  · exact .int _ _
  · exact .int _ _

theorem p4_fun {l : List UInt8} (hl : l.length < 2 ^ 63) : Fun 14 [.string (bs l)] (.tuple ⟨[.agg ⟨[.int .u8 (p4b l 0), .int .u8 (p4b l 1), .int .u8 (p4b l 2), .int .u8 (p4b l 3)]⟩, .int .i64 (p4n l), .int .i64 (p4e l)]⟩) :=
  xfun_of (p4V_tup l ▸ rparse4_spec hl) (flat_p4V l)

/-! ## what Whole6 gives -/

def W6out (o : Option (List Int)) (r : Res) (h : AHeap) : Prop := match o with
  | some G => ∃ b, r = .ret (.tuple ⟨[.slice (some ⟨b, 0, some 1⟩) 8 8, .bool true]⟩) ∧ 0 < b ∧ h[b]? = some (.tcells (ic G) 3 (some 0))
  | none => ∃ v, r = .ret (.tuple ⟨[v, .bool false]⟩) ∧ Value.isCell v = true

def W6out1 (g : List Int) (o : Option (List Int)) (r : Res) (h : AHeap) : Prop := W6out o r h ∧ h[0]? = some (.tcells (ic g) 3 (some 0))

theorem w6_no {o : Option (List Int)} (ho : o = none) {v : Value} {h : AHeap} (hv : Value.isCell v = true) : W6out o (.ret (.tuple ⟨[v, .bool false]⟩)) h := by
  subst ho; exact ⟨v, rfl, hv⟩
theorem w6_yes {o : Option (List Int)} {G : List Int} (ho : o = some G) {b n : Nat} {h : AHeap} (hn : n = 8) (hb : 0 < b) (hh : h[b]? = some (.tcells (ic G) 3 (some 0))) : W6out o (.ret (.tuple ⟨[.slice (some ⟨b, 0, some 1⟩) n n, .bool true]⟩)) h := by
  subst ho hn; exact ⟨b, rfl, hb, hh⟩

theorem ro_ic' {i : Nat → Option Nat} {G G' : List Int} (h : G = G') : RO i (.tcells (ic G) 3 (some 0)) (.tcells (ic G') 3 (some 0)) := by
  subst h; exact ro_ic G 3 (some 0)

theorem ldx {L : List Int} {i : Nat} (h : i < L.length) : aLoad Tryd.prog 3 (.pointer (some ⟨0, 0 + ((i : Nat) : Int).toNat * 1, none⟩)) [.tcells (ic L) 3 (some 0)] = some (.int .i64 (L.getD i 0)) := by
  rw [Int.toNat_natCast, Nat.zero_add, Nat.mul_one]
  exact aLoad_row (l := ic L) xa3 rfl (ic_get h)
theorem ldx0 {L : List Int} (h : 0 < L.length) : aLoad Tryd.prog 3 (.pointer (some ⟨0, 0, none⟩)) [.tcells (ic L) 3 (some 0)] = some (.int .i64 (L.getD 0 0)) :=
  aLoad_row (l := ic L) xa3 rfl (ic_get h)

theorem outK_le (gap : Nat) (L : List Int) (i k : Nat) : (outK gap L i k).length ≤ 2 * L.length + 8 + k := by
  unfold outK outI
  split
  · simp only [List.length_append, List.length_take, List.length_replicate]; omega
  · split
    · simp only [List.length_append, List.length_take, List.length_replicate, List.length_drop]; omega
    · rw [List.length_take]; omega

theorem outK_bnd {gap : Nat} {L : List Int} {i k : Nat} (h9 : L.length ≤ 9) (hk : k ≤ 100) : (outK gap L i k).length + 1 ≤ 2 ^ 40 := by
  have h := outK_le gap L i k
  have h2 : (outK gap L i k).length + 1 ≤ 1000 := by omega
  exact Nat.le_trans h2 (by decide)

theorem eqg {a b : Nat} (h : (((a : Nat) : Int) == ((b : Nat) : Int)) = true) : a = b := by
  have h : ((a : Nat) : Int) = ((b : Nat) : Int) := by simpa using h
  omega
theorem neg' {a b : Nat} (h : (((a : Nat) : Int) == ((b : Nat) : Int)) = false) : a ≠ b := by
  rintro rfl; rw [beq_self_eq_true] at h; cases h
theorem eqg0 {b : Nat} (h : ((0 : Int) == ((b : Nat) : Int)) = true) : b = 0 := (eqg (a := 0) h).symm
theorem neg0 {b : Nat} (h : ((0 : Int) == ((b : Nat) : Int)) = false) : b ≠ 0 := fun e => neg' (a := 0) h e.symm

section
variable {l p : List UInt8} {g : List Int} {gap : Nat}

theorem cw3_ok {L : List Int} {i k : Nat} {z : WS} (hw : wOK g gap p L) (hi : i = 0) (hk : k = L.length) (h8 : gap = 0 → 8 ≤ L.length) (hL : L = z.L) (hz : i = z.i) : cw1g3 l p g gap ⟨L, i, k⟩ z := by
  subst hi hk
  have h0 : 0 < L.length := List.length_pos_iff.2 hw.1
  intro z5 hz5
  have hz5 : z5 = ((L.length : Nat) : Int) := hz5
  subst hz5
  refine ⟨fun _ => ?_, fun hd => by have := of_decide_eq_false hd; omega⟩
  refine ⟨aIndexAddr_slice (n := 0) xu80' xs3 (by omega) (by omega), xstep (ldx0 h0) ?_⟩
  have e : outI gap L 1 = [L.getD 0 0] := by
    have := outI_next (gap := gap) (L := L) (i := 0) (k := L.length) (fun e => by have := h8 e.symm; omega) h0
    rw [this, outK_start]
    unfold outI
    rw [if_neg (Nat.not_lt_zero _)]; rfl
  exact someN_mk 1 rfl ⟨⟨L, 1, 0⟩, ⟨hw, Nat.zero_lt_one, by show 1 ≤ L.length + 1; omega⟩, by show L.length + 1 - 1 < z.L.length + 1 - z.i; rw [← hL, ← hz]; omega,
    Gc.ren [0, 1, 2, 4] (by decide) rfl rfl rfl ⟨⟨_, rfl, ro_ic g 3 (some 0)⟩, ⟨_, rfl, .cells _ (.cons (.slice _ _ _ _ rfl) (.cons (.int _ _) (.cons (.string _) .nil)))⟩, ⟨_, rfl, ro_ic L 3 (some 0)⟩, ⟨_, rfl, ro_ic' e⟩, trivial⟩
      ⟨⟨_, rfl, .int _ _⟩, ⟨_, rfl, xrv_slice (congrArg List.length e) rfl⟩, ⟨_, rfl, .slice _ _ _ _ rfl⟩, ⟨_, rfl, .bool _⟩, ⟨_, rfl, .snil _ _⟩, ⟨_, rfl, .ptr _ _ rfl⟩, ⟨_, rfl, .string _⟩, trivial⟩ rfl⟩

set_option maxRecDepth 20000 in
theorem cw2_ok {L : List Int} {i k : Nat} {z : WS} (hw : wOK g gap p L) (hi : i ≤ L.length) (hk : k ≤ 100) (h8 : i = gap → k - L.length = 8 - L.length) (hL : L = z.L) (hz : i = z.i) : cw1g2 l p g gap ⟨L, i, k⟩ z := by
  have h9 := hw.2.1
  dsimp only [cw1g2]
  intro z5 hz5
  have hz5 : z5 = ((L.length : Nat) : Int) := hz5
  subst hz5
  refine ⟨fun hd => ?_, fun hd => ?_⟩
  · have hlt : i < L.length := by have := of_decide_eq_true hd; omega
    refine ⟨aIndexAddr_slice (n := ((i : Nat) : Int)) xu80' xs3 (by omega) (by omega), xstep (ldx hlt) ?_⟩
    refine ⟨xapp_ic (l := [L.getD i 0]) (m := outK gap L i k) (b := 3) rfl rfl (by simp) (outK_bnd h9 (by omega)), ?_⟩
    intro z7 hz7
    rw [xwrapi (by omega) (by omega)] at hz7
    have hz7 : z7 = ((i + 1 : Nat) : Int) := by omega
    subst hz7
    have e := outI_next (gap := gap) (L := L) (i := i) (k := k) h8 hlt
    exact someN_mk 1 rfl ⟨⟨L, i + 1, 0⟩, ⟨hw, Nat.succ_pos _, by show i + 1 ≤ L.length + 1; omega⟩, by show L.length + 1 - (i + 1) < z.L.length + 1 - z.i; rw [← hL, ← hz]; omega,
      Gc.ren [0, 1, 2, 5] (by decide) rfl rfl rfl ⟨⟨_, rfl, ro_ic g 3 (some 0)⟩, ⟨_, rfl, .cells _ (.cons (.slice _ _ _ _ rfl) (.cons (.int _ _) (.cons (.string _) .nil)))⟩, ⟨_, rfl, ro_ic L 3 (some 0)⟩, ⟨_, rfl, ro_ic' e⟩, trivial⟩
        ⟨⟨_, rfl, .int _ _⟩, ⟨_, rfl, xrv_slice (show (outI gap L (i + 1)).length = (outK gap L i k).length + 1 by rw [e, List.length_append]; rfl) rfl⟩, ⟨_, rfl, .slice _ _ _ _ rfl⟩, ⟨_, rfl, .bool _⟩, ⟨_, rfl, .snil _ _⟩, ⟨_, rfl, .ptr _ _ rfl⟩, ⟨_, rfl, .string _⟩, trivial⟩ rfl⟩
  · have hge : i = L.length := by have := of_decide_eq_false hd; omega
    intro z7 hz7
    rw [xwrapi (by omega) (by omega)] at hz7
    have hz7 : z7 = ((i + 1 : Nat) : Int) := by omega
    subst hz7
    have e := outI_last (gap := gap) (L := L) (i := i) (k := k) h8 hw.2.2.1 hge
    exact someN_mk 1 rfl ⟨⟨L, i + 1, 0⟩, ⟨hw, Nat.succ_pos _, by show i + 1 ≤ L.length + 1; omega⟩, by show L.length + 1 - (i + 1) < z.L.length + 1 - z.i; rw [← hL, ← hz]; omega,
      Gc.ren [0, 1, 2, 3] (by decide) rfl rfl rfl ⟨⟨_, rfl, ro_ic g 3 (some 0)⟩, ⟨_, rfl, .cells _ (.cons (.slice _ _ _ _ rfl) (.cons (.int _ _) (.cons (.string _) .nil)))⟩, ⟨_, rfl, ro_ic L 3 (some 0)⟩, ⟨_, rfl, ro_ic' e⟩, trivial⟩
        ⟨⟨_, rfl, .int _ _⟩, ⟨_, rfl, xrv_slice (congrArg List.length e) rfl⟩, ⟨_, rfl, .slice _ _ _ _ rfl⟩, ⟨_, rfl, .bool _⟩, ⟨_, rfl, .snil _ _⟩, ⟨_, rfl, .ptr _ _ rfl⟩, ⟨_, rfl, .string _⟩, trivial⟩ rfl⟩

set_option maxRecDepth 20000 in
theorem cw0_ok (z : WS) : cw1g0 l p g gap z := by
  refine ⟨fun s hs => ?_, fun s hs => ?_⟩
  · obtain ⟨L, i, k⟩ := s
    obtain ⟨hw, hi, hk, hL, hz⟩ := hs
    have hw : wOK g gap p L := hw
    have hi : i = 0 := hi
    have hk : k = L.length := hk
    have hL : L = z.L := hL
    have hz : i = z.i := hz
    have h9 := hw.2.1
    dsimp only
    refine ⟨fun h => ⟨fun hd => ?_, fun hd => ?_⟩, fun h => ?_⟩
    · have hg0 := eqg0 h
      have hd : k < 8 := by have := of_decide_eq_true hd; have : ((k : Nat) : Int) < 8 := this; omega
      intro z5 hz5
      have hz5 : z5 = IntKind.i64.wrap (((k : Nat) : Int) + 1) := hz5
      rw [xwrapi (by omega) (by omega)] at hz5
      have hz5 : z5 = ((k + 1 : Nat) : Int) := by omega
      subst hz5
      have e : outK gap L 0 (k + 1) = [0] := by
        subst hg0
        rw [outK_zero (Nat.le_of_eq hk.symm), hk, outK_start]; rfl
      exact someN_mk 1 rfl ⟨⟨L, 0, k + 1⟩, ⟨hw, Nat.zero_le _, by show L.length ≤ k + 1; omega, .inl (by show k + 1 ≤ 8; omega), hL, by rw [← hz, hi]⟩, by show 8 - (k + 1) < 8 - k; omega,
        Gc.ren [0, 1, 2, 4] (by decide) rfl rfl rfl ⟨⟨_, rfl, ro_ic g 3 (some 0)⟩, ⟨_, rfl, .cells _ (.cons (.slice _ _ _ _ rfl) (.cons (.int _ _) (.cons (.string _) .nil)))⟩, ⟨_, rfl, ro_ic L 3 (some 0)⟩, ⟨_, rfl, ro_ic' e⟩, trivial⟩
          ⟨⟨_, rfl, .int _ _⟩, ⟨_, rfl, .int _ _⟩, ⟨_, rfl, xrv_slice (congrArg List.length e) rfl⟩, ⟨_, rfl, .slice _ _ _ _ rfl⟩, ⟨_, rfl, .bool _⟩, ⟨_, rfl, .snil _ _⟩, ⟨_, rfl, .ptr _ _ rfl⟩, ⟨_, rfl, .string _⟩, trivial⟩ rfl⟩
    · have hd : ¬ k < 8 := by have := of_decide_eq_false hd; have : ¬ ((k : Nat) : Int) < 8 := this; omega
      exact cw3_ok hw hi hk (fun _ => by omega) hL hz
    · exact cw3_ok hw hi hk (fun e => absurd e (neg0 h)) hL hz
  · obtain ⟨L, i, k⟩ := s
    obtain ⟨hw, hi, hk, h8, hL, hz⟩ := hs
    have hw : wOK g gap p L := hw
    have hi : i ≤ L.length := hi
    have hk : L.length ≤ k := hk
    have h8 : k ≤ 8 ∨ k = L.length := h8
    have hL : L = z.L := hL
    have hz : i = z.i := hz
    have h9 := hw.2.1
    dsimp only
    refine ⟨fun h => ⟨fun hd => ?_, fun hd => ?_⟩, fun h => ?_⟩
    · have hg0 : i = gap := eqg h
      have hd : k < 8 := by have := of_decide_eq_true hd; have : ((k : Nat) : Int) < 8 := this; omega
      refine ⟨xapp_ic (l := [0]) (m := outK gap L i k) (b := 3) rfl rfl (by simp) (outK_bnd h9 (by omega)), ?_⟩
      intro z5 hz5
      have hz5 : z5 = IntKind.i64.wrap (((k : Nat) : Int) + 1) := hz5
      rw [xwrapi (by omega) (by omega)] at hz5
      have hz5 : z5 = ((k + 1 : Nat) : Int) := by omega
      subst hz5
      have e : outK gap L i (k + 1) = outK gap L i k ++ [0] := by rw [hg0]; exact outK_zero hk
      exact someN_mk 1 rfl ⟨⟨L, i, k + 1⟩, ⟨hw, hi, by show L.length ≤ k + 1; omega, .inl (by show k + 1 ≤ 8; omega), hL, hz⟩, by show 8 - (k + 1) < 8 - k; omega,
        Gc.ren [0, 1, 2, 5] (by decide) rfl rfl rfl ⟨⟨_, rfl, ro_ic g 3 (some 0)⟩, ⟨_, rfl, .cells _ (.cons (.slice _ _ _ _ rfl) (.cons (.int _ _) (.cons (.string _) .nil)))⟩, ⟨_, rfl, ro_ic L 3 (some 0)⟩, ⟨_, rfl, ro_ic' e⟩, trivial⟩
          ⟨⟨_, rfl, .int _ _⟩, ⟨_, rfl, .int _ _⟩, ⟨_, rfl, xrv_slice (show (outK gap L i (k + 1)).length = (outK gap L i k).length + 1 by rw [e, List.length_append]; rfl) rfl⟩, ⟨_, rfl, .slice _ _ _ _ rfl⟩, ⟨_, rfl, .bool _⟩, ⟨_, rfl, .snil _ _⟩, ⟨_, rfl, .ptr _ _ rfl⟩, ⟨_, rfl, .string _⟩, trivial⟩ rfl⟩
    · have hd : ¬ k < 8 := by have := of_decide_eq_false hd; have : ¬ ((k : Nat) : Int) < 8 := this; omega
      exact cw2_ok hw hi (by omega) (fun _ => by omega) hL hz
    · exact cw2_ok hw hi (by omega) (fun e => absurd e (neg' h)) hL hz

theorem cw1_ok : cw1g1 l p g gap (W6out1 g (whole6 ⟨g, (gap : Int), p⟩)) := by
  refine ⟨fun s hs => ?_, fun s hs => ?_⟩
  · obtain ⟨L, i, k⟩ := s
    obtain ⟨hw, hi⟩ := hs
    have hw : wOK g gap p L := hw
    have hi : i = 0 := hi
    intro z2 hz2
    have hz2 : z2 = ((L.length : Nat) : Int) := hz2
    subst hz2
    refine ⟨fun _ => ?_, fun hd => by have := of_decide_eq_false hd; omega⟩
    intro z3 hz3
    have hz3 : z3 = ((L.length : Nat) : Int) := hz3
    subst hz3
    refine ⟨?_, cw0_ok _⟩
    exact someN_mk 0 rfl ⟨⟨L, 0, L.length⟩, ⟨hw, rfl, rfl, rfl, hi.symm⟩, trivial,
      Gc.ren [0, 1, 2] (by decide) rfl rfl rfl ⟨⟨_, rfl, ro_ic g 3 (some 0)⟩, ⟨_, rfl, .cells _ (.cons (.slice _ _ _ _ rfl) (.cons (.int _ _) (.cons (.string _) .nil)))⟩, ⟨_, rfl, ro_ic L 3 (some 0)⟩, trivial⟩
        ⟨⟨_, rfl, .int _ _⟩, ⟨_, rfl, .int _ _⟩, ⟨_, rfl, .snil _ _⟩, ⟨_, rfl, .slice _ _ _ _ rfl⟩, ⟨_, rfl, .bool _⟩, ⟨_, rfl, .snil _ _⟩, ⟨_, rfl, .ptr _ _ rfl⟩, ⟨_, rfl, .string _⟩, trivial⟩ rfl⟩
  · obtain ⟨L, i, k⟩ := s
    obtain ⟨hw, hi0, hi⟩ := hs
    have hw : wOK g gap p L := hw
    have hi0 : 0 < i := hi0
    have hi : i ≤ L.length + 1 := hi
    intro z2 hz2
    have hz2 : z2 = ((L.length : Nat) : Int) := hz2
    subst hz2
    refine ⟨fun hd => ?_, fun hd => ?_⟩
    · have hd : i ≤ L.length := by have := of_decide_eq_true hd; have : ((i : Nat) : Int) ≤ ((L.length : Nat) : Int) := this; omega
      intro z3 hz3
      have hz3 : z3 = ((L.length : Nat) : Int) := hz3
      subst hz3
      refine ⟨?_, cw0_ok _⟩
      have e := outK_start gap L i
      exact someN_mk 1 rfl ⟨⟨L, i, L.length⟩, ⟨hw, hd, Nat.le_refl _, .inr rfl, rfl, rfl⟩, trivial,
        Gc.ren [0, 1, 2, 3] (by decide) rfl rfl rfl ⟨⟨_, rfl, ro_ic g 3 (some 0)⟩, ⟨_, rfl, .cells _ (.cons (.slice _ _ _ _ rfl) (.cons (.int _ _) (.cons (.string _) .nil)))⟩, ⟨_, rfl, ro_ic L 3 (some 0)⟩, ⟨_, rfl, ro_ic' e⟩, trivial⟩
          ⟨⟨_, rfl, .int _ _⟩, ⟨_, rfl, .int _ _⟩, ⟨_, rfl, xrv_slice (congrArg List.length e) rfl⟩, ⟨_, rfl, .slice _ _ _ _ rfl⟩, ⟨_, rfl, .bool _⟩, ⟨_, rfl, .snil _ _⟩, ⟨_, rfl, .ptr _ _ rfl⟩, ⟨_, rfl, .string _⟩, trivial⟩ rfl⟩
    · have hd : i = L.length + 1 := by have := of_decide_eq_false hd; have : ¬ ((i : Nat) : Int) ≤ ((L.length : Nat) : Int) := this; omega
      subst hd
      have hwh : whole6 ⟨g, (gap : Int), p⟩ = rfin (gap : Int) L := whole_of hw.2.2.2
      rw [rfin_ge hw.2.2.1] at hwh
      intro z3 hz3
      have hz3 : z3 = ((L.length : Nat) : Int) := hz3
      subst hz3
      refine ⟨fun h7 => ?_, fun h7 => ?_⟩
      · have h7 := of_decide_eq_true h7
        rw [if_pos (by omega)] at hwh
        exact ⟨w6_yes hwh (outI_len hw.2.2.1 (by omega)) (by decide) rfl, rfl⟩
      · have h7 := of_decide_eq_false h7
        rw [if_neg (by omega)] at hwh
        exact ⟨w6_no hwh rfl, rfl⟩
end

end Go.Proofs.YtopladipgobpjaaDoor
