/-
  The reference's Whole6: its contracts. Conditions: at most seven groups, a part of at most 15 letters, a gap that is not behind the groups.
-/
import Derived.Test.YtopladipgobpjaaDoorRx6
namespace Go.Proofs.YtopladipgobpjaaDoor
open Go.Fm

theorem two16 {a b z1 z2 z3 z4 : Int} (ha : 0 ≤ a ∧ a ≤ 255) (hb : 0 ≤ b ∧ b ≤ 255) (h1 : z1 = IntKind.i64.wrap a) (h2 : z2 = IntKind.i64.wrap (z1 * 256)) (h3 : z3 = IntKind.i64.wrap b) (h4 : z4 = IntKind.i64.wrap (z2 + z3)) : z4 = a * 256 + b := by
  rw [xwrapi (by omega) (by omega)] at h1 h3
  subst h1 h3
  rw [xwrapi (by omega) (by omega)] at h2
  rw [h2, xwrapi (by omega) (by omega)] at h4
  exact h4

theorem rmid_w4' {y : R6} (h : grp y.part = false) (hp : y.part ≠ []) (hw : w4 y.part = true) : rmid y = some (y.l ++ [p4b y.part 0 * 256 + p4b y.part 1, p4b y.part 2 * 256 + p4b y.part 3]) := by
  rw [rmid_w4 h hp hw, p4b_val hw, p4b_val hw, p4b_val hw, p4b_val hw]

theorem rmid_cases {y : R6} {L : List Int} (h : rmid y = some L) : (grp y.part = true ∧ L = y.l ++ [valH y.part]) ∨ (w4 y.part = true ∧ L = y.l ++ [p4b y.part 0 * 256 + p4b y.part 1, p4b y.part 2 * 256 + p4b y.part 3]) ∨ L = y.l := by
  cases hg : grp y.part with
  | true => rw [rmid_grp hg] at h; injection h with h; exact .inl ⟨rfl, h.symm⟩
  | false =>
    by_cases hw : y.part ≠ [] ∧ w4 y.part = true
    · rw [rmid_w4' hg hw.1 hw.2] at h; injection h with h; exact .inr (.inl ⟨hw.2, h.symm⟩)
    · by_cases hn : y.part = [] ∧ 0 ≤ y.gap ∧ y.gap = y.l.length
      · rw [rmid_nil hn.1 hn.2.1 hn.2.2] at h; injection h with h; exact .inr (.inr h.symm)
      · rw [rmid_no hg hw hn] at h; cases h

theorem rmid_len {y : R6} {L : List Int} (h : rmid y = some L) : y.l.length ≤ L.length ∧ L.length ≤ y.l.length + 2 := by
  rcases rmid_cases h with ⟨_, e⟩ | ⟨_, e⟩ | e
  · subst e; rw [List.length_append]; show _ ≤ _ + 1 ∧ _ + 1 ≤ _; omega
  · subst e; rw [List.length_append]; show _ ≤ _ + 2 ∧ _ + 2 ≤ _; omega
  · subst e; omega

theorem rmid_okG {y : R6} {L : List Int} (w : okG y.l) (h : rmid y = some L) : okG L := by
  rcases rmid_cases h with ⟨hg, e⟩ | ⟨hw, e⟩ | e
  · subst e
    refine okG_app w ?_
    intro n hn
    rw [List.mem_singleton] at hn; subst hn
    exact valH_bound y.part (grp_iff.1 hg).1 (grp_iff.1 hg).2.2
  · subst e
    refine okG_app w ?_
    have h0 := p4b_ok hw 0
    have h1 := p4b_ok hw 1
    have h2 := p4b_ok hw 2
    have h3 := p4b_ok hw 3
    intro n hn
    simp only [List.mem_cons, List.not_mem_nil, or_false] at hn
    rcases hn with e | e <;> subst e <;> omega
  · subst e; exact w

theorem whole_ok {y : R6} {G : List Int} (w : RW y) (h : whole6 y = some G) : G.length = 8 ∧ okG G := by
  cases hm : rmid y with
  | none => rw [whole_no hm] at h; cases h
  | some L =>
    rw [whole_of hm] at h
    have hl := rmid_len hm
    have ho := rmid_okG w.lok hm
    have gl := w.gl
    unfold rfin at h
    split at h
    · split at h
      · injection h with h; subst h; exact ⟨by assumption, ho⟩
      · cases h
    · split at h
      · injection h with h; subst h
        refine ⟨?_, okG_app (okG_app (okG_take ho _) (okG_rep _)) (okG_drop ho _)⟩
        simp only [List.length_append, List.length_take, List.length_replicate, List.length_drop]
        omega
      · cases h

theorem toL_t {p : List UInt8} (h : (!((bs p).toList == (bs []).toList)) = true) : p ≠ [] := toL_not (by simpa using h)
theorem toL_f {p : List UInt8} (h : (!((bs p).toList == (bs []).toList)) = false) : p = [] := toL_nil (by simpa using h)

section
variable {l p : List UInt8} {g : List Int} {gap : Nat}

set_option maxRecDepth 20000 in
theorem whole_w0z (hp : p.length ≤ 15) : Fm.Spec Tryd.prog [] 61 [.string (bs l), .agg ⟨[.slice none 0 0, .int .i64 (-1), .string (bs p)]⟩] [] (W6out (whole6 ⟨[], -1, p⟩)) := by
  have hn : whole6 ⟨[], -1, p⟩ = none := by
    cases h : rmid ⟨[], -1, p⟩ with
    | none => exact whole_no h
    | some L =>
      have hl : L.length ≤ 0 + 2 := (rmid_len h).2
      rw [whole_of h]
      show rfin (-1) L = none
      rw [rfin_lt (by decide), if_neg (by omega)]
  refine xspec (run_w0z l p (W6out (whole6 ⟨[], -1, p⟩))) ?_
  refine (xfun_of (group_spec (by omega)) (.bool _)).call (xone (.string _)) ?_
  refine ⟨fun hg => ?_, fun hg => ?_⟩
  · refine (xfun_of (rvalue_spec (grp_iff.1 hg).1 (grp_iff.1 hg).2.2) (.int _ _)).call (xone (.string _)) ?_
    exact w6_no hn rfl
  refine ⟨fun h1 => ?_, fun h1 => ⟨fun _ => w6_no hn rfl, fun _ => w6_no hn rfl⟩⟩
  refine (xfun_of (who_spec (by omega)) (.bool _)).call (xone (.string _)) ?_
  refine ⟨fun hw => ?_, fun hw => ⟨fun _ => w6_no hn rfl, fun _ => w6_no hn rfl⟩⟩
  refine (p4_fun (by omega)).call (xone (.string _)) ?_
  intro z1 _ z2 _ z3 _ z4 _ z5 _ z6 _ z7 _ z8 _
  exact w6_no hn rfl

set_option maxRecDepth 20000 in
theorem whole_w0o (hp : p.length ≤ 15) : Fm.Spec Tryd.prog [] 61 [.string (bs l), .agg ⟨[.slice none 0 0, .int .i64 0, .string (bs p)]⟩] [] (W6out (whole6 ⟨[], 0, p⟩)) := by
  refine xspec (run_w0o l p (W6out (whole6 ⟨[], 0, p⟩))) ?_
  refine (xfun_of (group_spec (by omega)) (.bool _)).call (xone (.string _)) ?_
  refine ⟨fun hg => ?_, fun hg => ?_⟩
  · refine (xfun_of (rvalue_spec (grp_iff.1 hg).1 (grp_iff.1 hg).2.2) (.int _ _)).call (xone (.string _)) ?_
    exact w6_yes (G := [0, 0, 0, 0, 0, 0, 0, valH p]) ((whole_of (rmid_grp (y := ⟨[], 0, p⟩) hg)).trans rfl) rfl (by decide) rfl
  refine ⟨fun h1 => ?_, fun h1 => ?_⟩
  · have hp1 := toL_t h1
    refine (xfun_of (who_spec (by omega)) (.bool _)).call (xone (.string _)) ?_
    refine ⟨fun hw => ?_, fun hw => ?_⟩
    · refine (p4_fun (by omega)).call (xone (.string _)) ?_
      intro z1 h1 z2 h2 z3 h3 z4 h4 z5 h5 z6 h6 z7 h7 z8 h8
      have e4 := two16 (p4b_ok hw 0) (p4b_ok hw 1) h1 h2 h3 h4
      have e8 := two16 (p4b_ok hw 2) (p4b_ok hw 3) h5 h6 h7 h8
      exact w6_yes (G := [0, 0, 0, 0, 0, 0, z4, z8]) ((whole_of (rmid_w4' (y := ⟨[], 0, p⟩) hg hp1 hw)).trans (by rw [e4, e8]; rfl)) rfl (by decide) rfl
    · have hn : whole6 ⟨[], 0, p⟩ = none := whole_no (rmid_no hg (fun h => by have h := h.2; rw [hw] at h; cases h) (fun h => hp1 h.1))
      exact ⟨fun _ => by exact absurd (toL_nil (by assumption)) hp1, fun _ => w6_no hn rfl⟩
  · have hp1 := toL_f h1
    subst hp1
    exact ⟨fun _ => w6_yes (G := [0, 0, 0, 0, 0, 0, 0, 0]) rfl rfl (by decide) rfl, fun h => absurd rfl (toL_not h)⟩

theorem app_g {H : AHeap} (hb : H[0]? = some (.tcells (ic g) 3 (some 0))) (hg : g ≠ []) (hg7 : g.length ≤ 7) : aAppend Tryd.prog 80 80 (.slice (some ⟨2, 0, none⟩) 0 0) (.slice (some ⟨0, 0, some 1⟩) g.length g.length) H = some (.slice (some ⟨H.length, 0, some 1⟩) g.length g.length, H ++ [.tcells (ic (List.take g.length g)) 3 (some 0)]) := by
  have h0 : 0 < g.length := List.length_pos_iff.2 hg
  exact xapp0 (xnew_sub (b := 0) (o := 0) hb (by omega) rfl h0) (by rw [List.length_take]; omega) h0 (Nat.le_trans hg7 (by decide))

set_option maxRecDepth 20000 in
theorem whole_w1z (hp : p.length ≤ 15) (hg0 : g ≠ []) (hg7 : g.length ≤ 7) : Fm.Spec Tryd.prog [] 61 [.string (bs l), .agg ⟨[.slice (some ⟨0, 0, some 1⟩) g.length g.length, .int .i64 (-1), .string (bs p)]⟩] [.tcells (ic g) 3 (some 0)] (W6out1 g (whole6 ⟨g, -1, p⟩)) := by
  refine xspec (run_w1z l p g (W6out1 g (whole6 ⟨g, -1, p⟩))) ?_
  refine ⟨app_g rfl hg0 hg7, ?_⟩
  rw [List.take_length]
  refine (xfun_of (group_spec (by omega)) (.bool _)).call (xone (.string _)) ?_
  refine ⟨fun hg => ?_, fun hg => ?_⟩
  · refine (xfun_of (rvalue_spec (grp_iff.1 hg).1 (grp_iff.1 hg).2.2) (.int _ _)).call (xone (.string _)) ?_
    refine ⟨xapp_ic (l := [valH p]) (m := g) (b := 3) rfl rfl (by simp) (Nat.le_trans (show g.length + 1 ≤ 100 by omega) (by decide)), ?_⟩
    have hwh : whole6 ⟨g, -1, p⟩ = rfin (-1) (g ++ [valH p]) := whole_of (rmid_grp (y := ⟨g, -1, p⟩) hg)
    rw [rfin_lt (by decide), show (g ++ [valH p]).length = g.length + 1 by rw [List.length_append]; rfl] at hwh
    refine ⟨fun h8 => ?_, fun h8 => ?_⟩
    · have h8 : ((g.length + 1 : Nat) : Int) = 8 := by simpa using h8
      rw [if_pos (show g.length + 1 = 8 by omega)] at hwh
      exact ⟨w6_yes hwh (by omega) (by decide) rfl, rfl⟩
    · have h8 : ((g.length + 1 : Nat) : Int) ≠ 8 := by simpa using h8
      rw [if_neg (show g.length + 1 ≠ 8 by omega)] at hwh
      exact ⟨w6_no hwh rfl, rfl⟩
  have hn1 : ¬ (p ≠ [] ∧ w4 p = true) → whole6 ⟨g, -1, p⟩ = none := fun h => whole_no (rmid_no hg h (fun e => absurd (show (0 : Int) ≤ -1 from e.2.1) (by decide)))
  refine ⟨fun h1 => ?_, fun h1 => ?_⟩
  · have hp1 := toL_t h1
    refine (xfun_of (who_spec (by omega)) (.bool _)).call (xone (.string _)) ?_
    refine ⟨fun hw => ?_, fun hw => ?_⟩
    · refine (p4_fun (by omega)).call (xone (.string _)) ?_
      intro z1 h1 z2 h2 z3 h3 z4 h4 z5 h5 z6 h6 z7 h7 z8 h8
      have e4 := two16 (p4b_ok hw 0) (p4b_ok hw 1) h1 h2 h3 h4
      have e8 := two16 (p4b_ok hw 2) (p4b_ok hw 3) h5 h6 h7 h8
      refine ⟨xapp_ic (l := [z4, z8]) (m := g) (b := 3) rfl rfl (by simp) (Nat.le_trans (show g.length + 2 ≤ 100 by omega) (by decide)), ?_⟩
      have hwh : whole6 ⟨g, -1, p⟩ = rfin (-1) (g ++ [z4, z8]) := by rw [e4, e8]; exact whole_of (rmid_w4' (y := ⟨g, -1, p⟩) hg hp1 hw)
      rw [rfin_lt (by decide), show (g ++ [z4, z8]).length = g.length + 2 by rw [List.length_append]; rfl] at hwh
      refine ⟨fun h8 => ?_, fun h8 => ?_⟩
      · have h8 : ((g.length + 2 : Nat) : Int) = 8 := by simpa using h8
        rw [if_pos (show g.length + 2 = 8 by omega)] at hwh
        exact ⟨w6_yes hwh (by omega) (by decide) rfl, rfl⟩
      · have h8 : ((g.length + 2 : Nat) : Int) ≠ 8 := by simpa using h8
        rw [if_neg (show g.length + 2 ≠ 8 by omega)] at hwh
        exact ⟨w6_no hwh rfl, rfl⟩
    · have hn := hn1 (fun h => by have h := h.2; rw [hw] at h; cases h)
      exact ⟨fun _ => ⟨w6_no hn rfl, rfl⟩, fun _ => ⟨w6_no hn rfl, rfl⟩⟩
  · have hn := hn1 (fun h => h.1 (toL_f h1))
    exact ⟨fun _ => ⟨w6_no hn rfl, rfl⟩, fun _ => ⟨w6_no hn rfl, rfl⟩⟩

theorem start_ok {L M : List Int} {a b : Nat} {H : AHeap} (hw : wOK g gap p L) (hL : L = M) (hb : H[b]? = some (.tcells (ic M) 3 (some 0))) (ha : a = M.length) (hb1 : 1 < b)
    (h0 : H[0]? = some (.tcells (ic g) 3 (some 0))) (h1 : H[1]? = some (.cells [.slice (some ⟨0, 0, some 1⟩) g.length g.length, .int .i64 gap, .string (bs p)] false)) :
    someN [] 1 (fun _ => True) ⟨[(11, .int .i64 0), (10, .slice none 0 0), (6, .slice (some ⟨b, 0, some 1⟩) a a), (5, .bool false), (4, .slice none 0 0), (3, .pointer (some ⟨1, 0, none⟩)), (0, .string (bs l))], [], H, .norm⟩ [wqa l p g gap, wqb l p g gap] := by
  subst hL ha
  exact someN_mk 0 rfl ⟨⟨L, 0, 0⟩, ⟨hw, rfl⟩, trivial,
    Gc.ren [0, 1, b] (by simp; omega) rfl (by simp) rfl ⟨⟨_, h0, ro_ic g 3 (some 0)⟩, ⟨_, h1, .cells _ (.cons (.slice _ _ _ _ rfl) (.cons (.int _ _) (.cons (.string _) .nil)))⟩, ⟨_, hb, ro_ic L 3 (some 0)⟩, trivial⟩
      ⟨⟨_, rfl, .int _ _⟩, ⟨_, rfl, .snil _ _⟩, ⟨_, rfl, .slice _ _ _ _ rfl⟩, ⟨_, rfl, .bool _⟩, ⟨_, rfl, .snil _ _⟩, ⟨_, rfl, .ptr _ _ rfl⟩, ⟨_, rfl, .string _⟩, trivial⟩ rfl⟩

set_option maxRecDepth 20000 in
theorem whole_w1g (hp : p.length ≤ 15) (hg0 : g ≠ []) (hg7 : g.length ≤ 7) (hgap : gap ≤ g.length) : Fm.Spec Tryd.prog [] 61 [.string (bs l), .agg ⟨[.slice (some ⟨0, 0, some 1⟩) g.length g.length, .int .i64 gap, .string (bs p)]⟩] [.tcells (ic g) 3 (some 0)] (W6out1 g (whole6 ⟨g, (gap : Int), p⟩)) := by
  refine xspec (run_w1g l p g gap (W6out1 g (whole6 ⟨g, (gap : Int), p⟩))) ?_
  dsimp only [cw1g4]
  refine ⟨app_g rfl hg0 hg7, ?_⟩
  rw [List.take_length]
  refine (xfun_of (group_spec (by omega)) (.bool _)).call (xone (.string _)) ?_
  refine ⟨fun hg => ?_, fun hg => ?_⟩
  · refine (xfun_of (rvalue_spec (grp_iff.1 hg).1 (grp_iff.1 hg).2.2) (.int _ _)).call (xone (.string _)) ?_
    refine ⟨xapp_ic (l := [valH p]) (m := g) (b := 3) rfl rfl (by simp) (Nat.le_trans (show g.length + 1 ≤ 100 by omega) (by decide)), ?_, cw1_ok⟩
    have hl : (g ++ [valH p]).length = g.length + 1 := by rw [List.length_append]; rfl
    exact start_ok (L := g ++ [valH p]) ⟨by simp, by omega, by omega, rmid_grp (y := ⟨g, (gap : Int), p⟩) hg⟩ rfl rfl hl.symm (by decide) rfl rfl
  have stand : p = [] → (gap : Int) = (g.length : Int) → wOK g gap p g := fun h1 h2 => ⟨hg0, by omega, hgap, rmid_nil (y := ⟨g, (gap : Int), p⟩) h1 (by show (0 : Int) ≤ (gap : Int); omega) h2⟩
  refine ⟨fun h1 => ?_, fun h1 => ?_⟩
  · have hp1 := toL_t h1
    refine (xfun_of (who_spec (by omega)) (.bool _)).call (xone (.string _)) ?_
    refine ⟨fun hw => ?_, fun hw => ?_⟩
    · refine (p4_fun (by omega)).call (xone (.string _)) ?_
      intro z1 h1 z2 h2 z3 h3 z4 h4 z5 h5 z6 h6 z7 h7 z8 h8
      have e4 := two16 (p4b_ok hw 0) (p4b_ok hw 1) h1 h2 h3 h4
      have e8 := two16 (p4b_ok hw 2) (p4b_ok hw 3) h5 h6 h7 h8
      refine ⟨xapp_ic (l := [z4, z8]) (m := g) (b := 3) rfl rfl (by simp) (Nat.le_trans (show g.length + 2 ≤ 100 by omega) (by decide)), ?_, cw1_ok⟩
      have hl : (g ++ [z4, z8]).length = g.length + 2 := by rw [List.length_append]; rfl
      exact start_ok (L := g ++ [z4, z8]) ⟨by simp, by omega, by omega, by rw [e4, e8]; exact rmid_w4' (y := ⟨g, (gap : Int), p⟩) hg hp1 hw⟩ rfl rfl hl.symm (by decide) rfl rfl
    · have hn : whole6 ⟨g, (gap : Int), p⟩ = none := whole_no (rmid_no hg (fun h => by have h := h.2; rw [hw] at h; cases h) (fun h => hp1 h.1))
      exact ⟨fun h => absurd (toL_nil h) hp1, fun _ => ⟨w6_no hn rfl, rfl⟩⟩
  · have hp1 := toL_f h1
    refine ⟨fun _ => ?_, fun h => absurd hp1 (toL_not h)⟩
    intro z1 hz1
    have hz1 : z1 = ((g.length : Nat) : Int) := hz1
    subst hz1
    refine ⟨fun h => ⟨?_, cw1_ok⟩, fun h => ?_⟩
    · exact start_ok (L := g) (stand hp1 (by have := eqg h; omega)) rfl rfl rfl (by decide) rfl rfl
    · have hn : whole6 ⟨g, (gap : Int), p⟩ = none := whole_no (rmid_no hg (fun e => e.1 hp1) (fun e => neg' h (by have e := e.2.2; have e : (gap : Int) = (g.length : Int) := e; omega)))
      exact ⟨w6_no hn rfl, rfl⟩
end

end Go.Proofs.YtopladipgobpjaaDoor
