/-
  The reference's Read6: what it gives. Condition: the text's length is below 2^63.
-/
import Derived.Test.YtopladipgobpjaaDoorRx2
import Derived.Test.YtopladipgobpjaaDoorRParse4
import Derived.Test.YtopladipgobpjaaDoorSix4
namespace Go.Proofs.YtopladipgobpjaaDoor
open Go.Fm

theorem b4_len (p : List UInt8) (h : b4 p = true) : p.length ≤ 15 := by
  have h1 := b4_take p p.length (Nat.le_refl _)
  rw [List.take_length, h] at h1
  have h1 := of_decide_eq_true h1.symm
  have h2 := scanP_max p 3 0 0 (.inl ⟨rfl, rfl⟩)
  omega

theorem xone {v : Value} (h : Flat v) : ∀ u ∈ [v], Flat u := by
  intro u hu
  rw [List.mem_singleton] at hu
  subst hu; exact h

theorem one_t {i : Nat} (h : (((i : Nat) : Int) == 1) = true) : i = 1 := by
  have h : ((i : Nat) : Int) = 1 := by simpa using h
  omega
theorem one_f {i : Nat} (h : (((i : Nat) : Int) == 1) = false) : i ≠ 1 := by
  rintro rfl; revert h; decide
theorem six_t {i : Nat} (h : (((i : Nat) : Int) == 6) = true) : i = 6 := by
  have h : ((i : Nat) : Int) = 6 := by simpa using h
  omega
theorem six_f {i : Nat} (h : (((i : Nat) : Int) == 6) = false) : i ≠ 6 := by
  rintro rfl; revert h; decide

theorem drop_one {l : List UInt8} {i : Nat} (h : i < l.length) : List.take (i + 1 - i) (List.drop i l) = [l.getD i 0] := by
  rw [drop_cons h, Nat.add_sub_cancel_left]; rfl

/-- what Read6 gives -/
def R6out (l : List UInt8) (r : Res) (h : AHeap) : Prop :=
  ((rY l).l = [] → r = .ret (.tuple ⟨[.agg ⟨[.slice none 0 0, .int .i64 (rY l).gap, .string (bs (rY l).part)]⟩, .int .i64 (rN l)]⟩)) ∧
  ((rY l).l ≠ [] → r = .ret (.tuple ⟨[.agg ⟨[.slice (some ⟨2, 0, some 1⟩) (rY l).l.length (rY l).l.length, .int .i64 (rY l).gap, .string (bs (rY l).part)]⟩, .int .i64 (rN l)]⟩) ∧ h[2]? = some (.tcells (ic (rY l).l) 3 (some 0)))

theorem out0 {l : List UInt8} {L : List Int} {gap : Int} {part : List UInt8} {i : Nat} {h : AHeap} (hL : L = []) (hy : rY l = ⟨L, gap, part⟩ ∧ rN l = i) :
    R6out l (.ret (.tuple ⟨[.agg ⟨[.slice none 0 0, .int .i64 gap, .string (bs part)]⟩, .int .i64 i]⟩)) h := by
  unfold R6out
  rw [hy.1, hy.2]
  exact ⟨fun _ => rfl, fun h => absurd hL h⟩
theorem out1 {l : List UInt8} {L : List Int} {gap : Int} {part : List UInt8} {i : Nat} {a b : AObj} {r : AHeap} (hL : L ≠ []) (hy : rY l = ⟨L, gap, part⟩ ∧ rN l = i) :
    R6out l (.ret (.tuple ⟨[.agg ⟨[.slice (some ⟨2, 0, some 1⟩) L.length L.length, .int .i64 gap, .string (bs part)]⟩, .int .i64 i]⟩)) (a :: b :: .tcells (ic L) 3 (some 0) :: r) := by
  unfold R6out
  rw [hy.1, hy.2]
  exact ⟨fun h => absurd h hL, fun _ => ⟨rfl, rfl⟩⟩

theorem rx0 {l : List UInt8} {y w : R6} {i : Nat} {H : AHeap} (next : rOK l (i + 1) y) (hy : y.l = []) (hlt : i < l.length)
    (h0 : H[0]? = some (.tcells [.slice none 0 0, .int .i64 0, .string (bs [])] 82 (some 0))) (h1 : H[1]? = some (.tcells [.slice none 0 0, .int .i64 y.gap, .string (bs y.part)] 82 (some 0))) :
    someN [] 0 (fun a' => m6r l a' < m6r l (i, w)) ⟨[(5, .int .i64 ((i + 1 : Nat) : Int)), (4, .pointer (some ⟨1, 0, none⟩)), (3, .int .i64 0), (2, .pointer (some ⟨0, 0, none⟩)), (0, .string (bs l))], [], H, .norm⟩ [q6r0 l, q6r1 l] :=
  someN_mk 0 rfl ⟨(i + 1, y), ⟨next, hy⟩, by show l.length - (i + 1) < l.length - i; omega, Gc.ren [0, 1] (by decide) rfl rfl rfl ⟨⟨_, h0, ro_flat rfl⟩, ⟨_, h1, .tcells _ _ (.cons (.snil _ _) (.cons (.int _ _) (.cons (.string _) .nil)))⟩, trivial⟩
    ⟨⟨_, rfl, .int _ _⟩, ⟨_, rfl, .ptr _ _ rfl⟩, ⟨_, rfl, .int _ _⟩, ⟨_, rfl, .ptr _ _ rfl⟩, ⟨_, rfl, .string _⟩, trivial⟩ rfl⟩

theorem rx1 {l : List UInt8} {y w : R6} {i a b : Nat} {H : AHeap} (next : rOK l (i + 1) y) (hy : y.l ≠ []) (hlt : i < l.length) (ha : a = y.l.length) (hb1 : 1 < b)
    (h0 : H[0]? = some (.tcells [.slice none 0 0, .int .i64 0, .string (bs [])] 82 (some 0))) (h1 : H[1]? = some (.tcells [.slice (some ⟨b, 0, some 1⟩) a a, .int .i64 y.gap, .string (bs y.part)] 82 (some 0))) (hb : H[b]? = some (.tcells (ic y.l) 3 (some 0))) :
    someN [] 0 (fun a' => m6r l a' < m6r l (i, w)) ⟨[(5, .int .i64 ((i + 1 : Nat) : Int)), (4, .pointer (some ⟨1, 0, none⟩)), (3, .int .i64 0), (2, .pointer (some ⟨0, 0, none⟩)), (0, .string (bs l))], [], H, .norm⟩ [q6r0 l, q6r1 l] := by
  subst ha
  exact someN_mk 1 rfl ⟨(i + 1, y), ⟨next, hy⟩, by show l.length - (i + 1) < l.length - i; omega, Gc.ren [0, 1, b] (by simp; omega) rfl rfl rfl ⟨⟨_, h0, ro_flat rfl⟩, ⟨_, h1, .tcells _ _ (.cons (.slice _ _ _ _ rfl) (.cons (.int _ _) (.cons (.string _) .nil)))⟩, ⟨_, hb, ro_ic y.l 3 (some 0)⟩, trivial⟩
    ⟨⟨_, rfl, .int _ _⟩, ⟨_, rfl, .ptr _ _ rfl⟩, ⟨_, rfl, .int _ _⟩, ⟨_, rfl, .ptr _ _ rfl⟩, ⟨_, rfl, .string _⟩, trivial⟩ rfl⟩


set_option maxRecDepth 20000 in
theorem rdef0 {l : List UInt8} {i : Nat} {L : List Int} {gap : Int} {part : List UInt8} (hl : l.length < 2 ^ 63) (hs1 : rOK l i ⟨L, gap, part⟩) (hL : L = []) (hlt : i < l.length) (h58 : l.getD i 0 ≠ 58) (hn1 : ¬ (i = 1 ∧ l[0]? = some 58)) : ce1 l (R6out l) (i, ⟨L, gap, part⟩) := by
    subst hL
    have hL : ([] : List Int) = [] := rfl
    have hil : i ≤ l.length := hs1.1
    have hpl : part.length ≤ 15 := hs1.2.1.plen
    have hpl0 : part.length < 100 := by omega
    have hpl1 : (part ++ [l.getD i 0]).length < 100 := by rw [List.length_append]; show part.length + 1 < 100; omega
    have stop := fun (hlt : i < l.length) => rOK_stop hs1 hlt
    have next := fun (hlt : i < l.length) (y : R6) => rOK_next (z := y) b4_len hs1 hlt
    replace stop := stop hlt
    replace next := next hlt
    dsimp only [ce2, ce3, ce4, ce5, ce6, ce7, ce8, ce9, ce10, ce11, ce12, ce13, ce14, ce0, ce15, ce16, ce1, ce17]
    intro z5 hz5
    rw [xwrapi (by omega) (by omega)] at hz5
    have hz5 : z5 = ((i + 1 : Nat) : Int) := by omega
    subst hz5
    refine ⟨aSlice_bs (l := l) xu9 (by omega) (by omega) (by omega), ?_⟩
    rw [Int.toNat_natCast]
    try rw [Int.toNat_natCast]
    rw [drop_one hlt]
    refine ⟨aBin2_add_bs (l := part) (l' := [l.getD i 0]) (by show part.length + 1 < _; omega), ?_⟩
    refine (xfun_of (beg_spec (by have := hpl1; omega)) (.bool _)).call (xone (.string _)) ?_
    refine ⟨fun hb => ?_, fun hb => ?_⟩
    · refine ⟨fun hgap => ?_, fun hgap => ?_⟩
      · have hgap := of_decide_eq_true hgap
        have rr := rroom_ge (y := ⟨[], gap, part⟩) hgap
        refine ⟨rfl, ?_⟩
        refine ⟨fun hgap => ?_, fun hgap => ?_⟩
        · have hgap := of_decide_eq_true hgap
          have rr := rroom_ge (y := ⟨[], gap, part⟩) hgap
          refine (xfun_of (group_spec (by have := hpl1; omega)) (.bool _)).call (xone (.string _)) ?_
          refine ⟨fun hg => ?_, fun hg => ?_⟩
          · refine ⟨fun hgap => ?_, fun hgap => ?_⟩
            · have hgap := of_decide_eq_true hgap
              have rr := rroom_ge (y := ⟨[], gap, part⟩) hgap
              refine ⟨rfl, ?_⟩
              intro z6 hz6
              rw [xwrapi (by omega) (by omega)] at hz6
              have hz6 : z6 = ((i + 1 : Nat) : Int) := by omega
              subst hz6
              exact rx0 (y := ⟨[], gap, part ++ [l.getD i 0]⟩) (next _ (rC_yes h58 hn1 hb hg (by first | exact .inl ⟨rfl, by show 0 + _ ≤ _; omega⟩ | exact .inr ⟨rfl, by show 0 + _ ≤ _; omega, by omega⟩))) rfl hlt rfl rfl
            · have hgap := of_decide_eq_false hgap
              have rr := rroom_lt (y := ⟨[], gap, part⟩) hgap
              exfalso; omega
          · intro z6 hz6
            rw [xwrapi (by omega) (by omega)] at hz6
            have hz6 : z6 = ((i + 1 : Nat) : Int) := by omega
            subst hz6
            exact rx0 (y := ⟨[], gap, part ++ [l.getD i 0]⟩) (next _ (rC_yes h58 hn1 hb hg (by first | exact .inl ⟨rfl, by show 0 + _ ≤ _; omega⟩ | exact .inr ⟨rfl, by show 0 + _ ≤ _; omega, by omega⟩))) rfl hlt rfl rfl
        · have hgap := of_decide_eq_false hgap
          have rr := rroom_lt (y := ⟨[], gap, part⟩) hgap
          exfalso; omega
      · have hgap := of_decide_eq_false hgap
        have rr := rroom_lt (y := ⟨[], gap, part⟩) hgap
        refine ⟨rfl, ?_⟩
        refine ⟨fun hgap => ?_, fun hgap => ?_⟩
        · have hgap := of_decide_eq_true hgap
          have rr := rroom_ge (y := ⟨[], gap, part⟩) hgap
          exfalso; omega
        · have hgap := of_decide_eq_false hgap
          have rr := rroom_lt (y := ⟨[], gap, part⟩) hgap
          refine (xfun_of (group_spec (by have := hpl1; omega)) (.bool _)).call (xone (.string _)) ?_
          refine ⟨fun hg => ?_, fun hg => ?_⟩
          · refine ⟨fun hgap => ?_, fun hgap => ?_⟩
            · have hgap := of_decide_eq_true hgap
              have rr := rroom_ge (y := ⟨[], gap, part⟩) hgap
              exfalso; omega
            · have hgap := of_decide_eq_false hgap
              have rr := rroom_lt (y := ⟨[], gap, part⟩) hgap
              refine ⟨rfl, ?_⟩
              intro z6 hz6
              rw [xwrapi (by omega) (by omega)] at hz6
              have hz6 : z6 = ((i + 1 : Nat) : Int) := by omega
              subst hz6
              exact rx0 (y := ⟨[], gap, part ++ [l.getD i 0]⟩) (next _ (rC_yes h58 hn1 hb hg (by first | exact .inl ⟨rfl, by show 0 + _ ≤ _; omega⟩ | exact .inr ⟨rfl, by show 0 + _ ≤ _; omega, by omega⟩))) rfl hlt rfl rfl
          · exact out0 hL (stop (rC_no h58 hn1 hb hg (by rintro (⟨a1, a2⟩ | ⟨a1, a2, a3⟩) <;> first | exact absurd a1 (by decide) | (simp only [List.length_nil] at *; omega))))
    · refine (xfun_of (group_spec (by have := hpl1; omega)) (.bool _)).call (xone (.string _)) ?_
      refine ⟨fun hg => ?_, fun hg => ?_⟩
      · refine ⟨fun hgap => ?_, fun hgap => ?_⟩
        · have hgap := of_decide_eq_true hgap
          have rr := rroom_ge (y := ⟨[], gap, part⟩) hgap
          refine ⟨rfl, ?_⟩
          intro z6 hz6
          rw [xwrapi (by omega) (by omega)] at hz6
          have hz6 : z6 = ((i + 1 : Nat) : Int) := by omega
          subst hz6
          exact rx0 (y := ⟨[], gap, part ++ [l.getD i 0]⟩) (next _ (rC_yes h58 hn1 hb hg (by first | exact .inl ⟨rfl, by show 0 + _ ≤ _; omega⟩ | exact .inr ⟨rfl, by show 0 + _ ≤ _; omega, by omega⟩))) rfl hlt rfl rfl
        · have hgap := of_decide_eq_false hgap
          have rr := rroom_lt (y := ⟨[], gap, part⟩) hgap
          refine ⟨rfl, ?_⟩
          intro z6 hz6
          rw [xwrapi (by omega) (by omega)] at hz6
          have hz6 : z6 = ((i + 1 : Nat) : Int) := by omega
          subst hz6
          exact rx0 (y := ⟨[], gap, part ++ [l.getD i 0]⟩) (next _ (rC_yes h58 hn1 hb hg (by first | exact .inl ⟨rfl, by show 0 + _ ≤ _; omega⟩ | exact .inr ⟨rfl, by show 0 + _ ≤ _; omega, by omega⟩))) rfl hlt rfl rfl
      · exact out0 hL (stop (rC_no h58 hn1 hb hg (by rintro (⟨a1, a2⟩ | ⟨a1, a2, a3⟩) <;> first | exact absurd a1 (by decide) | (simp only [List.length_nil] at *; omega))))

set_option maxRecDepth 20000 in
theorem rdef1 {l : List UInt8} {i : Nat} {L : List Int} {gap : Int} {part : List UInt8} (hl : l.length < 2 ^ 63) (hs1 : rOK l i ⟨L, gap, part⟩) (hL : L ≠ []) (hlt : i < l.length) (h58 : l.getD i 0 ≠ 58) (hn1 : ¬ (i = 1 ∧ l[0]? = some 58)) : ce0 l (R6out l) (i, ⟨L, gap, part⟩) := by
    have hLl : L.length ≤ 7 := hs1.2.1.len
    have hL0 : 0 < L.length := List.length_pos_iff.2 hL
    have hil : i ≤ l.length := hs1.1
    have hpl : part.length ≤ 15 := hs1.2.1.plen
    have hpl0 : part.length < 100 := by omega
    have hpl1 : (part ++ [l.getD i 0]).length < 100 := by rw [List.length_append]; show part.length + 1 < 100; omega
    have stop := fun (hlt : i < l.length) => rOK_stop hs1 hlt
    have next := fun (hlt : i < l.length) (y : R6) => rOK_next (z := y) b4_len hs1 hlt
    replace stop := stop hlt
    replace next := next hlt
    dsimp only [ce2, ce3, ce4, ce5, ce6, ce7, ce8, ce9, ce10, ce11, ce12, ce13, ce14, ce0, ce15, ce16, ce1, ce17]
    intro z5 hz5
    rw [xwrapi (by omega) (by omega)] at hz5
    have hz5 : z5 = ((i + 1 : Nat) : Int) := by omega
    subst hz5
    refine ⟨aSlice_bs (l := l) xu9 (by omega) (by omega) (by omega), ?_⟩
    rw [Int.toNat_natCast]
    try rw [Int.toNat_natCast]
    rw [drop_one hlt]
    refine ⟨aBin2_add_bs (l := part) (l' := [l.getD i 0]) (by show part.length + 1 < _; omega), ?_⟩
    refine (xfun_of (beg_spec (by have := hpl1; omega)) (.bool _)).call (xone (.string _)) ?_
    refine ⟨fun hb => ?_, fun hb => ?_⟩
    · intro z6 hz6
      have hz6 : z6 = ((L.length : Nat) : Int) := hz6
      subst hz6
      intro z7 hz7
      rw [xwrapi (by omega) (by omega)] at hz7
      refine ⟨fun hgap => ?_, fun hgap => ?_⟩
      · have hgap := of_decide_eq_true hgap
        have rr := rroom_ge (y := ⟨L, gap, part⟩) hgap
        refine ⟨rfl, ?_⟩
        refine ⟨fun hd2 => ?_, fun hd2 => ?_⟩
        · have hd2 := of_decide_eq_true hd2
          refine ⟨fun hgap => ?_, fun hgap => ?_⟩
          · have hgap := of_decide_eq_true hgap
            have rr := rroom_ge (y := ⟨L, gap, part⟩) hgap
            refine (xfun_of (group_spec (by have := hpl1; omega)) (.bool _)).call (xone (.string _)) ?_
            refine ⟨fun hg => ?_, fun hg => ?_⟩
            · intro z8 hz8
              have hz8 : z8 = ((L.length : Nat) : Int) := hz8
              subst hz8
              intro z9 hz9
              rw [xwrapi (by omega) (by omega)] at hz9
              refine ⟨fun hgap => ?_, fun hgap => ?_⟩
              · have hgap := of_decide_eq_true hgap
                have rr := rroom_ge (y := ⟨L, gap, part⟩) hgap
                refine ⟨rfl, ?_⟩
                refine ⟨fun hd5 => ?_, fun hd5 => ?_⟩
                · have hd5 := of_decide_eq_true hd5
                  intro z10 hz10
                  rw [xwrapi (by omega) (by omega)] at hz10
                  have hz10 : z10 = ((i + 1 : Nat) : Int) := by omega
                  subst hz10
                  exact rx1 (y := ⟨L, gap, part ++ [l.getD i 0]⟩) (b := 2) (next _ (rC_yes h58 hn1 hb hg (by first | exact .inl ⟨rfl, by omega⟩ | exact .inr ⟨rfl, by omega, by omega⟩))) hL hlt rfl (by decide) rfl rfl rfl
                · have hd5 := of_decide_eq_false hd5
                  intro z10 hz10
                  rw [xwrapi (by omega) (by omega)] at hz10
                  have hz10 : z10 = ((i + 1 : Nat) : Int) := by omega
                  subst hz10
                  exact rx1 (y := ⟨L, gap, part ++ [l.getD i 0]⟩) (b := 2) (next _ (rC_yes h58 hn1 hb hg (by first | exact .inl ⟨rfl, by omega⟩ | exact .inr ⟨rfl, by omega, by omega⟩))) hL hlt rfl (by decide) rfl rfl rfl
              · have hgap := of_decide_eq_false hgap
                have rr := rroom_lt (y := ⟨L, gap, part⟩) hgap
                exfalso; omega
            · intro z8 hz8
              rw [xwrapi (by omega) (by omega)] at hz8
              have hz8 : z8 = ((i + 1 : Nat) : Int) := by omega
              subst hz8
              exact rx1 (y := ⟨L, gap, part ++ [l.getD i 0]⟩) (b := 2) (next _ (rC_yes h58 hn1 hb hg (by first | exact .inl ⟨rfl, by omega⟩ | exact .inr ⟨rfl, by omega, by omega⟩))) hL hlt rfl (by decide) rfl rfl rfl
          · have hgap := of_decide_eq_false hgap
            have rr := rroom_lt (y := ⟨L, gap, part⟩) hgap
            exfalso; omega
        · have hd2 := of_decide_eq_false hd2
          refine (xfun_of (group_spec (by have := hpl1; omega)) (.bool _)).call (xone (.string _)) ?_
          refine ⟨fun hg => ?_, fun hg => ?_⟩
          · intro z8 hz8
            have hz8 : z8 = ((L.length : Nat) : Int) := hz8
            subst hz8
            intro z9 hz9
            rw [xwrapi (by omega) (by omega)] at hz9
            refine ⟨fun hgap => ?_, fun hgap => ?_⟩
            · have hgap := of_decide_eq_true hgap
              have rr := rroom_ge (y := ⟨L, gap, part⟩) hgap
              refine ⟨rfl, ?_⟩
              refine ⟨fun hd4 => ?_, fun hd4 => ?_⟩
              · have hd4 := of_decide_eq_true hd4
                intro z10 hz10
                rw [xwrapi (by omega) (by omega)] at hz10
                have hz10 : z10 = ((i + 1 : Nat) : Int) := by omega
                subst hz10
                exact rx1 (y := ⟨L, gap, part ++ [l.getD i 0]⟩) (b := 2) (next _ (rC_yes h58 hn1 hb hg (by first | exact .inl ⟨rfl, by omega⟩ | exact .inr ⟨rfl, by omega, by omega⟩))) hL hlt rfl (by decide) rfl rfl rfl
              · have hd4 := of_decide_eq_false hd4
                exact out1 hL (stop (rC_no h58 hn1 hb hg (by rintro (⟨a1, a2⟩ | ⟨a1, a2, a3⟩) <;> first | exact absurd a1 (by decide) | (omega))))
            · have hgap := of_decide_eq_false hgap
              have rr := rroom_lt (y := ⟨L, gap, part⟩) hgap
              exfalso; omega
          · exact out1 hL (stop (rC_no h58 hn1 hb hg (by rintro (⟨a1, a2⟩ | ⟨a1, a2, a3⟩) <;> first | exact absurd a1 (by decide) | (omega))))
      · have hgap := of_decide_eq_false hgap
        have rr := rroom_lt (y := ⟨L, gap, part⟩) hgap
        refine ⟨rfl, ?_⟩
        refine ⟨fun hd2 => ?_, fun hd2 => ?_⟩
        · have hd2 := of_decide_eq_true hd2
          refine ⟨fun hgap => ?_, fun hgap => ?_⟩
          · have hgap := of_decide_eq_true hgap
            have rr := rroom_ge (y := ⟨L, gap, part⟩) hgap
            exfalso; omega
          · have hgap := of_decide_eq_false hgap
            have rr := rroom_lt (y := ⟨L, gap, part⟩) hgap
            intro z8 hz8
            have hz8 : z8 = ((L.length : Nat) : Int) := hz8
            subst hz8
            refine ⟨fun h6 => ?_, fun h6 => ?_⟩
            · have h6 : L.length = 6 := six_t h6
              refine (xfun_of (group_spec (by have := hpl1; omega)) (.bool _)).call (xone (.string _)) ?_
              refine ⟨fun hg => ?_, fun hg => ?_⟩
              · intro z9 hz9
                have hz9 : z9 = ((L.length : Nat) : Int) := hz9
                subst hz9
                intro z10 hz10
                rw [xwrapi (by omega) (by omega)] at hz10
                refine ⟨fun hgap => ?_, fun hgap => ?_⟩
                · have hgap := of_decide_eq_true hgap
                  have rr := rroom_ge (y := ⟨L, gap, part⟩) hgap
                  exfalso; omega
                · have hgap := of_decide_eq_false hgap
                  have rr := rroom_lt (y := ⟨L, gap, part⟩) hgap
                  refine ⟨rfl, ?_⟩
                  refine ⟨fun hd5 => ?_, fun hd5 => ?_⟩
                  · have hd5 := of_decide_eq_true hd5
                    intro z10 hz10
                    rw [xwrapi (by omega) (by omega)] at hz10
                    have hz10 : z10 = ((i + 1 : Nat) : Int) := by omega
                    subst hz10
                    exact rx1 (y := ⟨L, gap, part ++ [l.getD i 0]⟩) (b := 2) (next _ (rC_yes h58 hn1 hb hg (by first | exact .inl ⟨rfl, by omega⟩ | exact .inr ⟨rfl, by omega, by omega⟩))) hL hlt rfl (by decide) rfl rfl rfl
                  · have hd5 := of_decide_eq_false hd5
                    intro z10 hz10
                    rw [xwrapi (by omega) (by omega)] at hz10
                    have hz10 : z10 = ((i + 1 : Nat) : Int) := by omega
                    subst hz10
                    exact rx1 (y := ⟨L, gap, part ++ [l.getD i 0]⟩) (b := 2) (next _ (rC_yes h58 hn1 hb hg (by first | exact .inl ⟨rfl, by omega⟩ | exact .inr ⟨rfl, by omega, by omega⟩))) hL hlt rfl (by decide) rfl rfl rfl
              · intro z8 hz8
                rw [xwrapi (by omega) (by omega)] at hz8
                have hz8 : z8 = ((i + 1 : Nat) : Int) := by omega
                subst hz8
                exact rx1 (y := ⟨L, gap, part ++ [l.getD i 0]⟩) (b := 2) (next _ (rC_yes h58 hn1 hb hg (by first | exact .inl ⟨rfl, by omega⟩ | exact .inr ⟨rfl, by omega, by omega⟩))) hL hlt rfl (by decide) rfl rfl rfl
            · have h6 : L.length ≠ 6 := six_f h6
              refine (xfun_of (group_spec (by have := hpl1; omega)) (.bool _)).call (xone (.string _)) ?_
              refine ⟨fun hg => ?_, fun hg => ?_⟩
              · intro z9 hz9
                have hz9 : z9 = ((L.length : Nat) : Int) := hz9
                subst hz9
                intro z10 hz10
                rw [xwrapi (by omega) (by omega)] at hz10
                refine ⟨fun hgap => ?_, fun hgap => ?_⟩
                · have hgap := of_decide_eq_true hgap
                  have rr := rroom_ge (y := ⟨L, gap, part⟩) hgap
                  exfalso; omega
                · have hgap := of_decide_eq_false hgap
                  have rr := rroom_lt (y := ⟨L, gap, part⟩) hgap
                  refine ⟨rfl, ?_⟩
                  refine ⟨fun hd5 => ?_, fun hd5 => ?_⟩
                  · have hd5 := of_decide_eq_true hd5
                    intro z10 hz10
                    rw [xwrapi (by omega) (by omega)] at hz10
                    have hz10 : z10 = ((i + 1 : Nat) : Int) := by omega
                    subst hz10
                    exact rx1 (y := ⟨L, gap, part ++ [l.getD i 0]⟩) (b := 2) (next _ (rC_yes h58 hn1 hb hg (by first | exact .inl ⟨rfl, by omega⟩ | exact .inr ⟨rfl, by omega, by omega⟩))) hL hlt rfl (by decide) rfl rfl rfl
                  · have hd5 := of_decide_eq_false hd5
                    exact out1 hL (stop (rC_no h58 hn1 hb hg (by rintro (⟨a1, a2⟩ | ⟨a1, a2, a3⟩) <;> first | exact absurd a1 (by decide) | (omega))))
              · exact out1 hL (stop (rC_no h58 hn1 hb hg (by rintro (⟨a1, a2⟩ | ⟨a1, a2, a3⟩) <;> first | exact absurd a1 (by decide) | (omega))))
        · have hd2 := of_decide_eq_false hd2
          refine (xfun_of (group_spec (by have := hpl1; omega)) (.bool _)).call (xone (.string _)) ?_
          refine ⟨fun hg => ?_, fun hg => ?_⟩
          · intro z9 hz9
            have hz9 : z9 = ((L.length : Nat) : Int) := hz9
            subst hz9
            intro z10 hz10
            rw [xwrapi (by omega) (by omega)] at hz10
            refine ⟨fun hgap => ?_, fun hgap => ?_⟩
            · have hgap := of_decide_eq_true hgap
              have rr := rroom_ge (y := ⟨L, gap, part⟩) hgap
              exfalso; omega
            · have hgap := of_decide_eq_false hgap
              have rr := rroom_lt (y := ⟨L, gap, part⟩) hgap
              refine ⟨rfl, ?_⟩
              refine ⟨fun hd4 => ?_, fun hd4 => ?_⟩
              · have hd4 := of_decide_eq_true hd4
                intro z10 hz10
                rw [xwrapi (by omega) (by omega)] at hz10
                have hz10 : z10 = ((i + 1 : Nat) : Int) := by omega
                subst hz10
                exact rx1 (y := ⟨L, gap, part ++ [l.getD i 0]⟩) (b := 2) (next _ (rC_yes h58 hn1 hb hg (by first | exact .inl ⟨rfl, by omega⟩ | exact .inr ⟨rfl, by omega, by omega⟩))) hL hlt rfl (by decide) rfl rfl rfl
              · have hd4 := of_decide_eq_false hd4
                exact out1 hL (stop (rC_no h58 hn1 hb hg (by rintro (⟨a1, a2⟩ | ⟨a1, a2, a3⟩) <;> first | exact absurd a1 (by decide) | (omega))))
          · exact out1 hL (stop (rC_no h58 hn1 hb hg (by rintro (⟨a1, a2⟩ | ⟨a1, a2, a3⟩) <;> first | exact absurd a1 (by decide) | (omega))))
    · refine (xfun_of (group_spec (by have := hpl1; omega)) (.bool _)).call (xone (.string _)) ?_
      refine ⟨fun hg => ?_, fun hg => ?_⟩
      · intro z6 hz6
        have hz6 : z6 = ((L.length : Nat) : Int) := hz6
        subst hz6
        intro z7 hz7
        rw [xwrapi (by omega) (by omega)] at hz7
        refine ⟨fun hgap => ?_, fun hgap => ?_⟩
        · have hgap := of_decide_eq_true hgap
          have rr := rroom_ge (y := ⟨L, gap, part⟩) hgap
          refine ⟨rfl, ?_⟩
          refine ⟨fun hd2 => ?_, fun hd2 => ?_⟩
          · have hd2 := of_decide_eq_true hd2
            intro z8 hz8
            rw [xwrapi (by omega) (by omega)] at hz8
            have hz8 : z8 = ((i + 1 : Nat) : Int) := by omega
            subst hz8
            exact rx1 (y := ⟨L, gap, part ++ [l.getD i 0]⟩) (b := 2) (next _ (rC_yes h58 hn1 hb hg (by first | exact .inl ⟨rfl, by omega⟩ | exact .inr ⟨rfl, by omega, by omega⟩))) hL hlt rfl (by decide) rfl rfl rfl
          · have hd2 := of_decide_eq_false hd2
            exact out1 hL (stop (rC_no h58 hn1 hb hg (by rintro (⟨a1, a2⟩ | ⟨a1, a2, a3⟩) <;> first | exact absurd a1 (by decide) | (omega))))
        · have hgap := of_decide_eq_false hgap
          have rr := rroom_lt (y := ⟨L, gap, part⟩) hgap
          refine ⟨rfl, ?_⟩
          refine ⟨fun hd2 => ?_, fun hd2 => ?_⟩
          · have hd2 := of_decide_eq_true hd2
            intro z8 hz8
            rw [xwrapi (by omega) (by omega)] at hz8
            have hz8 : z8 = ((i + 1 : Nat) : Int) := by omega
            subst hz8
            exact rx1 (y := ⟨L, gap, part ++ [l.getD i 0]⟩) (b := 2) (next _ (rC_yes h58 hn1 hb hg (by first | exact .inl ⟨rfl, by omega⟩ | exact .inr ⟨rfl, by omega, by omega⟩))) hL hlt rfl (by decide) rfl rfl rfl
          · have hd2 := of_decide_eq_false hd2
            exact out1 hL (stop (rC_no h58 hn1 hb hg (by rintro (⟨a1, a2⟩ | ⟨a1, a2, a3⟩) <;> first | exact absurd a1 (by decide) | (omega))))
      · exact out1 hL (stop (rC_no h58 hn1 hb hg (by rintro (⟨a1, a2⟩ | ⟨a1, a2, a3⟩) <;> first | exact absurd a1 (by decide) | (omega))))

set_option maxRecDepth 20000 in
theorem read6_spec {l : List UInt8} (hl : l.length < 2 ^ 63) : Fm.Spec Tryd.prog [] 60 [.string (bs l)] [] (R6out l) := by
  refine xspec (run_read6 l (R6out l)) ?_
  refine ⟨someN_mk 0 rfl ⟨(0, .init), ⟨rOK_init l, rfl⟩, trivial, Gc.ren [0, 1] (by decide) rfl rfl rfl ⟨⟨_, rfl, ro_flat rfl⟩, ⟨_, rfl, ro_flat rfl⟩, trivial⟩ ⟨⟨_, rfl, .int _ _⟩, ⟨_, rfl, .ptr _ _ rfl⟩, ⟨_, rfl, .int _ _⟩, ⟨_, rfl, .ptr _ _ rfl⟩, ⟨_, rfl, .string _⟩, trivial⟩ rfl⟩, ?_⟩
  refine ⟨fun s hs => ?_, fun s hs => ?_⟩
  · obtain ⟨i, L, gap, part⟩ := s
    obtain ⟨hs1, hL⟩ := hs
    have hs1 : rOK l i ⟨L, gap, part⟩ := hs1
    have hL : L = [] := hL
    subst hL
    have hL : ([] : List Int) = [] := rfl
    have hil : i ≤ l.length := hs1.1
    have hpl : part.length ≤ 15 := hs1.2.1.plen
    have hpl0 : part.length < 100 := by omega
    have hpl1 : (part ++ [l.getD i 0]).length < 100 := by rw [List.length_append]; show part.length + 1 < 100; omega
    have stop := fun (hlt : i < l.length) => rOK_stop hs1 hlt
    have next := fun (hlt : i < l.length) (y : R6) => rOK_next (z := y) b4_len hs1 hlt
    dsimp only [ce2, ce3, ce4, ce5, ce6, ce7, ce8, ce9, ce10, ce11, ce12, ce13, ce14, ce15, ce16, ce17]
    intro z2 hz2
    have hz2 : z2 = ((l.length : Nat) : Int) := hz2
    subst hz2
    refine ⟨fun hd0 => ?_, fun hd0 => ?_⟩
    · have hd0 := of_decide_eq_true hd0
      have hlt : i < l.length := by omega
      replace stop := stop hlt
      replace next := next hlt
      refine xstep (aIndex_bs (l := l) (i := ((i : Nat) : Int)) xu9 (by omega) (by omega)) ?_
      rw [Int.toNat_natCast]
      refine ⟨fun h58 => ?_, fun h58 => ?_⟩
      · have h58 : l.getD i 0 = 58 := of58 h58
        refine ⟨fun hp => ?_, fun hp => ?_⟩
        · have hp : part = [] := toL_nil hp
          subst hp
          refine ⟨fun hi0 => ?_, fun hi0 => ?_⟩
          · have hi0 : i = 0 := gap0 hi0
            refine ⟨fun hd1 => ?_, fun hd1 => ?_⟩
            · have hd1 := of_decide_eq_true hd1
              exfalso; omega
            · have hd1 := of_decide_eq_false hd1
              intro z6 hz6
              rw [xwrapi (by omega) (by omega)] at hz6
              have hz6 : z6 = ((i + 1 : Nat) : Int) := by omega
              subst hz6
              rw [h58] at next
              exact rx0 (y := ⟨[], gap, []⟩) (next _ (rA_first hi0)) rfl hlt rfl rfl
          · have hi0 : i ≠ 0 := gap1 hi0
            refine ⟨fun hd1 => ?_, fun hd1 => ?_⟩
            · have hd1 := of_decide_eq_true hd1
              intro z4 hz4
              rw [xwrapi (by omega) (by omega)] at hz4
              have hz4 : z4 = ((i - 1 : Nat) : Int) := by omega
              subst hz4
              refine xstep (aIndex_bs (l := l) (i := ((i - 1 : Nat) : Int)) xu9 (by omega) (by omega)) ?_
              rw [Int.toNat_natCast]
              refine ⟨fun hq => ?_, fun hq => ?_⟩
              · have hq := of58 hq
                refine ⟨fun hgap => ?_, fun hgap => ?_⟩
                · have hgap := of_decide_eq_true hgap
                  intro z6 hz6
                  rw [xwrapi (by omega) (by omega)] at hz6
                  have hz6 : z6 = ((i + 1 : Nat) : Int) := by omega
                  subst hz6
                  rw [h58] at next
                  exact rx0 (y := ⟨[], ([].length : Nat), []⟩) (next _ (rA_sec (by omega) (by rw [getD_some (by omega), hq]) hgap (by first | omega | decide))) rfl hlt rfl rfl
                · have hgap := of_decide_eq_false hgap
                  rw [h58] at stop
                  exact out0 hL (stop (rA_no hi0 (by rintro ⟨a1, a2, a3⟩; first | omega | (rw [getD_some (by omega)] at a1; exact hq (Option.some.inj a1)))))
              · have hq := not58 hq
                rw [h58] at stop
                exact out0 hL (stop (rA_no hi0 (by rintro ⟨a1, a2, a3⟩; first | omega | (rw [getD_some (by omega)] at a1; exact hq (Option.some.inj a1)))))
            · have hd1 := of_decide_eq_false hd1
              exfalso; omega
        · have hp : part ≠ [] := toL_not hp
          refine ⟨fun h58b => ?_, fun h58b => ?_⟩
          · skip
            refine (xfun_of (group_spec (by have := hpl0; omega)) (.bool _)).call (xone (.string _)) ?_
            refine ⟨fun hg => ?_, fun hg => ?_⟩
            · have hg := not_true hg
              rw [h58] at stop
              exact out0 hL (stop (rB_no1 hp hg))
            · have hg := not_false' hg
              refine ⟨fun hgap => ?_, fun hgap => ?_⟩
              · have hgap := of_decide_eq_true hgap
                have rr := rroom_ge (y := ⟨[], gap, part⟩) hgap
                refine ⟨rfl, ?_⟩
                refine (xfun_of (rvalue_spec (grp_iff.1 hg).1 (grp_iff.1 hg).2.2) (.int _ _)).call (xone (.string _)) ?_
                refine ⟨rfl, ?_⟩
                intro z4 hz4
                rw [xwrapi (by omega) (by omega)] at hz4
                have hz4 : z4 = ((i + 1 : Nat) : Int) := by omega
                subst hz4
                rw [h58] at next
                exact rx1 (y := ⟨[valH part], gap, []⟩) (b := 4) (next _ (rB_yes (L := []) hp hg (by show ¬ rroom _ ≤ 0 + 1; omega))) (by simp) hlt rfl (by decide) rfl rfl rfl
              · have hgap := of_decide_eq_false hgap
                have rr := rroom_lt (y := ⟨[], gap, part⟩) hgap
                refine ⟨rfl, ?_⟩
                refine (xfun_of (rvalue_spec (grp_iff.1 hg).1 (grp_iff.1 hg).2.2) (.int _ _)).call (xone (.string _)) ?_
                refine ⟨rfl, ?_⟩
                intro z4 hz4
                rw [xwrapi (by omega) (by omega)] at hz4
                have hz4 : z4 = ((i + 1 : Nat) : Int) := by omega
                subst hz4
                rw [h58] at next
                exact rx1 (y := ⟨[valH part], gap, []⟩) (b := 4) (next _ (rB_yes (L := []) hp hg (by show ¬ rroom _ ≤ 0 + 1; omega))) (by simp) hlt rfl (by decide) rfl rfl rfl
          · skip
            rw [h58] at h58b; exact absurd h58b (by decide)
      · have h58 : l.getD i 0 ≠ 58 := not58 h58
        refine ⟨fun h58b => ?_, fun h58b => ?_⟩
        · skip
          exact absurd (of58 h58b) h58
        · skip
          refine ⟨fun hi1 => ?_, fun hi1 => ?_⟩
          · have hi1 : i = 1 := one_t hi1
            refine xstep (aIndex_bs (l := l) (i := 0) xu9 (by omega) (by omega)) ?_
            rw [Int.toNat_zero]
            refine ⟨fun hq => ?_, fun hq => ?_⟩
            · have hq := of58 hq
              exact out0 hL (stop (rC_no1 h58 hi1 (by rw [getD_some (by omega), hq])))
            · have hq := not58 hq
              have hn1 : ¬ (i = 1 ∧ l[0]? = some 58) := fun e => hq (by have e2 := e.2; rw [getD_some (by omega)] at e2; exact Option.some.inj e2)
              exact rdef0 hl hs1 hL hlt h58 hn1
          · have hi1 : i ≠ 1 := one_f hi1; have hn1 : ¬ (i = 1 ∧ l[0]? = some 58) := fun e => hi1 e.1
            exact rdef0 hl hs1 hL hlt h58 hn1
    · have hd0 := of_decide_eq_false hd0
      exact out0 hL (rOK_end hs1 (by omega))
  · obtain ⟨i, L, gap, part⟩ := s
    obtain ⟨hs1, hL⟩ := hs
    have hs1 : rOK l i ⟨L, gap, part⟩ := hs1
    have hL : L ≠ [] := hL
    have hLl : L.length ≤ 7 := hs1.2.1.len
    have hL0 : 0 < L.length := List.length_pos_iff.2 hL
    have hil : i ≤ l.length := hs1.1
    have hpl : part.length ≤ 15 := hs1.2.1.plen
    have hpl0 : part.length < 100 := by omega
    have hpl1 : (part ++ [l.getD i 0]).length < 100 := by rw [List.length_append]; show part.length + 1 < 100; omega
    have stop := fun (hlt : i < l.length) => rOK_stop hs1 hlt
    have next := fun (hlt : i < l.length) (y : R6) => rOK_next (z := y) b4_len hs1 hlt
    dsimp only [ce2, ce3, ce4, ce5, ce6, ce7, ce8, ce9, ce10, ce11, ce12, ce13, ce14, ce15, ce16, ce17]
    intro z2 hz2
    have hz2 : z2 = ((l.length : Nat) : Int) := hz2
    subst hz2
    refine ⟨fun hd0 => ?_, fun hd0 => ?_⟩
    · have hd0 := of_decide_eq_true hd0
      have hlt : i < l.length := by omega
      replace stop := stop hlt
      replace next := next hlt
      refine xstep (aIndex_bs (l := l) (i := ((i : Nat) : Int)) xu9 (by omega) (by omega)) ?_
      rw [Int.toNat_natCast]
      refine ⟨fun h58 => ?_, fun h58 => ?_⟩
      · have h58 : l.getD i 0 = 58 := of58 h58
        refine ⟨fun hp => ?_, fun hp => ?_⟩
        · have hp : part = [] := toL_nil hp
          subst hp
          refine ⟨fun hi0 => ?_, fun hi0 => ?_⟩
          · have hi0 : i = 0 := gap0 hi0
            refine ⟨fun hd1 => ?_, fun hd1 => ?_⟩
            · have hd1 := of_decide_eq_true hd1
              exfalso; omega
            · have hd1 := of_decide_eq_false hd1
              intro z7 hz7
              rw [xwrapi (by omega) (by omega)] at hz7
              have hz7 : z7 = ((i + 1 : Nat) : Int) := by omega
              subst hz7
              rw [h58] at next
              exact rx1 (y := ⟨L, gap, []⟩) (b := 2) (next _ (rA_first hi0)) hL hlt rfl (by decide) rfl rfl rfl
          · have hi0 : i ≠ 0 := gap1 hi0
            refine ⟨fun hd1 => ?_, fun hd1 => ?_⟩
            · have hd1 := of_decide_eq_true hd1
              intro z4 hz4
              rw [xwrapi (by omega) (by omega)] at hz4
              have hz4 : z4 = ((i - 1 : Nat) : Int) := by omega
              subst hz4
              refine xstep (aIndex_bs (l := l) (i := ((i - 1 : Nat) : Int)) xu9 (by omega) (by omega)) ?_
              rw [Int.toNat_natCast]
              refine ⟨fun hq => ?_, fun hq => ?_⟩
              · have hq := of58 hq
                refine ⟨fun hgap => ?_, fun hgap => ?_⟩
                · have hgap := of_decide_eq_true hgap
                  intro z6 hz6
                  have hz6 : z6 = ((L.length : Nat) : Int) := hz6
                  subst hz6
                  refine ⟨fun hd3 => ?_, fun hd3 => ?_⟩
                  · have hd3 := of_decide_eq_true hd3
                    intro z7 hz7
                    have hz7 : z7 = ((L.length : Nat) : Int) := hz7
                    subst hz7
                    intro z8 hz8
                    rw [xwrapi (by omega) (by omega)] at hz8
                    have hz8 : z8 = ((i + 1 : Nat) : Int) := by omega
                    subst hz8
                    rw [h58] at next
                    exact rx1 (y := ⟨L, (L.length : Nat), []⟩) (b := 2) (next _ (rA_sec (by omega) (by rw [getD_some (by omega), hq]) hgap (by first | omega | decide))) hL hlt rfl (by decide) rfl rfl rfl
                  · have hd3 := of_decide_eq_false hd3
                    rw [h58] at stop
                    exact out1 hL (stop (rA_no hi0 (by rintro ⟨a1, a2, a3⟩; first | omega | (rw [getD_some (by omega)] at a1; exact hq (Option.some.inj a1)))))
                · have hgap := of_decide_eq_false hgap
                  rw [h58] at stop
                  exact out1 hL (stop (rA_no hi0 (by rintro ⟨a1, a2, a3⟩; first | omega | (rw [getD_some (by omega)] at a1; exact hq (Option.some.inj a1)))))
              · have hq := not58 hq
                rw [h58] at stop
                exact out1 hL (stop (rA_no hi0 (by rintro ⟨a1, a2, a3⟩; first | omega | (rw [getD_some (by omega)] at a1; exact hq (Option.some.inj a1)))))
            · have hd1 := of_decide_eq_false hd1
              exfalso; omega
        · have hp : part ≠ [] := toL_not hp
          refine ⟨fun h58b => ?_, fun h58b => ?_⟩
          · skip
            refine (xfun_of (group_spec (by have := hpl0; omega)) (.bool _)).call (xone (.string _)) ?_
            refine ⟨fun hg => ?_, fun hg => ?_⟩
            · have hg := not_true hg
              rw [h58] at stop
              exact out1 hL (stop (rB_no1 hp hg))
            · have hg := not_false' hg
              intro z4 hz4
              have hz4 : z4 = ((L.length : Nat) : Int) := hz4
              subst hz4
              intro z5 hz5
              rw [xwrapi (by omega) (by omega)] at hz5
              refine ⟨fun hgap => ?_, fun hgap => ?_⟩
              · have hgap := of_decide_eq_true hgap
                have rr := rroom_ge (y := ⟨L, gap, part⟩) hgap
                refine ⟨rfl, ?_⟩
                refine ⟨fun hd2 => ?_, fun hd2 => ?_⟩
                · have hd2 := of_decide_eq_true hd2
                  rw [h58] at stop
                  exact out1 hL (stop (rB_no2 hp (by show rroom ⟨L, gap, part⟩ ≤ L.length + 1; omega)))
                · have hd2 := of_decide_eq_false hd2
                  refine (xfun_of (rvalue_spec (grp_iff.1 hg).1 (grp_iff.1 hg).2.2) (.int _ _)).call (xone (.string _)) ?_
                  refine ⟨rfl, ?_⟩
                  refine ⟨xapp_ic (l := [valH part]) (m := L) (b := 2) rfl rfl (by simp) (by show L.length + 1 ≤ _; omega), ?_⟩
                  have e : L.length + 1 = (L ++ [valH part]).length := by rw [List.length_append]; rfl
                  rw [e]
                  intro z6 hz6
                  rw [xwrapi (by omega) (by omega)] at hz6
                  have hz6 : z6 = ((i + 1 : Nat) : Int) := by omega
                  subst hz6
                  rw [h58] at next
                  exact rx1 (y := ⟨(L ++ [valH part]), gap, []⟩) (b := 5) (next _ (rB_yes hp hg (by omega))) (by simp) hlt rfl (by decide) rfl rfl rfl
              · have hgap := of_decide_eq_false hgap
                have rr := rroom_lt (y := ⟨L, gap, part⟩) hgap
                refine ⟨rfl, ?_⟩
                refine ⟨fun hd2 => ?_, fun hd2 => ?_⟩
                · have hd2 := of_decide_eq_true hd2
                  rw [h58] at stop
                  exact out1 hL (stop (rB_no2 hp (by show rroom ⟨L, gap, part⟩ ≤ L.length + 1; omega)))
                · have hd2 := of_decide_eq_false hd2
                  refine (xfun_of (rvalue_spec (grp_iff.1 hg).1 (grp_iff.1 hg).2.2) (.int _ _)).call (xone (.string _)) ?_
                  refine ⟨rfl, ?_⟩
                  refine ⟨xapp_ic (l := [valH part]) (m := L) (b := 2) rfl rfl (by simp) (by show L.length + 1 ≤ _; omega), ?_⟩
                  have e : L.length + 1 = (L ++ [valH part]).length := by rw [List.length_append]; rfl
                  rw [e]
                  intro z6 hz6
                  rw [xwrapi (by omega) (by omega)] at hz6
                  have hz6 : z6 = ((i + 1 : Nat) : Int) := by omega
                  subst hz6
                  rw [h58] at next
                  exact rx1 (y := ⟨(L ++ [valH part]), gap, []⟩) (b := 5) (next _ (rB_yes hp hg (by omega))) (by simp) hlt rfl (by decide) rfl rfl rfl
          · skip
            rw [h58] at h58b; exact absurd h58b (by decide)
      · have h58 : l.getD i 0 ≠ 58 := not58 h58
        refine ⟨fun h58b => ?_, fun h58b => ?_⟩
        · skip
          exact absurd (of58 h58b) h58
        · skip
          refine ⟨fun hi1 => ?_, fun hi1 => ?_⟩
          · have hi1 : i = 1 := one_t hi1
            refine xstep (aIndex_bs (l := l) (i := 0) xu9 (by omega) (by omega)) ?_
            rw [Int.toNat_zero]
            refine ⟨fun hq => ?_, fun hq => ?_⟩
            · have hq := of58 hq
              exact out1 hL (stop (rC_no1 h58 hi1 (by rw [getD_some (by omega), hq])))
            · have hq := not58 hq
              have hn1 : ¬ (i = 1 ∧ l[0]? = some 58) := fun e => hq (by have e2 := e.2; rw [getD_some (by omega)] at e2; exact Option.some.inj e2)
              exact rdef1 hl hs1 hL hlt h58 hn1
          · have hi1 : i ≠ 1 := one_f hi1; have hn1 : ¬ (i = 1 ∧ l[0]? = some 58) := fun e => hi1 e.1
            exact rdef1 hl hs1 hL hlt h58 hn1
    · have hd0 := of_decide_eq_false hd0
      exact out1 hL (rOK_end hs1 (by omega))

end Go.Proofs.YtopladipgobpjaaDoor
