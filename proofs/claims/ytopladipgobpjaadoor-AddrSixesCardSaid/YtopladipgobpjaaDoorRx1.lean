/-
  The reference's worth, group and value: their contracts. Conditions: worth: a byte; group: the text's length is below 2^63; value: at most four digits.
-/
import Derived.Test.YtopladipgobpjaaDoorSix1
namespace Go.Proofs.YtopladipgobpjaaDoor
open Go.Fm

def q6g (l : List UInt8) (i : Nat) : Prop × St := (i ≤ l.length ∧ ∀ c ∈ l.take i, 0 ≤ hx c,
  ⟨[(3, .int .i64 i), (2, .bool false), (0, .string (bs l))], [], [], .norm⟩)
def m6g (l : List UInt8) (i : Nat) : Nat := l.length - i
def qw (l : List UInt8) (i : Nat) : Prop × St := (i ≤ l.length,
  ⟨[(4, .int .i64 i), (3, .int .i64 (valH (l.take i))), (2, .int .i64 0), (0, .string (bs l))], [], [], .norm⟩)

abbrev xRx1s0 : Scr := .skip 4 (.ask (.skip 4 (.all (fun _z1 => .skip 0 (.all (fun _z2 => .skip 0 (.all (fun _z3 => .go))))))) (.go))
abbrev xRx1s1 : Scr := .skip 4 (.ask (.skip 4 (.all (fun _z1 => .skip 0 (.all (fun _z2 => .skip 0 (.all (fun _z3 => .go))))))) (.skip 4 (.ask xRx1s0 (.go))))

abbrev xef0 (c : Int) (Q : Res →
 Prop) : Prop := ((decide (c ≥ 65)) = true →
(((decide (c ≤ 70)) = true →
∀ z1 : Int, z1 = (IntKind.u8.wrap (c - 65)) →
∀ z2 : Int, z2 = (IntKind.i64.wrap z1) →
∀ z3 : Int, z3 = (IntKind.i64.wrap (z2 + 10)) →
 Q (.ret (.int .i64 z3))) ∧
((decide (c ≤ 70)) = false →
 Q (.ret (.int .i64 (-1)))))) ∧
((decide (c ≥ 65)) = false →
 Q (.ret (.int .i64 (-1))))
abbrev xef1 (z3 : Int) : Prop := SpecC Tryd.prog [] (.fn 104) [(.int .u8 z3)] [] (fun r h' => ∃ ia, ((fun _ : Unit => (True, Res.ret (.int .i64 (hxI z3)), ([] : AHeap))) ia).1 ∧
 r = ((fun _ : Unit => (True, Res.ret (.int .i64 (hxI z3)), ([] : AHeap))) ia).2.1 ∧
 h' = ((fun _ : Unit => (True, Res.ret (.int .i64 (hxI z3)), ([] : AHeap))) ia).2.2)
abbrev xef2 (c : Int) (Q : Res →
 Prop) : Prop := ((decide (c ≥ 97)) = true →
(((decide (c ≤ 102)) = true →
∀ z1 : Int, z1 = (IntKind.u8.wrap (c - 97)) →
∀ z2 : Int, z2 = (IntKind.i64.wrap z1) →
∀ z3 : Int, z3 = (IntKind.i64.wrap (z2 + 10)) →
 Q (.ret (.int .i64 z3))) ∧
((decide (c ≤ 102)) = false →
((xef0 c Q))))) ∧
((decide (c ≥ 97)) = false →
((xef0 c Q)))

theorem run_worth (c : Int) (Q : Res → Prop) : ((((decide (c ≥ 48)) = true →
(((decide (c ≤ 57)) = true →
∀ z1 : Int, z1 = (IntKind.u8.wrap (c - 48)) →
∀ z2 : Int, z2 = (IntKind.i64.wrap z1) →
 Q (.ret (.int .i64 z2))) ∧
((decide (c ≤ 57)) = false →
((xef2 c Q))))) ∧
((decide (c ≥ 48)) = false →
((xef2 c Q))))) =
    runS Tryd.prog [] false [] 0 (SpecC Tryd.prog []) 20 104 [.int .u8 c] [] .norm (.skip 5 (.ask (.skip 4 (.ask (.skip 5 (.all (fun _z1 => .skip 0 (.all (fun _z2 => .go))))) (.skip 5 (.ask xRx1s1 (.skip 7 (.ask xRx1s0 (.go))))))) (.skip 8 (.ask xRx1s1 (.skip 7 (.ask xRx1s0 (.go))))))) (fun r _ _ _ => Q r) := by kernel_rfl
theorem run_group (l : List UInt8) (Q : Res → Prop) : (((∃ ia, ((q6g l ia).fst) ∧
 Gc [] 0 ⟨[(3, (.int .i64 0)), (2, (.bool false)), (0, (.string (bs (l))))], [], [], .norm⟩ ((q6g l ia).snd)) ∧
∀ i1, (q6g l i1).fst →
∀ z2 : Int, z2 = ((((bs l).size : Nat) : Int)) →
(((decide (((i1 : Nat) : Int) < z2)) = true →
((∃ z3 : Int, aIndex Tryd.prog 9 (.string (bs (l))) (.int .i64 ((i1 : Nat) : Int)) = some (.int .u8 z3)) ∧
∀ z3 : Int, aIndex Tryd.prog 9 (.string (bs (l))) (.int .i64 ((i1 : Nat) : Int)) = some (.int .u8 z3) →
((xef1 z3) ∧
∀ _ : Unit, True →
(((decide (hxI z3 < 0)) = true →
 Q (.ret (.bool false))) ∧
((decide (hxI z3 < 0)) = false →
∀ z4 : Int, z4 = (IntKind.i64.wrap (((i1 : Nat) : Int) + 1)) →
(∃ ia', ((q6g l ia').fst) ∧
(m6g l ia' < m6g l i1) ∧
 Gc [] 0 ⟨[(3, (.int .i64 z4)), (9, (.int .i64 z4)), (8, (.int .i64 ((i1 : Nat) : Int))), (14, (.bool false)), (13, (.int .i64 (hxI z3))), (12, (.int .u8 z3)), (11, (.int .i64 ((i1 : Nat) : Int))), (10, (.string (bs (l)))), (7, (.bool true)), (6, (.int .i64 z2)), (5, (.string (bs (l)))), (4, (.int .i64 ((i1 : Nat) : Int))), (3, (.int .i64 ((i1 : Nat) : Int))), (2, (.bool false)), (0, (.string (bs (l))))], [], [], .norm⟩ ((q6g l ia').snd))))))) ∧
((decide (((i1 : Nat) : Int) < z2)) = false →
∀ z3 : Int, z3 = ((((bs l).size : Nat) : Int)) →
(((decide (z3 ≥ 1)) = true →
∀ z4 : Int, z4 = ((((bs l).size : Nat) : Int)) →
(((decide (z4 ≤ 4)) = true →
 Q (.ret (.bool true))) ∧
((decide (z4 ≤ 4)) = false →
 Q (.ret (.bool false))))) ∧
((decide (z3 ≥ 1)) = false →
 Q (.ret (.bool false)))))))) =
    runS Tryd.prog [] false [104] 0 (SpecC Tryd.prog []) 20 87 [.string (bs l)] [] .norm (.skip 2 (.inv _ (q6g l) (m6g l) fun _i1 => .skip 2 (.all (fun _z2 => .skip 0 (.ask (.skip 3 (.gen (Int) (fun x => .int .u8 x) fun z3 => .skip 0 (.call Unit (ck (.int .i64 (hxI z3)) []) fun _ => .skip 0 (.ask (.go) (.skip 2 (.all (fun _z4 => .go))))))) (.skip 2 (.all (fun _z3 => .skip 0 (.ask (.skip 4 (.all (fun _z4 => .skip 1 (.ask (.go) (.go))))) (.go)))))))))) (fun r _ _ _ => Q r) := by kernel_rfl
theorem run_rvalue (l : List UInt8) (Q : Res → Prop) : (((∃ ia, ((qw l ia).fst) ∧
 Gc [] 0 ⟨[(4, (.int .i64 0)), (3, (.int .i64 0)), (2, (.int .i64 0)), (0, (.string (bs (l))))], [], [], .norm⟩ ((qw l ia).snd)) ∧
∀ i1, (qw l i1).fst →
∀ z2 : Int, z2 = ((((bs l).size : Nat) : Int)) →
(((decide (((i1 : Nat) : Int) < z2)) = true →
∀ z3 : Int, z3 = (IntKind.i64.wrap (valH (List.take i1 l) * 16)) →
((∃ z4 : Int, aIndex Tryd.prog 9 (.string (bs (l))) (.int .i64 ((i1 : Nat) : Int)) = some (.int .u8 z4)) ∧
∀ z4 : Int, aIndex Tryd.prog 9 (.string (bs (l))) (.int .i64 ((i1 : Nat) : Int)) = some (.int .u8 z4) →
((xef1 z4) ∧
∀ _ : Unit, True →
∀ z5 : Int, z5 = (IntKind.i64.wrap (z3 + hxI z4)) →
∀ z6 : Int, z6 = (IntKind.i64.wrap (((i1 : Nat) : Int) + 1)) →
(∃ ia', ((qw l ia').fst) ∧
(m6g l ia' < m6g l i1) ∧
 Gc [] 0 ⟨[(4, (.int .i64 z6)), (10, (.int .i64 z6)), (9, (.int .i64 ((i1 : Nat) : Int))), (3, (.int .i64 z5)), (17, (.int .i64 z5)), (16, (.int .i64 (hxI z4))), (15, (.int .u8 z4)), (14, (.int .i64 ((i1 : Nat) : Int))), (13, (.string (bs (l)))), (12, (.int .i64 z3)), (11, (.int .i64 (valH (List.take i1 l)))), (8, (.bool true)), (7, (.int .i64 z2)), (6, (.string (bs (l)))), (5, (.int .i64 ((i1 : Nat) : Int))), (4, (.int .i64 ((i1 : Nat) : Int))), (3, (.int .i64 (valH (List.take i1 l)))), (2, (.int .i64 0)), (0, (.string (bs (l))))], [], [], .norm⟩ ((qw l ia').snd))))) ∧
((decide (((i1 : Nat) : Int) < z2)) = false →
 Q (.ret (.int .i64 (valH (List.take i1 l)))))))) =
    runS Tryd.prog [] false [104] 0 (SpecC Tryd.prog []) 20 89 [.string (bs l)] [] .norm (.skip 3 (.inv _ (qw l) (m6g l) fun _i1 => .skip 2 (.all (fun _z2 => .skip 0 (.ask (.skip 2 (.all (fun _z3 => .skip 2 (.gen (Int) (fun x => .int .u8 x) fun z4 => .skip 0 (.call Unit (ck (.int .i64 (hxI z4)) []) fun _ => .skip 0 (.all (fun _z5 => .skip 2 (.all (fun _z6 => .go))))))))) (.go)))))) (fun r _ _ _ => Q r) := by kernel_rfl

theorem worth_spec {c : Int} (h0 : 0 ≤ c) (h1 : c < 256) : Fm.Spec Tryd.prog [] 104 [.int .u8 c] [] fun r _ => r = .ret (.int .i64 (hxI c)) := by
  refine xspecr (run_worth c fun r => r = .ret (.int .i64 (hxI c))) ?_
  dsimp only [xef2, xef0]
  have low : (c ≥ 48 ∧ c ≤ 57) → ∀ z1 : Int, z1 = IntKind.u8.wrap (c - 48) → ∀ z2 : Int, z2 = IntKind.i64.wrap z1 → Res.ret (.int .i64 z2) = .ret (.int .i64 (hxI c)) := by
    intro h z1 hz1 z2 hz2
    rw [xwrap8 (by omega) (by omega)] at hz1
    rw [hz1, xwrapi (by omega) (by omega)] at hz2
    rw [hz2]; unfold hxI; rw [if_pos h]
  have mid : (c ≥ 97 ∧ c ≤ 102) → ∀ z1 : Int, z1 = IntKind.u8.wrap (c - 97) → ∀ z2 : Int, z2 = IntKind.i64.wrap z1 → ∀ z3 : Int, z3 = IntKind.i64.wrap (z2 + 10) → Res.ret (.int .i64 z3) = .ret (.int .i64 (hxI c)) := by
    intro h z1 hz1 z2 hz2 z3 hz3
    rw [xwrap8 (by omega) (by omega)] at hz1
    rw [hz1, xwrapi (by omega) (by omega)] at hz2
    rw [hz2, xwrapi (by omega) (by omega)] at hz3
    rw [hz3]; unfold hxI; rw [if_neg (by omega), if_pos h]
  have up : (c ≥ 65 ∧ c ≤ 70) → ∀ z1 : Int, z1 = IntKind.u8.wrap (c - 65) → ∀ z2 : Int, z2 = IntKind.i64.wrap z1 → ∀ z3 : Int, z3 = IntKind.i64.wrap (z2 + 10) → Res.ret (.int .i64 z3) = .ret (.int .i64 (hxI c)) := by
    intro h z1 hz1 z2 hz2 z3 hz3
    rw [xwrap8 (by omega) (by omega)] at hz1
    rw [hz1, xwrapi (by omega) (by omega)] at hz2
    rw [hz2, xwrapi (by omega) (by omega)] at hz3
    rw [hz3]; unfold hxI; rw [if_neg (by omega), if_neg (by omega), if_pos h]
  have none' : ¬ (c ≥ 48 ∧ c ≤ 57) → ¬ (c ≥ 97 ∧ c ≤ 102) → ¬ (c ≥ 65 ∧ c ≤ 70) → Res.ret (.int .i64 (-1)) = .ret (.int .i64 (hxI c)) := by
    intro a b d; unfold hxI; rw [if_neg (by omega), if_neg (by omega), if_neg (by omega)]
  by_cases a1 : c ≥ 48 <;> by_cases a2 : c ≤ 57 <;> by_cases b1 : c ≥ 97 <;> by_cases b2 : c ≤ 102 <;> by_cases d1 : c ≥ 65 <;> by_cases d2 : c ≤ 70 <;>
    first
      | (exfalso; omega)
      | (simp only [a1, a2, b1, b2, d1, d2, decide_true, decide_false, false_implies, and_true, true_and, Bool.false_eq_true, Bool.true_eq_false, forall_const]
         first
          | exact low ⟨by omega, by omega⟩
          | exact mid ⟨by omega, by omega⟩
          | exact up ⟨by omega, by omega⟩
          | exact none' (by omega) (by omega) (by omega))

theorem byte_hx (c : UInt8) : Fun 104 [.int .u8 (c.toNat : Int)] (.int .i64 (hx c)) := by
  have := c.toNat_lt
  have h := worth_spec (c := (c.toNat : Int)) (by omega) (by omega)
  rw [hxI_hx] at h
  exact xfun_of h (.int _ _)

theorem group_spec {l : List UInt8} (hl : l.length < 2 ^ 63) : Fm.Spec Tryd.prog [] 87 [.string (bs l)] [] fun r _ => r = .ret (.bool (grp l)) := by
  refine xspecr (run_group l fun r => r = .ret (.bool (grp l))) ?_
  dsimp only [xef1]
  refine ⟨⟨0, ⟨Nat.zero_le _, by simp⟩, Gc.env ⟨rfl, rfl, rfl, trivial⟩⟩, fun i hi => ?_⟩
  obtain ⟨hi, hh⟩ := hi
  intro z hz
  have hz : z = ((l.length : Nat) : Int) := hz
  subst hz
  refine ⟨fun hd => ?_, fun hd => ?_⟩
  · have hlt : i < l.length := by have := of_decide_eq_true hd; omega
    clear hd
    refine xstep (aIndex_bs (l := l) (i := (i : Int)) xu9 (by omega) (by omega)) ?_
    rw [Int.toNat_natCast, hxI_hx]
    refine (byte_hx _).call (by intro u hu; rw [List.mem_singleton] at hu; subst hu; exact .int _ _) ?_
    refine ⟨fun hb => ?_, fun hb => ?_⟩
    · have hb := of_decide_eq_true hb
      have : grp l = false := by
        cases hg : grp l with
        | false => rfl
        | true => exact absurd ((grp_iff.1 hg).1 _ (xmem hlt)) (by omega)
      rw [this]
    · have hb := of_decide_eq_false hb
      intro z4 hz4
      rw [xwrapi (by omega) (by omega)] at hz4
      have hz4 : z4 = ((i + 1 : Nat) : Int) := by omega
      subst hz4
      refine ⟨i + 1, ⟨hlt, ?_⟩, by show l.length - (i + 1) < l.length - i; omega, Gc.env ⟨rfl, rfl, rfl, trivial⟩⟩
      intro c hc
      rw [xtake hlt] at hc
      rcases List.mem_append.1 hc with h | h
      · exact hh c h
      · rw [List.mem_singleton] at h; subst h; omega
  · have hge : i = l.length := by have := of_decide_eq_false hd; omega
    rw [hge, List.take_length] at hh
    intro z3 hz3
    have hz3 : z3 = ((l.length : Nat) : Int) := hz3
    subst hz3
    have no : ¬ (1 ≤ l.length ∧ l.length ≤ 4) → Res.ret (.bool false) = .ret (.bool (grp l)) := fun h => by
      cases hg : grp l with
      | false => rfl
      | true => exact absurd (grp_iff.1 hg).2 h
    refine ⟨fun h1 => ?_, fun h1 => ?_⟩
    · have h1 := of_decide_eq_true h1
      intro z4 hz4
      have hz4 : z4 = ((l.length : Nat) : Int) := hz4
      subst hz4
      refine ⟨fun h4 => ?_, fun h4 => ?_⟩
      · have h4 := of_decide_eq_true h4
        rw [grp_iff.2 ⟨hh, by omega, by omega⟩]
      · have h4 := of_decide_eq_false h4
        exact no (by omega)
    · have h1 := of_decide_eq_false h1
      exact no (by omega)

theorem valH_snoc (l : List UInt8) (c : UInt8) : valH (l ++ [c]) = valH l * 16 + hx c := by
  unfold valH; rw [List.foldl_append]; rfl

theorem rvalue_spec {l : List UInt8} (hl : ∀ c ∈ l, 0 ≤ hx c) (hlen : l.length ≤ 4) : Fm.Spec Tryd.prog [] 89 [.string (bs l)] [] fun r _ => r = .ret (.int .i64 (valH l)) := by
  refine xspecr (run_rvalue l fun r => r = .ret (.int .i64 (valH l))) ?_
  dsimp only [xef1]
  refine ⟨⟨0, Nat.zero_le _, Gc.env ⟨rfl, rfl, rfl, rfl, trivial⟩⟩, fun i hi => ?_⟩
  have hi : i ≤ l.length := hi
  intro z hz
  have hz : z = ((l.length : Nat) : Int) := hz
  subst hz
  refine ⟨fun hd => ?_, fun hd => ?_⟩
  · have hlt : i < l.length := by have := of_decide_eq_true hd; omega
    clear hd
    have hc := hl _ (xmem hlt)
    have hm := hx_max (l.getD i 0)
    have hv := valB_bound (b := 16) (by decide) (by decide) (l.take i) (fun c h => hl c (List.mem_of_mem_take h)) (by rw [List.length_take]; omega)
    rw [valB_16] at hv
    intro w1 hw1
    rw [xwrapi (by omega) (by omega)] at hw1
    refine xstep (aIndex_bs (l := l) (i := (i : Int)) xu9 (by omega) (by omega)) ?_
    rw [Int.toNat_natCast, hxI_hx]
    refine (byte_hx _).call (by intro u hu; rw [List.mem_singleton] at hu; subst hu; exact .int _ _) ?_
    intro w4 hw4 w5 hw5
    rw [hw1, xwrapi (by omega) (by omega)] at hw4
    rw [xwrapi (by omega) (by omega)] at hw5
    have hw4 : w4 = valH (l.take (i + 1)) := by rw [xtake hlt, valH_snoc, hw4]
    have hw5 : w5 = ((i + 1 : Nat) : Int) := by omega
    subst hw4 hw5
    exact ⟨i + 1, by show i + 1 ≤ l.length; omega, by show l.length - (i + 1) < l.length - i; omega, Gc.env ⟨rfl, rfl, rfl, rfl, trivial⟩⟩
  · have hge : i = l.length := by have := of_decide_eq_false hd; omega
    rw [hge, List.take_length]

end Go.Proofs.YtopladipgobpjaaDoor
