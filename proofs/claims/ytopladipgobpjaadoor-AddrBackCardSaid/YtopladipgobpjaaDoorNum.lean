/-
  The reader's number: digits from a place on, without a zero ahead, up to a number. Conditions: the place is within the text, the greatest number below 1000.
-/
import Derived.Test.YtopladipgobpjaaDoorPlain4
import Derived.Test.YtopladipgobpjaaDoorSix0
import Derived.Test.YtopladipgobpjaaDoorZer
namespace Go.Proofs.YtopladipgobpjaaDoor
open Go.Fm
def p4V (l : List UInt8) : Value := match p4R l with
  | (some [a, b, c, d], _) => .tuple ⟨[.agg ⟨[.int .u8 a, .int .u8 b, .int .u8 c, .int .u8 d]⟩, .int .i64 0, .int .i64 0]⟩
  | (_, n) => .tuple ⟨[.agg ⟨[.int .u8 0, .int .u8 0, .int .u8 0, .int .u8 0]⟩, .int .i64 n, .int .i64 20]⟩
def noE : AObj → Bool
  | .cells [] _ => false
  | _ => true
structure S1 where
  c : Nat
  n : Int
def qn (l : List UInt8) (p : Nat) (m : Int) (s : S1) : Prop × St := (p + s.c ≤ l.length ∧ 0 ≤ s.n ∧ s.n ≤ 999 ∧ numG m 0 0 (l.drop p) = numG m s.c s.n (l.drop (p + s.c)),
  ⟨[(6, .int .i64 p), (5, .int .i64 s.n), (4, .int .i64 0), (0, .pointer (some ⟨0, 0, none⟩)), (1, .int .i64 m)], [], [.cells [.string (bs l), .int .i64 ((p + s.c : Nat) : Int)] false], .norm⟩)
def mn (l : List UInt8) (p : Nat) (_ : Int) (s : S1) : Nat := l.length - (p + s.c)
theorem run_num (l : List UInt8) (p : Nat) (m : Int) (Q : Res → AHeap → Prop) : (((∃ ia, ((qn l p m ia).fst) ∧ Gc [] 1 ⟨[(6, (.int .i64 ((p : Nat) : Int))), (5, (.int .i64 0)), (11, (.int .i64 ((p : Nat) : Int))), (10, (.pointer (some ⟨0, 1, none⟩))), (9, (.pointer (some ⟨0, 0, none⟩))), (8, (.pointer (some ⟨0, 0, none⟩))), (4, (.int .i64 0)), (0, (.pointer (some ⟨0, 0, none⟩))), (1, (.int .i64 m))], [], [.cells [(.string (bs (l))), (.int .i64 ((p : Nat) : Int))] false], .norm⟩ ((qn l p m ia).snd)) ∧
   ∀ i1, (qn l p m i1).fst →
    ∀ z2 : Int, z2 = ((((bs l).size : Nat) : Int)) →
    (((decide ((((p + i1.c) : Nat) : Int) < z2)) = true →
      ((∃ z3 : Int, aIndex Tryd.prog 9 (.string (bs (l))) (.int .i64 ((((p + i1.c) : Nat) : Int))) = some (.int .u8 z3)) ∧ ∀ z3 : Int, aIndex Tryd.prog 9 (.string (bs (l))) (.int .i64 ((((p + i1.c) : Nat) : Int))) = some (.int .u8 z3) →
      (((decide (z3 < 48)) = true →
        ((((((p + i1.c) : Nat) : Int) == ((p : Nat) : Int)) = true → Q (.pan [((.iface 110 (.int .i64 ((((p + i1.c) : Nat) : Int)))), false)]) [.cells [(.string (bs (l))), (.int .i64 ((((p + i1.c) : Nat) : Int)))] false]) ∧
         (((((p + i1.c) : Nat) : Int) == ((p : Nat) : Int)) = false → Q (.ret (.int .i64 i1.n)) [.cells [(.string (bs (l))), (.int .i64 ((((p + i1.c) : Nat) : Int)))] false]))) ∧
       ((decide (z3 < 48)) = false →
        (((decide (z3 > 57)) = true →
          ((((((p + i1.c) : Nat) : Int) == ((p : Nat) : Int)) = true → Q (.pan [((.iface 110 (.int .i64 ((((p + i1.c) : Nat) : Int)))), false)]) [.cells [(.string (bs (l))), (.int .i64 ((((p + i1.c) : Nat) : Int)))] false]) ∧
           (((((p + i1.c) : Nat) : Int) == ((p : Nat) : Int)) = false → Q (.ret (.int .i64 i1.n)) [.cells [(.string (bs (l))), (.int .i64 ((((p + i1.c) : Nat) : Int)))] false]))) ∧
         ((decide (z3 > 57)) = false →
          (((decide ((((p + i1.c) : Nat) : Int) > ((p : Nat) : Int))) = true →
            (((i1.n == 0) = true →
              ((((((p + i1.c) : Nat) : Int) == ((p : Nat) : Int)) = true → Q (.pan [((.iface 110 (.int .i64 ((((p + i1.c) : Nat) : Int)))), false)]) [.cells [(.string (bs (l))), (.int .i64 ((((p + i1.c) : Nat) : Int)))] false]) ∧
               (((((p + i1.c) : Nat) : Int) == ((p : Nat) : Int)) = false → Q (.ret (.int .i64 i1.n)) [.cells [(.string (bs (l))), (.int .i64 ((((p + i1.c) : Nat) : Int)))] false]))) ∧
             ((i1.n == 0) = false →
              ∀ z4 : Int, z4 = (IntKind.i64.wrap (i1.n * 10)) →
              ∀ z5 : Int, z5 = (IntKind.u8.wrap (z3 - 48)) →
              ∀ z6 : Int, z6 = (IntKind.i64.wrap z5) →
              ∀ z7 : Int, z7 = (IntKind.i64.wrap (z4 + z6)) →
              (((decide (z7 > m)) = true →
                ((((((p + i1.c) : Nat) : Int) == ((p : Nat) : Int)) = true → Q (.pan [((.iface 110 (.int .i64 ((((p + i1.c) : Nat) : Int)))), false)]) [.cells [(.string (bs (l))), (.int .i64 ((((p + i1.c) : Nat) : Int)))] false]) ∧
                 (((((p + i1.c) : Nat) : Int) == ((p : Nat) : Int)) = false → Q (.ret (.int .i64 i1.n)) [.cells [(.string (bs (l))), (.int .i64 ((((p + i1.c) : Nat) : Int)))] false]))) ∧
               ((decide (z7 > m)) = false →
                ∀ z8 : Int, z8 = (IntKind.i64.wrap (i1.n * 10)) →
                ∀ z9 : Int, z9 = (IntKind.u8.wrap (z3 - 48)) →
                ∀ z10 : Int, z10 = (IntKind.i64.wrap z9) →
                ∀ z11 : Int, z11 = (IntKind.i64.wrap (z8 + z10)) →
                ∀ z12 : Int, z12 = (IntKind.i64.wrap ((((p + i1.c) : Nat) : Int) + 1)) → (∃ ia', ((qn l p m ia').fst) ∧ (mn l p m ia' < mn l p m i1) ∧ Gc [] 1 ⟨[(71, (.pointer (some ⟨0, 1, none⟩))), (70, (.pointer (some ⟨0, 0, none⟩))), (69, (.int .i64 z12)), (68, (.int .i64 ((((p + i1.c) : Nat) : Int)))), (67, (.pointer (some ⟨0, 1, none⟩))), (66, (.pointer (some ⟨0, 0, none⟩))), (65, (.pointer (some ⟨0, 0, none⟩))), (5, (.int .i64 z11)), (64, (.int .i64 z11)), (63, (.int .i64 z10)), (62, (.int .u8 z9)), (61, (.int .u8 z3)), (60, (.int .i64 z8)), (59, (.int .i64 i1.n)), (58, (.bool false)), (57, (.bool false)), (56, (.int .i64 m)), (55, (.int .i64 z7)), (54, (.int .i64 z6)), (53, (.int .u8 z5)), (52, (.int .u8 z3)), (51, (.int .i64 z4)), (50, (.int .i64 i1.n)), (49, (.bool false)), (48, (.bool false)), (47, (.bool false)), (46, (.bool false)), (45, (.int .i64 i1.n)), (44, (.bool true)), (43, (.bool true)), (42, (.int .i64 ((p : Nat) : Int))), (41, (.int .i64 ((((p + i1.c) : Nat) : Int)))), (40, (.pointer (some ⟨0, 1, none⟩))), (39, (.pointer (some ⟨0, 0, none⟩))), (38, (.pointer (some ⟨0, 0, none⟩))), (37, (.bool false)), (36, (.bool false)), (35, (.bool false)), (34, (.int .u8 z3)), (33, (.bool false)), (32, (.bool false)), (31, (.int .u8 z3)), (7, (.int .u8 z3)), (30, (.int .u8 z3)), (29, (.int .i64 ((((p + i1.c) : Nat) : Int)))), (28, (.pointer (some ⟨0, 1, none⟩))), (27, (.pointer (some ⟨0, 0, none⟩))), (26, (.pointer (some ⟨0, 0, none⟩))), (25, (.string (bs (l)))), (24, (.pointer (some ⟨0, 0, none⟩))), (23, (.pointer (some ⟨0, 0, none⟩))), (22, (.pointer (some ⟨0, 0, none⟩))), (21, (.bool true)), (20, (.int .i64 z2)), (19, (.string (bs (l)))), (18, (.pointer (some ⟨0, 0, none⟩))), (17, (.pointer (some ⟨0, 0, none⟩))), (16, (.pointer (some ⟨0, 0, none⟩))), (15, (.int .i64 ((((p + i1.c) : Nat) : Int)))), (14, (.pointer (some ⟨0, 1, none⟩))), (13, (.pointer (some ⟨0, 0, none⟩))), (12, (.pointer (some ⟨0, 0, none⟩))), (6, (.int .i64 ((p : Nat) : Int))), (5, (.int .i64 i1.n)), (4, (.int .i64 0)), (0, (.pointer (some ⟨0, 0, none⟩))), (1, (.int .i64 m))], [], [.cells [(.string (bs (l))), (.int .i64 z12)] false], .norm⟩ ((qn l p m ia').snd))))))) ∧
           ((decide ((((p + i1.c) : Nat) : Int) > ((p : Nat) : Int))) = false →
            ∀ z4 : Int, z4 = (IntKind.i64.wrap (i1.n * 10)) →
            ∀ z5 : Int, z5 = (IntKind.u8.wrap (z3 - 48)) →
            ∀ z6 : Int, z6 = (IntKind.i64.wrap z5) →
            ∀ z7 : Int, z7 = (IntKind.i64.wrap (z4 + z6)) →
            (((decide (z7 > m)) = true →
              ((((((p + i1.c) : Nat) : Int) == ((p : Nat) : Int)) = true → Q (.pan [((.iface 110 (.int .i64 ((((p + i1.c) : Nat) : Int)))), false)]) [.cells [(.string (bs (l))), (.int .i64 ((((p + i1.c) : Nat) : Int)))] false]) ∧
               (((((p + i1.c) : Nat) : Int) == ((p : Nat) : Int)) = false → Q (.ret (.int .i64 i1.n)) [.cells [(.string (bs (l))), (.int .i64 ((((p + i1.c) : Nat) : Int)))] false]))) ∧
             ((decide (z7 > m)) = false →
              ∀ z8 : Int, z8 = (IntKind.i64.wrap (i1.n * 10)) →
              ∀ z9 : Int, z9 = (IntKind.u8.wrap (z3 - 48)) →
              ∀ z10 : Int, z10 = (IntKind.i64.wrap z9) →
              ∀ z11 : Int, z11 = (IntKind.i64.wrap (z8 + z10)) →
              ∀ z12 : Int, z12 = (IntKind.i64.wrap ((((p + i1.c) : Nat) : Int) + 1)) → (∃ ia', ((qn l p m ia').fst) ∧ (mn l p m ia' < mn l p m i1) ∧ Gc [] 1 ⟨[(71, (.pointer (some ⟨0, 1, none⟩))), (70, (.pointer (some ⟨0, 0, none⟩))), (69, (.int .i64 z12)), (68, (.int .i64 ((((p + i1.c) : Nat) : Int)))), (67, (.pointer (some ⟨0, 1, none⟩))), (66, (.pointer (some ⟨0, 0, none⟩))), (65, (.pointer (some ⟨0, 0, none⟩))), (5, (.int .i64 z11)), (64, (.int .i64 z11)), (63, (.int .i64 z10)), (62, (.int .u8 z9)), (61, (.int .u8 z3)), (60, (.int .i64 z8)), (59, (.int .i64 i1.n)), (58, (.bool false)), (57, (.bool false)), (56, (.int .i64 m)), (55, (.int .i64 z7)), (54, (.int .i64 z6)), (53, (.int .u8 z5)), (52, (.int .u8 z3)), (51, (.int .i64 z4)), (50, (.int .i64 i1.n)), (49, (.bool false)), (48, (.bool false)), (47, (.bool false)), (46, (.tuple ⟨[]⟩)), (45, (.tuple ⟨[]⟩)), (44, (.bool false)), (43, (.bool false)), (42, (.int .i64 ((p : Nat) : Int))), (41, (.int .i64 ((((p + i1.c) : Nat) : Int)))), (40, (.pointer (some ⟨0, 1, none⟩))), (39, (.pointer (some ⟨0, 0, none⟩))), (38, (.pointer (some ⟨0, 0, none⟩))), (37, (.bool false)), (36, (.bool false)), (35, (.bool false)), (34, (.int .u8 z3)), (33, (.bool false)), (32, (.bool false)), (31, (.int .u8 z3)), (7, (.int .u8 z3)), (30, (.int .u8 z3)), (29, (.int .i64 ((((p + i1.c) : Nat) : Int)))), (28, (.pointer (some ⟨0, 1, none⟩))), (27, (.pointer (some ⟨0, 0, none⟩))), (26, (.pointer (some ⟨0, 0, none⟩))), (25, (.string (bs (l)))), (24, (.pointer (some ⟨0, 0, none⟩))), (23, (.pointer (some ⟨0, 0, none⟩))), (22, (.pointer (some ⟨0, 0, none⟩))), (21, (.bool true)), (20, (.int .i64 z2)), (19, (.string (bs (l)))), (18, (.pointer (some ⟨0, 0, none⟩))), (17, (.pointer (some ⟨0, 0, none⟩))), (16, (.pointer (some ⟨0, 0, none⟩))), (15, (.int .i64 ((((p + i1.c) : Nat) : Int)))), (14, (.pointer (some ⟨0, 1, none⟩))), (13, (.pointer (some ⟨0, 0, none⟩))), (12, (.pointer (some ⟨0, 0, none⟩))), (6, (.int .i64 ((p : Nat) : Int))), (5, (.int .i64 i1.n)), (4, (.int .i64 0)), (0, (.pointer (some ⟨0, 0, none⟩))), (1, (.int .i64 m))], [], [.cells [(.string (bs (l))), (.int .i64 z12)] false], .norm⟩ ((qn l p m ia').snd)))))))))))) ∧
     ((decide ((((p + i1.c) : Nat) : Int) < z2)) = false →
      ((((((p + i1.c) : Nat) : Int) == ((p : Nat) : Int)) = true → Q (.pan [((.iface 110 (.int .i64 ((((p + i1.c) : Nat) : Int)))), false)]) [.cells [(.string (bs (l))), (.int .i64 ((((p + i1.c) : Nat) : Int)))] false]) ∧
       (((((p + i1.c) : Nat) : Int) == ((p : Nat) : Int)) = false → Q (.ret (.int .i64 i1.n)) [.cells [(.string (bs (l))), (.int .i64 ((((p + i1.c) : Nat) : Int)))] false])))))) =
    runS Tryd.prog [] false [] 0 (SpecC Tryd.prog []) 20 76 [.pointer (some ⟨0, 0, none⟩), .int .i64 m] [.cells [.string (bs l), .int .i64 p] false] .norm (.skip 7 (.inv _ (qn l p m) (mn l p m) fun _i1 => .skip 8 (.all (fun _z2 => .skip 0 (.ask (.skip 9 (.gen (Int) (fun x => .int .u8 x) fun _z3 => .skip 2 (.ask (.skip 30 (.ask (.go) (.go))) (.skip 4 (.ask (.skip 27 (.ask (.go) (.go))) (.skip 13 (.ask (.skip 5 (.ask (.skip 19 (.ask (.go) (.go))) (.skip 7 (.all (fun _z4 => .skip 3 (.all (fun _z5 => .skip 1 (.all (fun _z6 => .skip 1 (.all (fun _z7 => .skip 3 (.ask (.skip 7 (.ask (.go) (.go))) (.skip 3 (.all (fun _z8 => .skip 1 (.all (fun _z9 => .skip 0 (.all (fun _z10 => .skip 0 (.all (fun _z11 => .skip 5 (.all (fun _z12 => .go))))))))))))))))))))))) (.skip 11 (.all (fun _z4 => .skip 3 (.all (fun _z5 => .skip 1 (.all (fun _z6 => .skip 1 (.all (fun _z7 => .skip 3 (.ask (.skip 7 (.ask (.go) (.go))) (.skip 3 (.all (fun _z8 => .skip 1 (.all (fun _z9 => .skip 0 (.all (fun _z10 => .skip 0 (.all (fun _z11 => .skip 5 (.all (fun _z12 => .go)))))))))))))))))))))))))))) (.skip 6 (.ask (.go) (.go)))))))) (fun r _ h _ => Q r h) := by kernel_rfl
theorem wrap8 {x : Int} (h0 : 0 ≤ x) (h1 : x < 256) : IntKind.u8.wrap x = x := by
  simp only [IntKind.wrap, IntKind.bits, IntKind.signed, Bool.false_and, Bool.false_eq_true, if_false]
  omega
theorem wrap62 {x : Int} (h0 : 0 ≤ x) (h1 : x < 2 ^ 63) : IntKind.i64.wrap x = x := by
  simp only [IntKind.wrap, IntKind.bits, IntKind.signed]
  simp; omega
def npost (l : List UInt8) (p : Nat) (m : Int) (r : Res) (h : AHeap) : Prop :=
  ((num m (l.drop p)).2 = 0 → r = .pan [(.iface 110 (.int .i64 p), false)] ∧ h = [.cells [.string (bs l), .int .i64 p] false]) ∧
  ((num m (l.drop p)).2 ≠ 0 → r = .ret (.int .i64 (num m (l.drop p)).1) ∧ h = [.cells [.string (bs l), .int .i64 ((p + (num m (l.drop p)).2 : Nat) : Int)] false])
theorem number_spec {l : List UInt8} {p : Nat} {m : Int} (hp : p ≤ l.length) (hl : l.length < 2 ^ 63) (hm : m ≤ 999) :
    Fm.Spec Tryd.prog [] 76 [.pointer (some ⟨0, 0, none⟩), .int .i64 m] [.cells [.string (bs l), .int .i64 p] false] (npost l p m) := by
  refine xspec (run_num l p m (npost l p m)) ?_
  refine ⟨⟨⟨0, 0⟩, ⟨by show p + 0 ≤ l.length; omega, by show (0 : Int) ≤ 0; omega, by show (0 : Int) ≤ 999; omega, rfl⟩, Gc.env ⟨rfl, rfl, rfl, rfl, rfl, trivial⟩⟩, fun s hs => ?_⟩
  obtain ⟨c, n⟩ := s
  obtain ⟨v1, v2, v3, v4⟩ := hs
  simp only at v1 v2 v3 v4
  dsimp only
  have leaf : numG m c n (l.drop (p + c)) = (n, c) → (((((p + c : Nat) : Int) == ((p : Nat) : Int)) = true → npost l p m (.pan [((.iface 110 (.int .i64 ((p + c : Nat) : Int))), false)]) [.cells [(.string (bs l)), (.int .i64 ((p + c : Nat) : Int))] false]) ∧
      ((((p + c : Nat) : Int) == ((p : Nat) : Int)) = false → npost l p m (.ret (.int .i64 n)) [.cells [(.string (bs l)), (.int .i64 ((p + c : Nat) : Int))] false])) := by
    intro h
    have hn : num m (l.drop p) = (n, c) := v4.trans h
    refine ⟨fun e => ?_, fun e => ?_⟩
    · have e : ((p + c : Nat) : Int) = p := by simpa using e
      have hc : c = 0 := by omega
      subst hc
      unfold npost; rw [hn]
      exact ⟨fun _ => ⟨rfl, rfl⟩, fun h => absurd rfl h⟩
    · have e : ((p + c : Nat) : Int) ≠ p := by simpa using e
      have hc : c ≠ 0 := by omega
      unfold npost; rw [hn]
      exact ⟨fun h => absurd h hc, fun _ => ⟨rfl, rfl⟩⟩
  intro z2 hz2
  have hz2 : z2 = ((l.length : Nat) : Int) := hz2
  subst hz2
  refine ⟨fun hd => ?_, fun hd => ?_⟩
  · have hlt : p + c < l.length := by have := of_decide_eq_true hd; omega
    refine gen_step (aIndex_bs (l := l) (i := ((p + c : Nat) : Int)) xu9 (by omega) (by omega)) ?_
    rw [Int.toNat_natCast]
    generalize hch : l.getD (p + c) 0 = ch
    have hdrop : l.drop (p + c) = ch :: l.drop (p + c + 1) := by
      rw [List.drop_eq_getElem_cons hlt, ← hch, List.getD_eq_getElem?_getD, List.getElem?_eq_getElem hlt]; rfl
    have hnum : numG m c n (l.drop (p + c)) = if okd m c n ch then numG m (c + 1) (n * 10 + dv ch) (l.drop (p + c + 1)) else (n, c) := by rw [hdrop, numG]
    have no : ¬ (okd m c n ch = true) → numG m c n (l.drop (p + c)) = (n, c) := fun h => by rw [hnum, if_neg h]
    have hb := ch.toNat_lt
    have hdv : dv ch = (ch.toNat : Int) - 48 := rfl
    refine ⟨fun h48 => leaf (no fun h => ?_), fun h48 => ⟨fun h57 => leaf (no fun h => ?_), fun h57 => ?_⟩⟩
    · have := isD_dv (okd_iff.1 h).1; have := of_decide_eq_true h48; omega
    · have := isD_dv (okd_iff.1 h).1; have := of_decide_eq_true h57; omega
    have h48 := of_decide_eq_false h48
    have h57 := of_decide_eq_false h57
    refine ⟨fun hgt => ⟨fun hn0 => leaf (no fun h => ?_), fun hn0 => ?_⟩, fun hgt => ?_⟩
    · have hn0 : n = 0 := by simpa using hn0
      have hgt := of_decide_eq_true hgt
      exact (okd_iff.1 h).2.1 ⟨by omega, hn0⟩
    · have hn0 : n ≠ 0 := by simpa using hn0
      have h0 : ¬ (0 < c ∧ n = 0) := fun h => hn0 h.2
      intro z4 hz4 z5 hz5 z6 hz6 z7 hz7
      have hz4 : z4 = n * 10 := by rw [hz4, wrapi (by omega) (by omega)]
      have hz5 : z5 = dv ch := by rw [hz5, wrap8 (by omega) (by omega)]; rfl
      have hz6 : z6 = dv ch := by rw [hz6, hz5, wrapi (by omega) (by omega)]
      have hz7 : z7 = n * 10 + dv ch := by rw [hz7, hz4, hz6, wrapi (by omega) (by omega)]
      subst hz4 hz5 hz6 hz7
      refine ⟨fun hgm => leaf (no fun h => ?_), fun hgm => ?_⟩
      · have := (okd_iff.1 h).2.2; have := of_decide_eq_true hgm; omega
      have hgm := of_decide_eq_false hgm
      have hok : okd m c n ch = true := okd_iff.2 ⟨by unfold isD; rw [decide_eq_true (by omega), decide_eq_true (by omega)]; rfl, h0, by omega⟩
      intro z8 hz8 z9 hz9 z10 hz10 z11 hz11 z12 hz12
      have hz8 : z8 = n * 10 := by rw [hz8, wrapi (by omega) (by omega)]
      have hz9 : z9 = dv ch := by rw [hz9, wrap8 (by omega) (by omega)]; rfl
      have hz10 : z10 = dv ch := by rw [hz10, hz9, wrapi (by omega) (by omega)]
      have hz11 : z11 = n * 10 + dv ch := by rw [hz11, hz8, hz10, wrapi (by omega) (by omega)]
      have hz12 : z12 = ((p + (c + 1) : Nat) : Int) := by
        have : z12 = IntKind.i64.wrap (((p + c : Nat) : Int) + 1) := hz12
        rw [this, wrap62 (by omega) (by omega)]; omega
      subst hz11 hz12
      refine ⟨⟨c + 1, n * 10 + dv ch⟩, ⟨by show p + (c + 1) ≤ l.length; omega, by show 0 ≤ n * 10 + dv ch; omega, by show n * 10 + dv ch ≤ 999; omega, ?_⟩, by show l.length - (p + (c + 1)) < l.length - (p + c); omega, Gc.env ⟨rfl, rfl, rfl, rfl, rfl, trivial⟩⟩
      show numG m 0 0 (l.drop p) = numG m (c + 1) (n * 10 + dv ch) (l.drop (p + (c + 1)))
      rw [v4, hnum, if_pos hok]; rfl
    · have hgt := of_decide_eq_false hgt
      have h0 : ¬ (0 < c ∧ n = 0) := fun h => by have := h.1; omega
      intro z4 hz4 z5 hz5 z6 hz6 z7 hz7
      have hz4 : z4 = n * 10 := by rw [hz4, wrapi (by omega) (by omega)]
      have hz5 : z5 = dv ch := by rw [hz5, wrap8 (by omega) (by omega)]; rfl
      have hz6 : z6 = dv ch := by rw [hz6, hz5, wrapi (by omega) (by omega)]
      have hz7 : z7 = n * 10 + dv ch := by rw [hz7, hz4, hz6, wrapi (by omega) (by omega)]
      subst hz4 hz5 hz6 hz7
      refine ⟨fun hgm => leaf (no fun h => ?_), fun hgm => ?_⟩
      · have := (okd_iff.1 h).2.2; have := of_decide_eq_true hgm; omega
      have hgm := of_decide_eq_false hgm
      have hok : okd m c n ch = true := okd_iff.2 ⟨by unfold isD; rw [decide_eq_true (by omega), decide_eq_true (by omega)]; rfl, h0, by omega⟩
      intro z8 hz8 z9 hz9 z10 hz10 z11 hz11 z12 hz12
      have hz8 : z8 = n * 10 := by rw [hz8, wrapi (by omega) (by omega)]
      have hz9 : z9 = dv ch := by rw [hz9, wrap8 (by omega) (by omega)]; rfl
      have hz10 : z10 = dv ch := by rw [hz10, hz9, wrapi (by omega) (by omega)]
      have hz11 : z11 = n * 10 + dv ch := by rw [hz11, hz8, hz10, wrapi (by omega) (by omega)]
      have hz12 : z12 = ((p + (c + 1) : Nat) : Int) := by
        have : z12 = IntKind.i64.wrap (((p + c : Nat) : Int) + 1) := hz12
        rw [this, wrap62 (by omega) (by omega)]; omega
      subst hz11 hz12
      refine ⟨⟨c + 1, n * 10 + dv ch⟩, ⟨by show p + (c + 1) ≤ l.length; omega, by show 0 ≤ n * 10 + dv ch; omega, by show n * 10 + dv ch ≤ 999; omega, ?_⟩, by show l.length - (p + (c + 1)) < l.length - (p + c); omega, Gc.env ⟨rfl, rfl, rfl, rfl, rfl, trivial⟩⟩
      show numG m 0 0 (l.drop p) = numG m (c + 1) (n * 10 + dv ch) (l.drop (p + (c + 1)))
      rw [v4, hnum, if_pos hok]; rfl
  · have hge : p + c = l.length := by have := of_decide_eq_false hd; omega
    refine leaf ?_
    rw [hge, List.drop_length, numG]
end Go.Proofs.YtopladipgobpjaaDoor
