/-
  The reference's octet and number. Conditions: octet: none; number: at most three digits.
-/
import Derived.Test.YtopladipgobpjaaDoorNum
namespace Go.Proofs.YtopladipgobpjaaDoor
open Go.Fm

def qo (l : List UInt8) (m : Int) (i : Nat) : Prop × St := (i ≤ l.length ∧ l.length ≤ 3 ∧ (l.take i).all isD = true,
  ⟨[(6, .int .i64 i), (5, .int .i64 (val (l.take i))), (4, .bool false), (0, .string (bs l)), (1, .int .i64 m)], [], [], .norm⟩)
def mo (l : List UInt8) (_ : Int) (i : Nat) : Nat := l.length - i
def qr (l : List UInt8) (i : Nat) : Prop × St := (i ≤ l.length,
  ⟨[(4, .int .i64 i), (3, .int .i64 (val (l.take i))), (2, .int .i64 0), (0, .string (bs l))], [], [], .norm⟩)
def mr (l : List UInt8) (i : Nat) : Nat := l.length - i

abbrev xOcts0 (l : List UInt8) (m : Int) : Scr := .skip 4 (.inv _ (qo l m) (mo l m) fun _i4 => .skip 2 (.all (fun _z5 => .skip 0 (.ask (.skip 3 (.gen (Int) (fun x => .int .u8 x) fun _z6 => .skip 3 (.ask (.skip 4 (.ask (.skip 5 (.all (fun _z7 => .skip 2 (.gen (Int) (fun x => .int .u8 x) fun _z8 => .skip 0 (.all (fun _z9 => .skip 0 (.all (fun _z10 => .skip 0 (.all (fun _z11 => .skip 2 (.all (fun _z12 => .go)))))))))))) (.go))) (.go)))) (.skip 3 (.ask (.go) (.go)))))))

theorem run_oct (l : List UInt8) (m : Int) (Q : Res → Prop) : (((((bs l).toList == (bs []).toList) = true → Q (.ret (.bool true))) ∧
   (((bs l).toList == (bs []).toList) = false → 
    ((∃ z1 : Int, aIndex Tryd.prog 9 (.string (bs (l))) (.int .i64 0) = some (.int .u8 z1)) ∧ ∀ z1 : Int, aIndex Tryd.prog 9 (.string (bs (l))) (.int .i64 0) = some (.int .u8 z1) → 
    (((z1 == 48) = true → 
      ∀ z2 : Int, z2 = ((((bs l).size : Nat) : Int)) → 
      (((decide (z2 > 1)) = true → Q (.ret (.bool false))) ∧
       ((decide (z2 > 1)) = false → 
        ∀ z3 : Int, z3 = ((((bs l).size : Nat) : Int)) → 
        (((decide (z3 > 3)) = true → Q (.ret (.bool false))) ∧
         ((decide (z3 > 3)) = false → 
          ((∃ ia, ((qo l m ia).fst) ∧ Gc [] 0 ⟨[(6, (.int .i64 0)), (5, (.int .i64 0)), (21, (.bool false)), (20, (.bool false)), (19, (.int .i64 z3)), (18, (.string (bs (l)))), (17, (.bool false)), (16, (.bool false)), (15, (.bool false)), (14, (.int .i64 z2)), (13, (.string (bs (l)))), (12, (.bool true)), (11, (.bool true)), (10, (.int .u8 z1)), (9, (.string (bs (l)))), (8, (.bool false)), (7, (.string (bs (l)))), (4, (.bool false)), (0, (.string (bs (l)))), (1, (.int .i64 m))], [], [], .norm⟩ ((qo l m ia).snd)) ∧
           ∀ i4, (qo l m i4).fst → 
            ∀ z5 : Int, z5 = ((((bs l).size : Nat) : Int)) → 
            (((decide (((i4 : Nat) : Int) < z5)) = true → 
              ((∃ z6 : Int, aIndex Tryd.prog 9 (.string (bs (l))) (.int .i64 ((i4 : Nat) : Int)) = some (.int .u8 z6)) ∧ ∀ z6 : Int, aIndex Tryd.prog 9 (.string (bs (l))) (.int .i64 ((i4 : Nat) : Int)) = some (.int .u8 z6) → 
              (((decide (z6 ≥ 48)) = true → 
                (((decide (z6 ≤ 57)) = true → 
                  ∀ z7 : Int, z7 = (IntKind.i64.wrap (val (List.take i4 l) * 10)) → 
                  ((∃ z8 : Int, aIndex Tryd.prog 9 (.string (bs (l))) (.int .i64 ((i4 : Nat) : Int)) = some (.int .u8 z8)) ∧ ∀ z8 : Int, aIndex Tryd.prog 9 (.string (bs (l))) (.int .i64 ((i4 : Nat) : Int)) = some (.int .u8 z8) → 
                  ∀ z9 : Int, z9 = (IntKind.u8.wrap (z8 - 48)) → 
                  ∀ z10 : Int, z10 = (IntKind.i64.wrap z9) → 
                  ∀ z11 : Int, z11 = (IntKind.i64.wrap (z7 + z10)) → 
                  ∀ z12 : Int, z12 = (IntKind.i64.wrap (((i4 : Nat) : Int) + 1)) → (∃ ia', ((qo l m ia').fst) ∧ (mo l m ia' < mo l m i4) ∧ Gc [] 0 ⟨[(6, (.int .i64 z12)), (27, (.int .i64 z12)), (26, (.int .i64 ((i4 : Nat) : Int))), (5, (.int .i64 z11)), (40, (.int .i64 z11)), (39, (.int .i64 z10)), (38, (.int .u8 z9)), (37, (.int .u8 z8)), (36, (.int .i64 ((i4 : Nat) : Int))), (35, (.string (bs (l)))), (34, (.int .i64 z7)), (33, (.int .i64 (val (List.take i4 l)))), (32, (.bool false)), (31, (.bool true)), (30, (.int .u8 z6)), (29, (.int .i64 ((i4 : Nat) : Int))), (28, (.string (bs (l)))), (25, (.bool true)), (24, (.int .i64 z5)), (23, (.string (bs (l)))), (22, (.int .i64 ((i4 : Nat) : Int))), (6, (.int .i64 ((i4 : Nat) : Int))), (5, (.int .i64 (val (List.take i4 l)))), (4, (.bool false)), (0, (.string (bs (l)))), (1, (.int .i64 m))], [], [], .norm⟩ ((qo l m ia').snd)))) ∧
                 ((decide (z6 ≤ 57)) = false → Q (.ret (.bool false))))) ∧
               ((decide (z6 ≥ 48)) = false → Q (.ret (.bool false)))))) ∧
             ((decide (((i4 : Nat) : Int) < z5)) = false → 
              (((decide (val (List.take i4 l) ≤ m)) = true → Q (.ret (.bool true))) ∧
               ((decide (val (List.take i4 l) ≤ m)) = false → Q (.ret (.bool false)))))))))))) ∧
     ((z1 == 48) = false → 
      ∀ z2 : Int, z2 = ((((bs l).size : Nat) : Int)) → 
      (((decide (z2 > 3)) = true → Q (.ret (.bool false))) ∧
       ((decide (z2 > 3)) = false → 
        ((∃ ia, ((qo l m ia).fst) ∧ Gc [] 0 ⟨[(6, (.int .i64 0)), (5, (.int .i64 0)), (21, (.bool false)), (20, (.bool false)), (19, (.int .i64 z2)), (18, (.string (bs (l)))), (17, (.bool false)), (16, (.bool false)), (15, (.tuple ⟨[]⟩)), (14, (.tuple ⟨[]⟩)), (13, (.tuple ⟨[]⟩)), (12, (.bool false)), (11, (.bool false)), (10, (.int .u8 z1)), (9, (.string (bs (l)))), (8, (.bool false)), (7, (.string (bs (l)))), (4, (.bool false)), (0, (.string (bs (l)))), (1, (.int .i64 m))], [], [], .norm⟩ ((qo l m ia).snd)) ∧
         ∀ i3, (qo l m i3).fst → 
          ∀ z4 : Int, z4 = ((((bs l).size : Nat) : Int)) → 
          (((decide (((i3 : Nat) : Int) < z4)) = true → 
            ((∃ z5 : Int, aIndex Tryd.prog 9 (.string (bs (l))) (.int .i64 ((i3 : Nat) : Int)) = some (.int .u8 z5)) ∧ ∀ z5 : Int, aIndex Tryd.prog 9 (.string (bs (l))) (.int .i64 ((i3 : Nat) : Int)) = some (.int .u8 z5) → 
            (((decide (z5 ≥ 48)) = true → 
              (((decide (z5 ≤ 57)) = true → 
                ∀ z6 : Int, z6 = (IntKind.i64.wrap (val (List.take i3 l) * 10)) → 
                ((∃ z7 : Int, aIndex Tryd.prog 9 (.string (bs (l))) (.int .i64 ((i3 : Nat) : Int)) = some (.int .u8 z7)) ∧ ∀ z7 : Int, aIndex Tryd.prog 9 (.string (bs (l))) (.int .i64 ((i3 : Nat) : Int)) = some (.int .u8 z7) → 
                ∀ z8 : Int, z8 = (IntKind.u8.wrap (z7 - 48)) → 
                ∀ z9 : Int, z9 = (IntKind.i64.wrap z8) → 
                ∀ z10 : Int, z10 = (IntKind.i64.wrap (z6 + z9)) → 
                ∀ z11 : Int, z11 = (IntKind.i64.wrap (((i3 : Nat) : Int) + 1)) → (∃ ia', ((qo l m ia').fst) ∧ (mo l m ia' < mo l m i3) ∧ Gc [] 0 ⟨[(6, (.int .i64 z11)), (27, (.int .i64 z11)), (26, (.int .i64 ((i3 : Nat) : Int))), (5, (.int .i64 z10)), (40, (.int .i64 z10)), (39, (.int .i64 z9)), (38, (.int .u8 z8)), (37, (.int .u8 z7)), (36, (.int .i64 ((i3 : Nat) : Int))), (35, (.string (bs (l)))), (34, (.int .i64 z6)), (33, (.int .i64 (val (List.take i3 l)))), (32, (.bool false)), (31, (.bool true)), (30, (.int .u8 z5)), (29, (.int .i64 ((i3 : Nat) : Int))), (28, (.string (bs (l)))), (25, (.bool true)), (24, (.int .i64 z4)), (23, (.string (bs (l)))), (22, (.int .i64 ((i3 : Nat) : Int))), (6, (.int .i64 ((i3 : Nat) : Int))), (5, (.int .i64 (val (List.take i3 l)))), (4, (.bool false)), (0, (.string (bs (l)))), (1, (.int .i64 m))], [], [], .norm⟩ ((qo l m ia').snd)))) ∧
               ((decide (z5 ≤ 57)) = false → Q (.ret (.bool false))))) ∧
             ((decide (z5 ≥ 48)) = false → Q (.ret (.bool false)))))) ∧
           ((decide (((i3 : Nat) : Int) < z4)) = false → 
            (((decide (val (List.take i3 l) ≤ m)) = true → Q (.ret (.bool true))) ∧
             ((decide (val (List.take i3 l) ≤ m)) = false → Q (.ret (.bool false))))))))))))))) =
    runS Tryd.prog [] false [] 0 (SpecC Tryd.prog []) 20 81 [.string (bs l), .int .i64 m] [] .norm (.skip 2 (.ask (.go) (.skip 2 (.gen (Int) (fun x => .int .u8 x) fun _z1 => .skip 0 (.ask (.skip 4 (.all (fun _z2 => .skip 1 (.ask (.go) (.skip 5 (.all (fun _z3 => .skip 1 (.ask (.go) (xOcts0 l m))))))))) (.skip 9 (.all (fun _z2 => .skip 1 (.ask (.go) (xOcts0 l m)))))))))) (fun r _ _ _ => Q r) := by kernel_rfl
theorem run_rnum (l : List UInt8) (Q : Res → Prop) : (((∃ ia, ((qr l ia).fst) ∧ Gc [] 0 ⟨[(4, (.int .i64 0)), (3, (.int .i64 0)), (2, (.int .i64 0)), (0, (.string (bs (l))))], [], [], .norm⟩ ((qr l ia).snd)) ∧
   ∀ i1, (qr l i1).fst → 
    ∀ z2 : Int, z2 = ((((bs l).size : Nat) : Int)) → 
    (((decide (((i1 : Nat) : Int) < z2)) = true → 
      ∀ z3 : Int, z3 = (IntKind.i64.wrap (val (List.take i1 l) * 10)) → 
      ((∃ z4 : Int, aIndex Tryd.prog 9 (.string (bs (l))) (.int .i64 ((i1 : Nat) : Int)) = some (.int .u8 z4)) ∧ ∀ z4 : Int, aIndex Tryd.prog 9 (.string (bs (l))) (.int .i64 ((i1 : Nat) : Int)) = some (.int .u8 z4) → 
      ∀ z5 : Int, z5 = (IntKind.u8.wrap (z4 - 48)) → 
      ∀ z6 : Int, z6 = (IntKind.i64.wrap z5) → 
      ∀ z7 : Int, z7 = (IntKind.i64.wrap (z3 + z6)) → 
      ∀ z8 : Int, z8 = (IntKind.i64.wrap (((i1 : Nat) : Int) + 1)) → (∃ ia', ((qr l ia').fst) ∧ (mr l ia' < mr l i1) ∧ Gc [] 0 ⟨[(4, (.int .i64 z8)), (10, (.int .i64 z8)), (9, (.int .i64 ((i1 : Nat) : Int))), (3, (.int .i64 z7)), (18, (.int .i64 z7)), (17, (.int .i64 z6)), (16, (.int .u8 z5)), (15, (.int .u8 z4)), (14, (.int .i64 ((i1 : Nat) : Int))), (13, (.string (bs (l)))), (12, (.int .i64 z3)), (11, (.int .i64 (val (List.take i1 l)))), (8, (.bool true)), (7, (.int .i64 z2)), (6, (.string (bs (l)))), (5, (.int .i64 ((i1 : Nat) : Int))), (4, (.int .i64 ((i1 : Nat) : Int))), (3, (.int .i64 (val (List.take i1 l)))), (2, (.int .i64 0)), (0, (.string (bs (l))))], [], [], .norm⟩ ((qr l ia').snd)))) ∧
     ((decide (((i1 : Nat) : Int) < z2)) = false → Q (.ret (.int .i64 (val (List.take i1 l)))))))) =
    runS Tryd.prog [] false [] 0 (SpecC Tryd.prog []) 20 55 [.string (bs l)] [] .norm (.skip 3 (.inv _ (qr l) (mr l) fun _i1 => .skip 2 (.all (fun _z2 => .skip 0 (.ask (.skip 2 (.all (fun _z3 => .skip 2 (.gen (Int) (fun x => .int .u8 x) fun _z4 => .skip 0 (.all (fun _z5 => .skip 0 (.all (fun _z6 => .skip 0 (.all (fun _z7 => .skip 2 (.all (fun _z8 => .go)))))))))))) (.go)))))) (fun r _ _ _ => Q r) := by kernel_rfl

theorem spec_of_eqr {T : Prop} {fg : Bool} {kn gs : List Nat} {lf m : Nat} {f : FuncId} {args : List Value} {h : AHeap} {c : Scr} {Q : Res → Prop}
    (e : T = runS Tryd.prog gs fg kn lf (SpecC Tryd.prog gs) m f args h .norm c (fun r _ _ _ => Q r)) (t : T) : Fm.Spec Tryd.prog gs f args h (fun r _ => Q r) := spec_of_script Tryd.mixed (Eq.mp e t)

theorem val_bound : ∀ l : List UInt8, l.all isD = true → l.length ≤ 3 → 0 ≤ val l ∧ val l ≤ 999
  | [], _, _ => ⟨by decide, by decide⟩
  | [a], h, _ => by
    simp only [List.all_cons, List.all_nil, Bool.and_true] at h
    have := isD_dv h
    have hv : val [a] = 0 * 10 + dv a := rfl
    omega
  | [a, b], h, _ => by
    simp only [List.all_cons, List.all_nil, Bool.and_true, Bool.and_eq_true] at h
    have := isD_dv h.1; have := isD_dv h.2
    have hv : val [a, b] = (0 * 10 + dv a) * 10 + dv b := rfl
    omega
  | [a, b, c], h, _ => by
    simp only [List.all_cons, List.all_nil, Bool.and_true, Bool.and_eq_true] at h
    have := isD_dv h.1; have := isD_dv h.2.1; have := isD_dv h.2.2
    have hv : val [a, b, c] = ((0 * 10 + dv a) * 10 + dv b) * 10 + dv c := rfl
    omega
  | _ :: _ :: _ :: _ :: _, _, h => by simp only [List.length_cons] at h; omega

theorem take_succ {l : List UInt8} {i : Nat} (h : i < l.length) : l.take (i + 1) = l.take i ++ [l.getD i 0] := by
  rw [List.take_succ_eq_append_getElem h, List.getD_eq_getElem?_getD, List.getElem?_eq_getElem h]; rfl

theorem all_at {l : List UInt8} {i : Nat} (h : i < l.length) (hb : isD (l.getD i 0) = false) : l.all isD = false := by
  cases ha : l.all isD with
  | false => rfl
  | true =>
    have hm : l.getD i 0 ∈ l := by
      rw [List.getD_eq_getElem?_getD, List.getElem?_eq_getElem h]; exact List.getElem_mem h
    rw [List.all_eq_true.1 ha _ hm] at hb; cases hb

theorem oct_spec {l : List UInt8} {m : Int} : Fm.Spec Tryd.prog [] 81 [.string (bs l), .int .i64 m] [] fun r _ => r = .ret (.bool (oct m l)) := by
  refine spec_of_eqr (run_oct l m fun r => r = .ret (.bool (oct m l))) ?_
  rw [bs_toList, bs_toList]
  refine ⟨fun h => ?_, fun h => ?_⟩
  · have h : l = [] := by simpa using h
    subst h; rfl
  have hne : ¬ l = [] := by simpa using h
  have hl0 : 0 < l.length := List.length_pos_iff.2 hne
  clear h
  refine gen_step (aIndex_bs (l := l) (i := 0) xu9 (by omega) (by omega)) ?_
  have hhead : l.head? = some (l.getD 0 0) := by
    cases l with
    | nil => exact absurd rfl hne
    | cons c r => rfl
  refine ⟨fun h => ?_, fun h => ?_⟩
  · have h : (((l.getD 0 0).toNat : Nat) : Int) = 48 := by simpa using h
    have h48 : l.getD 0 0 = 48 := UInt8.toNat.inj (by show _ = 48; omega)
    rw [h48] at hhead
    intro z hz
    have hz : z = ((l.length : Nat) : Int) := hz
    subst hz
    refine ⟨fun hg => ?_, fun hg => ?_⟩
    · have hg := of_decide_eq_true hg
      have : oct m l = false := by
        unfold oct; rw [hhead, decide_eq_false hne, decide_eq_true (show 1 < l.length by omega)]; simp
      rw [this]
    have hg := of_decide_eq_false hg
    have hz0 : (!(decide (l.head? = some 48) && decide (1 < l.length))) = true := by rw [decide_eq_false (show ¬ 1 < l.length by omega), Bool.and_false]; rfl
    intro z hz
    have hz : z = ((l.length : Nat) : Int) := hz
    subst hz
    refine ⟨fun hg => by have := of_decide_eq_true hg; omega, fun _ => ?_⟩
    refine ⟨⟨0, ⟨Nat.zero_le _, by omega, rfl⟩, Gc.env ⟨rfl, rfl, rfl, rfl, rfl, trivial⟩⟩, fun i hi => ?_⟩
    obtain ⟨i1, i2, i3⟩ := hi
    intro z hz
    have hz : z = ((l.length : Nat) : Int) := hz
    subst hz
    refine ⟨fun hd => ?_, fun hd => ?_⟩
    · have hlt : i < l.length := by have := of_decide_eq_true hd; omega
      clear hd
      refine gen_step (aIndex_bs (l := l) (i := (i : Int)) xu9 (by omega) (by omega)) ?_
      rw [Int.toNat_natCast]
      have hb := (l.getD i 0).toNat_lt
      have bad : isD (l.getD i 0) = false → Res.ret (.bool false) = .ret (.bool (oct m l)) := fun h => by
        have : l.all isD = false := all_at hlt h
        unfold oct; rw [this]; simp [hne]
      refine ⟨fun h48 => ⟨fun h57 => ?_, fun h57 => bad ?_⟩, fun h48 => bad ?_⟩
      · have h48 := of_decide_eq_true h48
        have h57 := of_decide_eq_true h57
        have hD : isD (l.getD i 0) = true := by unfold isD; rw [decide_eq_true (by omega), decide_eq_true (by omega)]; rfl
        have hv := val_bound (l.take i) i3 (by rw [List.length_take]; omega)
        have hdv : dv (l.getD i 0) = ((l.getD i 0).toNat : Int) - 48 := rfl
        intro w1 hw1
        refine gen_step (aIndex_bs (l := l) (i := (i : Int)) xu9 (by omega) (by omega)) ?_
        rw [Int.toNat_natCast]
        intro w2 hw2 w3 hw3 w4 hw4 w5 hw5
        rw [wrapi (by omega) (by omega)] at hw1
        rw [wrap8 (by omega) (by omega)] at hw2
        rw [hw2, wrapi (by omega) (by omega)] at hw3
        rw [hw1, hw3, wrapi (by omega) (by omega)] at hw4
        rw [wrapi (by omega) (by omega)] at hw5
        have hw4 : w4 = val (l.take (i + 1)) := by rw [take_succ hlt, val_append, hw4]; rfl
        have hw5 : w5 = ((i + 1 : Nat) : Int) := by omega
        subst hw4 hw5
        exact ⟨i + 1, ⟨by omega, i2, by rw [take_succ hlt, List.all_append, i3]; show (true && (isD (l.getD i 0) && true)) = true; rw [hD]; rfl⟩, by show l.length - (i + 1) < l.length - i; omega, Gc.env ⟨rfl, rfl, rfl, rfl, rfl, trivial⟩⟩
      · have h57 := of_decide_eq_false h57
        unfold isD; rw [Bool.and_eq_false_iff]; exact .inr (decide_eq_false (by omega))
      · have h48 := of_decide_eq_false h48
        unfold isD; rw [Bool.and_eq_false_iff]; exact .inl (decide_eq_false (by omega))
    · have hge : i = l.length := by have := of_decide_eq_false hd; omega
      rw [hge, List.take_length] at i3 ⊢
      have ho : oct m l = decide (val l ≤ m) := by
        unfold oct; rw [i3, decide_eq_true i2, decide_eq_false hne, Bool.false_or, hz0]; simp
      rw [ho]
      refine ⟨fun h => by rw [h], fun h => by rw [h]⟩
  · have h : (((l.getD 0 0).toNat : Nat) : Int) ≠ 48 := by simpa using h
    have hz0 : (!(decide (l.head? = some 48) && decide (1 < l.length))) = true := by
      rw [hhead, decide_eq_false (fun e => h (by rw [Option.some.inj e]; rfl)), Bool.false_and]; rfl
    intro z hz
    have hz : z = ((l.length : Nat) : Int) := hz
    subst hz
    refine ⟨fun hg => ?_, fun hg => ?_⟩
    · have hg := of_decide_eq_true hg
      have : oct m l = false := by
        unfold oct; rw [decide_eq_false hne, decide_eq_false (show ¬ l.length ≤ 3 by omega)]; simp
      rw [this]
    have hg := of_decide_eq_false hg
    refine ⟨⟨0, ⟨Nat.zero_le _, by omega, rfl⟩, Gc.env ⟨rfl, rfl, rfl, rfl, rfl, trivial⟩⟩, fun i hi => ?_⟩
    obtain ⟨i1, i2, i3⟩ := hi
    intro z hz
    have hz : z = ((l.length : Nat) : Int) := hz
    subst hz
    refine ⟨fun hd => ?_, fun hd => ?_⟩
    · have hlt : i < l.length := by have := of_decide_eq_true hd; omega
      clear hd
      refine gen_step (aIndex_bs (l := l) (i := (i : Int)) xu9 (by omega) (by omega)) ?_
      rw [Int.toNat_natCast]
      have hb := (l.getD i 0).toNat_lt
      have bad : isD (l.getD i 0) = false → Res.ret (.bool false) = .ret (.bool (oct m l)) := fun h => by
        have : l.all isD = false := all_at hlt h
        unfold oct; rw [this]; simp [hne]
      refine ⟨fun h48 => ⟨fun h57 => ?_, fun h57 => bad ?_⟩, fun h48 => bad ?_⟩
      · have h48 := of_decide_eq_true h48
        have h57 := of_decide_eq_true h57
        have hD : isD (l.getD i 0) = true := by unfold isD; rw [decide_eq_true (by omega), decide_eq_true (by omega)]; rfl
        have hv := val_bound (l.take i) i3 (by rw [List.length_take]; omega)
        have hdv : dv (l.getD i 0) = ((l.getD i 0).toNat : Int) - 48 := rfl
        intro w1 hw1
        refine gen_step (aIndex_bs (l := l) (i := (i : Int)) xu9 (by omega) (by omega)) ?_
        rw [Int.toNat_natCast]
        intro w2 hw2 w3 hw3 w4 hw4 w5 hw5
        rw [wrapi (by omega) (by omega)] at hw1
        rw [wrap8 (by omega) (by omega)] at hw2
        rw [hw2, wrapi (by omega) (by omega)] at hw3
        rw [hw1, hw3, wrapi (by omega) (by omega)] at hw4
        rw [wrapi (by omega) (by omega)] at hw5
        have hw4 : w4 = val (l.take (i + 1)) := by rw [take_succ hlt, val_append, hw4]; rfl
        have hw5 : w5 = ((i + 1 : Nat) : Int) := by omega
        subst hw4 hw5
        exact ⟨i + 1, ⟨by omega, i2, by rw [take_succ hlt, List.all_append, i3]; show (true && (isD (l.getD i 0) && true)) = true; rw [hD]; rfl⟩, by show l.length - (i + 1) < l.length - i; omega, Gc.env ⟨rfl, rfl, rfl, rfl, rfl, trivial⟩⟩
      · have h57 := of_decide_eq_false h57
        unfold isD; rw [Bool.and_eq_false_iff]; exact .inr (decide_eq_false (by omega))
      · have h48 := of_decide_eq_false h48
        unfold isD; rw [Bool.and_eq_false_iff]; exact .inl (decide_eq_false (by omega))
    · have hge : i = l.length := by have := of_decide_eq_false hd; omega
      rw [hge, List.take_length] at i3 ⊢
      have ho : oct m l = decide (val l ≤ m) := by
        unfold oct; rw [i3, decide_eq_true i2, decide_eq_false hne, Bool.false_or, hz0]; simp
      rw [ho]
      refine ⟨fun h => by rw [h], fun h => by rw [h]⟩

theorem rnum_spec {l : List UInt8} (h1 : l.all isD = true) (h2 : l.length ≤ 3) : Fm.Spec Tryd.prog [] 55 [.string (bs l)] [] fun r _ => r = .ret (.int .i64 (val l)) := by
  refine spec_of_eqr (run_rnum l fun r => r = .ret (.int .i64 (val l))) ?_
  refine ⟨⟨0, Nat.zero_le _, Gc.env ⟨rfl, rfl, rfl, rfl, trivial⟩⟩, fun i hi => ?_⟩
  have hi : i ≤ l.length := hi
  intro z hz
  have hz : z = ((l.length : Nat) : Int) := hz
  subst hz
  refine ⟨fun hd => ?_, fun hd => ?_⟩
  · have hlt : i < l.length := by have := of_decide_eq_true hd; omega
    clear hd
    have hD : isD (l.getD i 0) = true := by
      have hm : l.getD i 0 ∈ l := by
        rw [List.getD_eq_getElem?_getD, List.getElem?_eq_getElem hlt]; exact List.getElem_mem hlt
      exact List.all_eq_true.1 h1 _ hm
    have hb := (l.getD i 0).toNat_lt
    have hd9 := isD_dv hD
    have hdv : dv (l.getD i 0) = ((l.getD i 0).toNat : Int) - 48 := rfl
    have hv := val_bound (l.take i) (List.all_eq_true.2 fun x hx => List.all_eq_true.1 h1 x (List.mem_of_mem_take hx)) (by rw [List.length_take]; omega)
    intro w1 hw1
    refine gen_step (aIndex_bs (l := l) (i := (i : Int)) xu9 (by omega) (by omega)) ?_
    rw [Int.toNat_natCast]
    intro w2 hw2 w3 hw3 w4 hw4 w5 hw5
    rw [wrapi (by omega) (by omega)] at hw1
    rw [wrap8 (by omega) (by omega)] at hw2
    rw [hw2, wrapi (by omega) (by omega)] at hw3
    rw [hw1, hw3, wrapi (by omega) (by omega)] at hw4
    rw [wrapi (by omega) (by omega)] at hw5
    have hw4 : w4 = val (l.take (i + 1)) := by rw [take_succ hlt, val_append, hw4]; rfl
    have hw5 : w5 = ((i + 1 : Nat) : Int) := by omega
    subst hw4 hw5
    exact ⟨i + 1, by show i + 1 ≤ l.length; omega, by show l.length - (i + 1) < l.length - i; omega, Gc.env ⟨rfl, rfl, rfl, rfl, trivial⟩⟩
  · have hge : i = l.length := by have := of_decide_eq_false hd; omega
    rw [hge, List.take_length]

end Go.Proofs.YtopladipgobpjaaDoor
