/-
  The reference's Begins4 and Whole4: their contracts. Condition: the text's length is at most 1000.
-/
import Derived.Test.YtopladipgobpjaaDoorSplit
namespace Go.Proofs.YtopladipgobpjaaDoor
open Go.Fm

def qg (l : List UInt8) (i : Nat) : Prop × St := (i ≤ (splitL 46 [] l).length ∧ (splitL 46 [] l).length ≤ 4 ∧ ∀ j < i, oct 255 ((splitL 46 [] l).getD j []) = true ∧ (j + 1 < (splitL 46 [] l).length → (splitL 46 [] l).getD j [] ≠ []),
  ⟨[(4, .int .i64 i), (3, .slice (some ⟨0, 0, some 1⟩) (splitL 46 [] l).length (splitL 46 [] l).length), (2, .bool false), (0, .string (bs l))], [], [.tcells (sc (splitL 46 [] l)) 9 (some 0)], .norm⟩)
def mg (l : List UInt8) (i : Nat) : Nat := (splitL 46 [] l).length - i

theorem run_beg (l : List UInt8) (Q : Res → Prop) : ((SpecC Tryd.prog [] (.fn 54) [(.string (bs (l))), (.int .u8 46)] [] (fun r h' => ((true) = true → r = (((.ret (.slice (some ⟨0, 0, (some 1)⟩) ((splitL 46 [] l).length) ((splitL 46 [] l).length))), ([.tcells (sc (splitL 46 [] l)) 9 (some 0)] : AHeap)) : Res × AHeap).1 ∧ h' = (((.ret (.slice (some ⟨0, 0, (some 1)⟩) ((splitL 46 [] l).length) ((splitL 46 [] l).length))), ([.tcells (sc (splitL 46 [] l)) 9 (some 0)] : AHeap)) : Res × AHeap).2) ∧ ((true) = false → r = (((.ret .nilIface), ([] : AHeap)) : Res × AHeap).1 ∧ h' = (((.ret .nilIface), ([] : AHeap)) : Res × AHeap).2)) ∧
   (((true) = true → 
    ∀ z1 : Int, z1 = ((((splitL 46 [] l).length : Nat) : Int)) → 
    (((decide (z1 > 4)) = true → Q (.ret (.bool false))) ∧
     ((decide (z1 > 4)) = false → 
      ((∃ ia, ((qg l ia).fst) ∧ Gc [] 0 ⟨[(4, (.int .i64 0)), (9, (.bool false)), (8, (.int .i64 z1)), (7, (.slice (some ⟨0, 0, (some 1)⟩) ((splitL 46 [] l).length) ((splitL 46 [] l).length))), (3, (.slice (some ⟨0, 0, (some 1)⟩) ((splitL 46 [] l).length) ((splitL 46 [] l).length))), (6, (.slice (some ⟨0, 0, (some 1)⟩) ((splitL 46 [] l).length) ((splitL 46 [] l).length))), (5, (.string (bs (l)))), (2, (.bool false)), (0, (.string (bs (l))))], [], [.tcells (sc (splitL 46 [] l)) 9 (some 0)], .norm⟩ ((qg l ia).snd)) ∧
       ∀ i2, (qg l i2).fst → 
        ∀ z3 : Int, z3 = ((((splitL 46 [] l).length : Nat) : Int)) → 
        (((decide (((i2 : Nat) : Int) < z3)) = true → 
          ((aIndexAddr Tryd.prog 74 (.slice (some ⟨0, 0, (some 1)⟩) ((splitL 46 [] l).length) ((splitL 46 [] l).length)) (.int .i64 ((i2 : Nat) : Int)) = some (.pointer (some ⟨0, (0 + (((i2 : Nat) : Int)).toNat * 1), none⟩))) ∧ 
          ((∃ z4 : List UInt8, aLoad Tryd.prog 9 (.pointer (some ⟨0, (0 + (((i2 : Nat) : Int)).toNat * 1), none⟩)) [.tcells (sc (splitL 46 [] l)) 9 (some 0)] = some (.string (bs z4))) ∧ ∀ z4 : List UInt8, aLoad Tryd.prog 9 (.pointer (some ⟨0, (0 + (((i2 : Nat) : Int)).toNat * 1), none⟩)) [.tcells (sc (splitL 46 [] l)) 9 (some 0)] = some (.string (bs z4)) → 
          (SpecC Tryd.prog [] (.fn 81) [(.string (bs (z4))), (.int .i64 255)] [.tcells (sc (splitL 46 [] l)) 9 (some 0)] (fun r h' => ∃ ia, ((fun _ : Unit => (True, Res.ret (.bool (oct 255 z4)), ([.tcells (sc (splitL 46 [] l)) 9 (some 0)] : AHeap))) ia).1 ∧ r = ((fun _ : Unit => (True, Res.ret (.bool (oct 255 z4)), ([.tcells (sc (splitL 46 [] l)) 9 (some 0)] : AHeap))) ia).2.1 ∧ h' = ((fun _ : Unit => (True, Res.ret (.bool (oct 255 z4)), ([.tcells (sc (splitL 46 [] l)) 9 (some 0)] : AHeap))) ia).2.2) ∧ ∀ _ : Unit, True → 
          (((!oct 255 z4) = true → Q (.ret (.bool false))) ∧
           ((!oct 255 z4) = false → 
            ∀ z5 : Int, z5 = ((((splitL 46 [] l).length : Nat) : Int)) → 
            ∀ z6 : Int, z6 = (IntKind.i64.wrap (z5 - 1)) → 
            (((decide (((i2 : Nat) : Int) < z6)) = true → 
              ((aIndexAddr Tryd.prog 74 (.slice (some ⟨0, 0, (some 1)⟩) ((splitL 46 [] l).length) ((splitL 46 [] l).length)) (.int .i64 ((i2 : Nat) : Int)) = some (.pointer (some ⟨0, (0 + (((i2 : Nat) : Int)).toNat * 1), none⟩))) ∧ 
              ((∃ z7 : List UInt8, aLoad Tryd.prog 9 (.pointer (some ⟨0, (0 + (((i2 : Nat) : Int)).toNat * 1), none⟩)) [.tcells (sc (splitL 46 [] l)) 9 (some 0)] = some (.string (bs z7))) ∧ ∀ z7 : List UInt8, aLoad Tryd.prog 9 (.pointer (some ⟨0, (0 + (((i2 : Nat) : Int)).toNat * 1), none⟩)) [.tcells (sc (splitL 46 [] l)) 9 (some 0)] = some (.string (bs z7)) → 
              ((((bs z7).toList == (bs []).toList) = true → Q (.ret (.bool false))) ∧
               (((bs z7).toList == (bs []).toList) = false → 
                ∀ z8 : Int, z8 = (IntKind.i64.wrap (((i2 : Nat) : Int) + 1)) → (∃ ia', ((qg l ia').fst) ∧ (mg l ia' < mg l i2) ∧ Gc [] 0 ⟨[(4, (.int .i64 z8)), (15, (.int .i64 z8)), (14, (.int .i64 ((i2 : Nat) : Int))), (35, (.bool false)), (34, (.bool false)), (33, (.bool false)), (32, (.string (bs (z7)))), (31, (.pointer (some ⟨0, (0 + (((i2 : Nat) : Int)).toNat * 1), none⟩))), (30, (.int .i64 ((i2 : Nat) : Int))), (29, (.slice (some ⟨0, 0, (some 1)⟩) ((splitL 46 [] l).length) ((splitL 46 [] l).length))), (28, (.bool true)), (27, (.bool true)), (26, (.int .i64 z6)), (25, (.int .i64 z5)), (24, (.slice (some ⟨0, 0, (some 1)⟩) ((splitL 46 [] l).length) ((splitL 46 [] l).length))), (23, (.int .i64 ((i2 : Nat) : Int))), (22, (.bool false)), (21, (.bool false)), (20, (.bool (oct 255 z4))), (19, (.string (bs (z4)))), (18, (.pointer (some ⟨0, (0 + (((i2 : Nat) : Int)).toNat * 1), none⟩))), (17, (.int .i64 ((i2 : Nat) : Int))), (16, (.slice (some ⟨0, 0, (some 1)⟩) ((splitL 46 [] l).length) ((splitL 46 [] l).length))), (13, (.bool true)), (12, (.int .i64 z3)), (11, (.slice (some ⟨0, 0, (some 1)⟩) ((splitL 46 [] l).length) ((splitL 46 [] l).length))), (10, (.int .i64 ((i2 : Nat) : Int))), (4, (.int .i64 ((i2 : Nat) : Int))), (3, (.slice (some ⟨0, 0, (some 1)⟩) ((splitL 46 [] l).length) ((splitL 46 [] l).length))), (2, (.bool false)), (0, (.string (bs (l))))], [], [.tcells (sc (splitL 46 [] l)) 9 (some 0)], .norm⟩ ((qg l ia').snd))))))) ∧
             ((decide (((i2 : Nat) : Int) < z6)) = false → 
              ∀ z7 : Int, z7 = (IntKind.i64.wrap (((i2 : Nat) : Int) + 1)) → (∃ ia', ((qg l ia').fst) ∧ (mg l ia' < mg l i2) ∧ Gc [] 0 ⟨[(4, (.int .i64 z7)), (15, (.int .i64 z7)), (14, (.int .i64 ((i2 : Nat) : Int))), (35, (.bool false)), (34, (.bool false)), (33, (.tuple ⟨[]⟩)), (32, (.tuple ⟨[]⟩)), (31, (.tuple ⟨[]⟩)), (30, (.tuple ⟨[]⟩)), (29, (.tuple ⟨[]⟩)), (28, (.bool false)), (27, (.bool false)), (26, (.int .i64 z6)), (25, (.int .i64 z5)), (24, (.slice (some ⟨0, 0, (some 1)⟩) ((splitL 46 [] l).length) ((splitL 46 [] l).length))), (23, (.int .i64 ((i2 : Nat) : Int))), (22, (.bool false)), (21, (.bool false)), (20, (.bool (oct 255 z4))), (19, (.string (bs (z4)))), (18, (.pointer (some ⟨0, (0 + (((i2 : Nat) : Int)).toNat * 1), none⟩))), (17, (.int .i64 ((i2 : Nat) : Int))), (16, (.slice (some ⟨0, 0, (some 1)⟩) ((splitL 46 [] l).length) ((splitL 46 [] l).length))), (13, (.bool true)), (12, (.int .i64 z3)), (11, (.slice (some ⟨0, 0, (some 1)⟩) ((splitL 46 [] l).length) ((splitL 46 [] l).length))), (10, (.int .i64 ((i2 : Nat) : Int))), (4, (.int .i64 ((i2 : Nat) : Int))), (3, (.slice (some ⟨0, 0, (some 1)⟩) ((splitL 46 [] l).length) ((splitL 46 [] l).length))), (2, (.bool false)), (0, (.string (bs (l))))], [], [.tcells (sc (splitL 46 [] l)) 9 (some 0)], .norm⟩ ((qg l ia').snd)))))))))) ∧
         ((decide (((i2 : Nat) : Int) < z3)) = false → Q (.ret (.bool true)))))))) ∧
   ((true) = false → False)))) =
    runS Tryd.prog [] false [81, 54] 0 (SpecC Tryd.prog []) 20 52 [.string (bs l)] [] .norm (.skip 2 (.call2 (true) ((.ret (.slice (some ⟨0, 0, (some 1)⟩) ((splitL 46 [] l).length) ((splitL 46 [] l).length))), ([.tcells (sc (splitL 46 [] l)) 9 (some 0)] : AHeap)) ((.ret .nilIface), ([] : AHeap)) (.skip 2 (.all (fun _z1 => .skip 0 (.ask (.go) (.skip 2 (.inv _ (qg l) (mg l) fun i2 => .skip 2 (.all (fun _z3 => .skip 0 (.ask (.skip 3 (.val (.pointer (some ⟨0, (0 + (((i2 : Nat) : Int)).toNat * 1), none⟩)) (.skip 0 (.gen (List UInt8) (fun x => .string (bs x)) fun z4 => .skip 0 (.call Unit (fun _ : Unit => (True, Res.ret (.bool (oct 255 z4)), ([.tcells (sc (splitL 46 [] l)) 9 (some 0)] : AHeap))) fun _ => .skip 0 (.ask (.go) (.skip 6 (.all (fun _z5 => .skip 1 (.all (fun _z6 => .skip 1 (.ask (.skip 7 (.val (.pointer (some ⟨0, (0 + (((i2 : Nat) : Int)).toNat * 1), none⟩)) (.skip 1 (.gen (List UInt8) (fun x => .string (bs x)) fun _z7 => .skip 1 (.ask (.go) (.skip 5 (.all (fun _z8 => .go)))))))) (.skip 12 (.all (fun _z7 => .go))))))))))))))) (.go)))))))))) (.skip 0 .go))) (fun r _ _ _ => Q r) := by kernel_rfl
theorem run_who (l : List UInt8) (Q : Res → Prop) : ((SpecC Tryd.prog [] (.fn 54) [(.string (bs (l))), (.int .u8 46)] [] (fun r h' => ((true) = true → r = (((.ret (.slice (some ⟨0, 0, (some 1)⟩) ((splitL 46 [] l).length) ((splitL 46 [] l).length))), ([.tcells (sc (splitL 46 [] l)) 9 (some 0)] : AHeap)) : Res × AHeap).1 ∧ h' = (((.ret (.slice (some ⟨0, 0, (some 1)⟩) ((splitL 46 [] l).length) ((splitL 46 [] l).length))), ([.tcells (sc (splitL 46 [] l)) 9 (some 0)] : AHeap)) : Res × AHeap).2) ∧ ((true) = false → r = (((.ret .nilIface), ([] : AHeap)) : Res × AHeap).1 ∧ h' = (((.ret .nilIface), ([] : AHeap)) : Res × AHeap).2)) ∧
   (((true) = true → 
    (SpecC Tryd.prog [] (.fn 52) [(.string (bs (l)))] [.tcells (sc (splitL 46 [] l)) 9 (some 0)] (fun r h' => ∃ ia, ((fun _ : Unit => (True, Res.ret (.bool (b4 l)), ([.tcells (sc (splitL 46 [] l)) 9 (some 0)] : AHeap))) ia).1 ∧ r = ((fun _ : Unit => (True, Res.ret (.bool (b4 l)), ([.tcells (sc (splitL 46 [] l)) 9 (some 0)] : AHeap))) ia).2.1 ∧ h' = ((fun _ : Unit => (True, Res.ret (.bool (b4 l)), ([.tcells (sc (splitL 46 [] l)) 9 (some 0)] : AHeap))) ia).2.2) ∧ ∀ _ : Unit, True → 
    (((b4 l) = true → 
      ∀ z1 : Int, z1 = ((((splitL 46 [] l).length : Nat) : Int)) → 
      (((z1 == 4) = true → 
        ((aIndexAddr Tryd.prog 74 (.slice (some ⟨0, 0, (some 1)⟩) ((splitL 46 [] l).length) ((splitL 46 [] l).length)) (.int .i64 3) = some (.pointer (some ⟨0, 3, none⟩))) ∧ 
        ((∃ z2 : List UInt8, aLoad Tryd.prog 9 (.pointer (some ⟨0, 3, none⟩)) [.tcells (sc (splitL 46 [] l)) 9 (some 0)] = some (.string (bs z2))) ∧ ∀ z2 : List UInt8, aLoad Tryd.prog 9 (.pointer (some ⟨0, 3, none⟩)) [.tcells (sc (splitL 46 [] l)) 9 (some 0)] = some (.string (bs z2)) → 
        (((!(bs z2).toList == (bs []).toList) = true → Q (.ret (.bool true))) ∧
         ((!(bs z2).toList == (bs []).toList) = false → Q (.ret (.bool false))))))) ∧
       ((z1 == 4) = false → Q (.ret (.bool false))))) ∧
     ((b4 l) = false → Q (.ret (.bool false)))))) ∧
   ((true) = false → False)))) =
    runS Tryd.prog [] false [81, 54, 52] 0 (SpecC Tryd.prog []) 20 53 [.string (bs l)] [] .norm (.skip 2 (.call2 (true) ((.ret (.slice (some ⟨0, 0, (some 1)⟩) ((splitL 46 [] l).length) ((splitL 46 [] l).length))), ([.tcells (sc (splitL 46 [] l)) 9 (some 0)] : AHeap)) ((.ret .nilIface), ([] : AHeap)) (.skip 2 (.call Unit (fun _ : Unit => (True, Res.ret (.bool (b4 l)), ([.tcells (sc (splitL 46 [] l)) 9 (some 0)] : AHeap))) fun _ => .skip 0 (.ask (.skip 3 (.all (fun _z1 => .skip 1 (.ask (.skip 5 (.val (.pointer (some ⟨0, 3, none⟩)) (.skip 1 (.gen (List UInt8) (fun x => .string (bs x)) fun _z2 => .skip 1 (.ask (.go) (.go)))))) (.go))))) (.go)))) (.skip 0 .go))) (fun r _ _ _ => Q r) := by kernel_rfl

theorem spec_of_eqr9 {T : Prop} {fg : Bool} {kn gs : List Nat} {lf m : Nat} {f : FuncId} {args : List Value} {h : AHeap} {c : Scr} {Q : Res → Prop}
    (e : T = runS Tryd.prog gs fg kn lf (SpecC Tryd.prog gs) m f args h .norm c (fun r _ _ _ => Q r)) (t : T) : Fm.Spec Tryd.prog gs f args h (fun r _ => Q r) := spec_of_script Tryd.mixed (Eq.mp e t)

theorem gen_stepS {o : Option Value} {v : List UInt8} {X : List UInt8 → Prop} (h : o = some (.string (bs v))) (hX : X v) : (∃ z : List UInt8, o = some (.string (bs z))) ∧ ∀ z : List UInt8, o = some (.string (bs z)) → X z :=
  ⟨⟨v, h⟩, fun z hz => by
    have e : v = z := by
      have := h.symm.trans hz
      injection this with this; injection this with this
      exact bs_inj.1 this
    rw [← e]; exact hX⟩

theorem splitL_len (x : UInt8) : ∀ (l cur : List UInt8), (splitL x cur l).length ≤ l.length + 1
  | [], _ => by simp [splitL]
  | c :: r, cur => by
    unfold splitL
    split
    · have := splitL_len x r []; simp only [List.length_cons]; omega
    · have := splitL_len x r (cur ++ [c]); simp only [List.length_cons]; omega

theorem split_call {l : List UInt8} (hl : l.length ≤ 1000) {X : Prop} (hX : X) :
    SpecC Tryd.prog [] (.fn 54) [.string (bs l), .int .u8 46] [] (fun r h' => ((true) = true → r = (((.ret (.slice (some ⟨0, 0, (some 1)⟩) ((splitL 46 [] l).length) ((splitL 46 [] l).length))), ([.tcells (sc (splitL 46 [] l)) 9 (some 0)] : AHeap)) : Res × AHeap).1 ∧ h' = (((.ret (.slice (some ⟨0, 0, (some 1)⟩) ((splitL 46 [] l).length) ((splitL 46 [] l).length))), ([.tcells (sc (splitL 46 [] l)) 9 (some 0)] : AHeap)) : Res × AHeap).2) ∧
      ((true) = false → r = (((.ret .nilIface), ([] : AHeap)) : Res × AHeap).1 ∧ h' = (((.ret .nilIface), ([] : AHeap)) : Res × AHeap).2)) ∧ (((true) = true → X) ∧ ((true) = false → False)) :=
  ⟨.inl (Spec.mono (split_spec hl) (by rintro r h' ⟨rfl, rfl⟩; exact ⟨fun _ => ⟨rfl, rfl⟩, fun h => by cases h⟩)), fun _ => hX, fun h => by cases h⟩

theorem fun_of {f : FuncId} {args : List Value} {v : Value} (h : Fm.Spec Tryd.prog [] f args [] fun r _ => r = .ret v) (hv : Flat v) : Fun f args v :=
  Spec.mono h (by rintro r h' rfl; exact ⟨_, rfl, hv, rfl⟩)

theorem ty_s9 : aSize Tryd.prog 9 = some 1 := by kernel_rfl
theorem ty_a9 : aIsAgg Tryd.prog 9 = some false := by kernel_rfl

theorem b4_iff (l : List UInt8) : b4 l = true ↔ (splitL 46 [] l).length ≤ 4 ∧ ∀ j < (splitL 46 [] l).length, oct 255 ((splitL 46 [] l).getD j []) = true ∧ (j + 1 < (splitL 46 [] l).length → (splitL 46 [] l).getD j [] ≠ []) := by
  unfold b4
  generalize splitL 46 [] l = P
  simp only [Bool.and_eq_true, decide_eq_true_eq, List.all_eq_true]
  constructor
  · rintro ⟨⟨h1, h2⟩, h3⟩
    refine ⟨h1, fun j hj => ⟨h2 _ ?_, fun hj' => h3 _ ?_⟩⟩
    · rw [List.getD_eq_getElem?_getD, List.getElem?_eq_getElem hj]; exact List.getElem_mem hj
    · rw [List.getD_eq_getElem?_getD, List.getElem?_eq_getElem hj]
      have hd : j < P.dropLast.length := by rw [List.length_dropLast]; omega
      have := List.getElem_mem hd
      rwa [List.getElem_dropLast] at this
  · rintro ⟨h1, h2⟩
    refine ⟨⟨h1, fun p hp => ?_⟩, fun p hp => ?_⟩
    · obtain ⟨j, hj, rfl⟩ := List.getElem_of_mem hp
      have := (h2 j hj).1
      rwa [List.getD_eq_getElem?_getD, List.getElem?_eq_getElem hj] at this
    · obtain ⟨j, hj, rfl⟩ := List.getElem_of_mem hp
      rw [List.length_dropLast] at hj
      have := (h2 j (by omega)).2 (by omega)
      rw [List.getElem_dropLast]
      rwa [List.getD_eq_getElem?_getD, List.getElem?_eq_getElem (by omega)] at this

set_option maxRecDepth 20000 in
theorem beg_spec {l : List UInt8} (hl : l.length ≤ 1000) : Fm.Spec Tryd.prog [] 52 [.string (bs l)] [] fun r _ => r = .ret (.bool (b4 l)) := by
  refine spec_of_eqr9 (run_beg l fun r => r = .ret (.bool (b4 l))) ?_
  have hP := splitL_len 46 l []
  have no : ¬ (b4 l = true) → Res.ret (.bool false) = .ret (.bool (b4 l)) := fun h => by
    cases hb : b4 l with
    | false => rfl
    | true => exact absurd hb h
  refine split_call hl ?_
  intro z hz
  subst hz
  refine ⟨fun hg => no fun h => ?_, fun hg => ?_⟩
  · have := ((b4_iff l).1 h).1; have := of_decide_eq_true hg; omega
  have hg := of_decide_eq_false hg
  refine ⟨⟨0, ⟨Nat.zero_le _, by omega, fun j hj => absurd hj (Nat.not_lt_zero j)⟩, Gc.env ⟨rfl, rfl, rfl, rfl, trivial⟩⟩, fun i hi => ?_⟩
  obtain ⟨c1, c2, c3⟩ := hi
  intro z hz
  subst hz
  refine ⟨fun hd => ?_, fun hd => ?_⟩
  · have hlt : i < (splitL 46 [] l).length := by have := of_decide_eq_true hd; omega
    clear hd
    refine ⟨aIndexAddr_slice (n := (i : Int)) ty_u74 ty_s9 (by omega) (by omega), ?_⟩
    rw [Int.toNat_natCast]
    refine gen_stepS (aLoad_sc (l := splitL 46 [] l) ty_a9 rfl hlt) ?_
    refine (fun_of oct_spec (.bool _)).call (two_mem (.string _) (.int _ _)) ?_
    refine ⟨fun ho => no fun h => ?_, fun ho => ?_⟩
    · have := (((b4_iff l).1 h).2 i hlt).1
      rw [this] at ho; cases ho
    have ho : oct 255 ((splitL 46 [] l).getD i []) = true := by
      cases hb : oct 255 ((splitL 46 [] l).getD i []) with
      | true => rfl
      | false => rw [hb] at ho; cases ho
    intro z5 hz5 z6 hz6
    rw [hz5, wrapi (by omega) (by omega)] at hz6
    refine ⟨fun hb => ?_, fun hb => ?_⟩
    · have hb := of_decide_eq_true hb
      refine ⟨aIndexAddr_slice (n := (i : Int)) ty_u74 ty_s9 (by omega) (by omega), ?_⟩
      refine gen_stepS (aLoad_sc (l := splitL 46 [] l) ty_a9 rfl hlt) ?_
      rw [bs_toList, bs_toList]
      refine ⟨fun he => no fun h => ?_, fun he => ?_⟩
      · have he : (splitL 46 [] l).getD i [] = [] := by simpa using he
        exact (((b4_iff l).1 h).2 i hlt).2 (by omega) he
      · have he : (splitL 46 [] l).getD i [] ≠ [] := by
          intro e; rw [e] at he; cases he
        intro w hw
        have hw : w = ((i + 1 : Nat) : Int) := by rw [hw, wrapi (by omega) (by omega)]; omega
        subst hw
        refine ⟨i + 1, ⟨by omega, c2, fun j hj => ?_⟩, by show (splitL 46 [] l).length - (i + 1) < (splitL 46 [] l).length - i; omega, Gc.env ⟨rfl, rfl, rfl, rfl, trivial⟩⟩
        rcases Nat.lt_succ_iff_lt_or_eq.1 hj with hj | rfl
        · exact c3 j hj
        · exact ⟨ho, fun _ => he⟩
    · have hb := of_decide_eq_false hb
      intro w hw
      have hw : w = ((i + 1 : Nat) : Int) := by rw [hw, wrapi (by omega) (by omega)]; omega
      subst hw
      refine ⟨i + 1, ⟨by omega, c2, fun j hj => ?_⟩, by show (splitL 46 [] l).length - (i + 1) < (splitL 46 [] l).length - i; omega, Gc.env ⟨rfl, rfl, rfl, rfl, trivial⟩⟩
      rcases Nat.lt_succ_iff_lt_or_eq.1 hj with hj | rfl
      · exact c3 j hj
      · exact ⟨ho, fun h => by omega⟩
  · have hge : i = (splitL 46 [] l).length := by have := of_decide_eq_false hd; omega
    have : b4 l = true := (b4_iff l).2 ⟨c2, fun j hj => c3 j (by omega)⟩
    rw [this]

set_option maxRecDepth 20000 in
theorem who_spec {l : List UInt8} (hl : l.length ≤ 1000) : Fm.Spec Tryd.prog [] 53 [.string (bs l)] [] fun r _ => r = .ret (.bool (w4 l)) := by
  refine spec_of_eqr9 (run_who l fun r => r = .ret (.bool (w4 l))) ?_
  refine split_call hl ?_
  refine (fun_of (beg_spec hl) (.bool _)).call (one_mem (.string _)) ?_
  refine ⟨fun hb => ?_, fun hb => ?_⟩
  · intro z hz
    subst hz
    refine ⟨fun h4 => ?_, fun h4 => ?_⟩
    · have h4 : (((splitL 46 [] l).length : Nat) : Int) = 4 := by simpa using h4
      have h4 : (splitL 46 [] l).length = 4 := by omega
      refine ⟨aIndexAddr_slice (n := 3) ty_u74 ty_s9 (by omega) (by omega), ?_⟩
      refine gen_stepS (aLoad_sc (l := splitL 46 [] l) (k := 3) ty_a9 rfl (by omega)) ?_
      rw [bs_toList, bs_toList]
      have hw : w4 l = decide ((splitL 46 [] l).getD 3 [] ≠ []) := by unfold w4; rw [hb, decide_eq_true h4]; rfl
      rw [hw]
      refine ⟨fun h => ?_, fun h => ?_⟩
      · have h : (splitL 46 [] l).getD 3 [] ≠ [] := by intro e; rw [e] at h; cases h
        rw [decide_eq_true h]
      · have h : (splitL 46 [] l).getD 3 [] = [] := by simpa using h
        rw [h]; rfl
    · have h4 : (((splitL 46 [] l).length : Nat) : Int) ≠ 4 := by simpa using h4
      have h4 : ¬ (splitL 46 [] l).length = 4 := by omega
      have : w4 l = false := by unfold w4; rw [decide_eq_false h4, Bool.and_false, Bool.false_and]
      rw [this]
  · have : w4 l = false := by unfold w4; rw [hb]; rfl
    rw [this]

end Go.Proofs.YtopladipgobpjaaDoor
