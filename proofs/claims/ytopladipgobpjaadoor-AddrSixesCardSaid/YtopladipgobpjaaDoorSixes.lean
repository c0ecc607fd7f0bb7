/-
  AddrSixes: whatever the text, the law returns true, and the argument reads as it did. Condition (the card's own): the three listed tables read as the program's text lays them.
-/
import Derived.Test.YtopladipgobpjaaDoorRx9
import Derived.Test.YtopladipgobpjaaDoorBase
import Derived.Test.YtopladipgobpjaaDoorCards
import Derived.Test.YtopladipgobpjaaDoorTie
import Derived.SevenTiedAt
import Derived.ChangeMaps
namespace Go.Proofs.YtopladipgobpjaaDoor
open Go Go.Fm Go.ChangeShapes Go.WideShapes Go.ChangeAt Go.RowKit

instance ufZ : UF := ⟨[5, 9, 3]⟩

/-- the answer's bytes, place and error -/
def sb (l : List UInt8) (i : Nat) : Int := match p6R l with
  | (some v, _) => byteAt v i
  | (none, _) => 0
def sn (l : List UInt8) : Int := match p6R l with
  | (some _, _) => 0
  | (none, n) => n
def se (l : List UInt8) : Int := match p6R l with
  | (some _, _) => 0
  | (none, _) => 20

theorem p6V_eq (l : List UInt8) : p6V l = .tuple ⟨[.agg ⟨[.int .u8 (sb l 0), .int .u8 (sb l 1), .int .u8 (sb l 2), .int .u8 (sb l 3), .int .u8 (sb l 4), .int .u8 (sb l 5), .int .u8 (sb l 6), .int .u8 (sb l 7), .int .u8 (sb l 8), .int .u8 (sb l 9), .int .u8 (sb l 10), .int .u8 (sb l 11), .int .u8 (sb l 12), .int .u8 (sb l 13), .int .u8 (sb l 14), .int .u8 (sb l 15)]⟩, .int .i64 (sn l), .int .i64 (se l)]⟩ := by
  unfold p6V sb sn se
  cases h : p6R l with
  | mk o n =>
    cases o with
    | none => rfl
    | some v => rfl

theorem flat_p6 (l : List UInt8) : Flat (.tuple ⟨[.agg ⟨[.int .u8 (sb l 0), .int .u8 (sb l 1), .int .u8 (sb l 2), .int .u8 (sb l 3), .int .u8 (sb l 4), .int .u8 (sb l 5), .int .u8 (sb l 6), .int .u8 (sb l 7), .int .u8 (sb l 8), .int .u8 (sb l 9), .int .u8 (sb l 10), .int .u8 (sb l 11), .int .u8 (sb l 12), .int .u8 (sb l 13), .int .u8 (sb l 14), .int .u8 (sb l 15)]⟩, .int .i64 (sn l), .int .i64 (se l)]⟩) := by
  refine .tuple fun i v e => ?_
  have hm := List.mem_of_getElem? (show ([.agg ⟨[.int .u8 (sb l 0), .int .u8 (sb l 1), .int .u8 (sb l 2), .int .u8 (sb l 3), .int .u8 (sb l 4), .int .u8 (sb l 5), .int .u8 (sb l 6), .int .u8 (sb l 7), .int .u8 (sb l 8), .int .u8 (sb l 9), .int .u8 (sb l 10), .int .u8 (sb l 11), .int .u8 (sb l 12), .int .u8 (sb l 13), .int .u8 (sb l 14), .int .u8 (sb l 15)]⟩, .int .i64 (sn l), .int .i64 (se l)] : List Value)[i]? = some v by simpa using e)
  simp only [List.mem_cons, List.not_mem_nil, or_false] at hm
  rcases hm with rfl | rfl | rfl
  · exact flat_bytes [sb l 0, sb l 1, sb l 2, sb l 3, sb l 4, sb l 5, sb l 6, sb l 7, sb l 8, sb l 9, sb l 10, sb l 11, sb l 12, sb l 13, sb l 14, sb l 15] [] none_mem
  · exact .int _ _
  · exact .int _ _

abbrev sL (l : List UInt8) : List Value := [(.int .u8 (sb l 0)), (.int .u8 (sb l 1)), (.int .u8 (sb l 2)), (.int .u8 (sb l 3)), (.int .u8 (sb l 4)), (.int .u8 (sb l 5)), (.int .u8 (sb l 6)), (.int .u8 (sb l 7)), (.int .u8 (sb l 8)), (.int .u8 (sb l 9)), (.int .u8 (sb l 10)), (.int .u8 (sb l 11)), (.int .u8 (sb l 12)), (.int .u8 (sb l 13)), (.int .u8 (sb l 14)), (.int .u8 (sb l 15))]
theorem sixes_T (l : List UInt8) (Q : Res → Prop) : ((SpecC Tryd.prog [0, 2, 3] (.fn 18) [(.string (bs (l)))] [.cells pow10 true, .dead, .cells tab32 true, .cells tab64 true] (fun r h' => ∃ ia, ((fun _ : Unit => (True, Res.ret (.tuple ⟨[(.agg ⟨(sL l)⟩), (.int .i64 (sn l)), (.int .i64 (se l))]⟩), ([.cells pow10 true, .dead, .cells tab32 true, .cells tab64 true] : AHeap))) ia).1 ∧ r = ((fun _ : Unit => (True, Res.ret (.tuple ⟨[(.agg ⟨(sL l)⟩), (.int .i64 (sn l)), (.int .i64 (se l))]⟩), ([.cells pow10 true, .dead, .cells tab32 true, .cells tab64 true] : AHeap))) ia).2.1 ∧ h' = ((fun _ : Unit => (True, Res.ret (.tuple ⟨[(.agg ⟨(sL l)⟩), (.int .i64 (sn l)), (.int .i64 (se l))]⟩), ([.cells pow10 true, .dead, .cells tab32 true, .cells tab64 true] : AHeap))) ia).2.2) ∧ ∀ _ : Unit, True → 
  (SpecC Tryd.prog [0, 2, 3] (.fn 19) [(.string (bs (l)))] [.cells pow10 true, .dead, .cells tab32 true, .cells tab64 true, .tcells (sL l) 31 (some 0)] (fun r h' => ∃ ia, ((fun _ : Unit => (True, Res.ret (.tuple ⟨[(.agg ⟨(sL l)⟩), (.int .i64 (sn l)), (.int .i64 (se l))]⟩), ([.cells pow10 true, .dead, .cells tab32 true, .cells tab64 true, .tcells (sL l) 31 (some 0)] : AHeap))) ia).1 ∧ r = ((fun _ : Unit => (True, Res.ret (.tuple ⟨[(.agg ⟨(sL l)⟩), (.int .i64 (sn l)), (.int .i64 (se l))]⟩), ([.cells pow10 true, .dead, .cells tab32 true, .cells tab64 true, .tcells (sL l) 31 (some 0)] : AHeap))) ia).2.1 ∧ h' = ((fun _ : Unit => (True, Res.ret (.tuple ⟨[(.agg ⟨(sL l)⟩), (.int .i64 (sn l)), (.int .i64 (se l))]⟩), ([.cells pow10 true, .dead, .cells tab32 true, .cells tab64 true, .tcells (sL l) 31 (some 0)] : AHeap))) ia).2.2) ∧ ∀ _ : Unit, True → 
  ((∃ z1 : Bool, aBin2 Tryd.prog BinOp.eql 31 (Operand.tmp 21) (Operand.tmp 22) (.agg ⟨(sL l)⟩) (.agg ⟨(sL l)⟩) = some (.bool z1)) ∧
   (aBin2 Tryd.prog BinOp.eql 31 (Operand.tmp 21) (Operand.tmp 22) (.agg ⟨(sL l)⟩) (.agg ⟨(sL l)⟩) = some (.bool true) → 
    (((sn l == sn l) = true → 
      (((se l == se l) = true → 
        (SpecC Tryd.prog [0, 2, 3] (.fn 17) [] [.cells pow10 true, .dead, .cells tab32 true, .cells tab64 true, .tcells (sL l) 31 (some 0), .tcells (sL l) 31 (some 0)] (fun r h' => ∃ ia, ((fun _ : Unit => (True, Res.ret (.bool true), ([.cells pow10 true, .dead, .cells tab32 true, .cells tab64 true, .tcells (sL l) 31 (some 0), .tcells (sL l) 31 (some 0)] : AHeap))) ia).1 ∧ r = ((fun _ : Unit => (True, Res.ret (.bool true), ([.cells pow10 true, .dead, .cells tab32 true, .cells tab64 true, .tcells (sL l) 31 (some 0), .tcells (sL l) 31 (some 0)] : AHeap))) ia).2.1 ∧ h' = ((fun _ : Unit => (True, Res.ret (.bool true), ([.cells pow10 true, .dead, .cells tab32 true, .cells tab64 true, .tcells (sL l) 31 (some 0), .tcells (sL l) 31 (some 0)] : AHeap))) ia).2.2) ∧ ∀ _ : Unit, True → Q (.ret (.bool true)))) ∧
       ((se l == se l) = false → Q (.ret (.bool false))))) ∧
     ((sn l == sn l) = false → Q (.ret (.bool false))))) ∧
   (aBin2 Tryd.prog BinOp.eql 31 (Operand.tmp 21) (Operand.tmp 22) (.agg ⟨(sL l)⟩) (.agg ⟨(sL l)⟩) = some (.bool false) → Q (.ret (.bool false))))))) =
    runS Tryd.prog [0, 2, 3] false [18, 19, 17] 0 (SpecC Tryd.prog [0, 2, 3]) 20 4 [.string (bs l)] gh .norm (.skip 2 (.call Unit (fun _ : Unit => (True, Res.ret (.tuple ⟨[(.agg ⟨(sL l)⟩), (.int .i64 (sn l)), (.int .i64 (se l))]⟩), ([.cells pow10 true, .dead, .cells tab32 true, .cells tab64 true] : AHeap))) fun _ => .skip 9 (.call Unit (fun _ : Unit => (True, Res.ret (.tuple ⟨[(.agg ⟨(sL l)⟩), (.int .i64 (sn l)), (.int .i64 (se l))]⟩), ([.cells pow10 true, .dead, .cells tab32 true, .cells tab64 true, .tcells (sL l) 31 (some 0)] : AHeap))) fun _ => .skip 10 (.two (.skip 6 (.ask (.skip 7 (.ask (.skip 3 (.call Unit (fun _ : Unit => (True, Res.ret (.bool true), ([.cells pow10 true, .dead, .cells tab32 true, .cells tab64 true, .tcells (sL l) 31 (some 0), .tcells (sL l) 31 (some 0)] : AHeap))) fun _ => .go)) (.go))) (.go))) (.go))))) (fun r _ _ _ => Q r) := by kernel_rfl

set_option maxRecDepth 20000 in
theorem sixes_spec {l : List UInt8} (hl : l.length < 2 ^ 63) :
    Fm.Spec Tryd.prog [0, 2, 3] 4 [.string (bs l)] gh fun r _ => r = .ret (.bool true) := by
  refine spec_of_script Tryd.mixed (Eq.mp (sixes_T l fun r => r = .ret (.bool true)) ?_)
  have p1 : Fun 18 [.string (bs l)] (.tuple ⟨[.agg ⟨(sL l)⟩, .int .i64 (sn l), .int .i64 (se l)]⟩) := xfun_of (p6V_eq l ▸ parse6_spec hl) (flat_p6 l)
  have p2 : Fun 19 [.string (bs l)] (.tuple ⟨[.agg ⟨(sL l)⟩, .int .i64 (sn l), .int .i64 (se l)]⟩) := xfun_of (p6V_eq l ▸ rparse6_spec hl) (flat_p6 l)
  refine p1.call (one_mem (.string _)) ?_
  refine p2.call (one_mem (.string _)) ?_
  refine two_of (arr16 (sb l 0) (sb l 1) (sb l 2) (sb l 3) (sb l 4) (sb l 5) (sb l 6) (sb l 7) (sb l 8) (sb l 9) (sb l 10) (sb l 11) (sb l 12) (sb l 13) (sb l 14) (sb l 15) (sb l 0) (sb l 1) (sb l 2) (sb l 3) (sb l 4) (sb l 5) (sb l 6) (sb l 7) (sb l 8) (sb l 9) (sb l 10) (sb l 11) (sb l 12) (sb l 13) (sb l 14) (sb l 15)) (fun _ => ?_) (fun h => ?_)
  · refine ⟨fun _ => ⟨fun _ => ?_, fun h => ?_⟩, fun h => ?_⟩
    · exact awake_call _ rfl
    · rw [beq_self_eq_true] at h; cases h
    · rw [beq_self_eq_true] at h; cases h
  · rw [decide_eq_true rfl] at h; cases h

theorem sixes_any {s : ByteArray} (hs : s.size ≤ maxLen) : Fm.Spec Tryd.prog [0, 2, 3] 4 [.string s] gh fun r _ => r = .ret (.bool true) := by
  rw [← bs_of s]
  refine sixes_spec ?_
  have : s.data.toList.length = s.size := rfl
  unfold maxLen at hs
  omega

set_option maxRecDepth 100000 in
theorem sixes_lifted (os : Os) (started : os.Started) (H : Type) (enc : TypeId × Value → H) :
    ReturnsInHanded {} Tryd.checked os 4 .any (fun w args => (Rows.addrSixesSpec.pre enc Tryd.prog Tryd.f4 [] false w args ∧ laidMetH Tryd.prog laidL w) ∧ sizedMet enc Tryd.prog Tryd.f4 (OpenSpec.ofChange Rows.addrSixesSpec) false w args)
      (Rows.addrSixesSpec.post enc Tryd.prog Tryd.f4 false true false false) := by
  refine returnsInHanded_of_change_and (C := Tryd.checked) (X := fun w _ => laidMetH Tryd.prog laidL w) (fun _ _ _ hh h => h.of_heap hh) Tryd.own started (by kernel_rfl) Tryd.func4
    (ChangeSpec.witness_shaped (enc := enc) (C := Tryd.checked) (os := os) (X := fun w _ => laidMetH Tryd.prog laidL w) false (World.doorLaid Tryd.prog 400 os) #[.string ⟨#[]⟩] 8 rfl (World.shaped_of_RefB (by kernel_rfl) (by kernel_rfl)) (by kernel_rfl) (by kernel_rfl) (by kernel_rfl) (door_met os _)) ?_
  intro W base args ds gs before hval0 hW _ _ hL _
  have hval : ∀ (j : Nat) t v, Tryd.f4.params[j]? = some t → args[j]? = some v → Value.okWide Tryd.prog W .any base t v := hval0
  have hW' := hW
  obtain ⟨p, q, hA0, hV, rfl, hfz, hnd⟩ := hW
  have hA : DataW.TrodAll enc Tryd.prog W 0 (fun _ => true) true Tryd.f4.params.toList args.toList ds p := hA0
  rw [Tryd.params4] at hA hval
  obtain ⟨v0, d0, rfl, rfl, h0⟩ := trodAll_one hA
  obtain ⟨s, rfl, rfl, rfl, hs⟩ := Go.ChangeMaps.open_string xu9 (hval 0 9 v0 rfl rfl) h0

  obtain ⟨rfl, rfl⟩ := trodVars_none hV
  refine close_row (tb := 4) hW' rfl rfl Tryd.laidOut (by kernel_rfl) (by kernel_rfl) (by kernel_rfl) ?_
  exact calls_of_spec (sixes_any hs) (.bool true) (begins hL) (Flat.lr (by
    intro v hv
    simp only [List.mem_cons, List.not_mem_nil, or_false] at hv
    rcases hv with rfl
    · exact .string _) _) begins_glob

theorem sixes_holds : Rows.AddrSixesSaid :=
  OpenClaim.holds_of_wide 4 Tryd.f4 rfl rfl rfl rfl rfl rfl rfl ⟨rfl, rfl, rfl, rfl, rfl⟩ rfl rfl rfl rfl rfl (by kernel_rfl) Tryd.func4 (by kernel_rfl)
    (of_decide_eq_true (by kernel_rfl)) (by unfold Func.isWrapper; rw [if_neg (of_decide_eq_false (by kernel_rfl))]; exact ⟨rfl, rfl⟩)
    (fun os started H enc _ => sixes_lifted os started H enc)

theorem sixes_card : Rows.AddrSixesCardSaid :=
  Claim7.holds_tied_plain_at .later [] [.data, .data, .data] true (true, "2c2e10dfad521d8a68acca1e017bcd51af26f7f93c44638cb4d6de8cacc7ccee") true
    sixes_holds (fun _ h => by cases h) (by kernel_rfl) (fun _ h => by cases h) addrSixes_row_tie rfl ⟨rfl, rfl⟩ (by kernel_rfl) rfl
    (fun f fn hf hfn => by
      obtain rfl : f = 4 := Option.some.inj ((show Tryd.prog.funcNamed "ferryman/ferrymanlaw02.AddrSixes" = some 4 by kernel_rfl).symm.trans hf) |>.symm
      obtain rfl : fn = Tryd.f4 := (Option.some.inj (Tryd.func4.symm.trans hfn)).symm
      exact ⟨by kernel_rfl, fun j t ht => by
        rw [Tryd.params4] at ht
        have hm : t ∈ [9] := by simpa using Array.mem_of_getElem? ht
        have hall : ([9].all fun u => !Tryd.prog.wantsStandIn u) = true := by kernel_rfl
        exact (show Tryd.prog.wantsStandIn t = false by simpa using List.all_eq_true.1 hall t hm)⟩)
    (by kernel_rfl)

#print axioms sixes_card

end Go.Proofs.YtopladipgobpjaaDoor
