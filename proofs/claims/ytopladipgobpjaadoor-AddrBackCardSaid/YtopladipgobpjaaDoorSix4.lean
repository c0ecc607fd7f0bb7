/-
  addr.Parse6: the address of any text, or where it is none. Condition: the text's length is below 2^63.
-/
import Derived.Test.YtopladipgobpjaaDoorSix7
import Derived.Test.YtopladipgobpjaaDoorFmE
namespace Go.Proofs.YtopladipgobpjaaDoor
open Go.Fm
def p6V (l : List UInt8) : Value := match p6R l with
  | (some g, _) => .tuple ⟨[.agg ⟨[.int .u8 (byteAt g 0), .int .u8 (byteAt g 1), .int .u8 (byteAt g 2), .int .u8 (byteAt g 3), .int .u8 (byteAt g 4), .int .u8 (byteAt g 5), .int .u8 (byteAt g 6), .int .u8 (byteAt g 7), .int .u8 (byteAt g 8), .int .u8 (byteAt g 9), .int .u8 (byteAt g 10), .int .u8 (byteAt g 11), .int .u8 (byteAt g 12), .int .u8 (byteAt g 13), .int .u8 (byteAt g 14), .int .u8 (byteAt g 15)]⟩, .int .i64 0, .int .i64 0]⟩
  | (none, n) => .tuple ⟨[zG, .int .i64 n, .int .i64 20]⟩
theorem next_step {o : Option (Value × AHeap)} {F : Nat × Nat → Value × AHeap} {v : Nat × Nat} {X : Nat × Nat → Prop} (h : o = some (F v)) (hi : ∀ z, F v = F z → z = v) (hX : X v) : (∃ z, o = some (F z)) ∧ ∀ z, o = some (F z) → X z :=
  ⟨⟨v, h⟩, fun z hz => by
    have := hi z (Option.some.inj (h.symm.trans hz))
    rw [this]; exact hX⟩
theorem leafF {l : List UInt8} {i : Nat} {x : P6} {z : Int} (h : sOK l i x) (hlt : i < l.length) (hi : i < 2 ^ 63) (ht : take6 x (l.getD i 0) = none) (hz : z = IntKind.i64.wrap (0 + (i : Int))) :
    Res.ret (.tuple ⟨[zG, .int .i64 z, .int .i64 20]⟩) = .ret (p6V l) := by
  rw [Int.zero_add, xwrapi (by omega) (by omega)] at hz
  unfold p6V
  rw [sOK_stop h hlt ht, hz]
theorem someN_mk {A : Type} {gs : List Nat} {n0 : Nat} {ok : A → Prop} {s : St} : ∀ {qs : List (A → Prop × St)} {q : A → Prop × St} (k : Nat), qs[k]? = some q → (∃ a : A, (q a).1 ∧ ok a ∧ Gc gs n0 s (q a).2) → someN gs n0 ok s qs
  | [], _, _, h, _ => by simp at h
  | [q0], q, 0, h, e => by
    have : q0 = q := by simpa using h
    subst this; exact e
  | [_], _, k + 1, h, _ => by simp at h
  | q0 :: q1 :: r, q, 0, h, e => by
    have : q0 = q := by simpa using h
    subst this; exact .inl e
  | q0 :: q1 :: r, q, k + 1, h, e => .inr (someN_mk (qs := q1 :: r) k (by simpa using h) e)
theorem mless {l : List UInt8} {i : Nat} (h : i < l.length) {g g' dots dots' : List Int} {part part' : List UInt8} {gap gap' : Nat} {d d' : Int} : m6 l ⟨i + 1, g, part, gap, dots, d⟩ < m6 l ⟨i, g', part', gap', dots', d'⟩ := by
  show l.length - (i + 1) < l.length - i
  omega
theorem call_same {f : FuncId} {args : List Value} {H : AHeap} {v : Value} {X : Prop} (hs : Fm.Spec Tryd.prog [] f args H fun r h' => r = .ret v ∧ h' = H) (hX : X) :
    SpecC Tryd.prog [] (.fn f) args H (fun r h' => ∃ ia, ((fun _ : Unit => (True, Res.ret v, H)) ia).1 ∧ r = ((fun _ : Unit => (True, Res.ret v, H)) ia).2.1 ∧ h' = ((fun _ : Unit => (True, Res.ret v, H)) ia).2.2) ∧ ∀ _ : Unit, True → X :=
  ⟨.inl (Spec.mono hs (by rintro r h' ⟨rfl, rfl⟩; exact ⟨(), trivial, rfl, rfl⟩)), fun _ _ => hX⟩
theorem not_true {b : Bool} (h : (!b) = true) : b = false := by cases b; rfl; cases h
theorem not_false' {b : Bool} (h : (!b) = false) : b = true := by cases b; cases h; rfl
theorem xrv_slice {i : Nat → Option Nat} {b c o n m : Nat} {sp : Option Nat} (h : n = m) (hb : i b = some c) : RV i (.slice (some ⟨b, o, sp⟩) n n) (.slice (some ⟨c, o, sp⟩) m m) := by
  subst h; exact .slice _ _ _ _ hb
theorem xu80 : Tryd.prog.underlying 80 = some (.slice 3) := by kernel_rfl
theorem xi3 : (Tryd.prog.info? 3).map (fun i => (i.size, i.bytes)) = some (1, 8) := by kernel_rfl
theorem xz3 : ((aZero Tryd.prog 3).map fun z => z.cells.size) = some 1 := by kernel_rfl
theorem xapp_ic {x : Value} {h : AHeap} {xt : TypeId} {l m : List Int} {b : Nat} {z : Option Nat} (hn : aNew Tryd.prog 3 1 xt x h = some (l.length, ic l)) (hc : h[b]? = some (.tcells (ic m) 3 z)) (h0 : 0 < l.length) (hl : m.length + l.length ≤ 2 ^ 40) (hz : z.getD 0 = 0 := by rfl) :
    aAppend Tryd.prog 80 xt (.slice (some ⟨b, 0, some 1⟩) m.length m.length) x h = some (.slice (some ⟨h.length, 0, some 1⟩) (m.length + l.length) (m.length + l.length), h.set b .dead ++ [.tcells (ic (m ++ l)) 3 z]) := by
  obtain ⟨i, hi, e⟩ := Option.map_eq_some_iff.1 xi3
  have e1 : i.size = 1 := congrArg Prod.fst e
  have e2 : i.bytes = 8 := congrArg Prod.snd e
  have := aAppend_row_next (P := Tryd.prog) (l := ic l) (m := ic m) xu80 hi e1 (by omega) (by rw [e1]; exact xz3) (by rw [ic_length]; exact hn) (ic_isCell l) hc (by omega) (by rw [ic_length]; exact h0) (by rw [ic_length, ic_length]; exact hl)
  rw [ic_length, ic_length, ic_append] at this
  exact this
theorem rm_lt {n gap : Nat} : rmI n gap < 1 ↔ most gap ≤ n := by
  unfold rmI most
  by_cases h : gap = 0
  · rw [if_pos h, if_pos h]; omega
  · rw [if_neg h, if_neg h]; omega
theorem most_ge (n : Nat) : 7 ≤ most n := by unfold most; split <;> omega
theorem of58 {c : UInt8} (h : (((c.toNat : Nat) : Int) == 58) = true) : c = 58 := by
  have h : ((c.toNat : Nat) : Int) = 58 := by simpa using h
  exact UInt8.toNat.inj (by show _ = 58; omega)
theorem not58 {c : UInt8} (h : (((c.toNat : Nat) : Int) == 58) = false) : c ≠ 58 := by
  rintro rfl; revert h; decide
theorem eq58 {c : UInt8} (h : (((c.toNat : Nat) : Int) != 58) = false) : c = 58 := by
  have h : ((c.toNat : Nat) : Int) = 58 := by simpa using h
  exact UInt8.toNat.inj (by show _ = 58; omega)
theorem of46' {c : UInt8} (h : (((c.toNat : Nat) : Int) == 46) = true) : c = 46 := by
  have h : ((c.toNat : Nat) : Int) = 46 := by simpa using h
  exact UInt8.toNat.inj (by show _ = 46; omega)
theorem not46 {c : UInt8} (h : (((c.toNat : Nat) : Int) == 46) = false) : c ≠ 46 := by
  rintro rfl; revert h; decide
theorem gap0 {n : Nat} (h : (((n : Nat) : Int) == 0) = true) : n = 0 := by
  have h : ((n : Nat) : Int) = 0 := by simpa using h
  omega
theorem gap1 {n : Nat} (h : (((n : Nat) : Int) == 0) = false) : n ≠ 0 := by
  rintro rfl; revert h; decide
theorem mdB_iff (n gap : Nat) : mdB n gap = true ↔ (if gap = 0 then n = 6 else n ≤ 5) := by
  unfold mdB
  by_cases h : gap = 0
  · rw [if_pos h, if_pos h, decide_eq_true_eq]
  · rw [if_neg h, if_neg h, decide_eq_true_eq]
theorem hx_low {c : UInt8} (h : 0 ≤ hx c) : c.toNat < 128 := by
  unfold hx at h
  split at h
  · omega
  · split at h
    · omega
    · split at h <;> omega
theorem xwrap32 {x : Int} (h0 : 0 ≤ x) (h1 : x < 256) : IntKind.i32.wrap x = x := by
  simp only [IntKind.wrap, IntKind.bits, IntKind.signed]
  simp; omega
theorem enc_low {c : UInt8} (h : c.toNat < 128) : Utf8.encode ((c.toNat : Nat) : Int) = bs [c] := by
  rw [encode_low (by omega) (by omega), Int.toNat_natCast]
  simp
theorem unI_ic : ∀ g : List Int, unI (ic g) = g
  | [] => rfl
  | a :: r => by
    show a :: unI (ic r) = a :: r
    rw [unI_ic r]
theorem p6V_some {l : List UInt8} {G : List Int} {n : Nat} (h : p6R l = (some G, n)) : p6V l = .tuple ⟨[.agg ⟨[.int .u8 (byteAt G 0), .int .u8 (byteAt G 1), .int .u8 (byteAt G 2), .int .u8 (byteAt G 3), .int .u8 (byteAt G 4), .int .u8 (byteAt G 5), .int .u8 (byteAt G 6), .int .u8 (byteAt G 7), .int .u8 (byteAt G 8), .int .u8 (byteAt G 9), .int .u8 (byteAt G 10), .int .u8 (byteAt G 11), .int .u8 (byteAt G 12), .int .u8 (byteAt G 13), .int .u8 (byteAt G 14), .int .u8 (byteAt G 15)]⟩, .int .i64 0, .int .i64 0]⟩ := by
  unfold p6V; rw [h]
theorem p6V_none {l : List UInt8} {n : Nat} (h : p6R l = (none, n)) : p6V l = .tuple ⟨[zG, .int .i64 n, .int .i64 20]⟩ := by
  unfold p6V; rw [h]
theorem end_go {l : List UInt8} {i : Nat} {g : List Int} {p : List UInt8} {gap : Nat} {c f : Bool} {ds : List Int} {d : Bool} {args : List Value} {H H1 : AHeap} (hx : sOK l i ⟨g, p, gap, c, f, ds, d⟩) (hd : decide (i < l.length) = false) (hl : l.length < 2 ^ 63)
    (ad : Fm.Spec Tryd.prog [] 86 args H fun r h' => r = .ret (mkA g p gap c f ds d) ∧ h' = H1) :
    (SpecC Tryd.prog [] (.fn 86) args H (fun r h' => (Bool.true = true → r = (((.ret (mkA g p gap c f ds d)), (H1 : AHeap)) : Res × AHeap).1 ∧ h' = (((.ret (mkA g p gap c f ds d)), (H1 : AHeap)) : Res × AHeap).2) ∧
      (Bool.true = false → r = (((.ret .nilIface), ([] : AHeap)) : Res × AHeap).1 ∧ h' = (((.ret .nilIface), ([] : AHeap)) : Res × AHeap).2)) ∧
     ((Bool.true = true → ∀ z2 : Int, z2 = (((bs l).size : Nat) : Int) → ∀ z3 : Int, z3 = IntKind.i64.wrap (0 + z2) →
        ((oA g p gap c f ds d = true → ∀ z4 : Int, z4 = (((bs l).size : Nat) : Int) →
          ((decide (z3 < z4) = true → Res.ret (.tuple ⟨[zG, .int .i64 z3, .int .i64 20]⟩) = .ret (p6V l)) ∧
           (decide (z3 < z4) = false → Res.ret (.tuple ⟨[.agg ⟨[.int .u8 (bA g p gap c f ds d 0), .int .u8 (bA g p gap c f ds d 1), .int .u8 (bA g p gap c f ds d 2), .int .u8 (bA g p gap c f ds d 3), .int .u8 (bA g p gap c f ds d 4), .int .u8 (bA g p gap c f ds d 5), .int .u8 (bA g p gap c f ds d 6), .int .u8 (bA g p gap c f ds d 7), .int .u8 (bA g p gap c f ds d 8), .int .u8 (bA g p gap c f ds d 9), .int .u8 (bA g p gap c f ds d 10), .int .u8 (bA g p gap c f ds d 11), .int .u8 (bA g p gap c f ds d 12), .int .u8 (bA g p gap c f ds d 13), .int .u8 (bA g p gap c f ds d 14), .int .u8 (bA g p gap c f ds d 15)]⟩, .int .i64 0, .int .i64 0]⟩) = .ret (p6V l)))) ∧
         (oA g p gap c f ds d = false → Res.ret (.tuple ⟨[zG, .int .i64 z3, .int .i64 20]⟩) = .ret (p6V l)))) ∧ (Bool.true = false → False))) := by
  have hi : i = l.length := by have := of_decide_eq_false hd; have := hx.1; omega
  have hp := sOK_end hx hi
  refine ⟨.inl (Spec.mono ad (by rintro r h' ⟨rfl, rfl⟩; exact ⟨fun _ => ⟨rfl, rfl⟩, fun h => by cases h⟩)), ⟨fun _ => ?_, fun h => by cases h⟩⟩
  intro z2 hz2 z3 hz3
  have hz2 : z2 = ((l.length : Nat) : Int) := hz2
  rw [hz2, Int.zero_add, xwrapi (by omega) (by omega)] at hz3
  refine ⟨fun ho => ?_, fun ho => ?_⟩
  · intro z4 hz4
    have hz4 : z4 = ((l.length : Nat) : Int) := hz4
    refine ⟨fun h => ?_, fun _ => ?_⟩
    · have := of_decide_eq_true h; omega
    · unfold oA at ho
      obtain ⟨G, hG⟩ := Option.isSome_iff_exists.1 ho
      rw [hG] at hp
      rw [p6V_some hp]
      unfold bA; rw [hG]; rfl
  · unfold oA at ho
    have hG : addr6 ⟨g, p, gap, c, f, ds, d⟩ = none := by simpa using ho
    rw [hG] at hp
    rw [p6V_none hp, hz3]
set_option maxRecDepth 20000 in
theorem parse6_spec {l : List UInt8} (hl : l.length < 2 ^ 63) : Fm.Spec Tryd.prog [] 18 [.string (bs l)] [] fun r _ => r = .ret (p6V l) := by
  refine xspecr (run_parse6 l fun r => r = .ret (p6V l)) ?_
  refine ⟨aSlice_bs_from (l := l) xu9 (by omega) (by omega), someN_mk 0 rfl ⟨⟨0, [], [], 0, [], 0⟩, sOK_init l, trivial, Gc.env ⟨rfl, rfl, rfl, rfl, rfl, rfl, trivial⟩⟩, ?_⟩
  refine ⟨fun s hs => ?_, fun s hs => ?_, fun s hs => ?_, fun s hs => ?_, fun s hs => ?_, fun s hs => ?_, fun s hs => ?_, fun s hs => ?_⟩
  ·
    obtain ⟨i, g, part, gap, dots, dd⟩ := s
    have h6 : sOK l i ⟨[], part, gap, false, false, [], false⟩ := hs
    dsimp only [cph0, cph1, cph2, cph3, cph4, cph5, cph6, cph7, cph8, cph9, cph10, cph11, cph12, cph13, cph14, cph15, cph16, cph17, cph18, cph19, cph20, cph21, cph22, cph23, cph24, cph25, cph26, cph27, cph28, cph29, cph30, cph31, cph32, cpf0, cpf1, cpf2, cps0, cps1, cps2]
    refine ⟨fun hd => ?_, fun hd => ?_⟩
    · have hlt := of_decide_eq_true hd
      clear hd
      have hil : i < 2 ^ 63 := by omega
      refine next_step (aNextStr_at (l := l) rfl hlt) (fun z hz => by simp at hz; exact Prod.ext (by omega) (by omega)) ?_
      generalize hv : Utf8.decode (bs l) i = v
      refine xstep (aIndex_bs (l := l) (i := (i : Int)) xu9 (by omega) (by omega)) ?_
      rw [Int.toNat_natCast]
      have low : (l.getD i 0).toNat < 128 → v.2 = 1 := fun h => by rw [← hv, decode_low hlt h]
      have fail : take6 ⟨[], part, gap, false, false, [], false⟩ (l.getD i 0) = none → ∀ z : Int, z = IntKind.i64.wrap (0 + (i : Int)) → Res.ret (.tuple ⟨[zG, .int .i64 z, .int .i64 20]⟩) = .ret (p6V l) := fun h z hz => leafF h6 hlt hil h hz
      have next : ∀ y, take6 ⟨[], part, gap, false, false, [], false⟩ (l.getD i 0) = some y → sOK l (i + 1) y := fun y h => sOK_next h6 hlt h
      have w := h6.2.1
      generalize l.getD i 0 = c at low fail next ⊢
      have hb := c.toNat_lt
      refine ⟨fun h58 => ?_, fun h58 => ?_⟩
      · have h58 : c = 58 := of58 h58
        subst h58
        rw [low (by decide), bs_toList, bs_toList, bs_toList]
        refine ⟨fun hp => ?_, fun hp => ?_⟩
        · have hp : part ≠ [] := by simpa using hp
          refine (xfun_of (value_spec (b := 16) (by decide) (by decide) w.phex w.plen) (.int _ _)).call (two_mem (.string _) (.int _ _)) ?_
          rw [valB_16]
          rw [Int.toNat_natCast]
          refine ⟨rfl, call_same (roomb_at (g := [valH part]) (q := 8) (c := false) (f := false) (d := false) (by have := w.gap; simp at this; omega) (by simp) (by decide) rfl rfl rfl) ?_⟩
          refine ⟨fun hr => absurd (of_decide_eq_true hr) (by unfold rmI; split <;> omega), fun _ => ⟨fun _ => ?_, fun _ => ?_⟩⟩
          all_goals
            refine someN_mk 3 rfl ⟨⟨i + 1, [valH part], [], gap, [], 0⟩, next _ (t_group_yes (x := ⟨[], part, gap, false, false, [], false⟩) rfl rfl hp (by show ¬ most gap ≤ 0 + 1; have := most_ge gap; omega)), mless hlt,
              Gc.ren [0, 1, 2, 3, 4, 5, 6, 8] (by decide) rfl rfl rfl ⟨⟨_, rfl, ro_flat rfl⟩, ⟨_, rfl, ro_flat rfl⟩, ⟨_, rfl, ro_flat rfl⟩, ⟨_, rfl, ro_flat rfl⟩, ⟨_, rfl, ro_flat rfl⟩, ⟨_, rfl, .cells _ (.cons (.string _) (.cons (.slice _ _ _ _ rfl) (.cons (.string _) (.cons (.int _ _) (.cons (.bool _) (.cons (.bool _) (.cons (.snil _ _) (.cons (.bool _) .nil))))))))⟩, ⟨_, rfl, .strIter _ _⟩, ⟨_, rfl, ro_ic [valH part] 3 (some 0)⟩, trivial⟩ ⟨⟨_, rfl, .ptr _ _ rfl⟩, ⟨_, rfl, .ptr _ _ rfl⟩, ⟨_, rfl, .string _⟩, ⟨_, rfl, .ptr _ _ rfl⟩, ⟨_, rfl, .ptr _ _ rfl⟩, ⟨_, rfl, .int _ _⟩, trivial⟩ rfl⟩
        · have hp : part = [] := by simpa using hp
          subst hp
          have hl0 : l ≠ [] := by rintro rfl; exact absurd hlt (Nat.not_lt_zero _)
          refine ⟨fun _ => ⟨fun hg => ?_, fun hg => ?_⟩, fun h => absurd h (by simp [hl0])⟩
          · have hg : gap = 0 := gap0 hg
            subst hg
            exact someN_mk 1 rfl ⟨⟨i + 1, [], [], 0, [], 0⟩, next _ (t_begin (x := ⟨[], [], 0, false, false, [], false⟩) rfl rfl rfl rfl rfl rfl), mless hlt, Gc.env ⟨rfl, rfl, rfl, rfl, rfl, rfl, trivial⟩⟩
          · have hg : gap ≠ 0 := gap1 hg
            exact fail (t_colon_no (x := ⟨[], [], gap, false, false, [], false⟩) rfl rfl rfl (fun h => hg h.2.1) (fun h => by cases h.1))
      · have h58 : c ≠ 58 := not58 h58
        refine ⟨fun h46 => ?_, fun h46 => ?_⟩
        · have h46 : c = 46 := of46' h46
          subst h46
          rw [low (by decide)]
          refine (xfun_of decimal_spec (.bool _)).call (one_mem (.string _)) ?_
          refine ⟨fun hdc => ?_, fun hdc => ?_⟩
          · have hdc : dec part = false := by simpa using hdc
            exact fail (t_point_no (x := ⟨[], part, gap, false, false, [], false⟩) rfl rfl (fun h => by have := h.1; rw [hdc] at this; cases this))
          have hdc : dec part = true := by simpa using hdc
          rw [Int.toNat_natCast]
          refine call_same (mayDotn_at (c := false) (f := false) (d := false) (by have := w.gap; simp at this; omega) rfl rfl) ?_
          refine ⟨fun hm => ?_, fun hm => ?_⟩
          · exact fail (t_point_no (x := ⟨[], part, gap, false, false, [], false⟩) rfl rfl (fun h => by have := (mdB_iff 0 gap).2 h.2; rw [this] at hm; cases hm))
          have hm : mdB 0 gap = true := by simpa using hm
          have hdv := dec_val hdc
          refine (xfun_of (value_spec (b := 10) (by decide) (by decide) w.phex w.plen) (.int _ _)).call (two_mem (.string _) (.int _ _)) ?_
          rw [valB_10 part hdv.2.2.2.2]
          exact someN_mk 4 rfl ⟨⟨i + 1, [], [], gap, [], val part⟩, next _ (t_point_yes (x := ⟨[], part, gap, false, false, [], false⟩) rfl rfl hdc ((mdB_iff 0 gap).1 hm)), mless hlt, Gc.env ⟨rfl, rfl, rfl, rfl, rfl, rfl, trivial⟩⟩
        · have h46 : c ≠ 46 := not46 h46
          refine (xfun_of (digit_spec (c := ((c.toNat : Nat) : Int)) (by omega) (by omega)) (.int _ _)).call (one_mem (.int _ _)) ?_
          rw [hxI_hx]
          refine ⟨fun hh => ?_, fun hh => ?_⟩
          · exact fail (t_hex_no (x := ⟨[], part, gap, false, false, [], false⟩) rfl rfl h58 h46 (.inl (of_decide_eq_true hh)))
          have hh : 0 ≤ hx c := by have := of_decide_eq_false hh; omega
          have h8 := hx_low hh
          rw [low h8]
          rw [Int.toNat_natCast]
          refine call_same (roomn_at (c := false) (f := false) (d := false) (by have := w.gap; simp at this; omega) rfl rfl) ?_
          refine ⟨fun hr => ?_, fun hr => ?_⟩
          · have hr := of_decide_eq_true hr
            exact fail (t_hex_no (x := ⟨[], part, gap, false, false, [], false⟩) rfl rfl h58 h46 (.inr (.inl (by show most gap ≤ 0; unfold rmI at hr; unfold most; split at hr <;> omega))))
          have hr : ¬ most gap ≤ 0 := by have := most_ge gap; omega
          intro z4 hz4
          have hz4 : z4 = ((part.length : Nat) : Int) := hz4
          subst hz4
          refine ⟨fun h4 => ?_, fun h4 => ?_⟩
          · have h4 := of_decide_eq_true h4
            intro z5 hz5
            rw [xwrap32 (by omega) (by omega)] at hz5
            subst hz5
            rw [enc_low h8]
            refine ⟨rfl, aBin2_add_bs (l := part) (l' := [c]) (by have := w.plen; simp at this; simp; omega), ?_⟩
            exact someN_mk 0 rfl ⟨⟨i + 1, [], part ++ [c], gap, [], 0⟩, next _ (t_hex_yes (x := ⟨[], part, gap, false, false, [], false⟩) rfl rfl h58 h46 hh hr (by show part.length < 4; omega)), mless hlt, Gc.env ⟨rfl, rfl, rfl, rfl, rfl, rfl, trivial⟩⟩
          · have h4 := of_decide_eq_false h4
            exact fail (t_hex_no (x := ⟨[], part, gap, false, false, [], false⟩) rfl rfl h58 h46 (.inr (.inr (by show 4 ≤ part.length; omega))))
    · have w := h6.2.1
      skip
      exact ⟨aNextStr_end (l := l) rfl (by have := of_decide_eq_false hd; omega), end_go h6 hd hl (ad0 w rfl)⟩
  ·
    obtain ⟨i, g, part, gap, dots, dd⟩ := s
    have h6 : sOK l i ⟨[], [], 0, false, true, [], false⟩ := hs
    dsimp only [cph0, cph1, cph2, cph3, cph4, cph5, cph6, cph7, cph8, cph9, cph10, cph11, cph12, cph13, cph14, cph15, cph16, cph17, cph18, cph19, cph20, cph21, cph22, cph23, cph24, cph25, cph26, cph27, cph28, cph29, cph30, cph31, cph32, cpf0, cpf1, cpf2, cps0, cps1, cps2]
    refine ⟨fun hd => ?_, fun hd => ?_⟩
    · have hlt := of_decide_eq_true hd
      clear hd
      have hil : i < 2 ^ 63 := by omega
      refine next_step (aNextStr_at (l := l) rfl hlt) (fun z hz => by simp at hz; exact Prod.ext (by omega) (by omega)) ?_
      generalize hv : Utf8.decode (bs l) i = v
      refine xstep (aIndex_bs (l := l) (i := (i : Int)) xu9 (by omega) (by omega)) ?_
      rw [Int.toNat_natCast]
      have low : (l.getD i 0).toNat < 128 → v.2 = 1 := fun h => by rw [← hv, decode_low hlt h]
      have fail : take6 ⟨[], [], 0, false, true, [], false⟩ (l.getD i 0) = none → ∀ z : Int, z = IntKind.i64.wrap (0 + (i : Int)) → Res.ret (.tuple ⟨[zG, .int .i64 z, .int .i64 20]⟩) = .ret (p6V l) := fun h z hz => leafF h6 hlt hil h hz
      have next : ∀ y, take6 ⟨[], [], 0, false, true, [], false⟩ (l.getD i 0) = some y → sOK l (i + 1) y := fun y h => sOK_next h6 hlt h
      have w := h6.2.1
      generalize l.getD i 0 = c at low fail next ⊢
      have hb := c.toNat_lt
      refine ⟨fun h58 => ?_, fun h58 => ?_⟩
      · have h58 : c ≠ 58 := fun e => by subst e; revert h58; decide
        exact fail (t_first_no (x := ⟨[], [], 0, false, true, [], false⟩) rfl h58)
      · have h58 : c = 58 := eq58 h58
        subst h58
        rw [low (by decide)]
        exact someN_mk 0 rfl ⟨⟨i + 1, [], [], 1, [], 0⟩, next _ (t_first_yes (x := ⟨[], [], 0, false, true, [], false⟩) rfl), mless hlt, Gc.env ⟨rfl, rfl, rfl, rfl, rfl, rfl, trivial⟩⟩
    · have w := h6.2.1
      skip
      exact ⟨aNextStr_end (l := l) rfl (by have := of_decide_eq_false hd; omega), end_go h6 hd hl (ad1 rfl)⟩
  ·
    obtain ⟨i, g, part, gap, dots, dd⟩ := s
    have h6 : sOK l i ⟨g, part, gap, false, false, [], false⟩ := hs.1
    have hgne : g ≠ [] := hs.2
    dsimp only [cph0, cph1, cph2, cph3, cph4, cph5, cph6, cph7, cph8, cph9, cph10, cph11, cph12, cph13, cph14, cph15, cph16, cph17, cph18, cph19, cph20, cph21, cph22, cph23, cph24, cph25, cph26, cph27, cph28, cph29, cph30, cph31, cph32, cpf0, cpf1, cpf2, cps0, cps1, cps2]
    refine ⟨fun hd => ?_, fun hd => ?_⟩
    · have hlt := of_decide_eq_true hd
      clear hd
      have hil : i < 2 ^ 63 := by omega
      refine next_step (aNextStr_at (l := l) rfl hlt) (fun z hz => by simp at hz; exact Prod.ext (by omega) (by omega)) ?_
      generalize hv : Utf8.decode (bs l) i = v
      refine xstep (aIndex_bs (l := l) (i := (i : Int)) xu9 (by omega) (by omega)) ?_
      rw [Int.toNat_natCast]
      have low : (l.getD i 0).toNat < 128 → v.2 = 1 := fun h => by rw [← hv, decode_low hlt h]
      have fail : take6 ⟨g, part, gap, false, false, [], false⟩ (l.getD i 0) = none → ∀ z : Int, z = IntKind.i64.wrap (0 + (i : Int)) → Res.ret (.tuple ⟨[zG, .int .i64 z, .int .i64 20]⟩) = .ret (p6V l) := fun h z hz => leafF h6 hlt hil h hz
      have next : ∀ y, take6 ⟨g, part, gap, false, false, [], false⟩ (l.getD i 0) = some y → sOK l (i + 1) y := fun y h => sOK_next h6 hlt h
      have w := h6.2.1
      generalize l.getD i 0 = c at low fail next ⊢
      have hb := c.toNat_lt
      have hglen : g.length ≤ 8 := w.glen
      have hgap : gap ≤ g.length + 1 := w.gap
      have hpl : part.length ≤ 4 := w.plen
      refine ⟨fun h58 => ?_, fun h58 => ?_⟩
      · have h58 : c = 58 := of58 h58
        subst h58
        rw [low (by decide), bs_toList, bs_toList, bs_toList]
        refine ⟨fun hp => ?_, fun hp => ?_⟩
        · have hp : part ≠ [] := by simpa using hp
          have hrm : g.length + 1 ≤ most gap := by
            rcases w.room with h | h
            · have h : g.length + (if part = [] then 0 else if false = true then 0 else 1) ≤ most gap + 0 := h
              rw [if_neg hp, if_neg (by simp)] at h; omega
            · exact absurd h hp
          refine (xfun_of (value_spec (b := 16) (by decide) (by decide) w.phex w.plen) (.int _ _)).call (two_mem (.string _) (.int _ _)) ?_
          rw [valB_16, Int.toNat_natCast]
          refine ⟨rfl, xapp_ic (l := [valH part]) (m := g) (b := 7) rfl rfl (by simp) (by show g.length + 1 ≤ _; omega), ?_⟩
          have e : g.length + 1 = (g ++ [valH part]).length := by rw [List.length_append]; rfl
          rw [e]
          refine call_same (roomb_at (g := g ++ [valH part]) (q := 9) (c := false) (f := false) (d := false) (by omega) (by unfold most at hrm; split at hrm <;> omega) (by decide) rfl rfl rfl) ?_
          refine ⟨fun hr => ?_, fun hr => ?_⟩
          · have hr := of_decide_eq_true hr
            unfold rmI at hr
            refine ⟨fun hg0 => ?_, fun hg0 => ?_⟩
            · have hg := gap0 hg0
              rw [if_pos hg] at hr
              refine ⟨fun h8 => ⟨fun _ => ⟨fun _ => ?_, fun h => ?_⟩, fun h => ?_⟩, fun h8 => ?_⟩
              · exact fail (t_group_no (x := ⟨g, part, gap, false, false, [], false⟩) rfl rfl hp (by show most gap ≤ g.length + 1; unfold most; rw [if_pos hg]; omega))
              · rw [h8] at h; cases h
              · rw [hg0] at h; cases h
              · exfalso
                have h8 : (((g ++ [valH part]).length : Nat) : Int) ≠ 8 := by simpa only [beq_eq_false_iff_ne, ne_eq] using h8
                unfold most at hrm; rw [if_pos hg] at hrm
                omega
            · have hg := gap1 hg0
              rw [if_neg hg] at hr
              refine ⟨fun _ => fail (t_group_no (x := ⟨g, part, gap, false, false, [], false⟩) rfl rfl hp (by show most gap ≤ g.length + 1; unfold most; rw [if_neg hg]; omega)), fun h => ?_⟩
              exfalso; have := of_decide_eq_false h; omega
          · have hr := of_decide_eq_false hr
            unfold rmI at hr
            refine ⟨fun hg0 => ⟨fun h8 => ?_, fun h8 => ?_⟩, fun hg0 => ?_⟩
            · exfalso
              have hg := gap0 hg0
              rw [if_pos hg] at hr
              have h8 : (((g ++ [valH part]).length : Nat) : Int) = 8 := by simpa only [beq_iff_eq] using h8
              omega
            · have hg := gap0 hg0
              rw [if_pos hg] at hr
              exact someN_mk 3 rfl ⟨⟨i + 1, g ++ [valH part], [], gap, [], 0⟩, next _ (t_group_yes (x := ⟨g, part, gap, false, false, [], false⟩) rfl rfl hp (by show ¬ most gap ≤ g.length + 1; unfold most; split <;> omega)), mless hlt,
                Gc.ren [0, 1, 2, 3, 4, 5, 6, 9] (by decide) rfl rfl rfl ⟨⟨_, rfl, ro_flat rfl⟩, ⟨_, rfl, ro_flat rfl⟩, ⟨_, rfl, ro_flat rfl⟩, ⟨_, rfl, ro_flat rfl⟩, ⟨_, rfl, ro_flat rfl⟩, ⟨_, rfl, .cells _ (.cons (.string _) (.cons (.slice _ _ _ _ rfl) (.cons (.string _) (.cons (.int _ _) (.cons (.bool _) (.cons (.bool _) (.cons (.snil _ _) (.cons (.bool _) .nil))))))))⟩, ⟨_, rfl, .strIter _ _⟩, ⟨_, rfl, ro_ic (g ++ [valH part]) 3 (some 0)⟩, trivial⟩ ⟨⟨_, rfl, .ptr _ _ rfl⟩, ⟨_, rfl, .ptr _ _ rfl⟩, ⟨_, rfl, .string _⟩, ⟨_, rfl, .ptr _ _ rfl⟩, ⟨_, rfl, .ptr _ _ rfl⟩, ⟨_, rfl, .int _ _⟩, trivial⟩ rfl⟩
            · have hg := gap1 hg0
              rw [if_neg hg] at hr
              exact someN_mk 3 rfl ⟨⟨i + 1, g ++ [valH part], [], gap, [], 0⟩, next _ (t_group_yes (x := ⟨g, part, gap, false, false, [], false⟩) rfl rfl hp (by show ¬ most gap ≤ g.length + 1; unfold most; split <;> omega)), mless hlt,
                Gc.ren [0, 1, 2, 3, 4, 5, 6, 9] (by decide) rfl rfl rfl ⟨⟨_, rfl, ro_flat rfl⟩, ⟨_, rfl, ro_flat rfl⟩, ⟨_, rfl, ro_flat rfl⟩, ⟨_, rfl, ro_flat rfl⟩, ⟨_, rfl, ro_flat rfl⟩, ⟨_, rfl, .cells _ (.cons (.string _) (.cons (.slice _ _ _ _ rfl) (.cons (.string _) (.cons (.int _ _) (.cons (.bool _) (.cons (.bool _) (.cons (.snil _ _) (.cons (.bool _) .nil))))))))⟩, ⟨_, rfl, .strIter _ _⟩, ⟨_, rfl, ro_ic (g ++ [valH part]) 3 (some 0)⟩, trivial⟩ ⟨⟨_, rfl, .ptr _ _ rfl⟩, ⟨_, rfl, .ptr _ _ rfl⟩, ⟨_, rfl, .string _⟩, ⟨_, rfl, .ptr _ _ rfl⟩, ⟨_, rfl, .ptr _ _ rfl⟩, ⟨_, rfl, .int _ _⟩, trivial⟩ rfl⟩
        · have hp : part = [] := by simpa using hp
          subst hp
          have hl0 : l ≠ [] := by rintro rfl; exact absurd hlt (Nat.not_lt_zero _)
          refine ⟨fun _ => ?_, fun h => absurd h (by simp [hl0])⟩
          intro z4 hz4
          subst hz4
          refine ⟨fun hz => ?_, fun _ => ?_⟩
          · exfalso
            have : ((g.length : Nat) : Int) = 0 := by simpa only [beq_iff_eq] using hz
            exact hgne (List.length_eq_zero_iff.1 (by omega))
          · exact fail (t_colon_no (x := ⟨g, [], gap, false, false, [], false⟩) rfl rfl rfl (fun h => hgne h.1) (fun h => by cases h.1))
      · have h58 : c ≠ 58 := not58 h58
        refine ⟨fun h46 => ?_, fun h46 => ?_⟩
        · have h46 : c = 46 := of46' h46
          subst h46
          rw [low (by decide)]
          refine (xfun_of decimal_spec (.bool _)).call (one_mem (.string _)) ?_
          refine ⟨fun hdc => ?_, fun hdc => ?_⟩
          · have hdc : dec part = false := not_true hdc
            exact fail (t_point_no (x := ⟨g, part, gap, false, false, [], false⟩) rfl rfl (fun h => by have := h.1; rw [hdc] at this; cases this))
          have hdc : dec part = true := not_false' hdc
          rw [Int.toNat_natCast]
          refine call_same (mayDotb_at (g := g) (q := 7) (c := false) (f := false) (d := false) (by omega) hglen (by decide) rfl rfl rfl) ?_
          refine ⟨fun hm => ?_, fun hm => ?_⟩
          · exact fail (t_point_no (x := ⟨g, part, gap, false, false, [], false⟩) rfl rfl (fun h => by have := (mdB_iff g.length gap).2 h.2; rw [this] at hm; cases hm))
          have hm : mdB g.length gap = true := not_false' hm
          have hdv := dec_val hdc
          refine (xfun_of (value_spec (b := 10) (by decide) (by decide) w.phex w.plen) (.int _ _)).call (two_mem (.string _) (.int _ _)) ?_
          rw [valB_10 part hdv.2.2.2.2]
          exact someN_mk 5 rfl ⟨⟨i + 1, g, [], gap, [], val part⟩, next _ (t_point_yes (x := ⟨g, part, gap, false, false, [], false⟩) rfl rfl hdc ((mdB_iff g.length gap).1 hm)), mless hlt, Gc.env ⟨rfl, rfl, rfl, rfl, rfl, rfl, trivial⟩⟩
        · have h46 : c ≠ 46 := not46 h46
          refine (xfun_of (digit_spec (c := ((c.toNat : Nat) : Int)) (by omega) (by omega)) (.int _ _)).call (one_mem (.int _ _)) ?_
          rw [hxI_hx]
          refine ⟨fun hh => ?_, fun hh => ?_⟩
          · exact fail (t_hex_no (x := ⟨g, part, gap, false, false, [], false⟩) rfl rfl h58 h46 (.inl (of_decide_eq_true hh)))
          have hh : 0 ≤ hx c := by have := of_decide_eq_false hh; omega
          have h8 := hx_low hh
          rw [low h8, Int.toNat_natCast]
          refine call_same (roomb_at (g := g) (q := 7) (c := false) (f := false) (d := false) (by omega) hglen (by decide) rfl rfl rfl) ?_
          refine ⟨fun hr => ?_, fun hr => ?_⟩
          · have hr := of_decide_eq_true hr
            exact fail (t_hex_no (x := ⟨g, part, gap, false, false, [], false⟩) rfl rfl h58 h46 (.inr (.inl (rm_lt.1 hr))))
          have hr : ¬ most gap ≤ g.length := fun h => (of_decide_eq_false hr) (rm_lt.2 h)
          intro z4 hz4
          have hz4 : z4 = ((part.length : Nat) : Int) := hz4
          subst hz4
          refine ⟨fun h4 => ?_, fun h4 => ?_⟩
          · have h4 := of_decide_eq_true h4
            intro z5 hz5
            rw [xwrap32 (by omega) (by omega)] at hz5
            subst hz5
            rw [enc_low h8]
            refine ⟨rfl, aBin2_add_bs (l := part) (l' := [c]) (by show part.length + 1 < _; omega), ?_⟩
            exact someN_mk 2 rfl ⟨⟨i + 1, g, part ++ [c], gap, [], 0⟩, ⟨next _ (t_hex_yes (x := ⟨g, part, gap, false, false, [], false⟩) rfl rfl h58 h46 hh hr (by show part.length < 4; omega)), hgne⟩, mless hlt, Gc.env ⟨rfl, rfl, rfl, rfl, rfl, rfl, trivial⟩⟩
          · have h4 := of_decide_eq_false h4
            exact fail (t_hex_no (x := ⟨g, part, gap, false, false, [], false⟩) rfl rfl h58 h46 (.inr (.inr (by show 4 ≤ part.length; omega))))
    · have w := h6.2.1
      rw [unI_ic]
      exact ⟨aNextStr_end (l := l) rfl (by have := of_decide_eq_false hd; omega), end_go h6 hd hl (ad2 w hgne rfl)⟩
  ·
    obtain ⟨i, g, part, gap, dots, dd⟩ := s
    have h6 : sOK l i ⟨g, [], gap, true, false, [], false⟩ := hs
    dsimp only [cph0, cph1, cph2, cph3, cph4, cph5, cph6, cph7, cph8, cph9, cph10, cph11, cph12, cph13, cph14, cph15, cph16, cph17, cph18, cph19, cph20, cph21, cph22, cph23, cph24, cph25, cph26, cph27, cph28, cph29, cph30, cph31, cph32, cpf0, cpf1, cpf2, cps0, cps1, cps2]
    refine ⟨fun hd => ?_, fun hd => ?_⟩
    · have hlt := of_decide_eq_true hd
      clear hd
      have hil : i < 2 ^ 63 := by omega
      refine next_step (aNextStr_at (l := l) rfl hlt) (fun z hz => by simp at hz; exact Prod.ext (by omega) (by omega)) ?_
      generalize hv : Utf8.decode (bs l) i = v
      refine xstep (aIndex_bs (l := l) (i := (i : Int)) xu9 (by omega) (by omega)) ?_
      rw [Int.toNat_natCast]
      have low : (l.getD i 0).toNat < 128 → v.2 = 1 := fun h => by rw [← hv, decode_low hlt h]
      have fail : take6 ⟨g, [], gap, true, false, [], false⟩ (l.getD i 0) = none → ∀ z : Int, z = IntKind.i64.wrap (0 + (i : Int)) → Res.ret (.tuple ⟨[zG, .int .i64 z, .int .i64 20]⟩) = .ret (p6V l) := fun h z hz => leafF h6 hlt hil h hz
      have next : ∀ y, take6 ⟨g, [], gap, true, false, [], false⟩ (l.getD i 0) = some y → sOK l (i + 1) y := fun y h => sOK_next h6 hlt h
      have w := h6.2.1
      generalize l.getD i 0 = c at low fail next ⊢
      have hb := c.toNat_lt
      have hglen : g.length ≤ 8 := w.glen
      have hgap : gap ≤ g.length + 1 := w.gap
      have hgne : g ≠ [] := (w.col rfl).2.2
      have hl0 : l ≠ [] := by rintro rfl; exact absurd hlt (Nat.not_lt_zero _)
      refine ⟨fun h58 => ?_, fun h58 => ?_⟩
      · have h58 : c = 58 := of58 h58
        subst h58
        rw [low (by decide), bs_toList, bs_toList]
        refine ⟨fun _ => ?_, fun h => absurd h (by simp [hl0])⟩
        intro z4 hz4
        subst hz4
        refine ⟨fun hz => ?_, fun _ => ⟨fun hg => ?_, fun hg => ?_⟩⟩
        · exfalso
          have : ((g.length : Nat) : Int) = 0 := by simpa only [beq_iff_eq] using hz
          exact hgne (List.length_eq_zero_iff.1 (by omega))
        · have hg := gap0 hg
          intro z5 hz5 z6 hz6
          rw [hz5, xwrapi (by omega) (by omega)] at hz6
          have hz6 : z6 = ((g.length + 1 : Nat) : Int) := by omega
          subst hz6
          exact someN_mk 2 rfl ⟨⟨i + 1, g, [], g.length + 1, [], 0⟩, ⟨next _ (t_gap (x := ⟨g, [], gap, true, false, [], false⟩) rfl rfl rfl rfl hg), hgne⟩, mless hlt, Gc.env ⟨rfl, rfl, rfl, rfl, rfl, rfl, trivial⟩⟩
        · have hg := gap1 hg
          exact fail (t_colon_no (x := ⟨g, [], gap, true, false, [], false⟩) rfl rfl rfl (fun h => by cases h.2.2) (fun h => hg h.2))
      · have h58 : c ≠ 58 := not58 h58
        refine ⟨fun h46 => ?_, fun h46 => ?_⟩
        · have h46 : c = 46 := of46' h46
          subst h46
          refine (xfun_of (decimal_spec (l := [])) (.bool _)).call (one_mem (.string _)) ?_
          refine ⟨fun _ => ?_, fun hdc => absurd hdc (by decide)⟩
          exact fail (t_point_no (x := ⟨g, [], gap, true, false, [], false⟩) rfl rfl (fun h => by have h := h.1; cases h))
        · have h46 : c ≠ 46 := not46 h46
          refine (xfun_of (digit_spec (c := ((c.toNat : Nat) : Int)) (by omega) (by omega)) (.int _ _)).call (one_mem (.int _ _)) ?_
          rw [hxI_hx]
          refine ⟨fun hh => ?_, fun hh => ?_⟩
          · exact fail (t_hex_no (x := ⟨g, [], gap, true, false, [], false⟩) rfl rfl h58 h46 (.inl (of_decide_eq_true hh)))
          have hh : 0 ≤ hx c := by have := of_decide_eq_false hh; omega
          have h8 := hx_low hh
          rw [low h8, Int.toNat_natCast]
          refine call_same (roomb_at (g := g) (q := 7) (c := true) (f := false) (d := false) (by omega) hglen (by decide) rfl rfl rfl) ?_
          refine ⟨fun hr => ?_, fun hr => ?_⟩
          · have hr := of_decide_eq_true hr
            exact fail (t_hex_no (x := ⟨g, [], gap, true, false, [], false⟩) rfl rfl h58 h46 (.inr (.inl (rm_lt.1 hr))))
          have hr : ¬ most gap ≤ g.length := fun h => (of_decide_eq_false hr) (rm_lt.2 h)
          intro z5 hz5
          rw [xwrap32 (by omega) (by omega)] at hz5
          subst hz5
          rw [enc_low h8]
          refine ⟨rfl, aBin2_add_bs (l := []) (l' := [c]) (by show 0 + 1 < _; omega), ?_⟩
          exact someN_mk 2 rfl ⟨⟨i + 1, g, [c], gap, [], 0⟩, ⟨next _ (t_hex_yes (x := ⟨g, [], gap, true, false, [], false⟩) rfl rfl h58 h46 hh hr (by show 0 < 4; omega)), hgne⟩, mless hlt, Gc.env ⟨rfl, rfl, rfl, rfl, rfl, rfl, trivial⟩⟩
    · have w := h6.2.1
      rw [unI_ic]
      exact ⟨aNextStr_end (l := l) rfl (by have := of_decide_eq_false hd; omega), end_go h6 hd hl (ad3 rfl)⟩
  ·
    obtain ⟨i, g, part, gap, dots, dd⟩ := s
    have h6 : sOK l i ⟨[], part, gap, false, false, [dd], true⟩ := hs
    dsimp only [cph0, cph1, cph2, cph3, cph4, cph5, cph6, cph7, cph8, cph9, cph10, cph11, cph12, cph13, cph14, cph15, cph16, cph17, cph18, cph19, cph20, cph21, cph22, cph23, cph24, cph25, cph26, cph27, cph28, cph29, cph30, cph31, cph32, cpf0, cpf1, cpf2, cps0, cps1, cps2]
    refine ⟨fun hd => ?_, fun hd => ?_⟩
    · have hlt := of_decide_eq_true hd
      clear hd
      have hil : i < 2 ^ 63 := by omega
      refine next_step (aNextStr_at (l := l) rfl hlt) (fun z hz => by simp at hz; exact Prod.ext (by omega) (by omega)) ?_
      generalize hv : Utf8.decode (bs l) i = v
      refine xstep (aIndex_bs (l := l) (i := (i : Int)) xu9 (by omega) (by omega)) ?_
      rw [Int.toNat_natCast]
      have low : (l.getD i 0).toNat < 128 → v.2 = 1 := fun h => by rw [← hv, decode_low hlt h]
      have fail : take6 ⟨[], part, gap, false, false, [dd], true⟩ (l.getD i 0) = none → ∀ z : Int, z = IntKind.i64.wrap (0 + (i : Int)) → Res.ret (.tuple ⟨[zG, .int .i64 z, .int .i64 20]⟩) = .ret (p6V l) := fun h z hz => leafF h6 hlt hil h hz
      have next : ∀ y, take6 ⟨[], part, gap, false, false, [dd], true⟩ (l.getD i 0) = some y → sOK l (i + 1) y := fun y h => sOK_next h6 hlt h
      have w := h6.2.1
      generalize l.getD i 0 = c at low fail next ⊢
      have hb := c.toNat_lt
      refine ⟨fun h46 => ?_, fun h46 => ?_⟩
      · have h46 : c = 46 := of46' h46
        subst h46
        rw [low (by decide), bs_toList, bs_toList]
        refine ⟨fun hp => ?_, fun hp => ?_⟩
        · have hp : part = [] := by simpa using hp
          exact fail (t_dd_no (x := ⟨[], part, gap, false, false, [dd], true⟩) rfl rfl (.inl hp))
        have hp : part ≠ [] := by simpa using hp
        have hdc : dec part = true := by rcases w.pdec rfl with h | h; exact absurd h hp; exact h
        have hdv := dec_val hdc
        refine (xfun_of (value_spec (b := 10) (by decide) (by decide) w.phex w.plen) (.int _ _)).call (two_mem (.string _) (.int _ _)) ?_
        rw [valB_10 part hdv.2.2.2.2]
        refine ⟨rfl, ?_⟩
        exact someN_mk 6 rfl ⟨⟨i + 1, [], [], gap, [dd, val part], 0⟩, next _ (t_dd_yes (x := ⟨[], part, gap, false, false, [dd], true⟩) rfl rfl hp (by simp)), mless hlt,
          Gc.ren [0, 1, 2, 3, 4, 5, 6, 9] (by decide) rfl rfl rfl ⟨⟨_, rfl, ro_flat rfl⟩, ⟨_, rfl, ro_flat rfl⟩, ⟨_, rfl, ro_flat rfl⟩, ⟨_, rfl, ro_flat rfl⟩, ⟨_, rfl, ro_flat rfl⟩, ⟨_, rfl, .cells _ (.cons (.string _) (.cons (.snil _ _) (.cons (.string _) (.cons (.int _ _) (.cons (.bool _) (.cons (.bool _) (.cons (.slice _ _ _ _ rfl) (.cons (.bool _) .nil))))))))⟩, ⟨_, rfl, .strIter _ _⟩, ⟨_, rfl, ro_ic ([dd, val part]) 3 (some 0)⟩, trivial⟩ ⟨⟨_, rfl, .ptr _ _ rfl⟩, ⟨_, rfl, .ptr _ _ rfl⟩, ⟨_, rfl, .string _⟩, ⟨_, rfl, .ptr _ _ rfl⟩, ⟨_, rfl, .ptr _ _ rfl⟩, ⟨_, rfl, .int _ _⟩, trivial⟩ rfl⟩
      · have h46 : c ≠ 46 := not46 h46
        refine ⟨fun h48 => ?_, fun h48 => ⟨fun h57 => ?_, fun h57 => ?_⟩⟩
        · have h48 := of_decide_eq_true h48
          exact fail (t_dc_no (x := ⟨[], part, gap, false, false, [dd], true⟩) rfl rfl h46 (.inl (by unfold isD; rw [Bool.and_eq_false_iff]; exact .inl (decide_eq_false (by omega)))))
        · have h57 := of_decide_eq_true h57
          exact fail (t_dc_no (x := ⟨[], part, gap, false, false, [dd], true⟩) rfl rfl h46 (.inl (by unfold isD; rw [Bool.and_eq_false_iff]; exact .inr (decide_eq_false (by omega)))))
        have h48 := of_decide_eq_false h48
        have h57 := of_decide_eq_false h57
        have hD : isD c = true := by unfold isD; rw [decide_eq_true (by omega), decide_eq_true (by omega)]; rfl
        have h8 : c.toNat < 128 := by omega
        rw [low h8]
        intro z4 hz4
        rw [xwrap32 (by omega) (by omega)] at hz4
        subst hz4
        rw [enc_low h8]
        have hpl : part.length ≤ 4 := w.plen
        refine ⟨rfl, aBin2_add_bs (l := part) (l' := [c]) (by show part.length + 1 < _; omega), ?_⟩
        refine (xfun_of (decimal_spec (l := part ++ [c])) (.bool _)).call (one_mem (.string _)) ?_
        refine ⟨fun hdc => ?_, fun hdc => ?_⟩
        · have hdc : dec (part ++ [c]) = false := not_true hdc
          exact fail (t_dc_no (x := ⟨[], part, gap, false, false, [dd], true⟩) rfl rfl h46 (.inr hdc))
        have hdc : dec (part ++ [c]) = true := not_false' hdc
        intro z5 hz5
        rw [xwrap32 (by omega) (by omega)] at hz5
        subst hz5
        rw [enc_low h8]
        refine ⟨rfl, aBin2_add_bs (l := part) (l' := [c]) (by show part.length + 1 < _; omega), ?_⟩
        exact someN_mk 4 rfl ⟨⟨i + 1, [], part ++ [c], gap, [], dd⟩, next _ (t_dc_yes (x := ⟨[], part, gap, false, false, [dd], true⟩) rfl rfl h46 hD hdc), mless hlt, Gc.env ⟨rfl, rfl, rfl, rfl, rfl, rfl, trivial⟩⟩
    · have w := h6.2.1
      skip
      exact ⟨aNextStr_end (l := l) rfl (by have := of_decide_eq_false hd; omega), end_go h6 hd hl (ad4 rfl)⟩
  ·
    obtain ⟨i, g, part, gap, dots, dd⟩ := s
    have h6 : sOK l i ⟨g, part, gap, false, false, [dd], true⟩ := hs
    dsimp only [cph0, cph1, cph2, cph3, cph4, cph5, cph6, cph7, cph8, cph9, cph10, cph11, cph12, cph13, cph14, cph15, cph16, cph17, cph18, cph19, cph20, cph21, cph22, cph23, cph24, cph25, cph26, cph27, cph28, cph29, cph30, cph31, cph32, cpf0, cpf1, cpf2, cps0, cps1, cps2]
    refine ⟨fun hd => ?_, fun hd => ?_⟩
    · have hlt := of_decide_eq_true hd
      clear hd
      have hil : i < 2 ^ 63 := by omega
      refine next_step (aNextStr_at (l := l) rfl hlt) (fun z hz => by simp at hz; exact Prod.ext (by omega) (by omega)) ?_
      generalize hv : Utf8.decode (bs l) i = v
      refine xstep (aIndex_bs (l := l) (i := (i : Int)) xu9 (by omega) (by omega)) ?_
      rw [Int.toNat_natCast]
      have low : (l.getD i 0).toNat < 128 → v.2 = 1 := fun h => by rw [← hv, decode_low hlt h]
      have fail : take6 ⟨g, part, gap, false, false, [dd], true⟩ (l.getD i 0) = none → ∀ z : Int, z = IntKind.i64.wrap (0 + (i : Int)) → Res.ret (.tuple ⟨[zG, .int .i64 z, .int .i64 20]⟩) = .ret (p6V l) := fun h z hz => leafF h6 hlt hil h hz
      have next : ∀ y, take6 ⟨g, part, gap, false, false, [dd], true⟩ (l.getD i 0) = some y → sOK l (i + 1) y := fun y h => sOK_next h6 hlt h
      have w := h6.2.1
      generalize l.getD i 0 = c at low fail next ⊢
      have hb := c.toNat_lt
      refine ⟨fun h46 => ?_, fun h46 => ?_⟩
      · have h46 : c = 46 := of46' h46
        subst h46
        rw [low (by decide), bs_toList, bs_toList]
        refine ⟨fun hp => ?_, fun hp => ?_⟩
        · have hp : part = [] := by simpa using hp
          exact fail (t_dd_no (x := ⟨g, part, gap, false, false, [dd], true⟩) rfl rfl (.inl hp))
        have hp : part ≠ [] := by simpa using hp
        have hdc : dec part = true := by rcases w.pdec rfl with h | h; exact absurd h hp; exact h
        have hdv := dec_val hdc
        refine (xfun_of (value_spec (b := 10) (by decide) (by decide) w.phex w.plen) (.int _ _)).call (two_mem (.string _) (.int _ _)) ?_
        rw [valB_10 part hdv.2.2.2.2]
        refine ⟨rfl, ?_⟩
        exact someN_mk 7 rfl ⟨⟨i + 1, g, [], gap, [dd, val part], 0⟩, next _ (t_dd_yes (x := ⟨g, part, gap, false, false, [dd], true⟩) rfl rfl hp (by simp)), mless hlt,
          Gc.ren [0, 1, 2, 3, 4, 5, 6, 7, 10] (by decide) rfl rfl rfl ⟨⟨_, rfl, ro_flat rfl⟩, ⟨_, rfl, ro_flat rfl⟩, ⟨_, rfl, ro_flat rfl⟩, ⟨_, rfl, ro_flat rfl⟩, ⟨_, rfl, ro_flat rfl⟩, ⟨_, rfl, .cells _ (.cons (.string _) (.cons (.slice _ _ _ _ rfl) (.cons (.string _) (.cons (.int _ _) (.cons (.bool _) (.cons (.bool _) (.cons (.slice _ _ _ _ rfl) (.cons (.bool _) .nil))))))))⟩, ⟨_, rfl, .strIter _ _⟩, ⟨_, rfl, ro_ic g 3 (some 0)⟩, ⟨_, rfl, ro_ic ([dd, val part]) 3 (some 0)⟩, trivial⟩ ⟨⟨_, rfl, .ptr _ _ rfl⟩, ⟨_, rfl, .ptr _ _ rfl⟩, ⟨_, rfl, .string _⟩, ⟨_, rfl, .ptr _ _ rfl⟩, ⟨_, rfl, .ptr _ _ rfl⟩, ⟨_, rfl, .int _ _⟩, trivial⟩ rfl⟩
      · have h46 : c ≠ 46 := not46 h46
        refine ⟨fun h48 => ?_, fun h48 => ⟨fun h57 => ?_, fun h57 => ?_⟩⟩
        · have h48 := of_decide_eq_true h48
          exact fail (t_dc_no (x := ⟨g, part, gap, false, false, [dd], true⟩) rfl rfl h46 (.inl (by unfold isD; rw [Bool.and_eq_false_iff]; exact .inl (decide_eq_false (by omega)))))
        · have h57 := of_decide_eq_true h57
          exact fail (t_dc_no (x := ⟨g, part, gap, false, false, [dd], true⟩) rfl rfl h46 (.inl (by unfold isD; rw [Bool.and_eq_false_iff]; exact .inr (decide_eq_false (by omega)))))
        have h48 := of_decide_eq_false h48
        have h57 := of_decide_eq_false h57
        have hD : isD c = true := by unfold isD; rw [decide_eq_true (by omega), decide_eq_true (by omega)]; rfl
        have h8 : c.toNat < 128 := by omega
        rw [low h8]
        intro z4 hz4
        rw [xwrap32 (by omega) (by omega)] at hz4
        subst hz4
        rw [enc_low h8]
        have hpl : part.length ≤ 4 := w.plen
        refine ⟨rfl, aBin2_add_bs (l := part) (l' := [c]) (by show part.length + 1 < _; omega), ?_⟩
        refine (xfun_of (decimal_spec (l := part ++ [c])) (.bool _)).call (one_mem (.string _)) ?_
        refine ⟨fun hdc => ?_, fun hdc => ?_⟩
        · have hdc : dec (part ++ [c]) = false := not_true hdc
          exact fail (t_dc_no (x := ⟨g, part, gap, false, false, [dd], true⟩) rfl rfl h46 (.inr hdc))
        have hdc : dec (part ++ [c]) = true := not_false' hdc
        intro z5 hz5
        rw [xwrap32 (by omega) (by omega)] at hz5
        subst hz5
        rw [enc_low h8]
        refine ⟨rfl, aBin2_add_bs (l := part) (l' := [c]) (by show part.length + 1 < _; omega), ?_⟩
        exact someN_mk 5 rfl ⟨⟨i + 1, g, part ++ [c], gap, [], dd⟩, next _ (t_dc_yes (x := ⟨g, part, gap, false, false, [dd], true⟩) rfl rfl h46 hD hdc), mless hlt, Gc.env ⟨rfl, rfl, rfl, rfl, rfl, rfl, trivial⟩⟩
    · have w := h6.2.1
      rw [unI_ic]
      exact ⟨aNextStr_end (l := l) rfl (by have := of_decide_eq_false hd; omega), end_go h6 hd hl (ad5 rfl)⟩
  ·
    obtain ⟨i, g, part, gap, dots, dd⟩ := s
    have h6 : sOK l i ⟨[], part, gap, false, false, dots, true⟩ := hs
    dsimp only [cph0, cph1, cph2, cph3, cph4, cph5, cph6, cph7, cph8, cph9, cph10, cph11, cph12, cph13, cph14, cph15, cph16, cph17, cph18, cph19, cph20, cph21, cph22, cph23, cph24, cph25, cph26, cph27, cph28, cph29, cph30, cph31, cph32, cpf0, cpf1, cpf2, cps0, cps1, cps2]
    refine ⟨fun hd => ?_, fun hd => ?_⟩
    · have hlt := of_decide_eq_true hd
      clear hd
      have hil : i < 2 ^ 63 := by omega
      refine next_step (aNextStr_at (l := l) rfl hlt) (fun z hz => by simp at hz; exact Prod.ext (by omega) (by omega)) ?_
      generalize hv : Utf8.decode (bs l) i = v
      refine xstep (aIndex_bs (l := l) (i := (i : Int)) xu9 (by omega) (by omega)) ?_
      rw [Int.toNat_natCast]
      have low : (l.getD i 0).toNat < 128 → v.2 = 1 := fun h => by rw [← hv, decode_low hlt h]
      have fail : take6 ⟨[], part, gap, false, false, dots, true⟩ (l.getD i 0) = none → ∀ z : Int, z = IntKind.i64.wrap (0 + (i : Int)) → Res.ret (.tuple ⟨[zG, .int .i64 z, .int .i64 20]⟩) = .ret (p6V l) := fun h z hz => leafF h6 hlt hil h hz
      have next : ∀ y, take6 ⟨[], part, gap, false, false, dots, true⟩ (l.getD i 0) = some y → sOK l (i + 1) y := fun y h => sOK_next h6 hlt h
      have w := h6.2.1
      generalize l.getD i 0 = c at low fail next ⊢
      have hb := c.toNat_lt
      refine ⟨fun h46 => ?_, fun h46 => ?_⟩
      · have h46 : c = 46 := of46' h46
        subst h46
        rw [low (by decide), bs_toList, bs_toList]
        refine ⟨fun hp => ?_, fun hp => ?_⟩
        · have hp : part = [] := by simpa using hp
          exact fail (t_dd_no (x := ⟨[], part, gap, false, false, dots, true⟩) rfl rfl (.inl hp))
        have hp : part ≠ [] := by simpa using hp
        have hdc : dec part = true := by rcases w.pdec rfl with h | h; exact absurd h hp; exact h
        have hdv := dec_val hdc
        intro z4 hz4
        subst hz4
        refine ⟨fun h3 => ?_, fun h3 => ?_⟩
        · have h3 : ((dots.length : Nat) : Int) = 3 := by simpa using h3
          exact fail (t_dd_no (x := ⟨[], part, gap, false, false, dots, true⟩) rfl rfl (.inr (by show dots.length = 3; omega)))
        have h3 : ((dots.length : Nat) : Int) ≠ 3 := by simpa using h3
        have hdl : dots.length ≤ 3 := w.dlen
        refine (xfun_of (value_spec (b := 10) (by decide) (by decide) w.phex w.plen) (.int _ _)).call (two_mem (.string _) (.int _ _)) ?_
        rw [valB_10 part hdv.2.2.2.2]
        refine ⟨rfl, ?_⟩
        refine ⟨xapp_ic (l := [val part]) (m := dots) (b := 7) rfl rfl (by simp) (by show dots.length + 1 ≤ _; omega), ?_⟩
        exact someN_mk 6 rfl ⟨⟨i + 1, [], [], gap, dots ++ [val part], 0⟩, next _ (t_dd_yes (x := ⟨[], part, gap, false, false, dots, true⟩) rfl rfl hp (by show dots.length ≠ 3; omega)), mless hlt,
          Gc.ren [0, 1, 2, 3, 4, 5, 6, 9] (by decide) rfl rfl rfl ⟨⟨_, rfl, ro_flat rfl⟩, ⟨_, rfl, ro_flat rfl⟩, ⟨_, rfl, ro_flat rfl⟩, ⟨_, rfl, ro_flat rfl⟩, ⟨_, rfl, ro_flat rfl⟩, ⟨_, rfl, .cells _ (.cons (.string _) (.cons (.snil _ _) (.cons (.string _) (.cons (.int _ _) (.cons (.bool _) (.cons (.bool _) (.cons (xrv_slice (show (dots ++ [val part]).length = dots.length + 1 by rw [List.length_append]; rfl) rfl) (.cons (.bool _) .nil))))))))⟩, ⟨_, rfl, .strIter _ _⟩, ⟨_, rfl, ro_ic (dots ++ [val part]) 3 (some 0)⟩, trivial⟩ ⟨⟨_, rfl, .ptr _ _ rfl⟩, ⟨_, rfl, .ptr _ _ rfl⟩, ⟨_, rfl, .string _⟩, ⟨_, rfl, .ptr _ _ rfl⟩, ⟨_, rfl, .ptr _ _ rfl⟩, ⟨_, rfl, .int _ _⟩, trivial⟩ rfl⟩
      · have h46 : c ≠ 46 := not46 h46
        refine ⟨fun h48 => ?_, fun h48 => ⟨fun h57 => ?_, fun h57 => ?_⟩⟩
        · have h48 := of_decide_eq_true h48
          exact fail (t_dc_no (x := ⟨[], part, gap, false, false, dots, true⟩) rfl rfl h46 (.inl (by unfold isD; rw [Bool.and_eq_false_iff]; exact .inl (decide_eq_false (by omega)))))
        · have h57 := of_decide_eq_true h57
          exact fail (t_dc_no (x := ⟨[], part, gap, false, false, dots, true⟩) rfl rfl h46 (.inl (by unfold isD; rw [Bool.and_eq_false_iff]; exact .inr (decide_eq_false (by omega)))))
        have h48 := of_decide_eq_false h48
        have h57 := of_decide_eq_false h57
        have hD : isD c = true := by unfold isD; rw [decide_eq_true (by omega), decide_eq_true (by omega)]; rfl
        have h8 : c.toNat < 128 := by omega
        rw [low h8]
        intro z4 hz4
        rw [xwrap32 (by omega) (by omega)] at hz4
        subst hz4
        rw [enc_low h8]
        have hpl : part.length ≤ 4 := w.plen
        refine ⟨rfl, aBin2_add_bs (l := part) (l' := [c]) (by show part.length + 1 < _; omega), ?_⟩
        refine (xfun_of (decimal_spec (l := part ++ [c])) (.bool _)).call (one_mem (.string _)) ?_
        refine ⟨fun hdc => ?_, fun hdc => ?_⟩
        · have hdc : dec (part ++ [c]) = false := not_true hdc
          exact fail (t_dc_no (x := ⟨[], part, gap, false, false, dots, true⟩) rfl rfl h46 (.inr hdc))
        have hdc : dec (part ++ [c]) = true := not_false' hdc
        intro z5 hz5
        rw [xwrap32 (by omega) (by omega)] at hz5
        subst hz5
        rw [enc_low h8]
        refine ⟨rfl, aBin2_add_bs (l := part) (l' := [c]) (by show part.length + 1 < _; omega), ?_⟩
        exact someN_mk 6 rfl ⟨⟨i + 1, [], part ++ [c], gap, dots, 0⟩, next _ (t_dc_yes (x := ⟨[], part, gap, false, false, dots, true⟩) rfl rfl h46 hD hdc), mless hlt, Gc.env ⟨rfl, rfl, rfl, rfl, rfl, rfl, trivial⟩⟩
    · have w := h6.2.1
      rw [unI_ic]
      exact ⟨aNextStr_end (l := l) rfl (by have := of_decide_eq_false hd; omega), end_go h6 hd hl (ad6 w rfl)⟩
  ·
    obtain ⟨i, g, part, gap, dots, dd⟩ := s
    have h6 : sOK l i ⟨g, part, gap, false, false, dots, true⟩ := hs
    dsimp only [cph0, cph1, cph2, cph3, cph4, cph5, cph6, cph7, cph8, cph9, cph10, cph11, cph12, cph13, cph14, cph15, cph16, cph17, cph18, cph19, cph20, cph21, cph22, cph23, cph24, cph25, cph26, cph27, cph28, cph29, cph30, cph31, cph32, cpf0, cpf1, cpf2, cps0, cps1, cps2]
    refine ⟨fun hd => ?_, fun hd => ?_⟩
    · have hlt := of_decide_eq_true hd
      clear hd
      have hil : i < 2 ^ 63 := by omega
      refine next_step (aNextStr_at (l := l) rfl hlt) (fun z hz => by simp at hz; exact Prod.ext (by omega) (by omega)) ?_
      generalize hv : Utf8.decode (bs l) i = v
      refine xstep (aIndex_bs (l := l) (i := (i : Int)) xu9 (by omega) (by omega)) ?_
      rw [Int.toNat_natCast]
      have low : (l.getD i 0).toNat < 128 → v.2 = 1 := fun h => by rw [← hv, decode_low hlt h]
      have fail : take6 ⟨g, part, gap, false, false, dots, true⟩ (l.getD i 0) = none → ∀ z : Int, z = IntKind.i64.wrap (0 + (i : Int)) → Res.ret (.tuple ⟨[zG, .int .i64 z, .int .i64 20]⟩) = .ret (p6V l) := fun h z hz => leafF h6 hlt hil h hz
      have next : ∀ y, take6 ⟨g, part, gap, false, false, dots, true⟩ (l.getD i 0) = some y → sOK l (i + 1) y := fun y h => sOK_next h6 hlt h
      have w := h6.2.1
      generalize l.getD i 0 = c at low fail next ⊢
      have hb := c.toNat_lt
      refine ⟨fun h46 => ?_, fun h46 => ?_⟩
      · have h46 : c = 46 := of46' h46
        subst h46
        rw [low (by decide), bs_toList, bs_toList]
        refine ⟨fun hp => ?_, fun hp => ?_⟩
        · have hp : part = [] := by simpa using hp
          exact fail (t_dd_no (x := ⟨g, part, gap, false, false, dots, true⟩) rfl rfl (.inl hp))
        have hp : part ≠ [] := by simpa using hp
        have hdc : dec part = true := by rcases w.pdec rfl with h | h; exact absurd h hp; exact h
        have hdv := dec_val hdc
        intro z4 hz4
        subst hz4
        refine ⟨fun h3 => ?_, fun h3 => ?_⟩
        · have h3 : ((dots.length : Nat) : Int) = 3 := by simpa using h3
          exact fail (t_dd_no (x := ⟨g, part, gap, false, false, dots, true⟩) rfl rfl (.inr (by show dots.length = 3; omega)))
        have h3 : ((dots.length : Nat) : Int) ≠ 3 := by simpa using h3
        have hdl : dots.length ≤ 3 := w.dlen
        refine (xfun_of (value_spec (b := 10) (by decide) (by decide) w.phex w.plen) (.int _ _)).call (two_mem (.string _) (.int _ _)) ?_
        rw [valB_10 part hdv.2.2.2.2]
        refine ⟨rfl, ?_⟩
        refine ⟨xapp_ic (l := [val part]) (m := dots) (b := 8) rfl rfl (by simp) (by show dots.length + 1 ≤ _; omega), ?_⟩
        exact someN_mk 7 rfl ⟨⟨i + 1, g, [], gap, dots ++ [val part], 0⟩, next _ (t_dd_yes (x := ⟨g, part, gap, false, false, dots, true⟩) rfl rfl hp (by show dots.length ≠ 3; omega)), mless hlt,
          Gc.ren [0, 1, 2, 3, 4, 5, 6, 7, 10] (by decide) rfl rfl rfl ⟨⟨_, rfl, ro_flat rfl⟩, ⟨_, rfl, ro_flat rfl⟩, ⟨_, rfl, ro_flat rfl⟩, ⟨_, rfl, ro_flat rfl⟩, ⟨_, rfl, ro_flat rfl⟩, ⟨_, rfl, .cells _ (.cons (.string _) (.cons (.slice _ _ _ _ rfl) (.cons (.string _) (.cons (.int _ _) (.cons (.bool _) (.cons (.bool _) (.cons (xrv_slice (show (dots ++ [val part]).length = dots.length + 1 by rw [List.length_append]; rfl) rfl) (.cons (.bool _) .nil))))))))⟩, ⟨_, rfl, .strIter _ _⟩, ⟨_, rfl, ro_ic g 3 (some 0)⟩, ⟨_, rfl, ro_ic (dots ++ [val part]) 3 (some 0)⟩, trivial⟩ ⟨⟨_, rfl, .ptr _ _ rfl⟩, ⟨_, rfl, .ptr _ _ rfl⟩, ⟨_, rfl, .string _⟩, ⟨_, rfl, .ptr _ _ rfl⟩, ⟨_, rfl, .ptr _ _ rfl⟩, ⟨_, rfl, .int _ _⟩, trivial⟩ rfl⟩
      · have h46 : c ≠ 46 := not46 h46
        refine ⟨fun h48 => ?_, fun h48 => ⟨fun h57 => ?_, fun h57 => ?_⟩⟩
        · have h48 := of_decide_eq_true h48
          exact fail (t_dc_no (x := ⟨g, part, gap, false, false, dots, true⟩) rfl rfl h46 (.inl (by unfold isD; rw [Bool.and_eq_false_iff]; exact .inl (decide_eq_false (by omega)))))
        · have h57 := of_decide_eq_true h57
          exact fail (t_dc_no (x := ⟨g, part, gap, false, false, dots, true⟩) rfl rfl h46 (.inl (by unfold isD; rw [Bool.and_eq_false_iff]; exact .inr (decide_eq_false (by omega)))))
        have h48 := of_decide_eq_false h48
        have h57 := of_decide_eq_false h57
        have hD : isD c = true := by unfold isD; rw [decide_eq_true (by omega), decide_eq_true (by omega)]; rfl
        have h8 : c.toNat < 128 := by omega
        rw [low h8]
        intro z4 hz4
        rw [xwrap32 (by omega) (by omega)] at hz4
        subst hz4
        rw [enc_low h8]
        have hpl : part.length ≤ 4 := w.plen
        refine ⟨rfl, aBin2_add_bs (l := part) (l' := [c]) (by show part.length + 1 < _; omega), ?_⟩
        refine (xfun_of (decimal_spec (l := part ++ [c])) (.bool _)).call (one_mem (.string _)) ?_
        refine ⟨fun hdc => ?_, fun hdc => ?_⟩
        · have hdc : dec (part ++ [c]) = false := not_true hdc
          exact fail (t_dc_no (x := ⟨g, part, gap, false, false, dots, true⟩) rfl rfl h46 (.inr hdc))
        have hdc : dec (part ++ [c]) = true := not_false' hdc
        intro z5 hz5
        rw [xwrap32 (by omega) (by omega)] at hz5
        subst hz5
        rw [enc_low h8]
        refine ⟨rfl, aBin2_add_bs (l := part) (l' := [c]) (by show part.length + 1 < _; omega), ?_⟩
        exact someN_mk 7 rfl ⟨⟨i + 1, g, part ++ [c], gap, dots, 0⟩, next _ (t_dc_yes (x := ⟨g, part, gap, false, false, dots, true⟩) rfl rfl h46 hD hdc), mless hlt, Gc.env ⟨rfl, rfl, rfl, rfl, rfl, rfl, trivial⟩⟩
    · have w := h6.2.1
      rw [unI_ic, unI_ic]
      exact ⟨aNextStr_end (l := l) rfl (by have := of_decide_eq_false hd; omega), end_go h6 hd hl (ad7 w rfl)⟩
end Go.Proofs.YtopladipgobpjaaDoor
