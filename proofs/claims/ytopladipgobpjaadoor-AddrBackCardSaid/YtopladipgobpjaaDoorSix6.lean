/-
  (*sixth).address: its contract. Conditions: what stands good of the reader's state (W6).
-/
import Derived.Test.YtopladipgobpjaaDoorSix5
import Derived.Test.YtopladipgobpjaaDoorPlainA
namespace Go.Proofs.YtopladipgobpjaaDoor
open Go.Fm
theorem mkA_some {g : List Int} {p : List UInt8} {gap : Nat} {c f : Bool} {ds : List Int} {d : Bool} {L : List Int} (h : addr6 ⟨g, p, gap, c, f, ds, d⟩ = some L) :
    mkA g p gap c f ds d = .tuple ⟨[.agg ⟨[.int .u8 (byteAt L 0), .int .u8 (byteAt L 1), .int .u8 (byteAt L 2), .int .u8 (byteAt L 3), .int .u8 (byteAt L 4), .int .u8 (byteAt L 5), .int .u8 (byteAt L 6), .int .u8 (byteAt L 7), .int .u8 (byteAt L 8), .int .u8 (byteAt L 9), .int .u8 (byteAt L 10), .int .u8 (byteAt L 11), .int .u8 (byteAt L 12), .int .u8 (byteAt L 13), .int .u8 (byteAt L 14), .int .u8 (byteAt L 15)]⟩, .bool true]⟩ := by
  unfold mkA bG oA bA; rw [h]; rfl
theorem mkA_none {g : List Int} {p : List UInt8} {gap : Nat} {c f : Bool} {ds : List Int} {d : Bool} (h : addr6 ⟨g, p, gap, c, f, ds, d⟩ = none) :
    mkA g p gap c f ds d = .tuple ⟨[zG, .bool false]⟩ := by
  unfold mkA bG oA bA; rw [h]; rfl
theorem xs3 : aSize Tryd.prog 3 = some 1 := by kernel_rfl
theorem xa3 : aIsAgg Tryd.prog 3 = some false := by kernel_rfl
theorem xu80' : Tryd.prog.underlying 80 = some (.slice 3) := by kernel_rfl
theorem xu3 : Tryd.prog.underlying 3 = some (.int .i64) := by kernel_rfl
theorem xz3' : ((aZero Tryd.prog 3).map fun z => z.cells) = some #[.int .i64 0] := by kernel_rfl
theorem xi3' : (Tryd.prog.info? 3).map (fun i => (i.size, i.bytes)) = some (1, 8) := by kernel_rfl
theorem xw8 {n : Nat} (h : n ≤ 8) : IntKind.i64.wrap (8 - ((n : Nat) : Int)) = ((8 - n : Nat) : Int) := by
  rw [xwrapi (by omega) (by omega)]; omega
theorem xw2 {m : Nat} (h : m ≤ 100) : IntKind.i64.wrap ((((m + 2 : Nat)) : Int) - 1) = ((m + 1 : Nat) : Int) := by
  rw [xwrapi (by omega) (by omega)]; omega
theorem xsl_to {b n N : Nat} {z : Int} (h0 : 0 ≤ z) (hz : z.toNat = n) (h : n ≤ N) :
    aSlice Tryd.prog 80 (.slice (some ⟨b, 0, some 1⟩) N N) none (some (.int .i64 z)) none = some (.slice (some ⟨b, 0, some 1⟩) n N) := by
  unfold aSlice
  simp only [xu80', aBound, xs3, Option.bind_some]
  rw [if_pos ⟨h0, by omega⟩]
  simp [hz]
theorem xsl_from {b n o N : Nat} {z : Int} (h0 : 0 ≤ z) (hz : z.toNat = n) (h : n ≤ N) (ho : o = n) :
    aSlice Tryd.prog 80 (.slice (some ⟨b, 0, some 1⟩) N N) (some (.int .i64 z)) none none = some (.slice (some ⟨b, o, some 1⟩) (N - n) (N - n)) := by
  subst ho
  unfold aSlice
  simp only [xu80', aBound, xs3, Option.bind_some]
  rw [if_pos ⟨h0, by omega⟩]
  simp [hz]
theorem xnew_sub {b o n c : Nat} {g : List Int} {sp : Option Nat} {z : Option Nat} {h : AHeap} {L : List Int} (hb : h[b]? = some (.tcells (ic g) 3 z)) (hn : o + n ≤ g.length) (hL : (g.drop o).take n = L) (hc : 0 < n) :
    aNew Tryd.prog 3 1 80 (.slice (some ⟨b, o, sp⟩) n c) h = some (n, ic L) := by
  unfold aNew
  simp only [xu80', aLenOf, Option.bind_some, aFirst]
  unfold aView
  simp only [Nat.mul_one]
  rw [if_neg (by omega), if_pos (Nat.le_refl _)]
  unfold aCells
  simp only [Option.isSome_none, Bool.false_eq_true, if_false, hb]
  rw [if_pos (by rw [ic_length]; exact hn), ic_drop, ic_take, hL]; rfl
theorem ic_rep (n : Nat) : ic (List.replicate n 0) = List.replicate n (.int .i64 0) := by simp [ic]
theorem xrow (n : Nat) : zeroRow #[.int .i64 0] n = some (List.replicate n (.int .i64 0)) := by
  unfold zeroRow
  by_cases h : n = 0
  · subst h; rfl
  · rw [if_neg h, if_neg (by simp)]
    congr 1
    apply List.ext_getElem
    · simp
    · intro i h1 h2
      simp [Nat.mod_one]
theorem xnew_z {n : Nat} {z : Int} {h : AHeap} (h0 : 0 ≤ z) (hz : z.toNat = n) (hn : n < 100) : aNew Tryd.prog 3 1 3 (.int .i64 z) h = some (n, ic (List.replicate n 0)) := by
  unfold aNew
  simp only [xu3]
  rw [if_pos ⟨h0, by omega⟩]
  obtain ⟨v, hv, e⟩ := Option.map_eq_some_iff.1 xz3'
  rw [hv, Option.bind_some, e, if_pos (show #[Value.int .i64 0].size = 1 from rfl), Nat.mul_one, xrow, hz, ic_rep]; rfl
theorem xappG {x : Value} {h : AHeap} {xt : TypeId} {l m : List Int} {b a n : Nat} {z : Option Nat} (hn : aNew Tryd.prog 3 1 xt x h = some (n, ic l)) (hl : l.length = n) (hc : h[b]? = some (.tcells (ic m) 3 z)) (hm : m.length = a) (h0 : 0 < n) (hb : a + n ≤ 2 ^ 40) (hz : z.getD 0 = 0 := by rfl) :
    aAppend Tryd.prog 80 xt (.slice (some ⟨b, 0, some 1⟩) a a) x h = some (.slice (some ⟨h.length, 0, some 1⟩) (a + n) (a + n), h.set b .dead ++ [.tcells (ic (m ++ l)) 3 z]) := by
  obtain ⟨i, hi, e⟩ := Option.map_eq_some_iff.1 xi3'
  have e1 : i.size = 1 := congrArg Prod.fst e
  have e2 : i.bytes = 8 := congrArg Prod.snd e
  have hz1 : ((aZero Tryd.prog 3).map fun z => z.cells.size) = some 1 := by
    obtain ⟨v, hv, e⟩ := Option.map_eq_some_iff.1 xz3'
    rw [hv]; show some v.cells.size = _; rw [e]; rfl
  subst hl hm
  have := aAppend_row_next (P := Tryd.prog) (l := ic l) (m := ic m) xu80' hi e1 (by omega) (by rw [e1]; exact hz1) (by rw [ic_length]; exact hn) (ic_isCell l) hc (by omega) (by rw [ic_length]; exact h0) (by rw [ic_length, ic_length]; exact hb)
  rw [ic_length, ic_length, ic_append] at this
  exact this
theorem xapp0 {x : Value} {h : AHeap} {xt : TypeId} {l : List Int} {b n : Nat} (hn : aNew Tryd.prog 3 1 xt x h = some (n, ic l)) (hl : l.length = n) (h0 : 0 < n) (hb : n ≤ 2 ^ 40) :
    aAppend Tryd.prog 80 xt (.slice (some ⟨b, 0, none⟩) 0 0) x h = some (.slice (some ⟨h.length, 0, some 1⟩) n n, h ++ [.tcells (ic l) 3 (some 0)]) := by
  obtain ⟨i, hi, e⟩ := Option.map_eq_some_iff.1 xi3'
  have e1 : i.size = 1 := congrArg Prod.fst e
  have e2 : i.bytes = 8 := congrArg Prod.snd e
  have hz1 : ((aZero Tryd.prog 3).map fun z => z.cells.size) = some 1 := by
    obtain ⟨v, hv, e⟩ := Option.map_eq_some_iff.1 xz3'
    rw [hv]; show some v.cells.size = _; rw [e]; rfl
  unfold aAppend
  simp only [xu80', hi, e1]
  rw [if_neg (by omega), hn]
  have hb1 : n * i.bytes = n * 8 := by rw [e2]
  have hb2 : (0 + n) * i.bytes = n * 8 := by rw [e2, Nat.zero_add]
  simp only [Option.bind_some, hz1, ic_isCell, ic_length, hl, hb1, hb2]
  rw [if_neg (by omega), if_neg (by omega), if_pos ⟨by omega, by omega, trivial, trivial⟩]
  unfold aGrow
  simp only [if_true]
theorem xappE {h : AHeap} {b bx o n c a : Nat} {sp sx : Option Nat} (hn : n = 0) :
    aAppend Tryd.prog 80 80 (.slice (some ⟨b, 0, sp⟩) a a) (.slice (some ⟨bx, o, sx⟩) n c) h = some (.slice (some ⟨b, 0, sp⟩) a a, h) := by
  subst hn
  obtain ⟨i, hi, e⟩ := Option.map_eq_some_iff.1 xi3'
  have e1 : i.size = 1 := congrArg Prod.fst e
  have e2 : i.bytes = 8 := congrArg Prod.snd e
  have hnew : aNew Tryd.prog 3 1 80 (.slice (some ⟨bx, o, sx⟩) 0 c) h = some (0, []) := by
    unfold aNew
    simp only [xu80', aLenOf, Option.bind_some, aFirst]
    unfold aView
    simp
  unfold aAppend
  simp only [xu80', hi, e1]
  rw [if_neg (by omega), hnew]
  simp
theorem by1 {b N j s i : Nat} {L : List Int} {X : Int → Prop} (hN : N = 8) (hL : L.length = 8) (hok : okG L) (hi : i / 2 = j) (hj : j < 8) (hs : s = if i % 2 = 0 then 8 else 0) (hX : X (byteAt L i)) : By1 b N L j s X := by
  subst hN hi
  have hg := okG_get hok (i / 2)
  have hl : aLoad Tryd.prog 3 (.pointer (some ⟨0, i / 2, none⟩)) [.tcells (ic L) 3 (some 0)] = some (.int .i64 (L.getD (i / 2) 0)) := aLoad_row (l := ic L) xa3 rfl (ic_get (by omega))
  refine ⟨?_, ⟨_, hl⟩, ?_⟩
  · rw [aIndexAddr_slice xu80' xs3 (by omega) (by omega)]
    simp
  · intro z hz z2 hz2 z3 hz3
    have e : z = L.getD (i / 2) 0 := (Value.int.inj (Option.some.inj (hz.symm.trans hl))).2
    have e3 : z3 = byteAt L i := by
      rw [hz3, hz2, e, hs]
      unfold byteAt
      by_cases h2 : i % 2 = 0
      · rw [if_pos h2, if_pos h2]
        have : (2 : Int) ^ Min.min 8 IntKind.i64.bits = 256 := by decide
        rw [this, Int.fdiv_eq_ediv_of_nonneg _ (by decide), xwrap8 (by omega) (by omega)]
      · rw [if_neg h2, if_neg h2]
        have : (2 : Int) ^ Min.min 0 IntKind.i64.bits = 1 := by decide
        rw [this, Int.fdiv_one]
        simp only [IntKind.wrap, IntKind.bits, IntKind.signed, Bool.false_and, Bool.false_eq_true, if_false]
        omega
    rw [e3]; exact hX
theorem by16 {b N : Nat} {L : List Int} {X : Int → Int → Int → Int → Int → Int → Int → Int → Int → Int → Int → Int → Int → Int → Int → Int → Prop} (hN : N = 8) (hL : L.length = 8) (hok : okG L) (hX : X (byteAt L 0) (byteAt L 1) (byteAt L 2) (byteAt L 3) (byteAt L 4) (byteAt L 5) (byteAt L 6) (byteAt L 7) (byteAt L 8) (byteAt L 9) (byteAt L 10) (byteAt L 11) (byteAt L 12) (byteAt L 13) (byteAt L 14) (byteAt L 15)) :
    By1 b N L 0 8 fun z0 => By1 b N L 0 0 fun z1 => By1 b N L 1 8 fun z2 => By1 b N L 1 0 fun z3 => By1 b N L 2 8 fun z4 => By1 b N L 2 0 fun z5 => By1 b N L 3 8 fun z6 => By1 b N L 3 0 fun z7 => By1 b N L 4 8 fun z8 => By1 b N L 4 0 fun z9 => By1 b N L 5 8 fun z10 => By1 b N L 5 0 fun z11 => By1 b N L 6 8 fun z12 => By1 b N L 6 0 fun z13 => By1 b N L 7 8 fun z14 => By1 b N L 7 0 fun z15 => X z0 z1 z2 z3 z4 z5 z6 z7 z8 z9 z10 z11 z12 z13 z14 z15 :=
  by1 hN hL hok (i := 0) rfl (by decide) rfl <| by1 hN hL hok (i := 1) rfl (by decide) rfl <| by1 hN hL hok (i := 2) rfl (by decide) rfl <| by1 hN hL hok (i := 3) rfl (by decide) rfl <| by1 hN hL hok (i := 4) rfl (by decide) rfl <| by1 hN hL hok (i := 5) rfl (by decide) rfl <| by1 hN hL hok (i := 6) rfl (by decide) rfl <| by1 hN hL hok (i := 7) rfl (by decide) rfl <| by1 hN hL hok (i := 8) rfl (by decide) rfl <| by1 hN hL hok (i := 9) rfl (by decide) rfl <| by1 hN hL hok (i := 10) rfl (by decide) rfl <| by1 hN hL hok (i := 11) rfl (by decide) rfl <| by1 hN hL hok (i := 12) rfl (by decide) rfl <| by1 hN hL hok (i := 13) rfl (by decide) rfl <| by1 hN hL hok (i := 14) rfl (by decide) rfl <| by1 hN hL hok (i := 15) rfl (by decide) rfl <| hX
abbrev adQ (H : AHeap) (v : Value) : Res → AHeap → Prop := fun r h => ∃ h'', HeapLe h h'' ∧ h''.length = H.length ∧ mayForget h''.length r h'' = true ∧ r = .ret v ∧ h'' = H
theorem adQ_mk {H h : AHeap} {v u : Value} (hv : v = u) (hle : HeapLe h H) (hm : mayForget H.length (.ret u) H = true) : adQ H v (.ret u) h :=
  ⟨H, hle, rfl, hm, by rw [hv], rfl⟩
theorem ad_of {h H : AHeap} {args : List Value} {v : Value} (hl : H.length = h.length) (s : Fm.Spec Tryd.prog [] 86 args h (adQ H v)) : Fm.Spec Tryd.prog [] 86 args h fun r h' => r = .ret v ∧ h' = H :=
  xless (Spec.mono s (by rintro r h' ⟨h'', a, b, c, d, e⟩; exact ⟨h'', a, b.trans hl, c, d, e⟩))
theorem toL_ne {p : List UInt8} (h : p ≠ []) : ((bs p).toList == (bs []).toList) = false := by
  rw [bs_toList, bs_toList]; simpa using h
theorem toL_nil {p : List UInt8} (h : ((bs p).toList == (bs []).toList) = true) : p = [] := by
  rw [bs_toList, bs_toList] at h; simpa using h
theorem toL_not {p : List UInt8} (h : ((bs p).toList == (bs []).toList) = false) : p ≠ [] := by
  rw [bs_toList, bs_toList] at h; simpa using h
set_option maxRecDepth 20000 in
theorem a60z_spec {t p : List UInt8} (w : W6 ⟨[], p, 0, false, false, [], false⟩) : Fm.Spec Tryd.prog [] 86 [.pointer (some ⟨0, 0, none⟩)] [.cells [.string (bs t), .slice none 0 0, .string (bs p), .int .i64 0, .bool false, .bool false, .slice none 0 0, .bool false] false] fun r h' => r = .ret (mkA [] p 0 false false [] false) ∧ h' = [.cells [.string (bs t), .slice none 0 0, .string (bs p), .int .i64 0, .bool false, .bool false, .slice none 0 0, .bool false] false] := by
  refine ad_of rfl ?_
  refine xspec (run_a60z t p (adQ [.cells [.string (bs t), .slice none 0 0, .string (bs p), .int .i64 0, .bool false, .bool false, .slice none 0 0, .bool false] false] (mkA [] p 0 false false [] false))) ?_
  dsimp only [ahh27]
  refine ⟨fun h => ?_, fun h => ?_⟩
  · have hp : p ≠ [] := toL_not (by simpa using h)
    refine (xfun_of (value_spec (b := 16) (by decide) (by decide) w.phex w.plen) (.int _ _)).call (two_mem (.string _) (.int _ _)) ?_
    exact adQ_mk (mkA_none (addr6_short (mid6_part hp) (by simp))) ⟨.inr rfl, trivial⟩ rfl
  · have hp : p = [] := toL_nil (by simpa using h)
    subst hp
    exact adQ_mk (mkA_none (addr6_short mid6_nil (by simp))) ⟨.inr rfl, trivial⟩ rfl
set_option maxRecDepth 20000 in
theorem a60o_spec {t p : List UInt8} (w : W6 ⟨[], p, 1, false, false, [], false⟩) : Fm.Spec Tryd.prog [] 86 [.pointer (some ⟨0, 0, none⟩)] [.cells [.string (bs t), .slice none 0 0, .string (bs p), .int .i64 1, .bool false, .bool false, .slice none 0 0, .bool false] false] fun r h' => r = .ret (mkA [] p 1 false false [] false) ∧ h' = [.cells [.string (bs t), .slice none 0 0, .string (bs p), .int .i64 1, .bool false, .bool false, .slice none 0 0, .bool false] false] := by
  refine ad_of rfl ?_
  refine xspec (run_a60o t p (adQ [.cells [.string (bs t), .slice none 0 0, .string (bs p), .int .i64 1, .bool false, .bool false, .slice none 0 0, .bool false] false] (mkA [] p 1 false false [] false))) ?_
  dsimp only [ahh32]
  refine ⟨fun h => ?_, fun h => ?_⟩
  · have hp : p ≠ [] := toL_not (by simpa using h)
    refine (xfun_of (value_spec (b := 16) (by decide) (by decide) w.phex w.plen) (.int _ _)).call (two_mem (.string _) (.int _ _)) ?_
    intro z1 hz1 z2 hz2 z3 hz3 z4 hz4
    have hA := addr6_gap (mid6_part (g := []) (gap := 1) hp) (by decide)
    have hok := addr6_ok w hA
    have hv : 0 ≤ valH p ∧ valH p < 65536 := valH_bound p w.phex w.plen
    have e2 : z2 = valH p / 256 := by
      rw [hz2, hz1, valB_16]
      have : (2 : Int) ^ Min.min (Int.ofNat (7 + 1)).toNat IntKind.i64.bits = 256 := by decide
      rw [this, Int.fdiv_eq_ediv_of_nonneg _ (by decide), xwrap8 (by omega) (by omega)]
    have e4 : z4 = valH p % 256 := by
      rw [hz4, hz3, valB_16]
      have : (2 : Int) ^ Min.min (Int.ofNat 0).toNat IntKind.i64.bits = 1 := by decide
      rw [this, Int.fdiv_one]
      simp only [IntKind.wrap, IntKind.bits, IntKind.signed, Bool.false_and, Bool.false_eq_true, if_false]
      omega
    refine adQ_mk (mkA_some (hA.trans (congrArg some (show _ = [0, 0, 0, 0, 0, 0, 0, valH p] from rfl)))|>.trans ?_) ⟨.inr rfl, trivial⟩ rfl
    rw [e2, e4]; rfl
  · have hp : p = [] := toL_nil (by simpa using h)
    subst hp
    refine adQ_mk ((mkA_some (addr6_gap (mid6_nil (g := []) (gap := 1)) (by decide))).trans ?_) ⟨.inr rfl, trivial⟩ rfl
    rfl
set_option maxRecDepth 20000 in
theorem a61_spec {t : List UInt8}  : Fm.Spec Tryd.prog [] 86 [.pointer (some ⟨0, 0, none⟩)] [.cells [.string (bs t), .slice none 0 0, .string (bs []), .int .i64 0, .bool false, .bool true, .slice none 0 0, .bool false] false] fun r h' => r = .ret (mkA [] [] 0 false true [] false) ∧ h' = [.cells [.string (bs t), .slice none 0 0, .string (bs []), .int .i64 0, .bool false, .bool true, .slice none 0 0, .bool false] false] := by
  refine ad_of rfl ?_
  refine xspec (run_a61 t (adQ [.cells [.string (bs t), .slice none 0 0, .string (bs []), .int .i64 0, .bool false, .bool true, .slice none 0 0, .bool false] false] (mkA [] [] 0 false true [] false))) ?_
  exact adQ_mk (mkA_none (addr6_fc (.inl rfl))) ⟨.inr rfl, trivial⟩ rfl
set_option maxRecDepth 20000 in
theorem a63_spec {t : List UInt8} {g : List Int} {k : Nat}  : Fm.Spec Tryd.prog [] 86 [.pointer (some ⟨0, 0, none⟩)] [.cells [.string (bs t), .slice (some ⟨1, 0, some 1⟩) g.length g.length, .string (bs []), .int .i64 k, .bool true, .bool false, .slice none 0 0, .bool false] false, .tcells (ic g) 3 (some 0)] fun r h' => r = .ret (mkA g [] k true false [] false) ∧ h' = [.cells [.string (bs t), .slice (some ⟨1, 0, some 1⟩) g.length g.length, .string (bs []), .int .i64 k, .bool true, .bool false, .slice none 0 0, .bool false] false, .dead] := by
  refine ad_of rfl ?_
  refine xspec (run_a63 t g k (adQ [.cells [.string (bs t), .slice (some ⟨1, 0, some 1⟩) g.length g.length, .string (bs []), .int .i64 k, .bool true, .bool false, .slice none 0 0, .bool false] false, .dead] (mkA g [] k true false [] false))) ?_
  exact adQ_mk (mkA_none (addr6_fc (.inr rfl))) ⟨.inr rfl, ⟨.inl rfl, trivial⟩⟩ rfl
set_option maxRecDepth 20000 in
theorem a64_spec {t p : List UInt8} {k : Nat} {dd : Int}  : Fm.Spec Tryd.prog [] 86 [.pointer (some ⟨0, 0, none⟩)] [.cells [.string (bs t), .slice none 0 0, .string (bs p), .int .i64 k, .bool false, .bool false, .slice (some ⟨1, 0, none⟩) 1 1, .bool true] false, .tcells [.int .i64 dd] 3 (some 0)] fun r h' => r = .ret (mkA [] p k false false [dd] true) ∧ h' = [.cells [.string (bs t), .slice none 0 0, .string (bs p), .int .i64 k, .bool false, .bool false, .slice (some ⟨1, 0, none⟩) 1 1, .bool true] false, .dead] := by
  refine ad_of rfl ?_
  refine xspec (run_a64 t p k dd (adQ [.cells [.string (bs t), .slice none 0 0, .string (bs p), .int .i64 k, .bool false, .bool false, .slice (some ⟨1, 0, none⟩) 1 1, .bool true] false, .dead] (mkA [] p k false false [dd] true))) ?_
  exact adQ_mk (mkA_none (addr6_none (mid6_dno (.inl (by simp))))) ⟨.inr rfl, ⟨.inl rfl, trivial⟩⟩ rfl
set_option maxRecDepth 20000 in
theorem a65_spec {t p : List UInt8} {g : List Int} {k : Nat} {dd : Int}  : Fm.Spec Tryd.prog [] 86 [.pointer (some ⟨0, 0, none⟩)] [.cells [.string (bs t), .slice (some ⟨1, 0, some 1⟩) g.length g.length, .string (bs p), .int .i64 k, .bool false, .bool false, .slice (some ⟨2, 0, none⟩) 1 1, .bool true] false, .tcells (ic g) 3 (some 0), .tcells [.int .i64 dd] 3 (some 0)] fun r h' => r = .ret (mkA g p k false false [dd] true) ∧ h' = [.cells [.string (bs t), .slice (some ⟨1, 0, some 1⟩) g.length g.length, .string (bs p), .int .i64 k, .bool false, .bool false, .slice (some ⟨2, 0, none⟩) 1 1, .bool true] false, .dead, .dead] := by
  refine ad_of rfl ?_
  refine xspec (run_a65 t p g k dd (adQ [.cells [.string (bs t), .slice (some ⟨1, 0, some 1⟩) g.length g.length, .string (bs p), .int .i64 k, .bool false, .bool false, .slice (some ⟨2, 0, none⟩) 1 1, .bool true] false, .dead, .dead] (mkA g p k false false [dd] true))) ?_
  exact adQ_mk (mkA_none (addr6_none (mid6_dno (.inl (by simp))))) ⟨.inr rfl, ⟨.inl rfl, ⟨.inl rfl, trivial⟩⟩⟩ rfl
set_option maxRecDepth 20000 in
theorem a62z_spec {t p : List UInt8} {g : List Int} (w : W6 ⟨g, p, 0, false, false, [], false⟩) (hp : p ≠ []) : Fm.Spec Tryd.prog [] 86 [.pointer (some ⟨0, 0, none⟩)] [.cells [.string (bs t), .slice (some ⟨1, 0, some 1⟩) g.length g.length, .string (bs p), .int .i64 0, .bool false, .bool false, .slice none 0 0, .bool false] false, .tcells (ic g) 3 (some 0)] fun r h' => r = .ret (mkA g p 0 false false [] false) ∧ h' = [.cells [.string (bs t), .slice (some ⟨1, 0, some 1⟩) g.length g.length, .string (bs p), .int .i64 0, .bool false, .bool false, .slice none 0 0, .bool false] false, .dead] := by
  refine ad_of rfl ?_
  refine xspec (run_a62z t p g (adQ [.cells [.string (bs t), .slice (some ⟨1, 0, some 1⟩) g.length g.length, .string (bs p), .int .i64 0, .bool false, .bool false, .slice none 0 0, .bool false] false, .dead] (mkA g p 0 false false [] false))) ?_
  dsimp only [ahh30, ahh16, By16]
  have hl : g.length ≤ 7 := w.g7
  refine ⟨fun _ => ?_, fun h => absurd h (by rw [toL_ne hp]; decide)⟩
  refine (xfun_of (value_spec (b := 16) (by decide) (by decide) w.phex w.plen) (.int _ _)).call (two_mem (.string _) (.int _ _)) ⟨xappG (l := [valB 16 p]) rfl rfl rfl rfl (by decide) (by omega), ?_⟩
  have e16 : valB 16 p = valH p := valB_16 p
  refine ⟨fun h8 => ?_, fun h8 => ?_⟩
  · have h8 : ((g.length + 1 : Nat) : Int) ≠ 8 := by simpa using h8
    exact adQ_mk (mkA_none (addr6_short (mid6_part hp) (by rw [List.length_append]; show g.length + 1 ≠ 8; omega))) ⟨.inr rfl, ⟨.inl rfl, trivial⟩⟩ rfl
  · have h8 : ((g.length + 1 : Nat) : Int) = 8 := by simpa using h8
    have hA := addr6_whole (mid6_part (gap := 0) hp) (show (g ++ [valH p]).length = 8 by rw [List.length_append]; show g.length + 1 = 8; omega)
    have hok := addr6_ok w hA
    rw [e16]
    exact by16 (by omega) hok.1 hok.2 (adQ_mk (mkA_some hA) ⟨.inr rfl, ⟨.inl rfl, trivial⟩⟩ rfl)
set_option maxRecDepth 20000 in
theorem a62o_spec {t p : List UInt8} {g : List Int} (w : W6 ⟨g, p, 1, false, false, [], false⟩) (hp : p ≠ []) : Fm.Spec Tryd.prog [] 86 [.pointer (some ⟨0, 0, none⟩)] [.cells [.string (bs t), .slice (some ⟨1, 0, some 1⟩) g.length g.length, .string (bs p), .int .i64 1, .bool false, .bool false, .slice none 0 0, .bool false] false, .tcells (ic g) 3 (some 0)] fun r h' => r = .ret (mkA g p 1 false false [] false) ∧ h' = [.cells [.string (bs t), .slice (some ⟨1, 0, some 1⟩) g.length g.length, .string (bs p), .int .i64 1, .bool false, .bool false, .slice none 0 0, .bool false] false, .dead] := by
  refine ad_of rfl ?_
  refine xspec (run_a62o t p g (adQ [.cells [.string (bs t), .slice (some ⟨1, 0, some 1⟩) g.length g.length, .string (bs p), .int .i64 1, .bool false, .bool false, .slice none 0 0, .bool false] false, .dead] (mkA g p 1 false false [] false))) ?_
  dsimp only [ahh31, ahh28, ahh10, ahh20, By16]
  have hA := addr6_gap (mid6_part (g := g) (gap := 1) hp) (by decide)
  have hok := addr6_ok w hA
  have hml := (mid6_ok w (mid6_part hp)).2
  have hl : g.length ≤ 6 := by
    rw [if_neg (show ¬ (1 : Nat) = 0 by decide), List.length_append] at hml
    have hml : g.length + 1 ≤ 7 := hml
    omega
  refine ⟨fun _ => ?_, fun h => absurd h (by rw [toL_ne hp]; decide)⟩
  have e16 : valB 16 p = valH p := valB_16 p
  rw [e16]
  refine (xfun_of (value_spec (b := 16) (by decide) (by decide) w.phex w.plen) (.int _ _)).call (two_mem (.string _) (.int _ _)) ⟨xappG (l := [valH p]) rfl rfl rfl rfl (by decide) (by omega), xsl_to (by decide) rfl (by omega), ?_⟩
  intro z1 hz1
  rw [xw8 (by omega)] at hz1
  subst hz1
  rw [Int.toNat_natCast]
  have hgl : (g ++ [valH p]).length = g.length + 1 := by rw [List.length_append]; rfl
  refine ⟨xapp0 (xnew_z (by omega) (Int.toNat_natCast _) (by omega)) (by simp) (by omega) (by omega), xsl_from (by decide) rfl (by omega) rfl, xappG (xnew_sub (b := 5) rfl (by omega) (by rfl) (by omega)) (by rw [List.length_take, hgl]; omega) rfl (by simp) (by omega) (by omega), ?_⟩
  have eL : List.replicate (8 - (g.length + 1)) 0 ++ List.take (g.length + 1 - 0) (g ++ [valH p]) = List.take (1 - 1) (g ++ [valH p]) ++ List.replicate (8 - (g ++ [valH p]).length) 0 ++ List.drop (1 - 1) (g ++ [valH p]) := by
    rw [hgl, List.take_of_length_le (by omega)]; rfl
  rw [eL]
  exact by16 (by omega) hok.1 hok.2 (adQ_mk (mkA_some hA) ⟨.inr rfl, ⟨.inl rfl, trivial⟩⟩ rfl)
set_option maxRecDepth 20000 in
theorem a62m_spec {t p : List UInt8} {g : List Int} {m : Nat} (w : W6 ⟨g, p, m + 2, false, false, [], false⟩) (hp : p ≠ []) : Fm.Spec Tryd.prog [] 86 [.pointer (some ⟨0, 0, none⟩)] [.cells [.string (bs t), .slice (some ⟨1, 0, some 1⟩) g.length g.length, .string (bs p), .int .i64 ((m + 2 : Nat) : Int), .bool false, .bool false, .slice none 0 0, .bool false] false, .tcells (ic g) 3 (some 0)] fun r h' => r = .ret (mkA g p (m + 2) false false [] false) ∧ h' = [.cells [.string (bs t), .slice (some ⟨1, 0, some 1⟩) g.length g.length, .string (bs p), .int .i64 ((m + 2 : Nat) : Int), .bool false, .bool false, .slice none 0 0, .bool false] false, .dead] := by
  refine ad_of rfl ?_
  refine xspec (run_a62m t p g m (adQ [.cells [.string (bs t), .slice (some ⟨1, 0, some 1⟩) g.length g.length, .string (bs p), .int .i64 ((m + 2 : Nat) : Int), .bool false, .bool false, .slice none 0 0, .bool false] false, .dead] (mkA g p (m + 2) false false [] false))) ?_
  dsimp only [ahh29, ahh24, ahh9, ahh5, ahh17, By16]
  have hA := addr6_gap (mid6_part (g := g) (gap := m + 2) hp) (by omega)
  have hok := addr6_ok w hA
  have hml := (mid6_ok w (mid6_part hp)).2
  have hl : g.length ≤ 6 := by
    rw [if_neg (by show m + 2 ≠ 0; omega), List.length_append] at hml
    have hml : g.length + 1 ≤ 7 := hml
    omega
  have hgm : m + 2 ≤ g.length + 1 := w.gap
  refine ⟨fun _ => ?_, fun h => absurd h (by rw [toL_ne hp]; decide)⟩
  have e16 : valB 16 p = valH p := valB_16 p
  rw [e16]
  have hgl : (g ++ [valH p]).length = g.length + 1 := by rw [List.length_append]; rfl
  refine (xfun_of (value_spec (b := 16) (by decide) (by decide) w.phex w.plen) (.int _ _)).call (two_mem (.string _) (.int _ _)) ⟨xappG (l := [valH p]) rfl rfl rfl rfl (by decide) (by omega), ?_⟩
  refine ⟨fun _ => ?_, fun h => absurd h (by simp; omega)⟩
  intro z1 hz1
  rw [xw2 (by omega)] at hz1
  subst hz1
  rw [Int.toNat_natCast]
  refine ⟨xsl_to (by omega) (Int.toNat_natCast _) (by omega), xapp0 (xnew_sub (b := 5) (o := 0) rfl (by omega) (by rfl) (by omega)) (by rw [List.length_take, hgl]; omega) (by omega) (by omega), ?_⟩
  intro z2 hz2
  rw [xw8 (by omega)] at hz2
  subst hz2
  rw [Int.toNat_natCast]
  refine ⟨xappG (xnew_z (by omega) (Int.toNat_natCast _) (by omega)) (by simp) rfl (by rw [List.length_take, hgl]; omega) (by omega) (by omega), xsl_from (by omega) (Int.toNat_natCast _) (by omega) (Nat.zero_add _), xappG (xnew_sub (b := 5) rfl (by omega) (by rfl) (by omega)) (by rw [List.length_take, List.length_drop, hgl]; omega) rfl (by rw [List.length_append, List.length_take, List.length_replicate, hgl]; omega) (by omega) (by omega), ?_⟩
  have eL : List.take (m + 1) (g ++ [valH p]) ++ List.replicate (8 - (g.length + 1)) 0 ++ List.take (g.length + 1 - (m + 1)) (List.drop (0 + (m + 1)) (g ++ [valH p])) = List.take (m + 2 - 1) (g ++ [valH p]) ++ List.replicate (8 - (g ++ [valH p]).length) 0 ++ List.drop (m + 2 - 1) (g ++ [valH p]) := by
    rw [hgl, Nat.zero_add, List.take_of_length_le (l := List.drop _ _) (by rw [List.length_drop, hgl]; omega)]; rfl
  rw [eL]
  exact by16 (by omega) hok.1 hok.2 (adQ_mk (mkA_some hA) ⟨.inr rfl, ⟨.inl rfl, trivial⟩⟩ rfl)
set_option maxRecDepth 20000 in
theorem a62e_spec {t : List UInt8} {g : List Int} {m : Nat} (w : W6 ⟨g, [], m + 2, false, false, [], false⟩) (hg : m + 2 = g.length + 1) : Fm.Spec Tryd.prog [] 86 [.pointer (some ⟨0, 0, none⟩)] [.cells [.string (bs t), .slice (some ⟨1, 0, some 1⟩) g.length g.length, .string (bs []), .int .i64 ((m + 2 : Nat) : Int), .bool false, .bool false, .slice none 0 0, .bool false] false, .tcells (ic g) 3 (some 0)] fun r h' => r = .ret (mkA g [] (m + 2) false false [] false) ∧ h' = [.cells [.string (bs t), .slice (some ⟨1, 0, some 1⟩) g.length g.length, .string (bs []), .int .i64 ((m + 2 : Nat) : Int), .bool false, .bool false, .slice none 0 0, .bool false] false, .dead] := by
  refine ad_of rfl ?_
  refine xspec (run_a62e t g m (adQ [.cells [.string (bs t), .slice (some ⟨1, 0, some 1⟩) g.length g.length, .string (bs []), .int .i64 ((m + 2 : Nat) : Int), .bool false, .bool false, .slice none 0 0, .bool false] false, .dead] (mkA g [] (m + 2) false false [] false))) ?_
  dsimp only [ahh14, ahh0, By16]
  have hA := addr6_gap (mid6_nil (g := g) (gap := m + 2)) (by omega)
  have hok := addr6_ok w hA
  have hl : g.length ≤ 7 := w.g7
  refine ⟨fun _ => ?_, fun h => absurd h (by simp; omega)⟩
  intro z1 hz1
  rw [xw2 (by omega)] at hz1
  subst hz1
  rw [Int.toNat_natCast]
  refine ⟨xsl_to (by omega) (Int.toNat_natCast _) (by omega), xapp0 (xnew_sub (b := 1) (o := 0) rfl (by omega) (by rfl) (by omega)) (by rw [List.length_take]; omega) (by omega) (by omega), ?_⟩
  intro z2 hz2 z3 hz3
  rw [hz2, xw8 (by omega)] at hz3
  subst hz3
  rw [Int.toNat_natCast]
  refine ⟨xappG (xnew_z (by omega) (Int.toNat_natCast _) (by omega)) (by simp) rfl (by rw [List.length_take]; omega) (by omega) (by omega), xsl_from (by omega) (Int.toNat_natCast _) (by omega) (Nat.zero_add _), xappE (by omega), ?_⟩
  have eL : List.take (m + 1) g ++ List.replicate (8 - g.length) 0 = List.take (m + 2 - 1) g ++ List.replicate (8 - g.length) 0 ++ List.drop (m + 2 - 1) g := by
    rw [List.drop_of_length_le (by omega), List.append_nil]; rfl
  rw [eL]
  exact by16 (by omega) hok.1 hok.2 (adQ_mk (mkA_some hA) ⟨.inr rfl, ⟨.inl rfl, trivial⟩⟩ rfl)
theorem ld1 {b j N : Nat} {L : List Int} {X : Int → Prop} {J : Int} {v : Int} (hJ : J = ((j : Nat) : Int)) (hN : N = L.length) (hj : j < N) (hv : L.getD j 0 = v) (hX : X v) :
    (aIndexAddr Tryd.prog 80 (.slice (some ⟨b, 0, some 1⟩) N N) (.int .i64 J) = some (.pointer (some ⟨b, j, none⟩))) ∧
    (∃ z : Int, aLoad Tryd.prog 3 (.pointer (some ⟨0, j, none⟩)) [.tcells (ic L) 3 (some 0)] = some (.int .i64 z)) ∧
    ∀ z : Int, aLoad Tryd.prog 3 (.pointer (some ⟨0, j, none⟩)) [.tcells (ic L) 3 (some 0)] = some (.int .i64 z) → X z := by
  subst hN hJ
  have hl : aLoad Tryd.prog 3 (.pointer (some ⟨0, j, none⟩)) [.tcells (ic L) 3 (some 0)] = some (.int .i64 (L.getD j 0)) := aLoad_row (l := ic L) xa3 rfl (ic_get hj)
  refine ⟨?_, ⟨_, hl⟩, ?_⟩
  · rw [aIndexAddr_slice xu80' xs3 (by omega) (by omega)]
    simp
  · intro z hz
    have e : z = L.getD j 0 := (Value.int.inj (Option.some.inj (hz.symm.trans hl))).2
    rw [e, hv]; exact hX
theorem orB {a b z y : Int} (ha : 0 ≤ a ∧ a ≤ 255) (hb : 0 ≤ b ∧ b ≤ 255) (hz : z = IntKind.i64.wrap (a * 2 ^ Min.min (Int.toNat 8) IntKind.i64.bits)) (hy : y = IntKind.i64.wrap (((BitVec.ofInt IntKind.i64.bits z ||| BitVec.ofInt IntKind.i64.bits b).toNat : Nat) : Int)) : y = a * 256 + b := by
  obtain ⟨x, rfl⟩ : ∃ x : Nat, a = x := ⟨a.toNat, by omega⟩
  obtain ⟨w, rfl⟩ : ∃ w : Nat, b = w := ⟨b.toNat, by omega⟩
  have e1 : (2 : Int) ^ Min.min (Int.toNat 8) IntKind.i64.bits = 256 := by decide
  rw [e1, xwrapi (by omega) (by omega)] at hz
  have hz : z = ((x * 256 : Nat) : Int) := by omega
  subst hz
  have e2 : (BitVec.ofInt IntKind.i64.bits ((x * 256 : Nat) : Int) ||| BitVec.ofInt IntKind.i64.bits ((w : Nat) : Int)).toNat = x * 256 + w := by
    rw [BitVec.toNat_or, BitVec.ofInt_natCast, BitVec.ofInt_natCast, BitVec.toNat_ofNat, BitVec.toNat_ofNat]
    have h64 : (2 : Nat) ^ IntKind.i64.bits = 18446744073709551616 := by decide
    rw [h64, Nat.mod_eq_of_lt (by omega), Nat.mod_eq_of_lt (by omega)]
    have := Nat.shiftLeft_add_eq_or_of_lt (b := w) (i := 8) (by omega) x
    rw [Nat.shiftLeft_eq] at this
    exact this.symm
  rw [e2, xwrapi (by omega) (by omega)] at hy
  omega
theorem three {ds : List Int} (h : ds.length = 3) : ∃ a b c, ds = [a, b, c] := by
  match ds, h with
  | [a, b, c], _ => exact ⟨a, b, c, rfl⟩
set_option maxRecDepth 20000 in
theorem a66z_spec {t p : List UInt8} {ds : List Int} (w : W6 ⟨[], p, 0, false, false, ds, true⟩) : Fm.Spec Tryd.prog [] 86 [.pointer (some ⟨0, 0, none⟩)] [.cells [.string (bs t), .slice none 0 0, .string (bs p), .int .i64 0, .bool false, .bool false, .slice (some ⟨1, 0, some 1⟩) ds.length ds.length, .bool true] false, .tcells (ic ds) 3 (some 0)] fun r h' => r = .ret (mkA [] p 0 false false ds true) ∧ h' = [.cells [.string (bs t), .slice none 0 0, .string (bs p), .int .i64 0, .bool false, .bool false, .slice (some ⟨1, 0, some 1⟩) ds.length ds.length, .bool true] false, .dead] := by
  refine ad_of rfl ?_
  refine xspec (run_a66z t p ds (adQ [.cells [.string (bs t), .slice none 0 0, .string (bs p), .int .i64 0, .bool false, .bool false, .slice (some ⟨1, 0, some 1⟩) ds.length ds.length, .bool true] false, .dead] (mkA [] p 0 false false ds true))) ?_
  dsimp only [ahh12, ahh25]
  intro z1 hz1
  subst hz1
  refine ⟨fun h3 => ?_, fun h3 => ?_⟩
  · have h3 : ((ds.length : Nat) : Int) ≠ 3 := by simpa using h3
    exact adQ_mk (mkA_none (addr6_none (mid6_dno (.inl (by omega))))) ⟨.inr rfl, ⟨.inl rfl, trivial⟩⟩ rfl
  have h3 : ((ds.length : Nat) : Int) = 3 := by simpa using h3
  obtain ⟨d0, d1, d2, rfl⟩ := three (show ds.length = 3 by omega)
  refine ⟨fun hp => ?_, fun hp => ?_⟩
  · have hp : p = [] := toL_nil hp
    exact adQ_mk (mkA_none (addr6_none (mid6_dno (.inr hp)))) ⟨.inr rfl, ⟨.inl rfl, trivial⟩⟩ rfl
  have hp : p ≠ [] := toL_not hp
  have hdc : dec p = true := by rcases w.pdec rfl with h | h; exact absurd h hp; exact h
  have hdv := dec_val hdc
  have b0 := w.dok d0 (by simp)
  have b1 := w.dok d1 (by simp)
  have b2 := w.dok d2 (by simp)
  have hmid := mid6_dots (g := []) (gap := 0) (dots := [d0, d1, d2]) rfl hp
  have hmid : mid6 ⟨[], p, 0, false, false, [d0, d1, d2], true⟩ = some ([] ++ [d0 * 256 + d1, d2 * 256 + val p]) := hmid
  refine (xfun_of (value_spec (b := 10) (by decide) (by decide) w.phex w.plen) (.int _ _)).call (two_mem (.string _) (.int _ _)) ?_
  rw [valB_10 p hdv.2.2.2.2]
  refine ⟨rfl, xappG (l := [val p]) (m := [d0, d1, d2]) rfl rfl rfl rfl (by decide) (by show 3 + 1 ≤ 2 ^ 40; decide), ?_⟩
  refine ld1 (j := 0) rfl rfl (by show 0 < 3 + 1; decide) (v := d0) rfl ?_
  intro z3 hz3
  refine ld1 (j := 1) rfl rfl (by show 1 < 3 + 1; decide) (v := d1) rfl ?_
  intro z5 hz5
  have hz5 := orB b0 b1 hz3 hz5
  subst hz5
  refine ld1 (j := 2) rfl rfl (by show 2 < 3 + 1; decide) (v := d2) rfl ?_
  intro z7 hz7
  refine ld1 (j := 3) rfl rfl (by show 3 < 3 + 1; decide) (v := val p) rfl ?_
  intro z9 hz9
  have hz9 := orB b2 ⟨hdv.1, hdv.2.1⟩ hz7 hz9
  subst hz9
  exact adQ_mk (mkA_none (addr6_short hmid (by simp))) ⟨.inr rfl, ⟨.inl rfl, trivial⟩⟩ rfl
set_option maxRecDepth 20000 in
theorem a66o_spec {t p : List UInt8} {ds : List Int} (w : W6 ⟨[], p, 1, false, false, ds, true⟩) : Fm.Spec Tryd.prog [] 86 [.pointer (some ⟨0, 0, none⟩)] [.cells [.string (bs t), .slice none 0 0, .string (bs p), .int .i64 1, .bool false, .bool false, .slice (some ⟨1, 0, some 1⟩) ds.length ds.length, .bool true] false, .tcells (ic ds) 3 (some 0)] fun r h' => r = .ret (mkA [] p 1 false false ds true) ∧ h' = [.cells [.string (bs t), .slice none 0 0, .string (bs p), .int .i64 1, .bool false, .bool false, .slice (some ⟨1, 0, some 1⟩) ds.length ds.length, .bool true] false, .dead] := by
  refine ad_of rfl ?_
  refine xspec (run_a66o t p ds (adQ [.cells [.string (bs t), .slice none 0 0, .string (bs p), .int .i64 1, .bool false, .bool false, .slice (some ⟨1, 0, some 1⟩) ds.length ds.length, .bool true] false, .dead] (mkA [] p 1 false false ds true))) ?_
  dsimp only [ahh13, ahh26]
  intro z1 hz1
  subst hz1
  refine ⟨fun h3 => ?_, fun h3 => ?_⟩
  · have h3 : ((ds.length : Nat) : Int) ≠ 3 := by simpa using h3
    exact adQ_mk (mkA_none (addr6_none (mid6_dno (.inl (by omega))))) ⟨.inr rfl, ⟨.inl rfl, trivial⟩⟩ rfl
  have h3 : ((ds.length : Nat) : Int) = 3 := by simpa using h3
  obtain ⟨d0, d1, d2, rfl⟩ := three (show ds.length = 3 by omega)
  refine ⟨fun hp => ?_, fun hp => ?_⟩
  · have hp : p = [] := toL_nil hp
    exact adQ_mk (mkA_none (addr6_none (mid6_dno (.inr hp)))) ⟨.inr rfl, ⟨.inl rfl, trivial⟩⟩ rfl
  have hp : p ≠ [] := toL_not hp
  have hdc : dec p = true := by rcases w.pdec rfl with h | h; exact absurd h hp; exact h
  have hdv := dec_val hdc
  have b0 := w.dok d0 (by simp)
  have b1 := w.dok d1 (by simp)
  have b2 := w.dok d2 (by simp)
  have hmid := mid6_dots (g := []) (gap := 1) (dots := [d0, d1, d2]) rfl hp
  have hmid : mid6 ⟨[], p, 1, false, false, [d0, d1, d2], true⟩ = some ([] ++ [d0 * 256 + d1, d2 * 256 + val p]) := hmid
  refine (xfun_of (value_spec (b := 10) (by decide) (by decide) w.phex w.plen) (.int _ _)).call (two_mem (.string _) (.int _ _)) ?_
  rw [valB_10 p hdv.2.2.2.2]
  refine ⟨rfl, xappG (l := [val p]) (m := [d0, d1, d2]) rfl rfl rfl rfl (by decide) (by show 3 + 1 ≤ 2 ^ 40; decide), ?_⟩
  refine ld1 (j := 0) rfl rfl (by show 0 < 3 + 1; decide) (v := d0) rfl ?_
  intro z3 hz3
  refine ld1 (j := 1) rfl rfl (by show 1 < 3 + 1; decide) (v := d1) rfl ?_
  intro z5 hz5
  have hz5 := orB b0 b1 hz3 hz5
  subst hz5
  refine ld1 (j := 2) rfl rfl (by show 2 < 3 + 1; decide) (v := d2) rfl ?_
  intro z7 hz7
  refine ld1 (j := 3) rfl rfl (by show 3 < 3 + 1; decide) (v := val p) rfl ?_
  intro z9 hz9
  have hz9 := orB b2 ⟨hdv.1, hdv.2.1⟩ hz7 hz9
  subst hz9
  have hA := addr6_gap hmid (by decide)
  have hok := addr6_ok w hA
  have hb : ∀ x y z : Int, 0 ≤ x ∧ x < 65536 → y = x.fdiv (2 ^ Min.min (Int.ofNat (7 + 1)).toNat IntKind.i64.bits) → z = IntKind.u8.wrap y → z = x / 256 := by
    intro x y z hx hy hz
    have : (2 : Int) ^ Min.min (Int.ofNat (7 + 1)).toNat IntKind.i64.bits = 256 := by decide
    rw [hz, hy, this, Int.fdiv_eq_ediv_of_nonneg _ (by decide), xwrap8 (by omega) (by omega)]
  have hc : ∀ x y z : Int, 0 ≤ x ∧ x < 65536 → y = x.fdiv (2 ^ Min.min (Int.ofNat 0).toNat IntKind.i64.bits) → z = IntKind.u8.wrap y → z = x % 256 := by
    intro x y z hx hy hz
    have : (2 : Int) ^ Min.min (Int.ofNat 0).toNat IntKind.i64.bits = 1 := by decide
    rw [hz, hy, this, Int.fdiv_one]
    simp only [IntKind.wrap, IntKind.bits, IntKind.signed, Bool.false_and, Bool.false_eq_true, if_false]
    omega
  have k1 : 0 ≤ d0 * 256 + d1 ∧ d0 * 256 + d1 < 65536 := by omega
  have k2 : 0 ≤ d2 * 256 + val p ∧ d2 * 256 + val p < 65536 := by have := hdv.1; have := hdv.2.1; omega
  intro z10 h10 z11 h11 z12 h12 z13 h13 z14 h14 z15 h15 z16 h16 z17 h17
  have e11 := hb _ _ _ k1 h10 h11
  have e13 := hc _ _ _ k1 h12 h13
  have e15 := hb _ _ _ k2 h14 h15
  have e17 := hc _ _ _ k2 h16 h17
  refine adQ_mk ((mkA_some hA).trans ?_) ⟨.inr rfl, ⟨.inl rfl, trivial⟩⟩ rfl
  rw [e11, e13, e15, e17]; rfl
set_option maxRecDepth 20000 in
theorem a67z_spec {t p : List UInt8} {g ds : List Int} (w : W6 ⟨g, p, 0, false, false, ds, true⟩) : Fm.Spec Tryd.prog [] 86 [.pointer (some ⟨0, 0, none⟩)] [.cells [.string (bs t), .slice (some ⟨1, 0, some 1⟩) g.length g.length, .string (bs p), .int .i64 0, .bool false, .bool false, .slice (some ⟨2, 0, some 1⟩) ds.length ds.length, .bool true] false, .tcells (ic g) 3 (some 0), .tcells (ic ds) 3 (some 0)] fun r h' => r = .ret (mkA g p 0 false false ds true) ∧ h' = [.cells [.string (bs t), .slice (some ⟨1, 0, some 1⟩) g.length g.length, .string (bs p), .int .i64 0, .bool false, .bool false, .slice (some ⟨2, 0, some 1⟩) ds.length ds.length, .bool true] false, .dead, .dead] := by
  refine ad_of rfl ?_
  refine xspec (run_a67z t p g ds (adQ [.cells [.string (bs t), .slice (some ⟨1, 0, some 1⟩) g.length g.length, .string (bs p), .int .i64 0, .bool false, .bool false, .slice (some ⟨2, 0, some 1⟩) ds.length ds.length, .bool true] false, .dead, .dead] (mkA g p 0 false false ds true))) ?_
  dsimp only [ahh7, ahh22, ahh6, By16]
  have hl : g.length ≤ 7 := w.g7
  intro z1 hz1
  subst hz1
  refine ⟨fun h3 => ?_, fun h3 => ?_⟩
  · have h3 : ((ds.length : Nat) : Int) ≠ 3 := by simpa using h3
    exact adQ_mk (mkA_none (addr6_none (mid6_dno (.inl (by omega))))) ⟨.inr rfl, ⟨.inl rfl, ⟨.inl rfl, trivial⟩⟩⟩ rfl
  have h3 : ((ds.length : Nat) : Int) = 3 := by simpa using h3
  obtain ⟨d0, d1, d2, rfl⟩ := three (show ds.length = 3 by omega)
  refine ⟨fun hp => ?_, fun hp => ?_⟩
  · have hp : p = [] := toL_nil hp
    exact adQ_mk (mkA_none (addr6_none (mid6_dno (.inr hp)))) ⟨.inr rfl, ⟨.inl rfl, ⟨.inl rfl, trivial⟩⟩⟩ rfl
  have hp : p ≠ [] := toL_not hp
  have hdc : dec p = true := by rcases w.pdec rfl with h | h; exact absurd h hp; exact h
  have hdv := dec_val hdc
  have b0 := w.dok d0 (by simp)
  have b1 := w.dok d1 (by simp)
  have b2 := w.dok d2 (by simp)
  have hmid := mid6_dots (g := g) (gap := 0) (dots := [d0, d1, d2]) rfl hp
  have hmid : mid6 ⟨g, p, 0, false, false, [d0, d1, d2], true⟩ = some (g ++ [d0 * 256 + d1, d2 * 256 + val p]) := hmid
  refine (xfun_of (value_spec (b := 10) (by decide) (by decide) w.phex w.plen) (.int _ _)).call (two_mem (.string _) (.int _ _)) ?_
  rw [valB_10 p hdv.2.2.2.2]
  refine ⟨rfl, xappG (l := [val p]) (m := [d0, d1, d2]) rfl rfl rfl rfl (by decide) (by show 3 + 1 ≤ 2 ^ 40; decide), ?_⟩
  refine ld1 (j := 0) rfl rfl (by show 0 < 3 + 1; decide) (v := d0) rfl ?_
  intro z3 hz3
  refine ld1 (j := 1) rfl rfl (by show 1 < 3 + 1; decide) (v := d1) rfl ?_
  intro z5 hz5
  have hz5 := orB b0 b1 hz3 hz5
  subst hz5
  refine ld1 (j := 2) rfl rfl (by show 2 < 3 + 1; decide) (v := d2) rfl ?_
  intro z7 hz7
  refine ld1 (j := 3) rfl rfl (by show 3 < 3 + 1; decide) (v := val p) rfl ?_
  intro z9 hz9
  have hz9 := orB b2 ⟨hdv.1, hdv.2.1⟩ hz7 hz9
  subst hz9
  refine ⟨xappG (l := [d0 * 256 + d1, d2 * 256 + val p]) (m := g) rfl rfl rfl rfl (by decide) (by omega), ?_⟩
  refine ⟨fun h8 => ?_, fun h8 => ?_⟩
  · have h8 : ((g.length + 2 : Nat) : Int) ≠ 8 := by simpa using h8
    exact adQ_mk (mkA_none (addr6_short hmid (by rw [List.length_append]; show g.length + 2 ≠ 8; omega))) ⟨.inr rfl, ⟨.inl rfl, ⟨.inl rfl, trivial⟩⟩⟩ rfl
  · have h8 : ((g.length + 2 : Nat) : Int) = 8 := by simpa using h8
    have hA := addr6_whole hmid (by rw [List.length_append]; show g.length + 2 = 8; omega)
    have hok := addr6_ok w hA
    exact by16 (by omega) hok.1 hok.2 (adQ_mk (mkA_some hA) ⟨.inr rfl, ⟨.inl rfl, ⟨.inl rfl, trivial⟩⟩⟩ rfl)
set_option maxRecDepth 20000 in
theorem a67o_spec {t p : List UInt8} {g ds : List Int} (w : W6 ⟨g, p, 1, false, false, ds, true⟩) : Fm.Spec Tryd.prog [] 86 [.pointer (some ⟨0, 0, none⟩)] [.cells [.string (bs t), .slice (some ⟨1, 0, some 1⟩) g.length g.length, .string (bs p), .int .i64 1, .bool false, .bool false, .slice (some ⟨2, 0, some 1⟩) ds.length ds.length, .bool true] false, .tcells (ic g) 3 (some 0), .tcells (ic ds) 3 (some 0)] fun r h' => r = .ret (mkA g p 1 false false ds true) ∧ h' = [.cells [.string (bs t), .slice (some ⟨1, 0, some 1⟩) g.length g.length, .string (bs p), .int .i64 1, .bool false, .bool false, .slice (some ⟨2, 0, some 1⟩) ds.length ds.length, .bool true] false, .dead, .dead] := by
  refine ad_of rfl ?_
  refine xspec (run_a67o t p g ds (adQ [.cells [.string (bs t), .slice (some ⟨1, 0, some 1⟩) g.length g.length, .string (bs p), .int .i64 1, .bool false, .bool false, .slice (some ⟨2, 0, some 1⟩) ds.length ds.length, .bool true] false, .dead, .dead] (mkA g p 1 false false ds true))) ?_
  dsimp only [ahh8, ahh23, ahh19, ahh3, ahh15, By16]
  intro z1 hz1
  subst hz1
  refine ⟨fun h3 => ?_, fun h3 => ?_⟩
  · have h3 : ((ds.length : Nat) : Int) ≠ 3 := by simpa using h3
    exact adQ_mk (mkA_none (addr6_none (mid6_dno (.inl (by omega))))) ⟨.inr rfl, ⟨.inl rfl, ⟨.inl rfl, trivial⟩⟩⟩ rfl
  have h3 : ((ds.length : Nat) : Int) = 3 := by simpa using h3
  obtain ⟨d0, d1, d2, rfl⟩ := three (show ds.length = 3 by omega)
  refine ⟨fun hp => ?_, fun hp => ?_⟩
  · have hp : p = [] := toL_nil hp
    exact adQ_mk (mkA_none (addr6_none (mid6_dno (.inr hp)))) ⟨.inr rfl, ⟨.inl rfl, ⟨.inl rfl, trivial⟩⟩⟩ rfl
  have hp : p ≠ [] := toL_not hp
  have hdc : dec p = true := by rcases w.pdec rfl with h | h; exact absurd h hp; exact h
  have hdv := dec_val hdc
  have b0 := w.dok d0 (by simp)
  have b1 := w.dok d1 (by simp)
  have b2 := w.dok d2 (by simp)
  have hmid := mid6_dots (g := g) (gap := 1) (dots := [d0, d1, d2]) rfl hp
  have hmid : mid6 ⟨g, p, 1, false, false, [d0, d1, d2], true⟩ = some (g ++ [d0 * 256 + d1, d2 * 256 + val p]) := hmid
  refine (xfun_of (value_spec (b := 10) (by decide) (by decide) w.phex w.plen) (.int _ _)).call (two_mem (.string _) (.int _ _)) ?_
  rw [valB_10 p hdv.2.2.2.2]
  refine ⟨rfl, xappG (l := [val p]) (m := [d0, d1, d2]) rfl rfl rfl rfl (by decide) (by show 3 + 1 ≤ 2 ^ 40; decide), ?_⟩
  refine ld1 (j := 0) rfl rfl (by show 0 < 3 + 1; decide) (v := d0) rfl ?_
  intro z3 hz3
  refine ld1 (j := 1) rfl rfl (by show 1 < 3 + 1; decide) (v := d1) rfl ?_
  intro z5 hz5
  have hz5 := orB b0 b1 hz3 hz5
  subst hz5
  refine ld1 (j := 2) rfl rfl (by show 2 < 3 + 1; decide) (v := d2) rfl ?_
  intro z7 hz7
  refine ld1 (j := 3) rfl rfl (by show 3 < 3 + 1; decide) (v := val p) rfl ?_
  intro z9 hz9
  have hz9 := orB b2 ⟨hdv.1, hdv.2.1⟩ hz7 hz9
  subst hz9
  have hA := addr6_gap hmid (by decide)
  have hok := addr6_ok w hA
  have hl : g.length ≤ 5 := (w.dpos rfl).2
  have hgl : (g ++ [d0 * 256 + d1, d2 * 256 + val p]).length = g.length + 2 := by rw [List.length_append]; rfl
  refine ⟨xappG (l := [d0 * 256 + d1, d2 * 256 + val p]) (m := g) rfl rfl rfl rfl (by decide) (by omega), xsl_to (by decide) rfl (by omega), ?_⟩
  intro z10 hz10
  rw [xw8 (by omega)] at hz10
  subst hz10
  rw [Int.toNat_natCast]
  refine ⟨xapp0 (xnew_z (by omega) (Int.toNat_natCast _) (by omega)) (by simp) (by omega) (by omega), xsl_from (by decide) rfl (by omega) rfl, xappG (xnew_sub (b := 8) rfl (by omega) (by rfl) (by omega)) (by rw [List.length_take, hgl]; omega) rfl (by simp) (by omega) (by omega), ?_⟩
  have eL : List.replicate (8 - (g.length + 2)) 0 ++ List.take (g.length + 2 - 0) (g ++ [d0 * 256 + d1, d2 * 256 + val p]) = List.take (1 - 1) (g ++ [d0 * 256 + d1, d2 * 256 + val p]) ++ List.replicate (8 - (g ++ [d0 * 256 + d1, d2 * 256 + val p]).length) 0 ++ List.drop (1 - 1) (g ++ [d0 * 256 + d1, d2 * 256 + val p]) := by
    rw [hgl, List.take_of_length_le (by omega)]; rfl
  rw [eL]
  exact by16 (by omega) hok.1 hok.2 (adQ_mk (mkA_some hA) ⟨.inr rfl, ⟨.inl rfl, ⟨.inl rfl, trivial⟩⟩⟩ rfl)
set_option maxRecDepth 20000 in
theorem a67m_spec {t p : List UInt8} {g ds : List Int} {m : Nat} (w : W6 ⟨g, p, m + 2, false, false, ds, true⟩) : Fm.Spec Tryd.prog [] 86 [.pointer (some ⟨0, 0, none⟩)] [.cells [.string (bs t), .slice (some ⟨1, 0, some 1⟩) g.length g.length, .string (bs p), .int .i64 ((m + 2 : Nat) : Int), .bool false, .bool false, .slice (some ⟨2, 0, some 1⟩) ds.length ds.length, .bool true] false, .tcells (ic g) 3 (some 0), .tcells (ic ds) 3 (some 0)] fun r h' => r = .ret (mkA g p (m + 2) false false ds true) ∧ h' = [.cells [.string (bs t), .slice (some ⟨1, 0, some 1⟩) g.length g.length, .string (bs p), .int .i64 ((m + 2 : Nat) : Int), .bool false, .bool false, .slice (some ⟨2, 0, some 1⟩) ds.length ds.length, .bool true] false, .dead, .dead] := by
  refine ad_of rfl ?_
  refine xspec (run_a67m t p g ds m (adQ [.cells [.string (bs t), .slice (some ⟨1, 0, some 1⟩) g.length g.length, .string (bs p), .int .i64 ((m + 2 : Nat) : Int), .bool false, .bool false, .slice (some ⟨2, 0, some 1⟩) ds.length ds.length, .bool true] false, .dead, .dead] (mkA g p (m + 2) false false ds true))) ?_
  dsimp only [ahh4, ahh21, ahh18, ahh2, ahh1, ahh11, By16]
  have hgm : m + 2 ≤ g.length + 1 := w.gap
  intro z1 hz1
  subst hz1
  refine ⟨fun h3 => ?_, fun h3 => ?_⟩
  · have h3 : ((ds.length : Nat) : Int) ≠ 3 := by simpa using h3
    exact adQ_mk (mkA_none (addr6_none (mid6_dno (.inl (by omega))))) ⟨.inr rfl, ⟨.inl rfl, ⟨.inl rfl, trivial⟩⟩⟩ rfl
  have h3 : ((ds.length : Nat) : Int) = 3 := by simpa using h3
  obtain ⟨d0, d1, d2, rfl⟩ := three (show ds.length = 3 by omega)
  refine ⟨fun hp => ?_, fun hp => ?_⟩
  · have hp : p = [] := toL_nil hp
    exact adQ_mk (mkA_none (addr6_none (mid6_dno (.inr hp)))) ⟨.inr rfl, ⟨.inl rfl, ⟨.inl rfl, trivial⟩⟩⟩ rfl
  have hp : p ≠ [] := toL_not hp
  have hdc : dec p = true := by rcases w.pdec rfl with h | h; exact absurd h hp; exact h
  have hdv := dec_val hdc
  have b0 := w.dok d0 (by simp)
  have b1 := w.dok d1 (by simp)
  have b2 := w.dok d2 (by simp)
  have hmid := mid6_dots (g := g) (gap := (m + 2)) (dots := [d0, d1, d2]) rfl hp
  have hmid : mid6 ⟨g, p, (m + 2), false, false, [d0, d1, d2], true⟩ = some (g ++ [d0 * 256 + d1, d2 * 256 + val p]) := hmid
  refine (xfun_of (value_spec (b := 10) (by decide) (by decide) w.phex w.plen) (.int _ _)).call (two_mem (.string _) (.int _ _)) ?_
  rw [valB_10 p hdv.2.2.2.2]
  refine ⟨rfl, xappG (l := [val p]) (m := [d0, d1, d2]) rfl rfl rfl rfl (by decide) (by show 3 + 1 ≤ 2 ^ 40; decide), ?_⟩
  refine ld1 (j := 0) rfl rfl (by show 0 < 3 + 1; decide) (v := d0) rfl ?_
  intro z3 hz3
  refine ld1 (j := 1) rfl rfl (by show 1 < 3 + 1; decide) (v := d1) rfl ?_
  intro z5 hz5
  have hz5 := orB b0 b1 hz3 hz5
  subst hz5
  refine ld1 (j := 2) rfl rfl (by show 2 < 3 + 1; decide) (v := d2) rfl ?_
  intro z7 hz7
  refine ld1 (j := 3) rfl rfl (by show 3 < 3 + 1; decide) (v := val p) rfl ?_
  intro z9 hz9
  have hz9 := orB b2 ⟨hdv.1, hdv.2.1⟩ hz7 hz9
  subst hz9
  have hA := addr6_gap hmid (by omega)
  have hok := addr6_ok w hA
  have hl : g.length ≤ 5 := by
    have := (w.dpos rfl).2
    rw [if_neg (show ¬ m + 2 = 0 by omega)] at this
    exact this
  have hgl : (g ++ [d0 * 256 + d1, d2 * 256 + val p]).length = g.length + 2 := by rw [List.length_append]; rfl
  refine ⟨xappG (l := [d0 * 256 + d1, d2 * 256 + val p]) (m := g) rfl rfl rfl rfl (by decide) (by omega), ?_⟩
  refine ⟨fun _ => ?_, fun h => absurd h (by simp; omega)⟩
  intro z10 hz10
  rw [xw2 (by omega)] at hz10
  subst hz10
  rw [Int.toNat_natCast]
  refine ⟨xsl_to (by omega) (Int.toNat_natCast _) (by omega), xapp0 (xnew_sub (b := 8) (o := 0) rfl (by omega) (by rfl) (by omega)) (by rw [List.length_take, hgl]; omega) (by omega) (by omega), ?_⟩
  intro z11 hz11
  rw [xw8 (by omega)] at hz11
  subst hz11
  rw [Int.toNat_natCast]
  refine ⟨xappG (xnew_z (by omega) (Int.toNat_natCast _) (by omega)) (by simp) rfl (by rw [List.length_take, hgl]; omega) (by omega) (by omega), xsl_from (by omega) (Int.toNat_natCast _) (by omega) (Nat.zero_add _), xappG (xnew_sub (b := 8) rfl (by omega) (by rfl) (by omega)) (by rw [List.length_take, List.length_drop, hgl]; omega) rfl (by rw [List.length_append, List.length_take, List.length_replicate, hgl]; omega) (by omega) (by omega), ?_⟩
  have eL : List.take (m + 1) (g ++ [d0 * 256 + d1, d2 * 256 + val p]) ++ List.replicate (8 - (g.length + 2)) 0 ++ List.take (g.length + 2 - (m + 1)) (List.drop (0 + (m + 1)) (g ++ [d0 * 256 + d1, d2 * 256 + val p])) = List.take (m + 2 - 1) (g ++ [d0 * 256 + d1, d2 * 256 + val p]) ++ List.replicate (8 - (g ++ [d0 * 256 + d1, d2 * 256 + val p]).length) 0 ++ List.drop (m + 2 - 1) (g ++ [d0 * 256 + d1, d2 * 256 + val p]) := by
    rw [hgl, Nat.zero_add, List.take_of_length_le (l := List.drop _ _) (by rw [List.length_drop, hgl]; omega)]; rfl
  rw [eL]
  exact by16 (by omega) hok.1 hok.2 (adQ_mk (mkA_some hA) ⟨.inr rfl, ⟨.inl rfl, ⟨.inl rfl, trivial⟩⟩⟩ rfl)
end Go.Proofs.YtopladipgobpjaaDoor
