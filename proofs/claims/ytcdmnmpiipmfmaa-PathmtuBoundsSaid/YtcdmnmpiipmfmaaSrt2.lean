/-
  The middle parts of slices.SortFunc on entries: medians, the pivot, breaking patterns, bits.Len. Conditions stand with each theorem.
-/
import Derived.Test.YtcdmnmpiipmfmaaSrt1
namespace Go.Proofs.Ytcdmnmpiipmfmaa
open Go.Fm
def bigS : List UInt8 := (List.range 256).map fun i => UInt8.ofNat (if i = 0 then 0 else Nat.log2 i + 1)
def pLen (a z : Int) : Prop := 0 ≤ z ∧ z ≤ 32 ∧ (1 ≤ a → 1 ≤ z ∧ 2 ^ (z.toNat - 1) ≤ a ∧ a < 2 ^ z.toNat)
def kLen (a : Int) (h : AHeap) : Ctr := ⟨[.int .u64 a], h, Int, fun z => (pLen a z, .ret (.int .i64 z), h)⟩
theorem run_med (l : List En) (n : Nat) (a b c w : Int) (Q : Res → AHeap → Prop) : (((kOrd l n a b w).asks Try.prog [] 60 ∧
∀ i1 : Int × Int × Int, (pOrd a b i1) →
((kOrd l n i1.snd.fst c i1.snd.snd).asks Try.prog [] 60 ∧
∀ i2 : Int × Int × Int, (pOrd i1.snd.fst c i2) →
((kOrd l n i1.fst i2.fst i2.snd.snd).asks Try.prog [] 60 ∧
∀ i3 : Int × Int × Int, (pOrd i1.fst i2.fst i3) →
 Q (.ret (iv i3.snd.fst)) [oR l, .tcells [(iv i3.snd.snd)] 3 (some 0)])))) =
    runS Try.prog [] false [60] 0 (SpecC Try.prog []) 20 59 [sl n, .int .i64 a, .int .i64 b, .int .i64 c, pS, fC] (hp2 l w) .norm (.skip 6 (.call (Int × Int × Int) (kOrd l n a b w).post fun i1 => .skip 10 (.call (Int × Int × Int) (kOrd l n i1.snd.fst c i1.snd.snd).post fun i2 => .skip 10 (.call (Int × Int × Int) (kOrd l n i1.fst i2.fst i2.snd.snd).post fun _i3 => .go)))) (fun r _ h _ => Q r h) := by kernel_rfl
theorem med_spec {l : List En} {n : Nat} {a b c : Int} (w : Int) (HL : l.length = n) (ha : 0 ≤ a ∧ a < n) (hb : 0 ≤ b ∧ b < n) (hc : 0 ≤ c ∧ c < n) : (kMed l n a b c w).asks Try.prog [] 59 := by
  refine asks_of (spec_T (run_med l n a b c w _) ?_)
  refine ⟨ord_spec _ HL (by omega) (by omega), ?_⟩
  intro i1 hi1
  unfold pOrd at hi1
  refine ⟨ord_spec _ HL (by omega) (by omega), ?_⟩
  intro i2 hi2
  unfold pOrd at hi2
  refine ⟨ord_spec _ HL (by omega) (by omega), ?_⟩
  intro i3 hi3
  unfold pOrd at hi3
  refine ⟨(_, _), ?_, rfl, rfl⟩
  show i3.2.1 = a ∨ i3.2.1 = b ∨ i3.2.1 = c
  omega
theorem run_adj (l : List En) (n : Nat) (a w : Int) (Q : Res → AHeap → Prop) : (∀ z1 : Int, z1 = (IntKind.i64.wrap (a - 1)) →
∀ z2 : Int, z2 = (IntKind.i64.wrap (a + 1)) →
((kMed l n z1 a z2 w).asks Try.prog [] 59 ∧
∀ i3 : Int × Int, (pMed z1 a z2 i3) →
 Q (.ret (iv i3.fst)) [oR l, .tcells [(iv i3.snd)] 3 (some 0)])) =
    runS Try.prog [] false [59] 0 (SpecC Try.prog []) 20 58 [sl n, .int .i64 a, pS, fC] (hp2 l w) .norm (.skip 3 (.all (fun z1 => .skip 2 (.all (fun z2 => .skip 2 (.call (Int × Int) (kMed l n z1 a z2 w).post fun _i3 => .go)))))) (fun r _ h _ => Q r h) := by kernel_rfl
theorem adj_spec {l : List En} {n : Nat} {a : Int} (w : Int) (HL : l.length = n) (hn : n < 2 ^ 40) (ha : 1 ≤ a ∧ a + 1 < n) : (kAdj l n a w).asks Try.prog [] 58 := by
  refine asks_of (spec_T (run_adj l n a w _) ?_)
  intro z1 hz1
  rw [wr (by omega) (by omega)] at hz1
  subst hz1
  intro z2 hz2
  rw [wr (by omega) (by omega)] at hz2
  subst hz2
  refine ⟨med_spec _ HL (by omega) (by omega) (by omega), ?_⟩
  intro i3 hi3
  exact ⟨_, hi3, rfl, rfl⟩
abbrev ksrt22t0 (l : List En) (Q : Res →
 AHeap →
 Prop) (i14 : Int × Int) : Prop := ((i14.snd == 0) = true →
 Q (.ret (.tuple ⟨[(iv i14.fst), (iv 1)]⟩)) [oR l, .tcells [(iv i14.snd)] 3 (some 0)]) ∧
((i14.snd == 0) = false →
(((i14.snd == 12) = true →
 Q (.ret (.tuple ⟨[(iv i14.fst), (iv 2)]⟩)) [oR l, .tcells [(iv i14.snd)] 3 (some 0)]) ∧
((i14.snd == 12) = false →
 Q (.ret (.tuple ⟨[(iv i14.fst), (iv 0)]⟩)) [oR l, .tcells [(iv i14.snd)] 3 (some 0)])))
theorem run_cho (l : List En) (n : Nat) (a b : Int) (Q : Res → AHeap → Prop) : (∀ z1 : Int, z1 = (IntKind.i64.wrap (b - a)) →
∀ z2 : Int, z2 = (IntKind.i64.wrap (z1.tdiv 4)) →
∀ z3 : Int, z3 = (IntKind.i64.wrap (z2 * 1)) →
∀ z4 : Int, z4 = (IntKind.i64.wrap (a + z3)) →
∀ z5 : Int, z5 = (IntKind.i64.wrap (z1.tdiv 4)) →
∀ z6 : Int, z6 = (IntKind.i64.wrap (z5 * 2)) →
∀ z7 : Int, z7 = (IntKind.i64.wrap (a + z6)) →
∀ z8 : Int, z8 = (IntKind.i64.wrap (z1.tdiv 4)) →
∀ z9 : Int, z9 = (IntKind.i64.wrap (z8 * 3)) →
∀ z10 : Int, z10 = (IntKind.i64.wrap (a + z9)) →
(((decide (z1 ≥ 8)) = true →
(((decide (z1 ≥ 50)) = true →
((kAdj l n z4 0).asks Try.prog [] 58 ∧
∀ i11 : Int × Int, (pMed (z4 - 1) z4 (z4 + 1) i11) →
((kAdj l n z7 i11.snd).asks Try.prog [] 58 ∧
∀ i12 : Int × Int, (pMed (z7 - 1) z7 (z7 + 1) i12) →
((kAdj l n z10 i12.snd).asks Try.prog [] 58 ∧
∀ i13 : Int × Int, (pMed (z10 - 1) z10 (z10 + 1) i13) →
((kMed l n i11.fst i12.fst i13.fst i13.snd).asks Try.prog [] 59 ∧
∀ i14 : Int × Int, (pMed i11.fst i12.fst i13.fst i14) →
((ksrt22t0 l Q i14))))))) ∧
((decide (z1 ≥ 50)) = false →
((kMed l n z4 z7 z10 0).asks Try.prog [] 59 ∧
∀ i11 : Int × Int, (pMed z4 z7 z10 i11) →
((ksrt22t0 l Q i11)))))) ∧
((decide (z1 ≥ 8)) = false →
 Q (.ret (.tuple ⟨[(iv z7), (iv 1)]⟩)) [oR l, .tcells [(iv 0)] 3 (some 0)]))) =
    runS Try.prog [] false [58, 59] 0 (SpecC Try.prog []) 20 48 [sl n, .int .i64 a, .int .i64 b, fC] (hp l) .norm (.skip 4 (.all (fun _z1 => .skip 4 (.all (fun _z2 => .skip 0 (.all (fun _z3 => .skip 0 (.all (fun z4 => .skip 3 (.all (fun _z5 => .skip 0 (.all (fun _z6 => .skip 0 (.all (fun z7 => .skip 3 (.all (fun _z8 => .skip 0 (.all (fun _z9 => .skip 0 (.all (fun z10 => .skip 2 (.ask (.skip 2 (.ask (.skip 4 (.call (Int × Int) (kAdj l n z4 0).post fun i11 => .skip 4 (.call (Int × Int) (kAdj l n z7 i11.snd).post fun i12 => .skip 4 (.call (Int × Int) (kAdj l n z10 i12.snd).post fun i13 => .skip 6 (.call (Int × Int) (kMed l n i11.fst i12.fst i13.fst i13.snd).post fun _i14 => .skip 2 (.ask (.go) (.skip 2 (.ask (.go) (.go))))))))) (.skip 6 (.call (Int × Int) (kMed l n z4 z7 z10 0).post fun _i11 => .skip 2 (.ask (.go) (.skip 2 (.ask (.go) (.go)))))))) (.go))))))))))))))))))))))) (fun r _ h _ => Q r h) := by kernel_rfl
theorem med_b {x : Int} {p : Int × Int} (h : pMed (x - 1) x (x + 1) p) : x - 1 ≤ p.1 ∧ p.1 ≤ x + 1 := by unfold pMed at h; omega
theorem med_in {a b x y z : Int} {p : Int × Int} (h : pMed x y z p) (hx : a ≤ x ∧ x < b) (hy : a ≤ y ∧ y < b) (hz : a ≤ z ∧ z < b) : a ≤ p.1 ∧ p.1 < b := by unfold pMed at h; omega
theorem cho_spec {l : List En} {n : Nat} {a b : Int} (H : Pre nkE l n a b) (hab : a < b) : (kCho l n a b).asks Try.prog [] 48 := by
  have HL := H.len
  have H0 := H.a0
  have HB := H.bn
  have HAB := H.ab
  have HG := H.big
  refine asks_of (forget1 (spec_T (run_cho l n a b _) ?_))
  intro z1 hz1
  rw [wr (by omega) (by omega)] at hz1
  intro z2 hz2
  rw [wrt (by omega) (by omega) (by omega)] at hz2
  rw [Int.tdiv_eq_ediv_of_nonneg (by omega)] at hz2
  intro z3 hz3
  rw [wr (by omega) (by omega)] at hz3
  intro z4 hz4
  rw [wr (by omega) (by omega)] at hz4
  intro z5 hz5
  rw [wrt (by omega) (by omega) (by omega)] at hz5
  rw [Int.tdiv_eq_ediv_of_nonneg (by omega)] at hz5
  intro z6 hz6
  rw [wr (by omega) (by omega)] at hz6
  intro z7 hz7
  rw [wr (by omega) (by omega)] at hz7
  intro z8 hz8
  rw [wrt (by omega) (by omega) (by omega)] at hz8
  rw [Int.tdiv_eq_ediv_of_nonneg (by omega)] at hz8
  intro z9 hz9
  rw [wr (by omega) (by omega)] at hz9
  intro z10 hz10
  rw [wr (by omega) (by omega)] at hz10
  refine ⟨fun h0 => ?_, fun h0 => ?_⟩
  replace h0 := of_decide_eq_true h0
  refine ⟨fun h1 => ?_, fun h1 => ?_⟩
  replace h1 := of_decide_eq_true h1
  refine ⟨adj_spec _ HL HG (by omega), ?_⟩
  intro i11 hi11
  replace hi11 := med_b hi11
  refine ⟨adj_spec _ HL HG (by omega), ?_⟩
  intro i12 hi12
  replace hi12 := med_b hi12
  refine ⟨adj_spec _ HL HG (by omega), ?_⟩
  intro i13 hi13
  replace hi13 := med_b hi13
  refine ⟨med_spec _ HL (by omega) (by omega) (by omega), ?_⟩
  intro i14 hi14
  refine ⟨fun h2 => ?_, fun h2 => ?_⟩
  refine ⟨_, l, _, rfl, rfl, rfl, (i14.fst, 1), ?_, rfl, rfl⟩
  show a ≤ _ ∧ _ < b
  exact med_in hi14 (by omega) (by omega) (by omega)
  refine ⟨fun h3 => ?_, fun h3 => ?_⟩
  refine ⟨_, l, _, rfl, rfl, rfl, (i14.fst, 2), ?_, rfl, rfl⟩
  show a ≤ _ ∧ _ < b
  exact med_in hi14 (by omega) (by omega) (by omega)
  refine ⟨_, l, _, rfl, rfl, rfl, (i14.fst, 0), ?_, rfl, rfl⟩
  show a ≤ _ ∧ _ < b
  exact med_in hi14 (by omega) (by omega) (by omega)
  replace h1 := of_decide_eq_false h1
  refine ⟨med_spec _ HL (by omega) (by omega) (by omega), ?_⟩
  intro i11 hi11
  refine ⟨fun h2 => ?_, fun h2 => ?_⟩
  refine ⟨_, l, _, rfl, rfl, rfl, (i11.fst, 1), ?_, rfl, rfl⟩
  show a ≤ _ ∧ _ < b
  exact med_in hi11 (by omega) (by omega) (by omega)
  refine ⟨fun h3 => ?_, fun h3 => ?_⟩
  refine ⟨_, l, _, rfl, rfl, rfl, (i11.fst, 2), ?_, rfl, rfl⟩
  show a ≤ _ ∧ _ < b
  exact med_in hi11 (by omega) (by omega) (by omega)
  refine ⟨_, l, _, rfl, rfl, rfl, (i11.fst, 0), ?_, rfl, rfl⟩
  show a ≤ _ ∧ _ < b
  exact med_in hi11 (by omega) (by omega) (by omega)
  replace h0 := of_decide_eq_false h0
  refine ⟨_, l, _, rfl, rfl, rfl, (z7, 1), ?_, rfl, rfl⟩
  show a ≤ _ ∧ _ < b
  constructor <;> (simp only; omega)
abbrev ksrt23s0 : Scr := .skip 2 (.all (fun _z2 => .skip 6 (.all (fun _z3 => .skip 0 (.gen (Int) (fun x => .int .u8 x) fun _z4 => .skip 0 (.all (fun _z5 => .skip 0 (.all (fun _z6 => .go)))))))))
abbrev ksrt23s1 : Scr := .skip 3 (.all (fun _z2 => .skip 0 (.gen (Int) (fun x => .int .u8 x) fun _z3 => .skip 0 (.all (fun _z4 => .skip 0 (.all (fun _z5 => .go)))))))
theorem run_len (a : Int) (Q : Res → Prop) : ((((decide (a ≥ 4294967296)) = true →
 False) ∧
((decide (a ≥ 4294967296)) = false →
(((decide (a ≥ 65536)) = true →
∀ z1 : Int, z1 = (a.fdiv (2 ^ Min.min (Int.toNat 16) IntKind.u64.bits)) →
(((decide (z1 ≥ 256)) = true →
∀ z2 : Int, z2 = (z1.fdiv (2 ^ Min.min (Int.toNat 8) IntKind.u64.bits)) →
∀ z3 : Int, z3 = (IntKind.u8.wrap z2) →
((∃ z4 : Int, aIndex Try.prog 9 (.string (bs bigS)) (.int .u8 z3) = some (.int .u8 z4)) ∧
∀ z4 : Int, aIndex Try.prog 9 (.string (bs bigS)) (.int .u8 z3) = some (.int .u8 z4) →
∀ z5 : Int, z5 = (IntKind.i64.wrap z4) →
∀ z6 : Int, z6 = (IntKind.i64.wrap (Int.ofNat (23 + 1) + z5)) →
 Q (.ret (iv z6)))) ∧
((decide (z1 ≥ 256)) = false →
∀ z2 : Int, z2 = (IntKind.u8.wrap z1) →
((∃ z3 : Int, aIndex Try.prog 9 (.string (bs bigS)) (.int .u8 z2) = some (.int .u8 z3)) ∧
∀ z3 : Int, aIndex Try.prog 9 (.string (bs bigS)) (.int .u8 z2) = some (.int .u8 z3) →
∀ z4 : Int, z4 = (IntKind.i64.wrap z3) →
∀ z5 : Int, z5 = (IntKind.i64.wrap (Int.ofNat (15 + 1) + z4)) →
 Q (.ret (iv z5)))))) ∧
((decide (a ≥ 65536)) = false →
(((decide (a ≥ 256)) = true →
∀ z1 : Int, z1 = (a.fdiv (2 ^ Min.min (Int.toNat 8) IntKind.u64.bits)) →
∀ z2 : Int, z2 = (IntKind.u8.wrap z1) →
((∃ z3 : Int, aIndex Try.prog 9 (.string (bs bigS)) (.int .u8 z2) = some (.int .u8 z3)) ∧
∀ z3 : Int, aIndex Try.prog 9 (.string (bs bigS)) (.int .u8 z2) = some (.int .u8 z3) →
∀ z4 : Int, z4 = (IntKind.i64.wrap z3) →
∀ z5 : Int, z5 = (IntKind.i64.wrap (Int.ofNat (7 + 1) + z4)) →
 Q (.ret (iv z5)))) ∧
((decide (a ≥ 256)) = false →
∀ z1 : Int, z1 = (IntKind.u8.wrap a) →
((∃ z2 : Int, aIndex Try.prog 9 (.string (bs bigS)) (.int .u8 z1) = some (.int .u8 z2)) ∧
∀ z2 : Int, aIndex Try.prog 9 (.string (bs bigS)) (.int .u8 z1) = some (.int .u8 z2) →
∀ z3 : Int, z3 = (IntKind.i64.wrap z2) →
∀ z4 : Int, z4 = (IntKind.i64.wrap (0 + z3)) →
 Q (.ret (iv z4)))))))))) =
    runS Try.prog [] false [] 0 (SpecC Try.prog []) 20 43 [.int .u64 a] [] .norm (.skip 6 (.ask (.skip 0 .go) (.skip 2 (.ask (.skip 2 (.all (fun _z1 => .skip 5 (.ask ksrt23s0 ksrt23s1)))) (.skip 2 (.ask ksrt23s0 ksrt23s1)))))) (fun r _ _ _ => Q r) := by kernel_rfl

theorem big_log : ∀ i, i < 256 → (bigS.getD i 0).toNat ≤ 8 ∧ (1 ≤ i → 1 ≤ (bigS.getD i 0).toNat ∧ 2 ^ ((bigS.getD i 0).toNat - 1) ≤ i ∧ i < 2 ^ (bigS.getD i 0).toNat) := by decide +kernel
theorem big_len : bigS.length = 256 := by decide +kernel
theorem xu9 : Try.prog.underlying 9 = some .string := by kernel_rfl
theorem len_ix {z : Int} (h0 : 0 ≤ z) (h1 : z < 256) : aIndex Try.prog 9 (.string (bs bigS)) (.int .u8 z) = some (.int .u8 ((bigS.getD z.toNat 0).toNat : Int)) :=
  aIndex_bs xu9 h0 (by rw [big_len]; exact h1)
theorem len_leaf {a q c : Int} {k : Nat} (h0 : 0 ≤ q) (h1 : q < 256) (hk : k ≤ 24) (hc : c = k) (hq : q = a / 2 ^ k) (ha : 2 ^ k ≤ a ∨ k = 0) {z : Int} (hz : z = c + ((bigS.getD q.toNat 0).toNat : Int)) : pLen a z := by
  obtain ⟨b1, b2⟩ := big_log q.toNat (by omega)
  have hp : (0 : Int) < 2 ^ k := Int.pow_pos (by omega)
  refine ⟨by omega, by omega, fun h => ?_⟩
  have hq1 : 1 ≤ q := by
    rcases ha with ha | ha
    · rw [hq]; exact (Int.le_ediv_iff_mul_le hp).2 (by omega)
    · subst ha; simp at hq; omega
  obtain ⟨c1, c2, c3⟩ := b2 (by omega)
  generalize hd : (bigS.getD q.toNat 0).toNat = d at *
  have hzn : z.toNat = k + d := by omega
  have e1 : q * 2 ^ k ≤ a := by rw [hq]; exact Int.ediv_mul_le a (by omega)
  have e2 : a < (q + 1) * 2 ^ k := by rw [hq]; exact Int.lt_ediv_add_one_mul_self a hp
  have c2' : (2 : Int) ^ (d - 1) ≤ q := by
    have : ((2 ^ (d - 1) : Nat) : Int) ≤ (q.toNat : Int) := by exact_mod_cast c2
    rw [Int.natCast_pow] at this; simpa [Int.toNat_of_nonneg h0] using this
  have c3' : q + 1 ≤ (2 : Int) ^ d := by
    have : (q.toNat : Int) < ((2 ^ d : Nat) : Int) := by exact_mod_cast c3
    rw [Int.natCast_pow] at this
    have h2 : (q.toNat : Int) = q := Int.toNat_of_nonneg h0
    rw [h2] at this; exact this
  refine ⟨by omega, ?_, ?_⟩
  · rw [hzn, show k + d - 1 = (d - 1) + k by omega, Int.pow_add]
    exact Int.le_trans (Int.mul_le_mul_of_nonneg_right c2' (by omega)) e1
  · rw [hzn, Nat.add_comm, Int.pow_add]
    exact Int.lt_of_lt_of_le e2 (Int.mul_le_mul_of_nonneg_right c3' (by omega))
theorem xstep {o : Option Value} {k : IntKind} {v : Int} {X : Int → Prop} (h : o = some (.int k v)) (hX : X v) : (∃ z : Int, o = some (.int k z)) ∧ ∀ z : Int, o = some (.int k z) → X z :=
  ⟨⟨v, h⟩, fun z hz => by
    have e : v = z := by
      have := h.symm.trans hz
      injection this with this; injection this
    rw [← e]; exact hX⟩
theorem fdiv_p {x z : Int} {k : Nat} (h : z = x.fdiv (2 ^ k)) : z = x / 2 ^ k := by
  rw [h, Int.fdiv_eq_ediv_of_nonneg _ (Int.le_of_lt (Int.pow_pos (by omega)))]
theorem big_b (i : Nat) (h : i < 256) : (bigS.getD i 0).toNat ≤ 8 := (big_log i h).1
theorem len_fun {a : Int} (h0 : 0 ≤ a) (h1 : a < 4294967296) : Fm.Spec Try.prog [] 43 [.int .u64 a] [] fun r _ => ∃ z, r = .ret (.int .i64 z) ∧ pLen a z := by
  refine spec_R (run_len a fun r => ∃ z, r = .ret (.int .i64 z) ∧ pLen a z) ?_
  refine ⟨fun h => by have := of_decide_eq_true h; omega, fun _ => ⟨fun h2 => ?_, fun h2 => ?_⟩⟩
  · replace h2 := of_decide_eq_true h2
    intro z1 hz1
    replace hz1 := fdiv_p (k := 16) hz1
    refine ⟨fun h3 => ?_, fun h3 => ?_⟩
    · replace h3 := of_decide_eq_true h3
      intro z2 hz2 z3 hz3
      replace hz2 := fdiv_p (k := 8) hz2
      rw [wru8 (by omega) (by omega)] at hz3
      subst hz3
      refine xstep (len_ix (by omega) (by omega)) ?_
      intro y1 hy1 y2 hy2
      have bb := big_b (z3).toNat (by omega)
      rw [wr (by omega) (by omega)] at hy1
      have e : Int.ofNat (23 + 1) = 24 := rfl
      rw [e, hy1, wr (by omega) (by omega)] at hy2
      exact ⟨y2, rfl, len_leaf (k := 24) (q := z3) (c := 24) (by omega) (by omega) (by omega) rfl (by omega) (.inl (by omega)) hy2⟩
    · replace h3 := of_decide_eq_false h3
      intro z2 hz2
      rw [wru8 (by omega) (by omega)] at hz2
      subst hz2
      refine xstep (len_ix (by omega) (by omega)) ?_
      intro y1 hy1 y2 hy2
      have bb := big_b (z2).toNat (by omega)
      rw [wr (by omega) (by omega)] at hy1
      have e : Int.ofNat (15 + 1) = 16 := rfl
      rw [e, hy1, wr (by omega) (by omega)] at hy2
      exact ⟨y2, rfl, len_leaf (k := 16) (q := z2) (c := 16) (by omega) (by omega) (by omega) rfl (by omega) (.inl (by omega)) hy2⟩
  · replace h2 := of_decide_eq_false h2
    refine ⟨fun h3 => ?_, fun h3 => ?_⟩
    · replace h3 := of_decide_eq_true h3
      intro z1 hz1 z2 hz2
      replace hz1 := fdiv_p (k := 8) hz1
      rw [wru8 (by omega) (by omega)] at hz2
      subst hz2
      refine xstep (len_ix (by omega) (by omega)) ?_
      intro y1 hy1 y2 hy2
      have bb := big_b (z2).toNat (by omega)
      rw [wr (by omega) (by omega)] at hy1
      have e : Int.ofNat (7 + 1) = 8 := rfl
      rw [e, hy1, wr (by omega) (by omega)] at hy2
      exact ⟨y2, rfl, len_leaf (k := 8) (q := z2) (c := 8) (by omega) (by omega) (by omega) rfl (by omega) (.inl (by omega)) hy2⟩
    · replace h3 := of_decide_eq_false h3
      intro z1 hz1
      rw [wru8 (by omega) (by omega)] at hz1
      subst hz1
      refine xstep (len_ix (by omega) (by omega)) ?_
      intro y1 hy1 y2 hy2
      have bb := big_b (z1).toNat (by omega)
      rw [wr (by omega) (by omega)] at hy1
      have e : (0 : Int) = 0 := rfl
      rw [e, hy1, wr (by omega) (by omega)] at hy2
      exact ⟨y2, rfl, len_leaf (k := 0) (q := z1) (c := 0) (by omega) (by omega) (by omega) rfl (by omega) (.inr rfl) hy2⟩

theorem len_ok {a : Int} (h0 : 0 ≤ a) (h1 : a < 4294967296) (h : AHeap) : (kLen a h).asks Try.prog [] 43 :=
  asks_of (Spec.mono (Spec.lift (gs' := []) (h := h) (Q := fun u => ∃ z, u = .int .i64 z ∧ pLen a z) (Spec.mono (len_fun h0 h1) (by rintro r h' ⟨z, rfl, hz⟩; exact ⟨_, rfl, .int _ _, z, rfl, hz⟩))
    (by intro v hv; rw [List.mem_singleton] at hv; subst hv; exact .int _ _) (by simp) rfl (by simp) (by simp) (by simp)) (by rintro r h' ⟨⟨u, rfl, _, z, rfl, hz⟩, rfl⟩; exact ⟨z, hz, rfl, rfl⟩))
abbrev ksrt24t0 (l : List En) (n : Nat) (a : Int) (b : Int) (z24 : Int) (i10 : List En × Int × Int × Int) (z20 : Int) : Prop := ∀ z25 : Int, z25 = (IntKind.i64.wrap (a + z24)) →
∀ z26 : Int, z26 = (IntKind.i64.wrap (a + z24)) →
(IX n z26 ∧
(LD i10.fst z26 ∧
(IX n i10.snd.fst ∧
(LD i10.fst i10.snd.fst ∧
(IX n i10.snd.fst ∧
((((aStoreAt Try.prog 66 (pt i10.snd.fst) (rv (gx i10.fst z26)) [oR i10.fst, .tcells [(.int .u64 z20)] 89 (some 0)]).map fun h => (undefV, h)) = some (undefV, ([oR (i10.fst.set i10.snd.fst.toNat (gx i10.fst z26)), .tcells [(.int .u64 z20)] 89 (some 0)] : AHeap))) ∧
(IX n z25 ∧
((((aStoreAt Try.prog 66 (pt z25) (rv (gx i10.fst i10.snd.fst)) [oR (i10.fst.set i10.snd.fst.toNat (gx i10.fst z26)), .tcells [(.int .u64 z20)] 89 (some 0)]).map fun h => (undefV, h)) = some (undefV, ([oR ((i10.fst.set i10.snd.fst.toNat (gx i10.fst z26)).set z25.toNat (gx i10.fst i10.snd.fst)), .tcells [(.int .u64 z20)] 89 (some 0)] : AHeap))) ∧
∀ z27 : Int, z27 = (IntKind.i64.wrap (i10.snd.fst + 1)) →
(someN [] 1 (fun a' => (mB l n a b) a' < (mB l n a b) i10) ⟨[(11, (iv z27)), (10, (.int .u64 i10.snd.snd.snd)), (9, (.pointer (some ⟨1, 0, none⟩))), (8, (iv (b - a))), (0, (sl n)), (1, (iv a)), (2, (iv b)), (3, fC)], [], [oR ((i10.fst.set i10.snd.fst.toNat (gx i10.fst z26)).set z25.toNat (gx i10.fst i10.snd.fst)), .tcells [(.int .u64 z20)] 89 (some 0)], .norm⟩ [(qB l n a b)])))))))))
abbrev ksrt24s0 (i10 : List En × Int × Int × Int) (z26 : Int) (z20 : Int) (z25 : Int) : Scr := .skip 0 (.val (rv (gx i10.fst z26)) (.skip 2 (.val (pt i10.snd.fst) (.skip 0 (.val (rv (gx i10.fst i10.snd.fst)) (.skip 0 (.val (pt i10.snd.fst) (.skip 0 (.put undefV [oR (i10.fst.set i10.snd.fst.toNat (gx i10.fst z26)), .tcells [(.int .u64 z20)] 89 (some 0)] (.skip 0 (.val (pt z25) (.skip 0 (.put undefV [oR ((i10.fst.set i10.snd.fst.toNat (gx i10.fst z26)).set z25.toNat (gx i10.fst i10.snd.fst)), .tcells [(.int .u64 z20)] 89 (some 0)] (.skip 1 (.all (fun _z27 => .go))))))))))))))))
theorem run_brk (l : List En) (n : Nat) (a b : Int) (Q : Res → AHeap → Prop) : (∀ z1 : Int, z1 = (IntKind.i64.wrap (b - a)) →
(((decide (z1 ≥ 8)) = true →
∀ z2 : Int, z2 = (IntKind.u64.wrap z1) →
∀ z3 : Int, z3 = (IntKind.u64.wrap z1) →
((kLen z3 [oR l, AObj.tcells [Go.Value.int IntKind.u64 z2] 89 (Option.some 0)]).asks Try.prog [] 43 ∧
∀ i4 : Int, (pLen z3 i4) →
((∃ z5 : Int, aBin2 Try.prog BinOp.shl 77 (Operand.const (Go.Value.int IntKind.u64 1)) (Operand.tmp 5) (.int .u64 1) (iv i4) = some (.int .u64 z5)) ∧
∀ z5 : Int, aBin2 Try.prog BinOp.shl 77 (Operand.const (Go.Value.int IntKind.u64 1)) (Operand.tmp 5) (.int .u64 1) (iv i4) = some (.int .u64 z5) →
∀ z6 : Int, z6 = (IntKind.i64.wrap (z1.tdiv 4)) →
∀ z7 : Int, z7 = (IntKind.i64.wrap (z6 * 2)) →
∀ z8 : Int, z8 = (IntKind.i64.wrap (a + z7)) →
∀ z9 : Int, z9 = (IntKind.i64.wrap (z8 - 1)) →
((someN [] 1 (fun _ => True) ⟨[(11, (iv z9)), (10, (.int .u64 z5)), (9, (.pointer (some ⟨1, 0, none⟩))), (8, (iv z1)), (0, (sl n)), (1, (iv a)), (2, (iv b)), (3, fC)], [], [oR l, .tcells [(.int .u64 z2)] 89 (some 0)], .norm⟩ [(qB l n a b)]) ∧
(∀ i10, (qB l n a b i10).fst →
∀ z11 : Int, z11 = (IntKind.i64.wrap ((b - a).tdiv 4)) →
∀ z12 : Int, z12 = (IntKind.i64.wrap (z11 * 2)) →
∀ z13 : Int, z13 = (IntKind.i64.wrap (a + z12)) →
∀ z14 : Int, z14 = (IntKind.i64.wrap (z13 + 1)) →
(((decide (i10.snd.fst ≤ z14)) = true →
∀ z15 : Int, z15 = (IntKind.u64.wrap (i10.snd.snd.fst * 2 ^ Min.min (Int.toNat 13) IntKind.u64.bits)) →
∀ z16 : Int, z16 = (IntKind.u64.wrap (((BitVec.ofInt IntKind.u64.bits i10.snd.snd.fst ^^^ BitVec.ofInt IntKind.u64.bits z15).toNat : Nat) : Int)) →
∀ z17 : Int, z17 = (z16.fdiv (2 ^ Min.min (Int.toNat 7) IntKind.u64.bits)) →
∀ z18 : Int, z18 = (IntKind.u64.wrap (((BitVec.ofInt IntKind.u64.bits z16 ^^^ BitVec.ofInt IntKind.u64.bits z17).toNat : Nat) : Int)) →
∀ z19 : Int, z19 = (IntKind.u64.wrap (z18 * 2 ^ Min.min (Int.toNat 17) IntKind.u64.bits)) →
∀ z20 : Int, z20 = (IntKind.u64.wrap (((BitVec.ofInt IntKind.u64.bits z18 ^^^ BitVec.ofInt IntKind.u64.bits z19).toNat : Nat) : Int)) →
∀ z21 : Int, z21 = (IntKind.u64.wrap (i10.snd.snd.snd - 1)) →
∀ z22 : Int, z22 = (IntKind.u64.wrap (((BitVec.ofInt IntKind.u64.bits z20 &&& BitVec.ofInt IntKind.u64.bits z21).toNat : Nat) : Int)) →
∀ z23 : Int, z23 = (IntKind.i64.wrap z22) →
(((decide (z23 ≥ b - a)) = true →
∀ z24 : Int, z24 = (IntKind.i64.wrap (z23 - (b - a))) →
(ksrt24t0 l n a b z24 i10 z20)) ∧
((decide (z23 ≥ b - a)) = false →
(ksrt24t0 l n a b z23 i10 z20)))) ∧
((decide (i10.snd.fst ≤ z14)) = false →
 Q (.ret (.tuple ⟨[]⟩)) [oR i10.fst, .tcells [(.int .u64 i10.snd.snd.fst)] 89 (some 0)]))))))) ∧
((decide (z1 ≥ 8)) = false →
 Q (.ret (.tuple ⟨[]⟩)) (hp l)))) =
    runS Try.prog [] false [39, 43] 0 (SpecC Try.prog []) 20 47 [sl n, .int .i64 a, .int .i64 b, fC] (hp l) .norm (.skip 2 (.all (fun _z1 => .skip 2 (.ask (.skip 2 (.all (fun z2 => .skip 6 (.all (fun z3 => .skip 0 (.call (Int) (kLen z3 [oR l, AObj.tcells [Go.Value.int IntKind.u64 z2] 89 (Option.some 0)]).post fun _i4 => .skip 0 (.gen (Int) (fun x => .int .u64 x) fun _z5 => .skip 4 (.all (fun _z6 => .skip 0 (.all (fun _z7 => .skip 0 (.all (fun _z8 => .skip 0 (.all (fun _z9 => .skip 1 (.invN [11, 10, 9, 8, 0, 1, 2, 3] _ (mB l n a b) [(qB l n a b)] (fun k => match k with | _ => fun i10 => .skip 3 (.all (fun _z11 => .skip 0 (.all (fun _z12 => .skip 0 (.all (fun _z13 => .skip 0 (.all (fun _z14 => .skip 0 (.ask (.skip 9 (.all (fun _z15 => .skip 0 (.all (fun _z16 => .skip 8 (.all (fun _z17 => .skip 0 (.all (fun _z18 => .skip 8 (.all (fun _z19 => .skip 0 (.all (fun z20 => .skip 7 (.all (fun _z21 => .skip 0 (.all (fun _z22 => .skip 0 (.all (fun _z23 => .skip 3 (.ask (.skip 3 (.all (fun _z24 => .skip 6 (.all (fun z25 => .skip 3 (.all (fun z26 => .skip 0 (.val (pt z26) (ksrt24s0 i10 z26 z20 z25))))))))) (.skip 6 (.all (fun z24 => .skip 3 (.all (fun z25 => .skip 0 (.val (pt z25) (ksrt24s0 i10 z25 z20 z24))))))))))))))))))))))))))) (.go))))))))))))))))))))))))))) (.go))))) (fun r _ h _ => Q r h) := by kernel_rfl
theorem pow_b {z : Int} (h0 : 0 ≤ z) (h1 : z ≤ 32) : (0 : Int) < 2 ^ z.toNat ∧ (2 : Int) ^ z.toNat ≤ 2 ^ 32 := by
  refine ⟨Int.pow_pos (by omega), ?_⟩
  have h : 2 ^ z.toNat ≤ 2 ^ 32 := Nat.pow_le_pow_right (by omega) (by omega)
  have : ((2 ^ z.toNat : Nat) : Int) ≤ ((2 ^ 32 : Nat) : Int) := by exact_mod_cast h
  rwa [Int.natCast_pow] at this
theorem pow_pos (k : Nat) : (0 : Int) < 2 ^ k := Int.pow_pos (by omega)
theorem shl_one {ox oy : Operand} {z : Int} (h0 : 0 ≤ z) (h1 : z ≤ 32) : aBin2 Try.prog .shl 77 ox oy (.int .u64 1) (.int .i64 z) = some (.int .u64 (2 ^ z.toNat)) := by
  rw [aBin2_shl h0]
  have hb := pow_b h0 h1
  have e : min z.toNat IntKind.u64.bits = z.toNat := Nat.min_eq_left (by show z.toNat ≤ 64; omega)
  rw [e, Int.one_mul, wru (by omega) (by omega)]
theorem B_first {l : List En} {a b : Int} {i r z md : Int} (hi : i = a + (b - a).tdiv 4 * 2 - 1) (hr : 0 ≤ r ∧ r < 2 ^ 64) (h0 : 0 ≤ z) (h1 : z ≤ 32) (h2 : 1 ≤ z) (h3 : 2 ^ (z.toNat - 1) ≤ b - a) (hm : md = 2 ^ z.toNat) :
    iB l a b (l, i, r, md) := by
  subst hi
  refine ⟨.refl, Int.le_refl _, by simp only; omega, hr, z.toNat, hm, by omega, ?_⟩
  show md ≤ _
  rw [hm, show z.toNat = (z.toNat - 1) + 1 by omega, Int.pow_succ]; omega
theorem brk_spec {l : List En} {n : Nat} {a b : Int} (H : Pre nkE l n a b) (hn : n < 2 ^ 31) : (kSw l n a b).asks Try.prog [] 47 := by
  have HL := H.len
  have H0 := H.a0
  have HB := H.bn
  have HAB := H.ab
  have HG := H.big
  refine asks_of (forget1 (spec_T (run_brk l n a b _) ?_))
  intro z1 hz1
  rw [wr (by omega) (by omega)] at hz1
  subst hz1
  refine ⟨fun h0 => ?_, fun h0 => ?_⟩
  replace h0 := of_decide_eq_true h0
  intro z2 hz2
  rw [wru (by omega) (by omega)] at hz2
  subst hz2
  intro z3 hz3
  rw [wru (by omega) (by omega)] at hz3
  subst hz3
  refine ⟨len_ok (by omega) (by omega) _, ?_⟩
  intro i4 hi4
  obtain ⟨q1, q2, q3⟩ := hi4
  obtain ⟨q4, q5, q6⟩ := q3 (by omega)
  have q7 := pow_b q1 q2
  have hq4 : (b - a).tdiv 4 = (b - a) / 4 := Int.tdiv_eq_ediv_of_nonneg (by omega)
  refine xstep (shl_one q1 q2) ?_
  intro z6 hz6
  rw [wrt (by omega) (by omega) (by omega)] at hz6
  subst hz6
  intro z7 hz7
  rw [wr (by omega) (by omega)] at hz7
  subst hz7
  intro z8 hz8
  rw [wr (by omega) (by omega)] at hz8
  subst hz8
  intro z9 hz9
  rw [wr (by omega) (by omega)] at hz9
  subst hz9
  refine ⟨?_, ?_⟩
  exact ⟨_, B_first (r := b - a) rfl ⟨(by omega), (by omega)⟩ q1 q2 q4 q5 rfl, trivial, Gc.same⟩
  intro i10 hi10
  replace hi10 : iB l a b i10 := hi10
  obtain ⟨fi101, fi102, fi103, fi104, fi105⟩ := id hi10
  have gi10 := fi101.len
  obtain ⟨ki10, ei101, ei102, ei103⟩ := fi105
  have ei104 := pow_pos ki10
  intro z11 hz11
  rw [wrt (by omega) (by omega) (by omega)] at hz11
  subst hz11
  intro z12 hz12
  rw [wr (by omega) (by omega)] at hz12
  subst hz12
  intro z13 hz13
  rw [wr (by omega) (by omega)] at hz13
  subst hz13
  intro z14 hz14
  rw [wr (by omega) (by omega)] at hz14
  subst hz14
  refine ⟨fun h1 => ?_, fun h1 => ?_⟩
  replace h1 := of_decide_eq_true h1
  intro z15 hz15
  clear hz15
  intro z16 hz16
  have bz16 := wu_b hz16
  clear hz16
  intro z17 hz17
  clear hz17
  intro z18 hz18
  have bz18 := wu_b hz18
  clear hz18
  intro z19 hz19
  clear hz19
  intro z20 hz20
  have bz20 := wu_b hz20
  clear hz20
  intro z21 hz21
  rw [wru (by omega) (by omega)] at hz21
  subst hz21
  intro z22 hz22
  have bz22 := mask_b (by omega) (by omega) hz22
  clear hz22
  intro z23 hz23
  rw [wr (by omega) (by omega)] at hz23
  subst hz23
  refine ⟨fun h2 => ?_, fun h2 => ?_⟩
  replace h2 := of_decide_eq_true h2
  intro z24 hz24
  rw [wr (by omega) (by omega)] at hz24
  subst hz24
  intro z25 hz25
  rw [wr (by omega) (by omega)] at hz25
  subst hz25
  intro z26 hz26
  rw [wr (by omega) (by omega)] at hz26
  subst hz26
  refine ⟨ixa (by omega) (by omega), ?_⟩
  refine ⟨lda (by first | omega | (rw [List.length_set]; omega)), ?_⟩
  refine ⟨ixa (by omega) (by omega), ?_⟩
  refine ⟨lda (by first | omega | (rw [List.length_set]; omega)), ?_⟩
  refine ⟨ixa (by omega) (by omega), ?_⟩
  refine ⟨sta (by first | omega | (rw [List.length_set]; omega)), ?_⟩
  refine ⟨ixa (by omega) (by omega), ?_⟩
  refine ⟨sta (by first | omega | (rw [List.length_set]; omega)), ?_⟩
  intro z27 hz27
  rw [wr (by omega) (by omega)] at hz27
  subst hz27
  exact ⟨_, B_step H hi10 h0 h1 (by omega) bz20, by show (a + (b - a).tdiv 4 * 2 + 2 - (i10.2.1 + 1)).toNat < (a + (b - a).tdiv 4 * 2 + 2 - i10.2.1).toNat; omega, Gc.same⟩
  replace h2 := of_decide_eq_false h2
  intro z24 hz24
  rw [wr (by omega) (by omega)] at hz24
  subst hz24
  intro z25 hz25
  rw [wr (by omega) (by omega)] at hz25
  subst hz25
  refine ⟨ixa (by omega) (by omega), ?_⟩
  refine ⟨lda (by first | omega | (rw [List.length_set]; omega)), ?_⟩
  refine ⟨ixa (by omega) (by omega), ?_⟩
  refine ⟨lda (by first | omega | (rw [List.length_set]; omega)), ?_⟩
  refine ⟨ixa (by omega) (by omega), ?_⟩
  refine ⟨sta (by first | omega | (rw [List.length_set]; omega)), ?_⟩
  refine ⟨ixa (by omega) (by omega), ?_⟩
  refine ⟨sta (by first | omega | (rw [List.length_set]; omega)), ?_⟩
  intro z26 hz26
  rw [wr (by omega) (by omega)] at hz26
  subst hz26
  exact ⟨_, B_step H hi10 h0 h1 (by omega) bz20, by show (a + (b - a).tdiv 4 * 2 + 2 - (i10.2.1 + 1)).toNat < (a + (b - a).tdiv 4 * 2 + 2 - i10.2.1).toNat; omega, Gc.same⟩
  replace h1 := of_decide_eq_false h1
  exact ⟨_, i10.1, _, rfl, rfl, rfl, _, fi101, rfl, rfl⟩
  replace h0 := of_decide_eq_false h0
  exact ⟨_, l, _, rfl, rfl, rfl, _, .refl, rfl, rfl⟩

end Go.Proofs.Ytcdmnmpiipmfmaa
