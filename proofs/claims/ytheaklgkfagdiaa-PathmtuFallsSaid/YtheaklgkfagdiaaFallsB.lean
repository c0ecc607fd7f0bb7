/-
  PathmtuFalls, where something is told: true. No condition.
-/
import Derived.Test.YtheaklgkfagdiaaFallsA
import Derived.Test.YtheaklgkfagdiaaFallsKey
namespace Go.Proofs.Ytheaklgkfagdiaa
open Go.Fm

theorem sc_all (n : Nat) (zs : List Int) (r : AHeap) (hr : r.all (scopeO n) = true) : (AObj.cells (zs.map (Value.int .i64)) true :: r).all (scopeO n) = true := by
  rw [List.all_cons, scope_ints, hr]; rfl

set_option maxRecDepth 100000 in
theorem falls_spec (a b c d d0 d1 d2 d3 d4 d5 d6 d7 d8 d9 d10 d11 d12 d13 d14 d15 : Int) (zs : List Int) (n m : Nat) (hn : n ≤ zs.length) :
    Fm.Spec Try.prog [] 3 [.agg ⟨abcd a b c d⟩, .agg ⟨dl d0 d1 d2 d3 d4 d5 d6 d7 d8 d9 d10 d11 d12 d13 d14 d15⟩, .slice (some ⟨0, 0, none⟩) n m] [.cells (zs.map (Value.int .i64)) true] fun r _ => r = .ret (.bool true) := by
  refine spec_of_script Try.mixed (Eq.mp (falls_run a b c d d0 d1 d2 d3 d4 d5 d6 d7 d8 d9 d10 d11 d12 d13 d14 d15 (zs.map (Value.int .i64)) 0 n m fun r _ => r = .ret (.bool true)) ?_)
  refine ⟨fun _ => ⟨aw _, fun _ _ => rfl⟩, fun h1 => ?_⟩
  refine ⟨fun _ => ⟨aw _, fun _ _ => rfl⟩, fun h2 => ?_⟩
  refine ⟨fun _ => ⟨aw _, fun _ _ => rfl⟩, fun h3 => ?_⟩
  refine ⟨fun _ => ⟨aw _, fun _ _ => rfl⟩, fun h4 => ?_⟩
  refine ⟨fun _ => ⟨aw _, fun _ _ => rfl⟩, fun h5 => ?_⟩
  refine ⟨fun _ => ⟨aw _, fun _ _ => rfl⟩, fun h6 => ?_⟩
  refine ⟨fun _ => ⟨aw _, fun _ _ => rfl⟩, fun h7 => ?_⟩
  refine ⟨fun _ => ⟨aw _, fun _ _ => rfl⟩, fun h8 => ?_⟩
  have h1 := of_decide_eq_false h1
  have h2 := of_decide_eq_false h2
  have h3 := of_decide_eq_false h3
  have h4 := of_decide_eq_false h4
  have h5 := of_decide_eq_false h5
  have h6 := of_decide_eq_false h6
  have h7 := of_decide_eq_false h7
  have h8 := of_decide_eq_false h8
  have hld : ∀ (i : Nat), i < n → ∀ h : AHeap, h[0]? = some (.cells (zs.map (Value.int .i64)) true) → aLoad Try.prog 3 (.pointer (some ⟨0, 0 + i * 1, none⟩)) h = some (.int .i64 (zs.getD i 0)) := by
    intro i hi h hb
    refine aLoad_int a3 hb ?_
    have hlt : i < zs.length := by omega
    simp [hlt]
  have hz3 : ∀ (i : Int) (z : Addr), aIndexAddr Try.prog 26 (.slice (some ⟨0, 0, none⟩) n m) (.int .i64 i) = some (.pointer (some z)) → 0 ≤ i → i < (n : Int) → z = ⟨0, 0 + i.toNat * 1, none⟩ := by
    intro i z hz h0 h1
    rw [aIndexAddr_slice u26 s3 h0 h1] at hz
    injection hz with hz; injection hz with hz; injection hz with hz
    exact hz.symm
  have lk : ∀ (h : AHeap) (v : Value), h[4]? = some (.map [⟨.agg ⟨dl d0 d1 d2 d3 d4 d5 d6 d7 d8 d9 d10 d11 d12 d13 d14 d15⟩, v, 0⟩] 1) → aLookup Try.prog 50 (.map (some 4)) (.agg ⟨dl d0 d1 d2 d3 d4 d5 d6 d7 d8 d9 d10 d11 d12 d13 d14 d15⟩) true h = some (.tuple ⟨[v, .bool true]⟩) :=
    fun h v hm => aLookup_one u50 hm (key_check d0 d1 d2 d3 d4 d5 d6 d7 d8 d9 d10 d11 d12 d13 d14 d15) (key_flat d0 d1 d2 d3 d4 d5 d6 d7 d8 d9 d10 d11 d12 d13 d14 d15) (key_eq d0 d1 d2 d3 d4 d5 d6 d7 d8 d9 d10 d11 d12 d13 d14 d15)
  have upd : ∀ (h h' : AHeap) (v x : Value) (hm : h[4]? = some (.map [⟨.agg ⟨dl d0 d1 d2 d3 d4 d5 d6 d7 d8 d9 d10 d11 d12 d13 d14 d15⟩, v, 0⟩] 1)), h.set 4 (.map [⟨.agg ⟨dl d0 d1 d2 d3 d4 d5 d6 d7 d8 d9 d10 d11 d12 d13 d14 d15⟩, x, 0⟩] 1) = h' → ((aMapUpdate Try.prog 50 (.map (some 4)) (.agg ⟨dl d0 d1 d2 d3 d4 d5 d6 d7 d8 d9 d10 d11 d12 d13 d14 d15⟩) x h).map fun h => (undefV, h)) = some (undefV, h') := by
    intro h h' v x hm e
    rw [aMapUpdate_one u50 hm (key_check d0 d1 d2 d3 d4 d5 d6 d7 d8 d9 d10 d11 d12 d13 d14 d15) (key_flat d0 d1 d2 d3 d4 d5 d6 d7 d8 d9 d10 d11 d12 d13 d14 d15) (key_eq d0 d1 d2 d3 d4 d5 d6 d7 d8 d9 d10 d11 d12 d13 d14 d15) (key_same d0 d1 d2 d3 d4 d5 d6 d7 d8 d9 d10 d11 d12 d13 d14 d15), ← e]
    rfl
  have dlt : ∀ (h h' : AHeap) (v : Value) (hm : h[4]? = some (.map [⟨.agg ⟨dl d0 d1 d2 d3 d4 d5 d6 d7 d8 d9 d10 d11 d12 d13 d14 d15⟩, v, 0⟩] 1)), h.set 4 (.map [] 1) = h' → ((aDelete Try.prog 50 (.map (some 4)) (.agg ⟨dl d0 d1 d2 d3 d4 d5 d6 d7 d8 d9 d10 d11 d12 d13 d14 d15⟩) h).map fun h => (undefV, h)) = some (undefV, h') := by
    intro h h' v hm e
    rw [aDelete_one u50 hm (key_check d0 d1 d2 d3 d4 d5 d6 d7 d8 d9 d10 d11 d12 d13 d14 d15) (key_flat d0 d1 d2 d3 d4 d5 d6 d7 d8 d9 d10 d11 d12 d13 d14 d15) (key_eq d0 d1 d2 d3 d4 d5 d6 d7 d8 d9 d10 d11 d12 d13 d14 d15), ← e]
    rfl
  have fin0 : (b == b) = false → False := by intro h; simp at h
  refine ⟨aw _, fun _ _ => ⟨.inl ⟨0, ⟨Int.le_refl 0, by omega⟩, Gc.le ⟨.inr rfl, .inr rfl, .inr rfl, .inl rfl, .inr rfl, .inr rfl, trivial⟩ rfl rfl ⟨rfl, rfl, rfl, rfl, rfl, rfl, trivial⟩ rfl rfl (sc_all _ _ _ rfl) rfl⟩, fun i1 hi1 z2 hz2 => ?_, fun i1 hi1 z2 hz2 => ?_⟩⟩
  · obtain ⟨hi0, hi2⟩ := hi1
    have hex : ∀ {X : Prop}, X → (decide (c < 0) = true → False) ∧ (decide (c < 0) = false → (decide (c > 1099511627776) = true → False) ∧ (decide (c > 1099511627776) = false → ((b == b) = true → X) ∧ ((b == b) = false → False))) := by
      intro X hX
      refine ⟨fun h => ?_, fun _ => ⟨fun h => ?_, fun _ => ⟨fun _ => hX, fin0⟩⟩⟩
      · have := of_decide_eq_true h; omega
      · have := of_decide_eq_true h; omega
    refine ⟨fun hlt => ⟨fun h200 => ?_, fun _ => hex rfl⟩, fun _ => hex rfl⟩
    have hlt := of_decide_eq_true hlt
    have h200 := of_decide_eq_true h200
    have hltn : i1 < (n : Int) := by omega
    have hnat : i1.toNat < n := by omega
    refine ⟨⟨_, aIndexAddr_slice u26 s3 hi0 hltn⟩, fun z3 hz => ?_⟩
    obtain rfl := hz3 i1 z3 hz hi0 hltn
    refine ⟨⟨_, hld _ hnat _ rfl⟩, fun z4 _ => ?_⟩
    have same : ∀ {X Y : Int → Prop}, (∀ z5 : Int, z5 = i1 + 1 → X z5) → (decide (b > b) = true → False) ∧ (decide (b > b) = false → ((b != b) = true → False) ∧ ((b != b) = false → ∀ z5 : Int, z5 = IntKind.i64.wrap (i1 + 1) → (X z5 ∨ Y z5))) := by
      intro X Y hX
      refine ⟨fun h => ?_, fun _ => ⟨fun h => ?_, fun _ z5 h5 => .inl (hX z5 ?_)⟩⟩
      · have := of_decide_eq_true h; omega
      · simp at h
      · rw [h5, wrap_i hi0 hi2]
    refine ⟨fun _ => same fun z5 h5 => ?_, fun h4 => ⟨fun _ => same fun z5 h5 => ?_, fun _ z5 hz5 => ⟨fun h6 => ?_, fun h6 => ?_⟩⟩⟩
    · subst h5
      exact ⟨i1 + 1, ⟨by omega, by omega⟩, by show (200 - (i1 + 1)).toNat < (200 - i1).toNat; omega, Gc.le ⟨.inr rfl, .inr rfl, .inr rfl, .inl rfl, .inr rfl, .inr rfl, trivial⟩ rfl rfl ⟨rfl, rfl, rfl, rfl, rfl, rfl, trivial⟩ rfl rfl (sc_all _ _ _ rfl) rfl⟩
    · subst h5
      exact ⟨i1 + 1, ⟨by omega, by omega⟩, by show (200 - (i1 + 1)).toNat < (200 - i1).toNat; omega, Gc.le ⟨.inr rfl, .inr rfl, .inr rfl, .inl rfl, .inr rfl, .inr rfl, trivial⟩ rfl rfl ⟨rfl, rfl, rfl, rfl, rfl, rfl, trivial⟩ rfl rfl (sc_all _ _ _ rfl) rfl⟩
    · refine ⟨fun h => ?_, fun _ => ⟨fun h => ?_, fun _ z6 hz6 => .inl ?_⟩⟩
      · have := of_decide_eq_true h; omega
      · have := of_decide_eq_true h; omega
      · rw [wrap_i hi0 hi2] at hz6
        subst hz6
        exact ⟨i1 + 1, ⟨by omega, by omega⟩, by show (200 - (i1 + 1)).toNat < (200 - i1).toNat; omega, Gc.le ⟨.inr rfl, .inr rfl, .inr rfl, .inl rfl, .inr rfl, .inr rfl, trivial⟩ rfl rfl ⟨rfl, rfl, rfl, rfl, rfl, rfl, trivial⟩ rfl rfl (sc_all _ _ _ rfl) rfl⟩
    · have h6 := of_decide_eq_false h6
      have hd : d ≤ z5 := by split at hz5 <;> omega
      refine ⟨fun h => ?_, fun _ z6 hz6 z7 hz7 => ?_⟩
      · have h : (0 : Int) ≥ a := of_decide_eq_true h
        omega
      · rw [wrap_c h7 h8] at hz6
        subst hz6
        rw [if_neg (by omega)] at hz7
        subst hz7
        refine ⟨fun h => ?_, fun _ => ⟨lk _ _ rfl, fun h => ?_, fun _ => ⟨fun h z8 hz8 => .inr ?_, fun h => ?_⟩⟩⟩
        · have := of_decide_eq_true h; omega
        · have := of_decide_eq_true h; omega
        · rw [wrap_i hi0 hi2] at hz8
          subst hz8
          exact ⟨(i1 + 1, z5), ⟨by show 0 ≤ i1 + 1; omega, by show i1 + 1 ≤ 200; omega, hd, by show z5 < b; omega⟩, by show (200 - (i1 + 1)).toNat < (200 - i1).toNat; omega, Gc.le ⟨.inr rfl, .inr rfl, .inr rfl, .inl rfl, .inr rfl, .inr rfl, trivial⟩ rfl rfl ⟨rfl, rfl, rfl, rfl, rfl, rfl, trivial⟩ rfl rfl (sc_all _ _ _ rfl) rfl⟩
        · have := of_decide_eq_false h; omega
  · obtain ⟨i, w⟩ := i1
    obtain ⟨hi0, hi2, hw1, hw2⟩ := hi1
    replace hi0 : 0 ≤ i := hi0
    replace hi2 : i ≤ 200 := hi2
    replace hw1 : d ≤ w := hw1
    replace hw2 : w < b := hw2
    have c0 : decide (c ≤ 0) = true → False := by intro h; have := of_decide_eq_true h; omega
    have c1 : decide (c < 0) = true → False := by intro h; have := of_decide_eq_true h; omega
    have c2 : decide (c > 1099511627776) = true → False := by intro h; have := of_decide_eq_true h; omega
    have c3 : decide (c ≤ c) = false → False := by intro h; have := of_decide_eq_false h; omega
    have w1 : decide (w > w) = true → False := by intro h; have := of_decide_eq_true h; omega
    have w2 : decide (w < w) = true → False := by intro h; have := of_decide_eq_true h; omega
    have w3 : (w != w) = true → False := by intro h; simp at h
    refine ⟨fun hlt => ⟨fun h200 => ?_, fun _ => ⟨c1, fun _ => ⟨c2, fun _ => ⟨fun _ => ⟨dlt _ _ _ rfl rfl, fun _ => rfl, fin0⟩, c3⟩⟩⟩⟩, fun _ => ⟨c1, fun _ => ⟨c2, fun _ => ⟨fun _ => ⟨dlt _ _ _ rfl rfl, fun _ => rfl, fin0⟩, c3⟩⟩⟩⟩
    have hlt : i < z2 := of_decide_eq_true hlt
    have h200 : i < 200 := of_decide_eq_true h200
    have hltn : i < (n : Int) := by omega
    have hnat : i.toNat < n := by omega
    refine ⟨⟨_, aIndexAddr_slice u26 s3 hi0 hltn⟩, fun z3 hz => ?_⟩
    obtain rfl := hz3 i z3 hz hi0 hltn
    refine ⟨⟨_, hld _ hnat _ rfl⟩, fun z4 _ => ?_⟩
    refine ⟨fun _ => ⟨c0, fun _ => ⟨lk _ _ rfl, w1, fun _ => ⟨w3, fun _ z5 hz5 => .inr ?_⟩⟩⟩, fun _ => ⟨fun _ => ⟨c0, fun _ => ⟨lk _ _ rfl, w1, fun _ => ⟨w3, fun _ z5 hz5 => .inr ?_⟩⟩⟩, fun _ => ⟨c0, fun _ z5 hz5 => ⟨lk _ _ rfl, fun h6 => ⟨c0, fun _ => ⟨lk _ _ rfl, w1, fun _ => ⟨w2, fun _ z6 hz6 => .inr ?_⟩⟩⟩, fun h6 => ⟨lk _ _ rfl, fun z6 hz6 z7 hz7 => ?_⟩⟩⟩⟩⟩
    · replace hz5 : z5 = IntKind.i64.wrap (i + 1) := hz5
      rw [wrap_i hi0 hi2] at hz5
      subst hz5
      exact ⟨(i + 1, w), ⟨by show 0 ≤ i + 1; omega, by show i + 1 ≤ 200; omega, by show d ≤ w; omega, by show w < b; omega⟩, by show (200 - (i + 1)).toNat < (200 - i).toNat; omega, Gc.le ⟨.inr rfl, .inr rfl, .inr rfl, .inl rfl, .inr rfl, .inr rfl, trivial⟩ rfl rfl ⟨rfl, rfl, rfl, rfl, rfl, rfl, trivial⟩ rfl rfl (sc_all _ _ _ rfl) rfl⟩
    · replace hz5 : z5 = IntKind.i64.wrap (i + 1) := hz5
      rw [wrap_i hi0 hi2] at hz5
      subst hz5
      exact ⟨(i + 1, w), ⟨by show 0 ≤ i + 1; omega, by show i + 1 ≤ 200; omega, by show d ≤ w; omega, by show w < b; omega⟩, by show (200 - (i + 1)).toNat < (200 - i).toNat; omega, Gc.le ⟨.inr rfl, .inr rfl, .inr rfl, .inl rfl, .inr rfl, .inr rfl, trivial⟩ rfl rfl ⟨rfl, rfl, rfl, rfl, rfl, rfl, trivial⟩ rfl rfl (sc_all _ _ _ rfl) rfl⟩
    · replace hz6 : z6 = IntKind.i64.wrap (i + 1) := hz6
      rw [wrap_i hi0 hi2] at hz6
      subst hz6
      exact ⟨(i + 1, w), ⟨by show 0 ≤ i + 1; omega, by show i + 1 ≤ 200; omega, by show d ≤ w; omega, by show w < b; omega⟩, by show (200 - (i + 1)).toNat < (200 - i).toNat; omega, Gc.le ⟨.inr rfl, .inr rfl, .inr rfl, .inl rfl, .inr rfl, .inr rfl, trivial⟩ rfl rfl ⟨rfl, rfl, rfl, rfl, rfl, rfl, trivial⟩ rfl rfl (sc_all _ _ _ rfl) rfl⟩
    · have h6 : ¬ z5 ≥ w := of_decide_eq_false h6
      have hd : d ≤ z5 := by split at hz5 <;> omega
      rw [wrap_c h7 h8] at hz6
      subst hz6
      rw [if_neg (by omega)] at hz7
      subst hz7
      refine ⟨upd _ _ _ _ rfl rfl, c0, fun _ => ⟨lk _ _ rfl, fun h => ?_, fun _ => ⟨fun h z8 hz8 => .inr ?_, fun h => ?_⟩⟩⟩
      · have h : z5 > w := of_decide_eq_true h
        omega
      · replace hz8 : z8 = IntKind.i64.wrap (i + 1) := hz8
        rw [wrap_i hi0 hi2] at hz8
        subst hz8
        exact ⟨(i + 1, z5), ⟨by show 0 ≤ i + 1; omega, by show i + 1 ≤ 200; omega, by show d ≤ z5; omega, by show z5 < b; omega⟩, by show (200 - (i + 1)).toNat < (200 - i).toNat; omega, Gc.le ⟨.inr rfl, .inr rfl, .inr rfl, .inl rfl, .inr rfl, .inr rfl, trivial⟩ rfl rfl ⟨rfl, rfl, rfl, rfl, rfl, rfl, trivial⟩ rfl rfl (sc_all _ _ _ rfl) rfl⟩
      · have h : ¬ z5 < w := of_decide_eq_false h
        omega

end Go.Proofs.Ytheaklgkfagdiaa
