/-
  addr.Parse4: the address of any text, or where it is none. Condition: the text's length is below 2^62.
-/
import Derived.Test.YtopladipgobpjaaDoorBase
import Derived.Test.YtopladipgobpjaaDoorNum
import Derived.Test.YtopladipgobpjaaDoorFmE
namespace Go.Proofs.YtopladipgobpjaaDoor
open Go.Fm
theorem fourG_zero {l : List UInt8} {k q : Nat} (h : (num 255 (l.drop q)).2 = 0) : fourG l (k + 1) q = (none, q) := by rw [fourG, if_pos h]
theorem fourG_stop {l : List UInt8} {k q : Nat} (h : (num 255 (l.drop q)).2 ≠ 0) (h' : ¬ l[q + (num 255 (l.drop q)).2]? = some 46) : fourG l (k + 2) q = (none, q + (num 255 (l.drop q)).2) := by
  rw [fourG, if_neg h, if_neg (by omega), if_neg h']
theorem fourG_next_none {l : List UInt8} {k q n : Nat} (h : (num 255 (l.drop q)).2 ≠ 0) (h' : l[q + (num 255 (l.drop q)).2]? = some 46) (e : fourG l (k + 1) (q + (num 255 (l.drop q)).2 + 1) = (none, n)) : fourG l (k + 2) q = (none, n) := by
  rw [fourG, if_neg h, if_neg (by omega), if_pos h', e]; rfl
theorem fourG_next_some {l : List UInt8} {k q n : Nat} {vs : List Int} (h : (num 255 (l.drop q)).2 ≠ 0) (h' : l[q + (num 255 (l.drop q)).2]? = some 46) (e : fourG l (k + 1) (q + (num 255 (l.drop q)).2 + 1) = (some vs, n)) :
    fourG l (k + 2) q = (some ((num 255 (l.drop q)).1 :: vs), n) := by
  rw [fourG, if_neg h, if_neg (by omega), if_pos h', e]; rfl
theorem fourG_last {l : List UInt8} {q : Nat} (h : (num 255 (l.drop q)).2 ≠ 0) : fourG l 1 q = (some [(num 255 (l.drop q)).1], q + (num 255 (l.drop q)).2) := by
  rw [fourG, if_neg h, if_pos rfl]
theorem numG_bound {m : Int} : ∀ (l : List UInt8) (cnt : Nat) (n : Int), 0 ≤ n → n ≤ m → 0 ≤ (numG m cnt n l).1 ∧ (numG m cnt n l).1 ≤ m ∧ (numG m cnt n l).2 ≤ cnt + l.length
  | [], cnt, n, h0, h1 => ⟨h0, h1, by simp [numG]⟩
  | c :: r, cnt, n, h0, h1 => by
    unfold numG
    split
    · rename_i h
      have hk := okd_iff.1 h
      have := isD_dv hk.1
      obtain ⟨a, b, d⟩ := numG_bound r (cnt + 1) (n * 10 + dv c) (by omega) hk.2.2
      exact ⟨a, b, by simp only [List.length_cons]; omega⟩
    · exact ⟨h0, h1, by simp only; omega⟩
theorem num_bound {m : Int} (l : List UInt8) (n : Int) (h0 : 0 ≤ n) (h1 : n ≤ m) : 0 ≤ (num m l).1 ∧ (num m l).1 ≤ m ∧ (num m l).2 ≤ l.length := by
  have := numG_bound l 0 0 (Int.le_refl 0) (Int.le_trans h0 h1)
  unfold num; rw [Nat.zero_add] at this; exact this
theorem num_len {l : List UInt8} {q : Nat} (_ : l.length < 2 ^ 63) (hq : q ≤ l.length) : (num 255 (l.drop q)).2 + q ≤ l.length := by
  have := (num_bound (m := 255) (l.drop q) 0 (Int.le_refl 0) (by decide)).2.2
  rw [List.length_drop] at this; omega
theorem ne46 {c : UInt8} (h : (((c.toNat : Nat) : Int) != 46) = true) : ¬ (some c = some (46 : UInt8)) := by
  intro e
  have e := Option.some.inj e
  subst e
  exact absurd h (by decide)
theorem eq46 {c : UInt8} (h : (((c.toNat : Nat) : Int) != 46) = false) : c = 46 := by
  have h : ((c.toNat : Nat) : Int) = 46 := by simpa using h
  exact UInt8.toNat.inj (by show _ = 46; omega)
theorem number_at {H : AHeap} {b : Nat} {l : List UInt8} {p : Nat} {m : Int} (hp : p ≤ l.length) (hl : l.length < 2 ^ 63) (hm : m ≤ 999) (hb : H[b]? = some (.cells [.string (bs l), .int .i64 p] false)) (he : H.all noE = true) :
    Fm.Spec Tryd.prog [0, 2, 3] 76 [.pointer (some ⟨b, 0, none⟩), .int .i64 m] H fun r h' =>
      ((num m (l.drop p)).2 = 0 → r = .pan [(.iface 110 (.int .i64 p), false)] ∧ h' = H) ∧
      ((num m (l.drop p)).2 ≠ 0 → r = .ret (.int .i64 (num m (l.drop p)).1) ∧ h' = H.set b (.cells [.string (bs l), .int .i64 ((p + (num m (l.drop p)).2 : Nat) : Int)] false)) := by
  let i : Nat → Option Nat := fun x => if x = 0 then some b else none
  have E : Emb [] i [.cells [.string (bs l), .int .i64 p] false] H := by
    refine ⟨?_, by simp, ?_, ?_⟩
    · intro x y q hx hy
      have hx0 : x = 0 := by
        by_cases h : x = 0
        · exact h
        · simp [i, h] at hx
      have hy0 : y = 0 := by
        by_cases h : y = 0
        · exact h
        · simp [i, h] at hy
      rw [hx0, hy0]
    · intro x q hx
      simp only [i] at hx
      split at hx
      · rename_i h0; subst h0
        injection hx with hx; subst hx
        exact ⟨_, _, rfl, hb, ro_flat rfl⟩
      · cases hx
    · intro q ro hq
      have := List.all_eq_true.1 he _ (List.mem_of_getElem? hq)
      cases this
  refine Spec.mono (Spec.frame (gs' := [0, 2, 3]) (number_spec hp (by omega) hm) E (.cons (.ptr _ _ rfl) (.cons (.int _ _) .nil)) (by simp) ?_) ?_
  · intro r h0' hq
    by_cases hz : (num m (l.drop p)).2 = 0
    · obtain ⟨rfl, rfl⟩ := hq.1 hz; rfl
    · obtain ⟨rfl, rfl⟩ := hq.2 hz; rfl
  · rintro r h' ⟨r0, h0', hq, rfl, rfl⟩
    have hput : ∀ y : Value, (∃ k n, y = .int k n) → putH i 1 [.cells [.string (bs l), y] false] H = H.set b (.cells [.string (bs l), y] false) := by
      rintro y ⟨k, n, rfl⟩
      show putOld i 1 H.length _ H [0] H ++ [] = _
      rw [List.append_nil]
      show H.set b (updO _ 1 H[b]? (some (.cells [.string (bs l), .int k n] false))) = _
      rw [hb]; rfl
    refine ⟨fun hz => ?_, fun hz => ?_⟩
    · obtain ⟨rfl, rfl⟩ := hq.1 hz
      refine ⟨rfl, (hput _ ⟨_, _, rfl⟩).trans ?_⟩
      have hlt : b < H.length := (List.getElem?_eq_some_iff.1 hb).1
      have hv : H[b] = .cells [.string (bs l), .int .i64 p] false := (List.getElem?_eq_some_iff.1 hb).2
      rw [← hv]; exact List.set_getElem_self hlt
    · obtain ⟨rfl, rfl⟩ := hq.2 hz
      exact ⟨rfl, hput _ ⟨_, _, rfl⟩⟩
theorem number_call {H H1 : AHeap} {b : Nat} {l : List UInt8} {x m : Int} {X Y : Prop} (h0 : 0 ≤ x) (h1 : x ≤ l.length) (hl : l.length < 2 ^ 63) (hm : m ≤ 999) (hb : H[b]? = some (.cells [.string (bs l), .int .i64 x] false)) (he : H.all noE = true)
    (hH : H1 = H.set b (.cells [.string (bs l), .int .i64 ((x.toNat + (num m (l.drop x.toNat)).2 : Nat) : Int)] false)) (hX : (num m (l.drop x.toNat)).2 ≠ 0 → X) (hY : (num m (l.drop x.toNat)).2 = 0 → Y) :
    SpecC Tryd.prog [0, 2, 3] (.fn 76) [.pointer (some ⟨b, 0, none⟩), .int .i64 m] H (fun r h' => ((decide (0 < (num m (l.drop x.toNat)).2)) = true → r = ((.ret (.int .i64 (num m (l.drop x.toNat)).1), H1) : Res × AHeap).1 ∧ h' = ((.ret (.int .i64 (num m (l.drop x.toNat)).1), H1) : Res × AHeap).2) ∧
      ((decide (0 < (num m (l.drop x.toNat)).2)) = false → r = ((.pan [(.iface 110 (.int .i64 x), false)], H) : Res × AHeap).1 ∧ h' = ((.pan [(.iface 110 (.int .i64 x), false)], H) : Res × AHeap).2)) ∧
      (((decide (0 < (num m (l.drop x.toNat)).2)) = true → X) ∧ ((decide (0 < (num m (l.drop x.toNat)).2)) = false → Y)) := by
  have ex : ((x.toNat : Nat) : Int) = x := by omega
  refine ⟨.inl (Spec.mono (number_at (p := x.toNat) (by omega) hl hm (by rw [ex]; exact hb) he) ?_), fun h => hX (by have := of_decide_eq_true h; omega), fun h => hY (by have := of_decide_eq_false h; omega)⟩
  rintro r h' ⟨h2, h3⟩
  refine ⟨fun h => ?_, fun h => ?_⟩
  · obtain ⟨a, b⟩ := h3 (by have := of_decide_eq_true h; omega)
    exact ⟨a, b.trans hH.symm⟩
  · obtain ⟨a, b⟩ := h2 (by have := of_decide_eq_false h; omega)
    rw [ex] at a
    exact ⟨a, b⟩
abbrev xqParse4h0 (tp : List Value) (tq : List Value) (tr : List Value) (l : List UInt8) (z15 : Int) (z1 : Int) (z6 : Int) (z11 : Int) : AHeap := [.cells (tp) true, .dead, .cells (tq) true, .cells (tr) true, .tcells [(.int .u8 0), (.int .u8 0), (.int .u8 0), (.int .u8 0)] 23 (some 0), .tcells [(.int .i64 0)] 3 (some 0), .tcells [(.int .i64 0)] 24 (some 0), .cells [(.string (bs (l))), (.int .i64 z15)] false, .tcells [(.int .u8 0), (.int .u8 0), (.int .u8 0), (.int .u8 0)] 23 (some 0), .tcells [(.int .u8 z1), (.int .u8 z6), (.int .u8 z11), (.int .u8 0)] 23 (some 0)]
abbrev xqParse4h1 (tp : List Value) (tq : List Value) (tr : List Value) (l : List UInt8) (z10 : Int) (z1 : Int) (z6 : Int) : AHeap := [.cells (tp) true, .dead, .cells (tq) true, .cells (tr) true, .tcells [(.int .u8 0), (.int .u8 0), (.int .u8 0), (.int .u8 0)] 23 (some 0), .tcells [(.int .i64 0)] 3 (some 0), .tcells [(.int .i64 0)] 24 (some 0), .cells [(.string (bs (l))), (.int .i64 z10)] false, .tcells [(.int .u8 0), (.int .u8 0), (.int .u8 0), (.int .u8 0)] 23 (some 0), .tcells [(.int .u8 z1), (.int .u8 z6), (.int .u8 0), (.int .u8 0)] 23 (some 0)]
abbrev xqParse4h2 (tp : List Value) (tq : List Value) (tr : List Value) (l : List UInt8) (z5 : Int) (z1 : Int) : AHeap := [.cells (tp) true, .dead, .cells (tq) true, .cells (tr) true, .tcells [(.int .u8 0), (.int .u8 0), (.int .u8 0), (.int .u8 0)] 23 (some 0), .tcells [(.int .i64 0)] 3 (some 0), .tcells [(.int .i64 0)] 24 (some 0), .cells [(.string (bs (l))), (.int .i64 z5)] false, .tcells [(.int .u8 0), (.int .u8 0), (.int .u8 0), (.int .u8 0)] 23 (some 0), .tcells [(.int .u8 z1), (.int .u8 0), (.int .u8 0), (.int .u8 0)] 23 (some 0)]
abbrev xqParse4h3 (tp : List Value) (tq : List Value) (tr : List Value) (l : List UInt8) : AHeap := [.cells (tp) true, .dead, .cells (tq) true, .cells (tr) true, .tcells [(.int .u8 0), (.int .u8 0), (.int .u8 0), (.int .u8 0)] 23 (some 0), .tcells [(.int .i64 0)] 3 (some 0), .tcells [(.int .i64 0)] 24 (some 0), .cells [(.string (bs (l))), (.int .i64 0)] false, .tcells [(.int .u8 0), (.int .u8 0), (.int .u8 0), (.int .u8 0)] 23 (some 0), .tcells [(.int .u8 0), (.int .u8 0), (.int .u8 0), (.int .u8 0)] 23 (some 0)]
abbrev xqParse4h4 (tp : List Value) (tq : List Value) (tr : List Value) (l : List UInt8) : AHeap := [.cells (tp) true, .dead, .cells (tq) true, .cells (tr) true, .tcells [(.int .u8 0), (.int .u8 0), (.int .u8 0), (.int .u8 0)] 23 (some 0), .tcells [(.int .i64 0)] 3 (some 0), .tcells [(.int .i64 0)] 24 (some 0), .cells [(.string (bs (l))), (.int .i64 ((((Int.toNat 0 + (num 255 (List.drop (Int.toNat 0) l)).snd) : Nat) : Int)))] false, .tcells [(.int .u8 0), (.int .u8 0), (.int .u8 0), (.int .u8 0)] 23 (some 0), .tcells [(.int .u8 0), (.int .u8 0), (.int .u8 0), (.int .u8 0)] 23 (some 0)]
abbrev xqParse4h5 (tp : List Value) (tq : List Value) (tr : List Value) (l : List UInt8) (z15 : Int) (z1 : Int) (z6 : Int) (z11 : Int) : AHeap := [.cells (tp) true, .dead, .cells (tq) true, .cells (tr) true, .tcells [(.int .u8 0), (.int .u8 0), (.int .u8 0), (.int .u8 0)] 23 (some 0), .tcells [(.int .i64 0)] 3 (some 0), .tcells [(.int .i64 0)] 24 (some 0), .cells [(.string (bs (l))), (.int .i64 ((((z15.toNat + (num 255 (List.drop z15.toNat l)).snd) : Nat) : Int)))] false, .tcells [(.int .u8 0), (.int .u8 0), (.int .u8 0), (.int .u8 0)] 23 (some 0), .tcells [(.int .u8 z1), (.int .u8 z6), (.int .u8 z11), (.int .u8 0)] 23 (some 0)]
abbrev xqParse4h6 (tp : List Value) (tq : List Value) (tr : List Value) (l : List UInt8) (z10 : Int) (z1 : Int) (z6 : Int) : AHeap := [.cells (tp) true, .dead, .cells (tq) true, .cells (tr) true, .tcells [(.int .u8 0), (.int .u8 0), (.int .u8 0), (.int .u8 0)] 23 (some 0), .tcells [(.int .i64 0)] 3 (some 0), .tcells [(.int .i64 0)] 24 (some 0), .cells [(.string (bs (l))), (.int .i64 ((((z10.toNat + (num 255 (List.drop z10.toNat l)).snd) : Nat) : Int)))] false, .tcells [(.int .u8 0), (.int .u8 0), (.int .u8 0), (.int .u8 0)] 23 (some 0), .tcells [(.int .u8 z1), (.int .u8 z6), (.int .u8 0), (.int .u8 0)] 23 (some 0)]
abbrev xqParse4h7 (tp : List Value) (tq : List Value) (tr : List Value) (l : List UInt8) (z5 : Int) (z1 : Int) : AHeap := [.cells (tp) true, .dead, .cells (tq) true, .cells (tr) true, .tcells [(.int .u8 0), (.int .u8 0), (.int .u8 0), (.int .u8 0)] 23 (some 0), .tcells [(.int .i64 0)] 3 (some 0), .tcells [(.int .i64 0)] 24 (some 0), .cells [(.string (bs (l))), (.int .i64 ((((z5.toNat + (num 255 (List.drop z5.toNat l)).snd) : Nat) : Int)))] false, .tcells [(.int .u8 0), (.int .u8 0), (.int .u8 0), (.int .u8 0)] 23 (some 0), .tcells [(.int .u8 z1), (.int .u8 0), (.int .u8 0), (.int .u8 0)] 23 (some 0)]
abbrev xqParse4f0 (l : List UInt8) (Q : Res →
 Prop) (z10 : Int) (z12 : Int) : Prop := (decide ((((z10.toNat + (num 255 (List.drop z10.toNat l)).snd) : Nat) : Int) < z12)) = false →
 Q (.ret (.tuple ⟨[(.agg ⟨[(.int .u8 0), (.int .u8 0), (.int .u8 0), (.int .u8 0)]⟩), (.int .i64 ((((z10.toNat + (num 255 (List.drop z10.toNat l)).snd) : Nat) : Int))), (.int .i64 20)]⟩))
abbrev xqParse4f1 (l : List UInt8) (Q : Res →
 Prop) (z5 : Int) (z9 : Int) : Prop := (decide ((((z5.toNat + (num 255 (List.drop z5.toNat l)).snd) : Nat) : Int) ≥ z9)) = true →
 Q (.ret (.tuple ⟨[(.agg ⟨[(.int .u8 0), (.int .u8 0), (.int .u8 0), (.int .u8 0)]⟩), (.int .i64 ((((z5.toNat + (num 255 (List.drop z5.toNat l)).snd) : Nat) : Int))), (.int .i64 20)]⟩))
theorem run_parse4 (tp tq tr : List Value) (l : List UInt8) (Q : Res → Prop) : ((SpecC Tryd.prog [0, 2, 3] (.fn 76) [(.pointer (some ⟨7, 0, none⟩)), (.int .i64 255)] (xqParse4h3 tp tq tr l) (fun r h' => ((decide (0 < (num 255 (List.drop (Int.toNat 0) l)).snd)) = true →
 r = (((.ret (.int .i64 ((num 255 (List.drop (Int.toNat 0) l)).fst))), ((xqParse4h4 tp tq tr l) : AHeap)) : Res × AHeap).1 ∧
 h' = (((.ret (.int .i64 ((num 255 (List.drop (Int.toNat 0) l)).fst))), ((xqParse4h4 tp tq tr l) : AHeap)) : Res × AHeap).2) ∧
((decide (0 < (num 255 (List.drop (Int.toNat 0) l)).snd)) = false →
 r = (((.pan [((.iface 110 (.int .i64 0)), false)]), ((xqParse4h3 tp tq tr l) : AHeap)) : Res × AHeap).1 ∧
 h' = (((.pan [((.iface 110 (.int .i64 0)), false)]), ((xqParse4h3 tp tq tr l) : AHeap)) : Res × AHeap).2)) ∧
(((decide (0 < (num 255 (List.drop (Int.toNat 0) l)).snd)) = true →
∀ z1 : Int, z1 = (IntKind.u8.wrap (num 255 (List.drop (Int.toNat 0) l)).fst) →
∀ z2 : Int, z2 = ((((bs l).size : Nat) : Int)) →
(((decide ((((Int.toNat 0 + (num 255 (List.drop (Int.toNat 0) l)).snd) : Nat) : Int) < z2)) = true →
((∃ z3 : Int, aIndex Tryd.prog 9 (.string (bs (l))) (.int .i64 ((((Int.toNat 0 + (num 255 (List.drop (Int.toNat 0) l)).snd) : Nat) : Int))) = some (.int .u8 z3)) ∧
∀ z3 : Int, aIndex Tryd.prog 9 (.string (bs (l))) (.int .i64 ((((Int.toNat 0 + (num 255 (List.drop (Int.toNat 0) l)).snd) : Nat) : Int))) = some (.int .u8 z3) →
(((z3 != 46) = true →
 Q (.ret (.tuple ⟨[(.agg ⟨[(.int .u8 0), (.int .u8 0), (.int .u8 0), (.int .u8 0)]⟩), (.int .i64 ((((Int.toNat 0 + (num 255 (List.drop (Int.toNat 0) l)).snd) : Nat) : Int))), (.int .i64 20)]⟩))) ∧
((z3 != 46) = false →
∀ z4 : Int, z4 = ((((bs l).size : Nat) : Int)) →
(((decide ((((Int.toNat 0 + (num 255 (List.drop (Int.toNat 0) l)).snd) : Nat) : Int) ≥ z4)) = true →
 Q (.ret (.tuple ⟨[(.agg ⟨[(.int .u8 0), (.int .u8 0), (.int .u8 0), (.int .u8 0)]⟩), (.int .i64 ((((Int.toNat 0 + (num 255 (List.drop (Int.toNat 0) l)).snd) : Nat) : Int))), (.int .i64 20)]⟩))) ∧
((decide ((((Int.toNat 0 + (num 255 (List.drop (Int.toNat 0) l)).snd) : Nat) : Int) ≥ z4)) = false →
∀ z5 : Int, z5 = (IntKind.i64.wrap ((((Int.toNat 0 + (num 255 (List.drop (Int.toNat 0) l)).snd) : Nat) : Int) + 1)) →
(SpecC Tryd.prog [0, 2, 3] (.fn 76) [(.pointer (some ⟨7, 0, none⟩)), (.int .i64 255)] (xqParse4h2 tp tq tr l z5 z1) (fun r h' => ((decide (0 < (num 255 (List.drop z5.toNat l)).snd)) = true →
 r = (((.ret (.int .i64 ((num 255 (List.drop z5.toNat l)).fst))), ((xqParse4h7 tp tq tr l z5 z1) : AHeap)) : Res × AHeap).1 ∧
 h' = (((.ret (.int .i64 ((num 255 (List.drop z5.toNat l)).fst))), ((xqParse4h7 tp tq tr l z5 z1) : AHeap)) : Res × AHeap).2) ∧
((decide (0 < (num 255 (List.drop z5.toNat l)).snd)) = false →
 r = (((.pan [((.iface 110 (.int .i64 z5)), false)]), ((xqParse4h2 tp tq tr l z5 z1) : AHeap)) : Res × AHeap).1 ∧
 h' = (((.pan [((.iface 110 (.int .i64 z5)), false)]), ((xqParse4h2 tp tq tr l z5 z1) : AHeap)) : Res × AHeap).2)) ∧
(((decide (0 < (num 255 (List.drop z5.toNat l)).snd)) = true →
∀ z6 : Int, z6 = (IntKind.u8.wrap (num 255 (List.drop z5.toNat l)).fst) →
∀ z7 : Int, z7 = ((((bs l).size : Nat) : Int)) →
(((decide ((((z5.toNat + (num 255 (List.drop z5.toNat l)).snd) : Nat) : Int) < z7)) = true →
((∃ z8 : Int, aIndex Tryd.prog 9 (.string (bs (l))) (.int .i64 ((((z5.toNat + (num 255 (List.drop z5.toNat l)).snd) : Nat) : Int))) = some (.int .u8 z8)) ∧
∀ z8 : Int, aIndex Tryd.prog 9 (.string (bs (l))) (.int .i64 ((((z5.toNat + (num 255 (List.drop z5.toNat l)).snd) : Nat) : Int))) = some (.int .u8 z8) →
(((z8 != 46) = true →
 Q (.ret (.tuple ⟨[(.agg ⟨[(.int .u8 0), (.int .u8 0), (.int .u8 0), (.int .u8 0)]⟩), (.int .i64 ((((z5.toNat + (num 255 (List.drop z5.toNat l)).snd) : Nat) : Int))), (.int .i64 20)]⟩))) ∧
((z8 != 46) = false →
∀ z9 : Int, z9 = ((((bs l).size : Nat) : Int)) →
(((xqParse4f1 l Q z5 z9)) ∧
((decide ((((z5.toNat + (num 255 (List.drop z5.toNat l)).snd) : Nat) : Int) ≥ z9)) = false →
∀ z10 : Int, z10 = (IntKind.i64.wrap ((((z5.toNat + (num 255 (List.drop z5.toNat l)).snd) : Nat) : Int) + 1)) →
(SpecC Tryd.prog [0, 2, 3] (.fn 76) [(.pointer (some ⟨7, 0, none⟩)), (.int .i64 255)] (xqParse4h1 tp tq tr l z10 z1 z6) (fun r h' => ((decide (0 < (num 255 (List.drop z10.toNat l)).snd)) = true →
 r = (((.ret (.int .i64 ((num 255 (List.drop z10.toNat l)).fst))), ((xqParse4h6 tp tq tr l z10 z1 z6) : AHeap)) : Res × AHeap).1 ∧
 h' = (((.ret (.int .i64 ((num 255 (List.drop z10.toNat l)).fst))), ((xqParse4h6 tp tq tr l z10 z1 z6) : AHeap)) : Res × AHeap).2) ∧
((decide (0 < (num 255 (List.drop z10.toNat l)).snd)) = false →
 r = (((.pan [((.iface 110 (.int .i64 z10)), false)]), ((xqParse4h1 tp tq tr l z10 z1 z6) : AHeap)) : Res × AHeap).1 ∧
 h' = (((.pan [((.iface 110 (.int .i64 z10)), false)]), ((xqParse4h1 tp tq tr l z10 z1 z6) : AHeap)) : Res × AHeap).2)) ∧
(((decide (0 < (num 255 (List.drop z10.toNat l)).snd)) = true →
∀ z11 : Int, z11 = (IntKind.u8.wrap (num 255 (List.drop z10.toNat l)).fst) →
∀ z12 : Int, z12 = ((((bs l).size : Nat) : Int)) →
(((decide ((((z10.toNat + (num 255 (List.drop z10.toNat l)).snd) : Nat) : Int) < z12)) = true →
((∃ z13 : Int, aIndex Tryd.prog 9 (.string (bs (l))) (.int .i64 ((((z10.toNat + (num 255 (List.drop z10.toNat l)).snd) : Nat) : Int))) = some (.int .u8 z13)) ∧
∀ z13 : Int, aIndex Tryd.prog 9 (.string (bs (l))) (.int .i64 ((((z10.toNat + (num 255 (List.drop z10.toNat l)).snd) : Nat) : Int))) = some (.int .u8 z13) →
(((z13 != 46) = true →
 Q (.ret (.tuple ⟨[(.agg ⟨[(.int .u8 0), (.int .u8 0), (.int .u8 0), (.int .u8 0)]⟩), (.int .i64 ((((z10.toNat + (num 255 (List.drop z10.toNat l)).snd) : Nat) : Int))), (.int .i64 20)]⟩))) ∧
((z13 != 46) = false →
∀ z14 : Int, z14 = ((((bs l).size : Nat) : Int)) →
(((xqParse4f1 l Q z10 z14)) ∧
((decide ((((z10.toNat + (num 255 (List.drop z10.toNat l)).snd) : Nat) : Int) ≥ z14)) = false →
∀ z15 : Int, z15 = (IntKind.i64.wrap ((((z10.toNat + (num 255 (List.drop z10.toNat l)).snd) : Nat) : Int) + 1)) →
(SpecC Tryd.prog [0, 2, 3] (.fn 76) [(.pointer (some ⟨7, 0, none⟩)), (.int .i64 255)] (xqParse4h0 tp tq tr l z15 z1 z6 z11) (fun r h' => ((decide (0 < (num 255 (List.drop z15.toNat l)).snd)) = true →
 r = (((.ret (.int .i64 ((num 255 (List.drop z15.toNat l)).fst))), ((xqParse4h5 tp tq tr l z15 z1 z6 z11) : AHeap)) : Res × AHeap).1 ∧
 h' = (((.ret (.int .i64 ((num 255 (List.drop z15.toNat l)).fst))), ((xqParse4h5 tp tq tr l z15 z1 z6 z11) : AHeap)) : Res × AHeap).2) ∧
((decide (0 < (num 255 (List.drop z15.toNat l)).snd)) = false →
 r = (((.pan [((.iface 110 (.int .i64 z15)), false)]), ((xqParse4h0 tp tq tr l z15 z1 z6 z11) : AHeap)) : Res × AHeap).1 ∧
 h' = (((.pan [((.iface 110 (.int .i64 z15)), false)]), ((xqParse4h0 tp tq tr l z15 z1 z6 z11) : AHeap)) : Res × AHeap).2)) ∧
(((decide (0 < (num 255 (List.drop z15.toNat l)).snd)) = true →
∀ z16 : Int, z16 = (IntKind.u8.wrap (num 255 (List.drop z15.toNat l)).fst) →
∀ z17 : Int, z17 = ((((bs l).size : Nat) : Int)) →
(((decide ((((z15.toNat + (num 255 (List.drop z15.toNat l)).snd) : Nat) : Int) < z17)) = true →
 Q (.ret (.tuple ⟨[(.agg ⟨[(.int .u8 0), (.int .u8 0), (.int .u8 0), (.int .u8 0)]⟩), (.int .i64 ((((z15.toNat + (num 255 (List.drop z15.toNat l)).snd) : Nat) : Int))), (.int .i64 20)]⟩))) ∧
((decide ((((z15.toNat + (num 255 (List.drop z15.toNat l)).snd) : Nat) : Int) < z17)) = false →
 Q (.ret (.tuple ⟨[(.agg ⟨[(.int .u8 z1), (.int .u8 z6), (.int .u8 z11), (.int .u8 z16)]⟩), (.int .i64 0), (.int .i64 0)]⟩))))) ∧
((decide (0 < (num 255 (List.drop z15.toNat l)).snd)) = false →
 Q (.ret (.tuple ⟨[(.agg ⟨[(.int .u8 0), (.int .u8 0), (.int .u8 0), (.int .u8 0)]⟩), (.int .i64 z15), (.int .i64 20)]⟩))))))))))) ∧
((xqParse4f0 l Q z10 z12)))) ∧
((decide (0 < (num 255 (List.drop z10.toNat l)).snd)) = false →
 Q (.ret (.tuple ⟨[(.agg ⟨[(.int .u8 0), (.int .u8 0), (.int .u8 0), (.int .u8 0)]⟩), (.int .i64 z10), (.int .i64 20)]⟩))))))))))) ∧
((xqParse4f0 l Q z5 z7)))) ∧
((decide (0 < (num 255 (List.drop z5.toNat l)).snd)) = false →
 Q (.ret (.tuple ⟨[(.agg ⟨[(.int .u8 0), (.int .u8 0), (.int .u8 0), (.int .u8 0)]⟩), (.int .i64 z5), (.int .i64 20)]⟩))))))))))) ∧
((decide ((((Int.toNat 0 + (num 255 (List.drop (Int.toNat 0) l)).snd) : Nat) : Int) < z2)) = false →
 Q (.ret (.tuple ⟨[(.agg ⟨[(.int .u8 0), (.int .u8 0), (.int .u8 0), (.int .u8 0)]⟩), (.int .i64 ((((Int.toNat 0 + (num 255 (List.drop (Int.toNat 0) l)).snd) : Nat) : Int))), (.int .i64 20)]⟩))))) ∧
((decide (0 < (num 255 (List.drop (Int.toNat 0) l)).snd)) = false →
 Q (.ret (.tuple ⟨[(.agg ⟨[(.int .u8 0), (.int .u8 0), (.int .u8 0), (.int .u8 0)]⟩), (.int .i64 0), (.int .i64 20)]⟩)))))) =
    runS Tryd.prog [0, 2, 3] false [76] 1000 (SpecC Tryd.prog [0, 2, 3]) 20 13 [.string (bs l)] [.cells tp true, .dead, .cells tq true, .cells tr true] .norm (.skip 23 (.call2 (decide (0 < (num 255 (List.drop (Int.toNat 0) l)).snd)) ((.ret (.int .i64 ((num 255 (List.drop (Int.toNat 0) l)).fst))), ((xqParse4h4 tp tq tr l) : AHeap)) ((.pan [((.iface 110 (.int .i64 0)), false)]), ((xqParse4h3 tp tq tr l) : AHeap)) (.skip 0 (.all (fun z1 => .skip 25 (.all (fun _z2 => .skip 0 (.ask (.skip 9 (.gen (Int) (fun x => .int .u8 x) fun _z3 => .skip 1 (.ask (.go) (.skip 18 (.all (fun _z4 => .skip 1 (.ask (.go) (.skip 6 (.all (fun z5 => .skip 5 (.call2 (decide (0 < (num 255 (List.drop z5.toNat l)).snd)) ((.ret (.int .i64 ((num 255 (List.drop z5.toNat l)).fst))), ((xqParse4h7 tp tq tr l z5 z1) : AHeap)) ((.pan [((.iface 110 (.int .i64 z5)), false)]), ((xqParse4h2 tp tq tr l z5 z1) : AHeap)) (.skip 0 (.all (fun z6 => .skip 25 (.all (fun _z7 => .skip 0 (.ask (.skip 9 (.gen (Int) (fun x => .int .u8 x) fun _z8 => .skip 1 (.ask (.go) (.skip 18 (.all (fun _z9 => .skip 1 (.ask (.go) (.skip 6 (.all (fun z10 => .skip 5 (.call2 (decide (0 < (num 255 (List.drop z10.toNat l)).snd)) ((.ret (.int .i64 ((num 255 (List.drop z10.toNat l)).fst))), ((xqParse4h6 tp tq tr l z10 z1 z6) : AHeap)) ((.pan [((.iface 110 (.int .i64 z10)), false)]), ((xqParse4h1 tp tq tr l z10 z1 z6) : AHeap)) (.skip 0 (.all (fun z11 => .skip 25 (.all (fun _z12 => .skip 0 (.ask (.skip 9 (.gen (Int) (fun x => .int .u8 x) fun _z13 => .skip 1 (.ask (.go) (.skip 18 (.all (fun _z14 => .skip 1 (.ask (.go) (.skip 6 (.all (fun z15 => .skip 5 (.call2 (decide (0 < (num 255 (List.drop z15.toNat l)).snd)) ((.ret (.int .i64 ((num 255 (List.drop z15.toNat l)).fst))), ((xqParse4h5 tp tq tr l z15 z1 z6 z11) : AHeap)) ((.pan [((.iface 110 (.int .i64 z15)), false)]), ((xqParse4h0 tp tq tr l z15 z1 z6 z11) : AHeap)) (.skip 0 (.all (fun _z16 => .skip 19 (.all (fun _z17 => .skip 0 (.ask (.go) (.go))))))) (.go)))))))))))) (.go))))))) (.go)))))))))))) (.go))))))) (.go)))))))))))) (.go))))))) (.go))) (fun r _ _ _ => Q r) := by kernel_rfl
set_option maxRecDepth 20000 in
theorem parse4_spec {l : List UInt8} (hl : l.length < 2 ^ 63) : Fm.Spec Tryd.prog [0, 2, 3] 13 [.string (bs l)] gh fun r _ => r = .ret (p4V l) := by
  refine spec_of_script Tryd.mixed (Eq.mp (run_parse4 pow10 tab32 tab64 l fun r => r = .ret (p4V l)) ?_)
  dsimp only [xqParse4h3, xqParse4h4, xqParse4h2, xqParse4h7, xqParse4f1, xqParse4h1, xqParse4h6, xqParse4h0, xqParse4h5, xqParse4f0]
  have leaf : ∀ {n : Nat} {x : Int}, fourG l 4 0 = (none, n) → x = n → Res.ret (.tuple ⟨[(.agg ⟨[(.int .u8 0), (.int .u8 0), (.int .u8 0), (.int .u8 0)]⟩), (.int .i64 x), (.int .i64 20)]⟩) = .ret (p4V l) := by
    rintro n x hf rfl
    have hp := p4_prog l
    rw [hf] at hp
    unfold p4V; rw [← hp]
  have up0 : ∀ n, fourG l 4 (Int.toNat 0) = (none, n) → fourG l 4 0 = (none, n) := fun _ h => h
  have ok0 : ∀ vs n, fourG l 4 (Int.toNat 0) = (some vs, n) → fourG l 4 0 = (some vs, n) := fun _ _ h => h
  have b0 := num_bound (m := 255) (l.drop (Int.toNat 0)) 0 (Int.le_refl 0) (by decide)
  have w0 : (num 255 (l.drop (Int.toNat 0))).2 + (Int.toNat 0) ≤ l.length := num_len hl (by simp)
  refine number_call (Int.le_refl 0) (by omega) hl (by decide) rfl rfl rfl (fun c0 => ?_) (fun c0 => leaf (up0 _ (fourG_zero c0)) (rfl))
  intro v0 hv0
  rw [wrap8 b0.1 (by omega)] at hv0
  intro z hz
  have hz : z = ((l.length : Nat) : Int) := hz
  subst hz
  refine ⟨fun hd => ?_, fun hd => leaf (up0 _ (fourG_stop c0 (by rw [List.getElem?_eq_none (by have := of_decide_eq_false hd; omega)]; simp))) rfl⟩
  have hd := of_decide_eq_true hd
  have hlt : ((Int.toNat 0) + (num 255 (l.drop (Int.toNat 0))).2) < l.length := by omega
  refine gen_step (aIndex_bs (l := l) (i := ((((Int.toNat 0) + (num 255 (l.drop (Int.toNat 0))).2) : Nat) : Int)) xu9 (by omega) (by omega)) ?_
  rw [Int.toNat_natCast]
  have g0 : l[((Int.toNat 0) + (num 255 (l.drop (Int.toNat 0))).2)]? = some (l.getD ((Int.toNat 0) + (num 255 (l.drop (Int.toNat 0))).2) 0) := by rw [List.getD_eq_getElem?_getD, List.getElem?_eq_getElem hlt]; rfl
  refine ⟨fun hne => leaf (up0 _ (fourG_stop c0 (by rw [g0]; exact ne46 hne))) rfl, fun hne => ?_⟩
  have hne := eq46 hne
  rw [hne] at g0
  intro z hz
  have hz : z = ((l.length : Nat) : Int) := hz
  subst hz
  refine ⟨fun hd => by have := of_decide_eq_true hd; omega, fun _ => ?_⟩
  intro x1 hx
  have hx : x1 = IntKind.i64.wrap (((((Int.toNat 0) + (num 255 (l.drop (Int.toNat 0))).2) : Nat) : Int) + 1) := hx
  rw [wrap62 (by omega) (by omega)] at hx
  have t1 : x1.toNat = ((Int.toNat 0) + (num 255 (l.drop (Int.toNat 0))).2) + 1 := by omega
  have up1 : ∀ n, fourG l 3 x1.toNat = (none, n) → fourG l 4 0 = (none, n) := fun n h => up0 n (fourG_next_none c0 g0 (by rw [← t1]; exact h))
  have ok1 : ∀ vs n, fourG l 3 x1.toNat = (some vs, n) → fourG l 4 0 = (some (v0 :: vs), n) := fun vs n h => ok0 _ n (by rw [hv0]; exact fourG_next_some c0 g0 (by rw [← t1]; exact h))
  clear hne hd hx
  have b1 := num_bound (m := 255) (l.drop x1.toNat) 0 (Int.le_refl 0) (by decide)
  have w1 : (num 255 (l.drop x1.toNat)).2 + x1.toNat ≤ l.length := num_len hl (by omega)
  refine number_call (by omega) (by omega) hl (by decide) rfl rfl rfl (fun c1 => ?_) (fun c1 => leaf (up1 _ (fourG_zero c1)) (by omega))
  intro v1 hv1
  rw [wrap8 b1.1 (by omega)] at hv1
  intro z hz
  have hz : z = ((l.length : Nat) : Int) := hz
  subst hz
  refine ⟨fun hd => ?_, fun hd => leaf (up1 _ (fourG_stop c1 (by rw [List.getElem?_eq_none (by have := of_decide_eq_false hd; omega)]; simp))) rfl⟩
  have hd := of_decide_eq_true hd
  have hlt : (x1.toNat + (num 255 (l.drop x1.toNat)).2) < l.length := by omega
  refine gen_step (aIndex_bs (l := l) (i := (((x1.toNat + (num 255 (l.drop x1.toNat)).2) : Nat) : Int)) xu9 (by omega) (by omega)) ?_
  rw [Int.toNat_natCast]
  have g1 : l[(x1.toNat + (num 255 (l.drop x1.toNat)).2)]? = some (l.getD (x1.toNat + (num 255 (l.drop x1.toNat)).2) 0) := by rw [List.getD_eq_getElem?_getD, List.getElem?_eq_getElem hlt]; rfl
  refine ⟨fun hne => leaf (up1 _ (fourG_stop c1 (by rw [g1]; exact ne46 hne))) rfl, fun hne => ?_⟩
  have hne := eq46 hne
  rw [hne] at g1
  intro z hz
  have hz : z = ((l.length : Nat) : Int) := hz
  subst hz
  refine ⟨fun hd => by have := of_decide_eq_true hd; omega, fun _ => ?_⟩
  intro x2 hx
  have hx : x2 = IntKind.i64.wrap ((((x1.toNat + (num 255 (l.drop x1.toNat)).2) : Nat) : Int) + 1) := hx
  rw [wrap62 (by omega) (by omega)] at hx
  have t2 : x2.toNat = (x1.toNat + (num 255 (l.drop x1.toNat)).2) + 1 := by omega
  have up2 : ∀ n, fourG l 2 x2.toNat = (none, n) → fourG l 4 0 = (none, n) := fun n h => up1 n (fourG_next_none c1 g1 (by rw [← t2]; exact h))
  have ok2 : ∀ vs n, fourG l 2 x2.toNat = (some vs, n) → fourG l 4 0 = (some (v0 :: v1 :: vs), n) := fun vs n h => ok1 _ n (by rw [hv1]; exact fourG_next_some c1 g1 (by rw [← t2]; exact h))
  clear hne hd hx
  have b2 := num_bound (m := 255) (l.drop x2.toNat) 0 (Int.le_refl 0) (by decide)
  have w2 : (num 255 (l.drop x2.toNat)).2 + x2.toNat ≤ l.length := num_len hl (by omega)
  refine number_call (by omega) (by omega) hl (by decide) rfl rfl rfl (fun c2 => ?_) (fun c2 => leaf (up2 _ (fourG_zero c2)) (by omega))
  intro v2 hv2
  rw [wrap8 b2.1 (by omega)] at hv2
  intro z hz
  have hz : z = ((l.length : Nat) : Int) := hz
  subst hz
  refine ⟨fun hd => ?_, fun hd => leaf (up2 _ (fourG_stop c2 (by rw [List.getElem?_eq_none (by have := of_decide_eq_false hd; omega)]; simp))) rfl⟩
  have hd := of_decide_eq_true hd
  have hlt : (x2.toNat + (num 255 (l.drop x2.toNat)).2) < l.length := by omega
  refine gen_step (aIndex_bs (l := l) (i := (((x2.toNat + (num 255 (l.drop x2.toNat)).2) : Nat) : Int)) xu9 (by omega) (by omega)) ?_
  rw [Int.toNat_natCast]
  have g2 : l[(x2.toNat + (num 255 (l.drop x2.toNat)).2)]? = some (l.getD (x2.toNat + (num 255 (l.drop x2.toNat)).2) 0) := by rw [List.getD_eq_getElem?_getD, List.getElem?_eq_getElem hlt]; rfl
  refine ⟨fun hne => leaf (up2 _ (fourG_stop c2 (by rw [g2]; exact ne46 hne))) rfl, fun hne => ?_⟩
  have hne := eq46 hne
  rw [hne] at g2
  intro z hz
  have hz : z = ((l.length : Nat) : Int) := hz
  subst hz
  refine ⟨fun hd => by have := of_decide_eq_true hd; omega, fun _ => ?_⟩
  intro x3 hx
  have hx : x3 = IntKind.i64.wrap ((((x2.toNat + (num 255 (l.drop x2.toNat)).2) : Nat) : Int) + 1) := hx
  rw [wrap62 (by omega) (by omega)] at hx
  have t3 : x3.toNat = (x2.toNat + (num 255 (l.drop x2.toNat)).2) + 1 := by omega
  have up3 : ∀ n, fourG l 1 x3.toNat = (none, n) → fourG l 4 0 = (none, n) := fun n h => up2 n (fourG_next_none c2 g2 (by rw [← t3]; exact h))
  have ok3 : ∀ vs n, fourG l 1 x3.toNat = (some vs, n) → fourG l 4 0 = (some (v0 :: v1 :: v2 :: vs), n) := fun vs n h => ok2 _ n (by rw [hv2]; exact fourG_next_some c2 g2 (by rw [← t3]; exact h))
  clear hne hd hx
  have b3 := num_bound (m := 255) (l.drop x3.toNat) 0 (Int.le_refl 0) (by decide)
  have w3 : (num 255 (l.drop x3.toNat)).2 + x3.toNat ≤ l.length := num_len hl (by omega)
  refine number_call (by omega) (by omega) hl (by decide) rfl rfl rfl (fun c3 => ?_) (fun c3 => leaf (up3 _ (fourG_zero c3)) (by omega))
  intro v3 hv3
  rw [wrap8 b3.1 (by omega)] at hv3
  intro z hz
  have hz : z = ((l.length : Nat) : Int) := hz
  subst hz
  have hf := ok3 _ _ (fourG_last c3)
  rw [← hv3] at hf
  have hp := p4_prog l
  rw [hf] at hp
  refine ⟨fun hd => ?_, fun hd => ?_⟩
  · have hd := of_decide_eq_true hd
    have hp : (if (x3.toNat + (num 255 (l.drop x3.toNat)).2) < l.length then ((none : Option (List Int)), (x3.toNat + (num 255 (l.drop x3.toNat)).2)) else (some [v0, v1, v2, v3], 0)) = p4R l := hp
    rw [if_pos (by omega)] at hp
    show _ = Res.ret (p4V l)
    unfold p4V; rw [← hp]
  · have hd := of_decide_eq_false hd
    have hp : (if (x3.toNat + (num 255 (l.drop x3.toNat)).2) < l.length then ((none : Option (List Int)), (x3.toNat + (num 255 (l.drop x3.toNat)).2)) else (some [v0, v1, v2, v3], 0)) = p4R l := hp
    rw [if_neg (by omega)] at hp
    show _ = Res.ret (p4V l)
    unfold p4V; rw [← hp]
end Go.Proofs.YtopladipgobpjaaDoor
