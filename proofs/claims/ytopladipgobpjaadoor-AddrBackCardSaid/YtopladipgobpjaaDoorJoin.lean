/-
  strings.Join of four strings of one to three bytes: its contract. No condition but the lengths.
-/
import Derived.Test.YtopladipgobpjaaDoorJoinR
namespace Go.Proofs.YtopladipgobpjaaDoor
open Go.Fm
theorem us_j {m n : Nat} {x : Int} {y0 y1 y2 y3 : Int} {l0 l1 l2 l3 o : List UInt8} (hn : n = o.length) (hx : x = (n : Int)) (h0 : 0 < n) (h1 : n ≤ 1000) :
    aUnsafeString Tryd.prog 124 (.pointer (some ⟨14, 0, none⟩)) (.int .i64 x) (jb m y0 y1 y2 y3 l0 l1 l2 l3 ++ [.tcells (bc o) 5 (some 0)]) = some (.string (bs o), jb m y0 y1 y2 y3 l0 l1 l2 l3 ++ [.tcells (bc o) 5 (some n)]) := by
  subst hx hn
  have := us_all (h := jb m y0 y1 y2 y3 l0 l1 l2 l3 ++ [.tcells (bc o) 5 (some 0)]) (b := 14) (l := o) (z := 0) rfl h0 h1
  rw [this]
  have e : (jb m y0 y1 y2 y3 l0 l1 l2 l3 ++ [AObj.tcells (bc o) 5 (some 0)]).set 14 (.tcells (bc o) 5 (some (Nat.max 0 o.length))) = jb m y0 y1 y2 y3 l0 l1 l2 l3 ++ [.tcells (bc o) 5 (some (Nat.max 0 o.length))] := rfl
  rw [e, show Nat.max 0 o.length = o.length from Nat.zero_max _]
theorem spec_of_eq {T : Prop} {fg : Bool} {kn gs : List Nat} {lf m : Nat} {f : FuncId} {args : List Value} {h : AHeap} {c : Scr} {Q : Res → AHeap → Prop}
    (e : T = runS Tryd.prog gs fg kn lf (SpecC Tryd.prog gs) m f args h .norm c (fun r _ h _ => Q r h)) (t : T) : Fm.Spec Tryd.prog gs f args h Q := spec_of_script Tryd.mixed (Eq.mp e t)
def jpost (y0 y1 y2 y3 : Int) (l0 l1 l2 l3 : List UInt8) (r : Res) (h' : AHeap) : Prop := h'.take 13 = jh y0 y1 y2 y3 l0 l1 l2 l3 ∧ r = .ret (.string (bs (l0 ++ [46] ++ l1 ++ [46] ++ l2 ++ [46] ++ l3)))
theorem short {l : List UInt8} (h0 : l ≠ []) (h1 : l.length ≤ 3) : (∃ a, l = [a]) ∨ (∃ a b, l = [a, b]) ∨ (∃ a b c, l = [a, b, c]) := by
  match l, h0, h1 with
  | [a], _, _ => exact .inl ⟨a, rfl⟩
  | [a, b], _, _ => exact .inr (.inl ⟨a, b, rfl⟩)
  | [a, b, c], _, _ => exact .inr (.inr ⟨a, b, c, rfl⟩)
  | _ :: _ :: _ :: _ :: _, _, h => simp only [List.length_cons] at h; omega
theorem join_spec {y0 y1 y2 y3 : Int} {l0 l1 l2 l3 : List UInt8} (h0 : l0 ≠ []) (k0 : l0.length ≤ 3) (h1 : l1 ≠ []) (k1 : l1.length ≤ 3) (h2 : l2 ≠ []) (k2 : l2.length ≤ 3) (h3 : l3 ≠ []) (k3 : l3.length ≤ 3) :
    Fm.Spec Tryd.prog [0, 2, 3] 57 [.slice (some ⟨12, 0, some 1⟩) 4 4, .string (bs [46])] (jh y0 y1 y2 y3 l0 l1 l2 l3) (jpost y0 y1 y2 y3 l0 l1 l2 l3) := by
  obtain ⟨a0, rfl⟩ | ⟨a0, b0, rfl⟩ | ⟨a0, b0, c0, rfl⟩ := short h0 k0
  · obtain ⟨a1, rfl⟩ | ⟨a1, b1, rfl⟩ | ⟨a1, b1, c1, rfl⟩ := short h1 k1
    · obtain ⟨a2, rfl⟩ | ⟨a2, b2, rfl⟩ | ⟨a2, b2, c2, rfl⟩ := short h2 k2
      · obtain ⟨a3, rfl⟩ | ⟨a3, b3, rfl⟩ | ⟨a3, b3, c3, rfl⟩ := short h3 k3
        · exact spec_of_eq (jn1_1_1_1 y0 y1 y2 y3 a0 a1 a2 a3 (jpost y0 y1 y2 y3 [a0] [a1] [a2] [a3])) ⟨rfl, us_j rfl rfl (by decide) (by decide), jb_take _ _ _ _ _ _ _ _ _ _, rfl⟩
        · exact spec_of_eq (jn1_1_1_2 y0 y1 y2 y3 a0 a1 a2 a3 b3 (jpost y0 y1 y2 y3 [a0] [a1] [a2] [a3, b3])) ⟨rfl, us_j rfl rfl (by decide) (by decide), jb_take _ _ _ _ _ _ _ _ _ _, rfl⟩
        · exact spec_of_eq (jn1_1_1_3 y0 y1 y2 y3 a0 a1 a2 a3 b3 c3 (jpost y0 y1 y2 y3 [a0] [a1] [a2] [a3, b3, c3])) ⟨rfl, us_j rfl rfl (by decide) (by decide), jb_take _ _ _ _ _ _ _ _ _ _, rfl⟩
      · obtain ⟨a3, rfl⟩ | ⟨a3, b3, rfl⟩ | ⟨a3, b3, c3, rfl⟩ := short h3 k3
        · exact spec_of_eq (jn1_1_2_1 y0 y1 y2 y3 a0 a1 a2 b2 a3 (jpost y0 y1 y2 y3 [a0] [a1] [a2, b2] [a3])) ⟨rfl, us_j rfl rfl (by decide) (by decide), jb_take _ _ _ _ _ _ _ _ _ _, rfl⟩
        · exact spec_of_eq (jn1_1_2_2 y0 y1 y2 y3 a0 a1 a2 b2 a3 b3 (jpost y0 y1 y2 y3 [a0] [a1] [a2, b2] [a3, b3])) ⟨rfl, us_j rfl rfl (by decide) (by decide), jb_take _ _ _ _ _ _ _ _ _ _, rfl⟩
        · exact spec_of_eq (jn1_1_2_3 y0 y1 y2 y3 a0 a1 a2 b2 a3 b3 c3 (jpost y0 y1 y2 y3 [a0] [a1] [a2, b2] [a3, b3, c3])) ⟨rfl, us_j rfl rfl (by decide) (by decide), jb_take _ _ _ _ _ _ _ _ _ _, rfl⟩
      · obtain ⟨a3, rfl⟩ | ⟨a3, b3, rfl⟩ | ⟨a3, b3, c3, rfl⟩ := short h3 k3
        · exact spec_of_eq (jn1_1_3_1 y0 y1 y2 y3 a0 a1 a2 b2 c2 a3 (jpost y0 y1 y2 y3 [a0] [a1] [a2, b2, c2] [a3])) ⟨rfl, us_j rfl rfl (by decide) (by decide), jb_take _ _ _ _ _ _ _ _ _ _, rfl⟩
        · exact spec_of_eq (jn1_1_3_2 y0 y1 y2 y3 a0 a1 a2 b2 c2 a3 b3 (jpost y0 y1 y2 y3 [a0] [a1] [a2, b2, c2] [a3, b3])) ⟨rfl, us_j rfl rfl (by decide) (by decide), jb_take _ _ _ _ _ _ _ _ _ _, rfl⟩
        · exact spec_of_eq (jn1_1_3_3 y0 y1 y2 y3 a0 a1 a2 b2 c2 a3 b3 c3 (jpost y0 y1 y2 y3 [a0] [a1] [a2, b2, c2] [a3, b3, c3])) ⟨rfl, us_j rfl rfl (by decide) (by decide), jb_take _ _ _ _ _ _ _ _ _ _, rfl⟩
    · obtain ⟨a2, rfl⟩ | ⟨a2, b2, rfl⟩ | ⟨a2, b2, c2, rfl⟩ := short h2 k2
      · obtain ⟨a3, rfl⟩ | ⟨a3, b3, rfl⟩ | ⟨a3, b3, c3, rfl⟩ := short h3 k3
        · exact spec_of_eq (jn1_2_1_1 y0 y1 y2 y3 a0 a1 b1 a2 a3 (jpost y0 y1 y2 y3 [a0] [a1, b1] [a2] [a3])) ⟨rfl, us_j rfl rfl (by decide) (by decide), jb_take _ _ _ _ _ _ _ _ _ _, rfl⟩
        · exact spec_of_eq (jn1_2_1_2 y0 y1 y2 y3 a0 a1 b1 a2 a3 b3 (jpost y0 y1 y2 y3 [a0] [a1, b1] [a2] [a3, b3])) ⟨rfl, us_j rfl rfl (by decide) (by decide), jb_take _ _ _ _ _ _ _ _ _ _, rfl⟩
        · exact spec_of_eq (jn1_2_1_3 y0 y1 y2 y3 a0 a1 b1 a2 a3 b3 c3 (jpost y0 y1 y2 y3 [a0] [a1, b1] [a2] [a3, b3, c3])) ⟨rfl, us_j rfl rfl (by decide) (by decide), jb_take _ _ _ _ _ _ _ _ _ _, rfl⟩
      · obtain ⟨a3, rfl⟩ | ⟨a3, b3, rfl⟩ | ⟨a3, b3, c3, rfl⟩ := short h3 k3
        · exact spec_of_eq (jn1_2_2_1 y0 y1 y2 y3 a0 a1 b1 a2 b2 a3 (jpost y0 y1 y2 y3 [a0] [a1, b1] [a2, b2] [a3])) ⟨rfl, us_j rfl rfl (by decide) (by decide), jb_take _ _ _ _ _ _ _ _ _ _, rfl⟩
        · exact spec_of_eq (jn1_2_2_2 y0 y1 y2 y3 a0 a1 b1 a2 b2 a3 b3 (jpost y0 y1 y2 y3 [a0] [a1, b1] [a2, b2] [a3, b3])) ⟨rfl, us_j rfl rfl (by decide) (by decide), jb_take _ _ _ _ _ _ _ _ _ _, rfl⟩
        · exact spec_of_eq (jn1_2_2_3 y0 y1 y2 y3 a0 a1 b1 a2 b2 a3 b3 c3 (jpost y0 y1 y2 y3 [a0] [a1, b1] [a2, b2] [a3, b3, c3])) ⟨rfl, us_j rfl rfl (by decide) (by decide), jb_take _ _ _ _ _ _ _ _ _ _, rfl⟩
      · obtain ⟨a3, rfl⟩ | ⟨a3, b3, rfl⟩ | ⟨a3, b3, c3, rfl⟩ := short h3 k3
        · exact spec_of_eq (jn1_2_3_1 y0 y1 y2 y3 a0 a1 b1 a2 b2 c2 a3 (jpost y0 y1 y2 y3 [a0] [a1, b1] [a2, b2, c2] [a3])) ⟨rfl, us_j rfl rfl (by decide) (by decide), jb_take _ _ _ _ _ _ _ _ _ _, rfl⟩
        · exact spec_of_eq (jn1_2_3_2 y0 y1 y2 y3 a0 a1 b1 a2 b2 c2 a3 b3 (jpost y0 y1 y2 y3 [a0] [a1, b1] [a2, b2, c2] [a3, b3])) ⟨rfl, us_j rfl rfl (by decide) (by decide), jb_take _ _ _ _ _ _ _ _ _ _, rfl⟩
        · exact spec_of_eq (jn1_2_3_3 y0 y1 y2 y3 a0 a1 b1 a2 b2 c2 a3 b3 c3 (jpost y0 y1 y2 y3 [a0] [a1, b1] [a2, b2, c2] [a3, b3, c3])) ⟨rfl, us_j rfl rfl (by decide) (by decide), jb_take _ _ _ _ _ _ _ _ _ _, rfl⟩
    · obtain ⟨a2, rfl⟩ | ⟨a2, b2, rfl⟩ | ⟨a2, b2, c2, rfl⟩ := short h2 k2
      · obtain ⟨a3, rfl⟩ | ⟨a3, b3, rfl⟩ | ⟨a3, b3, c3, rfl⟩ := short h3 k3
        · exact spec_of_eq (jn1_3_1_1 y0 y1 y2 y3 a0 a1 b1 c1 a2 a3 (jpost y0 y1 y2 y3 [a0] [a1, b1, c1] [a2] [a3])) ⟨rfl, us_j rfl rfl (by decide) (by decide), jb_take _ _ _ _ _ _ _ _ _ _, rfl⟩
        · exact spec_of_eq (jn1_3_1_2 y0 y1 y2 y3 a0 a1 b1 c1 a2 a3 b3 (jpost y0 y1 y2 y3 [a0] [a1, b1, c1] [a2] [a3, b3])) ⟨rfl, us_j rfl rfl (by decide) (by decide), jb_take _ _ _ _ _ _ _ _ _ _, rfl⟩
        · exact spec_of_eq (jn1_3_1_3 y0 y1 y2 y3 a0 a1 b1 c1 a2 a3 b3 c3 (jpost y0 y1 y2 y3 [a0] [a1, b1, c1] [a2] [a3, b3, c3])) ⟨rfl, us_j rfl rfl (by decide) (by decide), jb_take _ _ _ _ _ _ _ _ _ _, rfl⟩
      · obtain ⟨a3, rfl⟩ | ⟨a3, b3, rfl⟩ | ⟨a3, b3, c3, rfl⟩ := short h3 k3
        · exact spec_of_eq (jn1_3_2_1 y0 y1 y2 y3 a0 a1 b1 c1 a2 b2 a3 (jpost y0 y1 y2 y3 [a0] [a1, b1, c1] [a2, b2] [a3])) ⟨rfl, us_j rfl rfl (by decide) (by decide), jb_take _ _ _ _ _ _ _ _ _ _, rfl⟩
        · exact spec_of_eq (jn1_3_2_2 y0 y1 y2 y3 a0 a1 b1 c1 a2 b2 a3 b3 (jpost y0 y1 y2 y3 [a0] [a1, b1, c1] [a2, b2] [a3, b3])) ⟨rfl, us_j rfl rfl (by decide) (by decide), jb_take _ _ _ _ _ _ _ _ _ _, rfl⟩
        · exact spec_of_eq (jn1_3_2_3 y0 y1 y2 y3 a0 a1 b1 c1 a2 b2 a3 b3 c3 (jpost y0 y1 y2 y3 [a0] [a1, b1, c1] [a2, b2] [a3, b3, c3])) ⟨rfl, us_j rfl rfl (by decide) (by decide), jb_take _ _ _ _ _ _ _ _ _ _, rfl⟩
      · obtain ⟨a3, rfl⟩ | ⟨a3, b3, rfl⟩ | ⟨a3, b3, c3, rfl⟩ := short h3 k3
        · exact spec_of_eq (jn1_3_3_1 y0 y1 y2 y3 a0 a1 b1 c1 a2 b2 c2 a3 (jpost y0 y1 y2 y3 [a0] [a1, b1, c1] [a2, b2, c2] [a3])) ⟨rfl, us_j rfl rfl (by decide) (by decide), jb_take _ _ _ _ _ _ _ _ _ _, rfl⟩
        · exact spec_of_eq (jn1_3_3_2 y0 y1 y2 y3 a0 a1 b1 c1 a2 b2 c2 a3 b3 (jpost y0 y1 y2 y3 [a0] [a1, b1, c1] [a2, b2, c2] [a3, b3])) ⟨rfl, us_j rfl rfl (by decide) (by decide), jb_take _ _ _ _ _ _ _ _ _ _, rfl⟩
        · exact spec_of_eq (jn1_3_3_3 y0 y1 y2 y3 a0 a1 b1 c1 a2 b2 c2 a3 b3 c3 (jpost y0 y1 y2 y3 [a0] [a1, b1, c1] [a2, b2, c2] [a3, b3, c3])) ⟨rfl, us_j rfl rfl (by decide) (by decide), jb_take _ _ _ _ _ _ _ _ _ _, rfl⟩
  · obtain ⟨a1, rfl⟩ | ⟨a1, b1, rfl⟩ | ⟨a1, b1, c1, rfl⟩ := short h1 k1
    · obtain ⟨a2, rfl⟩ | ⟨a2, b2, rfl⟩ | ⟨a2, b2, c2, rfl⟩ := short h2 k2
      · obtain ⟨a3, rfl⟩ | ⟨a3, b3, rfl⟩ | ⟨a3, b3, c3, rfl⟩ := short h3 k3
        · exact spec_of_eq (jn2_1_1_1 y0 y1 y2 y3 a0 b0 a1 a2 a3 (jpost y0 y1 y2 y3 [a0, b0] [a1] [a2] [a3])) ⟨rfl, us_j rfl rfl (by decide) (by decide), jb_take _ _ _ _ _ _ _ _ _ _, rfl⟩
        · exact spec_of_eq (jn2_1_1_2 y0 y1 y2 y3 a0 b0 a1 a2 a3 b3 (jpost y0 y1 y2 y3 [a0, b0] [a1] [a2] [a3, b3])) ⟨rfl, us_j rfl rfl (by decide) (by decide), jb_take _ _ _ _ _ _ _ _ _ _, rfl⟩
        · exact spec_of_eq (jn2_1_1_3 y0 y1 y2 y3 a0 b0 a1 a2 a3 b3 c3 (jpost y0 y1 y2 y3 [a0, b0] [a1] [a2] [a3, b3, c3])) ⟨rfl, us_j rfl rfl (by decide) (by decide), jb_take _ _ _ _ _ _ _ _ _ _, rfl⟩
      · obtain ⟨a3, rfl⟩ | ⟨a3, b3, rfl⟩ | ⟨a3, b3, c3, rfl⟩ := short h3 k3
        · exact spec_of_eq (jn2_1_2_1 y0 y1 y2 y3 a0 b0 a1 a2 b2 a3 (jpost y0 y1 y2 y3 [a0, b0] [a1] [a2, b2] [a3])) ⟨rfl, us_j rfl rfl (by decide) (by decide), jb_take _ _ _ _ _ _ _ _ _ _, rfl⟩
        · exact spec_of_eq (jn2_1_2_2 y0 y1 y2 y3 a0 b0 a1 a2 b2 a3 b3 (jpost y0 y1 y2 y3 [a0, b0] [a1] [a2, b2] [a3, b3])) ⟨rfl, us_j rfl rfl (by decide) (by decide), jb_take _ _ _ _ _ _ _ _ _ _, rfl⟩
        · exact spec_of_eq (jn2_1_2_3 y0 y1 y2 y3 a0 b0 a1 a2 b2 a3 b3 c3 (jpost y0 y1 y2 y3 [a0, b0] [a1] [a2, b2] [a3, b3, c3])) ⟨rfl, us_j rfl rfl (by decide) (by decide), jb_take _ _ _ _ _ _ _ _ _ _, rfl⟩
      · obtain ⟨a3, rfl⟩ | ⟨a3, b3, rfl⟩ | ⟨a3, b3, c3, rfl⟩ := short h3 k3
        · exact spec_of_eq (jn2_1_3_1 y0 y1 y2 y3 a0 b0 a1 a2 b2 c2 a3 (jpost y0 y1 y2 y3 [a0, b0] [a1] [a2, b2, c2] [a3])) ⟨rfl, us_j rfl rfl (by decide) (by decide), jb_take _ _ _ _ _ _ _ _ _ _, rfl⟩
        · exact spec_of_eq (jn2_1_3_2 y0 y1 y2 y3 a0 b0 a1 a2 b2 c2 a3 b3 (jpost y0 y1 y2 y3 [a0, b0] [a1] [a2, b2, c2] [a3, b3])) ⟨rfl, us_j rfl rfl (by decide) (by decide), jb_take _ _ _ _ _ _ _ _ _ _, rfl⟩
        · exact spec_of_eq (jn2_1_3_3 y0 y1 y2 y3 a0 b0 a1 a2 b2 c2 a3 b3 c3 (jpost y0 y1 y2 y3 [a0, b0] [a1] [a2, b2, c2] [a3, b3, c3])) ⟨rfl, us_j rfl rfl (by decide) (by decide), jb_take _ _ _ _ _ _ _ _ _ _, rfl⟩
    · obtain ⟨a2, rfl⟩ | ⟨a2, b2, rfl⟩ | ⟨a2, b2, c2, rfl⟩ := short h2 k2
      · obtain ⟨a3, rfl⟩ | ⟨a3, b3, rfl⟩ | ⟨a3, b3, c3, rfl⟩ := short h3 k3
        · exact spec_of_eq (jn2_2_1_1 y0 y1 y2 y3 a0 b0 a1 b1 a2 a3 (jpost y0 y1 y2 y3 [a0, b0] [a1, b1] [a2] [a3])) ⟨rfl, us_j rfl rfl (by decide) (by decide), jb_take _ _ _ _ _ _ _ _ _ _, rfl⟩
        · exact spec_of_eq (jn2_2_1_2 y0 y1 y2 y3 a0 b0 a1 b1 a2 a3 b3 (jpost y0 y1 y2 y3 [a0, b0] [a1, b1] [a2] [a3, b3])) ⟨rfl, us_j rfl rfl (by decide) (by decide), jb_take _ _ _ _ _ _ _ _ _ _, rfl⟩
        · exact spec_of_eq (jn2_2_1_3 y0 y1 y2 y3 a0 b0 a1 b1 a2 a3 b3 c3 (jpost y0 y1 y2 y3 [a0, b0] [a1, b1] [a2] [a3, b3, c3])) ⟨rfl, us_j rfl rfl (by decide) (by decide), jb_take _ _ _ _ _ _ _ _ _ _, rfl⟩
      · obtain ⟨a3, rfl⟩ | ⟨a3, b3, rfl⟩ | ⟨a3, b3, c3, rfl⟩ := short h3 k3
        · exact spec_of_eq (jn2_2_2_1 y0 y1 y2 y3 a0 b0 a1 b1 a2 b2 a3 (jpost y0 y1 y2 y3 [a0, b0] [a1, b1] [a2, b2] [a3])) ⟨rfl, us_j rfl rfl (by decide) (by decide), jb_take _ _ _ _ _ _ _ _ _ _, rfl⟩
        · exact spec_of_eq (jn2_2_2_2 y0 y1 y2 y3 a0 b0 a1 b1 a2 b2 a3 b3 (jpost y0 y1 y2 y3 [a0, b0] [a1, b1] [a2, b2] [a3, b3])) ⟨rfl, us_j rfl rfl (by decide) (by decide), jb_take _ _ _ _ _ _ _ _ _ _, rfl⟩
        · exact spec_of_eq (jn2_2_2_3 y0 y1 y2 y3 a0 b0 a1 b1 a2 b2 a3 b3 c3 (jpost y0 y1 y2 y3 [a0, b0] [a1, b1] [a2, b2] [a3, b3, c3])) ⟨rfl, us_j rfl rfl (by decide) (by decide), jb_take _ _ _ _ _ _ _ _ _ _, rfl⟩
      · obtain ⟨a3, rfl⟩ | ⟨a3, b3, rfl⟩ | ⟨a3, b3, c3, rfl⟩ := short h3 k3
        · exact spec_of_eq (jn2_2_3_1 y0 y1 y2 y3 a0 b0 a1 b1 a2 b2 c2 a3 (jpost y0 y1 y2 y3 [a0, b0] [a1, b1] [a2, b2, c2] [a3])) ⟨rfl, us_j rfl rfl (by decide) (by decide), jb_take _ _ _ _ _ _ _ _ _ _, rfl⟩
        · exact spec_of_eq (jn2_2_3_2 y0 y1 y2 y3 a0 b0 a1 b1 a2 b2 c2 a3 b3 (jpost y0 y1 y2 y3 [a0, b0] [a1, b1] [a2, b2, c2] [a3, b3])) ⟨rfl, us_j rfl rfl (by decide) (by decide), jb_take _ _ _ _ _ _ _ _ _ _, rfl⟩
        · exact spec_of_eq (jn2_2_3_3 y0 y1 y2 y3 a0 b0 a1 b1 a2 b2 c2 a3 b3 c3 (jpost y0 y1 y2 y3 [a0, b0] [a1, b1] [a2, b2, c2] [a3, b3, c3])) ⟨rfl, us_j rfl rfl (by decide) (by decide), jb_take _ _ _ _ _ _ _ _ _ _, rfl⟩
    · obtain ⟨a2, rfl⟩ | ⟨a2, b2, rfl⟩ | ⟨a2, b2, c2, rfl⟩ := short h2 k2
      · obtain ⟨a3, rfl⟩ | ⟨a3, b3, rfl⟩ | ⟨a3, b3, c3, rfl⟩ := short h3 k3
        · exact spec_of_eq (jn2_3_1_1 y0 y1 y2 y3 a0 b0 a1 b1 c1 a2 a3 (jpost y0 y1 y2 y3 [a0, b0] [a1, b1, c1] [a2] [a3])) ⟨rfl, us_j rfl rfl (by decide) (by decide), jb_take _ _ _ _ _ _ _ _ _ _, rfl⟩
        · exact spec_of_eq (jn2_3_1_2 y0 y1 y2 y3 a0 b0 a1 b1 c1 a2 a3 b3 (jpost y0 y1 y2 y3 [a0, b0] [a1, b1, c1] [a2] [a3, b3])) ⟨rfl, us_j rfl rfl (by decide) (by decide), jb_take _ _ _ _ _ _ _ _ _ _, rfl⟩
        · exact spec_of_eq (jn2_3_1_3 y0 y1 y2 y3 a0 b0 a1 b1 c1 a2 a3 b3 c3 (jpost y0 y1 y2 y3 [a0, b0] [a1, b1, c1] [a2] [a3, b3, c3])) ⟨rfl, us_j rfl rfl (by decide) (by decide), jb_take _ _ _ _ _ _ _ _ _ _, rfl⟩
      · obtain ⟨a3, rfl⟩ | ⟨a3, b3, rfl⟩ | ⟨a3, b3, c3, rfl⟩ := short h3 k3
        · exact spec_of_eq (jn2_3_2_1 y0 y1 y2 y3 a0 b0 a1 b1 c1 a2 b2 a3 (jpost y0 y1 y2 y3 [a0, b0] [a1, b1, c1] [a2, b2] [a3])) ⟨rfl, us_j rfl rfl (by decide) (by decide), jb_take _ _ _ _ _ _ _ _ _ _, rfl⟩
        · exact spec_of_eq (jn2_3_2_2 y0 y1 y2 y3 a0 b0 a1 b1 c1 a2 b2 a3 b3 (jpost y0 y1 y2 y3 [a0, b0] [a1, b1, c1] [a2, b2] [a3, b3])) ⟨rfl, us_j rfl rfl (by decide) (by decide), jb_take _ _ _ _ _ _ _ _ _ _, rfl⟩
        · exact spec_of_eq (jn2_3_2_3 y0 y1 y2 y3 a0 b0 a1 b1 c1 a2 b2 a3 b3 c3 (jpost y0 y1 y2 y3 [a0, b0] [a1, b1, c1] [a2, b2] [a3, b3, c3])) ⟨rfl, us_j rfl rfl (by decide) (by decide), jb_take _ _ _ _ _ _ _ _ _ _, rfl⟩
      · obtain ⟨a3, rfl⟩ | ⟨a3, b3, rfl⟩ | ⟨a3, b3, c3, rfl⟩ := short h3 k3
        · exact spec_of_eq (jn2_3_3_1 y0 y1 y2 y3 a0 b0 a1 b1 c1 a2 b2 c2 a3 (jpost y0 y1 y2 y3 [a0, b0] [a1, b1, c1] [a2, b2, c2] [a3])) ⟨rfl, us_j rfl rfl (by decide) (by decide), jb_take _ _ _ _ _ _ _ _ _ _, rfl⟩
        · exact spec_of_eq (jn2_3_3_2 y0 y1 y2 y3 a0 b0 a1 b1 c1 a2 b2 c2 a3 b3 (jpost y0 y1 y2 y3 [a0, b0] [a1, b1, c1] [a2, b2, c2] [a3, b3])) ⟨rfl, us_j rfl rfl (by decide) (by decide), jb_take _ _ _ _ _ _ _ _ _ _, rfl⟩
        · exact spec_of_eq (jn2_3_3_3 y0 y1 y2 y3 a0 b0 a1 b1 c1 a2 b2 c2 a3 b3 c3 (jpost y0 y1 y2 y3 [a0, b0] [a1, b1, c1] [a2, b2, c2] [a3, b3, c3])) ⟨rfl, us_j rfl rfl (by decide) (by decide), jb_take _ _ _ _ _ _ _ _ _ _, rfl⟩
  · obtain ⟨a1, rfl⟩ | ⟨a1, b1, rfl⟩ | ⟨a1, b1, c1, rfl⟩ := short h1 k1
    · obtain ⟨a2, rfl⟩ | ⟨a2, b2, rfl⟩ | ⟨a2, b2, c2, rfl⟩ := short h2 k2
      · obtain ⟨a3, rfl⟩ | ⟨a3, b3, rfl⟩ | ⟨a3, b3, c3, rfl⟩ := short h3 k3
        · exact spec_of_eq (jn3_1_1_1 y0 y1 y2 y3 a0 b0 c0 a1 a2 a3 (jpost y0 y1 y2 y3 [a0, b0, c0] [a1] [a2] [a3])) ⟨rfl, us_j rfl rfl (by decide) (by decide), jb_take _ _ _ _ _ _ _ _ _ _, rfl⟩
        · exact spec_of_eq (jn3_1_1_2 y0 y1 y2 y3 a0 b0 c0 a1 a2 a3 b3 (jpost y0 y1 y2 y3 [a0, b0, c0] [a1] [a2] [a3, b3])) ⟨rfl, us_j rfl rfl (by decide) (by decide), jb_take _ _ _ _ _ _ _ _ _ _, rfl⟩
        · exact spec_of_eq (jn3_1_1_3 y0 y1 y2 y3 a0 b0 c0 a1 a2 a3 b3 c3 (jpost y0 y1 y2 y3 [a0, b0, c0] [a1] [a2] [a3, b3, c3])) ⟨rfl, us_j rfl rfl (by decide) (by decide), jb_take _ _ _ _ _ _ _ _ _ _, rfl⟩
      · obtain ⟨a3, rfl⟩ | ⟨a3, b3, rfl⟩ | ⟨a3, b3, c3, rfl⟩ := short h3 k3
        · exact spec_of_eq (jn3_1_2_1 y0 y1 y2 y3 a0 b0 c0 a1 a2 b2 a3 (jpost y0 y1 y2 y3 [a0, b0, c0] [a1] [a2, b2] [a3])) ⟨rfl, us_j rfl rfl (by decide) (by decide), jb_take _ _ _ _ _ _ _ _ _ _, rfl⟩
        · exact spec_of_eq (jn3_1_2_2 y0 y1 y2 y3 a0 b0 c0 a1 a2 b2 a3 b3 (jpost y0 y1 y2 y3 [a0, b0, c0] [a1] [a2, b2] [a3, b3])) ⟨rfl, us_j rfl rfl (by decide) (by decide), jb_take _ _ _ _ _ _ _ _ _ _, rfl⟩
        · exact spec_of_eq (jn3_1_2_3 y0 y1 y2 y3 a0 b0 c0 a1 a2 b2 a3 b3 c3 (jpost y0 y1 y2 y3 [a0, b0, c0] [a1] [a2, b2] [a3, b3, c3])) ⟨rfl, us_j rfl rfl (by decide) (by decide), jb_take _ _ _ _ _ _ _ _ _ _, rfl⟩
      · obtain ⟨a3, rfl⟩ | ⟨a3, b3, rfl⟩ | ⟨a3, b3, c3, rfl⟩ := short h3 k3
        · exact spec_of_eq (jn3_1_3_1 y0 y1 y2 y3 a0 b0 c0 a1 a2 b2 c2 a3 (jpost y0 y1 y2 y3 [a0, b0, c0] [a1] [a2, b2, c2] [a3])) ⟨rfl, us_j rfl rfl (by decide) (by decide), jb_take _ _ _ _ _ _ _ _ _ _, rfl⟩
        · exact spec_of_eq (jn3_1_3_2 y0 y1 y2 y3 a0 b0 c0 a1 a2 b2 c2 a3 b3 (jpost y0 y1 y2 y3 [a0, b0, c0] [a1] [a2, b2, c2] [a3, b3])) ⟨rfl, us_j rfl rfl (by decide) (by decide), jb_take _ _ _ _ _ _ _ _ _ _, rfl⟩
        · exact spec_of_eq (jn3_1_3_3 y0 y1 y2 y3 a0 b0 c0 a1 a2 b2 c2 a3 b3 c3 (jpost y0 y1 y2 y3 [a0, b0, c0] [a1] [a2, b2, c2] [a3, b3, c3])) ⟨rfl, us_j rfl rfl (by decide) (by decide), jb_take _ _ _ _ _ _ _ _ _ _, rfl⟩
    · obtain ⟨a2, rfl⟩ | ⟨a2, b2, rfl⟩ | ⟨a2, b2, c2, rfl⟩ := short h2 k2
      · obtain ⟨a3, rfl⟩ | ⟨a3, b3, rfl⟩ | ⟨a3, b3, c3, rfl⟩ := short h3 k3
        · exact spec_of_eq (jn3_2_1_1 y0 y1 y2 y3 a0 b0 c0 a1 b1 a2 a3 (jpost y0 y1 y2 y3 [a0, b0, c0] [a1, b1] [a2] [a3])) ⟨rfl, us_j rfl rfl (by decide) (by decide), jb_take _ _ _ _ _ _ _ _ _ _, rfl⟩
        · exact spec_of_eq (jn3_2_1_2 y0 y1 y2 y3 a0 b0 c0 a1 b1 a2 a3 b3 (jpost y0 y1 y2 y3 [a0, b0, c0] [a1, b1] [a2] [a3, b3])) ⟨rfl, us_j rfl rfl (by decide) (by decide), jb_take _ _ _ _ _ _ _ _ _ _, rfl⟩
        · exact spec_of_eq (jn3_2_1_3 y0 y1 y2 y3 a0 b0 c0 a1 b1 a2 a3 b3 c3 (jpost y0 y1 y2 y3 [a0, b0, c0] [a1, b1] [a2] [a3, b3, c3])) ⟨rfl, us_j rfl rfl (by decide) (by decide), jb_take _ _ _ _ _ _ _ _ _ _, rfl⟩
      · obtain ⟨a3, rfl⟩ | ⟨a3, b3, rfl⟩ | ⟨a3, b3, c3, rfl⟩ := short h3 k3
        · exact spec_of_eq (jn3_2_2_1 y0 y1 y2 y3 a0 b0 c0 a1 b1 a2 b2 a3 (jpost y0 y1 y2 y3 [a0, b0, c0] [a1, b1] [a2, b2] [a3])) ⟨rfl, us_j rfl rfl (by decide) (by decide), jb_take _ _ _ _ _ _ _ _ _ _, rfl⟩
        · exact spec_of_eq (jn3_2_2_2 y0 y1 y2 y3 a0 b0 c0 a1 b1 a2 b2 a3 b3 (jpost y0 y1 y2 y3 [a0, b0, c0] [a1, b1] [a2, b2] [a3, b3])) ⟨rfl, us_j rfl rfl (by decide) (by decide), jb_take _ _ _ _ _ _ _ _ _ _, rfl⟩
        · exact spec_of_eq (jn3_2_2_3 y0 y1 y2 y3 a0 b0 c0 a1 b1 a2 b2 a3 b3 c3 (jpost y0 y1 y2 y3 [a0, b0, c0] [a1, b1] [a2, b2] [a3, b3, c3])) ⟨rfl, us_j rfl rfl (by decide) (by decide), jb_take _ _ _ _ _ _ _ _ _ _, rfl⟩
      · obtain ⟨a3, rfl⟩ | ⟨a3, b3, rfl⟩ | ⟨a3, b3, c3, rfl⟩ := short h3 k3
        · exact spec_of_eq (jn3_2_3_1 y0 y1 y2 y3 a0 b0 c0 a1 b1 a2 b2 c2 a3 (jpost y0 y1 y2 y3 [a0, b0, c0] [a1, b1] [a2, b2, c2] [a3])) ⟨rfl, us_j rfl rfl (by decide) (by decide), jb_take _ _ _ _ _ _ _ _ _ _, rfl⟩
        · exact spec_of_eq (jn3_2_3_2 y0 y1 y2 y3 a0 b0 c0 a1 b1 a2 b2 c2 a3 b3 (jpost y0 y1 y2 y3 [a0, b0, c0] [a1, b1] [a2, b2, c2] [a3, b3])) ⟨rfl, us_j rfl rfl (by decide) (by decide), jb_take _ _ _ _ _ _ _ _ _ _, rfl⟩
        · exact spec_of_eq (jn3_2_3_3 y0 y1 y2 y3 a0 b0 c0 a1 b1 a2 b2 c2 a3 b3 c3 (jpost y0 y1 y2 y3 [a0, b0, c0] [a1, b1] [a2, b2, c2] [a3, b3, c3])) ⟨rfl, us_j rfl rfl (by decide) (by decide), jb_take _ _ _ _ _ _ _ _ _ _, rfl⟩
    · obtain ⟨a2, rfl⟩ | ⟨a2, b2, rfl⟩ | ⟨a2, b2, c2, rfl⟩ := short h2 k2
      · obtain ⟨a3, rfl⟩ | ⟨a3, b3, rfl⟩ | ⟨a3, b3, c3, rfl⟩ := short h3 k3
        · exact spec_of_eq (jn3_3_1_1 y0 y1 y2 y3 a0 b0 c0 a1 b1 c1 a2 a3 (jpost y0 y1 y2 y3 [a0, b0, c0] [a1, b1, c1] [a2] [a3])) ⟨rfl, us_j rfl rfl (by decide) (by decide), jb_take _ _ _ _ _ _ _ _ _ _, rfl⟩
        · exact spec_of_eq (jn3_3_1_2 y0 y1 y2 y3 a0 b0 c0 a1 b1 c1 a2 a3 b3 (jpost y0 y1 y2 y3 [a0, b0, c0] [a1, b1, c1] [a2] [a3, b3])) ⟨rfl, us_j rfl rfl (by decide) (by decide), jb_take _ _ _ _ _ _ _ _ _ _, rfl⟩
        · exact spec_of_eq (jn3_3_1_3 y0 y1 y2 y3 a0 b0 c0 a1 b1 c1 a2 a3 b3 c3 (jpost y0 y1 y2 y3 [a0, b0, c0] [a1, b1, c1] [a2] [a3, b3, c3])) ⟨rfl, us_j rfl rfl (by decide) (by decide), jb_take _ _ _ _ _ _ _ _ _ _, rfl⟩
      · obtain ⟨a3, rfl⟩ | ⟨a3, b3, rfl⟩ | ⟨a3, b3, c3, rfl⟩ := short h3 k3
        · exact spec_of_eq (jn3_3_2_1 y0 y1 y2 y3 a0 b0 c0 a1 b1 c1 a2 b2 a3 (jpost y0 y1 y2 y3 [a0, b0, c0] [a1, b1, c1] [a2, b2] [a3])) ⟨rfl, us_j rfl rfl (by decide) (by decide), jb_take _ _ _ _ _ _ _ _ _ _, rfl⟩
        · exact spec_of_eq (jn3_3_2_2 y0 y1 y2 y3 a0 b0 c0 a1 b1 c1 a2 b2 a3 b3 (jpost y0 y1 y2 y3 [a0, b0, c0] [a1, b1, c1] [a2, b2] [a3, b3])) ⟨rfl, us_j rfl rfl (by decide) (by decide), jb_take _ _ _ _ _ _ _ _ _ _, rfl⟩
        · exact spec_of_eq (jn3_3_2_3 y0 y1 y2 y3 a0 b0 c0 a1 b1 c1 a2 b2 a3 b3 c3 (jpost y0 y1 y2 y3 [a0, b0, c0] [a1, b1, c1] [a2, b2] [a3, b3, c3])) ⟨rfl, us_j rfl rfl (by decide) (by decide), jb_take _ _ _ _ _ _ _ _ _ _, rfl⟩
      · obtain ⟨a3, rfl⟩ | ⟨a3, b3, rfl⟩ | ⟨a3, b3, c3, rfl⟩ := short h3 k3
        · exact spec_of_eq (jn3_3_3_1 y0 y1 y2 y3 a0 b0 c0 a1 b1 c1 a2 b2 c2 a3 (jpost y0 y1 y2 y3 [a0, b0, c0] [a1, b1, c1] [a2, b2, c2] [a3])) ⟨rfl, us_j rfl rfl (by decide) (by decide), jb_take _ _ _ _ _ _ _ _ _ _, rfl⟩
        · exact spec_of_eq (jn3_3_3_2 y0 y1 y2 y3 a0 b0 c0 a1 b1 c1 a2 b2 c2 a3 b3 (jpost y0 y1 y2 y3 [a0, b0, c0] [a1, b1, c1] [a2, b2, c2] [a3, b3])) ⟨rfl, us_j rfl rfl (by decide) (by decide), jb_take _ _ _ _ _ _ _ _ _ _, rfl⟩
        · exact spec_of_eq (jn3_3_3_3 y0 y1 y2 y3 a0 b0 c0 a1 b1 c1 a2 b2 c2 a3 b3 c3 (jpost y0 y1 y2 y3 [a0, b0, c0] [a1, b1, c1] [a2, b2, c2] [a3, b3, c3])) ⟨rfl, us_j rfl rfl (by decide) (by decide), jb_take _ _ _ _ _ _ _ _ _ _, rfl⟩
theorem join_call {y0 y1 y2 y3 : Int} {l0 l1 l2 l3 : List UInt8} (h0 : l0 ≠ []) (k0 : l0.length ≤ 3) (h1 : l1 ≠ []) (k1 : l1.length ≤ 3) (h2 : l2 ≠ []) (k2 : l2.length ≤ 3) (h3 : l3 ≠ []) (k3 : l3.length ≤ 3) :
    Fm.Spec Tryd.prog [0, 2, 3] 57 [.slice (some ⟨12, 0, some 1⟩) 4 4, .string (bs [46])] (jh y0 y1 y2 y3 l0 l1 l2 l3) fun r h' => r = .ret (.string (bs (l0 ++ [46] ++ l1 ++ [46] ++ l2 ++ [46] ++ l3))) ∧ h' = jh y0 y1 y2 y3 l0 l1 l2 l3 := by
  refine Spec.forget (Spec.mono (join_spec h0 k0 h1 k1 h2 k2 h3 k3) ?_)
  rintro r h' ⟨e1, rfl⟩
  have e2 : (jh y0 y1 y2 y3 l0 l1 l2 l3).length = 13 := rfl
  have e3 : mayForget 13 (.ret (.string (bs (l0 ++ [46] ++ l1 ++ [46] ++ l2 ++ [46] ++ l3)))) (jh y0 y1 y2 y3 l0 l1 l2 l3) = true := by kernel_rfl
  rw [e2, e1, e3]
  exact ⟨rfl, rfl⟩
end Go.Proofs.YtopladipgobpjaaDoor
