/-
  The groups of the reference's answer, as its loops lay them out one behind the other. No program in sight.
-/
import Derived.Test.YtopladipgobpjaaDoorPlainR
namespace Go.Proofs.YtopladipgobpjaaDoor

def outI (gap : Nat) (L : List Int) (i : Nat) : List Int :=
  if gap < i then L.take gap ++ List.replicate (8 - L.length) 0 ++ (L.drop gap).take (i - gap) else L.take i
def outK (gap : Nat) (L : List Int) (i k : Nat) : List Int :=
  if i = gap then L.take gap ++ List.replicate (k - L.length) 0 else outI gap L i

theorem outK_start (gap : Nat) (L : List Int) (i : Nat) : outK gap L i L.length = outI gap L i := by
  unfold outK outI
  by_cases h : i = gap
  · subst h
    rw [if_pos rfl, if_neg (Nat.lt_irrefl _), Nat.sub_self, List.replicate_zero, List.append_nil]
  · rw [if_neg h]

theorem outK_zero {gap : Nat} {L : List Int} {k : Nat} (h : L.length ≤ k) : outK gap L gap (k + 1) = outK gap L gap k ++ [0] := by
  unfold outK
  rw [if_pos rfl, if_pos rfl, List.append_assoc, show k + 1 - L.length = (k - L.length) + 1 by omega, List.replicate_succ']

theorem getD_get {L : List Int} {i : Nat} (h : i < L.length) : L.getD i 0 = L[i] := by
  rw [List.getD_eq_getElem?_getD, List.getElem?_eq_getElem h]; rfl

/-- a group more, or none more -/
theorem outI_next {gap : Nat} {L : List Int} {i k : Nat} (hk : i = gap → k - L.length = 8 - L.length) (hi : i < L.length) : outI gap L (i + 1) = outK gap L i k ++ [L.getD i 0] := by
  rw [getD_get hi]
  unfold outK
  by_cases h : i = gap
  · subst h
    rw [if_pos rfl, hk rfl]
    unfold outI
    rw [if_pos (Nat.lt_succ_self _), show i + 1 - i = 0 + 1 by omega, List.drop_eq_getElem_cons hi, List.take_succ_cons, List.take_zero]
  · rw [if_neg h]
    unfold outI
    by_cases h2 : gap < i
    · rw [if_pos (by omega), if_pos h2, show i + 1 - gap = (i - gap) + 1 by omega, List.take_succ_eq_append_getElem (by rw [List.length_drop]; omega), List.getElem_drop, ← List.append_assoc]
      simp only [show gap + (i - gap) = i by omega]
    · rw [if_neg (by omega), if_neg h2, List.take_succ_eq_append_getElem hi]

theorem outI_last {gap : Nat} {L : List Int} {i k : Nat} (hk : i = gap → k - L.length = 8 - L.length) (hg : gap ≤ L.length) (hi : i = L.length) : outI gap L (i + 1) = outK gap L i k := by
  unfold outK
  by_cases h : i = gap
  · rw [if_pos h, hk h]
    unfold outI
    rw [if_pos (by omega), List.drop_of_length_le (by omega), List.take_nil, List.append_nil]
  · rw [if_neg h]
    unfold outI
    rw [if_pos (by omega), if_pos (by omega), List.take_of_length_le (l := L.drop gap) (i := i + 1 - gap) (by rw [List.length_drop]; omega), List.take_of_length_le (l := L.drop gap) (i := i - gap) (by rw [List.length_drop]; omega)]

theorem outI_fin {gap : Nat} {L : List Int} (hg : gap ≤ L.length) : outI gap L (L.length + 1) = L.take gap ++ List.replicate (8 - L.length) 0 ++ L.drop gap := by
  unfold outI
  rw [if_pos (by omega), List.take_of_length_le (l := L.drop gap) (by rw [List.length_drop]; omega)]

theorem outI_len {gap : Nat} {L : List Int} (hg : gap ≤ L.length) (h7 : L.length ≤ 7) : (outI gap L (L.length + 1)).length = 8 := by
  rw [outI_fin hg]
  simp only [List.length_append, List.length_take, List.length_replicate, List.length_drop]
  omega

theorem rfin_lt {gap : Int} {L : List Int} (h : gap < 0) : rfin gap L = if L.length = 8 then some L else none := by unfold rfin; rw [if_pos h]
theorem rfin_ge {gap : Nat} {L : List Int} (hg : gap ≤ L.length) : rfin (gap : Int) L = if L.length ≤ 7 then some (outI gap L (L.length + 1)) else none := by
  unfold rfin; rw [if_neg (by omega), Int.toNat_natCast, outI_fin hg]

theorem rmid_grp {y : R6} (h : grp y.part = true) : rmid y = some (y.l ++ [valH y.part]) := by unfold rmid; rw [if_pos h]
theorem rmid_w4 {y : R6} (h : grp y.part = false) (hp : y.part ≠ []) (hw : w4 y.part = true) : rmid y = some (y.l ++ [((splitL 46 [] y.part).map val).getD 0 0 * 256 + ((splitL 46 [] y.part).map val).getD 1 0, ((splitL 46 [] y.part).map val).getD 2 0 * 256 + ((splitL 46 [] y.part).map val).getD 3 0]) := by
  unfold rmid; rw [if_neg (by rw [h]; decide), if_pos ⟨hp, hw⟩]
theorem rmid_nil {y : R6} (hp : y.part = []) (hg : 0 ≤ y.gap) (h : y.gap = y.l.length) : rmid y = some y.l := by
  unfold rmid
  rw [hp, if_neg (by decide), if_neg (by simp), if_pos ⟨rfl, hg, h⟩]
theorem rmid_no {y : R6} (h : grp y.part = false) (hw : ¬ (y.part ≠ [] ∧ w4 y.part = true)) (hn : ¬ (y.part = [] ∧ 0 ≤ y.gap ∧ y.gap = y.l.length)) : rmid y = none := by
  unfold rmid; rw [if_neg (by rw [h]; decide), if_neg hw, if_neg hn]

/-- what the loops may lean on -/
def wOK (g : List Int) (gap : Nat) (p : List UInt8) (L : List Int) : Prop :=
  L ≠ [] ∧ L.length ≤ 9 ∧ gap ≤ L.length ∧ rmid ⟨g, (gap : Int), p⟩ = some L

theorem whole_of {y : R6} {L : List Int} (h : rmid y = some L) : whole6 y = rfin y.gap L := by unfold whole6; rw [h]; rfl
theorem whole_no {y : R6} (h : rmid y = none) : whole6 y = none := by unfold whole6; rw [h]; rfl

end Go.Proofs.YtopladipgobpjaaDoor
