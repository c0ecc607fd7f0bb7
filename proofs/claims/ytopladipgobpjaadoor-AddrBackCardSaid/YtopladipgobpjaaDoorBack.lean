/-
  AddrBack: whatever the addresses, the law returns true, and the arguments read as they did. Condition (the card's own): the three listed tables read as the program's text lays them.
-/
import Derived.Test.YtopladipgobpjaaDoorPlainB
import Derived.Test.YtopladipgobpjaaDoorTxt
import Derived.Test.YtopladipgobpjaaDoorParse4
import Derived.Test.YtopladipgobpjaaDoorSix4
import Derived.Test.YtopladipgobpjaaDoorBase
import Derived.Test.YtopladipgobpjaaDoorCards
import Derived.Test.YtopladipgobpjaaDoorTie
import Derived.SevenTiedAt
namespace Go.Proofs.YtopladipgobpjaaDoor
open Go Go.Fm Go.ChangeShapes Go.WideShapes Go.ChangeAt Go.RowKit
instance ufB : UF := ⟨[5, 9, 3]⟩
def pb (l : List UInt8) (i : Nat) : Int := match p4R l with
  | (some v, _) => v.getD i 0
  | (none, _) => 0
def pn (l : List UInt8) : Int := match p4R l with
  | (some _, _) => 0
  | (none, n) => n
def pe (l : List UInt8) : Int := match p4R l with
  | (some _, _) => 0
  | (none, _) => 20
def sb (l : List UInt8) (i : Nat) : Int := match p6R l with
  | (some v, _) => byteAt v i
  | (none, _) => 0
def sn (l : List UInt8) : Int := match p6R l with
  | (some _, _) => 0
  | (none, n) => n
def se (l : List UInt8) : Int := match p6R l with
  | (some _, _) => 0
  | (none, _) => 20
def t6L (b0 b1 b2 b3 b4 b5 b6 b7 b8 b9 b10 b11 b12 b13 b14 b15 : Int) : List UInt8 := tx [gg b0 b1, gg b2 b3, gg b4 b5, gg b6 b7, gg b8 b9, gg b10 b11, gg b12 b13, gg b14 b15] (scan [gg b0 b1, gg b2 b3, gg b4 b5, gg b6 b7, gg b8 b9, gg b10 b11, gg b12 b13, gg b14 b15] 8).1 (scan [gg b0 b1, gg b2 b3, gg b4 b5, gg b6 b7, gg b8 b9, gg b10 b11, gg b12 b13, gg b14 b15] 8).2 9 0 []
theorem p4V_back {l : List UInt8} {a b c d : Int} (h : p4R l = (some [a, b, c, d], 0)) : p4V l = .tuple ⟨[.agg ⟨[.int .u8 (pb l 0), .int .u8 (pb l 1), .int .u8 (pb l 2), .int .u8 (pb l 3)]⟩, .int .i64 (pn l), .int .i64 (pe l)]⟩ := by
  unfold p4V pb pn pe; rw [h]; rfl
theorem p6V_back (l : List UInt8) : p6V l = .tuple ⟨[.agg ⟨[.int .u8 (sb l 0), .int .u8 (sb l 1), .int .u8 (sb l 2), .int .u8 (sb l 3), .int .u8 (sb l 4), .int .u8 (sb l 5), .int .u8 (sb l 6), .int .u8 (sb l 7), .int .u8 (sb l 8), .int .u8 (sb l 9), .int .u8 (sb l 10), .int .u8 (sb l 11), .int .u8 (sb l 12), .int .u8 (sb l 13), .int .u8 (sb l 14), .int .u8 (sb l 15)]⟩, .int .i64 (sn l), .int .i64 (se l)]⟩ := by
  unfold p6V sb sn se
  cases h : p6R l with
  | mk o n =>
    cases o with
    | none => rfl
    | some v => rfl
theorem flat_b (k : Int) (m : Int) (vs : List Int) : Flat (.tuple ⟨[.agg (vs.map (Value.int .u8) ++ []).toArray, .int .i64 k, .int .i64 m]⟩) := by
  refine .tuple fun i v e => ?_
  have hm := List.mem_of_getElem? (show ([.agg (vs.map (Value.int .u8) ++ []).toArray, .int .i64 k, .int .i64 m] : List Value)[i]? = some v by simpa using e)
  simp only [List.mem_cons, List.not_mem_nil, or_false] at hm
  rcases hm with rfl | rfl | rfl
  · exact flat_bytes vs [] none_mem
  · exact .int _ _
  · exact .int _ _
theorem bytesb_of {l : List Int} (h : ∀ x ∈ l, (Lit.int .u8 x).wf = true) : Bytes l := by
  intro x hx
  have := h x hx
  simp [Lit.wf, IntKind.min, IntKind.max, IntKind.bits, IntKind.signed] at this
  omega
theorem adrb4 {l : List Value} (hl : CKs (repK 4 [.int .u8]) l) : ∃ a0 a1 a2 a3 : Int, l = [.int .u8 a0, .int .u8 a1, .int .u8 a2, .int .u8 a3] ∧ Bytes [a0, a1, a2, a3] := by
  obtain _ | ⟨⟨a0, rfl, w0⟩, hl⟩ := hl
  obtain _ | ⟨⟨a1, rfl, w1⟩, hl⟩ := hl
  obtain _ | ⟨⟨a2, rfl, w2⟩, hl⟩ := hl
  obtain _ | ⟨⟨a3, rfl, w3⟩, hl⟩ := hl
  cases hl
  refine ⟨a0, a1, a2, a3, rfl, bytesb_of ?_⟩
  intro x hx
  simp only [List.mem_cons, List.not_mem_nil, or_false] at hx
  rcases hx with rfl | rfl | rfl | rfl <;> assumption
theorem adrb16 {l : List Value} (hl : CKs (repK 16 [.int .u8]) l) : ∃ a0 a1 a2 a3 a4 a5 a6 a7 a8 a9 a10 a11 a12 a13 a14 a15 : Int, l = [.int .u8 a0, .int .u8 a1, .int .u8 a2, .int .u8 a3, .int .u8 a4, .int .u8 a5, .int .u8 a6, .int .u8 a7, .int .u8 a8, .int .u8 a9, .int .u8 a10, .int .u8 a11, .int .u8 a12, .int .u8 a13, .int .u8 a14, .int .u8 a15] ∧ Bytes [a0, a1, a2, a3, a4, a5, a6, a7, a8, a9, a10, a11, a12, a13, a14, a15] := by
  obtain _ | ⟨⟨a0, rfl, w0⟩, hl⟩ := hl
  obtain _ | ⟨⟨a1, rfl, w1⟩, hl⟩ := hl
  obtain _ | ⟨⟨a2, rfl, w2⟩, hl⟩ := hl
  obtain _ | ⟨⟨a3, rfl, w3⟩, hl⟩ := hl
  obtain _ | ⟨⟨a4, rfl, w4⟩, hl⟩ := hl
  obtain _ | ⟨⟨a5, rfl, w5⟩, hl⟩ := hl
  obtain _ | ⟨⟨a6, rfl, w6⟩, hl⟩ := hl
  obtain _ | ⟨⟨a7, rfl, w7⟩, hl⟩ := hl
  obtain _ | ⟨⟨a8, rfl, w8⟩, hl⟩ := hl
  obtain _ | ⟨⟨a9, rfl, w9⟩, hl⟩ := hl
  obtain _ | ⟨⟨a10, rfl, w10⟩, hl⟩ := hl
  obtain _ | ⟨⟨a11, rfl, w11⟩, hl⟩ := hl
  obtain _ | ⟨⟨a12, rfl, w12⟩, hl⟩ := hl
  obtain _ | ⟨⟨a13, rfl, w13⟩, hl⟩ := hl
  obtain _ | ⟨⟨a14, rfl, w14⟩, hl⟩ := hl
  obtain _ | ⟨⟨a15, rfl, w15⟩, hl⟩ := hl
  cases hl
  refine ⟨a0, a1, a2, a3, a4, a5, a6, a7, a8, a9, a10, a11, a12, a13, a14, a15, rfl, bytesb_of ?_⟩
  intro x hx
  simp only [List.mem_cons, List.not_mem_nil, or_false] at hx
  rcases hx with rfl | rfl | rfl | rfl | rfl | rfl | rfl | rfl | rfl | rfl | rfl | rfl | rfl | rfl | rfl | rfl <;> assumption
theorem t4_len (a0 a1 a2 a3 : Int) : (t4L a0 a1 a2 a3).length ≤ 15 := by
  unfold t4L
  have := decL_len a0
  have := decL_len a1
  have := decL_len a2
  have := decL_len a3
  simp only [List.length_append, List.length_cons, List.length_nil]
  omega
theorem tx_len (g : List Int) (fr mo : Int) : ∀ (f i : Nat) (l : List UInt8), (tx g fr mo f i l).length ≤ l.length + 5 * f
  | 0, _, l => by unfold tx; omega
  | f + 1, i, l => by
    unfold tx
    split
    · split
      · have := tx_len g fr mo f (i + mo.toNat) (l ++ [58, 58])
        rw [List.length_append] at this
        have h2 : ([58, 58] : List UInt8).length = 2 := rfl
        omega
      · have h1 := hexL_len (g.getD i 0)
        split
        · have := tx_len g fr mo f (i + 1) (l ++ [58] ++ hexL (g.getD i 0))
          rw [List.length_append, List.length_append] at this
          have h2 : ([58] : List UInt8).length = 1 := rfl
          omega
        · have := tx_len g fr mo f (i + 1) (l ++ hexL (g.getD i 0))
          rw [List.length_append] at this
          omega
    · omega
section
variable {b0 b1 b2 b3 b4 b5 b6 b7 b8 b9 b10 b11 b12 b13 b14 b15 : Int} (k0 : 0 ≤ b0 ∧ b0 < 256) (k1 : 0 ≤ b1 ∧ b1 < 256) (k2 : 0 ≤ b2 ∧ b2 < 256) (k3 : 0 ≤ b3 ∧ b3 < 256) (k4 : 0 ≤ b4 ∧ b4 < 256) (k5 : 0 ≤ b5 ∧ b5 < 256) (k6 : 0 ≤ b6 ∧ b6 < 256) (k7 : 0 ≤ b7 ∧ b7 < 256) (k8 : 0 ≤ b8 ∧ b8 < 256) (k9 : 0 ≤ b9 ∧ b9 < 256) (k10 : 0 ≤ b10 ∧ b10 < 256) (k11 : 0 ≤ b11 ∧ b11 < 256) (k12 : 0 ≤ b12 ∧ b12 < 256) (k13 : 0 ≤ b13 ∧ b13 < 256) (k14 : 0 ≤ b14 ∧ b14 < 256) (k15 : 0 ≤ b15 ∧ b15 < 256)
include k0 k1 k2 k3 k4 k5 k6 k7 k8 k9 k10 k11 k12 k13 k14 k15
theorem t6_back : p6R (t6L b0 b1 b2 b3 b4 b5 b6 b7 b8 b9 b10 b11 b12 b13 b14 b15) = (some [gg b0 b1, gg b2 b3, gg b4 b5, gg b6 b7, gg b8 b9, gg b10 b11, gg b12 b13, gg b14 b15], 0) := by
  refine tx6_back rfl (fun i => okG_get ?_ i)
  intro n hn
  simp only [List.mem_cons, List.not_mem_nil, or_false] at hn
  rcases hn with h | h | h | h | h | h | h | h <;> subst h <;> exact ⟨gg_lo (by omega) (by omega), gg_hi (by omega) (by omega)⟩
theorem sb_0 : sb (t6L b0 b1 b2 b3 b4 b5 b6 b7 b8 b9 b10 b11 b12 b13 b14 b15) 0 = b0 := by
  unfold sb; rw [t6_back k0 k1 k2 k3 k4 k5 k6 k7 k8 k9 k10 k11 k12 k13 k14 k15]
  show gg b0 b1 / 256 = b0
  unfold gg; omega
theorem sb_1 : sb (t6L b0 b1 b2 b3 b4 b5 b6 b7 b8 b9 b10 b11 b12 b13 b14 b15) 1 = b1 := by
  unfold sb; rw [t6_back k0 k1 k2 k3 k4 k5 k6 k7 k8 k9 k10 k11 k12 k13 k14 k15]
  show gg b0 b1 % 256 = b1
  unfold gg; omega
theorem sb_2 : sb (t6L b0 b1 b2 b3 b4 b5 b6 b7 b8 b9 b10 b11 b12 b13 b14 b15) 2 = b2 := by
  unfold sb; rw [t6_back k0 k1 k2 k3 k4 k5 k6 k7 k8 k9 k10 k11 k12 k13 k14 k15]
  show gg b2 b3 / 256 = b2
  unfold gg; omega
theorem sb_3 : sb (t6L b0 b1 b2 b3 b4 b5 b6 b7 b8 b9 b10 b11 b12 b13 b14 b15) 3 = b3 := by
  unfold sb; rw [t6_back k0 k1 k2 k3 k4 k5 k6 k7 k8 k9 k10 k11 k12 k13 k14 k15]
  show gg b2 b3 % 256 = b3
  unfold gg; omega
theorem sb_4 : sb (t6L b0 b1 b2 b3 b4 b5 b6 b7 b8 b9 b10 b11 b12 b13 b14 b15) 4 = b4 := by
  unfold sb; rw [t6_back k0 k1 k2 k3 k4 k5 k6 k7 k8 k9 k10 k11 k12 k13 k14 k15]
  show gg b4 b5 / 256 = b4
  unfold gg; omega
theorem sb_5 : sb (t6L b0 b1 b2 b3 b4 b5 b6 b7 b8 b9 b10 b11 b12 b13 b14 b15) 5 = b5 := by
  unfold sb; rw [t6_back k0 k1 k2 k3 k4 k5 k6 k7 k8 k9 k10 k11 k12 k13 k14 k15]
  show gg b4 b5 % 256 = b5
  unfold gg; omega
theorem sb_6 : sb (t6L b0 b1 b2 b3 b4 b5 b6 b7 b8 b9 b10 b11 b12 b13 b14 b15) 6 = b6 := by
  unfold sb; rw [t6_back k0 k1 k2 k3 k4 k5 k6 k7 k8 k9 k10 k11 k12 k13 k14 k15]
  show gg b6 b7 / 256 = b6
  unfold gg; omega
theorem sb_7 : sb (t6L b0 b1 b2 b3 b4 b5 b6 b7 b8 b9 b10 b11 b12 b13 b14 b15) 7 = b7 := by
  unfold sb; rw [t6_back k0 k1 k2 k3 k4 k5 k6 k7 k8 k9 k10 k11 k12 k13 k14 k15]
  show gg b6 b7 % 256 = b7
  unfold gg; omega
theorem sb_8 : sb (t6L b0 b1 b2 b3 b4 b5 b6 b7 b8 b9 b10 b11 b12 b13 b14 b15) 8 = b8 := by
  unfold sb; rw [t6_back k0 k1 k2 k3 k4 k5 k6 k7 k8 k9 k10 k11 k12 k13 k14 k15]
  show gg b8 b9 / 256 = b8
  unfold gg; omega
theorem sb_9 : sb (t6L b0 b1 b2 b3 b4 b5 b6 b7 b8 b9 b10 b11 b12 b13 b14 b15) 9 = b9 := by
  unfold sb; rw [t6_back k0 k1 k2 k3 k4 k5 k6 k7 k8 k9 k10 k11 k12 k13 k14 k15]
  show gg b8 b9 % 256 = b9
  unfold gg; omega
theorem sb_10 : sb (t6L b0 b1 b2 b3 b4 b5 b6 b7 b8 b9 b10 b11 b12 b13 b14 b15) 10 = b10 := by
  unfold sb; rw [t6_back k0 k1 k2 k3 k4 k5 k6 k7 k8 k9 k10 k11 k12 k13 k14 k15]
  show gg b10 b11 / 256 = b10
  unfold gg; omega
theorem sb_11 : sb (t6L b0 b1 b2 b3 b4 b5 b6 b7 b8 b9 b10 b11 b12 b13 b14 b15) 11 = b11 := by
  unfold sb; rw [t6_back k0 k1 k2 k3 k4 k5 k6 k7 k8 k9 k10 k11 k12 k13 k14 k15]
  show gg b10 b11 % 256 = b11
  unfold gg; omega
theorem sb_12 : sb (t6L b0 b1 b2 b3 b4 b5 b6 b7 b8 b9 b10 b11 b12 b13 b14 b15) 12 = b12 := by
  unfold sb; rw [t6_back k0 k1 k2 k3 k4 k5 k6 k7 k8 k9 k10 k11 k12 k13 k14 k15]
  show gg b12 b13 / 256 = b12
  unfold gg; omega
theorem sb_13 : sb (t6L b0 b1 b2 b3 b4 b5 b6 b7 b8 b9 b10 b11 b12 b13 b14 b15) 13 = b13 := by
  unfold sb; rw [t6_back k0 k1 k2 k3 k4 k5 k6 k7 k8 k9 k10 k11 k12 k13 k14 k15]
  show gg b12 b13 % 256 = b13
  unfold gg; omega
theorem sb_14 : sb (t6L b0 b1 b2 b3 b4 b5 b6 b7 b8 b9 b10 b11 b12 b13 b14 b15) 14 = b14 := by
  unfold sb; rw [t6_back k0 k1 k2 k3 k4 k5 k6 k7 k8 k9 k10 k11 k12 k13 k14 k15]
  show gg b14 b15 / 256 = b14
  unfold gg; omega
theorem sb_15 : sb (t6L b0 b1 b2 b3 b4 b5 b6 b7 b8 b9 b10 b11 b12 b13 b14 b15) 15 = b15 := by
  unfold sb; rw [t6_back k0 k1 k2 k3 k4 k5 k6 k7 k8 k9 k10 k11 k12 k13 k14 k15]
  show gg b14 b15 % 256 = b15
  unfold gg; omega
theorem t6_inj {c0 c1 c2 c3 c4 c5 c6 c7 c8 c9 c10 c11 c12 c13 c14 c15 : Int} (j0 : 0 ≤ c0 ∧ c0 < 256) (j1 : 0 ≤ c1 ∧ c1 < 256) (j2 : 0 ≤ c2 ∧ c2 < 256) (j3 : 0 ≤ c3 ∧ c3 < 256) (j4 : 0 ≤ c4 ∧ c4 < 256) (j5 : 0 ≤ c5 ∧ c5 < 256) (j6 : 0 ≤ c6 ∧ c6 < 256) (j7 : 0 ≤ c7 ∧ c7 < 256) (j8 : 0 ≤ c8 ∧ c8 < 256) (j9 : 0 ≤ c9 ∧ c9 < 256) (j10 : 0 ≤ c10 ∧ c10 < 256) (j11 : 0 ≤ c11 ∧ c11 < 256) (j12 : 0 ≤ c12 ∧ c12 < 256) (j13 : 0 ≤ c13 ∧ c13 < 256) (j14 : 0 ≤ c14 ∧ c14 < 256) (j15 : 0 ≤ c15 ∧ c15 < 256) (h : t6L b0 b1 b2 b3 b4 b5 b6 b7 b8 b9 b10 b11 b12 b13 b14 b15 = t6L c0 c1 c2 c3 c4 c5 c6 c7 c8 c9 c10 c11 c12 c13 c14 c15) : [b0, b1, b2, b3, b4, b5, b6, b7, b8, b9, b10, b11, b12, b13, b14, b15] = [c0, c1, c2, c3, c4, c5, c6, c7, c8, c9, c10, c11, c12, c13, c14, c15] := by
  have e := t6_back k0 k1 k2 k3 k4 k5 k6 k7 k8 k9 k10 k11 k12 k13 k14 k15
  rw [h, t6_back j0 j1 j2 j3 j4 j5 j6 j7 j8 j9 j10 j11 j12 j13 j14 j15] at e
  injection e with e _
  injection e with e
  simp only [List.cons.injEq] at e
  obtain ⟨e0, e1, e2, e3, e4, e5, e6, e7, _⟩ := e
  unfold gg at e0 e1 e2 e3 e4 e5 e6 e7
  have q0 : b0 = c0 := by omega
  have q1 : b1 = c1 := by omega
  have q2 : b2 = c2 := by omega
  have q3 : b3 = c3 := by omega
  have q4 : b4 = c4 := by omega
  have q5 : b5 = c5 := by omega
  have q6 : b6 = c6 := by omega
  have q7 : b7 = c7 := by omega
  have q8 : b8 = c8 := by omega
  have q9 : b9 = c9 := by omega
  have q10 : b10 = c10 := by omega
  have q11 : b11 = c11 := by omega
  have q12 : b12 = c12 := by omega
  have q13 : b13 = c13 := by omega
  have q14 : b14 = c14 := by omega
  have q15 : b15 = c15 := by omega
  subst_vars; rfl
end
abbrev bkv0 (b0 : Int) (b1 : Int) (b2 : Int) (b3 : Int) (b4 : Int) (b5 : Int) (b6 : Int) (b7 : Int) (b8 : Int) (b9 : Int) (b10 : Int) (b11 : Int) (b12 : Int) (b13 : Int) (b14 : Int) (b15 : Int) : List Value := [(.int .u8 (sb (t6L b0 b1 b2 b3 b4 b5 b6 b7 b8 b9 b10 b11 b12 b13 b14 b15) 0)), (.int .u8 (sb (t6L b0 b1 b2 b3 b4 b5 b6 b7 b8 b9 b10 b11 b12 b13 b14 b15) 1)), (.int .u8 (sb (t6L b0 b1 b2 b3 b4 b5 b6 b7 b8 b9 b10 b11 b12 b13 b14 b15) 2)), (.int .u8 (sb (t6L b0 b1 b2 b3 b4 b5 b6 b7 b8 b9 b10 b11 b12 b13 b14 b15) 3)), (.int .u8 (sb (t6L b0 b1 b2 b3 b4 b5 b6 b7 b8 b9 b10 b11 b12 b13 b14 b15) 4)), (.int .u8 (sb (t6L b0 b1 b2 b3 b4 b5 b6 b7 b8 b9 b10 b11 b12 b13 b14 b15) 5)), (.int .u8 (sb (t6L b0 b1 b2 b3 b4 b5 b6 b7 b8 b9 b10 b11 b12 b13 b14 b15) 6)), (.int .u8 (sb (t6L b0 b1 b2 b3 b4 b5 b6 b7 b8 b9 b10 b11 b12 b13 b14 b15) 7)), (.int .u8 (sb (t6L b0 b1 b2 b3 b4 b5 b6 b7 b8 b9 b10 b11 b12 b13 b14 b15) 8)), (.int .u8 (sb (t6L b0 b1 b2 b3 b4 b5 b6 b7 b8 b9 b10 b11 b12 b13 b14 b15) 9)), (.int .u8 (sb (t6L b0 b1 b2 b3 b4 b5 b6 b7 b8 b9 b10 b11 b12 b13 b14 b15) 10)), (.int .u8 (sb (t6L b0 b1 b2 b3 b4 b5 b6 b7 b8 b9 b10 b11 b12 b13 b14 b15) 11)), (.int .u8 (sb (t6L b0 b1 b2 b3 b4 b5 b6 b7 b8 b9 b10 b11 b12 b13 b14 b15) 12)), (.int .u8 (sb (t6L b0 b1 b2 b3 b4 b5 b6 b7 b8 b9 b10 b11 b12 b13 b14 b15) 13)), (.int .u8 (sb (t6L b0 b1 b2 b3 b4 b5 b6 b7 b8 b9 b10 b11 b12 b13 b14 b15) 14)), (.int .u8 (sb (t6L b0 b1 b2 b3 b4 b5 b6 b7 b8 b9 b10 b11 b12 b13 b14 b15) 15))]
abbrev bkv1 (b0 : Int) (b1 : Int) (b2 : Int) (b3 : Int) (b4 : Int) (b5 : Int) (b6 : Int) (b7 : Int) (b8 : Int) (b9 : Int) (b10 : Int) (b11 : Int) (b12 : Int) (b13 : Int) (b14 : Int) (b15 : Int) : List Value := [(.int .u8 b0), (.int .u8 b1), (.int .u8 b2), (.int .u8 b3), (.int .u8 b4), (.int .u8 b5), (.int .u8 b6), (.int .u8 b7), (.int .u8 b8), (.int .u8 b9), (.int .u8 b10), (.int .u8 b11), (.int .u8 b12), (.int .u8 b13), (.int .u8 b14), (.int .u8 b15)]
abbrev bkv2 (c0 : Int) (c1 : Int) (c2 : Int) (c3 : Int) (c4 : Int) (c5 : Int) (c6 : Int) (c7 : Int) (c8 : Int) (c9 : Int) (c10 : Int) (c11 : Int) (c12 : Int) (c13 : Int) (c14 : Int) (c15 : Int) : List Value := [(.int .u8 c0), (.int .u8 c1), (.int .u8 c2), (.int .u8 c3), (.int .u8 c4), (.int .u8 c5), (.int .u8 c6), (.int .u8 c7), (.int .u8 c8), (.int .u8 c9), (.int .u8 c10), (.int .u8 c11), (.int .u8 c12), (.int .u8 c13), (.int .u8 c14), (.int .u8 c15)]
abbrev bkv3 (a0 : Int) (a1 : Int) (a2 : Int) (a3 : Int) : List Value := [(.int .u8 (pb (t4L a0 a1 a2 a3) 0)), (.int .u8 (pb (t4L a0 a1 a2 a3) 1)), (.int .u8 (pb (t4L a0 a1 a2 a3) 2)), (.int .u8 (pb (t4L a0 a1 a2 a3) 3))]
abbrev bkh0 (a0 : Int) (a1 : Int) (a2 : Int) (a3 : Int) (b0 : Int) (b1 : Int) (b2 : Int) (b3 : Int) (b4 : Int) (b5 : Int) (b6 : Int) (b7 : Int) (b8 : Int) (b9 : Int) (b10 : Int) (b11 : Int) (b12 : Int) (b13 : Int) (b14 : Int) (b15 : Int) (c0 : Int) (c1 : Int) (c2 : Int) (c3 : Int) (c4 : Int) (c5 : Int) (c6 : Int) (c7 : Int) (c8 : Int) (c9 : Int) (c10 : Int) (c11 : Int) (c12 : Int) (c13 : Int) (c14 : Int) (c15 : Int) : AHeap := [.cells pow10 true, .dead, .cells tab32 true, .cells tab64 true, .cells [(.int .u8 a0), (.int .u8 a1), (.int .u8 a2), (.int .u8 a3)] false, .cells (bkv1 b0 b1 b2 b3 b4 b5 b6 b7 b8 b9 b10 b11 b12 b13 b14 b15) false, .cells (bkv2 c0 c1 c2 c3 c4 c5 c6 c7 c8 c9 c10 c11 c12 c13 c14 c15) false, .tcells (bkv3 a0 a1 a2 a3) 23 (some 0), .tcells (bkv0 b0 b1 b2 b3 b4 b5 b6 b7 b8 b9 b10 b11 b12 b13 b14 b15) 31 (some 0)]
abbrev bkh1 (a0 : Int) (a1 : Int) (a2 : Int) (a3 : Int) (b0 : Int) (b1 : Int) (b2 : Int) (b3 : Int) (b4 : Int) (b5 : Int) (b6 : Int) (b7 : Int) (b8 : Int) (b9 : Int) (b10 : Int) (b11 : Int) (b12 : Int) (b13 : Int) (b14 : Int) (b15 : Int) (c0 : Int) (c1 : Int) (c2 : Int) (c3 : Int) (c4 : Int) (c5 : Int) (c6 : Int) (c7 : Int) (c8 : Int) (c9 : Int) (c10 : Int) (c11 : Int) (c12 : Int) (c13 : Int) (c14 : Int) (c15 : Int) : AHeap := [.cells pow10 true, .dead, .cells tab32 true, .cells tab64 true, .cells [(.int .u8 a0), (.int .u8 a1), (.int .u8 a2), (.int .u8 a3)] false, .cells (bkv1 b0 b1 b2 b3 b4 b5 b6 b7 b8 b9 b10 b11 b12 b13 b14 b15) false, .cells (bkv2 c0 c1 c2 c3 c4 c5 c6 c7 c8 c9 c10 c11 c12 c13 c14 c15) false, .tcells (bkv3 a0 a1 a2 a3) 23 (some 0)]
abbrev bkh2 (a0 : Int) (a1 : Int) (a2 : Int) (a3 : Int) (b0 : Int) (b1 : Int) (b2 : Int) (b3 : Int) (b4 : Int) (b5 : Int) (b6 : Int) (b7 : Int) (b8 : Int) (b9 : Int) (b10 : Int) (b11 : Int) (b12 : Int) (b13 : Int) (b14 : Int) (b15 : Int) (c0 : Int) (c1 : Int) (c2 : Int) (c3 : Int) (c4 : Int) (c5 : Int) (c6 : Int) (c7 : Int) (c8 : Int) (c9 : Int) (c10 : Int) (c11 : Int) (c12 : Int) (c13 : Int) (c14 : Int) (c15 : Int) : AHeap := [.cells pow10 true, .dead, .cells tab32 true, .cells tab64 true, .cells [(.int .u8 a0), (.int .u8 a1), (.int .u8 a2), (.int .u8 a3)] false, .cells (bkv1 b0 b1 b2 b3 b4 b5 b6 b7 b8 b9 b10 b11 b12 b13 b14 b15) false, .cells (bkv2 c0 c1 c2 c3 c4 c5 c6 c7 c8 c9 c10 c11 c12 c13 c14 c15) false]
theorem back_T (a0 a1 a2 a3 b0 b1 b2 b3 b4 b5 b6 b7 b8 b9 b10 b11 b12 b13 b14 b15 c0 c1 c2 c3 c4 c5 c6 c7 c8 c9 c10 c11 c12 c13 c14 c15 : Int) (Q : Res → Prop) : ((SpecC Tryd.prog [0, 2, 3] (.fn 15) [(.agg ⟨[(.int .u8 a0), (.int .u8 a1), (.int .u8 a2), (.int .u8 a3)]⟩)] (bkh2 a0 a1 a2 a3 b0 b1 b2 b3 b4 b5 b6 b7 b8 b9 b10 b11 b12 b13 b14 b15 c0 c1 c2 c3 c4 c5 c6 c7 c8 c9 c10 c11 c12 c13 c14 c15) (fun r h' => ∃ ia, ((fun _ : Unit => (True, Res.ret (.string (bs (t4L a0 a1 a2 a3))), ((bkh2 a0 a1 a2 a3 b0 b1 b2 b3 b4 b5 b6 b7 b8 b9 b10 b11 b12 b13 b14 b15 c0 c1 c2 c3 c4 c5 c6 c7 c8 c9 c10 c11 c12 c13 c14 c15) : AHeap))) ia).1 ∧
 r = ((fun _ : Unit => (True, Res.ret (.string (bs (t4L a0 a1 a2 a3))), ((bkh2 a0 a1 a2 a3 b0 b1 b2 b3 b4 b5 b6 b7 b8 b9 b10 b11 b12 b13 b14 b15 c0 c1 c2 c3 c4 c5 c6 c7 c8 c9 c10 c11 c12 c13 c14 c15) : AHeap))) ia).2.1 ∧
 h' = ((fun _ : Unit => (True, Res.ret (.string (bs (t4L a0 a1 a2 a3))), ((bkh2 a0 a1 a2 a3 b0 b1 b2 b3 b4 b5 b6 b7 b8 b9 b10 b11 b12 b13 b14 b15 c0 c1 c2 c3 c4 c5 c6 c7 c8 c9 c10 c11 c12 c13 c14 c15) : AHeap))) ia).2.2) ∧
∀ _ : Unit, True →
(SpecC Tryd.prog [0, 2, 3] (.fn 13) [(.string (bs (t4L a0 a1 a2 a3)))] (bkh2 a0 a1 a2 a3 b0 b1 b2 b3 b4 b5 b6 b7 b8 b9 b10 b11 b12 b13 b14 b15 c0 c1 c2 c3 c4 c5 c6 c7 c8 c9 c10 c11 c12 c13 c14 c15) (fun r h' => ∃ ia, ((fun _ : Unit => (True, Res.ret (.tuple ⟨[(.agg ⟨(bkv3 a0 a1 a2 a3)⟩), (.int .i64 (pn (t4L a0 a1 a2 a3))), (.int .i64 (pe (t4L a0 a1 a2 a3)))]⟩), ((bkh2 a0 a1 a2 a3 b0 b1 b2 b3 b4 b5 b6 b7 b8 b9 b10 b11 b12 b13 b14 b15 c0 c1 c2 c3 c4 c5 c6 c7 c8 c9 c10 c11 c12 c13 c14 c15) : AHeap))) ia).1 ∧
 r = ((fun _ : Unit => (True, Res.ret (.tuple ⟨[(.agg ⟨(bkv3 a0 a1 a2 a3)⟩), (.int .i64 (pn (t4L a0 a1 a2 a3))), (.int .i64 (pe (t4L a0 a1 a2 a3)))]⟩), ((bkh2 a0 a1 a2 a3 b0 b1 b2 b3 b4 b5 b6 b7 b8 b9 b10 b11 b12 b13 b14 b15 c0 c1 c2 c3 c4 c5 c6 c7 c8 c9 c10 c11 c12 c13 c14 c15) : AHeap))) ia).2.1 ∧
 h' = ((fun _ : Unit => (True, Res.ret (.tuple ⟨[(.agg ⟨(bkv3 a0 a1 a2 a3)⟩), (.int .i64 (pn (t4L a0 a1 a2 a3))), (.int .i64 (pe (t4L a0 a1 a2 a3)))]⟩), ((bkh2 a0 a1 a2 a3 b0 b1 b2 b3 b4 b5 b6 b7 b8 b9 b10 b11 b12 b13 b14 b15 c0 c1 c2 c3 c4 c5 c6 c7 c8 c9 c10 c11 c12 c13 c14 c15) : AHeap))) ia).2.2) ∧
∀ _ : Unit, True →
(SpecC Tryd.prog [0, 2, 3] (.fn 20) [(.agg ⟨(bkv1 b0 b1 b2 b3 b4 b5 b6 b7 b8 b9 b10 b11 b12 b13 b14 b15)⟩)] (bkh1 a0 a1 a2 a3 b0 b1 b2 b3 b4 b5 b6 b7 b8 b9 b10 b11 b12 b13 b14 b15 c0 c1 c2 c3 c4 c5 c6 c7 c8 c9 c10 c11 c12 c13 c14 c15) (fun r h' => ∃ ia, ((fun _ : Unit => (True, Res.ret (.string (bs (t6L b0 b1 b2 b3 b4 b5 b6 b7 b8 b9 b10 b11 b12 b13 b14 b15))), ((bkh1 a0 a1 a2 a3 b0 b1 b2 b3 b4 b5 b6 b7 b8 b9 b10 b11 b12 b13 b14 b15 c0 c1 c2 c3 c4 c5 c6 c7 c8 c9 c10 c11 c12 c13 c14 c15) : AHeap))) ia).1 ∧
 r = ((fun _ : Unit => (True, Res.ret (.string (bs (t6L b0 b1 b2 b3 b4 b5 b6 b7 b8 b9 b10 b11 b12 b13 b14 b15))), ((bkh1 a0 a1 a2 a3 b0 b1 b2 b3 b4 b5 b6 b7 b8 b9 b10 b11 b12 b13 b14 b15 c0 c1 c2 c3 c4 c5 c6 c7 c8 c9 c10 c11 c12 c13 c14 c15) : AHeap))) ia).2.1 ∧
 h' = ((fun _ : Unit => (True, Res.ret (.string (bs (t6L b0 b1 b2 b3 b4 b5 b6 b7 b8 b9 b10 b11 b12 b13 b14 b15))), ((bkh1 a0 a1 a2 a3 b0 b1 b2 b3 b4 b5 b6 b7 b8 b9 b10 b11 b12 b13 b14 b15 c0 c1 c2 c3 c4 c5 c6 c7 c8 c9 c10 c11 c12 c13 c14 c15) : AHeap))) ia).2.2) ∧
∀ _ : Unit, True →
(SpecC Tryd.prog [0, 2, 3] (.fn 18) [(.string (bs (t6L b0 b1 b2 b3 b4 b5 b6 b7 b8 b9 b10 b11 b12 b13 b14 b15)))] (bkh1 a0 a1 a2 a3 b0 b1 b2 b3 b4 b5 b6 b7 b8 b9 b10 b11 b12 b13 b14 b15 c0 c1 c2 c3 c4 c5 c6 c7 c8 c9 c10 c11 c12 c13 c14 c15) (fun r h' => ∃ ia, ((fun _ : Unit => (True, Res.ret (.tuple ⟨[(.agg ⟨(bkv0 b0 b1 b2 b3 b4 b5 b6 b7 b8 b9 b10 b11 b12 b13 b14 b15)⟩), (.int .i64 (sn (t6L b0 b1 b2 b3 b4 b5 b6 b7 b8 b9 b10 b11 b12 b13 b14 b15))), (.int .i64 (se (t6L b0 b1 b2 b3 b4 b5 b6 b7 b8 b9 b10 b11 b12 b13 b14 b15)))]⟩), ((bkh1 a0 a1 a2 a3 b0 b1 b2 b3 b4 b5 b6 b7 b8 b9 b10 b11 b12 b13 b14 b15 c0 c1 c2 c3 c4 c5 c6 c7 c8 c9 c10 c11 c12 c13 c14 c15) : AHeap))) ia).1 ∧
 r = ((fun _ : Unit => (True, Res.ret (.tuple ⟨[(.agg ⟨(bkv0 b0 b1 b2 b3 b4 b5 b6 b7 b8 b9 b10 b11 b12 b13 b14 b15)⟩), (.int .i64 (sn (t6L b0 b1 b2 b3 b4 b5 b6 b7 b8 b9 b10 b11 b12 b13 b14 b15))), (.int .i64 (se (t6L b0 b1 b2 b3 b4 b5 b6 b7 b8 b9 b10 b11 b12 b13 b14 b15)))]⟩), ((bkh1 a0 a1 a2 a3 b0 b1 b2 b3 b4 b5 b6 b7 b8 b9 b10 b11 b12 b13 b14 b15 c0 c1 c2 c3 c4 c5 c6 c7 c8 c9 c10 c11 c12 c13 c14 c15) : AHeap))) ia).2.1 ∧
 h' = ((fun _ : Unit => (True, Res.ret (.tuple ⟨[(.agg ⟨(bkv0 b0 b1 b2 b3 b4 b5 b6 b7 b8 b9 b10 b11 b12 b13 b14 b15)⟩), (.int .i64 (sn (t6L b0 b1 b2 b3 b4 b5 b6 b7 b8 b9 b10 b11 b12 b13 b14 b15))), (.int .i64 (se (t6L b0 b1 b2 b3 b4 b5 b6 b7 b8 b9 b10 b11 b12 b13 b14 b15)))]⟩), ((bkh1 a0 a1 a2 a3 b0 b1 b2 b3 b4 b5 b6 b7 b8 b9 b10 b11 b12 b13 b14 b15 c0 c1 c2 c3 c4 c5 c6 c7 c8 c9 c10 c11 c12 c13 c14 c15) : AHeap))) ia).2.2) ∧
∀ _ : Unit, True →
(((pe (t4L a0 a1 a2 a3) == 0) = true →
(((se (t6L b0 b1 b2 b3 b4 b5 b6 b7 b8 b9 b10 b11 b12 b13 b14 b15) == 0) = true →
(((pn (t4L a0 a1 a2 a3) == 0) = true →
(((sn (t6L b0 b1 b2 b3 b4 b5 b6 b7 b8 b9 b10 b11 b12 b13 b14 b15) == 0) = true →
((∃ z1 : Bool, aBin2 Tryd.prog BinOp.eql 23 (Operand.tmp 42) (Operand.tmp 43) (.agg ⟨(bkv3 a0 a1 a2 a3)⟩) (.agg ⟨[(.int .u8 a0), (.int .u8 a1), (.int .u8 a2), (.int .u8 a3)]⟩) = some (.bool z1)) ∧
(aBin2 Tryd.prog BinOp.eql 23 (Operand.tmp 42) (Operand.tmp 43) (.agg ⟨(bkv3 a0 a1 a2 a3)⟩) (.agg ⟨[(.int .u8 a0), (.int .u8 a1), (.int .u8 a2), (.int .u8 a3)]⟩) = some (.bool true) →
((∃ z1 : Bool, aBin2 Tryd.prog BinOp.eql 31 (Operand.tmp 47) (Operand.tmp 48) (.agg ⟨(bkv0 b0 b1 b2 b3 b4 b5 b6 b7 b8 b9 b10 b11 b12 b13 b14 b15)⟩) (.agg ⟨(bkv1 b0 b1 b2 b3 b4 b5 b6 b7 b8 b9 b10 b11 b12 b13 b14 b15)⟩) = some (.bool z1)) ∧
(aBin2 Tryd.prog BinOp.eql 31 (Operand.tmp 47) (Operand.tmp 48) (.agg ⟨(bkv0 b0 b1 b2 b3 b4 b5 b6 b7 b8 b9 b10 b11 b12 b13 b14 b15)⟩) (.agg ⟨(bkv1 b0 b1 b2 b3 b4 b5 b6 b7 b8 b9 b10 b11 b12 b13 b14 b15)⟩) = some (.bool true) →
((∃ z1 : Bool, aBin2 Tryd.prog BinOp.eql 31 (Operand.tmp 57) (Operand.tmp 58) (.agg ⟨(bkv1 b0 b1 b2 b3 b4 b5 b6 b7 b8 b9 b10 b11 b12 b13 b14 b15)⟩) (.agg ⟨(bkv2 c0 c1 c2 c3 c4 c5 c6 c7 c8 c9 c10 c11 c12 c13 c14 c15)⟩) = some (.bool z1)) ∧
(aBin2 Tryd.prog BinOp.eql 31 (Operand.tmp 57) (Operand.tmp 58) (.agg ⟨(bkv1 b0 b1 b2 b3 b4 b5 b6 b7 b8 b9 b10 b11 b12 b13 b14 b15)⟩) (.agg ⟨(bkv2 c0 c1 c2 c3 c4 c5 c6 c7 c8 c9 c10 c11 c12 c13 c14 c15)⟩) = some (.bool true) →
(SpecC Tryd.prog [0, 2, 3] (.fn 20) [(.agg ⟨(bkv1 b0 b1 b2 b3 b4 b5 b6 b7 b8 b9 b10 b11 b12 b13 b14 b15)⟩)] (bkh0 a0 a1 a2 a3 b0 b1 b2 b3 b4 b5 b6 b7 b8 b9 b10 b11 b12 b13 b14 b15 c0 c1 c2 c3 c4 c5 c6 c7 c8 c9 c10 c11 c12 c13 c14 c15) (fun r h' => ∃ ia, ((fun _ : Unit => (True, Res.ret (.string (bs (t6L b0 b1 b2 b3 b4 b5 b6 b7 b8 b9 b10 b11 b12 b13 b14 b15))), ((bkh0 a0 a1 a2 a3 b0 b1 b2 b3 b4 b5 b6 b7 b8 b9 b10 b11 b12 b13 b14 b15 c0 c1 c2 c3 c4 c5 c6 c7 c8 c9 c10 c11 c12 c13 c14 c15) : AHeap))) ia).1 ∧
 r = ((fun _ : Unit => (True, Res.ret (.string (bs (t6L b0 b1 b2 b3 b4 b5 b6 b7 b8 b9 b10 b11 b12 b13 b14 b15))), ((bkh0 a0 a1 a2 a3 b0 b1 b2 b3 b4 b5 b6 b7 b8 b9 b10 b11 b12 b13 b14 b15 c0 c1 c2 c3 c4 c5 c6 c7 c8 c9 c10 c11 c12 c13 c14 c15) : AHeap))) ia).2.1 ∧
 h' = ((fun _ : Unit => (True, Res.ret (.string (bs (t6L b0 b1 b2 b3 b4 b5 b6 b7 b8 b9 b10 b11 b12 b13 b14 b15))), ((bkh0 a0 a1 a2 a3 b0 b1 b2 b3 b4 b5 b6 b7 b8 b9 b10 b11 b12 b13 b14 b15 c0 c1 c2 c3 c4 c5 c6 c7 c8 c9 c10 c11 c12 c13 c14 c15) : AHeap))) ia).2.2) ∧
∀ _ : Unit, True →
(((some (.agg ⟨(bkv2 c0 c1 c2 c3 c4 c5 c6 c7 c8 c9 c10 c11 c12 c13 c14 c15)⟩)) : Option Value) = (some (.agg ⟨(bkv2 c0 c1 c2 c3 c4 c5 c6 c7 c8 c9 c10 c11 c12 c13 c14 c15)⟩))) ∧
(((some (.agg ⟨(bkv1 b0 b1 b2 b3 b4 b5 b6 b7 b8 b9 b10 b11 b12 b13 b14 b15)⟩)) : Option Value) = (some (.agg ⟨(bkv1 b0 b1 b2 b3 b4 b5 b6 b7 b8 b9 b10 b11 b12 b13 b14 b15)⟩))) ∧
(((some (.agg ⟨(bkv2 c0 c1 c2 c3 c4 c5 c6 c7 c8 c9 c10 c11 c12 c13 c14 c15)⟩)) : Option Value) = (some (.agg ⟨(bkv2 c0 c1 c2 c3 c4 c5 c6 c7 c8 c9 c10 c11 c12 c13 c14 c15)⟩))) ∧
(SpecC Tryd.prog [0, 2, 3] (.fn 20) [(.agg ⟨(bkv2 c0 c1 c2 c3 c4 c5 c6 c7 c8 c9 c10 c11 c12 c13 c14 c15)⟩)] (bkh0 a0 a1 a2 a3 b0 b1 b2 b3 b4 b5 b6 b7 b8 b9 b10 b11 b12 b13 b14 b15 c0 c1 c2 c3 c4 c5 c6 c7 c8 c9 c10 c11 c12 c13 c14 c15) (fun r h' => ∃ ia, ((fun _ : Unit => (True, Res.ret (.string (bs (t6L c0 c1 c2 c3 c4 c5 c6 c7 c8 c9 c10 c11 c12 c13 c14 c15))), ((bkh0 a0 a1 a2 a3 b0 b1 b2 b3 b4 b5 b6 b7 b8 b9 b10 b11 b12 b13 b14 b15 c0 c1 c2 c3 c4 c5 c6 c7 c8 c9 c10 c11 c12 c13 c14 c15) : AHeap))) ia).1 ∧
 r = ((fun _ : Unit => (True, Res.ret (.string (bs (t6L c0 c1 c2 c3 c4 c5 c6 c7 c8 c9 c10 c11 c12 c13 c14 c15))), ((bkh0 a0 a1 a2 a3 b0 b1 b2 b3 b4 b5 b6 b7 b8 b9 b10 b11 b12 b13 b14 b15 c0 c1 c2 c3 c4 c5 c6 c7 c8 c9 c10 c11 c12 c13 c14 c15) : AHeap))) ia).2.1 ∧
 h' = ((fun _ : Unit => (True, Res.ret (.string (bs (t6L c0 c1 c2 c3 c4 c5 c6 c7 c8 c9 c10 c11 c12 c13 c14 c15))), ((bkh0 a0 a1 a2 a3 b0 b1 b2 b3 b4 b5 b6 b7 b8 b9 b10 b11 b12 b13 b14 b15 c0 c1 c2 c3 c4 c5 c6 c7 c8 c9 c10 c11 c12 c13 c14 c15) : AHeap))) ia).2.2) ∧
∀ _ : Unit, True →
(((some (.agg ⟨(bkv2 c0 c1 c2 c3 c4 c5 c6 c7 c8 c9 c10 c11 c12 c13 c14 c15)⟩)) : Option Value) = (some (.agg ⟨(bkv2 c0 c1 c2 c3 c4 c5 c6 c7 c8 c9 c10 c11 c12 c13 c14 c15)⟩))) ∧
(((some (.agg ⟨(bkv1 b0 b1 b2 b3 b4 b5 b6 b7 b8 b9 b10 b11 b12 b13 b14 b15)⟩)) : Option Value) = (some (.agg ⟨(bkv1 b0 b1 b2 b3 b4 b5 b6 b7 b8 b9 b10 b11 b12 b13 b14 b15)⟩))) ∧
((((bs (t6L b0 b1 b2 b3 b4 b5 b6 b7 b8 b9 b10 b11 b12 b13 b14 b15)).toList == (bs (t6L c0 c1 c2 c3 c4 c5 c6 c7 c8 c9 c10 c11 c12 c13 c14 c15)).toList) = true →
(SpecC Tryd.prog [0, 2, 3] (.fn 17) [] (bkh0 a0 a1 a2 a3 b0 b1 b2 b3 b4 b5 b6 b7 b8 b9 b10 b11 b12 b13 b14 b15 c0 c1 c2 c3 c4 c5 c6 c7 c8 c9 c10 c11 c12 c13 c14 c15) (fun r h' => ∃ ia, ((fun _ : Unit => (True, Res.ret (.bool true), ((bkh0 a0 a1 a2 a3 b0 b1 b2 b3 b4 b5 b6 b7 b8 b9 b10 b11 b12 b13 b14 b15 c0 c1 c2 c3 c4 c5 c6 c7 c8 c9 c10 c11 c12 c13 c14 c15) : AHeap))) ia).1 ∧
 r = ((fun _ : Unit => (True, Res.ret (.bool true), ((bkh0 a0 a1 a2 a3 b0 b1 b2 b3 b4 b5 b6 b7 b8 b9 b10 b11 b12 b13 b14 b15 c0 c1 c2 c3 c4 c5 c6 c7 c8 c9 c10 c11 c12 c13 c14 c15) : AHeap))) ia).2.1 ∧
 h' = ((fun _ : Unit => (True, Res.ret (.bool true), ((bkh0 a0 a1 a2 a3 b0 b1 b2 b3 b4 b5 b6 b7 b8 b9 b10 b11 b12 b13 b14 b15 c0 c1 c2 c3 c4 c5 c6 c7 c8 c9 c10 c11 c12 c13 c14 c15) : AHeap))) ia).2.2) ∧
∀ _ : Unit, True →
 Q (.ret (.bool true)))) ∧
(((bs (t6L b0 b1 b2 b3 b4 b5 b6 b7 b8 b9 b10 b11 b12 b13 b14 b15)).toList == (bs (t6L c0 c1 c2 c3 c4 c5 c6 c7 c8 c9 c10 c11 c12 c13 c14 c15)).toList) = false →
 Q (.ret (.bool false))))))) ∧
(aBin2 Tryd.prog BinOp.eql 31 (Operand.tmp 57) (Operand.tmp 58) (.agg ⟨(bkv1 b0 b1 b2 b3 b4 b5 b6 b7 b8 b9 b10 b11 b12 b13 b14 b15)⟩) (.agg ⟨(bkv2 c0 c1 c2 c3 c4 c5 c6 c7 c8 c9 c10 c11 c12 c13 c14 c15)⟩) = some (.bool false) →
(SpecC Tryd.prog [0, 2, 3] (.fn 20) [(.agg ⟨(bkv1 b0 b1 b2 b3 b4 b5 b6 b7 b8 b9 b10 b11 b12 b13 b14 b15)⟩)] (bkh0 a0 a1 a2 a3 b0 b1 b2 b3 b4 b5 b6 b7 b8 b9 b10 b11 b12 b13 b14 b15 c0 c1 c2 c3 c4 c5 c6 c7 c8 c9 c10 c11 c12 c13 c14 c15) (fun r h' => ∃ ia, ((fun _ : Unit => (True, Res.ret (.string (bs (t6L b0 b1 b2 b3 b4 b5 b6 b7 b8 b9 b10 b11 b12 b13 b14 b15))), ((bkh0 a0 a1 a2 a3 b0 b1 b2 b3 b4 b5 b6 b7 b8 b9 b10 b11 b12 b13 b14 b15 c0 c1 c2 c3 c4 c5 c6 c7 c8 c9 c10 c11 c12 c13 c14 c15) : AHeap))) ia).1 ∧
 r = ((fun _ : Unit => (True, Res.ret (.string (bs (t6L b0 b1 b2 b3 b4 b5 b6 b7 b8 b9 b10 b11 b12 b13 b14 b15))), ((bkh0 a0 a1 a2 a3 b0 b1 b2 b3 b4 b5 b6 b7 b8 b9 b10 b11 b12 b13 b14 b15 c0 c1 c2 c3 c4 c5 c6 c7 c8 c9 c10 c11 c12 c13 c14 c15) : AHeap))) ia).2.1 ∧
 h' = ((fun _ : Unit => (True, Res.ret (.string (bs (t6L b0 b1 b2 b3 b4 b5 b6 b7 b8 b9 b10 b11 b12 b13 b14 b15))), ((bkh0 a0 a1 a2 a3 b0 b1 b2 b3 b4 b5 b6 b7 b8 b9 b10 b11 b12 b13 b14 b15 c0 c1 c2 c3 c4 c5 c6 c7 c8 c9 c10 c11 c12 c13 c14 c15) : AHeap))) ia).2.2) ∧
∀ _ : Unit, True →
(((some (.agg ⟨(bkv2 c0 c1 c2 c3 c4 c5 c6 c7 c8 c9 c10 c11 c12 c13 c14 c15)⟩)) : Option Value) = (some (.agg ⟨(bkv2 c0 c1 c2 c3 c4 c5 c6 c7 c8 c9 c10 c11 c12 c13 c14 c15)⟩))) ∧
(((some (.agg ⟨(bkv1 b0 b1 b2 b3 b4 b5 b6 b7 b8 b9 b10 b11 b12 b13 b14 b15)⟩)) : Option Value) = (some (.agg ⟨(bkv1 b0 b1 b2 b3 b4 b5 b6 b7 b8 b9 b10 b11 b12 b13 b14 b15)⟩))) ∧
(((some (.agg ⟨(bkv2 c0 c1 c2 c3 c4 c5 c6 c7 c8 c9 c10 c11 c12 c13 c14 c15)⟩)) : Option Value) = (some (.agg ⟨(bkv2 c0 c1 c2 c3 c4 c5 c6 c7 c8 c9 c10 c11 c12 c13 c14 c15)⟩))) ∧
(SpecC Tryd.prog [0, 2, 3] (.fn 20) [(.agg ⟨(bkv2 c0 c1 c2 c3 c4 c5 c6 c7 c8 c9 c10 c11 c12 c13 c14 c15)⟩)] (bkh0 a0 a1 a2 a3 b0 b1 b2 b3 b4 b5 b6 b7 b8 b9 b10 b11 b12 b13 b14 b15 c0 c1 c2 c3 c4 c5 c6 c7 c8 c9 c10 c11 c12 c13 c14 c15) (fun r h' => ∃ ia, ((fun _ : Unit => (True, Res.ret (.string (bs (t6L c0 c1 c2 c3 c4 c5 c6 c7 c8 c9 c10 c11 c12 c13 c14 c15))), ((bkh0 a0 a1 a2 a3 b0 b1 b2 b3 b4 b5 b6 b7 b8 b9 b10 b11 b12 b13 b14 b15 c0 c1 c2 c3 c4 c5 c6 c7 c8 c9 c10 c11 c12 c13 c14 c15) : AHeap))) ia).1 ∧
 r = ((fun _ : Unit => (True, Res.ret (.string (bs (t6L c0 c1 c2 c3 c4 c5 c6 c7 c8 c9 c10 c11 c12 c13 c14 c15))), ((bkh0 a0 a1 a2 a3 b0 b1 b2 b3 b4 b5 b6 b7 b8 b9 b10 b11 b12 b13 b14 b15 c0 c1 c2 c3 c4 c5 c6 c7 c8 c9 c10 c11 c12 c13 c14 c15) : AHeap))) ia).2.1 ∧
 h' = ((fun _ : Unit => (True, Res.ret (.string (bs (t6L c0 c1 c2 c3 c4 c5 c6 c7 c8 c9 c10 c11 c12 c13 c14 c15))), ((bkh0 a0 a1 a2 a3 b0 b1 b2 b3 b4 b5 b6 b7 b8 b9 b10 b11 b12 b13 b14 b15 c0 c1 c2 c3 c4 c5 c6 c7 c8 c9 c10 c11 c12 c13 c14 c15) : AHeap))) ia).2.2) ∧
∀ _ : Unit, True →
(((some (.agg ⟨(bkv2 c0 c1 c2 c3 c4 c5 c6 c7 c8 c9 c10 c11 c12 c13 c14 c15)⟩)) : Option Value) = (some (.agg ⟨(bkv2 c0 c1 c2 c3 c4 c5 c6 c7 c8 c9 c10 c11 c12 c13 c14 c15)⟩))) ∧
(((some (.agg ⟨(bkv1 b0 b1 b2 b3 b4 b5 b6 b7 b8 b9 b10 b11 b12 b13 b14 b15)⟩)) : Option Value) = (some (.agg ⟨(bkv1 b0 b1 b2 b3 b4 b5 b6 b7 b8 b9 b10 b11 b12 b13 b14 b15)⟩))) ∧
((((bs (t6L b0 b1 b2 b3 b4 b5 b6 b7 b8 b9 b10 b11 b12 b13 b14 b15)).toList == (bs (t6L c0 c1 c2 c3 c4 c5 c6 c7 c8 c9 c10 c11 c12 c13 c14 c15)).toList) = true →
 Q (.ret (.bool false))) ∧
(((bs (t6L b0 b1 b2 b3 b4 b5 b6 b7 b8 b9 b10 b11 b12 b13 b14 b15)).toList == (bs (t6L c0 c1 c2 c3 c4 c5 c6 c7 c8 c9 c10 c11 c12 c13 c14 c15)).toList) = false →
(SpecC Tryd.prog [0, 2, 3] (.fn 17) [] (bkh0 a0 a1 a2 a3 b0 b1 b2 b3 b4 b5 b6 b7 b8 b9 b10 b11 b12 b13 b14 b15 c0 c1 c2 c3 c4 c5 c6 c7 c8 c9 c10 c11 c12 c13 c14 c15) (fun r h' => ∃ ia, ((fun _ : Unit => (True, Res.ret (.bool true), ((bkh0 a0 a1 a2 a3 b0 b1 b2 b3 b4 b5 b6 b7 b8 b9 b10 b11 b12 b13 b14 b15 c0 c1 c2 c3 c4 c5 c6 c7 c8 c9 c10 c11 c12 c13 c14 c15) : AHeap))) ia).1 ∧
 r = ((fun _ : Unit => (True, Res.ret (.bool true), ((bkh0 a0 a1 a2 a3 b0 b1 b2 b3 b4 b5 b6 b7 b8 b9 b10 b11 b12 b13 b14 b15 c0 c1 c2 c3 c4 c5 c6 c7 c8 c9 c10 c11 c12 c13 c14 c15) : AHeap))) ia).2.1 ∧
 h' = ((fun _ : Unit => (True, Res.ret (.bool true), ((bkh0 a0 a1 a2 a3 b0 b1 b2 b3 b4 b5 b6 b7 b8 b9 b10 b11 b12 b13 b14 b15 c0 c1 c2 c3 c4 c5 c6 c7 c8 c9 c10 c11 c12 c13 c14 c15) : AHeap))) ia).2.2) ∧
∀ _ : Unit, True →
 Q (.ret (.bool true)))))))))) ∧
(aBin2 Tryd.prog BinOp.eql 31 (Operand.tmp 47) (Operand.tmp 48) (.agg ⟨(bkv0 b0 b1 b2 b3 b4 b5 b6 b7 b8 b9 b10 b11 b12 b13 b14 b15)⟩) (.agg ⟨(bkv1 b0 b1 b2 b3 b4 b5 b6 b7 b8 b9 b10 b11 b12 b13 b14 b15)⟩) = some (.bool false) →
 Q (.ret (.bool false))))) ∧
(aBin2 Tryd.prog BinOp.eql 23 (Operand.tmp 42) (Operand.tmp 43) (.agg ⟨(bkv3 a0 a1 a2 a3)⟩) (.agg ⟨[(.int .u8 a0), (.int .u8 a1), (.int .u8 a2), (.int .u8 a3)]⟩) = some (.bool false) →
 Q (.ret (.bool false))))) ∧
((sn (t6L b0 b1 b2 b3 b4 b5 b6 b7 b8 b9 b10 b11 b12 b13 b14 b15) == 0) = false →
 Q (.ret (.bool false))))) ∧
((pn (t4L a0 a1 a2 a3) == 0) = false →
 Q (.ret (.bool false))))) ∧
((se (t6L b0 b1 b2 b3 b4 b5 b6 b7 b8 b9 b10 b11 b12 b13 b14 b15) == 0) = false →
 Q (.ret (.bool false))))) ∧
((pe (t4L a0 a1 a2 a3) == 0) = false →
 Q (.ret (.bool false))))))))) =
    runS Tryd.prog [0, 2, 3] false [13, 15, 18, 20, 17] 0 (SpecC Tryd.prog [0, 2, 3]) 20 6 [.agg ⟨[.int .u8 a0, .int .u8 a1, .int .u8 a2, .int .u8 a3]⟩, .agg ⟨[.int .u8 b0, .int .u8 b1, .int .u8 b2, .int .u8 b3, .int .u8 b4, .int .u8 b5, .int .u8 b6, .int .u8 b7, .int .u8 b8, .int .u8 b9, .int .u8 b10, .int .u8 b11, .int .u8 b12, .int .u8 b13, .int .u8 b14, .int .u8 b15]⟩, .agg ⟨[.int .u8 c0, .int .u8 c1, .int .u8 c2, .int .u8 c3, .int .u8 c4, .int .u8 c5, .int .u8 c6, .int .u8 c7, .int .u8 c8, .int .u8 c9, .int .u8 c10, .int .u8 c11, .int .u8 c12, .int .u8 c13, .int .u8 c14, .int .u8 c15]⟩] gh .norm (.skip 5 (.call Unit (fun _ : Unit => (True, Res.ret (.string (bs (t4L a0 a1 a2 a3))), ((bkh2 a0 a1 a2 a3 b0 b1 b2 b3 b4 b5 b6 b7 b8 b9 b10 b11 b12 b13 b14 b15 c0 c1 c2 c3 c4 c5 c6 c7 c8 c9 c10 c11 c12 c13 c14 c15) : AHeap))) fun _ => .skip 0 (.call Unit (fun _ : Unit => (True, Res.ret (.tuple ⟨[(.agg ⟨(bkv3 a0 a1 a2 a3)⟩), (.int .i64 (pn (t4L a0 a1 a2 a3))), (.int .i64 (pe (t4L a0 a1 a2 a3)))]⟩), ((bkh2 a0 a1 a2 a3 b0 b1 b2 b3 b4 b5 b6 b7 b8 b9 b10 b11 b12 b13 b14 b15 c0 c1 c2 c3 c4 c5 c6 c7 c8 c9 c10 c11 c12 c13 c14 c15) : AHeap))) fun _ => .skip 9 (.call Unit (fun _ : Unit => (True, Res.ret (.string (bs (t6L b0 b1 b2 b3 b4 b5 b6 b7 b8 b9 b10 b11 b12 b13 b14 b15))), ((bkh1 a0 a1 a2 a3 b0 b1 b2 b3 b4 b5 b6 b7 b8 b9 b10 b11 b12 b13 b14 b15 c0 c1 c2 c3 c4 c5 c6 c7 c8 c9 c10 c11 c12 c13 c14 c15) : AHeap))) fun _ => .skip 0 (.call Unit (fun _ : Unit => (True, Res.ret (.tuple ⟨[(.agg ⟨(bkv0 b0 b1 b2 b3 b4 b5 b6 b7 b8 b9 b10 b11 b12 b13 b14 b15)⟩), (.int .i64 (sn (t6L b0 b1 b2 b3 b4 b5 b6 b7 b8 b9 b10 b11 b12 b13 b14 b15))), (.int .i64 (se (t6L b0 b1 b2 b3 b4 b5 b6 b7 b8 b9 b10 b11 b12 b13 b14 b15)))]⟩), ((bkh1 a0 a1 a2 a3 b0 b1 b2 b3 b4 b5 b6 b7 b8 b9 b10 b11 b12 b13 b14 b15 c0 c1 c2 c3 c4 c5 c6 c7 c8 c9 c10 c11 c12 c13 c14 c15) : AHeap))) fun _ => .skip 9 (.ask (.skip 4 (.ask (.skip 5 (.ask (.skip 5 (.ask (.skip 7 (.two (.skip 7 (.two (.skip 11 (.two (.skip 1 (.call Unit (fun _ : Unit => (True, Res.ret (.string (bs (t6L b0 b1 b2 b3 b4 b5 b6 b7 b8 b9 b10 b11 b12 b13 b14 b15))), ((bkh0 a0 a1 a2 a3 b0 b1 b2 b3 b4 b5 b6 b7 b8 b9 b10 b11 b12 b13 b14 b15 c0 c1 c2 c3 c4 c5 c6 c7 c8 c9 c10 c11 c12 c13 c14 c15) : AHeap))) fun _ => .skip 1 (.call Unit (fun _ : Unit => (True, Res.ret (.string (bs (t6L c0 c1 c2 c3 c4 c5 c6 c7 c8 c9 c10 c11 c12 c13 c14 c15))), ((bkh0 a0 a1 a2 a3 b0 b1 b2 b3 b4 b5 b6 b7 b8 b9 b10 b11 b12 b13 b14 b15 c0 c1 c2 c3 c4 c5 c6 c7 c8 c9 c10 c11 c12 c13 c14 c15) : AHeap))) fun _ => .skip 1 (.ask (.skip 5 (.call Unit (fun _ : Unit => (True, Res.ret (.bool true), ((bkh0 a0 a1 a2 a3 b0 b1 b2 b3 b4 b5 b6 b7 b8 b9 b10 b11 b12 b13 b14 b15 c0 c1 c2 c3 c4 c5 c6 c7 c8 c9 c10 c11 c12 c13 c14 c15) : AHeap))) fun _ => .go)) (.go))))) (.skip 1 (.call Unit (fun _ : Unit => (True, Res.ret (.string (bs (t6L b0 b1 b2 b3 b4 b5 b6 b7 b8 b9 b10 b11 b12 b13 b14 b15))), ((bkh0 a0 a1 a2 a3 b0 b1 b2 b3 b4 b5 b6 b7 b8 b9 b10 b11 b12 b13 b14 b15 c0 c1 c2 c3 c4 c5 c6 c7 c8 c9 c10 c11 c12 c13 c14 c15) : AHeap))) fun _ => .skip 1 (.call Unit (fun _ : Unit => (True, Res.ret (.string (bs (t6L c0 c1 c2 c3 c4 c5 c6 c7 c8 c9 c10 c11 c12 c13 c14 c15))), ((bkh0 a0 a1 a2 a3 b0 b1 b2 b3 b4 b5 b6 b7 b8 b9 b10 b11 b12 b13 b14 b15 c0 c1 c2 c3 c4 c5 c6 c7 c8 c9 c10 c11 c12 c13 c14 c15) : AHeap))) fun _ => .skip 1 (.ask (.go) (.skip 5 (.call Unit (fun _ : Unit => (True, Res.ret (.bool true), ((bkh0 a0 a1 a2 a3 b0 b1 b2 b3 b4 b5 b6 b7 b8 b9 b10 b11 b12 b13 b14 b15 c0 c1 c2 c3 c4 c5 c6 c7 c8 c9 c10 c11 c12 c13 c14 c15) : AHeap))) fun _ => .go)))))))) (.go))) (.go))) (.go))) (.go))) (.go))) (.go))))))) (fun r _ _ _ => Q r) := by kernel_rfl
theorem as_flatw {f : FuncId} {args : List Value} {v : Value} (h : Fm.Spec Tryd.prog [0, 2, 3] f args gh fun u _ => u = .ret v) (hv : Flat v) : Fm.Spec Tryd.prog [0, 2, 3] f args gh fun r _ => ∃ u, r = .ret u ∧ Flat u ∧ u = v :=
  Spec.mono h (by rintro r h' rfl; exact ⟨_, rfl, hv, rfl⟩)
set_option maxRecDepth 20000 in
theorem back_spec {a0 a1 a2 a3 b0 b1 b2 b3 b4 b5 b6 b7 b8 b9 b10 b11 b12 b13 b14 b15 c0 c1 c2 c3 c4 c5 c6 c7 c8 c9 c10 c11 c12 c13 c14 c15 : Int} (h0 : 0 ≤ a0 ∧ a0 < 256) (h1 : 0 ≤ a1 ∧ a1 < 256) (h2 : 0 ≤ a2 ∧ a2 < 256) (h3 : 0 ≤ a3 ∧ a3 < 256) (k0 : 0 ≤ b0 ∧ b0 < 256) (k1 : 0 ≤ b1 ∧ b1 < 256) (k2 : 0 ≤ b2 ∧ b2 < 256) (k3 : 0 ≤ b3 ∧ b3 < 256) (k4 : 0 ≤ b4 ∧ b4 < 256) (k5 : 0 ≤ b5 ∧ b5 < 256) (k6 : 0 ≤ b6 ∧ b6 < 256) (k7 : 0 ≤ b7 ∧ b7 < 256) (k8 : 0 ≤ b8 ∧ b8 < 256) (k9 : 0 ≤ b9 ∧ b9 < 256) (k10 : 0 ≤ b10 ∧ b10 < 256) (k11 : 0 ≤ b11 ∧ b11 < 256) (k12 : 0 ≤ b12 ∧ b12 < 256) (k13 : 0 ≤ b13 ∧ b13 < 256) (k14 : 0 ≤ b14 ∧ b14 < 256) (k15 : 0 ≤ b15 ∧ b15 < 256) (j0 : 0 ≤ c0 ∧ c0 < 256) (j1 : 0 ≤ c1 ∧ c1 < 256) (j2 : 0 ≤ c2 ∧ c2 < 256) (j3 : 0 ≤ c3 ∧ c3 < 256) (j4 : 0 ≤ c4 ∧ c4 < 256) (j5 : 0 ≤ c5 ∧ c5 < 256) (j6 : 0 ≤ c6 ∧ c6 < 256) (j7 : 0 ≤ c7 ∧ c7 < 256) (j8 : 0 ≤ c8 ∧ c8 < 256) (j9 : 0 ≤ c9 ∧ c9 < 256) (j10 : 0 ≤ c10 ∧ c10 < 256) (j11 : 0 ≤ c11 ∧ c11 < 256) (j12 : 0 ≤ c12 ∧ c12 < 256) (j13 : 0 ≤ c13 ∧ c13 < 256) (j14 : 0 ≤ c14 ∧ c14 < 256) (j15 : 0 ≤ c15 ∧ c15 < 256) :
    Fm.Spec Tryd.prog [0, 2, 3] 6 [.agg ⟨[.int .u8 a0, .int .u8 a1, .int .u8 a2, .int .u8 a3]⟩, .agg ⟨[.int .u8 b0, .int .u8 b1, .int .u8 b2, .int .u8 b3, .int .u8 b4, .int .u8 b5, .int .u8 b6, .int .u8 b7, .int .u8 b8, .int .u8 b9, .int .u8 b10, .int .u8 b11, .int .u8 b12, .int .u8 b13, .int .u8 b14, .int .u8 b15]⟩, .agg ⟨[.int .u8 c0, .int .u8 c1, .int .u8 c2, .int .u8 c3, .int .u8 c4, .int .u8 c5, .int .u8 c6, .int .u8 c7, .int .u8 c8, .int .u8 c9, .int .u8 c10, .int .u8 c11, .int .u8 c12, .int .u8 c13, .int .u8 c14, .int .u8 c15]⟩] gh fun r _ => r = .ret (.bool true) := by
  refine spec_of_script Tryd.mixed (Eq.mp (back_T a0 a1 a2 a3 b0 b1 b2 b3 b4 b5 b6 b7 b8 b9 b10 b11 b12 b13 b14 b15 c0 c1 c2 c3 c4 c5 c6 c7 c8 c9 c10 c11 c12 c13 c14 c15 fun r => r = .ret (.bool true)) ?_)
  have fa : Flat (.agg ⟨[.int .u8 a0, .int .u8 a1, .int .u8 a2, .int .u8 a3]⟩) := flat_bytes [a0, a1, a2, a3] [] none_mem
  have fb : Flat (.agg ⟨[.int .u8 b0, .int .u8 b1, .int .u8 b2, .int .u8 b3, .int .u8 b4, .int .u8 b5, .int .u8 b6, .int .u8 b7, .int .u8 b8, .int .u8 b9, .int .u8 b10, .int .u8 b11, .int .u8 b12, .int .u8 b13, .int .u8 b14, .int .u8 b15]⟩) := flat_bytes [b0, b1, b2, b3, b4, b5, b6, b7, b8, b9, b10, b11, b12, b13, b14, b15] [] none_mem
  have fc : Flat (.agg ⟨[.int .u8 c0, .int .u8 c1, .int .u8 c2, .int .u8 c3, .int .u8 c4, .int .u8 c5, .int .u8 c6, .int .u8 c7, .int .u8 c8, .int .u8 c9, .int .u8 c10, .int .u8 c11, .int .u8 c12, .int .u8 c13, .int .u8 c14, .int .u8 c15]⟩) := flat_bytes [c0, c1, c2, c3, c4, c5, c6, c7, c8, c9, c10, c11, c12, c13, c14, c15] [] none_mem
  have hA := t4_back h0 h1 h2 h3
  have hB := t6_back k0 k1 k2 k3 k4 k5 k6 k7 k8 k9 k10 k11 k12 k13 k14 k15
  have la := t4_len a0 a1 a2 a3
  have lb : (t6L b0 b1 b2 b3 b4 b5 b6 b7 b8 b9 b10 b11 b12 b13 b14 b15).length ≤ 0 + 5 * 9 := tx_len _ _ _ 9 0 []
  have p1 := as_flatw (p4V_back hA ▸ parse4_spec (l := (t4L a0 a1 a2 a3)) (by omega)) (flat_b (pn (t4L a0 a1 a2 a3)) (pe (t4L a0 a1 a2 a3)) [pb (t4L a0 a1 a2 a3) 0, pb (t4L a0 a1 a2 a3) 1, pb (t4L a0 a1 a2 a3) 2, pb (t4L a0 a1 a2 a3) 3])
  have p2 : Fun 18 [.string (bs (t6L b0 b1 b2 b3 b4 b5 b6 b7 b8 b9 b10 b11 b12 b13 b14 b15))] (.tuple ⟨[.agg ⟨[.int .u8 (sb (t6L b0 b1 b2 b3 b4 b5 b6 b7 b8 b9 b10 b11 b12 b13 b14 b15) 0), .int .u8 (sb (t6L b0 b1 b2 b3 b4 b5 b6 b7 b8 b9 b10 b11 b12 b13 b14 b15) 1), .int .u8 (sb (t6L b0 b1 b2 b3 b4 b5 b6 b7 b8 b9 b10 b11 b12 b13 b14 b15) 2), .int .u8 (sb (t6L b0 b1 b2 b3 b4 b5 b6 b7 b8 b9 b10 b11 b12 b13 b14 b15) 3), .int .u8 (sb (t6L b0 b1 b2 b3 b4 b5 b6 b7 b8 b9 b10 b11 b12 b13 b14 b15) 4), .int .u8 (sb (t6L b0 b1 b2 b3 b4 b5 b6 b7 b8 b9 b10 b11 b12 b13 b14 b15) 5), .int .u8 (sb (t6L b0 b1 b2 b3 b4 b5 b6 b7 b8 b9 b10 b11 b12 b13 b14 b15) 6), .int .u8 (sb (t6L b0 b1 b2 b3 b4 b5 b6 b7 b8 b9 b10 b11 b12 b13 b14 b15) 7), .int .u8 (sb (t6L b0 b1 b2 b3 b4 b5 b6 b7 b8 b9 b10 b11 b12 b13 b14 b15) 8), .int .u8 (sb (t6L b0 b1 b2 b3 b4 b5 b6 b7 b8 b9 b10 b11 b12 b13 b14 b15) 9), .int .u8 (sb (t6L b0 b1 b2 b3 b4 b5 b6 b7 b8 b9 b10 b11 b12 b13 b14 b15) 10), .int .u8 (sb (t6L b0 b1 b2 b3 b4 b5 b6 b7 b8 b9 b10 b11 b12 b13 b14 b15) 11), .int .u8 (sb (t6L b0 b1 b2 b3 b4 b5 b6 b7 b8 b9 b10 b11 b12 b13 b14 b15) 12), .int .u8 (sb (t6L b0 b1 b2 b3 b4 b5 b6 b7 b8 b9 b10 b11 b12 b13 b14 b15) 13), .int .u8 (sb (t6L b0 b1 b2 b3 b4 b5 b6 b7 b8 b9 b10 b11 b12 b13 b14 b15) 14), .int .u8 (sb (t6L b0 b1 b2 b3 b4 b5 b6 b7 b8 b9 b10 b11 b12 b13 b14 b15) 15)]⟩, .int .i64 (sn (t6L b0 b1 b2 b3 b4 b5 b6 b7 b8 b9 b10 b11 b12 b13 b14 b15)), .int .i64 (se (t6L b0 b1 b2 b3 b4 b5 b6 b7 b8 b9 b10 b11 b12 b13 b14 b15))]⟩) := xfun_of (p6V_back (t6L b0 b1 b2 b3 b4 b5 b6 b7 b8 b9 b10 b11 b12 b13 b14 b15) ▸ parse6_spec (l := (t6L b0 b1 b2 b3 b4 b5 b6 b7 b8 b9 b10 b11 b12 b13 b14 b15)) (by omega)) (flat_b (sn (t6L b0 b1 b2 b3 b4 b5 b6 b7 b8 b9 b10 b11 b12 b13 b14 b15)) (se (t6L b0 b1 b2 b3 b4 b5 b6 b7 b8 b9 b10 b11 b12 b13 b14 b15)) [sb (t6L b0 b1 b2 b3 b4 b5 b6 b7 b8 b9 b10 b11 b12 b13 b14 b15) 0, sb (t6L b0 b1 b2 b3 b4 b5 b6 b7 b8 b9 b10 b11 b12 b13 b14 b15) 1, sb (t6L b0 b1 b2 b3 b4 b5 b6 b7 b8 b9 b10 b11 b12 b13 b14 b15) 2, sb (t6L b0 b1 b2 b3 b4 b5 b6 b7 b8 b9 b10 b11 b12 b13 b14 b15) 3, sb (t6L b0 b1 b2 b3 b4 b5 b6 b7 b8 b9 b10 b11 b12 b13 b14 b15) 4, sb (t6L b0 b1 b2 b3 b4 b5 b6 b7 b8 b9 b10 b11 b12 b13 b14 b15) 5, sb (t6L b0 b1 b2 b3 b4 b5 b6 b7 b8 b9 b10 b11 b12 b13 b14 b15) 6, sb (t6L b0 b1 b2 b3 b4 b5 b6 b7 b8 b9 b10 b11 b12 b13 b14 b15) 7, sb (t6L b0 b1 b2 b3 b4 b5 b6 b7 b8 b9 b10 b11 b12 b13 b14 b15) 8, sb (t6L b0 b1 b2 b3 b4 b5 b6 b7 b8 b9 b10 b11 b12 b13 b14 b15) 9, sb (t6L b0 b1 b2 b3 b4 b5 b6 b7 b8 b9 b10 b11 b12 b13 b14 b15) 10, sb (t6L b0 b1 b2 b3 b4 b5 b6 b7 b8 b9 b10 b11 b12 b13 b14 b15) 11, sb (t6L b0 b1 b2 b3 b4 b5 b6 b7 b8 b9 b10 b11 b12 b13 b14 b15) 12, sb (t6L b0 b1 b2 b3 b4 b5 b6 b7 b8 b9 b10 b11 b12 b13 b14 b15) 13, sb (t6L b0 b1 b2 b3 b4 b5 b6 b7 b8 b9 b10 b11 b12 b13 b14 b15) 14, sb (t6L b0 b1 b2 b3 b4 b5 b6 b7 b8 b9 b10 b11 b12 b13 b14 b15) 15])
  have tB := as_flatw (v := .string (bs (t6L b0 b1 b2 b3 b4 b5 b6 b7 b8 b9 b10 b11 b12 b13 b14 b15))) (text6_spec k0 k1 k2 k3 k4 k5 k6 k7 k8 k9 k10 k11 k12 k13 k14 k15) (.string _)
  have tC := as_flatw (v := .string (bs (t6L c0 c1 c2 c3 c4 c5 c6 c7 c8 c9 c10 c11 c12 c13 c14 c15))) (text6_spec j0 j1 j2 j3 j4 j5 j6 j7 j8 j9 j10 j11 j12 j13 j14 j15) (.string _)
  have z1 : pe (t4L a0 a1 a2 a3) = 0 := by unfold pe; rw [hA]
  have z2 : se (t6L b0 b1 b2 b3 b4 b5 b6 b7 b8 b9 b10 b11 b12 b13 b14 b15) = 0 := by unfold se; rw [hB]
  have z3 : pn (t4L a0 a1 a2 a3) = 0 := by unfold pn; rw [hA]
  have z4 : sn (t6L b0 b1 b2 b3 b4 b5 b6 b7 b8 b9 b10 b11 b12 b13 b14 b15) = 0 := by unfold sn; rw [hB]
  have eA : [pb (t4L a0 a1 a2 a3) 0, pb (t4L a0 a1 a2 a3) 1, pb (t4L a0 a1 a2 a3) 2, pb (t4L a0 a1 a2 a3) 3] = [a0, a1, a2, a3] := by unfold pb; rw [hA]; rfl
  have eB : [sb (t6L b0 b1 b2 b3 b4 b5 b6 b7 b8 b9 b10 b11 b12 b13 b14 b15) 0, sb (t6L b0 b1 b2 b3 b4 b5 b6 b7 b8 b9 b10 b11 b12 b13 b14 b15) 1, sb (t6L b0 b1 b2 b3 b4 b5 b6 b7 b8 b9 b10 b11 b12 b13 b14 b15) 2, sb (t6L b0 b1 b2 b3 b4 b5 b6 b7 b8 b9 b10 b11 b12 b13 b14 b15) 3, sb (t6L b0 b1 b2 b3 b4 b5 b6 b7 b8 b9 b10 b11 b12 b13 b14 b15) 4, sb (t6L b0 b1 b2 b3 b4 b5 b6 b7 b8 b9 b10 b11 b12 b13 b14 b15) 5, sb (t6L b0 b1 b2 b3 b4 b5 b6 b7 b8 b9 b10 b11 b12 b13 b14 b15) 6, sb (t6L b0 b1 b2 b3 b4 b5 b6 b7 b8 b9 b10 b11 b12 b13 b14 b15) 7, sb (t6L b0 b1 b2 b3 b4 b5 b6 b7 b8 b9 b10 b11 b12 b13 b14 b15) 8, sb (t6L b0 b1 b2 b3 b4 b5 b6 b7 b8 b9 b10 b11 b12 b13 b14 b15) 9, sb (t6L b0 b1 b2 b3 b4 b5 b6 b7 b8 b9 b10 b11 b12 b13 b14 b15) 10, sb (t6L b0 b1 b2 b3 b4 b5 b6 b7 b8 b9 b10 b11 b12 b13 b14 b15) 11, sb (t6L b0 b1 b2 b3 b4 b5 b6 b7 b8 b9 b10 b11 b12 b13 b14 b15) 12, sb (t6L b0 b1 b2 b3 b4 b5 b6 b7 b8 b9 b10 b11 b12 b13 b14 b15) 13, sb (t6L b0 b1 b2 b3 b4 b5 b6 b7 b8 b9 b10 b11 b12 b13 b14 b15) 14, sb (t6L b0 b1 b2 b3 b4 b5 b6 b7 b8 b9 b10 b11 b12 b13 b14 b15) 15] = [b0, b1, b2, b3, b4, b5, b6, b7, b8, b9, b10, b11, b12, b13, b14, b15] := by
    rw [sb_0 k0 k1 k2 k3 k4 k5 k6 k7 k8 k9 k10 k11 k12 k13 k14 k15, sb_1 k0 k1 k2 k3 k4 k5 k6 k7 k8 k9 k10 k11 k12 k13 k14 k15, sb_2 k0 k1 k2 k3 k4 k5 k6 k7 k8 k9 k10 k11 k12 k13 k14 k15, sb_3 k0 k1 k2 k3 k4 k5 k6 k7 k8 k9 k10 k11 k12 k13 k14 k15, sb_4 k0 k1 k2 k3 k4 k5 k6 k7 k8 k9 k10 k11 k12 k13 k14 k15, sb_5 k0 k1 k2 k3 k4 k5 k6 k7 k8 k9 k10 k11 k12 k13 k14 k15, sb_6 k0 k1 k2 k3 k4 k5 k6 k7 k8 k9 k10 k11 k12 k13 k14 k15, sb_7 k0 k1 k2 k3 k4 k5 k6 k7 k8 k9 k10 k11 k12 k13 k14 k15, sb_8 k0 k1 k2 k3 k4 k5 k6 k7 k8 k9 k10 k11 k12 k13 k14 k15, sb_9 k0 k1 k2 k3 k4 k5 k6 k7 k8 k9 k10 k11 k12 k13 k14 k15, sb_10 k0 k1 k2 k3 k4 k5 k6 k7 k8 k9 k10 k11 k12 k13 k14 k15, sb_11 k0 k1 k2 k3 k4 k5 k6 k7 k8 k9 k10 k11 k12 k13 k14 k15, sb_12 k0 k1 k2 k3 k4 k5 k6 k7 k8 k9 k10 k11 k12 k13 k14 k15, sb_13 k0 k1 k2 k3 k4 k5 k6 k7 k8 k9 k10 k11 k12 k13 k14 k15, sb_14 k0 k1 k2 k3 k4 k5 k6 k7 k8 k9 k10 k11 k12 k13 k14 k15, sb_15 k0 k1 k2 k3 k4 k5 k6 k7 k8 k9 k10 k11 k12 k13 k14 k15]
  have no : ∀ {x : Int} {X : Prop}, x = 0 → (x == 0) = false → X := fun e h => by rw [e] at h; cases h
  refine lift_gh_call (as_flatw (text4_spec h0 h1 h2 h3) (.string _)) (one_mem fa) _ ?_
  refine lift_gh_call p1 (one_mem (.string _)) _ ?_
  refine lift_gh_call tB (one_mem fb) _ ?_
  refine p2.call (one_mem (.string _)) ?_
  refine ⟨fun _ => ⟨fun _ => ⟨fun _ => ⟨fun _ => ?_, no z4⟩, no z3⟩, no z2⟩, no z1⟩
  refine two_of (arr4 (pb (t4L a0 a1 a2 a3) 0) (pb (t4L a0 a1 a2 a3) 1) (pb (t4L a0 a1 a2 a3) 2) (pb (t4L a0 a1 a2 a3) 3) a0 a1 a2 a3) (fun _ => ?_) (fun h => ?_)
  · refine two_of (arr16 (sb (t6L b0 b1 b2 b3 b4 b5 b6 b7 b8 b9 b10 b11 b12 b13 b14 b15) 0) (sb (t6L b0 b1 b2 b3 b4 b5 b6 b7 b8 b9 b10 b11 b12 b13 b14 b15) 1) (sb (t6L b0 b1 b2 b3 b4 b5 b6 b7 b8 b9 b10 b11 b12 b13 b14 b15) 2) (sb (t6L b0 b1 b2 b3 b4 b5 b6 b7 b8 b9 b10 b11 b12 b13 b14 b15) 3) (sb (t6L b0 b1 b2 b3 b4 b5 b6 b7 b8 b9 b10 b11 b12 b13 b14 b15) 4) (sb (t6L b0 b1 b2 b3 b4 b5 b6 b7 b8 b9 b10 b11 b12 b13 b14 b15) 5) (sb (t6L b0 b1 b2 b3 b4 b5 b6 b7 b8 b9 b10 b11 b12 b13 b14 b15) 6) (sb (t6L b0 b1 b2 b3 b4 b5 b6 b7 b8 b9 b10 b11 b12 b13 b14 b15) 7) (sb (t6L b0 b1 b2 b3 b4 b5 b6 b7 b8 b9 b10 b11 b12 b13 b14 b15) 8) (sb (t6L b0 b1 b2 b3 b4 b5 b6 b7 b8 b9 b10 b11 b12 b13 b14 b15) 9) (sb (t6L b0 b1 b2 b3 b4 b5 b6 b7 b8 b9 b10 b11 b12 b13 b14 b15) 10) (sb (t6L b0 b1 b2 b3 b4 b5 b6 b7 b8 b9 b10 b11 b12 b13 b14 b15) 11) (sb (t6L b0 b1 b2 b3 b4 b5 b6 b7 b8 b9 b10 b11 b12 b13 b14 b15) 12) (sb (t6L b0 b1 b2 b3 b4 b5 b6 b7 b8 b9 b10 b11 b12 b13 b14 b15) 13) (sb (t6L b0 b1 b2 b3 b4 b5 b6 b7 b8 b9 b10 b11 b12 b13 b14 b15) 14) (sb (t6L b0 b1 b2 b3 b4 b5 b6 b7 b8 b9 b10 b11 b12 b13 b14 b15) 15) b0 b1 b2 b3 b4 b5 b6 b7 b8 b9 b10 b11 b12 b13 b14 b15) (fun _ => ?_) (fun h => ?_)
    · refine two_of (arr16 b0 b1 b2 b3 b4 b5 b6 b7 b8 b9 b10 b11 b12 b13 b14 b15 c0 c1 c2 c3 c4 c5 c6 c7 c8 c9 c10 c11 c12 c13 c14 c15) (fun hbc => ?_) (fun hbc => ?_)
      · have hbc := of_decide_eq_true hbc
        refine lift_gh_call tB (one_mem fb) _ ?_
        refine ⟨rfl, rfl, rfl, ?_⟩
        refine lift_gh_call tC (one_mem fc) _ ?_
        refine ⟨rfl, rfl, fun _ => awake_call _ rfl, fun h => ?_⟩
        simp only [List.cons.injEq, and_true] at hbc
        obtain ⟨q0, q1, q2, q3, q4, q5, q6, q7, q8, q9, q10, q11, q12, q13, q14, q15⟩ := hbc
        exfalso
        rw [q0, q1, q2, q3, q4, q5, q6, q7, q8, q9, q10, q11, q12, q13, q14, q15, beq_self_eq_true] at h; cases h
      · have hbc := of_decide_eq_false hbc
        refine lift_gh_call tB (one_mem fb) _ ?_
        refine ⟨rfl, rfl, rfl, ?_⟩
        refine lift_gh_call tC (one_mem fc) _ ?_
        refine ⟨rfl, rfl, fun h => ?_, fun _ => awake_call _ rfl⟩
        rw [bs_toList, bs_toList] at h
        exact absurd (t6_inj k0 k1 k2 k3 k4 k5 k6 k7 k8 k9 k10 k11 k12 k13 k14 k15 j0 j1 j2 j3 j4 j5 j6 j7 j8 j9 j10 j11 j12 j13 j14 j15 (by simpa using h)) hbc
    · rw [decide_eq_true eB] at h; cases h
  · rw [decide_eq_true eA] at h; cases h
theorem back_any {l0 l1 l2 : List Value} (h0 : CKs (repK 4 [.int .u8]) l0) (h1 : CKs (repK 16 [.int .u8]) l1) (h2 : CKs (repK 16 [.int .u8]) l2) : Fm.Spec Tryd.prog [0, 2, 3] 6 [.agg ⟨l0⟩, .agg ⟨l1⟩, .agg ⟨l2⟩] gh fun r _ => r = .ret (.bool true) := by
  obtain ⟨a0, a1, a2, a3, rfl, ha⟩ := adrb4 h0
  obtain ⟨b0, b1, b2, b3, b4, b5, b6, b7, b8, b9, b10, b11, b12, b13, b14, b15, rfl, hb⟩ := adrb16 h1
  obtain ⟨c0, c1, c2, c3, c4, c5, c6, c7, c8, c9, c10, c11, c12, c13, c14, c15, rfl, hc⟩ := adrb16 h2
  exact back_spec (ha a0 (by simp)) (ha a1 (by simp)) (ha a2 (by simp)) (ha a3 (by simp)) (hb b0 (by simp)) (hb b1 (by simp)) (hb b2 (by simp)) (hb b3 (by simp)) (hb b4 (by simp)) (hb b5 (by simp)) (hb b6 (by simp)) (hb b7 (by simp)) (hb b8 (by simp)) (hb b9 (by simp)) (hb b10 (by simp)) (hb b11 (by simp)) (hb b12 (by simp)) (hb b13 (by simp)) (hb b14 (by simp)) (hb b15 (by simp)) (hc c0 (by simp)) (hc c1 (by simp)) (hc c2 (by simp)) (hc c3 (by simp)) (hc c4 (by simp)) (hc c5 (by simp)) (hc c6 (by simp)) (hc c7 (by simp)) (hc c8 (by simp)) (hc c9 (by simp)) (hc c10 (by simp)) (hc c11 (by simp)) (hc c12 (by simp)) (hc c13 (by simp)) (hc c14 (by simp)) (hc c15 (by simp))
set_option maxRecDepth 100000 in
theorem back_lifted (os : Os) (started : os.Started) (H : Type) (enc : TypeId × Value → H) :
    ReturnsInHanded {} Tryd.checked os 6 .any (fun w args => (Rows.addrBackSpec.pre enc Tryd.prog Tryd.f6 [] false w args ∧ laidMetH Tryd.prog laidL w) ∧ sizedMet enc Tryd.prog Tryd.f6 (OpenSpec.ofChange Rows.addrBackSpec) false w args)
      (Rows.addrBackSpec.post enc Tryd.prog Tryd.f6 false true false false) := by
  refine returnsInHanded_of_change_and (C := Tryd.checked) (X := fun w _ => laidMetH Tryd.prog laidL w) (fun _ _ _ hh h => h.of_heap hh) Tryd.own started (by kernel_rfl) Tryd.func6
    (ChangeSpec.witness_shaped (enc := enc) (C := Tryd.checked) (os := os) (X := fun w _ => laidMetH Tryd.prog laidL w) false (World.doorLaid Tryd.prog 400 os) #[.agg #[.int .u8 0, .int .u8 0, .int .u8 0, .int .u8 0], .agg #[.int .u8 0, .int .u8 0, .int .u8 0, .int .u8 0, .int .u8 0, .int .u8 0, .int .u8 0, .int .u8 0, .int .u8 0, .int .u8 0, .int .u8 0, .int .u8 0, .int .u8 0, .int .u8 0, .int .u8 0, .int .u8 0], .agg #[.int .u8 0, .int .u8 0, .int .u8 0, .int .u8 0, .int .u8 0, .int .u8 0, .int .u8 0, .int .u8 0, .int .u8 0, .int .u8 0, .int .u8 0, .int .u8 0, .int .u8 0, .int .u8 0, .int .u8 0, .int .u8 0]] 8 rfl (World.shaped_of_RefB (by kernel_rfl) (by kernel_rfl)) (by kernel_rfl) (by kernel_rfl) (by kernel_rfl) (door_met os _)) ?_
  intro W base args ds gs before hval0 hW _ _ hL _
  have hval : ∀ (j : Nat) t v, Tryd.f6.params[j]? = some t → args[j]? = some v → Value.okWide Tryd.prog W .any base t v := hval0
  have hW' := hW
  obtain ⟨p, q, hA0, hV, rfl, hfz, hnd⟩ := hW
  have hA : DataW.TrodAll enc Tryd.prog W 0 (fun _ => true) true Tryd.f6.params.toList args.toList ds p := hA0
  rw [Tryd.params6] at hA hval
  obtain ⟨v0, v1, v2, d0, d1, d2, p0, p1, p2, rfl, rfl, rfl, h0, h1, h2⟩ := trodAll_three hA
  obtain ⟨l0, rfl, hl0, rfl⟩ := open_agg (n := 3) (ks := repK 4 [.int .u8]) (by kernel_rfl) (by kernel_rfl) (hval 0 23 v0 rfl rfl) h0
  obtain ⟨l1, rfl, hl1, rfl⟩ := open_agg (n := 3) (ks := repK 16 [.int .u8]) (by kernel_rfl) (by kernel_rfl) (hval 1 31 v1 rfl rfl) h1
  obtain ⟨l2, rfl, hl2, rfl⟩ := open_agg (n := 3) (ks := repK 16 [.int .u8]) (by kernel_rfl) (by kernel_rfl) (hval 2 31 v2 rfl rfl) h2
  obtain ⟨rfl, rfl⟩ := trodVars_none hV
  refine close_row (tb := 4) hW' rfl rfl Tryd.laidOut (by kernel_rfl) (by kernel_rfl) (by kernel_rfl) ?_
  exact calls_of_spec (back_any hl0 hl1 hl2) (.bool true) (begins hL) (Flat.lr (by
    intro v hv
    simp only [List.mem_cons, List.not_mem_nil, or_false] at hv
    rcases hv with rfl | rfl | rfl
    · exact .agg fun i v e => CKs.flat hl0 v (List.mem_of_getElem? (by simpa using e))
    · exact .agg fun i v e => CKs.flat hl1 v (List.mem_of_getElem? (by simpa using e))
    · exact .agg fun i v e => CKs.flat hl2 v (List.mem_of_getElem? (by simpa using e))) _) begins_glob
theorem back_holds : Rows.AddrBackSaid :=
  OpenClaim.holds_of_wide 6 Tryd.f6 rfl rfl rfl rfl rfl rfl rfl ⟨rfl, rfl, rfl, rfl, rfl⟩ rfl rfl rfl rfl rfl (by kernel_rfl) Tryd.func6 (by kernel_rfl)
    (of_decide_eq_true (by kernel_rfl)) (by unfold Func.isWrapper; rw [if_neg (of_decide_eq_false (by kernel_rfl))]; exact ⟨rfl, rfl⟩)
    (fun os started H enc _ => back_lifted os started H enc)
theorem back_card : Rows.AddrBackCardSaid :=
  Claim7.holds_tied_plain_at .later [] [.data, .data, .data] true (true, "2c2e10dfad521d8a68acca1e017bcd51af26f7f93c44638cb4d6de8cacc7ccee") true
    back_holds (fun _ h => by cases h) (by kernel_rfl) (fun _ h => by cases h) addrBack_row_tie rfl ⟨rfl, rfl⟩ (by kernel_rfl) rfl
    (fun f fn hf hfn => by
      obtain rfl : f = 6 := Option.some.inj ((show Tryd.prog.funcNamed "ferryman/ferrymanlaw02.AddrBack" = some 6 by kernel_rfl).symm.trans hf) |>.symm
      obtain rfl : fn = Tryd.f6 := (Option.some.inj (Tryd.func6.symm.trans hfn)).symm
      exact ⟨by kernel_rfl, fun j t ht => by
        rw [Tryd.params6] at ht
        have hm : t ∈ [23, 31, 31] := by simpa using Array.mem_of_getElem? ht
        have hall : ([23, 31, 31].all fun u => !Tryd.prog.wantsStandIn u) = true := by kernel_rfl
        exact (show Tryd.prog.wantsStandIn t = false by simpa using List.all_eq_true.1 hall t hm)⟩)
    (by kernel_rfl)
#print axioms back_card
end Go.Proofs.YtopladipgobpjaaDoor
