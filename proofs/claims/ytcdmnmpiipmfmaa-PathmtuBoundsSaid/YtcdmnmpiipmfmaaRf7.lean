/-
  The reference's Told over a row that stays. Conditions: fewer than 2^20 entries, rising by their addresses; a limit of one at least; bounded words.
-/
import Derived.Test.YtcdmnmpiipmfmaaRf6
namespace Go.Proofs.Ytcdmnmpiipmfmaa
open Go.Fm

def qK (x : Cf) (_now : Int) (E : List En) (n : Nat) (t : Int) (D : Ad) (mtu : Int) (p : Int × Int × Int) : Prop × St := (iK x E n t D mtu p, ⟨[(12, .int .i64 p.2.1), (11, .int .i64 p.2.2), (10, .int .i64 p.1), (9, .int .i64 0), (8, .bool false), (6, .pointer (some ⟨2, 0, none⟩)), (1, .int .i64 t), (0, pR)], [], [oS x t (sB 3 (tidyE t E).length), oR E, .cells (rowA D) false, oR (tidyE t E)], .norm⟩)
def mK (_x : Cf) (_now : Int) (E : List En) (_n : Nat) (t : Int) (_D : Ad) (_mtu : Int) (p : Int × Int × Int) : Nat := ((tidyE t E).length - p.2.1).toNat
def qJ0 (x : Cf) (_now : Int) (E : List En) (n : Nat) (t : Int) (D : Ad) (mtu : Int) (p : Int × Int × List En) : Prop × St := (iJ x E n t D mtu p ∧ p.2.2 = [] ∧ p.2.1 = 0, ⟨[(13, .int .i64 0), (10, .int .i64 p.1), (9, .int .i64 0), (8, .bool false), (6, .pointer (some ⟨2, 0, none⟩)), (1, .int .i64 t), (0, pR)], [], [oS x t sN, oR E, .cells (rowA D) false], .norm⟩)
def qJ1 (x : Cf) (_now : Int) (E : List En) (n : Nat) (t : Int) (D : Ad) (mtu : Int) (p : Int × Int × List En) : Prop × St := (iJ x E n t D mtu p ∧ p.2.2 ≠ [], ⟨[(13, .int .i64 p.2.1), (10, .int .i64 p.1), (9, .int .i64 0), (8, .bool false), (6, .pointer (some ⟨2, 0, none⟩)), (1, .int .i64 t), (0, pR)], [], [oS x t (sB 3 p.2.2.length), oR E, .cells (rowA D) false, oR p.2.2], .norm⟩)
def mJ (_x : Cf) (_now : Int) (_E : List En) (_n : Nat) (_t : Int) (_D : Ad) (_mtu : Int) (p : Int × Int × List En) : Nat := (p.2.2.length - p.2.1).toNat

abbrev ce1 (x : Cf) (E : List En) (t : Int) (D : Ad) (Q : Res →
 AHeap →
 Prop) (i6 : Int × Int × List En) : Prop := (aSlice Try.prog 41 (.slice (some ⟨3, 0, (some 18)⟩) i6.snd.snd.length i6.snd.snd.length) none (some (.int .i64 i6.snd.fst)) none = some (.slice (some ⟨3, 0, (some 18)⟩) i6.snd.fst.toNat i6.snd.snd.length)) ∧
(((i6.snd.fst.toNat.beq 0) = true →
((aAppend Try.prog 41 41 (.slice (some ⟨4, 0, none⟩) 0 0) (.slice (some ⟨3, 0, (some 18)⟩) i6.snd.fst.toNat i6.snd.snd.length) [.cells [(.int .i64 x.lim), (.int .i64 x.link), (.int .i64 x.life), (.int .i64 x.least), (.int .i64 t), (.slice (some ⟨3, 0, (some 18)⟩) i6.snd.snd.length i6.snd.snd.length)] false, .tcells (rwl rowE E) 66 (some 0), .cells (rowA D) false, .tcells (rwl rowE i6.snd.snd) 66 (some 0), .tcells [] 66 (some 0)] = some ((.slice (some ⟨4, 0, none⟩) 0 0), ([.cells [(.int .i64 x.lim), (.int .i64 x.link), (.int .i64 x.life), (.int .i64 x.least), (.int .i64 t), (.slice (some ⟨3, 0, (some 18)⟩) i6.snd.snd.length i6.snd.snd.length)] false, .tcells (rwl rowE E) 66 (some 0), .cells (rowA D) false, .tcells (rwl rowE i6.snd.snd) 66 (some 0), .tcells [] 66 (some 0)] : AHeap))) ∧
∀ z8 : Int, z8 = (IntKind.i64.wrap (t + x.life)) →
∀ z9 : Int, z9 = (if 1099511627776 < z8 then 1099511627776 else z8) →
((aSlice Try.prog 41 (.slice (some ⟨3, 0, (some 18)⟩) i6.snd.snd.length i6.snd.snd.length) (some (.int .i64 i6.snd.fst)) none none = some (.slice (some ⟨3, (0 + i6.snd.fst.toNat * 18), (some 18)⟩) (i6.snd.snd.length - i6.snd.fst.toNat) (i6.snd.snd.length - i6.snd.fst.toNat))) ∧
((((i6.snd.snd.length - i6.snd.fst.toNat).beq 0) = true →
((aAppend Try.prog 41 41 (.slice (some ⟨6, 0, (some 18)⟩) 1 1) (.slice (some ⟨3, (0 + i6.snd.fst.toNat * 18), (some 18)⟩) (i6.snd.snd.length - i6.snd.fst.toNat) (i6.snd.snd.length - i6.snd.fst.toNat)) [.cells [(.int .i64 x.lim), (.int .i64 x.link), (.int .i64 x.life), (.int .i64 x.least), (.int .i64 t), (.slice (some ⟨3, 0, (some 18)⟩) i6.snd.snd.length i6.snd.snd.length)] false, .tcells (rwl rowE E) 66 (some 0), .cells (rowA D) false, .tcells (rwl rowE i6.snd.snd) 66 (some 0), .tcells [] 66 (some 0), .tcells (rowE { d := D, m := i6.1, u := z9 }) 66 (some 0), .tcells (rowE { d := D, m := i6.1, u := z9 }) 66 (some 0)] = some ((.slice (some ⟨6, 0, (some 18)⟩) 1 1), ([.cells [(.int .i64 x.lim), (.int .i64 x.link), (.int .i64 x.life), (.int .i64 x.least), (.int .i64 t), (.slice (some ⟨3, 0, (some 18)⟩) i6.snd.snd.length i6.snd.snd.length)] false, .tcells (rwl rowE E) 66 (some 0), .cells (rowA D) false, .tcells (rwl rowE i6.snd.snd) 66 (some 0), .tcells [] 66 (some 0), .tcells (rowE { d := D, m := i6.1, u := z9 }) 66 (some 0), .tcells (rowE { d := D, m := i6.1, u := z9 }) 66 (some 0)] : AHeap))) ∧
 Q (.ret (.tuple ⟨[(.bool true), (.int .i64 0)]⟩)) [.cells [(.int .i64 x.lim), (.int .i64 x.link), (.int .i64 x.life), (.int .i64 x.least), (.int .i64 t), (.slice (some ⟨6, 0, (some 18)⟩) 1 1)] false, .tcells (rwl rowE E) 66 (some 0), .cells (rowA D) false, .tcells (rwl rowE i6.snd.snd) 66 (some 0), .tcells [] 66 (some 0), .tcells (rowE { d := D, m := i6.1, u := z9 }) 66 (some 0), .tcells (rowE { d := D, m := i6.1, u := z9 }) 66 (some 0)])) ∧
(((i6.snd.snd.length - i6.snd.fst.toNat).beq 0) = false →
((aAppend Try.prog 41 41 (.slice (some ⟨6, 0, (some 18)⟩) 1 1) (.slice (some ⟨3, (0 + i6.snd.fst.toNat * 18), (some 18)⟩) (i6.snd.snd.length - i6.snd.fst.toNat) (i6.snd.snd.length - i6.snd.fst.toNat)) [.cells [(.int .i64 x.lim), (.int .i64 x.link), (.int .i64 x.life), (.int .i64 x.least), (.int .i64 t), (.slice (some ⟨3, 0, (some 18)⟩) i6.snd.snd.length i6.snd.snd.length)] false, .tcells (rwl rowE E) 66 (some 0), .cells (rowA D) false, .tcells (rwl rowE i6.snd.snd) 66 (some 0), .tcells [] 66 (some 0), .tcells (rowE { d := D, m := i6.1, u := z9 }) 66 (some 0), .tcells (rowE { d := D, m := i6.1, u := z9 }) 66 (some 0)] = some ((.slice (some ⟨7, 0, (some 18)⟩) (1 + (i6.snd.snd.length - i6.snd.fst.toNat)) (1 + (i6.snd.snd.length - i6.snd.fst.toNat))), ([.cells [(.int .i64 x.lim), (.int .i64 x.link), (.int .i64 x.life), (.int .i64 x.least), (.int .i64 t), (.slice (some ⟨3, 0, (some 18)⟩) i6.snd.snd.length i6.snd.snd.length)] false, .tcells (rwl rowE E) 66 (some 0), .cells (rowA D) false, .tcells (rwl rowE i6.snd.snd) 66 (some 0), .tcells [] 66 (some 0), .tcells (rowE { d := D, m := i6.1, u := z9 }) 66 (some 0), .dead, .tcells (rwl rowE ([{ d := D, m := i6.1, u := z9 }] ++ List.take (i6.snd.snd.length - i6.snd.fst.toNat) (List.drop i6.snd.fst.toNat i6.snd.snd))) 66 (some 0)] : AHeap))) ∧
 Q (.ret (.tuple ⟨[(.bool true), (.int .i64 0)]⟩)) [.cells [(.int .i64 x.lim), (.int .i64 x.link), (.int .i64 x.life), (.int .i64 x.least), (.int .i64 t), (.slice (some ⟨7, 0, (some 18)⟩) (1 + (i6.snd.snd.length - i6.snd.fst.toNat)) (1 + (i6.snd.snd.length - i6.snd.fst.toNat)))] false, .tcells (rwl rowE E) 66 (some 0), .cells (rowA D) false, .tcells (rwl rowE i6.snd.snd) 66 (some 0), .tcells [] 66 (some 0), .tcells (rowE { d := D, m := i6.1, u := z9 }) 66 (some 0), .dead, .tcells (rwl rowE ([{ d := D, m := i6.1, u := z9 }] ++ List.take (i6.snd.snd.length - i6.snd.fst.toNat) (List.drop i6.snd.fst.toNat i6.snd.snd))) 66 (some 0)])))))) ∧
((i6.snd.fst.toNat.beq 0) = false →
((aAppend Try.prog 41 41 (.slice (some ⟨4, 0, none⟩) 0 0) (.slice (some ⟨3, 0, (some 18)⟩) i6.snd.fst.toNat i6.snd.snd.length) [.cells [(.int .i64 x.lim), (.int .i64 x.link), (.int .i64 x.life), (.int .i64 x.least), (.int .i64 t), (.slice (some ⟨3, 0, (some 18)⟩) i6.snd.snd.length i6.snd.snd.length)] false, .tcells (rwl rowE E) 66 (some 0), .cells (rowA D) false, .tcells (rwl rowE i6.snd.snd) 66 (some 0), .tcells [] 66 (some 0)] = some ((.slice (some ⟨5, 0, (some 18)⟩) i6.snd.fst.toNat i6.snd.fst.toNat), ([.cells [(.int .i64 x.lim), (.int .i64 x.link), (.int .i64 x.life), (.int .i64 x.least), (.int .i64 t), (.slice (some ⟨3, 0, (some 18)⟩) i6.snd.snd.length i6.snd.snd.length)] false, .tcells (rwl rowE E) 66 (some 0), .cells (rowA D) false, .tcells (rwl rowE i6.snd.snd) 66 (some 0), .tcells [] 66 (some 0), .tcells (rwl rowE (List.take i6.snd.fst.toNat i6.snd.snd)) 66 (some 0)] : AHeap))) ∧
∀ z8 : Int, z8 = (IntKind.i64.wrap (t + x.life)) →
∀ z9 : Int, z9 = (if 1099511627776 < z8 then 1099511627776 else z8) →
((aAppend Try.prog 41 41 (.slice (some ⟨5, 0, (some 18)⟩) i6.snd.fst.toNat i6.snd.fst.toNat) (.slice (some ⟨6, 0, none⟩) 1 1) [.cells [(.int .i64 x.lim), (.int .i64 x.link), (.int .i64 x.life), (.int .i64 x.least), (.int .i64 t), (.slice (some ⟨3, 0, (some 18)⟩) i6.snd.snd.length i6.snd.snd.length)] false, .tcells (rwl rowE E) 66 (some 0), .cells (rowA D) false, .tcells (rwl rowE i6.snd.snd) 66 (some 0), .tcells [] 66 (some 0), .tcells (rwl rowE (List.take i6.snd.fst.toNat i6.snd.snd)) 66 (some 0), .tcells (rowE { d := D, m := i6.1, u := z9 }) 66 (some 0)] = some ((.slice (some ⟨7, 0, (some 18)⟩) (i6.snd.fst.toNat + 1) (i6.snd.fst.toNat + 1)), ([.cells [(.int .i64 x.lim), (.int .i64 x.link), (.int .i64 x.life), (.int .i64 x.least), (.int .i64 t), (.slice (some ⟨3, 0, (some 18)⟩) i6.snd.snd.length i6.snd.snd.length)] false, .tcells (rwl rowE E) 66 (some 0), .cells (rowA D) false, .tcells (rwl rowE i6.snd.snd) 66 (some 0), .tcells [] 66 (some 0), .dead, .tcells (rowE { d := D, m := i6.1, u := z9 }) 66 (some 0), .tcells (rwl rowE (List.take i6.snd.fst.toNat i6.snd.snd ++ [{ d := D, m := i6.1, u := z9 }])) 66 (some 0)] : AHeap))) ∧
((aSlice Try.prog 41 (.slice (some ⟨3, 0, (some 18)⟩) i6.snd.snd.length i6.snd.snd.length) (some (.int .i64 i6.snd.fst)) none none = some (.slice (some ⟨3, (0 + i6.snd.fst.toNat * 18), (some 18)⟩) (i6.snd.snd.length - i6.snd.fst.toNat) (i6.snd.snd.length - i6.snd.fst.toNat))) ∧
((((i6.snd.snd.length - i6.snd.fst.toNat).beq 0) = true →
((aAppend Try.prog 41 41 (.slice (some ⟨7, 0, (some 18)⟩) (i6.snd.fst.toNat + 1) (i6.snd.fst.toNat + 1)) (.slice (some ⟨3, (0 + i6.snd.fst.toNat * 18), (some 18)⟩) (i6.snd.snd.length - i6.snd.fst.toNat) (i6.snd.snd.length - i6.snd.fst.toNat)) [.cells [(.int .i64 x.lim), (.int .i64 x.link), (.int .i64 x.life), (.int .i64 x.least), (.int .i64 t), (.slice (some ⟨3, 0, (some 18)⟩) i6.snd.snd.length i6.snd.snd.length)] false, .tcells (rwl rowE E) 66 (some 0), .cells (rowA D) false, .tcells (rwl rowE i6.snd.snd) 66 (some 0), .tcells [] 66 (some 0), .dead, .tcells (rowE { d := D, m := i6.1, u := z9 }) 66 (some 0), .tcells (rwl rowE (List.take i6.snd.fst.toNat i6.snd.snd ++ [{ d := D, m := i6.1, u := z9 }])) 66 (some 0)] = some ((.slice (some ⟨7, 0, (some 18)⟩) (i6.snd.fst.toNat + 1) (i6.snd.fst.toNat + 1)), ([.cells [(.int .i64 x.lim), (.int .i64 x.link), (.int .i64 x.life), (.int .i64 x.least), (.int .i64 t), (.slice (some ⟨3, 0, (some 18)⟩) i6.snd.snd.length i6.snd.snd.length)] false, .tcells (rwl rowE E) 66 (some 0), .cells (rowA D) false, .tcells (rwl rowE i6.snd.snd) 66 (some 0), .tcells [] 66 (some 0), .dead, .tcells (rowE { d := D, m := i6.1, u := z9 }) 66 (some 0), .tcells (rwl rowE (List.take i6.snd.fst.toNat i6.snd.snd ++ [{ d := D, m := i6.1, u := z9 }])) 66 (some 0)] : AHeap))) ∧
 Q (.ret (.tuple ⟨[(.bool true), (.int .i64 0)]⟩)) [.cells [(.int .i64 x.lim), (.int .i64 x.link), (.int .i64 x.life), (.int .i64 x.least), (.int .i64 t), (.slice (some ⟨7, 0, (some 18)⟩) (i6.snd.fst.toNat + 1) (i6.snd.fst.toNat + 1))] false, .tcells (rwl rowE E) 66 (some 0), .cells (rowA D) false, .tcells (rwl rowE i6.snd.snd) 66 (some 0), .tcells [] 66 (some 0), .dead, .tcells (rowE { d := D, m := i6.1, u := z9 }) 66 (some 0), .tcells (rwl rowE (List.take i6.snd.fst.toNat i6.snd.snd ++ [{ d := D, m := i6.1, u := z9 }])) 66 (some 0)])) ∧
(((i6.snd.snd.length - i6.snd.fst.toNat).beq 0) = false →
((aAppend Try.prog 41 41 (.slice (some ⟨7, 0, (some 18)⟩) (i6.snd.fst.toNat + 1) (i6.snd.fst.toNat + 1)) (.slice (some ⟨3, (0 + i6.snd.fst.toNat * 18), (some 18)⟩) (i6.snd.snd.length - i6.snd.fst.toNat) (i6.snd.snd.length - i6.snd.fst.toNat)) [.cells [(.int .i64 x.lim), (.int .i64 x.link), (.int .i64 x.life), (.int .i64 x.least), (.int .i64 t), (.slice (some ⟨3, 0, (some 18)⟩) i6.snd.snd.length i6.snd.snd.length)] false, .tcells (rwl rowE E) 66 (some 0), .cells (rowA D) false, .tcells (rwl rowE i6.snd.snd) 66 (some 0), .tcells [] 66 (some 0), .dead, .tcells (rowE { d := D, m := i6.1, u := z9 }) 66 (some 0), .tcells (rwl rowE (List.take i6.snd.fst.toNat i6.snd.snd ++ [{ d := D, m := i6.1, u := z9 }])) 66 (some 0)] = some ((.slice (some ⟨8, 0, (some 18)⟩) (i6.snd.fst.toNat + 1 + (i6.snd.snd.length - i6.snd.fst.toNat)) (i6.snd.fst.toNat + 1 + (i6.snd.snd.length - i6.snd.fst.toNat))), ([.cells [(.int .i64 x.lim), (.int .i64 x.link), (.int .i64 x.life), (.int .i64 x.least), (.int .i64 t), (.slice (some ⟨3, 0, (some 18)⟩) i6.snd.snd.length i6.snd.snd.length)] false, .tcells (rwl rowE E) 66 (some 0), .cells (rowA D) false, .tcells (rwl rowE i6.snd.snd) 66 (some 0), .tcells [] 66 (some 0), .dead, .tcells (rowE { d := D, m := i6.1, u := z9 }) 66 (some 0), .dead, .tcells (rwl rowE (List.take i6.snd.fst.toNat i6.snd.snd ++ [{ d := D, m := i6.1, u := z9 }] ++ List.take (i6.snd.snd.length - i6.snd.fst.toNat) (List.drop i6.snd.fst.toNat i6.snd.snd))) 66 (some 0)] : AHeap))) ∧
 Q (.ret (.tuple ⟨[(.bool true), (.int .i64 0)]⟩)) [.cells [(.int .i64 x.lim), (.int .i64 x.link), (.int .i64 x.life), (.int .i64 x.least), (.int .i64 t), (.slice (some ⟨8, 0, (some 18)⟩) (i6.snd.fst.toNat + 1 + (i6.snd.snd.length - i6.snd.fst.toNat)) (i6.snd.fst.toNat + 1 + (i6.snd.snd.length - i6.snd.fst.toNat)))] false, .tcells (rwl rowE E) 66 (some 0), .cells (rowA D) false, .tcells (rwl rowE i6.snd.snd) 66 (some 0), .tcells [] 66 (some 0), .dead, .tcells (rowE { d := D, m := i6.1, u := z9 }) 66 (some 0), .dead, .tcells (rwl rowE (List.take i6.snd.fst.toNat i6.snd.snd ++ [{ d := D, m := i6.1, u := z9 }] ++ List.take (i6.snd.snd.length - i6.snd.fst.toNat) (List.drop i6.snd.fst.toNat i6.snd.snd))) 66 (some 0)]))))))))
abbrev ce0 (x : Cf) (now : Int) (E : List En) (n : Nat) (t : Int) (D : Ad) (mtu : Int) (Q : Res →
 AHeap →
 Prop) : Prop := (∀ i6, (qJ0 x now E n t D mtu i6).fst →
∀ z7 : Int, z7 = (IntKind.i64.wrap (t + x.life)) →
∀ z8 : Int, z8 = (if 1099511627776 < z7 then 1099511627776 else z7) →
 Q (.ret (.tuple ⟨[(.bool true), (.int .i64 0)]⟩)) [.cells [(.int .i64 x.lim), (.int .i64 x.link), (.int .i64 x.life), (.int .i64 x.least), (.int .i64 t), (.slice (some ⟨5, 0, (some 18)⟩) 1 1)] false, .tcells (rwl rowE E) 66 (some 0), .cells (rowA D) false, .tcells [] 66 (some 0), .tcells (rowE { d := D, m := i6.1, u := z8 }) 66 (some 0), .tcells (rowE { d := D, m := i6.1, u := z8 }) 66 (some 0)]) ∧
(∀ i6, (qJ1 x now E n t D mtu i6).fst →
∀ z7 : Int, z7 = (((i6.snd.snd.length : Nat) : Int)) →
(((decide (i6.snd.fst < z7)) = true →
((aIndexAddr Try.prog 41 (.slice (some ⟨3, 0, (some 18)⟩) i6.snd.snd.length i6.snd.snd.length) (.int .i64 i6.snd.fst) = some (.pointer (some ⟨3, (0 + i6.snd.fst.toNat * 18), none⟩))) ∧
((aConvRead Try.prog 69 9 (.slice (some ⟨3, (0 + i6.snd.fst.toNat * 18), none⟩) 16 16) [.cells [(.int .i64 x.lim), (.int .i64 x.link), (.int .i64 x.life), (.int .i64 x.least), (.int .i64 t), (.slice (some ⟨3, 0, (some 18)⟩) i6.snd.snd.length i6.snd.snd.length)] false, .tcells (rwl rowE E) 66 (some 0), .cells (rowA D) false, .tcells (rwl rowE i6.snd.snd) 66 (some 0)] = some (.string (bs (bytesA (i6.snd.snd.getD i6.snd.fst.toNat Inhabited.default).d)))) ∧
(((some (.string ({ data := ((fun x => UInt8.ofNat D.a0.toNat :: x) ((fun x => UInt8.ofNat D.a1.toNat :: x) ((fun x => UInt8.ofNat D.a2.toNat :: x) ((fun x => UInt8.ofNat D.a3.toNat :: x) ((fun x => UInt8.ofNat D.a4.toNat :: x) ((fun x => UInt8.ofNat D.a5.toNat :: x) ((fun x => UInt8.ofNat D.a6.toNat :: x) ((fun x => UInt8.ofNat D.a7.toNat :: x) ((fun x => UInt8.ofNat D.a8.toNat :: x) ((fun x => UInt8.ofNat D.a9.toNat :: x) ((fun x => UInt8.ofNat D.a10.toNat :: x) ((fun x => UInt8.ofNat D.a11.toNat :: x) ((fun x => UInt8.ofNat D.a12.toNat :: x) ((fun x => UInt8.ofNat D.a13.toNat :: x) ((fun x => UInt8.ofNat D.a14.toNat :: x) ((fun x => UInt8.ofNat D.a15.toNat :: x) [])))))))))))))))).toArray })) : Option Value) = some (.string (bs ([UInt8.ofNat D.a0.toNat, UInt8.ofNat D.a1.toNat, UInt8.ofNat D.a2.toNat, UInt8.ofNat D.a3.toNat, UInt8.ofNat D.a4.toNat, UInt8.ofNat D.a5.toNat, UInt8.ofNat D.a6.toNat, UInt8.ofNat D.a7.toNat, UInt8.ofNat D.a8.toNat, UInt8.ofNat D.a9.toNat, UInt8.ofNat D.a10.toNat, UInt8.ofNat D.a11.toNat, UInt8.ofNat D.a12.toNat, UInt8.ofNat D.a13.toNat, UInt8.ofNat D.a14.toNat, UInt8.ofNat D.a15.toNat])))) ∧
(((Go.Op.bytesLess (bs (bytesA (i6.snd.snd.getD i6.snd.fst.toNat Inhabited.default).d)).toList (bs [UInt8.ofNat D.a0.toNat, UInt8.ofNat D.a1.toNat, UInt8.ofNat D.a2.toNat, UInt8.ofNat D.a3.toNat, UInt8.ofNat D.a4.toNat, UInt8.ofNat D.a5.toNat, UInt8.ofNat D.a6.toNat, UInt8.ofNat D.a7.toNat, UInt8.ofNat D.a8.toNat, UInt8.ofNat D.a9.toNat, UInt8.ofNat D.a10.toNat, UInt8.ofNat D.a11.toNat, UInt8.ofNat D.a12.toNat, UInt8.ofNat D.a13.toNat, UInt8.ofNat D.a14.toNat, UInt8.ofNat D.a15.toNat]).toList) = true →
∀ z8 : Int, z8 = (IntKind.i64.wrap (i6.snd.fst + 1)) →
(someN [] 2 (fun a' => (mJ x now E n t D mtu) a' < (mJ x now E n t D mtu) i6) ⟨[(13, (.int .i64 z8)), (10, (.int .i64 i6.fst)), (9, (.int .i64 0)), (8, (.bool false)), (6, (.pointer (some ⟨2, 0, none⟩))), (1, (.int .i64 t)), (0, (.pointer (some ⟨0, 0, none⟩)))], [], [.cells [(.int .i64 x.lim), (.int .i64 x.link), (.int .i64 x.life), (.int .i64 x.least), (.int .i64 t), (.slice (some ⟨3, 0, (some 18)⟩) i6.snd.snd.length i6.snd.snd.length)] false, .tcells (rwl rowE E) 66 (some 0), .cells (rowA D) false, .tcells (rwl rowE i6.snd.snd) 66 (some 0)], .norm⟩ [(qJ0 x now E n t D mtu), (qJ1 x now E n t D mtu)])) ∧
((Go.Op.bytesLess (bs (bytesA (i6.snd.snd.getD i6.snd.fst.toNat Inhabited.default).d)).toList (bs [UInt8.ofNat D.a0.toNat, UInt8.ofNat D.a1.toNat, UInt8.ofNat D.a2.toNat, UInt8.ofNat D.a3.toNat, UInt8.ofNat D.a4.toNat, UInt8.ofNat D.a5.toNat, UInt8.ofNat D.a6.toNat, UInt8.ofNat D.a7.toNat, UInt8.ofNat D.a8.toNat, UInt8.ofNat D.a9.toNat, UInt8.ofNat D.a10.toNat, UInt8.ofNat D.a11.toNat, UInt8.ofNat D.a12.toNat, UInt8.ofNat D.a13.toNat, UInt8.ofNat D.a14.toNat, UInt8.ofNat D.a15.toNat]).toList) = false →
((ce1 x E t D Q i6)))))))) ∧
((decide (i6.snd.fst < z7)) = false →
((ce1 x E t D Q i6)))))
abbrev ce2 (x : Cf) (now : Int) (E : List En) (n : Nat) (t : Int) (D : Ad) (mtu : Int) (Q : Res →
 AHeap →
 Prop) (z1 : Int) : Prop := ((decide (atM D (tidyE t E) ≥ 0)) = true →
((kWoB (AObj.tcells (rwl rowE E) 66 (Option.some 0)) (AObj.cells [Go.Value.int IntKind.u8 D.a0, Go.Value.int IntKind.u8 D.a1, Go.Value.int IntKind.u8 D.a2, Go.Value.int IntKind.u8 D.a3, Go.Value.int IntKind.u8 D.a4, Go.Value.int IntKind.u8 D.a5, Go.Value.int IntKind.u8 D.a6, Go.Value.int IntKind.u8 D.a7, Go.Value.int IntKind.u8 D.a8, Go.Value.int IntKind.u8 D.a9, Go.Value.int IntKind.u8 D.a10, Go.Value.int IntKind.u8 D.a11, Go.Value.int IntKind.u8 D.a12, Go.Value.int IntKind.u8 D.a13, Go.Value.int IntKind.u8 D.a14, Go.Value.int IntKind.u8 D.a15] Bool.false) x t (tidyE t E) (tidyE t E).length (atM D (tidyE t E))).asks Try.prog [] 34 ∧
(∀ _ : List En, (wo (tidyE t E) (atM D (tidyE t E)) = []) →
((someN [] 2 (fun _ => True) ⟨[(13, (.int .i64 0)), (10, (.int .i64 z1)), (9, (.int .i64 0)), (8, (.bool false)), (6, (.pointer (some ⟨2, 0, none⟩))), (1, (.int .i64 t)), (0, (.pointer (some ⟨0, 0, none⟩)))], [], [.cells [(.int .i64 x.lim), (.int .i64 x.link), (.int .i64 x.life), (.int .i64 x.least), (.int .i64 t), (.slice none 0 0)] false, .tcells (rwl rowE E) 66 (some 0), .cells (rowA D) false, .tcells (rwl rowE (tidyE t E)) 66 (some 0)], .norm⟩ [(qJ0 x now E n t D mtu), (qJ1 x now E n t D mtu)]) ∧
(ce0 x now E n t D mtu Q))) ∧
(∀ i3 : List En, (i3 = wo (tidyE t E) (atM D (tidyE t E)) ∧
 i3 ≠ []) →
((someN [] 2 (fun _ => True) ⟨[(13, (.int .i64 0)), (10, (.int .i64 z1)), (9, (.int .i64 0)), (8, (.bool false)), (6, (.pointer (some ⟨2, 0, none⟩))), (1, (.int .i64 t)), (0, (.pointer (some ⟨0, 0, none⟩)))], [], [.cells [(.int .i64 x.lim), (.int .i64 x.link), (.int .i64 x.life), (.int .i64 x.least), (.int .i64 t), (.slice (some ⟨4, 0, (some 18)⟩) i3.length i3.length)] false, .tcells (rwl rowE E) 66 (some 0), .cells (rowA D) false, .tcells (rwl rowE (tidyE t E)) 66 (some 0), .tcells (rwl rowE i3) 66 (some 0)], .norm⟩ [(qJ0 x now E n t D mtu), (qJ1 x now E n t D mtu)]) ∧
(ce0 x now E n t D mtu Q))))) ∧
((decide (atM D (tidyE t E) ≥ 0)) = false →
((someN [] 2 (fun _ => True) ⟨[(13, (.int .i64 0)), (10, (.int .i64 z1)), (9, (.int .i64 0)), (8, (.bool false)), (6, (.pointer (some ⟨2, 0, none⟩))), (1, (.int .i64 t)), (0, (.pointer (some ⟨0, 0, none⟩)))], [], [.cells [(.int .i64 x.lim), (.int .i64 x.link), (.int .i64 x.life), (.int .i64 x.least), (.int .i64 t), (.slice (some ⟨3, 0, (some 18)⟩) ((tidyE t E).length) ((tidyE t E).length))] false, .tcells (rwl rowE E) 66 (some 0), .cells (rowA D) false, .tcells (rwl rowE (tidyE t E)) 66 (some 0)], .norm⟩ [(qJ0 x now E n t D mtu), (qJ1 x now E n t D mtu)]) ∧
(ce0 x now E n t D mtu Q)))

noncomputable abbrev krf70s0 (x : Cf) (E : List En) (t : Int) (D : Ad) (i6 : Int × Int × List En) : Scr := .skip 0 (.byB (i6.snd.fst.toNat.beq 0) (.skip 0 (.put (.slice (some ⟨4, 0, none⟩) 0 0) [oS x t (sB 3 i6.snd.snd.length), oR E, oA D, oR i6.snd.snd, .tcells [] 66 (some 0)] (.skip 10 (.all (fun _z8 => .skip 0 (.all (fun z9 => .skip 10 (.val (.slice (some ⟨3, (0 + i6.snd.fst.toNat * 18), (some 18)⟩) (i6.snd.snd.length - i6.snd.fst.toNat) (i6.snd.snd.length - i6.snd.fst.toNat)) (.skip 0 (.byB ((i6.snd.snd.length - i6.snd.fst.toNat).beq 0) (.skip 0 (.put (sB 6 1) [oS x t (sB 3 i6.snd.snd.length), oR E, oA D, oR i6.snd.snd, .tcells [] 66 (some 0), .tcells (rowE { d := D, m := i6.1, u := z9 }) 66 (some 0), .tcells (rowE { d := D, m := i6.1, u := z9 }) 66 (some 0)] (.go))) (.skip 0 (.put (sB 7 (1 + (i6.snd.snd.length - i6.snd.fst.toNat))) [oS x t (sB 3 i6.snd.snd.length), oR E, oA D, oR i6.snd.snd, .tcells [] 66 (some 0), .tcells (rowE { d := D, m := i6.1, u := z9 }) 66 (some 0), .dead, oR ([{ d := D, m := i6.1, u := z9 }] ++ List.take (i6.snd.snd.length - i6.snd.fst.toNat) (List.drop i6.snd.fst.toNat i6.snd.snd))] (.go))))))))))))) (.skip 0 (.put (sB 5 i6.snd.fst.toNat) [oS x t (sB 3 i6.snd.snd.length), oR E, oA D, oR i6.snd.snd, .tcells [] 66 (some 0), oR (List.take i6.snd.fst.toNat i6.snd.snd)] (.skip 10 (.all (fun _z8 => .skip 0 (.all (fun z9 => .skip 1 (.put (sB 7 (i6.snd.fst.toNat + 1)) [oS x t (sB 3 i6.snd.snd.length), oR E, oA D, oR i6.snd.snd, .tcells [] 66 (some 0), .dead, .tcells (rowE { d := D, m := i6.1, u := z9 }) 66 (some 0), oR (List.take i6.snd.fst.toNat i6.snd.snd ++ [{ d := D, m := i6.1, u := z9 }])] (.skip 8 (.val (.slice (some ⟨3, (0 + i6.snd.fst.toNat * 18), (some 18)⟩) (i6.snd.snd.length - i6.snd.fst.toNat) (i6.snd.snd.length - i6.snd.fst.toNat)) (.skip 0 (.byB ((i6.snd.snd.length - i6.snd.fst.toNat).beq 0) (.skip 0 (.put (sB 7 (i6.snd.fst.toNat + 1)) [oS x t (sB 3 i6.snd.snd.length), oR E, oA D, oR i6.snd.snd, .tcells [] 66 (some 0), .dead, .tcells (rowE { d := D, m := i6.1, u := z9 }) 66 (some 0), oR (List.take i6.snd.fst.toNat i6.snd.snd ++ [{ d := D, m := i6.1, u := z9 }])] (.go))) (.skip 0 (.put (sB 8 (i6.snd.fst.toNat + 1 + (i6.snd.snd.length - i6.snd.fst.toNat))) [oS x t (sB 3 i6.snd.snd.length), oR E, oA D, oR i6.snd.snd, .tcells [] 66 (some 0), .dead, .tcells (rowE { d := D, m := i6.1, u := z9 }) 66 (some 0), .dead, oR (List.take i6.snd.fst.toNat i6.snd.snd ++ [{ d := D, m := i6.1, u := z9 }] ++ List.take (i6.snd.snd.length - i6.snd.fst.toNat) (List.drop i6.snd.fst.toNat i6.snd.snd))] (.go))))))))))))))))
noncomputable abbrev krf70s1 (x : Cf) (E : List En) (t : Int) (D : Ad) (i6 : Int × Int × List En) : Scr := .skip 12 (.val (.pointer (some ⟨3, (0 + i6.snd.fst.toNat * 18), none⟩)) (.skip 1 (.raw (.skip 1 (.raw (.skip 1 (.val (.string (bs (bytesA (gx i6.snd.snd i6.snd.fst).d))) (.skip 3 (.val (.string (bs ([UInt8.ofNat D.a0.toNat, UInt8.ofNat D.a1.toNat, UInt8.ofNat D.a2.toNat, UInt8.ofNat D.a3.toNat, UInt8.ofNat D.a4.toNat, UInt8.ofNat D.a5.toNat, UInt8.ofNat D.a6.toNat, UInt8.ofNat D.a7.toNat, UInt8.ofNat D.a8.toNat, UInt8.ofNat D.a9.toNat, UInt8.ofNat D.a10.toNat, UInt8.ofNat D.a11.toNat, UInt8.ofNat D.a12.toNat, UInt8.ofNat D.a13.toNat, UInt8.ofNat D.a14.toNat, UInt8.ofNat D.a15.toNat]))) (.skip 1 (.ask (.skip 3 (.all (fun _z8 => .go))) (.skip 8 (.val (.slice (some ⟨3, 0, (some 18)⟩) i6.snd.fst.toNat i6.snd.snd.length) (krf70s0 x E t D i6))))))))))))))
noncomputable abbrev krf70s4 (x : Cf) (E : List En) (t : Int) (D : Ad) (i6 : Int × Int × List En) : Scr := .skip 21 (.val (.slice (some ⟨3, 0, (some 18)⟩) i6.snd.fst.toNat i6.snd.snd.length) (krf70s0 x E t D i6))
noncomputable abbrev krf70s2 (x : Cf) (now : Int) (E : List En) (n : Nat) (t : Int) (D : Ad) (mtu : Int) : Scr := .skip 3 (.callN (List En) (kWoB (oR E) (oA D) x t (tidyE t E) (tidyE t E).length (atM D (tidyE t E))).posts (fun k => match k with | 0 => fun _i1003 => .skip 1 (.invN [13, 10, 9, 8, 6, 1, 0] _ (mJ x now E n t D mtu) [(qJ0 x now E n t D mtu), (qJ1 x now E n t D mtu)] (fun k => match k with | 0 => fun _i4 => .skip 40 (.all (fun _z5 => .skip 0 (.all (fun _z6 => .go)))) | _ => fun i4 => .skip 5 (.all (fun _z5 => .skip 0 (.ask (krf70s1 x E t D i4) (krf70s4 x E t D i4)))))) | _ => fun _i1003 => .skip 1 (.invN [13, 10, 9, 8, 6, 1, 0] _ (mJ x now E n t D mtu) [(qJ0 x now E n t D mtu), (qJ1 x now E n t D mtu)] (fun k => match k with | 0 => fun _i4 => .skip 40 (.all (fun _z5 => .skip 0 (.all (fun _z6 => .go)))) | _ => fun i4 => .skip 5 (.all (fun _z5 => .skip 0 (.ask (krf70s1 x E t D i4) (krf70s4 x E t D i4))))))))
noncomputable abbrev krf70s3 (x : Cf) (now : Int) (E : List En) (n : Nat) (t : Int) (D : Ad) (mtu : Int) : Scr := .skip 2 (.invN [13, 10, 9, 8, 6, 1, 0] _ (mJ x now E n t D mtu) [(qJ0 x now E n t D mtu), (qJ1 x now E n t D mtu)] (fun k => match k with | 0 => fun _i1005 => .skip 40 (.all (fun _z6 => .skip 0 (.all (fun _z7 => .go)))) | _ => fun i1005 => .skip 5 (.all (fun _z6 => .skip 0 (.ask (krf70s1 x E t D i1005) (krf70s4 x E t D i1005))))))
theorem run_rtol1 (x : Cf) (now : Int) (E : List En) (n : Nat) (t : Int) (D : Ad) (mtu : Int) (Q : Res → AHeap → Prop) : ((((decide (t < now)) = true →
 Q (.ret (.tuple ⟨[(.bool false), (iv 153)]⟩)) [oS x now (sB 1 n), oR E, oA D]) ∧
((decide (t < now)) = false →
(((decide (t > 1099511627776)) = true →
 Q (.ret (.tuple ⟨[(.bool false), (iv 153)]⟩)) [oS x now (sB 1 n), oR E, oA D]) ∧
((decide (t > 1099511627776)) = false →
(((decide (mtu < 0)) = true →
 Q (.ret (.tuple ⟨[(.bool false), (iv 131)]⟩)) [oS x now (sB 1 n), oR E, oA D]) ∧
((decide (mtu < 0)) = false →
(((decide (mtu > 65535)) = true →
 Q (.ret (.tuple ⟨[(.bool false), (iv 131)]⟩)) [oS x now (sB 1 n), oR E, oA D]) ∧
((decide (mtu > 65535)) = false →
((kBt1 (oA D) x now t E n).asks Try.prog [] 25 ∧
∀ _ : Unit, (True) →
∀ z1 : Int, z1 = (if x.least > mtu then x.least else mtu) →
((kMtB (oR E) (oA D) x t (tidyE t E) (tidyE t E).length D).asks Try.prog [] 26 ∧
∀ _ : Unit, (True) →
(((decide (z1 ≥ lookE D x (tidyE t E))) = true →
 Q (.ret (.tuple ⟨[(.bool false), (iv 0)]⟩)) [oS x t (sB 3 ((tidyE t E).length)), oR E, oA D, oR (tidyE t E)]) ∧
((decide (z1 ≥ lookE D x (tidyE t E))) = false →
((kAtB3 (oR E) (oA D) x t (tidyE t E) (tidyE t E).length D).asks Try.prog [] 33 ∧
∀ _ : Unit, (True) →
(((decide (atM D (tidyE t E) < 0)) = true →
∀ z2 : Int, z2 = ((((tidyE t E).length : Nat) : Int)) →
(((decide (z2 ≥ x.lim)) = true →
((someN [] 2 (fun _ => True) ⟨[(12, (iv 0)), (11, (iv 0)), (10, (iv z1)), (9, (iv 0)), (8, (.bool false)), (6, (pp 2)), (1, (iv t)), (0, (pp 0))], [], [oS x t (sB 3 ((tidyE t E).length)), oR E, oA D, oR (tidyE t E)], .norm⟩ [(qK x now E n t D mtu)]) ∧
(∀ i3, (qK x now E n t D mtu i3).fst →
∀ z4 : Int, z4 = ((((tidyE t E).length : Nat) : Int)) →
(((decide (i3.snd.fst < z4)) = true →
((aIndexAddr Try.prog 41 (sB 3 ((tidyE t E).length)) (iv i3.snd.fst) = some (.pointer (some ⟨3, (0 + i3.snd.fst.toNat * 18), none⟩))) ∧
((∃ z5 : Int, aLoad Try.prog 3 (.pointer (some ⟨0, (0 + i3.snd.fst.toNat * 18 + 17), none⟩)) (hp (tidyE t E)) = some (iv z5)) ∧
∀ z5 : Int, aLoad Try.prog 3 (.pointer (some ⟨0, (0 + i3.snd.fst.toNat * 18 + 17), none⟩)) (hp (tidyE t E)) = some (iv z5) →
((aIndexAddr Try.prog 41 (sB 3 ((tidyE t E).length)) (iv i3.snd.snd) = some (.pointer (some ⟨3, (0 + i3.snd.snd.toNat * 18), none⟩))) ∧
((∃ z6 : Int, aLoad Try.prog 3 (.pointer (some ⟨0, (0 + i3.snd.snd.toNat * 18 + 17), none⟩)) (hp (tidyE t E)) = some (iv z6)) ∧
∀ z6 : Int, aLoad Try.prog 3 (.pointer (some ⟨0, (0 + i3.snd.snd.toNat * 18 + 17), none⟩)) (hp (tidyE t E)) = some (iv z6) →
(((decide (z5 < z6)) = true →
∀ z7 : Int, z7 = (IntKind.i64.wrap (i3.snd.fst + 1)) →
(someN [] 2 (fun a' => (mK x now E n t D mtu) a' < (mK x now E n t D mtu) i3) ⟨[(12, (iv z7)), (11, (iv i3.snd.fst)), (10, (iv i3.fst)), (9, (iv 0)), (8, (.bool false)), (6, (pp 2)), (1, (iv t)), (0, (pp 0))], [], [oS x t (sB 3 ((tidyE t E).length)), oR E, oA D, oR (tidyE t E)], .norm⟩ [(qK x now E n t D mtu)])) ∧
((decide (z5 < z6)) = false →
∀ z7 : Int, z7 = (IntKind.i64.wrap (i3.snd.fst + 1)) →
(someN [] 2 (fun a' => (mK x now E n t D mtu) a' < (mK x now E n t D mtu) i3) ⟨[(12, (iv z7)), (11, (iv i3.snd.snd)), (10, (iv i3.fst)), (9, (iv 0)), (8, (.bool false)), (6, (pp 2)), (1, (iv t)), (0, (pp 0))], [], [oS x t (sB 3 ((tidyE t E).length)), oR E, oA D, oR (tidyE t E)], .norm⟩ [(qK x now E n t D mtu)])))))))) ∧
((decide (i3.snd.fst < z4)) = false →
(((decide (i3.snd.snd ≥ 0)) = true →
((kWoB (oR E) (oA D) x t (tidyE t E) (tidyE t E).length i3.snd.snd).asks Try.prog [] 34 ∧
(∀ _ : List En, (wo (tidyE t E) i3.snd.snd = []) →
((someN [] 2 (fun _ => True) ⟨[(13, (iv 0)), (10, (iv i3.fst)), (9, (iv 0)), (8, (.bool false)), (6, (pp 2)), (1, (iv t)), (0, (pp 0))], [], [oS x t sN, oR E, oA D, oR (tidyE t E)], .norm⟩ [(qJ0 x now E n t D mtu), (qJ1 x now E n t D mtu)]) ∧
(ce0 x now E n t D mtu Q))) ∧
(∀ i5 : List En, (i5 = wo (tidyE t E) i3.snd.snd ∧
 i5 ≠ []) →
((someN [] 2 (fun _ => True) ⟨[(13, (iv 0)), (10, (iv i3.fst)), (9, (iv 0)), (8, (.bool false)), (6, (pp 2)), (1, (iv t)), (0, (pp 0))], [], [oS x t (sB 4 i5.length), oR E, oA D, oR (tidyE t E), oR i5], .norm⟩ [(qJ0 x now E n t D mtu), (qJ1 x now E n t D mtu)]) ∧
(ce0 x now E n t D mtu Q))))) ∧
((decide (i3.snd.snd ≥ 0)) = false →
((someN [] 2 (fun _ => True) ⟨[(13, (iv 0)), (10, (iv i3.fst)), (9, (iv 0)), (8, (.bool false)), (6, (pp 2)), (1, (iv t)), (0, (pp 0))], [], [oS x t (sB 3 ((tidyE t E).length)), oR E, oA D, oR (tidyE t E)], .norm⟩ [(qJ0 x now E n t D mtu), (qJ1 x now E n t D mtu)]) ∧
(ce0 x now E n t D mtu Q))))))))) ∧
((decide (z2 ≥ x.lim)) = false →
((ce2 x now E n t D mtu Q z1))))) ∧
((decide (atM D (tidyE t E) < 0)) = false →
((ce2 x now E n t D mtu Q z1)))))))))))))))))) =
    runS Try.prog [] false [25, 26, 33, 34] 0 (SpecC Try.prog []) 20 15 [pR, .int .i64 t, .agg ⟨rowA D⟩, .int .i64 mtu] (hB x now E n) .norm (.skip 8 (.ask (.go) (.skip 4 (.ask (.go) (.skip 3 (.ask (.go) (.skip 4 (.ask (.go) (.skip 4 (.call (Unit) (kBt1 (oA D) x now t E n).post fun _ => .skip 6 (.all (fun _z1 => .skip 4 (.call (Unit) (kMtB (oR E) (oA D) x t (tidyE t E) (tidyE t E).length D).post fun _ => .skip 0 (.ask (.go) (.skip 3 (.call (Unit) (kAtB3 (oR E) (oA D) x t (tidyE t E) (tidyE t E).length D).post fun _ => .skip 2 (.ask (.skip 10 (.all (fun _z2 => .skip 11 (.ask (.skip 4 (.invN [12, 11, 10, 9, 8, 6, 1, 0] _ (mK x now E n t D mtu) [(qK x now E n t D mtu)] (fun k => match k with | _ => fun i3 => .skip 5 (.all (fun _z4 => .skip 0 (.ask (.skip 6 (.val (.pointer (some ⟨3, (0 + i3.snd.fst.toNat * 18), none⟩)) (.skip 1 (.gen (Int) (fun x => .int .i64 x) fun _z5 => .skip 5 (.val (.pointer (some ⟨3, (0 + i3.snd.snd.toNat * 18), none⟩)) (.skip 1 (.gen (Int) (fun x => .int .i64 x) fun _z6 => .skip 0 (.ask (.skip 4 (.all (fun _z7 => .go))) (.skip 2 (.all (fun _z7 => .go))))))))))) (.skip 2 (.ask (.skip 3 (.callN (List En) (kWoB (oR E) (oA D) x t (tidyE t E) (tidyE t E).length i3.snd.snd).posts (fun k => match k with | 0 => fun _i5 => .skip 1 (.invN [13, 10, 9, 8, 6, 1, 0] _ (mJ x now E n t D mtu) [(qJ0 x now E n t D mtu), (qJ1 x now E n t D mtu)] (fun k => match k with | 0 => fun _i6 => .skip 40 (.all (fun _z7 => .skip 0 (.all (fun _z8 => .go)))) | _ => fun i6 => .skip 5 (.all (fun _z7 => .skip 0 (.ask (krf70s1 x E t D i6) (krf70s4 x E t D i6)))))) | _ => fun _i5 => .skip 1 (.invN [13, 10, 9, 8, 6, 1, 0] _ (mJ x now E n t D mtu) [(qJ0 x now E n t D mtu), (qJ1 x now E n t D mtu)] (fun k => match k with | 0 => fun _i6 => .skip 40 (.all (fun _z7 => .skip 0 (.all (fun _z8 => .go)))) | _ => fun i6 => .skip 5 (.all (fun _z7 => .skip 0 (.ask (krf70s1 x E t D i6) (krf70s4 x E t D i6))))))))) (krf70s3 x now E n t D mtu))))))))) (.skip 3 (.ask (krf70s2 x now E n t D mtu) (krf70s3 x now E n t D mtu))))))) (.skip 15 (.ask (krf70s2 x now E n t D mtu) (krf70s3 x now E n t D mtu)))))))))))))))))))) (fun r _ h _ => Q r h) := by kernel_rfl

section
variable {x : Cf} {now t mtu : Int} {D : Ad} {E : List En} {n : Nat} {Q : Res → AHeap → Prop}
theorem put_at {p : Int × Int × List En} (h : iJ x E n t D mtu p) (h3 : ¬ p.2.1 < p.2.2.length ∨ ¬ numB (bytesA (p.2.2.getD p.2.1.toNat default).d) < numB (bytesA D)) :
    insE (eT x t D mtu) (roomE x D (tidyE t E)) = p.2.2.take p.2.1.toNat ++ eT x t D mtu :: p.2.2.drop p.2.1.toNat := by
  rw [← h.2.1]
  exact ins_at (e := eT x t D mtu) h.2.2.1 h.2.2.2.1 h.2.2.2.2 h3
/-- the ends behind the search -/
theorem end_put {p : Int × Int × List En} {k q : Nat} {h : AHeap} {r : List En} (hi : iJ x E n t D mtu p) (h3 : ¬ p.2.1 < p.2.2.length ∨ ¬ numB (bytesA (p.2.2.getD p.2.1.toNat default).d) < numB (bytesA D))
    (hQ : ∀ r h', QT (hB x now E n) x t D mtu (tidyE t E) r h' → Q r h') (hk : 2 ≤ k) (h0 : h[0]? = some (oS x t (sB k q))) (h1 : h[1]? = some (oR E)) (h2 : h[k]? = some (oR r)) (hr : r = p.2.2.take p.2.1.toNat ++ eT x t D mtu :: p.2.2.drop p.2.1.toNat) (hq : q = r.length) :
    Q (.ret (vB (true, 0))) h := by
  refine hQ _ _ ?_
  rw [← put_at hi h3] at hr
  subst hq
  subst hr
  exact jB1 rfl hk h0 h1 h2 insE_ne
theorem part_ce1 {i6 : Int × Int × List En} (hb2 : (tidyE t E).length < 2 ^ 20) (HT1 : -2 ^ 63 ≤ t + x.life) (HT2 : t + x.life < 2 ^ 63) (hQ : ∀ r h', QT (hB x now E n) x t D mtu (tidyE t E) r h' → Q r h') (hi : iJ x E n t D mtu i6) (hne : i6.2.2 ≠ []) (h3 : ¬ i6.2.1 < i6.2.2.length ∨ ¬ numB (bytesA (i6.2.2.getD i6.2.1.toNat default).d) < numB (bytesA D)) : ce1 x E t D Q i6 := by
  obtain ⟨f1, fr, f2, f3, f5⟩ := id hi
  have f4 : i6.2.1.toNat ≤ i6.2.2.length := by omega
  have f6 : i6.2.2.length < 2 ^ 20 := by rw [fr]; have := room_len (x := x) (D := D) (E := tidyE t E); omega
  refine ⟨sl_to f2 f3, ?_⟩
  refine ⟨fun hz => ?_, fun hz => ?_⟩
  replace hz := Nat.eq_of_beq_eq_true hz
  refine ⟨app_nil (k := 0) hz rfl rfl (Nat.zero_le _) (Nat.le_refl _), ?_⟩
  intro z8 hz8
  intro z9 hz9
  replace hz9 : z9 = endE x t := hz9.trans (endE_of hz8 HT1 HT2)
  subst hz9
  rw [show i6.1 = maxE x mtu from hi.1]
  refine ⟨sl_from f2 f3, ?_⟩
  refine ⟨fun hy => ?_, fun hy => ?_⟩
  replace hy := Nat.eq_of_beq_eq_true hy
  refine ⟨app_nil (k := i6.2.1.toNat) hy rfl (by omega) f4 (Nat.le_refl _), ?_⟩
  exact absurd hne (fun h => h (List.length_eq_zero_iff.1 (by omega)))
  replace hy := Nat.pos_of_ne_zero (Nat.ne_of_beq_eq_false hy)
  refine ⟨app_rows (l := [eT x t D mtu]) rfl rfl rfl (by omega) (by omega) (by omega) (by rw [List.length_singleton]; omega), ?_⟩
  exact end_put hi h3 hQ (by decide) (k := 7) rfl rfl rfl (by rw [hz, List.drop_zero, List.take_zero]; simp [List.take_of_length_le]) (by rw [List.length_append, List.length_take, List.length_drop]; simp)
  replace hz := Nat.pos_of_ne_zero (Nat.ne_of_beq_eq_false hz)
  refine ⟨app_rows0 rfl hz f4 (by omega), ?_⟩
  intro z8 hz8
  intro z9 hz9
  replace hz9 : z9 = endE x t := hz9.trans (endE_of hz8 HT1 HT2)
  subst hz9
  rw [show i6.1 = maxE x mtu from hi.1]
  refine ⟨app_one rfl (by rw [List.length_take]; omega) rfl (by rw [List.length_take]; omega), ?_⟩
  refine ⟨sl_from f2 f3, ?_⟩
  refine ⟨fun hy => ?_, fun hy => ?_⟩
  replace hy := Nat.eq_of_beq_eq_true hy
  refine ⟨app_nil (k := i6.2.1.toNat) hy rfl (by omega) f4 (Nat.le_refl _), ?_⟩
  exact end_put hi h3 hQ (by decide) (k := 7) rfl rfl rfl (by rw [List.drop_eq_nil_of_le (by omega)]) (by rw [List.length_append, List.length_take, List.length_singleton]; omega)
  replace hy := Nat.pos_of_ne_zero (Nat.ne_of_beq_eq_false hy)
  refine ⟨app_rows (l := i6.2.2.take i6.2.1.toNat ++ [eT x t D mtu]) rfl (by rw [List.length_append, List.length_take, List.length_singleton]; omega) rfl (by omega) (by omega) (by omega) (by rw [List.length_append, List.length_take, List.length_singleton]; omega), ?_⟩
  exact end_put hi h3 hQ (by decide) (k := 8) rfl rfl rfl (by rw [List.append_assoc, List.take_of_length_le (l := i6.2.2.drop i6.2.1.toNat) (by rw [List.length_drop]; exact Nat.le_refl _)]; rfl) (by rw [List.length_append, List.length_append, List.length_take, List.length_take, List.length_drop, List.length_singleton]; omega)
theorem part_ce0 (hb2 : (tidyE t E).length < 2 ^ 20) (HT1 : -2 ^ 63 ≤ t + x.life) (HT2 : t + x.life < 2 ^ 63) (hQ : ∀ r h', QT (hB x now E n) x t D mtu (tidyE t E) r h' → Q r h') : ce0 x now E n t D mtu Q := by
  refine ⟨?_, ?_⟩
  rintro i6 ⟨hi, e0, e1⟩
  intro z7 hz7
  intro z8 hz8
  replace hz8 : z8 = endE x t := hz8.trans (endE_of hz7 HT1 HT2)
  subst hz8
  rw [show i6.1 = maxE x mtu from hi.1]
  exact end_put hi (.inl (by rw [e0, e1]; decide)) hQ (by decide) (k := 5) rfl rfl (r := [eT x t D mtu]) rfl (by rw [e0]; simp) rfl
  rintro i6 ⟨hi, hne⟩
  obtain ⟨f1, fr, f2, f3, f5⟩ := id hi
  have f4 : i6.2.1.toNat ≤ i6.2.2.length := by omega
  have f6 : i6.2.2.length < 2 ^ 20 := by rw [fr]; have := room_len (x := x) (D := D) (E := tidyE t E); omega
  intro z7 hz7
  replace hz7 : z7 = ((i6.2.2.length : Nat) : Int) := hz7
  subst hz7
  refine ⟨fun hlt => ?_, fun hlt => ?_⟩
  replace hlt := of_decide_eq_true hlt
  refine ⟨ixb f2 (by omega), ?_⟩
  refine ⟨conv_row rfl (by omega), ?_⟩
  refine ⟨rfl, ?_⟩
  refine ⟨fun hb => ?_, fun hb => ?_⟩
  rw [bsl, show (bs [UInt8.ofNat D.a0.toNat, UInt8.ofNat D.a1.toNat, UInt8.ofNat D.a2.toNat, UInt8.ofNat D.a3.toNat, UInt8.ofNat D.a4.toNat, UInt8.ofNat D.a5.toNat, UInt8.ofNat D.a6.toNat, UInt8.ofNat D.a7.toNat, UInt8.ofNat D.a8.toNat, UInt8.ofNat D.a9.toNat, UInt8.ofNat D.a10.toNat, UInt8.ofNat D.a11.toNat, UInt8.ofNat D.a12.toNat, UInt8.ofNat D.a13.toNat, UInt8.ofNat D.a14.toNat, UInt8.ofNat D.a15.toNat]).toList = bytesA D from bsl _, bytes_num] at hb
  replace hb := of_decide_eq_true hb
  intro z8 hz8
  rw [wr (by omega) (by omega)] at hz8
  subst hz8
  exact .inr ⟨(i6.1, i6.2.1 + 1, i6.2.2), ⟨J_step hi hlt hb, hne⟩, by show (i6.2.2.length - (i6.2.1 + 1)).toNat < (i6.2.2.length - i6.2.1).toNat; omega, Gc.same⟩
  rw [bsl, show (bs [UInt8.ofNat D.a0.toNat, UInt8.ofNat D.a1.toNat, UInt8.ofNat D.a2.toNat, UInt8.ofNat D.a3.toNat, UInt8.ofNat D.a4.toNat, UInt8.ofNat D.a5.toNat, UInt8.ofNat D.a6.toNat, UInt8.ofNat D.a7.toNat, UInt8.ofNat D.a8.toNat, UInt8.ofNat D.a9.toNat, UInt8.ofNat D.a10.toNat, UInt8.ofNat D.a11.toNat, UInt8.ofNat D.a12.toNat, UInt8.ofNat D.a13.toNat, UInt8.ofNat D.a14.toNat, UInt8.ofNat D.a15.toNat]).toList = bytesA D from bsl _, bytes_num] at hb
  replace hb := of_decide_eq_false hb
  exact part_ce1 hb2 HT1 HT2 hQ hi hne (.inr hb)
  replace hlt := of_decide_eq_false hlt
  exact part_ce1 hb2 HT1 HT2 hQ hi hne (.inl hlt)
theorem room_free0 (h0 : atM D (tidyE t E) < 0) (hc : ¬ atM D (tidyE t E) < 0 ∨ (atM D (tidyE t E) < 0 ∧ ¬ ((tidyE t E).length : Int) ≥ x.lim)) : tidyE t E = roomE x D (tidyE t E) :=
  (room_free (has_no h0) (hc.resolve_left (fun h => h h0)).2).symm
theorem part_ce2 {z1 : Int} (hu : Up E) (hb2 : (tidyE t E).length < 2 ^ 20) (HT1 : -2 ^ 63 ≤ t + x.life) (HT2 : t + x.life < 2 ^ 63) (hQ : ∀ r h', QT (hB x now E n) x t D mtu (tidyE t E) r h' → Q r h') (hz : z1 = maxE x mtu) (hte : tidyE t E ≠ []) (hc : ¬ atM D (tidyE t E) < 0 ∨ (atM D (tidyE t E) < 0 ∧ ¬ ((tidyE t E).length : Int) ≥ x.lim)) : ce2 x now E n t D mtu Q z1 := by
  refine ⟨fun h0 => ?_, fun h0 => ?_⟩
  replace h0 := of_decide_eq_true h0
  have h0 : ¬ atM D (tidyE t E) < 0 := by omega
  obtain ⟨g1, g2, _⟩ := at_yes h0
  refine ⟨woB3_ok rfl hb2 g1 g2 rfl rfl, ?_⟩
  refine ⟨?_, ?_⟩
  intro _ ew
  refine ⟨?_, ?_⟩
  exact .inl ⟨(z1, 0, []), ⟨J_first hz (ew.symm.trans (room_at hu h0)), rfl, rfl⟩, trivial, Gc.ren [0, 1, 2] (by decide) (by decide) (by decide) (by decide) ⟨⟨_, rfl, ro_s (.snil _ _)⟩, ⟨_, rfl, ro_r _⟩, ⟨_, rfl, ro_flat rfl⟩, trivial⟩ (by exact ⟨⟨_, rfl, .int _ _⟩, ⟨_, rfl, .int _ _⟩, ⟨_, rfl, .int _ _⟩, ⟨_, rfl, .bool _⟩, ⟨_, rfl, .ptr _ _ rfl⟩, ⟨_, rfl, .int _ _⟩, ⟨_, rfl, .ptr _ _ rfl⟩, trivial⟩) rfl⟩
  exact part_ce0 hb2 HT1 HT2 hQ
  rintro i3 ⟨hw, hnw⟩
  refine ⟨?_, ?_⟩
  exact .inr ⟨(z1, 0, i3), ⟨J_first hz (hw.trans (room_at hu h0)), hnw⟩, trivial, Gc.ren [0, 1, 2, 4] (by decide) (by decide) (by decide) (by decide) ⟨⟨_, rfl, ro_s (.slice _ _ _ _ rfl)⟩, ⟨_, rfl, ro_r _⟩, ⟨_, rfl, ro_flat rfl⟩, ⟨_, rfl, ro_r _⟩, trivial⟩ (by exact ⟨⟨_, rfl, .int _ _⟩, ⟨_, rfl, .int _ _⟩, ⟨_, rfl, .int _ _⟩, ⟨_, rfl, .bool _⟩, ⟨_, rfl, .ptr _ _ rfl⟩, ⟨_, rfl, .int _ _⟩, ⟨_, rfl, .ptr _ _ rfl⟩, trivial⟩) rfl⟩
  exact part_ce0 hb2 HT1 HT2 hQ
  replace h0 := of_decide_eq_false h0
  have h0 : atM D (tidyE t E) < 0 := by omega
  refine ⟨?_, ?_⟩
  exact .inr ⟨(z1, 0, tidyE t E), ⟨J_first hz (room_free0 h0 hc), hte⟩, trivial, Gc.same⟩
  exact part_ce0 hb2 HT1 HT2 hQ
end
theorem rtol1_ok {x : Cf} {now t mtu : Int} {D : Ad} {E : List En} {n : Nat} (hl : E.length = n) (hn : 1 ≤ n) (hb : n < 2 ^ 20) (hu : Up E) (HF : 0 ≤ x.life ∧ x.life < 2 ^ 62) (HT : -(2 ^ 62) ≤ now) (hte : tidyE t E ≠ []) :
    Fm.Spec Try.prog [] 15 [pR, .int .i64 t, .agg ⟨rowA D⟩, .int .i64 mtu] (hB x now E n) (PJ (hB x now E n) 0 (some 1) x (vB (toldM x now E t D mtu).1) (toldM x now E t D mtu).2.1 (toldM x now E t D mtu).2.2) := by
  have hb2 : (tidyE t E).length < 2 ^ 20 := by have := tidy_len (t := t) (E := E); omega
  have hl2 : 1 ≤ (tidyE t E).length := List.length_pos_iff.2 hte
  refine Spec.re (spec_T (run_rtol1 x now E n t D mtu _) ?_)
  refine ⟨fun h0 => ?_, fun h0 => ?_⟩
  replace h0 := of_decide_eq_true h0
  rw [toldM_err (.inl h0)]; exact jBs rfl hl hn
  replace h0 := of_decide_eq_false h0
  refine ⟨fun h1 => ?_, fun h1 => ?_⟩
  replace h1 := of_decide_eq_true h1
  rw [toldM_err (.inr h1)]; exact jBs rfl hl hn
  replace h1 := of_decide_eq_false h1
  have he : ¬ errT t now := errT_no h0 h1
  refine ⟨fun h2 => ?_, fun h2 => ?_⟩
  replace h2 := of_decide_eq_true h2
  rw [toldM_mtu he (.inl h2)]; exact jBs rfl hl hn
  replace h2 := of_decide_eq_false h2
  refine ⟨fun h3 => ?_, fun h3 => ?_⟩
  replace h3 := of_decide_eq_true h3
  rw [toldM_mtu he (.inr h3)]; exact jBs rfl hl hn
  replace h3 := of_decide_eq_false h3
  have hm : ¬ (mtu < 0 ∨ mtu > 65535) := fun h => h.elim h2 h3
  have HT1 : -2 ^ 63 ≤ t + x.life := by omega
  have HT2 : t + x.life < 2 ^ 63 := by omega
  refine ⟨bt1_ok hl hb rfl he hte, ?_⟩
  intro _ _
  intro z1 hz1
  replace hz1 : z1 = maxE x mtu := hz1
  subst hz1
  refine ⟨mtB_ok rfl hb2 rfl rfl, ?_⟩
  intro _ _
  refine ⟨fun h4 => ?_, fun h4 => ?_⟩
  replace h4 := of_decide_eq_true h4
  rw [toldM_low he hm h4]; exact jB1 rfl (by decide) rfl rfl rfl hte
  replace h4 := of_decide_eq_false h4
  have hQ : ∀ r h', QT (hB x now E n) x t D mtu (tidyE t E) r h' → EndR (hB x now E n) (PJ (hB x now E n) 0 (some 1) x (vB (toldM x now E t D mtu).1) (toldM x now E t D mtu).2.1 (toldM x now E t D mtu).2.2) r h' := fun r h' e => by rw [toldM_put he hm h4]; exact e
  refine ⟨atB3_ok rfl hb2 rfl rfl, ?_⟩
  intro _ _
  refine ⟨fun h5 => ?_, fun h5 => ?_⟩
  replace h5 := of_decide_eq_true h5
  intro z2 hz2
  replace hz2 : z2 = (((tidyE t E).length : Nat) : Int) := hz2
  subst hz2
  refine ⟨fun h6 => ?_, fun h6 => ?_⟩
  replace h6 := of_decide_eq_true h6
  refine ⟨?_, ?_⟩
  exact ⟨(maxE x mtu, 0, 0), (K_first rfl hl2 : iK x E n t D mtu _), trivial, Gc.same⟩
  intro i3 hi3
  replace hi3 : iK x E n t D mtu i3 := hi3
  obtain ⟨k1, k2, k3, k4, k5, _⟩ := id hi3
  intro z4 hz4
  replace hz4 : z4 = (((tidyE t E).length : Nat) : Int) := hz4
  subst hz4
  refine ⟨fun h7 => ?_, fun h7 => ?_⟩
  replace h7 := of_decide_eq_true h7
  refine ⟨ixb k4 (by omega), ?_⟩
  refine ⟨⟨_, ldu (z := i3.2.1) (by omega)⟩, ?_⟩
  intro z5 hz5
  have ez5 := gI (hz5.symm.trans (ldu (z := i3.2.1) (by omega)))
  subst ez5
  refine ⟨ixb k2 k3, ?_⟩
  refine ⟨⟨_, ldu (z := i3.2.2) (by omega)⟩, ?_⟩
  intro z6 hz6
  have ez6 := gI (hz6.symm.trans (ldu (z := i3.2.2) (by omega)))
  subst ez6
  refine ⟨fun h8 => ?_, fun h8 => ?_⟩
  replace h8 := of_decide_eq_true h8
  intro z7 hz7
  rw [wr (by omega) (by omega)] at hz7
  subst hz7
  exact ⟨_, K_less hi3 h7 h8, by show ((tidyE t E).length - (i3.2.1 + 1)).toNat < ((tidyE t E).length - i3.2.1).toNat; omega, Gc.same⟩
  replace h8 := of_decide_eq_false h8
  intro z7 hz7
  rw [wr (by omega) (by omega)] at hz7
  subst hz7
  exact ⟨_, K_more hi3 h7 h8, by show ((tidyE t E).length - (i3.2.1 + 1)).toNat < ((tidyE t E).length - i3.2.1).toNat; omega, Gc.same⟩
  replace h7 := of_decide_eq_false h7
  refine ⟨fun h8 => ?_, fun h8 => ?_⟩
  replace h8 := of_decide_eq_true h8
  refine ⟨woB3_ok rfl hb2 k2 k3 rfl rfl, ?_⟩
  refine ⟨?_, ?_⟩
  intro _ ew
  refine ⟨?_, ?_⟩
  exact .inl ⟨(i3.1, 0, []), ⟨J_first k1 (ew.symm.trans (room_min hu h5 h6 hi3 h7)), rfl, rfl⟩, trivial, Gc.ren [0, 1, 2] (by decide) (by decide) (by decide) (by decide) ⟨⟨_, rfl, ro_s (.snil _ _)⟩, ⟨_, rfl, ro_r _⟩, ⟨_, rfl, ro_flat rfl⟩, trivial⟩ (by exact ⟨⟨_, rfl, .int _ _⟩, ⟨_, rfl, .int _ _⟩, ⟨_, rfl, .int _ _⟩, ⟨_, rfl, .bool _⟩, ⟨_, rfl, .ptr _ _ rfl⟩, ⟨_, rfl, .int _ _⟩, ⟨_, rfl, .ptr _ _ rfl⟩, trivial⟩) rfl⟩
  exact part_ce0 hb2 HT1 HT2 hQ
  rintro i5 ⟨hw, hnw⟩
  refine ⟨?_, ?_⟩
  exact .inr ⟨(i3.1, 0, i5), ⟨J_first k1 (hw.trans (room_min hu h5 h6 hi3 h7)), hnw⟩, trivial, Gc.ren [0, 1, 2, 4] (by decide) (by decide) (by decide) (by decide) ⟨⟨_, rfl, ro_s (.slice _ _ _ _ rfl)⟩, ⟨_, rfl, ro_r _⟩, ⟨_, rfl, ro_flat rfl⟩, ⟨_, rfl, ro_r _⟩, trivial⟩ (by exact ⟨⟨_, rfl, .int _ _⟩, ⟨_, rfl, .int _ _⟩, ⟨_, rfl, .int _ _⟩, ⟨_, rfl, .bool _⟩, ⟨_, rfl, .ptr _ _ rfl⟩, ⟨_, rfl, .int _ _⟩, ⟨_, rfl, .ptr _ _ rfl⟩, trivial⟩) rfl⟩
  exact part_ce0 hb2 HT1 HT2 hQ
  replace h8 := of_decide_eq_false h8
  refine ⟨?_, ?_⟩
  exact absurd k2 h8
  exact part_ce0 hb2 HT1 HT2 hQ
  replace h6 := of_decide_eq_false h6
  exact part_ce2 hu hb2 HT1 HT2 hQ rfl hte (.inr ⟨h5, h6⟩)
  replace h5 := of_decide_eq_false h5
  exact part_ce2 hu hb2 HT1 HT2 hQ rfl hte (.inl h5)
/-- Told over a row -/
theorem rtoldB_ok {x : Cf} {now t mtu : Int} {D : Ad} {E : List En} {n : Nat} (hl : E.length = n) (hn : 1 ≤ n) (hb : n < 2 ^ 20) (hu : Up E) (HL : 1 ≤ x.lim) (HF : 0 ≤ x.life ∧ x.life < 2 ^ 62) (HT : -(2 ^ 62) ≤ now) :
    Fm.Spec Try.prog [] 15 [pR, .int .i64 t, .agg ⟨rowA D⟩, .int .i64 mtu] (hB x now E n) (PJ (hB x now E n) 0 (some 1) x (vB (toldM x now E t D mtu).1) (toldM x now E t D mtu).2.1 (toldM x now E t D mtu).2.2) := by
  by_cases h : tidyE t E = []
  · exact rtol0_ok hl hn hb HL HF HT h
  · exact rtol1_ok hl hn hb hu HF HT h

end Go.Proofs.Ytcdmnmpiipmfmaa
