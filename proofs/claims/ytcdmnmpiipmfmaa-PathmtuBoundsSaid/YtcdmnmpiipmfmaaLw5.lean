/-
  PathmtuBounds returns true on every row of calls. Conditions: the row of calls is not empty, its addresses are of bytes.
-/
import Derived.Test.YtcdmnmpiipmfmaaLw4
namespace Go.Proofs.Ytcdmnmpiipmfmaa
open Go.Fm
noncomputable abbrev klw50s2 (L : List Ow) (x : Cf) (i5 : LQ) (i6 : List (En × Nat) × Nat) (i3 : LQ) : Scr := .skip 5 (.call (List (En × Nat) × Nat) (kLenP (oO L) (oX x) x i5.now i6.fst i6.snd [oS x i5.now (sB 5 i5.E.length), oR i5.E]).post fun i7 => .skip 11 (.val (.pointer (some ⟨0, (0 + i3.i.toNat * 19), none⟩)) (.skip 1 (.val (.agg ⟨(rowA (gxo L i3.i).d)⟩) (.skip 0 (.call (List (En × Nat) × Nat) (kGetP (oO L) (oX x) x i5.now i5.now i7.fst i7.snd (gxo L i3.i).d [oS x i5.now (sB 5 i5.E.length), oR i5.E]).post fun i8 => .skip 6 (.ask (.go) (.skip 8 (.ask (.go) (.skip 9 (.ask (.go) (.skip 9 (.val (.pointer (some ⟨0, (0 + i3.i.toNat * 19), none⟩)) (.skip 1 (.val (.agg ⟨(rowA (gxo L i3.i).d)⟩) (.skip 0 (.callN (Unit) (kGetRB (oO L) (oX x) (oM i8.fst i8.snd) (oCb x (getM x i5.now (srt i7.fst) i5.now (gxo L i3.i).d).snd.fst) x i5.now i5.now i5.E i5.E.length (gxo L i3.i).d []).posts (fun k => match k with | 0 => fun _i9 => .skip 1 (.all (fun _z10 => .go)) | 1 => fun _i9 => .skip 1 (.all (fun _z10 => .go)) | _ => fun _i9 => .skip 1 (.all (fun _z10 => .go))))))))))))))))))))
noncomputable abbrev klw50s3 (L : List Ow) (x : Cf) (i5 : LQ) (i6 : List (En × Nat) × Nat) (i3 : LQ) : Scr := .skip 5 (.call (List (En × Nat) × Nat) (kLenP (oO L) (oX x) x i5.now i6.fst i6.snd [oS x i5.now sN, AObj.dead]).post fun i7 => .skip 11 (.val (.pointer (some ⟨0, (0 + i3.i.toNat * 19), none⟩)) (.skip 1 (.val (.agg ⟨(rowA (gxo L i3.i).d)⟩) (.skip 0 (.call (List (En × Nat) × Nat) (kGetP (oO L) (oX x) x i5.now i5.now i7.fst i7.snd (gxo L i3.i).d [oS x i5.now sN, AObj.dead]).post fun i8 => .skip 6 (.ask (.go) (.skip 8 (.ask (.go) (.skip 9 (.ask (.go) (.skip 9 (.val (.pointer (some ⟨0, (0 + i3.i.toNat * 19), none⟩)) (.skip 1 (.val (.agg ⟨(rowA (gxo L i3.i).d)⟩) (.skip 0 (.call (Unit) (kGetRN (oO L) (oX x) (oM i8.fst i8.snd) (oCb x (getM x i5.now (srt i7.fst) i5.now (gxo L i3.i).d).snd.fst) x i5.now i5.now (gxo L i3.i).d [AObj.dead]).post fun _ => .skip 1 (.all (fun _z9 => .go)))))))))))))))))))
noncomputable abbrev klw50s0 (L : List Ow) (x : Cf) (i3 : LQ) : Scr := .skip 5 (.ask (.skip 6 (.val (.pointer (some ⟨0, (0 + i3.i.toNat * 19), none⟩)) (.skip 0 (.val (.agg ⟨(rowO (gxo L i3.i))⟩) (.skip 0 (.callN (LQ) (kStepB L x i3.now i3.l i3.cl i3.E i3.E.length (gxo L i3.i)).posts (fun k => match k with | 0 => fun i5 => .skip 9 (.call (List (En × Nat) × Nat) (kLenP (oO L) (oX x) x i5.now i5.l i5.cl [oS x i5.now sN, AObj.dead]).post fun i6 => .skip 1 (.ask (.go) (klw50s3 L x i5 i6 i3))) | 1 => fun i5 => .skip 9 (.call (List (En × Nat) × Nat) (kLenP (oO L) (oX x) x i5.now i5.l i5.cl [oS x i5.now (sB 5 i5.E.length), oR i5.E]).post fun i6 => .skip 1 (.ask (.go) (klw50s2 L x i5 i6 i3))) | _ => fun i5 => .skip 9 (.call (List (En × Nat) × Nat) (kLenP (oO L) (oX x) x i5.now i5.l i5.cl [oS x i5.now (sB 6 i5.E.length), AObj.dead, oR i5.E]).post fun i6 => .skip 1 (.ask (.go) (.skip 5 (.call (List (En × Nat) × Nat) (kLenP (oO L) (oX x) x i5.now i6.fst i6.snd [oS x i5.now (sB 6 i5.E.length), AObj.dead, oR i5.E]).post fun i7 => .skip 11 (.val (.pointer (some ⟨0, (0 + i3.i.toNat * 19), none⟩)) (.skip 1 (.val (.agg ⟨(rowA (gxo L i3.i).d)⟩) (.skip 0 (.call (List (En × Nat) × Nat) (kGetP (oO L) (oX x) x i5.now i5.now i7.fst i7.snd (gxo L i3.i).d [oS x i5.now (sB 6 i5.E.length), AObj.dead, oR i5.E]).post fun i8 => .skip 6 (.ask (.go) (.skip 8 (.ask (.go) (.skip 9 (.ask (.go) (.skip 9 (.val (.pointer (some ⟨0, (0 + i3.i.toNat * 19), none⟩)) (.skip 1 (.val (.agg ⟨(rowA (gxo L i3.i).d)⟩) (.skip 0 (.callN (Unit) (kGetRB6 (oO L) (oX x) (oM i8.fst i8.snd) (oCb x (getM x i5.now (srt i7.fst) i5.now (gxo L i3.i).d).snd.fst) x i5.now i5.now AObj.dead i5.E i5.E.length (gxo L i3.i).d []).posts (fun k => match k with | 0 => fun _i9 => .skip 1 (.all (fun _z10 => .go)) | 1 => fun _i9 => .skip 1 (.all (fun _z10 => .go)) | _ => fun _i9 => .skip 1 (.all (fun _z10 => .go)))))))))))))))))))))))))))))) (.go))
noncomputable abbrev klw50s1 (L : List Ow) (x : Cf) (i3 : LQ) : Scr := .skip 5 (.ask (.skip 6 (.val (.pointer (some ⟨0, (0 + i3.i.toNat * 19), none⟩)) (.skip 0 (.val (.agg ⟨(rowO (gxo L i3.i))⟩) (.skip 0 (.callN (LQ) (kStepN L x i3.now i3.l i3.cl (gxo L i3.i)).posts (fun k => match k with | 0 => fun i5 => .skip 9 (.call (List (En × Nat) × Nat) (kLenP (oO L) (oX x) x i5.now i5.l i5.cl [oS x i5.now sN, AObj.dead]).post fun i6 => .skip 1 (.ask (.go) (klw50s3 L x i5 i6 i3))) | _ => fun i5 => .skip 9 (.call (List (En × Nat) × Nat) (kLenP (oO L) (oX x) x i5.now i5.l i5.cl [oS x i5.now (sB 5 i5.E.length), oR i5.E]).post fun i6 => .skip 1 (.ask (.go) (klw50s2 L x i5 i6 i3)))))))))) (.go))
theorem run_law3 (L : List Ow) (x : Cf) (n cap : Nat) (Q : Res → AHeap → Prop) : (((kNewP (oO L) (oX x) x).asks Try.prog [] 5 ∧
(∀ _ : Unit, (¬okC x) →
((kNewR3 (oO L) (oX x) AObj.dead x).asks Try.prog [] 6 ∧
(∀ _ : Unit, (¬okC x) →
((kAwake [oO L, oX x, AObj.dead, AObj.dead]).asks Try.prog [] 7 ∧
∀ _ : Unit, (True) →
((someN [] 1 (fun _ => True) ⟨[(9, (iv 0)), (7, (.pointer none)), (5, (.pointer none)), (2, (pp 1)), (1, (.slice (some ⟨0, 0, none⟩) n cap))], [], [oO L, oX x, .dead, .dead], .norm⟩ [(qL0 L x n cap), (qLN L x n cap), (qLB L x n cap), (qLF L x n cap)]) ∧
(∀ i3, (qL0 L x n cap i3).fst →
 Q (.ret (.bool true)) [oO L, oX x]) ∧
(∀ i3, (qLN L x n cap i3).fst →
∀ z4 : Int, z4 = (((n : Nat) : Int)) →
(((decide (i3.i < z4)) = true →
(((decide (i3.i < 200)) = true →
((aIndexAddr Try.prog 24 (.slice (some ⟨0, 0, none⟩) n cap) (iv i3.i) = some (.pointer (some ⟨0, (0 + i3.i.toNat * 19), none⟩))) ∧
((aLoad Try.prog 37 (.pointer (some ⟨0, (0 + i3.i.toNat * 19), none⟩)) [oO L] = some (.agg ⟨(rowO (gxo L i3.i))⟩)) ∧
((kStepN L x i3.now i3.l i3.cl (gxo L i3.i)).asks Try.prog [] 8 ∧
(∀ i5 : LQ, (SOk x i5 ∧
 i5.E = []) →
((kLenP (oO L) (oX x) x i5.now i5.l i5.cl [oS x i5.now sN, AObj.dead]).asks Try.prog [] 9 ∧
∀ i6 : List (En × Nat) × Nat, (Rep i6.snd i6.fst (srt i5.l)) →
(((some (iv x.lim)) : Option Value) = (some (iv x.lim))) ∧
(((decide ((((srt i5.l).length : Nat) : Int) > x.lim)) = true →
 Q (.ret (.bool false)) [oO L, oX x, oM i6.fst i6.snd, oCb x i5.now, oS x i5.now sN, .dead]) ∧
((decide ((((srt i5.l).length : Nat) : Int) > x.lim)) = false →
((kLenP (oO L) (oX x) x i5.now i6.fst i6.snd [oS x i5.now sN, AObj.dead]).asks Try.prog [] 9 ∧
∀ i7 : List (En × Nat) × Nat, (Rep i7.snd i7.fst (srt i6.fst)) →
((aIndexAddr Try.prog 24 (.slice (some ⟨0, 0, none⟩) n cap) (iv i3.i) = some (.pointer (some ⟨0, (0 + i3.i.toNat * 19), none⟩))) ∧
((aLoad Try.prog 35 (.pointer (some ⟨0, (0 + i3.i.toNat * 19 + 2), none⟩)) [oO L] = some (.agg ⟨(rowA (gxo L i3.i).d)⟩)) ∧
((kGetP (oO L) (oX x) x i5.now i5.now i7.fst i7.snd (gxo L i3.i).d [oS x i5.now sN, AObj.dead]).asks Try.prog [] 10 ∧
∀ i8 : List (En × Nat) × Nat, (Rep i8.snd i8.fst (getM x i5.now (srt i7.fst) i5.now (gxo L i3.i).d).snd.snd) →
((((getM x i5.now (srt i7.fst) i5.now (gxo L i3.i).d).fst.snd != 0) = true →
 Q (.ret (.bool false)) [oO L, oX x, oM i8.fst i8.snd, oCb x ((getM x i5.now (srt i7.fst) i5.now (gxo L i3.i).d).snd.fst), oS x i5.now sN, .dead]) ∧
(((getM x i5.now (srt i7.fst) i5.now (gxo L i3.i).d).fst.snd != 0) = false →
(((decide ((getM x i5.now (srt i7.fst) i5.now (gxo L i3.i).d).fst.fst < x.least)) = true →
 Q (.ret (.bool false)) [oO L, oX x, oM i8.fst i8.snd, oCb x ((getM x i5.now (srt i7.fst) i5.now (gxo L i3.i).d).snd.fst), oS x i5.now sN, .dead]) ∧
((decide ((getM x i5.now (srt i7.fst) i5.now (gxo L i3.i).d).fst.fst < x.least)) = false →
(((decide ((getM x i5.now (srt i7.fst) i5.now (gxo L i3.i).d).fst.fst > x.link)) = true →
 Q (.ret (.bool false)) [oO L, oX x, oM i8.fst i8.snd, oCb x ((getM x i5.now (srt i7.fst) i5.now (gxo L i3.i).d).snd.fst), oS x i5.now sN, .dead]) ∧
((decide ((getM x i5.now (srt i7.fst) i5.now (gxo L i3.i).d).fst.fst > x.link)) = false →
((aIndexAddr Try.prog 24 (.slice (some ⟨0, 0, none⟩) n cap) (iv i3.i) = some (.pointer (some ⟨0, (0 + i3.i.toNat * 19), none⟩))) ∧
((aLoad Try.prog 35 (.pointer (some ⟨0, (0 + i3.i.toNat * 19 + 2), none⟩)) [oO L] = some (.agg ⟨(rowA (gxo L i3.i).d)⟩)) ∧
((kGetRN (oO L) (oX x) (oM i8.fst i8.snd) (oCb x (getM x i5.now (srt i7.fst) i5.now (gxo L i3.i).d).snd.fst) x i5.now i5.now (gxo L i3.i).d [AObj.dead]).asks Try.prog [] 11 ∧
∀ _ : Unit, (True) →
∀ z9 : Int, z9 = (IntKind.i64.wrap (i3.i + 1)) →
(someN [] 1 (fun a' => (mL L x n cap) a' < (mL L x n cap) i3) ⟨[(9, (iv z9)), (7, (pp 4)), (5, (pp 3)), (2, (pp 1)), (1, (.slice (some ⟨0, 0, none⟩) n cap))], [], [oO L, oX x, oM i8.fst i8.snd, oCb x ((getM x i5.now (srt i7.fst) i5.now (gxo L i3.i).d).snd.fst), oS x ((getM x i5.now [] i5.now (gxo L i3.i).d).snd.fst) sN, .dead, .dead], .norm⟩ [(qL0 L x n cap), (qLN L x n cap), (qLB L x n cap), (qLF L x n cap)])))))))))))))))))) ∧
(∀ i5 : LQ, (SOk x i5 ∧
 i5.E ≠ []) →
((kLenP (oO L) (oX x) x i5.now i5.l i5.cl [oS x i5.now (sB 5 i5.E.length), oR i5.E]).asks Try.prog [] 9 ∧
∀ i6 : List (En × Nat) × Nat, (Rep i6.snd i6.fst (srt i5.l)) →
(((some (iv x.lim)) : Option Value) = (some (iv x.lim))) ∧
(((decide ((((srt i5.l).length : Nat) : Int) > x.lim)) = true →
 Q (.ret (.bool false)) [oO L, oX x, oM i6.fst i6.snd, oCb x i5.now, oS x i5.now (sB 5 i5.E.length), oR i5.E]) ∧
((decide ((((srt i5.l).length : Nat) : Int) > x.lim)) = false →
((kLenP (oO L) (oX x) x i5.now i6.fst i6.snd [oS x i5.now (sB 5 i5.E.length), oR i5.E]).asks Try.prog [] 9 ∧
∀ i7 : List (En × Nat) × Nat, (Rep i7.snd i7.fst (srt i6.fst)) →
((aIndexAddr Try.prog 24 (.slice (some ⟨0, 0, none⟩) n cap) (iv i3.i) = some (.pointer (some ⟨0, (0 + i3.i.toNat * 19), none⟩))) ∧
((aLoad Try.prog 35 (.pointer (some ⟨0, (0 + i3.i.toNat * 19 + 2), none⟩)) [oO L] = some (.agg ⟨(rowA (gxo L i3.i).d)⟩)) ∧
((kGetP (oO L) (oX x) x i5.now i5.now i7.fst i7.snd (gxo L i3.i).d [oS x i5.now (sB 5 i5.E.length), oR i5.E]).asks Try.prog [] 10 ∧
∀ i8 : List (En × Nat) × Nat, (Rep i8.snd i8.fst (getM x i5.now (srt i7.fst) i5.now (gxo L i3.i).d).snd.snd) →
((((getM x i5.now (srt i7.fst) i5.now (gxo L i3.i).d).fst.snd != 0) = true →
 Q (.ret (.bool false)) [oO L, oX x, oM i8.fst i8.snd, oCb x ((getM x i5.now (srt i7.fst) i5.now (gxo L i3.i).d).snd.fst), oS x i5.now (sB 5 i5.E.length), oR i5.E]) ∧
(((getM x i5.now (srt i7.fst) i5.now (gxo L i3.i).d).fst.snd != 0) = false →
(((decide ((getM x i5.now (srt i7.fst) i5.now (gxo L i3.i).d).fst.fst < x.least)) = true →
 Q (.ret (.bool false)) [oO L, oX x, oM i8.fst i8.snd, oCb x ((getM x i5.now (srt i7.fst) i5.now (gxo L i3.i).d).snd.fst), oS x i5.now (sB 5 i5.E.length), oR i5.E]) ∧
((decide ((getM x i5.now (srt i7.fst) i5.now (gxo L i3.i).d).fst.fst < x.least)) = false →
(((decide ((getM x i5.now (srt i7.fst) i5.now (gxo L i3.i).d).fst.fst > x.link)) = true →
 Q (.ret (.bool false)) [oO L, oX x, oM i8.fst i8.snd, oCb x ((getM x i5.now (srt i7.fst) i5.now (gxo L i3.i).d).snd.fst), oS x i5.now (sB 5 i5.E.length), oR i5.E]) ∧
((decide ((getM x i5.now (srt i7.fst) i5.now (gxo L i3.i).d).fst.fst > x.link)) = false →
((aIndexAddr Try.prog 24 (.slice (some ⟨0, 0, none⟩) n cap) (iv i3.i) = some (.pointer (some ⟨0, (0 + i3.i.toNat * 19), none⟩))) ∧
((aLoad Try.prog 35 (.pointer (some ⟨0, (0 + i3.i.toNat * 19 + 2), none⟩)) [oO L] = some (.agg ⟨(rowA (gxo L i3.i).d)⟩)) ∧
((kGetRB (oO L) (oX x) (oM i8.fst i8.snd) (oCb x (getM x i5.now (srt i7.fst) i5.now (gxo L i3.i).d).snd.fst) x i5.now i5.now i5.E i5.E.length (gxo L i3.i).d []).asks Try.prog [] 11 ∧
(∀ _ : Unit, ((getM x i5.now i5.E i5.now (gxo L i3.i).d).snd.snd = []) →
∀ z10 : Int, z10 = (IntKind.i64.wrap (i3.i + 1)) →
(someN [] 1 (fun a' => (mL L x n cap) a' < (mL L x n cap) i3) ⟨[(9, (iv z10)), (7, (pp 4)), (5, (pp 3)), (2, (pp 1)), (1, (.slice (some ⟨0, 0, none⟩) n cap))], [], [oO L, oX x, oM i8.fst i8.snd, oCb x ((getM x i5.now (srt i7.fst) i5.now (gxo L i3.i).d).snd.fst), oS x ((getM x i5.now i5.E i5.now (gxo L i3.i).d).snd.fst) sN, oR i5.E, .dead], .norm⟩ [(qL0 L x n cap), (qLN L x n cap), (qLB L x n cap), (qLF L x n cap)])) ∧
(∀ _ : Unit, ((getM x i5.now i5.E i5.now (gxo L i3.i).d).snd.snd ≠ [] ∧
 i5.E = (getM x i5.now i5.E i5.now (gxo L i3.i).d).snd.snd) →
∀ z10 : Int, z10 = (IntKind.i64.wrap (i3.i + 1)) →
(someN [] 1 (fun a' => (mL L x n cap) a' < (mL L x n cap) i3) ⟨[(9, (iv z10)), (7, (pp 4)), (5, (pp 3)), (2, (pp 1)), (1, (.slice (some ⟨0, 0, none⟩) n cap))], [], [oO L, oX x, oM i8.fst i8.snd, oCb x ((getM x i5.now (srt i7.fst) i5.now (gxo L i3.i).d).snd.fst), oS x ((getM x i5.now i5.E i5.now (gxo L i3.i).d).snd.fst) (sB 5 ((getM x i5.now i5.E i5.now (gxo L i3.i).d).snd.snd.length)), oR (getM x i5.now i5.E i5.now (gxo L i3.i).d).snd.snd, .dead], .norm⟩ [(qL0 L x n cap), (qLN L x n cap), (qLB L x n cap), (qLF L x n cap)])) ∧
(∀ _ : Unit, ((getM x i5.now i5.E i5.now (gxo L i3.i).d).snd.snd ≠ []) →
∀ z10 : Int, z10 = (IntKind.i64.wrap (i3.i + 1)) →
(someN [] 1 (fun a' => (mL L x n cap) a' < (mL L x n cap) i3) ⟨[(9, (iv z10)), (7, (pp 4)), (5, (pp 3)), (2, (pp 1)), (1, (.slice (some ⟨0, 0, none⟩) n cap))], [], [oO L, oX x, oM i8.fst i8.snd, oCb x ((getM x i5.now (srt i7.fst) i5.now (gxo L i3.i).d).snd.fst), oS x ((getM x i5.now i5.E i5.now (gxo L i3.i).d).snd.fst) (sB 6 ((getM x i5.now i5.E i5.now (gxo L i3.i).d).snd.snd.length)), oR i5.E, oR (getM x i5.now i5.E i5.now (gxo L i3.i).d).snd.snd], .norm⟩ [(qL0 L x n cap), (qLN L x n cap), (qLB L x n cap), (qLF L x n cap)]))))))))))))))))))))))) ∧
((decide (i3.i < 200)) = false →
 Q (.ret (.bool true)) [oO L, oX x, oM i3.l i3.cl, oCb x i3.now, oS x i3.now sN]))) ∧
((decide (i3.i < z4)) = false →
 Q (.ret (.bool true)) [oO L, oX x, oM i3.l i3.cl, oCb x i3.now, oS x i3.now sN]))) ∧
(∀ i3, (qLB L x n cap i3).fst →
∀ z4 : Int, z4 = (((n : Nat) : Int)) →
(((decide (i3.i < z4)) = true →
(((decide (i3.i < 200)) = true →
((aIndexAddr Try.prog 24 (.slice (some ⟨0, 0, none⟩) n cap) (iv i3.i) = some (.pointer (some ⟨0, (0 + i3.i.toNat * 19), none⟩))) ∧
((aLoad Try.prog 37 (.pointer (some ⟨0, (0 + i3.i.toNat * 19), none⟩)) [oO L] = some (.agg ⟨(rowO (gxo L i3.i))⟩)) ∧
((kStepB L x i3.now i3.l i3.cl i3.E i3.E.length (gxo L i3.i)).asks Try.prog [] 8 ∧
(∀ i5 : LQ, (SOk x i5 ∧
 i5.E = []) →
((kLenP (oO L) (oX x) x i5.now i5.l i5.cl [oS x i5.now sN, AObj.dead]).asks Try.prog [] 9 ∧
∀ i6 : List (En × Nat) × Nat, (Rep i6.snd i6.fst (srt i5.l)) →
(((some (iv x.lim)) : Option Value) = (some (iv x.lim))) ∧
(((decide ((((srt i5.l).length : Nat) : Int) > x.lim)) = true →
 Q (.ret (.bool false)) [oO L, oX x, oM i6.fst i6.snd, oCb x i5.now, oS x i5.now sN, .dead]) ∧
((decide ((((srt i5.l).length : Nat) : Int) > x.lim)) = false →
((kLenP (oO L) (oX x) x i5.now i6.fst i6.snd [oS x i5.now sN, AObj.dead]).asks Try.prog [] 9 ∧
∀ i7 : List (En × Nat) × Nat, (Rep i7.snd i7.fst (srt i6.fst)) →
((aIndexAddr Try.prog 24 (.slice (some ⟨0, 0, none⟩) n cap) (iv i3.i) = some (.pointer (some ⟨0, (0 + i3.i.toNat * 19), none⟩))) ∧
((aLoad Try.prog 35 (.pointer (some ⟨0, (0 + i3.i.toNat * 19 + 2), none⟩)) [oO L] = some (.agg ⟨(rowA (gxo L i3.i).d)⟩)) ∧
((kGetP (oO L) (oX x) x i5.now i5.now i7.fst i7.snd (gxo L i3.i).d [oS x i5.now sN, AObj.dead]).asks Try.prog [] 10 ∧
∀ i8 : List (En × Nat) × Nat, (Rep i8.snd i8.fst (getM x i5.now (srt i7.fst) i5.now (gxo L i3.i).d).snd.snd) →
((((getM x i5.now (srt i7.fst) i5.now (gxo L i3.i).d).fst.snd != 0) = true →
 Q (.ret (.bool false)) [oO L, oX x, oM i8.fst i8.snd, oCb x ((getM x i5.now (srt i7.fst) i5.now (gxo L i3.i).d).snd.fst), oS x i5.now sN, .dead]) ∧
(((getM x i5.now (srt i7.fst) i5.now (gxo L i3.i).d).fst.snd != 0) = false →
(((decide ((getM x i5.now (srt i7.fst) i5.now (gxo L i3.i).d).fst.fst < x.least)) = true →
 Q (.ret (.bool false)) [oO L, oX x, oM i8.fst i8.snd, oCb x ((getM x i5.now (srt i7.fst) i5.now (gxo L i3.i).d).snd.fst), oS x i5.now sN, .dead]) ∧
((decide ((getM x i5.now (srt i7.fst) i5.now (gxo L i3.i).d).fst.fst < x.least)) = false →
(((decide ((getM x i5.now (srt i7.fst) i5.now (gxo L i3.i).d).fst.fst > x.link)) = true →
 Q (.ret (.bool false)) [oO L, oX x, oM i8.fst i8.snd, oCb x ((getM x i5.now (srt i7.fst) i5.now (gxo L i3.i).d).snd.fst), oS x i5.now sN, .dead]) ∧
((decide ((getM x i5.now (srt i7.fst) i5.now (gxo L i3.i).d).fst.fst > x.link)) = false →
((aIndexAddr Try.prog 24 (.slice (some ⟨0, 0, none⟩) n cap) (iv i3.i) = some (.pointer (some ⟨0, (0 + i3.i.toNat * 19), none⟩))) ∧
((aLoad Try.prog 35 (.pointer (some ⟨0, (0 + i3.i.toNat * 19 + 2), none⟩)) [oO L] = some (.agg ⟨(rowA (gxo L i3.i).d)⟩)) ∧
((kGetRN (oO L) (oX x) (oM i8.fst i8.snd) (oCb x (getM x i5.now (srt i7.fst) i5.now (gxo L i3.i).d).snd.fst) x i5.now i5.now (gxo L i3.i).d [AObj.dead]).asks Try.prog [] 11 ∧
∀ _ : Unit, (True) →
∀ z9 : Int, z9 = (IntKind.i64.wrap (i3.i + 1)) →
(someN [] 1 (fun a' => (mL L x n cap) a' < (mL L x n cap) i3) ⟨[(9, (iv z9)), (7, (pp 4)), (5, (pp 3)), (2, (pp 1)), (1, (.slice (some ⟨0, 0, none⟩) n cap))], [], [oO L, oX x, oM i8.fst i8.snd, oCb x ((getM x i5.now (srt i7.fst) i5.now (gxo L i3.i).d).snd.fst), oS x ((getM x i5.now [] i5.now (gxo L i3.i).d).snd.fst) sN, .dead, .dead], .norm⟩ [(qL0 L x n cap), (qLN L x n cap), (qLB L x n cap), (qLF L x n cap)])))))))))))))))))) ∧
(∀ i5 : LQ, (SOk x i5 ∧
 i5.E ≠ []) →
((kLenP (oO L) (oX x) x i5.now i5.l i5.cl [oS x i5.now (sB 5 i5.E.length), oR i5.E]).asks Try.prog [] 9 ∧
∀ i6 : List (En × Nat) × Nat, (Rep i6.snd i6.fst (srt i5.l)) →
(((some (iv x.lim)) : Option Value) = (some (iv x.lim))) ∧
(((decide ((((srt i5.l).length : Nat) : Int) > x.lim)) = true →
 Q (.ret (.bool false)) [oO L, oX x, oM i6.fst i6.snd, oCb x i5.now, oS x i5.now (sB 5 i5.E.length), oR i5.E]) ∧
((decide ((((srt i5.l).length : Nat) : Int) > x.lim)) = false →
((kLenP (oO L) (oX x) x i5.now i6.fst i6.snd [oS x i5.now (sB 5 i5.E.length), oR i5.E]).asks Try.prog [] 9 ∧
∀ i7 : List (En × Nat) × Nat, (Rep i7.snd i7.fst (srt i6.fst)) →
((aIndexAddr Try.prog 24 (.slice (some ⟨0, 0, none⟩) n cap) (iv i3.i) = some (.pointer (some ⟨0, (0 + i3.i.toNat * 19), none⟩))) ∧
((aLoad Try.prog 35 (.pointer (some ⟨0, (0 + i3.i.toNat * 19 + 2), none⟩)) [oO L] = some (.agg ⟨(rowA (gxo L i3.i).d)⟩)) ∧
((kGetP (oO L) (oX x) x i5.now i5.now i7.fst i7.snd (gxo L i3.i).d [oS x i5.now (sB 5 i5.E.length), oR i5.E]).asks Try.prog [] 10 ∧
∀ i8 : List (En × Nat) × Nat, (Rep i8.snd i8.fst (getM x i5.now (srt i7.fst) i5.now (gxo L i3.i).d).snd.snd) →
((((getM x i5.now (srt i7.fst) i5.now (gxo L i3.i).d).fst.snd != 0) = true →
 Q (.ret (.bool false)) [oO L, oX x, oM i8.fst i8.snd, oCb x ((getM x i5.now (srt i7.fst) i5.now (gxo L i3.i).d).snd.fst), oS x i5.now (sB 5 i5.E.length), oR i5.E]) ∧
(((getM x i5.now (srt i7.fst) i5.now (gxo L i3.i).d).fst.snd != 0) = false →
(((decide ((getM x i5.now (srt i7.fst) i5.now (gxo L i3.i).d).fst.fst < x.least)) = true →
 Q (.ret (.bool false)) [oO L, oX x, oM i8.fst i8.snd, oCb x ((getM x i5.now (srt i7.fst) i5.now (gxo L i3.i).d).snd.fst), oS x i5.now (sB 5 i5.E.length), oR i5.E]) ∧
((decide ((getM x i5.now (srt i7.fst) i5.now (gxo L i3.i).d).fst.fst < x.least)) = false →
(((decide ((getM x i5.now (srt i7.fst) i5.now (gxo L i3.i).d).fst.fst > x.link)) = true →
 Q (.ret (.bool false)) [oO L, oX x, oM i8.fst i8.snd, oCb x ((getM x i5.now (srt i7.fst) i5.now (gxo L i3.i).d).snd.fst), oS x i5.now (sB 5 i5.E.length), oR i5.E]) ∧
((decide ((getM x i5.now (srt i7.fst) i5.now (gxo L i3.i).d).fst.fst > x.link)) = false →
((aIndexAddr Try.prog 24 (.slice (some ⟨0, 0, none⟩) n cap) (iv i3.i) = some (.pointer (some ⟨0, (0 + i3.i.toNat * 19), none⟩))) ∧
((aLoad Try.prog 35 (.pointer (some ⟨0, (0 + i3.i.toNat * 19 + 2), none⟩)) [oO L] = some (.agg ⟨(rowA (gxo L i3.i).d)⟩)) ∧
((kGetRB (oO L) (oX x) (oM i8.fst i8.snd) (oCb x (getM x i5.now (srt i7.fst) i5.now (gxo L i3.i).d).snd.fst) x i5.now i5.now i5.E i5.E.length (gxo L i3.i).d []).asks Try.prog [] 11 ∧
(∀ _ : Unit, ((getM x i5.now i5.E i5.now (gxo L i3.i).d).snd.snd = []) →
∀ z10 : Int, z10 = (IntKind.i64.wrap (i3.i + 1)) →
(someN [] 1 (fun a' => (mL L x n cap) a' < (mL L x n cap) i3) ⟨[(9, (iv z10)), (7, (pp 4)), (5, (pp 3)), (2, (pp 1)), (1, (.slice (some ⟨0, 0, none⟩) n cap))], [], [oO L, oX x, oM i8.fst i8.snd, oCb x ((getM x i5.now (srt i7.fst) i5.now (gxo L i3.i).d).snd.fst), oS x ((getM x i5.now i5.E i5.now (gxo L i3.i).d).snd.fst) sN, oR i5.E, .dead], .norm⟩ [(qL0 L x n cap), (qLN L x n cap), (qLB L x n cap), (qLF L x n cap)])) ∧
(∀ _ : Unit, ((getM x i5.now i5.E i5.now (gxo L i3.i).d).snd.snd ≠ [] ∧
 i5.E = (getM x i5.now i5.E i5.now (gxo L i3.i).d).snd.snd) →
∀ z10 : Int, z10 = (IntKind.i64.wrap (i3.i + 1)) →
(someN [] 1 (fun a' => (mL L x n cap) a' < (mL L x n cap) i3) ⟨[(9, (iv z10)), (7, (pp 4)), (5, (pp 3)), (2, (pp 1)), (1, (.slice (some ⟨0, 0, none⟩) n cap))], [], [oO L, oX x, oM i8.fst i8.snd, oCb x ((getM x i5.now (srt i7.fst) i5.now (gxo L i3.i).d).snd.fst), oS x ((getM x i5.now i5.E i5.now (gxo L i3.i).d).snd.fst) (sB 5 ((getM x i5.now i5.E i5.now (gxo L i3.i).d).snd.snd.length)), oR (getM x i5.now i5.E i5.now (gxo L i3.i).d).snd.snd, .dead], .norm⟩ [(qL0 L x n cap), (qLN L x n cap), (qLB L x n cap), (qLF L x n cap)])) ∧
(∀ _ : Unit, ((getM x i5.now i5.E i5.now (gxo L i3.i).d).snd.snd ≠ []) →
∀ z10 : Int, z10 = (IntKind.i64.wrap (i3.i + 1)) →
(someN [] 1 (fun a' => (mL L x n cap) a' < (mL L x n cap) i3) ⟨[(9, (iv z10)), (7, (pp 4)), (5, (pp 3)), (2, (pp 1)), (1, (.slice (some ⟨0, 0, none⟩) n cap))], [], [oO L, oX x, oM i8.fst i8.snd, oCb x ((getM x i5.now (srt i7.fst) i5.now (gxo L i3.i).d).snd.fst), oS x ((getM x i5.now i5.E i5.now (gxo L i3.i).d).snd.fst) (sB 6 ((getM x i5.now i5.E i5.now (gxo L i3.i).d).snd.snd.length)), oR i5.E, oR (getM x i5.now i5.E i5.now (gxo L i3.i).d).snd.snd], .norm⟩ [(qL0 L x n cap), (qLN L x n cap), (qLB L x n cap), (qLF L x n cap)]))))))))))))))))))) ∧
(∀ i5 : LQ, (SOk x i5 ∧
 i5.E ≠ []) →
((kLenP (oO L) (oX x) x i5.now i5.l i5.cl [oS x i5.now (sB 6 i5.E.length), AObj.dead, oR i5.E]).asks Try.prog [] 9 ∧
∀ i6 : List (En × Nat) × Nat, (Rep i6.snd i6.fst (srt i5.l)) →
(((some (iv x.lim)) : Option Value) = (some (iv x.lim))) ∧
(((decide ((((srt i5.l).length : Nat) : Int) > x.lim)) = true →
 Q (.ret (.bool false)) [oO L, oX x, oM i6.fst i6.snd, oCb x i5.now, oS x i5.now (sB 6 i5.E.length), .dead, oR i5.E]) ∧
((decide ((((srt i5.l).length : Nat) : Int) > x.lim)) = false →
((kLenP (oO L) (oX x) x i5.now i6.fst i6.snd [oS x i5.now (sB 6 i5.E.length), AObj.dead, oR i5.E]).asks Try.prog [] 9 ∧
∀ i7 : List (En × Nat) × Nat, (Rep i7.snd i7.fst (srt i6.fst)) →
((aIndexAddr Try.prog 24 (.slice (some ⟨0, 0, none⟩) n cap) (iv i3.i) = some (.pointer (some ⟨0, (0 + i3.i.toNat * 19), none⟩))) ∧
((aLoad Try.prog 35 (.pointer (some ⟨0, (0 + i3.i.toNat * 19 + 2), none⟩)) [oO L] = some (.agg ⟨(rowA (gxo L i3.i).d)⟩)) ∧
((kGetP (oO L) (oX x) x i5.now i5.now i7.fst i7.snd (gxo L i3.i).d [oS x i5.now (sB 6 i5.E.length), AObj.dead, oR i5.E]).asks Try.prog [] 10 ∧
∀ i8 : List (En × Nat) × Nat, (Rep i8.snd i8.fst (getM x i5.now (srt i7.fst) i5.now (gxo L i3.i).d).snd.snd) →
((((getM x i5.now (srt i7.fst) i5.now (gxo L i3.i).d).fst.snd != 0) = true →
 Q (.ret (.bool false)) [oO L, oX x, oM i8.fst i8.snd, oCb x ((getM x i5.now (srt i7.fst) i5.now (gxo L i3.i).d).snd.fst), oS x i5.now (sB 6 i5.E.length), .dead, oR i5.E]) ∧
(((getM x i5.now (srt i7.fst) i5.now (gxo L i3.i).d).fst.snd != 0) = false →
(((decide ((getM x i5.now (srt i7.fst) i5.now (gxo L i3.i).d).fst.fst < x.least)) = true →
 Q (.ret (.bool false)) [oO L, oX x, oM i8.fst i8.snd, oCb x ((getM x i5.now (srt i7.fst) i5.now (gxo L i3.i).d).snd.fst), oS x i5.now (sB 6 i5.E.length), .dead, oR i5.E]) ∧
((decide ((getM x i5.now (srt i7.fst) i5.now (gxo L i3.i).d).fst.fst < x.least)) = false →
(((decide ((getM x i5.now (srt i7.fst) i5.now (gxo L i3.i).d).fst.fst > x.link)) = true →
 Q (.ret (.bool false)) [oO L, oX x, oM i8.fst i8.snd, oCb x ((getM x i5.now (srt i7.fst) i5.now (gxo L i3.i).d).snd.fst), oS x i5.now (sB 6 i5.E.length), .dead, oR i5.E]) ∧
((decide ((getM x i5.now (srt i7.fst) i5.now (gxo L i3.i).d).fst.fst > x.link)) = false →
((aIndexAddr Try.prog 24 (.slice (some ⟨0, 0, none⟩) n cap) (iv i3.i) = some (.pointer (some ⟨0, (0 + i3.i.toNat * 19), none⟩))) ∧
((aLoad Try.prog 35 (.pointer (some ⟨0, (0 + i3.i.toNat * 19 + 2), none⟩)) [oO L] = some (.agg ⟨(rowA (gxo L i3.i).d)⟩)) ∧
((kGetRB6 (oO L) (oX x) (oM i8.fst i8.snd) (oCb x (getM x i5.now (srt i7.fst) i5.now (gxo L i3.i).d).snd.fst) x i5.now i5.now AObj.dead i5.E i5.E.length (gxo L i3.i).d []).asks Try.prog [] 11 ∧
(∀ _ : Unit, ((getM x i5.now i5.E i5.now (gxo L i3.i).d).snd.snd = []) →
∀ z10 : Int, z10 = (IntKind.i64.wrap (i3.i + 1)) →
(someN [] 1 (fun a' => (mL L x n cap) a' < (mL L x n cap) i3) ⟨[(9, (iv z10)), (7, (pp 4)), (5, (pp 3)), (2, (pp 1)), (1, (.slice (some ⟨0, 0, none⟩) n cap))], [], [oO L, oX x, oM i8.fst i8.snd, oCb x ((getM x i5.now (srt i7.fst) i5.now (gxo L i3.i).d).snd.fst), oS x ((getM x i5.now i5.E i5.now (gxo L i3.i).d).snd.fst) sN, .dead, oR i5.E, .dead], .norm⟩ [(qL0 L x n cap), (qLN L x n cap), (qLB L x n cap), (qLF L x n cap)])) ∧
(∀ _ : Unit, ((getM x i5.now i5.E i5.now (gxo L i3.i).d).snd.snd ≠ [] ∧
 i5.E = (getM x i5.now i5.E i5.now (gxo L i3.i).d).snd.snd) →
∀ z10 : Int, z10 = (IntKind.i64.wrap (i3.i + 1)) →
(someN [] 1 (fun a' => (mL L x n cap) a' < (mL L x n cap) i3) ⟨[(9, (iv z10)), (7, (pp 4)), (5, (pp 3)), (2, (pp 1)), (1, (.slice (some ⟨0, 0, none⟩) n cap))], [], [oO L, oX x, oM i8.fst i8.snd, oCb x ((getM x i5.now (srt i7.fst) i5.now (gxo L i3.i).d).snd.fst), oS x ((getM x i5.now i5.E i5.now (gxo L i3.i).d).snd.fst) (sB 6 ((getM x i5.now i5.E i5.now (gxo L i3.i).d).snd.snd.length)), .dead, oR (getM x i5.now i5.E i5.now (gxo L i3.i).d).snd.snd, .dead], .norm⟩ [(qL0 L x n cap), (qLN L x n cap), (qLB L x n cap), (qLF L x n cap)])) ∧
(∀ _ : Unit, ((getM x i5.now i5.E i5.now (gxo L i3.i).d).snd.snd ≠ []) →
∀ z10 : Int, z10 = (IntKind.i64.wrap (i3.i + 1)) →
(someN [] 1 (fun a' => (mL L x n cap) a' < (mL L x n cap) i3) ⟨[(9, (iv z10)), (7, (pp 4)), (5, (pp 3)), (2, (pp 1)), (1, (.slice (some ⟨0, 0, none⟩) n cap))], [], [oO L, oX x, oM i8.fst i8.snd, oCb x ((getM x i5.now (srt i7.fst) i5.now (gxo L i3.i).d).snd.fst), oS x ((getM x i5.now i5.E i5.now (gxo L i3.i).d).snd.fst) (sB 7 ((getM x i5.now i5.E i5.now (gxo L i3.i).d).snd.snd.length)), .dead, oR i5.E, oR (getM x i5.now i5.E i5.now (gxo L i3.i).d).snd.snd], .norm⟩ [(qL0 L x n cap), (qLN L x n cap), (qLB L x n cap), (qLF L x n cap)]))))))))))))))))))))))) ∧
((decide (i3.i < 200)) = false →
 Q (.ret (.bool true)) [oO L, oX x, oM i3.l i3.cl, oCb x i3.now, oS x i3.now (sB 5 i3.E.length), oR i3.E]))) ∧
((decide (i3.i < z4)) = false →
 Q (.ret (.bool true)) [oO L, oX x, oM i3.l i3.cl, oCb x i3.now, oS x i3.now (sB 5 i3.E.length), oR i3.E]))) ∧
(∀ i3, (qLF L x n cap i3).fst →
 Q (.ret (.bool true)) [oO L, oX x])))) ∧
(∀ _ : Unit, (okC x) →
((kAwake [oO L, oX x, AObj.dead, AObj.dead, oS x 0 sN]).asks Try.prog [] 7 ∧
∀ _ : Unit, (True) →
 Q (.ret (.bool false)) [oO L, oX x, .dead, .dead, oS x 0 sN])))) ∧
(∀ _ : Unit, (okC x) →
((kNewR5 (oO L) (oX x) AObj.dead (oM [] 0) (AObj.cells [Go.Value.int IntKind.i64 x.lim, Go.Value.int IntKind.i64 x.link, Go.Value.int IntKind.i64 x.life, Go.Value.int IntKind.i64 x.least, Go.Value.int IntKind.i64 0, Go.Value.map (Option.some 3)] Bool.false) x).asks Try.prog [] 6 ∧
(∀ _ : Unit, (¬okC x) →
((kAwake [oO L, oX x, AObj.dead, oM [] 0, AObj.cells [Go.Value.int IntKind.i64 x.lim, Go.Value.int IntKind.i64 x.link, Go.Value.int IntKind.i64 x.life, Go.Value.int IntKind.i64 x.least, Go.Value.int IntKind.i64 0, Go.Value.map (Option.some 3)] Bool.false, AObj.dead]).asks Try.prog [] 7 ∧
∀ _ : Unit, (True) →
 Q (.ret (.bool false)) [oO L, oX x, .dead, .map [] 0, oS x 0 (.map (some 3)), .dead])) ∧
(∀ _ : Unit, (okC x) →
((kAwake [oO L, oX x, AObj.dead, oM [] 0, AObj.cells [Go.Value.int IntKind.i64 x.lim, Go.Value.int IntKind.i64 x.link, Go.Value.int IntKind.i64 x.life, Go.Value.int IntKind.i64 x.least, Go.Value.int IntKind.i64 0, Go.Value.map (Option.some 3)] Bool.false, AObj.dead, oS x 0 sN]).asks Try.prog [] 7 ∧
∀ _ : Unit, (True) →
((someN [] 1 (fun _ => True) ⟨[(9, (iv 0)), (7, (pp 6)), (5, (pp 4)), (2, (pp 1)), (1, (.slice (some ⟨0, 0, none⟩) n cap))], [], [oO L, oX x, .dead, .map [] 0, oS x 0 (.map (some 3)), .dead, oS x 0 sN], .norm⟩ [(qL0 L x n cap), (qLN L x n cap), (qLB L x n cap), (qLF L x n cap)]) ∧
(∀ i3, (qL0 L x n cap i3).fst →
 Q (.ret (.bool true)) [oO L, oX x]) ∧
(∀ i3, (qLN L x n cap i3).fst →
∀ z4 : Int, z4 = (((n : Nat) : Int)) →
(((decide (i3.i < z4)) = true →
(((decide (i3.i < 200)) = true →
((aIndexAddr Try.prog 24 (.slice (some ⟨0, 0, none⟩) n cap) (iv i3.i) = some (.pointer (some ⟨0, (0 + i3.i.toNat * 19), none⟩))) ∧
((aLoad Try.prog 37 (.pointer (some ⟨0, (0 + i3.i.toNat * 19), none⟩)) [oO L] = some (.agg ⟨(rowO (gxo L i3.i))⟩)) ∧
((kStepN L x i3.now i3.l i3.cl (gxo L i3.i)).asks Try.prog [] 8 ∧
(∀ i5 : LQ, (SOk x i5 ∧
 i5.E = []) →
((kLenP (oO L) (oX x) x i5.now i5.l i5.cl [oS x i5.now sN, AObj.dead]).asks Try.prog [] 9 ∧
∀ i6 : List (En × Nat) × Nat, (Rep i6.snd i6.fst (srt i5.l)) →
(((some (iv x.lim)) : Option Value) = (some (iv x.lim))) ∧
(((decide ((((srt i5.l).length : Nat) : Int) > x.lim)) = true →
 Q (.ret (.bool false)) [oO L, oX x, oM i6.fst i6.snd, oCb x i5.now, oS x i5.now sN, .dead]) ∧
((decide ((((srt i5.l).length : Nat) : Int) > x.lim)) = false →
((kLenP (oO L) (oX x) x i5.now i6.fst i6.snd [oS x i5.now sN, AObj.dead]).asks Try.prog [] 9 ∧
∀ i7 : List (En × Nat) × Nat, (Rep i7.snd i7.fst (srt i6.fst)) →
((aIndexAddr Try.prog 24 (.slice (some ⟨0, 0, none⟩) n cap) (iv i3.i) = some (.pointer (some ⟨0, (0 + i3.i.toNat * 19), none⟩))) ∧
((aLoad Try.prog 35 (.pointer (some ⟨0, (0 + i3.i.toNat * 19 + 2), none⟩)) [oO L] = some (.agg ⟨(rowA (gxo L i3.i).d)⟩)) ∧
((kGetP (oO L) (oX x) x i5.now i5.now i7.fst i7.snd (gxo L i3.i).d [oS x i5.now sN, AObj.dead]).asks Try.prog [] 10 ∧
∀ i8 : List (En × Nat) × Nat, (Rep i8.snd i8.fst (getM x i5.now (srt i7.fst) i5.now (gxo L i3.i).d).snd.snd) →
((((getM x i5.now (srt i7.fst) i5.now (gxo L i3.i).d).fst.snd != 0) = true →
 Q (.ret (.bool false)) [oO L, oX x, oM i8.fst i8.snd, oCb x ((getM x i5.now (srt i7.fst) i5.now (gxo L i3.i).d).snd.fst), oS x i5.now sN, .dead]) ∧
(((getM x i5.now (srt i7.fst) i5.now (gxo L i3.i).d).fst.snd != 0) = false →
(((decide ((getM x i5.now (srt i7.fst) i5.now (gxo L i3.i).d).fst.fst < x.least)) = true →
 Q (.ret (.bool false)) [oO L, oX x, oM i8.fst i8.snd, oCb x ((getM x i5.now (srt i7.fst) i5.now (gxo L i3.i).d).snd.fst), oS x i5.now sN, .dead]) ∧
((decide ((getM x i5.now (srt i7.fst) i5.now (gxo L i3.i).d).fst.fst < x.least)) = false →
(((decide ((getM x i5.now (srt i7.fst) i5.now (gxo L i3.i).d).fst.fst > x.link)) = true →
 Q (.ret (.bool false)) [oO L, oX x, oM i8.fst i8.snd, oCb x ((getM x i5.now (srt i7.fst) i5.now (gxo L i3.i).d).snd.fst), oS x i5.now sN, .dead]) ∧
((decide ((getM x i5.now (srt i7.fst) i5.now (gxo L i3.i).d).fst.fst > x.link)) = false →
((aIndexAddr Try.prog 24 (.slice (some ⟨0, 0, none⟩) n cap) (iv i3.i) = some (.pointer (some ⟨0, (0 + i3.i.toNat * 19), none⟩))) ∧
((aLoad Try.prog 35 (.pointer (some ⟨0, (0 + i3.i.toNat * 19 + 2), none⟩)) [oO L] = some (.agg ⟨(rowA (gxo L i3.i).d)⟩)) ∧
((kGetRN (oO L) (oX x) (oM i8.fst i8.snd) (oCb x (getM x i5.now (srt i7.fst) i5.now (gxo L i3.i).d).snd.fst) x i5.now i5.now (gxo L i3.i).d [AObj.dead]).asks Try.prog [] 11 ∧
∀ _ : Unit, (True) →
∀ z9 : Int, z9 = (IntKind.i64.wrap (i3.i + 1)) →
(someN [] 1 (fun a' => (mL L x n cap) a' < (mL L x n cap) i3) ⟨[(9, (iv z9)), (7, (pp 4)), (5, (pp 3)), (2, (pp 1)), (1, (.slice (some ⟨0, 0, none⟩) n cap))], [], [oO L, oX x, oM i8.fst i8.snd, oCb x ((getM x i5.now (srt i7.fst) i5.now (gxo L i3.i).d).snd.fst), oS x ((getM x i5.now [] i5.now (gxo L i3.i).d).snd.fst) sN, .dead, .dead], .norm⟩ [(qL0 L x n cap), (qLN L x n cap), (qLB L x n cap), (qLF L x n cap)])))))))))))))))))) ∧
(∀ i5 : LQ, (SOk x i5 ∧
 i5.E ≠ []) →
((kLenP (oO L) (oX x) x i5.now i5.l i5.cl [oS x i5.now (sB 5 i5.E.length), oR i5.E]).asks Try.prog [] 9 ∧
∀ i6 : List (En × Nat) × Nat, (Rep i6.snd i6.fst (srt i5.l)) →
(((some (iv x.lim)) : Option Value) = (some (iv x.lim))) ∧
(((decide ((((srt i5.l).length : Nat) : Int) > x.lim)) = true →
 Q (.ret (.bool false)) [oO L, oX x, oM i6.fst i6.snd, oCb x i5.now, oS x i5.now (sB 5 i5.E.length), oR i5.E]) ∧
((decide ((((srt i5.l).length : Nat) : Int) > x.lim)) = false →
((kLenP (oO L) (oX x) x i5.now i6.fst i6.snd [oS x i5.now (sB 5 i5.E.length), oR i5.E]).asks Try.prog [] 9 ∧
∀ i7 : List (En × Nat) × Nat, (Rep i7.snd i7.fst (srt i6.fst)) →
((aIndexAddr Try.prog 24 (.slice (some ⟨0, 0, none⟩) n cap) (iv i3.i) = some (.pointer (some ⟨0, (0 + i3.i.toNat * 19), none⟩))) ∧
((aLoad Try.prog 35 (.pointer (some ⟨0, (0 + i3.i.toNat * 19 + 2), none⟩)) [oO L] = some (.agg ⟨(rowA (gxo L i3.i).d)⟩)) ∧
((kGetP (oO L) (oX x) x i5.now i5.now i7.fst i7.snd (gxo L i3.i).d [oS x i5.now (sB 5 i5.E.length), oR i5.E]).asks Try.prog [] 10 ∧
∀ i8 : List (En × Nat) × Nat, (Rep i8.snd i8.fst (getM x i5.now (srt i7.fst) i5.now (gxo L i3.i).d).snd.snd) →
((((getM x i5.now (srt i7.fst) i5.now (gxo L i3.i).d).fst.snd != 0) = true →
 Q (.ret (.bool false)) [oO L, oX x, oM i8.fst i8.snd, oCb x ((getM x i5.now (srt i7.fst) i5.now (gxo L i3.i).d).snd.fst), oS x i5.now (sB 5 i5.E.length), oR i5.E]) ∧
(((getM x i5.now (srt i7.fst) i5.now (gxo L i3.i).d).fst.snd != 0) = false →
(((decide ((getM x i5.now (srt i7.fst) i5.now (gxo L i3.i).d).fst.fst < x.least)) = true →
 Q (.ret (.bool false)) [oO L, oX x, oM i8.fst i8.snd, oCb x ((getM x i5.now (srt i7.fst) i5.now (gxo L i3.i).d).snd.fst), oS x i5.now (sB 5 i5.E.length), oR i5.E]) ∧
((decide ((getM x i5.now (srt i7.fst) i5.now (gxo L i3.i).d).fst.fst < x.least)) = false →
(((decide ((getM x i5.now (srt i7.fst) i5.now (gxo L i3.i).d).fst.fst > x.link)) = true →
 Q (.ret (.bool false)) [oO L, oX x, oM i8.fst i8.snd, oCb x ((getM x i5.now (srt i7.fst) i5.now (gxo L i3.i).d).snd.fst), oS x i5.now (sB 5 i5.E.length), oR i5.E]) ∧
((decide ((getM x i5.now (srt i7.fst) i5.now (gxo L i3.i).d).fst.fst > x.link)) = false →
((aIndexAddr Try.prog 24 (.slice (some ⟨0, 0, none⟩) n cap) (iv i3.i) = some (.pointer (some ⟨0, (0 + i3.i.toNat * 19), none⟩))) ∧
((aLoad Try.prog 35 (.pointer (some ⟨0, (0 + i3.i.toNat * 19 + 2), none⟩)) [oO L] = some (.agg ⟨(rowA (gxo L i3.i).d)⟩)) ∧
((kGetRB (oO L) (oX x) (oM i8.fst i8.snd) (oCb x (getM x i5.now (srt i7.fst) i5.now (gxo L i3.i).d).snd.fst) x i5.now i5.now i5.E i5.E.length (gxo L i3.i).d []).asks Try.prog [] 11 ∧
(∀ _ : Unit, ((getM x i5.now i5.E i5.now (gxo L i3.i).d).snd.snd = []) →
∀ z10 : Int, z10 = (IntKind.i64.wrap (i3.i + 1)) →
(someN [] 1 (fun a' => (mL L x n cap) a' < (mL L x n cap) i3) ⟨[(9, (iv z10)), (7, (pp 4)), (5, (pp 3)), (2, (pp 1)), (1, (.slice (some ⟨0, 0, none⟩) n cap))], [], [oO L, oX x, oM i8.fst i8.snd, oCb x ((getM x i5.now (srt i7.fst) i5.now (gxo L i3.i).d).snd.fst), oS x ((getM x i5.now i5.E i5.now (gxo L i3.i).d).snd.fst) sN, oR i5.E, .dead], .norm⟩ [(qL0 L x n cap), (qLN L x n cap), (qLB L x n cap), (qLF L x n cap)])) ∧
(∀ _ : Unit, ((getM x i5.now i5.E i5.now (gxo L i3.i).d).snd.snd ≠ [] ∧
 i5.E = (getM x i5.now i5.E i5.now (gxo L i3.i).d).snd.snd) →
∀ z10 : Int, z10 = (IntKind.i64.wrap (i3.i + 1)) →
(someN [] 1 (fun a' => (mL L x n cap) a' < (mL L x n cap) i3) ⟨[(9, (iv z10)), (7, (pp 4)), (5, (pp 3)), (2, (pp 1)), (1, (.slice (some ⟨0, 0, none⟩) n cap))], [], [oO L, oX x, oM i8.fst i8.snd, oCb x ((getM x i5.now (srt i7.fst) i5.now (gxo L i3.i).d).snd.fst), oS x ((getM x i5.now i5.E i5.now (gxo L i3.i).d).snd.fst) (sB 5 ((getM x i5.now i5.E i5.now (gxo L i3.i).d).snd.snd.length)), oR (getM x i5.now i5.E i5.now (gxo L i3.i).d).snd.snd, .dead], .norm⟩ [(qL0 L x n cap), (qLN L x n cap), (qLB L x n cap), (qLF L x n cap)])) ∧
(∀ _ : Unit, ((getM x i5.now i5.E i5.now (gxo L i3.i).d).snd.snd ≠ []) →
∀ z10 : Int, z10 = (IntKind.i64.wrap (i3.i + 1)) →
(someN [] 1 (fun a' => (mL L x n cap) a' < (mL L x n cap) i3) ⟨[(9, (iv z10)), (7, (pp 4)), (5, (pp 3)), (2, (pp 1)), (1, (.slice (some ⟨0, 0, none⟩) n cap))], [], [oO L, oX x, oM i8.fst i8.snd, oCb x ((getM x i5.now (srt i7.fst) i5.now (gxo L i3.i).d).snd.fst), oS x ((getM x i5.now i5.E i5.now (gxo L i3.i).d).snd.fst) (sB 6 ((getM x i5.now i5.E i5.now (gxo L i3.i).d).snd.snd.length)), oR i5.E, oR (getM x i5.now i5.E i5.now (gxo L i3.i).d).snd.snd], .norm⟩ [(qL0 L x n cap), (qLN L x n cap), (qLB L x n cap), (qLF L x n cap)]))))))))))))))))))))))) ∧
((decide (i3.i < 200)) = false →
 Q (.ret (.bool true)) [oO L, oX x, oM i3.l i3.cl, oCb x i3.now, oS x i3.now sN]))) ∧
((decide (i3.i < z4)) = false →
 Q (.ret (.bool true)) [oO L, oX x, oM i3.l i3.cl, oCb x i3.now, oS x i3.now sN]))) ∧
(∀ i3, (qLB L x n cap i3).fst →
∀ z4 : Int, z4 = (((n : Nat) : Int)) →
(((decide (i3.i < z4)) = true →
(((decide (i3.i < 200)) = true →
((aIndexAddr Try.prog 24 (.slice (some ⟨0, 0, none⟩) n cap) (iv i3.i) = some (.pointer (some ⟨0, (0 + i3.i.toNat * 19), none⟩))) ∧
((aLoad Try.prog 37 (.pointer (some ⟨0, (0 + i3.i.toNat * 19), none⟩)) [oO L] = some (.agg ⟨(rowO (gxo L i3.i))⟩)) ∧
((kStepB L x i3.now i3.l i3.cl i3.E i3.E.length (gxo L i3.i)).asks Try.prog [] 8 ∧
(∀ i5 : LQ, (SOk x i5 ∧
 i5.E = []) →
((kLenP (oO L) (oX x) x i5.now i5.l i5.cl [oS x i5.now sN, AObj.dead]).asks Try.prog [] 9 ∧
∀ i6 : List (En × Nat) × Nat, (Rep i6.snd i6.fst (srt i5.l)) →
(((some (iv x.lim)) : Option Value) = (some (iv x.lim))) ∧
(((decide ((((srt i5.l).length : Nat) : Int) > x.lim)) = true →
 Q (.ret (.bool false)) [oO L, oX x, oM i6.fst i6.snd, oCb x i5.now, oS x i5.now sN, .dead]) ∧
((decide ((((srt i5.l).length : Nat) : Int) > x.lim)) = false →
((kLenP (oO L) (oX x) x i5.now i6.fst i6.snd [oS x i5.now sN, AObj.dead]).asks Try.prog [] 9 ∧
∀ i7 : List (En × Nat) × Nat, (Rep i7.snd i7.fst (srt i6.fst)) →
((aIndexAddr Try.prog 24 (.slice (some ⟨0, 0, none⟩) n cap) (iv i3.i) = some (.pointer (some ⟨0, (0 + i3.i.toNat * 19), none⟩))) ∧
((aLoad Try.prog 35 (.pointer (some ⟨0, (0 + i3.i.toNat * 19 + 2), none⟩)) [oO L] = some (.agg ⟨(rowA (gxo L i3.i).d)⟩)) ∧
((kGetP (oO L) (oX x) x i5.now i5.now i7.fst i7.snd (gxo L i3.i).d [oS x i5.now sN, AObj.dead]).asks Try.prog [] 10 ∧
∀ i8 : List (En × Nat) × Nat, (Rep i8.snd i8.fst (getM x i5.now (srt i7.fst) i5.now (gxo L i3.i).d).snd.snd) →
((((getM x i5.now (srt i7.fst) i5.now (gxo L i3.i).d).fst.snd != 0) = true →
 Q (.ret (.bool false)) [oO L, oX x, oM i8.fst i8.snd, oCb x ((getM x i5.now (srt i7.fst) i5.now (gxo L i3.i).d).snd.fst), oS x i5.now sN, .dead]) ∧
(((getM x i5.now (srt i7.fst) i5.now (gxo L i3.i).d).fst.snd != 0) = false →
(((decide ((getM x i5.now (srt i7.fst) i5.now (gxo L i3.i).d).fst.fst < x.least)) = true →
 Q (.ret (.bool false)) [oO L, oX x, oM i8.fst i8.snd, oCb x ((getM x i5.now (srt i7.fst) i5.now (gxo L i3.i).d).snd.fst), oS x i5.now sN, .dead]) ∧
((decide ((getM x i5.now (srt i7.fst) i5.now (gxo L i3.i).d).fst.fst < x.least)) = false →
(((decide ((getM x i5.now (srt i7.fst) i5.now (gxo L i3.i).d).fst.fst > x.link)) = true →
 Q (.ret (.bool false)) [oO L, oX x, oM i8.fst i8.snd, oCb x ((getM x i5.now (srt i7.fst) i5.now (gxo L i3.i).d).snd.fst), oS x i5.now sN, .dead]) ∧
((decide ((getM x i5.now (srt i7.fst) i5.now (gxo L i3.i).d).fst.fst > x.link)) = false →
((aIndexAddr Try.prog 24 (.slice (some ⟨0, 0, none⟩) n cap) (iv i3.i) = some (.pointer (some ⟨0, (0 + i3.i.toNat * 19), none⟩))) ∧
((aLoad Try.prog 35 (.pointer (some ⟨0, (0 + i3.i.toNat * 19 + 2), none⟩)) [oO L] = some (.agg ⟨(rowA (gxo L i3.i).d)⟩)) ∧
((kGetRN (oO L) (oX x) (oM i8.fst i8.snd) (oCb x (getM x i5.now (srt i7.fst) i5.now (gxo L i3.i).d).snd.fst) x i5.now i5.now (gxo L i3.i).d [AObj.dead]).asks Try.prog [] 11 ∧
∀ _ : Unit, (True) →
∀ z9 : Int, z9 = (IntKind.i64.wrap (i3.i + 1)) →
(someN [] 1 (fun a' => (mL L x n cap) a' < (mL L x n cap) i3) ⟨[(9, (iv z9)), (7, (pp 4)), (5, (pp 3)), (2, (pp 1)), (1, (.slice (some ⟨0, 0, none⟩) n cap))], [], [oO L, oX x, oM i8.fst i8.snd, oCb x ((getM x i5.now (srt i7.fst) i5.now (gxo L i3.i).d).snd.fst), oS x ((getM x i5.now [] i5.now (gxo L i3.i).d).snd.fst) sN, .dead, .dead], .norm⟩ [(qL0 L x n cap), (qLN L x n cap), (qLB L x n cap), (qLF L x n cap)])))))))))))))))))) ∧
(∀ i5 : LQ, (SOk x i5 ∧
 i5.E ≠ []) →
((kLenP (oO L) (oX x) x i5.now i5.l i5.cl [oS x i5.now (sB 5 i5.E.length), oR i5.E]).asks Try.prog [] 9 ∧
∀ i6 : List (En × Nat) × Nat, (Rep i6.snd i6.fst (srt i5.l)) →
(((some (iv x.lim)) : Option Value) = (some (iv x.lim))) ∧
(((decide ((((srt i5.l).length : Nat) : Int) > x.lim)) = true →
 Q (.ret (.bool false)) [oO L, oX x, oM i6.fst i6.snd, oCb x i5.now, oS x i5.now (sB 5 i5.E.length), oR i5.E]) ∧
((decide ((((srt i5.l).length : Nat) : Int) > x.lim)) = false →
((kLenP (oO L) (oX x) x i5.now i6.fst i6.snd [oS x i5.now (sB 5 i5.E.length), oR i5.E]).asks Try.prog [] 9 ∧
∀ i7 : List (En × Nat) × Nat, (Rep i7.snd i7.fst (srt i6.fst)) →
((aIndexAddr Try.prog 24 (.slice (some ⟨0, 0, none⟩) n cap) (iv i3.i) = some (.pointer (some ⟨0, (0 + i3.i.toNat * 19), none⟩))) ∧
((aLoad Try.prog 35 (.pointer (some ⟨0, (0 + i3.i.toNat * 19 + 2), none⟩)) [oO L] = some (.agg ⟨(rowA (gxo L i3.i).d)⟩)) ∧
((kGetP (oO L) (oX x) x i5.now i5.now i7.fst i7.snd (gxo L i3.i).d [oS x i5.now (sB 5 i5.E.length), oR i5.E]).asks Try.prog [] 10 ∧
∀ i8 : List (En × Nat) × Nat, (Rep i8.snd i8.fst (getM x i5.now (srt i7.fst) i5.now (gxo L i3.i).d).snd.snd) →
((((getM x i5.now (srt i7.fst) i5.now (gxo L i3.i).d).fst.snd != 0) = true →
 Q (.ret (.bool false)) [oO L, oX x, oM i8.fst i8.snd, oCb x ((getM x i5.now (srt i7.fst) i5.now (gxo L i3.i).d).snd.fst), oS x i5.now (sB 5 i5.E.length), oR i5.E]) ∧
(((getM x i5.now (srt i7.fst) i5.now (gxo L i3.i).d).fst.snd != 0) = false →
(((decide ((getM x i5.now (srt i7.fst) i5.now (gxo L i3.i).d).fst.fst < x.least)) = true →
 Q (.ret (.bool false)) [oO L, oX x, oM i8.fst i8.snd, oCb x ((getM x i5.now (srt i7.fst) i5.now (gxo L i3.i).d).snd.fst), oS x i5.now (sB 5 i5.E.length), oR i5.E]) ∧
((decide ((getM x i5.now (srt i7.fst) i5.now (gxo L i3.i).d).fst.fst < x.least)) = false →
(((decide ((getM x i5.now (srt i7.fst) i5.now (gxo L i3.i).d).fst.fst > x.link)) = true →
 Q (.ret (.bool false)) [oO L, oX x, oM i8.fst i8.snd, oCb x ((getM x i5.now (srt i7.fst) i5.now (gxo L i3.i).d).snd.fst), oS x i5.now (sB 5 i5.E.length), oR i5.E]) ∧
((decide ((getM x i5.now (srt i7.fst) i5.now (gxo L i3.i).d).fst.fst > x.link)) = false →
((aIndexAddr Try.prog 24 (.slice (some ⟨0, 0, none⟩) n cap) (iv i3.i) = some (.pointer (some ⟨0, (0 + i3.i.toNat * 19), none⟩))) ∧
((aLoad Try.prog 35 (.pointer (some ⟨0, (0 + i3.i.toNat * 19 + 2), none⟩)) [oO L] = some (.agg ⟨(rowA (gxo L i3.i).d)⟩)) ∧
((kGetRB (oO L) (oX x) (oM i8.fst i8.snd) (oCb x (getM x i5.now (srt i7.fst) i5.now (gxo L i3.i).d).snd.fst) x i5.now i5.now i5.E i5.E.length (gxo L i3.i).d []).asks Try.prog [] 11 ∧
(∀ _ : Unit, ((getM x i5.now i5.E i5.now (gxo L i3.i).d).snd.snd = []) →
∀ z10 : Int, z10 = (IntKind.i64.wrap (i3.i + 1)) →
(someN [] 1 (fun a' => (mL L x n cap) a' < (mL L x n cap) i3) ⟨[(9, (iv z10)), (7, (pp 4)), (5, (pp 3)), (2, (pp 1)), (1, (.slice (some ⟨0, 0, none⟩) n cap))], [], [oO L, oX x, oM i8.fst i8.snd, oCb x ((getM x i5.now (srt i7.fst) i5.now (gxo L i3.i).d).snd.fst), oS x ((getM x i5.now i5.E i5.now (gxo L i3.i).d).snd.fst) sN, oR i5.E, .dead], .norm⟩ [(qL0 L x n cap), (qLN L x n cap), (qLB L x n cap), (qLF L x n cap)])) ∧
(∀ _ : Unit, ((getM x i5.now i5.E i5.now (gxo L i3.i).d).snd.snd ≠ [] ∧
 i5.E = (getM x i5.now i5.E i5.now (gxo L i3.i).d).snd.snd) →
∀ z10 : Int, z10 = (IntKind.i64.wrap (i3.i + 1)) →
(someN [] 1 (fun a' => (mL L x n cap) a' < (mL L x n cap) i3) ⟨[(9, (iv z10)), (7, (pp 4)), (5, (pp 3)), (2, (pp 1)), (1, (.slice (some ⟨0, 0, none⟩) n cap))], [], [oO L, oX x, oM i8.fst i8.snd, oCb x ((getM x i5.now (srt i7.fst) i5.now (gxo L i3.i).d).snd.fst), oS x ((getM x i5.now i5.E i5.now (gxo L i3.i).d).snd.fst) (sB 5 ((getM x i5.now i5.E i5.now (gxo L i3.i).d).snd.snd.length)), oR (getM x i5.now i5.E i5.now (gxo L i3.i).d).snd.snd, .dead], .norm⟩ [(qL0 L x n cap), (qLN L x n cap), (qLB L x n cap), (qLF L x n cap)])) ∧
(∀ _ : Unit, ((getM x i5.now i5.E i5.now (gxo L i3.i).d).snd.snd ≠ []) →
∀ z10 : Int, z10 = (IntKind.i64.wrap (i3.i + 1)) →
(someN [] 1 (fun a' => (mL L x n cap) a' < (mL L x n cap) i3) ⟨[(9, (iv z10)), (7, (pp 4)), (5, (pp 3)), (2, (pp 1)), (1, (.slice (some ⟨0, 0, none⟩) n cap))], [], [oO L, oX x, oM i8.fst i8.snd, oCb x ((getM x i5.now (srt i7.fst) i5.now (gxo L i3.i).d).snd.fst), oS x ((getM x i5.now i5.E i5.now (gxo L i3.i).d).snd.fst) (sB 6 ((getM x i5.now i5.E i5.now (gxo L i3.i).d).snd.snd.length)), oR i5.E, oR (getM x i5.now i5.E i5.now (gxo L i3.i).d).snd.snd], .norm⟩ [(qL0 L x n cap), (qLN L x n cap), (qLB L x n cap), (qLF L x n cap)]))))))))))))))))))) ∧
(∀ i5 : LQ, (SOk x i5 ∧
 i5.E ≠ []) →
((kLenP (oO L) (oX x) x i5.now i5.l i5.cl [oS x i5.now (sB 6 i5.E.length), AObj.dead, oR i5.E]).asks Try.prog [] 9 ∧
∀ i6 : List (En × Nat) × Nat, (Rep i6.snd i6.fst (srt i5.l)) →
(((some (iv x.lim)) : Option Value) = (some (iv x.lim))) ∧
(((decide ((((srt i5.l).length : Nat) : Int) > x.lim)) = true →
 Q (.ret (.bool false)) [oO L, oX x, oM i6.fst i6.snd, oCb x i5.now, oS x i5.now (sB 6 i5.E.length), .dead, oR i5.E]) ∧
((decide ((((srt i5.l).length : Nat) : Int) > x.lim)) = false →
((kLenP (oO L) (oX x) x i5.now i6.fst i6.snd [oS x i5.now (sB 6 i5.E.length), AObj.dead, oR i5.E]).asks Try.prog [] 9 ∧
∀ i7 : List (En × Nat) × Nat, (Rep i7.snd i7.fst (srt i6.fst)) →
((aIndexAddr Try.prog 24 (.slice (some ⟨0, 0, none⟩) n cap) (iv i3.i) = some (.pointer (some ⟨0, (0 + i3.i.toNat * 19), none⟩))) ∧
((aLoad Try.prog 35 (.pointer (some ⟨0, (0 + i3.i.toNat * 19 + 2), none⟩)) [oO L] = some (.agg ⟨(rowA (gxo L i3.i).d)⟩)) ∧
((kGetP (oO L) (oX x) x i5.now i5.now i7.fst i7.snd (gxo L i3.i).d [oS x i5.now (sB 6 i5.E.length), AObj.dead, oR i5.E]).asks Try.prog [] 10 ∧
∀ i8 : List (En × Nat) × Nat, (Rep i8.snd i8.fst (getM x i5.now (srt i7.fst) i5.now (gxo L i3.i).d).snd.snd) →
((((getM x i5.now (srt i7.fst) i5.now (gxo L i3.i).d).fst.snd != 0) = true →
 Q (.ret (.bool false)) [oO L, oX x, oM i8.fst i8.snd, oCb x ((getM x i5.now (srt i7.fst) i5.now (gxo L i3.i).d).snd.fst), oS x i5.now (sB 6 i5.E.length), .dead, oR i5.E]) ∧
(((getM x i5.now (srt i7.fst) i5.now (gxo L i3.i).d).fst.snd != 0) = false →
(((decide ((getM x i5.now (srt i7.fst) i5.now (gxo L i3.i).d).fst.fst < x.least)) = true →
 Q (.ret (.bool false)) [oO L, oX x, oM i8.fst i8.snd, oCb x ((getM x i5.now (srt i7.fst) i5.now (gxo L i3.i).d).snd.fst), oS x i5.now (sB 6 i5.E.length), .dead, oR i5.E]) ∧
((decide ((getM x i5.now (srt i7.fst) i5.now (gxo L i3.i).d).fst.fst < x.least)) = false →
(((decide ((getM x i5.now (srt i7.fst) i5.now (gxo L i3.i).d).fst.fst > x.link)) = true →
 Q (.ret (.bool false)) [oO L, oX x, oM i8.fst i8.snd, oCb x ((getM x i5.now (srt i7.fst) i5.now (gxo L i3.i).d).snd.fst), oS x i5.now (sB 6 i5.E.length), .dead, oR i5.E]) ∧
((decide ((getM x i5.now (srt i7.fst) i5.now (gxo L i3.i).d).fst.fst > x.link)) = false →
((aIndexAddr Try.prog 24 (.slice (some ⟨0, 0, none⟩) n cap) (iv i3.i) = some (.pointer (some ⟨0, (0 + i3.i.toNat * 19), none⟩))) ∧
((aLoad Try.prog 35 (.pointer (some ⟨0, (0 + i3.i.toNat * 19 + 2), none⟩)) [oO L] = some (.agg ⟨(rowA (gxo L i3.i).d)⟩)) ∧
((kGetRB6 (oO L) (oX x) (oM i8.fst i8.snd) (oCb x (getM x i5.now (srt i7.fst) i5.now (gxo L i3.i).d).snd.fst) x i5.now i5.now AObj.dead i5.E i5.E.length (gxo L i3.i).d []).asks Try.prog [] 11 ∧
(∀ _ : Unit, ((getM x i5.now i5.E i5.now (gxo L i3.i).d).snd.snd = []) →
∀ z10 : Int, z10 = (IntKind.i64.wrap (i3.i + 1)) →
(someN [] 1 (fun a' => (mL L x n cap) a' < (mL L x n cap) i3) ⟨[(9, (iv z10)), (7, (pp 4)), (5, (pp 3)), (2, (pp 1)), (1, (.slice (some ⟨0, 0, none⟩) n cap))], [], [oO L, oX x, oM i8.fst i8.snd, oCb x ((getM x i5.now (srt i7.fst) i5.now (gxo L i3.i).d).snd.fst), oS x ((getM x i5.now i5.E i5.now (gxo L i3.i).d).snd.fst) sN, .dead, oR i5.E, .dead], .norm⟩ [(qL0 L x n cap), (qLN L x n cap), (qLB L x n cap), (qLF L x n cap)])) ∧
(∀ _ : Unit, ((getM x i5.now i5.E i5.now (gxo L i3.i).d).snd.snd ≠ [] ∧
 i5.E = (getM x i5.now i5.E i5.now (gxo L i3.i).d).snd.snd) →
∀ z10 : Int, z10 = (IntKind.i64.wrap (i3.i + 1)) →
(someN [] 1 (fun a' => (mL L x n cap) a' < (mL L x n cap) i3) ⟨[(9, (iv z10)), (7, (pp 4)), (5, (pp 3)), (2, (pp 1)), (1, (.slice (some ⟨0, 0, none⟩) n cap))], [], [oO L, oX x, oM i8.fst i8.snd, oCb x ((getM x i5.now (srt i7.fst) i5.now (gxo L i3.i).d).snd.fst), oS x ((getM x i5.now i5.E i5.now (gxo L i3.i).d).snd.fst) (sB 6 ((getM x i5.now i5.E i5.now (gxo L i3.i).d).snd.snd.length)), .dead, oR (getM x i5.now i5.E i5.now (gxo L i3.i).d).snd.snd, .dead], .norm⟩ [(qL0 L x n cap), (qLN L x n cap), (qLB L x n cap), (qLF L x n cap)])) ∧
(∀ _ : Unit, ((getM x i5.now i5.E i5.now (gxo L i3.i).d).snd.snd ≠ []) →
∀ z10 : Int, z10 = (IntKind.i64.wrap (i3.i + 1)) →
(someN [] 1 (fun a' => (mL L x n cap) a' < (mL L x n cap) i3) ⟨[(9, (iv z10)), (7, (pp 4)), (5, (pp 3)), (2, (pp 1)), (1, (.slice (some ⟨0, 0, none⟩) n cap))], [], [oO L, oX x, oM i8.fst i8.snd, oCb x ((getM x i5.now (srt i7.fst) i5.now (gxo L i3.i).d).snd.fst), oS x ((getM x i5.now i5.E i5.now (gxo L i3.i).d).snd.fst) (sB 7 ((getM x i5.now i5.E i5.now (gxo L i3.i).d).snd.snd.length)), .dead, oR i5.E, oR (getM x i5.now i5.E i5.now (gxo L i3.i).d).snd.snd], .norm⟩ [(qL0 L x n cap), (qLN L x n cap), (qLB L x n cap), (qLF L x n cap)]))))))))))))))))))))))) ∧
((decide (i3.i < 200)) = false →
 Q (.ret (.bool true)) [oO L, oX x, oM i3.l i3.cl, oCb x i3.now, oS x i3.now (sB 5 i3.E.length), oR i3.E]))) ∧
((decide (i3.i < z4)) = false →
 Q (.ret (.bool true)) [oO L, oX x, oM i3.l i3.cl, oCb x i3.now, oS x i3.now (sB 5 i3.E.length), oR i3.E]))) ∧
(∀ i3, (qLF L x n cap i3).fst →
 Q (.ret (.bool true)) [oO L, oX x])))))))) =
    runS Try.prog [] false [5, 6, 7, 8, 9, 10, 11, 27, 28] 0 (SpecC Try.prog []) 20 3 [aX x, .slice (some ⟨0, 0, none⟩) n cap] [oO L] .norm (.skip 3 (.callN (Unit) (kNewP (oO L) (oX x) x).posts (fun k => match k with | 0 => fun _i1 => .skip 6 (.callN (Unit) (kNewR3 (oO L) (oX x) AObj.dead x).posts (fun k => match k with | 0 => fun _i2 => .skip 5 (.call (Unit) (kAwake [oO L, oX x, AObj.dead, AObj.dead]).post fun _ => .skip 23 (.invN [9, 7, 5, 2, 1] _ (mL L x n cap) [(qL0 L x n cap), (qLN L x n cap), (qLB L x n cap), (qLF L x n cap)] (fun k => match k with | 0 => fun _i3 => .go | 1 => fun i3 => .skip 8 (.all (fun _z4 => .skip 1 (.ask (klw50s1 L x i3) (.go)))) | 2 => fun i3 => .skip 8 (.all (fun _z4 => .skip 1 (.ask (klw50s0 L x i3) (.go)))) | _ => fun _i3 => .go))) | _ => fun _i2 => .skip 5 (.call (Unit) (kAwake [oO L, oX x, AObj.dead, AObj.dead, oS x 0 sN]).post fun _ => .go))) | _ => fun _i1 => .skip 6 (.callN (Unit) (kNewR5 (oO L) (oX x) AObj.dead (oM [] 0) (AObj.cells [Go.Value.int IntKind.i64 x.lim, Go.Value.int IntKind.i64 x.link, Go.Value.int IntKind.i64 x.life, Go.Value.int IntKind.i64 x.least, Go.Value.int IntKind.i64 0, Go.Value.map (Option.some 3)] Bool.false) x).posts (fun k => match k with | 0 => fun _i2 => .skip 5 (.call (Unit) (kAwake [oO L, oX x, AObj.dead, oM [] 0, AObj.cells [Go.Value.int IntKind.i64 x.lim, Go.Value.int IntKind.i64 x.link, Go.Value.int IntKind.i64 x.life, Go.Value.int IntKind.i64 x.least, Go.Value.int IntKind.i64 0, Go.Value.map (Option.some 3)] Bool.false, AObj.dead]).post fun _ => .go) | _ => fun _i2 => .skip 5 (.call (Unit) (kAwake [oO L, oX x, AObj.dead, oM [] 0, AObj.cells [Go.Value.int IntKind.i64 x.lim, Go.Value.int IntKind.i64 x.link, Go.Value.int IntKind.i64 x.life, Go.Value.int IntKind.i64 x.least, Go.Value.int IntKind.i64 0, Go.Value.map (Option.some 3)] Bool.false, AObj.dead, oS x 0 sN]).post fun _ => .skip 23 (.invN [9, 7, 5, 2, 1] _ (mL L x n cap) [(qL0 L x n cap), (qLN L x n cap), (qLB L x n cap), (qLF L x n cap)] (fun k => match k with | 0 => fun _i3 => .go | 1 => fun i3 => .skip 8 (.all (fun _z4 => .skip 1 (.ask (klw50s1 L x i3) (.go)))) | 2 => fun i3 => .skip 8 (.all (fun _z4 => .skip 1 (.ask (klw50s0 L x i3) (.go)))) | _ => fun _i3 => .go)))))))) (fun r _ h _ => Q r h) := by kernel_rfl

theorem bounds_spec {L : List Ow} {x : Cf} {n cap : Nat} (hL0 : L ≠ []) (hn : n ≤ L.length) (hD : ∀ o ∈ L, okA o.d) : Fm.Spec Try.prog [] 3 [aX x, .slice (some ⟨0, 0, none⟩) n cap] [oO L] fun r _ => r = .ret (.bool true) := by
  have hL := noE_o hL0
  refine spec_T (run_law3 L x n cap _) ?_
  refine ⟨newP_ok (nE hL rfl), ?_⟩
  refine ⟨?_, ?_⟩
  intro _ hno
  refine ⟨newR3_ok (nE hL rfl), ?_⟩
  refine ⟨?_, ?_⟩
  intro _ hno
  refine ⟨awake_ok, ?_⟩
  intro _ _
  refine ⟨?_, ?_⟩
  exact .inl ⟨⟨0, [], 0, 0, []⟩, hno, trivial, Gc.ren [0, 1] (by decide) (by decide) (by decide) (by decide) ⟨⟨_, rfl, ro_o L⟩, ⟨_, rfl, ro_x x⟩, trivial⟩ (by exact ⟨⟨_, rfl, .int _ _⟩, ⟨_, rfl, .pnil⟩, ⟨_, rfl, .pnil⟩, ⟨_, rfl, .ptr _ _ rfl⟩, ⟨_, rfl, .slice _ _ _ _ rfl⟩, trivial⟩) rfl⟩
  refine ⟨?_, ?_⟩
  intro i3 hno
  rfl
  refine ⟨?_, ?_⟩
  rintro i3 ⟨⟨hi, hx, hs0⟩, hE0⟩
  have e0 := hs0.rep.srt
  intro z4 hz4
  replace hz4 : z4 = ((n : Nat) : Int) := hz4
  subst hz4
  refine ⟨fun h3 => ?_, fun h3 => ?_⟩
  replace h3 := of_decide_eq_true h3
  refine ⟨fun h4 => ?_, fun h4 => ?_⟩
  replace h4 := of_decide_eq_true h4
  refine ⟨ixo hi (by omega), ?_⟩
  refine ⟨ldo (by omega), ?_⟩
  refine ⟨stepN_ok hx (okA_get hD (by omega)) (by rw [e0]; exact hs0.rep) (by rw [e0]; exact hs0.good) hs0.t0 hs0.t1 hL (e0.trans hE0), ?_⟩
  refine ⟨?_, ?_⟩
  rintro i5 ⟨hs, hE⟩
  have e5 := hs.rep.srt
  rw [hE] at e5
  rw [e5]
  refine ⟨lenP_ok (by rw [e5]; have := hs.rep; rw [hE] at this; exact this) (nE hL rfl), ?_⟩
  intro i6 hRi6
  have ei6 := hRi6.srt
  try rw [ei6]
  refine ⟨rfl, ?_⟩
  refine ⟨fun h6 => ?_, fun h6 => ?_⟩
  replace h6 := of_decide_eq_true h6
  exact absurd h6 (by have := hx.1; show ¬ (0 : Int) > x.lim; omega)
  replace h6 := of_decide_eq_false h6
  refine ⟨lenP_ok (by rw [ei6]; exact hRi6) (nE hL rfl), ?_⟩
  intro i7 hRi7
  have ei7 := hRi7.srt
  try rw [ei7]
  refine ⟨ixo hi (by omega), ?_⟩
  refine ⟨ldod (by omega), ?_⟩
  refine ⟨getP_ok (by rw [ei7]; exact hRi7) (nE hL rfl), ?_⟩
  intro i8 hRi8
  refine ⟨fun h7 => ?_, fun h7 => ?_⟩
  rw [getM_now hs.t1] at h7; exact absurd h7 (show ¬ ((0 : Int) != 0) = true by decide)
  refine ⟨fun h8 => ?_, fun h8 => ?_⟩
  replace h8 := of_decide_eq_true h8
  have := h8
  rw [getM_now hs.t1] at this
  exact absurd this (Int.not_lt.2 (look_b (E := tidyE i5.now []) (D := (L.getD i3.i.toNat default).d) hx (Good.nil hx)).1)
  replace h8 := of_decide_eq_false h8
  refine ⟨fun h9 => ?_, fun h9 => ?_⟩
  replace h9 := of_decide_eq_true h9
  have := h9
  rw [getM_now hs.t1] at this
  exact absurd this (Int.not_lt.2 (look_b (E := tidyE i5.now []) (D := (L.getD i3.i.toNat default).d) hx (Good.nil hx)).2)
  replace h9 := of_decide_eq_false h9
  refine ⟨ixo hi (by omega), ?_⟩
  refine ⟨ldod (by omega), ?_⟩
  refine ⟨getRN_ok (nE hL rfl), ?_⟩
  intro _ _
  intro z9 hz9
  rw [wr (by omega) (by omega)] at hz9
  subst hz9
  have hq := (sok_get (Good.nil hx) hs.t0 hs.t1 hRi8)
  rw [getM_nil] at hq
  exact .inr (.inl ⟨⟨i3.i + 1, i8.1, i8.2, (getM x i5.now [] i5.now (L.getD i3.i.toNat default).d).2.1, []⟩, ⟨⟨by show 0 ≤ i3.i + 1; omega, hx, sok_i hq⟩, rfl⟩, by show (200 - (i3.i + 1)).toNat < (200 - i3.i).toNat; omega, gcN⟩)
  rintro i5 ⟨hs, hE⟩
  have e5 := hs.rep.srt
  have hn5 : 1 ≤ i5.E.length := List.length_pos_iff.2 hE
  have hb5 : i5.E.length < 2 ^ 20 := hs.good.len hx
  rw [e5]
  refine ⟨lenP_ok (by rw [e5]; exact hs.rep) (nE hL rfl), ?_⟩
  intro i6 hRi6
  have ei6 := hRi6.srt
  try rw [ei6]
  refine ⟨rfl, ?_⟩
  refine ⟨fun h6 => ?_, fun h6 => ?_⟩
  replace h6 := of_decide_eq_true h6
  exact absurd h6 (by have := hs.good.1; omega)
  replace h6 := of_decide_eq_false h6
  refine ⟨lenP_ok (by rw [ei6]; exact hRi6) (nE hL rfl), ?_⟩
  intro i7 hRi7
  have ei7 := hRi7.srt
  try rw [ei7]
  refine ⟨ixo hi (by omega), ?_⟩
  refine ⟨ldod (by omega), ?_⟩
  refine ⟨getP_ok (by rw [ei7]; exact hRi7) (nE hL rfl), ?_⟩
  intro i8 hRi8
  refine ⟨fun h7 => ?_, fun h7 => ?_⟩
  rw [getM_now hs.t1] at h7; exact absurd h7 (show ¬ ((0 : Int) != 0) = true by decide)
  refine ⟨fun h8 => ?_, fun h8 => ?_⟩
  replace h8 := of_decide_eq_true h8
  have := h8
  rw [getM_now hs.t1] at this
  exact absurd this (Int.not_lt.2 (look_b (E := tidyE i5.now i5.E) (D := (L.getD i3.i.toNat default).d) hx hs.good.tidy).1)
  replace h8 := of_decide_eq_false h8
  refine ⟨fun h9 => ?_, fun h9 => ?_⟩
  replace h9 := of_decide_eq_true h9
  have := h9
  rw [getM_now hs.t1] at this
  exact absurd this (Int.not_lt.2 (look_b (E := tidyE i5.now i5.E) (D := (L.getD i3.i.toNat default).d) hx hs.good.tidy).2)
  replace h9 := of_decide_eq_false h9
  refine ⟨ixo hi (by omega), ?_⟩
  refine ⟨ldod (by omega), ?_⟩
  refine ⟨getRB_ok rfl hn5 hb5 (nE hL rfl), ?_⟩
  refine ⟨?_, ?_⟩
  intro _ hG
  intro z10 hz10
  rw [wr (by omega) (by omega)] at hz10
  subst hz10
  have hq := (sok_get (hs.good) hs.t0 hs.t1 hRi8)
  rw [hG] at hq
  exact .inr (.inl ⟨⟨i3.i + 1, i8.1, i8.2, (getM x i5.now i5.E i5.now (L.getD i3.i.toNat default).d).2.1, []⟩, ⟨⟨by show 0 ≤ i3.i + 1; omega, hx, sok_i hq⟩, rfl⟩, by show (200 - (i3.i + 1)).toNat < (200 - i3.i).toNat; omega, gcN⟩)
  refine ⟨?_, ?_⟩
  rintro _ ⟨hG, hGG⟩
  intro z10 hz10
  rw [wr (by omega) (by omega)] at hz10
  subst hz10
  exact .inr (.inr (.inl ⟨⟨i3.i + 1, i8.1, i8.2, (getM x i5.now i5.E i5.now (L.getD i3.i.toNat default).d).2.1, (getM x i5.now i5.E i5.now (L.getD i3.i.toNat default).d).2.2⟩, ⟨⟨by show 0 ≤ i3.i + 1; omega, hx, sok_i (sok_get (hs.good) hs.t0 hs.t1 hRi8)⟩, hG⟩, by show (200 - (i3.i + 1)).toNat < (200 - i3.i).toNat; omega, gcB (k := 5) (by decide) rfl rfl rfl rfl rfl rfl⟩))
  intro _ hG
  intro z10 hz10
  rw [wr (by omega) (by omega)] at hz10
  subst hz10
  exact .inr (.inr (.inl ⟨⟨i3.i + 1, i8.1, i8.2, (getM x i5.now i5.E i5.now (L.getD i3.i.toNat default).d).2.1, (getM x i5.now i5.E i5.now (L.getD i3.i.toNat default).d).2.2⟩, ⟨⟨by show 0 ≤ i3.i + 1; omega, hx, sok_i (sok_get (hs.good) hs.t0 hs.t1 hRi8)⟩, hG⟩, by show (200 - (i3.i + 1)).toNat < (200 - i3.i).toNat; omega, gcB (k := 6) (by decide) rfl rfl rfl rfl rfl rfl⟩))
  replace h4 := of_decide_eq_false h4
  rfl
  replace h3 := of_decide_eq_false h3
  rfl
  refine ⟨?_, ?_⟩
  rintro i3 ⟨⟨hi, hx, hs0⟩, hE0⟩
  have e0 := hs0.rep.srt
  intro z4 hz4
  replace hz4 : z4 = ((n : Nat) : Int) := hz4
  subst hz4
  refine ⟨fun h3 => ?_, fun h3 => ?_⟩
  replace h3 := of_decide_eq_true h3
  refine ⟨fun h4 => ?_, fun h4 => ?_⟩
  replace h4 := of_decide_eq_true h4
  refine ⟨ixo hi (by omega), ?_⟩
  refine ⟨ldo (by omega), ?_⟩
  refine ⟨stepB_ok hx (okA_get hD (by omega)) (by rw [e0]; exact hs0.rep) (by rw [e0]; exact hs0.good) hs0.t0 hs0.t1 hL e0 rfl hE0, ?_⟩
  refine ⟨?_, ?_⟩
  rintro i5 ⟨hs, hE⟩
  have e5 := hs.rep.srt
  rw [hE] at e5
  rw [e5]
  refine ⟨lenP_ok (by rw [e5]; have := hs.rep; rw [hE] at this; exact this) (nE hL rfl), ?_⟩
  intro i6 hRi6
  have ei6 := hRi6.srt
  try rw [ei6]
  refine ⟨rfl, ?_⟩
  refine ⟨fun h6 => ?_, fun h6 => ?_⟩
  replace h6 := of_decide_eq_true h6
  exact absurd h6 (by have := hx.1; show ¬ (0 : Int) > x.lim; omega)
  replace h6 := of_decide_eq_false h6
  refine ⟨lenP_ok (by rw [ei6]; exact hRi6) (nE hL rfl), ?_⟩
  intro i7 hRi7
  have ei7 := hRi7.srt
  try rw [ei7]
  refine ⟨ixo hi (by omega), ?_⟩
  refine ⟨ldod (by omega), ?_⟩
  refine ⟨getP_ok (by rw [ei7]; exact hRi7) (nE hL rfl), ?_⟩
  intro i8 hRi8
  refine ⟨fun h7 => ?_, fun h7 => ?_⟩
  rw [getM_now hs.t1] at h7; exact absurd h7 (show ¬ ((0 : Int) != 0) = true by decide)
  refine ⟨fun h8 => ?_, fun h8 => ?_⟩
  replace h8 := of_decide_eq_true h8
  have := h8
  rw [getM_now hs.t1] at this
  exact absurd this (Int.not_lt.2 (look_b (E := tidyE i5.now []) (D := (L.getD i3.i.toNat default).d) hx (Good.nil hx)).1)
  replace h8 := of_decide_eq_false h8
  refine ⟨fun h9 => ?_, fun h9 => ?_⟩
  replace h9 := of_decide_eq_true h9
  have := h9
  rw [getM_now hs.t1] at this
  exact absurd this (Int.not_lt.2 (look_b (E := tidyE i5.now []) (D := (L.getD i3.i.toNat default).d) hx (Good.nil hx)).2)
  replace h9 := of_decide_eq_false h9
  refine ⟨ixo hi (by omega), ?_⟩
  refine ⟨ldod (by omega), ?_⟩
  refine ⟨getRN_ok (nE hL rfl), ?_⟩
  intro _ _
  intro z9 hz9
  rw [wr (by omega) (by omega)] at hz9
  subst hz9
  have hq := (sok_get (Good.nil hx) hs.t0 hs.t1 hRi8)
  rw [getM_nil] at hq
  exact .inr (.inl ⟨⟨i3.i + 1, i8.1, i8.2, (getM x i5.now [] i5.now (L.getD i3.i.toNat default).d).2.1, []⟩, ⟨⟨by show 0 ≤ i3.i + 1; omega, hx, sok_i hq⟩, rfl⟩, by show (200 - (i3.i + 1)).toNat < (200 - i3.i).toNat; omega, gcN⟩)
  refine ⟨?_, ?_⟩
  rintro i5 ⟨hs, hE⟩
  have e5 := hs.rep.srt
  have hn5 : 1 ≤ i5.E.length := List.length_pos_iff.2 hE
  have hb5 : i5.E.length < 2 ^ 20 := hs.good.len hx
  rw [e5]
  refine ⟨lenP_ok (by rw [e5]; exact hs.rep) (nE hL rfl), ?_⟩
  intro i6 hRi6
  have ei6 := hRi6.srt
  try rw [ei6]
  refine ⟨rfl, ?_⟩
  refine ⟨fun h6 => ?_, fun h6 => ?_⟩
  replace h6 := of_decide_eq_true h6
  exact absurd h6 (by have := hs.good.1; omega)
  replace h6 := of_decide_eq_false h6
  refine ⟨lenP_ok (by rw [ei6]; exact hRi6) (nE hL rfl), ?_⟩
  intro i7 hRi7
  have ei7 := hRi7.srt
  try rw [ei7]
  refine ⟨ixo hi (by omega), ?_⟩
  refine ⟨ldod (by omega), ?_⟩
  refine ⟨getP_ok (by rw [ei7]; exact hRi7) (nE hL rfl), ?_⟩
  intro i8 hRi8
  refine ⟨fun h7 => ?_, fun h7 => ?_⟩
  rw [getM_now hs.t1] at h7; exact absurd h7 (show ¬ ((0 : Int) != 0) = true by decide)
  refine ⟨fun h8 => ?_, fun h8 => ?_⟩
  replace h8 := of_decide_eq_true h8
  have := h8
  rw [getM_now hs.t1] at this
  exact absurd this (Int.not_lt.2 (look_b (E := tidyE i5.now i5.E) (D := (L.getD i3.i.toNat default).d) hx hs.good.tidy).1)
  replace h8 := of_decide_eq_false h8
  refine ⟨fun h9 => ?_, fun h9 => ?_⟩
  replace h9 := of_decide_eq_true h9
  have := h9
  rw [getM_now hs.t1] at this
  exact absurd this (Int.not_lt.2 (look_b (E := tidyE i5.now i5.E) (D := (L.getD i3.i.toNat default).d) hx hs.good.tidy).2)
  replace h9 := of_decide_eq_false h9
  refine ⟨ixo hi (by omega), ?_⟩
  refine ⟨ldod (by omega), ?_⟩
  refine ⟨getRB_ok rfl hn5 hb5 (nE hL rfl), ?_⟩
  refine ⟨?_, ?_⟩
  intro _ hG
  intro z10 hz10
  rw [wr (by omega) (by omega)] at hz10
  subst hz10
  have hq := (sok_get (hs.good) hs.t0 hs.t1 hRi8)
  rw [hG] at hq
  exact .inr (.inl ⟨⟨i3.i + 1, i8.1, i8.2, (getM x i5.now i5.E i5.now (L.getD i3.i.toNat default).d).2.1, []⟩, ⟨⟨by show 0 ≤ i3.i + 1; omega, hx, sok_i hq⟩, rfl⟩, by show (200 - (i3.i + 1)).toNat < (200 - i3.i).toNat; omega, gcN⟩)
  refine ⟨?_, ?_⟩
  rintro _ ⟨hG, hGG⟩
  intro z10 hz10
  rw [wr (by omega) (by omega)] at hz10
  subst hz10
  exact .inr (.inr (.inl ⟨⟨i3.i + 1, i8.1, i8.2, (getM x i5.now i5.E i5.now (L.getD i3.i.toNat default).d).2.1, (getM x i5.now i5.E i5.now (L.getD i3.i.toNat default).d).2.2⟩, ⟨⟨by show 0 ≤ i3.i + 1; omega, hx, sok_i (sok_get (hs.good) hs.t0 hs.t1 hRi8)⟩, hG⟩, by show (200 - (i3.i + 1)).toNat < (200 - i3.i).toNat; omega, gcB (k := 5) (by decide) rfl rfl rfl rfl rfl rfl⟩))
  intro _ hG
  intro z10 hz10
  rw [wr (by omega) (by omega)] at hz10
  subst hz10
  exact .inr (.inr (.inl ⟨⟨i3.i + 1, i8.1, i8.2, (getM x i5.now i5.E i5.now (L.getD i3.i.toNat default).d).2.1, (getM x i5.now i5.E i5.now (L.getD i3.i.toNat default).d).2.2⟩, ⟨⟨by show 0 ≤ i3.i + 1; omega, hx, sok_i (sok_get (hs.good) hs.t0 hs.t1 hRi8)⟩, hG⟩, by show (200 - (i3.i + 1)).toNat < (200 - i3.i).toNat; omega, gcB (k := 6) (by decide) rfl rfl rfl rfl rfl rfl⟩))
  rintro i5 ⟨hs, hE⟩
  have e5 := hs.rep.srt
  have hn5 : 1 ≤ i5.E.length := List.length_pos_iff.2 hE
  have hb5 : i5.E.length < 2 ^ 20 := hs.good.len hx
  rw [e5]
  refine ⟨lenP_ok (by rw [e5]; exact hs.rep) (nE hL rfl), ?_⟩
  intro i6 hRi6
  have ei6 := hRi6.srt
  try rw [ei6]
  refine ⟨rfl, ?_⟩
  refine ⟨fun h6 => ?_, fun h6 => ?_⟩
  replace h6 := of_decide_eq_true h6
  exact absurd h6 (by have := hs.good.1; omega)
  replace h6 := of_decide_eq_false h6
  refine ⟨lenP_ok (by rw [ei6]; exact hRi6) (nE hL rfl), ?_⟩
  intro i7 hRi7
  have ei7 := hRi7.srt
  try rw [ei7]
  refine ⟨ixo hi (by omega), ?_⟩
  refine ⟨ldod (by omega), ?_⟩
  refine ⟨getP_ok (by rw [ei7]; exact hRi7) (nE hL rfl), ?_⟩
  intro i8 hRi8
  refine ⟨fun h7 => ?_, fun h7 => ?_⟩
  rw [getM_now hs.t1] at h7; exact absurd h7 (show ¬ ((0 : Int) != 0) = true by decide)
  refine ⟨fun h8 => ?_, fun h8 => ?_⟩
  replace h8 := of_decide_eq_true h8
  have := h8
  rw [getM_now hs.t1] at this
  exact absurd this (Int.not_lt.2 (look_b (E := tidyE i5.now i5.E) (D := (L.getD i3.i.toNat default).d) hx hs.good.tidy).1)
  replace h8 := of_decide_eq_false h8
  refine ⟨fun h9 => ?_, fun h9 => ?_⟩
  replace h9 := of_decide_eq_true h9
  have := h9
  rw [getM_now hs.t1] at this
  exact absurd this (Int.not_lt.2 (look_b (E := tidyE i5.now i5.E) (D := (L.getD i3.i.toNat default).d) hx hs.good.tidy).2)
  replace h9 := of_decide_eq_false h9
  refine ⟨ixo hi (by omega), ?_⟩
  refine ⟨ldod (by omega), ?_⟩
  refine ⟨getRB6_ok rfl hn5 hb5 (nE hL rfl), ?_⟩
  refine ⟨?_, ?_⟩
  intro _ hG
  intro z10 hz10
  rw [wr (by omega) (by omega)] at hz10
  subst hz10
  have hq := (sok_get (hs.good) hs.t0 hs.t1 hRi8)
  rw [hG] at hq
  exact .inr (.inl ⟨⟨i3.i + 1, i8.1, i8.2, (getM x i5.now i5.E i5.now (L.getD i3.i.toNat default).d).2.1, []⟩, ⟨⟨by show 0 ≤ i3.i + 1; omega, hx, sok_i hq⟩, rfl⟩, by show (200 - (i3.i + 1)).toNat < (200 - i3.i).toNat; omega, gcN⟩)
  refine ⟨?_, ?_⟩
  rintro _ ⟨hG, hGG⟩
  intro z10 hz10
  rw [wr (by omega) (by omega)] at hz10
  subst hz10
  exact .inr (.inr (.inl ⟨⟨i3.i + 1, i8.1, i8.2, (getM x i5.now i5.E i5.now (L.getD i3.i.toNat default).d).2.1, (getM x i5.now i5.E i5.now (L.getD i3.i.toNat default).d).2.2⟩, ⟨⟨by show 0 ≤ i3.i + 1; omega, hx, sok_i (sok_get (hs.good) hs.t0 hs.t1 hRi8)⟩, hG⟩, by show (200 - (i3.i + 1)).toNat < (200 - i3.i).toNat; omega, gcB (k := 6) (by decide) rfl rfl rfl rfl rfl rfl⟩))
  intro _ hG
  intro z10 hz10
  rw [wr (by omega) (by omega)] at hz10
  subst hz10
  exact .inr (.inr (.inl ⟨⟨i3.i + 1, i8.1, i8.2, (getM x i5.now i5.E i5.now (L.getD i3.i.toNat default).d).2.1, (getM x i5.now i5.E i5.now (L.getD i3.i.toNat default).d).2.2⟩, ⟨⟨by show 0 ≤ i3.i + 1; omega, hx, sok_i (sok_get (hs.good) hs.t0 hs.t1 hRi8)⟩, hG⟩, by show (200 - (i3.i + 1)).toNat < (200 - i3.i).toNat; omega, gcB (k := 7) (by decide) rfl rfl rfl rfl rfl rfl⟩))
  replace h4 := of_decide_eq_false h4
  rfl
  replace h3 := of_decide_eq_false h3
  rfl
  intro i3 hf
  exact hf.elim
  intro _ hx
  exact absurd hx hno
  intro _ hx
  refine ⟨newR5_ok (nE hL rfl), ?_⟩
  refine ⟨?_, ?_⟩
  intro _ hno2
  exact absurd hx hno2
  intro _ hx
  refine ⟨awake_ok, ?_⟩
  intro _ _
  refine ⟨?_, ?_⟩
  exact .inr (.inl ⟨⟨0, [], 0, 0, []⟩, ⟨⟨Int.le_refl _, hx, sok_0 hx⟩, rfl⟩, trivial, Gc.ren [0, 1, 3, 4, 6] (by decide) (by decide) (by decide) (by decide) ⟨⟨_, rfl, ro_o L⟩, ⟨_, rfl, ro_x x⟩, ⟨_, rfl, ro_m _ _⟩, ⟨_, rfl, .cells false (.cons (.int _ _) (.cons (.int _ _) (.cons (.int _ _) (.cons (.int _ _) (.cons (.int _ _) (.cons (.map rfl) .nil))))))⟩, ⟨_, rfl, ro_s (.snil _ _)⟩, trivial⟩ (by exact ⟨⟨_, rfl, .int _ _⟩, ⟨_, rfl, .ptr _ _ rfl⟩, ⟨_, rfl, .ptr _ _ rfl⟩, ⟨_, rfl, .ptr _ _ rfl⟩, ⟨_, rfl, .slice _ _ _ _ rfl⟩, trivial⟩) rfl⟩)
  refine ⟨?_, ?_⟩
  intro i3 hno
  rfl
  refine ⟨?_, ?_⟩
  rintro i3 ⟨⟨hi, hx, hs0⟩, hE0⟩
  have e0 := hs0.rep.srt
  intro z4 hz4
  replace hz4 : z4 = ((n : Nat) : Int) := hz4
  subst hz4
  refine ⟨fun h3 => ?_, fun h3 => ?_⟩
  replace h3 := of_decide_eq_true h3
  refine ⟨fun h4 => ?_, fun h4 => ?_⟩
  replace h4 := of_decide_eq_true h4
  refine ⟨ixo hi (by omega), ?_⟩
  refine ⟨ldo (by omega), ?_⟩
  refine ⟨stepN_ok hx (okA_get hD (by omega)) (by rw [e0]; exact hs0.rep) (by rw [e0]; exact hs0.good) hs0.t0 hs0.t1 hL (e0.trans hE0), ?_⟩
  refine ⟨?_, ?_⟩
  rintro i5 ⟨hs, hE⟩
  have e5 := hs.rep.srt
  rw [hE] at e5
  rw [e5]
  refine ⟨lenP_ok (by rw [e5]; have := hs.rep; rw [hE] at this; exact this) (nE hL rfl), ?_⟩
  intro i6 hRi6
  have ei6 := hRi6.srt
  try rw [ei6]
  refine ⟨rfl, ?_⟩
  refine ⟨fun h6 => ?_, fun h6 => ?_⟩
  replace h6 := of_decide_eq_true h6
  exact absurd h6 (by have := hx.1; show ¬ (0 : Int) > x.lim; omega)
  replace h6 := of_decide_eq_false h6
  refine ⟨lenP_ok (by rw [ei6]; exact hRi6) (nE hL rfl), ?_⟩
  intro i7 hRi7
  have ei7 := hRi7.srt
  try rw [ei7]
  refine ⟨ixo hi (by omega), ?_⟩
  refine ⟨ldod (by omega), ?_⟩
  refine ⟨getP_ok (by rw [ei7]; exact hRi7) (nE hL rfl), ?_⟩
  intro i8 hRi8
  refine ⟨fun h7 => ?_, fun h7 => ?_⟩
  rw [getM_now hs.t1] at h7; exact absurd h7 (show ¬ ((0 : Int) != 0) = true by decide)
  refine ⟨fun h8 => ?_, fun h8 => ?_⟩
  replace h8 := of_decide_eq_true h8
  have := h8
  rw [getM_now hs.t1] at this
  exact absurd this (Int.not_lt.2 (look_b (E := tidyE i5.now []) (D := (L.getD i3.i.toNat default).d) hx (Good.nil hx)).1)
  replace h8 := of_decide_eq_false h8
  refine ⟨fun h9 => ?_, fun h9 => ?_⟩
  replace h9 := of_decide_eq_true h9
  have := h9
  rw [getM_now hs.t1] at this
  exact absurd this (Int.not_lt.2 (look_b (E := tidyE i5.now []) (D := (L.getD i3.i.toNat default).d) hx (Good.nil hx)).2)
  replace h9 := of_decide_eq_false h9
  refine ⟨ixo hi (by omega), ?_⟩
  refine ⟨ldod (by omega), ?_⟩
  refine ⟨getRN_ok (nE hL rfl), ?_⟩
  intro _ _
  intro z9 hz9
  rw [wr (by omega) (by omega)] at hz9
  subst hz9
  have hq := (sok_get (Good.nil hx) hs.t0 hs.t1 hRi8)
  rw [getM_nil] at hq
  exact .inr (.inl ⟨⟨i3.i + 1, i8.1, i8.2, (getM x i5.now [] i5.now (L.getD i3.i.toNat default).d).2.1, []⟩, ⟨⟨by show 0 ≤ i3.i + 1; omega, hx, sok_i hq⟩, rfl⟩, by show (200 - (i3.i + 1)).toNat < (200 - i3.i).toNat; omega, gcN⟩)
  rintro i5 ⟨hs, hE⟩
  have e5 := hs.rep.srt
  have hn5 : 1 ≤ i5.E.length := List.length_pos_iff.2 hE
  have hb5 : i5.E.length < 2 ^ 20 := hs.good.len hx
  rw [e5]
  refine ⟨lenP_ok (by rw [e5]; exact hs.rep) (nE hL rfl), ?_⟩
  intro i6 hRi6
  have ei6 := hRi6.srt
  try rw [ei6]
  refine ⟨rfl, ?_⟩
  refine ⟨fun h6 => ?_, fun h6 => ?_⟩
  replace h6 := of_decide_eq_true h6
  exact absurd h6 (by have := hs.good.1; omega)
  replace h6 := of_decide_eq_false h6
  refine ⟨lenP_ok (by rw [ei6]; exact hRi6) (nE hL rfl), ?_⟩
  intro i7 hRi7
  have ei7 := hRi7.srt
  try rw [ei7]
  refine ⟨ixo hi (by omega), ?_⟩
  refine ⟨ldod (by omega), ?_⟩
  refine ⟨getP_ok (by rw [ei7]; exact hRi7) (nE hL rfl), ?_⟩
  intro i8 hRi8
  refine ⟨fun h7 => ?_, fun h7 => ?_⟩
  rw [getM_now hs.t1] at h7; exact absurd h7 (show ¬ ((0 : Int) != 0) = true by decide)
  refine ⟨fun h8 => ?_, fun h8 => ?_⟩
  replace h8 := of_decide_eq_true h8
  have := h8
  rw [getM_now hs.t1] at this
  exact absurd this (Int.not_lt.2 (look_b (E := tidyE i5.now i5.E) (D := (L.getD i3.i.toNat default).d) hx hs.good.tidy).1)
  replace h8 := of_decide_eq_false h8
  refine ⟨fun h9 => ?_, fun h9 => ?_⟩
  replace h9 := of_decide_eq_true h9
  have := h9
  rw [getM_now hs.t1] at this
  exact absurd this (Int.not_lt.2 (look_b (E := tidyE i5.now i5.E) (D := (L.getD i3.i.toNat default).d) hx hs.good.tidy).2)
  replace h9 := of_decide_eq_false h9
  refine ⟨ixo hi (by omega), ?_⟩
  refine ⟨ldod (by omega), ?_⟩
  refine ⟨getRB_ok rfl hn5 hb5 (nE hL rfl), ?_⟩
  refine ⟨?_, ?_⟩
  intro _ hG
  intro z10 hz10
  rw [wr (by omega) (by omega)] at hz10
  subst hz10
  have hq := (sok_get (hs.good) hs.t0 hs.t1 hRi8)
  rw [hG] at hq
  exact .inr (.inl ⟨⟨i3.i + 1, i8.1, i8.2, (getM x i5.now i5.E i5.now (L.getD i3.i.toNat default).d).2.1, []⟩, ⟨⟨by show 0 ≤ i3.i + 1; omega, hx, sok_i hq⟩, rfl⟩, by show (200 - (i3.i + 1)).toNat < (200 - i3.i).toNat; omega, gcN⟩)
  refine ⟨?_, ?_⟩
  rintro _ ⟨hG, hGG⟩
  intro z10 hz10
  rw [wr (by omega) (by omega)] at hz10
  subst hz10
  exact .inr (.inr (.inl ⟨⟨i3.i + 1, i8.1, i8.2, (getM x i5.now i5.E i5.now (L.getD i3.i.toNat default).d).2.1, (getM x i5.now i5.E i5.now (L.getD i3.i.toNat default).d).2.2⟩, ⟨⟨by show 0 ≤ i3.i + 1; omega, hx, sok_i (sok_get (hs.good) hs.t0 hs.t1 hRi8)⟩, hG⟩, by show (200 - (i3.i + 1)).toNat < (200 - i3.i).toNat; omega, gcB (k := 5) (by decide) rfl rfl rfl rfl rfl rfl⟩))
  intro _ hG
  intro z10 hz10
  rw [wr (by omega) (by omega)] at hz10
  subst hz10
  exact .inr (.inr (.inl ⟨⟨i3.i + 1, i8.1, i8.2, (getM x i5.now i5.E i5.now (L.getD i3.i.toNat default).d).2.1, (getM x i5.now i5.E i5.now (L.getD i3.i.toNat default).d).2.2⟩, ⟨⟨by show 0 ≤ i3.i + 1; omega, hx, sok_i (sok_get (hs.good) hs.t0 hs.t1 hRi8)⟩, hG⟩, by show (200 - (i3.i + 1)).toNat < (200 - i3.i).toNat; omega, gcB (k := 6) (by decide) rfl rfl rfl rfl rfl rfl⟩))
  replace h4 := of_decide_eq_false h4
  rfl
  replace h3 := of_decide_eq_false h3
  rfl
  refine ⟨?_, ?_⟩
  rintro i3 ⟨⟨hi, hx, hs0⟩, hE0⟩
  have e0 := hs0.rep.srt
  intro z4 hz4
  replace hz4 : z4 = ((n : Nat) : Int) := hz4
  subst hz4
  refine ⟨fun h3 => ?_, fun h3 => ?_⟩
  replace h3 := of_decide_eq_true h3
  refine ⟨fun h4 => ?_, fun h4 => ?_⟩
  replace h4 := of_decide_eq_true h4
  refine ⟨ixo hi (by omega), ?_⟩
  refine ⟨ldo (by omega), ?_⟩
  refine ⟨stepB_ok hx (okA_get hD (by omega)) (by rw [e0]; exact hs0.rep) (by rw [e0]; exact hs0.good) hs0.t0 hs0.t1 hL e0 rfl hE0, ?_⟩
  refine ⟨?_, ?_⟩
  rintro i5 ⟨hs, hE⟩
  have e5 := hs.rep.srt
  rw [hE] at e5
  rw [e5]
  refine ⟨lenP_ok (by rw [e5]; have := hs.rep; rw [hE] at this; exact this) (nE hL rfl), ?_⟩
  intro i6 hRi6
  have ei6 := hRi6.srt
  try rw [ei6]
  refine ⟨rfl, ?_⟩
  refine ⟨fun h6 => ?_, fun h6 => ?_⟩
  replace h6 := of_decide_eq_true h6
  exact absurd h6 (by have := hx.1; show ¬ (0 : Int) > x.lim; omega)
  replace h6 := of_decide_eq_false h6
  refine ⟨lenP_ok (by rw [ei6]; exact hRi6) (nE hL rfl), ?_⟩
  intro i7 hRi7
  have ei7 := hRi7.srt
  try rw [ei7]
  refine ⟨ixo hi (by omega), ?_⟩
  refine ⟨ldod (by omega), ?_⟩
  refine ⟨getP_ok (by rw [ei7]; exact hRi7) (nE hL rfl), ?_⟩
  intro i8 hRi8
  refine ⟨fun h7 => ?_, fun h7 => ?_⟩
  rw [getM_now hs.t1] at h7; exact absurd h7 (show ¬ ((0 : Int) != 0) = true by decide)
  refine ⟨fun h8 => ?_, fun h8 => ?_⟩
  replace h8 := of_decide_eq_true h8
  have := h8
  rw [getM_now hs.t1] at this
  exact absurd this (Int.not_lt.2 (look_b (E := tidyE i5.now []) (D := (L.getD i3.i.toNat default).d) hx (Good.nil hx)).1)
  replace h8 := of_decide_eq_false h8
  refine ⟨fun h9 => ?_, fun h9 => ?_⟩
  replace h9 := of_decide_eq_true h9
  have := h9
  rw [getM_now hs.t1] at this
  exact absurd this (Int.not_lt.2 (look_b (E := tidyE i5.now []) (D := (L.getD i3.i.toNat default).d) hx (Good.nil hx)).2)
  replace h9 := of_decide_eq_false h9
  refine ⟨ixo hi (by omega), ?_⟩
  refine ⟨ldod (by omega), ?_⟩
  refine ⟨getRN_ok (nE hL rfl), ?_⟩
  intro _ _
  intro z9 hz9
  rw [wr (by omega) (by omega)] at hz9
  subst hz9
  have hq := (sok_get (Good.nil hx) hs.t0 hs.t1 hRi8)
  rw [getM_nil] at hq
  exact .inr (.inl ⟨⟨i3.i + 1, i8.1, i8.2, (getM x i5.now [] i5.now (L.getD i3.i.toNat default).d).2.1, []⟩, ⟨⟨by show 0 ≤ i3.i + 1; omega, hx, sok_i hq⟩, rfl⟩, by show (200 - (i3.i + 1)).toNat < (200 - i3.i).toNat; omega, gcN⟩)
  refine ⟨?_, ?_⟩
  rintro i5 ⟨hs, hE⟩
  have e5 := hs.rep.srt
  have hn5 : 1 ≤ i5.E.length := List.length_pos_iff.2 hE
  have hb5 : i5.E.length < 2 ^ 20 := hs.good.len hx
  rw [e5]
  refine ⟨lenP_ok (by rw [e5]; exact hs.rep) (nE hL rfl), ?_⟩
  intro i6 hRi6
  have ei6 := hRi6.srt
  try rw [ei6]
  refine ⟨rfl, ?_⟩
  refine ⟨fun h6 => ?_, fun h6 => ?_⟩
  replace h6 := of_decide_eq_true h6
  exact absurd h6 (by have := hs.good.1; omega)
  replace h6 := of_decide_eq_false h6
  refine ⟨lenP_ok (by rw [ei6]; exact hRi6) (nE hL rfl), ?_⟩
  intro i7 hRi7
  have ei7 := hRi7.srt
  try rw [ei7]
  refine ⟨ixo hi (by omega), ?_⟩
  refine ⟨ldod (by omega), ?_⟩
  refine ⟨getP_ok (by rw [ei7]; exact hRi7) (nE hL rfl), ?_⟩
  intro i8 hRi8
  refine ⟨fun h7 => ?_, fun h7 => ?_⟩
  rw [getM_now hs.t1] at h7; exact absurd h7 (show ¬ ((0 : Int) != 0) = true by decide)
  refine ⟨fun h8 => ?_, fun h8 => ?_⟩
  replace h8 := of_decide_eq_true h8
  have := h8
  rw [getM_now hs.t1] at this
  exact absurd this (Int.not_lt.2 (look_b (E := tidyE i5.now i5.E) (D := (L.getD i3.i.toNat default).d) hx hs.good.tidy).1)
  replace h8 := of_decide_eq_false h8
  refine ⟨fun h9 => ?_, fun h9 => ?_⟩
  replace h9 := of_decide_eq_true h9
  have := h9
  rw [getM_now hs.t1] at this
  exact absurd this (Int.not_lt.2 (look_b (E := tidyE i5.now i5.E) (D := (L.getD i3.i.toNat default).d) hx hs.good.tidy).2)
  replace h9 := of_decide_eq_false h9
  refine ⟨ixo hi (by omega), ?_⟩
  refine ⟨ldod (by omega), ?_⟩
  refine ⟨getRB_ok rfl hn5 hb5 (nE hL rfl), ?_⟩
  refine ⟨?_, ?_⟩
  intro _ hG
  intro z10 hz10
  rw [wr (by omega) (by omega)] at hz10
  subst hz10
  have hq := (sok_get (hs.good) hs.t0 hs.t1 hRi8)
  rw [hG] at hq
  exact .inr (.inl ⟨⟨i3.i + 1, i8.1, i8.2, (getM x i5.now i5.E i5.now (L.getD i3.i.toNat default).d).2.1, []⟩, ⟨⟨by show 0 ≤ i3.i + 1; omega, hx, sok_i hq⟩, rfl⟩, by show (200 - (i3.i + 1)).toNat < (200 - i3.i).toNat; omega, gcN⟩)
  refine ⟨?_, ?_⟩
  rintro _ ⟨hG, hGG⟩
  intro z10 hz10
  rw [wr (by omega) (by omega)] at hz10
  subst hz10
  exact .inr (.inr (.inl ⟨⟨i3.i + 1, i8.1, i8.2, (getM x i5.now i5.E i5.now (L.getD i3.i.toNat default).d).2.1, (getM x i5.now i5.E i5.now (L.getD i3.i.toNat default).d).2.2⟩, ⟨⟨by show 0 ≤ i3.i + 1; omega, hx, sok_i (sok_get (hs.good) hs.t0 hs.t1 hRi8)⟩, hG⟩, by show (200 - (i3.i + 1)).toNat < (200 - i3.i).toNat; omega, gcB (k := 5) (by decide) rfl rfl rfl rfl rfl rfl⟩))
  intro _ hG
  intro z10 hz10
  rw [wr (by omega) (by omega)] at hz10
  subst hz10
  exact .inr (.inr (.inl ⟨⟨i3.i + 1, i8.1, i8.2, (getM x i5.now i5.E i5.now (L.getD i3.i.toNat default).d).2.1, (getM x i5.now i5.E i5.now (L.getD i3.i.toNat default).d).2.2⟩, ⟨⟨by show 0 ≤ i3.i + 1; omega, hx, sok_i (sok_get (hs.good) hs.t0 hs.t1 hRi8)⟩, hG⟩, by show (200 - (i3.i + 1)).toNat < (200 - i3.i).toNat; omega, gcB (k := 6) (by decide) rfl rfl rfl rfl rfl rfl⟩))
  rintro i5 ⟨hs, hE⟩
  have e5 := hs.rep.srt
  have hn5 : 1 ≤ i5.E.length := List.length_pos_iff.2 hE
  have hb5 : i5.E.length < 2 ^ 20 := hs.good.len hx
  rw [e5]
  refine ⟨lenP_ok (by rw [e5]; exact hs.rep) (nE hL rfl), ?_⟩
  intro i6 hRi6
  have ei6 := hRi6.srt
  try rw [ei6]
  refine ⟨rfl, ?_⟩
  refine ⟨fun h6 => ?_, fun h6 => ?_⟩
  replace h6 := of_decide_eq_true h6
  exact absurd h6 (by have := hs.good.1; omega)
  replace h6 := of_decide_eq_false h6
  refine ⟨lenP_ok (by rw [ei6]; exact hRi6) (nE hL rfl), ?_⟩
  intro i7 hRi7
  have ei7 := hRi7.srt
  try rw [ei7]
  refine ⟨ixo hi (by omega), ?_⟩
  refine ⟨ldod (by omega), ?_⟩
  refine ⟨getP_ok (by rw [ei7]; exact hRi7) (nE hL rfl), ?_⟩
  intro i8 hRi8
  refine ⟨fun h7 => ?_, fun h7 => ?_⟩
  rw [getM_now hs.t1] at h7; exact absurd h7 (show ¬ ((0 : Int) != 0) = true by decide)
  refine ⟨fun h8 => ?_, fun h8 => ?_⟩
  replace h8 := of_decide_eq_true h8
  have := h8
  rw [getM_now hs.t1] at this
  exact absurd this (Int.not_lt.2 (look_b (E := tidyE i5.now i5.E) (D := (L.getD i3.i.toNat default).d) hx hs.good.tidy).1)
  replace h8 := of_decide_eq_false h8
  refine ⟨fun h9 => ?_, fun h9 => ?_⟩
  replace h9 := of_decide_eq_true h9
  have := h9
  rw [getM_now hs.t1] at this
  exact absurd this (Int.not_lt.2 (look_b (E := tidyE i5.now i5.E) (D := (L.getD i3.i.toNat default).d) hx hs.good.tidy).2)
  replace h9 := of_decide_eq_false h9
  refine ⟨ixo hi (by omega), ?_⟩
  refine ⟨ldod (by omega), ?_⟩
  refine ⟨getRB6_ok rfl hn5 hb5 (nE hL rfl), ?_⟩
  refine ⟨?_, ?_⟩
  intro _ hG
  intro z10 hz10
  rw [wr (by omega) (by omega)] at hz10
  subst hz10
  have hq := (sok_get (hs.good) hs.t0 hs.t1 hRi8)
  rw [hG] at hq
  exact .inr (.inl ⟨⟨i3.i + 1, i8.1, i8.2, (getM x i5.now i5.E i5.now (L.getD i3.i.toNat default).d).2.1, []⟩, ⟨⟨by show 0 ≤ i3.i + 1; omega, hx, sok_i hq⟩, rfl⟩, by show (200 - (i3.i + 1)).toNat < (200 - i3.i).toNat; omega, gcN⟩)
  refine ⟨?_, ?_⟩
  rintro _ ⟨hG, hGG⟩
  intro z10 hz10
  rw [wr (by omega) (by omega)] at hz10
  subst hz10
  exact .inr (.inr (.inl ⟨⟨i3.i + 1, i8.1, i8.2, (getM x i5.now i5.E i5.now (L.getD i3.i.toNat default).d).2.1, (getM x i5.now i5.E i5.now (L.getD i3.i.toNat default).d).2.2⟩, ⟨⟨by show 0 ≤ i3.i + 1; omega, hx, sok_i (sok_get (hs.good) hs.t0 hs.t1 hRi8)⟩, hG⟩, by show (200 - (i3.i + 1)).toNat < (200 - i3.i).toNat; omega, gcB (k := 6) (by decide) rfl rfl rfl rfl rfl rfl⟩))
  intro _ hG
  intro z10 hz10
  rw [wr (by omega) (by omega)] at hz10
  subst hz10
  exact .inr (.inr (.inl ⟨⟨i3.i + 1, i8.1, i8.2, (getM x i5.now i5.E i5.now (L.getD i3.i.toNat default).d).2.1, (getM x i5.now i5.E i5.now (L.getD i3.i.toNat default).d).2.2⟩, ⟨⟨by show 0 ≤ i3.i + 1; omega, hx, sok_i (sok_get (hs.good) hs.t0 hs.t1 hRi8)⟩, hG⟩, by show (200 - (i3.i + 1)).toNat < (200 - i3.i).toNat; omega, gcB (k := 7) (by decide) rfl rfl rfl rfl rfl rfl⟩))
  replace h4 := of_decide_eq_false h4
  rfl
  replace h3 := of_decide_eq_false h3
  rfl
  intro i3 hf
  exact hf.elim
theorem run_nil3 (L : List Ow) (x : Cf) (Q : Res → AHeap → Prop) : (((kNewP (oO L) (oX x) x).asks Try.prog [] 5 ∧
(∀ _ : Unit, (¬okC x) →
((kNewR3 (oO L) (oX x) AObj.dead x).asks Try.prog [] 6 ∧
(∀ _ : Unit, (¬okC x) →
((kAwake [oO L, oX x, AObj.dead, AObj.dead]).asks Try.prog [] 7 ∧
∀ _ : Unit, (True) →
 Q (.ret (.bool true)) [oO L, oX x, .dead, .dead])) ∧
(∀ _ : Unit, (okC x) →
((kAwake [oO L, oX x, AObj.dead, AObj.dead, oS x 0 sN]).asks Try.prog [] 7 ∧
∀ _ : Unit, (True) →
 Q (.ret (.bool false)) [oO L, oX x, .dead, .dead, oS x 0 sN])))) ∧
(∀ _ : Unit, (okC x) →
((kNewR5 (oO L) (oX x) AObj.dead (oM [] 0) (AObj.cells [Go.Value.int IntKind.i64 x.lim, Go.Value.int IntKind.i64 x.link, Go.Value.int IntKind.i64 x.life, Go.Value.int IntKind.i64 x.least, Go.Value.int IntKind.i64 0, Go.Value.map (Option.some 3)] Bool.false) x).asks Try.prog [] 6 ∧
(∀ _ : Unit, (¬okC x) →
((kAwake [oO L, oX x, AObj.dead, oM [] 0, AObj.cells [Go.Value.int IntKind.i64 x.lim, Go.Value.int IntKind.i64 x.link, Go.Value.int IntKind.i64 x.life, Go.Value.int IntKind.i64 x.least, Go.Value.int IntKind.i64 0, Go.Value.map (Option.some 3)] Bool.false, AObj.dead]).asks Try.prog [] 7 ∧
∀ _ : Unit, (True) →
 Q (.ret (.bool false)) [oO L, oX x, .dead, .map [] 0, oS x 0 (.map (some 3)), .dead])) ∧
(∀ _ : Unit, (okC x) →
((kAwake [oO L, oX x, AObj.dead, oM [] 0, AObj.cells [Go.Value.int IntKind.i64 x.lim, Go.Value.int IntKind.i64 x.link, Go.Value.int IntKind.i64 x.life, Go.Value.int IntKind.i64 x.least, Go.Value.int IntKind.i64 0, Go.Value.map (Option.some 3)] Bool.false, AObj.dead, oS x 0 sN]).asks Try.prog [] 7 ∧
∀ _ : Unit, (True) →
 Q (.ret (.bool true)) [oO L, oX x, .dead, .map [] 0, oS x 0 (.map (some 3)), .dead, oS x 0 sN])))))) =
    runS Try.prog [] false [5, 6, 7, 8, 9, 10, 11, 27, 28] 0 (SpecC Try.prog []) 20 3 [aX x, .slice none 0 0] [oO L] .norm (.skip 3 (.callN (Unit) (kNewP (oO L) (oX x) x).posts (fun k => match k with | 0 => fun _i1 => .skip 6 (.callN (Unit) (kNewR3 (oO L) (oX x) AObj.dead x).posts (fun k => match k with | 0 => fun _i2 => .skip 5 (.call (Unit) (kAwake [oO L, oX x, AObj.dead, AObj.dead]).post fun _ => .skip 23 (.unr 60 (.go))) | _ => fun _i2 => .skip 5 (.call (Unit) (kAwake [oO L, oX x, AObj.dead, AObj.dead, oS x 0 sN]).post fun _ => .go))) | _ => fun _i1 => .skip 6 (.callN (Unit) (kNewR5 (oO L) (oX x) AObj.dead (oM [] 0) (AObj.cells [Go.Value.int IntKind.i64 x.lim, Go.Value.int IntKind.i64 x.link, Go.Value.int IntKind.i64 x.life, Go.Value.int IntKind.i64 x.least, Go.Value.int IntKind.i64 0, Go.Value.map (Option.some 3)] Bool.false) x).posts (fun k => match k with | 0 => fun _i2 => .skip 5 (.call (Unit) (kAwake [oO L, oX x, AObj.dead, oM [] 0, AObj.cells [Go.Value.int IntKind.i64 x.lim, Go.Value.int IntKind.i64 x.link, Go.Value.int IntKind.i64 x.life, Go.Value.int IntKind.i64 x.least, Go.Value.int IntKind.i64 0, Go.Value.map (Option.some 3)] Bool.false, AObj.dead]).post fun _ => .go) | _ => fun _i2 => .skip 5 (.call (Unit) (kAwake [oO L, oX x, AObj.dead, oM [] 0, AObj.cells [Go.Value.int IntKind.i64 x.lim, Go.Value.int IntKind.i64 x.link, Go.Value.int IntKind.i64 x.life, Go.Value.int IntKind.i64 x.least, Go.Value.int IntKind.i64 0, Go.Value.map (Option.some 3)] Bool.false, AObj.dead, oS x 0 sN]).post fun _ => .skip 23 (.unr 60 (.go)))))))) (fun r _ h _ => Q r h) := by kernel_rfl

theorem bounds_nil {L : List Ow} {x : Cf} (hL0 : L ≠ []) : Fm.Spec Try.prog [] 3 [aX x, .slice none 0 0] [oO L] fun r _ => r = .ret (.bool true) := by
  have hL := noE_o hL0
  refine spec_T (run_nil3 L x _) ?_
  refine ⟨newP_ok (nE hL rfl), ?_⟩
  refine ⟨?_, ?_⟩
  intro _ hno
  refine ⟨newR3_ok (nE hL rfl), ?_⟩
  refine ⟨?_, ?_⟩
  intro _ hno
  refine ⟨awake_ok, ?_⟩
  intro _ _
  rfl
  intro _ hx
  exact absurd hx hno
  intro _ hx
  refine ⟨newR5_ok (nE hL rfl), ?_⟩
  refine ⟨?_, ?_⟩
  intro _ hno2
  exact absurd hx hno2
  intro _ hx
  refine ⟨awake_ok, ?_⟩
  intro _ _
  rfl

end Go.Proofs.Ytcdmnmpiipmfmaa
