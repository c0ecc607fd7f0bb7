/-
  The reference's inner contracts where its methods call them. Conditions: no empty block among the objects; fewer than 2^20 entries.
-/
import Derived.Test.YtcdmnmpiipmfmaaRf2
namespace Go.Proofs.Ytcdmnmpiipmfmaa
open Go.Fm
def kBgN (o : AObj) (x : Cf) (now t : Int) : CtrN := ⟨[pR, .int .i64 t], [oS x now sN, o], Unit, [fun _ => (errT t now, .ret (.int .i64 153), [oS x now sN, o]), fun _ => (¬ errT t now, .ret (.int .i64 0), [oS x t sN, o])]⟩
def kBgB (o : AObj) (x : Cf) (now t : Int) (E : List En) (n : Nat) : CtrN := ⟨[pR, .int .i64 t], [oS x now (sB 1 n), oR E, o], List En, [fun _ => (errT t now, .ret (.int .i64 153), [oS x now (sB 1 n), oR E, o]), fun _ => (¬ errT t now ∧ tidyE t E = [], .ret (.int .i64 0), [oS x t sN, oR E, o]), fun r => (¬ errT t now ∧ r = tidyE t E ∧ r ≠ [], .ret (.int .i64 0), [oS x t (sB 3 r.length), oR E, o, oR r])]⟩
def kBgN0 (x : Cf) (now t : Int) : CtrN := ⟨[pR, .int .i64 t], [oS x now sN], Unit, [fun _ => (errT t now, .ret (.int .i64 153), [oS x now sN]), fun _ => (¬ errT t now, .ret (.int .i64 0), [oS x t sN])]⟩
def kBgB0 (x : Cf) (now t : Int) (E : List En) (n : Nat) : CtrN := ⟨[pR, .int .i64 t], hB x now E n, List En, [fun _ => (errT t now, .ret (.int .i64 153), hB x now E n), fun _ => (¬ errT t now ∧ tidyE t E = [], .ret (.int .i64 0), [oS x t sN, oR E]), fun r => (¬ errT t now ∧ r = tidyE t E ∧ r ≠ [], .ret (.int .i64 0), [oS x t (sB 2 r.length), oR E, oR r])]⟩
noncomputable def kMtN (o : AObj) (x : Cf) (now : Int) (D : Ad) : Ctr := ⟨[pR, .agg ⟨rowA D⟩], [oS x now sN, o], Unit, fun _ => (True, .ret (.int .i64 (lookE D x [])), [oS x now sN, o])⟩
noncomputable def kMtN2 (o o2 : AObj) (x : Cf) (now : Int) (D : Ad) : Ctr := ⟨[pR, .agg ⟨rowA D⟩], [oS x now sN, o, o2], Unit, fun _ => (True, .ret (.int .i64 (lookE D x [])), [oS x now sN, o, o2])⟩
noncomputable def kMtB (o o2 : AObj) (x : Cf) (now : Int) (E : List En) (n : Nat) (D : Ad) : Ctr := ⟨[pR, .agg ⟨rowA D⟩], [oS x now (sB 3 n), o, o2, oR E], Unit, fun _ => (True, .ret (.int .i64 (lookE D x E)), [oS x now (sB 3 n), o, o2, oR E])⟩
noncomputable def kAtN2 (o o2 : AObj) (x : Cf) (now : Int) (D : Ad) : Ctr := ⟨[pR, .agg ⟨rowA D⟩], [oS x now sN, o, o2], Unit, fun _ => (True, .ret (.int .i64 (atM D [])), [oS x now sN, o, o2])⟩
noncomputable def kAtB3 (o o2 : AObj) (x : Cf) (now : Int) (E : List En) (n : Nat) (D : Ad) : Ctr := ⟨[pR, .agg ⟨rowA D⟩], [oS x now (sB 3 n), o, o2, oR E], Unit, fun _ => (True, .ret (.int .i64 (atM D E)), [oS x now (sB 3 n), o, o2, oR E])⟩
def kWoB (o o2 : AObj) (x : Cf) (now : Int) (E : List En) (n : Nat) (k : Int) : CtrN := ⟨[pR, .int .i64 k], [oS x now (sB 3 n), o, o2, oR E], List En, [fun _ => (wo E k = [], .ret unitV, [oS x now sN, o, o2, oR E]), fun r => (r = wo E k ∧ r ≠ [], .ret unitV, [oS x now (sB 4 r.length), o, o2, oR E, oR r])]⟩
def kWoF (k : Int) (h : AHeap) : Ctr := ⟨[pR, .int .i64 k], h, Unit, fun _ => (False, .ret unitV, h)⟩
def kBtN (o : AObj) (x : Cf) (now t : Int) : Ctr := ⟨[pR, .int .i64 t], [oS x now sN, o], Unit, fun _ => (True, .ret (.int .i64 0), [oS x t sN, o])⟩
noncomputable def kBt1 (o : AObj) (x : Cf) (now t : Int) (E : List En) (n : Nat) : Ctr := ⟨[pR, .int .i64 t], [oS x now (sB 1 n), oR E, o], Unit, fun _ => (True, .ret (.int .i64 0), [oS x t (sB 3 (tidyE t E).length), oR E, o, oR (tidyE t E)])⟩
def kBt0 (o : AObj) (x : Cf) (now t : Int) (E : List En) (n : Nat) : Ctr := ⟨[pR, .int .i64 t], [oS x now (sB 1 n), oR E, o], Unit, fun _ => (True, .ret (.int .i64 0), [oS x t sN, oR E, o])⟩

theorem noE4 {x : Cf} {now : Int} {v : Value} {o o2 o3 : AObj} (h : noE o = true) (h2 : noE o2 = true) (h3 : noE o3 = true) : ([oS x now v, o, o2, o3] : AHeap).all noE = true := by
  show (noE _ && (noE o && (noE o2 && (noE o3 && true)))) = true
  rw [h, h2, h3]; rfl
theorem argT {i : Nat → Option Nat} {t : Int} (h : i 0 = some 0) : RVs i [pR, .int .i64 t] [pR, .int .i64 t] := .cons (.ptr 0 none h) (.cons (.int _ _) .nil)
theorem argD {i : Nat → Option Nat} {D : Ad} (h : i 0 = some 0) : RVs i [pR, .agg ⟨rowA D⟩] [pR, .agg ⟨rowA D⟩] := .cons (.ptr 0 none h) (.cons (rv_flat (rowA_flat D)) .nil)
section
variable {o o2 : AObj} {x : Cf} {now t : Int} {E : List En} {n : Nat} {D : Ad} {k : Int}
theorem bgN_ok (ho : noE o = true) : (kBgN o x now t).asks Try.prog [] 25 := by
  refine .inl (Spec.mono (fr_n (h := [oS x now sN, o]) (a := 0) beginN_ok rfl rfl (noE2 ho) (argT rfl)) ?_)
  rintro r h' ⟨rfl, rfl⟩
  by_cases e : errT t now
  · rw [bgE_err e, bgT_err e]; exact .inl ⟨(), e, rfl, rfl⟩
  · rw [bgE_ok e, bgT_ok e]; exact .inr ⟨(), e, rfl, rfl⟩
theorem bgN0_ok : (kBgN0 x now t).asks Try.prog [] 25 := by
  refine .inl (Spec.mono beginN_ok ?_)
  rintro r h' ⟨rfl, rfl⟩
  by_cases e : errT t now
  · rw [bgE_err e, bgT_err e]; exact .inl ⟨(), e, rfl, rfl⟩
  · rw [bgE_ok e, bgT_ok e]; exact .inr ⟨(), e, rfl, rfl⟩
theorem bgB_ok (hl : E.length = n) (hb : n < 2 ^ 20) (ho : noE o = true) : (kBgB o x now t E n).asks Try.prog [] 25 := by
  refine .inl (Spec.mono (fr_b (h := [oS x now (sB 1 n), oR E, o]) (a := 0) (b := 1) (beginB_ok hl hb) rfl (by decide) rfl rfl (noE3 (noER E) ho) (argT rfl)) ?_)
  rintro r h' ⟨rfl, (⟨h0, h1, rfl⟩ | ⟨h0, h1, rfl⟩ | ⟨h0, rfl⟩)⟩
  · have e := of_decide_eq_true h0
    rw [bgE_ok e, bgT_ok e]; exact .inr (.inl ⟨[], ⟨e, h1⟩, rfl, rfl⟩)
  · have e := of_decide_eq_true h0
    rw [bgE_ok e, bgT_ok e]; exact .inr (.inr ⟨_, ⟨e, rfl, h1⟩, rfl, rfl⟩)
  · have e := Decidable.not_not.1 (of_decide_eq_false h0)
    rw [bgE_err e, bgT_err e]; exact .inl ⟨[], e, rfl, rfl⟩
theorem bgB0_ok (hl : E.length = n) (hb : n < 2 ^ 20) : (kBgB0 x now t E n).asks Try.prog [] 25 := by
  refine .inl (Spec.mono (beginB_ok hl hb) ?_)
  rintro r h' ⟨rfl, (⟨h0, h1, rfl⟩ | ⟨h0, h1, rfl⟩ | ⟨h0, rfl⟩)⟩
  · have e := of_decide_eq_true h0
    rw [bgE_ok e, bgT_ok e]; exact .inr (.inl ⟨[], ⟨e, h1⟩, rfl, rfl⟩)
  · have e := of_decide_eq_true h0
    rw [bgE_ok e, bgT_ok e]; exact .inr (.inr ⟨_, ⟨e, rfl, h1⟩, rfl, rfl⟩)
  · have e := Decidable.not_not.1 (of_decide_eq_false h0)
    rw [bgE_err e, bgT_err e]; exact .inl ⟨[], e, rfl, rfl⟩
theorem mtN_ok (ho : noE o = true) : (kMtN o x now D).asks Try.prog [] 26 :=
  asks_of (Spec.mono (fr_n (h := [oS x now sN, o]) (a := 0) mtuN_ok rfl rfl (noE2 ho) (argD rfl)) (by rintro r h' ⟨rfl, rfl⟩; exact ⟨(), trivial, rfl, rfl⟩))
theorem mtN2_ok (ho : noE o = true) (h2 : noE o2 = true) : (kMtN2 o o2 x now D).asks Try.prog [] 26 :=
  asks_of (Spec.mono (fr_n (h := [oS x now sN, o, o2]) (a := 0) mtuN_ok rfl rfl (noE3 ho h2) (argD rfl)) (by rintro r h' ⟨rfl, rfl⟩; exact ⟨(), trivial, rfl, rfl⟩))
theorem mtB_ok (hl : E.length = n) (hb : n < 2 ^ 20) (ho : noE o = true) (h2 : noE o2 = true) : (kMtB o o2 x now E n D).asks Try.prog [] 26 :=
  asks_of (Spec.mono (fr_b0 (h := [oS x now (sB 3 n), o, o2, oR E]) (a := 0) (b := 3) (mtuB_ok hl hb) rfl (by decide) rfl rfl (noE4 ho h2 (noER E)) (argD rfl)) (by rintro r h' ⟨rfl, rfl⟩; exact ⟨(), trivial, rfl, rfl⟩))
theorem atN2_ok (ho : noE o = true) (h2 : noE o2 = true) : (kAtN2 o o2 x now D).asks Try.prog [] 33 :=
  asks_of (Spec.mono (fr_n (h := [oS x now sN, o, o2]) (a := 0) atN_ok rfl rfl (noE3 ho h2) (argD rfl)) (by rintro r h' ⟨rfl, rfl⟩; exact ⟨(), trivial, rfl, rfl⟩))
theorem atB3_ok (hl : E.length = n) (hb : n < 2 ^ 20) (ho : noE o = true) (h2 : noE o2 = true) : (kAtB3 o o2 x now E n D).asks Try.prog [] 33 :=
  asks_of (Spec.mono (fr_b0 (h := [oS x now (sB 3 n), o, o2, oR E]) (a := 0) (b := 3) (atB_ok hl hb) rfl (by decide) rfl rfl (noE4 ho h2 (noER E)) (argD rfl)) (by rintro r h' ⟨rfl, rfl⟩; exact ⟨(), trivial, rfl, rfl⟩))
theorem woB3_ok (hl : E.length = n) (hb : n < 2 ^ 20) (hk : 0 ≤ k) (hkn : k < n) (ho : noE o = true) (h2 : noE o2 = true) : (kWoB o o2 x now E n k).asks Try.prog [] 34 := by
  refine .inl (Spec.mono (fr_b (h := [oS x now (sB 3 n), o, o2, oR E]) (a := 0) (b := 3) (ch := true) (v := unitV) (n' := now) (E' := wo E k) (Spec.mono (woB_ok hl hb hk hkn) ?_) rfl (by decide) rfl rfl (noE4 ho h2 (noER E)) (argT rfl)) ?_)
  · rintro r h' ⟨rfl, (⟨h1, rfl⟩ | ⟨h1, rfl⟩)⟩
    · exact ⟨rfl, .inl ⟨rfl, h1, rfl⟩⟩
    · exact ⟨rfl, .inr (.inl ⟨rfl, h1, rfl⟩)⟩
  · rintro r h' ⟨rfl, (⟨h0, h1, rfl⟩ | ⟨h0, h1, rfl⟩ | ⟨h0, rfl⟩)⟩
    · exact .inl ⟨[], h1, rfl, rfl⟩
    · exact .inr ⟨_, ⟨rfl, h1⟩, rfl, rfl⟩
    · cases h0
end

end Go.Proofs.Ytcdmnmpiipmfmaa
