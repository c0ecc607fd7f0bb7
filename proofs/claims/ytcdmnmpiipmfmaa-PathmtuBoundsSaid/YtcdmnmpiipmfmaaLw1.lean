/-
  Both caches' contracts laid into the law's heap. Conditions: no empty block among the objects; the map stands for a row; the row is good (Good).
-/
import Derived.Test.YtcdmnmpiipmfmaaRf7
namespace Go.Proofs.Ytcdmnmpiipmfmaa
open Go.Fm

/-- a call -/
structure Ow where
  (k w : Int)
  (d : Ad)
  (m : Int)
instance : Inhabited Ow := ⟨⟨0, 0, default, 0⟩⟩
def rowO (o : Ow) : List Value := [.int .i64 o.k, .int .i64 o.w, .int .u8 o.d.a0, .int .u8 o.d.a1, .int .u8 o.d.a2, .int .u8 o.d.a3, .int .u8 o.d.a4, .int .u8 o.d.a5, .int .u8 o.d.a6, .int .u8 o.d.a7, .int .u8 o.d.a8, .int .u8 o.d.a9, .int .u8 o.d.a10, .int .u8 o.d.a11, .int .u8 o.d.a12, .int .u8 o.d.a13, .int .u8 o.d.a14, .int .u8 o.d.a15, .int .i64 o.m]
abbrev oO (L : List Ow) : AObj := .cells (rwl rowO L) true
abbrev oX (x : Cf) : AObj := .cells [.int .i64 x.lim, .int .i64 x.link, .int .i64 x.life, .int .i64 x.least] false
abbrev oCb (x : Cf) (now : Int) : AObj := .cells [.int .i64 x.lim, .int .i64 x.link, .int .i64 x.life, .int .i64 x.least, .int .i64 now, .map (some 2)] false
abbrev pP : Value := .pointer (some ⟨3, 0, none⟩)
abbrev pQ : Value := .pointer (some ⟨4, 0, none⟩)
abbrev tI (p : Int × Int) : Value := .tuple ⟨[.int .i64 p.1, .int .i64 p.2]⟩
abbrev tB (p : Bool × Int) : Value := .tuple ⟨[.bool p.1, .int .i64 p.2]⟩
abbrev gxo (L : List Ow) (z : Int) : Ow := L.getD z.toNat default
/-- the row that a map stands for -/
noncomputable def srt (l : List (En × Nat)) : List En := open Classical in if h : ∃ E, Up E ∧ ∀ e, e ∈ E ↔ ∃ x ∈ l, x.1 = e then h.choose else []
theorem Rep.srt {cl : Nat} {l : List (En × Nat)} {E : List En} (h : Rep cl l E) : Go.Proofs.Ytcdmnmpiipmfmaa.srt l = E := by
  unfold Go.Proofs.Ytcdmnmpiipmfmaa.srt
  have hx : ∃ E, Up E ∧ ∀ e, e ∈ E ↔ ∃ x ∈ l, x.1 = e := ⟨E, h.up, h.mem⟩
  rw [dif_pos hx]
  exact Up.eq hx.choose_spec.1 h.up fun e => by rw [hx.choose_spec.2, h.mem]
def whenM (now w : Int) : Int := if w ≥ 0 ∧ w ≤ 1099511627776 - now then now + w else w
noncomputable def kGetP (o0 o1 : AObj) (x : Cf) (now t : Int) (l : List (En × Nat)) (cl : Nat) (D : Ad) (rest : AHeap) : Ctr := ⟨[pP, .int .i64 t, .agg ⟨rowA D⟩], o0 :: o1 :: oM l cl :: oCb x now :: rest, List (En × Nat) × Nat, fun q => (Rep q.2 q.1 (getM x now (srt l) t D).2.2, .ret (tI (getM x now (srt l) t D).1), o0 :: o1 :: oM q.1 q.2 :: oCb x (getM x now (srt l) t D).2.1 :: rest)⟩
noncomputable def kGetRN (o0 o1 o2 o3 : AObj) (x : Cf) (now t : Int) (D : Ad) (rest : AHeap) : Ctr := ⟨[pQ, .int .i64 t, .agg ⟨rowA D⟩], o0 :: o1 :: o2 :: o3 :: oS x now sN :: rest, Unit, fun _ => (True, .ret (tI (getM x now [] t D).1), o0 :: o1 :: o2 :: o3 :: oS x (getM x now [] t D).2.1 sN :: (rest ++ [.dead]))⟩
noncomputable def kGetRB (o0 o1 o2 o3 : AObj) (x : Cf) (now t : Int) (E : List En) (n : Nat) (D : Ad) (rest : AHeap) : CtrN := ⟨[pQ, .int .i64 t, .agg ⟨rowA D⟩], o0 :: o1 :: o2 :: o3 :: oS x now (sB 5 n) :: oR E :: rest, Unit, [fun _ => ((getM x now E t D).2.2 = [], .ret (tI (getM x now E t D).1), o0 :: o1 :: o2 :: o3 :: oS x (getM x now E t D).2.1 sN :: oR E :: (rest ++ [.dead])),
  fun _ => ((getM x now E t D).2.2 ≠ [] ∧ E = (getM x now E t D).2.2, .ret (tI (getM x now E t D).1), o0 :: o1 :: o2 :: o3 :: oS x (getM x now E t D).2.1 (sB 5 (getM x now E t D).2.2.length) :: oR (getM x now E t D).2.2 :: (rest ++ [.dead])),
  fun _ => ((getM x now E t D).2.2 ≠ [], .ret (tI (getM x now E t D).1), o0 :: o1 :: o2 :: o3 :: oS x (getM x now E t D).2.1 (sB (6 + rest.length) (getM x now E t D).2.2.length) :: oR E :: (rest ++ [oR (getM x now E t D).2.2]))]⟩
noncomputable def kGetRB6 (o0 o1 o2 o3 : AObj) (x : Cf) (now t : Int) (o5 : AObj) (E : List En) (n : Nat) (D : Ad) (rest : AHeap) : CtrN := ⟨[pQ, .int .i64 t, .agg ⟨rowA D⟩], o0 :: o1 :: o2 :: o3 :: oS x now (sB 6 n) :: o5 :: oR E :: rest, Unit, [fun _ => ((getM x now E t D).2.2 = [], .ret (tI (getM x now E t D).1), o0 :: o1 :: o2 :: o3 :: oS x (getM x now E t D).2.1 sN :: o5 :: oR E :: (rest ++ [.dead])),
  fun _ => ((getM x now E t D).2.2 ≠ [] ∧ E = (getM x now E t D).2.2, .ret (tI (getM x now E t D).1), o0 :: o1 :: o2 :: o3 :: oS x (getM x now E t D).2.1 (sB 6 (getM x now E t D).2.2.length) :: o5 :: oR (getM x now E t D).2.2 :: (rest ++ [.dead])),
  fun _ => ((getM x now E t D).2.2 ≠ [], .ret (tI (getM x now E t D).1), o0 :: o1 :: o2 :: o3 :: oS x (getM x now E t D).2.1 (sB (7 + rest.length) (getM x now E t D).2.2.length) :: o5 :: oR E :: (rest ++ [oR (getM x now E t D).2.2]))]⟩
noncomputable def kToldP (o0 o1 : AObj) (x : Cf) (now t : Int) (l : List (En × Nat)) (cl : Nat) (D : Ad) (mtu : Int) (rest : AHeap) : Ctr := ⟨[pP, .int .i64 t, .agg ⟨rowA D⟩, .int .i64 mtu], o0 :: o1 :: oM l cl :: oCb x now :: rest, List (En × Nat) × Nat, fun q => (Rep q.2 q.1 (toldM x now (srt l) t D mtu).2.2, .ret (tB (toldM x now (srt l) t D mtu).1), o0 :: o1 :: oM q.1 q.2 :: oCb x (toldM x now (srt l) t D mtu).2.1 :: rest)⟩
noncomputable def kToldRN (o0 o1 o2 o3 : AObj) (x : Cf) (now t : Int) (D : Ad) (mtu : Int) (rest : AHeap) : CtrN := ⟨[pQ, .int .i64 t, .agg ⟨rowA D⟩, .int .i64 mtu], o0 :: o1 :: o2 :: o3 :: oS x now sN :: rest, Unit, [fun _ => ((toldM x now [] t D mtu).2.2 = [], .ret (tB (toldM x now [] t D mtu).1), o0 :: o1 :: o2 :: o3 :: oS x (toldM x now [] t D mtu).2.1 sN :: (rest ++ [.dead])), fun _ => ((toldM x now [] t D mtu).2.2 ≠ [], .ret (tB (toldM x now [] t D mtu).1), o0 :: o1 :: o2 :: o3 :: oS x (toldM x now [] t D mtu).2.1 (sB (5 + rest.length) (toldM x now [] t D mtu).2.2.length) :: (rest ++ [oR (toldM x now [] t D mtu).2.2]))]⟩
noncomputable def kToldRB (o0 o1 o2 o3 : AObj) (x : Cf) (now t : Int) (E : List En) (n : Nat) (D : Ad) (mtu : Int) (rest : AHeap) : CtrN := ⟨[pQ, .int .i64 t, .agg ⟨rowA D⟩, .int .i64 mtu], o0 :: o1 :: o2 :: o3 :: oS x now (sB 5 n) :: oR E :: rest, Unit, [fun _ => ((toldM x now E t D mtu).2.2 = [], .ret (tB (toldM x now E t D mtu).1), o0 :: o1 :: o2 :: o3 :: oS x (toldM x now E t D mtu).2.1 sN :: oR E :: (rest ++ [.dead])),
  fun _ => ((toldM x now E t D mtu).2.2 ≠ [] ∧ E = (toldM x now E t D mtu).2.2, .ret (tB (toldM x now E t D mtu).1), o0 :: o1 :: o2 :: o3 :: oS x (toldM x now E t D mtu).2.1 (sB 5 (toldM x now E t D mtu).2.2.length) :: oR (toldM x now E t D mtu).2.2 :: (rest ++ [.dead])),
  fun _ => ((toldM x now E t D mtu).2.2 ≠ [], .ret (tB (toldM x now E t D mtu).1), o0 :: o1 :: o2 :: o3 :: oS x (toldM x now E t D mtu).2.1 (sB (6 + rest.length) (toldM x now E t D mtu).2.2.length) :: oR E :: (rest ++ [oR (toldM x now E t D mtu).2.2]))]⟩
noncomputable def kDropP (o0 o1 : AObj) (x : Cf) (now t : Int) (l : List (En × Nat)) (cl : Nat) (D : Ad) (rest : AHeap) : Ctr := ⟨[pP, .int .i64 t, .agg ⟨rowA D⟩], o0 :: o1 :: oM l cl :: oCb x now :: rest, List (En × Nat) × Nat, fun q => (Rep q.2 q.1 (dropM now (srt l) t D).2.2, .ret (tB (dropM now (srt l) t D).1), o0 :: o1 :: oM q.1 q.2 :: oCb x (dropM now (srt l) t D).2.1 :: rest)⟩
noncomputable def kDropRN (o0 o1 o2 o3 : AObj) (x : Cf) (now t : Int) (D : Ad) (rest : AHeap) : Ctr := ⟨[pQ, .int .i64 t, .agg ⟨rowA D⟩], o0 :: o1 :: o2 :: o3 :: oS x now sN :: rest, Unit, fun _ => (True, .ret (tB (dropM now [] t D).1), o0 :: o1 :: o2 :: o3 :: oS x (dropM now [] t D).2.1 sN :: (rest ++ [.dead]))⟩
noncomputable def kDropRB (o0 o1 o2 o3 : AObj) (x : Cf) (now t : Int) (E : List En) (n : Nat) (D : Ad) (rest : AHeap) : CtrN := ⟨[pQ, .int .i64 t, .agg ⟨rowA D⟩], o0 :: o1 :: o2 :: o3 :: oS x now (sB 5 n) :: oR E :: rest, Unit, [fun _ => ((dropM now E t D).2.2 = [], .ret (tB (dropM now E t D).1), o0 :: o1 :: o2 :: o3 :: oS x (dropM now E t D).2.1 sN :: oR E :: (rest ++ [.dead])),
  fun _ => ((dropM now E t D).2.2 ≠ [] ∧ E = (dropM now E t D).2.2, .ret (tB (dropM now E t D).1), o0 :: o1 :: o2 :: o3 :: oS x (dropM now E t D).2.1 (sB 5 (dropM now E t D).2.2.length) :: oR (dropM now E t D).2.2 :: (rest ++ [.dead])),
  fun _ => ((dropM now E t D).2.2 ≠ [], .ret (tB (dropM now E t D).1), o0 :: o1 :: o2 :: o3 :: oS x (dropM now E t D).2.1 (sB (6 + rest.length) (dropM now E t D).2.2.length) :: oR E :: (rest ++ [oR (dropM now E t D).2.2]))]⟩
noncomputable def kAllP (o0 o1 : AObj) (x : Cf) (now t : Int) (l : List (En × Nat)) (cl : Nat) (rest : AHeap) : CtrN := ⟨[pP, .int .i64 t], o0 :: o1 :: oM l cl :: oCb x now :: rest, List (En × Nat) × Nat, [fun q => (errT t now ∧ Rep q.2 q.1 (srt l), .ret (.tuple ⟨[sN, .int .i64 153]⟩), o0 :: o1 :: oM q.1 q.2 :: oCb x now :: rest),
  fun q => (¬ errT t now ∧ tidyE t (srt l) = [] ∧ Rep q.2 q.1 (tidyE t (srt l)), .ret (.tuple ⟨[sN, .int .i64 0]⟩), o0 :: o1 :: oM q.1 q.2 :: oCb x t :: rest),
  fun q => (¬ errT t now ∧ tidyE t (srt l) ≠ [] ∧ Rep q.2 q.1 (tidyE t (srt l)), .ret (.tuple ⟨[sB (4 + rest.length) (tidyE t (srt l)).length, .int .i64 0]⟩), o0 :: o1 :: oM q.1 q.2 :: oCb x t :: (rest ++ [oR (tidyE t (srt l))]))]⟩
def kAllRN (o0 o1 o2 o3 : AObj) (x : Cf) (now t : Int) (rest : AHeap) : CtrN := ⟨[pQ, .int .i64 t], o0 :: o1 :: o2 :: o3 :: oS x now sN :: rest, Unit, [fun _ => (errT t now, .ret (.tuple ⟨[sN, .int .i64 153]⟩), o0 :: o1 :: o2 :: o3 :: oS x now sN :: rest),
  fun _ => (¬ errT t now, .ret (.tuple ⟨[.slice (some ⟨4, 0, none⟩) 0 0, .int .i64 0]⟩), o0 :: o1 :: o2 :: o3 :: oS x t sN :: rest)]⟩
def kAllRB (o0 o1 o2 o3 : AObj) (x : Cf) (now t : Int) (E : List En) (n : Nat) (rest : AHeap) : CtrN := ⟨[pQ, .int .i64 t], o0 :: o1 :: o2 :: o3 :: oS x now (sB 5 n) :: oR E :: rest, Unit, [fun _ => (errT t now, .ret (.tuple ⟨[sN, .int .i64 153]⟩), o0 :: o1 :: o2 :: o3 :: oS x now (sB 5 n) :: oR E :: rest),
  fun _ => (¬ errT t now ∧ tidyE t E = [], .ret (.tuple ⟨[.slice (some ⟨4, 0, none⟩) 0 0, .int .i64 0]⟩), o0 :: o1 :: o2 :: o3 :: oS x t sN :: oR E :: rest),
  fun _ => (¬ errT t now ∧ tidyE t E ≠ [], .ret (.tuple ⟨[sB (7 + rest.length) (tidyE t E).length, .int .i64 0]⟩), o0 :: o1 :: o2 :: o3 :: oS x t (sB (6 + rest.length) (tidyE t E).length) :: oR E :: (rest ++ [oR (tidyE t E), oR (tidyE t E)]))]⟩
def kSameN (h : AHeap) : Ctr := ⟨[sN, sN], h, Unit, fun _ => (True, .ret (.bool true), h)⟩
def kSame0 (h : AHeap) : Ctr := ⟨[sN, .slice (some ⟨4, 0, none⟩) 0 0], h, Unit, fun _ => (True, .ret (.bool true), h)⟩
def kSameB (o0 o1 o2 o3 o4 o5 o6 o8 : AObj) (A B : List En) (n m : Nat) : Ctr := ⟨[sB 7 n, sB 9 m], [o0, o1, o2, o3, o4, o5, o6, oR A, o8, oR B], Unit, fun _ => (True, .ret (.bool true), [o0, o1, o2, o3, o4, o5, o6, oR A, o8, oR B])⟩
def kSameF (u v : Value) (h : AHeap) : Ctr := ⟨[u, v], h, Unit, fun _ => (False, .ret (.bool true), h)⟩
def kWhen (now w : Int) (h : AHeap) : Ctr := ⟨[.int .i64 now, .int .i64 w], h, Unit, fun _ => (True, .ret (.int .i64 (whenM now w)), h)⟩

section
variable {f : FuncId} {args0 args : List Value} {x : Cf} {now n' t mtu : Int} {l : List (En × Nat)} {cl n : Nat} {E E' : List En} {v : Value} {o0 o1 o2 o3 o5 : AObj} {rest : AHeap} {D : Ad}
theorem prg_ok (hs : Fm.Spec Try.prog [] f args0 (hC x now l cl) (Pst x v n' E')) (hv : scopeV 0 8 v = true) (he : (o0 :: o1 :: oM l cl :: oCb x now :: rest).all noE = true) (hr : RVs (two 2 3) args0 args) :
    Fm.Spec Try.prog [] f args (o0 :: o1 :: oM l cl :: oCb x now :: rest) fun r h' => ∃ q : List (En × Nat) × Nat, Rep q.2 q.1 E' ∧ r = .ret v ∧ h' = o0 :: o1 :: oM q.1 q.2 :: oCb x n' :: rest := by
  refine Spec.mono (frame_c (Q := fun v' now' l' cl' T => v' = v ∧ now' = n' ∧ T = [] ∧ Rep cl' l' E') (a := 2) (b := 3) hs (by decide) rfl rfl he hr) ?_
  rintro r h' ⟨v', now', l', cl', T, ⟨rfl, rfl, rfl, hR⟩, rfl, rfl⟩
  refine ⟨(l', cl'), hR, ?_, ?_⟩
  · rw [renV_flat 8 hv]
  · show o0 :: o1 :: oM l' cl' :: oCb x now' :: (rest ++ []) = _
    rw [List.append_nil]
theorem refN_ok (hs : Fm.Spec Try.prog [] f args0 (hN x now) (PJ (hN x now) 0 none x v n' E')) (hv : scopeV 0 8 v = true) (he : (o0 :: o1 :: o2 :: o3 :: oS x now sN :: rest).all noE = true) (hr : RVs (one 4) args0 args) :
    Fm.Spec Try.prog [] f args (o0 :: o1 :: o2 :: o3 :: oS x now sN :: rest) fun r h' => r = .ret v ∧ ((E' = [] ∧ h' = o0 :: o1 :: o2 :: o3 :: oS x n' sN :: (rest ++ [.dead])) ∨ (E' ≠ [] ∧ h' = o0 :: o1 :: o2 :: o3 :: oS x n' (sB (5 + rest.length) E'.length) :: (rest ++ [oR E']))) := by
  refine Spec.mono (fr_jn (a := 4) hs hv rfl he hr) ?_
  rintro r h' ⟨rfl, p, o, hp, rfl⟩
  refine ⟨rfl, ?_⟩
  rcases hp with ⟨h1, rfl⟩ | h | ⟨h1, rfl, rfl⟩
  · subst h1; exact .inl ⟨rfl, rfl⟩
  · cases h.2.2.1
  · refine .inr ⟨h1, ?_⟩
    rw [sv_some h1, show (o0 :: o1 :: o2 :: o3 :: oS x now sN :: rest).length = 5 + rest.length from by simp; omega]; rfl
theorem refB_ok (hs : Fm.Spec Try.prog [] f args0 (hB x now E n) (PJ (hB x now E n) 0 (some 1) x v n' E')) (hv : scopeV 0 8 v = true) (he : (o0 :: o1 :: o2 :: o3 :: oS x now (sB 5 n) :: oR E :: rest).all noE = true) (hr : RVs (two 4 5) args0 args) :
    Fm.Spec Try.prog [] f args (o0 :: o1 :: o2 :: o3 :: oS x now (sB 5 n) :: oR E :: rest) fun r h' => r = .ret v ∧ ((E' = [] ∧ h' = o0 :: o1 :: o2 :: o3 :: oS x n' sN :: oR E :: (rest ++ [.dead])) ∨ ((E' ≠ [] ∧ E = E') ∧ h' = o0 :: o1 :: o2 :: o3 :: oS x n' (sB 5 E'.length) :: oR E' :: (rest ++ [.dead])) ∨
      (E' ≠ [] ∧ h' = o0 :: o1 :: o2 :: o3 :: oS x n' (sB (6 + rest.length) E'.length) :: oR E :: (rest ++ [oR E']))) := by
  refine Spec.mono (fr_jb (a := 4) (b := 5) hs hv (by decide) rfl rfl he hr) ?_
  rintro r h' ⟨rfl, p, o, hp, rfl⟩
  refine ⟨rfl, ?_⟩
  rcases hp with ⟨h1, rfl⟩ | ⟨h1, rfl, h2, h3⟩ | ⟨h1, rfl, rfl⟩
  · subst h1; exact .inl ⟨rfl, rfl⟩
  · injection h2 with h2; subst h2
    have h3 : some (oR E) = some (oR E') := h3
    have e3 : E = E' := oR_inj (by injection h3)
    subst e3
    refine .inr (.inl ⟨⟨h1, rfl⟩, ?_⟩)
    rw [sv_some h1]; rfl
  · refine .inr (.inr ⟨h1, ?_⟩)
    rw [sv_some h1, show (o0 :: o1 :: o2 :: o3 :: oS x now (sB 5 n) :: oR E :: rest).length = 6 + rest.length from by simp; omega]; rfl
theorem refB6_ok (hs : Fm.Spec Try.prog [] f args0 (hB x now E n) (PJ (hB x now E n) 0 (some 1) x v n' E')) (hv : scopeV 0 8 v = true) (he : (o0 :: o1 :: o2 :: o3 :: oS x now (sB 6 n) :: o5 :: oR E :: rest).all noE = true) (hr : RVs (two 4 6) args0 args) :
    Fm.Spec Try.prog [] f args (o0 :: o1 :: o2 :: o3 :: oS x now (sB 6 n) :: o5 :: oR E :: rest) fun r h' => r = .ret v ∧ ((E' = [] ∧ h' = o0 :: o1 :: o2 :: o3 :: oS x n' sN :: o5 :: oR E :: (rest ++ [.dead])) ∨ ((E' ≠ [] ∧ E = E') ∧ h' = o0 :: o1 :: o2 :: o3 :: oS x n' (sB 6 E'.length) :: o5 :: oR E' :: (rest ++ [.dead])) ∨
      (E' ≠ [] ∧ h' = o0 :: o1 :: o2 :: o3 :: oS x n' (sB (7 + rest.length) E'.length) :: o5 :: oR E :: (rest ++ [oR E']))) := by
  refine Spec.mono (fr_jb (a := 4) (b := 6) hs hv (by decide) rfl rfl he hr) ?_
  rintro r h' ⟨rfl, p, o, hp, rfl⟩
  refine ⟨rfl, ?_⟩
  rcases hp with ⟨h1, rfl⟩ | ⟨h1, rfl, h2, h3⟩ | ⟨h1, rfl, rfl⟩
  · subst h1; exact .inl ⟨rfl, rfl⟩
  · injection h2 with h2; subst h2
    have h3 : some (oR E) = some (oR E') := h3
    have e3 : E = E' := oR_inj (by injection h3)
    subst e3
    refine .inr (.inl ⟨⟨h1, rfl⟩, ?_⟩)
    rw [sv_some h1]; rfl
  · refine .inr (.inr ⟨h1, ?_⟩)
    rw [sv_some h1, show (o0 :: o1 :: o2 :: o3 :: oS x now (sB 6 n) :: o5 :: oR E :: rest).length = 7 + rest.length from by simp; omega]; rfl
theorem aT {i : Nat → Option Nat} {a b : Nat} (h : i a = some b) : RVs i [.pointer (some ⟨a, 0, none⟩), .int .i64 t] [.pointer (some ⟨b, 0, none⟩), .int .i64 t] := .cons (.ptr 0 none h) (.cons (.int _ _) .nil)
theorem aD {i : Nat → Option Nat} {a b : Nat} (h : i a = some b) : RVs i [.pointer (some ⟨a, 0, none⟩), .int .i64 t, .agg ⟨rowA D⟩] [.pointer (some ⟨b, 0, none⟩), .int .i64 t, .agg ⟨rowA D⟩] := .cons (.ptr 0 none h) (.cons (.int _ _) (.cons (rv_flat (rowA_flat D)) .nil))
theorem aM {i : Nat → Option Nat} {a b : Nat} (h : i a = some b) : RVs i [.pointer (some ⟨a, 0, none⟩), .int .i64 t, .agg ⟨rowA D⟩, .int .i64 mtu] [.pointer (some ⟨b, 0, none⟩), .int .i64 t, .agg ⟨rowA D⟩, .int .i64 mtu] := .cons (.ptr 0 none h) (.cons (.int _ _) (.cons (rv_flat (rowA_flat D)) (.cons (.int _ _) .nil)))
abbrev nP (o0 o1 : AObj) (l : List (En × Nat)) (cl : Nat) (x : Cf) (now : Int) (rest : AHeap) : Prop := (o0 :: o1 :: oM l cl :: oCb x now :: rest).all noE = true
theorem getP_ok (HR : Rep cl l (srt l)) (he : nP o0 o1 l cl x now rest) : (kGetP o0 o1 x now t l cl D rest).asks Try.prog [] 10 := asks_of (prg_ok (get_ok HR) rfl he (aD rfl))
theorem dropP_ok (HR : Rep cl l (srt l)) (he : nP o0 o1 l cl x now rest) : (kDropP o0 o1 x now t l cl D rest).asks Try.prog [] 16 := asks_of (prg_ok (drop_ok HR) rfl he (aD rfl))
theorem toldP_ok (HR : Rep cl l (srt l)) (HD : okA D) (HL : 1 ≤ x.lim) (HB : (srt l).length < 2 ^ 20) (HF : 0 ≤ x.life ∧ x.life < 2 ^ 62) (HT : -(2 ^ 62) ≤ now) (he : nP o0 o1 l cl x now rest) : (kToldP o0 o1 x now t l cl D mtu rest).asks Try.prog [] 13 :=
  asks_of (prg_ok (told_ok HR HD HL HB HF HT) rfl he (aM rfl))
theorem getM_nil : (getM x now [] t D).2.2 = [] := by unfold getM; split <;> rfl
theorem dropM_nil : (dropM now [] t D).2.2 = [] := by unfold dropM; split <;> rfl
theorem getRN_ok (he : (o0 :: o1 :: o2 :: o3 :: oS x now sN :: rest).all noE = true) : (kGetRN o0 o1 o2 o3 x now t D rest).asks Try.prog [] 11 :=
  asks_of (Spec.mono (refN_ok rgetN_ok rfl he (aD rfl)) (by rintro r h' ⟨rfl, (⟨_, rfl⟩ | ⟨h, _⟩)⟩; exact ⟨(), trivial, rfl, rfl⟩; exact absurd getM_nil h))
theorem dropRN_ok (he : (o0 :: o1 :: o2 :: o3 :: oS x now sN :: rest).all noE = true) : (kDropRN o0 o1 o2 o3 x now t D rest).asks Try.prog [] 17 :=
  asks_of (Spec.mono (refN_ok rdropN_ok rfl he (aD rfl)) (by rintro r h' ⟨rfl, (⟨_, rfl⟩ | ⟨h, _⟩)⟩; exact ⟨(), trivial, rfl, rfl⟩; exact absurd dropM_nil h))
theorem toldRN_ok (HL : 1 ≤ x.lim) (HF : 0 ≤ x.life ∧ x.life < 2 ^ 62) (HT : -(2 ^ 62) ≤ now) (he : (o0 :: o1 :: o2 :: o3 :: oS x now sN :: rest).all noE = true) : (kToldRN o0 o1 o2 o3 x now t D mtu rest).asks Try.prog [] 15 :=
  .inl (Spec.mono (refN_ok (rtoldN_ok HL HF HT) rfl he (aM rfl)) (by rintro r h' ⟨rfl, (⟨h, rfl⟩ | ⟨h, rfl⟩)⟩; exact .inl ⟨(), h, rfl, rfl⟩; exact .inr ⟨(), h, rfl, rfl⟩))
theorem getRB_ok (hl : E.length = n) (hn : 1 ≤ n) (hb : n < 2 ^ 20) (he : (o0 :: o1 :: o2 :: o3 :: oS x now (sB 5 n) :: oR E :: rest).all noE = true) : (kGetRB o0 o1 o2 o3 x now t E n D rest).asks Try.prog [] 11 :=
  .inl (Spec.mono (refB_ok (rgetB_ok hl hn hb) rfl he (aD rfl)) (by rintro r h' ⟨rfl, (⟨h, rfl⟩ | ⟨h, rfl⟩ | ⟨h, rfl⟩)⟩; exact .inl ⟨(), h, rfl, rfl⟩; exact .inr (.inl ⟨(), h, rfl, rfl⟩); exact .inr (.inr ⟨(), h, rfl, rfl⟩)))
theorem getRB6_ok (hl : E.length = n) (hn : 1 ≤ n) (hb : n < 2 ^ 20) (he : (o0 :: o1 :: o2 :: o3 :: oS x now (sB 6 n) :: o5 :: oR E :: rest).all noE = true) : (kGetRB6 o0 o1 o2 o3 x now t o5 E n D rest).asks Try.prog [] 11 :=
  .inl (Spec.mono (refB6_ok (rgetB_ok hl hn hb) rfl he (aD rfl)) (by rintro r h' ⟨rfl, (⟨h, rfl⟩ | ⟨h, rfl⟩ | ⟨h, rfl⟩)⟩; exact .inl ⟨(), h, rfl, rfl⟩; exact .inr (.inl ⟨(), h, rfl, rfl⟩); exact .inr (.inr ⟨(), h, rfl, rfl⟩)))
theorem dropRB_ok (hl : E.length = n) (hn : 1 ≤ n) (hb : n < 2 ^ 20) (hu : Up E) (he : (o0 :: o1 :: o2 :: o3 :: oS x now (sB 5 n) :: oR E :: rest).all noE = true) : (kDropRB o0 o1 o2 o3 x now t E n D rest).asks Try.prog [] 17 :=
  .inl (Spec.mono (refB_ok (rdropB_ok hl hn hb hu) rfl he (aD rfl)) (by rintro r h' ⟨rfl, (⟨h, rfl⟩ | ⟨h, rfl⟩ | ⟨h, rfl⟩)⟩; exact .inl ⟨(), h, rfl, rfl⟩; exact .inr (.inl ⟨(), h, rfl, rfl⟩); exact .inr (.inr ⟨(), h, rfl, rfl⟩)))
theorem toldRB_ok (hl : E.length = n) (hn : 1 ≤ n) (hb : n < 2 ^ 20) (hu : Up E) (HL : 1 ≤ x.lim) (HF : 0 ≤ x.life ∧ x.life < 2 ^ 62) (HT : -(2 ^ 62) ≤ now) (he : (o0 :: o1 :: o2 :: o3 :: oS x now (sB 5 n) :: oR E :: rest).all noE = true) : (kToldRB o0 o1 o2 o3 x now t E n D mtu rest).asks Try.prog [] 15 :=
  .inl (Spec.mono (refB_ok (rtoldB_ok hl hn hb hu HL HF HT) rfl he (aM rfl)) (by rintro r h' ⟨rfl, (⟨h, rfl⟩ | ⟨h, rfl⟩ | ⟨h, rfl⟩)⟩; exact .inl ⟨(), h, rfl, rfl⟩; exact .inr (.inl ⟨(), h, rfl, rfl⟩); exact .inr (.inr ⟨(), h, rfl, rfl⟩)))
/-! ## All -/
theorem allP_ok (HR : Rep cl l (srt l)) (HB : (srt l).length < 2 ^ 20) (he : nP o0 o1 l cl x now rest) : (kAllP o0 o1 x now t l cl rest).asks Try.prog [] 18 := by
  refine .inl (Spec.mono (frame_c (Q := fun v' now' l' cl' T => now' = (allM now (srt l) t).2.1 ∧ Rep cl' l' (allM now (srt l) t).2.2 ∧ ((T = [] ∧ v' = .tuple ⟨[.slice none 0 0, .int .i64 (allM now (srt l) t).1]⟩ ∧ ((allM now (srt l) t).1 = 0 → (allM now (srt l) t).2.2 = [])) ∨ (T = [(allM now (srt l) t).2.2] ∧ (allM now (srt l) t).2.2 ≠ [] ∧ (allM now (srt l) t).1 = 0 ∧ v' = .tuple ⟨[.slice (some ⟨2, 0, some 18⟩) (allM now (srt l) t).2.2.length (allM now (srt l) t).2.2.length, .int .i64 0]⟩))) (a := 2) (b := 3) (allm_ok HR HB) (by decide) rfl rfl he (aT rfl)) ?_)
  by_cases e : errT t now
  · rw [allM_err e]
    rintro r h' ⟨v', now', l', cl', T, ⟨rfl, hR, (⟨rfl, rfl, _⟩ | ⟨_, _, h3, _⟩)⟩, rfl, rfl⟩
    · refine .inl ⟨(l', cl'), ⟨e, hR⟩, rfl, ?_⟩
      show o0 :: o1 :: oM l' cl' :: oCb x _ :: (rest ++ []) = _
      rw [List.append_nil]
    · exact absurd h3 (show ¬ (153 : Int) = 0 by decide)
  · rw [allM_ok e]
    rintro r h' ⟨v', now', l', cl', T, ⟨rfl, hR, (⟨rfl, rfl, h3⟩ | ⟨rfl, h2, _, rfl⟩)⟩, rfl, rfl⟩
    · refine .inr (.inl ⟨(l', cl'), ⟨e, h3 rfl, hR⟩, rfl, ?_⟩)
      show o0 :: o1 :: oM l' cl' :: oCb x _ :: (rest ++ []) = _
      rw [List.append_nil]
    · refine .inr (.inr ⟨(l', cl'), ⟨e, h2, hR⟩, ?_, rfl⟩)
      show Res.ret (.tuple ⟨[sB ((o0 :: o1 :: oM l cl :: oCb x now :: rest).length + (2 - 2)) _, .int .i64 0]⟩) = _
      rw [show (o0 :: o1 :: oM l cl :: oCb x now :: rest).length + (2 - 2) = 4 + rest.length from by simp; omega]
theorem fr_an (hs : Fm.Spec Try.prog [] f args0 (hN x now) (PA (hN x now) 0 x now t sN [])) (he : (o0 :: o1 :: o2 :: o3 :: oS x now sN :: rest).all noE = true) (hr : RVs (one 4) args0 args) :
    Fm.Spec Try.prog [] f args (o0 :: o1 :: o2 :: o3 :: oS x now sN :: rest) fun r h' => anyP r h' (kAllRN o0 o1 o2 o3 x now t rest).posts := by
  refine Spec.mono (Spec.frame (gs' := []) hs (emb_n (a := 4) rfl he) hr (by simp) ?_) ?_
  · rintro r h0' (⟨_, rfl, rfl⟩ | ⟨_, _, rfl, rfl⟩ | ⟨_, h, _⟩)
    · rfl
    · rfl
    · exact absurd rfl h
  · rintro r h' ⟨r0, h0', (⟨h1, rfl, rfl⟩ | ⟨h1, _, rfl, rfl⟩ | ⟨_, h, _⟩), rfl, rfl⟩
    · refine .inl ⟨(), h1, rfl, ?_⟩
      show o0 :: o1 :: o2 :: o3 :: oS x now sN :: (rest ++ []) = _
      rw [List.append_nil]
    · refine .inr ⟨(), h1, rfl, ?_⟩
      show o0 :: o1 :: o2 :: o3 :: oS x t sN :: (rest ++ []) = _
      rw [List.append_nil]
    · exact absurd rfl h
theorem allRN_ok (he : (o0 :: o1 :: o2 :: o3 :: oS x now sN :: rest).all noE = true) : (kAllRN o0 o1 o2 o3 x now t rest).asks Try.prog [] 19 := .inl (fr_an rallN_ok he (aT rfl))
theorem fr_ab (hs : Fm.Spec Try.prog [] f args0 (hB x now E n) (PA (hB x now E n) 0 x now t (sB 1 n) E')) (hE : E' = tidyE t E) (he : (o0 :: o1 :: o2 :: o3 :: oS x now (sB 5 n) :: oR E :: rest).all noE = true) (hr : RVs (two 4 5) args0 args) :
    Fm.Spec Try.prog [] f args (o0 :: o1 :: o2 :: o3 :: oS x now (sB 5 n) :: oR E :: rest) fun r h' => anyP r h' (kAllRB o0 o1 o2 o3 x now t E n rest).posts := by
  subst hE
  refine Spec.mono (Spec.frame (gs' := []) hs (emb_b (a := 4) (b := 5) (by decide) rfl rfl he) hr (by simp) ?_) ?_
  · rintro r h0' (⟨_, rfl, rfl⟩ | ⟨_, _, rfl, rfl⟩ | ⟨_, h, rfl, rfl⟩)
    · rfl
    · rfl
    · rfl
  · have hr1 : ∀ (f : Nat → Nat) N, updO f N (some (oR E)) (some (oR E)) = oR E := fun f N => upd_r (f := f) (n := N) E
    rintro r h' ⟨r0, h0', (⟨h1, rfl, rfl⟩ | ⟨h1, h2, rfl, rfl⟩ | ⟨h1, h2, rfl, rfl⟩), rfl, rfl⟩
    · refine .inl ⟨(), h1, rfl, ?_⟩
      show o0 :: o1 :: o2 :: o3 :: oS x now (sB 5 n) :: updO _ _ (some (oR E)) (some (oR E)) :: (rest ++ []) = _
      rw [hr1, List.append_nil]
    · refine .inr (.inl ⟨(), ⟨h1, h2⟩, rfl, ?_⟩)
      show o0 :: o1 :: o2 :: o3 :: oS x t sN :: updO _ _ (some (oR E)) (some (oR E)) :: (rest ++ []) = _
      rw [hr1, List.append_nil]
    · refine .inr (.inr ⟨(), ⟨h1, h2⟩, ?_, ?_⟩)
      · show Res.ret (.tuple ⟨[sB ((o0 :: o1 :: o2 :: o3 :: oS x now (sB 5 n) :: oR E :: rest).length + (3 - 2)) _, .int .i64 0]⟩) = _
        rw [show (o0 :: o1 :: o2 :: o3 :: oS x now (sB 5 n) :: oR E :: rest).length + (3 - 2) = 7 + rest.length from by simp; omega]
      · show o0 :: o1 :: o2 :: o3 :: oS x t (sB ((o0 :: o1 :: o2 :: o3 :: oS x now (sB 5 n) :: oR E :: rest).length + (2 - 2)) _) :: updO _ _ (some (oR E)) (some (oR E)) :: (rest ++ [updO _ _ none (some (oR (tidyE t E))), updO _ _ none (some (oR (tidyE t E)))]) = _
        rw [hr1, upd_r, show (o0 :: o1 :: o2 :: o3 :: oS x now (sB 5 n) :: oR E :: rest).length + (2 - 2) = 6 + rest.length from by simp; omega]
theorem allRB_ok (hl : E.length = n) (hn : 1 ≤ n) (hb : n < 2 ^ 20) (he : (o0 :: o1 :: o2 :: o3 :: oS x now (sB 5 n) :: oR E :: rest).all noE = true) : (kAllRB o0 o1 o2 o3 x now t E n rest).asks Try.prog [] 19 := .inl (fr_ab (rallB_ok hl hn hb) rfl he (aT rfl))
end
theorem run_when (now w : Int) (Q : Res → Prop) : ((((decide (w ≥ 0)) = true →
∀ z1 : Int, z1 = (IntKind.i64.wrap (1099511627776 - now)) →
(((decide (w ≤ z1)) = true →
∀ z2 : Int, z2 = (IntKind.i64.wrap (now + w)) →
 Q (.ret (iv z2))) ∧
((decide (w ≤ z1)) = false →
 Q (.ret (iv w))))) ∧
((decide (w ≥ 0)) = false →
 Q (.ret (iv w))))) =
    runS Try.prog [] false [] 0 (SpecC Try.prog []) 20 14 [.int .i64 now, .int .i64 w] [] .norm (.skip 2 (.ask (.skip 6 (.all (fun _z1 => .skip 1 (.ask (.skip 4 (.all (fun _z2 => .go))) (.go))))) (.go))) (fun r _ _ _ => Q r) := by kernel_rfl

theorem when_ok {now w : Int} {h : AHeap} (h0 : 0 ≤ now) (h1 : now ≤ 1099511627776) : (kWhen now w h).asks Try.prog [] 14 := by
  have hf : Fun 14 [.int .i64 now, .int .i64 w] (.int .i64 (whenM now w)) := by
    refine spec_R (run_when now w fun r => r = .ret (.int .i64 (whenM now w))) ?_
    refine ⟨fun a => ?_, fun a => ?_⟩
    · have a := of_decide_eq_true a
      intro z1 hz1
      rw [wr (by omega) (by omega)] at hz1
      subst hz1
      refine ⟨fun b => ?_, fun b => ?_⟩
      · have b := of_decide_eq_true b
        intro z2 hz2
        rw [wr (by omega) (by omega)] at hz2
        subst hz2
        unfold whenM; rw [if_pos ⟨a, b⟩]
      · have b := of_decide_eq_false b
        unfold whenM; rw [if_neg (fun h => b h.2)]
    · have a := of_decide_eq_false a
      unfold whenM; rw [if_neg (fun h => a h.1)]
  exact asks_of (Spec.mono (hf.any (by intro u hu; simp only [List.mem_cons, List.not_mem_nil, or_false] at hu; rcases hu with rfl | rfl <;> exact .int _ _) (.int _ _) [] h) (by rintro r h' ⟨rfl, rfl⟩; exact ⟨(), trivial, rfl, rfl⟩))

end Go.Proofs.Ytcdmnmpiipmfmaa
