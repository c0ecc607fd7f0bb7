/-
  The cache's entries: what does not count any more goes (at); all of them, by their addresses (all). Conditions: keys and stamps differ (WF), addresses are of bytes.
-/
import Derived.Test.YtcdmnmpiipmfmaaPm1
namespace Go.Proofs.Ytcdmnmpiipmfmaa
open Go.Fm

def iA (t : Int) (l : List (En × Nat)) (cl : Nat) (p : List (En × Nat) × List Nat) : Prop :=
  WF cl p.1 ∧ (∀ e ∈ p.1, e ∈ l) ∧ (∀ e ∈ l, t < e.1.u → e ∈ p.1) ∧ (∀ e ∈ p.1, e.2 ∈ p.2 → t < e.1.u) ∧ p.2.Nodup ∧ ∀ s ∈ p.2, s < cl
def pAt (t : Int) (l : List (En × Nat)) (cl : Nat) (l2 : List (En × Nat)) : Prop := WF cl l2 ∧ ∀ e, e ∈ l2 ↔ e ∈ l ∧ t < e.1.u
def iE (l : List (En × Nat)) (cl : Nat) (p : List En × List Nat) : Prop :=
  (∀ e, e ∈ p.1 ↔ ∃ x ∈ l, x.1 = e ∧ x.2 ∈ p.2) ∧ (p.1.map (·.d)).Nodup ∧ p.2.Nodup ∧ ∀ s ∈ p.2, s < cl
def qA (x : Cf) (_now : Int) (t : Int) (l : List (En × Nat)) (cl : Nat) (p : List (En × Nat) × List Nat) : Prop × St := (iA t l cl p, ⟨[(7, .pointer (some ⟨3, 0, none⟩)), (6, .map (some 0)), (0, .map (some 0)), (1, .func (.func 36) ⟨[]⟩ ⟨[.pointer (some ⟨2, 0, none⟩)]⟩)], [], [oM p.1 cl, oC x t, .cells [.int .i64 t] false, .mapIter (some 0) cl p.2 cl], .norm⟩)
def mA (_x : Cf) (_now : Int) (_t : Int) (_l : List (En × Nat)) (cl : Nat) (p : List (En × Nat) × List Nat) : Nat := cl - p.2.length
def mE (_x : Cf) (_now : Int) (_l : List (En × Nat)) (cl : Nat) (p : List En × List Nat) : Nat := cl - p.2.length
def qE0 (x : Cf) (now : Int) (l : List (En × Nat)) (cl : Nat) (p : List En × List Nat) : Prop × St := (iE l cl p ∧ p.1 = [], ⟨[(10, .pointer (some ⟨2, 0, none⟩)), (3, .slice none 0 0), (0, pC)], [], [oM l cl, oC x now, .mapIter (some 0) cl p.2 cl], .norm⟩)
def qE1 (x : Cf) (now : Int) (l : List (En × Nat)) (cl : Nat) (p : List En × List Nat) : Prop × St := (iE l cl p ∧ p.1 ≠ [], ⟨[(10, .pointer (some ⟨2, 0, none⟩)), (3, .slice (some ⟨3, 0, some 18⟩) p.1.length p.1.length), (0, pC)], [], [oM l cl, oC x now, .mapIter (some 0) cl p.2 cl, .tcells (rwl rowE p.1) 66 (some 0)], .norm⟩)
def kSrt4 (o0 o1 o2 : AObj) (l : List En) (n : Nat) : Ctr := ⟨[.slice (some ⟨3, 0, some 18⟩) n n, fC], [o0, o1, o2, .tcells (rwl rowE l) 66 (some 0)], List En, fun r => (pSort nkE l 0 n r, .ret unitV, [o0, o1, o2, .tcells (rwl rowE r) 66 (some 0)])⟩
def kSrt0 (h : AHeap) : Ctr := ⟨[.slice none 0 0, fC], h, Unit, fun _ => (True, .ret unitV, h)⟩

def kAt (x : Cf) (now t : Int) (l : List (En × Nat)) (cl : Nat) : Ctr := ⟨[pC, .int .i64 t], hC x now l cl, List (En × Nat), fun l2 => (pAt t l cl l2, .ret unitV, hC x t l2 cl)⟩
theorem run_at (x : Cf) (now t : Int) (l : List (En × Nat)) (cl : Nat) (Q : Res → AHeap → Prop) : (((someN [] 3 (fun _ => True) ⟨[(7, (pp 3)), (6, (.map (some 0))), (0, (.map (some 0))), (1, (.func (.func 36) ⟨[]⟩ ⟨[(pp 2)]⟩))], [], [oM l cl, oC x t, .cells [(iv t)] false, .mapIter (some 0) cl [] cl], .norm⟩ [(qA x now t l cl)]) ∧
(∀ i1, (qA x now t l cl i1).fst →
(nxtOk (pp 3) [oM i1.fst cl, oC x t, .cells [(iv t)] false, .mapIter (some 0) cl (i1.snd) cl] (∀ e ∈ i1.fst, e.2 ∈ i1.snd) (nxp kA vA (i1.fst) [oM i1.fst cl, oC x t, .cells [(iv t)] false, .mapIter (some 0) cl (i1.snd) cl] 3 0 cl (i1.snd) cl) ∧
((∀ e ∈ i1.fst, e.2 ∈ i1.snd) →
 Q (.ret (.tuple ⟨[]⟩)) [oM i1.fst cl, oC x t, .cells [(iv t)] false, .mapIter (some 0) cl (i1.snd) cl]) ∧
∀ i2 : En × Nat, (i2 ∈ i1.fst ∧
 i2.2 ∉ i1.snd) →
((((aEntry (pp 3) [oM i1.fst cl, oC x t, .cells [(iv t)] false, .mapIter (some 0) cl (i1.snd ++ [i2.snd]) cl]).map fun ee => (ee, ([oM i1.fst cl, oC x t, .cells [(iv t)] false, .mapIter (some 0) cl (i1.snd ++ [i2.snd]) cl] : AHeap))) = some ((.tuple ⟨[(.agg ⟨(rowA i2.fst.d)⟩), (.agg ⟨[(iv i2.fst.m), (iv i2.fst.u)]⟩)]⟩), ([oM i1.fst cl, oC x t, .cells [(iv t)] false, .mapIter (some 0) cl (i1.snd ++ [i2.snd]) cl] : AHeap))) ∧
(((decide (i2.fst.u ≤ t)) = true →
((((aDelete Try.prog 46 (.map (some 0)) (.agg ⟨(rowA i2.fst.d)⟩) [oM i1.fst cl, oC x t, .cells [(iv t)] false, .mapIter (some 0) cl (i1.snd ++ [i2.snd]) cl, .tcells (rowA i2.fst.d) 35 (some 0), .tcells [(iv i2.fst.m), (iv i2.fst.u)] 62 (some 0), oA i2.fst.d, .cells [(iv i2.fst.m), (iv i2.fst.u)] false]).map fun h => (undefV, h)) = some (undefV, ([oM (List.eraseP (fun e => isD i2.fst.d e.fst) i1.fst) cl, oC x t, .cells [(iv t)] false, .mapIter (some 0) cl (i1.snd ++ [i2.snd]) cl, .tcells (rowA i2.fst.d) 35 (some 0), .tcells [(iv i2.fst.m), (iv i2.fst.u)] 62 (some 0), oA i2.fst.d, .cells [(iv i2.fst.m), (iv i2.fst.u)] false] : AHeap))) ∧
(someN [] 3 (fun a' => (mA x now t l cl) a' < (mA x now t l cl) i1) ⟨[(7, (pp 3)), (6, (.map (some 0))), (0, (.map (some 0))), (1, (.func (.func 36) ⟨[]⟩ ⟨[(pp 2)]⟩))], [], [oM (List.eraseP (fun e => isD i2.fst.d e.fst) i1.fst) cl, oC x t, .cells [(iv t)] false, .mapIter (some 0) cl (i1.snd ++ [i2.snd]) cl, .tcells (rowA i2.fst.d) 35 (some 0), .tcells [(iv i2.fst.m), (iv i2.fst.u)] 62 (some 0), oA i2.fst.d, .cells [(iv i2.fst.m), (iv i2.fst.u)] false], .norm⟩ [(qA x now t l cl)]))) ∧
((decide (i2.fst.u ≤ t)) = false →
(someN [] 3 (fun a' => (mA x now t l cl) a' < (mA x now t l cl) i1) ⟨[(7, (pp 3)), (6, (.map (some 0))), (0, (.map (some 0))), (1, (.func (.func 36) ⟨[]⟩ ⟨[(pp 2)]⟩))], [], [oM i1.fst cl, oC x t, .cells [(iv t)] false, .mapIter (some 0) cl (i1.snd ++ [i2.snd]) cl, .tcells (rowA i2.fst.d) 35 (some 0), .tcells [(iv i2.fst.m), (iv i2.fst.u)] 62 (some 0), oA i2.fst.d, .cells [(iv i2.fst.m), (iv i2.fst.u)] false], .norm⟩ [(qA x now t l cl)])))))))) =
    runS Try.prog [] false [] 0 (SpecC Try.prog []) 20 23 [pC, .int .i64 t] (hC x now l cl) .norm (.skip 14 (.invN [7, 6, 0, 1] _ (mA x now t l cl) [(qA x now t l cl)] (fun k => match k with | _ => fun i1 => .skip 0 (.nxt (∀ e ∈ i1.fst, e.2 ∈ i1.snd) (En × Nat) (nxp kA vA (i1.fst) [oM i1.fst cl, oC x t, .cells [(iv t)] false, .mapIter (some 0) cl (i1.snd) cl] 3 0 cl (i1.snd) cl) (.go) fun i2 => .skip 2 (.put (.tuple ⟨[(.agg ⟨(rowA i2.fst.d)⟩), (.agg ⟨[(iv i2.fst.m), (iv i2.fst.u)]⟩)]⟩) [oM i1.fst cl, oC x t, .cells [(iv t)] false, .mapIter (some 0) cl (i1.snd ++ [i2.snd]) cl] (.skip 16 (.ask (.skip 4 (.put undefV [oM (List.eraseP (fun e => isD i2.fst.d e.fst) i1.fst) cl, oC x t, .cells [(iv t)] false, .mapIter (some 0) cl (i1.snd ++ [i2.snd]) cl, .tcells (rowA i2.fst.d) 35 (some 0), .tcells [(iv i2.fst.m), (iv i2.fst.u)] 62 (some 0), oA i2.fst.d, .cells [(iv i2.fst.m), (iv i2.fst.u)] false] (.go))) (.go)))))))) (fun r _ h _ => Q r h) := by kernel_rfl

theorem ent_m {r m since cl : Nat} {l : List (En × Nat)} {S : List Nat} {h : AHeap} {e : En × Nat} (hr : h[r]? = some (.mapIter (some m) since (S ++ [e.2]) cl)) (hm : h[m]? = some (.map (mpl kA vA l) cl)) (hw : (l.map (·.2)).Nodup ∧ e ∈ l) :
    ((aEntry (.pointer (some ⟨r, 0, none⟩)) h).map fun x => (x, h)) = some (.tuple ⟨[.agg ⟨rowA e.1.d⟩, .agg ⟨[.int .i64 e.1.m, .int .i64 e.1.u]⟩]⟩, h) := by
  rw [aEntry_mpl hr hm hw.1 hw.2]; rfl

theorem A_first {t : Int} {l : List (En × Nat)} {cl : Nat} (h : WF cl l) : iA t l cl (l, []) := ⟨h, fun _ h => h, fun _ h _ => h, fun _ _ h => (by cases h), List.nodup_nil, fun _ h => (by cases h)⟩
theorem seen_new {S : List Nat} {s cl : Nat} (hn : S.Nodup) (hb : ∀ s ∈ S, s < cl) (h : s ∉ S) (hs : s < cl) : (S ++ [s]).Nodup ∧ (∀ x ∈ S ++ [s], x < cl) ∧ cl - (S ++ [s]).length < cl - S.length := by
  have h1 : (S ++ [s]).Nodup := by
    rw [List.nodup_append]
    exact ⟨hn, by simp, fun a ha b hb => by rw [List.mem_singleton] at hb; subst hb; exact fun e => h (e ▸ ha)⟩
  have h2 : ∀ x ∈ S ++ [s], x < cl := by
    intro x hx
    rcases List.mem_append.1 hx with hx | hx
    · exact hb x hx
    · rw [List.mem_singleton] at hx; subst hx; exact hs
  refine ⟨h1, h2, ?_⟩
  have := nodup_len cl _ h1 h2
  rw [List.length_append, List.length_singleton] at this ⊢
  omega
theorem A_del {t : Int} {l : List (En × Nat)} {cl : Nat} {p : List (En × Nat) × List Nat} {e : En × Nat} (h : iA t l cl p) (he : e ∈ p.1 ∧ e.2 ∉ p.2) (hu : e.1.u ≤ t) : iA t l cl (p.1.eraseP (fun y => isD e.1.d y.1), p.2 ++ [e.2]) := by
  obtain ⟨h1, h2, h3, h4, h5, h6⟩ := h
  obtain ⟨s1, s2, _⟩ := seen_new h5 h6 he.2 (h1.born _ he.1)
  refine ⟨h1.sub List.eraseP_sublist, fun y hy => h2 y ((h1.erase he.1 y).1 hy).1, fun y hy ht => (h1.erase he.1 y).2 ⟨h3 y hy ht, fun e' => by subst e'; omega⟩, fun y hy hs => ?_, s1, s2⟩
  obtain ⟨g1, g2⟩ := (h1.erase he.1 y).1 hy
  rcases List.mem_append.1 hs with hs | hs
  · exact h4 y g1 hs
  · rw [List.mem_singleton] at hs; exact absurd (h1.stamp g1 he.1 hs) g2
theorem A_keep {t : Int} {l : List (En × Nat)} {cl : Nat} {p : List (En × Nat) × List Nat} {e : En × Nat} (h : iA t l cl p) (he : e ∈ p.1 ∧ e.2 ∉ p.2) (hu : ¬ e.1.u ≤ t) : iA t l cl (p.1, p.2 ++ [e.2]) := by
  obtain ⟨h1, h2, h3, h4, h5, h6⟩ := h
  obtain ⟨s1, s2, _⟩ := seen_new h5 h6 he.2 (h1.born _ he.1)
  refine ⟨h1, h2, h3, fun y hy hs => ?_, s1, s2⟩
  rcases List.mem_append.1 hs with hs | hs
  · exact h4 y hy hs
  · rw [List.mem_singleton] at hs; rw [h1.stamp hy he.1 hs]; omega
theorem A_done {t : Int} {l : List (En × Nat)} {cl : Nat} {p : List (En × Nat) × List Nat} (h : iA t l cl p) (he : ∀ e ∈ p.1, e.2 ∈ p.2) : pAt t l cl p.1 :=
  ⟨h.1, fun e => ⟨fun hm => ⟨h.2.1 e hm, h.2.2.2.1 e hm (he e hm)⟩, fun hm => h.2.2.1 e hm.1 hm.2⟩⟩

theorem rv_id {k : Nat} {v : Value} {i : Nat → Option Nat} (h : scopeV k 8 v = true) (hi : ∀ b, b < k → i b = some b) : RV i v v :=
  (scopeV_rv (n := k) 8 v h).mono fun b c e => by obtain ⟨rfl, hlt⟩ := upto_some e; exact hi _ hlt
theorem ren_id4 : ∀ b, b < 4 → ren [0, 1, 2, 3] b = some b := by decide
theorem gcA {x : Cf} {t : Int} {cl : Nat} {l : List (En × Nat)} {S : List Nat} {rest : AHeap} {e : AEnv} (he : e = [(7, .pointer (some ⟨3, 0, none⟩)), (6, .map (some 0)), (0, .map (some 0)), (1, .func (.func 36) ⟨[]⟩ ⟨[.pointer (some ⟨2, 0, none⟩)]⟩)]) :
    Gc [] 3 ⟨e, [], oM l cl :: oC x t :: .cells [.int .i64 t] false :: .mapIter (some 0) cl S cl :: rest, .norm⟩ ⟨e, [], [oM l cl, oC x t, .cells [.int .i64 t] false, .mapIter (some 0) cl S cl], .norm⟩ := by
  subst he
  refine Gc.ren [0, 1, 2, 3] (by decide) (by decide) (by decide) (by decide) ⟨⟨_, rfl, ro_m _ _⟩, ⟨_, rfl, ro_c _ _ rfl⟩, ⟨_, rfl, ro_flat rfl⟩, ⟨_, rfl, .mapIter _ _ _ rfl⟩, trivial⟩ ?_ rfl
  exact ⟨⟨_, rfl, rv_id (k := 4) rfl ren_id4⟩, ⟨_, rfl, rv_id (k := 4) rfl ren_id4⟩, ⟨_, rfl, rv_id (k := 4) rfl ren_id4⟩, ⟨_, rfl, rv_id (k := 4) rfl ren_id4⟩, trivial⟩
theorem at_ok {x : Cf} {now t : Int} {l : List (En × Nat)} {cl : Nat} (HW : WF cl l) : (kAt x now t l cl).asks Try.prog [] 23 := by
  refine asks_of (forget2 rfl (spec_T (run_at x now t l cl _) ?_))
  refine ⟨?_, ?_⟩
  exact ⟨_, A_first HW, trivial, Gc.same⟩
  intro i1 hi1
  replace hi1 : iA t l cl i1 := hi1
  refine ⟨nxtOk_mpl rfl rfl hi1.1.born, ?_⟩
  refine ⟨?_, ?_⟩
  intro hend
  exact ⟨_, _, _, _, _, _, rfl, rfl, rfl, _, A_done hi1 hend, rfl, rfl⟩
  intro i2 hi2
  refine ⟨ent_m rfl rfl ⟨hi1.1.nb, hi2.1⟩, ?_⟩
  refine ⟨fun h0 => ?_, fun h0 => ?_⟩
  replace h0 := of_decide_eq_true h0
  refine ⟨del_m _ rfl, ?_⟩
  exact ⟨_, A_del hi1 hi2 h0, (seen_new hi1.2.2.2.2.1 hi1.2.2.2.2.2 hi2.2 (hi1.1.born _ hi2.1)).2.2, gcA rfl⟩
  replace h0 := of_decide_eq_false h0
  exact ⟨_, A_keep hi1 hi2 h0, (seen_new hi1.2.2.2.2.1 hi1.2.2.2.2.2 hi2.2 (hi1.1.born _ hi2.1)).2.2, gcA rfl⟩

end Go.Proofs.Ytcdmnmpiipmfmaa
