/-
  (*sixth).address in Parse6's memory. Conditions: what stands good of the reader's state (W6).
-/
import Derived.Test.YtopladipgobpjaaDoorSix6
import Derived.Test.YtopladipgobpjaaDoorSix3
namespace Go.Proofs.YtopladipgobpjaaDoor
open Go.Fm
def em1 : Nat → Option Nat := fun x => if x = 0 then some 5 else none
def em2 : Nat → Option Nat := fun x => if x = 0 then some 5 else if x = 1 then some 7 else none
def em3 : Nat → Option Nat := fun x => if x = 0 then some 5 else if x = 1 then some 7 else if x = 2 then some 8 else none
abbrev HP (o0 o1 o2 o3 o4 o6 X : AObj) (r : List AObj) : AHeap := o0 :: o1 :: o2 :: o3 :: o4 :: X :: o6 :: r
theorem em_full {H : AHeap} (he : H.all xnoE = true) (q : Nat) (ro : Bool) (hq : H[q]? = some (.cells [] ro)) {X : Prop} : X := by
  have := List.all_eq_true.1 he _ (List.mem_of_getElem? hq)
  cases this
theorem em_inj (i : Nat → Option Nat) (h : ∀ x, x < 3 → ∀ y, y < 3 → i x ≠ none → i x = i y → x = y) (h3 : ∀ x, 3 ≤ x → i x = none) : ∀ b c q, i b = some q → i c = some q → b = c := by
  intro b c q hb hc
  have b3 : b < 3 := by
    rcases Nat.lt_or_ge b 3 with e | e
    · exact e
    · rw [h3 b e] at hb; cases hb
  have c3 : c < 3 := by
    rcases Nat.lt_or_ge c 3 with e | e
    · exact e
    · rw [h3 c e] at hc; cases hc
  exact h b b3 c c3 (by rw [hb]; simp) (hb.trans hc.symm)
theorem em1_inj : ∀ b c q, em1 b = some q → em1 c = some q → b = c := em_inj em1 (by decide) (fun x h => by unfold em1; rw [if_neg (by omega)])
theorem em2_inj : ∀ b c q, em2 b = some q → em2 c = some q → b = c := em_inj em2 (by decide) (fun x h => by unfold em2; rw [if_neg (by omega), if_neg (by omega)])
theorem em3_inj : ∀ b c q, em3 b = some q → em3 c = some q → b = c := em_inj em3 (by decide) (fun x h => by unfold em3; rw [if_neg (by omega), if_neg (by omega), if_neg (by omega)])
theorem fr1 {f : FuncId} {o0 o1 o2 o3 o4 o6 : AObj} {X X' : AObj} {v : Value} (hs : Fm.Spec Tryd.prog [] f [.pointer (some ⟨0, 0, none⟩)] [X] fun r h' => r = .ret v ∧ h' = [X]) (he : (HP o0 o1 o2 o3 o4 o6 X' []).all xnoE = true)
    (hro : RO em1 X X') (hup : updO (renB em1 1 7) 1 (some X') (some X) = X') (hv : renV (renB em1 1 7) 8 v = v) (hsc : scopeV 1 8 v = true) :
    Fm.Spec Tryd.prog [] f [.pointer (some ⟨5, 0, none⟩)] (HP o0 o1 o2 o3 o4 o6 X' []) fun r h' => r = .ret v ∧ h' = HP o0 o1 o2 o3 o4 o6 X' [] := by
  have E : Emb [] em1 [X] (HP o0 o1 o2 o3 o4 o6 X' []) := by
    refine ⟨em1_inj, by simp, ?_, fun q ro hq => em_full he q ro hq⟩
    intro x q hx
    unfold em1 at hx
    split at hx
    · rename_i h0; subst h0
      injection hx with hx; subst hx
      exact ⟨_, _, rfl, rfl, hro⟩
    · cases hx
  refine Spec.mono (Spec.frame (gs' := []) hs E (.cons (.ptr _ _ rfl) .nil) (by simp) ?_) ?_
  · rintro r h0' ⟨rfl, rfl⟩; exact hsc
  · rintro r h' ⟨r0, h0', ⟨rfl, rfl⟩, rfl, rfl⟩
    refine ⟨by show Res.ret (renV (renB em1 1 7) 8 v) = _; rw [hv], ?_⟩
    show HP o0 o1 o2 o3 o4 o6 (updO (renB em1 1 7) 1 (some X') (some X)) [] = _
    rw [hup]
theorem fr2 {f : FuncId} {o0 o1 o2 o3 o4 o6 : AObj} {X X' B : AObj} {v : Value} (hs : Fm.Spec Tryd.prog [] f [.pointer (some ⟨0, 0, none⟩)] [X, B] fun r h' => r = .ret v ∧ h' = [X, .dead]) (he : (HP o0 o1 o2 o3 o4 o6 X' [B]).all xnoE = true)
    (hro : RO em2 X X') (hrb : RO em2 B B) (hup : updO (renB em2 2 8) 2 (some X') (some X) = X') (hub : updO (renB em2 2 8) 2 (some B) (some .dead) = .dead) (hv : renV (renB em2 2 8) 8 v = v) (hsc : scopeV 2 8 v = true) :
    Fm.Spec Tryd.prog [] f [.pointer (some ⟨5, 0, none⟩)] (HP o0 o1 o2 o3 o4 o6 X' [B]) fun r h' => r = .ret v ∧ h' = HP o0 o1 o2 o3 o4 o6 X' [.dead] := by
  have E : Emb [] em2 [X, B] (HP o0 o1 o2 o3 o4 o6 X' [B]) := by
    refine ⟨em2_inj, by simp, ?_, fun q ro hq => em_full he q ro hq⟩
    intro x q hx
    unfold em2 at hx
    split at hx
    · rename_i h0; subst h0
      injection hx with hx; subst hx
      exact ⟨_, _, rfl, rfl, hro⟩
    · split at hx
      · rename_i h0; subst h0
        injection hx with hx; subst hx
        exact ⟨_, _, rfl, rfl, hrb⟩
      · cases hx
  refine Spec.mono (Spec.frame (gs' := []) hs E (.cons (.ptr _ _ rfl) .nil) (by simp) ?_) ?_
  · rintro r h0' ⟨rfl, rfl⟩; exact hsc
  · rintro r h' ⟨r0, h0', ⟨rfl, rfl⟩, rfl, rfl⟩
    refine ⟨by show Res.ret (renV (renB em2 2 8) 8 v) = _; rw [hv], ?_⟩
    show HP o0 o1 o2 o3 o4 o6 (updO (renB em2 2 8) 2 (some X') (some X)) [updO (renB em2 2 8) 2 (some B) (some .dead)] = _
    rw [hup, hub]
theorem fr3 {f : FuncId} {o0 o1 o2 o3 o4 o6 : AObj} {X X' B C : AObj} {v : Value} (hs : Fm.Spec Tryd.prog [] f [.pointer (some ⟨0, 0, none⟩)] [X, B, C] fun r h' => r = .ret v ∧ h' = [X, .dead, .dead]) (he : (HP o0 o1 o2 o3 o4 o6 X' [B, C]).all xnoE = true)
    (hro : RO em3 X X') (hrb : RO em3 B B) (hrc : RO em3 C C) (hup : updO (renB em3 3 9) 3 (some X') (some X) = X') (hub : updO (renB em3 3 9) 3 (some B) (some .dead) = .dead) (huc : updO (renB em3 3 9) 3 (some C) (some .dead) = .dead) (hv : renV (renB em3 3 9) 8 v = v) (hsc : scopeV 3 8 v = true) :
    Fm.Spec Tryd.prog [] f [.pointer (some ⟨5, 0, none⟩)] (HP o0 o1 o2 o3 o4 o6 X' [B, C]) fun r h' => r = .ret v ∧ h' = HP o0 o1 o2 o3 o4 o6 X' [.dead, .dead] := by
  have E : Emb [] em3 [X, B, C] (HP o0 o1 o2 o3 o4 o6 X' [B, C]) := by
    refine ⟨em3_inj, by simp, ?_, fun q ro hq => em_full he q ro hq⟩
    intro x q hx
    unfold em3 at hx
    split at hx
    · rename_i h0; subst h0
      injection hx with hx; subst hx
      exact ⟨_, _, rfl, rfl, hro⟩
    · split at hx
      · rename_i h0; subst h0
        injection hx with hx; subst hx
        exact ⟨_, _, rfl, rfl, hrb⟩
      · split at hx
        · rename_i h0; subst h0
          injection hx with hx; subst hx
          exact ⟨_, _, rfl, rfl, hrc⟩
        · cases hx
  refine Spec.mono (Spec.frame (gs' := []) hs E (.cons (.ptr _ _ rfl) .nil) (by simp) ?_) ?_
  · rintro r h0' ⟨rfl, rfl⟩; exact hsc
  · rintro r h' ⟨r0, h0', ⟨rfl, rfl⟩, rfl, rfl⟩
    refine ⟨by show Res.ret (renV (renB em3 3 9) 8 v) = _; rw [hv], ?_⟩
    show HP o0 o1 o2 o3 o4 o6 (updO (renB em3 3 9) 3 (some X') (some X)) [updO (renB em3 3 9) 3 (some B) (some .dead), updO (renB em3 3 9) 3 (some C) (some .dead)] = _
    rw [hup, hub, huc]
theorem ad0 {o0 o1 o2 o3 o4 o6 : AObj} {t p : List UInt8} {k : Nat} (w : W6 ⟨[], p, k, false, false, [], false⟩) (he : (HP o0 o1 o2 o3 o4 o6 (.cells [.string (bs t), .slice none 0 0, .string (bs p), .int .i64 k, .bool false, .bool false, .slice none 0 0, .bool false] false) []).all xnoE = true) :
    Fm.Spec Tryd.prog [] 86 [.pointer (some ⟨5, 0, none⟩)] (HP o0 o1 o2 o3 o4 o6 (.cells [.string (bs t), .slice none 0 0, .string (bs p), .int .i64 k, .bool false, .bool false, .slice none 0 0, .bool false] false) []) fun r h' => r = .ret (mkA [] p k false false [] false) ∧ h' = HP o0 o1 o2 o3 o4 o6 (.cells [.string (bs t), .slice none 0 0, .string (bs p), .int .i64 k, .bool false, .bool false, .slice none 0 0, .bool false] false) [] := by
  match k, w, he with
  | 0, w, he => exact fr1 (a60z_spec w) he (.cells _ (.cons (.string _) (.cons (.snil _ _) (.cons (.string _) (.cons (.int _ _) (.cons (.bool _) (.cons (.bool _) (.cons (.snil _ _) (.cons (.bool _) .nil))))))))) rfl rfl rfl
  | 1, w, he => exact fr1 (a60o_spec w) he (.cells _ (.cons (.string _) (.cons (.snil _ _) (.cons (.string _) (.cons (.int _ _) (.cons (.bool _) (.cons (.bool _) (.cons (.snil _ _) (.cons (.bool _) .nil))))))))) rfl rfl rfl
  | m + 2, w, he => exact absurd w.gap (by show ¬ m + 2 ≤ 0 + 1; omega)
theorem ad1 {o0 o1 o2 o3 o4 o6 : AObj} {t : List UInt8}  (he : (HP o0 o1 o2 o3 o4 o6 (.cells [.string (bs t), .slice none 0 0, .string (bs []), .int .i64 0, .bool false, .bool true, .slice none 0 0, .bool false] false) []).all xnoE = true) :
    Fm.Spec Tryd.prog [] 86 [.pointer (some ⟨5, 0, none⟩)] (HP o0 o1 o2 o3 o4 o6 (.cells [.string (bs t), .slice none 0 0, .string (bs []), .int .i64 0, .bool false, .bool true, .slice none 0 0, .bool false] false) []) fun r h' => r = .ret (mkA [] [] 0 false true [] false) ∧ h' = HP o0 o1 o2 o3 o4 o6 (.cells [.string (bs t), .slice none 0 0, .string (bs []), .int .i64 0, .bool false, .bool true, .slice none 0 0, .bool false] false) [] := by
  exact fr1 (a61_spec) he (.cells _ (.cons (.string _) (.cons (.snil _ _) (.cons (.string _) (.cons (.int _ _) (.cons (.bool _) (.cons (.bool _) (.cons (.snil _ _) (.cons (.bool _) .nil))))))))) rfl rfl rfl
theorem ad2 {o0 o1 o2 o3 o4 o6 : AObj} {t p : List UInt8} {g : List Int} {k : Nat} (w : W6 ⟨g, p, k, false, false, [], false⟩) (hg : g ≠ []) (he : (HP o0 o1 o2 o3 o4 o6 (.cells [.string (bs t), .slice (some ⟨7, 0, some 1⟩) g.length g.length, .string (bs p), .int .i64 k, .bool false, .bool false, .slice none 0 0, .bool false] false) [.tcells (ic g) 3 (some 0)]).all xnoE = true) :
    Fm.Spec Tryd.prog [] 86 [.pointer (some ⟨5, 0, none⟩)] (HP o0 o1 o2 o3 o4 o6 (.cells [.string (bs t), .slice (some ⟨7, 0, some 1⟩) g.length g.length, .string (bs p), .int .i64 k, .bool false, .bool false, .slice none 0 0, .bool false] false) [.tcells (ic g) 3 (some 0)]) fun r h' => r = .ret (mkA g p k false false [] false) ∧ h' = HP o0 o1 o2 o3 o4 o6 (.cells [.string (bs t), .slice (some ⟨7, 0, some 1⟩) g.length g.length, .string (bs p), .int .i64 k, .bool false, .bool false, .slice none 0 0, .bool false] false) [.dead] := by
  by_cases hp : p = []
  · subst hp
    have hst : k = g.length + 1 := w.stand rfl rfl rfl rfl hg
    have hgl : g.length ≠ 0 := fun e => hg (List.length_eq_zero_iff.1 e)
    match k, w, he, hst with
    | 0, _, _, hst => omega
    | 1, _, _, hst => omega
    | m + 2, w, he, hst => exact fr2 (a62e_spec w hst) he (.cells _ (.cons (.string _) (.cons (.slice _ _ _ _ rfl) (.cons (.string _) (.cons (.int _ _) (.cons (.bool _) (.cons (.bool _) (.cons (.snil _ _) (.cons (.bool _) .nil))))))))) (ro_ic _ _ _) rfl rfl rfl rfl
  · match k, w, he with
    | 0, w, he => exact fr2 (a62z_spec w hp) he (.cells _ (.cons (.string _) (.cons (.slice _ _ _ _ rfl) (.cons (.string _) (.cons (.int _ _) (.cons (.bool _) (.cons (.bool _) (.cons (.snil _ _) (.cons (.bool _) .nil))))))))) (ro_ic _ _ _) rfl rfl rfl rfl
    | 1, w, he => exact fr2 (a62o_spec w hp) he (.cells _ (.cons (.string _) (.cons (.slice _ _ _ _ rfl) (.cons (.string _) (.cons (.int _ _) (.cons (.bool _) (.cons (.bool _) (.cons (.snil _ _) (.cons (.bool _) .nil))))))))) (ro_ic _ _ _) rfl rfl rfl rfl
    | m + 2, w, he => exact fr2 (a62m_spec w hp) he (.cells _ (.cons (.string _) (.cons (.slice _ _ _ _ rfl) (.cons (.string _) (.cons (.int _ _) (.cons (.bool _) (.cons (.bool _) (.cons (.snil _ _) (.cons (.bool _) .nil))))))))) (ro_ic _ _ _) rfl rfl rfl rfl
theorem ad3 {o0 o1 o2 o3 o4 o6 : AObj} {t : List UInt8} {g : List Int} {k : Nat}  (he : (HP o0 o1 o2 o3 o4 o6 (.cells [.string (bs t), .slice (some ⟨7, 0, some 1⟩) g.length g.length, .string (bs []), .int .i64 k, .bool true, .bool false, .slice none 0 0, .bool false] false) [.tcells (ic g) 3 (some 0)]).all xnoE = true) :
    Fm.Spec Tryd.prog [] 86 [.pointer (some ⟨5, 0, none⟩)] (HP o0 o1 o2 o3 o4 o6 (.cells [.string (bs t), .slice (some ⟨7, 0, some 1⟩) g.length g.length, .string (bs []), .int .i64 k, .bool true, .bool false, .slice none 0 0, .bool false] false) [.tcells (ic g) 3 (some 0)]) fun r h' => r = .ret (mkA g [] k true false [] false) ∧ h' = HP o0 o1 o2 o3 o4 o6 (.cells [.string (bs t), .slice (some ⟨7, 0, some 1⟩) g.length g.length, .string (bs []), .int .i64 k, .bool true, .bool false, .slice none 0 0, .bool false] false) [.dead] := by
  exact fr2 (a63_spec) he (.cells _ (.cons (.string _) (.cons (.slice _ _ _ _ rfl) (.cons (.string _) (.cons (.int _ _) (.cons (.bool _) (.cons (.bool _) (.cons (.snil _ _) (.cons (.bool _) .nil))))))))) (ro_ic _ _ _) rfl rfl rfl rfl
theorem ad4 {o0 o1 o2 o3 o4 o6 : AObj} {t p : List UInt8} {k : Nat} {dd : Int}  (he : (HP o0 o1 o2 o3 o4 o6 (.cells [.string (bs t), .slice none 0 0, .string (bs p), .int .i64 k, .bool false, .bool false, .slice (some ⟨7, 0, none⟩) 1 1, .bool true] false) [.tcells [.int .i64 dd] 3 (some 0)]).all xnoE = true) :
    Fm.Spec Tryd.prog [] 86 [.pointer (some ⟨5, 0, none⟩)] (HP o0 o1 o2 o3 o4 o6 (.cells [.string (bs t), .slice none 0 0, .string (bs p), .int .i64 k, .bool false, .bool false, .slice (some ⟨7, 0, none⟩) 1 1, .bool true] false) [.tcells [.int .i64 dd] 3 (some 0)]) fun r h' => r = .ret (mkA [] p k false false [dd] true) ∧ h' = HP o0 o1 o2 o3 o4 o6 (.cells [.string (bs t), .slice none 0 0, .string (bs p), .int .i64 k, .bool false, .bool false, .slice (some ⟨7, 0, none⟩) 1 1, .bool true] false) [.dead] := by
  exact fr2 (a64_spec) he (.cells _ (.cons (.string _) (.cons (.snil _ _) (.cons (.string _) (.cons (.int _ _) (.cons (.bool _) (.cons (.bool _) (.cons (.slice _ _ _ _ rfl) (.cons (.bool _) .nil))))))))) (.tcells _ _ (.cons (.int _ _) .nil)) rfl rfl rfl rfl
theorem ad5 {o0 o1 o2 o3 o4 o6 : AObj} {t p : List UInt8} {g : List Int} {k : Nat} {dd : Int}  (he : (HP o0 o1 o2 o3 o4 o6 (.cells [.string (bs t), .slice (some ⟨7, 0, some 1⟩) g.length g.length, .string (bs p), .int .i64 k, .bool false, .bool false, .slice (some ⟨8, 0, none⟩) 1 1, .bool true] false) [.tcells (ic g) 3 (some 0), .tcells [.int .i64 dd] 3 (some 0)]).all xnoE = true) :
    Fm.Spec Tryd.prog [] 86 [.pointer (some ⟨5, 0, none⟩)] (HP o0 o1 o2 o3 o4 o6 (.cells [.string (bs t), .slice (some ⟨7, 0, some 1⟩) g.length g.length, .string (bs p), .int .i64 k, .bool false, .bool false, .slice (some ⟨8, 0, none⟩) 1 1, .bool true] false) [.tcells (ic g) 3 (some 0), .tcells [.int .i64 dd] 3 (some 0)]) fun r h' => r = .ret (mkA g p k false false [dd] true) ∧ h' = HP o0 o1 o2 o3 o4 o6 (.cells [.string (bs t), .slice (some ⟨7, 0, some 1⟩) g.length g.length, .string (bs p), .int .i64 k, .bool false, .bool false, .slice (some ⟨8, 0, none⟩) 1 1, .bool true] false) [.dead, .dead] := by
  exact fr3 (a65_spec) he (.cells _ (.cons (.string _) (.cons (.slice _ _ _ _ rfl) (.cons (.string _) (.cons (.int _ _) (.cons (.bool _) (.cons (.bool _) (.cons (.slice _ _ _ _ rfl) (.cons (.bool _) .nil))))))))) (ro_ic _ _ _) (.tcells _ _ (.cons (.int _ _) .nil)) rfl rfl rfl rfl rfl
theorem ad6 {o0 o1 o2 o3 o4 o6 : AObj} {t p : List UInt8} {k : Nat} {ds : List Int} (w : W6 ⟨[], p, k, false, false, ds, true⟩) (he : (HP o0 o1 o2 o3 o4 o6 (.cells [.string (bs t), .slice none 0 0, .string (bs p), .int .i64 k, .bool false, .bool false, .slice (some ⟨7, 0, some 1⟩) ds.length ds.length, .bool true] false) [.tcells (ic ds) 3 (some 0)]).all xnoE = true) :
    Fm.Spec Tryd.prog [] 86 [.pointer (some ⟨5, 0, none⟩)] (HP o0 o1 o2 o3 o4 o6 (.cells [.string (bs t), .slice none 0 0, .string (bs p), .int .i64 k, .bool false, .bool false, .slice (some ⟨7, 0, some 1⟩) ds.length ds.length, .bool true] false) [.tcells (ic ds) 3 (some 0)]) fun r h' => r = .ret (mkA [] p k false false ds true) ∧ h' = HP o0 o1 o2 o3 o4 o6 (.cells [.string (bs t), .slice none 0 0, .string (bs p), .int .i64 k, .bool false, .bool false, .slice (some ⟨7, 0, some 1⟩) ds.length ds.length, .bool true] false) [.dead] := by
  match k, w, he with
  | 0, w, he => exact fr2 (a66z_spec w) he (.cells _ (.cons (.string _) (.cons (.snil _ _) (.cons (.string _) (.cons (.int _ _) (.cons (.bool _) (.cons (.bool _) (.cons (.slice _ _ _ _ rfl) (.cons (.bool _) .nil))))))))) (ro_ic _ _ _) rfl rfl rfl rfl
  | 1, w, he => exact fr2 (a66o_spec w) he (.cells _ (.cons (.string _) (.cons (.snil _ _) (.cons (.string _) (.cons (.int _ _) (.cons (.bool _) (.cons (.bool _) (.cons (.slice _ _ _ _ rfl) (.cons (.bool _) .nil))))))))) (ro_ic _ _ _) rfl rfl rfl rfl
  | m + 2, w, he => exact absurd w.gap (by show ¬ m + 2 ≤ 0 + 1; omega)
theorem ad7 {o0 o1 o2 o3 o4 o6 : AObj} {t p : List UInt8} {g : List Int} {k : Nat} {ds : List Int} (w : W6 ⟨g, p, k, false, false, ds, true⟩) (he : (HP o0 o1 o2 o3 o4 o6 (.cells [.string (bs t), .slice (some ⟨7, 0, some 1⟩) g.length g.length, .string (bs p), .int .i64 k, .bool false, .bool false, .slice (some ⟨8, 0, some 1⟩) ds.length ds.length, .bool true] false) [.tcells (ic g) 3 (some 0), .tcells (ic ds) 3 (some 0)]).all xnoE = true) :
    Fm.Spec Tryd.prog [] 86 [.pointer (some ⟨5, 0, none⟩)] (HP o0 o1 o2 o3 o4 o6 (.cells [.string (bs t), .slice (some ⟨7, 0, some 1⟩) g.length g.length, .string (bs p), .int .i64 k, .bool false, .bool false, .slice (some ⟨8, 0, some 1⟩) ds.length ds.length, .bool true] false) [.tcells (ic g) 3 (some 0), .tcells (ic ds) 3 (some 0)]) fun r h' => r = .ret (mkA g p k false false ds true) ∧ h' = HP o0 o1 o2 o3 o4 o6 (.cells [.string (bs t), .slice (some ⟨7, 0, some 1⟩) g.length g.length, .string (bs p), .int .i64 k, .bool false, .bool false, .slice (some ⟨8, 0, some 1⟩) ds.length ds.length, .bool true] false) [.dead, .dead] := by
  match k, w, he with
  | 0, w, he => exact fr3 (a67z_spec w) he (.cells _ (.cons (.string _) (.cons (.slice _ _ _ _ rfl) (.cons (.string _) (.cons (.int _ _) (.cons (.bool _) (.cons (.bool _) (.cons (.slice _ _ _ _ rfl) (.cons (.bool _) .nil))))))))) (ro_ic _ _ _) (ro_ic _ _ _) rfl rfl rfl rfl rfl
  | 1, w, he => exact fr3 (a67o_spec w) he (.cells _ (.cons (.string _) (.cons (.slice _ _ _ _ rfl) (.cons (.string _) (.cons (.int _ _) (.cons (.bool _) (.cons (.bool _) (.cons (.slice _ _ _ _ rfl) (.cons (.bool _) .nil))))))))) (ro_ic _ _ _) (ro_ic _ _ _) rfl rfl rfl rfl rfl
  | m + 2, w, he => exact fr3 (a67m_spec w) he (.cells _ (.cons (.string _) (.cons (.slice _ _ _ _ rfl) (.cons (.string _) (.cons (.int _ _) (.cons (.bool _) (.cons (.bool _) (.cons (.slice _ _ _ _ rfl) (.cons (.bool _) .nil))))))))) (ro_ic _ _ _) (ro_ic _ _ _) rfl rfl rfl rfl rfl
end Go.Proofs.YtopladipgobpjaaDoor
