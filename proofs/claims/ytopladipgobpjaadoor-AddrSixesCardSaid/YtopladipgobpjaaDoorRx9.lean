/-
  The reference's Parse6: its contract. Condition: the text's length is below 2^63.
-/
import Derived.Test.YtopladipgobpjaaDoorRx7
import Derived.Test.YtopladipgobpjaaDoorRx8
namespace Go.Proofs.YtopladipgobpjaaDoor
open Go.Fm

theorem rv_get {i : Nat → Option Nat} {l u : List Value} (h : RVs i l u) : l.length = u.length ∧ ∀ (k : Nat) (v v' : Value), l[k]? = some v → u[k]? = some v' → RV i v v' := by
  induction h with
  | nil => exact ⟨rfl, fun k v v' h => by simp at h⟩
  | cons h _ ih =>
    refine ⟨by simp [ih.1], fun k v v' e e' => ?_⟩
    match k with
    | 0 =>
      have e := Option.some.inj (show some _ = some v from e)
      have e' := Option.some.inj (show some _ = some v' from e')
      subst e e'; exact h
    | k + 1 => exact ih.2 k v v' (by simpa using e) (by simpa using e')
theorem rv_tuple {i : Nat → Option Nat} {l u : List Value} (h : RVs i l u) : RV i (.tuple ⟨l⟩) (.tuple ⟨u⟩) := .tuple (rv_get h).1 fun k v v' e e' => (rv_get h).2 k v v' (by simpa using e) (by simpa using e')
theorem rv_agg {i : Nat → Option Nat} {l u : List Value} (h : RVs i l u) : RV i (.agg ⟨l⟩) (.agg ⟨u⟩) := .agg (rv_get h).1 fun k v v' e e' => (rv_get h).2 k v v' (by simpa using e) (by simpa using e')

/-! ## Read6 -/

theorem read6_0 {l : List UInt8} (hl : l.length < 2 ^ 63) (hL : (rY l).l = []) : Fm.Spec Tryd.prog [] 60 [.string (bs l)] [] fun r h' => r = .ret (.tuple ⟨[.agg ⟨[.slice none 0 0, .int .i64 (rG l), .string (bs (rP l))]⟩, .int .i64 (rN l)]⟩) ∧ h' = [] := by
  refine xren (Spec.mono (read6_spec hl) ?_)
  rintro r h' ⟨h1, _⟩
  exact ⟨[], _, _, [], h1 hL, ⟨rfl, rfl⟩, by simp, by simp, by simp, trivial, Less.rv (rv_flat rfl)⟩
theorem read6_1 {l : List UInt8} (hl : l.length < 2 ^ 63) (hL : (rY l).l ≠ []) : Fm.Spec Tryd.prog [] 60 [.string (bs l)] [] fun r h' => r = .ret (.tuple ⟨[.agg ⟨[.slice (some ⟨0, 0, some 1⟩) (rL l).length (rL l).length, .int .i64 (rG l), .string (bs (rP l))]⟩, .int .i64 (rN l)]⟩) ∧ h' = [.tcells (ic (rL l)) 3 (some 0)] := by
  refine xren (Spec.mono (read6_spec hl) ?_)
  rintro r h' ⟨_, h2⟩
  obtain ⟨e, hb⟩ := h2 hL
  exact ⟨[2], _, _, _, e, ⟨rfl, rfl⟩, by simp, by simp, by simp, ⟨⟨_, hb, ro_ic _ _ _⟩, trivial⟩, Less.rv (rv_tuple (.cons (rv_agg (.cons (.slice _ _ _ _ rfl) (.cons (.int _ _) (.cons (.string _) .nil)))) (.cons (.int _ _) .nil)))⟩

/-! ## Whole6 -/

theorem w6_split0 {o : Option (List Int)} {args : List Value} (hs : Fm.Spec Tryd.prog [] 61 args [] (W6out o)) :
    (o.isSome = true → Fm.Spec Tryd.prog [] 61 args [] fun r h' => r = .ret (.tuple ⟨[.slice (some ⟨0, 0, some 1⟩) 8 8, .bool true]⟩) ∧ h' = [.tcells (ic (o.getD [])) 3 (some 0)]) ∧
    (o.isSome = false → Fm.Spec Tryd.prog [] 61 args [] fun r h' => r = .ret (.tuple ⟨[.chan (some 0), .bool false]⟩) ∧ h' = []) := by
  cases o with
  | none =>
    refine ⟨fun h => (by cases h), fun _ => xren (Spec.mono hs ?_)⟩
    rintro r h' ⟨v, e, hv⟩
    exact ⟨[], _, _, [], e, ⟨rfl, rfl⟩, by simp, by simp, by simp, trivial, Less.hole hv⟩
  | some G =>
    refine ⟨fun _ => xren (Spec.mono hs ?_), fun h => (by cases h)⟩
    rintro r h' ⟨b, e, _, hb⟩
    exact ⟨[b], _, _, _, e, ⟨rfl, rfl⟩, by simp, by simp, by simp, ⟨⟨_, hb, ro_ic _ _ _⟩, trivial⟩, Less.rv (rv_tuple (.cons (.slice _ _ _ _ rfl) (.cons (.bool _) .nil)))⟩

theorem w6_split1 {o : Option (List Int)} {args : List Value} {g : List Int} (hs : Fm.Spec Tryd.prog [] 61 args [.tcells (ic g) 3 (some 0)] (W6out1 g o)) :
    (o.isSome = true → Fm.Spec Tryd.prog [] 61 args [.tcells (ic g) 3 (some 0)] fun r h' => r = .ret (.tuple ⟨[.slice (some ⟨1, 0, some 1⟩) 8 8, .bool true]⟩) ∧ h' = [.tcells (ic g) 3 (some 0), .tcells (ic (o.getD [])) 3 (some 0)]) ∧
    (o.isSome = false → Fm.Spec Tryd.prog [] 61 args [.tcells (ic g) 3 (some 0)] fun r h' => r = .ret (.tuple ⟨[.chan (some 0), .bool false]⟩) ∧ h' = [.tcells (ic g) 3 (some 0)]) := by
  have old : ∀ (m : List Nat) (b : Nat), b < 1 → (0 :: m)[b]? = some b := by
    intro m b hb
    have : b = 0 := by omega
    subst this; rfl
  cases o with
  | none =>
    refine ⟨fun h => (by cases h), fun _ => xren (Spec.mono hs ?_)⟩
    rintro r h' ⟨⟨v, e, hv⟩, h0⟩
    exact ⟨[0], _, _, _, e, ⟨rfl, rfl⟩, by simp, by simp, old [], ⟨⟨_, h0, ro_ic _ _ _⟩, trivial⟩, Less.hole hv⟩
  | some G =>
    refine ⟨fun _ => xren (Spec.mono hs ?_), fun h => (by cases h)⟩
    rintro r h' ⟨⟨b, e, hb0, hb⟩, h0⟩
    exact ⟨[0, b], _, _, _, e, ⟨rfl, rfl⟩, by simp; omega, by simp, old [b], ⟨⟨_, h0, ro_ic _ _ _⟩, ⟨_, hb, ro_ic _ _ _⟩, trivial⟩, Less.rv (rv_tuple (.cons (.slice _ _ _ _ rfl) (.cons (.bool _) .nil)))⟩

theorem whole_nil {l p : List UInt8} {gap : Int} (hp : p.length ≤ 15) (h0 : -1 ≤ gap) (h1 : gap ≤ 0) : Fm.Spec Tryd.prog [] 61 [.string (bs l), .agg ⟨[.slice none 0 0, .int .i64 gap, .string (bs p)]⟩] [] (W6out (whole6 ⟨[], gap, p⟩)) := by
  have : gap = -1 ∨ gap = 0 := by omega
  rcases this with e | e
  · subst e; exact whole_w0z hp
  · subst e; exact whole_w0o hp
theorem whole_blk {l p : List UInt8} {g : List Int} {gap : Int} (hp : p.length ≤ 15) (hg0 : g ≠ []) (hg7 : g.length ≤ 7) (h0 : -1 ≤ gap) (h1 : gap ≤ g.length) : Fm.Spec Tryd.prog [] 61 [.string (bs l), .agg ⟨[.slice (some ⟨0, 0, some 1⟩) g.length g.length, .int .i64 gap, .string (bs p)]⟩] [.tcells (ic g) 3 (some 0)] (W6out1 g (whole6 ⟨g, gap, p⟩)) := by
  by_cases e : gap = -1
  · subst e; exact whole_w1z hp hg0 hg7
  · obtain ⟨n, rfl⟩ : ∃ n : Nat, gap = n := ⟨gap.toNat, by omega⟩
    exact whole_w1g hp hg0 hg7 (by omega)

/-! ## in a greater memory -/

theorem emb_none {H : AHeap} (he : H.all noE = true) : Emb [] (fun _ => none) [] H := by
  refine ⟨fun x y q hx _ => (by cases hx), by simp, fun x q hx => (by cases hx), fun q ro hq => ?_⟩
  have := List.all_eq_true.1 he _ (List.mem_of_getElem? hq)
  cases this

theorem frame_none {f : FuncId} {args : List Value} {v : Value} {H : AHeap} (hs : Fm.Spec Tryd.prog [] f args [] fun r h' => r = .ret v ∧ h' = []) (ha : RVs (fun _ => none) args args) (he : H.all noE = true) (hsc : scopeV 0 8 v = true) (hv : renV (renB (fun _ => none) 0 H.length) 8 v = v) :
    Fm.Spec Tryd.prog [] f args H fun r h' => r = .ret v ∧ h' = H := by
  refine Spec.mono (Spec.frame (gs' := []) hs (emb_none he) ha (by simp) ?_) ?_
  · rintro r h0' ⟨rfl, rfl⟩; exact hsc
  · rintro r h' ⟨r0, h0', ⟨rfl, rfl⟩, rfl, rfl⟩
    refine ⟨congrArg Res.ret hv, ?_⟩
    show H ++ [] = H
    rw [List.append_nil]

theorem frame_new {f : FuncId} {args : List Value} {v v' : Value} {H : AHeap} {G : List Int} {c : List Value} (hs : Fm.Spec Tryd.prog [] f args [] fun r h' => r = .ret v ∧ h' = [.tcells (ic G) 3 (some 0)]) (ha : RVs (fun _ => none) args args) (he : H.all noE = true) (hsc : scopeV 1 8 v = true) (hv : renV (renB (fun _ => none) 0 H.length) 8 v = v') (hc : ic G = c) :
    Fm.Spec Tryd.prog [] f args H fun r h' => r = .ret v' ∧ h' = H ++ [.tcells c 3 (some 0)] := by
  subst hc
  refine Spec.mono (Spec.frame (gs' := []) hs (emb_none he) ha (by simp) ?_) ?_
  · rintro r h0' ⟨rfl, rfl⟩; exact hsc
  · rintro r h' ⟨r0, h0', ⟨rfl, rfl⟩, rfl, rfl⟩
    refine ⟨congrArg Res.ret hv, ?_⟩
    show H ++ [renO _ 1 (.tcells (ic G) 3 (some 0))] = _
    rw [ic_renO]

def emG : Nat → Option Nat := fun x => if x = 0 then some 1 else none

theorem emb_g {a0 a2 : AObj} {g : List Int} (he : ([a0, .tcells (ic g) 3 (some 0), a2] : AHeap).all noE = true) : Emb [] emG [.tcells (ic g) 3 (some 0)] [a0, .tcells (ic g) 3 (some 0), a2] := by
  refine ⟨?_, by simp, ?_, fun q ro hq => ?_⟩
  · intro x y q hx hy
    unfold emG at hx hy
    split at hx
    · split at hy
      · omega
      · cases hy
    · cases hx
  · intro x q hx
    unfold emG at hx
    split at hx
    · rename_i h0; subst h0
      injection hx with hx; subst hx
      exact ⟨_, _, rfl, rfl, ro_ic g 3 (some 0)⟩
    · cases hx
  · have := List.all_eq_true.1 he _ (List.mem_of_getElem? hq)
    cases this

theorem frame_g0 {args args' : List Value} {v v' : Value} {a0 a2 : AObj} {g : List Int} (hs : Fm.Spec Tryd.prog [] 61 args [.tcells (ic g) 3 (some 0)] fun r h' => r = .ret v ∧ h' = [.tcells (ic g) 3 (some 0)]) (ha : RVs emG args args') (he : ([a0, .tcells (ic g) 3 (some 0), a2] : AHeap).all noE = true) (hsc : scopeV 1 8 v = true) (hv : renV (renB emG 1 3) 8 v = v') :
    Fm.Spec Tryd.prog [] 61 args' [a0, .tcells (ic g) 3 (some 0), a2] fun r h' => r = .ret v' ∧ h' = [a0, .tcells (ic g) 3 (some 0), a2] := by
  refine Spec.mono (Spec.frame (gs' := []) hs (emb_g he) ha (by simp) ?_) ?_
  · rintro r h0' ⟨rfl, rfl⟩; exact hsc
  · rintro r h' ⟨r0, h0', ⟨rfl, rfl⟩, rfl, rfl⟩
    refine ⟨by show Res.ret (renV (renB emG 1 3) 8 v) = _; rw [hv], ?_⟩
    show [a0, renO _ 1 (.tcells (ic g) 3 (some 0)), a2] = _
    rw [ic_renO]

theorem frame_g1 {args args' : List Value} {v v' : Value} {a0 a2 : AObj} {g G : List Int} {c : List Value} (hs : Fm.Spec Tryd.prog [] 61 args [.tcells (ic g) 3 (some 0)] fun r h' => r = .ret v ∧ h' = [.tcells (ic g) 3 (some 0), .tcells (ic G) 3 (some 0)]) (ha : RVs emG args args') (he : ([a0, .tcells (ic g) 3 (some 0), a2] : AHeap).all noE = true) (hsc : scopeV 2 8 v = true) (hv : renV (renB emG 1 3) 8 v = v') (hc : ic G = c) :
    Fm.Spec Tryd.prog [] 61 args' [a0, .tcells (ic g) 3 (some 0), a2] fun r h' => r = .ret v' ∧ h' = [a0, .tcells (ic g) 3 (some 0), a2, .tcells c 3 (some 0)] := by
  subst hc
  refine Spec.mono (Spec.frame (gs' := []) hs (emb_g he) ha (by simp) ?_) ?_
  · rintro r h0' ⟨rfl, rfl⟩; exact hsc
  · rintro r h' ⟨r0, h0', ⟨rfl, rfl⟩, rfl, rfl⟩
    refine ⟨by show Res.ret (renV (renB emG 1 3) 8 v) = _; rw [hv], ?_⟩
    show [a0, renO _ 2 (.tcells (ic g) 3 (some 0)), a2, renO _ 2 (.tcells (ic G) 3 (some 0))] = _
    rw [ic_renO, ic_renO]

/-! ## Parse6 -/

theorem call2_of {f : FuncId} {args : List Value} {H hA hB : AHeap} {b : Bool} {X Y : Prop} {rA rB : Res} (h1 : b = true → Fm.Spec Tryd.prog [] f args H fun r h' => r = rA ∧ h' = hA) (h2 : b = false → Fm.Spec Tryd.prog [] f args H fun r h' => r = rB ∧ h' = hB) (hX : b = true → X) (hY : b = false → Y) :
    SpecC Tryd.prog [] (.fn f) args H (fun r h' => (b = true → r = ((rA, (hA : AHeap)) : Res × AHeap).1 ∧ h' = ((rA, (hA : AHeap)) : Res × AHeap).2) ∧ (b = false → r = ((rB, (hB : AHeap)) : Res × AHeap).1 ∧ h' = ((rB, (hB : AHeap)) : Res × AHeap).2)) ∧ ((b = true → X) ∧ (b = false → Y)) := by
  refine ⟨.inl ?_, hX, hY⟩
  cases b with
  | true => exact Spec.mono (h1 rfl) (by rintro r h' ⟨rfl, rfl⟩; exact ⟨fun _ => ⟨rfl, rfl⟩, fun h => by cases h⟩)
  | false => exact Spec.mono (h2 rfl) (by rintro r h' ⟨rfl, rfl⟩; exact ⟨(fun h => by cases h), fun _ => ⟨rfl, rfl⟩⟩)

theorem q8 {w z2 z3 x : Int} (hw : 0 ≤ w ∧ w < 65536) (h2 : z2 = IntKind.i64.wrap (w.tdiv 256)) (h3 : z3 = IntKind.u8.wrap z2) (hx : x = w / 256) : z3 = x := by
  rw [Int.tdiv_eq_ediv_of_nonneg hw.1, xwrapi (by omega) (by omega)] at h2
  rw [h2, xwrap8 (by omega) (by omega)] at h3
  rw [h3, hx]
theorem m8 {w z2 z3 x : Int} (hw : 0 ≤ w ∧ w < 65536) (h2 : z2 = w.tmod 256) (h3 : z3 = IntKind.u8.wrap z2) (hx : x = w % 256) : z3 = x := by
  rw [Int.tmod_eq_emod_of_nonneg hw.1] at h2
  rw [h2, xwrap8 (by omega) (by omega)] at h3
  rw [h3, hx]

theorem ic8 {G : List Int} (h : G.length = 8) : ic G = [.int .i64 (G.getD 0 0), .int .i64 (G.getD 1 0), .int .i64 (G.getD 2 0), .int .i64 (G.getD 3 0), .int .i64 (G.getD 4 0), .int .i64 (G.getD 5 0), .int .i64 (G.getD 6 0), .int .i64 (G.getD 7 0)] := by
  match G, h with
  | [a, b, c, d, e, f, g, i], _ => rfl

set_option maxRecDepth 20000 in
theorem rparse6_spec {l : List UInt8} (hl : l.length < 2 ^ 63) : Fm.Spec Tryd.prog [] 19 [.string (bs l)] [] fun r _ => r = .ret (p6V l) := by
  refine xspecr (run_rparse6 l fun r => r = .ret (p6V l)) ?_
  have w : RW (rY l) := rscan_RW b4_len l l 0 .init RW_init
  have hle : rN l ≤ l.length := rscan_le l l 0 .init
  have hpl : (rP l).length ≤ 15 := w.plen
  have hg0 : -1 ≤ rG l := w.g0
  have hgl : rG l ≤ ((rL l).length : Int) := w.gl
  have hl7 : (rL l).length ≤ 7 := w.len
  have early : rN l < l.length → Res.ret (.tuple ⟨[zG, .int .i64 ((rN l : Nat) : Int), .int .i64 20]⟩) = .ret (p6V l) := fun h => by
    rw [p6V_none (n := rN l) (by rw [p6_ref]; exact if_pos h)]
  have late : rN l = l.length → p6R l = match whole6 (rY l) with
      | some g => (some g, 0)
      | none => (none, rN l) := fun h => by
    rw [p6_ref]; exact if_neg (by show ¬ rN l < l.length; omega)
  refine call2_of (fun h => ?_) (fun h => ?_) (fun h => ?_) (fun h => ?_)
  · exact frame_none (read6_0 hl (of_decide_eq_true h)) (.cons (.string _) .nil) rfl rfl rfl
  · exact frame_new (read6_1 hl (of_decide_eq_false h)) (.cons (.string _) .nil) rfl rfl rfl rfl
  · have hL : (rY l).l = [] := of_decide_eq_true h
    have hL' : rL l = [] := hL
    rw [hL'] at hgl
    have ey : rY l = ⟨[], rG l, rP l⟩ := by rw [← hL]; rfl
    rw [ey] at late
    have wk : RW ⟨[], rG l, rP l⟩ := ey ▸ w
    intro z1 hz1
    have hz1 : z1 = ((l.length : Nat) : Int) := hz1
    subst hz1
    refine ⟨fun hd => early (by have := of_decide_eq_true hd; omega), fun hd => ?_⟩
    have hN : rN l = l.length := by have := of_decide_eq_false hd; omega
    have late := late hN
    have hS := w6_split0 (whole_nil (l := l) (p := rP l) (gap := rG l) hpl hg0 hgl)
    refine call2_of (fun h => ?_) (fun h => ?_) (fun h => ?_) (fun h => ?_)
    · obtain ⟨G, hG⟩ := Option.isSome_iff_exists.1 (show (whole6 ⟨[], rG l, rP l⟩).isSome = true from h)
      have hc := ic8 (whole_ok wk hG).1
      refine frame_new (hS.1 h) (.cons (.string _) (.cons (rv_agg (.cons (.snil _ _) (.cons (.int _ _) (.cons (.string _) .nil)))) .nil)) rfl rfl rfl ?_
      unfold wI; rw [hG]; exact hc
    · exact frame_none (hS.2 h) (.cons (.string _) (.cons (rv_agg (.cons (.snil _ _) (.cons (.int _ _) (.cons (.string _) .nil)))) .nil)) rfl rfl rfl
    · obtain ⟨G, hG⟩ := Option.isSome_iff_exists.1 (show (whole6 ⟨[], rG l, rP l⟩).isSome = true from h)
      have hok' := (whole_ok wk hG).2
      have hw : ∀ j, wI [] (rG l) (rP l) j = G.getD j 0 := fun j => by unfold wI; rw [hG]; rfl
      have hok : ∀ j, 0 ≤ wI [] (rG l) (rP l) j ∧ wI [] (rG l) (rP l) j < 65536 := fun j => by rw [hw]; exact okG_get hok' j
      rw [hG] at late
      have hsome : ∀ G', G = G' → p6R l = (some G', 0) := fun G' e => e ▸ late
      intro z2 h2 z3 h3 z4 h4 z5 h5
      refine ⟨rfl, ?_⟩
      intro z6 h6 z7 h7 z8 h8 z9 h9
      refine ⟨rfl, ?_⟩
      intro z10 h10 z11 h11 z12 h12 z13 h13
      refine ⟨rfl, ?_⟩
      intro z14 h14 z15 h15 z16 h16 z17 h17
      refine ⟨rfl, ?_⟩
      intro z18 h18 z19 h19 z20 h20 z21 h21
      refine ⟨rfl, ?_⟩
      intro z22 h22 z23 h23 z24 h24 z25 h25
      refine ⟨rfl, ?_⟩
      intro z26 h26 z27 h27 z28 h28 z29 h29
      refine ⟨rfl, ?_⟩
      intro z30 h30 z31 h31 z32 h32 z33 h33
      refine ⟨rfl, ?_⟩
      rw [p6V_some (hsome G rfl), q8 (hok 0) h2 h3 (x := byteAt G 0) (by rw [hw]; rfl), m8 (hok 0) h4 h5 (x := byteAt G 1) (by rw [hw]; rfl), q8 (hok 1) h6 h7 (x := byteAt G 2) (by rw [hw]; rfl), m8 (hok 1) h8 h9 (x := byteAt G 3) (by rw [hw]; rfl), q8 (hok 2) h10 h11 (x := byteAt G 4) (by rw [hw]; rfl), m8 (hok 2) h12 h13 (x := byteAt G 5) (by rw [hw]; rfl), q8 (hok 3) h14 h15 (x := byteAt G 6) (by rw [hw]; rfl), m8 (hok 3) h16 h17 (x := byteAt G 7) (by rw [hw]; rfl), q8 (hok 4) h18 h19 (x := byteAt G 8) (by rw [hw]; rfl), m8 (hok 4) h20 h21 (x := byteAt G 9) (by rw [hw]; rfl), q8 (hok 5) h22 h23 (x := byteAt G 10) (by rw [hw]; rfl), m8 (hok 5) h24 h25 (x := byteAt G 11) (by rw [hw]; rfl), q8 (hok 6) h26 h27 (x := byteAt G 12) (by rw [hw]; rfl), m8 (hok 6) h28 h29 (x := byteAt G 13) (by rw [hw]; rfl), q8 (hok 7) h30 h31 (x := byteAt G 14) (by rw [hw]; rfl), m8 (hok 7) h32 h33 (x := byteAt G 15) (by rw [hw]; rfl)]
    · have hn : whole6 ⟨[], rG l, rP l⟩ = none := by simpa using (show (whole6 ⟨[], rG l, rP l⟩).isSome = false from h)
      rw [hn] at late
      rw [p6V_none late]
  · have hL : rL l ≠ [] := of_decide_eq_false h
    have ey : rY l = ⟨rL l, rG l, rP l⟩ := rfl
    rw [ey] at late
    have wk : RW ⟨rL l, rG l, rP l⟩ := w
    rw [unI_ic]
    intro z1 hz1
    have hz1 : z1 = ((l.length : Nat) : Int) := hz1
    subst hz1
    refine ⟨fun hd => early (by have := of_decide_eq_true hd; omega), fun hd => ?_⟩
    have hN : rN l = l.length := by have := of_decide_eq_false hd; omega
    have late := late hN
    have hS := w6_split1 (whole_blk (l := l) (p := rP l) (gap := rG l) hpl hL hl7 hg0 hgl)
    refine call2_of (fun h => ?_) (fun h => ?_) (fun h => ?_) (fun h => ?_)
    · obtain ⟨G, hG⟩ := Option.isSome_iff_exists.1 (show (whole6 ⟨rL l, rG l, rP l⟩).isSome = true from h)
      have hc := ic8 (whole_ok wk hG).1
      refine frame_g1 (hS.1 h) (.cons (.string _) (.cons (rv_agg (.cons (.slice _ _ _ _ rfl) (.cons (.int _ _) (.cons (.string _) .nil)))) .nil)) rfl rfl rfl ?_
      unfold wI; rw [hG]; exact hc
    · exact frame_g0 (hS.2 h) (.cons (.string _) (.cons (rv_agg (.cons (.slice _ _ _ _ rfl) (.cons (.int _ _) (.cons (.string _) .nil)))) .nil)) rfl rfl rfl
    · obtain ⟨G, hG⟩ := Option.isSome_iff_exists.1 (show (whole6 ⟨rL l, rG l, rP l⟩).isSome = true from h)
      have hok' := (whole_ok wk hG).2
      have hw : ∀ j, wI (rL l) (rG l) (rP l) j = G.getD j 0 := fun j => by unfold wI; rw [hG]; rfl
      have hok : ∀ j, 0 ≤ wI (rL l) (rG l) (rP l) j ∧ wI (rL l) (rG l) (rP l) j < 65536 := fun j => by rw [hw]; exact okG_get hok' j
      rw [hG] at late
      have hsome : ∀ G', G = G' → p6R l = (some G', 0) := fun G' e => e ▸ late
      intro z2 h2 z3 h3 z4 h4 z5 h5
      refine ⟨rfl, ?_⟩
      intro z6 h6 z7 h7 z8 h8 z9 h9
      refine ⟨rfl, ?_⟩
      intro z10 h10 z11 h11 z12 h12 z13 h13
      refine ⟨rfl, ?_⟩
      intro z14 h14 z15 h15 z16 h16 z17 h17
      refine ⟨rfl, ?_⟩
      intro z18 h18 z19 h19 z20 h20 z21 h21
      refine ⟨rfl, ?_⟩
      intro z22 h22 z23 h23 z24 h24 z25 h25
      refine ⟨rfl, ?_⟩
      intro z26 h26 z27 h27 z28 h28 z29 h29
      refine ⟨rfl, ?_⟩
      intro z30 h30 z31 h31 z32 h32 z33 h33
      refine ⟨rfl, ?_⟩
      rw [p6V_some (hsome G rfl), q8 (hok 0) h2 h3 (x := byteAt G 0) (by rw [hw]; rfl), m8 (hok 0) h4 h5 (x := byteAt G 1) (by rw [hw]; rfl), q8 (hok 1) h6 h7 (x := byteAt G 2) (by rw [hw]; rfl), m8 (hok 1) h8 h9 (x := byteAt G 3) (by rw [hw]; rfl), q8 (hok 2) h10 h11 (x := byteAt G 4) (by rw [hw]; rfl), m8 (hok 2) h12 h13 (x := byteAt G 5) (by rw [hw]; rfl), q8 (hok 3) h14 h15 (x := byteAt G 6) (by rw [hw]; rfl), m8 (hok 3) h16 h17 (x := byteAt G 7) (by rw [hw]; rfl), q8 (hok 4) h18 h19 (x := byteAt G 8) (by rw [hw]; rfl), m8 (hok 4) h20 h21 (x := byteAt G 9) (by rw [hw]; rfl), q8 (hok 5) h22 h23 (x := byteAt G 10) (by rw [hw]; rfl), m8 (hok 5) h24 h25 (x := byteAt G 11) (by rw [hw]; rfl), q8 (hok 6) h26 h27 (x := byteAt G 12) (by rw [hw]; rfl), m8 (hok 6) h28 h29 (x := byteAt G 13) (by rw [hw]; rfl), q8 (hok 7) h30 h31 (x := byteAt G 14) (by rw [hw]; rfl), m8 (hok 7) h32 h33 (x := byteAt G 15) (by rw [hw]; rfl)]
    · have hn : whole6 ⟨rL l, rG l, rP l⟩ = none := by simpa using (show (whole6 ⟨rL l, rG l, rP l⟩).isSome = false from h)
      rw [hn] at late
      rw [p6V_none late]

end Go.Proofs.YtopladipgobpjaaDoor
