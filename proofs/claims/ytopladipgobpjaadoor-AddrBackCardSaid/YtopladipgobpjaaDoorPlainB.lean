/-
  An address's text is read as it: the plain law. No program in sight.
-/
import Derived.Test.YtopladipgobpjaaDoorTx
import Derived.Test.YtopladipgobpjaaDoorText4
import Derived.Test.YtopladipgobpjaaDoorPlainA
namespace Go.Proofs.YtopladipgobpjaaDoor
def okR : Nat → Int → List UInt8 → Option (Nat × Int)
  | cnt, n, [] => some (cnt, n)
  | cnt, n, c :: r => if c = 46 then none else if okd 255 cnt n c = true then okR (cnt + 1) (n * 10 + dv c) r else none
theorem okR_go : ∀ (ds : List UInt8) (cnt cnt' k : Nat) (n n' : Int) (r : List UInt8), okR cnt n ds = some (cnt', n') →
    gv k cnt n (ds ++ r) = gv k cnt' n' r ∧ scanP k cnt n (ds ++ r) = ds.length + scanP k cnt' n' r
  | [], cnt, cnt', k, n, n', r, h => by
    unfold okR at h
    injection h with h; injection h with h1 h2; subst h1 h2
    exact ⟨rfl, by simp⟩
  | c :: ds, cnt, cnt', k, n, n', r, h => by
    unfold okR at h
    split at h
    · cases h
    · rename_i hc
      split at h
      · rename_i ho
        obtain ⟨a, b⟩ := okR_go ds (cnt + 1) cnt' k (n * 10 + dv c) n' r h
        refine ⟨?_, ?_⟩
        · rw [List.cons_append, gv, if_neg hc, if_pos ho, a]
        · rw [List.cons_append, scanP, if_neg hc, if_pos ho, b, List.length_cons]; omega
      · cases h
theorem decL_fin : ∀ a : Fin 256, (match okR 0 0 (decL ((a.val : Nat) : Int)) with
    | some (c, n) => decide (0 < c) && decide (n = ((a.val : Nat) : Int))
    | none => false) = true := by decide +kernel
theorem decL_ok {a : Int} (h : 0 ≤ a ∧ a < 256) : ∃ c, 0 < c ∧ okR 0 0 (decL a) = some (c, a) := by
  have hf := decL_fin ⟨a.toNat, by omega⟩
  have e : ((a.toNat : Nat) : Int) = a := by omega
  simp only [e] at hf
  cases ho : okR 0 0 (decL a) with
  | none => rw [ho] at hf; cases hf
  | some p =>
    obtain ⟨c, n⟩ := p
    rw [ho] at hf
    simp only [Bool.and_eq_true, decide_eq_true_eq] at hf
    exact ⟨c, hf.1, by rw [hf.2]⟩
theorem dot_go {k c : Nat} {n : Int} {r : List UInt8} (hc : 0 < c) (hk : 0 < k) : gv k c n (46 :: r) = (gv (k - 1) 0 0 r).map (n :: ·) ∧ scanP k c n (46 :: r) = scanP (k - 1) 0 0 r + 1 := by
  refine ⟨?_, ?_⟩
  · rw [gv, if_pos rfl, if_pos ⟨hc, hk⟩]
  · rw [scanP, if_pos rfl, if_pos ⟨hc, hk⟩]
theorem t4_back {a0 a1 a2 a3 : Int} (h0 : 0 ≤ a0 ∧ a0 < 256) (h1 : 0 ≤ a1 ∧ a1 < 256) (h2 : 0 ≤ a2 ∧ a2 < 256) (h3 : 0 ≤ a3 ∧ a3 < 256) : p4R (t4L a0 a1 a2 a3) = (some [a0, a1, a2, a3], 0) := by
  obtain ⟨c0, p0, e0⟩ := decL_ok h0
  obtain ⟨c1, p1, e1⟩ := decL_ok h1
  obtain ⟨c2, p2, e2⟩ := decL_ok h2
  obtain ⟨c3, p3, e3⟩ := decL_ok h3
  have et : t4L a0 a1 a2 a3 = decL a0 ++ (46 :: (decL a1 ++ (46 :: (decL a2 ++ (46 :: (decL a3 ++ [])))))) := by
    unfold t4L; simp only [List.append_assoc, List.cons_append, List.nil_append, List.append_nil]
  obtain ⟨g3, s3⟩ := okR_go _ _ _ 0 _ _ [] e3
  obtain ⟨g2, s2⟩ := okR_go _ _ _ 1 _ _ (46 :: (decL a3 ++ [])) e2
  obtain ⟨g1, s1⟩ := okR_go _ _ _ 2 _ _ (46 :: (decL a2 ++ (46 :: (decL a3 ++ [])))) e1
  obtain ⟨g0, s0⟩ := okR_go _ _ _ 3 _ _ (46 :: (decL a1 ++ (46 :: (decL a2 ++ (46 :: (decL a3 ++ [])))))) e0
  have hg : gv 3 0 0 (t4L a0 a1 a2 a3) = some [a0, a1, a2, a3] := by
    rw [et, g0, (dot_go p0 (by decide)).1, g1, (dot_go p1 (by decide)).1, g2, (dot_go p2 (by decide)).1, g3]
    rw [gv, if_pos ⟨p3, rfl⟩]; rfl
  have hs : scanP 3 0 0 (t4L a0 a1 a2 a3) = (t4L a0 a1 a2 a3).length := by
    rw [et, s0, (dot_go p0 (by decide)).2, s1, (dot_go p1 (by decide)).2, s2, (dot_go p2 (by decide)).2, s3]
    rw [scanP]
    simp only [List.length_append, List.length_cons, List.length_nil]
  unfold p4R
  rw [if_neg (by omega), hg]
def run6 : P6 → List UInt8 → Option P6
  | x, [] => some x
  | x, c :: r => (take6 x c).bind fun y => run6 y r
theorem run6_app : ∀ (l r : List UInt8) (x y : P6), run6 x l = some y → run6 x (l ++ r) = run6 y r
  | [], r, x, y, h => by injection h with h; subst h; rfl
  | c :: l, r, x, y, h => by
    unfold run6 at h
    rw [List.cons_append, run6]
    cases ht : take6 x c with
    | none => rw [ht] at h; cases h
    | some z => rw [ht] at h; exact run6_app l r z y h
theorem run6_scan : ∀ (l : List UInt8) (x y : P6), run6 x l = some y → scan6 x l = (y, l.length)
  | [], x, y, h => by injection h with h; subst h; rfl
  | c :: l, x, y, h => by
    unfold run6 at h
    unfold scan6
    cases ht : take6 x c with
    | none => rw [ht] at h; cases h
    | some z =>
      rw [ht] at h
      have := run6_scan l z y h
      simp only [this, List.length_cons]
theorem run6_back {s : List UInt8} {y : P6} {G : List Int} (h : run6 .init s = some y) (hG : addr6 y = some G) : p6R s = (some G, 0) := by
  unfold p6R
  rw [run6_scan _ _ _ h, if_neg (by simp), hG]
theorem dg_fin : ∀ d : Fin 16, (decide (0 ≤ hx (dg ((d.val : Nat) : Int))) && decide (hx (dg ((d.val : Nat) : Int)) = ((d.val : Nat) : Int)) && decide (dg ((d.val : Nat) : Int) ≠ 58) && decide (dg ((d.val : Nat) : Int) ≠ 46)) = true := by decide +kernel
theorem dg_ok {d : Int} (h : 0 ≤ d ∧ d < 16) : hx (dg d) = d ∧ dg d ≠ 58 ∧ dg d ≠ 46 := by
  have hf := dg_fin ⟨d.toNat, by omega⟩
  have e : ((d.toNat : Nat) : Int) = d := by omega
  simp only [e, Bool.and_eq_true, decide_eq_true_eq] at hf
  exact ⟨hf.1.1.2, hf.1.2, hf.2⟩
def hd (c : UInt8) : Prop := 0 ≤ hx c ∧ c ≠ 58 ∧ c ≠ 46
theorem hexL_ok {n : Int} (h0 : 0 ≤ n) (h1 : n < 65536) : (∀ c ∈ hexL n, hd c) ∧ valH (hexL n) = n := by
  have key : ∀ d : Int, 0 ≤ d ∧ d < 16 → hd (dg d) := fun d h => ⟨by rw [(dg_ok h).1]; exact h.1, (dg_ok h).2.1, (dg_ok h).2.2⟩
  unfold hexL
  split
  · refine ⟨fun c hc => ?_, ?_⟩
    · rw [List.mem_singleton] at hc; subst hc; exact key _ (by omega)
    · show 0 * 16 + hx (dg n) = n
      rw [(dg_ok (by omega)).1]; omega
  · split
    · refine ⟨fun c hc => ?_, ?_⟩
      · simp only [List.mem_cons, List.not_mem_nil, or_false] at hc
        rcases hc with rfl | rfl <;> exact key _ (by omega)
      · show (0 * 16 + hx (dg (n / 16))) * 16 + hx (dg (n % 16)) = n
        rw [(dg_ok (by omega)).1, (dg_ok (by omega)).1]; omega
    · split
      · refine ⟨fun c hc => ?_, ?_⟩
        · simp only [List.mem_cons, List.not_mem_nil, or_false] at hc
          rcases hc with rfl | rfl | rfl <;> exact key _ (by omega)
        · show ((0 * 16 + hx (dg (n / 16 / 16))) * 16 + hx (dg (n / 16 % 16))) * 16 + hx (dg (n % 16)) = n
          rw [(dg_ok (by omega)).1, (dg_ok (by omega)).1, (dg_ok (by omega)).1]; omega
      · refine ⟨fun c hc => ?_, ?_⟩
        · simp only [List.mem_cons, List.not_mem_nil, or_false] at hc
          rcases hc with rfl | rfl | rfl | rfl <;> exact key _ (by omega)
        · show (((0 * 16 + hx (dg (n / 16 / 16 / 16))) * 16 + hx (dg (n / 16 / 16 % 16))) * 16 + hx (dg (n / 16 % 16))) * 16 + hx (dg (n % 16)) = n
          rw [(dg_ok (by omega)).1, (dg_ok (by omega)).1, (dg_ok (by omega)).1, (dg_ok (by omega)).1]; omega
theorem run6_hex {g : List Int} {gap : Nat} (hr : ¬ most gap ≤ g.length) : ∀ (ds part : List UInt8) (co : Bool), (∀ c ∈ ds, hd c) → ds ≠ [] → part.length + ds.length ≤ 4 →
    run6 ⟨g, part, gap, co, false, [], false⟩ ds = some ⟨g, part ++ ds, gap, false, false, [], false⟩
  | [], _, _, _, h, _ => absurd rfl h
  | [c], part, co, hh, _, hl => by
    obtain ⟨a, b, d⟩ := hh c (by simp)
    unfold run6
    rw [t_hex_yes (x := ⟨g, part, gap, co, false, [], false⟩) rfl rfl b d a hr (by show part.length < 4; simp at hl; omega)]
    rfl
  | c :: c2 :: ds, part, co, hh, _, hl => by
    obtain ⟨a, b, d⟩ := hh c (by simp)
    unfold run6
    rw [t_hex_yes (x := ⟨g, part, gap, co, false, [], false⟩) rfl rfl b d a hr (by show part.length < 4; simp at hl; omega)]
    have := run6_hex hr (c2 :: ds) (part ++ [c]) false (fun c' hc' => hh c' (List.mem_cons_of_mem _ hc')) (by simp) (by simp only [List.length_append, List.length_cons, List.length_nil] at hl ⊢; omega)
    rw [List.append_assoc] at this
    exact this
theorem run6_grp {g : List Int} {gap : Nat} {part : List UInt8} {co : Bool} (hp : part ≠ []) (hm : ¬ most gap ≤ g.length + 1) :
    run6 ⟨g, part, gap, co, false, [], false⟩ [58] = some ⟨g ++ [valH part], [], gap, true, false, [], false⟩ := by
  unfold run6
  rw [t_group_yes (x := ⟨g, part, gap, co, false, [], false⟩) rfl rfl hp hm]
  rfl
theorem zrun_zero : ∀ (l : List Int) (t : Nat), t < zrun l → l.getD t 0 = 0
  | [], t, h => by simp [zrun] at h
  | x :: l, t, h => by
    unfold zrun at h
    split at h
    · rename_i hx
      match t with
      | 0 => exact hx
      | t + 1 =>
        have := zrun_zero l t (by omega)
        simpa using this
    · omega
theorem scan_zr (g : List Int) : ∀ (k j : Nat), (scan g k).1 = (j : Int) → (scan g k).2 = (zrun (g.drop j) : Int)
  | 0, j, h => by
    have : (-1 : Int) = (j : Int) := h
    omega
  | k + 1, j, h => by
    unfold scan at h ⊢
    split
    · rename_i hlt
      rw [if_pos hlt] at h
      have : k = j := by have h : (k : Int) = (j : Int) := h; omega
      subst this; rfl
    · rename_i hlt
      rw [if_neg hlt] at h
      exact scan_zr g k j h
def InvA (G : List Int) (fr : Int) (i : Nat) (l : List UInt8) (x : P6) : Prop :=
  (fr < 0 ∨ (i : Int) ≤ fr) ∧ ((i = 0 ∧ l = [] ∧ x = .init) ∨ (0 < i ∧ colon l = false ∧ x = ⟨G.take (i - 1), hexL (G.getD (i - 1) 0), 0, false, false, [], false⟩))
def InvB (G : List Int) (j m i : Nat) (l : List UInt8) (x : P6) : Prop :=
  i = j + m ∧ colon l = true ∧ x = ⟨G.take j, [], j + 1, false, false, [], false⟩
def InvC (G : List Int) (j m i : Nat) (l : List UInt8) (x : P6) : Prop :=
  j + m < i ∧ colon l = false ∧ x = ⟨G.take j ++ (G.drop (j + m)).take (i - 1 - (j + m)), hexL (G.getD (i - 1) 0), j + 1, false, false, [], false⟩
theorem colon_hex {l : List UInt8} {n : Int} (h0 : 0 ≤ n) (h1 : n < 65536) : colon (l ++ hexL n) = false := by
  have hne := hexL_ne n
  unfold colon
  rw [List.getLast?_append]
  cases e : (hexL n).getLast? with
  | none => exact absurd (List.getLast?_eq_none_iff.1 e) hne
  | some c =>
    have := (hexL_ok h0 h1).1 c (List.mem_of_getLast? e)
    simpa using this.2.1
theorem colon_col (l : List UInt8) : colon (l ++ [58, 58]) = true := by
  unfold colon
  rw [List.getLast?_append]; rfl
theorem take_snoc {G : List Int} {i : Nat} (h : i < G.length) : G.take i ++ [G.getD i 0] = G.take (i + 1) := by
  rw [List.take_succ_eq_append_getElem h, List.getD_eq_getElem?_getD, List.getElem?_eq_getElem h]; rfl
section
variable {G : List Int} (hG : G.length = 8) (hv : ∀ i, 0 ≤ G.getD i 0 ∧ G.getD i 0 < 65536)
include hG hv
omit hG in
theorem go_sep {g : List Int} {gap k i : Nat} (hr : ¬ most gap ≤ g.length + 1) : run6 ⟨g, hexL (G.getD k 0), gap, false, false, [], false⟩ (58 :: hexL (G.getD i 0)) = some ⟨g ++ [G.getD k 0], hexL (G.getD i 0), gap, false, false, [], false⟩ := by
  have h1 := run6_app [58] (hexL (G.getD i 0)) _ _ (run6_grp (g := g) (gap := gap) (co := false) (hexL_ne (G.getD k 0)) hr)
  rw [(hexL_ok (hv k).1 (hv k).2).2] at h1
  have h2 := run6_hex (g := g ++ [G.getD k 0]) (gap := gap) (by rw [List.length_append]; exact hr) (hexL (G.getD i 0)) [] true (hexL_ok (hv i).1 (hv i).2).1 (hexL_ne _) (by have := hexL_len (G.getD i 0); show 0 + (hexL (G.getD i 0)).length ≤ 4; omega)
  exact h1.trans h2
theorem tx_back {fr mo : Int} (hs : (fr = -1 ∧ mo = 1) ∨ ∃ j m : Nat, fr = j ∧ mo = m ∧ 2 ≤ m ∧ j + m ≤ 8 ∧ ∀ t, t < m → G.getD (j + t) 0 = 0) :
    ∀ (f i : Nat) (l : List UInt8) (x : P6), 8 < f + i → i ≤ 8 → run6 .init l = some x →
      (InvA G fr i l x ∨ ∃ j m : Nat, fr = j ∧ mo = m ∧ (InvB G j m i l x ∨ InvC G j m i l x)) →
      ∃ y, run6 .init (tx G fr mo f i l) = some y ∧ addr6 y = some G := by
  intro f
  induction f with
  | zero => intro i l x h8 hi _ _; omega
  | succ f ih =>
    intro i l x h8 hi hx hI
    by_cases hi8 : i < 8
    · by_cases hfr : (i : Int) = fr
      · -- the gap
        rw [tx_gap hi8 hfr]
        rcases hs with ⟨e, _⟩ | ⟨j, m, e1, e2, hm, hjm, hz⟩
        · omega
        have hij : i = j := by omega
        rcases hI with ⟨_, hA⟩ | ⟨j', m', e1', e2', hB | hC⟩
        · refine ih (i + mo.toNat) (l ++ [58, 58]) ⟨G.take j, [], j + 1, false, false, [], false⟩ (by omega) (by omega) ?_ (.inr ⟨j, m, e1, e2, .inl ⟨by omega, colon_col l, rfl⟩⟩)
          rw [run6_app l [58, 58] _ _ hx]
          rcases hA with ⟨h0, _, hx0⟩ | ⟨h0, _, hx0⟩
          · subst hx0
            have : j = 0 := by omega
            subst this; rfl
          · subst hx0
            have h1 := run6_app [58] [58] _ _ (run6_grp (g := G.take (i - 1)) (gap := 0) (co := false) (hexL_ne (G.getD (i - 1) 0)) (by rw [List.length_take, hG]; show ¬ 8 ≤ _; omega))
            rw [(hexL_ok (hv (i - 1)).1 (hv (i - 1)).2).2, take_snoc (by omega), show i - 1 + 1 = j by omega] at h1
            refine h1.trans ?_
            unfold run6
            rw [t_gap (x := ⟨G.take j, [], 0, true, false, [], false⟩) rfl rfl rfl rfl rfl]
            show run6 ⟨G.take j, [], (G.take j).length + 1, false, false, [], false⟩ [] = _
            rw [List.length_take, hG, Nat.min_eq_left (by omega)]; rfl
        · have := hB.1; omega
        · have := hC.1; omega
      · rcases hI with ⟨hpos, hA⟩ | ⟨j, m, e1, e2, hB | hC⟩
        · -- ahead of the gap
          rcases hA with ⟨h0, hl, hx0⟩ | ⟨h0, hc, hx0⟩
          · subst h0 hl hx0
            rw [tx_no hi8 hfr (by simp)]
            refine ih 1 _ ⟨[], hexL (G.getD 0 0), 0, false, false, [], false⟩ (by omega) (by omega) ?_ (.inl ⟨by omega, .inr ⟨by omega, colon_hex (hv 0).1 (hv 0).2, rfl⟩⟩)
            exact run6_hex (g := []) (gap := 0) (by decide) (hexL (G.getD 0 0)) [] false (hexL_ok (hv 0).1 (hv 0).2).1 (hexL_ne _) (by have := hexL_len (G.getD 0 0); show 0 + (hexL (G.getD 0 0)).length ≤ 4; omega)
          · subst hx0
            rw [tx_col hi8 hfr h0 hc, List.append_assoc]
            refine ih (i + 1) _ ⟨G.take i, hexL (G.getD i 0), 0, false, false, [], false⟩ (by omega) (by omega) ?_ (.inl ⟨by omega, .inr ⟨by omega, by rw [← List.append_assoc]; exact colon_hex (hv i).1 (hv i).2, rfl⟩⟩)
            rw [run6_app _ _ _ _ hx]
            have := go_sep hv (g := G.take (i - 1)) (gap := 0) (k := i - 1) (i := i) (by rw [List.length_take, hG]; show ¬ 8 ≤ _; omega)
            rw [take_snoc (by omega), show i - 1 + 1 = i by omega] at this
            exact this
        · -- right behind it
          obtain ⟨hi', hc, hx0⟩ := hB
          subst hx0
          have hjm : 2 ≤ m ∧ j + m ≤ 8 := by
            rcases hs with ⟨e, _⟩ | ⟨j', m', e1', e2', hm, hjm, _⟩ <;> omega
          rw [tx_no hi8 hfr (by rw [hc]; simp)]
          refine ih (i + 1) _ ⟨G.take j, hexL (G.getD i 0), j + 1, false, false, [], false⟩ (by omega) (by omega) ?_ (.inr ⟨j, m, e1, e2, .inr ⟨by omega, colon_hex (hv i).1 (hv i).2, ?_⟩⟩)
          · rw [run6_app _ _ _ _ hx]
            exact run6_hex (g := G.take j) (gap := j + 1) (by rw [List.length_take, hG]; show ¬ 7 ≤ _; omega) (hexL (G.getD i 0)) [] false (hexL_ok (hv i).1 (hv i).2).1 (hexL_ne _) (by have := hexL_len (G.getD i 0); show 0 + (hexL (G.getD i 0)).length ≤ 4; omega)
          · rw [show i + 1 - 1 = i by omega, show i - (j + m) = 0 by omega, List.take_zero, List.append_nil]
        · -- further on
          obtain ⟨hi', hc, hx0⟩ := hC
          subst hx0
          have hjm : 2 ≤ m ∧ j + m ≤ 8 := by
            rcases hs with ⟨e, _⟩ | ⟨j', m', e1', e2', hm, hjm, _⟩ <;> omega
          rw [tx_col hi8 hfr (by omega) hc, List.append_assoc]
          have hg : (G.take j ++ (G.drop (j + m)).take (i - 1 - (j + m))) ++ [G.getD (i - 1) 0] = G.take j ++ (G.drop (j + m)).take (i + 1 - 1 - (j + m)) := by
            rw [List.append_assoc]
            congr 1
            rw [show i + 1 - 1 - (j + m) = (i - 1 - (j + m)) + 1 by omega, ← take_snoc (by rw [List.length_drop]; omega)]
            congr 1
            rw [List.getD_eq_getElem?_getD, List.getD_eq_getElem?_getD, List.getElem?_drop, show j + m + (i - 1 - (j + m)) = i - 1 by omega]
          refine ih (i + 1) _ ⟨G.take j ++ (G.drop (j + m)).take (i + 1 - 1 - (j + m)), hexL (G.getD i 0), j + 1, false, false, [], false⟩ (by omega) (by omega) ?_ (.inr ⟨j, m, e1, e2, .inr ⟨by omega, by rw [← List.append_assoc]; exact colon_hex (hv i).1 (hv i).2, by rw [show i + 1 - 1 = i by omega]⟩⟩)
          rw [run6_app _ _ _ _ hx]
          have := go_sep hv (g := G.take j ++ (G.drop (j + m)).take (i - 1 - (j + m))) (gap := j + 1) (k := i - 1) (i := i) (by simp only [List.length_append, List.length_take, List.length_drop, hG]; show ¬ 7 ≤ _; omega)
          rw [hg] at this
          exact this
    · have hi8 : i = 8 := by omega
      subst hi8
      rw [tx_end (Nat.le_refl 8)]
      refine ⟨x, hx, ?_⟩
      rcases hI with ⟨hpos, hA⟩ | ⟨j, m, e1, e2, hB | hC⟩
      · rcases hA with ⟨h0, _⟩ | ⟨_, _, hx0⟩
        · omega
        subst hx0
        have hm := mid6_part (g := G.take (8 - 1)) (gap := 0) (hexL_ne (G.getD (8 - 1) 0))
        have hG' : G.take (8 - 1 + 1) = G := List.take_of_length_le (by omega)
        rw [(hexL_ok (hv (8 - 1)).1 (hv (8 - 1)).2).2, take_snoc (by omega), hG'] at hm
        exact addr6_whole hm hG
      · obtain ⟨hi', _, hx0⟩ := hB
        subst hx0
        obtain ⟨hz, hm⟩ : (∀ t, t < m → G.getD (j + t) 0 = 0) ∧ 2 ≤ m := by
          rcases hs with ⟨e, _⟩ | ⟨j', m', e1', e2', hm, _, hz⟩
          · omega
          · have : j' = j := by omega
            have : m' = m := by omega
            subst_vars; exact ⟨hz, hm⟩
        rw [addr6_gap (mid6_nil (g := G.take j) (gap := j + 1)) (by omega)]
        rw [show j + 1 - 1 = j by omega, List.length_take, hG, Nat.min_eq_left (by omega), List.take_take, Nat.min_self, List.drop_of_length_le (by rw [List.length_take]; omega), List.append_nil]
        congr 1
        apply List.ext_getElem
        · simp only [List.length_append, List.length_take, List.length_replicate, hG]; omega
        · intro n h1 h2
          by_cases hn : n < j
          · rw [List.getElem_append_left (by rw [List.length_take]; omega), List.getElem_take]
          · rw [List.getElem_append_right (by rw [List.length_take]; omega), List.getElem_replicate]
            have := hz (n - j) (by omega)
            rw [show j + (n - j) = n by omega, List.getD_eq_getElem?_getD, List.getElem?_eq_getElem h2] at this
            exact this.symm
      · obtain ⟨hi', _, hx0⟩ := hC
        subst hx0
        obtain ⟨hz, hm, hjm⟩ : (∀ t, t < m → G.getD (j + t) 0 = 0) ∧ 2 ≤ m ∧ j + m ≤ 8 := by
          rcases hs with ⟨e, _⟩ | ⟨j', m', e1', e2', hm, hjm, hz⟩
          · omega
          · have : j' = j := by omega
            have : m' = m := by omega
            subst_vars; exact ⟨hz, hm, hjm⟩
        have hg : (G.take j ++ (G.drop (j + m)).take (8 - 1 - (j + m))) ++ [G.getD 7 0] = G.take j ++ G.drop (j + m) := by
          rw [List.append_assoc]
          congr 1
          have e := take_snoc (G := G.drop (j + m)) (i := 8 - 1 - (j + m)) (by rw [List.length_drop]; omega)
          rw [List.getD_eq_getElem?_getD, List.getElem?_drop, show j + m + (8 - 1 - (j + m)) = 7 by omega, ← List.getD_eq_getElem?_getD] at e
          rw [e, List.take_of_length_le (by rw [List.length_drop]; omega)]
        have hm := mid6_part (g := G.take j ++ (G.drop (j + m)).take (8 - 1 - (j + m))) (gap := j + 1) (hexL_ne (G.getD (8 - 1) 0))
        rw [(hexL_ok (hv (8 - 1)).1 (hv (8 - 1)).2).2, hg] at hm
        rw [addr6_gap hm (by omega), show j + 1 - 1 = j by omega]
        have hl : (G.take j).length = j := by rw [List.length_take]; omega
        have hd0 : (G.take j).drop j = [] := List.drop_of_length_le (by omega)
        rw [List.take_append_of_le_length (by omega), List.take_take, Nat.min_self, List.drop_append_of_le_length (by omega), hd0, List.nil_append]
        congr 1
        apply List.ext_getElem
        · simp only [List.length_append, List.length_take, List.length_replicate, List.length_drop, hG]; omega
        · intro n h1 h2
          by_cases hn : n < j
          · rw [List.getElem_append_left (by simp only [List.length_append, List.length_take, List.length_replicate]; omega), List.getElem_append_left (by omega), List.getElem_take]
          · by_cases hn2 : n < j + m
            · rw [List.getElem_append_left (by simp only [List.length_append, List.length_take, List.length_replicate, List.length_drop, hG]; omega), List.getElem_append_right (by omega), List.getElem_replicate]
              have := hz (n - j) (by omega)
              rw [show j + (n - j) = n by omega, List.getD_eq_getElem?_getD, List.getElem?_eq_getElem h2] at this
              exact this.symm
            · rw [List.getElem_append_right (by simp only [List.length_append, List.length_take, List.length_replicate, List.length_drop, hG]; omega), List.getElem_drop]
              congr 1
              simp only [List.length_append, List.length_take, List.length_replicate, List.length_drop, hG]
              omega
theorem tx6_back : p6R (tx G (scan G 8).1 (scan G 8).2 9 0 []) = (some G, 0) := by
  have hs : ((scan G 8).1 = -1 ∧ (scan G 8).2 = 1) ∨ ∃ j m : Nat, (scan G 8).1 = j ∧ (scan G 8).2 = m ∧ 2 ≤ m ∧ j + m ≤ 8 ∧ ∀ t, t < m → G.getD (j + t) 0 = 0 := by
    rcases scan_ok G 8 (by omega) with h | ⟨j, m, h1, h2, h3, h4, h5⟩
    · exact .inl h
    · refine .inr ⟨j, m, h1, h2, h4, by omega, fun t ht => ?_⟩
      have hz := scan_zr G 8 j h1
      have hm : m = zrun (G.drop j) := by omega
      have := zrun_zero (G.drop j) t (by omega)
      rw [List.getD_eq_getElem?_getD, List.getElem?_drop, ← List.getD_eq_getElem?_getD] at this
      exact this
  obtain ⟨y, h1, h2⟩ := tx_back hG hv hs 9 0 [] .init (by omega) (by omega) rfl (.inl ⟨by rcases hs with h | ⟨j, m, h, _⟩ <;> omega, .inl ⟨rfl, rfl, rfl⟩⟩)
  exact run6_back h1 h2
end
end Go.Proofs.YtopladipgobpjaaDoor
