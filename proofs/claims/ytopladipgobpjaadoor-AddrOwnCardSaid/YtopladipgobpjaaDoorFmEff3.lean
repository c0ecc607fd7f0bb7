/-
  FmEff3: append to a new array; append on abstract values; the other effects; all under one name.
-/
import Derived.Test.YtopladipgobpjaaDoorFmEff2
import Derived.Laws.Append
namespace Go.Fm

variable {P : Program} {F : Nat → Nat → Prop} {w0 w : World} {j : Inj} {h : AHeap} {ρ : Operand → Option Value} {ρ' : Operand → Value}

/-- the machine's append: into a new array -/
theorem run_append_new {t ty xt el : TypeId} {i : TypeInfo} (hu : P.underlying t = some (.slice el)) (hi : P.info? el = some i) {base : Option Addr} {len cap n : Nat} {x' : Value}
    {new' old' : List Value} (hT : ∀ k, Taken P { w with drawn := w.drawn + k } el xt i.size n x' new') (hbig : cap < len + n) (hlc : len ≤ cap) (hb : (len + n) * i.bytes ≤ 2 ^ 46) (hmax : len + n < 2 ^ 60)
    {z : Value} (hz : ∀ w, (zeroValue el).run P w = .ok z w) (hzs : z.cells.size = i.size)
    (hold : (Builtin.firstCells i.size len (.slice base len cap)).run P { w with drawn := w.drawn + 1 } = .ok old'.toArray { w with drawn := w.drawn + 1 }) :
    ∃ (q : Nat) (rest : List Value), len + n ≤ q ∧ rest.length = (q - (len + n)) * i.size ∧
      (Builtin.append_ #[t, xt] ty #[.slice base len cap, x']).run P w =
        .ok (.slice (some ⟨w.heap.size, 0, none⟩) (len + n) q) { w with heap := w.heap.push (.cells (old' ++ new' ++ rest).toArray el), drawn := w.drawn + 1 } := by
  have hs : aSize P el = some i.size := by simp [aSize, hi]
  have hti : ∀ w, (typeInfo el).run P w = .ok i w := fun w => by simp [typeInfo, hi]
  obtain ⟨q, hq⟩ : ∃ q, q = (Question.appendCap (len + n) cap el).cut (w.tape w.drawn (.appendCap (len + n) cap el)) := ⟨_, rfl⟩
  have hqge : len + n ≤ q := by rw [hq]; simp [Question.cut]
  refine ⟨q, (Builtin.zeroCells z.cells (q - (len + n))).toList, hqge, by simp [Builtin.zeroCells, hzs], ?_⟩
  have hch : (choose (.appendCap (len + n) cap el)).run P w = .ok q { w with drawn := w.drawn + 1 } := by
    rw [hq]; simp [choose, Sem.run, Question.forced]
  have hfit : ¬ (len + n ≤ cap) := by omega
  have hmx : ∀ (p : Prop), ¬ (((len + n : Nat) : Int) > IntKind.i64.max ∧ p) := by
    intro p hp
    have : IntKind.i64.max = 9223372036854775807 := by decide
    have := hp.1
    omega
  have hnc : ¬ (Builtin.nextslicecap (len + n) cap * i.bytes > 2 ^ 48) := by
    have h1 := nextslicecap_le hbig
    have h2 : Builtin.nextslicecap (len + n) cap * i.bytes ≤ 2 * (len + n) * i.bytes := Nat.mul_le_mul_right _ h1
    rw [Nat.mul_assoc] at h2
    omega
  have hroom : ∀ (m : Nat) (w : World), (askRoom m).run P w = .ok () w := by
    intro m w; unfold askRoom; split
    · simp [mark, Sem.run]
    · simp
  have hT0 := hT 0
  obtain ⟨d, hd, hcase⟩ := hT0
  obtain ⟨d1, hd1, hcase1⟩ := hT 1
  rw [hd] at hd1; injection hd1 with hd1; subst hd1
  simp only [Nat.add_zero] at hcase
  have harr : old'.toArray ++ new'.toArray ++ Builtin.zeroCells z.cells (q - (len + n)) = (old' ++ new' ++ (Builtin.zeroCells z.cells (q - (len + n))).toList).toArray := by
    apply Array.ext'; simp
  rcases hcase with ⟨h0, h1, _⟩ | ⟨h0, k, z1, hx, hn, _⟩
  · rcases hcase1 with ⟨_, _, h2⟩ | ⟨hbad, _⟩
    · have hd0 : d ≠ .int .i8 := by intro e; subst e; simp [isIntD] at h0
      cases d with
      | int k => simp [isIntD] at h0
      | _ =>
        simp only [Builtin.append_, List.getElem?_toArray, List.getElem?_cons_zero, List.getElem?_cons_succ, Sem.run_bind, run_underlying hu, Result.andThen_ok, run_sizeOf' hs, run_underlying hd, Sem.run_pure, h1,
          Bool.false_eq_true, if_false, if_neg hfit, hti, if_neg (hmx _), if_neg hnc, hch, hroom, hold, Bool.not_false, if_true, h2, hz, harr, run_newRow]
    · rw [h0] at hbad; simp at hbad
  · rcases hcase1 with ⟨hbad, _⟩ | ⟨_, k', z', hx', hn', h2, h3, h4, h5⟩
    · rw [h0] at hbad; simp at hbad
    · subst hx
      have hzz : z' = z := by have := (h2 w).symm.trans (hz w); injection this
      subst hzz
      have hw : IntKind.i64.wrap (n : Int) = n := by simp [IntKind.wrap, IntKind.bits, IntKind.signed]; omega
      have hnn : ¬ ((n : Int) < 0) := by omega
      have hb2 : ¬ ((n : Int) * i.bytes > 2 ^ 48) := by
        have : (n : Int) * i.bytes ≤ ((len + n : Nat) : Int) * i.bytes := Int.mul_le_mul_of_nonneg_right (by omega) (by omega)
        have h3 : (((len + n) * i.bytes : Nat) : Int) ≤ 2 ^ 46 := by exact_mod_cast hb
        push_cast at h3
        push_cast at this
        omega
      cases d with
      | int kk =>
        by_cases hz0 : n * i.size = 0
        · have hnew := h4 hz0
          subst hnew
          simp only [Builtin.append_, List.getElem?_toArray, List.getElem?_cons_zero, List.getElem?_cons_succ, Sem.run_bind, run_underlying hu, Result.andThen_ok, run_sizeOf' hs, run_underlying hd,
            if_true, asInt, asIntOf, Sem.run_pure, hw, if_neg hnn, hti, if_neg hb2, Int.toNat_natCast, if_neg hfit, if_neg (hmx _), if_neg hnc, hch, hroom, hold, Bool.not_true, Bool.false_eq_true, if_false, if_pos hz0, hz, harr, run_newRow]
        · simp only [Builtin.append_, List.getElem?_toArray, List.getElem?_cons_zero, List.getElem?_cons_succ, Sem.run_bind, run_underlying hu, Result.andThen_ok, run_sizeOf' hs, run_underlying hd,
            if_true, asInt, asIntOf, Sem.run_pure, hw, if_neg hnn, hti, if_neg hb2, Int.toNat_natCast, if_neg hfit, if_neg (hmx _), if_neg hnc, hch, hroom, hold, Bool.not_true, Bool.false_eq_true, if_false, if_neg hz0, h2, h5, harr, run_newRow]
      | _ => simp [isIntD] at h0

theorem Taken.tape {el xt : TypeId} {size n : Nat} {x x' : Value} {new : List Value} (S : Sim F w0 j h w) (hx : VR j x x') (e : aNew P el size xt x h = some (n, new)) :
    ∃ new', LR j new new' ∧ ∀ k, Taken P { w with drawn := w.drawn + k } el xt size n x' new' := by
  obtain ⟨new', h1, h2⟩ := aNew_sim (P := P) S hx e
  refine ⟨new', h1, fun k => ?_⟩
  obtain ⟨d, hd, hcase⟩ := h2
  refine ⟨d, hd, ?_⟩
  rcases hcase with ⟨a, b, c⟩ | ⟨a, b⟩
  · obtain ⟨new2, g1, g2⟩ := aNew_sim (P := P) (S.heap_eq (w' := { w with drawn := w.drawn + k }) ⟨rfl, rfl, rfl⟩ rfl) hx e
    obtain ⟨d2, hd2, hcase2⟩ := g2
    rw [hd] at hd2; injection hd2 with hd2; subst hd2
    rcases hcase2 with ⟨_, b2, c2⟩ | ⟨a2, _⟩
    · refine .inl ⟨a, b2, ?_⟩
      -- the same cells: what is read hangs on the heap alone
      have hsame : (Builtin.firstCells size n x').run P { w with drawn := w.drawn + k } = .ok new'.toArray { w with drawn := w.drawn + k } := by
        have key : ∀ (ad : Addr) (m : Nat) (l : Array Value), (loadCells ad m).run P w = .ok l w → (loadCells ad m).run P { w with drawn := w.drawn + k } = .ok l { w with drawn := w.drawn + k } := by
          intro ad m l hl
          have gen : ∀ (m i : Nat) (acc l : Array Value), (loadCellsFrom ad i m acc).run P w = .ok l w → (loadCellsFrom ad i m acc).run P { w with drawn := w.drawn + k } = .ok l { w with drawn := w.drawn + k } := by
            intro m; induction m with
            | zero => intro i acc l hl; simp [loadCellsFrom] at hl ⊢; exact hl
            | succ m ih =>
              intro i acc l hl
              simp only [loadCellsFrom, Sem.run_bind, run_load] at hl ⊢
              have hc : ({ w with drawn := w.drawn + k } : World).cell? (ad.add i) = w.cell? (ad.add i) := rfl
              rw [hc]
              cases hcc : w.cell? (ad.add i) with
              | some v => rw [hcc] at hl; simp only [Result.andThen_ok] at hl ⊢; exact ih _ _ _ hl
              | none =>
                rw [hcc] at hl
                have hfar : ({ w with drawn := w.drawn + k } : World).farLoad P (ad.add i) (Mode.plain == Mode.atomic) = w.farLoad P (ad.add i) (Mode.plain == Mode.atomic) := rfl
                rw [hfar]
                revert hl
                cases w.farLoad P (ad.add i) (Mode.plain == Mode.atomic) with
                | ok p => intro hl; simp only [Result.andThen_ok] at hl ⊢; exact ih _ _ _ hl
                | error e => intro hl; simp [Result.andThen] at hl
          exact gen m 0 #[] l hl
        revert c
        cases x' with
        | slice a0 l0 c0 =>
          cases a0 with
          | none => intro c; simpa [Builtin.firstCells] using c
          | some ad => intro c; exact key ad _ _ c
        | string s => intro c; simp [Builtin.firstCells] at c ⊢; exact c
        | _ => intro c; simp [Builtin.firstCells, stuck] at c
      exact hsame
    · rw [a] at a2; simp at a2
  · exact .inr ⟨a, b⟩

end Go.Fm
