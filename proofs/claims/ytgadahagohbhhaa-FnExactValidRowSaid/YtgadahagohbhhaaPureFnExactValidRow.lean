/- Proved: the law FnExactValidRow answers true for every slice of ints (up to the row's own bounds): impl.ValidRow and spec.ValidRow agree, and the argument is left as it was. No condition. -/
import Derived.Test.YtgadahagohbhhaaPFnExactValidRowx1
namespace Go.Proofs.Ytgadahagohbhhaa.Pure
open Go.RowKit Go.Proofs.Ytgadahagohbhhaa.PFnExactValidRow Go.Proofs.YtgadahagohbhhaaW.PrintWords Go.Proofs.YtgadahagohbhhaaW.PrintLast
set_option linter.unusedVariables false
set_option linter.unusedSimpArgs false
/-- The pure statement of the law FnExactValidRow. -/
def FnExactValidRow_pure : Prop := ∀ (l0 : List Int), l0.length ≤ maxLen → l0.length * 8 ≤ 140737488351232 → (∀ x ∈ l0, (Lit.int .i64 x).wf = true) → ∃ k, laws_FnExactValidRow.f k l0 = some true
theorem ev_if {α : Type} {c : Prop} [Decidable c] {a b : Nat → Option α} {r : α} (h : c) (e : Ev a r) : Ev (fun k => if c then a k else b k) r := Ev.congr (fun _ => if_pos h) e
theorem ev_else {α : Type} {c : Prop} [Decidable c] {a b : Nat → Option α} {r : α} (h : ¬ c) (e : Ev b r) : Ev (fun k => if c then a k else b k) r := Ev.congr (fun _ => if_neg h) e
theorem ev_bind0 {α β : Type} {g : Option α} {f : Nat → α → Option β} {a : α} {r : β} (h : g = some a) (e : Ev (fun n => f n a) r) : Ev (fun n => g.bind (f n)) r := Ev.congr (fun _ => by rw [h]; rfl) e
theorem ev_of {α : Type} {g : Option α} {r : α} (h : g = some r) : Ev (fun _ => g) r := ⟨0, fun _ _ => h⟩
theorem ev_to {α : Type} {g : Nat → Option α} {r r' : α} (e : Ev g r) (h : r = r') : Ev g r' := h ▸ e
theorem w64 {n : Int} (h0 : -9223372036854775808 ≤ n) (h1 : n ≤ 9223372036854775807) : wrap64 n = n := by unfold wrap64; omega
theorem w64s {i n : Nat} (h : i < n) (hn : n ≤ 140737488355328) : wrap64 ((i : Int) + 1) = ((i + 1 : Nat) : Int) := by unfold wrap64; omega
theorem rd_at (l : List Int) (i : Nat) (h : i < l.length) : rd l (i : Int) = l[i] := by
  unfold rd
  rw [Int.toNat_natCast, List.getD_eq_getElem?_getD, List.getElem?_eq_getElem h]
  rfl
theorem drop_at {α : Type} (l : List α) (i : Nat) (h : i < l.length) : l.drop i = l[i] :: l.drop (i + 1) := List.drop_eq_getElem_cons h
theorem lt_cast {i n : Nat} (h : i < n) : (i : Int) < (n : Int) := by omega
theorem drop_eq {α : Type} (a b : List α) (i : Nat) (h : i < a.length) (h2 : i < b.length) : (a.drop i = b.drop i) ↔ (a[i] = b[i] ∧ a.drop (i + 1) = b.drop (i + 1)) := by
  rw [drop_at a i h, drop_at b i h2, List.cons.injEq]
theorem drop_all {α : Type} (l : List α) (i : Nat) (h : i < l.length) (p : α → Bool) : (l.drop i).all p = (p l[i] && (l.drop (i + 1)).all p) := by
  rw [drop_at l i h, List.all_cons]
theorem drop_end {α : Type} (l : List α) (i : Nat) (h : l.length ≤ i) : l.drop i = [] := List.drop_of_length_le h
theorem drop_dec {α : Type} [DecidableEq α] (a b : List α) (i : Nat) (h : i < a.length) (h2 : i < b.length) : decide (a.drop i = b.drop i) = (decide (a[i] = b[i]) && decide (a.drop (i + 1) = b.drop (i + 1))) := by
  rw [← Bool.decide_and]
  exact decide_eq_decide.mpr (drop_eq a b i h h2)
theorem toIntS_l (xs : List Int) (hn : xs.length ≤ 140737488355328) (d : Nat) : ∀ (i : Nat) (out : List Int), i + d = xs.length → out.length = xs.length → Ev (fun k => laws_toIntS.l0 k xs out (i : Int)) (out.take i ++ xs.drop i) := by
  induction d with
  | zero =>
    intro i out hi ho
    refine Ev.step (fun k => by rw [laws_toIntS.l0]) ?_
    refine ev_else (by omega) (ev_of ?_)
    rw [List.drop_of_length_le (by omega), List.take_of_length_le (by omega), List.append_nil]
  | succ d ih =>
    intro i out hi ho
    have hlt : i < xs.length := by omega
    refine Ev.step (fun k => by rw [laws_toIntS.l0]) ?_
    refine ev_if (by omega) (ev_if (by omega) (ev_if (by omega) ?_))
    rw [w64s hlt hn, rd_at xs i hlt, Int.toNat_natCast]
    refine ev_to (ih (i + 1) _ (by omega) (by rw [List.length_set]; exact ho)) ?_
    rw [drop_at xs i hlt, List.take_succ_eq_append_getElem (by rw [List.length_set]; omega), List.getElem_set_self, List.take_set_of_le (Nat.le_refl _), List.append_assoc]
    rfl
theorem toIntS_ev (xs : List Int) (hn : xs.length ≤ 35184372088832) : Ev (fun k => laws_toIntS.f k xs) xs := by
  unfold laws_toIntS.f
  refine ev_if (by omega) (ev_if (by omega) ?_)
  have h := toIntS_l xs (by omega) xs.length 0 (List.replicate ((xs.length : Int)).toNat 0) (by omega) (by simp)
  simpa using h
theorem eqIntS_l (a b : List Int) (hl : a.length = b.length) (hn : a.length ≤ 140737488355328) (d : Nat) : ∀ (i : Nat), i + d = a.length → Ev (fun k => laws_eqIntS.l0 k a b (i : Int)) (decide (a.drop i = b.drop i)) := by
  induction d with
  | zero =>
    intro i hi
    refine Ev.step (fun k => by rw [laws_eqIntS.l0]) ?_
    refine ev_else (by omega) (ev_of ?_)
    rw [List.drop_of_length_le (by omega), List.drop_of_length_le (by omega)]
    simp
  | succ d ih =>
    intro i hi
    have hlt : i < a.length := by omega
    have hlt2 : i < b.length := by omega
    refine Ev.step (fun k => by rw [laws_eqIntS.l0]) ?_
    refine ev_if (by omega) (ev_if (by omega) (ev_if (by omega) ?_))
    rw [rd_at a i hlt, rd_at b i hlt2, drop_dec a b i hlt hlt2]
    by_cases he : a[i] = b[i]
    · refine ev_if he ?_
      rw [w64s hlt hn]
      refine ev_to (ih (i + 1) (by omega)) ?_
      simp [he]
    · refine ev_else he (ev_of ?_)
      simp [he]
theorem eqIntS_ev (a b : List Int) (hn : a.length ≤ 140737488355328) : Ev (fun k => laws_eqIntS.f k a b) (decide (a = b)) := by
  unfold laws_eqIntS.f
  by_cases hl : a.length = b.length
  · refine ev_if (by omega) ?_
    have h := eqIntS_l a b hl hn a.length 0 (by omega)
    simpa using h
  · refine ev_else (by omega) (ev_of ?_)
    have : a ≠ b := fun h => hl (by rw [h])
    simp [this]
def okv (n : Int) : Bool := decide (-9999 ≤ n ∧ n ≤ 9999)
def vrow (l : List Int) : Bool := l.all okv && decide (1 ≤ (l.length : Int) ∧ (l.length : Int) ≤ 6)
theorem inRange_eq (a b c : Int) : spec_inRange.f a b c = some (decide (b ≤ a ∧ a ≤ c)) := by
  unfold spec_inRange.f
  by_cases h1 : b ≤ a <;> by_cases h2 : a ≤ c <;> simp [h1, h2]
theorem spec_validRow_l (xs : List Int) (hn : xs.length ≤ 140737488355328) (d : Nat) : ∀ (i : Nat), i + d = xs.length → Ev (fun k => spec_validRow.l0 k xs (i : Int)) ((xs.drop i).all okv && decide (1 ≤ (xs.length : Int) ∧ (xs.length : Int) ≤ 6)) := by
  induction d with
  | zero =>
    intro i hi
    refine Ev.step (fun k => by rw [spec_validRow.l0]) ?_
    refine ev_else (by omega) (ev_bind0 (inRange_eq _ _ _) (ev_of ?_))
    rw [List.drop_of_length_le (by omega)]
    simp
  | succ d ih =>
    intro i hi
    have hlt : i < xs.length := by omega
    refine Ev.step (fun k => by rw [spec_validRow.l0]) ?_
    refine ev_if (by omega) (ev_if (by omega) (ev_bind0 (inRange_eq _ _ _) ?_))
    rw [rd_at xs i hlt, drop_all xs i hlt]
    by_cases he : -9999 ≤ xs[i] ∧ xs[i] ≤ 9999
    · refine ev_if (by simpa using he) ?_
      rw [w64s hlt hn]
      refine ev_to (ih (i + 1) (by omega)) ?_
      simp [okv, he]
    · refine ev_else (by simpa using he) (ev_of ?_)
      simp only [okv, he, decide_false, Bool.false_and]
theorem spec_validRow_ev (xs : List Int) (hn : xs.length ≤ 140737488355328) : Ev (fun k => spec_validRow.f k xs) (vrow xs) := by
  unfold spec_validRow.f
  have h := spec_validRow_l xs hn xs.length 0 (by omega)
  exact h
theorem spec_ValidRow_ev (xs : List Int) (hn : xs.length ≤ 140737488355328) : Ev (fun k => spec_ValidRow.f k xs) (vrow xs) := by
  unfold spec_ValidRow.f
  exact Ev.bind (spec_validRow_ev xs hn) (ev_of rfl)
theorem impl_ValidRow_l (xs : List Int) (hn : xs.length ≤ 140737488355328) (d : Nat) : ∀ (i : Nat), i + d = xs.length → Ev (fun k => impl_ValidRow.l0 k xs xs (xs.length : Int) (i : Int)) ((xs.drop i).all okv && decide (1 ≤ (xs.length : Int) ∧ (xs.length : Int) ≤ 6)) := by
  induction d with
  | zero =>
    intro i hi
    refine Ev.step (fun k => by rw [impl_ValidRow.l0]) ?_
    refine ev_else (by omega) ?_
    rw [List.drop_of_length_le (by omega)]
    by_cases h1 : (xs.length : Int) ≥ 1
    · exact ev_if h1 (ev_of (by simp only [List.all_nil, Bool.true_and]; exact congrArg some (decide_eq_decide.mpr ⟨fun h => ⟨h1, h⟩, fun h => h.2⟩)))
    · exact ev_else h1 (ev_of (by simp; omega))
  | succ d ih =>
    intro i hi
    have hlt : i < xs.length := by omega
    refine Ev.step (fun k => by rw [impl_ValidRow.l0]) ?_
    refine ev_if (by omega) (ev_if (by omega) (ev_if (by omega) ?_))
    rw [rd_at xs i hlt, drop_all xs i hlt]
    by_cases h1 : xs[i] < -9999
    · refine ev_if h1 (ev_of ?_)
      have : ¬ (-9999 ≤ xs[i] ∧ xs[i] ≤ 9999) := by omega
      simp only [okv, this, decide_false, Bool.false_and]
    · refine ev_else h1 ?_
      by_cases h2 : xs[i] > 9999
      · refine ev_if h2 (ev_of ?_)
        have : ¬ (-9999 ≤ xs[i] ∧ xs[i] ≤ 9999) := by omega
        simp only [okv, this, decide_false, Bool.false_and]
      · refine ev_else h2 ?_
        rw [w64s hlt hn]
        refine ev_to (ih (i + 1) (by omega)) ?_
        have : -9999 ≤ xs[i] ∧ xs[i] ≤ 9999 := by omega
        simp only [okv, this, and_self, decide_true, Bool.true_and]
theorem impl_ValidRow_ev (xs : List Int) (hn : xs.length ≤ 140737488355328) : Ev (fun k => impl_ValidRow.f k xs) (vrow xs) := by
  unfold impl_ValidRow.f
  have h := impl_ValidRow_l xs hn xs.length 0 (by omega)
  exact h
theorem FnExactValidRow : FnExactValidRow_pure := by
  intro l0 _ _ _
  refine Ev.rounds (g := fun k => laws_FnExactValidRow.f k l0) ?_
  unfold laws_FnExactValidRow.f
  by_cases hb : (l0.length : Int) > 1048576
  · exact ev_if hb (ev_of rfl)
  · refine ev_else hb ?_
    refine Ev.bind (toIntS_ev l0 (by omega)) ?_
    refine Ev.bind (spec_ValidRow_ev l0 (by omega)) ?_
    refine Ev.bind (toIntS_ev l0 (by omega)) ?_
    refine Ev.bind (impl_ValidRow_ev l0 (by omega)) ?_
    refine ev_else (by simp) ?_
    refine Ev.bind (toIntS_ev l0 (by omega)) ?_
    refine Ev.bind (eqIntS_ev l0 l0 (by omega)) ?_
    exact ev_if (by simp) (ev_of rfl)
end Go.Proofs.Ytgadahagohbhhaa.Pure
