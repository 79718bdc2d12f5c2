/- Proved: the law FnExactProjectRow answers true for every row and columns: impl.ProjectRow and spec.ProjectRow agree, the arguments are left as they were, and the result shares no memory. No condition. -/
import Derived.Test.YtbohfeifkkigbaaZFnExactProjectRowx3
namespace Go.Proofs.Ytbohfeifkkigbaa.Pure
open Go.RowKit Go.Proofs.Ytbohfeifkkigbaa.PFnExactProjectRow Go.Proofs.YtbohfeifkkigbaaW.PrintWords Go.Proofs.YtbohfeifkkigbaaW.PrintLast
set_option linter.unusedVariables false
set_option linter.unusedSimpArgs false
/-- The pure statement of the law FnExactProjectRow. -/
def FnExactProjectRow_pure : Prop := ∀ (l0 : List Int) (l1 : List Int), l0.length ≤ maxLen → l0.length * 8 ≤ 140737488351232 → (∀ x ∈ l0, (Lit.int .i64 x).wf = true) → l1.length ≤ maxLen → l1.length * 8 ≤ 140737488351232 → (∀ x ∈ l1, (Lit.int .i64 x).wf = true) → ∃ k, laws_FnExactProjectRow.f k l0 l1 = some true
theorem ev_if {α : Type} {c : Prop} [Decidable c] {a b : Nat → Option α} {r : α} (h : c) (e : Ev a r) : Ev (fun k => if c then a k else b k) r := Ev.congr (fun _ => if_pos h) e
theorem ev_else {α : Type} {c : Prop} [Decidable c] {a b : Nat → Option α} {r : α} (h : ¬ c) (e : Ev b r) : Ev (fun k => if c then a k else b k) r := Ev.congr (fun _ => if_neg h) e
theorem ev_bind0 {α β : Type} {g : Option α} {f : Nat → α → Option β} {a : α} {r : β} (h : g = some a) (e : Ev (fun n => f n a) r) : Ev (fun n => g.bind (f n)) r := Ev.congr (fun _ => by rw [h]; rfl) e
theorem ev_of {α : Type} {g : Option α} {r : α} (h : g = some r) : Ev (fun _ => g) r := ⟨0, fun _ _ => h⟩
theorem ev_to {α : Type} {g : Nat → Option α} {r r' : α} (e : Ev g r) (h : r = r') : Ev g r' := h ▸ e
theorem w64 {n : Int} (h0 : -9223372036854775808 ≤ n) (h1 : n ≤ 9223372036854775807) : wrap64 n = n := by unfold wrap64; omega
theorem w64s {i n : Nat} (h : i < n) (hn : n ≤ 140737488355328) : wrap64 ((i : Int) + 1) = ((i + 1 : Nat) : Int) := by unfold wrap64; omega
theorem rd_at (l : List Int) (i : Nat) (h : i < l.length) : rd l (i : Int) = l[i] := by
  unfold rd
  rw [Int.toNat_natCast, List.getD_eq_getElem?_getD, List.getElem?_eq_getElem h]
  rfl
theorem drop_at {α : Type} (l : List α) (i : Nat) (h : i < l.length) : l.drop i = l[i] :: l.drop (i + 1) := List.drop_eq_getElem_cons h
theorem lt_cast {i n : Nat} (h : i < n) : (i : Int) < (n : Int) := by omega
theorem drop_eq {α : Type} (a b : List α) (i : Nat) (h : i < a.length) (h2 : i < b.length) : (a.drop i = b.drop i) ↔ (a[i] = b[i] ∧ a.drop (i + 1) = b.drop (i + 1)) := by
  rw [drop_at a i h, drop_at b i h2, List.cons.injEq]
theorem drop_all {α : Type} (l : List α) (i : Nat) (h : i < l.length) (p : α → Bool) : (l.drop i).all p = (p l[i] && (l.drop (i + 1)).all p) := by
  rw [drop_at l i h, List.all_cons]
theorem drop_end {α : Type} (l : List α) (i : Nat) (h : l.length ≤ i) : l.drop i = [] := List.drop_of_length_le h
theorem drop_dec {α : Type} [DecidableEq α] (a b : List α) (i : Nat) (h : i < a.length) (h2 : i < b.length) : decide (a.drop i = b.drop i) = (decide (a[i] = b[i]) && decide (a.drop (i + 1) = b.drop (i + 1))) := by
  rw [← Bool.decide_and]
  exact decide_eq_decide.mpr (drop_eq a b i h h2)
theorem toIntS_l (xs : List Int) (hn : xs.length ≤ 140737488355328) (d : Nat) : ∀ (i : Nat) (out : List Int), i + d = xs.length → out.length = xs.length → Ev (fun k => laws_toIntS.l0 k xs out (i : Int)) (out.take i ++ xs.drop i) := by
  induction d with
  | zero =>
    intro i out hi ho
    refine Ev.step (fun k => by rw [laws_toIntS.l0]) ?_
    refine ev_else (by omega) (ev_of ?_)
    rw [List.drop_of_length_le (by omega), List.take_of_length_le (by omega), List.append_nil]
  | succ d ih =>
    intro i out hi ho
    have hlt : i < xs.length := by omega
    refine Ev.step (fun k => by rw [laws_toIntS.l0]) ?_
    refine ev_if (by omega) (ev_if (by omega) (ev_if (by omega) ?_))
    rw [w64s hlt hn, rd_at xs i hlt, Int.toNat_natCast]
    refine ev_to (ih (i + 1) _ (by omega) (by rw [List.length_set]; exact ho)) ?_
    rw [drop_at xs i hlt, List.take_succ_eq_append_getElem (by rw [List.length_set]; omega), List.getElem_set_self, List.take_set_of_le (Nat.le_refl _), List.append_assoc]
    rfl
theorem toIntS_ev (xs : List Int) (hn : xs.length ≤ 35184372088832) : Ev (fun k => laws_toIntS.f k xs) xs := by
  unfold laws_toIntS.f
  refine ev_if (by omega) (ev_if (by omega) ?_)
  have h := toIntS_l xs (by omega) xs.length 0 (List.replicate ((xs.length : Int)).toNat 0) (by omega) (by simp)
  simpa using h
theorem eqIntS_l (a b : List Int) (hl : a.length = b.length) (hn : a.length ≤ 140737488355328) (d : Nat) : ∀ (i : Nat), i + d = a.length → Ev (fun k => laws_eqIntS.l0 k a b (i : Int)) (decide (a.drop i = b.drop i)) := by
  induction d with
  | zero =>
    intro i hi
    refine Ev.step (fun k => by rw [laws_eqIntS.l0]) ?_
    refine ev_else (by omega) (ev_of ?_)
    rw [List.drop_of_length_le (by omega), List.drop_of_length_le (by omega)]
    simp
  | succ d ih =>
    intro i hi
    have hlt : i < a.length := by omega
    have hlt2 : i < b.length := by omega
    refine Ev.step (fun k => by rw [laws_eqIntS.l0]) ?_
    refine ev_if (by omega) (ev_if (by omega) (ev_if (by omega) ?_))
    rw [rd_at a i hlt, rd_at b i hlt2, drop_dec a b i hlt hlt2]
    by_cases he : a[i] = b[i]
    · refine ev_if he ?_
      rw [w64s hlt hn]
      refine ev_to (ih (i + 1) (by omega)) ?_
      simp [he]
    · refine ev_else he (ev_of ?_)
      simp [he]
theorem eqIntS_ev (a b : List Int) (hn : a.length ≤ 140737488355328) : Ev (fun k => laws_eqIntS.f k a b) (decide (a = b)) := by
  unfold laws_eqIntS.f
  by_cases hl : a.length = b.length
  · refine ev_if (by omega) ?_
    have h := eqIntS_l a b hl hn a.length 0 (by omega)
    simpa using h
  · refine ev_else (by omega) (ev_of ?_)
    have : a ≠ b := fun h => hl (by rw [h])
    simp [this]
def okv (n : Int) : Bool := decide (-9999 ≤ n ∧ n ≤ 9999)
def vrow (l : List Int) : Bool := l.all okv && decide (1 ≤ (l.length : Int) ∧ (l.length : Int) ≤ 6)
theorem inRange_eq (a b c : Int) : spec_inRange.f a b c = some (decide (b ≤ a ∧ a ≤ c)) := by
  unfold spec_inRange.f
  by_cases h1 : b ≤ a <;> by_cases h2 : a ≤ c <;> simp [h1, h2]
theorem spec_validRow_l (xs : List Int) (hn : xs.length ≤ 140737488355328) (d : Nat) : ∀ (i : Nat), i + d = xs.length → Ev (fun k => spec_validRow.l0 k xs (i : Int)) ((xs.drop i).all okv && decide (1 ≤ (xs.length : Int) ∧ (xs.length : Int) ≤ 6)) := by
  induction d with
  | zero =>
    intro i hi
    refine Ev.step (fun k => by rw [spec_validRow.l0]) ?_
    refine ev_else (by omega) (ev_bind0 (inRange_eq _ _ _) (ev_of ?_))
    rw [List.drop_of_length_le (by omega)]
    simp
  | succ d ih =>
    intro i hi
    have hlt : i < xs.length := by omega
    refine Ev.step (fun k => by rw [spec_validRow.l0]) ?_
    refine ev_if (by omega) (ev_if (by omega) (ev_bind0 (inRange_eq _ _ _) ?_))
    rw [rd_at xs i hlt, drop_all xs i hlt]
    by_cases he : -9999 ≤ xs[i] ∧ xs[i] ≤ 9999
    · refine ev_if (by simpa using he) ?_
      rw [w64s hlt hn]
      refine ev_to (ih (i + 1) (by omega)) ?_
      simp [okv, he]
    · refine ev_else (by simpa using he) (ev_of ?_)
      simp only [okv, he, decide_false, Bool.false_and]
theorem spec_validRow_ev (xs : List Int) (hn : xs.length ≤ 140737488355328) : Ev (fun k => spec_validRow.f k xs) (vrow xs) := by
  unfold spec_validRow.f
  have h := spec_validRow_l xs hn xs.length 0 (by omega)
  exact h
def vcols (l : List Int) (w : Int) : Bool := l.all (fun n => decide (0 ≤ n ∧ n < w)) && decide (1 ≤ (l.length : Int) ∧ (l.length : Int) ≤ 6)
theorem validColumns_l (xs : List Int) (w : Int) (h0 : 0 ≤ w) (hw : w ≤ 140737488355328) (hn : xs.length ≤ 140737488355328) (d : Nat) : ∀ (i : Nat), i + d = xs.length → Ev (fun k => spec_validColumns.l0 k xs w (i : Int)) ((xs.drop i).all (fun n => decide (0 ≤ n ∧ n < w)) && decide (1 ≤ (xs.length : Int) ∧ (xs.length : Int) ≤ 6)) := by
  induction d with
  | zero =>
    intro i hi
    refine Ev.step (fun k => by rw [spec_validColumns.l0]) ?_
    refine ev_else (by omega) (ev_bind0 (inRange_eq _ _ _) (ev_of ?_))
    rw [drop_end xs i (by omega)]
    simp
  | succ d ih =>
    intro i hi
    have hlt : i < xs.length := by omega
    refine Ev.step (fun k => by rw [spec_validColumns.l0]) ?_
    refine ev_if (by omega) (ev_if (by omega) (ev_bind0 (inRange_eq _ _ _) ?_))
    rw [rd_at xs i hlt, drop_all xs i hlt, w64 (by omega) (by omega)]
    by_cases he : 0 ≤ xs[i] ∧ xs[i] < w
    · refine ev_if (by simp; omega) ?_
      rw [w64s hlt hn]
      refine ev_to (ih (i + 1) (by omega)) ?_
      simp only [he, and_self, decide_true, Bool.true_and]
    · refine ev_else (by simp; omega) (ev_of ?_)
      simp only [he, decide_false, Bool.false_and]
theorem validColumns_ev (xs : List Int) (w : Int) (h0 : 0 ≤ w) (hw : w ≤ 140737488355328) (hn : xs.length ≤ 140737488355328) : Ev (fun k => spec_validColumns.f k xs w) (vcols xs w) := by
  unfold spec_validColumns.f
  exact validColumns_l xs w h0 hw hn xs.length 0 (by omega)
def proj (row cols : List Int) : List Int := cols.map (fun c => rd row c)
theorem project_l (row cols : List Int) (hn : cols.length ≤ 1000000) (hc : ∀ c ∈ cols, 0 ≤ c ∧ c < (row.length : Int)) (d : Nat) : ∀ (i : Nat) (out : List Int), i + d = cols.length → out = proj row (cols.take i) → Ev (fun k => spec_project.l0 k row cols out (i : Int)) (proj row cols) := by
  induction d with
  | zero =>
    intro i out hi ho
    refine Ev.step (fun k => by rw [spec_project.l0]) ?_
    refine ev_else (by omega) (ev_of ?_)
    rw [ho, List.take_of_length_le (by omega)]
  | succ d ih =>
    intro i out hi ho
    have hlt : i < cols.length := by omega
    have hci := hc cols[i] (List.getElem_mem hlt)
    have hol : out.length = i := by rw [ho]; unfold proj; rw [List.length_map, List.length_take]; omega
    refine Ev.step (fun k => by rw [spec_project.l0]) ?_
    rw [rd_at cols i hlt]
    refine ev_if (by omega) (ev_if (by omega) (ev_if hci.1 (ev_if hci.2 (ev_if (by omega) ?_))))
    rw [w64s hlt (by omega)]
    refine ih (i + 1) _ (by omega) ?_
    rw [List.take_succ_eq_append_getElem hlt, ho]
    unfold proj
    rw [List.map_append]; rfl
theorem project_ev (row cols : List Int) (hn : cols.length ≤ 1000000) (hc : ∀ c ∈ cols, 0 ≤ c ∧ c < (row.length : Int)) : Ev (fun k => spec_project.f k row cols) (proj row cols) := by
  unfold spec_project.f
  exact project_l row cols hn hc cols.length 0 [] (by omega) (by rfl)
def prow (row cols : List Int) : List Int × Bool := if vrow row && vcols cols (row.length : Int) then (proj row cols, true) else ([], false)
theorem vrow_len {l : List Int} (h : vrow l = true) : 1 ≤ l.length ∧ l.length ≤ 6 := by unfold vrow at h; simp at h; omega
theorem vcols_len {l : List Int} {w : Int} (h : vcols l w = true) : 1 ≤ l.length ∧ l.length ≤ 6 := by unfold vcols at h; simp at h; omega
theorem vcols_all {l : List Int} {w : Int} (h : vcols l w = true) : ∀ c ∈ l, 0 ≤ c ∧ c < w := by
  unfold vcols at h
  rw [Bool.and_eq_true, List.all_eq_true] at h
  exact fun c hc => of_decide_eq_true (h.1 c hc)
theorem spec_ProjectRow_ev (row cols : List Int) (hn : row.length ≤ 140737488355328) (hm : cols.length ≤ 140737488355328) : Ev (fun k => spec_ProjectRow.f k row cols) (prow row cols) := by
  unfold spec_ProjectRow.f prow
  refine Ev.bind (spec_validRow_ev row hn) ?_
  by_cases h1 : vrow row = true
  · refine ev_if h1 (Ev.bind (validColumns_ev cols (row.length : Int) (by omega) (by omega) hm) ?_)
    by_cases h2 : vcols cols (row.length : Int) = true
    · refine ev_if h2 (Ev.bind (project_ev row cols (by have := vcols_len h2; omega) (vcols_all h2)) (ev_of ?_))
      simp [h1, h2]
    · exact ev_else h2 (ev_of (by simp [h1, h2]))
  · exact ev_else h1 (ev_of (by simp [h1]))
theorem impl_ValidRow_l (xs : List Int) (hn : xs.length ≤ 140737488355328) (d : Nat) : ∀ (i : Nat), i + d = xs.length → Ev (fun k => impl_ValidRow.l0 k xs xs (xs.length : Int) (i : Int)) ((xs.drop i).all okv && decide (1 ≤ (xs.length : Int) ∧ (xs.length : Int) ≤ 6)) := by
  induction d with
  | zero =>
    intro i hi
    refine Ev.step (fun k => by rw [impl_ValidRow.l0]) ?_
    refine ev_else (by omega) ?_
    rw [List.drop_of_length_le (by omega)]
    by_cases h1 : (xs.length : Int) ≥ 1
    · exact ev_if h1 (ev_of (by simp only [List.all_nil, Bool.true_and]; exact congrArg some (decide_eq_decide.mpr ⟨fun h => ⟨h1, h⟩, fun h => h.2⟩)))
    · exact ev_else h1 (ev_of (by simp; omega))
  | succ d ih =>
    intro i hi
    have hlt : i < xs.length := by omega
    refine Ev.step (fun k => by rw [impl_ValidRow.l0]) ?_
    refine ev_if (by omega) (ev_if (by omega) (ev_if (by omega) ?_))
    rw [rd_at xs i hlt, drop_all xs i hlt]
    by_cases h1 : xs[i] < -9999
    · refine ev_if h1 (ev_of ?_)
      have : ¬ (-9999 ≤ xs[i] ∧ xs[i] ≤ 9999) := by omega
      simp only [okv, this, decide_false, Bool.false_and]
    · refine ev_else h1 ?_
      by_cases h2 : xs[i] > 9999
      · refine ev_if h2 (ev_of ?_)
        have : ¬ (-9999 ≤ xs[i] ∧ xs[i] ≤ 9999) := by omega
        simp only [okv, this, decide_false, Bool.false_and]
      · refine ev_else h2 ?_
        rw [w64s hlt hn]
        refine ev_to (ih (i + 1) (by omega)) ?_
        have : -9999 ≤ xs[i] ∧ xs[i] ≤ 9999 := by omega
        simp only [okv, this, and_self, decide_true, Bool.true_and]
theorem impl_ValidRow_ev (xs : List Int) (hn : xs.length ≤ 140737488355328) : Ev (fun k => impl_ValidRow.f k xs) (vrow xs) := by
  unfold impl_ValidRow.f
  have h := impl_ValidRow_l xs hn xs.length 0 (by omega)
  exact h
theorem validCols_l (xs : List Int) (w : Int) (hn : xs.length ≤ 140737488355328) (d : Nat) : ∀ (i : Nat), i + d = xs.length → Ev (fun k => impl_validCols.l0 k xs w xs (xs.length : Int) (i : Int)) ((xs.drop i).all (fun n => decide (0 ≤ n ∧ n < w)) && decide (1 ≤ (xs.length : Int) ∧ (xs.length : Int) ≤ 6)) := by
  induction d with
  | zero =>
    intro i hi
    refine Ev.step (fun k => by rw [impl_validCols.l0]) ?_
    refine ev_else (by omega) ?_
    rw [drop_end xs i (by omega)]
    by_cases h1 : (xs.length : Int) ≥ 1
    · exact ev_if h1 (ev_of (by simp only [List.all_nil, Bool.true_and]; exact congrArg some (decide_eq_decide.mpr ⟨fun h => ⟨h1, h⟩, fun h => h.2⟩)))
    · exact ev_else h1 (ev_of (by simp; omega))
  | succ d ih =>
    intro i hi
    have hlt : i < xs.length := by omega
    refine Ev.step (fun k => by rw [impl_validCols.l0]) ?_
    refine ev_if (by omega) (ev_if (by omega) (ev_if (by omega) ?_))
    rw [rd_at xs i hlt, drop_all xs i hlt]
    by_cases h1 : xs[i] < 0
    · refine ev_if h1 (ev_of ?_)
      have : ¬ (0 ≤ xs[i] ∧ xs[i] < w) := by omega
      simp only [this, decide_false, Bool.false_and]
    · refine ev_else h1 ?_
      by_cases h2 : xs[i] ≥ w
      · refine ev_if h2 (ev_of ?_)
        have : ¬ (0 ≤ xs[i] ∧ xs[i] < w) := by omega
        simp only [this, decide_false, Bool.false_and]
      · refine ev_else h2 ?_
        rw [w64s hlt hn]
        refine ev_to (ih (i + 1) (by omega)) ?_
        have : 0 ≤ xs[i] ∧ xs[i] < w := by omega
        simp only [this, and_self, decide_true, Bool.true_and]
theorem validCols_ev (xs : List Int) (w : Int) (hn : xs.length ≤ 140737488355328) : Ev (fun k => impl_validCols.f k xs w) (vcols xs w) := by
  unfold impl_validCols.f
  exact validCols_l xs w hn xs.length 0 (by omega)
theorem impl_ProjectRow_l (row cols : List Int) (hn : cols.length ≤ 1000000) (hc : ∀ c ∈ cols, 0 ≤ c ∧ c < (row.length : Int)) (d : Nat) : ∀ (i : Nat) (out : List Int), i + d = cols.length → out = proj row (cols.take i) → Ev (fun k => impl_ProjectRow.l0 k row out cols (cols.length : Int) (i : Int)) (proj row cols, true) := by
  induction d with
  | zero =>
    intro i out hi ho
    refine Ev.step (fun k => by rw [impl_ProjectRow.l0]) ?_
    refine ev_else (by omega) (ev_of ?_)
    rw [ho, List.take_of_length_le (by omega)]
  | succ d ih =>
    intro i out hi ho
    have hlt : i < cols.length := by omega
    have hci := hc cols[i] (List.getElem_mem hlt)
    have hol : out.length = i := by rw [ho]; unfold proj; rw [List.length_map, List.length_take]; omega
    refine Ev.step (fun k => by rw [impl_ProjectRow.l0]) ?_
    rw [rd_at cols i hlt]
    refine ev_if (by omega) (ev_if (by omega) (ev_if (by omega) (ev_if hci.1 (ev_if hci.2 (ev_if (by omega) ?_)))))
    rw [w64s hlt (by omega)]
    refine ih (i + 1) _ (by omega) ?_
    rw [List.take_succ_eq_append_getElem hlt, ho]
    unfold proj
    rw [List.map_append]; rfl
theorem impl_ProjectRow_ev (row cols : List Int) (hn : row.length ≤ 140737488355328) (hm : cols.length ≤ 140737488355328) : Ev (fun k => impl_ProjectRow.f k row cols) (prow row cols) := by
  unfold impl_ProjectRow.f prow
  refine Ev.bind (impl_ValidRow_ev row hn) ?_
  by_cases h1 : vrow row = true
  · refine ev_if h1 (Ev.bind (validCols_ev cols (row.length : Int) hm) ?_)
    refine Ev.step (fun k => by rw [impl_ProjectRow.j0]) ?_
    by_cases h2 : vcols cols (row.length : Int) = true
    · refine ev_else (by simp [h2]) ?_
      rw [h1, h2]
      exact impl_ProjectRow_l row cols (by have := vcols_len h2; omega) (vcols_all h2) cols.length 0 [] (by omega) (by rfl)
    · exact ev_if (by simp [h2]) (ev_of (by simp [h1, h2]))
  · refine ev_else h1 (Ev.step (fun k => by rw [impl_ProjectRow.j0]) ?_)
    exact ev_if rfl (ev_of (by simp [h1]))
theorem prow_len (row cols : List Int) : (prow row cols).1.length ≤ 6 := by
  unfold prow
  split
  · rename_i h
    rw [Bool.and_eq_true] at h
    have := vcols_len h.2
    show (proj row cols).length ≤ 6
    unfold proj; rw [List.length_map]; omega
  · simp
/-- What markIntS leaves: k, k+1, .. -/
def marks (n : Nat) (k : Int) : List Int := (List.range n).map (fun (j : Nat) => k + (j : Int))
theorem marks_length (n : Nat) (k : Int) : (marks n k).length = n := by simp [marks]
theorem marks_at (n : Nat) (k : Int) (i : Nat) (h : i < (marks n k).length) : (marks n k)[i] = k + (i : Int) := by simp [marks]
theorem marks_succ (n : Nat) (k : Int) : marks (n + 1) k = k :: marks n (k + 1) := by
  unfold marks
  rw [List.range_succ_eq_map, List.map_cons, List.map_map]
  simp only [Int.natCast_zero, Int.add_zero, List.cons.injEq, true_and]
  apply List.map_congr_left
  intro j _
  simp only [Function.comp]
  push_cast
  omega
theorem set_drop {α : Type} (l : List α) (i : Nat) (v : α) (h : i < l.length) : (l.set i v).drop i = v :: l.drop (i + 1) := by
  rw [drop_at (l.set i v) i (by rw [List.length_set]; exact h), List.getElem_set_self, List.drop_set_of_lt (by omega)]
theorem markIntS_l (n : Nat) (hn : n ≤ 140737488355328) (d : Nat) : ∀ (i : Nat) (xs : List Int) (m : Int), i + d = n → xs.length = n → 0 ≤ m → m + d ≤ 4611686018427387904 → Ev (fun k => laws_markIntS.l0 k xs m (i : Int)) (m + (d : Int), xs.take i ++ marks d m) := by
  induction d with
  | zero =>
    intro i xs m hi hx h0 hm
    refine Ev.step (fun k => by rw [laws_markIntS.l0]) ?_
    refine ev_else (by omega) (ev_of ?_)
    rw [List.take_of_length_le (by omega)]
    simp [marks]
  | succ d ih =>
    intro i xs m hi hx h0 hm
    have hlt : i < n := by omega
    refine Ev.step (fun k => by rw [laws_markIntS.l0]) ?_
    refine ev_if (by omega) (ev_if (by omega) ?_)
    rw [w64s hlt hn, w64 (n := m + 1) (by omega) (by omega), Int.toNat_natCast]
    refine ev_to (ih (i + 1) (xs.set i m) (m + 1) (by omega) (by rw [List.length_set]; exact hx) (by omega) (by omega)) ?_
    rw [marks_succ, List.take_succ_eq_append_getElem (by rw [List.length_set]; omega), List.getElem_set_self, List.take_set_of_le (Nat.le_refl _), List.append_assoc]
    refine Prod.ext ?_ rfl
    show m + 1 + (d : Int) = m + ((d + 1 : Nat) : Int)
    push_cast; omega
theorem markIntS_ev (xs : List Int) (m : Int) (hn : xs.length ≤ 140737488355328) (h0 : 0 ≤ m) (hm : m ≤ 1000000000000000) : Ev (fun k => laws_markIntS.f k xs m) (m + (xs.length : Int), marks xs.length m) := by
  unfold laws_markIntS.f
  exact markIntS_l xs.length hn xs.length 0 xs m (by omega) rfl h0 (by omega)
theorem heldIntS_l (n : Nat) (m0 : Int) (hn : n ≤ 140737488355328) (h0 : 0 ≤ m0) (hm : m0 ≤ 1000000000000000) (d : Nat) : ∀ (i : Nat), i + d = n → Ev (fun k => laws_heldIntS.l0 k (marks n m0) (m0 + (i : Int)) (i : Int)) (m0 + (n : Int)) := by
  induction d with
  | zero =>
    intro i hi
    refine Ev.step (fun k => by rw [laws_heldIntS.l0]) ?_
    refine ev_else (by rw [marks_length]; omega) (ev_of ?_)
    rw [show i = n by omega]
  | succ d ih =>
    intro i hi
    have hlt : i < (marks n m0).length := by rw [marks_length]; omega
    refine Ev.step (fun k => by rw [laws_heldIntS.l0]) ?_
    rw [rd_at _ i hlt, marks_at]
    refine ev_if (by omega) (ev_if (by omega) (ev_if rfl ?_))
    rw [w64s (i := i) (n := n) (by omega) hn, w64 (n := m0 + (i : Int) + 1) (by omega) (by omega), show m0 + (i : Int) + 1 = m0 + ((i + 1 : Nat) : Int) by push_cast; omega]
    exact ih (i + 1) (by omega)
theorem heldIntS_ev (n : Nat) (m : Int) (hn : n ≤ 140737488355328) (h0 : 0 ≤ m) (hm : m ≤ 1000000000000000) : Ev (fun k => laws_heldIntS.f k (marks n m) m) (m + (n : Int)) := by
  unfold laws_heldIntS.f
  have h := heldIntS_l n m hn h0 hm n 0 (by omega)
  simpa using h
theorem FnExactProjectRow : FnExactProjectRow_pure := by
  intro l0 l1 _ _ _ _ _ _
  refine Ev.rounds (g := fun k => laws_FnExactProjectRow.f k l0 l1) ?_
  unfold laws_FnExactProjectRow.f
  by_cases hb : (l0.length : Int) > 1048576
  · exact ev_if hb (ev_of rfl)
  · refine ev_else hb ?_
    by_cases hb1 : (l1.length : Int) > 1048576
    · exact ev_if hb1 (ev_of rfl)
    · refine ev_else hb1 ?_
      have hp := prow_len l0 l1
      refine Ev.bind (toIntS_ev l0 (by omega)) (Ev.bind (toIntS_ev l1 (by omega)) (Ev.bind (spec_ProjectRow_ev l0 l1 (by omega) (by omega)) ?_))
      refine Ev.bind (toIntS_ev l0 (by omega)) (Ev.bind (toIntS_ev l1 (by omega)) (Ev.bind (impl_ProjectRow_ev l0 l1 (by omega) (by omega)) ?_))
      refine Ev.bind (eqIntS_ev _ _ (by omega)) (ev_if (by simp) ?_)
      refine Ev.step (fun k => by rw [laws_FnExactProjectRow.j0]) (ev_else (by simp) ?_)
      refine Ev.bind (toIntS_ev l0 (by omega)) (Ev.bind (eqIntS_ev l0 l0 (by omega)) (ev_if (by simp) ?_))
      refine Ev.bind (toIntS_ev l1 (by omega)) (Ev.bind (eqIntS_ev l1 l1 (by omega)) (ev_if (by simp) ?_))
      refine Ev.bind (markIntS_ev l0 1 (by omega) (by omega) (by omega)) (Ev.bind (markIntS_ev l1 _ (by omega) (by show 0 ≤ 1 + (l0.length : Int); omega) (by show 1 + (l0.length : Int) ≤ _; omega)) ?_)
      refine ev_else (by show ¬ (1 + (l0.length : Int) + (l1.length : Int) < 0); omega) ?_
      refine Ev.bind (eqIntS_ev _ _ (by omega)) (ev_if (by simp) ?_)
      refine Ev.step (fun k => by rw [laws_FnExactProjectRow.j1]) (ev_else (by simp) ?_)
      refine Ev.bind (markIntS_ev (prow l0 l1).1 1 (by omega) (by omega) (by omega)) (Ev.bind (heldIntS_ev _ 1 (by omega) (by omega) (by omega)) ?_)
      refine ev_else (by omega) (ev_if rfl ?_)
      refine Ev.bind (toIntS_ev l0 (by omega)) (Ev.bind (toIntS_ev l1 (by omega)) (Ev.bind (impl_ProjectRow_ev l0 l1 (by omega) (by omega)) ?_))
      refine Ev.bind (eqIntS_ev _ _ (by omega)) (ev_if (by simp) ?_)
      refine Ev.step (fun k => by rw [laws_FnExactProjectRow.j2]) (ev_else (by simp) ?_)
      refine Ev.bind (heldIntS_ev _ 1 (by omega) (by omega) (by omega)) (ev_else (by omega) (ev_if rfl (ev_of rfl)))
end Go.Proofs.Ytbohfeifkkigbaa.Pure
