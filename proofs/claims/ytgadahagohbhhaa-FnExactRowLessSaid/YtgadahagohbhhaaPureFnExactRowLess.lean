/- Proved: the law FnExactRowLess answers true for every two slices of ints: impl.RowLess and spec.RowLess agree, and the arguments are left as they were. No condition. -/
import Derived.Test.YtgadahagohbhhaaPFnExactRowLessx2
namespace Go.Proofs.Ytgadahagohbhhaa.Pure
open Go.RowKit Go.Proofs.Ytgadahagohbhhaa.PFnExactRowLess Go.Proofs.YtgadahagohbhhaaW.PrintWords Go.Proofs.YtgadahagohbhhaaW.PrintLast
set_option linter.unusedVariables false
set_option linter.unusedSimpArgs false
/-- The pure statement of the law FnExactRowLess. -/
def FnExactRowLess_pure : Prop := ∀ (l0 : List Int) (l1 : List Int), l0.length ≤ maxLen → l0.length * 8 ≤ 140737488351232 → (∀ x ∈ l0, (Lit.int .i64 x).wf = true) → l1.length ≤ maxLen → l1.length * 8 ≤ 140737488351232 → (∀ x ∈ l1, (Lit.int .i64 x).wf = true) → ∃ k, laws_FnExactRowLess.f k l0 l1 = some true
theorem ev_if {α : Type} {c : Prop} [Decidable c] {a b : Nat → Option α} {r : α} (h : c) (e : Ev a r) : Ev (fun k => if c then a k else b k) r := Ev.congr (fun _ => if_pos h) e
theorem ev_else {α : Type} {c : Prop} [Decidable c] {a b : Nat → Option α} {r : α} (h : ¬ c) (e : Ev b r) : Ev (fun k => if c then a k else b k) r := Ev.congr (fun _ => if_neg h) e
theorem ev_bind0 {α β : Type} {g : Option α} {f : Nat → α → Option β} {a : α} {r : β} (h : g = some a) (e : Ev (fun n => f n a) r) : Ev (fun n => g.bind (f n)) r := Ev.congr (fun _ => by rw [h]; rfl) e
theorem ev_of {α : Type} {g : Option α} {r : α} (h : g = some r) : Ev (fun _ => g) r := ⟨0, fun _ _ => h⟩
theorem ev_to {α : Type} {g : Nat → Option α} {r r' : α} (e : Ev g r) (h : r = r') : Ev g r' := h ▸ e
theorem w64 {n : Int} (h0 : -9223372036854775808 ≤ n) (h1 : n ≤ 9223372036854775807) : wrap64 n = n := by unfold wrap64; omega
theorem w64s {i n : Nat} (h : i < n) (hn : n ≤ 140737488355328) : wrap64 ((i : Int) + 1) = ((i + 1 : Nat) : Int) := by unfold wrap64; omega
theorem rd_at (l : List Int) (i : Nat) (h : i < l.length) : rd l (i : Int) = l[i] := by
  unfold rd
  rw [Int.toNat_natCast, List.getD_eq_getElem?_getD, List.getElem?_eq_getElem h]
  rfl
theorem drop_at {α : Type} (l : List α) (i : Nat) (h : i < l.length) : l.drop i = l[i] :: l.drop (i + 1) := List.drop_eq_getElem_cons h
theorem lt_cast {i n : Nat} (h : i < n) : (i : Int) < (n : Int) := by omega
theorem drop_eq {α : Type} (a b : List α) (i : Nat) (h : i < a.length) (h2 : i < b.length) : (a.drop i = b.drop i) ↔ (a[i] = b[i] ∧ a.drop (i + 1) = b.drop (i + 1)) := by
  rw [drop_at a i h, drop_at b i h2, List.cons.injEq]
theorem drop_all {α : Type} (l : List α) (i : Nat) (h : i < l.length) (p : α → Bool) : (l.drop i).all p = (p l[i] && (l.drop (i + 1)).all p) := by
  rw [drop_at l i h, List.all_cons]
theorem drop_end {α : Type} (l : List α) (i : Nat) (h : l.length ≤ i) : l.drop i = [] := List.drop_of_length_le h
theorem drop_dec {α : Type} [DecidableEq α] (a b : List α) (i : Nat) (h : i < a.length) (h2 : i < b.length) : decide (a.drop i = b.drop i) = (decide (a[i] = b[i]) && decide (a.drop (i + 1) = b.drop (i + 1))) := by
  rw [← Bool.decide_and]
  exact decide_eq_decide.mpr (drop_eq a b i h h2)
theorem toIntS_l (xs : List Int) (hn : xs.length ≤ 140737488355328) (d : Nat) : ∀ (i : Nat) (out : List Int), i + d = xs.length → out.length = xs.length → Ev (fun k => laws_toIntS.l0 k xs out (i : Int)) (out.take i ++ xs.drop i) := by
  induction d with
  | zero =>
    intro i out hi ho
    refine Ev.step (fun k => by rw [laws_toIntS.l0]) ?_
    refine ev_else (by omega) (ev_of ?_)
    rw [List.drop_of_length_le (by omega), List.take_of_length_le (by omega), List.append_nil]
  | succ d ih =>
    intro i out hi ho
    have hlt : i < xs.length := by omega
    refine Ev.step (fun k => by rw [laws_toIntS.l0]) ?_
    refine ev_if (by omega) (ev_if (by omega) (ev_if (by omega) ?_))
    rw [w64s hlt hn, rd_at xs i hlt, Int.toNat_natCast]
    refine ev_to (ih (i + 1) _ (by omega) (by rw [List.length_set]; exact ho)) ?_
    rw [drop_at xs i hlt, List.take_succ_eq_append_getElem (by rw [List.length_set]; omega), List.getElem_set_self, List.take_set_of_le (Nat.le_refl _), List.append_assoc]
    rfl
theorem toIntS_ev (xs : List Int) (hn : xs.length ≤ 35184372088832) : Ev (fun k => laws_toIntS.f k xs) xs := by
  unfold laws_toIntS.f
  refine ev_if (by omega) (ev_if (by omega) ?_)
  have h := toIntS_l xs (by omega) xs.length 0 (List.replicate ((xs.length : Int)).toNat 0) (by omega) (by simp)
  simpa using h
theorem eqIntS_l (a b : List Int) (hl : a.length = b.length) (hn : a.length ≤ 140737488355328) (d : Nat) : ∀ (i : Nat), i + d = a.length → Ev (fun k => laws_eqIntS.l0 k a b (i : Int)) (decide (a.drop i = b.drop i)) := by
  induction d with
  | zero =>
    intro i hi
    refine Ev.step (fun k => by rw [laws_eqIntS.l0]) ?_
    refine ev_else (by omega) (ev_of ?_)
    rw [List.drop_of_length_le (by omega), List.drop_of_length_le (by omega)]
    simp
  | succ d ih =>
    intro i hi
    have hlt : i < a.length := by omega
    have hlt2 : i < b.length := by omega
    refine Ev.step (fun k => by rw [laws_eqIntS.l0]) ?_
    refine ev_if (by omega) (ev_if (by omega) (ev_if (by omega) ?_))
    rw [rd_at a i hlt, rd_at b i hlt2, drop_dec a b i hlt hlt2]
    by_cases he : a[i] = b[i]
    · refine ev_if he ?_
      rw [w64s hlt hn]
      refine ev_to (ih (i + 1) (by omega)) ?_
      simp [he]
    · refine ev_else he (ev_of ?_)
      simp [he]
theorem eqIntS_ev (a b : List Int) (hn : a.length ≤ 140737488355328) : Ev (fun k => laws_eqIntS.f k a b) (decide (a = b)) := by
  unfold laws_eqIntS.f
  by_cases hl : a.length = b.length
  · refine ev_if (by omega) ?_
    have h := eqIntS_l a b hl hn a.length 0 (by omega)
    simpa using h
  · refine ev_else (by omega) (ev_of ?_)
    have : a ≠ b := fun h => hl (by rw [h])
    simp [this]
def rlt : List Int → List Int → Bool
  | [], [] => false
  | [], _ :: _ => true
  | _ :: _, [] => false
  | a :: p, b :: q => if a = b then rlt p q else decide (a < b)
def rcmp : List Int → List Int → Int
  | [], [] => 0
  | [], _ :: _ => -1
  | _ :: _, [] => 1
  | a :: p, b :: q => if a < b then -1 else if a > b then 1 else rcmp p q
theorem rcmp_neg : ∀ a b, decide (rcmp a b < 0) = rlt a b
  | [], [] => rfl
  | [], _ :: _ => rfl
  | _ :: _, [] => rfl
  | a :: p, b :: q => by
    unfold rcmp rlt
    by_cases h : a < b
    · rw [if_pos h, if_neg (show ¬ a = b by omega)]; simp [h]
    · rw [if_neg h]
      by_cases h2 : a > b
      · rw [if_pos h2, if_neg (show ¬ a = b by omega)]; simp [h]
      · rw [if_neg h2, if_pos (show a = b by omega)]; exact rcmp_neg p q
theorem rcmp_zero : ∀ a b, rcmp a b = 0 ↔ a = b
  | [], [] => by simp [rcmp]
  | [], _ :: _ => by simp [rcmp]
  | _ :: _, [] => by simp [rcmp]
  | a :: p, b :: q => by
    unfold rcmp
    by_cases h : a < b
    · rw [if_pos h]; simp; omega
    · rw [if_neg h]
      by_cases h2 : a > b
      · rw [if_pos h2]; simp; omega
      · rw [if_neg h2, rcmp_zero p q]; simp; omega
theorem rlt_irrefl : ∀ a, rlt a a = false
  | [] => rfl
  | a :: p => by unfold rlt; rw [if_pos rfl]; exact rlt_irrefl p
theorem rlt_asymm : ∀ a b, rlt a b = true → rlt b a = false
  | [], [] => fun h => by cases h
  | [], _ :: _ => fun _ => rfl
  | _ :: _, [] => fun h => by cases h
  | a :: p, b :: q => by
    unfold rlt
    by_cases h : a = b
    · rw [if_pos h, if_pos h.symm]; exact rlt_asymm p q
    · rw [if_neg h, if_neg (fun e => h e.symm)]; simp; omega
theorem rlt_total : ∀ a b, a ≠ b → rlt a b = false → rlt b a = true
  | [], [] => fun h _ => absurd rfl h
  | [], _ :: _ => fun _ h => by cases h
  | _ :: _, [] => fun _ _ => rfl
  | a :: p, b :: q => by
    intro hne
    unfold rlt
    by_cases h : a = b
    · rw [if_pos h, if_pos h.symm]; exact rlt_total p q (fun e => hne (by rw [h, e]))
    · rw [if_neg h, if_neg (fun e => h e.symm)]; simp; omega
theorem rlt_trans : ∀ a b c, rlt a b = true → rlt b c = true → rlt a c = true
  | [], [], _ => fun h => by cases h
  | [], _ :: _, [] => fun _ h => by cases h
  | [], _ :: _, _ :: _ => fun _ _ => rfl
  | _ :: _, [], _ => fun h => by cases h
  | _ :: _, _ :: _, [] => fun _ h => by cases h
  | a :: p, b :: q, c :: s => by
    unfold rlt
    by_cases h : a = b
    · subst h
      rw [if_pos rfl]
      intro h1
      by_cases h2 : a = c
      · rw [if_pos h2, if_pos h2]; exact rlt_trans p q s h1
      · rw [if_neg h2, if_neg h2]; exact fun h => h
    · rw [if_neg h]
      by_cases h2 : b = c
      · subst h2; rw [if_pos rfl, if_neg h]; exact fun h _ => h
      · rw [if_neg h2]
        intro h3 h4
        have h3 := of_decide_eq_true h3
        have h4 := of_decide_eq_true h4
        rw [if_neg (by omega)]
        exact decide_eq_true (by omega)
theorem spec_rowLess_l (a b : List Int) (hn : a.length ≤ 140737488355328) (d : Nat) : ∀ (i : Nat), i + d = a.length → i ≤ b.length → Ev (fun k => spec_rowLess.l0 k a b (i : Int)) (rlt (a.drop i) (b.drop i)) := by
  induction d with
  | zero =>
    intro i hi hb
    refine Ev.step (fun k => by rw [spec_rowLess.l0]) ?_
    refine ev_else (by omega) ?_
    refine Ev.step (fun k => by rw [spec_rowLess.j1]) ?_
    refine ev_else (by simp) (ev_of ?_)
    rw [drop_end a i (by omega)]
    by_cases h : i < b.length
    · rw [drop_at b i h]
      simp [rlt]; omega
    · rw [drop_end b i (by omega)]
      simp [rlt]; omega
  | succ d ih =>
    intro i hi hb
    have hlt : i < a.length := by omega
    refine Ev.step (fun k => by rw [spec_rowLess.l0]) ?_
    refine ev_if (by omega) ?_
    refine Ev.step (fun k => by rw [spec_rowLess.j1]) ?_
    by_cases h : i < b.length
    · refine ev_if (by simpa using h) (ev_if (by omega) (ev_if (by omega) (ev_if (by omega) ?_)))
      rw [rd_at a i hlt, rd_at b i h]
      have e : rlt (a.drop i) (b.drop i) = if a[i] = b[i] then rlt (a.drop (i + 1)) (b.drop (i + 1)) else decide (a[i] < b[i]) := by
        rw [drop_at a i hlt, drop_at b i h]; rfl
      rw [e]
      by_cases he : a[i] = b[i]
      · refine ev_if he ?_
        rw [w64s hlt hn, if_pos he]
        exact ih (i + 1) (by omega) (by omega)
      · exact ev_else he (ev_of (by rw [if_neg he]))
    · refine ev_else (by simpa using h) (ev_of ?_)
      rw [drop_end b i (by omega), drop_at a i hlt]
      simp [rlt]; omega
theorem spec_rowLess_ev (a b : List Int) (hn : a.length ≤ 140737488355328) : Ev (fun k => spec_rowLess.f k a b) (rlt a b) := by
  unfold spec_rowLess.f
  exact spec_rowLess_l a b hn a.length 0 (by omega) (by omega)
theorem spec_RowLess_ev (a b : List Int) (hn : a.length ≤ 140737488355328) : Ev (fun k => spec_RowLess.f k a b) (rlt a b) := by
  unfold spec_RowLess.f
  exact Ev.bind (spec_rowLess_ev a b hn) (ev_of rfl)
theorem isNaN_eq (a : Int) : cmp_isNaN_int.f a = some false := by unfold cmp_isNaN_int.f; simp
theorem cmpInt_eq (a b : Int) : cmp_Compare_int.f a b = some (if a < b then -1 else if a > b then 1 else 0) := by
  unfold cmp_Compare_int.f
  rw [isNaN_eq, isNaN_eq]
  simp only [Option.bind_some]
  by_cases h : a < b
  · simp [h]
  · by_cases h2 : a > b <;> simp [h, h2]
theorem slices_Compare_l (a b : List Int) (hn : a.length ≤ 140737488355328) (d : Nat) : ∀ (i : Nat), i + d = a.length → i ≤ b.length → Ev (fun k => slices_Compare_int_int.l0 k a b a (a.length : Int) (i : Int)) (rcmp (a.drop i) (b.drop i)) := by
  induction d with
  | zero =>
    intro i hi hb
    refine Ev.step (fun k => by rw [slices_Compare_int_int.l0]) ?_
    refine ev_else (by omega) ?_
    rw [drop_end a i (by omega)]
    by_cases h : i < b.length
    · rw [drop_at b i h]
      exact ev_if (by omega) (ev_of rfl)
    · rw [drop_end b i (by omega)]
      exact ev_else (by omega) (ev_of rfl)
  | succ d ih =>
    intro i hi hb
    have hlt : i < a.length := by omega
    refine Ev.step (fun k => by rw [slices_Compare_int_int.l0]) ?_
    refine ev_if (by omega) (ev_if (by omega) (ev_if (by omega) ?_))
    by_cases h : i < b.length
    · refine ev_else (by omega) (ev_if (by omega) (ev_bind0 (cmpInt_eq _ _) ?_))
      rw [rd_at a i hlt, rd_at b i h]
      have e : rcmp (a.drop i) (b.drop i) = if a[i] < b[i] then -1 else if a[i] > b[i] then 1 else rcmp (a.drop (i + 1)) (b.drop (i + 1)) := by
        rw [drop_at a i hlt, drop_at b i h]; rfl
      rw [e]
      by_cases h1 : a[i] < b[i]
      · simp only [h1, if_true]
        exact ev_else (by omega) (ev_of rfl)
      · by_cases h2 : a[i] > b[i]
        · simp only [h1, h2, if_true, if_false]
          exact ev_else (by omega) (ev_of rfl)
        · simp only [h1, h2, if_false]
          refine ev_if trivial ?_
          rw [w64s hlt hn]
          exact ih (i + 1) (by omega) (by omega)
    · refine ev_if (by omega) (ev_of ?_)
      rw [drop_end b i (by omega), drop_at a i hlt]
      rfl
theorem slices_Compare_ev (a b : List Int) (hn : a.length ≤ 140737488355328) : Ev (fun k => slices_Compare_int_int.f k a b) (rcmp a b) := by
  unfold slices_Compare_int_int.f
  exact slices_Compare_l a b hn a.length 0 (by omega) (by omega)
theorem impl_RowLess_ev (a b : List Int) (hn : a.length ≤ 140737488355328) : Ev (fun k => impl_RowLess.f k a b) (rlt a b) := by
  unfold impl_RowLess.f
  exact Ev.bind (slices_Compare_ev a b hn) (ev_of (by rw [rcmp_neg]))
theorem FnExactRowLess : FnExactRowLess_pure := by
  intro l0 l1 _ _ _ _ _ _
  refine Ev.rounds (g := fun k => laws_FnExactRowLess.f k l0 l1) ?_
  unfold laws_FnExactRowLess.f
  by_cases hb : (l0.length : Int) > 1048576
  · exact ev_if hb (ev_of rfl)
  · refine ev_else hb ?_
    by_cases hb1 : (l1.length : Int) > 1048576
    · exact ev_if hb1 (ev_of rfl)
    · refine ev_else hb1 ?_
      refine Ev.bind (toIntS_ev l0 (by omega)) (Ev.bind (toIntS_ev l1 (by omega)) ?_)
      refine Ev.bind (spec_RowLess_ev l0 l1 (by omega)) ?_
      refine Ev.bind (toIntS_ev l0 (by omega)) (Ev.bind (toIntS_ev l1 (by omega)) ?_)
      refine Ev.bind (impl_RowLess_ev l0 l1 (by omega)) ?_
      refine ev_else (by simp) ?_
      refine Ev.bind (toIntS_ev l0 (by omega)) (Ev.bind (eqIntS_ev l0 l0 (by omega)) ?_)
      refine ev_if (by simp) ?_
      refine Ev.bind (toIntS_ev l1 (by omega)) (Ev.bind (eqIntS_ev l1 l1 (by omega)) ?_)
      exact ev_if (by simp) (ev_of rfl)
end Go.Proofs.Ytgadahagohbhhaa.Pure
