/- Proved: the law FnExactValidPredicate answers true for all arguments: impl.ValidPredicate and spec.ValidPredicate agree. No condition. -/
import Derived.Test.YtgadahagohbhhaaPFnExactValidPredicatex1
namespace Go.Proofs.Ytgadahagohbhhaa.Pure
open Go.RowKit Go.Proofs.Ytgadahagohbhhaa.PFnExactValidPredicate Go.Proofs.YtgadahagohbhhaaW.PrintWords Go.Proofs.YtgadahagohbhhaaW.PrintLast
set_option linter.unusedVariables false
set_option linter.unusedSimpArgs false
/-- The pure statement of the law FnExactValidPredicate. -/
def FnExactValidPredicate_pure : Prop := ∀ (a0_0 : Int) (a0_1 : Int) (a0_2 : Int) (a1 : Int), (Lit.int .i64 a0_0).wf = true → (Lit.int .i64 a0_1).wf = true → (Lit.int .i64 a0_2).wf = true → (Lit.int .i64 a1).wf = true → laws_FnExactValidPredicate.f a0_0 a0_1 a0_2 a1 = some true
theorem ev_if {α : Type} {c : Prop} [Decidable c] {a b : Nat → Option α} {r : α} (h : c) (e : Ev a r) : Ev (fun k => if c then a k else b k) r := Ev.congr (fun _ => if_pos h) e
theorem ev_else {α : Type} {c : Prop} [Decidable c] {a b : Nat → Option α} {r : α} (h : ¬ c) (e : Ev b r) : Ev (fun k => if c then a k else b k) r := Ev.congr (fun _ => if_neg h) e
theorem ev_bind0 {α β : Type} {g : Option α} {f : Nat → α → Option β} {a : α} {r : β} (h : g = some a) (e : Ev (fun n => f n a) r) : Ev (fun n => g.bind (f n)) r := Ev.congr (fun _ => by rw [h]; rfl) e
theorem ev_of {α : Type} {g : Option α} {r : α} (h : g = some r) : Ev (fun _ => g) r := ⟨0, fun _ _ => h⟩
theorem ev_to {α : Type} {g : Nat → Option α} {r r' : α} (e : Ev g r) (h : r = r') : Ev g r' := h ▸ e
theorem w64 {n : Int} (h0 : -9223372036854775808 ≤ n) (h1 : n ≤ 9223372036854775807) : wrap64 n = n := by unfold wrap64; omega
theorem w64s {i n : Nat} (h : i < n) (hn : n ≤ 140737488355328) : wrap64 ((i : Int) + 1) = ((i + 1 : Nat) : Int) := by unfold wrap64; omega
theorem rd_at (l : List Int) (i : Nat) (h : i < l.length) : rd l (i : Int) = l[i] := by
  unfold rd
  rw [Int.toNat_natCast, List.getD_eq_getElem?_getD, List.getElem?_eq_getElem h]
  rfl
theorem drop_at {α : Type} (l : List α) (i : Nat) (h : i < l.length) : l.drop i = l[i] :: l.drop (i + 1) := List.drop_eq_getElem_cons h
theorem lt_cast {i n : Nat} (h : i < n) : (i : Int) < (n : Int) := by omega
theorem drop_eq {α : Type} (a b : List α) (i : Nat) (h : i < a.length) (h2 : i < b.length) : (a.drop i = b.drop i) ↔ (a[i] = b[i] ∧ a.drop (i + 1) = b.drop (i + 1)) := by
  rw [drop_at a i h, drop_at b i h2, List.cons.injEq]
theorem drop_all {α : Type} (l : List α) (i : Nat) (h : i < l.length) (p : α → Bool) : (l.drop i).all p = (p l[i] && (l.drop (i + 1)).all p) := by
  rw [drop_at l i h, List.all_cons]
theorem drop_end {α : Type} (l : List α) (i : Nat) (h : l.length ≤ i) : l.drop i = [] := List.drop_of_length_le h
theorem drop_dec {α : Type} [DecidableEq α] (a b : List α) (i : Nat) (h : i < a.length) (h2 : i < b.length) : decide (a.drop i = b.drop i) = (decide (a[i] = b[i]) && decide (a.drop (i + 1) = b.drop (i + 1))) := by
  rw [← Bool.decide_and]
  exact decide_eq_decide.mpr (drop_eq a b i h h2)
theorem inRange_eq (a b c : Int) : spec_inRange.f a b c = some (decide (b ≤ a ∧ a ≤ c)) := by
  unfold spec_inRange.f
  by_cases h1 : b ≤ a <;> by_cases h2 : a ≤ c <;> simp [h1, h2]
theorem FnExactValidPredicate : FnExactValidPredicate_pure := by
  intro a b c w _ _ _ hw
  simp only [laws_FnExactValidPredicate.f, laws_toPredicate.f, spec_ValidPredicate.f, spec_validPredicate.f, impl_ValidPredicate.f, inRange_eq, Option.bind_some]
  by_cases h1 : 1 ≤ w <;> by_cases h2 : w ≤ 6 <;> simp only [h1, h2, true_and, and_true, and_self, false_and, and_false, decide_true, decide_false, ge_iff_le, if_true, if_false, Option.bind_some, bne_self_eq_false, Bool.false_eq_true]
  · rw [w64 (by omega) (by omega)]
    by_cases h3 : 0 ≤ a <;> by_cases h4 : a < w <;> by_cases h5 : 1 ≤ b <;> by_cases h6 : b ≤ 4 <;> by_cases h7 : -9999 ≤ c <;> by_cases h8 : c ≤ 9999 <;> simp [h3, h4, h5, h6, h7, h8, show (a ≤ w - 1) ↔ a < w by omega]
end Go.Proofs.Ytgadahagohbhhaa.Pure
