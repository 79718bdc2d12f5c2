/- Proved: the law FnAdvanceTime answers true for every two codes: AdvanceTime agrees with the reference, does not go back, is idempotent, and beyond the frontier cannot be told from the time itself. No condition. -/
import Derived.Test.YtbohfeifkkigbaaZFnAdvanceTimex11
namespace Go.Proofs.Ytbohfeifkkigbaa.Pure
open Go.RowKit Go.Proofs.Ytbohfeifkkigbaa.PFnAdvanceTime Go.Proofs.YtbohfeifkkigbaaW.PrintWords Go.Proofs.YtbohfeifkkigbaaW.PrintLast
set_option linter.unusedVariables false
set_option linter.unusedSimpArgs false
/-- The pure statement of the law FnAdvanceTime. -/
def FnAdvanceTime_pure : Prop := ∀ (l0 : List Int) (l1 : List Int), l0.length ≤ maxLen → l0.length * 1 ≤ 140737488351232 → (∀ x ∈ l0, (Lit.int .u8 x).wf = true) → l1.length ≤ maxLen → l1.length * 1 ≤ 140737488351232 → (∀ x ∈ l1, (Lit.int .u8 x).wf = true) → ∃ k, laws_FnAdvanceTime.f k l0 l1 = some true
theorem ev_if {α : Type} {c : Prop} [Decidable c] {a b : Nat → Option α} {r : α} (h : c) (e : Ev a r) : Ev (fun k => if c then a k else b k) r := Ev.congr (fun _ => if_pos h) e
theorem ev_else {α : Type} {c : Prop} [Decidable c] {a b : Nat → Option α} {r : α} (h : ¬ c) (e : Ev b r) : Ev (fun k => if c then a k else b k) r := Ev.congr (fun _ => if_neg h) e
theorem ev_bind0 {α β : Type} {g : Option α} {f : Nat → α → Option β} {a : α} {r : β} (h : g = some a) (e : Ev (fun n => f n a) r) : Ev (fun n => g.bind (f n)) r := Ev.congr (fun _ => by rw [h]; rfl) e
theorem ev_of {α : Type} {g : Option α} {r : α} (h : g = some r) : Ev (fun _ => g) r := ⟨0, fun _ _ => h⟩
theorem ev_to {α : Type} {g : Nat → Option α} {r r' : α} (e : Ev g r) (h : r = r') : Ev g r' := h ▸ e
theorem w64 {n : Int} (h0 : -9223372036854775808 ≤ n) (h1 : n ≤ 9223372036854775807) : wrap64 n = n := by unfold wrap64; omega
theorem w64s {i n : Nat} (h : i < n) (hn : n ≤ 140737488355328) : wrap64 ((i : Int) + 1) = ((i + 1 : Nat) : Int) := by unfold wrap64; omega
theorem rd_at (l : List Int) (i : Nat) (h : i < l.length) : rd l (i : Int) = l[i] := by
  unfold rd
  rw [Int.toNat_natCast, List.getD_eq_getElem?_getD, List.getElem?_eq_getElem h]
  rfl
theorem drop_at {α : Type} (l : List α) (i : Nat) (h : i < l.length) : l.drop i = l[i] :: l.drop (i + 1) := List.drop_eq_getElem_cons h
theorem lt_cast {i n : Nat} (h : i < n) : (i : Int) < (n : Int) := by omega
theorem drop_eq {α : Type} (a b : List α) (i : Nat) (h : i < a.length) (h2 : i < b.length) : (a.drop i = b.drop i) ↔ (a[i] = b[i] ∧ a.drop (i + 1) = b.drop (i + 1)) := by
  rw [drop_at a i h, drop_at b i h2, List.cons.injEq]
theorem drop_all {α : Type} (l : List α) (i : Nat) (h : i < l.length) (p : α → Bool) : (l.drop i).all p = (p l[i] && (l.drop (i + 1)).all p) := by
  rw [drop_at l i h, List.all_cons]
theorem drop_end {α : Type} (l : List α) (i : Nat) (h : l.length ≤ i) : l.drop i = [] := List.drop_of_length_le h
theorem drop_dec {α : Type} [DecidableEq α] (a b : List α) (i : Nat) (h : i < a.length) (h2 : i < b.length) : decide (a.drop i = b.drop i) = (decide (a[i] = b[i]) && decide (a.drop (i + 1) = b.drop (i + 1))) := by
  rw [← Bool.decide_and]
  exact decide_eq_decide.mpr (drop_eq a b i h h2)
theorem inRange_eq (a b c : Int) : spec_inRange.f a b c = some (decide (b ≤ a ∧ a ≤ c)) := by
  unfold spec_inRange.f
  by_cases h1 : b ≤ a <;> by_cases h2 : a ≤ c <;> simp [h1, h2]
def vt (t : S38) : Prop := 0 ≤ t.f0 ∧ t.f0 ≤ 99 ∧ 0 ≤ t.f1 ∧ t.f1 ≤ 99
def tb (a b : S38) : Prop := a.f0 < b.f0 ∨ (a.f0 = b.f0 ∧ a.f1 < b.f1)
def tle (a b : S38) : Prop := a.f0 ≤ b.f0 ∧ a.f1 ≤ b.f1
instance (t : S38) : Decidable (vt t) := by unfold vt; infer_instance
instance (a b : S38) : Decidable (tb a b) := by unfold tb; infer_instance
instance (a b : S38) : Decidable (tle a b) := by unfold tle; infer_instance
def gT (f : List S38) (j : Nat) : S38 := rd_T38 f (j : Int)
theorem gT_at (f : List S38) (j : Nat) (h : j < f.length) : gT f j = f[j] := by
  unfold gT rd_T38
  rw [Int.toNat_natCast, List.getD_eq_getElem?_getD, List.getElem?_eq_getElem h]
  rfl
theorem rdT_cast (f : List S38) (j : Nat) : rd_T38 f (j : Int) = gT f j := rfl
theorem tb_trans {a b c : S38} (h : tb a b) (k : tb b c) : tb a c := by unfold tb at *; omega
theorem tb_not_le {a b : S38} (h : tb a b) : ¬ tle b a := by unfold tb at h; unfold tle; omega
theorem S_ext {a b : S38} (h0 : a.f0 = b.f0) (h1 : a.f1 = b.f1) : a = b := by
  cases a; cases b; simp_all
/-- The frontier's own law, at each place: what the reference asks, and what the program asks. -/
def okS (f : List S38) (j : Nat) : Prop := vt (gT f j) ∧ (0 < j → tb (gT f (j - 1)) (gT f j)) ∧ ∀ k, k < j → ¬ tle (gT f k) (gT f j)
def okI (f : List S38) (j : Nat) : Prop := vt (gT f j) ∧ (0 < j → tb (gT f (j - 1)) (gT f j)) ∧ ∀ k, k < f.length → k ≠ j → ¬ tle (gT f k) (gT f j)
def VF (f : List S38) : Prop := (∀ j, j < f.length → okS f j) ∧ f.length ≤ 100
noncomputable def vfr (f : List S38) : Bool := @decide (VF f) (Classical.propDecidable _)
theorem vfr_iff (f : List S38) : vfr f = true ↔ VF f := by unfold vfr; exact @decide_eq_true_iff _ (Classical.propDecidable _)
theorem asc_of {f : List S38} (h : ∀ j, j < f.length → 0 < j → tb (gT f (j - 1)) (gT f j)) (d : Nat) : ∀ i, i + 1 + d < f.length → tb (gT f i) (gT f (i + 1 + d)) := by
  induction d with
  | zero => intro i hi; exact h (i + 1) hi (by omega)
  | succ d ih =>
    intro i hi
    exact tb_trans (ih i (by omega)) (h (i + 1 + (d + 1)) hi (by omega))
theorem VF_iff (f : List S38) : VF f ↔ (∀ j, j < f.length → okI f j) ∧ f.length ≤ 100 := by
  constructor
  · rintro ⟨h, hl⟩
    refine ⟨fun j hj => ⟨(h j hj).1, (h j hj).2.1, fun k hk hne => ?_⟩, hl⟩
    rcases Nat.lt_or_ge k j with hlt | hge
    · exact (h j hj).2.2 k hlt
    · have := asc_of (fun j hj => (h j hj).2.1) (k - j - 1) j (by omega)
      rw [show j + 1 + (k - j - 1) = k by omega] at this
      exact tb_not_le this
  · rintro ⟨h, hl⟩
    exact ⟨fun j hj => ⟨(h j hj).1, (h j hj).2.1, fun k hk => (h j hj).2.2 k (by omega) (by omega)⟩, hl⟩
theorem bool_eq_of {r s : Bool} {p : Prop} (h : r = true ↔ p) (k : s = true ↔ p) : r = s := by
  cases r <;> cases s <;> simp_all
theorem impl_ValidTime_eq (t : S38) : impl_ValidTime.f t.f0 t.f1 = some (decide (vt t)) := by
  unfold impl_ValidTime.f vt
  by_cases h1 : t.f0 ≥ 0 <;> by_cases h2 : t.f0 ≤ 99 <;> by_cases h3 : t.f1 ≥ 0 <;> by_cases h4 : t.f1 ≤ 99 <;> simp [h1, h2, h3, h4] <;> omega
theorem impl_TimeBefore_eq (a b : S38) : impl_TimeBefore.f a.f0 a.f1 b.f0 b.f1 = some (decide (tb a b)) := by
  unfold impl_TimeBefore.f tb
  by_cases h1 : a.f0 < b.f0 <;> by_cases h2 : a.f0 = b.f0 <;> simp [h1, h2]
theorem impl_TimeLessEqual_eq (a b : S38) : impl_TimeLessEqual.f a.f0 a.f1 b.f0 b.f1 = some (decide (tle a b)) := by
  unfold impl_TimeLessEqual.f tle
  by_cases h1 : a.f0 ≤ b.f0 <;> simp [h1]
theorem impl_vf_inner (f : List S38) (hn : f.length ≤ 140737488355328) (i : Nat) (hi : i < f.length) (r1 : Bool) (h1 : Ev (fun k => impl_ValidFrontier.l0 k f f (f.length : Int) ((i + 1 : Nat) : Int)) r1) (d : Nat) : ∀ (j : Nat), j + d = f.length →
    ∃ r, Ev (fun k => impl_ValidFrontier.l1 k f (i : Int) f (f.length : Int) (i : Int) f (f.length : Int) (j : Int) (gT f i).f0 (gT f i).f1) r ∧ (r = true ↔ (∀ k, j ≤ k → k < f.length → k ≠ i → ¬ tle (gT f k) (gT f i)) ∧ r1 = true) := by
  induction d with
  | zero =>
    intro j hj
    refine ⟨r1, ?_, ⟨fun h => ⟨fun k a b => by omega, h⟩, fun h => h.2⟩⟩
    refine Ev.step (fun k => by rw [impl_ValidFrontier.l1]) ?_
    refine ev_else (by omega) ?_
    rw [w64s hi hn]
    exact h1
  | succ d ih =>
    intro j hj
    have hjl : j < f.length := by omega
    obtain ⟨r, er, hr⟩ := ih (j + 1) (by omega)
    by_cases eq : j = i
    · refine ⟨r, ?_, ?_⟩
      · refine Ev.step (fun k => by rw [impl_ValidFrontier.l1]) ?_
        refine ev_if (by omega) (ev_if (by omega) (ev_if (by omega) (ev_if (by omega) ?_)))
        rw [w64s hjl hn]
        exact er
      · rw [hr]
        constructor
        · rintro ⟨a, b⟩
          exact ⟨fun k hk hk2 hk3 => a k (by omega) hk2 hk3, b⟩
        · rintro ⟨a, b⟩
          exact ⟨fun k hk hk2 hk3 => a k (by omega) hk2 hk3, b⟩
    · by_cases c : tle (gT f j) (gT f i)
      · refine ⟨false, ?_, ⟨fun h => (by cases h), fun h => absurd c (h.1 j (Nat.le_refl _) hjl eq)⟩⟩
        refine Ev.step (fun k => by rw [impl_ValidFrontier.l1]) ?_
        refine ev_if (by omega) (ev_if (by omega) (ev_if (by omega) (ev_else (by omega) ?_)))
        rw [rdT_cast]
        exact ev_bind0 (impl_TimeLessEqual_eq _ _) (ev_if (by simpa using c) (ev_of rfl))
      · refine ⟨r, ?_, ?_⟩
        · refine Ev.step (fun k => by rw [impl_ValidFrontier.l1]) ?_
          refine ev_if (by omega) (ev_if (by omega) (ev_if (by omega) (ev_else (by omega) ?_)))
          rw [rdT_cast]
          refine ev_bind0 (impl_TimeLessEqual_eq _ _) (ev_else (by simpa using c) ?_)
          rw [w64s hjl hn]
          exact er
        · rw [hr]
          constructor
          · rintro ⟨a, b⟩
            exact ⟨fun k hk hk2 hk3 => by
              by_cases e : k = j
              · rw [e]; exact c
              · exact a k (by omega) hk2 hk3, b⟩
          · rintro ⟨a, b⟩
            exact ⟨fun k hk hk2 hk3 => a k (by omega) hk2 hk3, b⟩
theorem impl_vf_l (f : List S38) (hn : f.length ≤ 140737488355328) (d : Nat) : ∀ (i : Nat), i + d = f.length →
    ∃ r, Ev (fun k => impl_ValidFrontier.l0 k f f (f.length : Int) (i : Int)) r ∧ (r = true ↔ (∀ j, i ≤ j → j < f.length → okI f j) ∧ f.length ≤ 100) := by
  induction d with
  | zero =>
    intro i hi
    refine ⟨decide ((f.length : Int) ≤ 100), ?_, ?_⟩
    · refine Ev.step (fun k => by rw [impl_ValidFrontier.l0]) ?_
      exact ev_else (by omega) (ev_of rfl)
    · rw [decide_eq_true_iff]
      exact ⟨fun h => ⟨fun j a b => by omega, by omega⟩, fun h => by omega⟩
  | succ d ih =>
    intro i hi
    have hlt : i < f.length := by omega
    obtain ⟨r1, e1, h1⟩ := ih (i + 1) (by omega)
    have more : ∀ p : Prop, (okI f i ↔ p) → ((p ∧ r1 = true) ↔ (∀ j, i ≤ j → j < f.length → okI f j) ∧ f.length ≤ 100) := by
      intro p hp
      rw [h1, ← hp]
      constructor
      · rintro ⟨a, b, c⟩
        exact ⟨fun j hj hj2 => by
          by_cases e : j = i
          · rw [e]; exact a
          · exact b j (by omega) hj2, c⟩
      · rintro ⟨a, c⟩
        exact ⟨a i (Nat.le_refl _) hlt, fun j hj hj2 => a j (by omega) hj2, c⟩
    by_cases v : vt (gT f i)
    · by_cases hi0 : 0 < i
      · by_cases b : tb (gT f (i - 1)) (gT f i)
        · obtain ⟨r, er, hr⟩ := impl_vf_inner f hn i hlt r1 e1 f.length 0 (by omega)
          refine ⟨r, ?_, ?_⟩
          · refine Ev.step (fun k => by rw [impl_ValidFrontier.l0]) ?_
            rw [rdT_cast]
            refine ev_if (by omega) (ev_if (by omega) (ev_if (by omega) (ev_bind0 (impl_ValidTime_eq _) ?_)))
            refine ev_if (by simpa using v) (ev_if (by omega) ?_)
            rw [w64 (n := (i : Int) - 1) (by omega) (by omega), show (i : Int) - 1 = ((i - 1 : Nat) : Int) by omega, rdT_cast]
            refine ev_if (by omega) (ev_if (by omega) (ev_bind0 (impl_TimeBefore_eq _ _) ?_))
            refine Ev.step (fun k => by rw [impl_ValidFrontier.j1]) ?_
            exact ev_else (by simpa using b) er
          · rw [hr]
            refine more _ ⟨fun h => fun k _ hk hk2 => h.2.2 k hk hk2, fun h => ⟨v, fun _ => b, fun k hk hk2 => h k (Nat.zero_le _) hk hk2⟩⟩
        · refine ⟨false, ?_, ⟨fun h => (by cases h), fun h => absurd ((h.1 i (Nat.le_refl _) hlt).2.1 hi0) b⟩⟩
          refine Ev.step (fun k => by rw [impl_ValidFrontier.l0]) ?_
          rw [rdT_cast]
          refine ev_if (by omega) (ev_if (by omega) (ev_if (by omega) (ev_bind0 (impl_ValidTime_eq _) ?_)))
          refine ev_if (by simpa using v) (ev_if (by omega) ?_)
          rw [w64 (n := (i : Int) - 1) (by omega) (by omega), show (i : Int) - 1 = ((i - 1 : Nat) : Int) by omega, rdT_cast]
          refine ev_if (by omega) (ev_if (by omega) (ev_bind0 (impl_TimeBefore_eq _ _) ?_))
          refine Ev.step (fun k => by rw [impl_ValidFrontier.j1]) ?_
          exact ev_if (by simpa using b) (ev_of rfl)
      · obtain ⟨r, er, hr⟩ := impl_vf_inner f hn i hlt r1 e1 f.length 0 (by omega)
        refine ⟨r, ?_, ?_⟩
        · refine Ev.step (fun k => by rw [impl_ValidFrontier.l0]) ?_
          rw [rdT_cast]
          refine ev_if (by omega) (ev_if (by omega) (ev_if (by omega) (ev_bind0 (impl_ValidTime_eq _) ?_)))
          refine ev_if (by simpa using v) (ev_else (by omega) ?_)
          refine Ev.step (fun k => by rw [impl_ValidFrontier.j1]) ?_
          exact ev_else (by simp) er
        · rw [hr]
          refine more _ ⟨fun h => fun k _ hk hk2 => h.2.2 k hk hk2, fun h => ⟨v, fun h0 => absurd h0 hi0, fun k hk hk2 => h k (Nat.zero_le _) hk hk2⟩⟩
    · refine ⟨false, ?_, ⟨fun h => (by cases h), fun h => absurd (h.1 i (Nat.le_refl _) hlt).1 v⟩⟩
      refine Ev.step (fun k => by rw [impl_ValidFrontier.l0]) ?_
      rw [rdT_cast]
      refine ev_if (by omega) (ev_if (by omega) (ev_if (by omega) (ev_bind0 (impl_ValidTime_eq _) ?_)))
      refine ev_else (by simpa using v) ?_
      refine Ev.step (fun k => by rw [impl_ValidFrontier.j1]) ?_
      exact ev_if rfl (ev_of rfl)
theorem impl_ValidFrontier_ev (f : List S38) (hn : f.length ≤ 140737488355328) : Ev (fun k => impl_ValidFrontier.f k f) (vfr f) := by
  unfold impl_ValidFrontier.f
  obtain ⟨r, er, hr⟩ := impl_vf_l f hn f.length 0 (by omega)
  refine ev_to er (bool_eq_of hr ?_)
  rw [vfr_iff, VF_iff]
  exact ⟨fun h => ⟨fun j _ hj => h.1 j hj, h.2⟩, fun h => ⟨fun j hj => h.1 j (Nat.zero_le _) hj, h.2⟩⟩
theorem spec_validTime_eq (t : S38) : spec_validTime.f t.f0 t.f1 = some (decide (vt t)) := by
  unfold spec_validTime.f vt
  simp only [inRange_eq, Option.bind_some]
  by_cases h1 : 0 ≤ t.f0 <;> by_cases h2 : t.f0 ≤ 99 <;> by_cases h3 : 0 ≤ t.f1 <;> by_cases h4 : t.f1 ≤ 99 <;> simp [h1, h2, h3, h4]
theorem spec_timeBefore_eq (a b : S38) : spec_timeBefore.f a.f0 a.f1 b.f0 b.f1 = some (decide (tb a b)) := by
  unfold spec_timeBefore.f tb
  by_cases h1 : a.f0 < b.f0 <;> by_cases h2 : a.f0 = b.f0 <;> simp [h1, h2]
theorem spec_timeLessEqual_eq (a b : S38) : spec_timeLessEqual.f a.f0 a.f1 b.f0 b.f1 = some (decide (tle a b)) := by
  unfold spec_timeLessEqual.f tle
  by_cases h1 : a.f0 ≤ b.f0 <;> simp [h1]
theorem spec_vf_inner (f : List S38) (hn : f.length ≤ 140737488355328) (i : Nat) (hi : i < f.length) (r1 : Bool) (h1 : Ev (fun k => spec_validFrontier.l0 k f ((i + 1 : Nat) : Int)) r1) (d : Nat) : ∀ (j : Nat), j + d = i →
    ∃ r, Ev (fun k => spec_validFrontier.l1 k f (i : Int) (j : Int)) r ∧ (r = true ↔ (∀ k, j ≤ k → k < i → ¬ tle (gT f k) (gT f i)) ∧ r1 = true) := by
  induction d with
  | zero =>
    intro j hj
    refine ⟨r1, ?_, ⟨fun h => ⟨fun k a b => by omega, h⟩, fun h => h.2⟩⟩
    refine Ev.step (fun k => by rw [spec_validFrontier.l1]) ?_
    refine ev_else (by omega) ?_
    rw [w64s hi hn]
    exact h1
  | succ d ih =>
    intro j hj
    obtain ⟨r, er, hr⟩ := ih (j + 1) (by omega)
    by_cases c : tle (gT f j) (gT f i)
    · refine ⟨false, ?_, ⟨fun h => (by cases h), fun h => absurd c (h.1 j (Nat.le_refl _) (by omega))⟩⟩
      refine Ev.step (fun k => by rw [spec_validFrontier.l1]) ?_
      refine ev_if (by omega) (ev_if (by omega) (ev_if (by omega) (ev_if (by omega) (ev_if (by omega) ?_))))
      rw [rdT_cast, rdT_cast]
      exact ev_bind0 (spec_timeLessEqual_eq _ _) (ev_if (by simpa using c) (ev_of rfl))
    · refine ⟨r, ?_, ?_⟩
      · refine Ev.step (fun k => by rw [spec_validFrontier.l1]) ?_
        refine ev_if (by omega) (ev_if (by omega) (ev_if (by omega) (ev_if (by omega) (ev_if (by omega) ?_))))
        rw [rdT_cast, rdT_cast]
        refine ev_bind0 (spec_timeLessEqual_eq _ _) (ev_else (by simpa using c) ?_)
        rw [w64s (i := j) (n := i) (by omega) (by omega)]
        exact er
      · rw [hr]
        constructor
        · rintro ⟨a, b⟩
          exact ⟨fun k hk hk2 => by
            by_cases e : k = j
            · rw [e]; exact c
            · exact a k (by omega) hk2, b⟩
        · rintro ⟨a, b⟩
          exact ⟨fun k hk hk2 => a k (by omega) hk2, b⟩
theorem spec_vf_l (f : List S38) (hn : f.length ≤ 140737488355328) (d : Nat) : ∀ (i : Nat), i + d = f.length →
    ∃ r, Ev (fun k => spec_validFrontier.l0 k f (i : Int)) r ∧ (r = true ↔ (∀ j, i ≤ j → j < f.length → okS f j) ∧ f.length ≤ 100) := by
  induction d with
  | zero =>
    intro i hi
    refine ⟨decide ((f.length : Int) ≤ 100), ?_, ?_⟩
    · refine Ev.step (fun k => by rw [spec_validFrontier.l0]) ?_
      exact ev_else (by omega) (ev_of rfl)
    · rw [decide_eq_true_iff]
      exact ⟨fun h => ⟨fun j a b => by omega, by omega⟩, fun h => by omega⟩
  | succ d ih =>
    intro i hi
    have hlt : i < f.length := by omega
    obtain ⟨r1, e1, h1⟩ := ih (i + 1) (by omega)
    have more : ∀ p : Prop, (okS f i ↔ p) → ((p ∧ r1 = true) ↔ (∀ j, i ≤ j → j < f.length → okS f j) ∧ f.length ≤ 100) := by
      intro p hp
      rw [h1, ← hp]
      constructor
      · rintro ⟨a, b, c⟩
        exact ⟨fun j hj hj2 => by
          by_cases e : j = i
          · rw [e]; exact a
          · exact b j (by omega) hj2, c⟩
      · rintro ⟨a, c⟩
        exact ⟨a i (Nat.le_refl _) hlt, fun j hj hj2 => a j (by omega) hj2, c⟩
    by_cases v : vt (gT f i)
    · by_cases hi0 : 0 < i
      · by_cases b : tb (gT f (i - 1)) (gT f i)
        · obtain ⟨r, er, hr⟩ := spec_vf_inner f hn i hlt r1 e1 i 0 (by omega)
          refine ⟨r, ?_, ?_⟩
          · refine Ev.step (fun k => by rw [spec_validFrontier.l0]) ?_
            rw [rdT_cast]
            refine ev_if (by omega) (ev_if (by omega) (ev_bind0 (spec_validTime_eq _) ?_))
            refine ev_if (by simpa using v) (ev_if (by omega) ?_)
            rw [w64 (n := (i : Int) - 1) (by omega) (by omega), show (i : Int) - 1 = ((i - 1 : Nat) : Int) by omega, rdT_cast]
            refine ev_if (by omega) (ev_if (by omega) (ev_bind0 (spec_timeBefore_eq _ _) ?_))
            refine Ev.step (fun k => by rw [spec_validFrontier.j1]) ?_
            exact ev_else (by simpa using b) er
          · rw [hr]
            refine more _ ⟨fun h => fun k _ hk => h.2.2 k hk, fun h => ⟨v, fun _ => b, fun k hk => h k (Nat.zero_le _) hk⟩⟩
        · refine ⟨false, ?_, ⟨fun h => (by cases h), fun h => absurd ((h.1 i (Nat.le_refl _) hlt).2.1 hi0) b⟩⟩
          refine Ev.step (fun k => by rw [spec_validFrontier.l0]) ?_
          rw [rdT_cast]
          refine ev_if (by omega) (ev_if (by omega) (ev_bind0 (spec_validTime_eq _) ?_))
          refine ev_if (by simpa using v) (ev_if (by omega) ?_)
          rw [w64 (n := (i : Int) - 1) (by omega) (by omega), show (i : Int) - 1 = ((i - 1 : Nat) : Int) by omega, rdT_cast]
          refine ev_if (by omega) (ev_if (by omega) (ev_bind0 (spec_timeBefore_eq _ _) ?_))
          refine Ev.step (fun k => by rw [spec_validFrontier.j1]) ?_
          exact ev_if (by simpa using b) (ev_of rfl)
      · obtain ⟨r, er, hr⟩ := spec_vf_inner f hn i hlt r1 e1 i 0 (by omega)
        refine ⟨r, ?_, ?_⟩
        · refine Ev.step (fun k => by rw [spec_validFrontier.l0]) ?_
          rw [rdT_cast]
          refine ev_if (by omega) (ev_if (by omega) (ev_bind0 (spec_validTime_eq _) ?_))
          refine ev_if (by simpa using v) (ev_else (by omega) ?_)
          refine Ev.step (fun k => by rw [spec_validFrontier.j1]) ?_
          exact ev_else (by simp) er
        · rw [hr]
          refine more _ ⟨fun h => fun k _ hk => h.2.2 k hk, fun h => ⟨v, fun h0 => absurd h0 hi0, fun k hk => h k (Nat.zero_le _) hk⟩⟩
    · refine ⟨false, ?_, ⟨fun h => (by cases h), fun h => absurd (h.1 i (Nat.le_refl _) hlt).1 v⟩⟩
      refine Ev.step (fun k => by rw [spec_validFrontier.l0]) ?_
      rw [rdT_cast]
      refine ev_if (by omega) (ev_if (by omega) (ev_bind0 (spec_validTime_eq _) ?_))
      refine ev_else (by simpa using v) ?_
      refine Ev.step (fun k => by rw [spec_validFrontier.j1]) ?_
      exact ev_if rfl (ev_of rfl)
theorem spec_validFrontier_ev (f : List S38) (hn : f.length ≤ 140737488355328) : Ev (fun k => spec_validFrontier.f k f) (vfr f) := by
  unfold spec_validFrontier.f
  obtain ⟨r, er, hr⟩ := spec_vf_l f hn f.length 0 (by omega)
  refine ev_to er (bool_eq_of hr ?_)
  rw [vfr_iff]
  exact ⟨fun h => ⟨fun j _ hj => h.1 j hj, h.2⟩, fun h => ⟨fun j hj => h.1 j (Nat.zero_le _) hj, h.2⟩⟩
def jn (a b : S38) : S38 := ⟨mx a.f0 b.f0, mx a.f1 b.f1⟩
def mt (a b : S38) : S38 := ⟨mn a.f0 b.f0, mn a.f1 b.f1⟩
def advF (t o : S38) (f : List S38) : S38 := f.foldl (fun o e => mt o (jn t e)) o
def adv (t : S38) : List S38 → S38
  | [] => t
  | e :: r => advF t (jn t e) r
noncomputable def advT (t : S38) (f : List S38) : S38 := if vfr f && decide (vt t) then adv t f else t
theorem spec_timeJoin_eq (a b : S38) : spec_timeJoin.f a.f0 a.f1 b.f0 b.f1 = some ((jn a b).f0, (jn a b).f1) := rfl
theorem spec_timeMeet_eq (a b : S38) : spec_timeMeet.f a.f0 a.f1 b.f0 b.f1 = some ((mt a b).f0, (mt a b).f1) := rfl
theorem spec_advance_l (t : S38) (f : List S38) (hn : f.length ≤ 140737488355328) (d : Nat) : ∀ (i : Nat) (o : S38), i + d = f.length → Ev (fun k => spec_advance.l0 k f (i : Int) t.f0 t.f1 o.f0 o.f1) ((advF t o (f.drop i)).f0, (advF t o (f.drop i)).f1) := by
  induction d with
  | zero =>
    intro i o hi
    refine Ev.step (fun k => by rw [spec_advance.l0]) ?_
    exact ev_else (by omega) (ev_of (by rw [drop_end f i (by omega)]; rfl))
  | succ d ih =>
    intro i o hi
    have hlt : i < f.length := by omega
    refine Ev.step (fun k => by rw [spec_advance.l0]) ?_
    rw [rdT_cast, gT_at f i hlt, drop_at f i hlt]
    refine ev_if (by omega) (ev_if (by omega) (ev_bind0 (spec_timeJoin_eq t f[i]) (ev_bind0 (spec_timeMeet_eq o (jn t f[i])) ?_)))
    rw [w64s hlt hn]
    exact ih (i + 1) (mt o (jn t f[i])) (by omega)
theorem spec_advance_ev (t : S38) (f : List S38) (hn : f.length ≤ 140737488355328) : Ev (fun k => spec_advance.f k t.f0 t.f1 f) ((adv t f).f0, (adv t f).f1) := by
  unfold spec_advance.f
  cases f with
  | nil => exact ev_if rfl (ev_of rfl)
  | cons e r =>
    refine ev_else (by first | (simp; done) | (simp; omega)) (ev_if (by first | (simp; done) | (simp; omega)) ?_)
    refine ev_bind0 (spec_timeJoin_eq t e) ?_
    exact spec_advance_l t (e :: r) hn r.length 1 (jn t e) (by simp; omega)
theorem spec_AdvanceTime_ev (t : S38) (f : List S38) (hn : f.length ≤ 140737488355328) : Ev (fun k => spec_AdvanceTime.f k t.f0 t.f1 f) ((advT t f).f0, (advT t f).f1) := by
  unfold spec_AdvanceTime.f advT
  refine Ev.bind (spec_validFrontier_ev f hn) ?_
  by_cases h : vfr f = true
  · refine ev_if h (ev_bind0 (spec_validTime_eq t) ?_)
    by_cases v : vt t
    · refine ev_if (by simpa using v) (Ev.bind (spec_advance_ev t f hn) (ev_of ?_))
      rw [if_pos (by simp [h, v])]
    · refine ev_else (by simpa using v) (ev_of ?_)
      rw [if_neg (by simp [v])]
  · refine ev_else h (ev_of ?_)
    rw [if_neg (by simp [h])]
theorem impl_TimeJoin_eq (a b : S38) : impl_TimeJoin.f a.f0 a.f1 b.f0 b.f1 = some ((jn a b).f0, (jn a b).f1) := rfl
theorem impl_TimeMeet_eq (a b : S38) : impl_TimeMeet.f a.f0 a.f1 b.f0 b.f1 = some ((mt a b).f0, (mt a b).f1) := rfl
theorem impl_advance_l (t : S38) (f : List S38) (hn : f.length ≤ 140737488355328) (d : Nat) : ∀ (i : Nat) (o : S38), i + d = f.length → Ev (fun k => impl_AdvanceTime.l0 k f (f.length : Int) (i : Int) t.f0 t.f1 o.f0 o.f1) ((advF t o (f.drop i)).f0, (advF t o (f.drop i)).f1) := by
  induction d with
  | zero =>
    intro i o hi
    refine Ev.step (fun k => by rw [impl_AdvanceTime.l0]) ?_
    exact ev_else (by omega) (ev_of (by rw [drop_end f i (by omega)]; rfl))
  | succ d ih =>
    intro i o hi
    have hlt : i < f.length := by omega
    refine Ev.step (fun k => by rw [impl_AdvanceTime.l0]) ?_
    rw [rdT_cast, gT_at f i hlt, drop_at f i hlt]
    refine ev_if (by omega) (ev_if (by omega) (ev_if (by omega) (ev_bind0 (impl_TimeJoin_eq t f[i]) (ev_bind0 (impl_TimeMeet_eq o (jn t f[i])) ?_))))
    rw [w64s hlt hn]
    exact ih (i + 1) (mt o (jn t f[i])) (by omega)
theorem impl_AdvanceTime_ev (t : S38) (f : List S38) (hn : f.length ≤ 140737488355328) : Ev (fun k => impl_AdvanceTime.f k t.f0 t.f1 f) ((advT t f).f0, (advT t f).f1) := by
  unfold impl_AdvanceTime.f
  cases f with
  | nil =>
    refine ev_if rfl (Ev.step (fun k => by rw [impl_AdvanceTime.j0]) ?_)
    refine ev_if rfl (ev_of ?_)
    unfold advT; split <;> rfl
  | cons e r =>
    refine ev_else (by first | (simp; done) | (simp; omega)) (Ev.bind (impl_ValidFrontier_ev (e :: r) hn) ?_)
    unfold advT
    by_cases h : vfr (e :: r) = true
    · refine ev_if h (ev_bind0 (impl_ValidTime_eq t) ?_)
      refine Ev.step (fun k => by rw [impl_AdvanceTime.j0]) ?_
      by_cases v : vt t
      · refine ev_else (by simp [v]) ?_
        refine ev_if (by first | (simp; done) | (simp; omega)) (ev_bind0 (impl_TimeJoin_eq t e) ?_)
        refine ev_if (by first | (simp; done) | (simp; omega)) (ev_bind0 rfl ?_)
        rw [if_pos (by simp [h, v])]
        exact impl_advance_l t r (by simp at hn; omega) r.length 0 (jn t e) (by omega)
      · refine ev_if (by simp [v]) (ev_of ?_)
        rw [if_neg (by simp [v])]
    · refine ev_else h (Ev.step (fun k => by rw [impl_AdvanceTime.j0]) ?_)
      refine ev_if rfl (ev_of ?_)
      rw [if_neg (by simp [h])]
def cov (f : List S38) (t : S38) : Bool := f.any (fun u => decide (tle u t))
theorem drop_any {α : Type} (l : List α) (i : Nat) (h : i < l.length) (p : α → Bool) : (l.drop i).any p = (p l[i] || (l.drop (i + 1)).any p) := by
  rw [drop_at l i h, List.any_cons]
theorem spec_covers_l (f : List S38) (t : S38) (hn : f.length ≤ 140737488355328) (d : Nat) : ∀ (i : Nat), i + d = f.length → Ev (fun k => spec_covers.l0 k f (i : Int) t.f0 t.f1) ((f.drop i).any (fun u => decide (tle u t))) := by
  induction d with
  | zero =>
    intro i hi
    refine Ev.step (fun k => by rw [spec_covers.l0]) ?_
    exact ev_else (by omega) (ev_of (by rw [drop_end f i (by omega)]; rfl))
  | succ d ih =>
    intro i hi
    have hlt : i < f.length := by omega
    refine Ev.step (fun k => by rw [spec_covers.l0]) ?_
    rw [rdT_cast, gT_at f i hlt, drop_any f i hlt]
    refine ev_if (by omega) (ev_if (by omega) (ev_bind0 (spec_timeLessEqual_eq _ _) ?_))
    by_cases c : tle f[i] t
    · exact ev_if (by simpa using c) (ev_of (by simp [c]))
    · refine ev_else (by simpa using c) ?_
      rw [w64s hlt hn]
      refine ev_to (ih (i + 1) (by omega)) ?_
      simp [c]
theorem spec_covers_ev (f : List S38) (t : S38) (hn : f.length ≤ 140737488355328) : Ev (fun k => spec_covers.f k f t.f0 t.f1) (cov f t) := by
  unfold spec_covers.f
  exact spec_covers_l f t hn f.length 0 (by omega)
theorem advF_le (t : S38) (r : List S38) : ∀ o : S38, (advF t o r).f0 ≤ o.f0 ∧ (advF t o r).f1 ≤ o.f1 ∧ (∀ e ∈ r, (advF t o r).f0 ≤ mx t.f0 e.f0 ∧ (advF t o r).f1 ≤ mx t.f1 e.f1) ∧
    ((advF t o r).f0 = o.f0 ∨ ∃ e ∈ r, (advF t o r).f0 = mx t.f0 e.f0) ∧ ((advF t o r).f1 = o.f1 ∨ ∃ e ∈ r, (advF t o r).f1 = mx t.f1 e.f1) := by
  induction r with
  | nil => exact fun o => ⟨Int.le_refl _, Int.le_refl _, fun e he => (by cases he), .inl rfl, .inl rfl⟩
  | cons e r ih =>
    intro o
    obtain ⟨h0, h1, h2, h3, h4⟩ := ih (mt o (jn t e))
    have m0 : (mt o (jn t e)).f0 = mn o.f0 (mx t.f0 e.f0) := rfl
    have m1 : (mt o (jn t e)).f1 = mn o.f1 (mx t.f1 e.f1) := rfl
    have u : advF t o (e :: r) = advF t (mt o (jn t e)) r := rfl
    rw [u]
    rw [m0] at h0 h3
    rw [m1] at h1 h4
    have n0 : mn o.f0 (mx t.f0 e.f0) ≤ o.f0 ∧ mn o.f0 (mx t.f0 e.f0) ≤ mx t.f0 e.f0 ∧ (mn o.f0 (mx t.f0 e.f0) = o.f0 ∨ mn o.f0 (mx t.f0 e.f0) = mx t.f0 e.f0) := by unfold mn; split <;> omega
    have n1 : mn o.f1 (mx t.f1 e.f1) ≤ o.f1 ∧ mn o.f1 (mx t.f1 e.f1) ≤ mx t.f1 e.f1 ∧ (mn o.f1 (mx t.f1 e.f1) = o.f1 ∨ mn o.f1 (mx t.f1 e.f1) = mx t.f1 e.f1) := by unfold mn; split <;> omega
    refine ⟨by omega, by omega, fun x hx => ?_, ?_, ?_⟩
    · rcases List.mem_cons.1 hx with rfl | hx
      · exact ⟨by omega, by omega⟩
      · exact h2 x hx
    · rcases h3 with h3 | ⟨x, hx, h3⟩
      · rcases n0.2.2 with k | k
        · exact .inl (by omega)
        · exact .inr ⟨e, List.mem_cons_self, by omega⟩
      · exact .inr ⟨x, List.mem_cons_of_mem _ hx, h3⟩
    · rcases h4 with h4 | ⟨x, hx, h4⟩
      · rcases n1.2.2 with k | k
        · exact .inl (by omega)
        · exact .inr ⟨e, List.mem_cons_self, by omega⟩
      · exact .inr ⟨x, List.mem_cons_of_mem _ hx, h4⟩
theorem adv_spec (t : S38) (f : List S38) (hne : f ≠ []) : (∀ e ∈ f, (adv t f).f0 ≤ mx t.f0 e.f0 ∧ (adv t f).f1 ≤ mx t.f1 e.f1) ∧ (∃ e ∈ f, (adv t f).f0 = mx t.f0 e.f0) ∧ (∃ e ∈ f, (adv t f).f1 = mx t.f1 e.f1) := by
  cases f with
  | nil => exact absurd rfl hne
  | cons e r =>
    obtain ⟨h0, h1, h2, h3, h4⟩ := advF_le t r (jn t e)
    have j0 : (jn t e).f0 = mx t.f0 e.f0 := rfl
    have j1 : (jn t e).f1 = mx t.f1 e.f1 := rfl
    have u : adv t (e :: r) = advF t (jn t e) r := rfl
    rw [u]
    refine ⟨fun x hx => ?_, ?_, ?_⟩
    · rcases List.mem_cons.1 hx with rfl | hx
      · exact ⟨by omega, by omega⟩
      · exact h2 x hx
    · rcases h3 with h3 | ⟨x, hx, h3⟩
      · exact ⟨e, List.mem_cons_self, by omega⟩
      · exact ⟨x, List.mem_cons_of_mem _ hx, h3⟩
    · rcases h4 with h4 | ⟨x, hx, h4⟩
      · exact ⟨e, List.mem_cons_self, by omega⟩
      · exact ⟨x, List.mem_cons_of_mem _ hx, h4⟩
theorem mx_ge (a b : Int) : a ≤ mx a b ∧ b ≤ mx a b ∧ (mx a b = a ∨ mx a b = b) := by unfold mx; split <;> omega
theorem adv_ge (t : S38) (f : List S38) : tle t (adv t f) := by
  cases f with
  | nil => exact ⟨Int.le_refl _, Int.le_refl _⟩
  | cons e r =>
    obtain ⟨_, ⟨x, _, h0⟩, ⟨y, _, h1⟩⟩ := adv_spec t (e :: r) (by simp)
    have := mx_ge t.f0 x.f0
    have := mx_ge t.f1 y.f1
    exact ⟨by omega, by omega⟩
theorem adv_valid (t : S38) (f : List S38) (ht : vt t) (hf : ∀ e ∈ f, vt e) : vt (adv t f) := by
  cases f with
  | nil => exact ht
  | cons e r =>
    obtain ⟨_, ⟨x, hx, h0⟩, ⟨y, hy, h1⟩⟩ := adv_spec t (e :: r) (by simp)
    have a := mx_ge t.f0 x.f0
    have b := mx_ge t.f1 y.f1
    have vx := hf x hx
    have vy := hf y hy
    unfold vt at *
    omega
theorem adv_idem (t : S38) (f : List S38) : adv (adv t f) f = adv t f := by
  cases f with
  | nil => rfl
  | cons e r =>
    obtain ⟨a0, ⟨x, hx, h0⟩, ⟨y, hy, h1⟩⟩ := adv_spec t (e :: r) (by simp)
    obtain ⟨b0, _, _⟩ := adv_spec (adv t (e :: r)) (e :: r) (by simp)
    have ge := adv_ge (adv t (e :: r)) (e :: r)
    have bx := b0 x hx
    have by_ := b0 y hy
    have m1 := mx_ge t.f0 x.f0
    have m2 := mx_ge t.f1 y.f1
    have m3 := mx_ge (adv t (e :: r)).f0 x.f0
    have m4 := mx_ge (adv t (e :: r)).f1 y.f1
    unfold tle at ge
    exact S_ext (by omega) (by omega)
theorem adv_same (t s : S38) (f : List S38) (hc : cov f s = true) : tle t s ↔ tle (adv t f) s := by
  constructor
  · intro h
    unfold cov at hc
    rw [List.any_eq_true] at hc
    obtain ⟨e, he, h2⟩ := hc
    have h2 := of_decide_eq_true h2
    have hne : f ≠ [] := List.ne_nil_of_mem he
    have a := (adv_spec t f hne).1 e he
    have m1 := mx_ge t.f0 e.f0
    have m2 := mx_ge t.f1 e.f1
    unfold tle at *
    omega
  · intro h
    have := adv_ge t f
    unfold tle at *
    omega
theorem xor_small (a b : Nat) (ha : a < 2 ^ 40) (hb : b < 2 ^ 40) : 0 ≤ Go.bits .xor .i64 (a : Int) (b : Int) := by
  have hx : a ^^^ b < 2 ^ 40 := Nat.xor_lt_two_pow ha hb
  have h1 : (BitVec.ofInt 64 (a : Int)).toNat = a := by
    rw [BitVec.ofInt_natCast, BitVec.toNat_ofNat]; exact Nat.mod_eq_of_lt (by omega)
  have h2 : (BitVec.ofInt 64 (b : Int)).toNat = b := by
    rw [BitVec.ofInt_natCast, BitVec.toNat_ofNat]; exact Nat.mod_eq_of_lt (by omega)
  have e : Go.bits .xor .i64 (a : Int) (b : Int) = ((a ^^^ b : Nat) : Int) := by
    show IntKind.i64.wrap ((BitVec.ofInt 64 (a : Int) ^^^ BitVec.ofInt 64 (b : Int)).toNat : Int) = _
    rw [BitVec.toNat_xor, h1, h2, IntKind.wrap_i64]
    omega
  rw [e]
  omega
def RB (b : List Int) : Prop := b.length ≤ 2000 ∧ ∀ x ∈ b, 0 ≤ x ∧ x ≤ 255
theorem RB.at {b : List Int} (h : RB b) (i : Int) : 0 ≤ rd b i ∧ rd b i ≤ 255 := by
  unfold rd
  rw [List.getD_eq_getElem?_getD]
  cases e : b[i.toNat]? with
  | none => simp
  | some x => exact h.2 x (List.mem_of_getElem? e)
theorem bytes_ok {l : List Int} (h : ∀ x ∈ l, (Lit.int .u8 x).wf = true) : ∀ x ∈ l, 0 ≤ x ∧ x ≤ 255 := by
  intro x hx
  have h1 := h x hx
  have m1 : IntKind.min .u8 = 0 := by decide
  have m2 : IntKind.max .u8 = 255 := by decide
  simp only [Lit.wf, Bool.and_eq_true, decide_eq_true_eq, m1, m2] at h1
  exact h1
theorem newReader_eq (l : List Int) (h : ∀ x ∈ l, (Lit.int .u8 x).wf = true) : ∃ b, spec_newReader.f l = some (b, 0) ∧ RB b := by
  have hb := bytes_ok h
  unfold spec_newReader.f
  by_cases h1 : (l.length : Int) > 2000
  · refine ⟨l.take 2000, by rw [if_pos h1, if_pos (by omega)], ?_, fun x hx => hb x (List.mem_of_mem_take hx)⟩
    rw [List.length_take]; omega
  · exact ⟨l, by rw [if_neg h1], by omega, hb⟩
theorem tmod_range {x n : Int} (hx : 0 ≤ x) (hn : 1 ≤ n) : 0 ≤ Int.tmod x n ∧ Int.tmod x n < n := by
  rw [Int.tmod_eq_emod_of_nonneg hx]
  exact ⟨Int.emod_nonneg _ (by omega), Int.emod_lt_of_pos _ (by omega)⟩
theorem pick_ev {b : List Int} {p : Int} (n : Int) (hb : RB b) (h0 : 0 ≤ p) (h1 : p ≤ 1000000) : ∃ v, Ev (fun k => spec_reader_pick.f k b p n) (v, p + 1) ∧ 0 ≤ v ∧ (1 ≤ n → v < n) ∧ (n < 1 → v = 0) := by
  have e1 : wrap64 (p + 1) = p + 1 := w64 (by omega) (by omega)
  have e2 : wrap64 (p + 1 - 1) = p := by rw [show p + 1 - 1 = p by omega]; exact w64 (by omega) (by omega)
  unfold spec_reader_pick.f
  by_cases hn : n < 1
  · refine ⟨0, ev_if hn ?_, Int.le_refl _, fun h => by omega, fun _ => rfl⟩
    refine Ev.step (fun k => by rw [spec_reader_pick.j0]) ?_
    exact ev_if rfl (ev_of (by rw [e1]))
  · by_cases hl : b.length = 0
    · refine ⟨0, ev_else hn ?_, Int.le_refl _, fun h => by omega, fun h => absurd h hn⟩
      refine Ev.step (fun k => by rw [spec_reader_pick.j0]) ?_
      exact ev_if (by simpa using hl) (ev_of (by rw [e1]))
    · rw [e1]
      by_cases hp : p < (b.length : Int)
      · have hr := hb.at p
        have e3 : wrap64 (rd b p) = rd b p := w64 (by omega) (by omega)
        have ht := tmod_range hr.1 (show 1 ≤ n by omega)
        refine ⟨Int.tmod (rd b p) n, ev_else hn ?_, ht.1, fun _ => ht.2, fun h => absurd h hn⟩
        refine Ev.step (fun k => by rw [spec_reader_pick.j0]) ?_
        rw [e2]
        refine ev_else (by simpa using hl) (ev_if hp (ev_if h0 (ev_else (by omega) (ev_of ?_))))
        rw [e3]
      · have hlen : 1 ≤ (b.length : Int) := by omega
        have hle : (b.length : Int) ≤ 2000 := by have := hb.1; omega
        have m1 := tmod_range h0 hlen
        have e4 : wrap64 (p * 7) = p * 7 := w64 (by omega) (by omega)
        have e5 : wrap64 (p * 7 + 3) = p * 7 + 3 := w64 (by omega) (by omega)
        have m2 := tmod_range (show 0 ≤ p * 7 + 3 by omega) hlen
        have ra := hb.at (Int.tmod p (b.length : Int))
        have rb := hb.at (Int.tmod (p * 7 + 3) (b.length : Int))
        have hd : 0 ≤ Int.tdiv p (b.length : Int) ∧ Int.tdiv p (b.length : Int) ≤ p := by
          rw [Int.tdiv_eq_ediv_of_nonneg h0]
          exact ⟨Int.ediv_nonneg h0 (by omega), Int.ediv_le_self _ h0⟩
        generalize hA : rd b (Int.tmod p (b.length : Int)) = A at ra
        generalize hB : rd b (Int.tmod (p * 7 + 3) (b.length : Int)) = B at rb
        generalize hD : Int.tdiv p (b.length : Int) = D at hd
        obtain ⟨X, hX⟩ : ∃ X : Nat, (X : Int) = A * 131 + B * 1117 + p * 29 + D * 53 := ⟨(A * 131 + B * 1117 + p * 29 + D * 53).toNat, by omega⟩
        have e6 : wrap64 (wrap64 (wrap64 (wrap64 (wrap64 A * 131) + wrap64 (wrap64 B * 1117)) + wrap64 (p * 29)) + wrap64 (wrap64 D * 53)) = (X : Int) := by
          rw [w64 (n := A) (by omega) (by omega), w64 (n := B) (by omega) (by omega), w64 (n := D) (by omega) (by omega), w64 (n := A * 131) (by omega) (by omega), w64 (n := B * 1117) (by omega) (by omega), w64 (n := p * 29) (by omega) (by omega), w64 (n := D * 53) (by omega) (by omega),
            w64 (n := A * 131 + B * 1117) (by omega) (by omega), w64 (n := A * 131 + B * 1117 + p * 29) (by omega) (by omega), w64 (by omega) (by omega), hX]
        have e7 : Int.tdiv (X : Int) 64 = ((X / 64 : Nat) : Int) := by rw [Int.tdiv_eq_ediv_of_nonneg (by omega)]; rfl
        have e8 : wrap64 ((X / 64 : Nat) : Int) = ((X / 64 : Nat) : Int) := w64 (by omega) (by omega)
        have hX1 : X ≤ 1000000000 := by omega
        have hX2 : X / 64 ≤ X := Nat.div_le_self _ _
        have hx := xor_small X (X / 64) (Nat.lt_of_le_of_lt hX1 (by decide)) (Nat.lt_of_le_of_lt (Nat.le_trans hX2 hX1) (by decide))
        have ht := tmod_range hx (show 1 ≤ n by omega)
        refine ⟨Int.tmod (Go.bits .xor .i64 (X : Int) ((X / 64 : Nat) : Int)) n, ev_else hn ?_, ht.1, fun _ => ht.2, fun h => absurd h hn⟩
        refine Ev.step (fun k => by rw [spec_reader_pick.j0]) ?_
        rw [e2]
        refine ev_else (by simpa using hl) (ev_else hp (ev_else (by omega) (ev_if m1.1 (ev_if m1.2 ?_))))
        rw [e4, e5]
        refine ev_if m2.1 (ev_if m2.2 (ev_else (by omega) (ev_of ?_)))
        rw [hA, hB, hD, e6, e7, e8]
/-- pick, met in a run: go on with any value of its range. -/
theorem Ev.pick {β : Type} {b : List Int} {p n : Int} {f : Nat → Int × Int → Option β} {R : β → Prop} (hb : RB b) (h0 : 0 ≤ p) (h1 : p ≤ 1000000)
    (h : ∀ v, 0 ≤ v → (1 ≤ n → v < n) → (n < 1 → v = 0) → ∃ r, Ev (fun k => f k (v, p + 1)) r ∧ R r) : ∃ r, Ev (fun k => (spec_reader_pick.f k b p n).bind (f k)) r ∧ R r := by
  obtain ⟨v, e, a1, a2, a3⟩ := pick_ev n hb h0 h1
  obtain ⟨r, er, hr⟩ := h v a1 a2 a3
  exact ⟨r, Ev.bind e er, hr⟩
theorem one_ev {b : List Int} {p : Int} (l : List Int) (hl : 1 ≤ l.length) (hb : RB b) (h0 : 0 ≤ p) (h1 : p ≤ 1000000) : ∃ v, Ev (fun k => spec_reader_one.f k b p l) (v, p + 1) ∧ v ∈ l := by
  obtain ⟨v, e, a1, a2, _⟩ := pick_ev (l.length : Int) hb h0 h1
  have hv := a2 (by omega)
  obtain ⟨i, rfl⟩ := Int.eq_ofNat_of_zero_le a1
  have hi : i < l.length := by omega
  refine ⟨l[i], ?_, List.getElem_mem hi⟩
  unfold spec_reader_one.f
  refine Ev.bind e (ev_if (by simp) (ev_if (by simpa using hi) (ev_of ?_)))
  show some (rd l (i : Int), p + 1) = _
  rw [rd_at l i hi]
theorem randomTime_ev {b : List Int} {p : Int} (hb : RB b) (h0 : 0 ≤ p) (h1 : p ≤ 900000) : ∃ t : S38, Ev (fun k => spec_randomTime.f k b p) (t.f0, t.f1, p + 2) ∧ vt t ∧ t.f0 ≤ 4 ∧ t.f1 ≤ 4 := by
  obtain ⟨v, e, a1, a2, _⟩ := pick_ev (b := b) 5 hb h0 (by omega)
  obtain ⟨u, eu, b1, b2, _⟩ := pick_ev (b := b) (p := p + 1) 5 hb (by omega) (by omega)
  have a2 := a2 (by omega)
  have b2 := b2 (by omega)
  refine ⟨⟨v, u⟩, ?_, by unfold vt; simp only; omega, by simp only; omega, by simp only; omega⟩
  unfold spec_randomTime.f
  refine Ev.bind e (Ev.bind eu (ev_of ?_))
  show some (v, u, p + 1 + 1) = some (v, u, p + 2)
  rw [show p + 1 + 1 = p + 2 by omega]
theorem anyTime_ev {b : List Int} {p : Int} (hb : RB b) (h0 : 0 ≤ p) (h1 : p ≤ 800000) : ∃ (t : S38) (p' : Int), Ev (fun k => spec_anyTime.f k b p) (t.f0, t.f1, p') ∧ p ≤ p' ∧ p' ≤ p + 4 := by
  obtain ⟨t, et, _, _, _⟩ := randomTime_ev hb h0 (by omega)
  obtain ⟨v, e, _, _, _⟩ := pick_ev (b := b) (p := p + 2) 20 hb (by omega) (by omega)
  obtain ⟨z, ez, _⟩ := one_ev (b := b) (p := p + 2 + 1) [-1, 100, 99] (by simp) hb (by omega) (by omega)
  unfold spec_anyTime.f
  by_cases c0 : v = 0
  · exact ⟨⟨z, t.f1⟩, p + 2 + 1 + 1, Ev.bind et (Ev.bind e (ev_if c0 (Ev.bind ez (ev_of rfl)))), by omega, by omega⟩
  · by_cases c1 : v = 1
    · exact ⟨⟨t.f0, z⟩, p + 2 + 1 + 1, Ev.bind et (Ev.bind e (ev_else c0 (ev_if c1 (Ev.bind ez (ev_of rfl))))), by omega, by omega⟩
    · exact ⟨t, p + 2 + 1, Ev.bind et (Ev.bind e (ev_else c0 (ev_else c1 (ev_of rfl)))), by omega, by omega⟩
theorem DrawValidTime_ev (l : List Int) (h : ∀ x ∈ l, (Lit.int .u8 x).wf = true) : ∃ t : S38, Ev (fun k => spec_DrawValidTime.f k l) (t.f0, t.f1) := by
  obtain ⟨c, ec, hc⟩ := newReader_eq l h
  obtain ⟨t, p, et, _, _⟩ := anyTime_ev hc (p := 0) (by omega) (by omega)
  unfold spec_DrawValidTime.f
  exact ⟨t, ev_bind0 ec (Ev.bind et (ev_of rfl))⟩
theorem randomTimes_l {b : List Int} (hb : RB b) (d : Nat) : ∀ (out : List S38) (p : Int), out.length + d ≤ 1000 → 0 ≤ p → p + 2 * d ≤ 800000 → (∀ t ∈ out, vt t ∧ t.f0 ≤ 4 ∧ t.f1 ≤ 4) →
    ∃ r : List S38, Ev (fun k => spec_randomTimes.l0 k out (d : Int) b p) (r, p + 2 * d) ∧ r.length = out.length + d ∧ (∀ t ∈ r, vt t ∧ t.f0 ≤ 4 ∧ t.f1 ≤ 4) := by
  induction d with
  | zero =>
    intro out p ho hp hp2 hv
    refine ⟨out, ?_, by omega, hv⟩
    refine Ev.step (fun k => by rw [spec_randomTimes.l0]) ?_
    exact ev_else (by omega) (ev_of (by simp))
  | succ d ih =>
    intro out p ho hp hp2 hv
    obtain ⟨t, et, ht⟩ := randomTime_ev (b := b) hb hp (by push_cast at hp2; omega)
    obtain ⟨r, er, rl, rv⟩ := ih (out ++ [t]) (p + 2) (by simp; omega) (by omega) (by push_cast at hp2; omega) (fun x hx => by
      rcases List.mem_append.1 hx with h | h
      · exact hv x h
      · rw [List.mem_singleton.1 h]; exact ht)
    refine ⟨r, ?_, by simp at rl; omega, rv⟩
    refine Ev.step (fun k => by rw [spec_randomTimes.l0]) ?_
    refine ev_if (by omega) (Ev.bind et ?_)
    refine ev_if (by omega) ?_
    rw [w64 (n := ((d + 1 : Nat) : Int) - 1) (by omega) (by omega), show ((d + 1 : Nat) : Int) - 1 = (d : Int) by push_cast; omega, show p + 2 * ((d + 1 : Nat) : Int) = p + 2 + 2 * (d : Int) by push_cast; omega]
    exact er
theorem randomTimes_ev {b : List Int} {p : Int} (m : Int) (hm0 : 0 ≤ m) (hm : m ≤ 100) (hb : RB b) (h0 : 0 ≤ p) (h1 : p ≤ 700000) : ∃ (r : List S38) (p' : Int), Ev (fun k => spec_randomTimes.f k b p m) (r, p') ∧ p ≤ p' ∧ p' ≤ p + 201 ∧ (r.length : Int) ≤ m ∧ (∀ t ∈ r, vt t ∧ t.f0 ≤ 4 ∧ t.f1 ≤ 4) := by
  obtain ⟨v, e, a1, a2, _⟩ := pick_ev (b := b) (m + 1) hb h0 (by omega)
  have a2 := a2 (by omega)
  obtain ⟨d, rfl⟩ := Int.eq_ofNat_of_zero_le a1
  obtain ⟨r, er, rl, rv⟩ := randomTimes_l hb d [] (p + 1) (by simp; omega) (by omega) (by omega) (fun t ht => by cases ht)
  refine ⟨r, p + 1 + 2 * (d : Int), ?_, by omega, by omega, by simp at rl; omega, rv⟩
  unfold spec_randomTimes.f
  rw [w64 (by omega) (by omega)]
  exact Ev.bind e er
theorem insertTime_l (f : List S38) (t : S38) (hn : f.length ≤ 100000) (P : S38 → Prop) (hP : ∀ x ∈ f, P x) (ht : P t) (d : Nat) : ∀ (i : Nat) (out : List S38) (dn : Bool), i + d = f.length → out.length ≤ i + 1 → (dn = false → out.length ≤ i) → (∀ x ∈ out, P x) →
    ∃ r : List S38, Ev (fun k => spec_insertTime.l0 k f out dn (i : Int) t.f0 t.f1) r ∧ r.length ≤ f.length + 1 ∧ (∀ x ∈ r, P x) := by
  induction d with
  | zero =>
    intro i out dn hi ho ho2 hp
    cases dn with
    | true =>
      refine ⟨out, ?_, by omega, hp⟩
      refine Ev.step (fun k => by rw [spec_insertTime.l0]) ?_
      exact ev_else (by omega) (ev_if rfl (ev_of rfl))
    | false =>
      have := ho2 rfl
      refine ⟨out ++ [t], ?_, by simp; omega, fun x hx => ?_⟩
      · refine Ev.step (fun k => by rw [spec_insertTime.l0]) ?_
        refine ev_else (by omega) (ev_else (by simp) ?_)
        exact ev_if (by omega) (ev_of rfl)
      · rcases List.mem_append.1 hx with h | h
        · exact hp x h
        · rw [List.mem_singleton.1 h]; exact ht
  | succ d ih =>
    intro i out dn hi ho ho2 hp
    have hlt : i < f.length := by omega
    have hfi : P f[i] := hP _ (List.getElem_mem hlt)
    have hp1 : ∀ x ∈ out ++ [f[i]], P x := fun x hx => by
      rcases List.mem_append.1 hx with h | h
      · exact hp x h
      · rw [List.mem_singleton.1 h]; exact hfi
    by_cases c : tle t f[i]
    · obtain ⟨r, er, h⟩ := ih (i + 1) out dn (by omega) (by omega) (fun h => by have := ho2 h; omega) hp
      refine ⟨r, ?_, h⟩
      refine Ev.step (fun k => by rw [spec_insertTime.l0]) ?_
      rw [rdT_cast, gT_at f i hlt]
      refine ev_if (by omega) (ev_if (by omega) (ev_bind0 (spec_timeLessEqual_eq t f[i]) (ev_if (by simpa using c) ?_)))
      rw [w64s hlt (by omega)]
      exact er
    · cases dn with
      | true =>
        obtain ⟨r, er, h⟩ := ih (i + 1) (out ++ [f[i]]) true (by omega) (by simp; omega) (fun h => by cases h) hp1
        refine ⟨r, ?_, h⟩
        refine Ev.step (fun k => by rw [spec_insertTime.l0]) ?_
        rw [rdT_cast, gT_at f i hlt]
        refine ev_if (by omega) (ev_if (by omega) (ev_bind0 (spec_timeLessEqual_eq t f[i]) (ev_else (by simpa using c) (ev_if rfl (ev_if (by omega) ?_)))))
        rw [w64s hlt (by omega)]
        exact er
      | false =>
        have hof := ho2 rfl
        by_cases b : tb t f[i]
        · have hp2 : ∀ x ∈ (out ++ [t]) ++ [f[i]], P x := fun x hx => by
            rcases List.mem_append.1 hx with h | h
            · rcases List.mem_append.1 h with h | h
              · exact hp x h
              · rw [List.mem_singleton.1 h]; exact ht
            · rw [List.mem_singleton.1 h]; exact hfi
          obtain ⟨r, er, h⟩ := ih (i + 1) ((out ++ [t]) ++ [f[i]]) true (by omega) (by simp; omega) (fun h => by cases h) hp2
          refine ⟨r, ?_, h⟩
          refine Ev.step (fun k => by rw [spec_insertTime.l0]) ?_
          rw [rdT_cast, gT_at f i hlt]
          refine ev_if (by omega) (ev_if (by omega) (ev_bind0 (spec_timeLessEqual_eq t f[i]) (ev_else (by simpa using c) (ev_else (by simp) (ev_bind0 (spec_timeBefore_eq t f[i]) (ev_if (by simpa using b) (ev_if (by omega) (ev_bind0 rfl (ev_if (by simp; omega) ?_)))))))))
          rw [w64s hlt (by omega)]
          exact er
        · obtain ⟨r, er, h⟩ := ih (i + 1) (out ++ [f[i]]) false (by omega) (by simp; omega) (fun _ => by simp; omega) hp1
          refine ⟨r, ?_, h⟩
          refine Ev.step (fun k => by rw [spec_insertTime.l0]) ?_
          rw [rdT_cast, gT_at f i hlt]
          refine ev_if (by omega) (ev_if (by omega) (ev_bind0 (spec_timeLessEqual_eq t f[i]) (ev_else (by simpa using c) (ev_else (by simp) (ev_bind0 (spec_timeBefore_eq t f[i]) (ev_else (by simpa using b) (ev_if (by omega) ?_)))))))
          rw [w64s hlt (by omega)]
          exact er
theorem insertTime_some (f : List S38) (t : S38) (hn : f.length ≤ 100000) (P : S38 → Prop) (hP : ∀ x ∈ f, P x) (ht : P t) : ∃ r : List S38, Ev (fun k => spec_insertTime.f k f t.f0 t.f1) r ∧ r.length ≤ f.length + 1 ∧ (∀ x ∈ r, P x) := by
  unfold spec_insertTime.f
  by_cases c : cov f t = true
  · exact ⟨f, Ev.bind (spec_covers_ev f t (by omega)) (ev_if c (ev_of rfl)), by omega, hP⟩
  · obtain ⟨r, er, h⟩ := insertTime_l f t hn P hP ht f.length 0 [] false (by omega) (by simp) (fun _ => by simp) (fun x hx => by cases hx)
    exact ⟨r, Ev.bind (spec_covers_ev f t (by omega)) (ev_else c er), h⟩
theorem minimal_l (f : List S38) (hn : f.length ≤ 50000) (P : S38 → Prop) (hP : ∀ x ∈ f, P x) (d : Nat) : ∀ (i : Nat) (out : List S38), i + d = f.length → out.length ≤ i → (∀ x ∈ out, P x) →
    ∃ r : List S38, Ev (fun k => spec_minimal.l0 k f out (i : Int)) r ∧ r.length ≤ f.length ∧ (∀ x ∈ r, P x) := by
  induction d with
  | zero =>
    intro i out hi ho hp
    refine ⟨out, ?_, by omega, hp⟩
    refine Ev.step (fun k => by rw [spec_minimal.l0]) ?_
    exact ev_else (by omega) (ev_of rfl)
  | succ d ih =>
    intro i out hi ho hp
    have hlt : i < f.length := by omega
    obtain ⟨q, eq, ql, qp⟩ := insertTime_some out f[i] (by omega) P hp (hP _ (List.getElem_mem hlt))
    obtain ⟨r, er, h⟩ := ih (i + 1) q (by omega) (by omega) qp
    refine ⟨r, ?_, h⟩
    refine Ev.step (fun k => by rw [spec_minimal.l0]) ?_
    rw [rdT_cast, gT_at f i hlt]
    refine ev_if (by omega) (ev_if (by omega) (Ev.bind eq ?_))
    rw [w64s hlt (by omega)]
    exact er
theorem minimal_some (f : List S38) (hn : f.length ≤ 50000) (P : S38 → Prop) (hP : ∀ x ∈ f, P x) : ∃ r : List S38, Ev (fun k => spec_minimal.f k f) r ∧ r.length ≤ f.length ∧ (∀ x ∈ r, P x) := by
  unfold spec_minimal.f
  exact minimal_l f hn P hP f.length 0 [] (by omega) (by simp) (fun x hx => by cases hx)
theorem anyFrontier_ev {b : List Int} {p : Int} (hb : RB b) (h0 : 0 ≤ p) (h1 : p ≤ 500000) : ∃ (r : List S38) (p' : Int), Ev (fun k => spec_anyFrontier.f k b p) (r, p') ∧ p ≤ p' ∧ p' ≤ p + 300 ∧ r.length ≤ 5 := by
  obtain ⟨l, q, el, q0, q1, ll, lv⟩ := randomTimes_ev 4 (by omega) (by omega) hb h0 (by omega)
  obtain ⟨m, em, ml, _⟩ := minimal_some l (by omega) (fun _ => True) (fun _ _ => trivial)
  have ef : Ev (fun k => spec_randomFrontier.f k b p) (m, q) := by
    unfold spec_randomFrontier.f
    exact Ev.bind el (Ev.bind em (ev_of rfl))
  obtain ⟨v, e, _, _, _⟩ := pick_ev (b := b) (p := q) 16 hb (by omega) (by omega)
  obtain ⟨t, p2, et, t0, t1⟩ := anyTime_ev hb (p := q + 1) (by omega) (by omega)
  unfold spec_anyFrontier.f
  by_cases c0 : v = 0
  · refine ⟨m ++ [t], p2, Ev.bind ef (Ev.bind e (ev_if c0 (Ev.bind et ?_))), by omega, by omega, by simp; omega⟩
    exact ev_if (by simp only; omega) (ev_of rfl)
  · by_cases c1 : v = 1
    · refine ⟨[⟨100, 0⟩] ++ m, q + 1, Ev.bind ef (Ev.bind e (ev_else c0 (ev_if c1 (ev_bind0 rfl ?_)))), by omega, by omega, by simp; omega⟩
      exact ev_if (by simp; omega) (ev_of rfl)
    · exact ⟨m, q + 1, Ev.bind ef (Ev.bind e (ev_else c0 (ev_else c1 (ev_of rfl)))), by omega, by omega, by omega⟩
theorem impl_covers_l (f : List S38) (t : S38) (hn : f.length ≤ 140737488355328) (d : Nat) : ∀ (i : Nat), i + d = f.length → Ev (fun k => impl_covers.l0 k f (f.length : Int) (i : Int) t.f0 t.f1) ((f.drop i).any (fun u => decide (tle u t))) := by
  induction d with
  | zero =>
    intro i hi
    refine Ev.step (fun k => by rw [impl_covers.l0]) ?_
    exact ev_else (by omega) (ev_of (by rw [drop_end f i (by omega)]; rfl))
  | succ d ih =>
    intro i hi
    have hlt : i < f.length := by omega
    refine Ev.step (fun k => by rw [impl_covers.l0]) ?_
    rw [rdT_cast, gT_at f i hlt, drop_any f i hlt]
    refine ev_if (by omega) (ev_if (by omega) (ev_if (by omega) (ev_bind0 (impl_TimeLessEqual_eq _ _) ?_)))
    by_cases c : tle f[i] t
    · exact ev_if (by simpa using c) (ev_of (by simp [c]))
    · refine ev_else (by simpa using c) ?_
      rw [w64s hlt hn]
      refine ev_to (ih (i + 1) (by omega)) ?_
      simp [c]
theorem impl_covers_ev (f : List S38) (t : S38) (hn : f.length ≤ 140737488355328) : Ev (fun k => impl_covers.f k f t.f0 t.f1) (cov f t) := by
  unfold impl_covers.f
  exact impl_covers_l f t hn f.length 0 (by omega)
noncomputable def fcov (f : List S38) (t : S38) : Bool := vfr f && decide (vt t) && cov f t
theorem impl_FrontierCovers_ev (f : List S38) (t : S38) (hn : f.length ≤ 140737488355328) : Ev (fun k => impl_FrontierCovers.f k f t.f0 t.f1) (fcov f t) := by
  unfold impl_FrontierCovers.f fcov
  refine Ev.bind (impl_ValidFrontier_ev f hn) ?_
  by_cases h : vfr f = true
  · refine ev_if h (ev_bind0 (impl_ValidTime_eq t) ?_)
    by_cases v : vt t
    · exact ev_if (by simpa using v) (Ev.bind (impl_covers_ev f t hn) (ev_of (by simp [h, v])))
    · exact ev_else (by simpa using v) (ev_of (by simp [v]))
  · exact ev_else h (ev_of (by simp [h]))
theorem DrawAdvanceTime_ev (l : List Int) (h : ∀ x ∈ l, (Lit.int .u8 x).wf = true) : ∃ (t : S38) (f : List S38), Ev (fun k => spec_DrawAdvanceTime.f k l) (t.f0, t.f1, f) ∧ f.length ≤ 5 := by
  obtain ⟨c, ec, hc⟩ := newReader_eq l h
  obtain ⟨t, p, et, p0, p1⟩ := anyTime_ev hc (p := 0) (by omega) (by omega)
  obtain ⟨f, q, ef, _, _, fl⟩ := anyFrontier_ev hc (p := p) (by omega) (by omega)
  unfold spec_DrawAdvanceTime.f
  exact ⟨t, f, ev_bind0 ec (Ev.bind et (Ev.bind ef (ev_of rfl))), fl⟩
theorem VF_valid {f : List S38} (h : VF f) : ∀ e ∈ f, vt e := by
  intro e he
  obtain ⟨i, hi, rfl⟩ := List.getElem_of_mem he
  have := (h.1 i hi).1
  rwa [gT_at f i hi] at this
theorem FnAdvanceTime : FnAdvanceTime_pure := by
  intro l0 l1 _ _ w0 _ _ w1
  refine Ev.rounds (g := fun k => laws_FnAdvanceTime.f k l0 l1) ?_
  unfold laws_FnAdvanceTime.f
  have out : Ev (fun k => laws_FnAdvanceTime.j0 k l0 l1 true) true := by
    refine Ev.step (fun k => by rw [laws_FnAdvanceTime.j0]) ?_
    exact ev_if rfl (ev_of rfl)
  by_cases hb : (l0.length : Int) > 1048576
  · exact ev_if hb out
  · refine ev_else hb ?_
    by_cases hb1 : (l1.length : Int) > 1048576
    · rw [decide_eq_true hb1]; exact out
    · rw [decide_eq_false hb1]
      refine Ev.step (fun k => by rw [laws_FnAdvanceTime.j0]) ?_
      obtain ⟨t, f, e, fl⟩ := DrawAdvanceTime_ev l0 w0
      refine ev_else (by simp) (Ev.bind e (Ev.bind (impl_AdvanceTime_ev t f (by omega)) (Ev.bind (spec_AdvanceTime_ev t f (by omega)) ?_)))
      have outs : Ev (fun k => laws_FnAdvanceTime.j1 k l1 f true t.f0 t.f1 (advT t f).f0 (advT t f).f1) true := by
        refine Ev.step (fun k => by rw [laws_FnAdvanceTime.j1]) ?_
        exact ev_if rfl (Ev.bind (spec_AdvanceTime_ev t f (by omega)) (ev_of (by simp)))
      refine ev_else (by simp) (Ev.bind (impl_ValidFrontier_ev f (by omega)) ?_)
      by_cases hf : vfr f = true
      · refine ev_if hf (ev_bind0 (impl_ValidTime_eq t) ?_)
        by_cases v : vt t
        · have Vf := (vfr_iff f).1 hf
          have ea : advT t f = adv t f := by unfold advT; rw [if_pos (by simp [hf, v])]
          have va := adv_valid t f v (VF_valid Vf)
          have eb : advT (adv t f) f = adv t f := by unfold advT; rw [if_pos (by simp [hf, va])]; exact adv_idem t f
          obtain ⟨s, es⟩ := DrawValidTime_ev l1 w1
          rw [ea]
          refine Ev.step (fun k => by rw [laws_FnAdvanceTime.j1]) ?_
          refine ev_else (by simp [v]) (Ev.bind es (ev_bind0 (impl_TimeLessEqual_eq t (adv t f)) (ev_if (by simpa using adv_ge t f) (Ev.bind (impl_AdvanceTime_ev (adv t f) f (by omega)) ?_))))
          rw [eb]
          refine ev_if (by simp) (Ev.bind (impl_FrontierCovers_ev f s (by omega)) ?_)
          by_cases hc : fcov f s = true
          · refine ev_if hc (ev_bind0 (impl_TimeLessEqual_eq t s) (ev_bind0 (impl_TimeLessEqual_eq (adv t f) s) (ev_of ?_)))
            unfold fcov at hc
            simp only [Bool.and_eq_true] at hc
            have q : decide (tle t s) = decide (tle (adv t f) s) := decide_eq_decide.mpr (adv_same t s f hc.2)
            rw [q]
            simp
          · exact ev_else hc (ev_of rfl)
        · rw [show (!decide (vt t)) = true by simp [v]]
          exact outs
      · exact ev_else hf outs
end Go.Proofs.Ytbohfeifkkigbaa.Pure
