/- Proved: the law FnExactAdvanceTime answers true for every time and frontier: impl.AdvanceTime and spec.AdvanceTime agree, and the arguments are left as they were. No condition. -/
import Derived.Test.YtbohfeifkkigbaaZFnExactAdvanceTimex6
namespace Go.Proofs.Ytbohfeifkkigbaa.Pure
open Go.RowKit Go.Proofs.Ytbohfeifkkigbaa.PFnExactAdvanceTime Go.Proofs.YtbohfeifkkigbaaW.PrintWords Go.Proofs.YtbohfeifkkigbaaW.PrintLast
set_option linter.unusedVariables false
set_option linter.unusedSimpArgs false
/-- The pure statement of the law FnExactAdvanceTime. -/
def FnExactAdvanceTime_pure : Prop := ∀ (a0_0 : Int) (a0_1 : Int) (l1 : List S36), (Lit.int .i64 a0_0).wf = true → (Lit.int .i64 a0_1).wf = true → l1.length ≤ maxLen → l1.length * 16 ≤ 140737488351232 → (∀ x ∈ l1, ((Lit.int .i64 x.f0).wf = true ∧ (Lit.int .i64 x.f1).wf = true)) → ∃ k, laws_FnExactAdvanceTime.f k a0_0 a0_1 l1 = some true
theorem ev_if {α : Type} {c : Prop} [Decidable c] {a b : Nat → Option α} {r : α} (h : c) (e : Ev a r) : Ev (fun k => if c then a k else b k) r := Ev.congr (fun _ => if_pos h) e
theorem ev_else {α : Type} {c : Prop} [Decidable c] {a b : Nat → Option α} {r : α} (h : ¬ c) (e : Ev b r) : Ev (fun k => if c then a k else b k) r := Ev.congr (fun _ => if_neg h) e
theorem ev_bind0 {α β : Type} {g : Option α} {f : Nat → α → Option β} {a : α} {r : β} (h : g = some a) (e : Ev (fun n => f n a) r) : Ev (fun n => g.bind (f n)) r := Ev.congr (fun _ => by rw [h]; rfl) e
theorem ev_of {α : Type} {g : Option α} {r : α} (h : g = some r) : Ev (fun _ => g) r := ⟨0, fun _ _ => h⟩
theorem ev_to {α : Type} {g : Nat → Option α} {r r' : α} (e : Ev g r) (h : r = r') : Ev g r' := h ▸ e
theorem w64 {n : Int} (h0 : -9223372036854775808 ≤ n) (h1 : n ≤ 9223372036854775807) : wrap64 n = n := by unfold wrap64; omega
theorem w64s {i n : Nat} (h : i < n) (hn : n ≤ 140737488355328) : wrap64 ((i : Int) + 1) = ((i + 1 : Nat) : Int) := by unfold wrap64; omega
theorem rd_at (l : List Int) (i : Nat) (h : i < l.length) : rd l (i : Int) = l[i] := by
  unfold rd
  rw [Int.toNat_natCast, List.getD_eq_getElem?_getD, List.getElem?_eq_getElem h]
  rfl
theorem drop_at {α : Type} (l : List α) (i : Nat) (h : i < l.length) : l.drop i = l[i] :: l.drop (i + 1) := List.drop_eq_getElem_cons h
theorem lt_cast {i n : Nat} (h : i < n) : (i : Int) < (n : Int) := by omega
theorem drop_eq {α : Type} (a b : List α) (i : Nat) (h : i < a.length) (h2 : i < b.length) : (a.drop i = b.drop i) ↔ (a[i] = b[i] ∧ a.drop (i + 1) = b.drop (i + 1)) := by
  rw [drop_at a i h, drop_at b i h2, List.cons.injEq]
theorem drop_all {α : Type} (l : List α) (i : Nat) (h : i < l.length) (p : α → Bool) : (l.drop i).all p = (p l[i] && (l.drop (i + 1)).all p) := by
  rw [drop_at l i h, List.all_cons]
theorem drop_end {α : Type} (l : List α) (i : Nat) (h : l.length ≤ i) : l.drop i = [] := List.drop_of_length_le h
theorem drop_dec {α : Type} [DecidableEq α] (a b : List α) (i : Nat) (h : i < a.length) (h2 : i < b.length) : decide (a.drop i = b.drop i) = (decide (a[i] = b[i]) && decide (a.drop (i + 1) = b.drop (i + 1))) := by
  rw [← Bool.decide_and]
  exact decide_eq_decide.mpr (drop_eq a b i h h2)
theorem inRange_eq (a b c : Int) : spec_inRange.f a b c = some (decide (b ≤ a ∧ a ≤ c)) := by
  unfold spec_inRange.f
  by_cases h1 : b ≤ a <;> by_cases h2 : a ≤ c <;> simp [h1, h2]
def vt (t : S38) : Prop := 0 ≤ t.f0 ∧ t.f0 ≤ 99 ∧ 0 ≤ t.f1 ∧ t.f1 ≤ 99
def tb (a b : S38) : Prop := a.f0 < b.f0 ∨ (a.f0 = b.f0 ∧ a.f1 < b.f1)
def tle (a b : S38) : Prop := a.f0 ≤ b.f0 ∧ a.f1 ≤ b.f1
instance (t : S38) : Decidable (vt t) := by unfold vt; infer_instance
instance (a b : S38) : Decidable (tb a b) := by unfold tb; infer_instance
instance (a b : S38) : Decidable (tle a b) := by unfold tle; infer_instance
def gT (f : List S38) (j : Nat) : S38 := rd_T38 f (j : Int)
theorem gT_at (f : List S38) (j : Nat) (h : j < f.length) : gT f j = f[j] := by
  unfold gT rd_T38
  rw [Int.toNat_natCast, List.getD_eq_getElem?_getD, List.getElem?_eq_getElem h]
  rfl
theorem rdT_cast (f : List S38) (j : Nat) : rd_T38 f (j : Int) = gT f j := rfl
theorem tb_trans {a b c : S38} (h : tb a b) (k : tb b c) : tb a c := by unfold tb at *; omega
theorem tb_not_le {a b : S38} (h : tb a b) : ¬ tle b a := by unfold tb at h; unfold tle; omega
theorem S_ext {a b : S38} (h0 : a.f0 = b.f0) (h1 : a.f1 = b.f1) : a = b := by
  cases a; cases b; simp_all
def cvT (t : S36) : S38 := ⟨t.f0, t.f1⟩
theorem toTimeS_l (xs : List S36) (hn : xs.length ≤ 140737488355328) (d : Nat) : ∀ (i : Nat) (out : List S38), i + d = xs.length → out.length = xs.length → Ev (fun k => laws_toTimeS.l0 k xs out (i : Int)) (out.take i ++ (xs.drop i).map cvT) := by
  induction d with
  | zero =>
    intro i out hi ho
    refine Ev.step (fun k => by rw [laws_toTimeS.l0]) ?_
    refine ev_else (by omega) (ev_of ?_)
    rw [drop_end xs i (by omega), List.take_of_length_le (by omega)]
    simp
  | succ d ih =>
    intro i out hi ho
    have hlt : i < xs.length := by omega
    have hg : rd_T36 xs (i : Int) = xs[i] := by
      unfold rd_T36
      rw [Int.toNat_natCast, List.getD_eq_getElem?_getD, List.getElem?_eq_getElem hlt]; rfl
    refine Ev.step (fun k => by rw [laws_toTimeS.l0]) ?_
    rw [hg]
    refine ev_if (by omega) (ev_if (by omega) (ev_bind0 rfl ?_))
    refine ev_if (by omega) ?_
    rw [w64s hlt hn, Int.toNat_natCast]
    refine ev_to (ih (i + 1) _ (by omega) (by rw [List.length_set]; exact ho)) ?_
    rw [drop_at xs i hlt, List.take_succ_eq_append_getElem (by rw [List.length_set]; omega), List.getElem_set_self, List.take_set_of_le (Nat.le_refl _), List.append_assoc]
    rfl
theorem toTimeS_ev (xs : List S36) (hn : xs.length ≤ 1048576) : Ev (fun k => laws_toTimeS.f k xs) (xs.map cvT) := by
  unfold laws_toTimeS.f
  refine ev_if (by omega) (ev_if (by omega) ?_)
  have h := toTimeS_l xs (by omega) xs.length 0 (List.replicate ((xs.length : Int)).toNat z38) (by omega) (by simp)
  simpa using h
theorem eqTime_eq (a b : S38) : laws_eqTime.f a.f0 a.f1 b.f0 b.f1 = some (decide (a.f0 = b.f0 ∧ a.f1 = b.f1)) := by
  unfold laws_eqTime.f
  by_cases h1 : a.f0 = b.f0 <;> by_cases h2 : a.f1 = b.f1 <;> simp [h1, h2]
theorem eqTimeS_l (a : List S38) (hn : a.length ≤ 140737488355328) (d : Nat) : ∀ (i : Nat), i + d = a.length → Ev (fun k => laws_eqTimeS.l0 k a a (i : Int)) true := by
  induction d with
  | zero =>
    intro i hi
    refine Ev.step (fun k => by rw [laws_eqTimeS.l0]) ?_
    exact ev_else (by omega) (ev_of rfl)
  | succ d ih =>
    intro i hi
    have hlt : i < a.length := by omega
    refine Ev.step (fun k => by rw [laws_eqTimeS.l0]) ?_
    refine ev_if (by omega) (ev_if (by omega) (ev_if (by omega) (ev_bind0 (eqTime_eq _ _) (ev_if (by simp) ?_))))
    rw [w64s hlt hn]
    exact ih (i + 1) (by omega)
theorem eqTimeS_ev (a : List S38) (hn : a.length ≤ 140737488355328) : Ev (fun k => laws_eqTimeS.f k a a) true := by
  unfold laws_eqTimeS.f
  exact ev_if rfl (eqTimeS_l a hn a.length 0 (by omega))
theorem szTimeS_neg (l : List S36) (left : Int) (h0 : 0 ≤ left) (h1 : left ≤ 1048576) (hn : l.length ≤ 140737488355328) : laws_szTimeS.f l left = some (if left < (l.length : Int) then -1 else left - (l.length : Int)) := by
  unfold laws_szTimeS.f
  rw [w64 (by omega) (by omega)]
  by_cases h : left < (l.length : Int)
  · rw [if_pos (by omega), if_pos h]
  · rw [if_neg (by omega), if_neg h]
/-- The frontier's own law, at each place: what the reference asks, and what the program asks. -/
def okS (f : List S38) (j : Nat) : Prop := vt (gT f j) ∧ (0 < j → tb (gT f (j - 1)) (gT f j)) ∧ ∀ k, k < j → ¬ tle (gT f k) (gT f j)
def okI (f : List S38) (j : Nat) : Prop := vt (gT f j) ∧ (0 < j → tb (gT f (j - 1)) (gT f j)) ∧ ∀ k, k < f.length → k ≠ j → ¬ tle (gT f k) (gT f j)
def VF (f : List S38) : Prop := (∀ j, j < f.length → okS f j) ∧ f.length ≤ 100
noncomputable def vfr (f : List S38) : Bool := @decide (VF f) (Classical.propDecidable _)
theorem vfr_iff (f : List S38) : vfr f = true ↔ VF f := by unfold vfr; exact @decide_eq_true_iff _ (Classical.propDecidable _)
theorem asc_of {f : List S38} (h : ∀ j, j < f.length → 0 < j → tb (gT f (j - 1)) (gT f j)) (d : Nat) : ∀ i, i + 1 + d < f.length → tb (gT f i) (gT f (i + 1 + d)) := by
  induction d with
  | zero => intro i hi; exact h (i + 1) hi (by omega)
  | succ d ih =>
    intro i hi
    exact tb_trans (ih i (by omega)) (h (i + 1 + (d + 1)) hi (by omega))
theorem VF_iff (f : List S38) : VF f ↔ (∀ j, j < f.length → okI f j) ∧ f.length ≤ 100 := by
  constructor
  · rintro ⟨h, hl⟩
    refine ⟨fun j hj => ⟨(h j hj).1, (h j hj).2.1, fun k hk hne => ?_⟩, hl⟩
    rcases Nat.lt_or_ge k j with hlt | hge
    · exact (h j hj).2.2 k hlt
    · have := asc_of (fun j hj => (h j hj).2.1) (k - j - 1) j (by omega)
      rw [show j + 1 + (k - j - 1) = k by omega] at this
      exact tb_not_le this
  · rintro ⟨h, hl⟩
    exact ⟨fun j hj => ⟨(h j hj).1, (h j hj).2.1, fun k hk => (h j hj).2.2 k (by omega) (by omega)⟩, hl⟩
theorem bool_eq_of {r s : Bool} {p : Prop} (h : r = true ↔ p) (k : s = true ↔ p) : r = s := by
  cases r <;> cases s <;> simp_all
theorem impl_ValidTime_eq (t : S38) : impl_ValidTime.f t.f0 t.f1 = some (decide (vt t)) := by
  unfold impl_ValidTime.f vt
  by_cases h1 : t.f0 ≥ 0 <;> by_cases h2 : t.f0 ≤ 99 <;> by_cases h3 : t.f1 ≥ 0 <;> by_cases h4 : t.f1 ≤ 99 <;> simp [h1, h2, h3, h4] <;> omega
theorem impl_TimeBefore_eq (a b : S38) : impl_TimeBefore.f a.f0 a.f1 b.f0 b.f1 = some (decide (tb a b)) := by
  unfold impl_TimeBefore.f tb
  by_cases h1 : a.f0 < b.f0 <;> by_cases h2 : a.f0 = b.f0 <;> simp [h1, h2]
theorem impl_TimeLessEqual_eq (a b : S38) : impl_TimeLessEqual.f a.f0 a.f1 b.f0 b.f1 = some (decide (tle a b)) := by
  unfold impl_TimeLessEqual.f tle
  by_cases h1 : a.f0 ≤ b.f0 <;> simp [h1]
theorem impl_vf_inner (f : List S38) (hn : f.length ≤ 140737488355328) (i : Nat) (hi : i < f.length) (r1 : Bool) (h1 : Ev (fun k => impl_ValidFrontier.l0 k f f (f.length : Int) ((i + 1 : Nat) : Int)) r1) (d : Nat) : ∀ (j : Nat), j + d = f.length →
    ∃ r, Ev (fun k => impl_ValidFrontier.l1 k f (i : Int) f (f.length : Int) (i : Int) f (f.length : Int) (j : Int) (gT f i).f0 (gT f i).f1) r ∧ (r = true ↔ (∀ k, j ≤ k → k < f.length → k ≠ i → ¬ tle (gT f k) (gT f i)) ∧ r1 = true) := by
  induction d with
  | zero =>
    intro j hj
    refine ⟨r1, ?_, ⟨fun h => ⟨fun k a b => by omega, h⟩, fun h => h.2⟩⟩
    refine Ev.step (fun k => by rw [impl_ValidFrontier.l1]) ?_
    refine ev_else (by omega) ?_
    rw [w64s hi hn]
    exact h1
  | succ d ih =>
    intro j hj
    have hjl : j < f.length := by omega
    obtain ⟨r, er, hr⟩ := ih (j + 1) (by omega)
    by_cases eq : j = i
    · refine ⟨r, ?_, ?_⟩
      · refine Ev.step (fun k => by rw [impl_ValidFrontier.l1]) ?_
        refine ev_if (by omega) (ev_if (by omega) (ev_if (by omega) (ev_if (by omega) ?_)))
        rw [w64s hjl hn]
        exact er
      · rw [hr]
        constructor
        · rintro ⟨a, b⟩
          exact ⟨fun k hk hk2 hk3 => a k (by omega) hk2 hk3, b⟩
        · rintro ⟨a, b⟩
          exact ⟨fun k hk hk2 hk3 => a k (by omega) hk2 hk3, b⟩
    · by_cases c : tle (gT f j) (gT f i)
      · refine ⟨false, ?_, ⟨fun h => (by cases h), fun h => absurd c (h.1 j (Nat.le_refl _) hjl eq)⟩⟩
        refine Ev.step (fun k => by rw [impl_ValidFrontier.l1]) ?_
        refine ev_if (by omega) (ev_if (by omega) (ev_if (by omega) (ev_else (by omega) ?_)))
        rw [rdT_cast]
        exact ev_bind0 (impl_TimeLessEqual_eq _ _) (ev_if (by simpa using c) (ev_of rfl))
      · refine ⟨r, ?_, ?_⟩
        · refine Ev.step (fun k => by rw [impl_ValidFrontier.l1]) ?_
          refine ev_if (by omega) (ev_if (by omega) (ev_if (by omega) (ev_else (by omega) ?_)))
          rw [rdT_cast]
          refine ev_bind0 (impl_TimeLessEqual_eq _ _) (ev_else (by simpa using c) ?_)
          rw [w64s hjl hn]
          exact er
        · rw [hr]
          constructor
          · rintro ⟨a, b⟩
            exact ⟨fun k hk hk2 hk3 => by
              by_cases e : k = j
              · rw [e]; exact c
              · exact a k (by omega) hk2 hk3, b⟩
          · rintro ⟨a, b⟩
            exact ⟨fun k hk hk2 hk3 => a k (by omega) hk2 hk3, b⟩
theorem impl_vf_l (f : List S38) (hn : f.length ≤ 140737488355328) (d : Nat) : ∀ (i : Nat), i + d = f.length →
    ∃ r, Ev (fun k => impl_ValidFrontier.l0 k f f (f.length : Int) (i : Int)) r ∧ (r = true ↔ (∀ j, i ≤ j → j < f.length → okI f j) ∧ f.length ≤ 100) := by
  induction d with
  | zero =>
    intro i hi
    refine ⟨decide ((f.length : Int) ≤ 100), ?_, ?_⟩
    · refine Ev.step (fun k => by rw [impl_ValidFrontier.l0]) ?_
      exact ev_else (by omega) (ev_of rfl)
    · rw [decide_eq_true_iff]
      exact ⟨fun h => ⟨fun j a b => by omega, by omega⟩, fun h => by omega⟩
  | succ d ih =>
    intro i hi
    have hlt : i < f.length := by omega
    obtain ⟨r1, e1, h1⟩ := ih (i + 1) (by omega)
    have more : ∀ p : Prop, (okI f i ↔ p) → ((p ∧ r1 = true) ↔ (∀ j, i ≤ j → j < f.length → okI f j) ∧ f.length ≤ 100) := by
      intro p hp
      rw [h1, ← hp]
      constructor
      · rintro ⟨a, b, c⟩
        exact ⟨fun j hj hj2 => by
          by_cases e : j = i
          · rw [e]; exact a
          · exact b j (by omega) hj2, c⟩
      · rintro ⟨a, c⟩
        exact ⟨a i (Nat.le_refl _) hlt, fun j hj hj2 => a j (by omega) hj2, c⟩
    by_cases v : vt (gT f i)
    · by_cases hi0 : 0 < i
      · by_cases b : tb (gT f (i - 1)) (gT f i)
        · obtain ⟨r, er, hr⟩ := impl_vf_inner f hn i hlt r1 e1 f.length 0 (by omega)
          refine ⟨r, ?_, ?_⟩
          · refine Ev.step (fun k => by rw [impl_ValidFrontier.l0]) ?_
            rw [rdT_cast]
            refine ev_if (by omega) (ev_if (by omega) (ev_if (by omega) (ev_bind0 (impl_ValidTime_eq _) ?_)))
            refine ev_if (by simpa using v) (ev_if (by omega) ?_)
            rw [w64 (n := (i : Int) - 1) (by omega) (by omega), show (i : Int) - 1 = ((i - 1 : Nat) : Int) by omega, rdT_cast]
            refine ev_if (by omega) (ev_if (by omega) (ev_bind0 (impl_TimeBefore_eq _ _) ?_))
            refine Ev.step (fun k => by rw [impl_ValidFrontier.j1]) ?_
            exact ev_else (by simpa using b) er
          · rw [hr]
            refine more _ ⟨fun h => fun k _ hk hk2 => h.2.2 k hk hk2, fun h => ⟨v, fun _ => b, fun k hk hk2 => h k (Nat.zero_le _) hk hk2⟩⟩
        · refine ⟨false, ?_, ⟨fun h => (by cases h), fun h => absurd ((h.1 i (Nat.le_refl _) hlt).2.1 hi0) b⟩⟩
          refine Ev.step (fun k => by rw [impl_ValidFrontier.l0]) ?_
          rw [rdT_cast]
          refine ev_if (by omega) (ev_if (by omega) (ev_if (by omega) (ev_bind0 (impl_ValidTime_eq _) ?_)))
          refine ev_if (by simpa using v) (ev_if (by omega) ?_)
          rw [w64 (n := (i : Int) - 1) (by omega) (by omega), show (i : Int) - 1 = ((i - 1 : Nat) : Int) by omega, rdT_cast]
          refine ev_if (by omega) (ev_if (by omega) (ev_bind0 (impl_TimeBefore_eq _ _) ?_))
          refine Ev.step (fun k => by rw [impl_ValidFrontier.j1]) ?_
          exact ev_if (by simpa using b) (ev_of rfl)
      · obtain ⟨r, er, hr⟩ := impl_vf_inner f hn i hlt r1 e1 f.length 0 (by omega)
        refine ⟨r, ?_, ?_⟩
        · refine Ev.step (fun k => by rw [impl_ValidFrontier.l0]) ?_
          rw [rdT_cast]
          refine ev_if (by omega) (ev_if (by omega) (ev_if (by omega) (ev_bind0 (impl_ValidTime_eq _) ?_)))
          refine ev_if (by simpa using v) (ev_else (by omega) ?_)
          refine Ev.step (fun k => by rw [impl_ValidFrontier.j1]) ?_
          exact ev_else (by simp) er
        · rw [hr]
          refine more _ ⟨fun h => fun k _ hk hk2 => h.2.2 k hk hk2, fun h => ⟨v, fun h0 => absurd h0 hi0, fun k hk hk2 => h k (Nat.zero_le _) hk hk2⟩⟩
    · refine ⟨false, ?_, ⟨fun h => (by cases h), fun h => absurd (h.1 i (Nat.le_refl _) hlt).1 v⟩⟩
      refine Ev.step (fun k => by rw [impl_ValidFrontier.l0]) ?_
      rw [rdT_cast]
      refine ev_if (by omega) (ev_if (by omega) (ev_if (by omega) (ev_bind0 (impl_ValidTime_eq _) ?_)))
      refine ev_else (by simpa using v) ?_
      refine Ev.step (fun k => by rw [impl_ValidFrontier.j1]) ?_
      exact ev_if rfl (ev_of rfl)
theorem impl_ValidFrontier_ev (f : List S38) (hn : f.length ≤ 140737488355328) : Ev (fun k => impl_ValidFrontier.f k f) (vfr f) := by
  unfold impl_ValidFrontier.f
  obtain ⟨r, er, hr⟩ := impl_vf_l f hn f.length 0 (by omega)
  refine ev_to er (bool_eq_of hr ?_)
  rw [vfr_iff, VF_iff]
  exact ⟨fun h => ⟨fun j _ hj => h.1 j hj, h.2⟩, fun h => ⟨fun j hj => h.1 j (Nat.zero_le _) hj, h.2⟩⟩
theorem spec_validTime_eq (t : S38) : spec_validTime.f t.f0 t.f1 = some (decide (vt t)) := by
  unfold spec_validTime.f vt
  simp only [inRange_eq, Option.bind_some]
  by_cases h1 : 0 ≤ t.f0 <;> by_cases h2 : t.f0 ≤ 99 <;> by_cases h3 : 0 ≤ t.f1 <;> by_cases h4 : t.f1 ≤ 99 <;> simp [h1, h2, h3, h4]
theorem spec_timeBefore_eq (a b : S38) : spec_timeBefore.f a.f0 a.f1 b.f0 b.f1 = some (decide (tb a b)) := by
  unfold spec_timeBefore.f tb
  by_cases h1 : a.f0 < b.f0 <;> by_cases h2 : a.f0 = b.f0 <;> simp [h1, h2]
theorem spec_timeLessEqual_eq (a b : S38) : spec_timeLessEqual.f a.f0 a.f1 b.f0 b.f1 = some (decide (tle a b)) := by
  unfold spec_timeLessEqual.f tle
  by_cases h1 : a.f0 ≤ b.f0 <;> simp [h1]
theorem spec_vf_inner (f : List S38) (hn : f.length ≤ 140737488355328) (i : Nat) (hi : i < f.length) (r1 : Bool) (h1 : Ev (fun k => spec_validFrontier.l0 k f ((i + 1 : Nat) : Int)) r1) (d : Nat) : ∀ (j : Nat), j + d = i →
    ∃ r, Ev (fun k => spec_validFrontier.l1 k f (i : Int) (j : Int)) r ∧ (r = true ↔ (∀ k, j ≤ k → k < i → ¬ tle (gT f k) (gT f i)) ∧ r1 = true) := by
  induction d with
  | zero =>
    intro j hj
    refine ⟨r1, ?_, ⟨fun h => ⟨fun k a b => by omega, h⟩, fun h => h.2⟩⟩
    refine Ev.step (fun k => by rw [spec_validFrontier.l1]) ?_
    refine ev_else (by omega) ?_
    rw [w64s hi hn]
    exact h1
  | succ d ih =>
    intro j hj
    obtain ⟨r, er, hr⟩ := ih (j + 1) (by omega)
    by_cases c : tle (gT f j) (gT f i)
    · refine ⟨false, ?_, ⟨fun h => (by cases h), fun h => absurd c (h.1 j (Nat.le_refl _) (by omega))⟩⟩
      refine Ev.step (fun k => by rw [spec_validFrontier.l1]) ?_
      refine ev_if (by omega) (ev_if (by omega) (ev_if (by omega) (ev_if (by omega) (ev_if (by omega) ?_))))
      rw [rdT_cast, rdT_cast]
      exact ev_bind0 (spec_timeLessEqual_eq _ _) (ev_if (by simpa using c) (ev_of rfl))
    · refine ⟨r, ?_, ?_⟩
      · refine Ev.step (fun k => by rw [spec_validFrontier.l1]) ?_
        refine ev_if (by omega) (ev_if (by omega) (ev_if (by omega) (ev_if (by omega) (ev_if (by omega) ?_))))
        rw [rdT_cast, rdT_cast]
        refine ev_bind0 (spec_timeLessEqual_eq _ _) (ev_else (by simpa using c) ?_)
        rw [w64s (i := j) (n := i) (by omega) (by omega)]
        exact er
      · rw [hr]
        constructor
        · rintro ⟨a, b⟩
          exact ⟨fun k hk hk2 => by
            by_cases e : k = j
            · rw [e]; exact c
            · exact a k (by omega) hk2, b⟩
        · rintro ⟨a, b⟩
          exact ⟨fun k hk hk2 => a k (by omega) hk2, b⟩
theorem spec_vf_l (f : List S38) (hn : f.length ≤ 140737488355328) (d : Nat) : ∀ (i : Nat), i + d = f.length →
    ∃ r, Ev (fun k => spec_validFrontier.l0 k f (i : Int)) r ∧ (r = true ↔ (∀ j, i ≤ j → j < f.length → okS f j) ∧ f.length ≤ 100) := by
  induction d with
  | zero =>
    intro i hi
    refine ⟨decide ((f.length : Int) ≤ 100), ?_, ?_⟩
    · refine Ev.step (fun k => by rw [spec_validFrontier.l0]) ?_
      exact ev_else (by omega) (ev_of rfl)
    · rw [decide_eq_true_iff]
      exact ⟨fun h => ⟨fun j a b => by omega, by omega⟩, fun h => by omega⟩
  | succ d ih =>
    intro i hi
    have hlt : i < f.length := by omega
    obtain ⟨r1, e1, h1⟩ := ih (i + 1) (by omega)
    have more : ∀ p : Prop, (okS f i ↔ p) → ((p ∧ r1 = true) ↔ (∀ j, i ≤ j → j < f.length → okS f j) ∧ f.length ≤ 100) := by
      intro p hp
      rw [h1, ← hp]
      constructor
      · rintro ⟨a, b, c⟩
        exact ⟨fun j hj hj2 => by
          by_cases e : j = i
          · rw [e]; exact a
          · exact b j (by omega) hj2, c⟩
      · rintro ⟨a, c⟩
        exact ⟨a i (Nat.le_refl _) hlt, fun j hj hj2 => a j (by omega) hj2, c⟩
    by_cases v : vt (gT f i)
    · by_cases hi0 : 0 < i
      · by_cases b : tb (gT f (i - 1)) (gT f i)
        · obtain ⟨r, er, hr⟩ := spec_vf_inner f hn i hlt r1 e1 i 0 (by omega)
          refine ⟨r, ?_, ?_⟩
          · refine Ev.step (fun k => by rw [spec_validFrontier.l0]) ?_
            rw [rdT_cast]
            refine ev_if (by omega) (ev_if (by omega) (ev_bind0 (spec_validTime_eq _) ?_))
            refine ev_if (by simpa using v) (ev_if (by omega) ?_)
            rw [w64 (n := (i : Int) - 1) (by omega) (by omega), show (i : Int) - 1 = ((i - 1 : Nat) : Int) by omega, rdT_cast]
            refine ev_if (by omega) (ev_if (by omega) (ev_bind0 (spec_timeBefore_eq _ _) ?_))
            refine Ev.step (fun k => by rw [spec_validFrontier.j1]) ?_
            exact ev_else (by simpa using b) er
          · rw [hr]
            refine more _ ⟨fun h => fun k _ hk => h.2.2 k hk, fun h => ⟨v, fun _ => b, fun k hk => h k (Nat.zero_le _) hk⟩⟩
        · refine ⟨false, ?_, ⟨fun h => (by cases h), fun h => absurd ((h.1 i (Nat.le_refl _) hlt).2.1 hi0) b⟩⟩
          refine Ev.step (fun k => by rw [spec_validFrontier.l0]) ?_
          rw [rdT_cast]
          refine ev_if (by omega) (ev_if (by omega) (ev_bind0 (spec_validTime_eq _) ?_))
          refine ev_if (by simpa using v) (ev_if (by omega) ?_)
          rw [w64 (n := (i : Int) - 1) (by omega) (by omega), show (i : Int) - 1 = ((i - 1 : Nat) : Int) by omega, rdT_cast]
          refine ev_if (by omega) (ev_if (by omega) (ev_bind0 (spec_timeBefore_eq _ _) ?_))
          refine Ev.step (fun k => by rw [spec_validFrontier.j1]) ?_
          exact ev_if (by simpa using b) (ev_of rfl)
      · obtain ⟨r, er, hr⟩ := spec_vf_inner f hn i hlt r1 e1 i 0 (by omega)
        refine ⟨r, ?_, ?_⟩
        · refine Ev.step (fun k => by rw [spec_validFrontier.l0]) ?_
          rw [rdT_cast]
          refine ev_if (by omega) (ev_if (by omega) (ev_bind0 (spec_validTime_eq _) ?_))
          refine ev_if (by simpa using v) (ev_else (by omega) ?_)
          refine Ev.step (fun k => by rw [spec_validFrontier.j1]) ?_
          exact ev_else (by simp) er
        · rw [hr]
          refine more _ ⟨fun h => fun k _ hk => h.2.2 k hk, fun h => ⟨v, fun h0 => absurd h0 hi0, fun k hk => h k (Nat.zero_le _) hk⟩⟩
    · refine ⟨false, ?_, ⟨fun h => (by cases h), fun h => absurd (h.1 i (Nat.le_refl _) hlt).1 v⟩⟩
      refine Ev.step (fun k => by rw [spec_validFrontier.l0]) ?_
      rw [rdT_cast]
      refine ev_if (by omega) (ev_if (by omega) (ev_bind0 (spec_validTime_eq _) ?_))
      refine ev_else (by simpa using v) ?_
      refine Ev.step (fun k => by rw [spec_validFrontier.j1]) ?_
      exact ev_if rfl (ev_of rfl)
theorem spec_validFrontier_ev (f : List S38) (hn : f.length ≤ 140737488355328) : Ev (fun k => spec_validFrontier.f k f) (vfr f) := by
  unfold spec_validFrontier.f
  obtain ⟨r, er, hr⟩ := spec_vf_l f hn f.length 0 (by omega)
  refine ev_to er (bool_eq_of hr ?_)
  rw [vfr_iff]
  exact ⟨fun h => ⟨fun j _ hj => h.1 j hj, h.2⟩, fun h => ⟨fun j hj => h.1 j (Nat.zero_le _) hj, h.2⟩⟩
def jn (a b : S38) : S38 := ⟨mx a.f0 b.f0, mx a.f1 b.f1⟩
def mt (a b : S38) : S38 := ⟨mn a.f0 b.f0, mn a.f1 b.f1⟩
def advF (t o : S38) (f : List S38) : S38 := f.foldl (fun o e => mt o (jn t e)) o
def adv (t : S38) : List S38 → S38
  | [] => t
  | e :: r => advF t (jn t e) r
noncomputable def advT (t : S38) (f : List S38) : S38 := if vfr f && decide (vt t) then adv t f else t
theorem spec_timeJoin_eq (a b : S38) : spec_timeJoin.f a.f0 a.f1 b.f0 b.f1 = some ((jn a b).f0, (jn a b).f1) := rfl
theorem spec_timeMeet_eq (a b : S38) : spec_timeMeet.f a.f0 a.f1 b.f0 b.f1 = some ((mt a b).f0, (mt a b).f1) := rfl
theorem spec_advance_l (t : S38) (f : List S38) (hn : f.length ≤ 140737488355328) (d : Nat) : ∀ (i : Nat) (o : S38), i + d = f.length → Ev (fun k => spec_advance.l0 k f (i : Int) t.f0 t.f1 o.f0 o.f1) ((advF t o (f.drop i)).f0, (advF t o (f.drop i)).f1) := by
  induction d with
  | zero =>
    intro i o hi
    refine Ev.step (fun k => by rw [spec_advance.l0]) ?_
    exact ev_else (by omega) (ev_of (by rw [drop_end f i (by omega)]; rfl))
  | succ d ih =>
    intro i o hi
    have hlt : i < f.length := by omega
    refine Ev.step (fun k => by rw [spec_advance.l0]) ?_
    rw [rdT_cast, gT_at f i hlt, drop_at f i hlt]
    refine ev_if (by omega) (ev_if (by omega) (ev_bind0 (spec_timeJoin_eq t f[i]) (ev_bind0 (spec_timeMeet_eq o (jn t f[i])) ?_)))
    rw [w64s hlt hn]
    exact ih (i + 1) (mt o (jn t f[i])) (by omega)
theorem spec_advance_ev (t : S38) (f : List S38) (hn : f.length ≤ 140737488355328) : Ev (fun k => spec_advance.f k t.f0 t.f1 f) ((adv t f).f0, (adv t f).f1) := by
  unfold spec_advance.f
  cases f with
  | nil => exact ev_if rfl (ev_of rfl)
  | cons e r =>
    refine ev_else (by first | (simp; done) | (simp; omega)) (ev_if (by first | (simp; done) | (simp; omega)) ?_)
    refine ev_bind0 (spec_timeJoin_eq t e) ?_
    exact spec_advance_l t (e :: r) hn r.length 1 (jn t e) (by simp; omega)
theorem spec_AdvanceTime_ev (t : S38) (f : List S38) (hn : f.length ≤ 140737488355328) : Ev (fun k => spec_AdvanceTime.f k t.f0 t.f1 f) ((advT t f).f0, (advT t f).f1) := by
  unfold spec_AdvanceTime.f advT
  refine Ev.bind (spec_validFrontier_ev f hn) ?_
  by_cases h : vfr f = true
  · refine ev_if h (ev_bind0 (spec_validTime_eq t) ?_)
    by_cases v : vt t
    · refine ev_if (by simpa using v) (Ev.bind (spec_advance_ev t f hn) (ev_of ?_))
      rw [if_pos (by simp [h, v])]
    · refine ev_else (by simpa using v) (ev_of ?_)
      rw [if_neg (by simp [v])]
  · refine ev_else h (ev_of ?_)
    rw [if_neg (by simp [h])]
theorem impl_TimeJoin_eq (a b : S38) : impl_TimeJoin.f a.f0 a.f1 b.f0 b.f1 = some ((jn a b).f0, (jn a b).f1) := rfl
theorem impl_TimeMeet_eq (a b : S38) : impl_TimeMeet.f a.f0 a.f1 b.f0 b.f1 = some ((mt a b).f0, (mt a b).f1) := rfl
theorem impl_advance_l (t : S38) (f : List S38) (hn : f.length ≤ 140737488355328) (d : Nat) : ∀ (i : Nat) (o : S38), i + d = f.length → Ev (fun k => impl_AdvanceTime.l0 k f (f.length : Int) (i : Int) t.f0 t.f1 o.f0 o.f1) ((advF t o (f.drop i)).f0, (advF t o (f.drop i)).f1) := by
  induction d with
  | zero =>
    intro i o hi
    refine Ev.step (fun k => by rw [impl_AdvanceTime.l0]) ?_
    exact ev_else (by omega) (ev_of (by rw [drop_end f i (by omega)]; rfl))
  | succ d ih =>
    intro i o hi
    have hlt : i < f.length := by omega
    refine Ev.step (fun k => by rw [impl_AdvanceTime.l0]) ?_
    rw [rdT_cast, gT_at f i hlt, drop_at f i hlt]
    refine ev_if (by omega) (ev_if (by omega) (ev_if (by omega) (ev_bind0 (impl_TimeJoin_eq t f[i]) (ev_bind0 (impl_TimeMeet_eq o (jn t f[i])) ?_))))
    rw [w64s hlt hn]
    exact ih (i + 1) (mt o (jn t f[i])) (by omega)
theorem impl_AdvanceTime_ev (t : S38) (f : List S38) (hn : f.length ≤ 140737488355328) : Ev (fun k => impl_AdvanceTime.f k t.f0 t.f1 f) ((advT t f).f0, (advT t f).f1) := by
  unfold impl_AdvanceTime.f
  cases f with
  | nil =>
    refine ev_if rfl (Ev.step (fun k => by rw [impl_AdvanceTime.j0]) ?_)
    refine ev_if rfl (ev_of ?_)
    unfold advT; split <;> rfl
  | cons e r =>
    refine ev_else (by first | (simp; done) | (simp; omega)) (Ev.bind (impl_ValidFrontier_ev (e :: r) hn) ?_)
    unfold advT
    by_cases h : vfr (e :: r) = true
    · refine ev_if h (ev_bind0 (impl_ValidTime_eq t) ?_)
      refine Ev.step (fun k => by rw [impl_AdvanceTime.j0]) ?_
      by_cases v : vt t
      · refine ev_else (by simp [v]) ?_
        refine ev_if (by first | (simp; done) | (simp; omega)) (ev_bind0 (impl_TimeJoin_eq t e) ?_)
        refine ev_if (by first | (simp; done) | (simp; omega)) (ev_bind0 rfl ?_)
        rw [if_pos (by simp [h, v])]
        exact impl_advance_l t r (by simp at hn; omega) r.length 0 (jn t e) (by omega)
      · refine ev_if (by simp [v]) (ev_of ?_)
        rw [if_neg (by simp [v])]
    · refine ev_else h (Ev.step (fun k => by rw [impl_AdvanceTime.j0]) ?_)
      refine ev_if rfl (ev_of ?_)
      rw [if_neg (by simp [h])]
theorem FnExactAdvanceTime : FnExactAdvanceTime_pure := by
  intro a b l1 _ _ _ hl _
  refine Ev.rounds (g := fun k => laws_FnExactAdvanceTime.f k a b l1) ?_
  unfold laws_FnExactAdvanceTime.f
  refine ev_bind0 (szTimeS_neg l1 1048576 (by omega) (by omega) (by omega)) ?_
  by_cases hb : (1048576 : Int) < (l1.length : Int)
  · rw [if_pos hb]; exact ev_if (by omega) (ev_of rfl)
  · rw [if_neg hb]
    refine ev_else (by omega) ?_
    have hm : (l1.map cvT).length ≤ 1048576 := by rw [List.length_map]; omega
    refine ev_bind0 rfl (Ev.bind (toTimeS_ev l1 (by omega)) (Ev.bind (spec_AdvanceTime_ev ⟨a, b⟩ (l1.map cvT) (by omega)) ?_))
    refine Ev.bind (toTimeS_ev l1 (by omega)) (ev_bind0 rfl (Ev.bind (impl_AdvanceTime_ev ⟨a, b⟩ (l1.map cvT) (by omega)) ?_))
    refine ev_bind0 (eqTime_eq _ _) (ev_if (by simp) ?_)
    exact Ev.bind (toTimeS_ev l1 (by omega)) (Ev.bind (eqTimeS_ev _ (by omega)) (ev_if rfl (ev_of rfl)))
end Go.Proofs.Ytbohfeifkkigbaa.Pure
