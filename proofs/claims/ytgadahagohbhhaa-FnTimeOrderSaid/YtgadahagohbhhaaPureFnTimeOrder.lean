/- Proved: the law FnTimeOrder answers true for every code: TimeLessEqual agrees with the reference, is reflexive and antisymmetric, and TimeBefore is a total order that extends it. No condition. -/
import Derived.Test.YtgadahagohbhhaaZFnTimeOrderx3
namespace Go.Proofs.Ytgadahagohbhhaa.Pure
open Go.RowKit Go.Proofs.Ytgadahagohbhhaa.PFnTimeOrder Go.Proofs.YtgadahagohbhhaaW.PrintWords Go.Proofs.YtgadahagohbhhaaW.PrintLast
set_option linter.unusedVariables false
set_option linter.unusedSimpArgs false
/-- The pure statement of the law FnTimeOrder. -/
def FnTimeOrder_pure : Prop := ∀ (l0 : List Int), l0.length ≤ maxLen → l0.length * 1 ≤ 140737488351232 → (∀ x ∈ l0, (Lit.int .u8 x).wf = true) → ∃ k, laws_FnTimeOrder.f k l0 = some true
theorem ev_if {α : Type} {c : Prop} [Decidable c] {a b : Nat → Option α} {r : α} (h : c) (e : Ev a r) : Ev (fun k => if c then a k else b k) r := Ev.congr (fun _ => if_pos h) e
theorem ev_else {α : Type} {c : Prop} [Decidable c] {a b : Nat → Option α} {r : α} (h : ¬ c) (e : Ev b r) : Ev (fun k => if c then a k else b k) r := Ev.congr (fun _ => if_neg h) e
theorem ev_bind0 {α β : Type} {g : Option α} {f : Nat → α → Option β} {a : α} {r : β} (h : g = some a) (e : Ev (fun n => f n a) r) : Ev (fun n => g.bind (f n)) r := Ev.congr (fun _ => by rw [h]; rfl) e
theorem ev_of {α : Type} {g : Option α} {r : α} (h : g = some r) : Ev (fun _ => g) r := ⟨0, fun _ _ => h⟩
theorem ev_to {α : Type} {g : Nat → Option α} {r r' : α} (e : Ev g r) (h : r = r') : Ev g r' := h ▸ e
theorem w64 {n : Int} (h0 : -9223372036854775808 ≤ n) (h1 : n ≤ 9223372036854775807) : wrap64 n = n := by unfold wrap64; omega
theorem w64s {i n : Nat} (h : i < n) (hn : n ≤ 140737488355328) : wrap64 ((i : Int) + 1) = ((i + 1 : Nat) : Int) := by unfold wrap64; omega
theorem rd_at (l : List Int) (i : Nat) (h : i < l.length) : rd l (i : Int) = l[i] := by
  unfold rd
  rw [Int.toNat_natCast, List.getD_eq_getElem?_getD, List.getElem?_eq_getElem h]
  rfl
theorem drop_at {α : Type} (l : List α) (i : Nat) (h : i < l.length) : l.drop i = l[i] :: l.drop (i + 1) := List.drop_eq_getElem_cons h
theorem lt_cast {i n : Nat} (h : i < n) : (i : Int) < (n : Int) := by omega
theorem drop_eq {α : Type} (a b : List α) (i : Nat) (h : i < a.length) (h2 : i < b.length) : (a.drop i = b.drop i) ↔ (a[i] = b[i] ∧ a.drop (i + 1) = b.drop (i + 1)) := by
  rw [drop_at a i h, drop_at b i h2, List.cons.injEq]
theorem drop_all {α : Type} (l : List α) (i : Nat) (h : i < l.length) (p : α → Bool) : (l.drop i).all p = (p l[i] && (l.drop (i + 1)).all p) := by
  rw [drop_at l i h, List.all_cons]
theorem drop_end {α : Type} (l : List α) (i : Nat) (h : l.length ≤ i) : l.drop i = [] := List.drop_of_length_le h
theorem drop_dec {α : Type} [DecidableEq α] (a b : List α) (i : Nat) (h : i < a.length) (h2 : i < b.length) : decide (a.drop i = b.drop i) = (decide (a[i] = b[i]) && decide (a.drop (i + 1) = b.drop (i + 1))) := by
  rw [← Bool.decide_and]
  exact decide_eq_decide.mpr (drop_eq a b i h h2)
theorem xor_small (a b : Nat) (ha : a < 2 ^ 40) (hb : b < 2 ^ 40) : 0 ≤ Go.bits .xor .i64 (a : Int) (b : Int) := by
  have hx : a ^^^ b < 2 ^ 40 := Nat.xor_lt_two_pow ha hb
  have h1 : (BitVec.ofInt 64 (a : Int)).toNat = a := by
    rw [BitVec.ofInt_natCast, BitVec.toNat_ofNat]; exact Nat.mod_eq_of_lt (by omega)
  have h2 : (BitVec.ofInt 64 (b : Int)).toNat = b := by
    rw [BitVec.ofInt_natCast, BitVec.toNat_ofNat]; exact Nat.mod_eq_of_lt (by omega)
  have e : Go.bits .xor .i64 (a : Int) (b : Int) = ((a ^^^ b : Nat) : Int) := by
    show IntKind.i64.wrap ((BitVec.ofInt 64 (a : Int) ^^^ BitVec.ofInt 64 (b : Int)).toNat : Int) = _
    rw [BitVec.toNat_xor, h1, h2, IntKind.wrap_i64]
    omega
  rw [e]
  omega
def RB (b : List Int) : Prop := b.length ≤ 2000 ∧ ∀ x ∈ b, 0 ≤ x ∧ x ≤ 255
theorem RB.at {b : List Int} (h : RB b) (i : Int) : 0 ≤ rd b i ∧ rd b i ≤ 255 := by
  unfold rd
  rw [List.getD_eq_getElem?_getD]
  cases e : b[i.toNat]? with
  | none => simp
  | some x => exact h.2 x (List.mem_of_getElem? e)
theorem bytes_ok {l : List Int} (h : ∀ x ∈ l, (Lit.int .u8 x).wf = true) : ∀ x ∈ l, 0 ≤ x ∧ x ≤ 255 := by
  intro x hx
  have h1 := h x hx
  have m1 : IntKind.min .u8 = 0 := by decide
  have m2 : IntKind.max .u8 = 255 := by decide
  simp only [Lit.wf, Bool.and_eq_true, decide_eq_true_eq, m1, m2] at h1
  exact h1
theorem newReader_eq (l : List Int) (h : ∀ x ∈ l, (Lit.int .u8 x).wf = true) : ∃ b, spec_newReader.f l = some (b, 0) ∧ RB b := by
  have hb := bytes_ok h
  unfold spec_newReader.f
  by_cases h1 : (l.length : Int) > 2000
  · refine ⟨l.take 2000, by rw [if_pos h1, if_pos (by omega)], ?_, fun x hx => hb x (List.mem_of_mem_take hx)⟩
    rw [List.length_take]; omega
  · exact ⟨l, by rw [if_neg h1], by omega, hb⟩
theorem tmod_range {x n : Int} (hx : 0 ≤ x) (hn : 1 ≤ n) : 0 ≤ Int.tmod x n ∧ Int.tmod x n < n := by
  rw [Int.tmod_eq_emod_of_nonneg hx]
  exact ⟨Int.emod_nonneg _ (by omega), Int.emod_lt_of_pos _ (by omega)⟩
theorem pick_ev {b : List Int} {p : Int} (n : Int) (hb : RB b) (h0 : 0 ≤ p) (h1 : p ≤ 1000000) : ∃ v, Ev (fun k => spec_reader_pick.f k b p n) (v, p + 1) ∧ 0 ≤ v ∧ (1 ≤ n → v < n) ∧ (n < 1 → v = 0) := by
  have e1 : wrap64 (p + 1) = p + 1 := w64 (by omega) (by omega)
  have e2 : wrap64 (p + 1 - 1) = p := by rw [show p + 1 - 1 = p by omega]; exact w64 (by omega) (by omega)
  unfold spec_reader_pick.f
  by_cases hn : n < 1
  · refine ⟨0, ev_if hn ?_, Int.le_refl _, fun h => by omega, fun _ => rfl⟩
    refine Ev.step (fun k => by rw [spec_reader_pick.j0]) ?_
    exact ev_if rfl (ev_of (by rw [e1]))
  · by_cases hl : b.length = 0
    · refine ⟨0, ev_else hn ?_, Int.le_refl _, fun h => by omega, fun h => absurd h hn⟩
      refine Ev.step (fun k => by rw [spec_reader_pick.j0]) ?_
      exact ev_if (by simpa using hl) (ev_of (by rw [e1]))
    · rw [e1]
      by_cases hp : p < (b.length : Int)
      · have hr := hb.at p
        have e3 : wrap64 (rd b p) = rd b p := w64 (by omega) (by omega)
        have ht := tmod_range hr.1 (show 1 ≤ n by omega)
        refine ⟨Int.tmod (rd b p) n, ev_else hn ?_, ht.1, fun _ => ht.2, fun h => absurd h hn⟩
        refine Ev.step (fun k => by rw [spec_reader_pick.j0]) ?_
        rw [e2]
        refine ev_else (by simpa using hl) (ev_if hp (ev_if h0 (ev_else (by omega) (ev_of ?_))))
        rw [e3]
      · have hlen : 1 ≤ (b.length : Int) := by omega
        have hle : (b.length : Int) ≤ 2000 := by have := hb.1; omega
        have m1 := tmod_range h0 hlen
        have e4 : wrap64 (p * 7) = p * 7 := w64 (by omega) (by omega)
        have e5 : wrap64 (p * 7 + 3) = p * 7 + 3 := w64 (by omega) (by omega)
        have m2 := tmod_range (show 0 ≤ p * 7 + 3 by omega) hlen
        have ra := hb.at (Int.tmod p (b.length : Int))
        have rb := hb.at (Int.tmod (p * 7 + 3) (b.length : Int))
        have hd : 0 ≤ Int.tdiv p (b.length : Int) ∧ Int.tdiv p (b.length : Int) ≤ p := by
          rw [Int.tdiv_eq_ediv_of_nonneg h0]
          exact ⟨Int.ediv_nonneg h0 (by omega), Int.ediv_le_self _ h0⟩
        generalize hA : rd b (Int.tmod p (b.length : Int)) = A at ra
        generalize hB : rd b (Int.tmod (p * 7 + 3) (b.length : Int)) = B at rb
        generalize hD : Int.tdiv p (b.length : Int) = D at hd
        obtain ⟨X, hX⟩ : ∃ X : Nat, (X : Int) = A * 131 + B * 1117 + p * 29 + D * 53 := ⟨(A * 131 + B * 1117 + p * 29 + D * 53).toNat, by omega⟩
        have e6 : wrap64 (wrap64 (wrap64 (wrap64 (wrap64 A * 131) + wrap64 (wrap64 B * 1117)) + wrap64 (p * 29)) + wrap64 (wrap64 D * 53)) = (X : Int) := by
          rw [w64 (n := A) (by omega) (by omega), w64 (n := B) (by omega) (by omega), w64 (n := D) (by omega) (by omega), w64 (n := A * 131) (by omega) (by omega), w64 (n := B * 1117) (by omega) (by omega), w64 (n := p * 29) (by omega) (by omega), w64 (n := D * 53) (by omega) (by omega),
            w64 (n := A * 131 + B * 1117) (by omega) (by omega), w64 (n := A * 131 + B * 1117 + p * 29) (by omega) (by omega), w64 (by omega) (by omega), hX]
        have e7 : Int.tdiv (X : Int) 64 = ((X / 64 : Nat) : Int) := by rw [Int.tdiv_eq_ediv_of_nonneg (by omega)]; rfl
        have e8 : wrap64 ((X / 64 : Nat) : Int) = ((X / 64 : Nat) : Int) := w64 (by omega) (by omega)
        have hX1 : X ≤ 1000000000 := by omega
        have hX2 : X / 64 ≤ X := Nat.div_le_self _ _
        have hx := xor_small X (X / 64) (Nat.lt_of_le_of_lt hX1 (by decide)) (Nat.lt_of_le_of_lt (Nat.le_trans hX2 hX1) (by decide))
        have ht := tmod_range hx (show 1 ≤ n by omega)
        refine ⟨Int.tmod (Go.bits .xor .i64 (X : Int) ((X / 64 : Nat) : Int)) n, ev_else hn ?_, ht.1, fun _ => ht.2, fun h => absurd h hn⟩
        refine Ev.step (fun k => by rw [spec_reader_pick.j0]) ?_
        rw [e2]
        refine ev_else (by simpa using hl) (ev_else hp (ev_else (by omega) (ev_if m1.1 (ev_if m1.2 ?_))))
        rw [e4, e5]
        refine ev_if m2.1 (ev_if m2.2 (ev_else (by omega) (ev_of ?_)))
        rw [hA, hB, hD, e6, e7, e8]
/-- pick, met in a run: go on with any value of its range. -/
theorem Ev.pick {β : Type} {b : List Int} {p n : Int} {f : Nat → Int × Int → Option β} {R : β → Prop} (hb : RB b) (h0 : 0 ≤ p) (h1 : p ≤ 1000000)
    (h : ∀ v, 0 ≤ v → (1 ≤ n → v < n) → (n < 1 → v = 0) → ∃ r, Ev (fun k => f k (v, p + 1)) r ∧ R r) : ∃ r, Ev (fun k => (spec_reader_pick.f k b p n).bind (f k)) r ∧ R r := by
  obtain ⟨v, e, a1, a2, a3⟩ := pick_ev n hb h0 h1
  obtain ⟨r, er, hr⟩ := h v a1 a2 a3
  exact ⟨r, Ev.bind e er, hr⟩
theorem one_ev {b : List Int} {p : Int} (l : List Int) (hl : 1 ≤ l.length) (hb : RB b) (h0 : 0 ≤ p) (h1 : p ≤ 1000000) : ∃ v, Ev (fun k => spec_reader_one.f k b p l) (v, p + 1) ∧ v ∈ l := by
  obtain ⟨v, e, a1, a2, _⟩ := pick_ev (l.length : Int) hb h0 h1
  have hv := a2 (by omega)
  obtain ⟨i, rfl⟩ := Int.eq_ofNat_of_zero_le a1
  have hi : i < l.length := by omega
  refine ⟨l[i], ?_, List.getElem_mem hi⟩
  unfold spec_reader_one.f
  refine Ev.bind e (ev_if (by simp) (ev_if (by simpa using hi) (ev_of ?_)))
  show some (rd l (i : Int), p + 1) = _
  rw [rd_at l i hi]
theorem anyTime0_ev {b : List Int} {p : Int} (hb : RB b) (h0 : 0 ≤ p) (h1 : p ≤ 800000) : ∃ (x y p' : Int), Ev (fun k => spec_anyTime.f k b p) (x, y, p') ∧ p ≤ p' ∧ p' ≤ p + 4 := by
  obtain ⟨v, e, _, _, _⟩ := pick_ev (b := b) 5 hb h0 (by omega)
  obtain ⟨u, eu, _, _, _⟩ := pick_ev (b := b) (p := p + 1) 5 hb (by omega) (by omega)
  have et : Ev (fun k => spec_randomTime.f k b p) (v, u, p + 1 + 1) := by
    unfold spec_randomTime.f
    exact Ev.bind e (Ev.bind eu (ev_of rfl))
  obtain ⟨w, ew, _, _, _⟩ := pick_ev (b := b) (p := p + 1 + 1) 20 hb (by omega) (by omega)
  obtain ⟨z, ez, _⟩ := one_ev (b := b) (p := p + 1 + 1 + 1) [-1, 100, 99] (by simp) hb (by omega) (by omega)
  unfold spec_anyTime.f
  by_cases c0 : w = 0
  · exact ⟨z, u, p + 1 + 1 + 1 + 1, Ev.bind et (Ev.bind ew (ev_if c0 (Ev.bind ez (ev_of rfl)))), by omega, by omega⟩
  · by_cases c1 : w = 1
    · exact ⟨v, z, p + 1 + 1 + 1 + 1, Ev.bind et (Ev.bind ew (ev_else c0 (ev_if c1 (Ev.bind ez (ev_of rfl))))), by omega, by omega⟩
    · exact ⟨v, u, p + 1 + 1 + 1, Ev.bind et (Ev.bind ew (ev_else c0 (ev_else c1 (ev_of rfl)))), by omega, by omega⟩
theorem twoTimes0_ev (l : List Int) (h : ∀ x ∈ l, (Lit.int .u8 x).wf = true) : ∃ a b c d : Int, Ev (fun k => spec_twoTimes.f k l) (a, b, c, d) := by
  obtain ⟨s, es, hs⟩ := newReader_eq l h
  obtain ⟨a, b, p, e1, p0, p1⟩ := anyTime0_ev hs (p := 0) (by omega) (by omega)
  obtain ⟨c, d, q, e2, _, _⟩ := anyTime0_ev hs (p := p) (by omega) (by omega)
  unfold spec_twoTimes.f
  exact ⟨a, b, c, d, ev_bind0 es (Ev.bind e1 (Ev.bind e2 (ev_of rfl)))⟩
theorem tle0_eq (a b c d : Int) : impl_TimeLessEqual.f a b c d = some (decide (a ≤ c ∧ b ≤ d)) := by
  unfold impl_TimeLessEqual.f
  by_cases h : a ≤ c <;> simp [h]
theorem tb0_eq (a b c d : Int) : impl_TimeBefore.f a b c d = some (decide (a < c ∨ (a = c ∧ b < d))) := by
  unfold impl_TimeBefore.f
  by_cases h : a < c <;> by_cases h2 : a = c <;> simp [h, h2]
theorem tles0_eq (a b c d : Int) : spec_TimeLessEqual.f a b c d = some (decide (a ≤ c ∧ b ≤ d)) := by
  unfold spec_TimeLessEqual.f spec_timeLessEqual.f
  by_cases h : a ≤ c <;> simp [h]
theorem FnTimeOrder : FnTimeOrder_pure := by
  intro l0 _ _ hw
  refine Ev.rounds (g := fun k => laws_FnTimeOrder.f k l0) ?_
  unfold laws_FnTimeOrder.f
  by_cases hb : (l0.length : Int) > 1048576
  · exact ev_if hb (ev_of rfl)
  · refine ev_else hb ?_
    obtain ⟨a, b, c, d, e⟩ := twoTimes0_ev l0 hw
    have ed : Ev (fun k => spec_DrawTimeLessEqual.f k l0) (a, b, c, d) := by
      unfold spec_DrawTimeLessEqual.f
      exact Ev.bind e (ev_of rfl)
    refine Ev.bind ed (ev_of ?_)
    dsimp only
    simp only [tle0_eq, tles0_eq, tb0_eq, Option.bind_some]
    have d0 : decide (a ≤ a ∧ b ≤ b) = true := decide_eq_true ⟨Int.le_refl _, Int.le_refl _⟩
    by_cases p5 : a = c
    · have e5 : (a == c) = true := beq_iff_eq.2 p5
      by_cases p6 : b = d
      · have e6 : (b == d) = true := beq_iff_eq.2 p6
        have d1 : decide (a ≤ c ∧ b ≤ d) = true := decide_eq_true (by omega)
        have d2 : decide (c ≤ a ∧ d ≤ b) = true := decide_eq_true (by omega)
        have d3 : decide (a < c ∨ a = c ∧ b < d) = false := decide_eq_false (by omega)
        have d4 : decide (c < a ∨ c = a ∧ d < b) = false := decide_eq_false (by omega)
        simp only [d0, d1, d2, d3, d4, e5, e6]
        rfl
      · have e6 : (b == d) = false := beq_eq_false_iff_ne.2 p6
        by_cases q : b < d
        · have d1 : decide (a ≤ c ∧ b ≤ d) = true := decide_eq_true (by omega)
          have d2 : decide (c ≤ a ∧ d ≤ b) = false := decide_eq_false (by omega)
          have d3 : decide (a < c ∨ a = c ∧ b < d) = true := decide_eq_true (by omega)
          simp only [d0, d1, d2, d3, e5, e6]
          rfl
        · have d1 : decide (a ≤ c ∧ b ≤ d) = false := decide_eq_false (by omega)
          have d3 : decide (a < c ∨ a = c ∧ b < d) = false := decide_eq_false (by omega)
          have d4 : decide (c < a ∨ c = a ∧ d < b) = true := decide_eq_true (by omega)
          simp only [d0, d1, d3, d4, e5, e6]
          rfl
    · have e5 : (a == c) = false := beq_eq_false_iff_ne.2 p5
      by_cases q : a < c
      · have d2 : decide (c ≤ a ∧ d ≤ b) = false := decide_eq_false (by omega)
        have d3 : decide (a < c ∨ a = c ∧ b < d) = true := decide_eq_true (by omega)
        by_cases r : b ≤ d
        · have d1 : decide (a ≤ c ∧ b ≤ d) = true := decide_eq_true (by omega)
          simp only [d0, d1, d2, d3, e5]
          rfl
        · have d1 : decide (a ≤ c ∧ b ≤ d) = false := decide_eq_false (by omega)
          simp only [d0, d1, d3, e5]
          rfl
      · have d1 : decide (a ≤ c ∧ b ≤ d) = false := decide_eq_false (by omega)
        have d3 : decide (a < c ∨ a = c ∧ b < d) = false := decide_eq_false (by omega)
        have d4 : decide (c < a ∨ c = a ∧ d < b) = true := decide_eq_true (by omega)
        simp only [d0, d1, d3, d4, e5]
        rfl
end Go.Proofs.Ytgadahagohbhhaa.Pure
