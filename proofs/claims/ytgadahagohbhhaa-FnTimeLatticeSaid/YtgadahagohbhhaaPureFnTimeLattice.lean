/- Proved: the law FnTimeLattice answers true for every two codes: TimeJoin and TimeMeet agree with the reference, are the least upper and the greatest lower bound, and absorb each other. No condition. -/
import Derived.Test.YtgadahagohbhhaaZFnTimeLatticex4
namespace Go.Proofs.Ytgadahagohbhhaa.Pure
open Go.RowKit Go.Proofs.Ytgadahagohbhhaa.PFnTimeLattice Go.Proofs.YtgadahagohbhhaaW.PrintWords Go.Proofs.YtgadahagohbhhaaW.PrintLast
set_option linter.unusedVariables false
set_option linter.unusedSimpArgs false
/-- The pure statement of the law FnTimeLattice. -/
def FnTimeLattice_pure : Prop := ∀ (l0 : List Int) (l1 : List Int), l0.length ≤ maxLen → l0.length * 1 ≤ 140737488351232 → (∀ x ∈ l0, (Lit.int .u8 x).wf = true) → l1.length ≤ maxLen → l1.length * 1 ≤ 140737488351232 → (∀ x ∈ l1, (Lit.int .u8 x).wf = true) → ∃ k, laws_FnTimeLattice.f k l0 l1 = some true
theorem ev_if {α : Type} {c : Prop} [Decidable c] {a b : Nat → Option α} {r : α} (h : c) (e : Ev a r) : Ev (fun k => if c then a k else b k) r := Ev.congr (fun _ => if_pos h) e
theorem ev_else {α : Type} {c : Prop} [Decidable c] {a b : Nat → Option α} {r : α} (h : ¬ c) (e : Ev b r) : Ev (fun k => if c then a k else b k) r := Ev.congr (fun _ => if_neg h) e
theorem ev_bind0 {α β : Type} {g : Option α} {f : Nat → α → Option β} {a : α} {r : β} (h : g = some a) (e : Ev (fun n => f n a) r) : Ev (fun n => g.bind (f n)) r := Ev.congr (fun _ => by rw [h]; rfl) e
theorem ev_of {α : Type} {g : Option α} {r : α} (h : g = some r) : Ev (fun _ => g) r := ⟨0, fun _ _ => h⟩
theorem ev_to {α : Type} {g : Nat → Option α} {r r' : α} (e : Ev g r) (h : r = r') : Ev g r' := h ▸ e
theorem w64 {n : Int} (h0 : -9223372036854775808 ≤ n) (h1 : n ≤ 9223372036854775807) : wrap64 n = n := by unfold wrap64; omega
theorem w64s {i n : Nat} (h : i < n) (hn : n ≤ 140737488355328) : wrap64 ((i : Int) + 1) = ((i + 1 : Nat) : Int) := by unfold wrap64; omega
theorem rd_at (l : List Int) (i : Nat) (h : i < l.length) : rd l (i : Int) = l[i] := by
  unfold rd
  rw [Int.toNat_natCast, List.getD_eq_getElem?_getD, List.getElem?_eq_getElem h]
  rfl
theorem drop_at {α : Type} (l : List α) (i : Nat) (h : i < l.length) : l.drop i = l[i] :: l.drop (i + 1) := List.drop_eq_getElem_cons h
theorem lt_cast {i n : Nat} (h : i < n) : (i : Int) < (n : Int) := by omega
theorem drop_eq {α : Type} (a b : List α) (i : Nat) (h : i < a.length) (h2 : i < b.length) : (a.drop i = b.drop i) ↔ (a[i] = b[i] ∧ a.drop (i + 1) = b.drop (i + 1)) := by
  rw [drop_at a i h, drop_at b i h2, List.cons.injEq]
theorem drop_all {α : Type} (l : List α) (i : Nat) (h : i < l.length) (p : α → Bool) : (l.drop i).all p = (p l[i] && (l.drop (i + 1)).all p) := by
  rw [drop_at l i h, List.all_cons]
theorem drop_end {α : Type} (l : List α) (i : Nat) (h : l.length ≤ i) : l.drop i = [] := List.drop_of_length_le h
theorem drop_dec {α : Type} [DecidableEq α] (a b : List α) (i : Nat) (h : i < a.length) (h2 : i < b.length) : decide (a.drop i = b.drop i) = (decide (a[i] = b[i]) && decide (a.drop (i + 1) = b.drop (i + 1))) := by
  rw [← Bool.decide_and]
  exact decide_eq_decide.mpr (drop_eq a b i h h2)
theorem xor_small (a b : Nat) (ha : a < 2 ^ 40) (hb : b < 2 ^ 40) : 0 ≤ Go.bits .xor .i64 (a : Int) (b : Int) := by
  have hx : a ^^^ b < 2 ^ 40 := Nat.xor_lt_two_pow ha hb
  have h1 : (BitVec.ofInt 64 (a : Int)).toNat = a := by
    rw [BitVec.ofInt_natCast, BitVec.toNat_ofNat]; exact Nat.mod_eq_of_lt (by omega)
  have h2 : (BitVec.ofInt 64 (b : Int)).toNat = b := by
    rw [BitVec.ofInt_natCast, BitVec.toNat_ofNat]; exact Nat.mod_eq_of_lt (by omega)
  have e : Go.bits .xor .i64 (a : Int) (b : Int) = ((a ^^^ b : Nat) : Int) := by
    show IntKind.i64.wrap ((BitVec.ofInt 64 (a : Int) ^^^ BitVec.ofInt 64 (b : Int)).toNat : Int) = _
    rw [BitVec.toNat_xor, h1, h2, IntKind.wrap_i64]
    omega
  rw [e]
  omega
def RB (b : List Int) : Prop := b.length ≤ 2000 ∧ ∀ x ∈ b, 0 ≤ x ∧ x ≤ 255
theorem RB.at {b : List Int} (h : RB b) (i : Int) : 0 ≤ rd b i ∧ rd b i ≤ 255 := by
  unfold rd
  rw [List.getD_eq_getElem?_getD]
  cases e : b[i.toNat]? with
  | none => simp
  | some x => exact h.2 x (List.mem_of_getElem? e)
theorem bytes_ok {l : List Int} (h : ∀ x ∈ l, (Lit.int .u8 x).wf = true) : ∀ x ∈ l, 0 ≤ x ∧ x ≤ 255 := by
  intro x hx
  have h1 := h x hx
  have m1 : IntKind.min .u8 = 0 := by decide
  have m2 : IntKind.max .u8 = 255 := by decide
  simp only [Lit.wf, Bool.and_eq_true, decide_eq_true_eq, m1, m2] at h1
  exact h1
theorem newReader_eq (l : List Int) (h : ∀ x ∈ l, (Lit.int .u8 x).wf = true) : ∃ b, spec_newReader.f l = some (b, 0) ∧ RB b := by
  have hb := bytes_ok h
  unfold spec_newReader.f
  by_cases h1 : (l.length : Int) > 2000
  · refine ⟨l.take 2000, by rw [if_pos h1, if_pos (by omega)], ?_, fun x hx => hb x (List.mem_of_mem_take hx)⟩
    rw [List.length_take]; omega
  · exact ⟨l, by rw [if_neg h1], by omega, hb⟩
theorem tmod_range {x n : Int} (hx : 0 ≤ x) (hn : 1 ≤ n) : 0 ≤ Int.tmod x n ∧ Int.tmod x n < n := by
  rw [Int.tmod_eq_emod_of_nonneg hx]
  exact ⟨Int.emod_nonneg _ (by omega), Int.emod_lt_of_pos _ (by omega)⟩
theorem pick_ev {b : List Int} {p : Int} (n : Int) (hb : RB b) (h0 : 0 ≤ p) (h1 : p ≤ 1000000) : ∃ v, Ev (fun k => spec_reader_pick.f k b p n) (v, p + 1) ∧ 0 ≤ v ∧ (1 ≤ n → v < n) ∧ (n < 1 → v = 0) := by
  have e1 : wrap64 (p + 1) = p + 1 := w64 (by omega) (by omega)
  have e2 : wrap64 (p + 1 - 1) = p := by rw [show p + 1 - 1 = p by omega]; exact w64 (by omega) (by omega)
  unfold spec_reader_pick.f
  by_cases hn : n < 1
  · refine ⟨0, ev_if hn ?_, Int.le_refl _, fun h => by omega, fun _ => rfl⟩
    refine Ev.step (fun k => by rw [spec_reader_pick.j0]) ?_
    exact ev_if rfl (ev_of (by rw [e1]))
  · by_cases hl : b.length = 0
    · refine ⟨0, ev_else hn ?_, Int.le_refl _, fun h => by omega, fun h => absurd h hn⟩
      refine Ev.step (fun k => by rw [spec_reader_pick.j0]) ?_
      exact ev_if (by simpa using hl) (ev_of (by rw [e1]))
    · rw [e1]
      by_cases hp : p < (b.length : Int)
      · have hr := hb.at p
        have e3 : wrap64 (rd b p) = rd b p := w64 (by omega) (by omega)
        have ht := tmod_range hr.1 (show 1 ≤ n by omega)
        refine ⟨Int.tmod (rd b p) n, ev_else hn ?_, ht.1, fun _ => ht.2, fun h => absurd h hn⟩
        refine Ev.step (fun k => by rw [spec_reader_pick.j0]) ?_
        rw [e2]
        refine ev_else (by simpa using hl) (ev_if hp (ev_if h0 (ev_else (by omega) (ev_of ?_))))
        rw [e3]
      · have hlen : 1 ≤ (b.length : Int) := by omega
        have hle : (b.length : Int) ≤ 2000 := by have := hb.1; omega
        have m1 := tmod_range h0 hlen
        have e4 : wrap64 (p * 7) = p * 7 := w64 (by omega) (by omega)
        have e5 : wrap64 (p * 7 + 3) = p * 7 + 3 := w64 (by omega) (by omega)
        have m2 := tmod_range (show 0 ≤ p * 7 + 3 by omega) hlen
        have ra := hb.at (Int.tmod p (b.length : Int))
        have rb := hb.at (Int.tmod (p * 7 + 3) (b.length : Int))
        have hd : 0 ≤ Int.tdiv p (b.length : Int) ∧ Int.tdiv p (b.length : Int) ≤ p := by
          rw [Int.tdiv_eq_ediv_of_nonneg h0]
          exact ⟨Int.ediv_nonneg h0 (by omega), Int.ediv_le_self _ h0⟩
        generalize hA : rd b (Int.tmod p (b.length : Int)) = A at ra
        generalize hB : rd b (Int.tmod (p * 7 + 3) (b.length : Int)) = B at rb
        generalize hD : Int.tdiv p (b.length : Int) = D at hd
        obtain ⟨X, hX⟩ : ∃ X : Nat, (X : Int) = A * 131 + B * 1117 + p * 29 + D * 53 := ⟨(A * 131 + B * 1117 + p * 29 + D * 53).toNat, by omega⟩
        have e6 : wrap64 (wrap64 (wrap64 (wrap64 (wrap64 A * 131) + wrap64 (wrap64 B * 1117)) + wrap64 (p * 29)) + wrap64 (wrap64 D * 53)) = (X : Int) := by
          rw [w64 (n := A) (by omega) (by omega), w64 (n := B) (by omega) (by omega), w64 (n := D) (by omega) (by omega), w64 (n := A * 131) (by omega) (by omega), w64 (n := B * 1117) (by omega) (by omega), w64 (n := p * 29) (by omega) (by omega), w64 (n := D * 53) (by omega) (by omega),
            w64 (n := A * 131 + B * 1117) (by omega) (by omega), w64 (n := A * 131 + B * 1117 + p * 29) (by omega) (by omega), w64 (by omega) (by omega), hX]
        have e7 : Int.tdiv (X : Int) 64 = ((X / 64 : Nat) : Int) := by rw [Int.tdiv_eq_ediv_of_nonneg (by omega)]; rfl
        have e8 : wrap64 ((X / 64 : Nat) : Int) = ((X / 64 : Nat) : Int) := w64 (by omega) (by omega)
        have hX1 : X ≤ 1000000000 := by omega
        have hX2 : X / 64 ≤ X := Nat.div_le_self _ _
        have hx := xor_small X (X / 64) (Nat.lt_of_le_of_lt hX1 (by decide)) (Nat.lt_of_le_of_lt (Nat.le_trans hX2 hX1) (by decide))
        have ht := tmod_range hx (show 1 ≤ n by omega)
        refine ⟨Int.tmod (Go.bits .xor .i64 (X : Int) ((X / 64 : Nat) : Int)) n, ev_else hn ?_, ht.1, fun _ => ht.2, fun h => absurd h hn⟩
        refine Ev.step (fun k => by rw [spec_reader_pick.j0]) ?_
        rw [e2]
        refine ev_else (by simpa using hl) (ev_else hp (ev_else (by omega) (ev_if m1.1 (ev_if m1.2 ?_))))
        rw [e4, e5]
        refine ev_if m2.1 (ev_if m2.2 (ev_else (by omega) (ev_of ?_)))
        rw [hA, hB, hD, e6, e7, e8]
/-- pick, met in a run: go on with any value of its range. -/
theorem Ev.pick {β : Type} {b : List Int} {p n : Int} {f : Nat → Int × Int → Option β} {R : β → Prop} (hb : RB b) (h0 : 0 ≤ p) (h1 : p ≤ 1000000)
    (h : ∀ v, 0 ≤ v → (1 ≤ n → v < n) → (n < 1 → v = 0) → ∃ r, Ev (fun k => f k (v, p + 1)) r ∧ R r) : ∃ r, Ev (fun k => (spec_reader_pick.f k b p n).bind (f k)) r ∧ R r := by
  obtain ⟨v, e, a1, a2, a3⟩ := pick_ev n hb h0 h1
  obtain ⟨r, er, hr⟩ := h v a1 a2 a3
  exact ⟨r, Ev.bind e er, hr⟩
theorem one_ev {b : List Int} {p : Int} (l : List Int) (hl : 1 ≤ l.length) (hb : RB b) (h0 : 0 ≤ p) (h1 : p ≤ 1000000) : ∃ v, Ev (fun k => spec_reader_one.f k b p l) (v, p + 1) ∧ v ∈ l := by
  obtain ⟨v, e, a1, a2, _⟩ := pick_ev (l.length : Int) hb h0 h1
  have hv := a2 (by omega)
  obtain ⟨i, rfl⟩ := Int.eq_ofNat_of_zero_le a1
  have hi : i < l.length := by omega
  refine ⟨l[i], ?_, List.getElem_mem hi⟩
  unfold spec_reader_one.f
  refine Ev.bind e (ev_if (by simp) (ev_if (by simpa using hi) (ev_of ?_)))
  show some (rd l (i : Int), p + 1) = _
  rw [rd_at l i hi]
theorem anyTime0_ev {b : List Int} {p : Int} (hb : RB b) (h0 : 0 ≤ p) (h1 : p ≤ 800000) : ∃ (x y p' : Int), Ev (fun k => spec_anyTime.f k b p) (x, y, p') ∧ p ≤ p' ∧ p' ≤ p + 4 := by
  obtain ⟨v, e, _, _, _⟩ := pick_ev (b := b) 5 hb h0 (by omega)
  obtain ⟨u, eu, _, _, _⟩ := pick_ev (b := b) (p := p + 1) 5 hb (by omega) (by omega)
  have et : Ev (fun k => spec_randomTime.f k b p) (v, u, p + 1 + 1) := by
    unfold spec_randomTime.f
    exact Ev.bind e (Ev.bind eu (ev_of rfl))
  obtain ⟨w, ew, _, _, _⟩ := pick_ev (b := b) (p := p + 1 + 1) 20 hb (by omega) (by omega)
  obtain ⟨z, ez, _⟩ := one_ev (b := b) (p := p + 1 + 1 + 1) [-1, 100, 99] (by simp) hb (by omega) (by omega)
  unfold spec_anyTime.f
  by_cases c0 : w = 0
  · exact ⟨z, u, p + 1 + 1 + 1 + 1, Ev.bind et (Ev.bind ew (ev_if c0 (Ev.bind ez (ev_of rfl)))), by omega, by omega⟩
  · by_cases c1 : w = 1
    · exact ⟨v, z, p + 1 + 1 + 1 + 1, Ev.bind et (Ev.bind ew (ev_else c0 (ev_if c1 (Ev.bind ez (ev_of rfl))))), by omega, by omega⟩
    · exact ⟨v, u, p + 1 + 1 + 1, Ev.bind et (Ev.bind ew (ev_else c0 (ev_else c1 (ev_of rfl)))), by omega, by omega⟩
theorem twoTimes0_ev (l : List Int) (h : ∀ x ∈ l, (Lit.int .u8 x).wf = true) : ∃ a b c d : Int, Ev (fun k => spec_twoTimes.f k l) (a, b, c, d) := by
  obtain ⟨s, es, hs⟩ := newReader_eq l h
  obtain ⟨a, b, p, e1, p0, p1⟩ := anyTime0_ev hs (p := 0) (by omega) (by omega)
  obtain ⟨c, d, q, e2, _, _⟩ := anyTime0_ev hs (p := p) (by omega) (by omega)
  unfold spec_twoTimes.f
  exact ⟨a, b, c, d, ev_bind0 es (Ev.bind e1 (Ev.bind e2 (ev_of rfl)))⟩
theorem tle0_eq (a b c d : Int) : impl_TimeLessEqual.f a b c d = some (decide (a ≤ c ∧ b ≤ d)) := by
  unfold impl_TimeLessEqual.f
  by_cases h : a ≤ c <;> simp [h]
theorem mx_le (a b c : Int) : mx a b ≤ c ↔ a ≤ c ∧ b ≤ c := by unfold mx; split <;> omega
theorem le_mn (a b c : Int) : c ≤ mn a b ↔ c ≤ a ∧ c ≤ b := by unfold mn; split <;> omega
theorem mx_mn (a b : Int) : mx a (mn a b) = a := by unfold mx mn; split <;> split <;> omega
theorem mn_mx (a b : Int) : mn a (mx a b) = a := by unfold mx mn; split <;> split <;> omega
theorem FnTimeLattice : FnTimeLattice_pure := by
  intro l0 l1 _ _ w0 _ _ w1
  refine Ev.rounds (g := fun k => laws_FnTimeLattice.f k l0 l1) ?_
  unfold laws_FnTimeLattice.f
  have out : Ev (fun k => laws_FnTimeLattice.j0 k l0 l1 true) true := by
    refine Ev.step (fun k => by rw [laws_FnTimeLattice.j0]) ?_
    exact ev_if rfl (ev_of rfl)
  by_cases hb : (l0.length : Int) > 1048576
  · exact ev_if hb out
  · refine ev_else hb ?_
    by_cases hb1 : (l1.length : Int) > 1048576
    · rw [decide_eq_true hb1]; exact out
    · rw [decide_eq_false hb1]
      refine Ev.step (fun k => by rw [laws_FnTimeLattice.j0]) ?_
      obtain ⟨a0, a1, b0, b1, e⟩ := twoTimes0_ev l0 w0
      obtain ⟨c0, c1, d0, d1, e2⟩ := twoTimes0_ev l1 w1
      have ed : Ev (fun k => spec_DrawTimeJoin.f k l0) (a0, a1, b0, b1) := by
        unfold spec_DrawTimeJoin.f
        exact Ev.bind e (ev_of rfl)
      have ed2 : Ev (fun k => spec_DrawTimeMeet.f k l1) (c0, c1, d0, d1) := by
        unfold spec_DrawTimeMeet.f
        exact Ev.bind e2 (ev_of rfl)
      refine ev_else (by simp) (Ev.bind ed (ev_bind0 rfl (ev_bind0 rfl (ev_bind0 rfl ?_))))
      refine ev_else (by simp) (ev_bind0 rfl ?_)
      refine Ev.step (fun k => by rw [laws_FnTimeLattice.j1]) ?_
      refine ev_else (by simp) (Ev.bind ed2 ?_)
      have last : ∀ x y : Bool, x = decide (mx a0 b0 ≤ c0 ∧ mx a1 b1 ≤ c1) → y = decide (d0 ≤ mn a0 b0 ∧ d1 ≤ mn a1 b1) → Ev (fun k => laws_FnTimeLattice.j3 k x y a0 a1 (mx a0 b0) (mx a1 b1) (mn a0 b0) (mn a1 b1) c0 c1 d0 d1) true := by
        intro x y hx hy
        refine Ev.step (fun k => by rw [laws_FnTimeLattice.j3]) ?_
        refine ev_bind0 (tle0_eq _ _ _ _) (ev_if (by rw [hx]; simp) (ev_bind0 (tle0_eq _ _ _ _) (ev_if (by rw [hy]; simp) (ev_bind0 rfl ?_))))
        refine ev_if (by simp [mx_mn]) (ev_bind0 rfl (ev_of ?_))
        simp [mn_mx]
      have mid : ∀ x : Bool, x = decide (mx a0 b0 ≤ c0 ∧ mx a1 b1 ≤ c1) → Ev (fun k => laws_FnTimeLattice.j2 k x a0 a1 b0 b1 (mx a0 b0) (mx a1 b1) (mn a0 b0) (mn a1 b1) c0 c1 d0 d1) true := by
        intro x hx
        refine Ev.step (fun k => by rw [laws_FnTimeLattice.j2]) ?_
        refine ev_bind0 (tle0_eq _ _ _ _) ?_
        by_cases h : d0 ≤ a0 ∧ d1 ≤ a1
        · refine ev_if (by simpa using h) (ev_bind0 (tle0_eq _ _ _ _) (last _ _ hx ?_))
          rw [decide_eq_decide, le_mn, le_mn]
          omega
        · refine ev_else (by simpa using h) (last _ _ hx ?_)
          symm
          rw [decide_eq_false_iff_not, le_mn, le_mn]
          omega
      refine ev_bind0 (tle0_eq _ _ _ _) ?_
      by_cases h : a0 ≤ c0 ∧ a1 ≤ c1
      · refine ev_if (by simpa using h) (ev_bind0 (tle0_eq _ _ _ _) (mid _ ?_))
        rw [decide_eq_decide, mx_le, mx_le]
        dsimp only
        omega
      · refine ev_else (by simpa using h) (mid _ ?_)
        symm
        rw [decide_eq_false_iff_not, mx_le, mx_le]
        omega
end Go.Proofs.Ytgadahagohbhhaa.Pure
