/- Proved: the law FnProjectRow answers true for every code: ProjectRow agrees with the reference, with all columns in order it returns the row, and projecting twice is projecting with the composed columns. No condition. -/
import Derived.Test.YtbohfeifkkigbaaZFnProjectRowx4
namespace Go.Proofs.Ytbohfeifkkigbaa.Pure
open Go.RowKit Go.Proofs.Ytbohfeifkkigbaa.PFnProjectRow Go.Proofs.YtbohfeifkkigbaaW.PrintWords Go.Proofs.YtbohfeifkkigbaaW.PrintLast
set_option linter.unusedVariables false
set_option linter.unusedSimpArgs false
/-- The pure statement of the law FnProjectRow. -/
def FnProjectRow_pure : Prop := ∀ (l0 : List Int), l0.length ≤ maxLen → l0.length * 1 ≤ 140737488351232 → (∀ x ∈ l0, (Lit.int .u8 x).wf = true) → ∃ k, laws_FnProjectRow.f k l0 = some true
theorem ev_if {α : Type} {c : Prop} [Decidable c] {a b : Nat → Option α} {r : α} (h : c) (e : Ev a r) : Ev (fun k => if c then a k else b k) r := Ev.congr (fun _ => if_pos h) e
theorem ev_else {α : Type} {c : Prop} [Decidable c] {a b : Nat → Option α} {r : α} (h : ¬ c) (e : Ev b r) : Ev (fun k => if c then a k else b k) r := Ev.congr (fun _ => if_neg h) e
theorem ev_bind0 {α β : Type} {g : Option α} {f : Nat → α → Option β} {a : α} {r : β} (h : g = some a) (e : Ev (fun n => f n a) r) : Ev (fun n => g.bind (f n)) r := Ev.congr (fun _ => by rw [h]; rfl) e
theorem ev_of {α : Type} {g : Option α} {r : α} (h : g = some r) : Ev (fun _ => g) r := ⟨0, fun _ _ => h⟩
theorem ev_to {α : Type} {g : Nat → Option α} {r r' : α} (e : Ev g r) (h : r = r') : Ev g r' := h ▸ e
theorem w64 {n : Int} (h0 : -9223372036854775808 ≤ n) (h1 : n ≤ 9223372036854775807) : wrap64 n = n := by unfold wrap64; omega
theorem w64s {i n : Nat} (h : i < n) (hn : n ≤ 140737488355328) : wrap64 ((i : Int) + 1) = ((i + 1 : Nat) : Int) := by unfold wrap64; omega
theorem rd_at (l : List Int) (i : Nat) (h : i < l.length) : rd l (i : Int) = l[i] := by
  unfold rd
  rw [Int.toNat_natCast, List.getD_eq_getElem?_getD, List.getElem?_eq_getElem h]
  rfl
theorem drop_at {α : Type} (l : List α) (i : Nat) (h : i < l.length) : l.drop i = l[i] :: l.drop (i + 1) := List.drop_eq_getElem_cons h
theorem lt_cast {i n : Nat} (h : i < n) : (i : Int) < (n : Int) := by omega
theorem drop_eq {α : Type} (a b : List α) (i : Nat) (h : i < a.length) (h2 : i < b.length) : (a.drop i = b.drop i) ↔ (a[i] = b[i] ∧ a.drop (i + 1) = b.drop (i + 1)) := by
  rw [drop_at a i h, drop_at b i h2, List.cons.injEq]
theorem drop_all {α : Type} (l : List α) (i : Nat) (h : i < l.length) (p : α → Bool) : (l.drop i).all p = (p l[i] && (l.drop (i + 1)).all p) := by
  rw [drop_at l i h, List.all_cons]
theorem drop_end {α : Type} (l : List α) (i : Nat) (h : l.length ≤ i) : l.drop i = [] := List.drop_of_length_le h
theorem drop_dec {α : Type} [DecidableEq α] (a b : List α) (i : Nat) (h : i < a.length) (h2 : i < b.length) : decide (a.drop i = b.drop i) = (decide (a[i] = b[i]) && decide (a.drop (i + 1) = b.drop (i + 1))) := by
  rw [← Bool.decide_and]
  exact decide_eq_decide.mpr (drop_eq a b i h h2)
theorem xor_small (a b : Nat) (ha : a < 2 ^ 40) (hb : b < 2 ^ 40) : 0 ≤ Go.bits .xor .i64 (a : Int) (b : Int) := by
  have hx : a ^^^ b < 2 ^ 40 := Nat.xor_lt_two_pow ha hb
  have h1 : (BitVec.ofInt 64 (a : Int)).toNat = a := by
    rw [BitVec.ofInt_natCast, BitVec.toNat_ofNat]; exact Nat.mod_eq_of_lt (by omega)
  have h2 : (BitVec.ofInt 64 (b : Int)).toNat = b := by
    rw [BitVec.ofInt_natCast, BitVec.toNat_ofNat]; exact Nat.mod_eq_of_lt (by omega)
  have e : Go.bits .xor .i64 (a : Int) (b : Int) = ((a ^^^ b : Nat) : Int) := by
    show IntKind.i64.wrap ((BitVec.ofInt 64 (a : Int) ^^^ BitVec.ofInt 64 (b : Int)).toNat : Int) = _
    rw [BitVec.toNat_xor, h1, h2, IntKind.wrap_i64]
    omega
  rw [e]
  omega
def RB (b : List Int) : Prop := b.length ≤ 2000 ∧ ∀ x ∈ b, 0 ≤ x ∧ x ≤ 255
theorem RB.at {b : List Int} (h : RB b) (i : Int) : 0 ≤ rd b i ∧ rd b i ≤ 255 := by
  unfold rd
  rw [List.getD_eq_getElem?_getD]
  cases e : b[i.toNat]? with
  | none => simp
  | some x => exact h.2 x (List.mem_of_getElem? e)
theorem bytes_ok {l : List Int} (h : ∀ x ∈ l, (Lit.int .u8 x).wf = true) : ∀ x ∈ l, 0 ≤ x ∧ x ≤ 255 := by
  intro x hx
  have h1 := h x hx
  have m1 : IntKind.min .u8 = 0 := by decide
  have m2 : IntKind.max .u8 = 255 := by decide
  simp only [Lit.wf, Bool.and_eq_true, decide_eq_true_eq, m1, m2] at h1
  exact h1
theorem newReader_eq (l : List Int) (h : ∀ x ∈ l, (Lit.int .u8 x).wf = true) : ∃ b, spec_newReader.f l = some (b, 0) ∧ RB b := by
  have hb := bytes_ok h
  unfold spec_newReader.f
  by_cases h1 : (l.length : Int) > 2000
  · refine ⟨l.take 2000, by rw [if_pos h1, if_pos (by omega)], ?_, fun x hx => hb x (List.mem_of_mem_take hx)⟩
    rw [List.length_take]; omega
  · exact ⟨l, by rw [if_neg h1], by omega, hb⟩
theorem tmod_range {x n : Int} (hx : 0 ≤ x) (hn : 1 ≤ n) : 0 ≤ Int.tmod x n ∧ Int.tmod x n < n := by
  rw [Int.tmod_eq_emod_of_nonneg hx]
  exact ⟨Int.emod_nonneg _ (by omega), Int.emod_lt_of_pos _ (by omega)⟩
theorem pick_ev {b : List Int} {p : Int} (n : Int) (hb : RB b) (h0 : 0 ≤ p) (h1 : p ≤ 1000000) : ∃ v, Ev (fun k => spec_reader_pick.f k b p n) (v, p + 1) ∧ 0 ≤ v ∧ (1 ≤ n → v < n) ∧ (n < 1 → v = 0) := by
  have e1 : wrap64 (p + 1) = p + 1 := w64 (by omega) (by omega)
  have e2 : wrap64 (p + 1 - 1) = p := by rw [show p + 1 - 1 = p by omega]; exact w64 (by omega) (by omega)
  unfold spec_reader_pick.f
  by_cases hn : n < 1
  · refine ⟨0, ev_if hn ?_, Int.le_refl _, fun h => by omega, fun _ => rfl⟩
    refine Ev.step (fun k => by rw [spec_reader_pick.j0]) ?_
    exact ev_if rfl (ev_of (by rw [e1]))
  · by_cases hl : b.length = 0
    · refine ⟨0, ev_else hn ?_, Int.le_refl _, fun h => by omega, fun h => absurd h hn⟩
      refine Ev.step (fun k => by rw [spec_reader_pick.j0]) ?_
      exact ev_if (by simpa using hl) (ev_of (by rw [e1]))
    · rw [e1]
      by_cases hp : p < (b.length : Int)
      · have hr := hb.at p
        have e3 : wrap64 (rd b p) = rd b p := w64 (by omega) (by omega)
        have ht := tmod_range hr.1 (show 1 ≤ n by omega)
        refine ⟨Int.tmod (rd b p) n, ev_else hn ?_, ht.1, fun _ => ht.2, fun h => absurd h hn⟩
        refine Ev.step (fun k => by rw [spec_reader_pick.j0]) ?_
        rw [e2]
        refine ev_else (by simpa using hl) (ev_if hp (ev_if h0 (ev_else (by omega) (ev_of ?_))))
        rw [e3]
      · have hlen : 1 ≤ (b.length : Int) := by omega
        have hle : (b.length : Int) ≤ 2000 := by have := hb.1; omega
        have m1 := tmod_range h0 hlen
        have e4 : wrap64 (p * 7) = p * 7 := w64 (by omega) (by omega)
        have e5 : wrap64 (p * 7 + 3) = p * 7 + 3 := w64 (by omega) (by omega)
        have m2 := tmod_range (show 0 ≤ p * 7 + 3 by omega) hlen
        have ra := hb.at (Int.tmod p (b.length : Int))
        have rb := hb.at (Int.tmod (p * 7 + 3) (b.length : Int))
        have hd : 0 ≤ Int.tdiv p (b.length : Int) ∧ Int.tdiv p (b.length : Int) ≤ p := by
          rw [Int.tdiv_eq_ediv_of_nonneg h0]
          exact ⟨Int.ediv_nonneg h0 (by omega), Int.ediv_le_self _ h0⟩
        generalize hA : rd b (Int.tmod p (b.length : Int)) = A at ra
        generalize hB : rd b (Int.tmod (p * 7 + 3) (b.length : Int)) = B at rb
        generalize hD : Int.tdiv p (b.length : Int) = D at hd
        obtain ⟨X, hX⟩ : ∃ X : Nat, (X : Int) = A * 131 + B * 1117 + p * 29 + D * 53 := ⟨(A * 131 + B * 1117 + p * 29 + D * 53).toNat, by omega⟩
        have e6 : wrap64 (wrap64 (wrap64 (wrap64 (wrap64 A * 131) + wrap64 (wrap64 B * 1117)) + wrap64 (p * 29)) + wrap64 (wrap64 D * 53)) = (X : Int) := by
          rw [w64 (n := A) (by omega) (by omega), w64 (n := B) (by omega) (by omega), w64 (n := D) (by omega) (by omega), w64 (n := A * 131) (by omega) (by omega), w64 (n := B * 1117) (by omega) (by omega), w64 (n := p * 29) (by omega) (by omega), w64 (n := D * 53) (by omega) (by omega),
            w64 (n := A * 131 + B * 1117) (by omega) (by omega), w64 (n := A * 131 + B * 1117 + p * 29) (by omega) (by omega), w64 (by omega) (by omega), hX]
        have e7 : Int.tdiv (X : Int) 64 = ((X / 64 : Nat) : Int) := by rw [Int.tdiv_eq_ediv_of_nonneg (by omega)]; rfl
        have e8 : wrap64 ((X / 64 : Nat) : Int) = ((X / 64 : Nat) : Int) := w64 (by omega) (by omega)
        have hX1 : X ≤ 1000000000 := by omega
        have hX2 : X / 64 ≤ X := Nat.div_le_self _ _
        have hx := xor_small X (X / 64) (Nat.lt_of_le_of_lt hX1 (by decide)) (Nat.lt_of_le_of_lt (Nat.le_trans hX2 hX1) (by decide))
        have ht := tmod_range hx (show 1 ≤ n by omega)
        refine ⟨Int.tmod (Go.bits .xor .i64 (X : Int) ((X / 64 : Nat) : Int)) n, ev_else hn ?_, ht.1, fun _ => ht.2, fun h => absurd h hn⟩
        refine Ev.step (fun k => by rw [spec_reader_pick.j0]) ?_
        rw [e2]
        refine ev_else (by simpa using hl) (ev_else hp (ev_else (by omega) (ev_if m1.1 (ev_if m1.2 ?_))))
        rw [e4, e5]
        refine ev_if m2.1 (ev_if m2.2 (ev_else (by omega) (ev_of ?_)))
        rw [hA, hB, hD, e6, e7, e8]
/-- pick, met in a run: go on with any value of its range. -/
theorem Ev.pick {β : Type} {b : List Int} {p n : Int} {f : Nat → Int × Int → Option β} {R : β → Prop} (hb : RB b) (h0 : 0 ≤ p) (h1 : p ≤ 1000000)
    (h : ∀ v, 0 ≤ v → (1 ≤ n → v < n) → (n < 1 → v = 0) → ∃ r, Ev (fun k => f k (v, p + 1)) r ∧ R r) : ∃ r, Ev (fun k => (spec_reader_pick.f k b p n).bind (f k)) r ∧ R r := by
  obtain ⟨v, e, a1, a2, a3⟩ := pick_ev n hb h0 h1
  obtain ⟨r, er, hr⟩ := h v a1 a2 a3
  exact ⟨r, Ev.bind e er, hr⟩
theorem one_ev {b : List Int} {p : Int} (l : List Int) (hl : 1 ≤ l.length) (hb : RB b) (h0 : 0 ≤ p) (h1 : p ≤ 1000000) : ∃ v, Ev (fun k => spec_reader_one.f k b p l) (v, p + 1) ∧ v ∈ l := by
  obtain ⟨v, e, a1, a2, _⟩ := pick_ev (l.length : Int) hb h0 h1
  have hv := a2 (by omega)
  obtain ⟨i, rfl⟩ := Int.eq_ofNat_of_zero_le a1
  have hi : i < l.length := by omega
  refine ⟨l[i], ?_, List.getElem_mem hi⟩
  unfold spec_reader_one.f
  refine Ev.bind e (ev_if (by simp) (ev_if (by simpa using hi) (ev_of ?_)))
  show some (rd l (i : Int), p + 1) = _
  rw [rd_at l i hi]
theorem randomRow_l {b : List Int} (hb : RB b) (w : Nat) (hw : w ≤ 1000) (d : Nat) : ∀ (i : Nat) (out : List Int) (p : Int), i + d = w → out.length = i → 0 ≤ p → p ≤ 900000 + i → (∀ x ∈ out, 0 ≤ x ∧ x ≤ 3) →
    ∃ r, Ev (fun k => spec_randomRow.l0 k (w : Int) out (i : Int) b p) (r, p + d) ∧ r.length = w ∧ ∀ x ∈ r, 0 ≤ x ∧ x ≤ 3 := by
  induction d with
  | zero =>
    intro i out p hi ho hp hp2 hx
    refine ⟨out, ?_, by omega, hx⟩
    refine Ev.step (fun k => by rw [spec_randomRow.l0]) ?_
    exact ev_else (by omega) (ev_of (by simp))
  | succ d ih =>
    intro i out p hi ho hp hp2 hx
    obtain ⟨v, e, a1, a2, _⟩ := pick_ev (b := b) 4 hb hp (by omega)
    have a2 := a2 (by omega)
    obtain ⟨r, hr, h2, h3⟩ := ih (i + 1) (out ++ [v]) (p + 1) (by omega) (by simp; omega) (by omega) (by push_cast; omega) (fun x hx' => by
      rcases List.mem_append.1 hx' with h | h
      · exact hx x h
      · rw [List.mem_singleton.1 h]; omega)
    refine ⟨r, ?_, h2, h3⟩
    refine Ev.step (fun k => by rw [spec_randomRow.l0]) ?_
    refine ev_if (by omega) (Ev.bind e (ev_if (by omega) ?_))
    rw [w64s (i := i) (n := i + 1) (by omega) (by omega)]
    rw [show p + ((d + 1 : Nat) : Int) = p + 1 + (d : Int) by push_cast; omega]
    exact hr
theorem randomRow_ev {b : List Int} {p : Int} (w : Nat) (hw : w ≤ 1000) (hb : RB b) (h0 : 0 ≤ p) (h1 : p ≤ 900000) : ∃ r, Ev (fun k => spec_randomRow.f k b p (w : Int)) (r, p + w) ∧ r.length = w ∧ ∀ x ∈ r, 0 ≤ x ∧ x ≤ 3 := by
  unfold spec_randomRow.f
  obtain ⟨r, hr, h2, h3⟩ := randomRow_l hb w hw w 0 [] p (by omega) rfl h0 (by omega) (fun x hx => by cases hx)
  exact ⟨r, hr, h2, h3⟩
theorem anyRow_ev {b : List Int} {p : Int} (hb : RB b) (h0 : 0 ≤ p) (h1 : p ≤ 800000) : ∃ r p', Ev (fun k => spec_anyRow.f k b p) (r, p') ∧ p ≤ p' ∧ p' ≤ p + 100 ∧ r.length ≤ 7 ∧ ∀ x ∈ r, -10000 ≤ x ∧ x ≤ 10000 := by
  unfold spec_anyRow.f
  obtain ⟨v, e, a1, a2, _⟩ := pick_ev (b := b) 4 hb h0 (by omega)
  have a2 := a2 (by omega)
  obtain ⟨w, hw⟩ : ∃ w : Nat, (w : Int) = 1 + v := ⟨(1 + v).toNat, by omega⟩
  obtain ⟨r, er, rl, rx⟩ := randomRow_ev (b := b) (p := p + 1) w (by omega) hb (by omega) (by omega)
  obtain ⟨u, eu, b1, b2, _⟩ := pick_ev (b := b) (p := p + 1 + w) 10 hb (by omega) (by omega)
  have ew : wrap64 (1 + v) = (w : Int) := by rw [w64 (by omega) (by omega), hw]
  by_cases c0 : u = 0
  · refine ⟨[], p + 1 + w + 1, Ev.bind e ?_, by omega, by omega, by simp, fun x hx => by cases hx⟩
    rw [ew]
    exact Ev.bind er (Ev.bind eu (ev_if c0 (ev_of rfl)))
  · by_cases c1 : u = 1
    · obtain ⟨r2, er2, rl2, rx2⟩ := randomRow_ev (b := b) (p := p + 1 + w + 1) 7 (by omega) hb (by omega) (by omega)
      refine ⟨r2, p + 1 + w + 1 + (7 : Nat), Ev.bind e ?_, by omega, by omega, by omega, fun x hx => by have := rx2 x hx; omega⟩
      rw [ew]
      exact Ev.bind er (Ev.bind eu (ev_else c0 (ev_if c1 (Ev.bind er2 (ev_of rfl)))))
    · by_cases c2 : u = 2
      · obtain ⟨j, ej, j1, j2, _⟩ := pick_ev (b := b) (p := p + 1 + w + 1) (r.length : Int) hb (by omega) (by omega)
        have j2 := j2 (by omega)
        obtain ⟨z, ez, hz⟩ := one_ev (b := b) (p := p + 1 + w + 1 + 1) [10000, -10000, -9999, 9999] (by simp) hb (by omega) (by omega)
        have hz2 : -10000 ≤ z ∧ z ≤ 10000 := by simp at hz; omega
        refine ⟨r.set j.toNat z, p + 1 + w + 1 + 1 + 1, Ev.bind e ?_, by omega, by omega, by rw [List.length_set]; omega, fun x hx => ?_⟩
        · rw [ew]
          exact Ev.bind er (Ev.bind eu (ev_else c0 (ev_else c1 (ev_if c2 (Ev.bind ej (Ev.bind ez (ev_if j1 (ev_if j2 (ev_of rfl)))))))))
        · rcases List.mem_or_eq_of_mem_set hx with h | h
          · have := rx x h; omega
          · rw [h]; exact hz2
      · refine ⟨r, p + 1 + w + 1, Ev.bind e ?_, by omega, by omega, by omega, fun x hx => by have := rx x hx; omega⟩
        rw [ew]
        exact Ev.bind er (Ev.bind eu (ev_else c0 (ev_else c1 (ev_else c2 (ev_of rfl)))))
theorem someColumns_l {b : List Int} (hb : RB b) (w : Int) (d : Nat) : ∀ (out : List Int) (p : Int), d ≤ 10 → out.length + d ≤ 20 → 0 ≤ p → p + d ≤ 900000 →
    ∃ r p', Ev (fun k => spec_someColumns.l0 k w out (d : Int) b p) (r, p') ∧ p ≤ p' ∧ p' ≤ p + d + 2 ∧ r.length ≤ out.length + d + 1 := by
  induction d with
  | zero =>
    intro out p hd ho hp hp2
    obtain ⟨v, e, a1, a2, _⟩ := pick_ev (b := b) (p := p) 14 hb hp (by omega)
    by_cases c0 : v = 0
    · refine ⟨[], p + 1, ?_, by omega, by omega, by simp⟩
      refine Ev.step (fun k => by rw [spec_someColumns.l0]) ?_
      exact ev_else (by omega) (Ev.bind e (ev_if c0 (ev_of rfl)))
    · by_cases c1 : v = 1
      · obtain ⟨z, ez, _⟩ := one_ev (b := b) (p := p + 1) [-1, w] (by simp) hb (by omega) (by omega)
        refine ⟨out ++ [z], p + 1 + 1, ?_, by omega, by omega, by simp⟩
        refine Ev.step (fun k => by rw [spec_someColumns.l0]) ?_
        refine ev_else (by omega) (Ev.bind e (ev_else c0 (ev_if c1 (Ev.bind ez ?_))))
        exact ev_if (by omega) (ev_of rfl)
      · refine ⟨out, p + 1, ?_, by omega, by omega, by omega⟩
        refine Ev.step (fun k => by rw [spec_someColumns.l0]) ?_
        exact ev_else (by omega) (Ev.bind e (ev_else c0 (ev_else c1 (ev_of rfl))))
  | succ d ih =>
    intro out p hd ho hp hp2
    obtain ⟨v, e, _, _, _⟩ := pick_ev (b := b) (p := p) w hb hp (by omega)
    obtain ⟨r, p', er, q1, q2, q3⟩ := ih (out ++ [v]) (p + 1) (by omega) (by simp; omega) (by omega) (by omega)
    refine ⟨r, p', ?_, by omega, by push_cast; omega, by simp at q3; omega⟩
    refine Ev.step (fun k => by rw [spec_someColumns.l0]) ?_
    refine ev_if (by omega) (Ev.bind e ?_)
    refine ev_if (by omega) ?_
    rw [w64 (n := ((d + 1 : Nat) : Int) - 1) (by omega) (by omega), show ((d + 1 : Nat) : Int) - 1 = (d : Int) by push_cast; omega]
    exact er
theorem someColumns_ev {b : List Int} {p : Int} (w : Int) (hb : RB b) (h0 : 0 ≤ p) (h1 : p ≤ 800000) : ∃ r p', Ev (fun k => spec_someColumns.f k b p w) (r, p') ∧ p ≤ p' ∧ p' ≤ p + 10 ∧ r.length ≤ 4 := by
  unfold spec_someColumns.f
  obtain ⟨v, e, a1, a2, _⟩ := pick_ev (b := b) 3 hb h0 (by omega)
  have a2 := a2 (by omega)
  obtain ⟨d, hd⟩ : ∃ d : Nat, (d : Int) = 1 + v := ⟨(1 + v).toNat, by omega⟩
  obtain ⟨r, p', er, q1, q2, q3⟩ := someColumns_l hb w d [] (p + 1) (by omega) (by simp; omega) (by omega) (by omega)
  refine ⟨r, p', Ev.bind e ?_, by omega, by omega, by simp at q3; omega⟩
  rw [show wrap64 (1 + v) = (d : Int) by rw [w64 (by omega) (by omega), hd]]
  exact er
def okv (n : Int) : Bool := decide (-9999 ≤ n ∧ n ≤ 9999)
def vrow (l : List Int) : Bool := l.all okv && decide (1 ≤ (l.length : Int) ∧ (l.length : Int) ≤ 6)
theorem inRange_eq (a b c : Int) : spec_inRange.f a b c = some (decide (b ≤ a ∧ a ≤ c)) := by
  unfold spec_inRange.f
  by_cases h1 : b ≤ a <;> by_cases h2 : a ≤ c <;> simp [h1, h2]
theorem spec_validRow_l (xs : List Int) (hn : xs.length ≤ 140737488355328) (d : Nat) : ∀ (i : Nat), i + d = xs.length → Ev (fun k => spec_validRow.l0 k xs (i : Int)) ((xs.drop i).all okv && decide (1 ≤ (xs.length : Int) ∧ (xs.length : Int) ≤ 6)) := by
  induction d with
  | zero =>
    intro i hi
    refine Ev.step (fun k => by rw [spec_validRow.l0]) ?_
    refine ev_else (by omega) (ev_bind0 (inRange_eq _ _ _) (ev_of ?_))
    rw [List.drop_of_length_le (by omega)]
    simp
  | succ d ih =>
    intro i hi
    have hlt : i < xs.length := by omega
    refine Ev.step (fun k => by rw [spec_validRow.l0]) ?_
    refine ev_if (by omega) (ev_if (by omega) (ev_bind0 (inRange_eq _ _ _) ?_))
    rw [rd_at xs i hlt, drop_all xs i hlt]
    by_cases he : -9999 ≤ xs[i] ∧ xs[i] ≤ 9999
    · refine ev_if (by simpa using he) ?_
      rw [w64s hlt hn]
      refine ev_to (ih (i + 1) (by omega)) ?_
      simp [okv, he]
    · refine ev_else (by simpa using he) (ev_of ?_)
      simp only [okv, he, decide_false, Bool.false_and]
theorem spec_validRow_ev (xs : List Int) (hn : xs.length ≤ 140737488355328) : Ev (fun k => spec_validRow.f k xs) (vrow xs) := by
  unfold spec_validRow.f
  have h := spec_validRow_l xs hn xs.length 0 (by omega)
  exact h
def vcols (l : List Int) (w : Int) : Bool := l.all (fun n => decide (0 ≤ n ∧ n < w)) && decide (1 ≤ (l.length : Int) ∧ (l.length : Int) ≤ 6)
theorem validColumns_l (xs : List Int) (w : Int) (h0 : 0 ≤ w) (hw : w ≤ 140737488355328) (hn : xs.length ≤ 140737488355328) (d : Nat) : ∀ (i : Nat), i + d = xs.length → Ev (fun k => spec_validColumns.l0 k xs w (i : Int)) ((xs.drop i).all (fun n => decide (0 ≤ n ∧ n < w)) && decide (1 ≤ (xs.length : Int) ∧ (xs.length : Int) ≤ 6)) := by
  induction d with
  | zero =>
    intro i hi
    refine Ev.step (fun k => by rw [spec_validColumns.l0]) ?_
    refine ev_else (by omega) (ev_bind0 (inRange_eq _ _ _) (ev_of ?_))
    rw [drop_end xs i (by omega)]
    simp
  | succ d ih =>
    intro i hi
    have hlt : i < xs.length := by omega
    refine Ev.step (fun k => by rw [spec_validColumns.l0]) ?_
    refine ev_if (by omega) (ev_if (by omega) (ev_bind0 (inRange_eq _ _ _) ?_))
    rw [rd_at xs i hlt, drop_all xs i hlt, w64 (by omega) (by omega)]
    by_cases he : 0 ≤ xs[i] ∧ xs[i] < w
    · refine ev_if (by simp; omega) ?_
      rw [w64s hlt hn]
      refine ev_to (ih (i + 1) (by omega)) ?_
      simp only [he, and_self, decide_true, Bool.true_and]
    · refine ev_else (by simp; omega) (ev_of ?_)
      simp only [he, decide_false, Bool.false_and]
theorem validColumns_ev (xs : List Int) (w : Int) (h0 : 0 ≤ w) (hw : w ≤ 140737488355328) (hn : xs.length ≤ 140737488355328) : Ev (fun k => spec_validColumns.f k xs w) (vcols xs w) := by
  unfold spec_validColumns.f
  exact validColumns_l xs w h0 hw hn xs.length 0 (by omega)
def proj (row cols : List Int) : List Int := cols.map (fun c => rd row c)
theorem project_l (row cols : List Int) (hn : cols.length ≤ 1000000) (hc : ∀ c ∈ cols, 0 ≤ c ∧ c < (row.length : Int)) (d : Nat) : ∀ (i : Nat) (out : List Int), i + d = cols.length → out = proj row (cols.take i) → Ev (fun k => spec_project.l0 k row cols out (i : Int)) (proj row cols) := by
  induction d with
  | zero =>
    intro i out hi ho
    refine Ev.step (fun k => by rw [spec_project.l0]) ?_
    refine ev_else (by omega) (ev_of ?_)
    rw [ho, List.take_of_length_le (by omega)]
  | succ d ih =>
    intro i out hi ho
    have hlt : i < cols.length := by omega
    have hci := hc cols[i] (List.getElem_mem hlt)
    have hol : out.length = i := by rw [ho]; unfold proj; rw [List.length_map, List.length_take]; omega
    refine Ev.step (fun k => by rw [spec_project.l0]) ?_
    rw [rd_at cols i hlt]
    refine ev_if (by omega) (ev_if (by omega) (ev_if hci.1 (ev_if hci.2 (ev_if (by omega) ?_))))
    rw [w64s hlt (by omega)]
    refine ih (i + 1) _ (by omega) ?_
    rw [List.take_succ_eq_append_getElem hlt, ho]
    unfold proj
    rw [List.map_append]; rfl
theorem project_ev (row cols : List Int) (hn : cols.length ≤ 1000000) (hc : ∀ c ∈ cols, 0 ≤ c ∧ c < (row.length : Int)) : Ev (fun k => spec_project.f k row cols) (proj row cols) := by
  unfold spec_project.f
  exact project_l row cols hn hc cols.length 0 [] (by omega) (by rfl)
def prow (row cols : List Int) : List Int × Bool := if vrow row && vcols cols (row.length : Int) then (proj row cols, true) else ([], false)
theorem vrow_len {l : List Int} (h : vrow l = true) : 1 ≤ l.length ∧ l.length ≤ 6 := by unfold vrow at h; simp at h; omega
theorem vcols_len {l : List Int} {w : Int} (h : vcols l w = true) : 1 ≤ l.length ∧ l.length ≤ 6 := by unfold vcols at h; simp at h; omega
theorem vcols_all {l : List Int} {w : Int} (h : vcols l w = true) : ∀ c ∈ l, 0 ≤ c ∧ c < w := by
  unfold vcols at h
  rw [Bool.and_eq_true, List.all_eq_true] at h
  exact fun c hc => of_decide_eq_true (h.1 c hc)
theorem spec_ProjectRow_ev (row cols : List Int) (hn : row.length ≤ 140737488355328) (hm : cols.length ≤ 140737488355328) : Ev (fun k => spec_ProjectRow.f k row cols) (prow row cols) := by
  unfold spec_ProjectRow.f prow
  refine Ev.bind (spec_validRow_ev row hn) ?_
  by_cases h1 : vrow row = true
  · refine ev_if h1 (Ev.bind (validColumns_ev cols (row.length : Int) (by omega) (by omega) hm) ?_)
    by_cases h2 : vcols cols (row.length : Int) = true
    · refine ev_if h2 (Ev.bind (project_ev row cols (by have := vcols_len h2; omega) (vcols_all h2)) (ev_of ?_))
      simp [h1, h2]
    · exact ev_else h2 (ev_of (by simp [h1, h2]))
  · exact ev_else h1 (ev_of (by simp [h1]))
theorem impl_ValidRow_l (xs : List Int) (hn : xs.length ≤ 140737488355328) (d : Nat) : ∀ (i : Nat), i + d = xs.length → Ev (fun k => impl_ValidRow.l0 k xs xs (xs.length : Int) (i : Int)) ((xs.drop i).all okv && decide (1 ≤ (xs.length : Int) ∧ (xs.length : Int) ≤ 6)) := by
  induction d with
  | zero =>
    intro i hi
    refine Ev.step (fun k => by rw [impl_ValidRow.l0]) ?_
    refine ev_else (by omega) ?_
    rw [List.drop_of_length_le (by omega)]
    by_cases h1 : (xs.length : Int) ≥ 1
    · exact ev_if h1 (ev_of (by simp only [List.all_nil, Bool.true_and]; exact congrArg some (decide_eq_decide.mpr ⟨fun h => ⟨h1, h⟩, fun h => h.2⟩)))
    · exact ev_else h1 (ev_of (by simp; omega))
  | succ d ih =>
    intro i hi
    have hlt : i < xs.length := by omega
    refine Ev.step (fun k => by rw [impl_ValidRow.l0]) ?_
    refine ev_if (by omega) (ev_if (by omega) (ev_if (by omega) ?_))
    rw [rd_at xs i hlt, drop_all xs i hlt]
    by_cases h1 : xs[i] < -9999
    · refine ev_if h1 (ev_of ?_)
      have : ¬ (-9999 ≤ xs[i] ∧ xs[i] ≤ 9999) := by omega
      simp only [okv, this, decide_false, Bool.false_and]
    · refine ev_else h1 ?_
      by_cases h2 : xs[i] > 9999
      · refine ev_if h2 (ev_of ?_)
        have : ¬ (-9999 ≤ xs[i] ∧ xs[i] ≤ 9999) := by omega
        simp only [okv, this, decide_false, Bool.false_and]
      · refine ev_else h2 ?_
        rw [w64s hlt hn]
        refine ev_to (ih (i + 1) (by omega)) ?_
        have : -9999 ≤ xs[i] ∧ xs[i] ≤ 9999 := by omega
        simp only [okv, this, and_self, decide_true, Bool.true_and]
theorem impl_ValidRow_ev (xs : List Int) (hn : xs.length ≤ 140737488355328) : Ev (fun k => impl_ValidRow.f k xs) (vrow xs) := by
  unfold impl_ValidRow.f
  have h := impl_ValidRow_l xs hn xs.length 0 (by omega)
  exact h
theorem validCols_l (xs : List Int) (w : Int) (hn : xs.length ≤ 140737488355328) (d : Nat) : ∀ (i : Nat), i + d = xs.length → Ev (fun k => impl_validCols.l0 k xs w xs (xs.length : Int) (i : Int)) ((xs.drop i).all (fun n => decide (0 ≤ n ∧ n < w)) && decide (1 ≤ (xs.length : Int) ∧ (xs.length : Int) ≤ 6)) := by
  induction d with
  | zero =>
    intro i hi
    refine Ev.step (fun k => by rw [impl_validCols.l0]) ?_
    refine ev_else (by omega) ?_
    rw [drop_end xs i (by omega)]
    by_cases h1 : (xs.length : Int) ≥ 1
    · exact ev_if h1 (ev_of (by simp only [List.all_nil, Bool.true_and]; exact congrArg some (decide_eq_decide.mpr ⟨fun h => ⟨h1, h⟩, fun h => h.2⟩)))
    · exact ev_else h1 (ev_of (by simp; omega))
  | succ d ih =>
    intro i hi
    have hlt : i < xs.length := by omega
    refine Ev.step (fun k => by rw [impl_validCols.l0]) ?_
    refine ev_if (by omega) (ev_if (by omega) (ev_if (by omega) ?_))
    rw [rd_at xs i hlt, drop_all xs i hlt]
    by_cases h1 : xs[i] < 0
    · refine ev_if h1 (ev_of ?_)
      have : ¬ (0 ≤ xs[i] ∧ xs[i] < w) := by omega
      simp only [this, decide_false, Bool.false_and]
    · refine ev_else h1 ?_
      by_cases h2 : xs[i] ≥ w
      · refine ev_if h2 (ev_of ?_)
        have : ¬ (0 ≤ xs[i] ∧ xs[i] < w) := by omega
        simp only [this, decide_false, Bool.false_and]
      · refine ev_else h2 ?_
        rw [w64s hlt hn]
        refine ev_to (ih (i + 1) (by omega)) ?_
        have : 0 ≤ xs[i] ∧ xs[i] < w := by omega
        simp only [this, and_self, decide_true, Bool.true_and]
theorem validCols_ev (xs : List Int) (w : Int) (hn : xs.length ≤ 140737488355328) : Ev (fun k => impl_validCols.f k xs w) (vcols xs w) := by
  unfold impl_validCols.f
  exact validCols_l xs w hn xs.length 0 (by omega)
theorem impl_ProjectRow_l (row cols : List Int) (hn : cols.length ≤ 1000000) (hc : ∀ c ∈ cols, 0 ≤ c ∧ c < (row.length : Int)) (d : Nat) : ∀ (i : Nat) (out : List Int), i + d = cols.length → out = proj row (cols.take i) → Ev (fun k => impl_ProjectRow.l0 k row out cols (cols.length : Int) (i : Int)) (proj row cols, true) := by
  induction d with
  | zero =>
    intro i out hi ho
    refine Ev.step (fun k => by rw [impl_ProjectRow.l0]) ?_
    refine ev_else (by omega) (ev_of ?_)
    rw [ho, List.take_of_length_le (by omega)]
  | succ d ih =>
    intro i out hi ho
    have hlt : i < cols.length := by omega
    have hci := hc cols[i] (List.getElem_mem hlt)
    have hol : out.length = i := by rw [ho]; unfold proj; rw [List.length_map, List.length_take]; omega
    refine Ev.step (fun k => by rw [impl_ProjectRow.l0]) ?_
    rw [rd_at cols i hlt]
    refine ev_if (by omega) (ev_if (by omega) (ev_if (by omega) (ev_if hci.1 (ev_if hci.2 (ev_if (by omega) ?_)))))
    rw [w64s hlt (by omega)]
    refine ih (i + 1) _ (by omega) ?_
    rw [List.take_succ_eq_append_getElem hlt, ho]
    unfold proj
    rw [List.map_append]; rfl
theorem impl_ProjectRow_ev (row cols : List Int) (hn : row.length ≤ 140737488355328) (hm : cols.length ≤ 140737488355328) : Ev (fun k => impl_ProjectRow.f k row cols) (prow row cols) := by
  unfold impl_ProjectRow.f prow
  refine Ev.bind (impl_ValidRow_ev row hn) ?_
  by_cases h1 : vrow row = true
  · refine ev_if h1 (Ev.bind (validCols_ev cols (row.length : Int) hm) ?_)
    refine Ev.step (fun k => by rw [impl_ProjectRow.j0]) ?_
    by_cases h2 : vcols cols (row.length : Int) = true
    · refine ev_else (by simp [h2]) ?_
      rw [h1, h2]
      exact impl_ProjectRow_l row cols (by have := vcols_len h2; omega) (vcols_all h2) cols.length 0 [] (by omega) (by rfl)
    · exact ev_if (by simp [h2]) (ev_of (by simp [h1, h2]))
  · refine ev_else h1 (Ev.step (fun k => by rw [impl_ProjectRow.j0]) ?_)
    exact ev_if rfl (ev_of (by simp [h1]))
theorem prow_len (row cols : List Int) : (prow row cols).1.length ≤ 6 := by
  unfold prow
  split
  · rename_i h
    rw [Bool.and_eq_true] at h
    have := vcols_len h.2
    show (proj row cols).length ≤ 6
    unfold proj; rw [List.length_map]; omega
  · simp
theorem equalInts_l (a b : List Int) (hl : a.length = b.length) (hn : a.length ≤ 140737488355328) (d : Nat) : ∀ (i : Nat), i + d = a.length → Ev (fun k => laws_equalInts.l0 k a b (i : Int)) (decide (a.drop i = b.drop i)) := by
  induction d with
  | zero =>
    intro i hi
    refine Ev.step (fun k => by rw [laws_equalInts.l0]) ?_
    refine ev_else (by omega) (ev_of ?_)
    rw [List.drop_of_length_le (by omega), List.drop_of_length_le (by omega)]
    simp
  | succ d ih =>
    intro i hi
    have hlt : i < a.length := by omega
    have hlt2 : i < b.length := by omega
    refine Ev.step (fun k => by rw [laws_equalInts.l0]) ?_
    refine ev_if (by omega) (ev_if (by omega) (ev_if (by omega) ?_))
    rw [rd_at a i hlt, rd_at b i hlt2, drop_dec a b i hlt hlt2]
    by_cases he : a[i] = b[i]
    · refine ev_if he ?_
      rw [w64s hlt hn]
      refine ev_to (ih (i + 1) (by omega)) ?_
      simp [he]
    · refine ev_else he (ev_of ?_)
      simp [he]
theorem equalInts_ev (a b : List Int) (hn : a.length ≤ 140737488355328) : Ev (fun k => laws_equalInts.f k a b) (decide (a = b)) := by
  unfold laws_equalInts.f
  by_cases hl : a.length = b.length
  · refine ev_if (by omega) ?_
    have h := equalInts_l a b hl hn a.length 0 (by omega)
    simpa using h
  · refine ev_else (by omega) (ev_of ?_)
    have : a ≠ b := fun h => hl (by rw [h])
    simp [this]
theorem DrawProjectRow_ev (l : List Int) (h : ∀ x ∈ l, (Lit.int .u8 x).wf = true) : ∃ a b, Ev (fun k => spec_DrawProjectRow.f k l) (a, b) ∧ a.length ≤ 7 ∧ b.length ≤ 4 := by
  obtain ⟨c, ec, hc⟩ := newReader_eq l h
  obtain ⟨r, p, er, p0, p1, rl, _⟩ := anyRow_ev hc (p := 0) (by omega) (by omega)
  obtain ⟨s, q, es, _, _, sl⟩ := someColumns_ev (b := c) (p := p) (mx 1 (r.length : Int)) hc (by omega) (by omega)
  unfold spec_DrawProjectRow.f
  exact ⟨r, s, ev_bind0 ec (Ev.bind er (Ev.bind es (ev_of rfl))), rl, sl⟩
theorem all_l (row cols out : List Int) (hn : row.length ≤ 1000) (r : Bool) (d : Nat) : ∀ (i : Nat), i + d = row.length → Ev (fun k => laws_FnProjectRow.l0 k row cols out ((List.range row.length).map (fun (j : Nat) => (j : Int))) (row.length : Int)) r →
    Ev (fun k => laws_FnProjectRow.l0 k row cols out ((List.range i).map (fun (j : Nat) => (j : Int))) (i : Int)) r := by
  induction d with
  | zero =>
    intro i hi h
    rw [show i = row.length by omega]
    exact h
  | succ d ih =>
    intro i hi h
    refine Ev.step (fun k => by rw [laws_FnProjectRow.l0]) (ev_if (by omega) (ev_if (by simp; omega) ?_))
    rw [w64s (i := i) (n := row.length) (by omega) (by omega)]
    have e : (List.range i).map (fun (j : Nat) => (j : Int)) ++ [(i : Int)] = (List.range (i + 1)).map (fun (j : Nat) => (j : Int)) := by
      rw [List.range_succ, List.map_append]; rfl
    rw [e]
    exact ih (i + 1) (by omega) h
theorem proj_all (row : List Int) : proj row ((List.range row.length).map (fun (j : Nat) => (j : Int))) = row := by
  unfold proj
  rw [List.map_map]
  apply List.ext_getElem
  · simp
  · intro i h1 h2
    simp only [List.getElem_map, List.getElem_range, Function.comp]
    exact rd_at row i h2
theorem rd_proj (row cols : List Int) (i : Int) (h0 : 0 ≤ i) (h1 : i < (cols.length : Int)) : rd (proj row cols) i = rd row (rd cols i) := by
  obtain ⟨j, rfl⟩ := Int.eq_ofNat_of_zero_le h0
  have hj : j < cols.length := by omega
  rw [rd_at cols j hj, rd_at _ j (by unfold proj; rw [List.length_map]; exact hj)]
  unfold proj
  rw [List.getElem_map]
theorem vrow_proj {row cols : List Int} (h : vrow row = true) (hc : vcols cols (row.length : Int) = true) : vrow (proj row cols) = true := by
  have hl := vcols_len hc
  have ha := vcols_all hc
  unfold vrow at h ⊢
  rw [Bool.and_eq_true, List.all_eq_true] at h ⊢
  refine ⟨fun x hx => ?_, by unfold proj; simp; omega⟩
  unfold proj at hx
  obtain ⟨c, hc1, rfl⟩ := List.mem_map.1 hx
  obtain ⟨h0, h1⟩ := ha c hc1
  obtain ⟨j, rfl⟩ := Int.eq_ofNat_of_zero_le h0
  rw [rd_at row j (by omega)]
  exact h.1 _ (List.getElem_mem _)
theorem vcols_mk {l : List Int} {w : Int} (h : ∀ c ∈ l, 0 ≤ c ∧ c < w) (h1 : 1 ≤ l.length) (h2 : l.length ≤ 6) : vcols l w = true := by
  unfold vcols
  rw [Bool.and_eq_true, List.all_eq_true]
  exact ⟨fun c hc => decide_eq_true (h c hc), decide_eq_true (by omega)⟩
theorem prow_yes {row cols : List Int} (h : vrow row = true) (hc : vcols cols (row.length : Int) = true) : prow row cols = (proj row cols, true) := by unfold prow; rw [h, hc]; rfl
theorem FnProjectRow : FnProjectRow_pure := by
  intro l0 _ _ hw
  refine Ev.rounds (g := fun k => laws_FnProjectRow.f k l0) ?_
  unfold laws_FnProjectRow.f
  by_cases hb : (l0.length : Int) > 1048576
  · exact ev_if hb (ev_of rfl)
  · refine ev_else hb ?_
    obtain ⟨row, cols, e, hr, hcl⟩ := DrawProjectRow_ev l0 hw
    have hp := prow_len row cols
    refine Ev.bind e (Ev.bind (impl_ProjectRow_ev row cols (by omega) (by omega)) (Ev.bind (spec_ProjectRow_ev row cols (by omega) (by omega)) ?_))
    refine ev_else (by simp) (Ev.bind (equalInts_ev _ _ (by omega)) (ev_if (by simp) ?_))
    refine Ev.step (fun k => by rw [laws_FnProjectRow.j0]) ?_
    by_cases hv : (vrow row && vcols cols (row.length : Int)) = true
    · rw [Bool.and_eq_true] at hv
      obtain ⟨v1, v2⟩ := hv
      rw [prow_yes v1 v2]
      refine ev_else (by simp) ?_
      have rl := vrow_len v1
      have cl := vcols_len v2
      have ca := vcols_all v2
      refine all_l row cols (proj row cols) (by omega) true row.length 0 (by omega) ?_
      refine Ev.step (fun k => by rw [laws_FnProjectRow.l0]) (ev_else (by omega) ?_)
      have va : vcols ((List.range row.length).map (fun (j : Nat) => (j : Int))) (row.length : Int) = true := by
        refine vcols_mk (fun c hc => ?_) (by simp; omega) (by simp; omega)
        obtain ⟨j, hj, rfl⟩ := List.mem_map.1 hc
        rw [List.mem_range] at hj
        omega
      refine Ev.bind (impl_ProjectRow_ev row _ (by omega) (by simp; omega)) ?_
      rw [prow_yes v1 va, proj_all]
      rw [w64 (n := (cols.length : Int) - 1) (by omega) (by omega)]
      refine ev_bind0 rfl ?_
      have vo := vrow_proj v1 v2
      have ol : (proj row cols).length = cols.length := by unfold proj; rw [List.length_map]
      have vl : vcols [(cols.length : Int) - 1, 0] ((proj row cols).length : Int) = true := by
        rw [ol]
        exact vcols_mk (fun c hc => by simp at hc; omega) (by simp) (by simp)
      refine Ev.bind (impl_ProjectRow_ev (proj row cols) _ (by omega) (by simp)) ?_
      rw [prow_yes vo vl]
      have e0 : rd [(cols.length : Int) - 1, 0] 0 = (cols.length : Int) - 1 := rfl
      rw [e0]
      refine ev_if (by simp) (ev_if (by omega) (ev_if (by omega) (ev_if (by omega) ?_)))
      have m1 : rd cols ((cols.length : Int) - 1) ∈ cols := by
        obtain ⟨j, hj⟩ : ∃ j : Nat, (j : Int) = (cols.length : Int) - 1 := ⟨cols.length - 1, by omega⟩
        rw [← hj, rd_at cols j (by omega)]; exact List.getElem_mem _
      have m2 : rd cols 0 ∈ cols := by
        have := rd_at cols 0 (by omega)
        rw [show ((0 : Nat) : Int) = 0 from rfl] at this
        rw [this]; exact List.getElem_mem _
      have v3 : vcols [rd cols ((cols.length : Int) - 1), rd cols 0] (row.length : Int) = true :=
        vcols_mk (fun c hc => by
          rcases List.mem_cons.1 hc with rfl | hc
          · exact ca _ m1
          · rw [List.mem_singleton.1 hc]; exact ca _ m2) (by simp) (by simp)
      refine Ev.bind (impl_ProjectRow_ev row _ (by omega) (by simp)) ?_
      rw [prow_yes v1 v3]
      refine ev_if rfl (Ev.bind (equalInts_ev row row (by omega)) (ev_if (by simp) (ev_if rfl (ev_if rfl ?_))))
      have q : proj (proj row cols) [(cols.length : Int) - 1, 0] = proj row [rd cols ((cols.length : Int) - 1), rd cols 0] := by
        show [rd (proj row cols) ((cols.length : Int) - 1), rd (proj row cols) 0] = [rd row (rd cols ((cols.length : Int) - 1)), rd row (rd cols 0)]
        rw [rd_proj row cols _ (by omega) (by omega), rd_proj row cols 0 (by omega) (by omega)]
      refine Ev.bind (equalInts_ev _ _ (by unfold proj; simp)) (ev_of ?_)
      show some (decide (proj (proj row cols) [(cols.length : Int) - 1, 0] = proj row [rd cols ((cols.length : Int) - 1), rd cols 0])) = some true
      rw [q]; simp
    · have q : prow row cols = ([], false) := by unfold prow; rw [if_neg hv]
      rw [q]
      exact ev_if rfl (ev_if (by simp) (Ev.bind (equalInts_ev [] [] (by simp)) (ev_of (by simp))))
end Go.Proofs.Ytbohfeifkkigbaa.Pure
