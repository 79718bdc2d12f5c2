/- Proved: the law FnRowOrder answers true for every code: the drawn rows are compared alike by the program and the reference, and RowLess is irreflexive, asymmetric, total on different rows, and puts a row before its extension. No condition. -/
import Derived.Test.YtbohfeifkkigbaaZFnRowOrderx2
namespace Go.Proofs.Ytbohfeifkkigbaa.Pure
open Go.RowKit Go.Proofs.Ytbohfeifkkigbaa.PFnRowOrder Go.Proofs.YtbohfeifkkigbaaW.PrintWords Go.Proofs.YtbohfeifkkigbaaW.PrintLast
set_option linter.unusedVariables false
set_option linter.unusedSimpArgs false
/-- The pure statement of the law FnRowOrder. -/
def FnRowOrder_pure : Prop := ∀ (l0 : List Int), l0.length ≤ maxLen → l0.length * 1 ≤ 140737488351232 → (∀ x ∈ l0, (Lit.int .u8 x).wf = true) → ∃ k, laws_FnRowOrder.f k l0 = some true
theorem ev_if {α : Type} {c : Prop} [Decidable c] {a b : Nat → Option α} {r : α} (h : c) (e : Ev a r) : Ev (fun k => if c then a k else b k) r := Ev.congr (fun _ => if_pos h) e
theorem ev_else {α : Type} {c : Prop} [Decidable c] {a b : Nat → Option α} {r : α} (h : ¬ c) (e : Ev b r) : Ev (fun k => if c then a k else b k) r := Ev.congr (fun _ => if_neg h) e
theorem ev_bind0 {α β : Type} {g : Option α} {f : Nat → α → Option β} {a : α} {r : β} (h : g = some a) (e : Ev (fun n => f n a) r) : Ev (fun n => g.bind (f n)) r := Ev.congr (fun _ => by rw [h]; rfl) e
theorem ev_of {α : Type} {g : Option α} {r : α} (h : g = some r) : Ev (fun _ => g) r := ⟨0, fun _ _ => h⟩
theorem ev_to {α : Type} {g : Nat → Option α} {r r' : α} (e : Ev g r) (h : r = r') : Ev g r' := h ▸ e
theorem w64 {n : Int} (h0 : -9223372036854775808 ≤ n) (h1 : n ≤ 9223372036854775807) : wrap64 n = n := by unfold wrap64; omega
theorem w64s {i n : Nat} (h : i < n) (hn : n ≤ 140737488355328) : wrap64 ((i : Int) + 1) = ((i + 1 : Nat) : Int) := by unfold wrap64; omega
theorem rd_at (l : List Int) (i : Nat) (h : i < l.length) : rd l (i : Int) = l[i] := by
  unfold rd
  rw [Int.toNat_natCast, List.getD_eq_getElem?_getD, List.getElem?_eq_getElem h]
  rfl
theorem drop_at {α : Type} (l : List α) (i : Nat) (h : i < l.length) : l.drop i = l[i] :: l.drop (i + 1) := List.drop_eq_getElem_cons h
theorem lt_cast {i n : Nat} (h : i < n) : (i : Int) < (n : Int) := by omega
theorem drop_eq {α : Type} (a b : List α) (i : Nat) (h : i < a.length) (h2 : i < b.length) : (a.drop i = b.drop i) ↔ (a[i] = b[i] ∧ a.drop (i + 1) = b.drop (i + 1)) := by
  rw [drop_at a i h, drop_at b i h2, List.cons.injEq]
theorem drop_all {α : Type} (l : List α) (i : Nat) (h : i < l.length) (p : α → Bool) : (l.drop i).all p = (p l[i] && (l.drop (i + 1)).all p) := by
  rw [drop_at l i h, List.all_cons]
theorem drop_end {α : Type} (l : List α) (i : Nat) (h : l.length ≤ i) : l.drop i = [] := List.drop_of_length_le h
theorem drop_dec {α : Type} [DecidableEq α] (a b : List α) (i : Nat) (h : i < a.length) (h2 : i < b.length) : decide (a.drop i = b.drop i) = (decide (a[i] = b[i]) && decide (a.drop (i + 1) = b.drop (i + 1))) := by
  rw [← Bool.decide_and]
  exact decide_eq_decide.mpr (drop_eq a b i h h2)
theorem xor_small (a b : Nat) (ha : a < 2 ^ 40) (hb : b < 2 ^ 40) : 0 ≤ Go.bits .xor .i64 (a : Int) (b : Int) := by
  have hx : a ^^^ b < 2 ^ 40 := Nat.xor_lt_two_pow ha hb
  have h1 : (BitVec.ofInt 64 (a : Int)).toNat = a := by
    rw [BitVec.ofInt_natCast, BitVec.toNat_ofNat]; exact Nat.mod_eq_of_lt (by omega)
  have h2 : (BitVec.ofInt 64 (b : Int)).toNat = b := by
    rw [BitVec.ofInt_natCast, BitVec.toNat_ofNat]; exact Nat.mod_eq_of_lt (by omega)
  have e : Go.bits .xor .i64 (a : Int) (b : Int) = ((a ^^^ b : Nat) : Int) := by
    show IntKind.i64.wrap ((BitVec.ofInt 64 (a : Int) ^^^ BitVec.ofInt 64 (b : Int)).toNat : Int) = _
    rw [BitVec.toNat_xor, h1, h2, IntKind.wrap_i64]
    omega
  rw [e]
  omega
def RB (b : List Int) : Prop := b.length ≤ 2000 ∧ ∀ x ∈ b, 0 ≤ x ∧ x ≤ 255
theorem RB.at {b : List Int} (h : RB b) (i : Int) : 0 ≤ rd b i ∧ rd b i ≤ 255 := by
  unfold rd
  rw [List.getD_eq_getElem?_getD]
  cases e : b[i.toNat]? with
  | none => simp
  | some x => exact h.2 x (List.mem_of_getElem? e)
theorem bytes_ok {l : List Int} (h : ∀ x ∈ l, (Lit.int .u8 x).wf = true) : ∀ x ∈ l, 0 ≤ x ∧ x ≤ 255 := by
  intro x hx
  have h1 := h x hx
  have m1 : IntKind.min .u8 = 0 := by decide
  have m2 : IntKind.max .u8 = 255 := by decide
  simp only [Lit.wf, Bool.and_eq_true, decide_eq_true_eq, m1, m2] at h1
  exact h1
theorem newReader_eq (l : List Int) (h : ∀ x ∈ l, (Lit.int .u8 x).wf = true) : ∃ b, spec_newReader.f l = some (b, 0) ∧ RB b := by
  have hb := bytes_ok h
  unfold spec_newReader.f
  by_cases h1 : (l.length : Int) > 2000
  · refine ⟨l.take 2000, by rw [if_pos h1, if_pos (by omega)], ?_, fun x hx => hb x (List.mem_of_mem_take hx)⟩
    rw [List.length_take]; omega
  · exact ⟨l, by rw [if_neg h1], by omega, hb⟩
theorem tmod_range {x n : Int} (hx : 0 ≤ x) (hn : 1 ≤ n) : 0 ≤ Int.tmod x n ∧ Int.tmod x n < n := by
  rw [Int.tmod_eq_emod_of_nonneg hx]
  exact ⟨Int.emod_nonneg _ (by omega), Int.emod_lt_of_pos _ (by omega)⟩
theorem pick_ev {b : List Int} {p : Int} (n : Int) (hb : RB b) (h0 : 0 ≤ p) (h1 : p ≤ 1000000) : ∃ v, Ev (fun k => spec_reader_pick.f k b p n) (v, p + 1) ∧ 0 ≤ v ∧ (1 ≤ n → v < n) ∧ (n < 1 → v = 0) := by
  have e1 : wrap64 (p + 1) = p + 1 := w64 (by omega) (by omega)
  have e2 : wrap64 (p + 1 - 1) = p := by rw [show p + 1 - 1 = p by omega]; exact w64 (by omega) (by omega)
  unfold spec_reader_pick.f
  by_cases hn : n < 1
  · refine ⟨0, ev_if hn ?_, Int.le_refl _, fun h => by omega, fun _ => rfl⟩
    refine Ev.step (fun k => by rw [spec_reader_pick.j0]) ?_
    exact ev_if rfl (ev_of (by rw [e1]))
  · by_cases hl : b.length = 0
    · refine ⟨0, ev_else hn ?_, Int.le_refl _, fun h => by omega, fun h => absurd h hn⟩
      refine Ev.step (fun k => by rw [spec_reader_pick.j0]) ?_
      exact ev_if (by simpa using hl) (ev_of (by rw [e1]))
    · rw [e1]
      by_cases hp : p < (b.length : Int)
      · have hr := hb.at p
        have e3 : wrap64 (rd b p) = rd b p := w64 (by omega) (by omega)
        have ht := tmod_range hr.1 (show 1 ≤ n by omega)
        refine ⟨Int.tmod (rd b p) n, ev_else hn ?_, ht.1, fun _ => ht.2, fun h => absurd h hn⟩
        refine Ev.step (fun k => by rw [spec_reader_pick.j0]) ?_
        rw [e2]
        refine ev_else (by simpa using hl) (ev_if hp (ev_if h0 (ev_else (by omega) (ev_of ?_))))
        rw [e3]
      · have hlen : 1 ≤ (b.length : Int) := by omega
        have hle : (b.length : Int) ≤ 2000 := by have := hb.1; omega
        have m1 := tmod_range h0 hlen
        have e4 : wrap64 (p * 7) = p * 7 := w64 (by omega) (by omega)
        have e5 : wrap64 (p * 7 + 3) = p * 7 + 3 := w64 (by omega) (by omega)
        have m2 := tmod_range (show 0 ≤ p * 7 + 3 by omega) hlen
        have ra := hb.at (Int.tmod p (b.length : Int))
        have rb := hb.at (Int.tmod (p * 7 + 3) (b.length : Int))
        have hd : 0 ≤ Int.tdiv p (b.length : Int) ∧ Int.tdiv p (b.length : Int) ≤ p := by
          rw [Int.tdiv_eq_ediv_of_nonneg h0]
          exact ⟨Int.ediv_nonneg h0 (by omega), Int.ediv_le_self _ h0⟩
        generalize hA : rd b (Int.tmod p (b.length : Int)) = A at ra
        generalize hB : rd b (Int.tmod (p * 7 + 3) (b.length : Int)) = B at rb
        generalize hD : Int.tdiv p (b.length : Int) = D at hd
        obtain ⟨X, hX⟩ : ∃ X : Nat, (X : Int) = A * 131 + B * 1117 + p * 29 + D * 53 := ⟨(A * 131 + B * 1117 + p * 29 + D * 53).toNat, by omega⟩
        have e6 : wrap64 (wrap64 (wrap64 (wrap64 (wrap64 A * 131) + wrap64 (wrap64 B * 1117)) + wrap64 (p * 29)) + wrap64 (wrap64 D * 53)) = (X : Int) := by
          rw [w64 (n := A) (by omega) (by omega), w64 (n := B) (by omega) (by omega), w64 (n := D) (by omega) (by omega), w64 (n := A * 131) (by omega) (by omega), w64 (n := B * 1117) (by omega) (by omega), w64 (n := p * 29) (by omega) (by omega), w64 (n := D * 53) (by omega) (by omega),
            w64 (n := A * 131 + B * 1117) (by omega) (by omega), w64 (n := A * 131 + B * 1117 + p * 29) (by omega) (by omega), w64 (by omega) (by omega), hX]
        have e7 : Int.tdiv (X : Int) 64 = ((X / 64 : Nat) : Int) := by rw [Int.tdiv_eq_ediv_of_nonneg (by omega)]; rfl
        have e8 : wrap64 ((X / 64 : Nat) : Int) = ((X / 64 : Nat) : Int) := w64 (by omega) (by omega)
        have hX1 : X ≤ 1000000000 := by omega
        have hX2 : X / 64 ≤ X := Nat.div_le_self _ _
        have hx := xor_small X (X / 64) (Nat.lt_of_le_of_lt hX1 (by decide)) (Nat.lt_of_le_of_lt (Nat.le_trans hX2 hX1) (by decide))
        have ht := tmod_range hx (show 1 ≤ n by omega)
        refine ⟨Int.tmod (Go.bits .xor .i64 (X : Int) ((X / 64 : Nat) : Int)) n, ev_else hn ?_, ht.1, fun _ => ht.2, fun h => absurd h hn⟩
        refine Ev.step (fun k => by rw [spec_reader_pick.j0]) ?_
        rw [e2]
        refine ev_else (by simpa using hl) (ev_else hp (ev_else (by omega) (ev_if m1.1 (ev_if m1.2 ?_))))
        rw [e4, e5]
        refine ev_if m2.1 (ev_if m2.2 (ev_else (by omega) (ev_of ?_)))
        rw [hA, hB, hD, e6, e7, e8]
/-- pick, met in a run: go on with any value of its range. -/
theorem Ev.pick {β : Type} {b : List Int} {p n : Int} {f : Nat → Int × Int → Option β} {R : β → Prop} (hb : RB b) (h0 : 0 ≤ p) (h1 : p ≤ 1000000)
    (h : ∀ v, 0 ≤ v → (1 ≤ n → v < n) → (n < 1 → v = 0) → ∃ r, Ev (fun k => f k (v, p + 1)) r ∧ R r) : ∃ r, Ev (fun k => (spec_reader_pick.f k b p n).bind (f k)) r ∧ R r := by
  obtain ⟨v, e, a1, a2, a3⟩ := pick_ev n hb h0 h1
  obtain ⟨r, er, hr⟩ := h v a1 a2 a3
  exact ⟨r, Ev.bind e er, hr⟩
theorem one_ev {b : List Int} {p : Int} (l : List Int) (hl : 1 ≤ l.length) (hb : RB b) (h0 : 0 ≤ p) (h1 : p ≤ 1000000) : ∃ v, Ev (fun k => spec_reader_one.f k b p l) (v, p + 1) ∧ v ∈ l := by
  obtain ⟨v, e, a1, a2, _⟩ := pick_ev (l.length : Int) hb h0 h1
  have hv := a2 (by omega)
  obtain ⟨i, rfl⟩ := Int.eq_ofNat_of_zero_le a1
  have hi : i < l.length := by omega
  refine ⟨l[i], ?_, List.getElem_mem hi⟩
  unfold spec_reader_one.f
  refine Ev.bind e (ev_if (by simp) (ev_if (by simpa using hi) (ev_of ?_)))
  show some (rd l (i : Int), p + 1) = _
  rw [rd_at l i hi]
theorem randomRow_l {b : List Int} (hb : RB b) (w : Nat) (hw : w ≤ 1000) (d : Nat) : ∀ (i : Nat) (out : List Int) (p : Int), i + d = w → out.length = i → 0 ≤ p → p ≤ 900000 + i → (∀ x ∈ out, 0 ≤ x ∧ x ≤ 3) →
    ∃ r, Ev (fun k => spec_randomRow.l0 k (w : Int) out (i : Int) b p) (r, p + d) ∧ r.length = w ∧ ∀ x ∈ r, 0 ≤ x ∧ x ≤ 3 := by
  induction d with
  | zero =>
    intro i out p hi ho hp hp2 hx
    refine ⟨out, ?_, by omega, hx⟩
    refine Ev.step (fun k => by rw [spec_randomRow.l0]) ?_
    exact ev_else (by omega) (ev_of (by simp))
  | succ d ih =>
    intro i out p hi ho hp hp2 hx
    obtain ⟨v, e, a1, a2, _⟩ := pick_ev (b := b) 4 hb hp (by omega)
    have a2 := a2 (by omega)
    obtain ⟨r, hr, h2, h3⟩ := ih (i + 1) (out ++ [v]) (p + 1) (by omega) (by simp; omega) (by omega) (by push_cast; omega) (fun x hx' => by
      rcases List.mem_append.1 hx' with h | h
      · exact hx x h
      · rw [List.mem_singleton.1 h]; omega)
    refine ⟨r, ?_, h2, h3⟩
    refine Ev.step (fun k => by rw [spec_randomRow.l0]) ?_
    refine ev_if (by omega) (Ev.bind e (ev_if (by omega) ?_))
    rw [w64s (i := i) (n := i + 1) (by omega) (by omega)]
    rw [show p + ((d + 1 : Nat) : Int) = p + 1 + (d : Int) by push_cast; omega]
    exact hr
theorem randomRow_ev {b : List Int} {p : Int} (w : Nat) (hw : w ≤ 1000) (hb : RB b) (h0 : 0 ≤ p) (h1 : p ≤ 900000) : ∃ r, Ev (fun k => spec_randomRow.f k b p (w : Int)) (r, p + w) ∧ r.length = w ∧ ∀ x ∈ r, 0 ≤ x ∧ x ≤ 3 := by
  unfold spec_randomRow.f
  obtain ⟨r, hr, h2, h3⟩ := randomRow_l hb w hw w 0 [] p (by omega) rfl h0 (by omega) (fun x hx => by cases hx)
  exact ⟨r, hr, h2, h3⟩
theorem anyRow_ev {b : List Int} {p : Int} (hb : RB b) (h0 : 0 ≤ p) (h1 : p ≤ 800000) : ∃ r p', Ev (fun k => spec_anyRow.f k b p) (r, p') ∧ p ≤ p' ∧ p' ≤ p + 100 ∧ r.length ≤ 7 ∧ ∀ x ∈ r, -10000 ≤ x ∧ x ≤ 10000 := by
  unfold spec_anyRow.f
  obtain ⟨v, e, a1, a2, _⟩ := pick_ev (b := b) 4 hb h0 (by omega)
  have a2 := a2 (by omega)
  obtain ⟨w, hw⟩ : ∃ w : Nat, (w : Int) = 1 + v := ⟨(1 + v).toNat, by omega⟩
  obtain ⟨r, er, rl, rx⟩ := randomRow_ev (b := b) (p := p + 1) w (by omega) hb (by omega) (by omega)
  obtain ⟨u, eu, b1, b2, _⟩ := pick_ev (b := b) (p := p + 1 + w) 10 hb (by omega) (by omega)
  have ew : wrap64 (1 + v) = (w : Int) := by rw [w64 (by omega) (by omega), hw]
  by_cases c0 : u = 0
  · refine ⟨[], p + 1 + w + 1, Ev.bind e ?_, by omega, by omega, by simp, fun x hx => by cases hx⟩
    rw [ew]
    exact Ev.bind er (Ev.bind eu (ev_if c0 (ev_of rfl)))
  · by_cases c1 : u = 1
    · obtain ⟨r2, er2, rl2, rx2⟩ := randomRow_ev (b := b) (p := p + 1 + w + 1) 7 (by omega) hb (by omega) (by omega)
      refine ⟨r2, p + 1 + w + 1 + (7 : Nat), Ev.bind e ?_, by omega, by omega, by omega, fun x hx => by have := rx2 x hx; omega⟩
      rw [ew]
      exact Ev.bind er (Ev.bind eu (ev_else c0 (ev_if c1 (Ev.bind er2 (ev_of rfl)))))
    · by_cases c2 : u = 2
      · obtain ⟨j, ej, j1, j2, _⟩ := pick_ev (b := b) (p := p + 1 + w + 1) (r.length : Int) hb (by omega) (by omega)
        have j2 := j2 (by omega)
        obtain ⟨z, ez, hz⟩ := one_ev (b := b) (p := p + 1 + w + 1 + 1) [10000, -10000, -9999, 9999] (by simp) hb (by omega) (by omega)
        have hz2 : -10000 ≤ z ∧ z ≤ 10000 := by simp at hz; omega
        refine ⟨r.set j.toNat z, p + 1 + w + 1 + 1 + 1, Ev.bind e ?_, by omega, by omega, by rw [List.length_set]; omega, fun x hx => ?_⟩
        · rw [ew]
          exact Ev.bind er (Ev.bind eu (ev_else c0 (ev_else c1 (ev_if c2 (Ev.bind ej (Ev.bind ez (ev_if j1 (ev_if j2 (ev_of rfl)))))))))
        · rcases List.mem_or_eq_of_mem_set hx with h | h
          · have := rx x h; omega
          · rw [h]; exact hz2
      · refine ⟨r, p + 1 + w + 1, Ev.bind e ?_, by omega, by omega, by omega, fun x hx => by have := rx x hx; omega⟩
        rw [ew]
        exact Ev.bind er (Ev.bind eu (ev_else c0 (ev_else c1 (ev_else c2 (ev_of rfl)))))
theorem copyInts_eq (l : List Int) (h : l.length < 17592186044416) : spec_copyInts.f l = some l := by
  unfold spec_copyInts.f
  simp only [Option.bind_some, List.length_nil, Nat.zero_add, List.nil_append]
  rw [if_pos h]
theorem DrawRowLess_ev (l : List Int) (h : ∀ x ∈ l, (Lit.int .u8 x).wf = true) : ∃ a b, Ev (fun k => spec_DrawRowLess.f k l) (a, b) ∧ a.length ≤ 8 ∧ b.length ≤ 8 := by
  obtain ⟨c, ec, hc⟩ := newReader_eq l h
  obtain ⟨r, p, er, p0, p1, rl, _⟩ := anyRow_ev hc (p := 0) (by omega) (by omega)
  obtain ⟨v, e, a1, a2, _⟩ := pick_ev (b := c) (p := p) 4 hc (by omega) (by omega)
  unfold spec_DrawRowLess.f
  by_cases hv : v = 0
  · obtain ⟨u, eu, _⟩ := pick_ev (b := c) (p := p + 1) 3 hc (by omega) (by omega)
    exact ⟨r, r ++ [u], ev_bind0 ec (Ev.bind er (Ev.bind e (ev_if hv (ev_bind0 (copyInts_eq r (by omega)) (Ev.bind eu (ev_if (by omega) (ev_of rfl))))))), by omega, by simp; omega⟩
  · obtain ⟨s, q, es, _, _, sl, _⟩ := anyRow_ev hc (p := p + 1) (by omega) (by omega)
    exact ⟨r, s, ev_bind0 ec (Ev.bind er (Ev.bind e (ev_else hv (Ev.bind es (ev_of rfl))))), by omega, by omega⟩
def rlt : List Int → List Int → Bool
  | [], [] => false
  | [], _ :: _ => true
  | _ :: _, [] => false
  | a :: p, b :: q => if a = b then rlt p q else decide (a < b)
def rcmp : List Int → List Int → Int
  | [], [] => 0
  | [], _ :: _ => -1
  | _ :: _, [] => 1
  | a :: p, b :: q => if a < b then -1 else if a > b then 1 else rcmp p q
theorem rcmp_neg : ∀ a b, decide (rcmp a b < 0) = rlt a b
  | [], [] => rfl
  | [], _ :: _ => rfl
  | _ :: _, [] => rfl
  | a :: p, b :: q => by
    unfold rcmp rlt
    by_cases h : a < b
    · rw [if_pos h, if_neg (show ¬ a = b by omega)]; simp [h]
    · rw [if_neg h]
      by_cases h2 : a > b
      · rw [if_pos h2, if_neg (show ¬ a = b by omega)]; simp [h]
      · rw [if_neg h2, if_pos (show a = b by omega)]; exact rcmp_neg p q
theorem rcmp_zero : ∀ a b, rcmp a b = 0 ↔ a = b
  | [], [] => by simp [rcmp]
  | [], _ :: _ => by simp [rcmp]
  | _ :: _, [] => by simp [rcmp]
  | a :: p, b :: q => by
    unfold rcmp
    by_cases h : a < b
    · rw [if_pos h]; simp; omega
    · rw [if_neg h]
      by_cases h2 : a > b
      · rw [if_pos h2]; simp; omega
      · rw [if_neg h2, rcmp_zero p q]; simp; omega
theorem rlt_irrefl : ∀ a, rlt a a = false
  | [] => rfl
  | a :: p => by unfold rlt; rw [if_pos rfl]; exact rlt_irrefl p
theorem rlt_asymm : ∀ a b, rlt a b = true → rlt b a = false
  | [], [] => fun h => by cases h
  | [], _ :: _ => fun _ => rfl
  | _ :: _, [] => fun h => by cases h
  | a :: p, b :: q => by
    unfold rlt
    by_cases h : a = b
    · rw [if_pos h, if_pos h.symm]; exact rlt_asymm p q
    · rw [if_neg h, if_neg (fun e => h e.symm)]; simp; omega
theorem rlt_total : ∀ a b, a ≠ b → rlt a b = false → rlt b a = true
  | [], [] => fun h _ => absurd rfl h
  | [], _ :: _ => fun _ h => by cases h
  | _ :: _, [] => fun _ _ => rfl
  | a :: p, b :: q => by
    intro hne
    unfold rlt
    by_cases h : a = b
    · rw [if_pos h, if_pos h.symm]; exact rlt_total p q (fun e => hne (by rw [h, e]))
    · rw [if_neg h, if_neg (fun e => h e.symm)]; simp; omega
theorem rlt_trans : ∀ a b c, rlt a b = true → rlt b c = true → rlt a c = true
  | [], [], _ => fun h => by cases h
  | [], _ :: _, [] => fun _ h => by cases h
  | [], _ :: _, _ :: _ => fun _ _ => rfl
  | _ :: _, [], _ => fun h => by cases h
  | _ :: _, _ :: _, [] => fun _ h => by cases h
  | a :: p, b :: q, c :: s => by
    unfold rlt
    by_cases h : a = b
    · subst h
      rw [if_pos rfl]
      intro h1
      by_cases h2 : a = c
      · rw [if_pos h2, if_pos h2]; exact rlt_trans p q s h1
      · rw [if_neg h2, if_neg h2]; exact fun h => h
    · rw [if_neg h]
      by_cases h2 : b = c
      · subst h2; rw [if_pos rfl, if_neg h]; exact fun h _ => h
      · rw [if_neg h2]
        intro h3 h4
        have h3 := of_decide_eq_true h3
        have h4 := of_decide_eq_true h4
        rw [if_neg (by omega)]
        exact decide_eq_true (by omega)
theorem isNaN_eq (a : Int) : cmp_isNaN_int.f a = some false := by unfold cmp_isNaN_int.f; simp
theorem cmpInt_eq (a b : Int) : cmp_Compare_int.f a b = some (if a < b then -1 else if a > b then 1 else 0) := by
  unfold cmp_Compare_int.f
  rw [isNaN_eq, isNaN_eq]
  simp only [Option.bind_some]
  by_cases h : a < b
  · simp [h]
  · by_cases h2 : a > b <;> simp [h, h2]
theorem slices_Compare_l (a b : List Int) (hn : a.length ≤ 140737488355328) (d : Nat) : ∀ (i : Nat), i + d = a.length → i ≤ b.length → Ev (fun k => slices_Compare_int_int.l0 k a b a (a.length : Int) (i : Int)) (rcmp (a.drop i) (b.drop i)) := by
  induction d with
  | zero =>
    intro i hi hb
    refine Ev.step (fun k => by rw [slices_Compare_int_int.l0]) ?_
    refine ev_else (by omega) ?_
    rw [drop_end a i (by omega)]
    by_cases h : i < b.length
    · rw [drop_at b i h]
      exact ev_if (by omega) (ev_of rfl)
    · rw [drop_end b i (by omega)]
      exact ev_else (by omega) (ev_of rfl)
  | succ d ih =>
    intro i hi hb
    have hlt : i < a.length := by omega
    refine Ev.step (fun k => by rw [slices_Compare_int_int.l0]) ?_
    refine ev_if (by omega) (ev_if (by omega) (ev_if (by omega) ?_))
    by_cases h : i < b.length
    · refine ev_else (by omega) (ev_if (by omega) (ev_bind0 (cmpInt_eq _ _) ?_))
      rw [rd_at a i hlt, rd_at b i h]
      have e : rcmp (a.drop i) (b.drop i) = if a[i] < b[i] then -1 else if a[i] > b[i] then 1 else rcmp (a.drop (i + 1)) (b.drop (i + 1)) := by
        rw [drop_at a i hlt, drop_at b i h]; rfl
      rw [e]
      by_cases h1 : a[i] < b[i]
      · simp only [h1, if_true]
        exact ev_else (by omega) (ev_of rfl)
      · by_cases h2 : a[i] > b[i]
        · simp only [h1, h2, if_true, if_false]
          exact ev_else (by omega) (ev_of rfl)
        · simp only [h1, h2, if_false]
          refine ev_if trivial ?_
          rw [w64s hlt hn]
          exact ih (i + 1) (by omega) (by omega)
    · refine ev_if (by omega) (ev_of ?_)
      rw [drop_end b i (by omega), drop_at a i hlt]
      rfl
theorem slices_Compare_ev (a b : List Int) (hn : a.length ≤ 140737488355328) : Ev (fun k => slices_Compare_int_int.f k a b) (rcmp a b) := by
  unfold slices_Compare_int_int.f
  exact slices_Compare_l a b hn a.length 0 (by omega) (by omega)
theorem impl_RowLess_ev (a b : List Int) (hn : a.length ≤ 140737488355328) : Ev (fun k => impl_RowLess.f k a b) (rlt a b) := by
  unfold impl_RowLess.f
  exact Ev.bind (slices_Compare_ev a b hn) (ev_of (by rw [rcmp_neg]))
theorem spec_rowLess_l (a b : List Int) (hn : a.length ≤ 140737488355328) (d : Nat) : ∀ (i : Nat), i + d = a.length → i ≤ b.length → Ev (fun k => spec_rowLess.l0 k a b (i : Int)) (rlt (a.drop i) (b.drop i)) := by
  induction d with
  | zero =>
    intro i hi hb
    refine Ev.step (fun k => by rw [spec_rowLess.l0]) ?_
    refine ev_else (by omega) ?_
    refine Ev.step (fun k => by rw [spec_rowLess.j1]) ?_
    refine ev_else (by simp) (ev_of ?_)
    rw [drop_end a i (by omega)]
    by_cases h : i < b.length
    · rw [drop_at b i h]
      simp [rlt]; omega
    · rw [drop_end b i (by omega)]
      simp [rlt]; omega
  | succ d ih =>
    intro i hi hb
    have hlt : i < a.length := by omega
    refine Ev.step (fun k => by rw [spec_rowLess.l0]) ?_
    refine ev_if (by omega) ?_
    refine Ev.step (fun k => by rw [spec_rowLess.j1]) ?_
    by_cases h : i < b.length
    · refine ev_if (by simpa using h) (ev_if (by omega) (ev_if (by omega) (ev_if (by omega) ?_)))
      rw [rd_at a i hlt, rd_at b i h]
      have e : rlt (a.drop i) (b.drop i) = if a[i] = b[i] then rlt (a.drop (i + 1)) (b.drop (i + 1)) else decide (a[i] < b[i]) := by
        rw [drop_at a i hlt, drop_at b i h]; rfl
      rw [e]
      by_cases he : a[i] = b[i]
      · refine ev_if he ?_
        rw [w64s hlt hn, if_pos he]
        exact ih (i + 1) (by omega) (by omega)
      · exact ev_else he (ev_of (by rw [if_neg he]))
    · refine ev_else (by simpa using h) (ev_of ?_)
      rw [drop_end b i (by omega), drop_at a i hlt]
      simp [rlt]; omega
theorem spec_rowLess_ev (a b : List Int) (hn : a.length ≤ 140737488355328) : Ev (fun k => spec_rowLess.f k a b) (rlt a b) := by
  unfold spec_rowLess.f
  exact spec_rowLess_l a b hn a.length 0 (by omega) (by omega)
theorem spec_RowLess_ev (a b : List Int) (hn : a.length ≤ 140737488355328) : Ev (fun k => spec_RowLess.f k a b) (rlt a b) := by
  unfold spec_RowLess.f
  exact Ev.bind (spec_rowLess_ev a b hn) (ev_of rfl)
theorem equalInts_l (a b : List Int) (hl : a.length = b.length) (hn : a.length ≤ 140737488355328) (d : Nat) : ∀ (i : Nat), i + d = a.length → Ev (fun k => laws_equalInts.l0 k a b (i : Int)) (decide (a.drop i = b.drop i)) := by
  induction d with
  | zero =>
    intro i hi
    refine Ev.step (fun k => by rw [laws_equalInts.l0]) ?_
    refine ev_else (by omega) (ev_of ?_)
    rw [List.drop_of_length_le (by omega), List.drop_of_length_le (by omega)]
    simp
  | succ d ih =>
    intro i hi
    have hlt : i < a.length := by omega
    have hlt2 : i < b.length := by omega
    refine Ev.step (fun k => by rw [laws_equalInts.l0]) ?_
    refine ev_if (by omega) (ev_if (by omega) (ev_if (by omega) ?_))
    rw [rd_at a i hlt, rd_at b i hlt2, drop_dec a b i hlt hlt2]
    by_cases he : a[i] = b[i]
    · refine ev_if he ?_
      rw [w64s hlt hn]
      refine ev_to (ih (i + 1) (by omega)) ?_
      simp [he]
    · refine ev_else he (ev_of ?_)
      simp [he]
theorem equalInts_ev (a b : List Int) (hn : a.length ≤ 140737488355328) : Ev (fun k => laws_equalInts.f k a b) (decide (a = b)) := by
  unfold laws_equalInts.f
  by_cases hl : a.length = b.length
  · refine ev_if (by omega) ?_
    have h := equalInts_l a b hl hn a.length 0 (by omega)
    simpa using h
  · refine ev_else (by omega) (ev_of ?_)
    have : a ≠ b := fun h => hl (by rw [h])
    simp [this]
theorem rlt_longer : ∀ (a : List Int) (x : Int), rlt a (a ++ [x]) = true
  | [], _ => rfl
  | a :: p, x => by
    show rlt (a :: p) (a :: (p ++ [x])) = true
    unfold rlt; rw [if_pos rfl]; exact rlt_longer p x
theorem FnRowOrder : FnRowOrder_pure := by
  intro l0 _ _ hw
  refine Ev.rounds (g := fun k => laws_FnRowOrder.f k l0) ?_
  unfold laws_FnRowOrder.f
  by_cases hb : (l0.length : Int) > 1048576
  · exact ev_if hb (ev_of rfl)
  · refine ev_else hb ?_
    obtain ⟨a, b, e, ha, hb2⟩ := DrawRowLess_ev l0 hw
    refine Ev.bind e ?_
    refine Ev.bind (impl_RowLess_ev a b (by omega)) (Ev.bind (spec_RowLess_ev a b (by omega)) (ev_else (by simp) ?_))
    refine ev_bind0 rfl (ev_if (by simp; omega) (ev_bind0 rfl (ev_if (by simp; omega) ?_)))
    refine Ev.bind (impl_RowLess_ev a a (by omega)) (ev_else (by rw [rlt_irrefl]; simp) ?_)
    refine Ev.bind (impl_RowLess_ev a (([] : List Int) ++ a ++ [0]) (by omega)) (ev_if (by rw [List.nil_append]; exact rlt_longer a 0) ?_)
    by_cases h : rlt a b = true
    · refine ev_if h (Ev.bind (equalInts_ev a b (by omega)) ?_)
      have hne : a ≠ b := by rintro rfl; rw [rlt_irrefl] at h; cases h
      refine ev_if (by simp [hne]) (Ev.bind (impl_RowLess_ev b a (by omega)) (ev_of ?_))
      rw [rlt_asymm a b h]; rfl
    · refine ev_else h (Ev.bind (impl_RowLess_ev b a (by omega)) (Ev.bind (equalInts_ev a b (by omega)) ?_))
      refine ev_if ?_ (ev_of rfl)
      by_cases he : a = b
      · subst he; simp [rlt_irrefl]
      · rw [rlt_total a b he (by simpa using h)]; simp [he]
end Go.Proofs.Ytbohfeifkkigbaa.Pure
