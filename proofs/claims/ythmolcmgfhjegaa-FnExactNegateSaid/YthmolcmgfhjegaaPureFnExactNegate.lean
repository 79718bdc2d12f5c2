/- Negate of program and of reference are one plain function (each weight negated), with the reference's copy first; the marks that the law writes into its argument's copy reach neither the answer nor a second answer. No condition. -/
import Derived.Test.YthmolcmgfhjegaaZFnExactNegatex8
namespace Go.Proofs.Ythmolcmgfhjegaa.Pure
open Go.RowKit Go.Proofs.Ythmolcmgfhjegaa.PFnExactNegate Go.Proofs.YthmolcmgfhjegaaW.PrintWords Go.Proofs.YthmolcmgfhjegaaW.PrintLast
set_option linter.unusedVariables false
set_option linter.unusedSimpArgs false
/-- The pure statement of the law FnExactNegate. -/
def FnExactNegate_pure : Prop := ∀ (l0 : List S60), l0.length ≤ maxLen → l0.length * 32 ≤ 140737488351232 → (∀ x ∈ l0, ((x.f0.length ≤ maxLen ∧ ∀ y ∈ x.f0, (Lit.int .i64 y).wf = true) ∧ (Lit.int .i64 x.f1).wf = true)) → ∃ k, laws_FnExactNegate.f k l0 = some true
theorem ev_if {α : Type} {c : Prop} [Decidable c] {a b : Nat → Option α} {r : α} (h : c) (e : Ev a r) : Ev (fun k => if c then a k else b k) r := Ev.congr (fun _ => if_pos h) e
theorem ev_else {α : Type} {c : Prop} [Decidable c] {a b : Nat → Option α} {r : α} (h : ¬ c) (e : Ev b r) : Ev (fun k => if c then a k else b k) r := Ev.congr (fun _ => if_neg h) e
theorem ev_bind0 {α β : Type} {g : Option α} {f : Nat → α → Option β} {a : α} {r : β} (h : g = some a) (e : Ev (fun n => f n a) r) : Ev (fun n => g.bind (f n)) r := Ev.congr (fun _ => by rw [h]; rfl) e
theorem ev_of {α : Type} {g : Option α} {r : α} (h : g = some r) : Ev (fun _ => g) r := ⟨0, fun _ _ => h⟩
theorem ev_to {α : Type} {g : Nat → Option α} {r r' : α} (e : Ev g r) (h : r = r') : Ev g r' := h ▸ e
theorem w64 {n : Int} (h0 : -9223372036854775808 ≤ n) (h1 : n ≤ 9223372036854775807) : wrap64 n = n := by unfold wrap64; omega
theorem w64s {i n : Nat} (h : i < n) (hn : n ≤ 140737488355328) : wrap64 ((i : Int) + 1) = ((i + 1 : Nat) : Int) := by unfold wrap64; omega
theorem rd_at (l : List Int) (i : Nat) (h : i < l.length) : rd l (i : Int) = l[i] := by
  unfold rd
  rw [Int.toNat_natCast, List.getD_eq_getElem?_getD, List.getElem?_eq_getElem h]
  rfl
theorem drop_at {α : Type} (l : List α) (i : Nat) (h : i < l.length) : l.drop i = l[i] :: l.drop (i + 1) := List.drop_eq_getElem_cons h
theorem lt_cast {i n : Nat} (h : i < n) : (i : Int) < (n : Int) := by omega
theorem drop_eq {α : Type} (a b : List α) (i : Nat) (h : i < a.length) (h2 : i < b.length) : (a.drop i = b.drop i) ↔ (a[i] = b[i] ∧ a.drop (i + 1) = b.drop (i + 1)) := by
  rw [drop_at a i h, drop_at b i h2, List.cons.injEq]
theorem drop_all {α : Type} (l : List α) (i : Nat) (h : i < l.length) (p : α → Bool) : (l.drop i).all p = (p l[i] && (l.drop (i + 1)).all p) := by
  rw [drop_at l i h, List.all_cons]
theorem drop_end {α : Type} (l : List α) (i : Nat) (h : l.length ≤ i) : l.drop i = [] := List.drop_of_length_le h
theorem drop_dec {α : Type} [DecidableEq α] (a b : List α) (i : Nat) (h : i < a.length) (h2 : i < b.length) : decide (a.drop i = b.drop i) = (decide (a[i] = b[i]) && decide (a.drop (i + 1) = b.drop (i + 1))) := by
  rw [← Bool.decide_and]
  exact decide_eq_decide.mpr (drop_eq a b i h h2)
def okv (n : Int) : Bool := decide (-9999 ≤ n ∧ n ≤ 9999)
def vrow (l : List Int) : Bool := l.all okv && decide (1 ≤ (l.length : Int) ∧ (l.length : Int) ≤ 6)
def rlt : List Int → List Int → Bool
  | [], [] => false
  | [], _ :: _ => true
  | _ :: _, [] => false
  | a :: p, b :: q => if a = b then rlt p q else decide (a < b)
def rcmp : List Int → List Int → Int
  | [], [] => 0
  | [], _ :: _ => -1
  | _ :: _, [] => 1
  | a :: p, b :: q => if a < b then -1 else if a > b then 1 else rcmp p q
theorem rcmp_neg : ∀ a b, decide (rcmp a b < 0) = rlt a b
  | [], [] => rfl
  | [], _ :: _ => rfl
  | _ :: _, [] => rfl
  | a :: p, b :: q => by
    unfold rcmp rlt
    by_cases h : a < b
    · rw [if_pos h, if_neg (show ¬ a = b by omega)]; simp [h]
    · rw [if_neg h]
      by_cases h2 : a > b
      · rw [if_pos h2, if_neg (show ¬ a = b by omega)]; simp [h]
      · rw [if_neg h2, if_pos (show a = b by omega)]; exact rcmp_neg p q
theorem rcmp_zero : ∀ a b, rcmp a b = 0 ↔ a = b
  | [], [] => by simp [rcmp]
  | [], _ :: _ => by simp [rcmp]
  | _ :: _, [] => by simp [rcmp]
  | a :: p, b :: q => by
    unfold rcmp
    by_cases h : a < b
    · rw [if_pos h]; simp; omega
    · rw [if_neg h]
      by_cases h2 : a > b
      · rw [if_pos h2]; simp; omega
      · rw [if_neg h2, rcmp_zero p q]; simp; omega
theorem rlt_irrefl : ∀ a, rlt a a = false
  | [] => rfl
  | a :: p => by unfold rlt; rw [if_pos rfl]; exact rlt_irrefl p
theorem rlt_asymm : ∀ a b, rlt a b = true → rlt b a = false
  | [], [] => fun h => by cases h
  | [], _ :: _ => fun _ => rfl
  | _ :: _, [] => fun h => by cases h
  | a :: p, b :: q => by
    unfold rlt
    by_cases h : a = b
    · rw [if_pos h, if_pos h.symm]; exact rlt_asymm p q
    · rw [if_neg h, if_neg (fun e => h e.symm)]; simp; omega
theorem rlt_total : ∀ a b, a ≠ b → rlt a b = false → rlt b a = true
  | [], [] => fun h _ => absurd rfl h
  | [], _ :: _ => fun _ h => by cases h
  | _ :: _, [] => fun _ _ => rfl
  | a :: p, b :: q => by
    intro hne
    unfold rlt
    by_cases h : a = b
    · rw [if_pos h, if_pos h.symm]; exact rlt_total p q (fun e => hne (by rw [h, e]))
    · rw [if_neg h, if_neg (fun e => h e.symm)]; simp; omega
theorem rlt_trans : ∀ a b c, rlt a b = true → rlt b c = true → rlt a c = true
  | [], [], _ => fun h => by cases h
  | [], _ :: _, [] => fun _ h => by cases h
  | [], _ :: _, _ :: _ => fun _ _ => rfl
  | _ :: _, [], _ => fun h => by cases h
  | _ :: _, _ :: _, [] => fun _ h => by cases h
  | a :: p, b :: q, c :: s => by
    unfold rlt
    by_cases h : a = b
    · subst h
      rw [if_pos rfl]
      intro h1
      by_cases h2 : a = c
      · rw [if_pos h2, if_pos h2]; exact rlt_trans p q s h1
      · rw [if_neg h2, if_neg h2]; exact fun h => h
    · rw [if_neg h]
      by_cases h2 : b = c
      · subst h2; rw [if_pos rfl, if_neg h]; exact fun h _ => h
      · rw [if_neg h2]
        intro h3 h4
        have h3 := of_decide_eq_true h3
        have h4 := of_decide_eq_true h4
        rw [if_neg (by omega)]
        exact decide_eq_true (by omega)
def gE (l : List S41) (j : Nat) : S41 := rd_T41 l (j : Int)
theorem gE_at (l : List S41) (j : Nat) (h : j < l.length) : gE l j = l[j] := by
  unfold gE rd_T41
  rw [Int.toNat_natCast, List.getD_eq_getElem?_getD, List.getElem?_eq_getElem h]
  rfl
theorem rdE_cast (l : List S41) (j : Nat) : rd_T41 l (j : Int) = gE l j := rfl
theorem rdE_zero (l : List S41) : rd_T41 l 0 = gE l 0 := rfl
/-- Rows short enough for every counter. -/
def Sm (l : List S41) : Prop := l.length ≤ 1048576 ∧ ∀ e ∈ l, e.f0.length ≤ 1048576
theorem Sm.row {l : List S41} (h : Sm l) (j : Nat) : (gE l j).f0.length ≤ 1048576 := by
  by_cases hj : j < l.length
  · rw [gE_at l j hj]; exact h.2 _ (List.getElem_mem hj)
  · unfold gE rd_T41
    rw [Int.toNat_natCast, List.getD_eq_getElem?_getD, List.getElem?_eq_none (by omega)]
    show ([] : List Int).length ≤ 1048576
    simp
def okZ (l : List S41) (j : Nat) : Prop := vrow (gE l j).f0 = true ∧ (gE l j).f0.length = (gE l 0).f0.length ∧ (gE l j).f1 ≠ 0 ∧ -1000000 ≤ (gE l j).f1 ∧ (gE l j).f1 ≤ 1000000 ∧ (0 < j → rlt (gE l (j - 1)).f0 (gE l j).f0 = true)
def VZ (l : List S41) : Prop := (∀ j, j < l.length → okZ l j) ∧ l.length ≤ 400
noncomputable def vz (l : List S41) : Bool := @decide (VZ l) (Classical.propDecidable _)
theorem vz_iff (l : List S41) : vz l = true ↔ VZ l := by unfold vz; exact @decide_eq_true_iff _ (Classical.propDecidable _)
theorem bool_eq_of' {r s : Bool} {p : Prop} (h : r = true ↔ p) (k : s = true ↔ p) : r = s := by
  cases r <;> cases s <;> simp_all
/-- One place more. -/
theorem VZ_step {l : List S41} {i : Nat} (hlt : i < l.length) {r1 : Bool} (h1 : r1 = true ↔ (∀ j, i + 1 ≤ j → j < l.length → okZ l j) ∧ l.length ≤ 400) (h : okZ l i) : r1 = true ↔ (∀ j, i ≤ j → j < l.length → okZ l j) ∧ l.length ≤ 400 := by
  rw [h1]
  constructor
  · rintro ⟨b, c⟩
    exact ⟨fun j hj hj2 => by
      by_cases e : j = i
      · rw [e]; exact h
      · exact b j (by omega) hj2, c⟩
  · rintro ⟨a, c⟩
    exact ⟨fun j hj hj2 => a j (by omega) hj2, c⟩
theorem VZ_no {l : List S41} {i : Nat} (hlt : i < l.length) (h : ¬ okZ l i) : false = true ↔ (∀ j, i ≤ j → j < l.length → okZ l j) ∧ l.length ≤ 400 :=
  ⟨fun e => (by cases e), fun e => absurd (e.1 i (Nat.le_refl _) hlt) h⟩
theorem toIntS_l (xs : List Int) (hn : xs.length ≤ 140737488355328) (d : Nat) : ∀ (i : Nat) (out : List Int), i + d = xs.length → out.length = xs.length → Ev (fun k => laws_toIntS.l0 k xs out (i : Int)) (out.take i ++ xs.drop i) := by
  induction d with
  | zero =>
    intro i out hi ho
    refine Ev.step (fun k => by rw [laws_toIntS.l0]) ?_
    refine ev_else (by omega) (ev_of ?_)
    rw [List.drop_of_length_le (by omega), List.take_of_length_le (by omega), List.append_nil]
  | succ d ih =>
    intro i out hi ho
    have hlt : i < xs.length := by omega
    refine Ev.step (fun k => by rw [laws_toIntS.l0]) ?_
    refine ev_if (by omega) (ev_if (by omega) (ev_if (by omega) ?_))
    rw [w64s hlt hn, rd_at xs i hlt, Int.toNat_natCast]
    refine ev_to (ih (i + 1) _ (by omega) (by rw [List.length_set]; exact ho)) ?_
    rw [drop_at xs i hlt, List.take_succ_eq_append_getElem (by rw [List.length_set]; omega), List.getElem_set_self, List.take_set_of_le (Nat.le_refl _), List.append_assoc]
    rfl
theorem toIntS_ev (xs : List Int) (hn : xs.length ≤ 35184372088832) : Ev (fun k => laws_toIntS.f k xs) xs := by
  unfold laws_toIntS.f
  refine ev_if (by omega) (ev_if (by omega) ?_)
  have h := toIntS_l xs (by omega) xs.length 0 (List.replicate ((xs.length : Int)).toNat 0) (by omega) (by simp)
  simpa using h
theorem eqIntS_l (a b : List Int) (hl : a.length = b.length) (hn : a.length ≤ 140737488355328) (d : Nat) : ∀ (i : Nat), i + d = a.length → Ev (fun k => laws_eqIntS.l0 k a b (i : Int)) (decide (a.drop i = b.drop i)) := by
  induction d with
  | zero =>
    intro i hi
    refine Ev.step (fun k => by rw [laws_eqIntS.l0]) ?_
    refine ev_else (by omega) (ev_of ?_)
    rw [List.drop_of_length_le (by omega), List.drop_of_length_le (by omega)]
    simp
  | succ d ih =>
    intro i hi
    have hlt : i < a.length := by omega
    have hlt2 : i < b.length := by omega
    refine Ev.step (fun k => by rw [laws_eqIntS.l0]) ?_
    refine ev_if (by omega) (ev_if (by omega) (ev_if (by omega) ?_))
    rw [rd_at a i hlt, rd_at b i hlt2, drop_dec a b i hlt hlt2]
    by_cases he : a[i] = b[i]
    · refine ev_if he ?_
      rw [w64s hlt hn]
      refine ev_to (ih (i + 1) (by omega)) ?_
      simp [he]
    · refine ev_else he (ev_of ?_)
      simp [he]
theorem eqIntS_ev (a b : List Int) (hn : a.length ≤ 140737488355328) : Ev (fun k => laws_eqIntS.f k a b) (decide (a = b)) := by
  unfold laws_eqIntS.f
  by_cases hl : a.length = b.length
  · refine ev_if (by omega) ?_
    have h := eqIntS_l a b hl hn a.length 0 (by omega)
    simpa using h
  · refine ev_else (by omega) (ev_of ?_)
    have : a ≠ b := fun h => hl (by rw [h])
    simp [this]
def gL (l : List S60) (j : Nat) : S60 := rd_T60 l (j : Int)
theorem gL_at (l : List S60) (j : Nat) (h : j < l.length) : rd_T60 l (j : Int) = l[j] := by
  unfold rd_T60
  rw [Int.toNat_natCast, List.getD_eq_getElem?_getD, List.getElem?_eq_getElem h]
  rfl
def cvE (e : S60) : S41 := ⟨e.f0, e.f1⟩
theorem szInt_eq (l : List Int) (left : Int) (h0 : 0 ≤ left) (h1 : left ≤ 1048576) (hn : l.length ≤ maxLen) : laws_szIntS.f l left = some (if left < (l.length : Int) then -1 else left - (l.length : Int)) := by
  unfold maxLen at hn
  unfold laws_szIntS.f
  rw [w64 (by omega) (by omega)]
  by_cases h : left < (l.length : Int)
  · rw [if_pos (by omega), if_pos h]
  · rw [if_neg (by omega), if_neg h]
theorem szEntryS_l (l : List S60) (hl : l.length ≤ 1048576) (hn : ∀ e ∈ l, e.f0.length ≤ maxLen) (d : Nat) : ∀ (i : Nat) (left : Int), i + d = l.length → 0 ≤ left → left ≤ 1048576 → (∀ j (hj : j < l.length), j < i → l[j].f0.length ≤ 1048576) →
    ∃ r : Int, Ev (fun k => laws_szEntryS.l0 k l left (i : Int)) r ∧ (r < 0 ∨ (0 ≤ r ∧ r ≤ left ∧ ∀ e ∈ l, e.f0.length ≤ 1048576)) := by
  induction d with
  | zero =>
    intro i left hi h0 h1 hp
    refine ⟨left, ?_, .inr ⟨h0, Int.le_refl _, fun e he => ?_⟩⟩
    · refine Ev.step (fun k => by rw [laws_szEntryS.l0]) ?_
      exact ev_else (by omega) (ev_of rfl)
    · obtain ⟨j, hj, rfl⟩ := List.getElem_of_mem he
      exact hp j hj (by omega)
  | succ d ih =>
    intro i left hi h0 h1 hp
    have hlt : i < l.length := by omega
    have hs := szInt_eq l[i].f0 left h0 h1 (hn _ (List.getElem_mem hlt))
    by_cases c : left < (l[i].f0.length : Int)
    · refine ⟨-1, ?_, .inl (by omega)⟩
      refine Ev.step (fun k => by rw [laws_szEntryS.l0]) ?_
      rw [gL_at l i hlt]
      refine ev_if (by omega) (ev_if (by omega) (ev_bind0 (a := -1) ?_ (ev_if (by omega) (ev_of rfl))))
      unfold laws_szEntry.f
      rw [hs, if_pos c]; rfl
    · obtain ⟨r, er, hr⟩ := ih (i + 1) (left - (l[i].f0.length : Int)) (by omega) (by omega) (by omega) (fun j hj hj2 => by
        by_cases e : j = i
        · subst e; omega
        · exact hp j hj (by omega))
      refine ⟨r, ?_, ?_⟩
      · refine Ev.step (fun k => by rw [laws_szEntryS.l0]) ?_
        rw [gL_at l i hlt]
        refine ev_if (by omega) (ev_if (by omega) (ev_bind0 (a := left - (l[i].f0.length : Int)) ?_ (ev_else (by omega) ?_)))
        · unfold laws_szEntry.f
          rw [hs, if_neg c]
          simp only [Option.bind_some]
          rw [if_neg (by omega)]
        · rw [w64s hlt (by omega)]
          exact er
      · rcases hr with hr | ⟨a, b, c⟩
        · exact .inl hr
        · exact .inr ⟨a, by omega, c⟩
theorem szEntryS_ev (l : List S60) (left : Int) (h0 : 0 ≤ left) (h1 : left ≤ 1048576) (hl : l.length ≤ maxLen) (hn : ∀ e ∈ l, e.f0.length ≤ maxLen) : ∃ r : Int, Ev (fun k => laws_szEntryS.f k l left) r ∧ (r < 0 ∨ (0 ≤ r ∧ r ≤ left ∧ Sm (l.map cvE))) := by
  have hl' := hl
  unfold maxLen at hl'
  unfold laws_szEntryS.f
  rw [w64 (n := left - (l.length : Int)) (by omega) (by omega)]
  by_cases c : left - (l.length : Int) < 0
  · exact ⟨-1, ev_if c (ev_of rfl), .inl (by omega)⟩
  · obtain ⟨r, er, hr⟩ := szEntryS_l l (by omega) hn l.length 0 (left - (l.length : Int)) (by omega) (by omega) (by omega) (fun j hj h => by omega)
    refine ⟨r, ev_else c er, ?_⟩
    rcases hr with hr | ⟨a, b, c⟩
    · exact .inl hr
    · refine .inr ⟨a, by omega, by rw [List.length_map]; omega, fun e he => ?_⟩
      obtain ⟨x, hx, rfl⟩ := List.mem_map.1 he
      exact c x hx
theorem toEntry_ev (e : S60) (h : e.f0.length ≤ 1048576) : Ev (fun k => laws_toEntry.f k e.f0 e.f1) ((cvE e).f0, (cvE e).f1) := by
  unfold laws_toEntry.f
  exact Ev.bind (toIntS_ev e.f0 (by omega)) (ev_of rfl)
theorem toEntryS_l (xs : List S60) (hn : xs.length ≤ 1048576) (hr : ∀ e ∈ xs, e.f0.length ≤ 1048576) (d : Nat) : ∀ (i : Nat) (out : List S41), i + d = xs.length → out.length = xs.length → Ev (fun k => laws_toEntryS.l0 k xs out (i : Int)) (out.take i ++ (xs.drop i).map cvE) := by
  induction d with
  | zero =>
    intro i out hi ho
    refine Ev.step (fun k => by rw [laws_toEntryS.l0]) ?_
    refine ev_else (by omega) (ev_of ?_)
    rw [drop_end xs i (by omega), List.take_of_length_le (by omega)]
    simp
  | succ d ih =>
    intro i out hi ho
    have hlt : i < xs.length := by omega
    refine Ev.step (fun k => by rw [laws_toEntryS.l0]) ?_
    rw [gL_at xs i hlt]
    refine ev_if (by omega) (ev_if (by omega) (Ev.bind (toEntry_ev xs[i] (hr _ (List.getElem_mem hlt))) ?_))
    refine ev_if (by omega) ?_
    rw [w64s hlt (by omega), Int.toNat_natCast]
    refine ev_to (ih (i + 1) _ (by omega) (by rw [List.length_set]; exact ho)) ?_
    rw [drop_at xs i hlt, List.take_succ_eq_append_getElem (by rw [List.length_set]; omega), List.getElem_set_self, List.take_set_of_le (Nat.le_refl _), List.append_assoc]
    rfl
theorem toEntryS_ev (xs : List S60) (hs : Sm (xs.map cvE)) : Ev (fun k => laws_toEntryS.f k xs) (xs.map cvE) := by
  have hn : xs.length ≤ 1048576 := by have := hs.1; rwa [List.length_map] at this
  have hr : ∀ e ∈ xs, e.f0.length ≤ 1048576 := fun e he => hs.2 (cvE e) (List.mem_map.2 ⟨e, he, rfl⟩)
  unfold laws_toEntryS.f
  refine ev_if (by omega) (ev_if (by omega) ?_)
  have h := toEntryS_l xs hn hr xs.length 0 (List.replicate ((xs.length : Int)).toNat z41) (by omega) (by simp)
  simpa using h
theorem eqEntry_refl (e : S41) (h : e.f0.length ≤ 1048576) : Ev (fun k => laws_eqEntry.f k e.f0 e.f1 e.f0 e.f1) true := by
  unfold laws_eqEntry.f
  exact Ev.bind (eqIntS_ev _ _ (by omega)) (ev_if (by simp) (ev_of (by simp)))
theorem eqEntryS_l (a : List S41) (hs : Sm a) (d : Nat) : ∀ (i : Nat), i + d = a.length → Ev (fun k => laws_eqEntryS.l0 k a a (i : Int)) true := by
  induction d with
  | zero =>
    intro i hi
    refine Ev.step (fun k => by rw [laws_eqEntryS.l0]) ?_
    exact ev_else (by omega) (ev_of rfl)
  | succ d ih =>
    intro i hi
    have hlt : i < a.length := by omega
    have hn := hs.1
    refine Ev.step (fun k => by rw [laws_eqEntryS.l0]) ?_
    rw [rdE_cast]
    refine ev_if (by omega) (ev_if (by omega) (ev_if (by omega) (Ev.bind (eqEntry_refl _ (hs.row i)) (ev_if rfl ?_))))
    rw [w64s hlt (by omega)]
    exact ih (i + 1) (by omega)
theorem eqEntryS_ev (a : List S41) (hs : Sm a) : Ev (fun k => laws_eqEntryS.f k a a) true := by
  unfold laws_eqEntryS.f
  exact ev_if rfl (eqEntryS_l a hs a.length 0 (by omega))
/-- What markIntS leaves: k, k+1, .. -/
def marks (n : Nat) (k : Int) : List Int := (List.range n).map (fun (j : Nat) => k + (j : Int))
theorem marks_length (n : Nat) (k : Int) : (marks n k).length = n := by simp [marks]
theorem marks_at (n : Nat) (k : Int) (i : Nat) (h : i < (marks n k).length) : (marks n k)[i] = k + (i : Int) := by simp [marks]
theorem marks_succ (n : Nat) (k : Int) : marks (n + 1) k = k :: marks n (k + 1) := by
  unfold marks
  rw [List.range_succ_eq_map, List.map_cons, List.map_map]
  simp only [Int.natCast_zero, Int.add_zero, List.cons.injEq, true_and]
  apply List.map_congr_left
  intro j _
  simp only [Function.comp]
  push_cast
  omega
theorem set_drop {α : Type} (l : List α) (i : Nat) (v : α) (h : i < l.length) : (l.set i v).drop i = v :: l.drop (i + 1) := by
  rw [drop_at (l.set i v) i (by rw [List.length_set]; exact h), List.getElem_set_self, List.drop_set_of_lt (by omega)]
theorem markIntS_l (n : Nat) (hn : n ≤ 140737488355328) (d : Nat) : ∀ (i : Nat) (xs : List Int) (m : Int), i + d = n → xs.length = n → 0 ≤ m → m + d ≤ 4611686018427387904 → Ev (fun k => laws_markIntS.l0 k xs m (i : Int)) (m + (d : Int), xs.take i ++ marks d m) := by
  induction d with
  | zero =>
    intro i xs m hi hx h0 hm
    refine Ev.step (fun k => by rw [laws_markIntS.l0]) ?_
    refine ev_else (by omega) (ev_of ?_)
    rw [List.take_of_length_le (by omega)]
    simp [marks]
  | succ d ih =>
    intro i xs m hi hx h0 hm
    have hlt : i < n := by omega
    refine Ev.step (fun k => by rw [laws_markIntS.l0]) ?_
    refine ev_if (by omega) (ev_if (by omega) ?_)
    rw [w64s hlt hn, w64 (n := m + 1) (by omega) (by omega), Int.toNat_natCast]
    refine ev_to (ih (i + 1) (xs.set i m) (m + 1) (by omega) (by rw [List.length_set]; exact hx) (by omega) (by omega)) ?_
    rw [marks_succ, List.take_succ_eq_append_getElem (by rw [List.length_set]; omega), List.getElem_set_self, List.take_set_of_le (Nat.le_refl _), List.append_assoc]
    refine Prod.ext ?_ rfl
    show m + 1 + (d : Int) = m + ((d + 1 : Nat) : Int)
    push_cast; omega
theorem markIntS_ev (xs : List Int) (m : Int) (hn : xs.length ≤ 140737488355328) (h0 : 0 ≤ m) (hm : m ≤ 1000000000000000) : Ev (fun k => laws_markIntS.f k xs m) (m + (xs.length : Int), marks xs.length m) := by
  unfold laws_markIntS.f
  exact markIntS_l xs.length hn xs.length 0 xs m (by omega) rfl h0 (by omega)
theorem heldIntS_l (n : Nat) (m0 : Int) (hn : n ≤ 140737488355328) (h0 : 0 ≤ m0) (hm : m0 ≤ 1000000000000000) (d : Nat) : ∀ (i : Nat), i + d = n → Ev (fun k => laws_heldIntS.l0 k (marks n m0) (m0 + (i : Int)) (i : Int)) (m0 + (n : Int)) := by
  induction d with
  | zero =>
    intro i hi
    refine Ev.step (fun k => by rw [laws_heldIntS.l0]) ?_
    refine ev_else (by rw [marks_length]; omega) (ev_of ?_)
    rw [show i = n by omega]
  | succ d ih =>
    intro i hi
    have hlt : i < (marks n m0).length := by rw [marks_length]; omega
    refine Ev.step (fun k => by rw [laws_heldIntS.l0]) ?_
    rw [rd_at _ i hlt, marks_at]
    refine ev_if (by omega) (ev_if (by omega) (ev_if rfl ?_))
    rw [w64s (i := i) (n := n) (by omega) hn, w64 (n := m0 + (i : Int) + 1) (by omega) (by omega), show m0 + (i : Int) + 1 = m0 + ((i + 1 : Nat) : Int) by push_cast; omega]
    exact ih (i + 1) (by omega)
theorem heldIntS_ev (n : Nat) (m : Int) (hn : n ≤ 140737488355328) (h0 : 0 ≤ m) (hm : m ≤ 1000000000000000) : Ev (fun k => laws_heldIntS.f k (marks n m) m) (m + (n : Int)) := by
  unfold laws_heldIntS.f
  have h := heldIntS_l n m hn h0 hm n 0 (by omega)
  simpa using h
/-- What markEntryS leaves, and the number it ends at. -/
def mkE : List S41 → Int → List S41
  | [], _ => []
  | e :: l, m => (⟨marks e.f0.length m, m + (e.f0.length : Int)⟩ : S41) :: mkE l (m + (e.f0.length : Int) + 1)
def mkN : List S41 → Int → Int
  | [], m => m
  | e :: l, m => mkN l (m + (e.f0.length : Int) + 1)
theorem mkE_length (l : List S41) : ∀ m, (mkE l m).length = l.length := by
  induction l with
  | nil => intro m; rfl
  | cons e l ih => intro m; rw [mkE, List.length_cons, List.length_cons, ih]
theorem mkN_ge (l : List S41) : ∀ m, m ≤ mkN l m := by
  induction l with
  | nil => intro m; exact Int.le_refl _
  | cons e l ih => intro m; rw [mkN]; have := ih (m + (e.f0.length : Int) + 1); omega
theorem markEntryS_l (n : Nat) (hn : n ≤ 1048576) (d : Nat) : ∀ (i : Nat) (xs : List S41) (m : Int), i + d = n → xs.length = n → (∀ e ∈ xs, e.f0.length ≤ 1048576) → 0 ≤ m → m + (d : Int) * 1048577 ≤ 1000000000000 * 2 → Ev (fun k => laws_markEntryS.l0 k xs m (i : Int)) (mkN (xs.drop i) m, xs.take i ++ mkE (xs.drop i) m) := by
  induction d with
  | zero =>
    intro i xs m hi hx hr h0 hm
    refine Ev.step (fun k => by rw [laws_markEntryS.l0]) ?_
    refine ev_else (by omega) (ev_of ?_)
    rw [drop_end xs i (by omega), List.take_of_length_le (by omega)]
    simp [mkE, mkN]
  | succ d ih =>
    intro i xs m hi hx hr h0 hm
    have hlt : i < xs.length := by omega
    have h1 := hr _ (List.getElem_mem hlt)
    refine Ev.step (fun k => by rw [laws_markEntryS.l0]) ?_
    rw [rdE_cast, gE_at xs i hlt]
    refine ev_if (by omega) (ev_if (by omega) (Ev.bind (markIntS_ev _ m (by omega) h0 (by omega)) ?_))
    dsimp only
    rw [w64s (i := i) (n := n) (by omega) (by omega), w64 (n := m + (xs[i].f0.length : Int) + 1) (by omega) (by omega), Int.toNat_natCast]
    refine ev_to (ih (i + 1) (xs.set i ⟨marks xs[i].f0.length m, m + (xs[i].f0.length : Int)⟩) (m + (xs[i].f0.length : Int) + 1) (by omega) (by rw [List.length_set]; exact hx) (fun e he => ?_) (by omega) (by push_cast at hm ⊢; omega)) ?_
    · rcases List.mem_or_eq_of_mem_set he with h | h
      · exact hr e h
      · rw [h]; show (marks _ _).length ≤ _; rw [marks_length]; exact h1
    · rw [drop_at xs i hlt, mkE, mkN, List.drop_set_of_lt (by omega), List.take_succ_eq_append_getElem (by rw [List.length_set]; omega), List.getElem_set_self, List.take_set_of_le (Nat.le_refl _), List.append_assoc]
      rfl
theorem markEntryS_ev (xs : List S41) (hs : Sm xs) (m : Int) (h0 : 0 ≤ m) (hm : m ≤ 1000000000) : Ev (fun k => laws_markEntryS.f k xs m) (mkN xs m, mkE xs m) := by
  unfold laws_markEntryS.f
  have hn := hs.1
  have h := markEntryS_l xs.length hn xs.length 0 xs m (by omega) rfl hs.2 h0 (by omega)
  simpa using h
theorem heldEntryS_l (ys : List S41) (hn : ys.length ≤ 1048576) (t : List S41) : ∀ (i : Nat) (m : Int), ys.drop i = mkE t m → i + t.length = ys.length → (∀ e ∈ t, e.f0.length ≤ 1048576) → 0 ≤ m → m + (t.length : Int) * 1048577 ≤ 1000000000000 * 2 → Ev (fun k => laws_heldEntryS.l0 k ys m (i : Int)) (mkN t m) := by
  induction t with
  | nil =>
    intro i m hd hi hr h0 hm
    rw [List.length_nil] at hi
    refine Ev.step (fun k => by rw [laws_heldEntryS.l0]) ?_
    exact ev_else (by omega) (ev_of rfl)
  | cons e t ih =>
    intro i m hd hi hr h0 hm
    rw [List.length_cons] at hi hm
    have hlt : i < ys.length := by omega
    have h1 := hr e List.mem_cons_self
    rw [drop_at ys i hlt, mkE] at hd
    have h2 := (List.cons.inj hd).1
    have h3 := (List.cons.inj hd).2
    refine Ev.step (fun k => by rw [laws_heldEntryS.l0]) ?_
    rw [rdE_cast, gE_at ys i hlt, h2]
    refine ev_if (by omega) (ev_if (by omega) (Ev.bind (heldIntS_ev _ m (by omega) h0 (by omega)) ?_))
    refine ev_else (by omega) (ev_if rfl ?_)
    rw [w64s hlt (by omega), w64 (n := m + (e.f0.length : Int) + 1) (by omega) (by omega)]
    exact ih (i + 1) _ h3 (by omega) (fun x hx => hr x (List.mem_cons_of_mem _ hx)) (by omega) (by push_cast at hm; omega)
theorem heldEntryS_ev (xs : List S41) (hs : Sm xs) (m : Int) (h0 : 0 ≤ m) (hm : m ≤ 1000000000) : Ev (fun k => laws_heldEntryS.f k (mkE xs m) m) (mkN xs m) := by
  unfold laws_heldEntryS.f
  have hn := hs.1
  have h := heldEntryS_l (mkE xs m) (by rw [mkE_length]; exact hn) xs 0 m rfl (by rw [mkE_length]; omega) hs.2 h0 (by omega)
  simpa using h
theorem inRange_eq (a b c : Int) : spec_inRange.f a b c = some (decide (b ≤ a ∧ a ≤ c)) := by
  unfold spec_inRange.f
  by_cases h1 : b ≤ a <;> by_cases h2 : a ≤ c <;> simp [h1, h2]
theorem spec_validRow_l (xs : List Int) (hn : xs.length ≤ 140737488355328) (d : Nat) : ∀ (i : Nat), i + d = xs.length → Ev (fun k => spec_validRow.l0 k xs (i : Int)) ((xs.drop i).all okv && decide (1 ≤ (xs.length : Int) ∧ (xs.length : Int) ≤ 6)) := by
  induction d with
  | zero =>
    intro i hi
    refine Ev.step (fun k => by rw [spec_validRow.l0]) ?_
    refine ev_else (by omega) (ev_bind0 (inRange_eq _ _ _) (ev_of ?_))
    rw [List.drop_of_length_le (by omega)]
    simp
  | succ d ih =>
    intro i hi
    have hlt : i < xs.length := by omega
    refine Ev.step (fun k => by rw [spec_validRow.l0]) ?_
    refine ev_if (by omega) (ev_if (by omega) (ev_bind0 (inRange_eq _ _ _) ?_))
    rw [rd_at xs i hlt, drop_all xs i hlt]
    by_cases he : -9999 ≤ xs[i] ∧ xs[i] ≤ 9999
    · refine ev_if (by simpa using he) ?_
      rw [w64s hlt hn]
      refine ev_to (ih (i + 1) (by omega)) ?_
      simp [okv, he]
    · refine ev_else (by simpa using he) (ev_of ?_)
      simp only [okv, he, decide_false, Bool.false_and]
theorem spec_validRow_ev (xs : List Int) (hn : xs.length ≤ 140737488355328) : Ev (fun k => spec_validRow.f k xs) (vrow xs) := by
  unfold spec_validRow.f
  have h := spec_validRow_l xs hn xs.length 0 (by omega)
  exact h
theorem spec_rowLess_l (a b : List Int) (hn : a.length ≤ 140737488355328) (d : Nat) : ∀ (i : Nat), i + d = a.length → i ≤ b.length → Ev (fun k => spec_rowLess.l0 k a b (i : Int)) (rlt (a.drop i) (b.drop i)) := by
  induction d with
  | zero =>
    intro i hi hb
    refine Ev.step (fun k => by rw [spec_rowLess.l0]) ?_
    refine ev_else (by omega) ?_
    refine Ev.step (fun k => by rw [spec_rowLess.j1]) ?_
    refine ev_else (by simp) (ev_of ?_)
    rw [drop_end a i (by omega)]
    by_cases h : i < b.length
    · rw [drop_at b i h]
      simp [rlt]; omega
    · rw [drop_end b i (by omega)]
      simp [rlt]; omega
  | succ d ih =>
    intro i hi hb
    have hlt : i < a.length := by omega
    refine Ev.step (fun k => by rw [spec_rowLess.l0]) ?_
    refine ev_if (by omega) ?_
    refine Ev.step (fun k => by rw [spec_rowLess.j1]) ?_
    by_cases h : i < b.length
    · refine ev_if (by simpa using h) (ev_if (by omega) (ev_if (by omega) (ev_if (by omega) ?_)))
      rw [rd_at a i hlt, rd_at b i h]
      have e : rlt (a.drop i) (b.drop i) = if a[i] = b[i] then rlt (a.drop (i + 1)) (b.drop (i + 1)) else decide (a[i] < b[i]) := by
        rw [drop_at a i hlt, drop_at b i h]; rfl
      rw [e]
      by_cases he : a[i] = b[i]
      · refine ev_if he ?_
        rw [w64s hlt hn, if_pos he]
        exact ih (i + 1) (by omega) (by omega)
      · exact ev_else he (ev_of (by rw [if_neg he]))
    · refine ev_else (by simpa using h) (ev_of ?_)
      rw [drop_end b i (by omega), drop_at a i hlt]
      simp [rlt]; omega
theorem spec_rowLess_ev (a b : List Int) (hn : a.length ≤ 140737488355328) : Ev (fun k => spec_rowLess.f k a b) (rlt a b) := by
  unfold spec_rowLess.f
  exact spec_rowLess_l a b hn a.length 0 (by omega) (by omega)
theorem spec_vz_l (l : List S41) (hs : Sm l) (d : Nat) : ∀ (i : Nat), i + d = l.length →
    ∃ r, Ev (fun k => spec_validZSet.l0 k l (i : Int)) r ∧ (r = true ↔ (∀ j, i ≤ j → j < l.length → okZ l j) ∧ l.length ≤ 400) := by
  have hn := hs.1
  induction d with
  | zero =>
    intro i hi
    refine ⟨decide ((l.length : Int) ≤ 400), ?_, ?_⟩
    · refine Ev.step (fun k => by rw [spec_validZSet.l0]) ?_
      exact ev_else (by omega) (ev_of rfl)
    · rw [decide_eq_true_iff]
      exact ⟨fun h => ⟨fun j a b => by omega, by omega⟩, fun h => by omega⟩
  | succ d ih =>
    intro i hi
    have hlt : i < l.length := by omega
    obtain ⟨r1, e1, h1⟩ := ih (i + 1) (by omega)
    have r0 := hs.row i
    by_cases c1 : vrow (gE l i).f0 = true
    · by_cases c2 : (gE l i).f0.length = (gE l 0).f0.length
      · by_cases c3 : (gE l i).f1 = 0
        · refine ⟨false, ?_, VZ_no hlt fun h => h.2.2.1 c3⟩
          refine Ev.step (fun k => by rw [spec_validZSet.l0]) ?_
          rw [rdE_cast, rdE_zero]
          refine ev_if (by omega) (ev_if (by omega) (Ev.bind (spec_validRow_ev _ (by omega)) (ev_if c1 ?_)))
          exact ev_if (by omega) (ev_if (by omega) (ev_if c3 (ev_of rfl)))
        · by_cases c4 : -1000000 ≤ (gE l i).f1 ∧ (gE l i).f1 ≤ 1000000
          · by_cases c5 : 0 < i
            · by_cases c6 : rlt (gE l (i - 1)).f0 (gE l i).f0 = true
              · refine ⟨r1, ?_, VZ_step hlt h1 ⟨c1, c2, c3, c4.1, c4.2, fun _ => c6⟩⟩
                refine Ev.step (fun k => by rw [spec_validZSet.l0]) ?_
                rw [rdE_cast, rdE_zero]
                refine ev_if (by omega) (ev_if (by omega) (Ev.bind (spec_validRow_ev _ (by omega)) (ev_if c1 ?_)))
                refine ev_if (by omega) (ev_if (by omega) (ev_else c3 (ev_bind0 (inRange_eq _ _ _) (ev_if (by simpa using c4) ?_))))
                rw [w64 (n := (i : Int) - 1) (by omega) (by omega), show (i : Int) - 1 = ((i - 1 : Nat) : Int) by omega, rdE_cast]
                have r2 := hs.row (i - 1)
                refine ev_if (by omega) (ev_if (by omega) (ev_if (by omega) (Ev.bind (spec_rowLess_ev _ _ (by omega)) (ev_if c6 ?_))))
                rw [w64s hlt (by omega)]
                exact e1
              · refine ⟨false, ?_, VZ_no hlt fun h => c6 (h.2.2.2.2.2 c5)⟩
                refine Ev.step (fun k => by rw [spec_validZSet.l0]) ?_
                rw [rdE_cast, rdE_zero]
                refine ev_if (by omega) (ev_if (by omega) (Ev.bind (spec_validRow_ev _ (by omega)) (ev_if c1 ?_)))
                refine ev_if (by omega) (ev_if (by omega) (ev_else c3 (ev_bind0 (inRange_eq _ _ _) (ev_if (by simpa using c4) ?_))))
                rw [w64 (n := (i : Int) - 1) (by omega) (by omega), show (i : Int) - 1 = ((i - 1 : Nat) : Int) by omega, rdE_cast]
                have r2 := hs.row (i - 1)
                exact ev_if (by omega) (ev_if (by omega) (ev_if (by omega) (Ev.bind (spec_rowLess_ev _ _ (by omega)) (ev_else c6 (ev_of rfl)))))
            · refine ⟨r1, ?_, VZ_step hlt h1 ⟨c1, c2, c3, c4.1, c4.2, fun h => absurd h c5⟩⟩
              refine Ev.step (fun k => by rw [spec_validZSet.l0]) ?_
              rw [rdE_cast, rdE_zero]
              refine ev_if (by omega) (ev_if (by omega) (Ev.bind (spec_validRow_ev _ (by omega)) (ev_if c1 ?_)))
              refine ev_if (by omega) (ev_if (by omega) (ev_else c3 (ev_bind0 (inRange_eq _ _ _) (ev_if (by simpa using c4) ?_))))
              refine ev_else (by omega) ?_
              rw [w64s hlt (by omega)]
              exact e1
          · refine ⟨false, ?_, VZ_no hlt fun h => c4 ⟨h.2.2.2.1, h.2.2.2.2.1⟩⟩
            refine Ev.step (fun k => by rw [spec_validZSet.l0]) ?_
            rw [rdE_cast, rdE_zero]
            refine ev_if (by omega) (ev_if (by omega) (Ev.bind (spec_validRow_ev _ (by omega)) (ev_if c1 ?_)))
            exact ev_if (by omega) (ev_if (by omega) (ev_else c3 (ev_bind0 (inRange_eq _ _ _) (ev_else (by simpa using c4) (ev_of rfl)))))
      · refine ⟨false, ?_, VZ_no hlt fun h => c2 h.2.1⟩
        refine Ev.step (fun k => by rw [spec_validZSet.l0]) ?_
        rw [rdE_cast, rdE_zero]
        refine ev_if (by omega) (ev_if (by omega) (Ev.bind (spec_validRow_ev _ (by omega)) (ev_if c1 ?_)))
        exact ev_if (by omega) (ev_else (by omega) (ev_of rfl))
    · refine ⟨false, ?_, VZ_no hlt fun h => c1 h.1⟩
      refine Ev.step (fun k => by rw [spec_validZSet.l0]) ?_
      rw [rdE_cast, rdE_zero]
      exact ev_if (by omega) (ev_if (by omega) (Ev.bind (spec_validRow_ev _ (by omega)) (ev_else c1 (ev_of rfl))))
theorem spec_validZSet_ev (l : List S41) (hs : Sm l) : Ev (fun k => spec_validZSet.f k l) (vz l) := by
  unfold spec_validZSet.f
  obtain ⟨r, er, hr⟩ := spec_vz_l l hs l.length 0 (by omega)
  refine ev_to er (bool_eq_of' hr ?_)
  rw [vz_iff]
  exact ⟨fun h => ⟨fun j _ hj => h.1 j hj, h.2⟩, fun h => ⟨fun j hj => h.1 j (Nat.zero_le _) hj, h.2⟩⟩
theorem impl_ValidRow_l (xs : List Int) (hn : xs.length ≤ 140737488355328) (d : Nat) : ∀ (i : Nat), i + d = xs.length → Ev (fun k => impl_ValidRow.l0 k xs xs (xs.length : Int) (i : Int)) ((xs.drop i).all okv && decide (1 ≤ (xs.length : Int) ∧ (xs.length : Int) ≤ 6)) := by
  induction d with
  | zero =>
    intro i hi
    refine Ev.step (fun k => by rw [impl_ValidRow.l0]) ?_
    refine ev_else (by omega) ?_
    rw [List.drop_of_length_le (by omega)]
    by_cases h1 : (xs.length : Int) ≥ 1
    · exact ev_if h1 (ev_of (by simp only [List.all_nil, Bool.true_and]; exact congrArg some (decide_eq_decide.mpr ⟨fun h => ⟨h1, h⟩, fun h => h.2⟩)))
    · exact ev_else h1 (ev_of (by simp; omega))
  | succ d ih =>
    intro i hi
    have hlt : i < xs.length := by omega
    refine Ev.step (fun k => by rw [impl_ValidRow.l0]) ?_
    refine ev_if (by omega) (ev_if (by omega) (ev_if (by omega) ?_))
    rw [rd_at xs i hlt, drop_all xs i hlt]
    by_cases h1 : xs[i] < -9999
    · refine ev_if h1 (ev_of ?_)
      have : ¬ (-9999 ≤ xs[i] ∧ xs[i] ≤ 9999) := by omega
      simp only [okv, this, decide_false, Bool.false_and]
    · refine ev_else h1 ?_
      by_cases h2 : xs[i] > 9999
      · refine ev_if h2 (ev_of ?_)
        have : ¬ (-9999 ≤ xs[i] ∧ xs[i] ≤ 9999) := by omega
        simp only [okv, this, decide_false, Bool.false_and]
      · refine ev_else h2 ?_
        rw [w64s hlt hn]
        refine ev_to (ih (i + 1) (by omega)) ?_
        have : -9999 ≤ xs[i] ∧ xs[i] ≤ 9999 := by omega
        simp only [okv, this, and_self, decide_true, Bool.true_and]
theorem impl_ValidRow_ev (xs : List Int) (hn : xs.length ≤ 140737488355328) : Ev (fun k => impl_ValidRow.f k xs) (vrow xs) := by
  unfold impl_ValidRow.f
  have h := impl_ValidRow_l xs hn xs.length 0 (by omega)
  exact h
theorem isNaN_eq (a : Int) : cmp_isNaN_int.f a = some false := by unfold cmp_isNaN_int.f; simp
theorem cmpInt_eq (a b : Int) : cmp_Compare_int.f a b = some (if a < b then -1 else if a > b then 1 else 0) := by
  unfold cmp_Compare_int.f
  rw [isNaN_eq, isNaN_eq]
  simp only [Option.bind_some]
  by_cases h : a < b
  · simp [h]
  · by_cases h2 : a > b <;> simp [h, h2]
theorem slices_Compare_l (a b : List Int) (hn : a.length ≤ 140737488355328) (d : Nat) : ∀ (i : Nat), i + d = a.length → i ≤ b.length → Ev (fun k => slices_Compare_int_int.l0 k a b a (a.length : Int) (i : Int)) (rcmp (a.drop i) (b.drop i)) := by
  induction d with
  | zero =>
    intro i hi hb
    refine Ev.step (fun k => by rw [slices_Compare_int_int.l0]) ?_
    refine ev_else (by omega) ?_
    rw [drop_end a i (by omega)]
    by_cases h : i < b.length
    · rw [drop_at b i h]
      exact ev_if (by omega) (ev_of rfl)
    · rw [drop_end b i (by omega)]
      exact ev_else (by omega) (ev_of rfl)
  | succ d ih =>
    intro i hi hb
    have hlt : i < a.length := by omega
    refine Ev.step (fun k => by rw [slices_Compare_int_int.l0]) ?_
    refine ev_if (by omega) (ev_if (by omega) (ev_if (by omega) ?_))
    by_cases h : i < b.length
    · refine ev_else (by omega) (ev_if (by omega) (ev_bind0 (cmpInt_eq _ _) ?_))
      rw [rd_at a i hlt, rd_at b i h]
      have e : rcmp (a.drop i) (b.drop i) = if a[i] < b[i] then -1 else if a[i] > b[i] then 1 else rcmp (a.drop (i + 1)) (b.drop (i + 1)) := by
        rw [drop_at a i hlt, drop_at b i h]; rfl
      rw [e]
      by_cases h1 : a[i] < b[i]
      · simp only [h1, if_true]
        exact ev_else (by omega) (ev_of rfl)
      · by_cases h2 : a[i] > b[i]
        · simp only [h1, h2, if_true, if_false]
          exact ev_else (by omega) (ev_of rfl)
        · simp only [h1, h2, if_false]
          refine ev_if trivial ?_
          rw [w64s hlt hn]
          exact ih (i + 1) (by omega) (by omega)
    · refine ev_if (by omega) (ev_of ?_)
      rw [drop_end b i (by omega), drop_at a i hlt]
      rfl
theorem slices_Compare_ev (a b : List Int) (hn : a.length ≤ 140737488355328) : Ev (fun k => slices_Compare_int_int.f k a b) (rcmp a b) := by
  unfold slices_Compare_int_int.f
  exact slices_Compare_l a b hn a.length 0 (by omega) (by omega)
theorem impl_RowLess_ev (a b : List Int) (hn : a.length ≤ 140737488355328) : Ev (fun k => impl_RowLess.f k a b) (rlt a b) := by
  unfold impl_RowLess.f
  exact Ev.bind (slices_Compare_ev a b hn) (ev_of (by rw [rcmp_neg]))
theorem impl_vz_l (l : List S41) (hs : Sm l) (d : Nat) : ∀ (i : Nat), i + d = l.length →
    ∃ r, Ev (fun k => impl_ValidZSet.l0 k l l (l.length : Int) (i : Int)) r ∧ (r = true ↔ (∀ j, i ≤ j → j < l.length → okZ l j) ∧ l.length ≤ 400) := by
  have hn := hs.1
  induction d with
  | zero =>
    intro i hi
    refine ⟨decide ((l.length : Int) ≤ 400), ?_, ?_⟩
    · refine Ev.step (fun k => by rw [impl_ValidZSet.l0]) ?_
      exact ev_else (by omega) (ev_of rfl)
    · rw [decide_eq_true_iff]
      exact ⟨fun h => ⟨fun j a b => by omega, by omega⟩, fun h => by omega⟩
  | succ d ih =>
    intro i hi
    have hlt : i < l.length := by omega
    obtain ⟨r1, e1, h1⟩ := ih (i + 1) (by omega)
    have r0 := hs.row i
    by_cases c1 : vrow (gE l i).f0 = true
    · by_cases c2 : (gE l i).f0.length = (gE l 0).f0.length
      · by_cases c3 : (gE l i).f1 = 0
        · refine ⟨false, ?_, VZ_no hlt fun h => h.2.2.1 c3⟩
          refine Ev.step (fun k => by rw [impl_ValidZSet.l0]) ?_
          rw [rdE_cast, rdE_zero]
          refine ev_if (by omega) (ev_if (by omega) (ev_if (by omega) (Ev.bind (impl_ValidRow_ev _ (by omega)) (ev_if c1 ?_))))
          exact ev_if (by omega) (ev_if (by omega) (ev_if c3 (ev_of rfl)))
        · by_cases c4 : -1000000 ≤ (gE l i).f1 ∧ (gE l i).f1 ≤ 1000000
          · by_cases c5 : 0 < i
            · by_cases c6 : rlt (gE l (i - 1)).f0 (gE l i).f0 = true
              · refine ⟨r1, ?_, VZ_step hlt h1 ⟨c1, c2, c3, c4.1, c4.2, fun _ => c6⟩⟩
                refine Ev.step (fun k => by rw [impl_ValidZSet.l0]) ?_
                rw [rdE_cast, rdE_zero]
                refine ev_if (by omega) (ev_if (by omega) (ev_if (by omega) (Ev.bind (impl_ValidRow_ev _ (by omega)) (ev_if c1 ?_))))
                refine ev_if (by omega) (ev_if (by omega) (ev_else c3 (ev_else (by omega) (ev_else (by omega) ?_))))
                rw [w64 (n := (i : Int) - 1) (by omega) (by omega), show (i : Int) - 1 = ((i - 1 : Nat) : Int) by omega, rdE_cast]
                have r2 := hs.row (i - 1)
                refine ev_if (by omega) (ev_if (by omega) (ev_if (by omega) (Ev.bind (impl_RowLess_ev _ _ (by omega)) (ev_if c6 ?_))))
                rw [w64s hlt (by omega)]
                exact e1
              · refine ⟨false, ?_, VZ_no hlt fun h => c6 (h.2.2.2.2.2 c5)⟩
                refine Ev.step (fun k => by rw [impl_ValidZSet.l0]) ?_
                rw [rdE_cast, rdE_zero]
                refine ev_if (by omega) (ev_if (by omega) (ev_if (by omega) (Ev.bind (impl_ValidRow_ev _ (by omega)) (ev_if c1 ?_))))
                refine ev_if (by omega) (ev_if (by omega) (ev_else c3 (ev_else (by omega) (ev_else (by omega) ?_))))
                rw [w64 (n := (i : Int) - 1) (by omega) (by omega), show (i : Int) - 1 = ((i - 1 : Nat) : Int) by omega, rdE_cast]
                have r2 := hs.row (i - 1)
                exact ev_if (by omega) (ev_if (by omega) (ev_if (by omega) (Ev.bind (impl_RowLess_ev _ _ (by omega)) (ev_else c6 (ev_of rfl)))))
            · refine ⟨r1, ?_, VZ_step hlt h1 ⟨c1, c2, c3, c4.1, c4.2, fun h => absurd h c5⟩⟩
              refine Ev.step (fun k => by rw [impl_ValidZSet.l0]) ?_
              rw [rdE_cast, rdE_zero]
              refine ev_if (by omega) (ev_if (by omega) (ev_if (by omega) (Ev.bind (impl_ValidRow_ev _ (by omega)) (ev_if c1 ?_))))
              refine ev_if (by omega) (ev_if (by omega) (ev_else c3 (ev_else (by omega) (ev_else (by omega) ?_))))
              refine ev_else (by omega) ?_
              rw [w64s hlt (by omega)]
              exact e1
          · refine ⟨false, ?_, VZ_no hlt fun h => c4 ⟨h.2.2.2.1, h.2.2.2.2.1⟩⟩
            refine Ev.step (fun k => by rw [impl_ValidZSet.l0]) ?_
            rw [rdE_cast, rdE_zero]
            refine ev_if (by omega) (ev_if (by omega) (ev_if (by omega) (Ev.bind (impl_ValidRow_ev _ (by omega)) (ev_if c1 ?_))))
            refine ev_if (by omega) (ev_if (by omega) (ev_else c3 ?_))
            by_cases c5 : (gE l i).f1 < -1000000
            · exact ev_if c5 (ev_of rfl)
            · exact ev_else c5 (ev_if (by omega) (ev_of rfl))
      · refine ⟨false, ?_, VZ_no hlt fun h => c2 h.2.1⟩
        refine Ev.step (fun k => by rw [impl_ValidZSet.l0]) ?_
        rw [rdE_cast, rdE_zero]
        refine ev_if (by omega) (ev_if (by omega) (ev_if (by omega) (Ev.bind (impl_ValidRow_ev _ (by omega)) (ev_if c1 ?_))))
        exact ev_if (by omega) (ev_else (by omega) (ev_of rfl))
    · refine ⟨false, ?_, VZ_no hlt fun h => c1 h.1⟩
      refine Ev.step (fun k => by rw [impl_ValidZSet.l0]) ?_
      rw [rdE_cast, rdE_zero]
      exact ev_if (by omega) (ev_if (by omega) (ev_if (by omega) (Ev.bind (impl_ValidRow_ev _ (by omega)) (ev_else c1 (ev_of rfl)))))
theorem impl_ValidZSet_ev (l : List S41) (hs : Sm l) : Ev (fun k => impl_ValidZSet.f k l) (vz l) := by
  unfold impl_ValidZSet.f
  obtain ⟨r, er, hr⟩ := impl_vz_l l hs l.length 0 (by omega)
  refine ev_to er (bool_eq_of' hr ?_)
  rw [vz_iff]
  exact ⟨fun h => ⟨fun j _ hj => h.1 j hj, h.2⟩, fun h => ⟨fun j hj => h.1 j (Nat.zero_le _) hj, h.2⟩⟩
theorem cpI_eq (l : List Int) (h : l.length < 17592186044416) : spec_copyInts.f l = some l := by
  unfold spec_copyInts.f
  simp only [Option.bind_some, List.length_nil, Nat.zero_add, List.nil_append]
  rw [if_pos h]
theorem Clone_eq (l : List Int) (h : l.length < 17592186044416) : slices_Clone_int_int.f l = some l := by
  unfold slices_Clone_int_int.f
  simp only [Option.bind_some, List.length_nil, Nat.zero_add, List.nil_append]
  rw [if_pos h]
theorem VZ_w {l : List S41} (h : VZ l) : ∀ e ∈ l, -1000000 ≤ e.f1 ∧ e.f1 ≤ 1000000 := by
  intro e he
  obtain ⟨j, hj, rfl⟩ := List.getElem_of_mem he
  have := h.1 j hj
  unfold okZ at this
  rw [gE_at l j hj] at this
  exact ⟨this.2.2.2.1, this.2.2.2.2.1⟩
theorem spec_copyEntry_eq (e : S41) (h : e.f0.length ≤ 1048576) : spec_copyEntry.f e.f0 e.f1 = some (e.f0, e.f1) := by
  unfold spec_copyEntry.f
  rw [cpI_eq _ (by omega)]; rfl
theorem spec_copyZ_l (l : List S41) (hs : Sm l) (d : Nat) : ∀ (i : Nat) (out : List S41), i + d = l.length → out.length ≤ i → Ev (fun k => spec_copyZSet.l0 k l out (i : Int)) (out ++ l.drop i) := by
  have hn := hs.1
  induction d with
  | zero =>
    intro i out hi ho
    refine Ev.step (fun k => by rw [spec_copyZSet.l0]) ?_
    exact ev_else (by omega) (ev_of (by rw [drop_end l i (by omega)]; simp))
  | succ d ih =>
    intro i out hi ho
    have hlt : i < l.length := by omega
    have hr := hs.2 _ (List.getElem_mem hlt)
    refine Ev.step (fun k => by rw [spec_copyZSet.l0]) ?_
    rw [rdE_cast, gE_at l i hlt]
    refine ev_if (by omega) (ev_if (by omega) (ev_bind0 (spec_copyEntry_eq _ hr) (ev_if (by omega) ?_)))
    rw [w64s hlt (by omega)]
    refine ev_to (ih (i + 1) _ (by omega) (by simp; omega)) ?_
    rw [drop_at l i hlt, List.append_assoc]; rfl
theorem spec_copyZSet_ev (l : List S41) (hs : Sm l) : Ev (fun k => spec_copyZSet.f k l) l := by
  unfold spec_copyZSet.f
  exact spec_copyZ_l l hs l.length 0 [] (by omega) (Nat.le_refl _)
theorem impl_copyZ_l (l : List S41) (hs : Sm l) (d : Nat) : ∀ (i : Nat) (out : List S41), i + d = l.length → out.length ≤ i → Ev (fun k => impl_copyZ.l0 k out l (l.length : Int) (i : Int)) (out ++ l.drop i) := by
  have hn := hs.1
  induction d with
  | zero =>
    intro i out hi ho
    refine Ev.step (fun k => by rw [impl_copyZ.l0]) ?_
    exact ev_else (by omega) (ev_of (by rw [drop_end l i (by omega)]; simp))
  | succ d ih =>
    intro i out hi ho
    have hlt : i < l.length := by omega
    have hr := hs.2 _ (List.getElem_mem hlt)
    refine Ev.step (fun k => by rw [impl_copyZ.l0]) ?_
    rw [rdE_cast, gE_at l i hlt]
    refine ev_if (by omega) (ev_if (by omega) (ev_if (by omega) (ev_bind0 (Clone_eq _ (by omega)) (ev_if (by omega) ?_))))
    rw [w64s hlt (by omega)]
    refine ev_to (ih (i + 1) _ (by omega) (by simp; omega)) ?_
    rw [drop_at l i hlt, List.append_assoc]; rfl
theorem impl_copyZ_ev (l : List S41) (hs : Sm l) : Ev (fun k => impl_copyZ.f k l) l := by
  unfold impl_copyZ.f
  exact impl_copyZ_l l hs l.length 0 [] (by omega) (Nat.le_refl _)
def ngE (e : S41) : S41 := ⟨e.f0, -e.f1⟩
def ng (l : List S41) : List S41 := l.map ngE
theorem ng_Sm {l : List S41} (h : Sm l) : Sm (ng l) := by
  unfold ng
  refine ⟨by rw [List.length_map]; exact h.1, fun e he => ?_⟩
  obtain ⟨x, hx, rfl⟩ := List.mem_map.1 he
  exact h.2 x hx
theorem ng_set (l : List S41) (i : Nat) (h : i < l.length) (v : S41) (hv : v = ngE l[i]) : (l.set i v).take (i + 1) ++ ng ((l.set i v).drop (i + 1)) = l.take i ++ ng (l.drop i) := by
  rw [List.take_succ_eq_append_getElem (by rw [List.length_set]; exact h), List.getElem_set_self, List.take_set_of_le (Nat.le_refl _), List.drop_set_of_lt (by omega), drop_at l i h, List.append_assoc, hv]
  rfl
theorem spec_negate_l (n : Nat) (hn : n ≤ 1048576) (d : Nat) : ∀ (i : Nat) (xs : List S41), i + d = n → xs.length = n → (∀ j (hj : j < xs.length), i ≤ j → -1000000 ≤ xs[j].f1 ∧ xs[j].f1 ≤ 1000000) → Ev (fun k => spec_negate.l0 k xs (i : Int)) (xs.take i ++ ng (xs.drop i)) := by
  induction d with
  | zero =>
    intro i xs hi hx hb
    refine Ev.step (fun k => by rw [spec_negate.l0]) ?_
    exact ev_else (by omega) (ev_of (by rw [drop_end xs i (by omega), List.take_of_length_le (by omega)]; simp [ng]))
  | succ d ih =>
    intro i xs hi hx hb
    have hlt : i < xs.length := by omega
    have h1 := hb i hlt (Nat.le_refl _)
    refine Ev.step (fun k => by rw [spec_negate.l0]) ?_
    rw [rdE_cast, gE_at xs i hlt]
    refine ev_if (by omega) (ev_if (by omega) ?_)
    rw [w64s (i := i) (n := n) (by omega) (by omega), w64 (n := -xs[i].f1) (by omega) (by omega), Int.toNat_natCast]
    refine ev_to (ih (i + 1) (xs.set i ⟨xs[i].f0, -xs[i].f1⟩) (by omega) (by rw [List.length_set]; exact hx) (fun j hj hij => ?_)) (ng_set xs i hlt _ rfl)
    rw [List.length_set] at hj
    rw [List.getElem_set_ne (by omega)]
    exact hb j hj (by omega)
theorem VZ_wj {l : List S41} (h : VZ l) (j : Nat) (hj : j < l.length) : -1000000 ≤ l[j].f1 ∧ l[j].f1 ≤ 1000000 := VZ_w h _ (List.getElem_mem hj)
theorem spec_Negate_ev (l : List S41) (hs : Sm l) : Ev (fun k => spec_Negate.f k l) (if vz l then ng l else []) := by
  unfold spec_Negate.f
  refine Ev.bind (spec_validZSet_ev l hs) ?_
  by_cases h : vz l = true
  · refine ev_if h (Ev.bind (a := ng l) ?_ (ev_of (by rw [if_pos h])))
    unfold spec_negate.f
    exact Ev.bind (spec_copyZSet_ev l hs) (spec_negate_l l.length hs.1 l.length 0 l (by omega) rfl (fun j hj _ => VZ_wj ((vz_iff l).1 h) j hj))
  · exact ev_else h (ev_of (by rw [if_neg h]))
theorem impl_negate_l (n : Nat) (hn : n ≤ 1048576) (d : Nat) : ∀ (i : Nat) (xs : List S41), i + d = n → xs.length = n → (∀ j (hj : j < xs.length), i ≤ j → -1000000 ≤ xs[j].f1 ∧ xs[j].f1 ≤ 1000000) → Ev (fun k => impl_Negate.l0 k xs (n : Int) (i : Int)) (xs.take i ++ ng (xs.drop i)) := by
  induction d with
  | zero =>
    intro i xs hi hx hb
    refine Ev.step (fun k => by rw [impl_Negate.l0]) ?_
    exact ev_else (by omega) (ev_of (by rw [drop_end xs i (by omega), List.take_of_length_le (by omega)]; simp [ng]))
  | succ d ih =>
    intro i xs hi hx hb
    have hlt : i < xs.length := by omega
    have h1 := hb i hlt (Nat.le_refl _)
    refine Ev.step (fun k => by rw [impl_Negate.l0]) ?_
    rw [rdE_cast, gE_at xs i hlt]
    refine ev_if (by omega) (ev_if (by omega) (ev_if (by omega) ?_))
    rw [w64s (i := i) (n := n) (by omega) (by omega), w64 (n := -xs[i].f1) (by omega) (by omega), Int.toNat_natCast]
    refine ev_to (ih (i + 1) (xs.set i ⟨xs[i].f0, -xs[i].f1⟩) (by omega) (by rw [List.length_set]; exact hx) (fun j hj hij => ?_)) (ng_set xs i hlt _ rfl)
    rw [List.length_set] at hj
    rw [List.getElem_set_ne (by omega)]
    exact hb j hj (by omega)
theorem impl_Negate_ev (l : List S41) (hs : Sm l) : Ev (fun k => impl_Negate.f k l) (if vz l then ng l else []) := by
  unfold impl_Negate.f
  refine Ev.bind (impl_ValidZSet_ev l hs) ?_
  by_cases h : vz l = true
  · refine ev_if h ?_
    rw [if_pos h]
    exact Ev.bind (impl_copyZ_ev l hs) (impl_negate_l l.length hs.1 l.length 0 l (by omega) rfl (fun j hj _ => VZ_wj ((vz_iff l).1 h) j hj))
  · exact ev_else h (ev_of (by rw [if_neg h]))
theorem Sm_if {r : List S41} (b : Bool) (h : Sm r) : Sm (if b then r else []) := by
  cases b
  · exact ⟨by show 0 ≤ _; omega, fun e he => by cases he⟩
  · exact h
theorem FnExactNegate : FnExactNegate_pure := by
  intro l0 hl _ hg
  refine Ev.rounds (g := fun k => laws_FnExactNegate.f k l0) ?_
  unfold laws_FnExactNegate.f
  obtain ⟨r, er, hr⟩ := szEntryS_ev l0 1048576 (by omega) (by omega) hl (fun e he => (hg e he).1.1)
  refine Ev.bind er ?_
  rcases hr with hr | ⟨h0, _, hs⟩
  · exact ev_if hr (ev_of rfl)
  · refine ev_else (by omega) ?_
    have hd := Sm_if (vz (l0.map cvE)) (ng_Sm hs)
    have hx := mkN_ge (l0.map cvE) 1
    have hy := mkN_ge (if vz (l0.map cvE) then ng (l0.map cvE) else []) 1
    refine Ev.bind (toEntryS_ev l0 hs) (Ev.bind (spec_Negate_ev _ hs) ?_)
    refine Ev.bind (toEntryS_ev l0 hs) (Ev.bind (impl_Negate_ev _ hs) ?_)
    refine Ev.bind (eqEntryS_ev _ hd) (ev_if rfl ?_)
    refine Ev.bind (toEntryS_ev l0 hs) (Ev.bind (eqEntryS_ev _ hs) (ev_if rfl ?_))
    refine Ev.bind (markEntryS_ev _ hs 1 (by omega) (by omega)) ?_
    refine Ev.bind (eqEntryS_ev _ hd) (ev_if rfl (ev_else (by show ¬ (mkN _ 1 < 0); omega) ?_))
    refine Ev.bind (markEntryS_ev _ hd 1 (by omega) (by omega)) ?_
    refine Ev.bind (heldEntryS_ev _ hd 1 (by omega) (by omega)) ?_
    refine ev_else (by omega) (ev_else (by simp) ?_)
    refine Ev.bind (toEntryS_ev l0 hs) (Ev.bind (impl_Negate_ev _ hs) ?_)
    refine Ev.bind (eqEntryS_ev _ hd) (ev_if rfl ?_)
    refine Ev.bind (heldEntryS_ev _ hd 1 (by omega) (by omega)) ?_
    exact ev_else (by omega) (ev_else (by simp) (ev_of rfl))
end Go.Proofs.Ythmolcmgfhjegaa.Pure
