/- Plain facts: sorted lists of entries, sums of weights. Own work. No condition. -/
import Derived.Test.YtkbgdjpdmhnniaaPm
namespace Go.Vc
abbrev ED' := List Int × Int
def srt (L : List ED') : Prop := L.Pairwise fun a b => cmpR a.1 b.1 < 0
def insE (xs : List Int) (w : Int) : List ED' → List ED'
  | [] => [(xs, w)]
  | e :: r => if cmpR e.1 xs < 0 then e :: insE xs w r else if e.1 = xs then (e.1, e.2 + w) :: r else (xs, w) :: e :: r
def normS (L : List ED') : List ED' := L.foldl (fun acc e => insE e.1 e.2 acc) []
def nz (L : List ED') : List ED' := L.filter fun e => decide (e.2 ≠ 0)
def chk (L : List ED') : List ED' := if vZ L then L else []
def wsum : List ED' → List Int → Int
  | [], _ => 0
  | e :: r, xs => (if e.1 = xs then e.2 else 0) + wsum r xs
def rows (L : List ED') : List (List Int) := L.map (·.1)
theorem wsum_append : ∀ (a b : List ED') (xs : List Int), wsum (a ++ b) xs = wsum a xs + wsum b xs
  | [], b, xs => by simp [wsum]
  | e :: a, b, xs => by simp only [List.cons_append, wsum, wsum_append a b xs]; omega
theorem wsum_zero : ∀ (L : List ED') (xs : List Int), xs ∉ rows L → wsum L xs = 0
  | [], _, _ => rfl
  | e :: r, xs, h => by
    simp only [rows, List.map_cons, List.mem_cons, not_or] at h
    simp only [wsum]
    rw [if_neg (fun hh => h.1 hh.symm), wsum_zero r xs h.2]
    rfl
theorem srt_notin {e : ED'} {r : List ED'} (h : srt (e :: r)) : e.1 ∉ rows r := by
  intro hm
  obtain ⟨q, hq, he⟩ := List.mem_map.1 hm
  have := (List.pairwise_cons.1 h).1 q hq
  rw [he, cmpR_self] at this
  omega
/-- A sorted list is known by its rows and their weights. -/
theorem canon : ∀ {a b : List ED'}, srt a → srt b → (∀ xs, xs ∈ rows a ↔ xs ∈ rows b) → (∀ xs, wsum a xs = wsum b xs) → a = b
  | [], [], _, _, _, _ => rfl
  | [], e :: r, _, _, h, _ => by have := (h e.1).2 (by simp [rows]); simp [rows] at this
  | e :: r, [], _, _, h, _ => by have := (h e.1).1 (by simp [rows]); simp [rows] at this
  | e :: r, f :: s, ha, hb, h, hw => by
    have ha' := List.pairwise_cons.1 ha
    have hb' := List.pairwise_cons.1 hb
    have hef : e.1 = f.1 := by
      have h1 := (h e.1).1 (by simp [rows])
      have h2 := (h f.1).2 (by simp [rows])
      simp only [rows, List.map_cons, List.mem_cons] at h1 h2
      rcases h1 with h1 | h1
      · exact h1
      · rcases h2 with h2 | h2
        · exact h2.symm
        · obtain ⟨q, hq, he⟩ := List.mem_map.1 h1
          obtain ⟨p, hp, hf⟩ := List.mem_map.1 h2
          have c1 := ha'.1 p hp
          have c2 := hb'.1 q hq
          rw [hf] at c1
          rw [he] at c2
          have c3 := cmpR_trans c1 c2
          rw [cmpR_self] at c3
          omega
    have hrs : r = s := by
      refine canon ha'.2 hb'.2 (fun xs => ?_) (fun xs => ?_)
      · have := h xs
        simp only [rows, List.map_cons, List.mem_cons] at this
        constructor
        · intro hx
          rcases this.1 (.inr hx) with h1 | h1
          · exact absurd (by rw [h1, ← hef] at hx; exact hx) (srt_notin ha)
          · exact h1
        · intro hx
          rcases this.2 (.inr hx) with h1 | h1
          · exact absurd (by rw [h1, hef] at hx; exact hx) (srt_notin hb)
          · exact h1
      · have := hw xs
        simp only [wsum] at this
        by_cases hx : e.1 = xs
        · subst hx
          rw [wsum_zero r _ (srt_notin ha), hef, wsum_zero s _ (srt_notin hb)]
        · rw [if_neg hx, if_neg (by rw [← hef]; exact hx)] at this
          omega
    subst hrs
    have := hw e.1
    simp only [wsum, if_pos rfl, hef] at this
    have he2 : e.2 = f.2 := by
      simp only [if_true] at this
      omega
    rw [show e = f from Prod.ext hef he2]
theorem rows_insE (xs : List Int) (w : Int) : ∀ (L : List ED') (ys : List Int), ys ∈ rows (insE xs w L) ↔ ys = xs ∨ ys ∈ rows L
  | [], ys => by simp [insE, rows]
  | e :: r, ys => by
    have ih := rows_insE xs w r ys
    unfold insE
    split
    · simp only [rows, List.map_cons, List.mem_cons] at ih ⊢
      rw [ih]
      constructor
      · rintro (h | h | h)
        · exact .inr (.inl h)
        · exact .inl h
        · exact .inr (.inr h)
      · rintro (h | h | h)
        · exact .inr (.inl h)
        · exact .inl h
        · exact .inr (.inr h)
    · split
      · rename_i h1 h2
        simp only [rows, List.map_cons, List.mem_cons]
        rw [h2]
        constructor
        · intro h; exact .inr h
        · rintro (h | h)
          · exact .inl h
          · exact h
      · simp [rows]
theorem wsum_insE (xs : List Int) (w : Int) : ∀ (L : List ED') (ys : List Int), wsum (insE xs w L) ys = wsum L ys + (if xs = ys then w else 0)
  | [], ys => by simp [insE, wsum]
  | e :: r, ys => by
    unfold insE
    split
    · simp only [wsum, wsum_insE xs w r ys]; omega
    · split
      · rename_i h1 h2
        simp only [wsum, h2]
        split <;> omega
      · simp only [wsum]; omega
theorem srt_insE (xs : List Int) (w : Int) : ∀ {L : List ED'}, srt L → srt (insE xs w L)
  | [], _ => by simp [insE, srt]
  | e :: r, h => by
    have h' := List.pairwise_cons.1 h
    unfold insE
    split
    · rename_i h1
      refine List.pairwise_cons.2 ⟨fun q hq => ?_, srt_insE xs w h'.2⟩
      have : q.1 ∈ rows (insE xs w r) := List.mem_map.2 ⟨q, hq, rfl⟩
      rcases (rows_insE xs w r q.1).1 this with h2 | h2
      · rw [h2]; exact h1
      · obtain ⟨p, hp, hpq⟩ := List.mem_map.1 h2
        rw [← hpq]; exact h'.1 p hp
    · split
      · exact List.pairwise_cons.2 ⟨fun q hq => h'.1 q hq, h'.2⟩
      · rename_i h1 h2
        have h3 : cmpR xs e.1 < 0 := by
          have := cmpR_swap e.1 xs
          have h4 : cmpR e.1 xs ≠ 0 := fun h => h2 (cmpR_eq h)
          omega
        refine List.pairwise_cons.2 ⟨fun q hq => ?_, h⟩
        rcases List.mem_cons.1 hq with rfl | hq
        · exact h3
        · exact cmpR_trans h3 (h'.1 q hq)
theorem insE_split (xs : List Int) (w : Int) : ∀ (L : List ED') (lo : Nat), lo ≤ L.length → (∀ j (h : j < L.length), j < lo → cmpR L[j].1 xs < 0) → (∀ h : lo < L.length, ¬ cmpR L[lo].1 xs < 0) →
    insE xs w L = L.take lo ++ (if h : lo < L.length then (if L[lo].1 = xs then (L[lo].1, L[lo].2 + w) :: L.drop (lo + 1) else (xs, w) :: L.drop lo) else [(xs, w)])
  | [], lo, h, _, _ => by
    simp at h; subst h; simp [insE]
  | e :: r, 0, _, _, h2 => by
    have := h2 (by simp)
    simp only [List.getElem_cons_zero] at this
    simp only [insE, if_neg this]
    simp
  | e :: r, lo + 1, h, h1, h2 => by
    have h0 := h1 0 (by simp) (by omega)
    simp only [List.getElem_cons_zero] at h0
    rw [insE, if_pos h0]
    rw [insE_split xs w r lo (by simpa using h) (fun j hj hl => h1 (j + 1) (by simpa using hj) (by omega)) (fun hl => h2 (by simpa using hl))]
    simp
theorem insE_bound {xs : List Int} {w B C : Int} : ∀ {L : List ED'}, (∀ e ∈ L, -B ≤ e.2 ∧ e.2 ≤ B) → (-C ≤ w ∧ w ≤ C) → 0 ≤ B → 0 ≤ C → ∀ e ∈ insE xs w L, -(B + C) ≤ e.2 ∧ e.2 ≤ B + C
  | [], _, hw, hB, hC, e, he => by
    simp [insE] at he; subst he; simp only; omega
  | f :: r, h, hw, hB, hC, e, he => by
    unfold insE at he
    split at he
    · rcases List.mem_cons.1 he with rfl | he
      · have := h e (by simp); omega
      · exact insE_bound (fun e he => h e (by simp [he])) hw hB hC e he
    · split at he
      · rcases List.mem_cons.1 he with rfl | he
        · have := h f (by simp); simp only; omega
        · have := h e (by simp [he]); omega
      · rcases List.mem_cons.1 he with rfl | he
        · simp only; omega
        · have := h e he; omega
theorem insE_length (xs : List Int) (w : Int) : ∀ (L : List ED'), (insE xs w L).length ≤ L.length + 1
  | [] => by simp [insE]
  | e :: r => by
    have := insE_length xs w r
    unfold insE
    split
    · simp; omega
    · split <;> simp
theorem normS_snoc (L : List ED') (e : ED') : normS (L ++ [e]) = insE e.1 e.2 (normS L) := by simp [normS]
/-- What normS is. -/
theorem normS_spec (L : List ED') : srt (normS L) ∧ (∀ xs, xs ∈ rows (normS L) ↔ xs ∈ rows L) ∧ (∀ xs, wsum (normS L) xs = wsum L xs) := by
  have key : ∀ (L acc : List ED'), srt acc → srt (L.foldl (fun acc e => insE e.1 e.2 acc) acc) ∧ (∀ xs, xs ∈ rows (L.foldl (fun acc e => insE e.1 e.2 acc) acc) ↔ xs ∈ rows acc ∨ xs ∈ rows L) ∧ (∀ xs, wsum (L.foldl (fun acc e => insE e.1 e.2 acc) acc) xs = wsum acc xs + wsum L xs) := by
    intro L
    induction L with
    | nil => intro acc h; exact ⟨h, fun xs => by simp [rows], fun xs => by simp [wsum]⟩
    | cons e r ih =>
      intro acc h
      obtain ⟨h1, h2, h3⟩ := ih (insE e.1 e.2 acc) (srt_insE e.1 e.2 h)
      refine ⟨h1, fun xs => ?_, fun xs => ?_⟩
      · rw [List.foldl_cons, h2, rows_insE]
        simp only [rows, List.map_cons, List.mem_cons]
        constructor
        · rintro ((h | h) | h)
          · exact .inr (.inl h)
          · exact .inl h
          · exact .inr (.inr h)
        · rintro (h | h | h)
          · exact .inl (.inr h)
          · exact .inl (.inl h)
          · exact .inr h
      · rw [List.foldl_cons, h3, wsum_insE]
        simp only [wsum]
        omega
  obtain ⟨h1, h2, h3⟩ := key L [] (by simp [srt])
  exact ⟨h1, fun xs => by rw [normS, h2]; simp [rows], fun xs => by rw [normS, h3]; simp [wsum]⟩
theorem normS_bound {B : Int} (hB : 0 ≤ B) : ∀ (L : List ED'), (∀ e ∈ L, -B ≤ e.2 ∧ e.2 ≤ B) → ∀ n, ∀ e ∈ normS (L.take n), -(B * n) ≤ e.2 ∧ e.2 ≤ B * n := by
  intro L h n
  induction n with
  | zero => intro e he; simp [normS] at he
  | succ n ih =>
    intro e he
    by_cases hn : n < L.length
    · rw [List.take_succ_eq_append_getElem hn, normS_snoc] at he
      have hBn : 0 ≤ B * (n : Int) := Int.mul_nonneg hB (by omega)
      have := insE_bound ih (h _ (List.getElem_mem hn)) hBn hB e he
      push_cast
      rw [Int.mul_add, Int.mul_one]
      exact this
    · rw [List.take_of_length_le (by omega)] at he ih
      have := ih e he
      have hle : B * (n : Int) ≤ B * ((n + 1 : Nat) : Int) := by push_cast; rw [Int.mul_add]; omega
      omega
theorem normS_length (L : List ED') : (normS L).length ≤ L.length := by
  have key : ∀ n, (normS (L.take n)).length ≤ n := by
    intro n
    induction n with
    | zero => simp [normS]
    | succ n ih =>
      by_cases hn : n < L.length
      · rw [List.take_succ_eq_append_getElem hn, normS_snoc]
        have := insE_length L[n].1 L[n].2 (normS (L.take n))
        omega
      · rw [List.take_of_length_le (by omega)] at ih ⊢
        omega
  have := key L.length
  rwa [List.take_length] at this
end Go.Vc
