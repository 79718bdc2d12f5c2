/- Plain facts on valid lists of entries. Own work. No condition. -/
import Derived.Test.YtkbgdjpdmhnniaaPq
namespace Go.Vc
set_option linter.unusedVariables false
theorem srt_of_step {L : List ED'} (h : ∀ i (hi : i < L.length), 0 < i → cmpR (L[i - 1]'(by omega)).1 L[i].1 < 0) : srt L := by
  unfold srt
  rw [List.pairwise_iff_getElem]
  have key : ∀ n i (hi : i < L.length) (hj : i + n + 1 < L.length), cmpR L[i].1 L[i + n + 1].1 < 0 := by
    intro n
    induction n with
    | zero =>
      intro i hi hj
      have := h (i + 1) hj (by omega)
      simpa using this
    | succ n ih =>
      intro i hi hj
      have h1 := ih i hi (by omega)
      have h2 := h (i + (n + 1) + 1) hj (by omega)
      have e : i + (n + 1) + 1 - 1 = i + n + 1 := by omega
      simp only [e] at h2
      exact cmpR_trans h1 h2
  intro i j hi hj hij
  obtain ⟨n, rfl⟩ : ∃ n, j = i + n + 1 := ⟨j - i - 1, by omega⟩
  exact key n i hi hj
theorem vZ_iff {L : List ED'} : vZ L ↔ L.length ≤ 400 ∧ (∀ e ∈ L, vRow e.1 ∧ e.2 ≠ 0 ∧ -1000000 ≤ e.2 ∧ e.2 ≤ 1000000) ∧ (∀ e ∈ L, ∀ f ∈ L, e.1.length = f.1.length) ∧ srt L := by
  constructor
  · rintro ⟨h1, h2⟩
    refine ⟨h1, fun e he => ?_, fun e he f hf => ?_, srt_of_step fun i hi h0 => ?_⟩
    · obtain ⟨i, hi, rfl⟩ := List.getElem_of_mem he
      have := h2 i hi; unfold zOK at this
      exact ⟨this.1, this.2.2.1, this.2.2.2.1⟩
    · obtain ⟨i, hi, rfl⟩ := List.getElem_of_mem he
      obtain ⟨j, hj, rfl⟩ := List.getElem_of_mem hf
      have a := h2 i hi; have b := h2 j hj
      unfold zOK at a b
      rw [a.2.1, b.2.1]
    · have := h2 i hi; unfold zOK at this
      exact this.2.2.2.2 h0
  · rintro ⟨h1, h2, h3, h4⟩
    refine ⟨h1, fun i hi => ?_⟩
    have a := h2 _ (List.getElem_mem hi)
    refine ⟨a.1, h3 _ (List.getElem_mem hi) _ (List.getElem_mem (by omega)), a.2.1, a.2.2, fun h0 => ?_⟩
    unfold srt at h4
    exact List.pairwise_iff_getElem.1 h4 (i - 1) i (by omega) hi (by omega)
theorem wOf_zero {xs : List Int} : ∀ {L : List ED'}, xs ∉ rows L → wOf L xs = 0
  | [], _ => rfl
  | e :: L, h => by
    simp only [rows, List.map_cons, List.mem_cons, not_or] at h
    simp only [wOf]
    rw [if_neg (fun q => h.1 q.symm)]
    exact wOf_zero h.2
theorem wOf_mem : ∀ {L : List ED'}, srt L → ∀ e ∈ L, wOf L e.1 = e.2
  | [], _, e, he => by cases he
  | x :: L, h, e, he => by
    simp only [wOf]
    rcases List.mem_cons.1 he with rfl | he
    · rw [if_pos rfl]
    · have hn := srt_notin h
      rw [if_neg (fun q => hn (by rw [q]; exact List.mem_map_of_mem he))]
      exact wOf_mem (List.Pairwise.of_cons h) e he
end Go.Vc
