/- Go functions on rows of numbers: what each comes to. Own work. No condition. -/
import Derived.Test.YtkbgdjpdmhnniaaPbA
import Derived.Test.YtkbgdjpdmhnniaaVcU
import Derived.Test.YtkbgdjpdmhnniaaPm
namespace Go.Proofs.Ytkbgdjpdmhnniaa
open Go Go.Vc Go.Proofs
set_option linter.unusedVariables false
theorem pok : POk Try.prog := by
  refine ⟨?_, by kernel_rfl⟩
  have h : Try.prog.funcs.all (fun fn => !(fn.name == "runtime.NumGoroutine")) = true := by kernel_rfl
  intro f fn hf
  have := Array.all_eq_true'.1 h fn (Array.mem_of_getElem? hf)
  simpa using this
variable {m : Mem} {A B : Option Addr} {xs ys : List Int} {c c' : Nat}
/-- inRange -/
theorem t148 (a b d : Int) : Tr Try.prog 148 #[.int .i64 a, .int .i64 b, .int .i64 d] m fun v m' => m' = m ∧ v = .bool (decide (b ≤ a ∧ a ≤ d)) := by
  refine tr_of pok Try.func148 k148 (args := [_, _, _]) rfl ?_
  refine IteB.of (fun h => ?_) (fun h => ?_)
  · refine ⟨rfl, ?_⟩; congr 1; simp [h]
  · refine ⟨rfl, ?_⟩; rw [decide_eq_false (by omega)]
/-- validRow -/
theorem t147 (hx : IsRow m A xs) (hl : xs.length < 2 ^ 62) : Tr Try.prog 147 #[.slice A xs.length c] m fun v m' => m' = m ∧ v = .bool (decide (vRow xs)) := by
  refine tr_of pok Try.func147 k147 (args := [_]) rfl ?_
  refine Lp.of (fun i : Nat => [(0, .v (.slice A xs.length c)), (3, .v (.int .i64 (i : Int)))]) (fun _ => []) (fun i m' => m' = m ∧ i ≤ xs.length ∧ ∀ j (hj : j < i) (h : j < xs.length), -9999 ≤ xs[j] ∧ xs[j] ≤ 9999) (fun i => xs.length - i) 0 ⟨rfl, by omega, fun j hj => by omega⟩ ?_
  rintro i m' ⟨rfl, hi, ht⟩
  refine IteB.of (fun h1 => ?_) (fun h1 => ?_)
  · have hi' : i < xs.length := by omega
    obtain ⟨a, ha, hca⟩ := hx.at i hi'
    refine Ix.at ha hi' (Ld.of (by simpa using hca) ((t148 _ _ _).mono ?_))
    rintro v m' ⟨rfl, rfl⟩
    refine IteB.not (IteB.of (fun h2 => ?_) (fun h2 => ?_))
    · refine Wr.ok (by omega) ⟨i + 1, ⟨rfl, rfl, trivial⟩, trivial, ⟨rfl, by omega, fun j hj h => ?_⟩, by omega⟩
      by_cases hji : j = i
      · subst hji; exact h2
      · exact ht j (by omega) h
    · refine ⟨rfl, ?_⟩
      rw [decide_eq_false (fun hv => h2 (hv.1 _ (List.getElem_mem _)))]
  · refine (t148 _ _ _).mono ?_
    rintro v m' ⟨rfl, rfl⟩
    refine ⟨rfl, ?_⟩
    have : ∀ x ∈ xs, -9999 ≤ x ∧ x ≤ 9999 := fun x hx => by
      obtain ⟨j, hj, rfl⟩ := List.getElem_of_mem hx
      exact ht j (by omega) hj
    refine b_iff ⟨fun h => ⟨this, by omega, by omega⟩, fun h => ?_⟩
    have := h.2
    omega
/-- ValidRow -/
theorem t120 (hx : IsRow m A xs) (hl : xs.length < 2 ^ 62) : Tr Try.prog 120 #[.slice A xs.length c] m fun v m' => m' = m ∧ v = .bool (decide (vRow xs)) := by
  refine tr_of pok Try.func120 k120 (args := [_]) rfl ?_
  refine Lp.of (fun i : Nat => [(0, .v (.slice A xs.length c)), (5, .v (.slice A xs.length c)), (6, .v (.int .i64 xs.length)), (7, .v (.int .i64 (i : Int)))]) (fun _ => []) (fun i m' => m' = m ∧ i ≤ xs.length ∧ ∀ j (hj : j < i) (h : j < xs.length), -9999 ≤ xs[j] ∧ xs[j] ≤ 9999) (fun i => xs.length - i) 0 ⟨rfl, by omega, fun j hj => by omega⟩ ?_
  rintro i m' ⟨rfl, hi, ht⟩
  refine IteB.of (fun h1 => ?_) (fun h1 => ?_)
  · have hi' : i < xs.length := by omega
    obtain ⟨a, ha, hca⟩ := hx.at i hi'
    refine Ix.at ha hi' (Ld.of (by simpa using hca) ?_)
    refine IteB.of (fun h2 => ⟨rfl, ?_⟩) (fun h2 => IteB.of (fun h3 => ⟨rfl, ?_⟩) (fun h3 => ?_))
    · rw [decide_eq_false (fun hv => by have := hv.1 _ (List.getElem_mem hi'); omega)]
    · rw [decide_eq_false (fun hv => by have := hv.1 _ (List.getElem_mem hi'); omega)]
    · refine Wr.ok (by omega) ⟨i + 1, ⟨rfl, rfl, rfl, rfl, trivial⟩, trivial, ⟨rfl, by omega, fun j hj h => ?_⟩, by omega⟩
      by_cases hji : j = i
      · subst hji; omega
      · exact ht j (by omega) h
  · have hall : ∀ x ∈ xs, -9999 ≤ x ∧ x ≤ 9999 := fun x hx => by
      obtain ⟨j, hj, rfl⟩ := List.getElem_of_mem hx
      exact ht j (by omega) hj
    refine IteB.of (fun h2 => ⟨rfl, ?_⟩) (fun h2 => ⟨rfl, ?_⟩)
    · refine b_iff ⟨fun h => ⟨hall, by omega, by omega⟩, fun h => ?_⟩
      have := h.2
      omega
    · rw [decide_eq_false (fun hv => by have := hv.2; omega)]
/-- rowLess -/
theorem t187 (hx : IsRow m A xs) (hy : IsRow m B ys) (hl : xs.length < 2 ^ 62) : Tr Try.prog 187 #[.slice A xs.length c, .slice B ys.length c'] m fun v m' => m' = m ∧ v = .bool (decide (cmpR xs ys < 0)) := by
  refine tr_of pok Try.func187 k187 (args := [_, _]) rfl ?_
  refine Lp.of (fun i : Nat => [(0, .v (.slice A xs.length c)), (1, .v (.slice B ys.length c')), (5, .v (.int .i64 (i : Int)))]) (fun _ => []) (fun i m' => m' = m ∧ i ≤ xs.length ∧ i ≤ ys.length ∧ cmpR xs ys = cmpR (xs.drop i) (ys.drop i)) (fun i => xs.length - i) 0 ⟨rfl, by omega, by omega, rfl⟩ ?_
  rintro i m' ⟨rfl, hi, hj, ht⟩
  refine IteB.of (fun h1 => ?_) (fun h1 => ?_)
  · refine IteB.of (fun h2 => ?_) (fun h2 => ?_)
    · have hi' : i < xs.length := by omega
      have hj' : i < ys.length := by omega
      have hs := cmpR_step hi' hj'
      obtain ⟨a, ha, hca⟩ := hx.at i hi'
      obtain ⟨b, hb, hcb⟩ := hy.at i hj'
      refine Ix.at ha hi' (Ld.of (by simpa using hca) ?_)
      refine Ix.at hb hj' (Ld.of (by simpa using hcb) ?_)
      refine IteB.of (fun h3 => ?_) (fun h3 => ?_)
      · refine Ix.at ha hi' (Ld.of (by simpa using hca) ?_)
        refine Ix.at hb hj' (Ld.of (by simpa using hcb) ?_)
        refine ⟨rfl, ?_⟩
        congr 1
        rw [ht, hs, decide_eq_decide]
        split
        · simp_all
        · rw [if_pos (by omega)]; simp_all
      · refine Wr.ok (by omega) ⟨i + 1, ⟨rfl, rfl, rfl, trivial⟩, trivial, ⟨rfl, by omega, by omega, ?_⟩, by omega⟩
        rw [ht, hs, if_neg (by omega), if_neg (by omega)]
    · refine ⟨rfl, ?_⟩
      have : i = ys.length := by omega
      subst this
      congr 1
      rw [ht, List.drop_length, cmpR_nil_right, decide_eq_decide]
      constructor
      · intro h; omega
      · intro h; split at h <;> omega
  · refine ⟨rfl, ?_⟩
    have : i = xs.length := by omega
    subst this
    congr 1
    rw [ht, List.drop_length, cmpR_nil_left, decide_eq_decide]
    constructor
    · intro h
      rw [if_neg]
      · omega
      · intro he
        have := congrArg List.length he
        simp at this; omega
    · intro h
      split at h
      · omega
      · rename_i hne
        have : 0 < (ys.drop xs.length).length := List.length_pos_iff.2 hne
        simp at this; omega
/-- isNaN, of numbers -/
theorem t231 (a : Int) : Tr Try.prog 231 #[.int .i64 a] m fun v m' => m' = m ∧ v = .bool false := by
  refine tr_of pok Try.func231 k231 (args := [_]) rfl ?_
  refine ⟨rfl, ?_⟩
  simp
def cmpI (a b : Int) : Int := if a < b then -1 else if b < a then 1 else 0
/-- cmp.Compare -/
theorem t215 (a b : Int) : Tr Try.prog 215 #[.int .i64 a, .int .i64 b] m fun v m' => m' = m ∧ v = .int .i64 (cmpI a b) := by
  refine tr_of pok Try.func215 k215 (args := [_, _]) rfl ?_
  refine (t231 _).mono ?_
  rintro v m' ⟨rfl, rfl⟩
  refine (t231 _).mono ?_
  rintro v m' ⟨rfl, rfl⟩
  unfold cmpI
  refine IteB.ff (IteB.ff ?_)
  refine IteB.of (fun h => ⟨rfl, by rw [if_pos h]⟩) (fun h => IteB.of (fun h2 => ⟨rfl, by rw [if_neg h, if_pos h2]⟩) (fun h2 => ⟨rfl, by rw [if_neg h, if_neg h2]⟩))
/-- slices.Compare -/
theorem t185 (hx : IsRow m A xs) (hy : IsRow m B ys) (hl : xs.length < 2 ^ 62) : Tr Try.prog 185 #[.slice A xs.length c, .slice B ys.length c'] m fun v m' => m' = m ∧ v = .int .i64 (cmpR xs ys) := by
  refine tr_of pok Try.func185 k185 (args := [_, _]) rfl ?_
  refine Lp.of (fun i : Nat => [(0, .v (.slice A xs.length c)), (1, .v (.slice B ys.length c')), (9, .v (.slice A xs.length c)), (10, .v (.int .i64 xs.length)), (11, .v (.int .i64 (i : Int)))]) (fun _ => []) (fun i m' => m' = m ∧ i ≤ xs.length ∧ i ≤ ys.length ∧ cmpR xs ys = cmpR (xs.drop i) (ys.drop i)) (fun i => xs.length - i) 0 ⟨rfl, by omega, by omega, rfl⟩ ?_
  rintro i m' ⟨rfl, hi, hj, ht⟩
  refine IteB.of (fun h1 => ?_) (fun h1 => ?_)
  · have hi' : i < xs.length := by omega
    obtain ⟨a, ha, hca⟩ := hx.at i hi'
    refine Ix.at ha hi' (Ld.of (by simpa using hca) ?_)
    refine IteB.of (fun h2 => ⟨rfl, ?_⟩) (fun h2 => ?_)
    · have : i = ys.length := by omega
      subst this
      rw [ht, List.drop_length, cmpR_nil_right, if_neg]
      intro he
      have := congrArg List.length he
      simp at this; omega
    · have hj' : i < ys.length := by omega
      have hs := cmpR_step hi' hj'
      obtain ⟨b, hb, hcb⟩ := hy.at i hj'
      refine Ix.at hb hj' (Ld.of (by simpa using hcb) ?_)
      refine (t215 _ _).mono ?_
      rintro v m' ⟨rfl, rfl⟩
      unfold cmpI
      refine IteB.of (fun h3 => ⟨rfl, ?_⟩) (fun h3 => ?_)
      · rw [ht, hs]
        congr 1
        split
        · rfl
        · split
          · rfl
          · simp_all
      · refine Wr.ok (by omega) ⟨i + 1, ⟨rfl, rfl, rfl, rfl, rfl, trivial⟩, trivial, ⟨rfl, by omega, by omega, ?_⟩, by omega⟩
        rw [ht, hs]
        by_cases h4 : xs[i] < ys[i]
        · simp [h4] at h3
        · by_cases h5 : ys[i] < xs[i]
          · simp [h4, h5] at h3
          · simp [h4, h5]
  · have : i = xs.length := by omega
    subst this
    rw [ht, List.drop_length, cmpR_nil_left]
    refine IteB.of (fun h2 => ⟨rfl, ?_⟩) (fun h2 => ⟨rfl, ?_⟩)
    · rw [if_neg]
      intro he
      have := congrArg List.length he
      simp at this; omega
    · rw [if_pos]
      apply List.eq_nil_of_length_eq_zero
      simp; omega
/-- RowLess -/
theorem t129 (hx : IsRow m A xs) (hy : IsRow m B ys) (hl : xs.length < 2 ^ 62) : Tr Try.prog 129 #[.slice A xs.length c, .slice B ys.length c'] m fun v m' => m' = m ∧ v = .bool (decide (cmpR xs ys < 0)) := by
  refine tr_of pok Try.func129 k129 (args := [_, _]) rfl ?_
  refine (t185 hx hy hl).mono ?_
  rintro v m' ⟨rfl, rfl⟩
  exact ⟨rfl, rfl⟩
theorem t60 (hx : IsRow m A xs) (hy : IsRow m B ys) (hl : xs.length < 2 ^ 62) : Tr Try.prog 60 #[.slice A xs.length c, .slice B ys.length c'] m fun v m' => m' = m ∧ v = .bool (decide (xs = ys)) := by
  refine tr_of pok Try.func60 k60 (args := [_, _]) rfl ?_
  refine IteB.of (fun h => ?_) (fun h => ?_)
  · refine ⟨rfl, ?_⟩
    rw [decide_eq_false (by intro he; subst he; exact h rfl)]
  · have hlen : xs.length = ys.length := by omega
    refine Lp.of (fun i : Nat => [(0, .v (.slice A xs.length c)), (1, .v (.slice B ys.length c')), (5, .v (.int .i64 (i : Int)))]) (fun _ => []) (fun i m' => m' = m ∧ i ≤ xs.length ∧ xs.take i = ys.take i) (fun i => xs.length - i) 0 ⟨rfl, by omega, rfl⟩ ?_
    rintro i m' ⟨rfl, hi, ht⟩
    refine IteB.of (fun h1 => ?_) (fun h1 => ?_)
    · have hi' : i < xs.length := by omega
      obtain ⟨a, ha, hca⟩ := hx.at i hi'
      obtain ⟨b, hb, hcb⟩ := hy.at i (by omega)
      refine Ix.at ha hi' (Ld.of (by simpa using hca) ?_)
      refine Ix.at hb (by omega) (Ld.of (by simpa using hcb) ?_)
      refine IteB.of (fun h2 => ?_) (fun h2 => ?_)
      · refine ⟨rfl, ?_⟩
        rw [decide_eq_false (by intro he; subst he; exact h2 rfl)]
      · refine Wr.ok (by omega) ?_
        refine ⟨i + 1, ⟨rfl, rfl, rfl, trivial⟩, trivial, ⟨rfl, by omega, ?_⟩, by omega⟩
        rw [List.take_succ_eq_append_getElem hi', List.take_succ_eq_append_getElem (by omega), ht]
        congr 2
        exact Decidable.not_not.1 h2
    · refine ⟨rfl, ?_⟩
      have hi' : i = xs.length := by omega
      subst hi'
      rw [List.take_length, hlen, List.take_length] at ht
      rw [decide_eq_true ht]
theorem t78 (hx : IsRow m A xs) (hy : IsRow m B ys) (hl : xs.length < 2 ^ 62) : Tr Try.prog 78 #[.slice A xs.length c, .slice B ys.length c'] m fun v m' => m' = m ∧ v = .bool (decide (xs = ys)) := by
  refine tr_of pok Try.func78 k78 (args := [_, _]) rfl ?_
  refine IteB.of (fun h => ?_) (fun h => ?_)
  · refine ⟨rfl, ?_⟩
    rw [decide_eq_false (by intro he; subst he; exact h rfl)]
  · have hlen : xs.length = ys.length := by omega
    refine Lp.of (fun i : Nat => [(0, .v (.slice A xs.length c)), (1, .v (.slice B ys.length c')), (5, .v (.int .i64 (i : Int)))]) (fun _ => []) (fun i m' => m' = m ∧ i ≤ xs.length ∧ xs.take i = ys.take i) (fun i => xs.length - i) 0 ⟨rfl, by omega, rfl⟩ ?_
    rintro i m' ⟨rfl, hi, ht⟩
    refine IteB.of (fun h1 => ?_) (fun h1 => ?_)
    · have hi' : i < xs.length := by omega
      obtain ⟨a, ha, hca⟩ := hx.at i hi'
      obtain ⟨b, hb, hcb⟩ := hy.at i (by omega)
      refine Ix.at ha hi' (Ld.of (by simpa using hca) ?_)
      refine Ix.at hb (by omega) (Ld.of (by simpa using hcb) ?_)
      refine IteB.of (fun h2 => ?_) (fun h2 => ?_)
      · refine ⟨rfl, ?_⟩
        rw [decide_eq_false (by intro he; subst he; exact h2 rfl)]
      · refine Wr.ok (by omega) ?_
        refine ⟨i + 1, ⟨rfl, rfl, rfl, trivial⟩, trivial, ⟨rfl, by omega, ?_⟩, by omega⟩
        rw [List.take_succ_eq_append_getElem hi', List.take_succ_eq_append_getElem (by omega), ht]
        congr 2
        exact Decidable.not_not.1 h2
    · refine ⟨rfl, ?_⟩
      have hi' : i = xs.length := by omega
      subst hi'
      rw [List.take_length, hlen, List.take_length] at ht
      rw [decide_eq_true ht]
theorem t214 (hx : IsRow m A xs) (hy : IsRow m B ys) (hl : xs.length < 2 ^ 62) : Tr Try.prog 214 #[.slice A xs.length c, .slice B ys.length c'] m fun v m' => m' = m ∧ v = .bool (decide (xs = ys)) := by
  refine tr_of pok Try.func214 k214 (args := [_, _]) rfl ?_
  refine IteB.of (fun h => ?_) (fun h => ?_)
  · refine ⟨rfl, ?_⟩
    rw [decide_eq_false (by intro he; subst he; exact h rfl)]
  · have hlen : xs.length = ys.length := by omega
    refine Lp.of (fun i : Nat => [(0, .v (.slice A xs.length c)), (1, .v (.slice B ys.length c')), (5, .v (.int .i64 (i : Int)))]) (fun _ => []) (fun i m' => m' = m ∧ i ≤ xs.length ∧ xs.take i = ys.take i) (fun i => xs.length - i) 0 ⟨rfl, by omega, rfl⟩ ?_
    rintro i m' ⟨rfl, hi, ht⟩
    refine IteB.of (fun h1 => ?_) (fun h1 => ?_)
    · have hi' : i < xs.length := by omega
      obtain ⟨a, ha, hca⟩ := hx.at i hi'
      obtain ⟨b, hb, hcb⟩ := hy.at i (by omega)
      refine Ix.at ha hi' (Ld.of (by simpa using hca) ?_)
      refine Ix.at hb (by omega) (Ld.of (by simpa using hcb) ?_)
      refine IteB.of (fun h2 => ?_) (fun h2 => ?_)
      · refine ⟨rfl, ?_⟩
        rw [decide_eq_false (by intro he; subst he; exact h2 rfl)]
      · refine Wr.ok (by omega) ?_
        refine ⟨i + 1, ⟨rfl, rfl, rfl, trivial⟩, trivial, ⟨rfl, by omega, ?_⟩, by omega⟩
        rw [List.take_succ_eq_append_getElem hi', List.take_succ_eq_append_getElem (by omega), ht]
        congr 2
        exact Decidable.not_not.1 h2
    · refine ⟨rfl, ?_⟩
      have hi' : i = xs.length := by omega
      subst hi'
      rw [List.take_length, hlen, List.take_length] at ht
      rw [decide_eq_true ht]
/-- slices.Equal -/
theorem t132 (hx : IsRow m A xs) (hy : IsRow m B ys) (hl : xs.length < 2 ^ 62) : Tr Try.prog 132 #[.slice A xs.length c, .slice B ys.length c'] m fun v m' => m' = m ∧ v = .bool (decide (xs = ys)) := by
  refine tr_of pok Try.func132 k132 (args := [_, _]) rfl ?_
  refine IteB.of (fun h => ?_) (fun h => ?_)
  · refine ⟨rfl, ?_⟩
    rw [decide_eq_false (by intro he; subst he; exact h rfl)]
  · have hlen : xs.length = ys.length := by omega
    refine Lp.of (fun i : Nat => [(0, .v (.slice A xs.length c)), (1, .v (.slice B ys.length c')), (12, .v (.int .i64 xs.length)), (13, .v (.int .i64 (i : Int)))]) (fun _ => []) (fun i m' => m' = m ∧ i ≤ xs.length ∧ xs.take i = ys.take i) (fun i => xs.length - i) 0 ⟨rfl, by omega, rfl⟩ ?_
    rintro i m' ⟨rfl, hi, ht⟩
    refine IteB.of (fun h1 => ?_) (fun h1 => ?_)
    · have hi' : i < xs.length := by omega
      obtain ⟨a, ha, hca⟩ := hx.at i hi'
      obtain ⟨b, hb, hcb⟩ := hy.at i (by omega)
      refine Ix.at ha hi' (Ld.of (by simpa using hca) ?_)
      refine Ix.at hb (by omega) (Ld.of (by simpa using hcb) ?_)
      refine IteB.of (fun h2 => ?_) (fun h2 => ?_)
      · refine ⟨rfl, ?_⟩
        rw [decide_eq_false (by intro he; subst he; exact h2 rfl)]
      · refine Wr.ok (by omega) ?_
        refine ⟨i + 1, ⟨rfl, rfl, rfl, rfl, trivial⟩, trivial, ⟨rfl, by omega, ?_⟩, by omega⟩
        rw [List.take_succ_eq_append_getElem hi', List.take_succ_eq_append_getElem (by omega), ht]
        congr 2
        exact Decidable.not_not.1 h2
    · refine ⟨rfl, ?_⟩
      have hi' : i = xs.length := by omega
      subst hi'
      rw [List.take_length, hlen, List.take_length] at ht
      rw [decide_eq_true ht]
end Go.Proofs.Ytkbgdjpdmhnniaa
