/- The law FnDistinct: it answers true. Own work. No condition. -/
import Derived.Test.YtkbgdjpdmhnniaaLbA
import Derived.Test.YtkbgdjpdmhnniaaPr
import Derived.Test.YtkbgdjpdmhnniaaPv
namespace Go.Proofs.Ytkbgdjpdmhnniaa
open Go Go.Vc Go.Proofs
set_option linter.unusedVariables false
variable {m : Mem} {A B : Option Addr} {L : List ED} {c : Nat}
theorem distE_mem {L : List ED} {e : ED} : e ∈ distE L ↔ ∃ f ∈ L, 0 < f.2 ∧ e = (f.1, 1) := by
  simp only [distE, List.mem_map, List.mem_filter, decide_eq_true_eq]
  constructor
  · rintro ⟨f, ⟨h1, h2⟩, rfl⟩; exact ⟨f, h1, h2, rfl⟩
  · rintro ⟨f, h1, h2, rfl⟩; exact ⟨f, ⟨h1, h2⟩, rfl⟩
theorem distE_le (L : List ED) : (distE L).length ≤ L.length := by
  unfold distE; rw [List.length_map]; exact List.length_filter_le _ _
theorem srt_distE {L : List ED} (h : srt L) : srt (distE L) := by
  unfold srt distE
  rw [List.pairwise_map]
  exact List.Pairwise.filter _ h
theorem vZ_distE {L : List ED} (h : vZ L) : vZ (distE L) := by
  rw [vZ_iff] at *
  refine ⟨Nat.le_trans (distE_le L) h.1, fun e he => ?_, fun e he f hf => ?_, srt_distE h.2.2.2⟩
  · obtain ⟨f, h1, h2, rfl⟩ := distE_mem.1 he
    exact ⟨(h.2.1 f h1).1, by simp only; omega, by simp only; omega, by simp only; omega⟩
  · obtain ⟨x, h1, h2, rfl⟩ := distE_mem.1 he
    obtain ⟨y, h3, h4, rfl⟩ := distE_mem.1 hf
    exact h.2.2.1 x h1 y h3
theorem distE_one {L : List ED} (h : ∀ e ∈ L, e.2 = 1) : distE L = L := by
  induction L with
  | nil => rfl
  | cons e L ih =>
    have he := h e (by simp)
    have := ih (fun x hx => h x (by simp [hx]))
    unfold distE at *
    rw [List.filter_cons, if_pos (by simp [he]), List.map_cons, this, ← he]
theorem distE_ones (L : List ED) : ∀ e ∈ distE L, e.2 = 1 := fun e he => by obtain ⟨f, _, _, rfl⟩ := distE_mem.1 he; rfl
theorem totE_ones : ∀ {L : List ED}, (∀ e ∈ L, e.2 = 1) → totE L = L.length
  | [], _ => rfl
  | e :: L, h => by
    have := totE_ones (L := L) (fun x hx => h x (by simp [hx]))
    have he := h e (by simp)
    simp only [totE, List.length_cons, this, he]; omega
theorem wOf_distE {L : List ED} (h : srt L) {e : ED} (he : e ∈ L) : wOf (distE L) e.1 = 1 ↔ 0 < e.2 := by
  constructor
  · intro hw
    by_cases hm : e.1 ∈ rows (distE L)
    · obtain ⟨x, hx, hxe⟩ := List.mem_map.1 hm
      obtain ⟨f, h1, h2, rfl⟩ := distE_mem.1 hx
      have a := wOf_mem h f h1
      have b := wOf_mem h e he
      simp only at hxe
      rw [hxe] at a
      omega
    · rw [wOf_zero hm] at hw; omega
  · intro hw
    exact wOf_mem (srt_distE h) (e.1, 1) (distE_mem.2 ⟨e, he, hw, rfl⟩)
/-- FnDistinct -/
theorem law5 {n : Nat} (hx : RdB m A n) (hn : n < 2 ^ 60) (hc : n ≤ c) : Tr Try.prog 5 #[.slice A n c] m fun v m' => v = .bool true ∧ Ext m m' := by
  refine tr_of pok Try.func5 k5 (args := [_]) rfl ?_
  refine IteB.of (fun h => ?_) (fun h => ?_)
  · exact ⟨rfl, Ext.refl _⟩
  refine (t44 hx hn hc).mono ?_
  rintro v m1 ⟨L, ⟨A1, c1, rfl, r1, x1⟩, hs⟩
  have hL : L.length < 2 ^ 60 := by have := hs.1; omega
  refine (t45 r1 hL).mono ?_
  intro v m2 h2
  obtain ⟨A2, c2, rfl, r2, x2⟩ := h2.res
  refine (t46 (r1.ext x2) hL).mono ?_
  intro v m3 h3
  obtain ⟨A3, c3, rfl, r3, x3⟩ := h3.res
  have hL2 : (if vZ L then distE L else []).length < 2 ^ 60 := by have := distE_le L; split <;> simp <;> omega
  refine (t40 (r2.ext x3) r3 (by omega)).mono ?_
  rintro v m4 ⟨rfl, rfl⟩
  refine IteB.not (IteB.of (fun _ => ?_) (fun g => absurd rfl g))
  have r1' := r1.ext (x2.trans x3)
  refine (t42 r1' hL).mono ?_
  rintro v m5 ⟨rfl, rfl⟩
  have e5 : Ext m m5 := (x1.trans x2).trans x3
  refine IteB.not (IteB.of (fun hv => ?_) (fun hv => ?_))
  · simp only [if_pos hv] at r2 r3 hL2 ⊢
    have hv' := vZ_iff.1 hv
    have hv2 := vZ_distE hv
    have r2' := r2.ext x3
    refine Lp.of (fun i : Nat => [(3, .v (.slice A1 L.length c1)), (4, .v (.slice A2 (distE L).length c2)), (5, .v (.int .i64 (i : Int)))]) (fun _ => [])
      (fun i m' => i ≤ L.length ∧ m' = m5) (fun i => L.length - i) 0 ⟨Nat.zero_le _, rfl⟩ ?_
    rintro i m6 ⟨hi, rfl⟩
    refine IteB.of (fun g => ?_) (fun g => ?_)
    · have hi' : i < L.length := by omega
      obtain ⟨a, Ar, cr, ha, q1, q2, q3, q4, q5⟩ := r1' i hi'
      refine Ix.at ha hi' (Ld.of q1 (Ix.at ha hi' (Ld.of q2 ?_)))
      refine (t47 r2' q3 hL2).mono ?_
      rintro v m7 ⟨rfl, rfl⟩
      rw [if_pos hv2]
      refine pl0 ?_
      have hw := wOf_distE hv'.2.2.2 (List.getElem_mem hi')
      refine IteB.of (fun q => absurd (decide_eq_decide.2 hw) q) (fun q => ?_)
      refine Wr.ok (by omega) ⟨i + 1, ⟨rfl, rfl, rfl, trivial⟩, trivial, ⟨by omega, rfl⟩, by omega⟩
    · have hone := distE_ones L
      refine (t48 r2' hL2).mono ?_
      rintro v m7 ⟨rfl, rfl⟩
      refine IteB.of (fun _ => ?_) (fun q => absurd ⟨hv2, hone⟩ q)
      refine (t45 r2' hL2).mono ?_
      intro v m8 h8
      rw [if_pos hv2, distE_one hone] at h8
      obtain ⟨A8, c8, rfl, r8, x8⟩ := h8.res
      have r2'' := r2'.ext x8
      have r1'' := r1'.ext x8
      refine (t40 r8 r2'' (by omega)).mono ?_
      rintro v m9 ⟨rfl, rfl⟩
      refine IteB.of (fun _ => ?_) (fun q => absurd rfl q)
      refine (t48 r1'' hL).mono ?_
      rintro v m10 ⟨rfl, rfl⟩
      refine (t40 r2'' r1'' (by omega)).mono ?_
      rintro v m11 ⟨rfl, rfl⟩
      have hiff : (vZ L ∧ ∀ e ∈ L, e.2 = 1) ↔ distE L = L := ⟨fun h => distE_one h.2, fun h => ⟨hv, h ▸ hone⟩⟩
      refine IteB.of (fun _ => ?_) (fun q => absurd (decide_eq_decide.2 hiff) q)
      refine (t43 r2'' hL2).mono ?_
      rintro v m12 ⟨rfl, rfl⟩
      rw [if_pos hv2, totE_ones hone]
      exact ⟨by simp, e5.trans x8⟩
  · refine (t46 r1' hL).mono ?_
    intro v m6 h6
    obtain ⟨A6, c6, rfl, r6, x6⟩ := h6.res
    refine (t40 ((r2.ext x3).ext x6) r6 (by omega)).mono ?_
    rintro v m7 ⟨rfl, rfl⟩
    exact ⟨by simp, e5.trans x6⟩
end Go.Proofs.Ytkbgdjpdmhnniaa
