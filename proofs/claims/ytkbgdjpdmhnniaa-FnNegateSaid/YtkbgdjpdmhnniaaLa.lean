/- The law FnNegate: it answers true. Own work. No condition. -/
import Derived.Test.YtkbgdjpdmhnniaaLaA
import Derived.Test.YtkbgdjpdmhnniaaPr
namespace Go.Proofs.Ytkbgdjpdmhnniaa
open Go Go.Vc Go.Proofs
set_option linter.unusedVariables false
variable {m : Mem} {A B : Option Addr} {L : List ED} {c : Nat}
theorem negE_negE (L : List ED) : negE (negE L) = L := by
  unfold negE; rw [List.map_map]
  conv => rhs; rw [← List.map_id L]
  apply List.map_congr_left
  intro e _
  simp
theorem negE_length (L : List ED) : (negE L).length = L.length := by simp [negE]
theorem vZ_negE {L : List ED} (h : vZ L) : vZ (negE L) := by
  refine ⟨by rw [negE_length]; exact h.1, fun i hi => ?_⟩
  have hi' : i < L.length := by simpa [negE_length] using hi
  have := h.2 i hi'
  unfold zOK at *
  simp only [negE, List.getElem_map] at *
  refine ⟨this.1, by omega, by omega, by omega, this.2.2.2.2⟩
theorem totE_negE : ∀ (L : List ED), totE (negE L) = - totE L
  | [] => rfl
  | e :: L => by
    have := totE_negE L
    simp only [negE, List.map_cons, totE] at *
    omega
theorem Sml.len {D : Int} {L : List ED} (h : Sml D L) (hD : D ≤ 1000) : L.length < 2 ^ 60 := by have := h.1; omega
/-- FnNegate -/
theorem law4 {n : Nat} (hx : RdB m A n) (hn : n < 2 ^ 60) (hc : n ≤ c) : Tr Try.prog 4 #[.slice A n c] m fun v m' => v = .bool true ∧ Ext m m' := by
  refine tr_of pok Try.func4 k4 (args := [_]) rfl ?_
  refine IteB.of (fun h => ?_) (fun h => ?_)
  · exact ⟨rfl, Ext.refl _⟩
  refine (t38 hx hn hc).mono ?_
  rintro v m1 ⟨L, ⟨A1, c1, rfl, r1, x1⟩, hs⟩
  have hL := hs.len (by omega)
  refine (t39 r1 hL).mono ?_
  intro v m2 h2
  obtain ⟨A2, c2, rfl, r2, x2⟩ := h2.res
  refine (t41 (r1.ext x2) hL).mono ?_
  intro v m3 h3
  obtain ⟨A3, c3, rfl, r3, x3⟩ := h3.res
  have hL2 : (if vZ L then negE L else []).length < 2 ^ 62 := by split <;> simp [negE_length] <;> omega
  refine (t40 (r2.ext x3) r3 hL2).mono ?_
  rintro v m4 ⟨rfl, rfl⟩
  have hq : ∀ L' : List ED, decide (L' = L') = true := fun _ => by simp
  refine IteB.not (IteB.of (fun _ => ?_) (fun g => absurd rfl g))
  refine (t42 (r1.ext (x2.trans x3)) hL).mono ?_
  rintro v m5 ⟨rfl, rfl⟩
  have e5 : Ext m m5 := (x1.trans x2).trans x3
  refine IteB.not (IteB.of (fun hv => ?_) (fun hv => ?_))
  · rw [if_pos hv] at r2 r3 hL2
    have hv2 := vZ_negE hv
    have hN : (negE L).length < 2 ^ 60 := by rw [negE_length]; exact hL
    simp only [if_pos hv]
    refine (t39 (r2.ext x3) hN).mono ?_
    intro v m6 h6
    rw [if_pos hv2, negE_negE] at h6
    obtain ⟨A6, c6, rfl, r6, x6⟩ := h6.res
    have r1' := (r1.ext (x2.trans x3)).ext x6
    refine (t40 r6 r1' (by omega)).mono ?_
    rintro v m7 ⟨rfl, rfl⟩
    refine IteB.of (fun _ => ?_) (fun g => absurd rfl g)
    refine (t43 ((r2.ext x3).ext x6) hN).mono ?_
    rintro v m8 ⟨rfl, rfl⟩
    refine (t43 r1' hL).mono ?_
    rintro v m9 ⟨rfl, rfl⟩
    rw [if_pos hv, if_pos hv2, totE_negE]
    have hb := totE_bound L (fun e he => by
      obtain ⟨i, hi, rfl⟩ := List.getElem_of_mem he
      have := hv.2 i hi
      unfold zOK at this
      omega)
    have := hv.1
    refine Wr.ok (by omega) ?_
    refine IteB.of (fun _ => ?_) (fun g => absurd (by omega) g)
    refine (t42 ((r2.ext x3).ext x6) hN).mono ?_
    rintro v m10 ⟨rfl, rfl⟩
    exact ⟨by rw [decide_eq_true hv2], e5.trans x6⟩
  · refine (t41 (r1.ext (x2.trans x3)) hL).mono ?_
    intro v m6 h6
    obtain ⟨A6, c6, rfl, r6, x6⟩ := h6.res
    refine (t40 ((r2.ext x3).ext x6) r6 hL2).mono ?_
    rintro v m7 ⟨rfl, rfl⟩
    exact ⟨by simp, e5.trans x6⟩
end Go.Proofs.Ytkbgdjpdmhnniaa
