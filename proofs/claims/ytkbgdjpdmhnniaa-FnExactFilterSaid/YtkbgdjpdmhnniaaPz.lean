/- Elements that a row hands over, as the walks ask them. Own work. No condition. -/
import Derived.Test.YtkbgdjpdmhnniaaVcO
import Derived.Test.YtkbgdjpdmhnniaaPr
namespace Go.Proofs.Ytkbgdjpdmhnniaa
open Go Go.Vc Go.Proofs
set_option linter.unusedVariables false
theorem wf_u8 {x : Int} (h : (Lit.int .u8 x).wf = true) : 0 ≤ x ∧ x < 256 := by
  simp only [Lit.wf, Bool.and_eq_true, decide_eq_true_eq] at h
  have e1 : IntKind.min .u8 = 0 := by decide
  have e2 : IntKind.max .u8 = 255 := by decide
  omega
theorem wf_i64 {x : Int} (h : (Lit.int .i64 x).wf = true) : -9223372036854775808 ≤ x ∧ x ≤ 9223372036854775807 := by
  simp only [Lit.wf, Bool.and_eq_true, decide_eq_true_eq] at h
  have e1 : IntKind.min .i64 = -9223372036854775808 := by decide
  have e2 : IntKind.max .i64 = 9223372036854775807 := by decide
  omega
theorem sls_bytes {m : Mem} {A : Option Addr} {l : List Int} (h : Sls m 1 (KI .u8) A l) : RdB m A l.length := fun j hj => by
  obtain ⟨a, cs, ha, _, ⟨rfl, hw⟩, hc⟩ := h j hj
  refine ⟨a, l[j], ha, ?_, wf_u8 hw⟩
  have := hc 0 _ rfl
  rwa [Nat.mul_one, Nat.add_zero] at this
theorem sls_ents {m m0 : Mem} {A : Option Addr} {L : List ED} (h : Sls m 2 (K2 1 (KS m 1 8 (KI .i64)) (KI .i64)) A L) : RdE m A L := fun i hi => by
  obtain ⟨a, cs, ha, hl, ⟨⟨Ar, cr, e1, e2, e3, e4⟩, e5, hw⟩, hc⟩ := h i hi
  match cs, hl with
  | [v0, v1], _ =>
    simp only [List.take_succ_cons, List.take_zero, List.drop_succ_cons, List.drop_zero, List.cons.injEq, and_true] at e1 e5
    subst e1 e5
    have h0 := hc 0 _ rfl
    have h1 := hc 1 _ rfl
    refine ⟨a, Ar, cr, ha, h0, by rw [add_add]; exact h1, e4.row, e2, ?_⟩
    unfold reachBytes at e3
    omega
end Go.Proofs.Ytkbgdjpdmhnniaa
