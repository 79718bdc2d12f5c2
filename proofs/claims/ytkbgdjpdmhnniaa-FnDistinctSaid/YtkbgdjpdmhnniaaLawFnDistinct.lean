/- The row of the law FnDistinct: for every input it answers true and leaves its arguments as they read (put together by wip/vc/tools/row.py of this repo; the walk is this repo's own). No condition. -/
import Derived.Test.YtkbgdjpdmhnniaaRows
import Derived.Test.YtkbgdjpdmhnniaaPk
import Derived.Test.YtkbgdjpdmhnniaaPz
import Derived.Test.YtkbgdjpdmhnniaaLb
import Derived.WalkKit
import Derived.ProofKit
import Derived.OpenShut
import Derived.ShutString
import Derived.ChangeOld
import Derived.Below
import Derived.SizedLaws
import Derived.Lib.SmallJoins
namespace Go.Proofs.Ytkbgdjpdmhnniaa.fnDistinct
open Go Go.Vc Go.ChangeShapes Go.WideShapes Go.ChangeAt Go.RowKit Go.Proofs.Ytkbgdjpdmhnniaa
set_option linter.unusedVariables false
set_option linter.unusedSimpArgs false
theorem own : ownKnob Try.prog.godebug = none := by kernel_rfl
theorem laidOut : laidOutB Try.prog = true := by kernel_rfl
set_option maxRecDepth 100000 in
theorem lifted (os : Os) (started : os.Started) (H : Type) (enc : TypeId × Value → H) :
    ReturnsInHanded {} Try.checked os 5 .any (Rows.fnDistinctSpec.pre6 enc Try.prog Try.f5 Rows.fnDistinctRow.domain false) (Rows.fnDistinctSpec.post enc Try.prog Try.f5 false true false false) := by
  refine returnsInHanded_of_change_sized (C := Try.checked) own started (by kernel_rfl) Try.func5
    (ChangeSpec.witness6 (enc := enc) (C := Try.checked) false ⟨#[], #[.slice none 0 0], []⟩ 8 (by kernel_rfl) (by kernel_rfl) (by kernel_rfl) (by kernel_rfl)) ?_
  intro W base args ds gs before hval0 hW hcnd hsz0 _
  have hsz : (DataW.weightsEach Try.prog (Try.f5.params.toList ++ Rows.fnDistinctSpec.plain.varTypes Try.prog) (ds ++ gs)).all (· ≤ reachBytes) = true := hsz0
  have hval : ∀ (j : Nat) t v, Try.f5.params[j]? = some t → args[j]? = some v → Value.okWide Try.prog W .any base t v := hval0
  have hW' := hW
  obtain ⟨p, q, hA0, hV, rfl, hfz, hnd⟩ := hW
  have hA : DataW.TrodAll enc Try.prog W 0 (fun _ => true) true Try.f5.params.toList args.toList ds p := hA0
  rw [Try.params5] at hA hval hsz
  obtain ⟨v0, vs0, d0, ds0, p0, q0, hargs, rfl, rfl, h0, r0⟩ := trodAll_cons hA
  obtain ⟨rfl, rfl, rfl⟩ := trodAll_nil r0
  obtain rfl : args = #[v0] := by cases args; simp_all
  obtain ⟨rfl, rfl⟩ := trodVars_none hV
  obtain ⟨a0, len0, cap0, rfl⟩ := okWide_slice Try.underlying29 (hval 0 29 v0 rfl rfl)
  have k0 := h0
  have lt0 : ∀ x ∈ p0, x.block < W.heap.size := by obtain ⟨m, hm⟩ := k0; exact DataW.trod_lt m _ _ _ hm
  obtain ⟨l0, K0⟩ := op_arg (j := 0) (op_slice (sz := 1) (B := 1) Try.underlying29 (by kernel_rfl) (by kernel_rfl) (op_int Try.underlying5)) hsz rfl rfl h0
  obtain ⟨rfl, c0, y0, S0⟩ := K0.get
  have y0 : l0.length * 1 ≤ 140737488351232 := y0
  clear hA0 hval0 hsz0 hsz
  refine (calls_true (law5 (sls_bytes S0) (by omega) c0)).mono fun e W' ⟨he, bel⟩ => ?_
  subst he
  exact ⟨_, rfl, _, _, _, [], _, [], hW', trodAll_mk1 (shut_bool Try.underlying4 _), (trodAll_cons_mk (Below.trod laidOut (by kernel_rfl) (of_decide_eq_true (by kernel_rfl)) k0 bel lt0) trodAll_mk0), rfl, bel.frame _, fun h => by cases h⟩
theorem closed : joinedFacts Try.prog 5 Try.f5 Rows.fnDistinctSpec Rows.fnDistinctRow = true := by
  unfold joinedFacts
  rw [Pk.lf, Pk.mk, Pk.me]
  kernel_rfl
theorem over : Rows.fnDistinctRow.holds Try.pinned (OpenSpec.ofChange Rows.fnDistinctSpec) :=
  OpenClaim.holds_of_wide 5 Try.f5 rfl rfl rfl rfl rfl rfl rfl ⟨rfl, rfl, rfl, rfl, rfl⟩ rfl rfl rfl rfl rfl (by kernel_rfl) Try.func5 closed
    (of_decide_eq_true (by kernel_rfl)) (by unfold Func.isWrapper; first | (rw [if_pos (by decide +kernel)]; kernel_rfl) | (rw [if_neg (by decide +kernel)]; exact ⟨rfl, rfl⟩))
    (fun os started H enc _ => lifted os started H enc)
theorem proved : Rows.FnDistinctSaid := over
end Go.Proofs.Ytkbgdjpdmhnniaa.fnDistinct
namespace Go.Proofs.Ytkbgdjpdmhnniaa
/-- The row, under a short name, for the claim. -/
theorem fnDistinct_holds : Rows.FnDistinctSaid := fnDistinct.proved
end Go.Proofs.Ytkbgdjpdmhnniaa
