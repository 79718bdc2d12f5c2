/- The row of the law FnExactFilter: for every input it answers true and leaves its arguments as they read (put together by wip/vc/tools/row.py of this repo; the walk is this repo's own). No condition. -/
import Derived.Test.YtkbgdjpdmhnniaaRows
import Derived.Test.YtkbgdjpdmhnniaaPk
import Derived.Test.YtkbgdjpdmhnniaaPz
import Derived.Test.YtkbgdjpdmhnniaaLc
import Derived.WalkKit
import Derived.ProofKit
import Derived.OpenShut
import Derived.ShutString
import Derived.ChangeOld
import Derived.Below
import Derived.SizedLaws
import Derived.Lib.SmallJoins
namespace Go.Proofs.Ytkbgdjpdmhnniaa.fnExactFilter
open Go Go.Vc Go.ChangeShapes Go.WideShapes Go.ChangeAt Go.RowKit Go.Proofs.Ytkbgdjpdmhnniaa
set_option linter.unusedVariables false
set_option linter.unusedSimpArgs false
theorem own : ownKnob Try.prog.godebug = none := by kernel_rfl
theorem laidOut : laidOutB Try.prog = true := by kernel_rfl
set_option maxRecDepth 100000 in
theorem lifted (os : Os) (started : os.Started) (H : Type) (enc : TypeId × Value → H) :
    ReturnsInHanded {} Try.checked os 6 .any (Rows.fnExactFilterSpec.pre6 enc Try.prog Try.f6 Rows.fnExactFilterRow.domain false) (Rows.fnExactFilterSpec.post enc Try.prog Try.f6 false true false false) := by
  refine returnsInHanded_of_change_sized (C := Try.checked) own started (by kernel_rfl) Try.func6
    (ChangeSpec.witness6 (enc := enc) (C := Try.checked) false ⟨#[], #[.slice none 0 0, .agg #[.int .i64 0, .int .i64 0, .int .i64 0]], []⟩ 8 (by kernel_rfl) (by kernel_rfl) (by kernel_rfl) (by kernel_rfl)) ?_
  intro W base args ds gs before hval0 hW hcnd hsz0 _
  have hsz : (DataW.weightsEach Try.prog (Try.f6.params.toList ++ Rows.fnExactFilterSpec.plain.varTypes Try.prog) (ds ++ gs)).all (· ≤ reachBytes) = true := hsz0
  have hval : ∀ (j : Nat) t v, Try.f6.params[j]? = some t → args[j]? = some v → Value.okWide Try.prog W .any base t v := hval0
  have hW' := hW
  obtain ⟨p, q, hA0, hV, rfl, hfz, hnd⟩ := hW
  have hA : DataW.TrodAll enc Try.prog W 0 (fun _ => true) true Try.f6.params.toList args.toList ds p := hA0
  rw [Try.params6] at hA hval hsz
  obtain ⟨v0, vs0, d0, ds0, p0, q0, hargs, rfl, rfl, h0, r0⟩ := trodAll_cons hA
  obtain ⟨v1, vs1, d1, ds1, p1, q1, rfl, rfl, rfl, h1, r1⟩ := trodAll_cons r0
  obtain ⟨rfl, rfl, rfl⟩ := trodAll_nil r1
  obtain rfl : args = #[v0, v1] := by cases args; simp_all
  obtain ⟨rfl, rfl⟩ := trodVars_none hV
  obtain ⟨a0, len0, cap0, rfl⟩ := okWide_slice Try.underlying41 (hval 0 41 v0 rfl rfl)
  have k0 := h0
  have lt0 : ∀ x ∈ p0, x.block < W.heap.size := by obtain ⟨m, hm⟩ := k0; exact DataW.trod_lt m _ _ _ hm
  obtain ⟨l0, K0⟩ := op_arg (j := 0) (op_slice (sz := 2) (B := 32) Try.underlying41 (by kernel_rfl) (by kernel_rfl) (op_struct2 (na := 1) (nb := 1) Try.underlying122 (by kernel_rfl) ⟨rfl, by kernel_rfl⟩ ⟨rfl, by kernel_rfl⟩ (op_slice (sz := 1) (B := 8) Try.underlying38 (by kernel_rfl) (by kernel_rfl) (op_int Try.underlying3)) (op_int Try.underlying3))) hsz rfl rfl h0
  obtain ⟨rfl, c0, y0, S0⟩ := K0.get
  have y0 : l0.length * 32 ≤ 140737488351232 := y0
  have k1 := h1
  have lt1 : ∀ x ∈ p1, x.block < W.heap.size := by obtain ⟨m, hm⟩ := k1; exact DataW.trod_lt m _ _ _ hm
  obtain ⟨u1_0, u1_1, u1_2, z1_0, z1_1, z1_2, n1, rfl, rfl, rfl, e1_0, e1_1, e1_2⟩ := Joins.open_agg3 Try.underlying43 (by kernel_rfl) (by kernel_rfl) (hval 1 43 v1 rfl rfl) h1
  obtain ⟨a1_0, hu1_0, _, w1_0⟩ := DataW.trod_int Try.underlying3 e1_0
  obtain rfl : u1_0 = .int .i64 a1_0 := by simpa using hu1_0
  obtain ⟨a1_1, hu1_1, _, w1_1⟩ := DataW.trod_int Try.underlying3 e1_1
  obtain rfl : u1_1 = .int .i64 a1_1 := by simpa using hu1_1
  obtain ⟨a1_2, hu1_2, _, w1_2⟩ := DataW.trod_int Try.underlying3 e1_2
  obtain rfl : u1_2 = .int .i64 a1_2 := by simpa using hu1_2
  clear hA0 hval0 hsz0 hsz
  refine (calls_true (law6 (sls_ents (m0 := hm W) S0) (by omega) (a1_0, a1_1, a1_2))).mono fun e W' ⟨he, bel⟩ => ?_
  subst he
  exact ⟨_, rfl, _, _, _, [], _, [], hW', trodAll_mk1 (shut_bool Try.underlying4 _), (trodAll_cons_mk (Below.trod laidOut (by kernel_rfl) (of_decide_eq_true (by kernel_rfl)) k0 bel lt0) (trodAll_cons_mk (Below.trod laidOut (by kernel_rfl) (of_decide_eq_true (by kernel_rfl)) k1 bel lt1) trodAll_mk0)), rfl, bel.frame _, fun h => by cases h⟩
theorem closed : joinedFacts Try.prog 6 Try.f6 Rows.fnExactFilterSpec Rows.fnExactFilterRow = true := by
  unfold joinedFacts
  rw [Pk.lf, Pk.mk, Pk.me]
  kernel_rfl
theorem over : Rows.fnExactFilterRow.holds Try.pinned (OpenSpec.ofChange Rows.fnExactFilterSpec) :=
  OpenClaim.holds_of_wide 6 Try.f6 rfl rfl rfl rfl rfl rfl rfl ⟨rfl, rfl, rfl, rfl, rfl⟩ rfl rfl rfl rfl rfl (by kernel_rfl) Try.func6 closed
    (of_decide_eq_true (by kernel_rfl)) (by unfold Func.isWrapper; first | (rw [if_pos (by decide +kernel)]; kernel_rfl) | (rw [if_neg (by decide +kernel)]; exact ⟨rfl, rfl⟩))
    (fun os started H enc _ => lifted os started H enc)
theorem proved : Rows.FnExactFilterSaid := over
end Go.Proofs.Ytkbgdjpdmhnniaa.fnExactFilter
namespace Go.Proofs.Ytkbgdjpdmhnniaa
/-- The row, under a short name, for the claim. -/
theorem fnExactFilter_holds : Rows.FnExactFilterSaid := fnExactFilter.proved
end Go.Proofs.Ytkbgdjpdmhnniaa
