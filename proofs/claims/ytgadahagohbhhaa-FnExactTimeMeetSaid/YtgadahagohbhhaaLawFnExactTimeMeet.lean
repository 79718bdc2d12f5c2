/- The row of the law FnExactTimeMeet: for every input it answers true and leaves its arguments as they read (put together by wip/tools/mkrow.py of this repo; the walk is the printed '.calls'). No condition. -/
import Derived.Test.YtgadahagohbhhaaRows
import Derived.Test.YtgadahagohbhhaaPFnExactTimeMeetx2
import Derived.Test.YtgadahagohbhhaaOpening
import Derived.Test.YtgadahagohbhhaaPureFnExactTimeMeet
import Derived.WalkKit
import Derived.ProofKit
import Derived.OpenShut
import Derived.ShutString
import Derived.ChangeOld
import Derived.Below
import Derived.SizedLaws
import Derived.Lib.SmallJoins
namespace Go.Proofs.Ytgadahagohbhhaa.fnExactTimeMeet
open Go.ChangeShapes Go.WideShapes Go.ChangeAt Go.RowKit Go.Proofs.Ytgadahagohbhhaa.Opening Go.Proofs.Ytgadahagohbhhaa.PFnExactTimeMeet Go.Proofs.YtgadahagohbhhaaW.PrintWords
set_option linter.unusedVariables false
set_option linter.unusedSimpArgs false
theorem own : ownKnob Try.prog.godebug = none := by kernel_rfl
theorem laidOut : laidOutB Try.prog = true := by kernel_rfl
set_option maxRecDepth 100000 in
theorem lifted (os : Os) (started : os.Started) (H : Type) (enc : TypeId × Value → H) :
    ReturnsInHanded {} Try.checked os 9 .any (Rows.fnExactTimeMeetSpec.pre6 enc Try.prog Try.f9 Rows.fnExactTimeMeetRow.domain false) (Rows.fnExactTimeMeetSpec.post enc Try.prog Try.f9 false true false false) := by
  refine returnsInHanded_of_change_sized (C := Try.checked) own started (by kernel_rfl) Try.func9
    (ChangeSpec.witness6 (enc := enc) (C := Try.checked) false ⟨#[], #[.agg #[.int .i64 0, .int .i64 0], .agg #[.int .i64 0, .int .i64 0]], []⟩ 8 (by kernel_rfl) (by kernel_rfl) (by kernel_rfl) (by kernel_rfl)) ?_
  intro W base args ds gs before hval0 hW hcnd hsz0 _
  have hsz : (DataW.weightsEach Try.prog (Try.f9.params.toList ++ Rows.fnExactTimeMeetSpec.plain.varTypes Try.prog) (ds ++ gs)).all (· ≤ reachBytes) = true := hsz0
  have hval : ∀ (j : Nat) t v, Try.f9.params[j]? = some t → args[j]? = some v → Value.okWide Try.prog W .any base t v := hval0
  have hW' := hW
  obtain ⟨p, q, hA0, hV, rfl, hfz, hnd⟩ := hW
  have hA : DataW.TrodAll enc Try.prog W 0 (fun _ => true) true Try.f9.params.toList args.toList ds p := hA0
  rw [Try.params9] at hA hval hsz
  obtain ⟨v0, vs0, d0, ds0, p0, q0, hargs, rfl, rfl, h0, r0⟩ := trodAll_cons hA
  obtain ⟨v1, vs1, d1, ds1, p1, q1, rfl, rfl, rfl, h1, r1⟩ := trodAll_cons r0
  obtain ⟨rfl, rfl, rfl⟩ := trodAll_nil r1
  obtain rfl : args = #[v0, v1] := by cases args; simp_all
  obtain ⟨rfl, rfl⟩ := trodVars_none hV
  have k0 := h0
  have lt0 : ∀ x ∈ p0, x.block < W.heap.size := by obtain ⟨m, hm⟩ := k0; exact DataW.trod_lt m _ _ _ hm
  obtain ⟨u0_0, u0_1, z0_0, z0_1, n0, rfl, rfl, rfl, e0_0, e0_1⟩ := Joins.open_agg2 Try.underlying24 (by kernel_rfl) (by kernel_rfl) (hval 0 24 v0 rfl rfl) h0
  obtain ⟨a0_0, hu0_0, _, w0_0⟩ := DataW.trod_int Try.underlying3 e0_0
  obtain rfl : u0_0 = .int .i64 a0_0 := by simpa using hu0_0
  obtain ⟨a0_1, hu0_1, _, w0_1⟩ := DataW.trod_int Try.underlying3 e0_1
  obtain rfl : u0_1 = .int .i64 a0_1 := by simpa using hu0_1
  have k1 := h1
  have lt1 : ∀ x ∈ p1, x.block < W.heap.size := by obtain ⟨m, hm⟩ := k1; exact DataW.trod_lt m _ _ _ hm
  obtain ⟨u1_0, u1_1, z1_0, z1_1, n1, rfl, rfl, rfl, e1_0, e1_1⟩ := Joins.open_agg2 Try.underlying24 (by kernel_rfl) (by kernel_rfl) (hval 1 24 v1 rfl rfl) h1
  obtain ⟨a1_0, hu1_0, _, w1_0⟩ := DataW.trod_int Try.underlying3 e1_0
  obtain rfl : u1_0 = .int .i64 a1_0 := by simpa using hu1_0
  obtain ⟨a1_1, hu1_1, _, w1_1⟩ := DataW.trod_int Try.underlying3 e1_1
  obtain rfl : u1_1 = .int .i64 a1_1 := by simpa using hu1_1
  clear hA0 hval0 hsz0 hsz
  have h := Pure.FnExactTimeMeet a0_0 a0_1 a1_0 a1_1 w0_0 w0_1 w1_0 w1_1
  refine (laws_FnExactTimeMeet.calls a0_0 a0_1 a1_0 a1_1 true W  h).mono fun e W' ⟨he, bel0⟩ => ?_
  have bel : Below W.heap.size W W' := bel0
  subst he
  exact ⟨_, rfl, _, _, _, [], _, [], hW', trodAll_mk1 (shut_bool Try.underlying4 _), (trodAll_cons_mk (Below.trod laidOut (by kernel_rfl) (of_decide_eq_true (by kernel_rfl)) k0 bel lt0) (trodAll_cons_mk (Below.trod laidOut (by kernel_rfl) (of_decide_eq_true (by kernel_rfl)) k1 bel lt1) trodAll_mk0)), rfl, bel.frame _, fun h => by cases h⟩
theorem over : Rows.fnExactTimeMeetRow.holds Try.pinned (OpenSpec.ofChange Rows.fnExactTimeMeetSpec) :=
  OpenClaim.holds_of_wide 9 Try.f9 rfl rfl rfl rfl rfl rfl rfl ⟨rfl, rfl, rfl, rfl, rfl⟩ rfl rfl rfl rfl rfl (by kernel_rfl) Try.func9 (by kernel_rfl)
    (of_decide_eq_true (by kernel_rfl)) (by unfold Func.isWrapper; first | (rw [if_pos (by decide +kernel)]; kernel_rfl) | (rw [if_neg (by decide +kernel)]; exact ⟨rfl, rfl⟩))
    (fun os started H enc _ => lifted os started H enc)
theorem proved : Rows.FnExactTimeMeetSaid := over
end Go.Proofs.Ytgadahagohbhhaa.fnExactTimeMeet
namespace Go.Proofs.Ytgadahagohbhhaa
/-- The row, under a short name, for the claim. -/
theorem fnExactTimeMeet_holds : Rows.FnExactTimeMeetSaid := fnExactTimeMeet.proved
end Go.Proofs.Ytgadahagohbhhaa
