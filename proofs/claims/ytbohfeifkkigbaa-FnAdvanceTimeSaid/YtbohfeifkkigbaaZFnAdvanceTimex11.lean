/- Functions of the law FnAdvanceTime: each as a plain Lean function ('.f'), and that the Go code comes to what it answers ('.calls'); put together by programs of this repo (wip/tools) out of the kit's print. No condition. -/
import Derived.Test.YtbohfeifkkigbaaZFnAdvanceTimex0
import Derived.Test.YtbohfeifkkigbaaZFnAdvanceTimex1
import Derived.Test.YtbohfeifkkigbaaZFnAdvanceTimex2
import Derived.Test.YtbohfeifkkigbaaZFnAdvanceTimex3
import Derived.Test.YtbohfeifkkigbaaZFnAdvanceTimex4
import Derived.Test.YtbohfeifkkigbaaZFnAdvanceTimex6
import Derived.Test.YtbohfeifkkigbaaZFnAdvanceTimex7
import Derived.Test.YtbohfeifkkigbaaZFnAdvanceTimex8
import Derived.Test.YtbohfeifkkigbaaZFnAdvanceTimex10
namespace Go.Proofs.Ytbohfeifkkigbaa.PFnAdvanceTime
open Go.RowKit Go.Proofs.YtbohfeifkkigbaaW.PrintWords Go.Proofs.YtbohfeifkkigbaaW.PrintLast Go.Proofs.YtbohfeifkkigbaaW.PrintMore Go.Proofs.Ytbohfeifkkigbaa.Sq
attribute [local go_sem] max2_int min2_int max_two min_two max_three min_three max_four min_four   -- for this text's walks alone
set_option linter.unusedVariables false
set_option linter.unusedSimpArgs false

attribute [local go_sem high] eqA38
/-! ### laws_FnAdvanceTime: function 11 -/
mutual
def laws_FnAdvanceTime.j0 : Nat → List Int → List Int → Bool → Option (Bool)
 | 0, _, _, _ => none
 | k + 1, x0, x1, x16 => if x16 = true then (some true) else ((spec_DrawAdvanceTime.f k x0).bind fun bt307 => ((impl_AdvanceTime.f k bt307.1 bt307.2.1 bt307.2.2).bind fun bt313 => ((spec_AdvanceTime.f k bt307.1 bt307.2.1 bt307.2.2).bind fun bt316 => (if (!(bt313.1 == bt316.1) || (!(bt313.2 == bt316.2))) = true then (laws_FnAdvanceTime.j1 k x1 bt307.2.2 true bt307.1 bt307.2.1 bt313.1 bt313.2) else ((impl_ValidFrontier.f k bt307.2.2).bind fun t318 => (if t318 = true then ((impl_ValidTime.f bt307.1 bt307.2.1).bind fun t319 => (laws_FnAdvanceTime.j1 k x1 bt307.2.2 (!t319) bt307.1 bt307.2.1 bt313.1 bt313.2)) else (laws_FnAdvanceTime.j1 k x1 bt307.2.2 true bt307.1 bt307.2.1 bt313.1 bt313.2)))))))
def laws_FnAdvanceTime.j1 : Nat → List Int → List (S38) → Bool → Int → Int → Int → Int → Option (Bool)
 | 0, _, _, _, _, _, _, _ => none
 | k + 1, x1, x6, x39, x313000, x313001, x316000, x316001 => if x39 = true then ((spec_AdvanceTime.f k x313000 x313001 x6).bind fun bt320 => (some (x316000 == bt320.1 && (x316001 == bt320.2)))) else ((spec_DrawValidTime.f k x1).bind fun bt322 => ((impl_TimeLessEqual.f x313000 x313001 x316000 x316001).bind fun t325 => (if t325 = true then ((impl_AdvanceTime.f k x316000 x316001 x6).bind fun bt326 => (if (bt326.1 == x316000 && (bt326.2 == x316001)) = true then ((impl_FrontierCovers.f k x6 bt322.1 bt322.2).bind fun t328 => (if t328 = true then ((impl_TimeLessEqual.f x313000 x313001 bt322.1 bt322.2).bind fun t329 => ((impl_TimeLessEqual.f x316000 x316001 bt322.1 bt322.2).bind fun t330 => (some (t329 == t330)))) else (some true))) else (some false))) else (some false))))
end
def laws_FnAdvanceTime.f (k : Nat) (l0 : List Int) (l1 : List Int) : Option (Bool) := if (l0.length : Int) > 1048576 then (laws_FnAdvanceTime.j0 k l0 l1 true) else (laws_FnAdvanceTime.j0 k l0 l1 (decide ((l1.length : Int) > 1048576)))
theorem laws_FnAdvanceTime.mono_l : ∀ k, (∀ y0 y1 y2, LeO (laws_FnAdvanceTime.j0 k y0 y1 y2) (laws_FnAdvanceTime.j0 (k + 1) y0 y1 y2)) ∧ (∀ y0 y1 y2 y3 y4 y5 y6, LeO (laws_FnAdvanceTime.j1 k y0 y1 y2 y3 y4 y5 y6) (laws_FnAdvanceTime.j1 (k + 1) y0 y1 y2 y3 y4 y5 y6))
 | 0 => ⟨fun _ _ _ r h => by simp [laws_FnAdvanceTime.j0] at h, fun _ _ _ _ _ _ _ r h => by simp [laws_FnAdvanceTime.j1] at h⟩
 | k + 1 => by
  obtain ⟨ih0, ih1⟩ := laws_FnAdvanceTime.mono_l k
  refine ⟨?_, ?_⟩
  ·
   intro y0 y1 y2
   unfold laws_FnAdvanceTime.j0
   repeat' first
   | (with_reducible exact ih0 _ _ _)
   | (with_reducible exact ih1 _ _ _ _ _ _ _)
   | (with_reducible exact impl_AdvanceTime.mono _ _ _ _)
   | (with_reducible exact impl_FrontierCovers.mono _ _ _ _)
   | (with_reducible exact impl_ValidFrontier.mono _ _)
   | (with_reducible exact spec_AdvanceTime.mono _ _ _ _)
   | (with_reducible exact spec_DrawAdvanceTime.mono _ _)
   | (with_reducible exact spec_DrawValidTime.mono _ _)
   | (with_reducible exact LeO.refl _)
   | (with_reducible exact LeO.none _)
   | (with_reducible refine LeO.ite ?_ ?_)
   | (with_reducible refine LeO.bind ?_ (fun _ => ?_))
   | exact ih0 _ _ _
   | exact ih1 _ _ _ _ _ _ _
   | exact impl_AdvanceTime.mono _ _ _ _
   | exact impl_FrontierCovers.mono _ _ _ _
   | exact impl_ValidFrontier.mono _ _
   | exact spec_AdvanceTime.mono _ _ _ _
   | exact spec_DrawAdvanceTime.mono _ _
   | exact spec_DrawValidTime.mono _ _
   | exact LeO.none _
   | refine LeO.ite ?_ ?_
   | refine LeO.bind ?_ (fun _ => ?_)
  ·
   intro y0 y1 y2 y3 y4 y5 y6
   unfold laws_FnAdvanceTime.j1
   repeat' first
   | (with_reducible exact ih0 _ _ _)
   | (with_reducible exact ih1 _ _ _ _ _ _ _)
   | (with_reducible exact impl_AdvanceTime.mono _ _ _ _)
   | (with_reducible exact impl_FrontierCovers.mono _ _ _ _)
   | (with_reducible exact impl_ValidFrontier.mono _ _)
   | (with_reducible exact spec_AdvanceTime.mono _ _ _ _)
   | (with_reducible exact spec_DrawAdvanceTime.mono _ _)
   | (with_reducible exact spec_DrawValidTime.mono _ _)
   | (with_reducible exact LeO.refl _)
   | (with_reducible exact LeO.none _)
   | (with_reducible refine LeO.ite ?_ ?_)
   | (with_reducible refine LeO.bind ?_ (fun _ => ?_))
   | exact ih0 _ _ _
   | exact ih1 _ _ _ _ _ _ _
   | exact impl_AdvanceTime.mono _ _ _ _
   | exact impl_FrontierCovers.mono _ _ _ _
   | exact impl_ValidFrontier.mono _ _
   | exact spec_AdvanceTime.mono _ _ _ _
   | exact spec_DrawAdvanceTime.mono _ _
   | exact spec_DrawValidTime.mono _ _
   | exact LeO.none _
   | refine LeO.ite ?_ ?_
   | refine LeO.bind ?_ (fun _ => ?_)
theorem laws_FnAdvanceTime.mono : ∀ a0 a1 k, LeO (laws_FnAdvanceTime.f k a0 a1) (laws_FnAdvanceTime.f (k + 1) a0 a1) := by
 intro a0 a1 k
 obtain ⟨ih0, ih1⟩ := laws_FnAdvanceTime.mono_l k
 unfold laws_FnAdvanceTime.f
 repeat' first
   | (with_reducible exact ih0 _ _ _)
   | (with_reducible exact ih1 _ _ _ _ _ _ _)
   | (with_reducible exact impl_AdvanceTime.mono _ _ _ _)
   | (with_reducible exact impl_FrontierCovers.mono _ _ _ _)
   | (with_reducible exact impl_ValidFrontier.mono _ _)
   | (with_reducible exact spec_AdvanceTime.mono _ _ _ _)
   | (with_reducible exact spec_DrawAdvanceTime.mono _ _)
   | (with_reducible exact spec_DrawValidTime.mono _ _)
   | (with_reducible exact LeO.refl _)
   | (with_reducible exact LeO.none _)
   | (with_reducible refine LeO.ite ?_ ?_)
   | (with_reducible refine LeO.bind ?_ (fun _ => ?_))
   | exact ih0 _ _ _
   | exact ih1 _ _ _ _ _ _ _
   | exact impl_AdvanceTime.mono _ _ _ _
   | exact impl_FrontierCovers.mono _ _ _ _
   | exact impl_ValidFrontier.mono _ _
   | exact spec_AdvanceTime.mono _ _ _ _
   | exact spec_DrawAdvanceTime.mono _ _
   | exact spec_DrawValidTime.mono _ _
   | exact LeO.none _
   | refine LeO.ite ?_ ?_
   | refine LeO.bind ?_ (fun _ => ?_)
def laws_FnAdvanceTime.T5 : Bool × List (List Nat × List Nat) := (true, [([], []), ([], []), ([], []), ([1, 2], [1, 2]), ([0, 3], [0, 3]), ([4, 3], [4]), ([5], [5]), ([6, 5, 5], [5, 6]), ([7, 5], [5, 7]), ([5, 8], [5, 8]), ([9, 7], [9]), ([10], [10]), ([11, 10, 10], [10, 11]), ([12, 10], [10, 12]), ([10, 13], [10, 13])])
def laws_FnAdvanceTime.B5 : List Nat := [0, 0, 0, 6, 15, 31, 63, 127, 255, 511, 1023, 2047, 4095, 8191, 16383]
theorem laws_FnAdvanceTime.tab5 : rtab .any (opsOf Try.f11 5) = laws_FnAdvanceTime.T5 := by kernel_rfl
theorem laws_FnAdvanceTime.bits5 : waitsOk laws_FnAdvanceTime.T5.2 laws_FnAdvanceTime.B5 = true := by kernel_rfl
def laws_FnAdvanceTime.T8 : Bool × List (List Nat × List Nat) := (true, [([], []), ([], []), ([0, 1], [0, 1]), ([2, 2], [2]), ([3], [3]), ([3], [3]), ([4, 5, 3, 3], [3, 4, 5]), ([3], [3]), ([6, 7, 3], [3, 6, 7]), ([3, 8], [3, 8]), ([9, 6], [9]), ([10], [10]), ([10], [10]), ([11, 12, 10, 10], [10, 11, 12]), ([13, 10], [10, 13]), ([14, 13, 10], [10, 14]), ([15], [15]), ([15], [15]), ([16, 17, 15, 15], [15, 16, 17]), ([15], [15]), ([15], [15]), ([19, 20, 18, 15], [15, 19, 20]), ([18, 21, 15], [15, 18, 21]), ([15, 22, 10], [10, 15, 22]), ([10, 23], [10, 23]), ([24, 21, 0, 1, 2, 3, 4, 5, 6, 7, 8, 9, 10, 11, 12, 13, 14, 15, 16, 17, 18, 19, 20, 21, 22, 23, 24], [24])])
def laws_FnAdvanceTime.B8 : List Nat := [0, 0, 3, 7, 15, 15, 63, 15, 255, 511, 1023, 2047, 2047, 8191, 16383, 32767, 65535, 65535, 262143, 65535, 65535, 2097151, 4194303, 8388607, 16777215, 33554431]
theorem laws_FnAdvanceTime.tab8 : rtab .any (opsOf Try.f11 8) = laws_FnAdvanceTime.T8 := by kernel_rfl
theorem laws_FnAdvanceTime.bits8 : waitsOk laws_FnAdvanceTime.T8.2 laws_FnAdvanceTime.B8 = true := by kernel_rfl
set_option maxHeartbeats 8000000 in
set_option maxRecDepth 100000 in
theorem laws_FnAdvanceTime.calls (k : Nat) (A0 : Option Addr) (c0 : Nat) (l0 : List Int) (A1 : Option Addr) (c1 : Nat) (l1 : List Int) (r : Bool) (w : World) (hr0 : Kd.C (Kd.int .u8) w A0 l0.length l0) (hc0 : l0.length ≤ c0) (hr1 : Kd.C (Kd.int .u8) w A1 l1.length l1) (hc1 : l1.length ≤ c1) (h : laws_FnAdvanceTime.f k l0 l1 = some r) :
  Calls Try.prog 11 #[.slice A0 l0.length c0, .slice A1 l1.length c1] w fun e w' => e = .returned (.bool r) ∧ Below w.heap.size w w' := by
 have hu38 := Try.underlying38
 have HR0 := Aside0.mk hr0
 have HC0 := Aside0.mk hc0
 clear hr0 hc0
 have HR1 := Aside0.mk hr1
 have HC1 := Aside0.mk hc1
 clear hr1 hc1
 have HB := Aside0.mk (Below.refl w.heap.size w)
 have H : (if (l0.length : Int) > 1048576 then (laws_FnAdvanceTime.j0 k l0 l1 true) else (laws_FnAdvanceTime.j0 k l0 l1 (decide ((l1.length : Int) > 1048576)))) = some r := h
 clear h
 have HC3 := Aside0.mk H
 clear H
 go_enter Try.func11, Try.ntmps11
 go_upto_region 1 with (fail)
 go_cut [16] (fun v16 wc => ∃ (kq : Nat) (x16_2 : Bool), v16 = .bool x16_2 ∧ Aside0 (laws_FnAdvanceTime.j0 kq l0 l1 x16_2 = some r) ∧ Aside0 (kq ≤ k) ∧ Aside0 (Below w.heap.size w wc))
 case first =>
  have H := HC3.out
  clear HC3
  by_cases c4 : (l0.length : Int) > 1048576
  ·
   rw [if_pos c4] at H
   have c4b0 : decide (1048576 < (l0.length : Int)) = true := decide_eq_true c4
   have c4b1 : decide (1048576 < l0.length) = true := decide_eq_true (by omega)
   clear c4
   (first | rw [c4b0] | (simp only [i64_w, i32_w]; rw [c4b0]) | skip)
   have H' := Aside0.mk H
   clear H
   go_wp2
   go_meet
   case rel => exact ⟨_, (true), (by first | rfl | (simp; done) | (simp [*]; done)), H', ⟨by first | omega | exact Nat.le_refl _⟩, ⟨by repeat (first | (with_reducible first | exact HB.out | apply below_alloc | apply pw_below_drewN | apply below_drew1) | exact HB.out)⟩⟩
  ·
   rw [if_neg c4] at H
   have c4b0 : decide (1048576 < (l0.length : Int)) = false := decide_eq_false c4
   have c4b1 : decide (1048576 < l0.length) = false := decide_eq_false (by omega)
   clear c4
   (first | rw [c4b0] | (simp only [i64_w, i32_w]; rw [c4b0]) | skip)
   have H' := Aside0.mk H
   clear H
   go_wp2
   go_meet
   case rel => exact ⟨_, (decide ((l1.length : Int) > 1048576)), (by first | rfl | (simp; done) | (simp [*]; done)), H', ⟨by first | omega | exact Nat.le_refl _⟩, ⟨by repeat (first | (with_reducible first | exact HB.out | apply below_alloc | apply pw_below_drewN | apply below_drew1) | exact HB.out)⟩⟩
 case rest =>
  clear HC3
  try clear c1
  try clear p2
  try clear c4
  try clear c4b0
  try clear c4b1
  obtain ⟨kq, x16_2, rfl, HA, HJ2, HB⟩ := hcut
  cases kq with
  | zero => exact absurd HA.out (by simp [laws_FnAdvanceTime.j0])
  | succ kj2 =>
   have H := HA.out
   clear HA
   simp only [laws_FnAdvanceTime.j0] at H
   by_cases c5 : x16_2 = true
   ·
    subst c5
    have H1 : (some true) = some r := by rw [if_pos rfl] at H; exact H
    clear H
    have H := H1
    clear H1
    obtain rfl := Option.some.inj H
    go_wp2
    go_ret
    exact ⟨by first | rfl | (simp [errW_none, errW_some] <;> rfl) | (simp [*, errW_none, errW_some] <;> rfl), by repeat (first | (with_reducible first | exact HB.out | apply below_alloc | apply pw_below_drewN | apply below_drew1) | exact HB.out)⟩
   ·
    replace c5 := Bool.eq_false_iff.mpr c5
    subst c5
    have H1 : ((spec_DrawAdvanceTime.f kj2 l0).bind fun bt307 => ((impl_AdvanceTime.f kj2 bt307.1 bt307.2.1 bt307.2.2).bind fun bt313 => ((spec_AdvanceTime.f kj2 bt307.1 bt307.2.1 bt307.2.2).bind fun bt316 => (if (!(bt313.1 == bt316.1) || (!(bt313.2 == bt316.2))) = true then (laws_FnAdvanceTime.j1 kj2 l1 bt307.2.2 true bt307.1 bt307.2.1 bt313.1 bt313.2) else ((impl_ValidFrontier.f kj2 bt307.2.2).bind fun t318 => (if t318 = true then ((impl_ValidTime.f bt307.1 bt307.2.1).bind fun t319 => (laws_FnAdvanceTime.j1 kj2 l1 bt307.2.2 (!t319) bt307.1 bt307.2.1 bt313.1 bt313.2)) else (laws_FnAdvanceTime.j1 kj2 l1 bt307.2.2 true bt307.1 bt307.2.1 bt313.1 bt313.2))))))) = some r := by rw [if_neg (show ¬ (false = true) by decide)] at H; exact H
    clear H
    have H := H1
    clear H1
    replace H := Option.bind_eq_some_iff.mp H
    obtain ⟨⟨t307, t308, t309⟩, A60, H⟩ := H
    replace H : ((impl_AdvanceTime.f kj2 t307 t308 t309).bind fun bt313 => ((spec_AdvanceTime.f kj2 t307 t308 t309).bind fun bt316 => (if (!(bt313.1 == bt316.1) || (!(bt313.2 == bt316.2))) = true then (laws_FnAdvanceTime.j1 kj2 l1 t309 true t307 t308 bt313.1 bt313.2) else ((impl_ValidFrontier.f kj2 t309).bind fun t318 => (if t318 = true then ((impl_ValidTime.f t307 t308).bind fun t319 => (laws_FnAdvanceTime.j1 kj2 l1 t309 (!t319) t307 t308 bt313.1 bt313.2)) else (laws_FnAdvanceTime.j1 kj2 l1 t309 true t307 t308 bt313.1 bt313.2)))))) = some r := H
    have A6 := Aside0.mk A60
    clear A60
    replace H := Option.bind_eq_some_iff.mp H
    obtain ⟨⟨t313, t314⟩, A70, H⟩ := H
    replace H : ((spec_AdvanceTime.f kj2 t307 t308 t309).bind fun bt316 => (if (!(t313 == bt316.1) || (!(t314 == bt316.2))) = true then (laws_FnAdvanceTime.j1 kj2 l1 t309 true t307 t308 t313 t314) else ((impl_ValidFrontier.f kj2 t309).bind fun t318 => (if t318 = true then ((impl_ValidTime.f t307 t308).bind fun t319 => (laws_FnAdvanceTime.j1 kj2 l1 t309 (!t319) t307 t308 t313 t314)) else (laws_FnAdvanceTime.j1 kj2 l1 t309 true t307 t308 t313 t314))))) = some r := H
    have A7 := Aside0.mk A70
    clear A70
    have HC8 := Aside0.mk H
    clear H
    go_upto_region 5 with (first | ((with_reducible refine gate_callee (f := 42) rfl ?_); refine goesL_ (some 19) rfl rfl Try.func42 (by kernel_rfl) rfl #[.slice A0 l0.length c0] rfl (by (try simp only [List.map_toArray, List.map_cons, List.map_nil]); first | done | rfl | (simp only [List.length_drop, List.length_take]; rfl)) ?_; (with_reducible refine (spec_DrawAdvanceTime.calls kj2 _ _ l0 t307 t308 t309 _ ?side1 ?side2 A6.out).mono ?_); (case side1 => repeat (first | exact (Kd.C_below HR0.out HB.out) | (with_reducible refine Kd.C_alloc ?_ _) | (with_reducible refine Kd.C_drewN ?_ _) | (with_reducible refine Kd.C_drew ?_))); (case side2 => exact HC0.out); rintro e w9 ⟨v310, rfl, ho0, hb⟩; refine ⟨_, rfl, ?_⟩; have n0_ := Aside0.mk (Kd.R_lower ho0 (below_size (by repeat (first | (with_reducible first | exact HB.out | apply below_alloc | apply pw_below_drewN | apply below_drew1) | exact HB.out)))); have n1_ := Aside0.mk (below_step (by repeat (first | (with_reducible first | exact HB.out | apply below_alloc | apply pw_below_drewN | apply below_drew1) | exact HB.out)) hb); clear HB; have HO311 := n0_; have HB := n1_; clear n0_ n1_; (try clear hb); (try clear hb2); (try clear hk); (try clear hi); (try clear ho0)) | ((with_reducible refine gate_dst (N := 5) rfl ?_); (try (refine gate_guard (by rfl) ?_; dsimp only)); refine box_event ?hg (N := 5) ?hd (cs := #[.int .i64 0, .int .i64 0]) (t := 38) ?hr ?_; (case hd => rfl); (case hg => rfl); (case hr => first | (go_simp; done) | (go_simp; rfl)); intro gb312 hg w10 hbox hb; have n0_ := Aside0.mk (Kd.R_below (Kd.R_elderB (by (with_reducible repeat (first | apply Kd.R_alloc | apply Kd.R_drewN | apply Kd.R_drew)); exact HO311.out) gb312 (Nat.le_of_eq hg.symm)) hb); have n1_ := Aside0.mk (below_step (by repeat (first | (with_reducible first | exact HB.out | apply below_alloc | apply pw_below_drewN | apply below_drew1) | exact HB.out)) hb); have n2_ := Aside0.mk (hbox); have n3_ := Aside0.mk ((by rw [hg]; exact (below_size (by repeat (first | (with_reducible first | exact HB.out | apply below_alloc | apply pw_below_drewN | apply below_drew1) | exact HB.out))) : w.heap.size ≤ gb312)); have n4_ := Aside0.mk ((by rw [hg]; exact (below_size (by repeat (first | (with_reducible first | exact HB.out | apply below_alloc | apply pw_below_drewN | apply below_drew1) | exact HB.out))) : w.heap.size ≤ gb312)); clear HO311; clear HB; have HO311 := n0_; have HB := n1_; have BK312 := n2_; have GW312 := n3_; have GE312 := n4_; clear n0_ n1_ n2_ n3_ n4_; clear hb hbox hg; have hcz11_0 : w10.cell? ⟨gb312, 0, none⟩ = some (.int .i64 0) := (blk_cell BK312.out 0).trans rfl; have hcz11_1 : w10.cell? ⟨gb312, 1, none⟩ = some (.int .i64 0) := (blk_cell BK312.out 1).trans rfl; have hfz11_0 := blk_frozen BK312.out 0; have hfz11_1 := blk_frozen BK312.out 1; obtain ⟨Ao12, co12, eo12⟩ := Kd.R_slice HO311.out; subst eo12) | ((with_reducible refine gate_callee (f := 36) rfl ?_); refine goesL_ (some 24) rfl rfl Try.func36 (by kernel_rfl) rfl #[.agg #[.int .i64 t307, .int .i64 t308], .slice Ao12 t309.length co12] rfl (by (try simp only [List.map_toArray, List.map_cons, List.map_nil]); first | done | rfl | (simp only [List.length_drop, List.length_take]; rfl)) ?_; (with_reducible refine (impl_AdvanceTime.calls kj2 t307 t308 _ _ t309 t313 t314 _ ?side1 ?side2 A7.out).mono ?_); (case side1 => refine (Kd.R_reads' (e := 38) (base := w.heap.size) (ok := fun k_ => (True ∧ k_ ≠ gb312)) (n := t309.length) (c := co12) ?_).2.2; exact (by (with_reducible repeat (first | apply Kd.R_alloc | apply Kd.R_drewN | apply Kd.R_drew)); exact (Kd.R_mono (Kd.R_far (p := ⟨gb312, 1, none⟩) (Kd.R_far (p := ⟨gb312, 0, none⟩) (Kd.R_mono HO311.out (fun k_ hk => (⟨hk, hk.2⟩ : _ ∧ k_ ≠ gb312))) (fun _ hk => hk.2) (.int .i64 t307)) (fun _ hk => hk.2) (.int .i64 t308)) (fun _ h_ => h_.1)))); (case side2 => exact (Kd.R_reads' HO311.out).2.1); rintro e w13 ⟨rfl, hb⟩; refine ⟨_, rfl, ?_⟩; have n0_ := Aside0.mk (Kd.R_below (by (with_reducible repeat (first | apply Kd.R_alloc | apply Kd.R_drewN | apply Kd.R_drew)); exact (Kd.R_mono (Kd.R_far (p := ⟨gb312, 1, none⟩) (Kd.R_far (p := ⟨gb312, 0, none⟩) (Kd.R_mono HO311.out (fun k_ hk => (⟨hk, hk.2⟩ : _ ∧ k_ ≠ gb312))) (fun _ hk => hk.2) (.int .i64 t307)) (fun _ hk => hk.2) (.int .i64 t308)) (fun _ h_ => h_.1))) hb); have n1_ := Aside0.mk (blk_below (g := gb312) (o := .cells #[.int .i64 t307, .int .i64 t308] 38 (0, 0)) (by (with_reducible repeat (first | refine blk_drewN ?_ _ | refine blk_drew ?_ | refine blk_alloc ?_ _)); refine blk_put (cs := #[.int .i64 t307, .int .i64 0]) ?_ 1 _ rfl; (with_reducible repeat (first | refine blk_drewN ?_ _ | refine blk_drew ?_ | refine blk_alloc ?_ _)); refine blk_put (cs := #[.int .i64 0, .int .i64 0]) ?_ 0 _ rfl; (with_reducible repeat (first | refine blk_drewN ?_ _ | refine blk_drew ?_ | refine blk_alloc ?_ _)); exact BK312.out) hb); have n2_ := Aside0.mk (below_step (by repeat (first | (with_reducible first | exact HB.out | apply below_alloc | apply pw_below_drewN | apply below_drew1 | refine below_set ?_ GE312.out) | exact HB.out)) hb); clear HO311; clear BK312; clear HB; have HO311 := n0_; have BK312 := n1_; have HB := n2_; clear n0_ n1_ n2_; (try clear hb); (try clear hb2); (try clear hk); (try clear hi)) | ((with_reducible refine gate_dst (N := 7) rfl ?_); (try (refine gate_guard (by rfl) ?_; dsimp only)); refine box_event ?hg (N := 7) ?hd (cs := #[.int .i64 0, .int .i64 0]) (t := 38) ?hr ?_; (case hd => rfl); (case hg => rfl); (case hr => first | (go_simp; done) | (go_simp; rfl)); intro gb315 hg w14 hbox hb; have n0_ := Aside0.mk (Kd.R_below (Kd.R_elderB (by (with_reducible repeat (first | apply Kd.R_alloc | apply Kd.R_drewN | apply Kd.R_drew)); exact HO311.out) gb315 (Nat.le_of_eq hg.symm)) hb); have n1_ := Aside0.mk (blk_below (g := gb312) (o := .cells #[.int .i64 t307, .int .i64 t308] 38 (0, 0)) (by (with_reducible repeat (first | refine blk_drewN ?_ _ | refine blk_drew ?_ | refine blk_alloc ?_ _)); exact BK312.out) hb); have n2_ := Aside0.mk (below_step (by repeat (first | (with_reducible first | exact HB.out | apply below_alloc | apply pw_below_drewN | apply below_drew1 | refine below_set ?_ GE312.out) | exact HB.out)) hb); have n3_ := Aside0.mk (hbox); have n4_ := Aside0.mk ((by rw [hg]; exact (below_size (by repeat (first | (with_reducible first | exact HB.out | apply below_alloc | apply pw_below_drewN | apply below_drew1 | refine below_set ?_ GE312.out) | exact HB.out))) : w.heap.size ≤ gb315)); have n5_ := Aside0.mk ((by rw [hg]; exact (below_size (by repeat (first | (with_reducible first | exact HB.out | apply below_alloc | apply pw_below_drewN | apply below_drew1 | refine below_set ?_ GE312.out) | exact HB.out))) : w.heap.size ≤ gb315)); have n6_ := Aside0.mk ((by rw [hg]; exact Nat.ne_of_lt (blk_lt (g := gb312) (o := .cells #[.int .i64 t307, .int .i64 t308] 38 (0, 0)) (by (with_reducible repeat (first | refine blk_drewN ?_ _ | refine blk_drew ?_ | refine blk_alloc ?_ _)); exact BK312.out)) : gb312 ≠ gb315)); have n7_ := Aside0.mk ((by rw [hg]; exact Nat.ne_of_gt (blk_lt (g := gb312) (o := .cells #[.int .i64 t307, .int .i64 t308] 38 (0, 0)) (by (with_reducible repeat (first | refine blk_drewN ?_ _ | refine blk_drew ?_ | refine blk_alloc ?_ _)); exact BK312.out)) : gb315 ≠ gb312)); clear HO311; clear BK312; clear HB; have HO311 := n0_; have BK312 := n1_; have HB := n2_; have BK315 := n3_; have GW315 := n4_; have GE315 := n5_; have NB312_315 := n6_; have NB315_312 := n7_; clear n0_ n1_ n2_ n3_ n4_ n5_ n6_ n7_; clear hb hbox hg; have hnb15 := NB315_312.out; have hnc15 := NB312_315.out; have hcz16_0 : w14.cell? ⟨gb315, 0, none⟩ = some (.int .i64 0) := (blk_cell BK315.out 0).trans rfl; have hcz16_1 : w14.cell? ⟨gb315, 1, none⟩ = some (.int .i64 0) := (blk_cell BK315.out 1).trans rfl; have hfz16_0 := blk_frozen BK315.out 0; have hfz16_1 := blk_frozen BK315.out 1))
    (try simp only [Act.put, List.setIfInBounds_toArray, List.set_cons_zero, List.set_cons_succ])
    go_cut [39] (fun v39 wc => ∃ (kq : Nat) (x39_7 : Bool), v39 = .bool x39_7 ∧ Aside0 (laws_FnAdvanceTime.j1 kq l1 t309 x39_7 t307 t308 t313 t314 = some r) ∧ Aside0 (kq ≤ kj2) ∧ Aside0 (Kd.R k38 38 wc w.heap.size (fun k_ => k_ ≠ gb312 ∧ k_ ≠ gb315) (.slice Ao12 t309.length co12) t309) ∧ Aside0 (wc.heap[gb312]? = some (.cells #[.int .i64 t307, .int .i64 t308] 38 (0, 0))) ∧ Aside0 (wc.heap[gb315]? = some (.cells #[.int .i64 t313, .int .i64 t314] 38 (0, 0))) ∧ Aside0 (Below w.heap.size w wc))
    case first =>
     have H := HC8.out
     clear HC8
     replace H := Option.bind_eq_some_iff.mp H
     obtain ⟨⟨t316, t317⟩, A170, H⟩ := H
     replace H : (if (!(t313 == t316) || (!(t314 == t317))) = true then (laws_FnAdvanceTime.j1 kj2 l1 t309 true t307 t308 t313 t314) else ((impl_ValidFrontier.f kj2 t309).bind fun t318 => (if t318 = true then ((impl_ValidTime.f t307 t308).bind fun t319 => (laws_FnAdvanceTime.j1 kj2 l1 t309 (!t319) t307 t308 t313 t314)) else (laws_FnAdvanceTime.j1 kj2 l1 t309 true t307 t308 t313 t314)))) = some r := H
     have A17 := Aside0.mk A170
     clear A170
     by_cases c18 : (!(t313 == t316) || (!(t314 == t317))) = true
     ·
      rw [if_pos c18] at H
      have c18b0 : (!(t313 == t316) || (!(t314 == t317))) = true := c18
      clear c18
      (first | rw [c18b0] | (simp only [i64_w, i32_w]; rw [c18b0]) | skip)
      have H' := Aside0.mk H
      clear H
      try go_wp2
      have n0_ : Aside0 (Kd.R k38 38 ((w14.setCell ⟨gb315, 0, none⟩ (.int .i64 t313)).setCell ⟨gb315, 1, none⟩ (.int .i64 t314)) w.heap.size (fun k_ => k_ ≠ gb312 ∧ k_ ≠ gb315) (.slice Ao12 t309.length co12) t309) := ⟨by (with_reducible repeat (first | apply Kd.R_alloc | apply Kd.R_drewN | apply Kd.R_drew)); exact Kd.R_mono (Kd.R_far (p := ⟨gb315, 1, none⟩) (Kd.R_far (p := ⟨gb315, 0, none⟩) (Kd.R_mono HO311.out (fun k_ hk => (⟨hk, hk.2⟩ : _ ∧ k_ ≠ gb315))) (fun _ hk => hk.2) (.int .i64 t313)) (fun _ hk => hk.2) (.int .i64 t314)) (fun _ hk => ⟨hk.1.1.2, hk.1.2⟩)⟩
      have n1_ : Aside0 (((w14.setCell ⟨gb315, 0, none⟩ (.int .i64 t313)).setCell ⟨gb315, 1, none⟩ (.int .i64 t314)).heap[gb312]? = some (.cells #[.int .i64 t307, .int .i64 t308] 38 (0, 0))) := ⟨by (with_reducible repeat (first | refine blk_drewN ?_ _ | refine blk_drew ?_ | refine blk_alloc ?_ _)); refine blk_far ?_ NB312_315.out _; (with_reducible repeat (first | refine blk_drewN ?_ _ | refine blk_drew ?_ | refine blk_alloc ?_ _)); refine blk_far ?_ NB312_315.out _; (with_reducible repeat (first | refine blk_drewN ?_ _ | refine blk_drew ?_ | refine blk_alloc ?_ _)); exact BK312.out⟩
      have n2_ : Aside0 (((w14.setCell ⟨gb315, 0, none⟩ (.int .i64 t313)).setCell ⟨gb315, 1, none⟩ (.int .i64 t314)).heap[gb315]? = some (.cells #[.int .i64 t313, .int .i64 t314] 38 (0, 0))) := ⟨by (with_reducible repeat (first | refine blk_drewN ?_ _ | refine blk_drew ?_ | refine blk_alloc ?_ _)); refine blk_put (cs := #[.int .i64 t313, .int .i64 0]) ?_ 1 _ rfl; (with_reducible repeat (first | refine blk_drewN ?_ _ | refine blk_drew ?_ | refine blk_alloc ?_ _)); refine blk_put (cs := #[.int .i64 0, .int .i64 0]) ?_ 0 _ rfl; (with_reducible repeat (first | refine blk_drewN ?_ _ | refine blk_drew ?_ | refine blk_alloc ?_ _)); exact BK315.out⟩
      have n3_ : Aside0 (Below w.heap.size w ((w14.setCell ⟨gb315, 0, none⟩ (.int .i64 t313)).setCell ⟨gb315, 1, none⟩ (.int .i64 t314))) := ⟨by repeat (first | (with_reducible first | exact HB.out | apply below_alloc | apply pw_below_drewN | apply below_drew1 | refine below_set ?_ GE312.out | refine below_set ?_ GE315.out) | exact HB.out)⟩
      (try clear HO311)
      (try clear BK312)
      (try clear BK315)
      (try clear HB)
      generalize ((w14.setCell ⟨gb315, 0, none⟩ (.int .i64 t313)).setCell ⟨gb315, 1, none⟩ (.int .i64 t314)) = w19 at n0_ n1_ n2_ n3_ ⊢
      have HO311 := n0_
      have BK312 := n1_
      have BK315 := n2_
      have HB := n3_
      clear n0_ n1_ n2_ n3_
      have n0_ := Aside0.mk (Kd.R_drew HO311.out)
      have n1_ := Aside0.mk (blk_drew BK312.out)
      have n2_ := Aside0.mk (blk_drew BK315.out)
      have n3_ := Aside0.mk (below_drew1 HB.out)
      clear HO311
      clear BK312
      clear BK315
      clear HB
      have HO311 := n0_
      have BK312 := n1_
      have BK315 := n2_
      have HB := n3_
      clear n0_ n1_ n2_ n3_
      refine start_ (n := 15) (S := fun w' => w'.cell? ⟨gb315, 0, none⟩ = some (.int .i64 t313) ∧ w'.cell? ⟨gb315, 1, none⟩ = some (.int .i64 t314) ∧ w'.cell? ⟨gb312, 0, none⟩ = some (.int .i64 t307) ∧ w'.cell? ⟨gb312, 1, none⟩ = some (.int .i64 t308)) (ds := []) (Array.replicate 15 false) (by kernel_rfl) rfl rfl ⟨(blk_cell BK315.out 0).trans rfl, (blk_cell BK315.out 1).trans rfl, (blk_cell BK312.out 0).trans rfl, (blk_cell BK312.out 1).trans rfl⟩ (fun hHeld => ?_); refine with_tabW laws_FnAdvanceTime.tab5 laws_FnAdvanceTime.bits5 (fun HT_ HW_ => ?_)
      generalize w19.drew = w20 at HO311 BK312 BK315 HB hHeld ⊢
      refine pT HT_ 2 27 (bm 15 4) ?_
      refine tT HT_ HW_ hHeld 0 25 (bm 15 5) ?_
      refine tT HT_ HW_ hHeld 1 26 (bm 15 7) ?_
      refine one_ (i := 3) (N := some 28) (bm 15 15) rfl rfl (one_of HT_.out (by kernel_rfl)) (by decide) (fun K hK => ?_)
      refine goes_ Try.func35 (by kernel_rfl) rfl #[.agg #[.int .i64 t307, .int .i64 t308], .slice Ao12 t309.length co12] (by rfl) rfl rfl (by (try simp only [List.map_toArray, List.map_cons, List.map_nil]); first | done | rfl | (simp only [List.length_drop, List.length_take]; rfl)) ?_
      with_reducible refine (spec_AdvanceTime.calls kj2 t307 t308 _ _ t309 t316 t317 _ ?side1 ?side2 A17.out).mono ?_
      (case side1 => repeat (first | exact (Kd.R_reads' HO311.out).2.2 | (with_reducible refine Kd.C_alloc ?_ _) | (with_reducible refine Kd.C_drewN ?_ _) | (with_reducible refine Kd.C_drew ?_)))
      (case side2 => exact (Kd.R_reads' HO311.out).2.1)
      rintro e w21 ⟨rfl, hb⟩
      refine ⟨_, rfl, ?_⟩
      have n0_ := Aside0.mk (Kd.R_below (by (with_reducible repeat (first | apply Kd.R_alloc | apply Kd.R_drewN | apply Kd.R_drew)); exact HO311.out) hb)
      have n1_ := Aside0.mk (blk_below (g := gb312) (o := .cells #[.int .i64 t307, .int .i64 t308] 38 (0, 0)) (by (with_reducible repeat (first | refine blk_drewN ?_ _ | refine blk_drew ?_ | refine blk_alloc ?_ _)); exact BK312.out) hb)
      have n2_ := Aside0.mk (blk_below (g := gb315) (o := .cells #[.int .i64 t313, .int .i64 t314] 38 (0, 0)) (by (with_reducible repeat (first | refine blk_drewN ?_ _ | refine blk_drew ?_ | refine blk_alloc ?_ _)); exact BK315.out) hb)
      have n3_ := Aside0.mk (below_step (by repeat (first | (with_reducible first | exact HB.out | apply below_alloc | apply pw_below_drewN | apply below_drew1 | refine below_set ?_ GE312.out | refine below_set ?_ GE315.out) | exact HB.out)) hb)
      clear HO311
      clear BK312
      clear BK315
      clear HB
      have HO311 := n0_
      have BK312 := n1_
      have BK315 := n2_
      have HB := n3_
      clear n0_ n1_ n2_ n3_
      (try clear hb)
      (try clear hb2)
      (try clear hk)
      (try clear hi)
      refine hK.out _ _ ⟨(blk_cell BK315.out 0).trans rfl, (blk_cell BK315.out 1).trans rfl, (blk_cell BK312.out 0).trans rfl, (blk_cell BK312.out 1).trans rfl⟩ (fun hHeld => ?_)
      clear hK K
      refine nS 28 ?_
      refine pT HT_ 4 29 (bm 15 31) ?_
      refine pT HT_ 5 30 (bm 15 63) ?_
      refine pU HT_ 6 31 (bm 15 127) ?_
      refine pU HT_ 7 32 (bm 15 255) ?_
      refine pU HT_ 8 33 (bm 15 511) ?_
      refine pT HT_ 9 34 (bm 15 1023) ?_
      refine pT HT_ 10 35 (bm 15 2047) ?_
      refine pU HT_ 11 36 (bm 15 4095) ?_
      refine pU HT_ 12 37 (bm 15 8191) ?_
      refine pU HT_ 13 38 (bm 15 16383) ?_
      refine pT HT_ 14 39 (bm 15 32767) ?_
      refine done_ (done_of HT_.out (by kernel_rfl)) ?_
      try go_wp2
      go_meet
      case rel => exact ⟨_, (true), (by first | rfl | (simp; done) | (simp [*]; done)), H', ⟨by have := HJ2.out; first | omega | exact Nat.le_refl _⟩, ⟨by (with_reducible repeat (first | apply Kd.R_alloc | apply Kd.R_drewN | apply Kd.R_drew)); exact HO311.out⟩, ⟨by (with_reducible repeat (first | refine blk_drewN ?_ _ | refine blk_drew ?_ | refine blk_alloc ?_ _)); exact BK312.out⟩, ⟨by (with_reducible repeat (first | refine blk_drewN ?_ _ | refine blk_drew ?_ | refine blk_alloc ?_ _)); exact BK315.out⟩, ⟨by repeat (first | (with_reducible first | exact HB.out | apply below_alloc | apply pw_below_drewN | apply below_drew1 | refine below_set ?_ GE312.out | refine below_set ?_ GE315.out) | exact HB.out)⟩⟩
     ·
      rw [if_neg c18] at H
      have c18b0 : (!(t313 == t316) || (!(t314 == t317))) = false := by simpa using c18
      clear c18
      (first | rw [c18b0] | (simp only [i64_w, i32_w]; rw [c18b0]) | skip)
      replace H := Option.bind_eq_some_iff.mp H
      obtain ⟨t318, A220, H⟩ := H
      replace H : (if t318 = true then ((impl_ValidTime.f t307 t308).bind fun t319 => (laws_FnAdvanceTime.j1 kj2 l1 t309 (!t319) t307 t308 t313 t314)) else (laws_FnAdvanceTime.j1 kj2 l1 t309 true t307 t308 t313 t314)) = some r := H
      have A22 := Aside0.mk A220
      clear A220
      by_cases c23 : t318 = true
      ·
       subst c23
       have H1 : ((impl_ValidTime.f t307 t308).bind fun t319 => (laws_FnAdvanceTime.j1 kj2 l1 t309 (!t319) t307 t308 t313 t314)) = some r := by rw [if_pos rfl] at H; exact H
       clear H
       have H := H1
       clear H1
       replace H := Option.bind_eq_some_iff.mp H
       obtain ⟨t319, A240, H⟩ := H
       replace H : (laws_FnAdvanceTime.j1 kj2 l1 t309 (!t319) t307 t308 t313 t314) = some r := H
       have A24 := Aside0.mk A240
       clear A240
       have H' := Aside0.mk H
       clear H
       try go_wp2
       have n0_ : Aside0 (Kd.R k38 38 ((w14.setCell ⟨gb315, 0, none⟩ (.int .i64 t313)).setCell ⟨gb315, 1, none⟩ (.int .i64 t314)) w.heap.size (fun k_ => k_ ≠ gb312 ∧ k_ ≠ gb315) (.slice Ao12 t309.length co12) t309) := ⟨by (with_reducible repeat (first | apply Kd.R_alloc | apply Kd.R_drewN | apply Kd.R_drew)); exact Kd.R_mono (Kd.R_far (p := ⟨gb315, 1, none⟩) (Kd.R_far (p := ⟨gb315, 0, none⟩) (Kd.R_mono HO311.out (fun k_ hk => (⟨hk, hk.2⟩ : _ ∧ k_ ≠ gb315))) (fun _ hk => hk.2) (.int .i64 t313)) (fun _ hk => hk.2) (.int .i64 t314)) (fun _ hk => ⟨hk.1.1.2, hk.1.2⟩)⟩
       have n1_ : Aside0 (((w14.setCell ⟨gb315, 0, none⟩ (.int .i64 t313)).setCell ⟨gb315, 1, none⟩ (.int .i64 t314)).heap[gb312]? = some (.cells #[.int .i64 t307, .int .i64 t308] 38 (0, 0))) := ⟨by (with_reducible repeat (first | refine blk_drewN ?_ _ | refine blk_drew ?_ | refine blk_alloc ?_ _)); refine blk_far ?_ NB312_315.out _; (with_reducible repeat (first | refine blk_drewN ?_ _ | refine blk_drew ?_ | refine blk_alloc ?_ _)); refine blk_far ?_ NB312_315.out _; (with_reducible repeat (first | refine blk_drewN ?_ _ | refine blk_drew ?_ | refine blk_alloc ?_ _)); exact BK312.out⟩
       have n2_ : Aside0 (((w14.setCell ⟨gb315, 0, none⟩ (.int .i64 t313)).setCell ⟨gb315, 1, none⟩ (.int .i64 t314)).heap[gb315]? = some (.cells #[.int .i64 t313, .int .i64 t314] 38 (0, 0))) := ⟨by (with_reducible repeat (first | refine blk_drewN ?_ _ | refine blk_drew ?_ | refine blk_alloc ?_ _)); refine blk_put (cs := #[.int .i64 t313, .int .i64 0]) ?_ 1 _ rfl; (with_reducible repeat (first | refine blk_drewN ?_ _ | refine blk_drew ?_ | refine blk_alloc ?_ _)); refine blk_put (cs := #[.int .i64 0, .int .i64 0]) ?_ 0 _ rfl; (with_reducible repeat (first | refine blk_drewN ?_ _ | refine blk_drew ?_ | refine blk_alloc ?_ _)); exact BK315.out⟩
       have n3_ : Aside0 (Below w.heap.size w ((w14.setCell ⟨gb315, 0, none⟩ (.int .i64 t313)).setCell ⟨gb315, 1, none⟩ (.int .i64 t314))) := ⟨by repeat (first | (with_reducible first | exact HB.out | apply below_alloc | apply pw_below_drewN | apply below_drew1 | refine below_set ?_ GE312.out | refine below_set ?_ GE315.out) | exact HB.out)⟩
       (try clear HO311)
       (try clear BK312)
       (try clear BK315)
       (try clear HB)
       generalize ((w14.setCell ⟨gb315, 0, none⟩ (.int .i64 t313)).setCell ⟨gb315, 1, none⟩ (.int .i64 t314)) = w25 at n0_ n1_ n2_ n3_ ⊢
       have HO311 := n0_
       have BK312 := n1_
       have BK315 := n2_
       have HB := n3_
       clear n0_ n1_ n2_ n3_
       have n0_ := Aside0.mk (Kd.R_drew HO311.out)
       have n1_ := Aside0.mk (blk_drew BK312.out)
       have n2_ := Aside0.mk (blk_drew BK315.out)
       have n3_ := Aside0.mk (below_drew1 HB.out)
       clear HO311
       clear BK312
       clear BK315
       clear HB
       have HO311 := n0_
       have BK312 := n1_
       have BK315 := n2_
       have HB := n3_
       clear n0_ n1_ n2_ n3_
       refine start_ (n := 15) (S := fun w' => w'.cell? ⟨gb315, 0, none⟩ = some (.int .i64 t313) ∧ w'.cell? ⟨gb315, 1, none⟩ = some (.int .i64 t314) ∧ w'.cell? ⟨gb312, 0, none⟩ = some (.int .i64 t307) ∧ w'.cell? ⟨gb312, 1, none⟩ = some (.int .i64 t308)) (ds := []) (Array.replicate 15 false) (by kernel_rfl) rfl rfl ⟨(blk_cell BK315.out 0).trans rfl, (blk_cell BK315.out 1).trans rfl, (blk_cell BK312.out 0).trans rfl, (blk_cell BK312.out 1).trans rfl⟩ (fun hHeld => ?_); refine with_tabW laws_FnAdvanceTime.tab5 laws_FnAdvanceTime.bits5 (fun HT_ HW_ => ?_)
       generalize w25.drew = w26 at HO311 BK312 BK315 HB hHeld ⊢
       refine pT HT_ 2 27 (bm 15 4) ?_
       refine tT HT_ HW_ hHeld 0 25 (bm 15 5) ?_
       refine tT HT_ HW_ hHeld 1 26 (bm 15 7) ?_
       refine one_ (i := 3) (N := some 28) (bm 15 15) rfl rfl (one_of HT_.out (by kernel_rfl)) (by decide) (fun K hK => ?_)
       refine goes_ Try.func35 (by kernel_rfl) rfl #[.agg #[.int .i64 t307, .int .i64 t308], .slice Ao12 t309.length co12] (by rfl) rfl rfl (by (try simp only [List.map_toArray, List.map_cons, List.map_nil]); first | done | rfl | (simp only [List.length_drop, List.length_take]; rfl)) ?_
       with_reducible refine (spec_AdvanceTime.calls kj2 t307 t308 _ _ t309 t316 t317 _ ?side1 ?side2 A17.out).mono ?_
       (case side1 => repeat (first | exact (Kd.R_reads' HO311.out).2.2 | (with_reducible refine Kd.C_alloc ?_ _) | (with_reducible refine Kd.C_drewN ?_ _) | (with_reducible refine Kd.C_drew ?_)))
       (case side2 => exact (Kd.R_reads' HO311.out).2.1)
       rintro e w27 ⟨rfl, hb⟩
       refine ⟨_, rfl, ?_⟩
       have n0_ := Aside0.mk (Kd.R_below (by (with_reducible repeat (first | apply Kd.R_alloc | apply Kd.R_drewN | apply Kd.R_drew)); exact HO311.out) hb)
       have n1_ := Aside0.mk (blk_below (g := gb312) (o := .cells #[.int .i64 t307, .int .i64 t308] 38 (0, 0)) (by (with_reducible repeat (first | refine blk_drewN ?_ _ | refine blk_drew ?_ | refine blk_alloc ?_ _)); exact BK312.out) hb)
       have n2_ := Aside0.mk (blk_below (g := gb315) (o := .cells #[.int .i64 t313, .int .i64 t314] 38 (0, 0)) (by (with_reducible repeat (first | refine blk_drewN ?_ _ | refine blk_drew ?_ | refine blk_alloc ?_ _)); exact BK315.out) hb)
       have n3_ := Aside0.mk (below_step (by repeat (first | (with_reducible first | exact HB.out | apply below_alloc | apply pw_below_drewN | apply below_drew1 | refine below_set ?_ GE312.out | refine below_set ?_ GE315.out) | exact HB.out)) hb)
       clear HO311
       clear BK312
       clear BK315
       clear HB
       have HO311 := n0_
       have BK312 := n1_
       have BK315 := n2_
       have HB := n3_
       clear n0_ n1_ n2_ n3_
       (try clear hb)
       (try clear hb2)
       (try clear hk)
       (try clear hi)
       refine hK.out _ _ ⟨(blk_cell BK315.out 0).trans rfl, (blk_cell BK315.out 1).trans rfl, (blk_cell BK312.out 0).trans rfl, (blk_cell BK312.out 1).trans rfl⟩ (fun hHeld => ?_)
       clear hK K
       refine nS 28 ?_
       refine pT HT_ 4 29 (bm 15 31) ?_
       refine pT HT_ 5 30 (bm 15 63) ?_
       refine pT HT_ 6 31 (bm 15 127) ?_
       refine one_ (i := 7) (N := some 32) (bm 15 255) rfl rfl (one_of HT_.out (by kernel_rfl)) (by decide) (fun K hK => ?_)
       refine goes_ Try.func18 (by kernel_rfl) rfl #[.slice Ao12 t309.length co12] (by rfl) rfl rfl (by (try simp only [List.map_toArray, List.map_cons, List.map_nil]); first | done | rfl | (simp only [List.length_drop, List.length_take]; rfl)) ?_
       with_reducible refine (impl_ValidFrontier.calls kj2 _ _ t309 true _ ?side1 ?side2 A22.out).mono ?_
       (case side1 => repeat (first | exact (Kd.R_reads' HO311.out).2.2 | (with_reducible refine Kd.C_alloc ?_ _) | (with_reducible refine Kd.C_drewN ?_ _) | (with_reducible refine Kd.C_drew ?_)))
       (case side2 => exact (Kd.R_reads' HO311.out).2.1)
       rintro e w28 ⟨rfl, hb⟩
       refine ⟨_, rfl, ?_⟩
       have n0_ := Aside0.mk (Kd.R_below (by (with_reducible repeat (first | apply Kd.R_alloc | apply Kd.R_drewN | apply Kd.R_drew)); exact HO311.out) hb)
       have n1_ := Aside0.mk (blk_below (g := gb312) (o := .cells #[.int .i64 t307, .int .i64 t308] 38 (0, 0)) (by (with_reducible repeat (first | refine blk_drewN ?_ _ | refine blk_drew ?_ | refine blk_alloc ?_ _)); exact BK312.out) hb)
       have n2_ := Aside0.mk (blk_below (g := gb315) (o := .cells #[.int .i64 t313, .int .i64 t314] 38 (0, 0)) (by (with_reducible repeat (first | refine blk_drewN ?_ _ | refine blk_drew ?_ | refine blk_alloc ?_ _)); exact BK315.out) hb)
       have n3_ := Aside0.mk (below_step (by repeat (first | (with_reducible first | exact HB.out | apply below_alloc | apply pw_below_drewN | apply below_drew1 | refine below_set ?_ GE312.out | refine below_set ?_ GE315.out) | exact HB.out)) hb)
       clear HO311
       clear BK312
       clear BK315
       clear HB
       have HO311 := n0_
       have BK312 := n1_
       have BK315 := n2_
       have HB := n3_
       clear n0_ n1_ n2_ n3_
       (try clear hb)
       (try clear hb2)
       (try clear hk)
       (try clear hi)
       refine hK.out _ _ ⟨(blk_cell BK315.out 0).trans rfl, (blk_cell BK315.out 1).trans rfl, (blk_cell BK312.out 0).trans rfl, (blk_cell BK312.out 1).trans rfl⟩ (fun hHeld => ?_)
       clear hK K
       refine nS 32 ?_
       refine pT HT_ 8 33 (bm 15 511) ?_
       refine pT HT_ 9 34 (bm 15 1023) ?_
       refine pT HT_ 10 35 (bm 15 2047) ?_
       refine tT HT_ HW_ hHeld 11 36 (bm 15 4095) ?_
       refine one_ (i := 12) (N := some 37) (bm 15 8191) rfl rfl (one_of HT_.out (by kernel_rfl)) (by decide) (fun K hK => ?_)
       refine goes_ Try.func43 (by kernel_rfl) rfl #[.agg #[.int .i64 t307, .int .i64 t308]] (by rfl) rfl rfl (by (try simp only [List.map_toArray, List.map_cons, List.map_nil]); first | done | rfl | (simp only [List.length_drop, List.length_take]; rfl)) ?_
       with_reducible refine (impl_ValidTime.calls t307 t308 t319 _ A24.out).mono ?_
       rintro e w29 ⟨rfl, hb⟩
       refine ⟨_, rfl, ?_⟩
       have n0_ := Aside0.mk (Kd.R_below (by (with_reducible repeat (first | apply Kd.R_alloc | apply Kd.R_drewN | apply Kd.R_drew)); exact HO311.out) hb)
       have n1_ := Aside0.mk (blk_below (g := gb312) (o := .cells #[.int .i64 t307, .int .i64 t308] 38 (0, 0)) (by (with_reducible repeat (first | refine blk_drewN ?_ _ | refine blk_drew ?_ | refine blk_alloc ?_ _)); exact BK312.out) hb)
       have n2_ := Aside0.mk (blk_below (g := gb315) (o := .cells #[.int .i64 t313, .int .i64 t314] 38 (0, 0)) (by (with_reducible repeat (first | refine blk_drewN ?_ _ | refine blk_drew ?_ | refine blk_alloc ?_ _)); exact BK315.out) hb)
       have n3_ := Aside0.mk (below_step (by repeat (first | (with_reducible first | exact HB.out | apply below_alloc | apply pw_below_drewN | apply below_drew1 | refine below_set ?_ GE312.out | refine below_set ?_ GE315.out) | exact HB.out)) hb)
       clear HO311
       clear BK312
       clear BK315
       clear HB
       have HO311 := n0_
       have BK312 := n1_
       have BK315 := n2_
       have HB := n3_
       clear n0_ n1_ n2_ n3_
       (try clear hb)
       (try clear hb2)
       (try clear hk)
       (try clear hi)
       refine hK.out _ _ ⟨(blk_cell BK315.out 0).trans rfl, (blk_cell BK315.out 1).trans rfl, (blk_cell BK312.out 0).trans rfl, (blk_cell BK312.out 1).trans rfl⟩ (fun hHeld => ?_)
       clear hK K
       refine nS 37 ?_
       refine pT HT_ 13 38 (bm 15 16383) ?_
       refine pT HT_ 14 39 (bm 15 32767) ?_
       refine done_ (done_of HT_.out (by kernel_rfl)) ?_
       try go_wp2
       go_meet
       case rel => exact ⟨_, (!t319), (by first | rfl | (simp; done) | (simp [*]; done)), H', ⟨by have := HJ2.out; first | omega | exact Nat.le_refl _⟩, ⟨by (with_reducible repeat (first | apply Kd.R_alloc | apply Kd.R_drewN | apply Kd.R_drew)); exact HO311.out⟩, ⟨by (with_reducible repeat (first | refine blk_drewN ?_ _ | refine blk_drew ?_ | refine blk_alloc ?_ _)); exact BK312.out⟩, ⟨by (with_reducible repeat (first | refine blk_drewN ?_ _ | refine blk_drew ?_ | refine blk_alloc ?_ _)); exact BK315.out⟩, ⟨by repeat (first | (with_reducible first | exact HB.out | apply below_alloc | apply pw_below_drewN | apply below_drew1 | refine below_set ?_ GE312.out | refine below_set ?_ GE315.out) | exact HB.out)⟩⟩
      ·
       replace c23 := Bool.eq_false_iff.mpr c23
       subst c23
       have H1 : (laws_FnAdvanceTime.j1 kj2 l1 t309 true t307 t308 t313 t314) = some r := by rw [if_neg (show ¬ (false = true) by decide)] at H; exact H
       clear H
       have H := H1
       clear H1
       have H' := Aside0.mk H
       clear H
       try go_wp2
       have n0_ : Aside0 (Kd.R k38 38 ((w14.setCell ⟨gb315, 0, none⟩ (.int .i64 t313)).setCell ⟨gb315, 1, none⟩ (.int .i64 t314)) w.heap.size (fun k_ => k_ ≠ gb312 ∧ k_ ≠ gb315) (.slice Ao12 t309.length co12) t309) := ⟨by (with_reducible repeat (first | apply Kd.R_alloc | apply Kd.R_drewN | apply Kd.R_drew)); exact Kd.R_mono (Kd.R_far (p := ⟨gb315, 1, none⟩) (Kd.R_far (p := ⟨gb315, 0, none⟩) (Kd.R_mono HO311.out (fun k_ hk => (⟨hk, hk.2⟩ : _ ∧ k_ ≠ gb315))) (fun _ hk => hk.2) (.int .i64 t313)) (fun _ hk => hk.2) (.int .i64 t314)) (fun _ hk => ⟨hk.1.1.2, hk.1.2⟩)⟩
       have n1_ : Aside0 (((w14.setCell ⟨gb315, 0, none⟩ (.int .i64 t313)).setCell ⟨gb315, 1, none⟩ (.int .i64 t314)).heap[gb312]? = some (.cells #[.int .i64 t307, .int .i64 t308] 38 (0, 0))) := ⟨by (with_reducible repeat (first | refine blk_drewN ?_ _ | refine blk_drew ?_ | refine blk_alloc ?_ _)); refine blk_far ?_ NB312_315.out _; (with_reducible repeat (first | refine blk_drewN ?_ _ | refine blk_drew ?_ | refine blk_alloc ?_ _)); refine blk_far ?_ NB312_315.out _; (with_reducible repeat (first | refine blk_drewN ?_ _ | refine blk_drew ?_ | refine blk_alloc ?_ _)); exact BK312.out⟩
       have n2_ : Aside0 (((w14.setCell ⟨gb315, 0, none⟩ (.int .i64 t313)).setCell ⟨gb315, 1, none⟩ (.int .i64 t314)).heap[gb315]? = some (.cells #[.int .i64 t313, .int .i64 t314] 38 (0, 0))) := ⟨by (with_reducible repeat (first | refine blk_drewN ?_ _ | refine blk_drew ?_ | refine blk_alloc ?_ _)); refine blk_put (cs := #[.int .i64 t313, .int .i64 0]) ?_ 1 _ rfl; (with_reducible repeat (first | refine blk_drewN ?_ _ | refine blk_drew ?_ | refine blk_alloc ?_ _)); refine blk_put (cs := #[.int .i64 0, .int .i64 0]) ?_ 0 _ rfl; (with_reducible repeat (first | refine blk_drewN ?_ _ | refine blk_drew ?_ | refine blk_alloc ?_ _)); exact BK315.out⟩
       have n3_ : Aside0 (Below w.heap.size w ((w14.setCell ⟨gb315, 0, none⟩ (.int .i64 t313)).setCell ⟨gb315, 1, none⟩ (.int .i64 t314))) := ⟨by repeat (first | (with_reducible first | exact HB.out | apply below_alloc | apply pw_below_drewN | apply below_drew1 | refine below_set ?_ GE312.out | refine below_set ?_ GE315.out) | exact HB.out)⟩
       (try clear HO311)
       (try clear BK312)
       (try clear BK315)
       (try clear HB)
       generalize ((w14.setCell ⟨gb315, 0, none⟩ (.int .i64 t313)).setCell ⟨gb315, 1, none⟩ (.int .i64 t314)) = w30 at n0_ n1_ n2_ n3_ ⊢
       have HO311 := n0_
       have BK312 := n1_
       have BK315 := n2_
       have HB := n3_
       clear n0_ n1_ n2_ n3_
       have n0_ := Aside0.mk (Kd.R_drew HO311.out)
       have n1_ := Aside0.mk (blk_drew BK312.out)
       have n2_ := Aside0.mk (blk_drew BK315.out)
       have n3_ := Aside0.mk (below_drew1 HB.out)
       clear HO311
       clear BK312
       clear BK315
       clear HB
       have HO311 := n0_
       have BK312 := n1_
       have BK315 := n2_
       have HB := n3_
       clear n0_ n1_ n2_ n3_
       refine start_ (n := 15) (S := fun w' => w'.cell? ⟨gb315, 0, none⟩ = some (.int .i64 t313) ∧ w'.cell? ⟨gb315, 1, none⟩ = some (.int .i64 t314) ∧ w'.cell? ⟨gb312, 0, none⟩ = some (.int .i64 t307) ∧ w'.cell? ⟨gb312, 1, none⟩ = some (.int .i64 t308)) (ds := []) (Array.replicate 15 false) (by kernel_rfl) rfl rfl ⟨(blk_cell BK315.out 0).trans rfl, (blk_cell BK315.out 1).trans rfl, (blk_cell BK312.out 0).trans rfl, (blk_cell BK312.out 1).trans rfl⟩ (fun hHeld => ?_); refine with_tabW laws_FnAdvanceTime.tab5 laws_FnAdvanceTime.bits5 (fun HT_ HW_ => ?_)
       generalize w30.drew = w31 at HO311 BK312 BK315 HB hHeld ⊢
       refine pT HT_ 2 27 (bm 15 4) ?_
       refine tT HT_ HW_ hHeld 0 25 (bm 15 5) ?_
       refine tT HT_ HW_ hHeld 1 26 (bm 15 7) ?_
       refine one_ (i := 3) (N := some 28) (bm 15 15) rfl rfl (one_of HT_.out (by kernel_rfl)) (by decide) (fun K hK => ?_)
       refine goes_ Try.func35 (by kernel_rfl) rfl #[.agg #[.int .i64 t307, .int .i64 t308], .slice Ao12 t309.length co12] (by rfl) rfl rfl (by (try simp only [List.map_toArray, List.map_cons, List.map_nil]); first | done | rfl | (simp only [List.length_drop, List.length_take]; rfl)) ?_
       with_reducible refine (spec_AdvanceTime.calls kj2 t307 t308 _ _ t309 t316 t317 _ ?side1 ?side2 A17.out).mono ?_
       (case side1 => repeat (first | exact (Kd.R_reads' HO311.out).2.2 | (with_reducible refine Kd.C_alloc ?_ _) | (with_reducible refine Kd.C_drewN ?_ _) | (with_reducible refine Kd.C_drew ?_)))
       (case side2 => exact (Kd.R_reads' HO311.out).2.1)
       rintro e w32 ⟨rfl, hb⟩
       refine ⟨_, rfl, ?_⟩
       have n0_ := Aside0.mk (Kd.R_below (by (with_reducible repeat (first | apply Kd.R_alloc | apply Kd.R_drewN | apply Kd.R_drew)); exact HO311.out) hb)
       have n1_ := Aside0.mk (blk_below (g := gb312) (o := .cells #[.int .i64 t307, .int .i64 t308] 38 (0, 0)) (by (with_reducible repeat (first | refine blk_drewN ?_ _ | refine blk_drew ?_ | refine blk_alloc ?_ _)); exact BK312.out) hb)
       have n2_ := Aside0.mk (blk_below (g := gb315) (o := .cells #[.int .i64 t313, .int .i64 t314] 38 (0, 0)) (by (with_reducible repeat (first | refine blk_drewN ?_ _ | refine blk_drew ?_ | refine blk_alloc ?_ _)); exact BK315.out) hb)
       have n3_ := Aside0.mk (below_step (by repeat (first | (with_reducible first | exact HB.out | apply below_alloc | apply pw_below_drewN | apply below_drew1 | refine below_set ?_ GE312.out | refine below_set ?_ GE315.out) | exact HB.out)) hb)
       clear HO311
       clear BK312
       clear BK315
       clear HB
       have HO311 := n0_
       have BK312 := n1_
       have BK315 := n2_
       have HB := n3_
       clear n0_ n1_ n2_ n3_
       (try clear hb)
       (try clear hb2)
       (try clear hk)
       (try clear hi)
       refine hK.out _ _ ⟨(blk_cell BK315.out 0).trans rfl, (blk_cell BK315.out 1).trans rfl, (blk_cell BK312.out 0).trans rfl, (blk_cell BK312.out 1).trans rfl⟩ (fun hHeld => ?_)
       clear hK K
       refine nS 28 ?_
       refine pT HT_ 4 29 (bm 15 31) ?_
       refine pT HT_ 5 30 (bm 15 63) ?_
       refine pT HT_ 6 31 (bm 15 127) ?_
       refine one_ (i := 7) (N := some 32) (bm 15 255) rfl rfl (one_of HT_.out (by kernel_rfl)) (by decide) (fun K hK => ?_)
       refine goes_ Try.func18 (by kernel_rfl) rfl #[.slice Ao12 t309.length co12] (by rfl) rfl rfl (by (try simp only [List.map_toArray, List.map_cons, List.map_nil]); first | done | rfl | (simp only [List.length_drop, List.length_take]; rfl)) ?_
       with_reducible refine (impl_ValidFrontier.calls kj2 _ _ t309 false _ ?side1 ?side2 A22.out).mono ?_
       (case side1 => repeat (first | exact (Kd.R_reads' HO311.out).2.2 | (with_reducible refine Kd.C_alloc ?_ _) | (with_reducible refine Kd.C_drewN ?_ _) | (with_reducible refine Kd.C_drew ?_)))
       (case side2 => exact (Kd.R_reads' HO311.out).2.1)
       rintro e w33 ⟨rfl, hb⟩
       refine ⟨_, rfl, ?_⟩
       have n0_ := Aside0.mk (Kd.R_below (by (with_reducible repeat (first | apply Kd.R_alloc | apply Kd.R_drewN | apply Kd.R_drew)); exact HO311.out) hb)
       have n1_ := Aside0.mk (blk_below (g := gb312) (o := .cells #[.int .i64 t307, .int .i64 t308] 38 (0, 0)) (by (with_reducible repeat (first | refine blk_drewN ?_ _ | refine blk_drew ?_ | refine blk_alloc ?_ _)); exact BK312.out) hb)
       have n2_ := Aside0.mk (blk_below (g := gb315) (o := .cells #[.int .i64 t313, .int .i64 t314] 38 (0, 0)) (by (with_reducible repeat (first | refine blk_drewN ?_ _ | refine blk_drew ?_ | refine blk_alloc ?_ _)); exact BK315.out) hb)
       have n3_ := Aside0.mk (below_step (by repeat (first | (with_reducible first | exact HB.out | apply below_alloc | apply pw_below_drewN | apply below_drew1 | refine below_set ?_ GE312.out | refine below_set ?_ GE315.out) | exact HB.out)) hb)
       clear HO311
       clear BK312
       clear BK315
       clear HB
       have HO311 := n0_
       have BK312 := n1_
       have BK315 := n2_
       have HB := n3_
       clear n0_ n1_ n2_ n3_
       (try clear hb)
       (try clear hb2)
       (try clear hk)
       (try clear hi)
       refine hK.out _ _ ⟨(blk_cell BK315.out 0).trans rfl, (blk_cell BK315.out 1).trans rfl, (blk_cell BK312.out 0).trans rfl, (blk_cell BK312.out 1).trans rfl⟩ (fun hHeld => ?_)
       clear hK K
       refine nS 32 ?_
       refine pT HT_ 8 33 (bm 15 511) ?_
       refine pT HT_ 9 34 (bm 15 1023) ?_
       refine pT HT_ 10 35 (bm 15 2047) ?_
       refine pU HT_ 11 36 (bm 15 4095) ?_
       refine pU HT_ 12 37 (bm 15 8191) ?_
       refine pU HT_ 13 38 (bm 15 16383) ?_
       refine pT HT_ 14 39 (bm 15 32767) ?_
       refine done_ (done_of HT_.out (by kernel_rfl)) ?_
       try go_wp2
       go_meet
       case rel => exact ⟨_, (true), (by first | rfl | (simp; done) | (simp [*]; done)), H', ⟨by have := HJ2.out; first | omega | exact Nat.le_refl _⟩, ⟨by (with_reducible repeat (first | apply Kd.R_alloc | apply Kd.R_drewN | apply Kd.R_drew)); exact HO311.out⟩, ⟨by (with_reducible repeat (first | refine blk_drewN ?_ _ | refine blk_drew ?_ | refine blk_alloc ?_ _)); exact BK312.out⟩, ⟨by (with_reducible repeat (first | refine blk_drewN ?_ _ | refine blk_drew ?_ | refine blk_alloc ?_ _)); exact BK315.out⟩, ⟨by repeat (first | (with_reducible first | exact HB.out | apply below_alloc | apply pw_below_drewN | apply below_drew1 | refine below_set ?_ GE312.out | refine below_set ?_ GE315.out) | exact HB.out)⟩⟩
    case rest =>
     clear HC8
     try clear c1
     try clear c2
     try clear p2
     try clear c3
     try clear c4
     try clear c18
     try clear c18b0
     try clear c23
     obtain ⟨kq, x39_7, rfl, HA, HJ7, HO_6, BK312, BK315, HB⟩ := hcut
     cases kq with
     | zero => exact absurd HA.out (by simp [laws_FnAdvanceTime.j1])
     | succ kj7 =>
      have H := HA.out
      clear HA
      simp only [laws_FnAdvanceTime.j1] at H
      by_cases c34 : x39_7 = true
      ·
       subst c34
       have H1 : ((spec_AdvanceTime.f kj7 t307 t308 t309).bind fun bt320 => (some (t313 == bt320.1 && (t314 == bt320.2)))) = some r := by rw [if_pos rfl] at H; exact H
       clear H
       have H := H1
       clear H1
       replace H := Option.bind_eq_some_iff.mp H
       obtain ⟨⟨t320, t321⟩, A350, H⟩ := H
       replace H : (some (t313 == t320 && (t314 == t321))) = some r := H
       have A35 := Aside0.mk A350
       clear A350
       obtain rfl := Option.some.inj H
       try go_wp2
       have n0_ := Aside0.mk (Kd.R_drew HO_6.out)
       have n1_ := Aside0.mk (blk_drew BK312.out)
       have n2_ := Aside0.mk (blk_drew BK315.out)
       have n3_ := Aside0.mk (below_drew1 HB.out)
       clear HO_6
       clear BK312
       clear BK315
       clear HB
       have HO_6 := n0_
       have BK312 := n1_
       have BK315 := n2_
       have HB := n3_
       clear n0_ n1_ n2_ n3_
       refine start_ (n := 6) (S := fun w' => w'.cell? ⟨gb315, 0, none⟩ = some (.int .i64 t313) ∧ w'.cell? ⟨gb315, 1, none⟩ = some (.int .i64 t314) ∧ w'.cell? ⟨gb312, 0, none⟩ = some (.int .i64 t307) ∧ w'.cell? ⟨gb312, 1, none⟩ = some (.int .i64 t308)) (ds := []) (Array.replicate 6 false) (by kernel_rfl) rfl rfl ⟨(blk_cell BK315.out 0).trans rfl, (blk_cell BK315.out 1).trans rfl, (blk_cell BK312.out 0).trans rfl, (blk_cell BK312.out 1).trans rfl⟩ (fun hHeld => ?_)
       generalize wc.drew = w36 at HO_6 BK312 BK315 HB hHeld ⊢
       refine p0 2 42 (bm 6 4) ?_
       refine t0 hHeld 0 40 (bm 6 5) ?_
       refine t0 hHeld 1 41 (bm 6 7) ?_
       refine one_ (i := 3) (N := some 43) (bm 6 15) rfl rfl (by kernel_rfl) (by decide) (fun K hK => ?_)
       refine goes_ Try.func35 (by kernel_rfl) rfl #[.agg #[.int .i64 t307, .int .i64 t308], .slice Ao12 t309.length co12] (by rfl) rfl rfl (by (try simp only [List.map_toArray, List.map_cons, List.map_nil]); first | done | rfl | (simp only [List.length_drop, List.length_take]; rfl)) ?_
       with_reducible refine (spec_AdvanceTime.calls kj7 t307 t308 _ _ t309 t320 t321 _ ?side1 ?side2 A35.out).mono ?_
       (case side1 => repeat (first | exact (Kd.R_reads' HO_6.out).2.2 | (with_reducible refine Kd.C_alloc ?_ _) | (with_reducible refine Kd.C_drewN ?_ _) | (with_reducible refine Kd.C_drew ?_)))
       (case side2 => exact (Kd.R_reads' HO_6.out).2.1)
       rintro e w37 ⟨rfl, hb⟩
       refine ⟨_, rfl, ?_⟩
       have n0_ := Aside0.mk (Kd.R_below (by (with_reducible repeat (first | apply Kd.R_alloc | apply Kd.R_drewN | apply Kd.R_drew)); exact HO_6.out) hb)
       have n1_ := Aside0.mk (blk_below (g := gb312) (o := .cells #[.int .i64 t307, .int .i64 t308] 38 (0, 0)) (by (with_reducible repeat (first | refine blk_drewN ?_ _ | refine blk_drew ?_ | refine blk_alloc ?_ _)); exact BK312.out) hb)
       have n2_ := Aside0.mk (blk_below (g := gb315) (o := .cells #[.int .i64 t313, .int .i64 t314] 38 (0, 0)) (by (with_reducible repeat (first | refine blk_drewN ?_ _ | refine blk_drew ?_ | refine blk_alloc ?_ _)); exact BK315.out) hb)
       have n3_ := Aside0.mk (below_step (by repeat (first | (with_reducible first | exact HB.out | apply below_alloc | apply pw_below_drewN | apply below_drew1 | refine below_set ?_ GE312.out | refine below_set ?_ GE315.out) | exact HB.out)) hb)
       clear HO_6
       clear BK312
       clear BK315
       clear HB
       have HO_6 := n0_
       have BK312 := n1_
       have BK315 := n2_
       have HB := n3_
       clear n0_ n1_ n2_ n3_
       (try clear hb)
       (try clear hb2)
       (try clear hk)
       (try clear hi)
       refine hK.out _ _ ⟨(blk_cell BK315.out 0).trans rfl, (blk_cell BK315.out 1).trans rfl, (blk_cell BK312.out 0).trans rfl, (blk_cell BK312.out 1).trans rfl⟩ (fun hHeld => ?_)
       clear hK K
       refine nS 43 ?_
       refine p0 4 44 (bm 6 31) ?_
       refine p0 5 4 (bm 6 63) ?_
       refine done_ (by kernel_rfl) ?_
       try go_wp2
       go_ret
       exact ⟨by first | rfl | (simp [errW_none, errW_some] <;> rfl) | (simp [*, errW_none, errW_some] <;> rfl), by repeat (first | (with_reducible first | exact HB.out | apply below_alloc | apply pw_below_drewN | apply below_drew1 | refine below_set ?_ GE312.out | refine below_set ?_ GE315.out) | exact HB.out)⟩
      ·
       replace c34 := Bool.eq_false_iff.mpr c34
       subst c34
       have H1 : ((spec_DrawValidTime.f kj7 l1).bind fun bt322 => ((impl_TimeLessEqual.f t307 t308 t313 t314).bind fun t325 => (if t325 = true then ((impl_AdvanceTime.f kj7 t313 t314 t309).bind fun bt326 => (if (bt326.1 == t313 && (bt326.2 == t314)) = true then ((impl_FrontierCovers.f kj7 t309 bt322.1 bt322.2).bind fun t328 => (if t328 = true then ((impl_TimeLessEqual.f t307 t308 bt322.1 bt322.2).bind fun t329 => ((impl_TimeLessEqual.f t313 t314 bt322.1 bt322.2).bind fun t330 => (some (t329 == t330)))) else (some true))) else (some false))) else (some false)))) = some r := by rw [if_neg (show ¬ (false = true) by decide)] at H; exact H
       clear H
       have H := H1
       clear H1
       replace H := Option.bind_eq_some_iff.mp H
       obtain ⟨⟨t322, t323⟩, A380, H⟩ := H
       replace H : ((impl_TimeLessEqual.f t307 t308 t313 t314).bind fun t325 => (if t325 = true then ((impl_AdvanceTime.f kj7 t313 t314 t309).bind fun bt326 => (if (bt326.1 == t313 && (bt326.2 == t314)) = true then ((impl_FrontierCovers.f kj7 t309 t322 t323).bind fun t328 => (if t328 = true then ((impl_TimeLessEqual.f t307 t308 t322 t323).bind fun t329 => ((impl_TimeLessEqual.f t313 t314 t322 t323).bind fun t330 => (some (t329 == t330)))) else (some true))) else (some false))) else (some false))) = some r := H
       have A38 := Aside0.mk A380
       clear A380
       replace H := Option.bind_eq_some_iff.mp H
       obtain ⟨t325, A390, H⟩ := H
       replace H : (if t325 = true then ((impl_AdvanceTime.f kj7 t313 t314 t309).bind fun bt326 => (if (bt326.1 == t313 && (bt326.2 == t314)) = true then ((impl_FrontierCovers.f kj7 t309 t322 t323).bind fun t328 => (if t328 = true then ((impl_TimeLessEqual.f t307 t308 t322 t323).bind fun t329 => ((impl_TimeLessEqual.f t313 t314 t322 t323).bind fun t330 => (some (t329 == t330)))) else (some true))) else (some false))) else (some false)) = some r := H
       have A39 := Aside0.mk A390
       clear A390
       by_cases c40 : t325 = true
       ·
        subst c40
        have H1 : ((impl_AdvanceTime.f kj7 t313 t314 t309).bind fun bt326 => (if (bt326.1 == t313 && (bt326.2 == t314)) = true then ((impl_FrontierCovers.f kj7 t309 t322 t323).bind fun t328 => (if t328 = true then ((impl_TimeLessEqual.f t307 t308 t322 t323).bind fun t329 => ((impl_TimeLessEqual.f t313 t314 t322 t323).bind fun t330 => (some (t329 == t330)))) else (some true))) else (some false))) = some r := by rw [if_pos rfl] at H; exact H
        clear H
        have H := H1
        clear H1
        replace H := Option.bind_eq_some_iff.mp H
        obtain ⟨⟨t326, t327⟩, A410, H⟩ := H
        replace H : (if (t326 == t313 && (t327 == t314)) = true then ((impl_FrontierCovers.f kj7 t309 t322 t323).bind fun t328 => (if t328 = true then ((impl_TimeLessEqual.f t307 t308 t322 t323).bind fun t329 => ((impl_TimeLessEqual.f t313 t314 t322 t323).bind fun t330 => (some (t329 == t330)))) else (some true))) else (some false)) = some r := H
        have A41 := Aside0.mk A410
        clear A410
        by_cases c42 : (t326 == t313 && (t327 == t314)) = true
        ·
         rw [if_pos c42] at H
         have c42b0 : (t326 == t313 && (t327 == t314)) = true := c42
         (try (have c42b1 : decide (t326 = t313 && (t327 == t314)) = true := by simpa using c42))
         (try (have c42b2 : (t326 == t313 && (t327 == t314)) = true := by simpa using c42))
         clear c42
         replace H := Option.bind_eq_some_iff.mp H
         obtain ⟨t328, A430, H⟩ := H
         replace H : (if t328 = true then ((impl_TimeLessEqual.f t307 t308 t322 t323).bind fun t329 => ((impl_TimeLessEqual.f t313 t314 t322 t323).bind fun t330 => (some (t329 == t330)))) else (some true)) = some r := H
         have A43 := Aside0.mk A430
         clear A430
         by_cases c44 : t328 = true
         ·
          subst c44
          have H1 : ((impl_TimeLessEqual.f t307 t308 t322 t323).bind fun t329 => ((impl_TimeLessEqual.f t313 t314 t322 t323).bind fun t330 => (some (t329 == t330)))) = some r := by rw [if_pos rfl] at H; exact H
          clear H
          have H := H1
          clear H1
          replace H := Option.bind_eq_some_iff.mp H
          obtain ⟨t329, A450, H⟩ := H
          replace H : ((impl_TimeLessEqual.f t313 t314 t322 t323).bind fun t330 => (some (t329 == t330))) = some r := H
          have A45 := Aside0.mk A450
          clear A450
          replace H := Option.bind_eq_some_iff.mp H
          obtain ⟨t330, A460, H⟩ := H
          replace H : (some (t329 == t330)) = some r := H
          have A46 := Aside0.mk A460
          clear A460
          obtain rfl := Option.some.inj H
          try go_wp2_with (first | ((with_reducible refine gate_callee (f := 40) rfl ?_); refine goesL_ (some 46) rfl rfl Try.func40 (by kernel_rfl) rfl #[.slice A1 l1.length c1] rfl (by (try simp only [List.map_toArray, List.map_cons, List.map_nil]); first | done | rfl | (simp only [List.length_drop, List.length_take]; rfl)) ?_; (with_reducible refine (spec_DrawValidTime.calls kj7 _ _ l1 t322 t323 _ ?side1 ?side2 A38.out).mono ?_); (case side1 => repeat (first | exact (Kd.C_below HR1.out HB.out) | (with_reducible refine Kd.C_alloc ?_ _) | (with_reducible refine Kd.C_drewN ?_ _) | (with_reducible refine Kd.C_drew ?_))); (case side2 => exact HC1.out); rintro e w47 ⟨rfl, hb⟩; refine ⟨_, rfl, ?_⟩; have n0_ := Aside0.mk (Kd.R_below (by (with_reducible repeat (first | apply Kd.R_alloc | apply Kd.R_drewN | apply Kd.R_drew)); exact HO_6.out) hb); have n1_ := Aside0.mk (blk_below (g := gb312) (o := .cells #[.int .i64 t307, .int .i64 t308] 38 (0, 0)) (by (with_reducible repeat (first | refine blk_drewN ?_ _ | refine blk_drew ?_ | refine blk_alloc ?_ _)); exact BK312.out) hb); have n2_ := Aside0.mk (blk_below (g := gb315) (o := .cells #[.int .i64 t313, .int .i64 t314] 38 (0, 0)) (by (with_reducible repeat (first | refine blk_drewN ?_ _ | refine blk_drew ?_ | refine blk_alloc ?_ _)); exact BK315.out) hb); have n3_ := Aside0.mk (below_step (by repeat (first | (with_reducible first | exact HB.out | apply below_alloc | apply pw_below_drewN | apply below_drew1 | refine below_set ?_ GE312.out | refine below_set ?_ GE315.out) | exact HB.out)) hb); clear HO_6; clear BK312; clear BK315; clear HB; have HO_6 := n0_; have BK312 := n1_; have BK315 := n2_; have HB := n3_; clear n0_ n1_ n2_ n3_; (try clear hb); (try clear hb2); (try clear hk); (try clear hi)) | ((with_reducible refine gate_dst (N := 8) rfl ?_); (try (refine gate_guard (by rfl) ?_; dsimp only)); refine box_event ?hg (N := 8) ?hd (cs := #[.int .i64 0, .int .i64 0]) (t := 38) ?hr ?_; (case hd => rfl); (case hg => rfl); (case hr => first | (go_simp; done) | (go_simp; rfl)); intro gb324 hg w48 hbox hb; have n0_ := Aside0.mk (Kd.R_below (Kd.R_elderB (by (with_reducible repeat (first | apply Kd.R_alloc | apply Kd.R_drewN | apply Kd.R_drew)); exact HO_6.out) gb324 (Nat.le_of_eq hg.symm)) hb); have n1_ := Aside0.mk (blk_below (g := gb312) (o := .cells #[.int .i64 t307, .int .i64 t308] 38 (0, 0)) (by (with_reducible repeat (first | refine blk_drewN ?_ _ | refine blk_drew ?_ | refine blk_alloc ?_ _)); exact BK312.out) hb); have n2_ := Aside0.mk (blk_below (g := gb315) (o := .cells #[.int .i64 t313, .int .i64 t314] 38 (0, 0)) (by (with_reducible repeat (first | refine blk_drewN ?_ _ | refine blk_drew ?_ | refine blk_alloc ?_ _)); exact BK315.out) hb); have n3_ := Aside0.mk (below_step (by repeat (first | (with_reducible first | exact HB.out | apply below_alloc | apply pw_below_drewN | apply below_drew1 | refine below_set ?_ GE312.out | refine below_set ?_ GE315.out) | exact HB.out)) hb); have n4_ := Aside0.mk (hbox); have n5_ := Aside0.mk ((by rw [hg]; exact (below_size (by repeat (first | (with_reducible first | exact HB.out | apply below_alloc | apply pw_below_drewN | apply below_drew1 | refine below_set ?_ GE312.out | refine below_set ?_ GE315.out) | exact HB.out))) : w.heap.size ≤ gb324)); have n6_ := Aside0.mk ((by rw [hg]; exact (below_size (by repeat (first | (with_reducible first | exact HB.out | apply below_alloc | apply pw_below_drewN | apply below_drew1 | refine below_set ?_ GE312.out | refine below_set ?_ GE315.out) | exact HB.out))) : w.heap.size ≤ gb324)); have n7_ := Aside0.mk ((by rw [hg]; exact Nat.ne_of_lt (blk_lt (g := gb312) (o := .cells #[.int .i64 t307, .int .i64 t308] 38 (0, 0)) (by (with_reducible repeat (first | refine blk_drewN ?_ _ | refine blk_drew ?_ | refine blk_alloc ?_ _)); exact BK312.out)) : gb312 ≠ gb324)); have n8_ := Aside0.mk ((by rw [hg]; exact Nat.ne_of_gt (blk_lt (g := gb312) (o := .cells #[.int .i64 t307, .int .i64 t308] 38 (0, 0)) (by (with_reducible repeat (first | refine blk_drewN ?_ _ | refine blk_drew ?_ | refine blk_alloc ?_ _)); exact BK312.out)) : gb324 ≠ gb312)); have n9_ := Aside0.mk ((by rw [hg]; exact Nat.ne_of_lt (blk_lt (g := gb315) (o := .cells #[.int .i64 t313, .int .i64 t314] 38 (0, 0)) (by (with_reducible repeat (first | refine blk_drewN ?_ _ | refine blk_drew ?_ | refine blk_alloc ?_ _)); exact BK315.out)) : gb315 ≠ gb324)); have n10_ := Aside0.mk ((by rw [hg]; exact Nat.ne_of_gt (blk_lt (g := gb315) (o := .cells #[.int .i64 t313, .int .i64 t314] 38 (0, 0)) (by (with_reducible repeat (first | refine blk_drewN ?_ _ | refine blk_drew ?_ | refine blk_alloc ?_ _)); exact BK315.out)) : gb324 ≠ gb315)); clear HO_6; clear BK312; clear BK315; clear HB; have HO_6 := n0_; have BK312 := n1_; have BK315 := n2_; have HB := n3_; have BK324 := n4_; have GW324 := n5_; have GE324 := n6_; have NB312_324 := n7_; have NB324_312 := n8_; have NB315_324 := n9_; have NB324_315 := n10_; clear n0_ n1_ n2_ n3_ n4_ n5_ n6_ n7_ n8_ n9_ n10_; clear hb hbox hg; have hnb49 := NB324_312.out; have hnc49 := NB312_324.out; have hnb50 := NB324_315.out; have hnc50 := NB315_324.out; have hcz51_0 : w48.cell? ⟨gb324, 0, none⟩ = some (.int .i64 0) := (blk_cell BK324.out 0).trans rfl; have hcz51_1 : w48.cell? ⟨gb324, 1, none⟩ = some (.int .i64 0) := (blk_cell BK324.out 1).trans rfl; have hfz51_0 := blk_frozen BK324.out 0; have hfz51_1 := blk_frozen BK324.out 1))
          have n0_ : Aside0 (Kd.R k38 38 ((w48.setCell ⟨gb324, 0, none⟩ (.int .i64 t322)).setCell ⟨gb324, 1, none⟩ (.int .i64 t323)) w.heap.size (fun k_ => k_ ≠ gb312 ∧ k_ ≠ gb315 ∧ k_ ≠ gb324) (.slice Ao12 t309.length co12) t309) := ⟨by (with_reducible repeat (first | apply Kd.R_alloc | apply Kd.R_drewN | apply Kd.R_drew)); exact Kd.R_mono (Kd.R_far (p := ⟨gb324, 1, none⟩) (Kd.R_far (p := ⟨gb324, 0, none⟩) (Kd.R_mono HO_6.out (fun k_ hk => (⟨hk, hk.2⟩ : _ ∧ k_ ≠ gb324))) (fun _ hk => hk.2) (.int .i64 t322)) (fun _ hk => hk.2) (.int .i64 t323)) (fun _ hk => ⟨hk.1.1.1, ⟨hk.1.1.2, hk.1.2⟩⟩)⟩
          have n1_ : Aside0 (((w48.setCell ⟨gb324, 0, none⟩ (.int .i64 t322)).setCell ⟨gb324, 1, none⟩ (.int .i64 t323)).heap[gb312]? = some (.cells #[.int .i64 t307, .int .i64 t308] 38 (0, 0))) := ⟨by (with_reducible repeat (first | refine blk_drewN ?_ _ | refine blk_drew ?_ | refine blk_alloc ?_ _)); refine blk_far ?_ NB312_324.out _; (with_reducible repeat (first | refine blk_drewN ?_ _ | refine blk_drew ?_ | refine blk_alloc ?_ _)); refine blk_far ?_ NB312_324.out _; (with_reducible repeat (first | refine blk_drewN ?_ _ | refine blk_drew ?_ | refine blk_alloc ?_ _)); exact BK312.out⟩
          have n2_ : Aside0 (((w48.setCell ⟨gb324, 0, none⟩ (.int .i64 t322)).setCell ⟨gb324, 1, none⟩ (.int .i64 t323)).heap[gb315]? = some (.cells #[.int .i64 t313, .int .i64 t314] 38 (0, 0))) := ⟨by (with_reducible repeat (first | refine blk_drewN ?_ _ | refine blk_drew ?_ | refine blk_alloc ?_ _)); refine blk_far ?_ NB315_324.out _; (with_reducible repeat (first | refine blk_drewN ?_ _ | refine blk_drew ?_ | refine blk_alloc ?_ _)); refine blk_far ?_ NB315_324.out _; (with_reducible repeat (first | refine blk_drewN ?_ _ | refine blk_drew ?_ | refine blk_alloc ?_ _)); exact BK315.out⟩
          have n3_ : Aside0 (((w48.setCell ⟨gb324, 0, none⟩ (.int .i64 t322)).setCell ⟨gb324, 1, none⟩ (.int .i64 t323)).heap[gb324]? = some (.cells #[.int .i64 t322, .int .i64 t323] 38 (0, 0))) := ⟨by (with_reducible repeat (first | refine blk_drewN ?_ _ | refine blk_drew ?_ | refine blk_alloc ?_ _)); refine blk_put (cs := #[.int .i64 t322, .int .i64 0]) ?_ 1 _ rfl; (with_reducible repeat (first | refine blk_drewN ?_ _ | refine blk_drew ?_ | refine blk_alloc ?_ _)); refine blk_put (cs := #[.int .i64 0, .int .i64 0]) ?_ 0 _ rfl; (with_reducible repeat (first | refine blk_drewN ?_ _ | refine blk_drew ?_ | refine blk_alloc ?_ _)); exact BK324.out⟩
          have n4_ : Aside0 (Below w.heap.size w ((w48.setCell ⟨gb324, 0, none⟩ (.int .i64 t322)).setCell ⟨gb324, 1, none⟩ (.int .i64 t323))) := ⟨by repeat (first | (with_reducible first | exact HB.out | apply below_alloc | apply pw_below_drewN | apply below_drew1 | refine below_set ?_ GE312.out | refine below_set ?_ GE315.out | refine below_set ?_ GE324.out) | exact HB.out)⟩
          (try clear HO_6)
          (try clear BK312)
          (try clear BK315)
          (try clear BK324)
          (try clear HB)
          generalize ((w48.setCell ⟨gb324, 0, none⟩ (.int .i64 t322)).setCell ⟨gb324, 1, none⟩ (.int .i64 t323)) = w52 at n0_ n1_ n2_ n3_ n4_ ⊢
          have HO_6 := n0_
          have BK312 := n1_
          have BK315 := n2_
          have BK324 := n3_
          have HB := n4_
          clear n0_ n1_ n2_ n3_ n4_
          have n0_ := Aside0.mk (Kd.R_drew HO_6.out)
          have n1_ := Aside0.mk (blk_drew BK312.out)
          have n2_ := Aside0.mk (blk_drew BK315.out)
          have n3_ := Aside0.mk (blk_drew BK324.out)
          have n4_ := Aside0.mk (below_drew1 HB.out)
          clear HO_6
          clear BK312
          clear BK315
          clear BK324
          clear HB
          have HO_6 := n0_
          have BK312 := n1_
          have BK315 := n2_
          have BK324 := n3_
          have HB := n4_
          clear n0_ n1_ n2_ n3_ n4_
          refine start_ (n := 26) (S := fun w' => w'.cell? ⟨gb312, 0, none⟩ = some (.int .i64 t307) ∧ w'.cell? ⟨gb312, 1, none⟩ = some (.int .i64 t308) ∧ w'.cell? ⟨gb315, 0, none⟩ = some (.int .i64 t313) ∧ w'.cell? ⟨gb315, 1, none⟩ = some (.int .i64 t314) ∧ w'.cell? ⟨gb324, 0, none⟩ = some (.int .i64 t322) ∧ w'.cell? ⟨gb324, 1, none⟩ = some (.int .i64 t323)) (ds := []) (Array.replicate 26 false) (by kernel_rfl) rfl rfl ⟨(blk_cell BK312.out 0).trans rfl, (blk_cell BK312.out 1).trans rfl, (blk_cell BK315.out 0).trans rfl, (blk_cell BK315.out 1).trans rfl, (blk_cell BK324.out 0).trans rfl, (blk_cell BK324.out 1).trans rfl⟩ (fun hHeld => ?_); refine with_tabW laws_FnAdvanceTime.tab8 laws_FnAdvanceTime.bits8 (fun HT_ HW_ => ?_)
          generalize w52.drew = w53 at HO_6 BK312 BK315 BK324 HB hHeld ⊢
          refine tT HT_ HW_ hHeld 0 47 (bm 26 1) ?_
          refine tT HT_ HW_ hHeld 1 48 (bm 26 3) ?_
          refine one_ (i := 2) (N := some 49) (bm 26 7) rfl rfl (one_of HT_.out (by kernel_rfl)) (by decide) (fun K hK => ?_)
          refine goes_ Try.func44 (by kernel_rfl) rfl #[.agg #[.int .i64 t307, .int .i64 t308], .agg #[.int .i64 t313, .int .i64 t314]] (by rfl) rfl rfl (by (try simp only [List.map_toArray, List.map_cons, List.map_nil]); first | done | rfl | (simp only [List.length_drop, List.length_take]; rfl)) ?_
          with_reducible refine (impl_TimeLessEqual.calls t307 t308 t313 t314 true _ A39.out).mono ?_
          rintro e w54 ⟨rfl, hb⟩
          refine ⟨_, rfl, ?_⟩
          have n0_ := Aside0.mk (Kd.R_below (by (with_reducible repeat (first | apply Kd.R_alloc | apply Kd.R_drewN | apply Kd.R_drew)); exact HO_6.out) hb)
          have n1_ := Aside0.mk (blk_below (g := gb312) (o := .cells #[.int .i64 t307, .int .i64 t308] 38 (0, 0)) (by (with_reducible repeat (first | refine blk_drewN ?_ _ | refine blk_drew ?_ | refine blk_alloc ?_ _)); exact BK312.out) hb)
          have n2_ := Aside0.mk (blk_below (g := gb315) (o := .cells #[.int .i64 t313, .int .i64 t314] 38 (0, 0)) (by (with_reducible repeat (first | refine blk_drewN ?_ _ | refine blk_drew ?_ | refine blk_alloc ?_ _)); exact BK315.out) hb)
          have n3_ := Aside0.mk (blk_below (g := gb324) (o := .cells #[.int .i64 t322, .int .i64 t323] 38 (0, 0)) (by (with_reducible repeat (first | refine blk_drewN ?_ _ | refine blk_drew ?_ | refine blk_alloc ?_ _)); exact BK324.out) hb)
          have n4_ := Aside0.mk (below_step (by repeat (first | (with_reducible first | exact HB.out | apply below_alloc | apply pw_below_drewN | apply below_drew1 | refine below_set ?_ GE312.out | refine below_set ?_ GE315.out | refine below_set ?_ GE324.out) | exact HB.out)) hb)
          clear HO_6
          clear BK312
          clear BK315
          clear BK324
          clear HB
          have HO_6 := n0_
          have BK312 := n1_
          have BK315 := n2_
          have BK324 := n3_
          have HB := n4_
          clear n0_ n1_ n2_ n3_ n4_
          (try clear hb)
          (try clear hb2)
          (try clear hk)
          (try clear hi)
          refine hK.out _ _ ⟨(blk_cell BK312.out 0).trans rfl, (blk_cell BK312.out 1).trans rfl, (blk_cell BK315.out 0).trans rfl, (blk_cell BK315.out 1).trans rfl, (blk_cell BK324.out 0).trans rfl, (blk_cell BK324.out 1).trans rfl⟩ (fun hHeld => ?_)
          clear hK K
          refine nS 49 ?_
          refine pT HT_ 3 50 (bm 26 15) ?_
          refine pT HT_ 5 52 (bm 26 47) ?_
          refine tT HT_ HW_ hHeld 4 51 (bm 26 63) ?_
          refine tT HT_ HW_ hHeld 7 54 (bm 26 191) ?_
          refine one_ (i := 6) (N := some 53) (bm 26 255) rfl rfl (one_of HT_.out (by kernel_rfl)) (by decide) (fun K hK => ?_)
          refine goes_ Try.func36 (by kernel_rfl) rfl #[.agg #[.int .i64 t313, .int .i64 t314], .slice Ao12 t309.length co12] (by rfl) rfl rfl (by (try simp only [List.map_toArray, List.map_cons, List.map_nil]); first | done | rfl | (simp only [List.length_drop, List.length_take]; rfl)) ?_
          with_reducible refine (impl_AdvanceTime.calls kj7 t313 t314 _ _ t309 t326 t327 _ ?side1 ?side2 A41.out).mono ?_
          (case side1 => repeat (first | exact (Kd.R_reads' HO_6.out).2.2 | (with_reducible refine Kd.C_alloc ?_ _) | (with_reducible refine Kd.C_drewN ?_ _) | (with_reducible refine Kd.C_drew ?_)))
          (case side2 => exact (Kd.R_reads' HO_6.out).2.1)
          rintro e w55 ⟨rfl, hb⟩
          refine ⟨_, rfl, ?_⟩
          have n0_ := Aside0.mk (Kd.R_below (by (with_reducible repeat (first | apply Kd.R_alloc | apply Kd.R_drewN | apply Kd.R_drew)); exact HO_6.out) hb)
          have n1_ := Aside0.mk (blk_below (g := gb312) (o := .cells #[.int .i64 t307, .int .i64 t308] 38 (0, 0)) (by (with_reducible repeat (first | refine blk_drewN ?_ _ | refine blk_drew ?_ | refine blk_alloc ?_ _)); exact BK312.out) hb)
          have n2_ := Aside0.mk (blk_below (g := gb315) (o := .cells #[.int .i64 t313, .int .i64 t314] 38 (0, 0)) (by (with_reducible repeat (first | refine blk_drewN ?_ _ | refine blk_drew ?_ | refine blk_alloc ?_ _)); exact BK315.out) hb)
          have n3_ := Aside0.mk (blk_below (g := gb324) (o := .cells #[.int .i64 t322, .int .i64 t323] 38 (0, 0)) (by (with_reducible repeat (first | refine blk_drewN ?_ _ | refine blk_drew ?_ | refine blk_alloc ?_ _)); exact BK324.out) hb)
          have n4_ := Aside0.mk (below_step (by repeat (first | (with_reducible first | exact HB.out | apply below_alloc | apply pw_below_drewN | apply below_drew1 | refine below_set ?_ GE312.out | refine below_set ?_ GE315.out | refine below_set ?_ GE324.out) | exact HB.out)) hb)
          clear HO_6
          clear BK312
          clear BK315
          clear BK324
          clear HB
          have HO_6 := n0_
          have BK312 := n1_
          have BK315 := n2_
          have BK324 := n3_
          have HB := n4_
          clear n0_ n1_ n2_ n3_ n4_
          (try clear hb)
          (try clear hb2)
          (try clear hk)
          (try clear hi)
          refine hK.out _ _ ⟨(blk_cell BK312.out 0).trans rfl, (blk_cell BK312.out 1).trans rfl, (blk_cell BK315.out 0).trans rfl, (blk_cell BK315.out 1).trans rfl, (blk_cell BK324.out 0).trans rfl, (blk_cell BK324.out 1).trans rfl⟩ (fun hHeld => ?_)
          clear hK K
          refine nS 53 ?_
          refine pT HT_ 8 55 (bm 26 511) ?_
          refine pT HT_ 9 56 (bm 26 1023) ?_
          refine pT HT_ 10 57 (bm 26 2047) ?_
          refine pT HT_ 11 58 (bm 26 4095) ?_
          refine tT HT_ HW_ hHeld 12 59 (bm 26 8191) ?_
          refine one_ (i := 13) (N := some 60) (bm 26 16383) rfl rfl (one_of HT_.out (by kernel_rfl)) (by decide) (fun K hK => ?_)
          refine goes_ Try.func28 (by kernel_rfl) rfl #[.slice Ao12 t309.length co12, .agg #[.int .i64 t322, .int .i64 t323]] (by rfl) rfl rfl (by (try simp only [List.map_toArray, List.map_cons, List.map_nil]); first | done | rfl | (simp only [List.length_drop, List.length_take]; rfl)) ?_
          with_reducible refine (impl_FrontierCovers.calls kj7 _ _ t309 t322 t323 true _ ?side1 ?side2 A43.out).mono ?_
          (case side1 => repeat (first | exact (Kd.R_reads' HO_6.out).2.2 | (with_reducible refine Kd.C_alloc ?_ _) | (with_reducible refine Kd.C_drewN ?_ _) | (with_reducible refine Kd.C_drew ?_)))
          (case side2 => exact (Kd.R_reads' HO_6.out).2.1)
          rintro e w56 ⟨rfl, hb⟩
          refine ⟨_, rfl, ?_⟩
          have n0_ := Aside0.mk (Kd.R_below (by (with_reducible repeat (first | apply Kd.R_alloc | apply Kd.R_drewN | apply Kd.R_drew)); exact HO_6.out) hb)
          have n1_ := Aside0.mk (blk_below (g := gb312) (o := .cells #[.int .i64 t307, .int .i64 t308] 38 (0, 0)) (by (with_reducible repeat (first | refine blk_drewN ?_ _ | refine blk_drew ?_ | refine blk_alloc ?_ _)); exact BK312.out) hb)
          have n2_ := Aside0.mk (blk_below (g := gb315) (o := .cells #[.int .i64 t313, .int .i64 t314] 38 (0, 0)) (by (with_reducible repeat (first | refine blk_drewN ?_ _ | refine blk_drew ?_ | refine blk_alloc ?_ _)); exact BK315.out) hb)
          have n3_ := Aside0.mk (blk_below (g := gb324) (o := .cells #[.int .i64 t322, .int .i64 t323] 38 (0, 0)) (by (with_reducible repeat (first | refine blk_drewN ?_ _ | refine blk_drew ?_ | refine blk_alloc ?_ _)); exact BK324.out) hb)
          have n4_ := Aside0.mk (below_step (by repeat (first | (with_reducible first | exact HB.out | apply below_alloc | apply pw_below_drewN | apply below_drew1 | refine below_set ?_ GE312.out | refine below_set ?_ GE315.out | refine below_set ?_ GE324.out) | exact HB.out)) hb)
          clear HO_6
          clear BK312
          clear BK315
          clear BK324
          clear HB
          have HO_6 := n0_
          have BK312 := n1_
          have BK315 := n2_
          have BK324 := n3_
          have HB := n4_
          clear n0_ n1_ n2_ n3_ n4_
          (try clear hb)
          (try clear hb2)
          (try clear hk)
          (try clear hi)
          refine hK.out _ _ ⟨(blk_cell BK312.out 0).trans rfl, (blk_cell BK312.out 1).trans rfl, (blk_cell BK315.out 0).trans rfl, (blk_cell BK315.out 1).trans rfl, (blk_cell BK324.out 0).trans rfl, (blk_cell BK324.out 1).trans rfl⟩ (fun hHeld => ?_)
          clear hK K
          refine nS 60 ?_
          refine pT HT_ 14 61 (bm 26 32767) ?_
          refine pT HT_ 15 62 (bm 26 65535) ?_
          refine tT HT_ HW_ hHeld 16 63 (bm 26 131071) ?_
          refine tT HT_ HW_ hHeld 17 64 (bm 26 262143) ?_
          refine tT HT_ HW_ hHeld 19 66 (bm 26 786431) ?_
          refine tT HT_ HW_ hHeld 20 67 (bm 26 1835007) ?_
          refine one_ (i := 18) (N := some 65) (bm 26 2097151) rfl rfl (one_of HT_.out (by kernel_rfl)) (by decide) (fun K hK => ?_)
          refine goes_ Try.func44 (by kernel_rfl) rfl #[.agg #[.int .i64 t307, .int .i64 t308], .agg #[.int .i64 t322, .int .i64 t323]] (by rfl) rfl rfl (by (try simp only [List.map_toArray, List.map_cons, List.map_nil]); first | done | rfl | (simp only [List.length_drop, List.length_take]; rfl)) ?_
          with_reducible refine (impl_TimeLessEqual.calls t307 t308 t322 t323 t329 _ A45.out).mono ?_
          rintro e w57 ⟨rfl, hb⟩
          refine ⟨_, rfl, ?_⟩
          have n0_ := Aside0.mk (Kd.R_below (by (with_reducible repeat (first | apply Kd.R_alloc | apply Kd.R_drewN | apply Kd.R_drew)); exact HO_6.out) hb)
          have n1_ := Aside0.mk (blk_below (g := gb312) (o := .cells #[.int .i64 t307, .int .i64 t308] 38 (0, 0)) (by (with_reducible repeat (first | refine blk_drewN ?_ _ | refine blk_drew ?_ | refine blk_alloc ?_ _)); exact BK312.out) hb)
          have n2_ := Aside0.mk (blk_below (g := gb315) (o := .cells #[.int .i64 t313, .int .i64 t314] 38 (0, 0)) (by (with_reducible repeat (first | refine blk_drewN ?_ _ | refine blk_drew ?_ | refine blk_alloc ?_ _)); exact BK315.out) hb)
          have n3_ := Aside0.mk (blk_below (g := gb324) (o := .cells #[.int .i64 t322, .int .i64 t323] 38 (0, 0)) (by (with_reducible repeat (first | refine blk_drewN ?_ _ | refine blk_drew ?_ | refine blk_alloc ?_ _)); exact BK324.out) hb)
          have n4_ := Aside0.mk (below_step (by repeat (first | (with_reducible first | exact HB.out | apply below_alloc | apply pw_below_drewN | apply below_drew1 | refine below_set ?_ GE312.out | refine below_set ?_ GE315.out | refine below_set ?_ GE324.out) | exact HB.out)) hb)
          clear HO_6
          clear BK312
          clear BK315
          clear BK324
          clear HB
          have HO_6 := n0_
          have BK312 := n1_
          have BK315 := n2_
          have BK324 := n3_
          have HB := n4_
          clear n0_ n1_ n2_ n3_ n4_
          (try clear hb)
          (try clear hb2)
          (try clear hk)
          (try clear hi)
          refine hK.out _ _ ⟨(blk_cell BK312.out 0).trans rfl, (blk_cell BK312.out 1).trans rfl, (blk_cell BK315.out 0).trans rfl, (blk_cell BK315.out 1).trans rfl, (blk_cell BK324.out 0).trans rfl, (blk_cell BK324.out 1).trans rfl⟩ (fun hHeld => ?_)
          clear hK K
          refine nS 65 ?_
          refine one_ (i := 21) (N := some 68) (bm 26 4194303) rfl rfl (one_of HT_.out (by kernel_rfl)) (by decide) (fun K hK => ?_)
          refine goes_ Try.func44 (by kernel_rfl) rfl #[.agg #[.int .i64 t313, .int .i64 t314], .agg #[.int .i64 t322, .int .i64 t323]] (by rfl) rfl rfl (by (try simp only [List.map_toArray, List.map_cons, List.map_nil]); first | done | rfl | (simp only [List.length_drop, List.length_take]; rfl)) ?_
          with_reducible refine (impl_TimeLessEqual.calls t313 t314 t322 t323 t330 _ A46.out).mono ?_
          rintro e w58 ⟨rfl, hb⟩
          refine ⟨_, rfl, ?_⟩
          have n0_ := Aside0.mk (Kd.R_below (by (with_reducible repeat (first | apply Kd.R_alloc | apply Kd.R_drewN | apply Kd.R_drew)); exact HO_6.out) hb)
          have n1_ := Aside0.mk (blk_below (g := gb312) (o := .cells #[.int .i64 t307, .int .i64 t308] 38 (0, 0)) (by (with_reducible repeat (first | refine blk_drewN ?_ _ | refine blk_drew ?_ | refine blk_alloc ?_ _)); exact BK312.out) hb)
          have n2_ := Aside0.mk (blk_below (g := gb315) (o := .cells #[.int .i64 t313, .int .i64 t314] 38 (0, 0)) (by (with_reducible repeat (first | refine blk_drewN ?_ _ | refine blk_drew ?_ | refine blk_alloc ?_ _)); exact BK315.out) hb)
          have n3_ := Aside0.mk (blk_below (g := gb324) (o := .cells #[.int .i64 t322, .int .i64 t323] 38 (0, 0)) (by (with_reducible repeat (first | refine blk_drewN ?_ _ | refine blk_drew ?_ | refine blk_alloc ?_ _)); exact BK324.out) hb)
          have n4_ := Aside0.mk (below_step (by repeat (first | (with_reducible first | exact HB.out | apply below_alloc | apply pw_below_drewN | apply below_drew1 | refine below_set ?_ GE312.out | refine below_set ?_ GE315.out | refine below_set ?_ GE324.out) | exact HB.out)) hb)
          clear HO_6
          clear BK312
          clear BK315
          clear BK324
          clear HB
          have HO_6 := n0_
          have BK312 := n1_
          have BK315 := n2_
          have BK324 := n3_
          have HB := n4_
          clear n0_ n1_ n2_ n3_ n4_
          (try clear hb)
          (try clear hb2)
          (try clear hk)
          (try clear hi)
          refine hK.out _ _ ⟨(blk_cell BK312.out 0).trans rfl, (blk_cell BK312.out 1).trans rfl, (blk_cell BK315.out 0).trans rfl, (blk_cell BK315.out 1).trans rfl, (blk_cell BK324.out 0).trans rfl, (blk_cell BK324.out 1).trans rfl⟩ (fun hHeld => ?_)
          clear hK K
          refine nS 68 ?_
          refine pT HT_ 22 69 (bm 26 8388607) ?_
          refine pT HT_ 23 70 (bm 26 16777215) ?_
          refine pT HT_ 24 71 (bm 26 33554431) ?_
          refine pT HT_ 25 4 (bm 26 67108863) ?_
          refine done_ (done_of HT_.out (by kernel_rfl)) ?_
          try go_wp2
          go_ret
          exact ⟨by first | rfl | (simp [errW_none, errW_some] <;> rfl) | (simp [*, errW_none, errW_some] <;> rfl), by repeat (first | (with_reducible first | exact HB.out | apply below_alloc | apply pw_below_drewN | apply below_drew1 | refine below_set ?_ GE312.out | refine below_set ?_ GE315.out | refine below_set ?_ GE324.out) | exact HB.out)⟩
         ·
          replace c44 := Bool.eq_false_iff.mpr c44
          subst c44
          have H1 : (some true) = some r := by rw [if_neg (show ¬ (false = true) by decide)] at H; exact H
          clear H
          have H := H1
          clear H1
          obtain rfl := Option.some.inj H
          try go_wp2_with (first | ((with_reducible refine gate_callee (f := 40) rfl ?_); refine goesL_ (some 46) rfl rfl Try.func40 (by kernel_rfl) rfl #[.slice A1 l1.length c1] rfl (by (try simp only [List.map_toArray, List.map_cons, List.map_nil]); first | done | rfl | (simp only [List.length_drop, List.length_take]; rfl)) ?_; (with_reducible refine (spec_DrawValidTime.calls kj7 _ _ l1 t322 t323 _ ?side1 ?side2 A38.out).mono ?_); (case side1 => repeat (first | exact (Kd.C_below HR1.out HB.out) | (with_reducible refine Kd.C_alloc ?_ _) | (with_reducible refine Kd.C_drewN ?_ _) | (with_reducible refine Kd.C_drew ?_))); (case side2 => exact HC1.out); rintro e w59 ⟨rfl, hb⟩; refine ⟨_, rfl, ?_⟩; have n0_ := Aside0.mk (Kd.R_below (by (with_reducible repeat (first | apply Kd.R_alloc | apply Kd.R_drewN | apply Kd.R_drew)); exact HO_6.out) hb); have n1_ := Aside0.mk (blk_below (g := gb312) (o := .cells #[.int .i64 t307, .int .i64 t308] 38 (0, 0)) (by (with_reducible repeat (first | refine blk_drewN ?_ _ | refine blk_drew ?_ | refine blk_alloc ?_ _)); exact BK312.out) hb); have n2_ := Aside0.mk (blk_below (g := gb315) (o := .cells #[.int .i64 t313, .int .i64 t314] 38 (0, 0)) (by (with_reducible repeat (first | refine blk_drewN ?_ _ | refine blk_drew ?_ | refine blk_alloc ?_ _)); exact BK315.out) hb); have n3_ := Aside0.mk (below_step (by repeat (first | (with_reducible first | exact HB.out | apply below_alloc | apply pw_below_drewN | apply below_drew1 | refine below_set ?_ GE312.out | refine below_set ?_ GE315.out) | exact HB.out)) hb); clear HO_6; clear BK312; clear BK315; clear HB; have HO_6 := n0_; have BK312 := n1_; have BK315 := n2_; have HB := n3_; clear n0_ n1_ n2_ n3_; (try clear hb); (try clear hb2); (try clear hk); (try clear hi)) | ((with_reducible refine gate_dst (N := 8) rfl ?_); (try (refine gate_guard (by rfl) ?_; dsimp only)); refine box_event ?hg (N := 8) ?hd (cs := #[.int .i64 0, .int .i64 0]) (t := 38) ?hr ?_; (case hd => rfl); (case hg => rfl); (case hr => first | (go_simp; done) | (go_simp; rfl)); intro gb324 hg w60 hbox hb; have n0_ := Aside0.mk (Kd.R_below (Kd.R_elderB (by (with_reducible repeat (first | apply Kd.R_alloc | apply Kd.R_drewN | apply Kd.R_drew)); exact HO_6.out) gb324 (Nat.le_of_eq hg.symm)) hb); have n1_ := Aside0.mk (blk_below (g := gb312) (o := .cells #[.int .i64 t307, .int .i64 t308] 38 (0, 0)) (by (with_reducible repeat (first | refine blk_drewN ?_ _ | refine blk_drew ?_ | refine blk_alloc ?_ _)); exact BK312.out) hb); have n2_ := Aside0.mk (blk_below (g := gb315) (o := .cells #[.int .i64 t313, .int .i64 t314] 38 (0, 0)) (by (with_reducible repeat (first | refine blk_drewN ?_ _ | refine blk_drew ?_ | refine blk_alloc ?_ _)); exact BK315.out) hb); have n3_ := Aside0.mk (below_step (by repeat (first | (with_reducible first | exact HB.out | apply below_alloc | apply pw_below_drewN | apply below_drew1 | refine below_set ?_ GE312.out | refine below_set ?_ GE315.out) | exact HB.out)) hb); have n4_ := Aside0.mk (hbox); have n5_ := Aside0.mk ((by rw [hg]; exact (below_size (by repeat (first | (with_reducible first | exact HB.out | apply below_alloc | apply pw_below_drewN | apply below_drew1 | refine below_set ?_ GE312.out | refine below_set ?_ GE315.out) | exact HB.out))) : w.heap.size ≤ gb324)); have n6_ := Aside0.mk ((by rw [hg]; exact (below_size (by repeat (first | (with_reducible first | exact HB.out | apply below_alloc | apply pw_below_drewN | apply below_drew1 | refine below_set ?_ GE312.out | refine below_set ?_ GE315.out) | exact HB.out))) : w.heap.size ≤ gb324)); have n7_ := Aside0.mk ((by rw [hg]; exact Nat.ne_of_lt (blk_lt (g := gb312) (o := .cells #[.int .i64 t307, .int .i64 t308] 38 (0, 0)) (by (with_reducible repeat (first | refine blk_drewN ?_ _ | refine blk_drew ?_ | refine blk_alloc ?_ _)); exact BK312.out)) : gb312 ≠ gb324)); have n8_ := Aside0.mk ((by rw [hg]; exact Nat.ne_of_gt (blk_lt (g := gb312) (o := .cells #[.int .i64 t307, .int .i64 t308] 38 (0, 0)) (by (with_reducible repeat (first | refine blk_drewN ?_ _ | refine blk_drew ?_ | refine blk_alloc ?_ _)); exact BK312.out)) : gb324 ≠ gb312)); have n9_ := Aside0.mk ((by rw [hg]; exact Nat.ne_of_lt (blk_lt (g := gb315) (o := .cells #[.int .i64 t313, .int .i64 t314] 38 (0, 0)) (by (with_reducible repeat (first | refine blk_drewN ?_ _ | refine blk_drew ?_ | refine blk_alloc ?_ _)); exact BK315.out)) : gb315 ≠ gb324)); have n10_ := Aside0.mk ((by rw [hg]; exact Nat.ne_of_gt (blk_lt (g := gb315) (o := .cells #[.int .i64 t313, .int .i64 t314] 38 (0, 0)) (by (with_reducible repeat (first | refine blk_drewN ?_ _ | refine blk_drew ?_ | refine blk_alloc ?_ _)); exact BK315.out)) : gb324 ≠ gb315)); clear HO_6; clear BK312; clear BK315; clear HB; have HO_6 := n0_; have BK312 := n1_; have BK315 := n2_; have HB := n3_; have BK324 := n4_; have GW324 := n5_; have GE324 := n6_; have NB312_324 := n7_; have NB324_312 := n8_; have NB315_324 := n9_; have NB324_315 := n10_; clear n0_ n1_ n2_ n3_ n4_ n5_ n6_ n7_ n8_ n9_ n10_; clear hb hbox hg; have hnb61 := NB324_312.out; have hnc61 := NB312_324.out; have hnb62 := NB324_315.out; have hnc62 := NB315_324.out; have hcz63_0 : w60.cell? ⟨gb324, 0, none⟩ = some (.int .i64 0) := (blk_cell BK324.out 0).trans rfl; have hcz63_1 : w60.cell? ⟨gb324, 1, none⟩ = some (.int .i64 0) := (blk_cell BK324.out 1).trans rfl; have hfz63_0 := blk_frozen BK324.out 0; have hfz63_1 := blk_frozen BK324.out 1))
          have n0_ : Aside0 (Kd.R k38 38 ((w60.setCell ⟨gb324, 0, none⟩ (.int .i64 t322)).setCell ⟨gb324, 1, none⟩ (.int .i64 t323)) w.heap.size (fun k_ => k_ ≠ gb312 ∧ k_ ≠ gb315 ∧ k_ ≠ gb324) (.slice Ao12 t309.length co12) t309) := ⟨by (with_reducible repeat (first | apply Kd.R_alloc | apply Kd.R_drewN | apply Kd.R_drew)); exact Kd.R_mono (Kd.R_far (p := ⟨gb324, 1, none⟩) (Kd.R_far (p := ⟨gb324, 0, none⟩) (Kd.R_mono HO_6.out (fun k_ hk => (⟨hk, hk.2⟩ : _ ∧ k_ ≠ gb324))) (fun _ hk => hk.2) (.int .i64 t322)) (fun _ hk => hk.2) (.int .i64 t323)) (fun _ hk => ⟨hk.1.1.1, ⟨hk.1.1.2, hk.1.2⟩⟩)⟩
          have n1_ : Aside0 (((w60.setCell ⟨gb324, 0, none⟩ (.int .i64 t322)).setCell ⟨gb324, 1, none⟩ (.int .i64 t323)).heap[gb312]? = some (.cells #[.int .i64 t307, .int .i64 t308] 38 (0, 0))) := ⟨by (with_reducible repeat (first | refine blk_drewN ?_ _ | refine blk_drew ?_ | refine blk_alloc ?_ _)); refine blk_far ?_ NB312_324.out _; (with_reducible repeat (first | refine blk_drewN ?_ _ | refine blk_drew ?_ | refine blk_alloc ?_ _)); refine blk_far ?_ NB312_324.out _; (with_reducible repeat (first | refine blk_drewN ?_ _ | refine blk_drew ?_ | refine blk_alloc ?_ _)); exact BK312.out⟩
          have n2_ : Aside0 (((w60.setCell ⟨gb324, 0, none⟩ (.int .i64 t322)).setCell ⟨gb324, 1, none⟩ (.int .i64 t323)).heap[gb315]? = some (.cells #[.int .i64 t313, .int .i64 t314] 38 (0, 0))) := ⟨by (with_reducible repeat (first | refine blk_drewN ?_ _ | refine blk_drew ?_ | refine blk_alloc ?_ _)); refine blk_far ?_ NB315_324.out _; (with_reducible repeat (first | refine blk_drewN ?_ _ | refine blk_drew ?_ | refine blk_alloc ?_ _)); refine blk_far ?_ NB315_324.out _; (with_reducible repeat (first | refine blk_drewN ?_ _ | refine blk_drew ?_ | refine blk_alloc ?_ _)); exact BK315.out⟩
          have n3_ : Aside0 (((w60.setCell ⟨gb324, 0, none⟩ (.int .i64 t322)).setCell ⟨gb324, 1, none⟩ (.int .i64 t323)).heap[gb324]? = some (.cells #[.int .i64 t322, .int .i64 t323] 38 (0, 0))) := ⟨by (with_reducible repeat (first | refine blk_drewN ?_ _ | refine blk_drew ?_ | refine blk_alloc ?_ _)); refine blk_put (cs := #[.int .i64 t322, .int .i64 0]) ?_ 1 _ rfl; (with_reducible repeat (first | refine blk_drewN ?_ _ | refine blk_drew ?_ | refine blk_alloc ?_ _)); refine blk_put (cs := #[.int .i64 0, .int .i64 0]) ?_ 0 _ rfl; (with_reducible repeat (first | refine blk_drewN ?_ _ | refine blk_drew ?_ | refine blk_alloc ?_ _)); exact BK324.out⟩
          have n4_ : Aside0 (Below w.heap.size w ((w60.setCell ⟨gb324, 0, none⟩ (.int .i64 t322)).setCell ⟨gb324, 1, none⟩ (.int .i64 t323))) := ⟨by repeat (first | (with_reducible first | exact HB.out | apply below_alloc | apply pw_below_drewN | apply below_drew1 | refine below_set ?_ GE312.out | refine below_set ?_ GE315.out | refine below_set ?_ GE324.out) | exact HB.out)⟩
          (try clear HO_6)
          (try clear BK312)
          (try clear BK315)
          (try clear BK324)
          (try clear HB)
          generalize ((w60.setCell ⟨gb324, 0, none⟩ (.int .i64 t322)).setCell ⟨gb324, 1, none⟩ (.int .i64 t323)) = w64 at n0_ n1_ n2_ n3_ n4_ ⊢
          have HO_6 := n0_
          have BK312 := n1_
          have BK315 := n2_
          have BK324 := n3_
          have HB := n4_
          clear n0_ n1_ n2_ n3_ n4_
          have n0_ := Aside0.mk (Kd.R_drew HO_6.out)
          have n1_ := Aside0.mk (blk_drew BK312.out)
          have n2_ := Aside0.mk (blk_drew BK315.out)
          have n3_ := Aside0.mk (blk_drew BK324.out)
          have n4_ := Aside0.mk (below_drew1 HB.out)
          clear HO_6
          clear BK312
          clear BK315
          clear BK324
          clear HB
          have HO_6 := n0_
          have BK312 := n1_
          have BK315 := n2_
          have BK324 := n3_
          have HB := n4_
          clear n0_ n1_ n2_ n3_ n4_
          refine start_ (n := 26) (S := fun w' => w'.cell? ⟨gb312, 0, none⟩ = some (.int .i64 t307) ∧ w'.cell? ⟨gb312, 1, none⟩ = some (.int .i64 t308) ∧ w'.cell? ⟨gb315, 0, none⟩ = some (.int .i64 t313) ∧ w'.cell? ⟨gb315, 1, none⟩ = some (.int .i64 t314) ∧ w'.cell? ⟨gb324, 0, none⟩ = some (.int .i64 t322) ∧ w'.cell? ⟨gb324, 1, none⟩ = some (.int .i64 t323)) (ds := []) (Array.replicate 26 false) (by kernel_rfl) rfl rfl ⟨(blk_cell BK312.out 0).trans rfl, (blk_cell BK312.out 1).trans rfl, (blk_cell BK315.out 0).trans rfl, (blk_cell BK315.out 1).trans rfl, (blk_cell BK324.out 0).trans rfl, (blk_cell BK324.out 1).trans rfl⟩ (fun hHeld => ?_); refine with_tabW laws_FnAdvanceTime.tab8 laws_FnAdvanceTime.bits8 (fun HT_ HW_ => ?_)
          generalize w64.drew = w65 at HO_6 BK312 BK315 BK324 HB hHeld ⊢
          refine tT HT_ HW_ hHeld 0 47 (bm 26 1) ?_
          refine tT HT_ HW_ hHeld 1 48 (bm 26 3) ?_
          refine one_ (i := 2) (N := some 49) (bm 26 7) rfl rfl (one_of HT_.out (by kernel_rfl)) (by decide) (fun K hK => ?_)
          refine goes_ Try.func44 (by kernel_rfl) rfl #[.agg #[.int .i64 t307, .int .i64 t308], .agg #[.int .i64 t313, .int .i64 t314]] (by rfl) rfl rfl (by (try simp only [List.map_toArray, List.map_cons, List.map_nil]); first | done | rfl | (simp only [List.length_drop, List.length_take]; rfl)) ?_
          with_reducible refine (impl_TimeLessEqual.calls t307 t308 t313 t314 true _ A39.out).mono ?_
          rintro e w66 ⟨rfl, hb⟩
          refine ⟨_, rfl, ?_⟩
          have n0_ := Aside0.mk (Kd.R_below (by (with_reducible repeat (first | apply Kd.R_alloc | apply Kd.R_drewN | apply Kd.R_drew)); exact HO_6.out) hb)
          have n1_ := Aside0.mk (blk_below (g := gb312) (o := .cells #[.int .i64 t307, .int .i64 t308] 38 (0, 0)) (by (with_reducible repeat (first | refine blk_drewN ?_ _ | refine blk_drew ?_ | refine blk_alloc ?_ _)); exact BK312.out) hb)
          have n2_ := Aside0.mk (blk_below (g := gb315) (o := .cells #[.int .i64 t313, .int .i64 t314] 38 (0, 0)) (by (with_reducible repeat (first | refine blk_drewN ?_ _ | refine blk_drew ?_ | refine blk_alloc ?_ _)); exact BK315.out) hb)
          have n3_ := Aside0.mk (blk_below (g := gb324) (o := .cells #[.int .i64 t322, .int .i64 t323] 38 (0, 0)) (by (with_reducible repeat (first | refine blk_drewN ?_ _ | refine blk_drew ?_ | refine blk_alloc ?_ _)); exact BK324.out) hb)
          have n4_ := Aside0.mk (below_step (by repeat (first | (with_reducible first | exact HB.out | apply below_alloc | apply pw_below_drewN | apply below_drew1 | refine below_set ?_ GE312.out | refine below_set ?_ GE315.out | refine below_set ?_ GE324.out) | exact HB.out)) hb)
          clear HO_6
          clear BK312
          clear BK315
          clear BK324
          clear HB
          have HO_6 := n0_
          have BK312 := n1_
          have BK315 := n2_
          have BK324 := n3_
          have HB := n4_
          clear n0_ n1_ n2_ n3_ n4_
          (try clear hb)
          (try clear hb2)
          (try clear hk)
          (try clear hi)
          refine hK.out _ _ ⟨(blk_cell BK312.out 0).trans rfl, (blk_cell BK312.out 1).trans rfl, (blk_cell BK315.out 0).trans rfl, (blk_cell BK315.out 1).trans rfl, (blk_cell BK324.out 0).trans rfl, (blk_cell BK324.out 1).trans rfl⟩ (fun hHeld => ?_)
          clear hK K
          refine nS 49 ?_
          refine pT HT_ 3 50 (bm 26 15) ?_
          refine pT HT_ 5 52 (bm 26 47) ?_
          refine tT HT_ HW_ hHeld 4 51 (bm 26 63) ?_
          refine tT HT_ HW_ hHeld 7 54 (bm 26 191) ?_
          refine one_ (i := 6) (N := some 53) (bm 26 255) rfl rfl (one_of HT_.out (by kernel_rfl)) (by decide) (fun K hK => ?_)
          refine goes_ Try.func36 (by kernel_rfl) rfl #[.agg #[.int .i64 t313, .int .i64 t314], .slice Ao12 t309.length co12] (by rfl) rfl rfl (by (try simp only [List.map_toArray, List.map_cons, List.map_nil]); first | done | rfl | (simp only [List.length_drop, List.length_take]; rfl)) ?_
          with_reducible refine (impl_AdvanceTime.calls kj7 t313 t314 _ _ t309 t326 t327 _ ?side1 ?side2 A41.out).mono ?_
          (case side1 => repeat (first | exact (Kd.R_reads' HO_6.out).2.2 | (with_reducible refine Kd.C_alloc ?_ _) | (with_reducible refine Kd.C_drewN ?_ _) | (with_reducible refine Kd.C_drew ?_)))
          (case side2 => exact (Kd.R_reads' HO_6.out).2.1)
          rintro e w67 ⟨rfl, hb⟩
          refine ⟨_, rfl, ?_⟩
          have n0_ := Aside0.mk (Kd.R_below (by (with_reducible repeat (first | apply Kd.R_alloc | apply Kd.R_drewN | apply Kd.R_drew)); exact HO_6.out) hb)
          have n1_ := Aside0.mk (blk_below (g := gb312) (o := .cells #[.int .i64 t307, .int .i64 t308] 38 (0, 0)) (by (with_reducible repeat (first | refine blk_drewN ?_ _ | refine blk_drew ?_ | refine blk_alloc ?_ _)); exact BK312.out) hb)
          have n2_ := Aside0.mk (blk_below (g := gb315) (o := .cells #[.int .i64 t313, .int .i64 t314] 38 (0, 0)) (by (with_reducible repeat (first | refine blk_drewN ?_ _ | refine blk_drew ?_ | refine blk_alloc ?_ _)); exact BK315.out) hb)
          have n3_ := Aside0.mk (blk_below (g := gb324) (o := .cells #[.int .i64 t322, .int .i64 t323] 38 (0, 0)) (by (with_reducible repeat (first | refine blk_drewN ?_ _ | refine blk_drew ?_ | refine blk_alloc ?_ _)); exact BK324.out) hb)
          have n4_ := Aside0.mk (below_step (by repeat (first | (with_reducible first | exact HB.out | apply below_alloc | apply pw_below_drewN | apply below_drew1 | refine below_set ?_ GE312.out | refine below_set ?_ GE315.out | refine below_set ?_ GE324.out) | exact HB.out)) hb)
          clear HO_6
          clear BK312
          clear BK315
          clear BK324
          clear HB
          have HO_6 := n0_
          have BK312 := n1_
          have BK315 := n2_
          have BK324 := n3_
          have HB := n4_
          clear n0_ n1_ n2_ n3_ n4_
          (try clear hb)
          (try clear hb2)
          (try clear hk)
          (try clear hi)
          refine hK.out _ _ ⟨(blk_cell BK312.out 0).trans rfl, (blk_cell BK312.out 1).trans rfl, (blk_cell BK315.out 0).trans rfl, (blk_cell BK315.out 1).trans rfl, (blk_cell BK324.out 0).trans rfl, (blk_cell BK324.out 1).trans rfl⟩ (fun hHeld => ?_)
          clear hK K
          refine nS 53 ?_
          refine pT HT_ 8 55 (bm 26 511) ?_
          refine pT HT_ 9 56 (bm 26 1023) ?_
          refine pT HT_ 10 57 (bm 26 2047) ?_
          refine pT HT_ 11 58 (bm 26 4095) ?_
          refine tT HT_ HW_ hHeld 12 59 (bm 26 8191) ?_
          refine one_ (i := 13) (N := some 60) (bm 26 16383) rfl rfl (one_of HT_.out (by kernel_rfl)) (by decide) (fun K hK => ?_)
          refine goes_ Try.func28 (by kernel_rfl) rfl #[.slice Ao12 t309.length co12, .agg #[.int .i64 t322, .int .i64 t323]] (by rfl) rfl rfl (by (try simp only [List.map_toArray, List.map_cons, List.map_nil]); first | done | rfl | (simp only [List.length_drop, List.length_take]; rfl)) ?_
          with_reducible refine (impl_FrontierCovers.calls kj7 _ _ t309 t322 t323 false _ ?side1 ?side2 A43.out).mono ?_
          (case side1 => repeat (first | exact (Kd.R_reads' HO_6.out).2.2 | (with_reducible refine Kd.C_alloc ?_ _) | (with_reducible refine Kd.C_drewN ?_ _) | (with_reducible refine Kd.C_drew ?_)))
          (case side2 => exact (Kd.R_reads' HO_6.out).2.1)
          rintro e w68 ⟨rfl, hb⟩
          refine ⟨_, rfl, ?_⟩
          have n0_ := Aside0.mk (Kd.R_below (by (with_reducible repeat (first | apply Kd.R_alloc | apply Kd.R_drewN | apply Kd.R_drew)); exact HO_6.out) hb)
          have n1_ := Aside0.mk (blk_below (g := gb312) (o := .cells #[.int .i64 t307, .int .i64 t308] 38 (0, 0)) (by (with_reducible repeat (first | refine blk_drewN ?_ _ | refine blk_drew ?_ | refine blk_alloc ?_ _)); exact BK312.out) hb)
          have n2_ := Aside0.mk (blk_below (g := gb315) (o := .cells #[.int .i64 t313, .int .i64 t314] 38 (0, 0)) (by (with_reducible repeat (first | refine blk_drewN ?_ _ | refine blk_drew ?_ | refine blk_alloc ?_ _)); exact BK315.out) hb)
          have n3_ := Aside0.mk (blk_below (g := gb324) (o := .cells #[.int .i64 t322, .int .i64 t323] 38 (0, 0)) (by (with_reducible repeat (first | refine blk_drewN ?_ _ | refine blk_drew ?_ | refine blk_alloc ?_ _)); exact BK324.out) hb)
          have n4_ := Aside0.mk (below_step (by repeat (first | (with_reducible first | exact HB.out | apply below_alloc | apply pw_below_drewN | apply below_drew1 | refine below_set ?_ GE312.out | refine below_set ?_ GE315.out | refine below_set ?_ GE324.out) | exact HB.out)) hb)
          clear HO_6
          clear BK312
          clear BK315
          clear BK324
          clear HB
          have HO_6 := n0_
          have BK312 := n1_
          have BK315 := n2_
          have BK324 := n3_
          have HB := n4_
          clear n0_ n1_ n2_ n3_ n4_
          (try clear hb)
          (try clear hb2)
          (try clear hk)
          (try clear hi)
          refine hK.out _ _ ⟨(blk_cell BK312.out 0).trans rfl, (blk_cell BK312.out 1).trans rfl, (blk_cell BK315.out 0).trans rfl, (blk_cell BK315.out 1).trans rfl, (blk_cell BK324.out 0).trans rfl, (blk_cell BK324.out 1).trans rfl⟩ (fun hHeld => ?_)
          clear hK K
          refine nS 60 ?_
          refine pT HT_ 14 61 (bm 26 32767) ?_
          refine pT HT_ 15 62 (bm 26 65535) ?_
          refine pU HT_ 16 63 (bm 26 131071) ?_
          refine pU HT_ 17 64 (bm 26 262143) ?_
          refine pU HT_ 18 65 (bm 26 524287) ?_
          refine pU HT_ 19 66 (bm 26 1048575) ?_
          refine pU HT_ 20 67 (bm 26 2097151) ?_
          refine pU HT_ 21 68 (bm 26 4194303) ?_
          refine pU HT_ 22 69 (bm 26 8388607) ?_
          refine pT HT_ 23 70 (bm 26 16777215) ?_
          refine pT HT_ 24 71 (bm 26 33554431) ?_
          refine pT HT_ 25 4 (bm 26 67108863) ?_
          refine done_ (done_of HT_.out (by kernel_rfl)) ?_
          try go_wp2
          go_ret
          exact ⟨by first | rfl | (simp [errW_none, errW_some] <;> rfl) | (simp [*, errW_none, errW_some] <;> rfl), by repeat (first | (with_reducible first | exact HB.out | apply below_alloc | apply pw_below_drewN | apply below_drew1 | refine below_set ?_ GE312.out | refine below_set ?_ GE315.out | refine below_set ?_ GE324.out) | exact HB.out)⟩
        ·
         rw [if_neg c42] at H
         have c42b0 : (t326 == t313 && (t327 == t314)) = false := by simpa using c42
         (try (have c42b1 : decide (t326 = t313 && (t327 == t314)) = false := by simpa using c42))
         (try (have c42b2 : (t326 == t313 && (t327 == t314)) = false := by simpa using c42))
         (try (have c42b3 : ¬ (t326 = t313 && (t327 == t314)) := by simpa using c42))
         clear c42
         obtain rfl := Option.some.inj H
         try go_wp2_with (first | ((with_reducible refine gate_callee (f := 40) rfl ?_); refine goesL_ (some 46) rfl rfl Try.func40 (by kernel_rfl) rfl #[.slice A1 l1.length c1] rfl (by (try simp only [List.map_toArray, List.map_cons, List.map_nil]); first | done | rfl | (simp only [List.length_drop, List.length_take]; rfl)) ?_; (with_reducible refine (spec_DrawValidTime.calls kj7 _ _ l1 t322 t323 _ ?side1 ?side2 A38.out).mono ?_); (case side1 => repeat (first | exact (Kd.C_below HR1.out HB.out) | (with_reducible refine Kd.C_alloc ?_ _) | (with_reducible refine Kd.C_drewN ?_ _) | (with_reducible refine Kd.C_drew ?_))); (case side2 => exact HC1.out); rintro e w69 ⟨rfl, hb⟩; refine ⟨_, rfl, ?_⟩; have n0_ := Aside0.mk (Kd.R_below (by (with_reducible repeat (first | apply Kd.R_alloc | apply Kd.R_drewN | apply Kd.R_drew)); exact HO_6.out) hb); have n1_ := Aside0.mk (blk_below (g := gb312) (o := .cells #[.int .i64 t307, .int .i64 t308] 38 (0, 0)) (by (with_reducible repeat (first | refine blk_drewN ?_ _ | refine blk_drew ?_ | refine blk_alloc ?_ _)); exact BK312.out) hb); have n2_ := Aside0.mk (blk_below (g := gb315) (o := .cells #[.int .i64 t313, .int .i64 t314] 38 (0, 0)) (by (with_reducible repeat (first | refine blk_drewN ?_ _ | refine blk_drew ?_ | refine blk_alloc ?_ _)); exact BK315.out) hb); have n3_ := Aside0.mk (below_step (by repeat (first | (with_reducible first | exact HB.out | apply below_alloc | apply pw_below_drewN | apply below_drew1 | refine below_set ?_ GE312.out | refine below_set ?_ GE315.out) | exact HB.out)) hb); clear HO_6; clear BK312; clear BK315; clear HB; have HO_6 := n0_; have BK312 := n1_; have BK315 := n2_; have HB := n3_; clear n0_ n1_ n2_ n3_; (try clear hb); (try clear hb2); (try clear hk); (try clear hi)) | ((with_reducible refine gate_dst (N := 8) rfl ?_); (try (refine gate_guard (by rfl) ?_; dsimp only)); refine box_event ?hg (N := 8) ?hd (cs := #[.int .i64 0, .int .i64 0]) (t := 38) ?hr ?_; (case hd => rfl); (case hg => rfl); (case hr => first | (go_simp; done) | (go_simp; rfl)); intro gb324 hg w70 hbox hb; have n0_ := Aside0.mk (Kd.R_below (Kd.R_elderB (by (with_reducible repeat (first | apply Kd.R_alloc | apply Kd.R_drewN | apply Kd.R_drew)); exact HO_6.out) gb324 (Nat.le_of_eq hg.symm)) hb); have n1_ := Aside0.mk (blk_below (g := gb312) (o := .cells #[.int .i64 t307, .int .i64 t308] 38 (0, 0)) (by (with_reducible repeat (first | refine blk_drewN ?_ _ | refine blk_drew ?_ | refine blk_alloc ?_ _)); exact BK312.out) hb); have n2_ := Aside0.mk (blk_below (g := gb315) (o := .cells #[.int .i64 t313, .int .i64 t314] 38 (0, 0)) (by (with_reducible repeat (first | refine blk_drewN ?_ _ | refine blk_drew ?_ | refine blk_alloc ?_ _)); exact BK315.out) hb); have n3_ := Aside0.mk (below_step (by repeat (first | (with_reducible first | exact HB.out | apply below_alloc | apply pw_below_drewN | apply below_drew1 | refine below_set ?_ GE312.out | refine below_set ?_ GE315.out) | exact HB.out)) hb); have n4_ := Aside0.mk (hbox); have n5_ := Aside0.mk ((by rw [hg]; exact (below_size (by repeat (first | (with_reducible first | exact HB.out | apply below_alloc | apply pw_below_drewN | apply below_drew1 | refine below_set ?_ GE312.out | refine below_set ?_ GE315.out) | exact HB.out))) : w.heap.size ≤ gb324)); have n6_ := Aside0.mk ((by rw [hg]; exact (below_size (by repeat (first | (with_reducible first | exact HB.out | apply below_alloc | apply pw_below_drewN | apply below_drew1 | refine below_set ?_ GE312.out | refine below_set ?_ GE315.out) | exact HB.out))) : w.heap.size ≤ gb324)); have n7_ := Aside0.mk ((by rw [hg]; exact Nat.ne_of_lt (blk_lt (g := gb312) (o := .cells #[.int .i64 t307, .int .i64 t308] 38 (0, 0)) (by (with_reducible repeat (first | refine blk_drewN ?_ _ | refine blk_drew ?_ | refine blk_alloc ?_ _)); exact BK312.out)) : gb312 ≠ gb324)); have n8_ := Aside0.mk ((by rw [hg]; exact Nat.ne_of_gt (blk_lt (g := gb312) (o := .cells #[.int .i64 t307, .int .i64 t308] 38 (0, 0)) (by (with_reducible repeat (first | refine blk_drewN ?_ _ | refine blk_drew ?_ | refine blk_alloc ?_ _)); exact BK312.out)) : gb324 ≠ gb312)); have n9_ := Aside0.mk ((by rw [hg]; exact Nat.ne_of_lt (blk_lt (g := gb315) (o := .cells #[.int .i64 t313, .int .i64 t314] 38 (0, 0)) (by (with_reducible repeat (first | refine blk_drewN ?_ _ | refine blk_drew ?_ | refine blk_alloc ?_ _)); exact BK315.out)) : gb315 ≠ gb324)); have n10_ := Aside0.mk ((by rw [hg]; exact Nat.ne_of_gt (blk_lt (g := gb315) (o := .cells #[.int .i64 t313, .int .i64 t314] 38 (0, 0)) (by (with_reducible repeat (first | refine blk_drewN ?_ _ | refine blk_drew ?_ | refine blk_alloc ?_ _)); exact BK315.out)) : gb324 ≠ gb315)); clear HO_6; clear BK312; clear BK315; clear HB; have HO_6 := n0_; have BK312 := n1_; have BK315 := n2_; have HB := n3_; have BK324 := n4_; have GW324 := n5_; have GE324 := n6_; have NB312_324 := n7_; have NB324_312 := n8_; have NB315_324 := n9_; have NB324_315 := n10_; clear n0_ n1_ n2_ n3_ n4_ n5_ n6_ n7_ n8_ n9_ n10_; clear hb hbox hg; have hnb71 := NB324_312.out; have hnc71 := NB312_324.out; have hnb72 := NB324_315.out; have hnc72 := NB315_324.out; have hcz73_0 : w70.cell? ⟨gb324, 0, none⟩ = some (.int .i64 0) := (blk_cell BK324.out 0).trans rfl; have hcz73_1 : w70.cell? ⟨gb324, 1, none⟩ = some (.int .i64 0) := (blk_cell BK324.out 1).trans rfl; have hfz73_0 := blk_frozen BK324.out 0; have hfz73_1 := blk_frozen BK324.out 1))
         have n0_ : Aside0 (Kd.R k38 38 ((w70.setCell ⟨gb324, 0, none⟩ (.int .i64 t322)).setCell ⟨gb324, 1, none⟩ (.int .i64 t323)) w.heap.size (fun k_ => k_ ≠ gb312 ∧ k_ ≠ gb315 ∧ k_ ≠ gb324) (.slice Ao12 t309.length co12) t309) := ⟨by (with_reducible repeat (first | apply Kd.R_alloc | apply Kd.R_drewN | apply Kd.R_drew)); exact Kd.R_mono (Kd.R_far (p := ⟨gb324, 1, none⟩) (Kd.R_far (p := ⟨gb324, 0, none⟩) (Kd.R_mono HO_6.out (fun k_ hk => (⟨hk, hk.2⟩ : _ ∧ k_ ≠ gb324))) (fun _ hk => hk.2) (.int .i64 t322)) (fun _ hk => hk.2) (.int .i64 t323)) (fun _ hk => ⟨hk.1.1.1, ⟨hk.1.1.2, hk.1.2⟩⟩)⟩
         have n1_ : Aside0 (((w70.setCell ⟨gb324, 0, none⟩ (.int .i64 t322)).setCell ⟨gb324, 1, none⟩ (.int .i64 t323)).heap[gb312]? = some (.cells #[.int .i64 t307, .int .i64 t308] 38 (0, 0))) := ⟨by (with_reducible repeat (first | refine blk_drewN ?_ _ | refine blk_drew ?_ | refine blk_alloc ?_ _)); refine blk_far ?_ NB312_324.out _; (with_reducible repeat (first | refine blk_drewN ?_ _ | refine blk_drew ?_ | refine blk_alloc ?_ _)); refine blk_far ?_ NB312_324.out _; (with_reducible repeat (first | refine blk_drewN ?_ _ | refine blk_drew ?_ | refine blk_alloc ?_ _)); exact BK312.out⟩
         have n2_ : Aside0 (((w70.setCell ⟨gb324, 0, none⟩ (.int .i64 t322)).setCell ⟨gb324, 1, none⟩ (.int .i64 t323)).heap[gb315]? = some (.cells #[.int .i64 t313, .int .i64 t314] 38 (0, 0))) := ⟨by (with_reducible repeat (first | refine blk_drewN ?_ _ | refine blk_drew ?_ | refine blk_alloc ?_ _)); refine blk_far ?_ NB315_324.out _; (with_reducible repeat (first | refine blk_drewN ?_ _ | refine blk_drew ?_ | refine blk_alloc ?_ _)); refine blk_far ?_ NB315_324.out _; (with_reducible repeat (first | refine blk_drewN ?_ _ | refine blk_drew ?_ | refine blk_alloc ?_ _)); exact BK315.out⟩
         have n3_ : Aside0 (((w70.setCell ⟨gb324, 0, none⟩ (.int .i64 t322)).setCell ⟨gb324, 1, none⟩ (.int .i64 t323)).heap[gb324]? = some (.cells #[.int .i64 t322, .int .i64 t323] 38 (0, 0))) := ⟨by (with_reducible repeat (first | refine blk_drewN ?_ _ | refine blk_drew ?_ | refine blk_alloc ?_ _)); refine blk_put (cs := #[.int .i64 t322, .int .i64 0]) ?_ 1 _ rfl; (with_reducible repeat (first | refine blk_drewN ?_ _ | refine blk_drew ?_ | refine blk_alloc ?_ _)); refine blk_put (cs := #[.int .i64 0, .int .i64 0]) ?_ 0 _ rfl; (with_reducible repeat (first | refine blk_drewN ?_ _ | refine blk_drew ?_ | refine blk_alloc ?_ _)); exact BK324.out⟩
         have n4_ : Aside0 (Below w.heap.size w ((w70.setCell ⟨gb324, 0, none⟩ (.int .i64 t322)).setCell ⟨gb324, 1, none⟩ (.int .i64 t323))) := ⟨by repeat (first | (with_reducible first | exact HB.out | apply below_alloc | apply pw_below_drewN | apply below_drew1 | refine below_set ?_ GE312.out | refine below_set ?_ GE315.out | refine below_set ?_ GE324.out) | exact HB.out)⟩
         (try clear HO_6)
         (try clear BK312)
         (try clear BK315)
         (try clear BK324)
         (try clear HB)
         generalize ((w70.setCell ⟨gb324, 0, none⟩ (.int .i64 t322)).setCell ⟨gb324, 1, none⟩ (.int .i64 t323)) = w74 at n0_ n1_ n2_ n3_ n4_ ⊢
         have HO_6 := n0_
         have BK312 := n1_
         have BK315 := n2_
         have BK324 := n3_
         have HB := n4_
         clear n0_ n1_ n2_ n3_ n4_
         have n0_ := Aside0.mk (Kd.R_drew HO_6.out)
         have n1_ := Aside0.mk (blk_drew BK312.out)
         have n2_ := Aside0.mk (blk_drew BK315.out)
         have n3_ := Aside0.mk (blk_drew BK324.out)
         have n4_ := Aside0.mk (below_drew1 HB.out)
         clear HO_6
         clear BK312
         clear BK315
         clear BK324
         clear HB
         have HO_6 := n0_
         have BK312 := n1_
         have BK315 := n2_
         have BK324 := n3_
         have HB := n4_
         clear n0_ n1_ n2_ n3_ n4_
         refine start_ (n := 26) (S := fun w' => w'.cell? ⟨gb312, 0, none⟩ = some (.int .i64 t307) ∧ w'.cell? ⟨gb312, 1, none⟩ = some (.int .i64 t308) ∧ w'.cell? ⟨gb315, 0, none⟩ = some (.int .i64 t313) ∧ w'.cell? ⟨gb315, 1, none⟩ = some (.int .i64 t314)) (ds := []) (Array.replicate 26 false) (by kernel_rfl) rfl rfl ⟨(blk_cell BK312.out 0).trans rfl, (blk_cell BK312.out 1).trans rfl, (blk_cell BK315.out 0).trans rfl, (blk_cell BK315.out 1).trans rfl⟩ (fun hHeld => ?_); refine with_tabW laws_FnAdvanceTime.tab8 laws_FnAdvanceTime.bits8 (fun HT_ HW_ => ?_)
         generalize w74.drew = w75 at HO_6 BK312 BK315 BK324 HB hHeld ⊢
         refine tT HT_ HW_ hHeld 0 47 (bm 26 1) ?_
         refine tT HT_ HW_ hHeld 1 48 (bm 26 3) ?_
         refine one_ (i := 2) (N := some 49) (bm 26 7) rfl rfl (one_of HT_.out (by kernel_rfl)) (by decide) (fun K hK => ?_)
         refine goes_ Try.func44 (by kernel_rfl) rfl #[.agg #[.int .i64 t307, .int .i64 t308], .agg #[.int .i64 t313, .int .i64 t314]] (by rfl) rfl rfl (by (try simp only [List.map_toArray, List.map_cons, List.map_nil]); first | done | rfl | (simp only [List.length_drop, List.length_take]; rfl)) ?_
         with_reducible refine (impl_TimeLessEqual.calls t307 t308 t313 t314 true _ A39.out).mono ?_
         rintro e w76 ⟨rfl, hb⟩
         refine ⟨_, rfl, ?_⟩
         have n0_ := Aside0.mk (Kd.R_below (by (with_reducible repeat (first | apply Kd.R_alloc | apply Kd.R_drewN | apply Kd.R_drew)); exact HO_6.out) hb)
         have n1_ := Aside0.mk (blk_below (g := gb312) (o := .cells #[.int .i64 t307, .int .i64 t308] 38 (0, 0)) (by (with_reducible repeat (first | refine blk_drewN ?_ _ | refine blk_drew ?_ | refine blk_alloc ?_ _)); exact BK312.out) hb)
         have n2_ := Aside0.mk (blk_below (g := gb315) (o := .cells #[.int .i64 t313, .int .i64 t314] 38 (0, 0)) (by (with_reducible repeat (first | refine blk_drewN ?_ _ | refine blk_drew ?_ | refine blk_alloc ?_ _)); exact BK315.out) hb)
         have n3_ := Aside0.mk (blk_below (g := gb324) (o := .cells #[.int .i64 t322, .int .i64 t323] 38 (0, 0)) (by (with_reducible repeat (first | refine blk_drewN ?_ _ | refine blk_drew ?_ | refine blk_alloc ?_ _)); exact BK324.out) hb)
         have n4_ := Aside0.mk (below_step (by repeat (first | (with_reducible first | exact HB.out | apply below_alloc | apply pw_below_drewN | apply below_drew1 | refine below_set ?_ GE312.out | refine below_set ?_ GE315.out | refine below_set ?_ GE324.out) | exact HB.out)) hb)
         clear HO_6
         clear BK312
         clear BK315
         clear BK324
         clear HB
         have HO_6 := n0_
         have BK312 := n1_
         have BK315 := n2_
         have BK324 := n3_
         have HB := n4_
         clear n0_ n1_ n2_ n3_ n4_
         (try clear hb)
         (try clear hb2)
         (try clear hk)
         (try clear hi)
         refine hK.out _ _ ⟨(blk_cell BK312.out 0).trans rfl, (blk_cell BK312.out 1).trans rfl, (blk_cell BK315.out 0).trans rfl, (blk_cell BK315.out 1).trans rfl⟩ (fun hHeld => ?_)
         clear hK K
         refine nS 49 ?_
         refine pT HT_ 3 50 (bm 26 15) ?_
         refine pT HT_ 5 52 (bm 26 47) ?_
         refine tT HT_ HW_ hHeld 4 51 (bm 26 63) ?_
         refine tT HT_ HW_ hHeld 7 54 (bm 26 191) ?_
         refine one_ (i := 6) (N := some 53) (bm 26 255) rfl rfl (one_of HT_.out (by kernel_rfl)) (by decide) (fun K hK => ?_)
         refine goes_ Try.func36 (by kernel_rfl) rfl #[.agg #[.int .i64 t313, .int .i64 t314], .slice Ao12 t309.length co12] (by rfl) rfl rfl (by (try simp only [List.map_toArray, List.map_cons, List.map_nil]); first | done | rfl | (simp only [List.length_drop, List.length_take]; rfl)) ?_
         with_reducible refine (impl_AdvanceTime.calls kj7 t313 t314 _ _ t309 t326 t327 _ ?side1 ?side2 A41.out).mono ?_
         (case side1 => repeat (first | exact (Kd.R_reads' HO_6.out).2.2 | (with_reducible refine Kd.C_alloc ?_ _) | (with_reducible refine Kd.C_drewN ?_ _) | (with_reducible refine Kd.C_drew ?_)))
         (case side2 => exact (Kd.R_reads' HO_6.out).2.1)
         rintro e w77 ⟨rfl, hb⟩
         refine ⟨_, rfl, ?_⟩
         have n0_ := Aside0.mk (Kd.R_below (by (with_reducible repeat (first | apply Kd.R_alloc | apply Kd.R_drewN | apply Kd.R_drew)); exact HO_6.out) hb)
         have n1_ := Aside0.mk (blk_below (g := gb312) (o := .cells #[.int .i64 t307, .int .i64 t308] 38 (0, 0)) (by (with_reducible repeat (first | refine blk_drewN ?_ _ | refine blk_drew ?_ | refine blk_alloc ?_ _)); exact BK312.out) hb)
         have n2_ := Aside0.mk (blk_below (g := gb315) (o := .cells #[.int .i64 t313, .int .i64 t314] 38 (0, 0)) (by (with_reducible repeat (first | refine blk_drewN ?_ _ | refine blk_drew ?_ | refine blk_alloc ?_ _)); exact BK315.out) hb)
         have n3_ := Aside0.mk (blk_below (g := gb324) (o := .cells #[.int .i64 t322, .int .i64 t323] 38 (0, 0)) (by (with_reducible repeat (first | refine blk_drewN ?_ _ | refine blk_drew ?_ | refine blk_alloc ?_ _)); exact BK324.out) hb)
         have n4_ := Aside0.mk (below_step (by repeat (first | (with_reducible first | exact HB.out | apply below_alloc | apply pw_below_drewN | apply below_drew1 | refine below_set ?_ GE312.out | refine below_set ?_ GE315.out | refine below_set ?_ GE324.out) | exact HB.out)) hb)
         clear HO_6
         clear BK312
         clear BK315
         clear BK324
         clear HB
         have HO_6 := n0_
         have BK312 := n1_
         have BK315 := n2_
         have BK324 := n3_
         have HB := n4_
         clear n0_ n1_ n2_ n3_ n4_
         (try clear hb)
         (try clear hb2)
         (try clear hk)
         (try clear hi)
         refine hK.out _ _ ⟨(blk_cell BK312.out 0).trans rfl, (blk_cell BK312.out 1).trans rfl, (blk_cell BK315.out 0).trans rfl, (blk_cell BK315.out 1).trans rfl⟩ (fun hHeld => ?_)
         clear hK K
         refine nS 53 ?_
         refine pT HT_ 8 55 (bm 26 511) ?_
         refine pT HT_ 9 56 (bm 26 1023) ?_
         refine pT HT_ 10 57 (bm 26 2047) ?_
         refine pU HT_ 11 58 (bm 26 4095) ?_
         refine pU HT_ 12 59 (bm 26 8191) ?_
         refine pU HT_ 13 60 (bm 26 16383) ?_
         refine pU HT_ 14 61 (bm 26 32767) ?_
         refine pU HT_ 15 62 (bm 26 65535) ?_
         refine pU HT_ 16 63 (bm 26 131071) ?_
         refine pU HT_ 17 64 (bm 26 262143) ?_
         refine pU HT_ 18 65 (bm 26 524287) ?_
         refine pU HT_ 19 66 (bm 26 1048575) ?_
         refine pU HT_ 20 67 (bm 26 2097151) ?_
         refine pU HT_ 21 68 (bm 26 4194303) ?_
         refine pU HT_ 22 69 (bm 26 8388607) ?_
         refine pU HT_ 23 70 (bm 26 16777215) ?_
         refine pT HT_ 24 71 (bm 26 33554431) ?_
         refine pT HT_ 25 4 (bm 26 67108863) ?_
         refine done_ (done_of HT_.out (by kernel_rfl)) ?_
         try go_wp2
         go_ret
         exact ⟨by first | rfl | (simp [errW_none, errW_some] <;> rfl) | (simp [*, errW_none, errW_some] <;> rfl), by repeat (first | (with_reducible first | exact HB.out | apply below_alloc | apply pw_below_drewN | apply below_drew1 | refine below_set ?_ GE312.out | refine below_set ?_ GE315.out | refine below_set ?_ GE324.out) | exact HB.out)⟩
       ·
        replace c40 := Bool.eq_false_iff.mpr c40
        subst c40
        have H1 : (some false) = some r := by rw [if_neg (show ¬ (false = true) by decide)] at H; exact H
        clear H
        have H := H1
        clear H1
        obtain rfl := Option.some.inj H
        try go_wp2_with (first | ((with_reducible refine gate_callee (f := 40) rfl ?_); refine goesL_ (some 46) rfl rfl Try.func40 (by kernel_rfl) rfl #[.slice A1 l1.length c1] rfl (by (try simp only [List.map_toArray, List.map_cons, List.map_nil]); first | done | rfl | (simp only [List.length_drop, List.length_take]; rfl)) ?_; (with_reducible refine (spec_DrawValidTime.calls kj7 _ _ l1 t322 t323 _ ?side1 ?side2 A38.out).mono ?_); (case side1 => repeat (first | exact (Kd.C_below HR1.out HB.out) | (with_reducible refine Kd.C_alloc ?_ _) | (with_reducible refine Kd.C_drewN ?_ _) | (with_reducible refine Kd.C_drew ?_))); (case side2 => exact HC1.out); rintro e w78 ⟨rfl, hb⟩; refine ⟨_, rfl, ?_⟩; have n0_ := Aside0.mk (Kd.R_below (by (with_reducible repeat (first | apply Kd.R_alloc | apply Kd.R_drewN | apply Kd.R_drew)); exact HO_6.out) hb); have n1_ := Aside0.mk (blk_below (g := gb312) (o := .cells #[.int .i64 t307, .int .i64 t308] 38 (0, 0)) (by (with_reducible repeat (first | refine blk_drewN ?_ _ | refine blk_drew ?_ | refine blk_alloc ?_ _)); exact BK312.out) hb); have n2_ := Aside0.mk (blk_below (g := gb315) (o := .cells #[.int .i64 t313, .int .i64 t314] 38 (0, 0)) (by (with_reducible repeat (first | refine blk_drewN ?_ _ | refine blk_drew ?_ | refine blk_alloc ?_ _)); exact BK315.out) hb); have n3_ := Aside0.mk (below_step (by repeat (first | (with_reducible first | exact HB.out | apply below_alloc | apply pw_below_drewN | apply below_drew1 | refine below_set ?_ GE312.out | refine below_set ?_ GE315.out) | exact HB.out)) hb); clear HO_6; clear BK312; clear BK315; clear HB; have HO_6 := n0_; have BK312 := n1_; have BK315 := n2_; have HB := n3_; clear n0_ n1_ n2_ n3_; (try clear hb); (try clear hb2); (try clear hk); (try clear hi)) | ((with_reducible refine gate_dst (N := 8) rfl ?_); (try (refine gate_guard (by rfl) ?_; dsimp only)); refine box_event ?hg (N := 8) ?hd (cs := #[.int .i64 0, .int .i64 0]) (t := 38) ?hr ?_; (case hd => rfl); (case hg => rfl); (case hr => first | (go_simp; done) | (go_simp; rfl)); intro gb324 hg w79 hbox hb; have n0_ := Aside0.mk (Kd.R_below (Kd.R_elderB (by (with_reducible repeat (first | apply Kd.R_alloc | apply Kd.R_drewN | apply Kd.R_drew)); exact HO_6.out) gb324 (Nat.le_of_eq hg.symm)) hb); have n1_ := Aside0.mk (blk_below (g := gb312) (o := .cells #[.int .i64 t307, .int .i64 t308] 38 (0, 0)) (by (with_reducible repeat (first | refine blk_drewN ?_ _ | refine blk_drew ?_ | refine blk_alloc ?_ _)); exact BK312.out) hb); have n2_ := Aside0.mk (blk_below (g := gb315) (o := .cells #[.int .i64 t313, .int .i64 t314] 38 (0, 0)) (by (with_reducible repeat (first | refine blk_drewN ?_ _ | refine blk_drew ?_ | refine blk_alloc ?_ _)); exact BK315.out) hb); have n3_ := Aside0.mk (below_step (by repeat (first | (with_reducible first | exact HB.out | apply below_alloc | apply pw_below_drewN | apply below_drew1 | refine below_set ?_ GE312.out | refine below_set ?_ GE315.out) | exact HB.out)) hb); have n4_ := Aside0.mk (hbox); have n5_ := Aside0.mk ((by rw [hg]; exact (below_size (by repeat (first | (with_reducible first | exact HB.out | apply below_alloc | apply pw_below_drewN | apply below_drew1 | refine below_set ?_ GE312.out | refine below_set ?_ GE315.out) | exact HB.out))) : w.heap.size ≤ gb324)); have n6_ := Aside0.mk ((by rw [hg]; exact (below_size (by repeat (first | (with_reducible first | exact HB.out | apply below_alloc | apply pw_below_drewN | apply below_drew1 | refine below_set ?_ GE312.out | refine below_set ?_ GE315.out) | exact HB.out))) : w.heap.size ≤ gb324)); have n7_ := Aside0.mk ((by rw [hg]; exact Nat.ne_of_lt (blk_lt (g := gb312) (o := .cells #[.int .i64 t307, .int .i64 t308] 38 (0, 0)) (by (with_reducible repeat (first | refine blk_drewN ?_ _ | refine blk_drew ?_ | refine blk_alloc ?_ _)); exact BK312.out)) : gb312 ≠ gb324)); have n8_ := Aside0.mk ((by rw [hg]; exact Nat.ne_of_gt (blk_lt (g := gb312) (o := .cells #[.int .i64 t307, .int .i64 t308] 38 (0, 0)) (by (with_reducible repeat (first | refine blk_drewN ?_ _ | refine blk_drew ?_ | refine blk_alloc ?_ _)); exact BK312.out)) : gb324 ≠ gb312)); have n9_ := Aside0.mk ((by rw [hg]; exact Nat.ne_of_lt (blk_lt (g := gb315) (o := .cells #[.int .i64 t313, .int .i64 t314] 38 (0, 0)) (by (with_reducible repeat (first | refine blk_drewN ?_ _ | refine blk_drew ?_ | refine blk_alloc ?_ _)); exact BK315.out)) : gb315 ≠ gb324)); have n10_ := Aside0.mk ((by rw [hg]; exact Nat.ne_of_gt (blk_lt (g := gb315) (o := .cells #[.int .i64 t313, .int .i64 t314] 38 (0, 0)) (by (with_reducible repeat (first | refine blk_drewN ?_ _ | refine blk_drew ?_ | refine blk_alloc ?_ _)); exact BK315.out)) : gb324 ≠ gb315)); clear HO_6; clear BK312; clear BK315; clear HB; have HO_6 := n0_; have BK312 := n1_; have BK315 := n2_; have HB := n3_; have BK324 := n4_; have GW324 := n5_; have GE324 := n6_; have NB312_324 := n7_; have NB324_312 := n8_; have NB315_324 := n9_; have NB324_315 := n10_; clear n0_ n1_ n2_ n3_ n4_ n5_ n6_ n7_ n8_ n9_ n10_; clear hb hbox hg; have hnb80 := NB324_312.out; have hnc80 := NB312_324.out; have hnb81 := NB324_315.out; have hnc81 := NB315_324.out; have hcz82_0 : w79.cell? ⟨gb324, 0, none⟩ = some (.int .i64 0) := (blk_cell BK324.out 0).trans rfl; have hcz82_1 : w79.cell? ⟨gb324, 1, none⟩ = some (.int .i64 0) := (blk_cell BK324.out 1).trans rfl; have hfz82_0 := blk_frozen BK324.out 0; have hfz82_1 := blk_frozen BK324.out 1))
        have n0_ : Aside0 (Kd.R k38 38 ((w79.setCell ⟨gb324, 0, none⟩ (.int .i64 t322)).setCell ⟨gb324, 1, none⟩ (.int .i64 t323)) w.heap.size (fun k_ => k_ ≠ gb312 ∧ k_ ≠ gb315 ∧ k_ ≠ gb324) (.slice Ao12 t309.length co12) t309) := ⟨by (with_reducible repeat (first | apply Kd.R_alloc | apply Kd.R_drewN | apply Kd.R_drew)); exact Kd.R_mono (Kd.R_far (p := ⟨gb324, 1, none⟩) (Kd.R_far (p := ⟨gb324, 0, none⟩) (Kd.R_mono HO_6.out (fun k_ hk => (⟨hk, hk.2⟩ : _ ∧ k_ ≠ gb324))) (fun _ hk => hk.2) (.int .i64 t322)) (fun _ hk => hk.2) (.int .i64 t323)) (fun _ hk => ⟨hk.1.1.1, ⟨hk.1.1.2, hk.1.2⟩⟩)⟩
        have n1_ : Aside0 (((w79.setCell ⟨gb324, 0, none⟩ (.int .i64 t322)).setCell ⟨gb324, 1, none⟩ (.int .i64 t323)).heap[gb312]? = some (.cells #[.int .i64 t307, .int .i64 t308] 38 (0, 0))) := ⟨by (with_reducible repeat (first | refine blk_drewN ?_ _ | refine blk_drew ?_ | refine blk_alloc ?_ _)); refine blk_far ?_ NB312_324.out _; (with_reducible repeat (first | refine blk_drewN ?_ _ | refine blk_drew ?_ | refine blk_alloc ?_ _)); refine blk_far ?_ NB312_324.out _; (with_reducible repeat (first | refine blk_drewN ?_ _ | refine blk_drew ?_ | refine blk_alloc ?_ _)); exact BK312.out⟩
        have n2_ : Aside0 (((w79.setCell ⟨gb324, 0, none⟩ (.int .i64 t322)).setCell ⟨gb324, 1, none⟩ (.int .i64 t323)).heap[gb315]? = some (.cells #[.int .i64 t313, .int .i64 t314] 38 (0, 0))) := ⟨by (with_reducible repeat (first | refine blk_drewN ?_ _ | refine blk_drew ?_ | refine blk_alloc ?_ _)); refine blk_far ?_ NB315_324.out _; (with_reducible repeat (first | refine blk_drewN ?_ _ | refine blk_drew ?_ | refine blk_alloc ?_ _)); refine blk_far ?_ NB315_324.out _; (with_reducible repeat (first | refine blk_drewN ?_ _ | refine blk_drew ?_ | refine blk_alloc ?_ _)); exact BK315.out⟩
        have n3_ : Aside0 (((w79.setCell ⟨gb324, 0, none⟩ (.int .i64 t322)).setCell ⟨gb324, 1, none⟩ (.int .i64 t323)).heap[gb324]? = some (.cells #[.int .i64 t322, .int .i64 t323] 38 (0, 0))) := ⟨by (with_reducible repeat (first | refine blk_drewN ?_ _ | refine blk_drew ?_ | refine blk_alloc ?_ _)); refine blk_put (cs := #[.int .i64 t322, .int .i64 0]) ?_ 1 _ rfl; (with_reducible repeat (first | refine blk_drewN ?_ _ | refine blk_drew ?_ | refine blk_alloc ?_ _)); refine blk_put (cs := #[.int .i64 0, .int .i64 0]) ?_ 0 _ rfl; (with_reducible repeat (first | refine blk_drewN ?_ _ | refine blk_drew ?_ | refine blk_alloc ?_ _)); exact BK324.out⟩
        have n4_ : Aside0 (Below w.heap.size w ((w79.setCell ⟨gb324, 0, none⟩ (.int .i64 t322)).setCell ⟨gb324, 1, none⟩ (.int .i64 t323))) := ⟨by repeat (first | (with_reducible first | exact HB.out | apply below_alloc | apply pw_below_drewN | apply below_drew1 | refine below_set ?_ GE312.out | refine below_set ?_ GE315.out | refine below_set ?_ GE324.out) | exact HB.out)⟩
        (try clear HO_6)
        (try clear BK312)
        (try clear BK315)
        (try clear BK324)
        (try clear HB)
        generalize ((w79.setCell ⟨gb324, 0, none⟩ (.int .i64 t322)).setCell ⟨gb324, 1, none⟩ (.int .i64 t323)) = w83 at n0_ n1_ n2_ n3_ n4_ ⊢
        have HO_6 := n0_
        have BK312 := n1_
        have BK315 := n2_
        have BK324 := n3_
        have HB := n4_
        clear n0_ n1_ n2_ n3_ n4_
        have n0_ := Aside0.mk (Kd.R_drew HO_6.out)
        have n1_ := Aside0.mk (blk_drew BK312.out)
        have n2_ := Aside0.mk (blk_drew BK315.out)
        have n3_ := Aside0.mk (blk_drew BK324.out)
        have n4_ := Aside0.mk (below_drew1 HB.out)
        clear HO_6
        clear BK312
        clear BK315
        clear BK324
        clear HB
        have HO_6 := n0_
        have BK312 := n1_
        have BK315 := n2_
        have BK324 := n3_
        have HB := n4_
        clear n0_ n1_ n2_ n3_ n4_
        refine start_ (n := 26) (S := fun w' => w'.cell? ⟨gb312, 0, none⟩ = some (.int .i64 t307) ∧ w'.cell? ⟨gb312, 1, none⟩ = some (.int .i64 t308) ∧ w'.cell? ⟨gb315, 0, none⟩ = some (.int .i64 t313) ∧ w'.cell? ⟨gb315, 1, none⟩ = some (.int .i64 t314)) (ds := []) (Array.replicate 26 false) (by kernel_rfl) rfl rfl ⟨(blk_cell BK312.out 0).trans rfl, (blk_cell BK312.out 1).trans rfl, (blk_cell BK315.out 0).trans rfl, (blk_cell BK315.out 1).trans rfl⟩ (fun hHeld => ?_); refine with_tabW laws_FnAdvanceTime.tab8 laws_FnAdvanceTime.bits8 (fun HT_ HW_ => ?_)
        generalize w83.drew = w84 at HO_6 BK312 BK315 BK324 HB hHeld ⊢
        refine tT HT_ HW_ hHeld 0 47 (bm 26 1) ?_
        refine tT HT_ HW_ hHeld 1 48 (bm 26 3) ?_
        refine one_ (i := 2) (N := some 49) (bm 26 7) rfl rfl (one_of HT_.out (by kernel_rfl)) (by decide) (fun K hK => ?_)
        refine goes_ Try.func44 (by kernel_rfl) rfl #[.agg #[.int .i64 t307, .int .i64 t308], .agg #[.int .i64 t313, .int .i64 t314]] (by rfl) rfl rfl (by (try simp only [List.map_toArray, List.map_cons, List.map_nil]); first | done | rfl | (simp only [List.length_drop, List.length_take]; rfl)) ?_
        with_reducible refine (impl_TimeLessEqual.calls t307 t308 t313 t314 false _ A39.out).mono ?_
        rintro e w85 ⟨rfl, hb⟩
        refine ⟨_, rfl, ?_⟩
        have n0_ := Aside0.mk (Kd.R_below (by (with_reducible repeat (first | apply Kd.R_alloc | apply Kd.R_drewN | apply Kd.R_drew)); exact HO_6.out) hb)
        have n1_ := Aside0.mk (blk_below (g := gb312) (o := .cells #[.int .i64 t307, .int .i64 t308] 38 (0, 0)) (by (with_reducible repeat (first | refine blk_drewN ?_ _ | refine blk_drew ?_ | refine blk_alloc ?_ _)); exact BK312.out) hb)
        have n2_ := Aside0.mk (blk_below (g := gb315) (o := .cells #[.int .i64 t313, .int .i64 t314] 38 (0, 0)) (by (with_reducible repeat (first | refine blk_drewN ?_ _ | refine blk_drew ?_ | refine blk_alloc ?_ _)); exact BK315.out) hb)
        have n3_ := Aside0.mk (blk_below (g := gb324) (o := .cells #[.int .i64 t322, .int .i64 t323] 38 (0, 0)) (by (with_reducible repeat (first | refine blk_drewN ?_ _ | refine blk_drew ?_ | refine blk_alloc ?_ _)); exact BK324.out) hb)
        have n4_ := Aside0.mk (below_step (by repeat (first | (with_reducible first | exact HB.out | apply below_alloc | apply pw_below_drewN | apply below_drew1 | refine below_set ?_ GE312.out | refine below_set ?_ GE315.out | refine below_set ?_ GE324.out) | exact HB.out)) hb)
        clear HO_6
        clear BK312
        clear BK315
        clear BK324
        clear HB
        have HO_6 := n0_
        have BK312 := n1_
        have BK315 := n2_
        have BK324 := n3_
        have HB := n4_
        clear n0_ n1_ n2_ n3_ n4_
        (try clear hb)
        (try clear hb2)
        (try clear hk)
        (try clear hi)
        refine hK.out _ _ ⟨(blk_cell BK312.out 0).trans rfl, (blk_cell BK312.out 1).trans rfl, (blk_cell BK315.out 0).trans rfl, (blk_cell BK315.out 1).trans rfl⟩ (fun hHeld => ?_)
        clear hK K
        refine nS 49 ?_
        refine pT HT_ 3 50 (bm 26 15) ?_
        refine pU HT_ 4 51 (bm 26 31) ?_
        refine pU HT_ 5 52 (bm 26 63) ?_
        refine pU HT_ 6 53 (bm 26 127) ?_
        refine pU HT_ 7 54 (bm 26 255) ?_
        refine pU HT_ 8 55 (bm 26 511) ?_
        refine pT HT_ 9 56 (bm 26 1023) ?_
        refine pT HT_ 10 57 (bm 26 2047) ?_
        refine pU HT_ 11 58 (bm 26 4095) ?_
        refine pU HT_ 12 59 (bm 26 8191) ?_
        refine pU HT_ 13 60 (bm 26 16383) ?_
        refine pU HT_ 14 61 (bm 26 32767) ?_
        refine pU HT_ 15 62 (bm 26 65535) ?_
        refine pU HT_ 16 63 (bm 26 131071) ?_
        refine pU HT_ 17 64 (bm 26 262143) ?_
        refine pU HT_ 18 65 (bm 26 524287) ?_
        refine pU HT_ 19 66 (bm 26 1048575) ?_
        refine pU HT_ 20 67 (bm 26 2097151) ?_
        refine pU HT_ 21 68 (bm 26 4194303) ?_
        refine pU HT_ 22 69 (bm 26 8388607) ?_
        refine pU HT_ 23 70 (bm 26 16777215) ?_
        refine pT HT_ 24 71 (bm 26 33554431) ?_
        refine pT HT_ 25 4 (bm 26 67108863) ?_
        refine done_ (done_of HT_.out (by kernel_rfl)) ?_
        try go_wp2
        go_ret
        exact ⟨by first | rfl | (simp [errW_none, errW_some] <;> rfl) | (simp [*, errW_none, errW_some] <;> rfl), by repeat (first | (with_reducible first | exact HB.out | apply below_alloc | apply pw_below_drewN | apply below_drew1 | refine below_set ?_ GE312.out | refine below_set ?_ GE315.out | refine below_set ?_ GE324.out) | exact HB.out)⟩

/-- THE ONE PURE STATEMENT of laws_FnAdvanceTime: yours. -/
def laws_FnAdvanceTime.Pure : Prop := ∀ (l0 : List Int) (l1 : List Int), l0.length ≤ maxLen → l0.length * 1 ≤ 140737488351232 → (∀ x ∈ l0, (Lit.int .u8 x).wf = true) → l1.length ≤ maxLen → l1.length * 1 ≤ 140737488351232 → (∀ x ∈ l1, (Lit.int .u8 x).wf = true) → ∃ k, laws_FnAdvanceTime.f k l0 l1 = some true
theorem laws_FnAdvanceTime.walk (P : laws_FnAdvanceTime.Pure) (a0 : Option Addr) (len0 cap0 : Nat) (z0 : List Int) (a1 : Option Addr) (len1 cap1 : Nat) (z1 : List Int) (w : World) (w0 : (a0 = none ∧ len0 = 0 ∧ cap0 = 0 ∧ z0 = []) ∨ ∃ x, a0 = some x ∧ len0 ≤ cap0 ∧ cap0 ≤ maxLen ∧ z0.length = cap0 ∧ (∀ i, i < z0.length → w.cell? (x.add i) = some (.int .u8 (z0.getD i 0))) ∧ ∀ n ∈ z0, (Lit.int .u8 n).wf = true) (y0 : len0 * 1 ≤ 140737488351232) (w1 : (a1 = none ∧ len1 = 0 ∧ cap1 = 0 ∧ z1 = []) ∨ ∃ x, a1 = some x ∧ len1 ≤ cap1 ∧ cap1 ≤ maxLen ∧ z1.length = cap1 ∧ (∀ i, i < z1.length → w.cell? (x.add i) = some (.int .u8 (z1.getD i 0))) ∧ ∀ n ∈ z1, (Lit.int .u8 n).wf = true) (y1 : len1 * 1 ≤ 140737488351232) :
  Calls Try.prog 11 #[.slice a0 len0 cap0, .slice a1 len1 cap1] w fun e w' => e = .returned (.bool true) ∧ Below w.heap.size w w' := by
 obtain ⟨l0, rfl, hr0, hm0, hw0, hc0⟩ := ReadsInt.ofRowC w0
 obtain ⟨l1, rfl, hr1, hm1, hw1, hc1⟩ := ReadsInt.ofRowC w1
 obtain ⟨k, h⟩ := P l0 l1 hm0 y0 hw0 hm1 y1 hw1
 refine (laws_FnAdvanceTime.calls k _ _ l0 _ _ l1 true w (Kd.C_of_reads (d := (0 : Int)) (h1 := fun _ => rfl) hr0) hc0 (Kd.C_of_reads (d := (0 : Int)) (h1 := fun _ => rfl) hr1) hc1 h).mono ?_
 rintro e w' ⟨rfl, hd⟩
 exact ⟨rfl, hd⟩

end Go.Proofs.Ytbohfeifkkigbaa.PFnAdvanceTime
