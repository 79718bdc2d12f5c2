/- Functions of the law FnExactNegate: each as a plain Lean function ('.f'), and that the Go code comes to what it answers ('.calls'); put together by programs of this repo (wip/tools) out of the kit's print. No condition. -/
import Derived.Test.YthmolcmgfhjegaaZFnExactNegatex0
import Derived.Test.YthmolcmgfhjegaaZFnExactNegatex1
import Derived.Test.YthmolcmgfhjegaaZFnExactNegatex2
import Derived.Test.YthmolcmgfhjegaaZFnExactNegatex5
import Derived.Test.YthmolcmgfhjegaaZFnExactNegatex7
namespace Go.Proofs.Ythmolcmgfhjegaa.PFnExactNegate
open Go.RowKit Go.Proofs.YthmolcmgfhjegaaW.PrintWords Go.Proofs.YthmolcmgfhjegaaW.PrintLast Go.Proofs.YthmolcmgfhjegaaW.PrintMore Go.Proofs.Ythmolcmgfhjegaa.Sq
attribute [local go_sem] max2_int min2_int max_two min_two max_three min_three max_four min_four   -- for this text's walks alone
set_option linter.unusedVariables false
set_option linter.unusedSimpArgs false

/-! ### slices_Clone_int_int: function 59 -/
attribute [local go_sem] Go.Lib.run_eql_slice_nil
def slices_Clone_int_int.f (l0 : List Int) : Option (List Int) := (some (([] : List Int) : List Int)).bind fun y150 => (if y150.length + l0.length < 17592186044416 then (some (y150 ++ l0)) else (none))
set_option maxHeartbeats 8000000 in
set_option maxRecDepth 100000 in
theorem slices_Clone_int_int.calls (A0 : Option Addr) (c0 : Nat) (l0 : List Int) (r : List Int) (w : World) (hr0 : Kd.C (Kd.int .i64) w A0 l0.length l0) (hc0 : l0.length ≤ c0) (h : slices_Clone_int_int.f l0 = some r) :
  Calls Try.prog 59 #[.slice A0 l0.length c0] w fun e w' => ∃ v0_ : Value, e = .returned (v0_) ∧ Kd.R (Kd.int .i64) 3 w' w.heap.size (fun _ => True) v0_ r ∧ Below w.heap.size w w' := by
 have HR0 := Aside0.mk hr0
 have HC0 := Aside0.mk hc0
 clear hr0 hc0
 have HB := Aside0.mk (Below.refl w.heap.size w)
 have H : ((some (([] : List Int) : List Int)).bind fun y150 => (if y150.length + l0.length < 17592186044416 then (some (y150 ++ l0)) else (none))) = some r := h
 clear h
 obtain ⟨y150, hy150⟩ : ∃ y_ : List Int, y_ = (([] : List Int)) := ⟨_, rfl⟩
 replace H : (if y150.length + l0.length < 17592186044416 then (some (y150 ++ l0)) else (none)) = some r := by first | (rw [hy150]; with_reducible exact H) | (have H2_ := (Option.bind_some _ _).symm.trans H; rw [hy150]; with_reducible exact H2_) | (have H2_ := (Option.bind_some _ _).symm.trans H; with_reducible exact H2_) | with_reducible exact H | (rw [hy150]; exact H) | exact H
 have Ny150 := Aside0.mk hy150
 clear hy150
 by_cases c2 : y150.length + l0.length < 17592186044416
 ·
  rw [if_pos c2] at H
  have LMc2 := Aside0.mk c2
  clear c2
  obtain ⟨y153, hy153⟩ : ∃ y_ : List Int, y_ = (y150 ++ l0) := ⟨_, rfl⟩
  replace H : (some y153) = some r := by first | (rw [hy153]; with_reducible exact H) | (have H2_ := (Option.bind_some _ _).symm.trans H; rw [hy153]; with_reducible exact H2_) | (have H2_ := (Option.bind_some _ _).symm.trans H; with_reducible exact H2_) | with_reducible exact H | (rw [hy153]; exact H) | exact H
  have Ny153 := Aside0.mk hy153
  clear hy153
  obtain rfl := Option.some.inj H
  rcases A0 with _ | a_
  ·
   go_enter Try.func59, Try.ntmps59
   go_wp2
   go_ret
   have z_ : l0 = [] := by
    rcases l0 with _ | ⟨x_, t_⟩
    · rfl
    · obtain ⟨ad_, e_, _⟩ := HR0.out.2.2 (by simp); cases e_
   refine ⟨_, rfl, ?_, HB.out⟩
   rw [Ny153.out, Ny150.out, z_]
   exact Kd.R_nil _ _ _ _ _
  ·
   go_enter Try.func59, Try.ntmps59
   go_wp2_with (first | ((with_reducible refine gate_dst (N := 5) rfl ?_); refine Kd.R_lit (Kd.int .i64) _ 3 ?hg (N := 5) ?hd (xs := ([] : List Int)) (inner := []) (ok := fun _ => True) (okp := fun _ => True) ?hr ?hp (fun _ hk => hk) trivial (Below.refl _ _) (Nat.le_refl _) (by simp) ?_; (case hd => rfl); (case hg => rfl); (case hr => first | (go_simp; done) | (go_simp; rfl)); (case hp => exact (Reps.none _ _)); intro v151 w3 ho4 hb hg_ hnew_; clear hg_ hnew_; (first | rw [← Ny150.out] at ho4 | (simp only [Int.reduceToNat] at ho4; rw [← Ny150.out] at ho4)); have n0_ := Aside0.mk (Kd.R_lower ho4 (below_size (by repeat (first | (with_reducible first | exact HB.out | apply below_alloc | apply pw_below_drewN | apply below_drew1) | exact HB.out)))); have n1_ := Aside0.mk (below_step (by repeat (first | (with_reducible first | exact HB.out | apply below_alloc | apply pw_below_drewN | apply below_drew1) | exact HB.out)) hb); clear HB; have HO152 := n0_; have HB := n1_; clear n0_ n1_; clear hb ho4) | ((with_reducible refine gate_builtin (b := .append) (xs := #[.tmp 5, .tmp 6]) rfl ?_); at_builtin; refine Kd.R_append_rows (Kd.int .i64) (w0 := w) w.heap.size rfl (.tmp 5) (.tmp 6) 23 3 (.int .i64 0) 8 rfl Try.underlying23 info3 rfl (by decide) (by omega) v151 y150 l0 _ _ _ (fun _ => True) (fun _ => False) rfl rfl ?aO ?aR (fun _ _ h => h) (fun _ h => h.elim) ?aF ?aB ?aS ?aL ?_; (case aR => repeat (first | exact (Kd.C_below HR0.out HB.out) | (with_reducible refine Kd.C_alloc ?_ _) | (with_reducible refine Kd.C_drewN ?_ _) | (with_reducible refine Kd.C_drew ?_))); (case aB => exact (by repeat (first | (with_reducible first | exact HB.out | apply below_alloc | apply pw_below_drewN | apply below_drew1) | exact HB.out))); (case aF => exact (fun _ _ => trivial)); (case aO => exact (by (with_reducible repeat (first | apply Kd.R_alloc | apply Kd.R_drewN | apply Kd.R_drew)); exact HO152.out)); (case aS => exact (below_size (by repeat (first | (with_reducible first | exact HB.out | apply below_alloc | apply pw_below_drewN | apply below_drew1) | exact HB.out)))); (case aL => have := LMc2.out; omega); intro v154 w5 ho hb hg hat; rw [← Ny153.out] at ho; have n0_ := Aside0.mk (hb); have n1_ := Aside0.mk (ho); clear HB; clear HO152; have HB := n0_; have HO155 := n1_; clear n0_ n1_; clear ho hb hg hat))
   go_ret
   exact ⟨_, by first | rfl | (simp [errW_none, errW_some] <;> rfl) | (simp [*, errW_none, errW_some] <;> rfl), by (with_reducible repeat (first | apply Kd.R_alloc | apply Kd.R_drewN | apply Kd.R_drew)); exact HO155.out, by repeat (first | (with_reducible first | exact HB.out | apply below_alloc | apply pw_below_drewN | apply below_drew1) | exact HB.out)⟩
 ·
  rw [if_neg c2] at H
  exact absurd H (by simp)



/-! ### impl_copyZ: function 62 -/
def impl_copyZ.l0 : Nat → List (S41) → List (S41) → Int → Int → Option ((List (S41)))
 | 0, _, _, _, _ => none
 | k + 1, x3, x7, x8, x9 => if x9 < x8 then (if 0 ≤ x9 then (if x9 < (x7.length : Int) then ((slices_Clone_int_int.f ((rd_T41 x7 x9).f0)).bind fun t207 => (if x3.length < 4398046511104 then (impl_copyZ.l0 k (x3 ++ [(⟨t207, (rd_T41 x7 x9).f1⟩ : S41)]) x7 x8 (wrap64 (x9 + 1))) else (none))) else (none)) else (none)) else (some x3)
def impl_copyZ.f (k : Nat) (l0 : List (S41)) : Option ((List (S41))) := impl_copyZ.l0 k (([] : List (S41))) l0 (l0.length : Int) 0
theorem impl_copyZ.mono_l : ∀ k, (∀ y0 y1 y2 y3, LeO (impl_copyZ.l0 k y0 y1 y2 y3) (impl_copyZ.l0 (k + 1) y0 y1 y2 y3))
 | 0 => fun _ _ _ _ r h => by simp [impl_copyZ.l0] at h
 | k + 1 => by
  have ih0 := impl_copyZ.mono_l k
  ·
   intro y0 y1 y2 y3
   unfold impl_copyZ.l0
   repeat' first
   | (with_reducible exact ih0 _ _ _ _)
   | (with_reducible exact LeO.refl _)
   | (with_reducible exact LeO.none _)
   | (with_reducible refine LeO.ite ?_ ?_)
   | (with_reducible refine LeO.bind ?_ (fun _ => ?_))
   | exact ih0 _ _ _ _
   | exact LeO.none _
   | refine LeO.ite ?_ ?_
   | refine LeO.bind ?_ (fun _ => ?_)
theorem impl_copyZ.mono : ∀ a0 k, LeO (impl_copyZ.f k a0) (impl_copyZ.f (k + 1) a0) := by
 intro a0 k
 have ih0 := impl_copyZ.mono_l k
 unfold impl_copyZ.f
 repeat' first
   | (with_reducible exact ih0 _ _ _ _)
   | (with_reducible exact LeO.refl _)
   | (with_reducible exact LeO.none _)
   | (with_reducible refine LeO.ite ?_ ?_)
   | (with_reducible refine LeO.bind ?_ (fun _ => ?_))
   | exact ih0 _ _ _ _
   | exact LeO.none _
   | refine LeO.ite ?_ ?_
   | refine LeO.bind ?_ (fun _ => ?_)
def impl_copyZ.T5 : Bool × List (List Nat × List Nat) := (true, [([], []), ([], []), ([1], [1]), ([2], [2]), ([], []), ([4], [4]), ([3, 5], [3, 5]), ([6], [6]), ([0, 7, 3], [0, 7]), ([8, 8, 0, 1, 2, 3, 4, 5, 6, 7, 8], [0, 8])])
def impl_copyZ.B5 : List Nat := [0, 0, 2, 6, 0, 16, 62, 126, 255, 511]
theorem impl_copyZ.tab5 : rtab .any (opsOf Try.f62 5) = impl_copyZ.T5 := by kernel_rfl
theorem impl_copyZ.bits5 : waitsOk impl_copyZ.T5.2 impl_copyZ.B5 = true := by kernel_rfl
set_option maxHeartbeats 8000000 in
set_option maxRecDepth 100000 in
theorem impl_copyZ.calls (k : Nat) (A0 : Option Addr) (c0 : Nat) (l0 : List (S41)) (r : List (S41)) (w : World) (hr0 : Kd.C k41 w A0 l0.length l0) (hc0 : l0.length ≤ c0) (h : impl_copyZ.f k l0 = some r) :
  Calls Try.prog 62 #[.slice A0 l0.length c0] w fun e w' => ∃ v0_ : Value, e = .returned (v0_) ∧ Kd.S k41 41 w' w.heap.size (fun _ => True) v0_ r ∧ Below w.heap.size w w' := by
 have hu41 := Try.underlying41
 have HR0 := Aside0.mk hr0
 have HC0 := Aside0.mk hc0
 clear hr0 hc0
 have HB := Aside0.mk (Below.refl w.heap.size w)
 have H : (impl_copyZ.l0 k (([] : List (S41))) l0 (l0.length : Int) 0) = some r := h
 clear h
 obtain ⟨y202, hy202⟩ : ∃ y_ : List (S41), y_ = (([] : List (S41))) := ⟨_, rfl⟩
 replace H : (impl_copyZ.l0 k y202 l0 (l0.length : Int) 0) = some r := by first | (rw [hy202]; with_reducible exact H) | (have H2_ := (Option.bind_some _ _).symm.trans H; rw [hy202]; with_reducible exact H2_) | (have H2_ := (Option.bind_some _ _).symm.trans H; with_reducible exact H2_) | with_reducible exact H | (rw [hy202]; exact H) | exact H
 have Ny202 := Aside0.mk hy202
 clear hy202
 have H' := Aside0.mk H
 clear H
 go_enter Try.func62, Try.ntmps62
 go_wp2_with (first | ((with_reducible refine gate_dst (N := 6) rfl ?_); refine Kd.S_lit k41 _ 41 ?hg (N := 6) ?hd (xs := ([] : List (S41))) (inner := []) (ok := fun _ => True) (okp := fun _ => True) ?hr ?hp (fun _ hk => hk) trivial (Below.refl _ _) (Nat.le_refl _) (by simp) ?_; (case hd => rfl); (case hg => rfl); (case hr => first | (go_simp; done) | (go_simp; rfl)); (case hp => exact (Reps.none _ _)); intro v203 w2 ho3 hb hg_ hnew_; clear hg_ hnew_; (first | rw [← Ny202.out] at ho3 | (simp only [Int.reduceToNat] at ho3; rw [← Ny202.out] at ho3)); have n0_ := Aside0.mk (Kd.S_lower ho3 (below_size (by repeat (first | (with_reducible first | exact HB.out | apply below_alloc | apply pw_below_drewN | apply below_drew1) | exact HB.out)))); have n1_ := Aside0.mk (below_step (by repeat (first | (with_reducible first | exact HB.out | apply below_alloc | apply pw_below_drewN | apply below_drew1) | exact HB.out)) hb); clear HB; have HO204 := n0_; have HB := n1_; clear n0_ n1_; clear hb ho3))
 go_loopg [3, 9] k (fun kq v3 v9 w' => ∃ (x3_1 : List (S41)) (x9_1 : Int), v9 = .int .i64 x9_1 ∧ Aside0 (impl_copyZ.l0 kq x3_1 l0 (l0.length : Int) x9_1 = some r) ∧ Aside0 (kq ≤ k) ∧ Aside0 (Kd.S k41 41 w' w.heap.size (fun _ => True) v3 x3_1) ∧ Aside0 (Below w.heap.size w w'))
 case atStart => exact ⟨(y202), (0), (by first | rfl | (simp; done) | (simp [*]; done)), H', ⟨Nat.le_refl _⟩, ⟨by (with_reducible repeat (first | apply Kd.S_alloc | apply Kd.S_drewN | apply Kd.S_drew)); exact HO204.out⟩, ⟨by repeat (first | (with_reducible first | exact HB.out | apply below_alloc | apply pw_below_drewN | apply below_drew1) | exact HB.out)⟩⟩
 case round =>
  clear H'
  try clear p2
  obtain ⟨x3_1, x9_1, rfl, HA, HK1, HO_3, HB⟩ := hrel
  cases gk with
  | zero => exact absurd HA.out (by simp [impl_copyZ.l0])
  | succ k1 =>
   have H := HA.out
   clear HA
   simp only [impl_copyZ.l0] at H
   by_cases c4 : x9_1 < (l0.length : Int)
   ·
    rw [if_pos c4] at H
    have c4b0 : decide (x9_1 < (l0.length : Int)) = true := decide_eq_true c4
    clear c4
    by_cases c5 : 0 ≤ x9_1
    ·
     rw [if_pos c5] at H
     have c5b0 : decide (0 ≤ x9_1) = true := decide_eq_true c5
     clear c5
     by_cases c6 : x9_1 < (l0.length : Int)
     ·
      rw [if_pos c6] at H
      have c6b0 : decide (x9_1 < (l0.length : Int)) = true := decide_eq_true c6
      clear c6
      replace H := Option.bind_eq_some_iff.mp H
      obtain ⟨t207, A70, H⟩ := H
      replace H : (if x3_1.length < 4398046511104 then (impl_copyZ.l0 k1 (x3_1 ++ [(⟨t207, (rd_T41 l0 x9_1).f1⟩ : S41)]) l0 (l0.length : Int) (wrap64 (x9_1 + 1))) else (none)) = some r := H
      have A7 := Aside0.mk A70
      clear A70
      by_cases c8 : x3_1.length < 4398046511104
      ·
       rw [if_pos c8] at H
       have LMc8 := Aside0.mk c8
       clear c8
       obtain ⟨y210, hy210⟩ : ∃ y_ : List (S41), y_ = (x3_1 ++ [(⟨t207, (rd_T41 l0 x9_1).f1⟩ : S41)]) := ⟨_, rfl⟩
       replace H : (impl_copyZ.l0 k1 y210 l0 (l0.length : Int) (wrap64 (x9_1 + 1))) = some r := by first | (rw [hy210]; with_reducible exact H) | (have H2_ := (Option.bind_some _ _).symm.trans H; rw [hy210]; with_reducible exact H2_) | (have H2_ := (Option.bind_some _ _).symm.trans H; with_reducible exact H2_) | with_reducible exact H | (rw [hy210]; exact H) | exact H
       have Ny210 := Aside0.mk hy210
       clear hy210
       have H' := Aside0.mk H
       clear H
       have p205 : 0 ≤ (x9_1 : Int) := of_decide_eq_true (by first | (with_reducible assumption) | assumption)
       have q205 : x9_1 < (l0.length : Int) := of_decide_eq_true (by first | (with_reducible assumption) | assumption)
       obtain ⟨ad205, A205_0, c205_0, e205, hx205_0, hx205_1, hl205_0, hi205_0⟩ := at_T41 HR0.out x9_1 p205 q205
       cases e205
       replace hx205_0 := (HB.out.cell (World.block_lt_of_cell? w _ hx205_0)).trans hx205_0
       replace hx205_1 := (HB.out.cell (World.block_lt_of_cell? w _ hx205_1)).trans hx205_1
       have HR205_0 := Aside0.mk hi205_0
       have HC205_0 := Aside0.mk hl205_0
       clear hi205_0 hl205_0
       replace p205 := eq_true p205
       replace q205 := eq_true q205
       try go_wp2_with (first | ((with_reducible refine gate_dst (N := 5) rfl ?_); refine box_event ?hg (N := 5) ?hd (cs := #[.slice none 0 0, .int .i64 0]) (t := 41) ?hr ?_; (case hd => rfl); (case hg => rfl); (case hr => first | (go_simp; done) | (go_simp; rfl)); intro gb206 hg w9 hbox hb; have n0_ := Aside0.mk (Kd.S_below (Kd.S_elderB (by (with_reducible repeat (first | apply Kd.S_alloc | apply Kd.S_drewN | apply Kd.S_drew)); exact HO_3.out) gb206 (Nat.le_of_eq hg.symm)) hb); have n1_ := Aside0.mk (below_step (by repeat (first | (with_reducible first | exact HB.out | apply below_alloc | apply pw_below_drewN | apply below_drew1) | exact HB.out)) hb); have n2_ := Aside0.mk (hbox); have n3_ := Aside0.mk ((by rw [hg]; exact (below_size (by repeat (first | (with_reducible first | exact HB.out | apply below_alloc | apply pw_below_drewN | apply below_drew1) | exact HB.out))) : w.heap.size ≤ gb206)); have n4_ := Aside0.mk ((by rw [hg]; exact (below_size (by repeat (first | (with_reducible first | exact HB.out | apply below_alloc | apply pw_below_drewN | apply below_drew1) | exact HB.out))) : w.heap.size ≤ gb206)); clear HO_3; clear HB; have HO_3 := n0_; have HB := n1_; have BK206 := n2_; have GW206 := n3_; have GE206 := n4_; clear n0_ n1_ n2_ n3_ n4_; clear hb hbox hg; have hcz10_0 : w9.cell? ⟨gb206, 0, none⟩ = some (.slice none 0 0) := (blk_cell BK206.out 0).trans rfl; have hcz10_1 : w9.cell? ⟨gb206, 1, none⟩ = some (.int .i64 0) := (blk_cell BK206.out 1).trans rfl; have hfz10_0 := blk_frozen BK206.out 0; have hfz10_1 := blk_frozen BK206.out 1))
       have n0_ : Aside0 (Kd.S k41 41 ((w9.setCell ⟨gb206, 0, none⟩ (.slice A205_0 ((rd_T41 l0 x9_1).f0).length c205_0)).setCell ⟨gb206, 1, none⟩ (.int .i64 ((rd_T41 l0 x9_1).f1))) w.heap.size (fun k_ => k_ ≠ gb206) u3 x3_1) := ⟨by (with_reducible repeat (first | apply Kd.S_alloc | apply Kd.S_drewN | apply Kd.S_drew)); exact Kd.S_mono (Kd.S_far (p := ⟨gb206, 1, none⟩) (Kd.S_far (p := ⟨gb206, 0, none⟩) (Kd.S_mono HO_3.out (fun k_ hk => (⟨hk, hk.2⟩ : _ ∧ k_ ≠ gb206))) (fun _ hk => hk.2) (.slice A205_0 ((rd_T41 l0 x9_1).f0).length c205_0)) (fun _ hk => hk.2) (.int .i64 ((rd_T41 l0 x9_1).f1))) (fun _ hk => hk.1.2)⟩
       have n1_ : Aside0 (((w9.setCell ⟨gb206, 0, none⟩ (.slice A205_0 ((rd_T41 l0 x9_1).f0).length c205_0)).setCell ⟨gb206, 1, none⟩ (.int .i64 ((rd_T41 l0 x9_1).f1))).heap[gb206]? = some (.cells #[.slice A205_0 ((rd_T41 l0 x9_1).f0).length c205_0, .int .i64 ((rd_T41 l0 x9_1).f1)] 41 (0, 0))) := ⟨by (with_reducible repeat (first | refine blk_drewN ?_ _ | refine blk_drew ?_ | refine blk_alloc ?_ _)); refine blk_put (cs := #[.slice A205_0 ((rd_T41 l0 x9_1).f0).length c205_0, .int .i64 0]) ?_ 1 _ rfl; (with_reducible repeat (first | refine blk_drewN ?_ _ | refine blk_drew ?_ | refine blk_alloc ?_ _)); refine blk_put (cs := #[.slice none 0 0, .int .i64 0]) ?_ 0 _ rfl; (with_reducible repeat (first | refine blk_drewN ?_ _ | refine blk_drew ?_ | refine blk_alloc ?_ _)); exact BK206.out⟩
       have n2_ : Aside0 (Below w.heap.size w ((w9.setCell ⟨gb206, 0, none⟩ (.slice A205_0 ((rd_T41 l0 x9_1).f0).length c205_0)).setCell ⟨gb206, 1, none⟩ (.int .i64 ((rd_T41 l0 x9_1).f1)))) := ⟨by repeat (first | (with_reducible first | exact HB.out | apply below_alloc | apply pw_below_drewN | apply below_drew1 | refine below_set ?_ GE206.out) | exact HB.out)⟩
       (try clear HO_3)
       (try clear BK206)
       (try clear HB)
       generalize ((w9.setCell ⟨gb206, 0, none⟩ (.slice A205_0 ((rd_T41 l0 x9_1).f0).length c205_0)).setCell ⟨gb206, 1, none⟩ (.int .i64 ((rd_T41 l0 x9_1).f1))) = w11 at n0_ n1_ n2_ ⊢
       have HO_3 := n0_
       have BK206 := n1_
       have HB := n2_
       clear n0_ n1_ n2_
       have n0_ := Aside0.mk (Kd.S_drew HO_3.out)
       have n1_ := Aside0.mk (blk_drew BK206.out)
       have n2_ := Aside0.mk (below_drew1 HB.out)
       clear HO_3
       clear BK206
       clear HB
       have HO_3 := n0_
       have BK206 := n1_
       have HB := n2_
       clear n0_ n1_ n2_
       refine start_ (n := 10) (S := fun w' => w'.cell? ⟨gb206, 0, none⟩ = some (.slice A205_0 ((rd_T41 l0 x9_1).f0).length c205_0) ∧ w'.cell? ⟨gb206, 1, none⟩ = some (.int .i64 ((rd_T41 l0 x9_1).f1))) (ds := []) (Array.replicate 10 false) (by kernel_rfl) rfl rfl ⟨(blk_cell BK206.out 0).trans rfl, (blk_cell BK206.out 1).trans rfl⟩ (fun hHeld => ?_); refine with_tabW impl_copyZ.tab5 impl_copyZ.bits5 (fun HT_ HW_ => ?_)
       generalize w11.drew = w12 at HO_3 BK206 HB hHeld ⊢
       refine pT HT_ 0 13 (bm 10 1) ?_
       refine pT HT_ 1 14 (bm 10 3) ?_
       refine pT HT_ 4 17 (bm 10 19) ?_
       refine tT HT_ HW_ hHeld 2 15 (bm 10 23) ?_
       refine tT HT_ HW_ hHeld 5 18 (bm 10 55) ?_
       refine one_ (i := 3) (N := some 16) (bm 10 63) rfl rfl (one_of HT_.out (by kernel_rfl)) (by decide) (fun K hK => ?_)
       refine goes_ Try.func59 (by kernel_rfl) rfl #[.slice A205_0 ((rd_T41 l0 x9_1).f0).length c205_0] (by rfl) rfl rfl (by (try simp only [List.map_toArray, List.map_cons, List.map_nil]); first | done | rfl | (simp only [List.length_drop, List.length_take]; rfl)) ?_
       with_reducible refine (slices_Clone_int_int.calls _ _ ((rd_T41 l0 x9_1).f0) t207 _ ?side1 ?side2 A7.out).mono ?_
       (case side1 => repeat (first | exact (Kd.C_below HR205_0.out HB.out) | (with_reducible refine Kd.C_alloc ?_ _) | (with_reducible refine Kd.C_drewN ?_ _) | (with_reducible refine Kd.C_drew ?_)))
       (case side2 => exact HC205_0.out)
       rintro e w13 ⟨v208, rfl, ho0, hb⟩
       refine ⟨_, rfl, ?_⟩
       have n0_ := Aside0.mk (Kd.S_elder' (by (with_reducible repeat (first | apply Kd.S_alloc | apply Kd.S_drewN | apply Kd.S_drew)); exact HO_3.out) (Kd.R_base ho0) hb)
       have n1_ := Aside0.mk (Kd.R_lower ho0 (below_size (by repeat (first | (with_reducible first | exact HB.out | apply below_alloc | apply pw_below_drewN | apply below_drew1 | refine below_set ?_ GE206.out) | exact HB.out))))
       have n2_ := Aside0.mk (blk_below (g := gb206) (o := .cells #[.slice A205_0 ((rd_T41 l0 x9_1).f0).length c205_0, .int .i64 ((rd_T41 l0 x9_1).f1)] 41 (0, 0)) (by (with_reducible repeat (first | refine blk_drewN ?_ _ | refine blk_drew ?_ | refine blk_alloc ?_ _)); exact BK206.out) hb)
       have n3_ := Aside0.mk (below_step (by repeat (first | (with_reducible first | exact HB.out | apply below_alloc | apply pw_below_drewN | apply below_drew1 | refine below_set ?_ GE206.out) | exact HB.out)) hb)
       clear HO_3
       clear BK206
       clear HB
       have HO_3 := n0_
       have HO209 := n1_
       have BK206 := n2_
       have HB := n3_
       clear n0_ n1_ n2_ n3_
       (try clear hb)
       (try clear hb2)
       (try clear hk)
       (try clear hi)
       (try clear ho0)
       obtain ⟨Ao14, co14, eo14⟩ := Kd.R_slice HO209.out
       (first | subst eo14 | (injection eo14 with f1_ f2_ f3_; have f4_ := f1_.symm; have f5_ := f3_.symm; clear f1_ f2_ f3_; subst f4_; subst f5_))
       refine hK.out _ _ ⟨(blk_cell BK206.out 0).trans rfl, (blk_cell BK206.out 1).trans rfl⟩ (fun hHeld => ?_)
       clear hK K
       refine nS 16 ?_
       refine pT HT_ 6 19 (bm 10 127) ?_
       refine one_ (i := 7) (N := some 20) (bm 10 255) rfl rfl (one_of HT_.out (by kernel_rfl)) (by decide) (fun K hK => ?_)
       refine value_ (w1 := ?_) (v := ?_) (by rfl) rfl ?_ ?_
       rotate_left 2
       ·
        go_simp
        constructor
        · rfl
        · rfl
       refine hK.out _ _ ⟨(blk_cell (blk_alloc BK206.out _) 0).trans rfl, (blk_cell (blk_alloc BK206.out _) 1).trans rfl⟩ (fun hHeld => ?_)
       clear hK K
       refine nS 20 ?_
       refine one_ (i := 8) (N := some 21) (bm 10 511) rfl rfl (one_of HT_.out (by kernel_rfl)) (by decide) (fun K hK => ?_)
       refine Kd.S_append_step k41 (w0 := w) w.heap.size (by rfl) (.tmp 13) (.tmp 20) 26 41 (.agg #[(.slice none 0 0), (.int .i64 0)]) 32 rfl Try.underlying26 info41 rfl (by decide) (by omega) u3 x3_1 (⟨t207, (rd_T41 l0 x9_1).f1⟩ : S41) [.slice Ao14 t207.length co14, .int .i64 ((rd_T41 l0 x9_1).f1)] (fun k_ => k_ ≠ gb206) (fun k_ => some k_ = (.slice Ao14 t207.length co14 : Value).ownBlock) rfl rfl ?aP (fun k_ hk_ => ((Kd.R_mono (ok' := fun k_ => ((fun k_ => k_ ≠ gb206)) k_ ∧ some k_ ≠ (u3 : Value).ownBlock) (Kd.R_types (Kd.R_apart' (HO209.out) (Kd.S_typed HO_3.out) (by decide)) BK206.out (by decide)) (fun k_ hk => ⟨hk.2, hk.1.2⟩))).1 k_ hk_.symm) ?aF ?aO ?aB ?aS ?aL ?_
       (case aP => exact k41_mkM _ _ _ (⟨t207, (rd_T41 l0 x9_1).f1⟩ : S41) (Kd.R_mono (Kd.R_tight rfl (Kd.R_mono (ok' := fun k_ => ((fun k_ => k_ ≠ gb206)) k_ ∧ some k_ ≠ (u3 : Value).ownBlock) (Kd.R_types (Kd.R_apart' (HO209.out) (Kd.S_typed HO_3.out) (by decide)) BK206.out (by decide)) (fun k_ hk => ⟨hk.2, hk.1.2⟩))) (fun _ h_ => h_)))
       (case aB => exact (by repeat (first | (with_reducible first | exact HB.out | apply below_alloc | apply pw_below_drewN | apply below_drew1 | refine below_set ?_ GE206.out) | exact HB.out)))
       (case aF => exact (fun k_ hk => Kd.freshB (g := gb206) (o := .cells #[.slice A205_0 ((rd_T41 l0 x9_1).f0).length c205_0, .int .i64 ((rd_T41 l0 x9_1).f1)] 41 (0, 0)) (by (with_reducible repeat (first | refine blk_drewN ?_ _ | refine blk_drew ?_ | refine blk_alloc ?_ _)); exact BK206.out) k_ hk))
       (case aO => exact (by (with_reducible repeat (first | apply Kd.S_alloc | apply Kd.S_drewN | apply Kd.S_drew)); exact Kd.S_mono HO_3.out (fun k_ hk => ⟨hk.1, fun e_ => hk.2 e_⟩)))
       (case aS => exact (below_size (by repeat (first | (with_reducible first | exact HB.out | apply below_alloc | apply pw_below_drewN | apply below_drew1 | refine below_set ?_ GE206.out) | exact HB.out))))
       (case aL => have := LMc8.out; omega)
       intro v211 w15 ho hb hg hat
       rw [← Ny210.out] at ho
       have n0_ := Aside0.mk (blk_grown (g := gb206) (o := .cells #[.slice A205_0 ((rd_T41 l0 x9_1).f0).length c205_0, .int .i64 ((rd_T41 l0 x9_1).f1)] 41 (0, 0)) (by (with_reducible repeat (first | refine blk_drewN ?_ _ | refine blk_drew ?_ | refine blk_alloc ?_ _)); exact BK206.out) hg (Kd.S_away HO_3.out (fun _ hk => hk.1)))
       have n1_ := Aside0.mk (hb)
       have n2_ := Aside0.mk (ho)
       clear BK206
       clear HB
       clear HO_3
       clear HO209
       have BK206 := n0_
       have HB := n1_
       have HO212 := n2_
       clear n0_ n1_ n2_
       clear ho hb hg hat
       refine hK.out _ _ ⟨(blk_cell BK206.out 0).trans rfl, (blk_cell BK206.out 1).trans rfl⟩ (fun hHeld => ?_)
       clear hK K
       refine nS 21 ?_
       refine pT HT_ 9 3 (bm 10 1023) ?_
       refine done_ (done_of HT_.out (by kernel_rfl)) ?_
       try go_wp2
       go_roundg k1
       case measure => have := HK1.out; omega
       case rel => exact ⟨(y210), (wrap64 (x9_1 + 1)), (by first | rfl | (simp; done) | (simp [*]; done)), H', ⟨by have := HK1.out; omega⟩, ⟨by (with_reducible repeat (first | apply Kd.S_alloc | apply Kd.S_drewN | apply Kd.S_drew)); exact Kd.S_mono HO212.out (fun _ hk => trivial)⟩, ⟨by repeat (first | (with_reducible first | exact HB.out | apply below_alloc | apply pw_below_drewN | apply below_drew1 | refine below_set ?_ GE206.out) | exact HB.out)⟩⟩
      ·
       rw [if_neg c8] at H
       exact absurd H (by simp)
     ·
      rw [if_neg c6] at H
      exact absurd H (by simp)
    ·
     rw [if_neg c5] at H
     exact absurd H (by simp)
   ·
    rw [if_neg c4] at H
    have c4b0 : decide (x9_1 < (l0.length : Int)) = false := decide_eq_false c4
    clear c4
    obtain rfl := Option.some.inj H
    go_wp2
    go_ret
    exact ⟨_, by first | rfl | (simp [errW_none, errW_some] <;> rfl) | (simp [*, errW_none, errW_some] <;> rfl), by (with_reducible repeat (first | apply Kd.S_alloc | apply Kd.S_drewN | apply Kd.S_drew)); exact HO_3.out, by repeat (first | (with_reducible first | exact HB.out | apply below_alloc | apply pw_below_drewN | apply below_drew1) | exact HB.out)⟩

/-! ### impl_Negate: function 29 -/
def impl_Negate.l0 : Nat → List (S41) → Int → Int → Option ((List (S41)))
 | 0, _, _, _ => none
 | k + 1, x3, x11, x12 => if x12 < x11 then (if 0 ≤ x12 then (if x12 < (x3.length : Int) then (impl_Negate.l0 k (x3.set (x12 : Int).toNat (⟨(rd_T41 x3 x12).f0, wrap64 (-((rd_T41 x3 x12).f1))⟩ : S41)) x11 (wrap64 (x12 + 1))) else (none)) else (none)) else (some x3)
def impl_Negate.f (k : Nat) (l0 : List (S41)) : Option ((List (S41))) := (impl_ValidZSet.f k l0).bind fun t213 => (if t213 = true then ((impl_copyZ.f k l0).bind fun t214 => (impl_Negate.l0 k t214 (t214.length : Int) 0)) else (some ([] : List (S41))))
theorem impl_Negate.mono_l : ∀ k, (∀ y0 y1 y2, LeO (impl_Negate.l0 k y0 y1 y2) (impl_Negate.l0 (k + 1) y0 y1 y2))
 | 0 => fun _ _ _ r h => by simp [impl_Negate.l0] at h
 | k + 1 => by
  have ih0 := impl_Negate.mono_l k
  ·
   intro y0 y1 y2
   unfold impl_Negate.l0
   repeat' first
   | (with_reducible exact ih0 _ _ _)
   | (with_reducible exact impl_ValidZSet.mono _ _)
   | (with_reducible exact impl_copyZ.mono _ _)
   | (with_reducible exact LeO.refl _)
   | (with_reducible exact LeO.none _)
   | (with_reducible refine LeO.ite ?_ ?_)
   | (with_reducible refine LeO.bind ?_ (fun _ => ?_))
   | exact ih0 _ _ _
   | exact impl_ValidZSet.mono _ _
   | exact impl_copyZ.mono _ _
   | exact LeO.none _
   | refine LeO.ite ?_ ?_
   | refine LeO.bind ?_ (fun _ => ?_)
theorem impl_Negate.mono : ∀ a0 k, LeO (impl_Negate.f k a0) (impl_Negate.f (k + 1) a0) := by
 intro a0 k
 have ih0 := impl_Negate.mono_l k
 unfold impl_Negate.f
 repeat' first
   | (with_reducible exact ih0 _ _ _)
   | (with_reducible exact impl_ValidZSet.mono _ _)
   | (with_reducible exact impl_copyZ.mono _ _)
   | (with_reducible exact LeO.refl _)
   | (with_reducible exact LeO.none _)
   | (with_reducible refine LeO.ite ?_ ?_)
   | (with_reducible refine LeO.bind ?_ (fun _ => ?_))
   | exact ih0 _ _ _
   | exact impl_ValidZSet.mono _ _
   | exact impl_copyZ.mono _ _
   | exact LeO.none _
   | refine LeO.ite ?_ ?_
   | refine LeO.bind ?_ (fun _ => ?_)
set_option maxHeartbeats 8000000 in
set_option maxRecDepth 100000 in
theorem impl_Negate.calls (k : Nat) (A0 : Option Addr) (c0 : Nat) (l0 : List (S41)) (r : List (S41)) (w : World) (hr0 : Kd.C k41 w A0 l0.length l0) (hc0 : l0.length ≤ c0) (h : impl_Negate.f k l0 = some r) :
  Calls Try.prog 29 #[.slice A0 l0.length c0] w fun e w' => ∃ v0_ : Value, e = .returned (v0_) ∧ Kd.S k41 41 w' w.heap.size (fun _ => True) v0_ r ∧ Below w.heap.size w w' := by
 have HR0 := Aside0.mk hr0
 have HC0 := Aside0.mk hc0
 clear hr0 hc0
 have HB := Aside0.mk (Below.refl w.heap.size w)
 have H : ((impl_ValidZSet.f k l0).bind fun t213 => (if t213 = true then ((impl_copyZ.f k l0).bind fun t214 => (impl_Negate.l0 k t214 (t214.length : Int) 0)) else (some ([] : List (S41))))) = some r := h
 clear h
 replace H := Option.bind_eq_some_iff.mp H
 obtain ⟨t213, A20, H⟩ := H
 replace H : (if t213 = true then ((impl_copyZ.f k l0).bind fun t214 => (impl_Negate.l0 k t214 (t214.length : Int) 0)) else (some ([] : List (S41)))) = some r := H
 have A2 := Aside0.mk A20
 clear A20
 by_cases c3 : t213 = true
 ·
  subst c3
  have H1 : ((impl_copyZ.f k l0).bind fun t214 => (impl_Negate.l0 k t214 (t214.length : Int) 0)) = some r := by rw [if_pos rfl] at H; exact H
  clear H
  have H := H1
  clear H1
  replace H := Option.bind_eq_some_iff.mp H
  obtain ⟨t214, A40, H⟩ := H
  replace H : (impl_Negate.l0 k t214 (t214.length : Int) 0) = some r := H
  have A4 := Aside0.mk A40
  clear A40
  have H' := Aside0.mk H
  clear H
  go_enter Try.func29, Try.ntmps29
  go_wp2_with (first | ((with_reducible refine gate_callee (f := 32) rfl ?_); refine goesL_ (some 6) rfl rfl Try.func32 (by kernel_rfl) rfl #[.slice A0 l0.length c0] rfl (by (try simp only [List.map_toArray, List.map_cons, List.map_nil]); first | done | rfl | (simp only [List.length_drop, List.length_take]; rfl)) ?_; (with_reducible refine (impl_ValidZSet.calls k _ _ l0 true _ ?side1 ?side2 A2.out).mono ?_); (case side1 => repeat (first | exact HR0.out | (with_reducible refine Kd.C_alloc ?_ _) | (with_reducible refine Kd.C_drewN ?_ _) | (with_reducible refine Kd.C_drew ?_))); (case side2 => exact HC0.out); rintro e w5 ⟨rfl, hb⟩; refine ⟨_, rfl, ?_⟩; have n0_ := Aside0.mk (below_step (by repeat (first | (with_reducible first | exact HB.out | apply below_alloc | apply pw_below_drewN | apply below_drew1) | exact HB.out)) hb); clear HB; have HB := n0_; clear n0_; (try clear hb); (try clear hb2); (try clear hk); (try clear hi)) | ((with_reducible refine gate_callee (f := 62) rfl ?_); refine goesL_ (some 9) rfl rfl Try.func62 (by kernel_rfl) rfl #[.slice A0 l0.length c0] rfl (by (try simp only [List.map_toArray, List.map_cons, List.map_nil]); first | done | rfl | (simp only [List.length_drop, List.length_take]; rfl)) ?_; (with_reducible refine (impl_copyZ.calls k _ _ l0 t214 _ ?side1 ?side2 A4.out).mono ?_); (case side1 => repeat (first | exact (Kd.C_below HR0.out HB.out) | (with_reducible refine Kd.C_alloc ?_ _) | (with_reducible refine Kd.C_drewN ?_ _) | (with_reducible refine Kd.C_drew ?_))); (case side2 => exact HC0.out); rintro e w6 ⟨v215, rfl, ho0, hb⟩; refine ⟨_, rfl, ?_⟩; have n0_ := Aside0.mk (Kd.S_lower ho0 (below_size (by repeat (first | (with_reducible first | exact HB.out | apply below_alloc | apply pw_below_drewN | apply below_drew1) | exact HB.out)))); have n1_ := Aside0.mk (below_step (by repeat (first | (with_reducible first | exact HB.out | apply below_alloc | apply pw_below_drewN | apply below_drew1) | exact HB.out)) hb); clear HB; have HO216 := n0_; have HB := n1_; clear n0_ n1_; (try clear hb); (try clear hb2); (try clear hk); (try clear hi); (try clear ho0); obtain ⟨Ao7, co7, eo7⟩ := Kd.S_slice HO216.out; subst eo7))
  go_loopg [12] k (fun kq v12 w' => ∃ (x3_1 : List (S41)) (x12_1 : Int), v12 = .int .i64 x12_1 ∧ Aside0 (impl_Negate.l0 kq x3_1 (t214.length : Int) x12_1 = some r) ∧ Aside0 (kq ≤ k) ∧ Aside0 (Kd.S k41 41 w' w.heap.size (fun _ => True) (.slice Ao7 t214.length co7) x3_1) ∧ Aside0 (Below w.heap.size w w'))
  case atStart => exact ⟨(t214), (0), (by first | rfl | (simp; done) | (simp [*]; done)), H', ⟨Nat.le_refl _⟩, ⟨by (with_reducible repeat (first | apply Kd.S_alloc | apply Kd.S_drewN | apply Kd.S_drew)); exact HO216.out⟩, ⟨by repeat (first | (with_reducible first | exact HB.out | apply below_alloc | apply pw_below_drewN | apply below_drew1) | exact HB.out)⟩⟩
  case round =>
   clear H'
   try clear c2
   try clear p2
   try clear c3
   try clear c6
   obtain ⟨x3_1, x12_1, rfl, HA, HK1, HO_3, HB⟩ := hrel
   have hl3_1 := (Kd.S_reads' HO_3.out).1
   rw [hl3_1] at HO_3
   (try simp only [hl3_1])
   cases gk with
   | zero => exact absurd HA.out (by simp [impl_Negate.l0])
   | succ k1 =>
    have H := HA.out
    clear HA
    simp only [impl_Negate.l0] at H
    by_cases c8 : x12_1 < (t214.length : Int)
    ·
     rw [if_pos c8] at H
     have c8b0 : decide (x12_1 < (t214.length : Int)) = true := decide_eq_true c8
     clear c8
     by_cases c9 : 0 ≤ x12_1
     ·
      rw [if_pos c9] at H
      have c9b0 : decide (0 ≤ x12_1) = true := decide_eq_true c9
      clear c9
      by_cases c10 : x12_1 < (x3_1.length : Int)
      ·
       rw [if_pos c10] at H
       have c10b0 : decide (x12_1 < (x3_1.length : Int)) = true := decide_eq_true c10
       clear c10
       obtain ⟨y218, hy218⟩ : ∃ y_ : List (S41), y_ = (x3_1.set (x12_1 : Int).toNat (⟨(rd_T41 x3_1 x12_1).f0, wrap64 (-((rd_T41 x3_1 x12_1).f1))⟩ : S41)) := ⟨_, rfl⟩
       replace H : (impl_Negate.l0 k1 y218 (t214.length : Int) (wrap64 (x12_1 + 1))) = some r := by first | (rw [hy218]; with_reducible exact H) | (have H2_ := (Option.bind_some _ _).symm.trans H; rw [hy218]; with_reducible exact H2_) | (have H2_ := (Option.bind_some _ _).symm.trans H; with_reducible exact H2_) | with_reducible exact H | (rw [hy218]; exact H) | exact H
       have Ny218 := Aside0.mk hy218
       clear hy218
       have H' := Aside0.mk H
       clear H
       have p217 : 0 ≤ (x12_1 : Int) := of_decide_eq_true (by first | (with_reducible assumption) | assumption)
       have q217 : x12_1 < (x3_1.length : Int) := of_decide_eq_true (by first | (with_reducible assumption) | assumption)
       obtain ⟨ad217, A217_0, c217_0, e217, hx217_0, hx217_1, hl217_0, hi217_0⟩ := at_T41 (Kd.S_reads' HO_3.out).2.2 x12_1 p217 q217
       cases e217
       obtain ⟨ce217, hce217, hMe217, hcc217⟩ := Kd.S_get HO_3.out z41 x12_1 p217 (by first | exact q217 | exact of_decide_eq_true (by first | (with_reducible assumption) | assumption) | (have e_ := (Kd.S_reads' HO_3.out).1; omega))
       obtain ⟨ve217_0, rfl, ge217_0⟩ := k41_openM hMe217
       have hv217_0 := hcc217 0 _ rfl
       rw [Nat.add_zero] at hv217_0
       replace hv217_0 := Option.some.inj (hv217_0.symm.trans hx217_0)
       rw [hv217_0] at ge217_0
       have HL217_0 := Aside0.mk (show Kd.R (Kd.int .i64) 3 _ _ _ _ ((rd_T41 x3_1 x12_1).f0) from ge217_0)
       clear hv217_0 ge217_0
       clear hcc217 hce217
       have HR217_0 := Aside0.mk hi217_0
       have HC217_0 := Aside0.mk hl217_0
       clear hi217_0 hl217_0
       replace p217 := eq_true p217
       replace q217 := eq_true q217
       have p11 : 0 ≤ (x12_1 : Int) := of_decide_eq_true (by first | (with_reducible assumption) | assumption)
       have q11 : (x12_1 : Int) < ((x3_1.length : Int) : Int) := of_decide_eq_true (by first | (with_reducible assumption) | assumption)
       obtain ⟨go11, co11, eo11, gb11, gl11, cl11, HG11⟩ := Kd.S_form HO_3.out (by omega)
       (first | cases eo11 | (injection eo11 with ea_ en_ ec_; (first | subst ea_ | (injection ea_ with ea_; subst ea_)); subst ec_; clear en_))
       have GB11 := Aside0.mk gb11
       have GG11 := Aside0.mk HG11
       clear gb11 gl11 HG11
       (first | simp only [add_plain] at hx217_0 | skip)
       (first | simp only [add_plain] at hx217_1 | skip)
       obtain ⟨_, ce11, hcl11, hM11, hcc11, hfr11, _, _⟩ := Kd.S_elem HO_3.out z41 (x12_1 : Int) p11 q11
       obtain ⟨ve11_0, rfl, ge11_0⟩ := k41_openM hM11
       have hx11_0 : wr.cell? ⟨go11, (x12_1 : Int).toNat * 2, none⟩ = some (ve11_0) := hcc11 0 _ rfl
       have hx11_1 : wr.cell? ⟨go11, (x12_1 : Int).toNat * 2 + 1, none⟩ = some (.int .i64 ((rd_T41 x3_1 x12_1).f1)) := hcc11 1 _ rfl
       have hf11_0 : wr.frozen? ⟨go11, (x12_1 : Int).toNat * 2, none⟩ = false := hfr11 0
       have hf11_1 : wr.frozen? ⟨go11, (x12_1 : Int).toNat * 2 + 1, none⟩ = false := hfr11 1
       clear hcl11 hcc11 hfr11 hM11
       replace p11 := eq_true p11
       replace q11 := eq_true q11
       have HX12 := Aside0.mk (show Kd.S k41 41 wr w.heap.size (fun k_ => ((fun _ => True)) k_ ∧ ¬ ((fun _ => False)) k_) (.slice (some ⟨go11, 0, none⟩) x3_1.length co7) x3_1 from (by (with_reducible repeat (first | apply Kd.S_alloc | apply Kd.S_drewN | apply Kd.S_drew)); exact Kd.S_mono HO_3.out (fun k_ hk => ⟨trivial, fun e_ => e_⟩)))
       obtain ⟨oki12, ce12, hcl12, hM12, hcc12, hfr12, hoki12, hH12⟩ := Kd.S_elem HX12.out z41 (x12_1 : Int) (of_decide_eq_true (by first | (with_reducible assumption) | assumption)) (by have h_ : (x12_1 : Int) < ((x3_1.length : Int) : Int) := of_decide_eq_true (by first | (with_reducible assumption) | assumption); first | exact h_ | (have e_ := (Kd.S_reads' HO_3.out).1; omega) | simpa using h_)
       obtain ⟨ve12_0, rfl, ge12_0⟩ := k41_openM hM12
       have HP12 := Kd.S_seg hH12 (of_decide_eq_true (by first | (with_reducible assumption) | assumption)) (by have h_ : (x12_1 : Int) < ((x3_1.length : Int) : Int) := of_decide_eq_true (by first | (with_reducible assumption) | assumption); first | exact h_ | (have e_ := (Kd.S_reads' HO_3.out).1; omega) | simpa using h_) (seg := [.int .i64 (wrap64 (-((rd_T41 x3_1 x12_1).f1)))]) (j := 1) (show 2 ≤ 2 from by decide) (x' := (⟨(rd_T41 x3_1 x12_1).f0, wrap64 (-((rd_T41 x3_1 x12_1).f1))⟩ : S41)) (k41_mkM _ _ _ (⟨(rd_T41 x3_1 x12_1).f0, wrap64 (-((rd_T41 x3_1 x12_1).f1))⟩ : S41) (Kd.R_mono ge12_0 (fun _ h_ => Or.inl h_))) (fun _ hk => hk) (fun k_ hk_ => hk_.elim)
       have hx12_1 := hcc12 1 _ rfl
       (try simp only [show (k41).sz = 2 from rfl, Nat.mul_one, Nat.add_zero] at hx12_1)
       have hf12_1 := hfr12 1
       (try simp only [show (k41).sz = 2 from rfl, Nat.mul_one, Nat.add_zero] at hf12_1)
       clear hcl12 hcc12 hfr12 hM12 hoki12 hH12
       go_wp2_with (first | ((with_reducible refine gate_store (t := 3) (p := 24) rfl ?_); refine store_event (t := 3) (p := 24) (v := ?vo_w13) (w1 := (wr.setCell ⟨go11, (x12_1 : Int).toNat * 2 + 1, none⟩ (.int .i64 (wrap64 (-((rd_T41 x3_1 x12_1).f1)))))) ?hg ?ho ?hn ?hr ?_; (case ho => rfl); (case hg => rfl); (case hn => rfl); (case hr => first | (go_simp; done) | (go_simp; rfl)); intro w13 hw; have hg : wr.grownBy w13 (some go11) := (by rw [hw]; exact HP12.2); have hp_ : Kd.S k41 41 w13 w.heap.size (fun _ => True) (.slice (some ⟨go11, 0, none⟩) x3_1.length co7) y218 := (by rw [hw, Ny218.out]; exact HP12.1); clear HP12; have n0_ := Aside0.mk (hp_); have n1_ := Aside0.mk (Kd.R_after (v := (.slice (some ⟨go11, 0, none⟩) x3_1.length co7)) (v1 := (.slice (some ⟨go11, 0, none⟩) x3_1.length co7)) (ok := (fun _ => True)) (by (with_reducible repeat (first | apply Kd.R_alloc | apply Kd.R_drewN | apply Kd.R_drew)); exact HL217_0.out) hg (.inl rfl)); have n2_ := Aside0.mk ((by rw [hw]; exact below_set (HB.out) GB11.out : Below w.heap.size w w13)); clear HO_3; clear HL217_0; clear HB; have HO_3 := n0_; have HL217_0 := n1_; have HB := n2_; clear n0_ n1_ n2_; clear hg hw hp_))
       (try simp only [← hl3_1])
       go_roundg k1
       case measure => have := HK1.out; omega
       case rel => exact ⟨(y218), (wrap64 (x12_1 + 1)), (by first | rfl | (simp; done) | (simp [*]; done)), H', ⟨by have := HK1.out; omega⟩, ⟨by (try simp only [hl3_1]); (with_reducible repeat (first | apply Kd.S_alloc | apply Kd.S_drewN | apply Kd.S_drew)); exact HO_3.out⟩, ⟨by repeat (first | (with_reducible first | exact HB.out | apply below_alloc | apply pw_below_drewN | apply below_drew1) | exact HB.out)⟩⟩
      ·
       rw [if_neg c10] at H
       exact absurd H (by simp)
     ·
      rw [if_neg c9] at H
      exact absurd H (by simp)
    ·
     rw [if_neg c8] at H
     have c8b0 : decide (x12_1 < (t214.length : Int)) = false := decide_eq_false c8
     (try simp only [hl3_1] at c8b0)
     clear c8
     obtain rfl := Option.some.inj H
     go_wp2
     go_ret
     exact ⟨_, by first | rfl | (simp [errW_none, errW_some] <;> rfl) | (simp [*, errW_none, errW_some] <;> rfl), by (with_reducible repeat (first | apply Kd.S_alloc | apply Kd.S_drewN | apply Kd.S_drew)); exact HO_3.out, by repeat (first | (with_reducible first | exact HB.out | apply below_alloc | apply pw_below_drewN | apply below_drew1) | exact HB.out)⟩
 ·
  replace c3 := Bool.eq_false_iff.mpr c3
  subst c3
  have H1 : (some ([] : List (S41))) = some r := by rw [if_neg (show ¬ (false = true) by decide)] at H; exact H
  clear H
  have H := H1
  clear H1
  obtain rfl := Option.some.inj H
  go_enter Try.func29, Try.ntmps29
  go_wp2_with (first | ((with_reducible refine gate_callee (f := 32) rfl ?_); refine goesL_ (some 6) rfl rfl Try.func32 (by kernel_rfl) rfl #[.slice A0 l0.length c0] rfl (by (try simp only [List.map_toArray, List.map_cons, List.map_nil]); first | done | rfl | (simp only [List.length_drop, List.length_take]; rfl)) ?_; (with_reducible refine (impl_ValidZSet.calls k _ _ l0 false _ ?side1 ?side2 A2.out).mono ?_); (case side1 => repeat (first | exact HR0.out | (with_reducible refine Kd.C_alloc ?_ _) | (with_reducible refine Kd.C_drewN ?_ _) | (with_reducible refine Kd.C_drew ?_))); (case side2 => exact HC0.out); rintro e w14 ⟨rfl, hb⟩; refine ⟨_, rfl, ?_⟩; have n0_ := Aside0.mk (below_step (by repeat (first | (with_reducible first | exact HB.out | apply below_alloc | apply pw_below_drewN | apply below_drew1) | exact HB.out)) hb); clear HB; have HB := n0_; clear n0_; (try clear hb); (try clear hb2); (try clear hk); (try clear hi)))
  go_ret
  exact ⟨_, by first | rfl | (simp [errW_none, errW_some] <;> rfl) | (simp [*, errW_none, errW_some] <;> rfl), by first | exact Kd.S_nil _ _ _ _ _ | exact Kd.N_nil _ _ _ _ _ | exact Kd.V_nil _ _ _ _ _ | exact Kd.Q_nil _ _ _ _ _ | exact Kd.R_nil _ _ _ _ _, by repeat (first | (with_reducible first | exact HB.out | apply below_alloc | apply pw_below_drewN | apply below_drew1) | exact HB.out)⟩

/-! ### laws_FnExactNegate: function 5 -/
def laws_FnExactNegate.f (k : Nat) (l0 : List (S60)) : Option (Bool) := ((laws_szEntryS.f k l0 1048576).bind fun t2 => (if t2 < 0 then (some true) else ((laws_toEntryS.f k l0).bind fun t6 => ((spec_Negate.f k t6).bind fun t12 => ((laws_toEntryS.f k l0).bind fun t18 => ((impl_Negate.f k t18).bind fun t24 => ((laws_eqEntryS.f k t24 t12).bind fun t30 => (if t30 = true then ((laws_toEntryS.f k l0).bind fun t34 => ((laws_eqEntryS.f k t18 t34).bind fun t40 => (if t40 = true then ((laws_markEntryS.f k t18 1).bind fun bt_ => (fun (t44 : Int) t45 => ((laws_eqEntryS.f k t24 t12).bind fun t50 => (if t50 = true then (if t44 < 0 then (none) else ((laws_markEntryS.f k t24 1).bind fun bt_ => (fun (t54 : Int) t55 => ((laws_heldEntryS.f k t55 1).bind fun t60 => (if t60 < 0 then (none) else (if t60 ≠ t54 then (none) else ((laws_toEntryS.f k l0).bind fun t62 => ((impl_Negate.f k t62).bind fun t68 => ((laws_eqEntryS.f k t68 t12).bind fun t74 => (if t74 = true then ((laws_heldEntryS.f k t55 1).bind fun t78 => (if t78 < 0 then (none) else (if t78 ≠ t54 then (none) else (some true)))) else (none))))))))) bt_.1 bt_.2)) else (none)))) bt_.1 bt_.2) else (none)))) else (none)))))))))
set_option maxHeartbeats 16000000 in
set_option maxRecDepth 100000 in
theorem laws_FnExactNegate.calls (k : Nat) (A0 : Option Addr) (c0 : Nat) (l0 : List (S60)) (r : Bool) (w : World) (hr0 : Kd.C k60 w A0 l0.length l0) (hc0 : l0.length ≤ c0) (h : laws_FnExactNegate.f k l0 = some r) :
  Calls Try.prog 5 #[.slice A0 l0.length c0] w fun e w' => e = .returned (.bool r) ∧ Below w.heap.size w w' := by
 have HR0 := Aside0.mk hr0
 have HC0 := Aside0.mk hc0
 clear hr0 hc0
 have HB := Aside0.mk (Below.refl w.heap.size w)
 have H : ((laws_szEntryS.f k l0 1048576).bind fun t2 => (if t2 < 0 then (some true) else ((laws_toEntryS.f k l0).bind fun t6 => ((spec_Negate.f k t6).bind fun t12 => ((laws_toEntryS.f k l0).bind fun t18 => ((impl_Negate.f k t18).bind fun t24 => ((laws_eqEntryS.f k t24 t12).bind fun t30 => (if t30 = true then ((laws_toEntryS.f k l0).bind fun t34 => ((laws_eqEntryS.f k t18 t34).bind fun t40 => (if t40 = true then ((laws_markEntryS.f k t18 1).bind fun bt_ => (fun (t44 : Int) t45 => ((laws_eqEntryS.f k t24 t12).bind fun t50 => (if t50 = true then (if t44 < 0 then (none) else ((laws_markEntryS.f k t24 1).bind fun bt_ => (fun (t54 : Int) t55 => ((laws_heldEntryS.f k t55 1).bind fun t60 => (if t60 < 0 then (none) else (if t60 ≠ t54 then (none) else ((laws_toEntryS.f k l0).bind fun t62 => ((impl_Negate.f k t62).bind fun t68 => ((laws_eqEntryS.f k t68 t12).bind fun t74 => (if t74 = true then ((laws_heldEntryS.f k t55 1).bind fun t78 => (if t78 < 0 then (none) else (if t78 ≠ t54 then (none) else (some true)))) else (none))))))))) bt_.1 bt_.2)) else (none)))) bt_.1 bt_.2) else (none)))) else (none))))))))) = some r := h
 clear h
 replace H := Option.bind_eq_some_iff.mp H
 obtain ⟨t2, A10, H⟩ := H
 have A1 := Aside0.mk A10
 clear A10
 by_cases c79 : t2 < 0
 ·
  rw [if_pos c79] at H
  have c79b := decide_eq_true c79
  have c79b1 : decide (t2 < 0) = true := decide_eq_true c79
  clear c79
  obtain rfl := Option.some.inj H
  go_enter Try.func5, Try.ntmps5
  go_wp2_with (first | ((with_reducible refine gate_callee (f := 17) rfl ?_); refine goesL_ (some 13) rfl rfl Try.func17 (by kernel_rfl) rfl #[.slice A0 l0.length c0, .int .i64 1048576] rfl (by (try simp only [List.map_toArray, List.map_cons, List.map_nil]); first | done | rfl | (simp only [List.length_drop, List.length_take]; rfl)) ?_; (with_reducible refine (laws_szEntryS.calls k _ _ l0 1048576 t2 _ ?side1 ?side2 A1.out).mono ?_); (case side1 => repeat (first | exact (Kd.C_below HR0.out (by repeat (first | (with_reducible first | exact HB.out | apply below_alloc | apply pw_below_drewN | apply below_drew1) | exact HB.out))) | (with_reducible refine Kd.C_alloc ?_ _) | (with_reducible refine Kd.C_drewN ?_ _) | (with_reducible refine Kd.C_drew ?_))); (case side2 => exact HC0.out); rintro e w3 ⟨rfl, hb⟩; refine ⟨_, rfl, ?_⟩; have LO4 := Aside0.mk (show w.heap.size ≤ w3.heap.size from hb.size); have n0_ := Aside0.mk (below_step (by repeat (first | (with_reducible first | exact HB.out | apply below_alloc | apply pw_below_drewN | apply below_drew1) | exact HB.out)) hb); clear HB; have HB := n0_; clear n0_; clear hb))
  go_ret
  exact ⟨rfl, (by repeat (first | (with_reducible first | exact HB.out | apply below_alloc | apply pw_below_drewN | apply below_drew1) | exact HB.out))⟩
 rw [if_neg c79] at H
 have c79b : decide (t2 < 0) = false := decide_eq_false c79
 clear c79
 replace H := Option.bind_eq_some_iff.mp H
 obtain ⟨t6, A50, H⟩ := H
 have A5 := Aside0.mk A50
 clear A50
 replace H := Option.bind_eq_some_iff.mp H
 obtain ⟨t12, A110, H⟩ := H
 have A11 := Aside0.mk A110
 clear A110
 replace H := Option.bind_eq_some_iff.mp H
 obtain ⟨t18, A170, H⟩ := H
 have A17 := Aside0.mk A170
 clear A170
 replace H := Option.bind_eq_some_iff.mp H
 obtain ⟨t24, A230, H⟩ := H
 have A23 := Aside0.mk A230
 clear A230
 replace H := Option.bind_eq_some_iff.mp H
 obtain ⟨t30, A290, H⟩ := H
 cases t30
 · exact absurd H (by simp)
 rw [if_pos rfl] at H
 have A29 := Aside0.mk A290
 clear A290
 replace H := Option.bind_eq_some_iff.mp H
 obtain ⟨t34, A330, H⟩ := H
 have A33 := Aside0.mk A330
 clear A330
 replace H := Option.bind_eq_some_iff.mp H
 obtain ⟨t40, A390, H⟩ := H
 cases t40
 · exact absurd H (by simp)
 rw [if_pos rfl] at H
 have A39 := Aside0.mk A390
 clear A390
 replace H := Option.bind_eq_some_iff.mp H
 obtain ⟨⟨t44, t45⟩, A430, H⟩ := H
 have A43 := Aside0.mk A430
 clear A430
 dsimp only at H
 replace H := Option.bind_eq_some_iff.mp H
 obtain ⟨t50, A490, H⟩ := H
 cases t50
 · exact absurd H (by simp)
 rw [if_pos rfl] at H
 have A49 := Aside0.mk A490
 clear A490
 by_cases c80 : t44 < 0
 · rw [if_pos c80] at H; exact absurd H (by simp)
 rw [if_neg c80] at H
 have c80b : decide (t44 < 0) = false := decide_eq_false c80
 clear c80
 replace H := Option.bind_eq_some_iff.mp H
 obtain ⟨⟨t54, t55⟩, A530, H⟩ := H
 have A53 := Aside0.mk A530
 clear A530
 dsimp only at H
 replace H := Option.bind_eq_some_iff.mp H
 obtain ⟨t60, A590, H⟩ := H
 have A59 := Aside0.mk A590
 clear A590
 by_cases c81 : t60 < 0
 · rw [if_pos c81] at H; exact absurd H (by simp)
 rw [if_neg c81] at H
 have c81b : decide (t60 < 0) = false := decide_eq_false c81
 clear c81
 by_cases c82 : t60 ≠ t54
 · rw [if_pos c82] at H; exact absurd H (by simp)
 rw [if_neg c82] at H
 replace c82 := Decidable.not_not.mp c82
 have c82b : (t60 != t54) = false := by rw [c82]; exact bne_self_eq_false _
 clear c82
 replace H := Option.bind_eq_some_iff.mp H
 obtain ⟨t62, A610, H⟩ := H
 have A61 := Aside0.mk A610
 clear A610
 replace H := Option.bind_eq_some_iff.mp H
 obtain ⟨t68, A670, H⟩ := H
 have A67 := Aside0.mk A670
 clear A670
 replace H := Option.bind_eq_some_iff.mp H
 obtain ⟨t74, A730, H⟩ := H
 cases t74
 · exact absurd H (by simp)
 rw [if_pos rfl] at H
 have A73 := Aside0.mk A730
 clear A730
 replace H := Option.bind_eq_some_iff.mp H
 obtain ⟨t78, A770, H⟩ := H
 have A77 := Aside0.mk A770
 clear A770
 by_cases c83 : t78 < 0
 · rw [if_pos c83] at H; exact absurd H (by simp)
 rw [if_neg c83] at H
 have c83b : decide (t78 < 0) = false := decide_eq_false c83
 clear c83
 by_cases c84 : t78 ≠ t54
 · rw [if_pos c84] at H; exact absurd H (by simp)
 rw [if_neg c84] at H
 replace c84 := Decidable.not_not.mp c84
 have c84b : (t78 != t54) = false := by rw [c84]; exact bne_self_eq_false _
 clear c84
 obtain rfl := Option.some.inj H
 go_enter Try.func5, Try.ntmps5
 go_wp2_with (first | ((with_reducible refine gate_callee (f := 17) rfl ?_); refine goesL_ (some 13) rfl rfl Try.func17 (by kernel_rfl) rfl #[.slice A0 l0.length c0, .int .i64 1048576] rfl (by (try simp only [List.map_toArray, List.map_cons, List.map_nil]); first | done | rfl | (simp only [List.length_drop, List.length_take]; rfl)) ?_; (with_reducible refine (laws_szEntryS.calls k _ _ l0 1048576 t2 _ ?side1 ?side2 A1.out).mono ?_); (case side1 => repeat (first | exact (Kd.C_below HR0.out (by repeat (first | (with_reducible first | exact HB.out | apply below_alloc | apply pw_below_drewN | apply below_drew1) | exact HB.out))) | (with_reducible refine Kd.C_alloc ?_ _) | (with_reducible refine Kd.C_drewN ?_ _) | (with_reducible refine Kd.C_drew ?_))); (case side2 => exact HC0.out); rintro e w3 ⟨rfl, hb⟩; refine ⟨_, rfl, ?_⟩; have LO4 := Aside0.mk (show w.heap.size ≤ w3.heap.size from hb.size); have n0_ := Aside0.mk (below_step (by repeat (first | (with_reducible first | exact HB.out | apply below_alloc | apply pw_below_drewN | apply below_drew1) | exact HB.out)) hb); clear HB; have HB := n0_; clear n0_; clear hb) | ((with_reducible refine gate_callee (f := 19) rfl ?_); refine goesL_ (some 17) rfl rfl Try.func19 (by kernel_rfl) rfl #[.slice A0 l0.length c0] rfl (by (try simp only [List.map_toArray, List.map_cons, List.map_nil]); first | done | rfl | (simp only [List.length_drop, List.length_take]; rfl)) ?_; (with_reducible refine (laws_toEntryS.calls k _ _ l0 t6 _ ?side1 ?side2 A5.out).mono ?_); (case side1 => repeat (first | exact (Kd.C_below HR0.out (by repeat (first | (with_reducible first | exact HB.out | apply below_alloc | apply pw_below_drewN | apply below_drew1) | exact HB.out))) | (with_reducible refine Kd.C_alloc ?_ _) | (with_reducible refine Kd.C_drewN ?_ _) | (with_reducible refine Kd.C_drew ?_))); (case side2 => exact HC0.out); rintro e w9 ⟨v8, rfl, ho, hb⟩; refine ⟨_, rfl, ?_⟩; have LO10 := Aside0.mk (show w3.heap.size ≤ w9.heap.size from hb.size); have n0_ := Aside0.mk (show Kd.S k41 41 w9 w.heap.size (fun k_ => w3.heap.size ≤ k_ ∧ k_ < w9.heap.size) v8 t6 from Kd.S_mono (Kd.S_lower (Kd.S_bound ho) (show w.heap.size ≤ w3.heap.size from (HB.out : Below w.heap.size w w3).size)) (fun k_ hk_ => ⟨hk_.2.1, hk_.2.2.1⟩)); have n1_ := Aside0.mk (below_step (by repeat (first | (with_reducible first | exact HB.out | apply below_alloc | apply pw_below_drewN | apply below_drew1) | exact HB.out)) hb); clear HB; have HX_x7 := n0_; have HB := n1_; clear n0_ n1_; clear ho hb; obtain ⟨AO_x7, co_x7, eo_x7⟩ := Kd.S_slice HX_x7.out; subst eo_x7) | ((with_reducible refine gate_callee (f := 28) rfl ?_); refine goesL_ (some 18) rfl rfl Try.func28 (by kernel_rfl) rfl #[.slice AO_x7 t6.length co_x7] rfl (by (try simp only [List.map_toArray, List.map_cons, List.map_nil]); first | done | rfl | (simp only [List.length_drop, List.length_take]; rfl)) ?_; (with_reducible refine (spec_Negate.calls k _ _ t6 t12 _ ?side1 ?side2 A11.out).mono ?_); (case side1 => repeat (first | exact (Kd.S_reads' HX_x7.out).2.2 | (with_reducible refine Kd.C_alloc ?_ _) | (with_reducible refine Kd.C_drewN ?_ _) | (with_reducible refine Kd.C_drew ?_))); (case side2 => exact (Kd.S_reads' HX_x7.out).2.1); rintro e w15 ⟨v14, rfl, ho, hb⟩; refine ⟨_, rfl, ?_⟩; have LO16 := Aside0.mk (show w9.heap.size ≤ w15.heap.size from hb.size); have n0_ := Aside0.mk (show Kd.S k41 41 w15 w.heap.size (fun k_ => w9.heap.size ≤ k_ ∧ k_ < w15.heap.size) v14 t12 from Kd.S_mono (Kd.S_lower (Kd.S_bound ho) (show w.heap.size ≤ w9.heap.size from (HB.out : Below w.heap.size w w9).size)) (fun k_ hk_ => ⟨hk_.2.1, hk_.2.2.1⟩)); have n1_ := Aside0.mk (Kd.S_below (by (with_reducible repeat (first | apply Kd.S_alloc | apply Kd.S_drewN | apply Kd.S_drew)); exact HX_x7.out) hb); have n2_ := Aside0.mk (below_step (by repeat (first | (with_reducible first | exact HB.out | apply below_alloc | apply pw_below_drewN | apply below_drew1) | exact HB.out)) hb); clear HX_x7; clear HB; have HX_x13 := n0_; have HX_x7 := n1_; have HB := n2_; clear n0_ n1_ n2_; clear ho hb; obtain ⟨AO_x13, co_x13, eo_x13⟩ := Kd.S_slice HX_x13.out; subst eo_x13) | ((with_reducible refine gate_callee (f := 19) rfl ?_); refine goesL_ (some 20) rfl rfl Try.func19 (by kernel_rfl) rfl #[.slice A0 l0.length c0] rfl (by (try simp only [List.map_toArray, List.map_cons, List.map_nil]); first | done | rfl | (simp only [List.length_drop, List.length_take]; rfl)) ?_; (with_reducible refine (laws_toEntryS.calls k _ _ l0 t18 _ ?side1 ?side2 A17.out).mono ?_); (case side1 => repeat (first | exact (Kd.C_below HR0.out (by repeat (first | (with_reducible first | exact HB.out | apply below_alloc | apply pw_below_drewN | apply below_drew1) | exact HB.out))) | (with_reducible refine Kd.C_alloc ?_ _) | (with_reducible refine Kd.C_drewN ?_ _) | (with_reducible refine Kd.C_drew ?_))); (case side2 => exact HC0.out); rintro e w21 ⟨v20, rfl, ho, hb⟩; refine ⟨_, rfl, ?_⟩; have LO22 := Aside0.mk (show w15.heap.size ≤ w21.heap.size from hb.size); have n0_ := Aside0.mk (show Kd.S k41 41 w21 w.heap.size (fun k_ => w15.heap.size ≤ k_ ∧ k_ < w21.heap.size) v20 t18 from Kd.S_mono (Kd.S_lower (Kd.S_bound ho) (show w.heap.size ≤ w15.heap.size from (HB.out : Below w.heap.size w w15).size)) (fun k_ hk_ => ⟨hk_.2.1, hk_.2.2.1⟩)); have n1_ := Aside0.mk (Kd.S_below (by (with_reducible repeat (first | apply Kd.S_alloc | apply Kd.S_drewN | apply Kd.S_drew)); exact HX_x7.out) hb); have n2_ := Aside0.mk (Kd.S_below (by (with_reducible repeat (first | apply Kd.S_alloc | apply Kd.S_drewN | apply Kd.S_drew)); exact HX_x13.out) hb); have n3_ := Aside0.mk (below_step (by repeat (first | (with_reducible first | exact HB.out | apply below_alloc | apply pw_below_drewN | apply below_drew1) | exact HB.out)) hb); clear HX_x7; clear HX_x13; clear HB; have HX_x19 := n0_; have HX_x7 := n1_; have HX_x13 := n2_; have HB := n3_; clear n0_ n1_ n2_ n3_; clear ho hb; obtain ⟨AO_x19, co_x19, eo_x19⟩ := Kd.S_slice HX_x19.out; subst eo_x19) | ((with_reducible refine gate_callee (f := 29) rfl ?_); refine goesL_ (some 22) rfl rfl Try.func29 (by kernel_rfl) rfl #[.slice AO_x19 t18.length co_x19] rfl (by (try simp only [List.map_toArray, List.map_cons, List.map_nil]); first | done | rfl | (simp only [List.length_drop, List.length_take]; rfl)) ?_; (with_reducible refine (impl_Negate.calls k _ _ t18 t24 _ ?side1 ?side2 A23.out).mono ?_); (case side1 => repeat (first | exact (Kd.S_reads' HX_x19.out).2.2 | (with_reducible refine Kd.C_alloc ?_ _) | (with_reducible refine Kd.C_drewN ?_ _) | (with_reducible refine Kd.C_drew ?_))); (case side2 => exact (Kd.S_reads' HX_x19.out).2.1); rintro e w27 ⟨v26, rfl, ho, hb⟩; refine ⟨_, rfl, ?_⟩; have LO28 := Aside0.mk (show w21.heap.size ≤ w27.heap.size from hb.size); have n0_ := Aside0.mk (show Kd.S k41 41 w27 w.heap.size (fun k_ => w21.heap.size ≤ k_ ∧ k_ < w27.heap.size) v26 t24 from Kd.S_mono (Kd.S_lower (Kd.S_bound ho) (show w.heap.size ≤ w21.heap.size from (HB.out : Below w.heap.size w w21).size)) (fun k_ hk_ => ⟨hk_.2.1, hk_.2.2.1⟩)); have n1_ := Aside0.mk (Kd.S_below (by (with_reducible repeat (first | apply Kd.S_alloc | apply Kd.S_drewN | apply Kd.S_drew)); exact HX_x7.out) hb); have n2_ := Aside0.mk (Kd.S_below (by (with_reducible repeat (first | apply Kd.S_alloc | apply Kd.S_drewN | apply Kd.S_drew)); exact HX_x13.out) hb); have n3_ := Aside0.mk (Kd.S_below (by (with_reducible repeat (first | apply Kd.S_alloc | apply Kd.S_drewN | apply Kd.S_drew)); exact HX_x19.out) hb); have n4_ := Aside0.mk (below_step (by repeat (first | (with_reducible first | exact HB.out | apply below_alloc | apply pw_below_drewN | apply below_drew1) | exact HB.out)) hb); clear HX_x7; clear HX_x13; clear HX_x19; clear HB; have HX_x25 := n0_; have HX_x7 := n1_; have HX_x13 := n2_; have HX_x19 := n3_; have HB := n4_; clear n0_ n1_ n2_ n3_ n4_; clear ho hb; obtain ⟨AO_x25, co_x25, eo_x25⟩ := Kd.S_slice HX_x25.out; subst eo_x25) | ((with_reducible refine gate_callee (f := 22) rfl ?_); refine goesL_ (some 25) rfl rfl Try.func22 (by kernel_rfl) rfl #[.slice AO_x25 t24.length co_x25, .slice AO_x13 t12.length co_x13] rfl (by (try simp only [List.map_toArray, List.map_cons, List.map_nil]); first | done | rfl | (simp only [List.length_drop, List.length_take]; rfl)) ?_; (with_reducible refine (laws_eqEntryS.calls k _ _ t24 _ _ t12 true _ ?side1 ?side2 ?side3 ?side4 A29.out).mono ?_); (case side1 => repeat (first | exact (Kd.S_reads' HX_x25.out).2.2 | (with_reducible refine Kd.C_alloc ?_ _) | (with_reducible refine Kd.C_drewN ?_ _) | (with_reducible refine Kd.C_drew ?_))); (case side2 => exact (Kd.S_reads' HX_x25.out).2.1); (case side3 => repeat (first | exact (Kd.S_reads' HX_x13.out).2.2 | (with_reducible refine Kd.C_alloc ?_ _) | (with_reducible refine Kd.C_drewN ?_ _) | (with_reducible refine Kd.C_drew ?_))); (case side4 => exact (Kd.S_reads' HX_x13.out).2.1); rintro e w31 ⟨rfl, hb⟩; refine ⟨_, rfl, ?_⟩; have LO32 := Aside0.mk (show w27.heap.size ≤ w31.heap.size from hb.size); have n0_ := Aside0.mk (Kd.S_below (by (with_reducible repeat (first | apply Kd.S_alloc | apply Kd.S_drewN | apply Kd.S_drew)); exact HX_x7.out) hb); have n1_ := Aside0.mk (Kd.S_below (by (with_reducible repeat (first | apply Kd.S_alloc | apply Kd.S_drewN | apply Kd.S_drew)); exact HX_x13.out) hb); have n2_ := Aside0.mk (Kd.S_below (by (with_reducible repeat (first | apply Kd.S_alloc | apply Kd.S_drewN | apply Kd.S_drew)); exact HX_x19.out) hb); have n3_ := Aside0.mk (Kd.S_below (by (with_reducible repeat (first | apply Kd.S_alloc | apply Kd.S_drewN | apply Kd.S_drew)); exact HX_x25.out) hb); have n4_ := Aside0.mk (below_step (by repeat (first | (with_reducible first | exact HB.out | apply below_alloc | apply pw_below_drewN | apply below_drew1) | exact HB.out)) hb); clear HX_x7; clear HX_x13; clear HX_x19; clear HX_x25; clear HB; have HX_x7 := n0_; have HX_x13 := n1_; have HX_x19 := n2_; have HX_x25 := n3_; have HB := n4_; clear n0_ n1_ n2_ n3_ n4_; clear hb) | ((with_reducible refine gate_callee (f := 19) rfl ?_); refine goesL_ (some 29) rfl rfl Try.func19 (by kernel_rfl) rfl #[.slice A0 l0.length c0] rfl (by (try simp only [List.map_toArray, List.map_cons, List.map_nil]); first | done | rfl | (simp only [List.length_drop, List.length_take]; rfl)) ?_; (with_reducible refine (laws_toEntryS.calls k _ _ l0 t34 _ ?side1 ?side2 A33.out).mono ?_); (case side1 => repeat (first | exact (Kd.C_below HR0.out (by repeat (first | (with_reducible first | exact HB.out | apply below_alloc | apply pw_below_drewN | apply below_drew1) | exact HB.out))) | (with_reducible refine Kd.C_alloc ?_ _) | (with_reducible refine Kd.C_drewN ?_ _) | (with_reducible refine Kd.C_drew ?_))); (case side2 => exact HC0.out); rintro e w37 ⟨v36, rfl, ho, hb⟩; refine ⟨_, rfl, ?_⟩; have LO38 := Aside0.mk (show w31.heap.size ≤ w37.heap.size from hb.size); have n0_ := Aside0.mk (show Kd.S k41 41 w37 w.heap.size (fun k_ => w31.heap.size ≤ k_ ∧ k_ < w37.heap.size) v36 t34 from Kd.S_mono (Kd.S_lower (Kd.S_bound ho) (show w.heap.size ≤ w31.heap.size from (HB.out : Below w.heap.size w w31).size)) (fun k_ hk_ => ⟨hk_.2.1, hk_.2.2.1⟩)); have n1_ := Aside0.mk (Kd.S_below (by (with_reducible repeat (first | apply Kd.S_alloc | apply Kd.S_drewN | apply Kd.S_drew)); exact HX_x7.out) hb); have n2_ := Aside0.mk (Kd.S_below (by (with_reducible repeat (first | apply Kd.S_alloc | apply Kd.S_drewN | apply Kd.S_drew)); exact HX_x13.out) hb); have n3_ := Aside0.mk (Kd.S_below (by (with_reducible repeat (first | apply Kd.S_alloc | apply Kd.S_drewN | apply Kd.S_drew)); exact HX_x19.out) hb); have n4_ := Aside0.mk (Kd.S_below (by (with_reducible repeat (first | apply Kd.S_alloc | apply Kd.S_drewN | apply Kd.S_drew)); exact HX_x25.out) hb); have n5_ := Aside0.mk (below_step (by repeat (first | (with_reducible first | exact HB.out | apply below_alloc | apply pw_below_drewN | apply below_drew1) | exact HB.out)) hb); clear HX_x7; clear HX_x13; clear HX_x19; clear HX_x25; clear HB; have HX_x35 := n0_; have HX_x7 := n1_; have HX_x13 := n2_; have HX_x19 := n3_; have HX_x25 := n4_; have HB := n5_; clear n0_ n1_ n2_ n3_ n4_ n5_; clear ho hb; obtain ⟨AO_x35, co_x35, eo_x35⟩ := Kd.S_slice HX_x35.out; subst eo_x35) | ((with_reducible refine gate_callee (f := 22) rfl ?_); refine goesL_ (some 30) rfl rfl Try.func22 (by kernel_rfl) rfl #[.slice AO_x19 t18.length co_x19, .slice AO_x35 t34.length co_x35] rfl (by (try simp only [List.map_toArray, List.map_cons, List.map_nil]); first | done | rfl | (simp only [List.length_drop, List.length_take]; rfl)) ?_; (with_reducible refine (laws_eqEntryS.calls k _ _ t18 _ _ t34 true _ ?side1 ?side2 ?side3 ?side4 A39.out).mono ?_); (case side1 => repeat (first | exact (Kd.S_reads' HX_x19.out).2.2 | (with_reducible refine Kd.C_alloc ?_ _) | (with_reducible refine Kd.C_drewN ?_ _) | (with_reducible refine Kd.C_drew ?_))); (case side2 => exact (Kd.S_reads' HX_x19.out).2.1); (case side3 => repeat (first | exact (Kd.S_reads' HX_x35.out).2.2 | (with_reducible refine Kd.C_alloc ?_ _) | (with_reducible refine Kd.C_drewN ?_ _) | (with_reducible refine Kd.C_drew ?_))); (case side4 => exact (Kd.S_reads' HX_x35.out).2.1); rintro e w41 ⟨rfl, hb⟩; refine ⟨_, rfl, ?_⟩; have LO42 := Aside0.mk (show w37.heap.size ≤ w41.heap.size from hb.size); have n0_ := Aside0.mk (Kd.S_below (by (with_reducible repeat (first | apply Kd.S_alloc | apply Kd.S_drewN | apply Kd.S_drew)); exact HX_x7.out) hb); have n1_ := Aside0.mk (Kd.S_below (by (with_reducible repeat (first | apply Kd.S_alloc | apply Kd.S_drewN | apply Kd.S_drew)); exact HX_x13.out) hb); have n2_ := Aside0.mk (Kd.S_below (by (with_reducible repeat (first | apply Kd.S_alloc | apply Kd.S_drewN | apply Kd.S_drew)); exact HX_x19.out) hb); have n3_ := Aside0.mk (Kd.S_below (by (with_reducible repeat (first | apply Kd.S_alloc | apply Kd.S_drewN | apply Kd.S_drew)); exact HX_x25.out) hb); have n4_ := Aside0.mk (Kd.S_below (by (with_reducible repeat (first | apply Kd.S_alloc | apply Kd.S_drewN | apply Kd.S_drew)); exact HX_x35.out) hb); have n5_ := Aside0.mk (below_step (by repeat (first | (with_reducible first | exact HB.out | apply below_alloc | apply pw_below_drewN | apply below_drew1) | exact HB.out)) hb); clear HX_x7; clear HX_x13; clear HX_x19; clear HX_x25; clear HX_x35; clear HB; have HX_x7 := n0_; have HX_x13 := n1_; have HX_x19 := n2_; have HX_x25 := n3_; have HX_x35 := n4_; have HB := n5_; clear n0_ n1_ n2_ n3_ n4_ n5_; clear hb) | ((with_reducible refine gate_callee (f := 26) rfl ?_); refine goesL_ (some 34) rfl rfl Try.func26 (by kernel_rfl) rfl #[.slice AO_x19 t18.length co_x19, .int .i64 1] rfl (by (try simp only [List.map_toArray, List.map_cons, List.map_nil]); first | done | rfl | (simp only [List.length_drop, List.length_take]; rfl)) ?_; (with_reducible refine (laws_markEntryS.calls k (fun k_ => w15.heap.size ≤ k_ ∧ k_ < w21.heap.size) _ t18 1 t44 t45 w _ ?side1 ?side2 A43.out).mono ?_); (case side1 => exact (by repeat (first | (with_reducible first | exact HB.out | apply below_alloc | apply pw_below_drewN | apply below_drew1) | exact HB.out))); (case side2 => exact (by (with_reducible repeat (first | apply Kd.S_alloc | apply Kd.S_drewN | apply Kd.S_drew)); exact HX_x19.out)); rintro e w46 ⟨rfl, hr, hb, hk⟩; refine ⟨_, rfl, ?_⟩; have he_ := (Kd.S_reads' hr).1; rw [he_] at hr; have HE48 := Aside0.mk he_.symm; clear he_; have LO47 := Aside0.mk (show w41.heap.size ≤ w46.heap.size from hk.1); have n0_ := Aside0.mk (Kd.S_kept (by (with_reducible repeat (first | apply Kd.S_alloc | apply Kd.S_drewN | apply Kd.S_drew)); exact HX_x7.out) hk (fun k_ h_ hs_ => (by have z0_ := LO4.out; have z1_ := LO10.out; have z2_ := LO16.out; have z3_ := LO22.out; have z4_ := LO28.out; have z5_ := LO32.out; have z6_ := LO38.out; have z7_ := LO42.out; omega))); have n1_ := Aside0.mk (Kd.S_kept (by (with_reducible repeat (first | apply Kd.S_alloc | apply Kd.S_drewN | apply Kd.S_drew)); exact HX_x13.out) hk (fun k_ h_ hs_ => (by have z0_ := LO4.out; have z1_ := LO10.out; have z2_ := LO16.out; have z3_ := LO22.out; have z4_ := LO28.out; have z5_ := LO32.out; have z6_ := LO38.out; have z7_ := LO42.out; omega))); have n2_ := Aside0.mk (hr); have n3_ := Aside0.mk (Kd.S_kept (by (with_reducible repeat (first | apply Kd.S_alloc | apply Kd.S_drewN | apply Kd.S_drew)); exact HX_x25.out) hk (fun k_ h_ hs_ => (by have z0_ := LO4.out; have z1_ := LO10.out; have z2_ := LO16.out; have z3_ := LO22.out; have z4_ := LO28.out; have z5_ := LO32.out; have z6_ := LO38.out; have z7_ := LO42.out; omega))); have n4_ := Aside0.mk (Kd.S_kept (by (with_reducible repeat (first | apply Kd.S_alloc | apply Kd.S_drewN | apply Kd.S_drew)); exact HX_x35.out) hk (fun k_ h_ hs_ => (by have z0_ := LO4.out; have z1_ := LO10.out; have z2_ := LO16.out; have z3_ := LO22.out; have z4_ := LO28.out; have z5_ := LO32.out; have z6_ := LO38.out; have z7_ := LO42.out; omega))); have n5_ := Aside0.mk (hb); clear HX_x7; clear HX_x13; clear HX_x19; clear HX_x25; clear HX_x35; clear HB; have HX_x7 := n0_; have HX_x13 := n1_; have HX_x19 := n2_; have HX_x25 := n3_; have HX_x35 := n4_; have HB := n5_; clear n0_ n1_ n2_ n3_ n4_ n5_; clear hr hb hk) | (go_at_call 22; (with_reducible refine (laws_eqEntryS.calls k _ _ t24 _ _ t12 true _ ?side1 ?side2 ?side3 ?side4 A49.out).mono ?_); (case side1 => repeat (first | exact (Kd.S_reads' HX_x25.out).2.2 | (with_reducible refine Kd.C_alloc ?_ _) | (with_reducible refine Kd.C_drewN ?_ _) | (with_reducible refine Kd.C_drew ?_))); (case side2 => exact (Kd.S_reads' HX_x25.out).2.1); (case side3 => repeat (first | exact (Kd.S_reads' HX_x13.out).2.2 | (with_reducible refine Kd.C_alloc ?_ _) | (with_reducible refine Kd.C_drewN ?_ _) | (with_reducible refine Kd.C_drew ?_))); (case side4 => exact (Kd.S_reads' HX_x13.out).2.1); rintro e w51 ⟨rfl, hb⟩; have LO52 := Aside0.mk (show w46.heap.size ≤ w51.heap.size from hb.size); have n0_ := Aside0.mk (Kd.S_below (by (with_reducible repeat (first | apply Kd.S_alloc | apply Kd.S_drewN | apply Kd.S_drew)); exact HX_x7.out) hb); have n1_ := Aside0.mk (Kd.S_below (by (with_reducible repeat (first | apply Kd.S_alloc | apply Kd.S_drewN | apply Kd.S_drew)); exact HX_x13.out) hb); have n2_ := Aside0.mk (Kd.S_below (by (with_reducible repeat (first | apply Kd.S_alloc | apply Kd.S_drewN | apply Kd.S_drew)); exact HX_x19.out) hb); have n3_ := Aside0.mk (Kd.S_below (by (with_reducible repeat (first | apply Kd.S_alloc | apply Kd.S_drewN | apply Kd.S_drew)); exact HX_x25.out) hb); have n4_ := Aside0.mk (Kd.S_below (by (with_reducible repeat (first | apply Kd.S_alloc | apply Kd.S_drewN | apply Kd.S_drew)); exact HX_x35.out) hb); have n5_ := Aside0.mk (below_step (by repeat (first | (with_reducible first | exact HB.out | apply below_alloc | apply pw_below_drewN | apply below_drew1) | exact HB.out)) hb); clear HX_x7; clear HX_x13; clear HX_x19; clear HX_x25; clear HX_x35; clear HB; have HX_x7 := n0_; have HX_x13 := n1_; have HX_x19 := n2_; have HX_x25 := n3_; have HX_x35 := n4_; have HB := n5_; clear n0_ n1_ n2_ n3_ n4_ n5_; clear hb) | ((with_reducible refine gate_callee (f := 26) rfl ?_); refine goesL_ (some 45) rfl rfl Try.func26 (by kernel_rfl) rfl #[.slice AO_x25 t24.length co_x25, .int .i64 1] rfl (by (try simp only [List.map_toArray, List.map_cons, List.map_nil]); first | done | rfl | (simp only [List.length_drop, List.length_take]; rfl)) ?_; (with_reducible refine (laws_markEntryS.calls k (fun k_ => w21.heap.size ≤ k_ ∧ k_ < w27.heap.size) _ t24 1 t54 t55 w _ ?side1 ?side2 A53.out).mono ?_); (case side1 => exact (by repeat (first | (with_reducible first | exact HB.out | apply below_alloc | apply pw_below_drewN | apply below_drew1) | exact HB.out))); (case side2 => exact (by (with_reducible repeat (first | apply Kd.S_alloc | apply Kd.S_drewN | apply Kd.S_drew)); exact HX_x25.out)); rintro e w56 ⟨rfl, hr, hb, hk⟩; refine ⟨_, rfl, ?_⟩; have he_ := (Kd.S_reads' hr).1; rw [he_] at hr; have HE58 := Aside0.mk he_.symm; clear he_; have LO57 := Aside0.mk (show w51.heap.size ≤ w56.heap.size from hk.1); have n0_ := Aside0.mk (Kd.S_kept (by (with_reducible repeat (first | apply Kd.S_alloc | apply Kd.S_drewN | apply Kd.S_drew)); exact HX_x7.out) hk (fun k_ h_ hs_ => (by have z0_ := LO4.out; have z1_ := LO10.out; have z2_ := LO16.out; have z3_ := LO22.out; have z4_ := LO28.out; have z5_ := LO32.out; have z6_ := LO38.out; have z7_ := LO42.out; have z8_ := LO47.out; have z9_ := LO52.out; omega))); have n1_ := Aside0.mk (Kd.S_kept (by (with_reducible repeat (first | apply Kd.S_alloc | apply Kd.S_drewN | apply Kd.S_drew)); exact HX_x13.out) hk (fun k_ h_ hs_ => (by have z0_ := LO4.out; have z1_ := LO10.out; have z2_ := LO16.out; have z3_ := LO22.out; have z4_ := LO28.out; have z5_ := LO32.out; have z6_ := LO38.out; have z7_ := LO42.out; have z8_ := LO47.out; have z9_ := LO52.out; omega))); have n2_ := Aside0.mk (Kd.S_kept (by (with_reducible repeat (first | apply Kd.S_alloc | apply Kd.S_drewN | apply Kd.S_drew)); exact HX_x19.out) hk (fun k_ h_ hs_ => (by have z0_ := LO4.out; have z1_ := LO10.out; have z2_ := LO16.out; have z3_ := LO22.out; have z4_ := LO28.out; have z5_ := LO32.out; have z6_ := LO38.out; have z7_ := LO42.out; have z8_ := LO47.out; have z9_ := LO52.out; omega))); have n3_ := Aside0.mk (hr); have n4_ := Aside0.mk (Kd.S_kept (by (with_reducible repeat (first | apply Kd.S_alloc | apply Kd.S_drewN | apply Kd.S_drew)); exact HX_x35.out) hk (fun k_ h_ hs_ => (by have z0_ := LO4.out; have z1_ := LO10.out; have z2_ := LO16.out; have z3_ := LO22.out; have z4_ := LO28.out; have z5_ := LO32.out; have z6_ := LO38.out; have z7_ := LO42.out; have z8_ := LO47.out; have z9_ := LO52.out; omega))); have n5_ := Aside0.mk (hb); clear HX_x7; clear HX_x13; clear HX_x19; clear HX_x25; clear HX_x35; clear HB; have HX_x7 := n0_; have HX_x13 := n1_; have HX_x19 := n2_; have HX_x25 := n3_; have HX_x35 := n4_; have HB := n5_; clear n0_ n1_ n2_ n3_ n4_ n5_; clear hr hb hk) | ((with_reducible refine gate_callee (f := 27) rfl ?_); refine goesL_ (some 48) rfl rfl Try.func27 (by kernel_rfl) rfl #[.slice AO_x25 t55.length co_x25, .int .i64 1] rfl (by (try simp only [List.map_toArray, List.map_cons, List.map_nil]); first | done | rfl | (rw [HE58.out] <;> rfl) | (simp only [List.length_drop, List.length_take]; rfl)) ?_; (with_reducible refine (laws_heldEntryS.calls k _ _ t55 1 t60 _ ?side1 ?side2 A59.out).mono ?_); (case side1 => repeat (first | exact (Kd.S_reads' HX_x25.out).2.2 | (with_reducible refine Kd.C_alloc ?_ _) | (with_reducible refine Kd.C_drewN ?_ _) | (with_reducible refine Kd.C_drew ?_))); (case side2 => exact (Kd.S_reads' HX_x25.out).2.1); rintro e w' ⟨rfl, ⟨nd, rfl⟩⟩; refine ⟨_, rfl, ?_⟩) | ((with_reducible refine gate_callee (f := 19) rfl ?_); refine goesL_ (some 55) rfl rfl Try.func19 (by kernel_rfl) rfl #[.slice A0 l0.length c0] rfl (by (try simp only [List.map_toArray, List.map_cons, List.map_nil]); first | done | rfl | (simp only [List.length_drop, List.length_take]; rfl)) ?_; (with_reducible refine (laws_toEntryS.calls k _ _ l0 t62 _ ?side1 ?side2 A61.out).mono ?_); (case side1 => repeat (first | exact (Kd.C_below HR0.out (by repeat (first | (with_reducible first | exact HB.out | apply below_alloc | apply pw_below_drewN | apply below_drew1) | exact HB.out))) | (with_reducible refine Kd.C_alloc ?_ _) | (with_reducible refine Kd.C_drewN ?_ _) | (with_reducible refine Kd.C_drew ?_))); (case side2 => exact HC0.out); rintro e w65 ⟨v64, rfl, ho, hb⟩; refine ⟨_, rfl, ?_⟩; have LO66 := Aside0.mk (show w56.heap.size ≤ w65.heap.size from hb.size); have n0_ := Aside0.mk (show Kd.S k41 41 w65 w.heap.size (fun k_ => w56.heap.size ≤ k_ ∧ k_ < w65.heap.size) v64 t62 from Kd.S_mono (Kd.S_lower (Kd.S_bound ho) (show w.heap.size ≤ w56.heap.size from (HB.out : Below w.heap.size w w56).size)) (fun k_ hk_ => ⟨hk_.2.1, hk_.2.2.1⟩)); have n1_ := Aside0.mk (Kd.S_below (by (with_reducible repeat (first | apply Kd.S_alloc | apply Kd.S_drewN | apply Kd.S_drew)); exact HX_x7.out) hb); have n2_ := Aside0.mk (Kd.S_below (by (with_reducible repeat (first | apply Kd.S_alloc | apply Kd.S_drewN | apply Kd.S_drew)); exact HX_x13.out) hb); have n3_ := Aside0.mk (Kd.S_below (by (with_reducible repeat (first | apply Kd.S_alloc | apply Kd.S_drewN | apply Kd.S_drew)); exact HX_x19.out) hb); have n4_ := Aside0.mk (Kd.S_below (by (with_reducible repeat (first | apply Kd.S_alloc | apply Kd.S_drewN | apply Kd.S_drew)); exact HX_x25.out) hb); have n5_ := Aside0.mk (Kd.S_below (by (with_reducible repeat (first | apply Kd.S_alloc | apply Kd.S_drewN | apply Kd.S_drew)); exact HX_x35.out) hb); have n6_ := Aside0.mk (below_step (by repeat (first | (with_reducible first | exact HB.out | apply below_alloc | apply pw_below_drewN | apply below_drew1) | exact HB.out)) hb); clear HX_x7; clear HX_x13; clear HX_x19; clear HX_x25; clear HX_x35; clear HB; have HX_x63 := n0_; have HX_x7 := n1_; have HX_x13 := n2_; have HX_x19 := n3_; have HX_x25 := n4_; have HX_x35 := n5_; have HB := n6_; clear n0_ n1_ n2_ n3_ n4_ n5_ n6_; clear ho hb; obtain ⟨AO_x63, co_x63, eo_x63⟩ := Kd.S_slice HX_x63.out; subst eo_x63) | ((with_reducible refine gate_callee (f := 29) rfl ?_); refine goesL_ (some 56) rfl rfl Try.func29 (by kernel_rfl) rfl #[.slice AO_x63 t62.length co_x63] rfl (by (try simp only [List.map_toArray, List.map_cons, List.map_nil]); first | done | rfl | (simp only [List.length_drop, List.length_take]; rfl)) ?_; (with_reducible refine (impl_Negate.calls k _ _ t62 t68 _ ?side1 ?side2 A67.out).mono ?_); (case side1 => repeat (first | exact (Kd.S_reads' HX_x63.out).2.2 | (with_reducible refine Kd.C_alloc ?_ _) | (with_reducible refine Kd.C_drewN ?_ _) | (with_reducible refine Kd.C_drew ?_))); (case side2 => exact (Kd.S_reads' HX_x63.out).2.1); rintro e w71 ⟨v70, rfl, ho, hb⟩; refine ⟨_, rfl, ?_⟩; have LO72 := Aside0.mk (show w65.heap.size ≤ w71.heap.size from hb.size); have n0_ := Aside0.mk (show Kd.S k41 41 w71 w.heap.size (fun k_ => w65.heap.size ≤ k_ ∧ k_ < w71.heap.size) v70 t68 from Kd.S_mono (Kd.S_lower (Kd.S_bound ho) (show w.heap.size ≤ w65.heap.size from (HB.out : Below w.heap.size w w65).size)) (fun k_ hk_ => ⟨hk_.2.1, hk_.2.2.1⟩)); have n1_ := Aside0.mk (Kd.S_below (by (with_reducible repeat (first | apply Kd.S_alloc | apply Kd.S_drewN | apply Kd.S_drew)); exact HX_x7.out) hb); have n2_ := Aside0.mk (Kd.S_below (by (with_reducible repeat (first | apply Kd.S_alloc | apply Kd.S_drewN | apply Kd.S_drew)); exact HX_x13.out) hb); have n3_ := Aside0.mk (Kd.S_below (by (with_reducible repeat (first | apply Kd.S_alloc | apply Kd.S_drewN | apply Kd.S_drew)); exact HX_x19.out) hb); have n4_ := Aside0.mk (Kd.S_below (by (with_reducible repeat (first | apply Kd.S_alloc | apply Kd.S_drewN | apply Kd.S_drew)); exact HX_x25.out) hb); have n5_ := Aside0.mk (Kd.S_below (by (with_reducible repeat (first | apply Kd.S_alloc | apply Kd.S_drewN | apply Kd.S_drew)); exact HX_x35.out) hb); have n6_ := Aside0.mk (Kd.S_below (by (with_reducible repeat (first | apply Kd.S_alloc | apply Kd.S_drewN | apply Kd.S_drew)); exact HX_x63.out) hb); have n7_ := Aside0.mk (below_step (by repeat (first | (with_reducible first | exact HB.out | apply below_alloc | apply pw_below_drewN | apply below_drew1) | exact HB.out)) hb); clear HX_x7; clear HX_x13; clear HX_x19; clear HX_x25; clear HX_x35; clear HX_x63; clear HB; have HX_x69 := n0_; have HX_x7 := n1_; have HX_x13 := n2_; have HX_x19 := n3_; have HX_x25 := n4_; have HX_x35 := n5_; have HX_x63 := n6_; have HB := n7_; clear n0_ n1_ n2_ n3_ n4_ n5_ n6_ n7_; clear ho hb; obtain ⟨AO_x69, co_x69, eo_x69⟩ := Kd.S_slice HX_x69.out; subst eo_x69) | ((with_reducible refine gate_callee (f := 22) rfl ?_); refine goesL_ (some 59) rfl rfl Try.func22 (by kernel_rfl) rfl #[.slice AO_x69 t68.length co_x69, .slice AO_x13 t12.length co_x13] rfl (by (try simp only [List.map_toArray, List.map_cons, List.map_nil]); first | done | rfl | (simp only [List.length_drop, List.length_take]; rfl)) ?_; (with_reducible refine (laws_eqEntryS.calls k _ _ t68 _ _ t12 true _ ?side1 ?side2 ?side3 ?side4 A73.out).mono ?_); (case side1 => repeat (first | exact (Kd.S_reads' HX_x69.out).2.2 | (with_reducible refine Kd.C_alloc ?_ _) | (with_reducible refine Kd.C_drewN ?_ _) | (with_reducible refine Kd.C_drew ?_))); (case side2 => exact (Kd.S_reads' HX_x69.out).2.1); (case side3 => repeat (first | exact (Kd.S_reads' HX_x13.out).2.2 | (with_reducible refine Kd.C_alloc ?_ _) | (with_reducible refine Kd.C_drewN ?_ _) | (with_reducible refine Kd.C_drew ?_))); (case side4 => exact (Kd.S_reads' HX_x13.out).2.1); rintro e w75 ⟨rfl, hb⟩; refine ⟨_, rfl, ?_⟩; have LO76 := Aside0.mk (show w71.heap.size ≤ w75.heap.size from hb.size); have n0_ := Aside0.mk (Kd.S_below (by (with_reducible repeat (first | apply Kd.S_alloc | apply Kd.S_drewN | apply Kd.S_drew)); exact HX_x7.out) hb); have n1_ := Aside0.mk (Kd.S_below (by (with_reducible repeat (first | apply Kd.S_alloc | apply Kd.S_drewN | apply Kd.S_drew)); exact HX_x13.out) hb); have n2_ := Aside0.mk (Kd.S_below (by (with_reducible repeat (first | apply Kd.S_alloc | apply Kd.S_drewN | apply Kd.S_drew)); exact HX_x19.out) hb); have n3_ := Aside0.mk (Kd.S_below (by (with_reducible repeat (first | apply Kd.S_alloc | apply Kd.S_drewN | apply Kd.S_drew)); exact HX_x25.out) hb); have n4_ := Aside0.mk (Kd.S_below (by (with_reducible repeat (first | apply Kd.S_alloc | apply Kd.S_drewN | apply Kd.S_drew)); exact HX_x35.out) hb); have n5_ := Aside0.mk (Kd.S_below (by (with_reducible repeat (first | apply Kd.S_alloc | apply Kd.S_drewN | apply Kd.S_drew)); exact HX_x63.out) hb); have n6_ := Aside0.mk (Kd.S_below (by (with_reducible repeat (first | apply Kd.S_alloc | apply Kd.S_drewN | apply Kd.S_drew)); exact HX_x69.out) hb); have n7_ := Aside0.mk (below_step (by repeat (first | (with_reducible first | exact HB.out | apply below_alloc | apply pw_below_drewN | apply below_drew1) | exact HB.out)) hb); clear HX_x7; clear HX_x13; clear HX_x19; clear HX_x25; clear HX_x35; clear HX_x63; clear HX_x69; clear HB; have HX_x7 := n0_; have HX_x13 := n1_; have HX_x19 := n2_; have HX_x25 := n3_; have HX_x35 := n4_; have HX_x63 := n5_; have HX_x69 := n6_; have HB := n7_; clear n0_ n1_ n2_ n3_ n4_ n5_ n6_ n7_; clear hb) | ((with_reducible refine gate_callee (f := 27) rfl ?_); refine goesL_ (some 63) rfl rfl Try.func27 (by kernel_rfl) rfl #[.slice AO_x25 t55.length co_x25, .int .i64 1] rfl (by (try simp only [List.map_toArray, List.map_cons, List.map_nil]); first | done | rfl | (rw [HE58.out] <;> rfl) | (simp only [List.length_drop, List.length_take]; rfl)) ?_; (with_reducible refine (laws_heldEntryS.calls k _ _ t55 1 t78 _ ?side1 ?side2 A77.out).mono ?_); (case side1 => repeat (first | exact (Kd.S_reads' HX_x25.out).2.2 | (with_reducible refine Kd.C_alloc ?_ _) | (with_reducible refine Kd.C_drewN ?_ _) | (with_reducible refine Kd.C_drew ?_))); (case side2 => exact (Kd.S_reads' HX_x25.out).2.1); rintro e w' ⟨rfl, ⟨nd, rfl⟩⟩; refine ⟨_, rfl, ?_⟩))
 go_ret
 exact ⟨rfl, (by repeat (first | (with_reducible first | exact HB.out | apply below_alloc | apply pw_below_drewN | apply below_drew1) | exact HB.out))⟩

end Go.Proofs.Ythmolcmgfhjegaa.PFnExactNegate
