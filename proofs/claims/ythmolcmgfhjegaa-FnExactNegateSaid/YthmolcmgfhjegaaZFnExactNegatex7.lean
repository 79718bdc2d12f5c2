/- Functions of the law FnExactNegate: each as a plain Lean function ('.f'), and that the Go code comes to what it answers ('.calls'); put together by programs of this repo (wip/tools) out of the kit's print. No condition. -/
import Derived.Test.YthmolcmgfhjegaaZFnExactNegatex0
import Derived.Test.YthmolcmgfhjegaaZFnExactNegatex5
import Derived.Test.YthmolcmgfhjegaaZFnExactNegatex6
namespace Go.Proofs.Ythmolcmgfhjegaa.PFnExactNegate
open Go.RowKit Go.Proofs.YthmolcmgfhjegaaW.PrintWords Go.Proofs.YthmolcmgfhjegaaW.PrintLast Go.Proofs.YthmolcmgfhjegaaW.PrintMore Go.Proofs.Ythmolcmgfhjegaa.Sq
attribute [local go_sem] max2_int min2_int max_two min_two max_three min_three max_four min_four   -- for this text's walks alone
set_option linter.unusedVariables false
set_option linter.unusedSimpArgs false

/-! ### impl_ValidZSet: function 32 -/
def impl_ValidZSet.l0 : Nat → List (S41) → List (S41) → Int → Int → Option (Bool)
 | 0, _, _, _, _ => none
 | k + 1, x0, x5, x6, x7 => if x7 < x6 then (if 0 ≤ x7 then (if x7 < (x5.length : Int) then ((impl_ValidRow.f k ((rd_T41 x5 x7).f0)).bind fun t198 => (if t198 = true then (if 0 < (x0.length : Int) then (if (((rd_T41 x5 x7).f0).length : Int) = (((rd_T41 x0 0).f0).length : Int) then (if ((rd_T41 x5 x7).f1) = 0 then (some false) else (if ((rd_T41 x5 x7).f1) < (-1000000) then (some false) else (if ((rd_T41 x5 x7).f1) > 1000000 then (some false) else (if x7 > 0 then (if 0 ≤ (wrap64 (x7 - 1)) then (if (wrap64 (x7 - 1)) < (x0.length : Int) then ((impl_RowLess.f k ((rd_T41 x0 (wrap64 (x7 - 1))).f0) ((rd_T41 x5 x7).f0)).bind fun t201 => (if t201 = true then (impl_ValidZSet.l0 k x0 x5 x6 (wrap64 (x7 + 1))) else (some false))) else (none)) else (none)) else (impl_ValidZSet.l0 k x0 x5 x6 (wrap64 (x7 + 1))))))) else (some false)) else (none)) else (some false))) else (none)) else (none)) else (some (decide ((x0.length : Int) ≤ 400)))
def impl_ValidZSet.f (k : Nat) (l0 : List (S41)) : Option (Bool) := impl_ValidZSet.l0 k l0 l0 (l0.length : Int) 0
theorem impl_ValidZSet.mono_l : ∀ k, (∀ y0 y1 y2 y3, LeO (impl_ValidZSet.l0 k y0 y1 y2 y3) (impl_ValidZSet.l0 (k + 1) y0 y1 y2 y3))
 | 0 => fun _ _ _ _ r h => by simp [impl_ValidZSet.l0] at h
 | k + 1 => by
  have ih0 := impl_ValidZSet.mono_l k
  ·
   intro y0 y1 y2 y3
   unfold impl_ValidZSet.l0
   repeat' first
   | (with_reducible exact ih0 _ _ _ _)
   | (with_reducible exact impl_RowLess.mono _ _ _)
   | (with_reducible exact impl_ValidRow.mono _ _)
   | (with_reducible exact LeO.refl _)
   | (with_reducible exact LeO.none _)
   | (with_reducible refine LeO.ite ?_ ?_)
   | (with_reducible refine LeO.bind ?_ (fun _ => ?_))
   | exact ih0 _ _ _ _
   | exact impl_RowLess.mono _ _ _
   | exact impl_ValidRow.mono _ _
   | exact LeO.none _
   | refine LeO.ite ?_ ?_
   | refine LeO.bind ?_ (fun _ => ?_)
theorem impl_ValidZSet.mono : ∀ a0 k, LeO (impl_ValidZSet.f k a0) (impl_ValidZSet.f (k + 1) a0) := by
 intro a0 k
 have ih0 := impl_ValidZSet.mono_l k
 unfold impl_ValidZSet.f
 repeat' first
   | (with_reducible exact ih0 _ _ _ _)
   | (with_reducible exact impl_RowLess.mono _ _ _)
   | (with_reducible exact impl_ValidRow.mono _ _)
   | (with_reducible exact LeO.refl _)
   | (with_reducible exact LeO.none _)
   | (with_reducible refine LeO.ite ?_ ?_)
   | (with_reducible refine LeO.bind ?_ (fun _ => ?_))
   | exact ih0 _ _ _ _
   | exact impl_RowLess.mono _ _ _
   | exact impl_ValidRow.mono _ _
   | exact LeO.none _
   | refine LeO.ite ?_ ?_
   | refine LeO.bind ?_ (fun _ => ?_)
def impl_ValidZSet.T4 : Bool × List (List Nat × List Nat) := (true, [([], []), ([0], [0]), ([1], [1]), ([2], [2]), ([3, 2], [3]), ([4], [4]), ([5, 4], [4, 5]), ([6, 4], [4, 6]), ([4], [4]), ([8, 4], [4, 8]), ([9, 4], [4, 9]), ([10, 4], [4, 10]), ([11, 4], [4, 11]), ([7, 12, 4], [4, 7, 12]), ([4, 13], [4, 13]), ([14, 4], [14]), ([15], [15]), ([16, 15], [15, 16]), ([17, 15], [15, 17]), ([15, 18], [15, 18]), ([19, 15], [19]), ([20], [20]), ([21, 20], [20, 21]), ([22, 20], [20, 22]), ([20, 23], [20, 23]), ([24, 20], [24]), ([25], [25]), ([26, 25], [25, 26]), ([27, 25], [25, 27]), ([25, 28], [25, 28]), ([29, 25], [29]), ([30], [30]), ([31, 30], [30, 31]), ([32, 30, 30], [30, 32]), ([33], [33]), ([33], [33]), ([35, 33], [33, 35]), ([34, 36, 33], [33, 34, 36]), ([37, 33], [33, 37]), ([38, 33], [33, 38]), ([33], [33]), ([40, 33], [33, 40]), ([39, 41, 33, 33], [33, 39, 41]), ([42, 33], [33, 42]), ([33, 43, 30], [30, 33, 43]), ([30, 44], [30, 44])])
def impl_ValidZSet.B4 : List Nat := [0, 1, 3, 7, 15, 31, 63, 127, 31, 287, 799, 1823, 3871, 8191, 16383, 32767, 65535, 131071, 262143, 524287, 1048575, 2097151, 4194303, 8388607, 16777215, 33554431, 67108863, 134217727, 268435455, 536870911, 1073741823, 2147483647, 4294967295, 8589934591, 17179869183, 17179869183, 51539607551, 137438953471, 274877906943, 549755813887, 17179869183, 1116691496959, 4398046511103, 8796093022207, 17592186044415, 35184372088831]
theorem impl_ValidZSet.tab4 : rtab .any (opsOf Try.f32 4) = impl_ValidZSet.T4 := by kernel_rfl
theorem impl_ValidZSet.bits4 : waitsOk impl_ValidZSet.T4.2 impl_ValidZSet.B4 = true := by kernel_rfl
set_option maxHeartbeats 8000000 in
set_option maxRecDepth 100000 in
theorem impl_ValidZSet.calls (k : Nat) (A0 : Option Addr) (c0 : Nat) (l0 : List (S41)) (r : Bool) (w : World) (hr0 : Kd.C k41 w A0 l0.length l0) (hc0 : l0.length ≤ c0) (h : impl_ValidZSet.f k l0 = some r) :
  Calls Try.prog 32 #[.slice A0 l0.length c0] w fun e w' => e = .returned (.bool r) ∧ Below w.heap.size w w' := by
 have hu41 := Try.underlying41
 have HR0 := Aside0.mk hr0
 have HC0 := Aside0.mk hc0
 clear hr0 hc0
 have HB := Aside0.mk (Below.refl w.heap.size w)
 have H : (impl_ValidZSet.l0 k l0 l0 (l0.length : Int) 0) = some r := h
 clear h
 have H' := Aside0.mk H
 clear H
 go_enter Try.func32, Try.ntmps32
 go_wp2
 go_loopg [7] k (fun kq v7 w' => ∃ (x7_1 : Int), v7 = .int .i64 x7_1 ∧ Aside0 (impl_ValidZSet.l0 kq l0 l0 (l0.length : Int) x7_1 = some r) ∧ Aside0 (kq ≤ k) ∧ Aside0 (Below w.heap.size w w'))
 case atStart => exact ⟨(0), (by first | rfl | (simp; done) | (simp [*]; done)), H', ⟨Nat.le_refl _⟩, ⟨by repeat (first | (with_reducible first | exact HB.out | apply below_alloc | apply pw_below_drewN | apply below_drew1) | exact HB.out)⟩⟩
 case round =>
  clear H'
  obtain ⟨x7_1, rfl, HA, HK1, HB⟩ := hrel
  cases gk with
  | zero => exact absurd HA.out (by simp [impl_ValidZSet.l0])
  | succ k1 =>
   have H := HA.out
   clear HA
   simp only [impl_ValidZSet.l0] at H
   by_cases c2 : x7_1 < (l0.length : Int)
   ·
    rw [if_pos c2] at H
    have c2b0 : decide (x7_1 < (l0.length : Int)) = true := decide_eq_true c2
    clear c2
    by_cases c3 : 0 ≤ x7_1
    ·
     rw [if_pos c3] at H
     have c3b0 : decide (0 ≤ x7_1) = true := decide_eq_true c3
     clear c3
     by_cases c4 : x7_1 < (l0.length : Int)
     ·
      rw [if_pos c4] at H
      have c4b0 : decide (x7_1 < (l0.length : Int)) = true := decide_eq_true c4
      clear c4
      replace H := Option.bind_eq_some_iff.mp H
      obtain ⟨t198, A50, H⟩ := H
      replace H : (if t198 = true then (if 0 < (l0.length : Int) then (if (((rd_T41 l0 x7_1).f0).length : Int) = (((rd_T41 l0 0).f0).length : Int) then (if ((rd_T41 l0 x7_1).f1) = 0 then (some false) else (if ((rd_T41 l0 x7_1).f1) < (-1000000) then (some false) else (if ((rd_T41 l0 x7_1).f1) > 1000000 then (some false) else (if x7_1 > 0 then (if 0 ≤ (wrap64 (x7_1 - 1)) then (if (wrap64 (x7_1 - 1)) < (l0.length : Int) then ((impl_RowLess.f k1 ((rd_T41 l0 (wrap64 (x7_1 - 1))).f0) ((rd_T41 l0 x7_1).f0)).bind fun t201 => (if t201 = true then (impl_ValidZSet.l0 k1 l0 l0 (l0.length : Int) (wrap64 (x7_1 + 1))) else (some false))) else (none)) else (none)) else (impl_ValidZSet.l0 k1 l0 l0 (l0.length : Int) (wrap64 (x7_1 + 1))))))) else (some false)) else (none)) else (some false)) = some r := H
      have A5 := Aside0.mk A50
      clear A50
      by_cases c6 : t198 = true
      ·
       subst c6
       have H1 : (if 0 < (l0.length : Int) then (if (((rd_T41 l0 x7_1).f0).length : Int) = (((rd_T41 l0 0).f0).length : Int) then (if ((rd_T41 l0 x7_1).f1) = 0 then (some false) else (if ((rd_T41 l0 x7_1).f1) < (-1000000) then (some false) else (if ((rd_T41 l0 x7_1).f1) > 1000000 then (some false) else (if x7_1 > 0 then (if 0 ≤ (wrap64 (x7_1 - 1)) then (if (wrap64 (x7_1 - 1)) < (l0.length : Int) then ((impl_RowLess.f k1 ((rd_T41 l0 (wrap64 (x7_1 - 1))).f0) ((rd_T41 l0 x7_1).f0)).bind fun t201 => (if t201 = true then (impl_ValidZSet.l0 k1 l0 l0 (l0.length : Int) (wrap64 (x7_1 + 1))) else (some false))) else (none)) else (none)) else (impl_ValidZSet.l0 k1 l0 l0 (l0.length : Int) (wrap64 (x7_1 + 1))))))) else (some false)) else (none)) = some r := by rw [if_pos rfl] at H; exact H
       clear H
       have H := H1
       clear H1
       by_cases c7 : 0 < (l0.length : Int)
       ·
        rw [if_pos c7] at H
        have c7b0 : decide (0 < (l0.length : Int)) = true := decide_eq_true c7
        have c7b1 : decide (0 < l0.length) = true := decide_eq_true (by omega)
        clear c7
        by_cases c8 : (((rd_T41 l0 x7_1).f0).length : Int) = (((rd_T41 l0 0).f0).length : Int)
        ·
         rw [if_pos c8] at H
         have c8b0 : ((((rd_T41 l0 x7_1).f0).length : Int) == (((rd_T41 l0 0).f0).length : Int)) = true := beq_iff_eq.mpr c8
         have c8b1 : ((((rd_T41 l0 x7_1).f0).length : Int) != (((rd_T41 l0 0).f0).length : Int)) = false := bne_eq_false_iff_eq.mpr c8
         have c8b2 : (((rd_T41 l0 x7_1).f0).length == ((rd_T41 l0 0).f0).length) = true := by first | simpa using c8 | (simp at c8 ⊢; omega)
         clear c8
         by_cases c9 : ((rd_T41 l0 x7_1).f1) = 0
         ·
          rw [if_pos c9] at H
          have c9b0 : (((rd_T41 l0 x7_1).f1) == 0) = true := beq_iff_eq.mpr c9
          have c9b1 : (((rd_T41 l0 x7_1).f1) != 0) = false := bne_eq_false_iff_eq.mpr c9
          clear c9
          obtain rfl := Option.some.inj H
          have p196 : 0 ≤ (x7_1 : Int) := of_decide_eq_true (by first | (with_reducible assumption) | assumption)
          have q196 : x7_1 < (l0.length : Int) := of_decide_eq_true (by first | (with_reducible assumption) | assumption)
          obtain ⟨ad196, A196_0, c196_0, e196, hx196_0, hx196_1, hl196_0, hi196_0⟩ := at_T41 HR0.out x7_1 p196 q196
          cases e196
          replace hx196_0 := (HB.out.cell (World.block_lt_of_cell? w _ hx196_0)).trans hx196_0
          replace hx196_1 := (HB.out.cell (World.block_lt_of_cell? w _ hx196_1)).trans hx196_1
          have HR196_0 := Aside0.mk hi196_0
          have HC196_0 := Aside0.mk hl196_0
          clear hi196_0 hl196_0
          replace p196 := eq_true p196
          replace q196 := eq_true q196
          try go_wp2_with (first | ((with_reducible refine gate_dst (N := 4) rfl ?_); (try (refine gate_guard (by rfl) ?_; dsimp only)); refine box_event ?hg (N := 4) ?hd (cs := #[.slice none 0 0, .int .i64 0]) (t := 41) ?hr ?_; (case hd => rfl); (case hg => rfl); (case hr => first | (go_simp; done) | (go_simp; rfl)); intro gb197 hg w10 hbox hb; have n0_ := Aside0.mk (below_step (by repeat (first | (with_reducible first | exact HB.out | apply below_alloc | apply pw_below_drewN | apply below_drew1) | exact HB.out)) hb); have n1_ := Aside0.mk (hbox); have n2_ := Aside0.mk ((by rw [hg]; exact (below_size (by repeat (first | (with_reducible first | exact HB.out | apply below_alloc | apply pw_below_drewN | apply below_drew1) | exact HB.out))) : w.heap.size ≤ gb197)); have n3_ := Aside0.mk ((by rw [hg]; exact (below_size (by repeat (first | (with_reducible first | exact HB.out | apply below_alloc | apply pw_below_drewN | apply below_drew1) | exact HB.out))) : w.heap.size ≤ gb197)); clear HB; have HB := n0_; have BK197 := n1_; have GW197 := n2_; have GE197 := n3_; clear n0_ n1_ n2_ n3_; clear hb hbox hg; have hcz11_0 : w10.cell? ⟨gb197, 0, none⟩ = some (.slice none 0 0) := (blk_cell BK197.out 0).trans rfl; have hcz11_1 : w10.cell? ⟨gb197, 1, none⟩ = some (.int .i64 0) := (blk_cell BK197.out 1).trans rfl; have hfz11_0 := blk_frozen BK197.out 0; have hfz11_1 := blk_frozen BK197.out 1))
          have n0_ : Aside0 (((w10.setCell ⟨gb197, 0, none⟩ (.slice A196_0 ((rd_T41 l0 x7_1).f0).length c196_0)).setCell ⟨gb197, 1, none⟩ (.int .i64 ((rd_T41 l0 x7_1).f1))).heap[gb197]? = some (.cells #[.slice A196_0 ((rd_T41 l0 x7_1).f0).length c196_0, .int .i64 ((rd_T41 l0 x7_1).f1)] 41 (0, 0))) := ⟨by (with_reducible repeat (first | refine blk_drewN ?_ _ | refine blk_drew ?_ | refine blk_alloc ?_ _)); refine blk_put (cs := #[.slice A196_0 ((rd_T41 l0 x7_1).f0).length c196_0, .int .i64 0]) ?_ 1 _ rfl; (with_reducible repeat (first | refine blk_drewN ?_ _ | refine blk_drew ?_ | refine blk_alloc ?_ _)); refine blk_put (cs := #[.slice none 0 0, .int .i64 0]) ?_ 0 _ rfl; (with_reducible repeat (first | refine blk_drewN ?_ _ | refine blk_drew ?_ | refine blk_alloc ?_ _)); exact BK197.out⟩
          have n1_ : Aside0 (Below w.heap.size w ((w10.setCell ⟨gb197, 0, none⟩ (.slice A196_0 ((rd_T41 l0 x7_1).f0).length c196_0)).setCell ⟨gb197, 1, none⟩ (.int .i64 ((rd_T41 l0 x7_1).f1)))) := ⟨by repeat (first | (with_reducible first | exact HB.out | apply below_alloc | apply pw_below_drewN | apply below_drew1 | refine below_set ?_ GE197.out) | exact HB.out)⟩
          (try clear BK197)
          (try clear HB)
          generalize ((w10.setCell ⟨gb197, 0, none⟩ (.slice A196_0 ((rd_T41 l0 x7_1).f0).length c196_0)).setCell ⟨gb197, 1, none⟩ (.int .i64 ((rd_T41 l0 x7_1).f1))) = w12 at n0_ n1_ ⊢
          have BK197 := n0_
          have HB := n1_
          clear n0_ n1_
          have n0_ := Aside0.mk (blk_drew BK197.out)
          have n1_ := Aside0.mk (below_drew1 HB.out)
          clear BK197
          clear HB
          have BK197 := n0_
          have HB := n1_
          clear n0_ n1_
          have p199 : 0 ≤ (0 : Int) := (by omega)
          have q199 : 0 < (l0.length : Int) := of_decide_eq_true (by first | (with_reducible assumption) | assumption)
          obtain ⟨ad199, A199_0, c199_0, e199, hx199_0, hx199_1, hl199_0, hi199_0⟩ := at_T41 HR0.out 0 p199 q199
          have hw199_1 := hx199_1
          (try rw [show ((0 : Int)).toNat = 0 from rfl] at hw199_1)
          (try rw [show 0 * 2 = 0 from rfl] at hw199_1)
          (try rw [Addr.add_zero'] at hw199_1)
          have hw199_0 := hx199_0
          (try rw [show ((0 : Int)).toNat = 0 from rfl] at hw199_0)
          (try rw [show 0 * 2 = 0 from rfl] at hw199_0)
          (try rw [Addr.add_zero'] at hw199_0)
          obtain rfl : ad196 = ad199 := (by injection e199)
          have qi199 : (0 < l0.length) = True := eq_true (by omega)
          (try rw [show ((0 : Int)).toNat = 0 from rfl] at hx199_0)
          (try rw [show 0 * 2 = 0 from rfl] at hx199_0)
          (try rw [Addr.add_zero'] at hx199_0)
          (try rw [show ((0 : Int)).toNat = 0 from rfl] at hx199_1)
          (try rw [show 0 * 2 = 0 from rfl] at hx199_1)
          (try rw [Addr.add_zero'] at hx199_1)
          replace hx199_0 := (HB.out.cell (World.block_lt_of_cell? w _ hx199_0)).trans hx199_0
          replace hx199_1 := (HB.out.cell (World.block_lt_of_cell? w _ hx199_1)).trans hx199_1
          have HR199_0 := Aside0.mk hi199_0
          have HC199_0 := Aside0.mk hl199_0
          clear hi199_0 hl199_0
          replace p199 := eq_true p199
          replace q199 := eq_true q199
          refine start_ (n := 46) (S := fun w' => w'.cell? ⟨gb197, 0, none⟩ = some (.slice A196_0 ((rd_T41 l0 x7_1).f0).length c196_0) ∧ w'.cell? ⟨gb197, 1, none⟩ = some (.int .i64 ((rd_T41 l0 x7_1).f1)) ∧ w'.cell? ad196 = some (.slice A199_0 ((rd_T41 l0 0).f0).length c199_0) ∧ w'.cell? ⟨ad196.block, ad196.off + 1, none⟩ = some (.int .i64 ((rd_T41 l0 0).f1))) (ds := []) (Array.replicate 46 false) (by kernel_rfl) rfl rfl ⟨(blk_cell BK197.out 0).trans rfl, (blk_cell BK197.out 1).trans rfl, ((HB.out.cell (World.block_lt_of_cell? w _ hw199_0)).trans hw199_0), ((HB.out.cell (World.block_lt_of_cell? w _ hw199_1)).trans hw199_1)⟩ (fun hHeld => ?_); refine with_tabW impl_ValidZSet.tab4 impl_ValidZSet.bits4 (fun HT_ HW_ => ?_)
          generalize w12.drew = w13 at BK197 HB HR199_0 hx199_0 hx199_1 hHeld ⊢
          refine pT HT_ 0 12 (bm 46 1) ?_
          refine tT HT_ HW_ hHeld 1 13 (bm 46 3) ?_
          refine one_ (i := 2) (N := some 14) (bm 46 7) rfl rfl (one_of HT_.out (by kernel_rfl)) (by decide) (fun K hK => ?_)
          refine goes_ Try.func66 (by kernel_rfl) rfl #[.slice A196_0 ((rd_T41 l0 x7_1).f0).length c196_0] (by rfl) rfl rfl (by (try simp only [List.map_toArray, List.map_cons, List.map_nil]); first | done | rfl | (simp only [List.length_drop, List.length_take]; rfl)) ?_
          with_reducible refine (impl_ValidRow.calls k1 _ _ ((rd_T41 l0 x7_1).f0) true _ ?side1 ?side2 A5.out).mono ?_
          (case side1 => repeat (first | exact (Kd.C_below HR196_0.out HB.out) | (with_reducible refine Kd.C_alloc ?_ _) | (with_reducible refine Kd.C_drewN ?_ _) | (with_reducible refine Kd.C_drew ?_)))
          (case side2 => exact HC196_0.out)
          rintro e w' ⟨rfl, ⟨nd, rfl⟩⟩
          refine ⟨_, rfl, ?_⟩
          refine hK.out _ _ ⟨(blk_cell BK197.out 0).trans rfl, (blk_cell BK197.out 1).trans rfl, ((HB.out.cell (World.block_lt_of_cell? w _ hw199_0)).trans hw199_0), ((HB.out.cell (World.block_lt_of_cell? w _ hw199_1)).trans hw199_1)⟩ (fun hHeld => ?_)
          clear hK K
          refine nS 14 ?_
          refine pT HT_ 3 15 (bm 46 15) ?_
          refine pT HT_ 4 16 (bm 46 31) ?_
          refine pT HT_ 5 17 (bm 46 63) ?_
          refine pT HT_ 8 20 (bm 46 319) ?_
          refine pT HT_ 9 21 (bm 46 831) ?_
          refine pT HT_ 10 22 (bm 46 1855) ?_
          refine tT HT_ HW_ hHeld 6 18 (bm 46 1919) ?_
          refine pT HT_ 7 19 (bm 46 2047) ?_
          refine tT HT_ HW_ hHeld 11 23 (bm 46 4095) ?_
          refine pT HT_ 12 24 (bm 46 8191) ?_
          refine pT HT_ 13 25 (bm 46 16383) ?_
          refine pT HT_ 14 26 (bm 46 32767) ?_
          refine pT HT_ 15 27 (bm 46 65535) ?_
          refine pT HT_ 16 28 (bm 46 131071) ?_
          refine tT HT_ HW_ hHeld 17 29 (bm 46 262143) ?_
          refine pT HT_ 18 30 (bm 46 524287) ?_
          refine pT HT_ 19 31 (bm 46 1048575) ?_
          refine pT HT_ 20 32 (bm 46 2097151) ?_
          refine pU HT_ 21 33 (bm 46 4194303) ?_
          refine pU HT_ 22 34 (bm 46 8388607) ?_
          refine pU HT_ 23 35 (bm 46 16777215) ?_
          refine pT HT_ 24 36 (bm 46 33554431) ?_
          refine pT HT_ 25 37 (bm 46 67108863) ?_
          refine pU HT_ 26 38 (bm 46 134217727) ?_
          refine pU HT_ 27 39 (bm 46 268435455) ?_
          refine pU HT_ 28 40 (bm 46 536870911) ?_
          refine pT HT_ 29 41 (bm 46 1073741823) ?_
          refine pT HT_ 30 42 (bm 46 2147483647) ?_
          refine pU HT_ 31 43 (bm 46 4294967295) ?_
          refine pU HT_ 32 44 (bm 46 8589934591) ?_
          refine pU HT_ 33 45 (bm 46 17179869183) ?_
          refine pU HT_ 34 46 (bm 46 34359738367) ?_
          refine pU HT_ 35 47 (bm 46 68719476735) ?_
          refine pU HT_ 36 48 (bm 46 137438953471) ?_
          refine pU HT_ 37 49 (bm 46 274877906943) ?_
          refine pU HT_ 38 50 (bm 46 549755813887) ?_
          refine pU HT_ 39 51 (bm 46 1099511627775) ?_
          refine pU HT_ 40 52 (bm 46 2199023255551) ?_
          refine pU HT_ 41 53 (bm 46 4398046511103) ?_
          refine pU HT_ 42 54 (bm 46 8796093022207) ?_
          refine pU HT_ 43 55 (bm 46 17592186044415) ?_
          refine pU HT_ 44 56 (bm 46 35184372088831) ?_
          refine pT HT_ 45 57 (bm 46 70368744177663) ?_
          refine done_ (done_of HT_.out (by kernel_rfl)) ?_
          try go_wp2
          go_ret
          exact ⟨by first | rfl | (simp [errW_none, errW_some] <;> rfl) | (simp [*, errW_none, errW_some] <;> rfl), by repeat (first | (with_reducible first | exact HB.out | apply below_alloc | apply pw_below_drewN | apply below_drew1 | refine below_set ?_ GE197.out) | exact HB.out)⟩
         ·
          rw [if_neg c9] at H
          have c9b0 : (((rd_T41 l0 x7_1).f1) == 0) = false := beq_eq_false_iff_ne.mpr c9
          have c9b1 : (((rd_T41 l0 x7_1).f1) != 0) = true := bne_iff_ne.mpr c9
          by_cases c14 : ((rd_T41 l0 x7_1).f1) < (-1000000)
          ·
           rw [if_pos c14] at H
           have c14b0 : decide (((rd_T41 l0 x7_1).f1) < (-1000000)) = true := decide_eq_true c14
           clear c14
           obtain rfl := Option.some.inj H
           have p196 : 0 ≤ (x7_1 : Int) := of_decide_eq_true (by first | (with_reducible assumption) | assumption)
           have q196 : x7_1 < (l0.length : Int) := of_decide_eq_true (by first | (with_reducible assumption) | assumption)
           obtain ⟨ad196, A196_0, c196_0, e196, hx196_0, hx196_1, hl196_0, hi196_0⟩ := at_T41 HR0.out x7_1 p196 q196
           cases e196
           replace hx196_0 := (HB.out.cell (World.block_lt_of_cell? w _ hx196_0)).trans hx196_0
           replace hx196_1 := (HB.out.cell (World.block_lt_of_cell? w _ hx196_1)).trans hx196_1
           have HR196_0 := Aside0.mk hi196_0
           have HC196_0 := Aside0.mk hl196_0
           clear hi196_0 hl196_0
           replace p196 := eq_true p196
           replace q196 := eq_true q196
           try go_wp2_with (first | ((with_reducible refine gate_dst (N := 4) rfl ?_); (try (refine gate_guard (by rfl) ?_; dsimp only)); refine box_event ?hg (N := 4) ?hd (cs := #[.slice none 0 0, .int .i64 0]) (t := 41) ?hr ?_; (case hd => rfl); (case hg => rfl); (case hr => first | (go_simp; done) | (go_simp; rfl)); intro gb197 hg w15 hbox hb; have n0_ := Aside0.mk (below_step (by repeat (first | (with_reducible first | exact HB.out | apply below_alloc | apply pw_below_drewN | apply below_drew1) | exact HB.out)) hb); have n1_ := Aside0.mk (hbox); have n2_ := Aside0.mk ((by rw [hg]; exact (below_size (by repeat (first | (with_reducible first | exact HB.out | apply below_alloc | apply pw_below_drewN | apply below_drew1) | exact HB.out))) : w.heap.size ≤ gb197)); have n3_ := Aside0.mk ((by rw [hg]; exact (below_size (by repeat (first | (with_reducible first | exact HB.out | apply below_alloc | apply pw_below_drewN | apply below_drew1) | exact HB.out))) : w.heap.size ≤ gb197)); clear HB; have HB := n0_; have BK197 := n1_; have GW197 := n2_; have GE197 := n3_; clear n0_ n1_ n2_ n3_; clear hb hbox hg; have hcz16_0 : w15.cell? ⟨gb197, 0, none⟩ = some (.slice none 0 0) := (blk_cell BK197.out 0).trans rfl; have hcz16_1 : w15.cell? ⟨gb197, 1, none⟩ = some (.int .i64 0) := (blk_cell BK197.out 1).trans rfl; have hfz16_0 := blk_frozen BK197.out 0; have hfz16_1 := blk_frozen BK197.out 1))
           have n0_ : Aside0 (((w15.setCell ⟨gb197, 0, none⟩ (.slice A196_0 ((rd_T41 l0 x7_1).f0).length c196_0)).setCell ⟨gb197, 1, none⟩ (.int .i64 ((rd_T41 l0 x7_1).f1))).heap[gb197]? = some (.cells #[.slice A196_0 ((rd_T41 l0 x7_1).f0).length c196_0, .int .i64 ((rd_T41 l0 x7_1).f1)] 41 (0, 0))) := ⟨by (with_reducible repeat (first | refine blk_drewN ?_ _ | refine blk_drew ?_ | refine blk_alloc ?_ _)); refine blk_put (cs := #[.slice A196_0 ((rd_T41 l0 x7_1).f0).length c196_0, .int .i64 0]) ?_ 1 _ rfl; (with_reducible repeat (first | refine blk_drewN ?_ _ | refine blk_drew ?_ | refine blk_alloc ?_ _)); refine blk_put (cs := #[.slice none 0 0, .int .i64 0]) ?_ 0 _ rfl; (with_reducible repeat (first | refine blk_drewN ?_ _ | refine blk_drew ?_ | refine blk_alloc ?_ _)); exact BK197.out⟩
           have n1_ : Aside0 (Below w.heap.size w ((w15.setCell ⟨gb197, 0, none⟩ (.slice A196_0 ((rd_T41 l0 x7_1).f0).length c196_0)).setCell ⟨gb197, 1, none⟩ (.int .i64 ((rd_T41 l0 x7_1).f1)))) := ⟨by repeat (first | (with_reducible first | exact HB.out | apply below_alloc | apply pw_below_drewN | apply below_drew1 | refine below_set ?_ GE197.out) | exact HB.out)⟩
           (try clear BK197)
           (try clear HB)
           generalize ((w15.setCell ⟨gb197, 0, none⟩ (.slice A196_0 ((rd_T41 l0 x7_1).f0).length c196_0)).setCell ⟨gb197, 1, none⟩ (.int .i64 ((rd_T41 l0 x7_1).f1))) = w17 at n0_ n1_ ⊢
           have BK197 := n0_
           have HB := n1_
           clear n0_ n1_
           have n0_ := Aside0.mk (blk_drew BK197.out)
           have n1_ := Aside0.mk (below_drew1 HB.out)
           clear BK197
           clear HB
           have BK197 := n0_
           have HB := n1_
           clear n0_ n1_
           have p199 : 0 ≤ (0 : Int) := (by omega)
           have q199 : 0 < (l0.length : Int) := of_decide_eq_true (by first | (with_reducible assumption) | assumption)
           obtain ⟨ad199, A199_0, c199_0, e199, hx199_0, hx199_1, hl199_0, hi199_0⟩ := at_T41 HR0.out 0 p199 q199
           have hw199_1 := hx199_1
           (try rw [show ((0 : Int)).toNat = 0 from rfl] at hw199_1)
           (try rw [show 0 * 2 = 0 from rfl] at hw199_1)
           (try rw [Addr.add_zero'] at hw199_1)
           have hw199_0 := hx199_0
           (try rw [show ((0 : Int)).toNat = 0 from rfl] at hw199_0)
           (try rw [show 0 * 2 = 0 from rfl] at hw199_0)
           (try rw [Addr.add_zero'] at hw199_0)
           obtain rfl : ad196 = ad199 := (by injection e199)
           have qi199 : (0 < l0.length) = True := eq_true (by omega)
           (try rw [show ((0 : Int)).toNat = 0 from rfl] at hx199_0)
           (try rw [show 0 * 2 = 0 from rfl] at hx199_0)
           (try rw [Addr.add_zero'] at hx199_0)
           (try rw [show ((0 : Int)).toNat = 0 from rfl] at hx199_1)
           (try rw [show 0 * 2 = 0 from rfl] at hx199_1)
           (try rw [Addr.add_zero'] at hx199_1)
           replace hx199_0 := (HB.out.cell (World.block_lt_of_cell? w _ hx199_0)).trans hx199_0
           replace hx199_1 := (HB.out.cell (World.block_lt_of_cell? w _ hx199_1)).trans hx199_1
           have HR199_0 := Aside0.mk hi199_0
           have HC199_0 := Aside0.mk hl199_0
           clear hi199_0 hl199_0
           replace p199 := eq_true p199
           replace q199 := eq_true q199
           refine start_ (n := 46) (S := fun w' => w'.cell? ⟨gb197, 0, none⟩ = some (.slice A196_0 ((rd_T41 l0 x7_1).f0).length c196_0) ∧ w'.cell? ⟨gb197, 1, none⟩ = some (.int .i64 ((rd_T41 l0 x7_1).f1)) ∧ w'.cell? ad196 = some (.slice A199_0 ((rd_T41 l0 0).f0).length c199_0) ∧ w'.cell? ⟨ad196.block, ad196.off + 1, none⟩ = some (.int .i64 ((rd_T41 l0 0).f1))) (ds := []) (Array.replicate 46 false) (by kernel_rfl) rfl rfl ⟨(blk_cell BK197.out 0).trans rfl, (blk_cell BK197.out 1).trans rfl, ((HB.out.cell (World.block_lt_of_cell? w _ hw199_0)).trans hw199_0), ((HB.out.cell (World.block_lt_of_cell? w _ hw199_1)).trans hw199_1)⟩ (fun hHeld => ?_); refine with_tabW impl_ValidZSet.tab4 impl_ValidZSet.bits4 (fun HT_ HW_ => ?_)
           generalize w17.drew = w18 at BK197 HB HR199_0 hx199_0 hx199_1 hHeld ⊢
           refine pT HT_ 0 12 (bm 46 1) ?_
           refine tT HT_ HW_ hHeld 1 13 (bm 46 3) ?_
           refine one_ (i := 2) (N := some 14) (bm 46 7) rfl rfl (one_of HT_.out (by kernel_rfl)) (by decide) (fun K hK => ?_)
           refine goes_ Try.func66 (by kernel_rfl) rfl #[.slice A196_0 ((rd_T41 l0 x7_1).f0).length c196_0] (by rfl) rfl rfl (by (try simp only [List.map_toArray, List.map_cons, List.map_nil]); first | done | rfl | (simp only [List.length_drop, List.length_take]; rfl)) ?_
           with_reducible refine (impl_ValidRow.calls k1 _ _ ((rd_T41 l0 x7_1).f0) true _ ?side1 ?side2 A5.out).mono ?_
           (case side1 => repeat (first | exact (Kd.C_below HR196_0.out HB.out) | (with_reducible refine Kd.C_alloc ?_ _) | (with_reducible refine Kd.C_drewN ?_ _) | (with_reducible refine Kd.C_drew ?_)))
           (case side2 => exact HC196_0.out)
           rintro e w' ⟨rfl, ⟨nd, rfl⟩⟩
           refine ⟨_, rfl, ?_⟩
           refine hK.out _ _ ⟨(blk_cell BK197.out 0).trans rfl, (blk_cell BK197.out 1).trans rfl, ((HB.out.cell (World.block_lt_of_cell? w _ hw199_0)).trans hw199_0), ((HB.out.cell (World.block_lt_of_cell? w _ hw199_1)).trans hw199_1)⟩ (fun hHeld => ?_)
           clear hK K
           refine nS 14 ?_
           refine pT HT_ 3 15 (bm 46 15) ?_
           refine pT HT_ 4 16 (bm 46 31) ?_
           refine pT HT_ 5 17 (bm 46 63) ?_
           refine pT HT_ 8 20 (bm 46 319) ?_
           refine pT HT_ 9 21 (bm 46 831) ?_
           refine pT HT_ 10 22 (bm 46 1855) ?_
           refine tT HT_ HW_ hHeld 6 18 (bm 46 1919) ?_
           refine pT HT_ 7 19 (bm 46 2047) ?_
           refine tT HT_ HW_ hHeld 11 23 (bm 46 4095) ?_
           refine pT HT_ 12 24 (bm 46 8191) ?_
           refine pT HT_ 13 25 (bm 46 16383) ?_
           refine pT HT_ 14 26 (bm 46 32767) ?_
           refine pT HT_ 15 27 (bm 46 65535) ?_
           refine pT HT_ 16 28 (bm 46 131071) ?_
           refine tT HT_ HW_ hHeld 17 29 (bm 46 262143) ?_
           refine pT HT_ 18 30 (bm 46 524287) ?_
           refine pT HT_ 19 31 (bm 46 1048575) ?_
           refine pT HT_ 20 32 (bm 46 2097151) ?_
           refine pT HT_ 21 33 (bm 46 4194303) ?_
           refine tT HT_ HW_ hHeld 22 34 (bm 46 8388607) ?_
           refine pT HT_ 23 35 (bm 46 16777215) ?_
           refine pT HT_ 24 36 (bm 46 33554431) ?_
           refine pT HT_ 25 37 (bm 46 67108863) ?_
           refine pU HT_ 26 38 (bm 46 134217727) ?_
           refine pU HT_ 27 39 (bm 46 268435455) ?_
           refine pU HT_ 28 40 (bm 46 536870911) ?_
           refine pT HT_ 29 41 (bm 46 1073741823) ?_
           refine pT HT_ 30 42 (bm 46 2147483647) ?_
           refine pU HT_ 31 43 (bm 46 4294967295) ?_
           refine pU HT_ 32 44 (bm 46 8589934591) ?_
           refine pU HT_ 33 45 (bm 46 17179869183) ?_
           refine pU HT_ 34 46 (bm 46 34359738367) ?_
           refine pU HT_ 35 47 (bm 46 68719476735) ?_
           refine pU HT_ 36 48 (bm 46 137438953471) ?_
           refine pU HT_ 37 49 (bm 46 274877906943) ?_
           refine pU HT_ 38 50 (bm 46 549755813887) ?_
           refine pU HT_ 39 51 (bm 46 1099511627775) ?_
           refine pU HT_ 40 52 (bm 46 2199023255551) ?_
           refine pU HT_ 41 53 (bm 46 4398046511103) ?_
           refine pU HT_ 42 54 (bm 46 8796093022207) ?_
           refine pU HT_ 43 55 (bm 46 17592186044415) ?_
           refine pU HT_ 44 56 (bm 46 35184372088831) ?_
           refine pT HT_ 45 57 (bm 46 70368744177663) ?_
           refine done_ (done_of HT_.out (by kernel_rfl)) ?_
           try go_wp2
           go_ret
           exact ⟨by first | rfl | (simp [errW_none, errW_some] <;> rfl) | (simp [*, errW_none, errW_some] <;> rfl), by repeat (first | (with_reducible first | exact HB.out | apply below_alloc | apply pw_below_drewN | apply below_drew1 | refine below_set ?_ GE197.out) | exact HB.out)⟩
          ·
           rw [if_neg c14] at H
           have c14b0 : decide (((rd_T41 l0 x7_1).f1) < (-1000000)) = false := decide_eq_false c14
           clear c14
           by_cases c19 : ((rd_T41 l0 x7_1).f1) > 1000000
           ·
            rw [if_pos c19] at H
            have c19b0 : decide (1000000 < ((rd_T41 l0 x7_1).f1)) = true := decide_eq_true c19
            clear c19
            obtain rfl := Option.some.inj H
            have p196 : 0 ≤ (x7_1 : Int) := of_decide_eq_true (by first | (with_reducible assumption) | assumption)
            have q196 : x7_1 < (l0.length : Int) := of_decide_eq_true (by first | (with_reducible assumption) | assumption)
            obtain ⟨ad196, A196_0, c196_0, e196, hx196_0, hx196_1, hl196_0, hi196_0⟩ := at_T41 HR0.out x7_1 p196 q196
            cases e196
            replace hx196_0 := (HB.out.cell (World.block_lt_of_cell? w _ hx196_0)).trans hx196_0
            replace hx196_1 := (HB.out.cell (World.block_lt_of_cell? w _ hx196_1)).trans hx196_1
            have HR196_0 := Aside0.mk hi196_0
            have HC196_0 := Aside0.mk hl196_0
            clear hi196_0 hl196_0
            replace p196 := eq_true p196
            replace q196 := eq_true q196
            try go_wp2_with (first | ((with_reducible refine gate_dst (N := 4) rfl ?_); (try (refine gate_guard (by rfl) ?_; dsimp only)); refine box_event ?hg (N := 4) ?hd (cs := #[.slice none 0 0, .int .i64 0]) (t := 41) ?hr ?_; (case hd => rfl); (case hg => rfl); (case hr => first | (go_simp; done) | (go_simp; rfl)); intro gb197 hg w20 hbox hb; have n0_ := Aside0.mk (below_step (by repeat (first | (with_reducible first | exact HB.out | apply below_alloc | apply pw_below_drewN | apply below_drew1) | exact HB.out)) hb); have n1_ := Aside0.mk (hbox); have n2_ := Aside0.mk ((by rw [hg]; exact (below_size (by repeat (first | (with_reducible first | exact HB.out | apply below_alloc | apply pw_below_drewN | apply below_drew1) | exact HB.out))) : w.heap.size ≤ gb197)); have n3_ := Aside0.mk ((by rw [hg]; exact (below_size (by repeat (first | (with_reducible first | exact HB.out | apply below_alloc | apply pw_below_drewN | apply below_drew1) | exact HB.out))) : w.heap.size ≤ gb197)); clear HB; have HB := n0_; have BK197 := n1_; have GW197 := n2_; have GE197 := n3_; clear n0_ n1_ n2_ n3_; clear hb hbox hg; have hcz21_0 : w20.cell? ⟨gb197, 0, none⟩ = some (.slice none 0 0) := (blk_cell BK197.out 0).trans rfl; have hcz21_1 : w20.cell? ⟨gb197, 1, none⟩ = some (.int .i64 0) := (blk_cell BK197.out 1).trans rfl; have hfz21_0 := blk_frozen BK197.out 0; have hfz21_1 := blk_frozen BK197.out 1))
            have n0_ : Aside0 (((w20.setCell ⟨gb197, 0, none⟩ (.slice A196_0 ((rd_T41 l0 x7_1).f0).length c196_0)).setCell ⟨gb197, 1, none⟩ (.int .i64 ((rd_T41 l0 x7_1).f1))).heap[gb197]? = some (.cells #[.slice A196_0 ((rd_T41 l0 x7_1).f0).length c196_0, .int .i64 ((rd_T41 l0 x7_1).f1)] 41 (0, 0))) := ⟨by (with_reducible repeat (first | refine blk_drewN ?_ _ | refine blk_drew ?_ | refine blk_alloc ?_ _)); refine blk_put (cs := #[.slice A196_0 ((rd_T41 l0 x7_1).f0).length c196_0, .int .i64 0]) ?_ 1 _ rfl; (with_reducible repeat (first | refine blk_drewN ?_ _ | refine blk_drew ?_ | refine blk_alloc ?_ _)); refine blk_put (cs := #[.slice none 0 0, .int .i64 0]) ?_ 0 _ rfl; (with_reducible repeat (first | refine blk_drewN ?_ _ | refine blk_drew ?_ | refine blk_alloc ?_ _)); exact BK197.out⟩
            have n1_ : Aside0 (Below w.heap.size w ((w20.setCell ⟨gb197, 0, none⟩ (.slice A196_0 ((rd_T41 l0 x7_1).f0).length c196_0)).setCell ⟨gb197, 1, none⟩ (.int .i64 ((rd_T41 l0 x7_1).f1)))) := ⟨by repeat (first | (with_reducible first | exact HB.out | apply below_alloc | apply pw_below_drewN | apply below_drew1 | refine below_set ?_ GE197.out) | exact HB.out)⟩
            (try clear BK197)
            (try clear HB)
            generalize ((w20.setCell ⟨gb197, 0, none⟩ (.slice A196_0 ((rd_T41 l0 x7_1).f0).length c196_0)).setCell ⟨gb197, 1, none⟩ (.int .i64 ((rd_T41 l0 x7_1).f1))) = w22 at n0_ n1_ ⊢
            have BK197 := n0_
            have HB := n1_
            clear n0_ n1_
            have n0_ := Aside0.mk (blk_drew BK197.out)
            have n1_ := Aside0.mk (below_drew1 HB.out)
            clear BK197
            clear HB
            have BK197 := n0_
            have HB := n1_
            clear n0_ n1_
            have p199 : 0 ≤ (0 : Int) := (by omega)
            have q199 : 0 < (l0.length : Int) := of_decide_eq_true (by first | (with_reducible assumption) | assumption)
            obtain ⟨ad199, A199_0, c199_0, e199, hx199_0, hx199_1, hl199_0, hi199_0⟩ := at_T41 HR0.out 0 p199 q199
            have hw199_1 := hx199_1
            (try rw [show ((0 : Int)).toNat = 0 from rfl] at hw199_1)
            (try rw [show 0 * 2 = 0 from rfl] at hw199_1)
            (try rw [Addr.add_zero'] at hw199_1)
            have hw199_0 := hx199_0
            (try rw [show ((0 : Int)).toNat = 0 from rfl] at hw199_0)
            (try rw [show 0 * 2 = 0 from rfl] at hw199_0)
            (try rw [Addr.add_zero'] at hw199_0)
            obtain rfl : ad196 = ad199 := (by injection e199)
            have qi199 : (0 < l0.length) = True := eq_true (by omega)
            (try rw [show ((0 : Int)).toNat = 0 from rfl] at hx199_0)
            (try rw [show 0 * 2 = 0 from rfl] at hx199_0)
            (try rw [Addr.add_zero'] at hx199_0)
            (try rw [show ((0 : Int)).toNat = 0 from rfl] at hx199_1)
            (try rw [show 0 * 2 = 0 from rfl] at hx199_1)
            (try rw [Addr.add_zero'] at hx199_1)
            replace hx199_0 := (HB.out.cell (World.block_lt_of_cell? w _ hx199_0)).trans hx199_0
            replace hx199_1 := (HB.out.cell (World.block_lt_of_cell? w _ hx199_1)).trans hx199_1
            have HR199_0 := Aside0.mk hi199_0
            have HC199_0 := Aside0.mk hl199_0
            clear hi199_0 hl199_0
            replace p199 := eq_true p199
            replace q199 := eq_true q199
            refine start_ (n := 46) (S := fun w' => w'.cell? ⟨gb197, 0, none⟩ = some (.slice A196_0 ((rd_T41 l0 x7_1).f0).length c196_0) ∧ w'.cell? ⟨gb197, 1, none⟩ = some (.int .i64 ((rd_T41 l0 x7_1).f1)) ∧ w'.cell? ad196 = some (.slice A199_0 ((rd_T41 l0 0).f0).length c199_0) ∧ w'.cell? ⟨ad196.block, ad196.off + 1, none⟩ = some (.int .i64 ((rd_T41 l0 0).f1))) (ds := []) (Array.replicate 46 false) (by kernel_rfl) rfl rfl ⟨(blk_cell BK197.out 0).trans rfl, (blk_cell BK197.out 1).trans rfl, ((HB.out.cell (World.block_lt_of_cell? w _ hw199_0)).trans hw199_0), ((HB.out.cell (World.block_lt_of_cell? w _ hw199_1)).trans hw199_1)⟩ (fun hHeld => ?_); refine with_tabW impl_ValidZSet.tab4 impl_ValidZSet.bits4 (fun HT_ HW_ => ?_)
            generalize w22.drew = w23 at BK197 HB HR199_0 hx199_0 hx199_1 hHeld ⊢
            refine pT HT_ 0 12 (bm 46 1) ?_
            refine tT HT_ HW_ hHeld 1 13 (bm 46 3) ?_
            refine one_ (i := 2) (N := some 14) (bm 46 7) rfl rfl (one_of HT_.out (by kernel_rfl)) (by decide) (fun K hK => ?_)
            refine goes_ Try.func66 (by kernel_rfl) rfl #[.slice A196_0 ((rd_T41 l0 x7_1).f0).length c196_0] (by rfl) rfl rfl (by (try simp only [List.map_toArray, List.map_cons, List.map_nil]); first | done | rfl | (simp only [List.length_drop, List.length_take]; rfl)) ?_
            with_reducible refine (impl_ValidRow.calls k1 _ _ ((rd_T41 l0 x7_1).f0) true _ ?side1 ?side2 A5.out).mono ?_
            (case side1 => repeat (first | exact (Kd.C_below HR196_0.out HB.out) | (with_reducible refine Kd.C_alloc ?_ _) | (with_reducible refine Kd.C_drewN ?_ _) | (with_reducible refine Kd.C_drew ?_)))
            (case side2 => exact HC196_0.out)
            rintro e w' ⟨rfl, ⟨nd, rfl⟩⟩
            refine ⟨_, rfl, ?_⟩
            refine hK.out _ _ ⟨(blk_cell BK197.out 0).trans rfl, (blk_cell BK197.out 1).trans rfl, ((HB.out.cell (World.block_lt_of_cell? w _ hw199_0)).trans hw199_0), ((HB.out.cell (World.block_lt_of_cell? w _ hw199_1)).trans hw199_1)⟩ (fun hHeld => ?_)
            clear hK K
            refine nS 14 ?_
            refine pT HT_ 3 15 (bm 46 15) ?_
            refine pT HT_ 4 16 (bm 46 31) ?_
            refine pT HT_ 5 17 (bm 46 63) ?_
            refine pT HT_ 8 20 (bm 46 319) ?_
            refine pT HT_ 9 21 (bm 46 831) ?_
            refine pT HT_ 10 22 (bm 46 1855) ?_
            refine tT HT_ HW_ hHeld 6 18 (bm 46 1919) ?_
            refine pT HT_ 7 19 (bm 46 2047) ?_
            refine tT HT_ HW_ hHeld 11 23 (bm 46 4095) ?_
            refine pT HT_ 12 24 (bm 46 8191) ?_
            refine pT HT_ 13 25 (bm 46 16383) ?_
            refine pT HT_ 14 26 (bm 46 32767) ?_
            refine pT HT_ 15 27 (bm 46 65535) ?_
            refine pT HT_ 16 28 (bm 46 131071) ?_
            refine tT HT_ HW_ hHeld 17 29 (bm 46 262143) ?_
            refine pT HT_ 18 30 (bm 46 524287) ?_
            refine pT HT_ 19 31 (bm 46 1048575) ?_
            refine pT HT_ 20 32 (bm 46 2097151) ?_
            refine pT HT_ 21 33 (bm 46 4194303) ?_
            refine tT HT_ HW_ hHeld 22 34 (bm 46 8388607) ?_
            refine pT HT_ 23 35 (bm 46 16777215) ?_
            refine pT HT_ 24 36 (bm 46 33554431) ?_
            refine pT HT_ 25 37 (bm 46 67108863) ?_
            refine pT HT_ 26 38 (bm 46 134217727) ?_
            refine tT HT_ HW_ hHeld 27 39 (bm 46 268435455) ?_
            refine pT HT_ 28 40 (bm 46 536870911) ?_
            refine pT HT_ 29 41 (bm 46 1073741823) ?_
            refine pT HT_ 30 42 (bm 46 2147483647) ?_
            refine pU HT_ 31 43 (bm 46 4294967295) ?_
            refine pU HT_ 32 44 (bm 46 8589934591) ?_
            refine pU HT_ 33 45 (bm 46 17179869183) ?_
            refine pU HT_ 34 46 (bm 46 34359738367) ?_
            refine pU HT_ 35 47 (bm 46 68719476735) ?_
            refine pU HT_ 36 48 (bm 46 137438953471) ?_
            refine pU HT_ 37 49 (bm 46 274877906943) ?_
            refine pU HT_ 38 50 (bm 46 549755813887) ?_
            refine pU HT_ 39 51 (bm 46 1099511627775) ?_
            refine pU HT_ 40 52 (bm 46 2199023255551) ?_
            refine pU HT_ 41 53 (bm 46 4398046511103) ?_
            refine pU HT_ 42 54 (bm 46 8796093022207) ?_
            refine pU HT_ 43 55 (bm 46 17592186044415) ?_
            refine pU HT_ 44 56 (bm 46 35184372088831) ?_
            refine pT HT_ 45 57 (bm 46 70368744177663) ?_
            refine done_ (done_of HT_.out (by kernel_rfl)) ?_
            try go_wp2
            go_ret
            exact ⟨by first | rfl | (simp [errW_none, errW_some] <;> rfl) | (simp [*, errW_none, errW_some] <;> rfl), by repeat (first | (with_reducible first | exact HB.out | apply below_alloc | apply pw_below_drewN | apply below_drew1 | refine below_set ?_ GE197.out) | exact HB.out)⟩
           ·
            rw [if_neg c19] at H
            have c19b0 : decide (1000000 < ((rd_T41 l0 x7_1).f1)) = false := decide_eq_false c19
            clear c19
            by_cases c24 : x7_1 > 0
            ·
             rw [if_pos c24] at H
             have c24b0 : decide (0 < x7_1) = true := decide_eq_true c24
             clear c24
             obtain ⟨ji25, hji25⟩ : ∃ j_ : Int, (wrap64 (x7_1 - 1)) = j_ := ⟨_, rfl⟩
             replace H : (if 0 ≤ (ji25) then (if (ji25) < (l0.length : Int) then ((impl_RowLess.f k1 ((rd_T41 l0 (ji25)).f0) ((rd_T41 l0 x7_1).f0)).bind fun t201 => (if t201 = true then (impl_ValidZSet.l0 k1 l0 l0 (l0.length : Int) (wrap64 (x7_1 + 1))) else (some false))) else (none)) else (none)) = some r := by first | (rw [hji25] at H; exact H) | (simp only [hji25] at H ⊢; exact H)
             (try rw [hji25] at A5)
             have hji25w : (IntKind.i64.wrap (x7_1 - 1)) = ji25 := (i64_w _).trans hji25
             by_cases c26 : 0 ≤ (ji25)
             ·
              rw [if_pos c26] at H
              have c26b0 : decide (0 ≤ (ji25)) = true := decide_eq_true c26
              clear c26
              by_cases c27 : (ji25) < (l0.length : Int)
              ·
               rw [if_pos c27] at H
               have c27b0 : decide ((ji25) < (l0.length : Int)) = true := decide_eq_true c27
               clear c27
               replace H := Option.bind_eq_some_iff.mp H
               obtain ⟨t201, A280, H⟩ := H
               replace H : (if t201 = true then (impl_ValidZSet.l0 k1 l0 l0 (l0.length : Int) (wrap64 (x7_1 + 1))) else (some false)) = some r := H
               have A28 := Aside0.mk A280
               clear A280
               by_cases c29 : t201 = true
               ·
                subst c29
                have H1 : (impl_ValidZSet.l0 k1 l0 l0 (l0.length : Int) (wrap64 (x7_1 + 1))) = some r := by rw [if_pos rfl] at H; exact H
                clear H
                have H := H1
                clear H1
                have H' := Aside0.mk H
                clear H
                have p196 : 0 ≤ (x7_1 : Int) := of_decide_eq_true (by first | (with_reducible assumption) | assumption)
                have q196 : x7_1 < (l0.length : Int) := of_decide_eq_true (by first | (with_reducible assumption) | assumption)
                obtain ⟨ad196, A196_0, c196_0, e196, hx196_0, hx196_1, hl196_0, hi196_0⟩ := at_T41 HR0.out x7_1 p196 q196
                cases e196
                replace hx196_0 := (HB.out.cell (World.block_lt_of_cell? w _ hx196_0)).trans hx196_0
                replace hx196_1 := (HB.out.cell (World.block_lt_of_cell? w _ hx196_1)).trans hx196_1
                have HR196_0 := Aside0.mk hi196_0
                have HC196_0 := Aside0.mk hl196_0
                clear hi196_0 hl196_0
                replace p196 := eq_true p196
                replace q196 := eq_true q196
                try go_wp2_with (first | ((with_reducible refine gate_dst (N := 4) rfl ?_); (try (refine gate_guard (by rfl) ?_; dsimp only)); refine box_event ?hg (N := 4) ?hd (cs := #[.slice none 0 0, .int .i64 0]) (t := 41) ?hr ?_; (case hd => rfl); (case hg => rfl); (case hr => first | (go_simp; done) | (go_simp; rfl)); intro gb197 hg w30 hbox hb; have n0_ := Aside0.mk (below_step (by repeat (first | (with_reducible first | exact HB.out | apply below_alloc | apply pw_below_drewN | apply below_drew1) | exact HB.out)) hb); have n1_ := Aside0.mk (hbox); have n2_ := Aside0.mk ((by rw [hg]; exact (below_size (by repeat (first | (with_reducible first | exact HB.out | apply below_alloc | apply pw_below_drewN | apply below_drew1) | exact HB.out))) : w.heap.size ≤ gb197)); have n3_ := Aside0.mk ((by rw [hg]; exact (below_size (by repeat (first | (with_reducible first | exact HB.out | apply below_alloc | apply pw_below_drewN | apply below_drew1) | exact HB.out))) : w.heap.size ≤ gb197)); clear HB; have HB := n0_; have BK197 := n1_; have GW197 := n2_; have GE197 := n3_; clear n0_ n1_ n2_ n3_; clear hb hbox hg; have hcz31_0 : w30.cell? ⟨gb197, 0, none⟩ = some (.slice none 0 0) := (blk_cell BK197.out 0).trans rfl; have hcz31_1 : w30.cell? ⟨gb197, 1, none⟩ = some (.int .i64 0) := (blk_cell BK197.out 1).trans rfl; have hfz31_0 := blk_frozen BK197.out 0; have hfz31_1 := blk_frozen BK197.out 1))
                have n0_ : Aside0 (((w30.setCell ⟨gb197, 0, none⟩ (.slice A196_0 ((rd_T41 l0 x7_1).f0).length c196_0)).setCell ⟨gb197, 1, none⟩ (.int .i64 ((rd_T41 l0 x7_1).f1))).heap[gb197]? = some (.cells #[.slice A196_0 ((rd_T41 l0 x7_1).f0).length c196_0, .int .i64 ((rd_T41 l0 x7_1).f1)] 41 (0, 0))) := ⟨by (with_reducible repeat (first | refine blk_drewN ?_ _ | refine blk_drew ?_ | refine blk_alloc ?_ _)); refine blk_put (cs := #[.slice A196_0 ((rd_T41 l0 x7_1).f0).length c196_0, .int .i64 0]) ?_ 1 _ rfl; (with_reducible repeat (first | refine blk_drewN ?_ _ | refine blk_drew ?_ | refine blk_alloc ?_ _)); refine blk_put (cs := #[.slice none 0 0, .int .i64 0]) ?_ 0 _ rfl; (with_reducible repeat (first | refine blk_drewN ?_ _ | refine blk_drew ?_ | refine blk_alloc ?_ _)); exact BK197.out⟩
                have n1_ : Aside0 (Below w.heap.size w ((w30.setCell ⟨gb197, 0, none⟩ (.slice A196_0 ((rd_T41 l0 x7_1).f0).length c196_0)).setCell ⟨gb197, 1, none⟩ (.int .i64 ((rd_T41 l0 x7_1).f1)))) := ⟨by repeat (first | (with_reducible first | exact HB.out | apply below_alloc | apply pw_below_drewN | apply below_drew1 | refine below_set ?_ GE197.out) | exact HB.out)⟩
                (try clear BK197)
                (try clear HB)
                generalize ((w30.setCell ⟨gb197, 0, none⟩ (.slice A196_0 ((rd_T41 l0 x7_1).f0).length c196_0)).setCell ⟨gb197, 1, none⟩ (.int .i64 ((rd_T41 l0 x7_1).f1))) = w32 at n0_ n1_ ⊢
                have BK197 := n0_
                have HB := n1_
                clear n0_ n1_
                have n0_ := Aside0.mk (blk_drew BK197.out)
                have n1_ := Aside0.mk (below_drew1 HB.out)
                clear BK197
                clear HB
                have BK197 := n0_
                have HB := n1_
                clear n0_ n1_
                have p199 : 0 ≤ (0 : Int) := (by omega)
                have q199 : 0 < (l0.length : Int) := of_decide_eq_true (by first | (with_reducible assumption) | assumption)
                obtain ⟨ad199, A199_0, c199_0, e199, hx199_0, hx199_1, hl199_0, hi199_0⟩ := at_T41 HR0.out 0 p199 q199
                have hw199_1 := hx199_1
                (try rw [show ((0 : Int)).toNat = 0 from rfl] at hw199_1)
                (try rw [show 0 * 2 = 0 from rfl] at hw199_1)
                (try rw [Addr.add_zero'] at hw199_1)
                have hw199_0 := hx199_0
                (try rw [show ((0 : Int)).toNat = 0 from rfl] at hw199_0)
                (try rw [show 0 * 2 = 0 from rfl] at hw199_0)
                (try rw [Addr.add_zero'] at hw199_0)
                obtain rfl : ad196 = ad199 := (by injection e199)
                have qi199 : (0 < l0.length) = True := eq_true (by omega)
                (try rw [show ((0 : Int)).toNat = 0 from rfl] at hx199_0)
                (try rw [show 0 * 2 = 0 from rfl] at hx199_0)
                (try rw [Addr.add_zero'] at hx199_0)
                (try rw [show ((0 : Int)).toNat = 0 from rfl] at hx199_1)
                (try rw [show 0 * 2 = 0 from rfl] at hx199_1)
                (try rw [Addr.add_zero'] at hx199_1)
                replace hx199_0 := (HB.out.cell (World.block_lt_of_cell? w _ hx199_0)).trans hx199_0
                replace hx199_1 := (HB.out.cell (World.block_lt_of_cell? w _ hx199_1)).trans hx199_1
                have HR199_0 := Aside0.mk hi199_0
                have HC199_0 := Aside0.mk hl199_0
                clear hi199_0 hl199_0
                replace p199 := eq_true p199
                replace q199 := eq_true q199
                have p200 : 0 ≤ ((ji25) : Int) := of_decide_eq_true (by first | (with_reducible assumption) | assumption)
                have q200 : (ji25) < (l0.length : Int) := of_decide_eq_true (by first | (with_reducible assumption) | assumption)
                obtain ⟨ad200, A200_0, c200_0, e200, hx200_0, hx200_1, hl200_0, hi200_0⟩ := at_T41 HR0.out (ji25) p200 q200
                have hw200_1 := hx200_1
                have hw200_0 := hx200_0
                obtain rfl : ad196 = ad200 := (by injection e200)
                replace hx200_0 := (HB.out.cell (World.block_lt_of_cell? w _ hx200_0)).trans hx200_0
                replace hx200_1 := (HB.out.cell (World.block_lt_of_cell? w _ hx200_1)).trans hx200_1
                have HR200_0 := Aside0.mk hi200_0
                have HC200_0 := Aside0.mk hl200_0
                clear hi200_0 hl200_0
                replace p200 := eq_true p200
                replace q200 := eq_true q200
                refine start_ (n := 46) (S := fun w' => w'.cell? ⟨gb197, 0, none⟩ = some (.slice A196_0 ((rd_T41 l0 x7_1).f0).length c196_0) ∧ w'.cell? ⟨gb197, 1, none⟩ = some (.int .i64 ((rd_T41 l0 x7_1).f1)) ∧ w'.cell? ad196 = some (.slice A199_0 ((rd_T41 l0 0).f0).length c199_0) ∧ w'.cell? ⟨ad196.block, ad196.off + 1, none⟩ = some (.int .i64 ((rd_T41 l0 0).f1)) ∧ w'.cell? (ad196.add (((ji25)).toNat * 2)) = some (.slice A200_0 ((rd_T41 l0 (ji25)).f0).length c200_0) ∧ w'.cell? ⟨(ad196.add (((ji25)).toNat * 2)).block, (ad196.add (((ji25)).toNat * 2)).off + 1, none⟩ = some (.int .i64 ((rd_T41 l0 (ji25)).f1))) (ds := []) (Array.replicate 46 false) (by kernel_rfl) rfl rfl ⟨(blk_cell BK197.out 0).trans rfl, (blk_cell BK197.out 1).trans rfl, ((HB.out.cell (World.block_lt_of_cell? w _ hw199_0)).trans hw199_0), ((HB.out.cell (World.block_lt_of_cell? w _ hw199_1)).trans hw199_1), ((HB.out.cell (World.block_lt_of_cell? w _ hw200_0)).trans hw200_0), ((HB.out.cell (World.block_lt_of_cell? w _ hw200_1)).trans hw200_1)⟩ (fun hHeld => ?_); refine with_tabW impl_ValidZSet.tab4 impl_ValidZSet.bits4 (fun HT_ HW_ => ?_)
                generalize w32.drew = w33 at BK197 HB HR199_0 HR200_0 hx199_0 hx199_1 hx200_0 hx200_1 hHeld ⊢
                refine pT HT_ 0 12 (bm 46 1) ?_
                refine tT HT_ HW_ hHeld 1 13 (bm 46 3) ?_
                refine one_ (i := 2) (N := some 14) (bm 46 7) rfl rfl (one_of HT_.out (by kernel_rfl)) (by decide) (fun K hK => ?_)
                refine goes_ Try.func66 (by kernel_rfl) rfl #[.slice A196_0 ((rd_T41 l0 x7_1).f0).length c196_0] (by rfl) rfl rfl (by (try simp only [List.map_toArray, List.map_cons, List.map_nil]); first | done | rfl | (simp only [List.length_drop, List.length_take]; rfl)) ?_
                with_reducible refine (impl_ValidRow.calls k1 _ _ ((rd_T41 l0 x7_1).f0) true _ ?side1 ?side2 A5.out).mono ?_
                (case side1 => repeat (first | exact (Kd.C_below HR196_0.out HB.out) | (with_reducible refine Kd.C_alloc ?_ _) | (with_reducible refine Kd.C_drewN ?_ _) | (with_reducible refine Kd.C_drew ?_)))
                (case side2 => exact HC196_0.out)
                rintro e w' ⟨rfl, ⟨nd, rfl⟩⟩
                refine ⟨_, rfl, ?_⟩
                refine hK.out _ _ ⟨(blk_cell BK197.out 0).trans rfl, (blk_cell BK197.out 1).trans rfl, ((HB.out.cell (World.block_lt_of_cell? w _ hw199_0)).trans hw199_0), ((HB.out.cell (World.block_lt_of_cell? w _ hw199_1)).trans hw199_1), ((HB.out.cell (World.block_lt_of_cell? w _ hw200_0)).trans hw200_0), ((HB.out.cell (World.block_lt_of_cell? w _ hw200_1)).trans hw200_1)⟩ (fun hHeld => ?_)
                clear hK K
                refine nS 14 ?_
                refine pT HT_ 3 15 (bm 46 15) ?_
                refine pT HT_ 4 16 (bm 46 31) ?_
                refine pT HT_ 5 17 (bm 46 63) ?_
                refine pT HT_ 8 20 (bm 46 319) ?_
                refine pT HT_ 9 21 (bm 46 831) ?_
                refine pT HT_ 10 22 (bm 46 1855) ?_
                refine tT HT_ HW_ hHeld 6 18 (bm 46 1919) ?_
                refine pT HT_ 7 19 (bm 46 2047) ?_
                refine tT HT_ HW_ hHeld 11 23 (bm 46 4095) ?_
                refine pT HT_ 12 24 (bm 46 8191) ?_
                refine pT HT_ 13 25 (bm 46 16383) ?_
                refine pT HT_ 14 26 (bm 46 32767) ?_
                refine pT HT_ 15 27 (bm 46 65535) ?_
                refine pT HT_ 16 28 (bm 46 131071) ?_
                refine tT HT_ HW_ hHeld 17 29 (bm 46 262143) ?_
                refine pT HT_ 18 30 (bm 46 524287) ?_
                refine pT HT_ 19 31 (bm 46 1048575) ?_
                refine pT HT_ 20 32 (bm 46 2097151) ?_
                refine pT HT_ 21 33 (bm 46 4194303) ?_
                refine tT HT_ HW_ hHeld 22 34 (bm 46 8388607) ?_
                refine pT HT_ 23 35 (bm 46 16777215) ?_
                refine pT HT_ 24 36 (bm 46 33554431) ?_
                refine pT HT_ 25 37 (bm 46 67108863) ?_
                refine pT HT_ 26 38 (bm 46 134217727) ?_
                refine tT HT_ HW_ hHeld 27 39 (bm 46 268435455) ?_
                refine pT HT_ 28 40 (bm 46 536870911) ?_
                refine pT HT_ 29 41 (bm 46 1073741823) ?_
                refine pT HT_ 30 42 (bm 46 2147483647) ?_
                refine pT HT_ 31 43 (bm 46 4294967295) ?_
                refine pT HT_ 32 44 (bm 46 8589934591) ?_
                refine pT HT_ 33 45 (bm 46 17179869183) ?_
                refine pT HT_ 34 46 (bm 46 34359738367) ?_
                refine pT HT_ 35 47 (bm 46 68719476735) ?_
                refine pT HT_ 36 48 (bm 46 137438953471) ?_
                refine pT HT_ 37 49 (bm 46 274877906943) ?_
                refine pT HT_ 38 50 (bm 46 549755813887) ?_
                refine pT HT_ 40 52 (bm 46 1649267441663) ?_
                refine tT HT_ HW_ hHeld 39 51 (bm 46 2199023255551) ?_
                refine tT HT_ HW_ hHeld 41 53 (bm 46 4398046511103) ?_
                refine one_ (i := 42) (N := some 54) (bm 46 8796093022207) rfl rfl (one_of HT_.out (by kernel_rfl)) (by decide) (fun K hK => ?_)
                refine goes_ Try.func67 (by kernel_rfl) rfl #[.slice A200_0 ((rd_T41 l0 (ji25)).f0).length c200_0, .slice A196_0 ((rd_T41 l0 x7_1).f0).length c196_0] (by rfl) rfl rfl (by (try simp only [List.map_toArray, List.map_cons, List.map_nil]); first | done | (simp only [hji25]; rfl) | rfl | (simp only [List.length_drop, List.length_take]; rfl)) ?_
                with_reducible refine (impl_RowLess.calls k1 _ _ ((rd_T41 l0 (ji25)).f0) _ _ ((rd_T41 l0 x7_1).f0) true _ ?side1 ?side2 ?side3 ?side4 A28.out).mono ?_
                (case side1 => repeat (first | exact (Kd.C_below HR200_0.out (by repeat (first | (with_reducible first | exact HB.out | apply below_alloc | apply pw_below_drewN | apply below_drew1 | refine below_set ?_ GE197.out) | exact HB.out))) | (with_reducible refine Kd.C_alloc ?_ _) | (with_reducible refine Kd.C_drewN ?_ _) | (with_reducible refine Kd.C_drew ?_)))
                (case side2 => exact HC200_0.out)
                (case side3 => repeat (first | exact (Kd.C_below HR196_0.out (by repeat (first | (with_reducible first | exact HB.out | apply below_alloc | apply pw_below_drewN | apply below_drew1 | refine below_set ?_ GE197.out) | exact HB.out))) | (with_reducible refine Kd.C_alloc ?_ _) | (with_reducible refine Kd.C_drewN ?_ _) | (with_reducible refine Kd.C_drew ?_)))
                (case side4 => exact HC196_0.out)
                rintro e w' ⟨rfl, ⟨nd, rfl⟩⟩
                refine ⟨_, rfl, ?_⟩
                refine hK.out _ _ ⟨(blk_cell BK197.out 0).trans rfl, (blk_cell BK197.out 1).trans rfl, ((HB.out.cell (World.block_lt_of_cell? w _ hw199_0)).trans hw199_0), ((HB.out.cell (World.block_lt_of_cell? w _ hw199_1)).trans hw199_1), ((HB.out.cell (World.block_lt_of_cell? w _ hw200_0)).trans hw200_0), ((HB.out.cell (World.block_lt_of_cell? w _ hw200_1)).trans hw200_1)⟩ (fun hHeld => ?_)
                clear hK K
                refine nS 54 ?_
                refine pT HT_ 43 55 (bm 46 17592186044415) ?_
                refine pT HT_ 44 56 (bm 46 35184372088831) ?_
                refine pT HT_ 45 57 (bm 46 70368744177663) ?_
                refine done_ (done_of HT_.out (by kernel_rfl)) ?_
                try go_wp2
                go_roundg k1
                case measure => have := HK1.out; omega
                case rel => exact ⟨(wrap64 (x7_1 + 1)), (by first | rfl | (simp; done) | (simp [*]; done)), H', ⟨by have := HK1.out; omega⟩, ⟨by repeat (first | (with_reducible first | exact HB.out | apply below_alloc | apply pw_below_drewN | apply below_drew1 | refine below_set ?_ GE197.out) | exact HB.out)⟩⟩
               ·
                replace c29 := Bool.eq_false_iff.mpr c29
                subst c29
                have H1 : (some false) = some r := by rw [if_neg (show ¬ (false = true) by decide)] at H; exact H
                clear H
                have H := H1
                clear H1
                obtain rfl := Option.some.inj H
                have p196 : 0 ≤ (x7_1 : Int) := of_decide_eq_true (by first | (with_reducible assumption) | assumption)
                have q196 : x7_1 < (l0.length : Int) := of_decide_eq_true (by first | (with_reducible assumption) | assumption)
                obtain ⟨ad196, A196_0, c196_0, e196, hx196_0, hx196_1, hl196_0, hi196_0⟩ := at_T41 HR0.out x7_1 p196 q196
                cases e196
                replace hx196_0 := (HB.out.cell (World.block_lt_of_cell? w _ hx196_0)).trans hx196_0
                replace hx196_1 := (HB.out.cell (World.block_lt_of_cell? w _ hx196_1)).trans hx196_1
                have HR196_0 := Aside0.mk hi196_0
                have HC196_0 := Aside0.mk hl196_0
                clear hi196_0 hl196_0
                replace p196 := eq_true p196
                replace q196 := eq_true q196
                try go_wp2_with (first | ((with_reducible refine gate_dst (N := 4) rfl ?_); (try (refine gate_guard (by rfl) ?_; dsimp only)); refine box_event ?hg (N := 4) ?hd (cs := #[.slice none 0 0, .int .i64 0]) (t := 41) ?hr ?_; (case hd => rfl); (case hg => rfl); (case hr => first | (go_simp; done) | (go_simp; rfl)); intro gb197 hg w34 hbox hb; have n0_ := Aside0.mk (below_step (by repeat (first | (with_reducible first | exact HB.out | apply below_alloc | apply pw_below_drewN | apply below_drew1) | exact HB.out)) hb); have n1_ := Aside0.mk (hbox); have n2_ := Aside0.mk ((by rw [hg]; exact (below_size (by repeat (first | (with_reducible first | exact HB.out | apply below_alloc | apply pw_below_drewN | apply below_drew1) | exact HB.out))) : w.heap.size ≤ gb197)); have n3_ := Aside0.mk ((by rw [hg]; exact (below_size (by repeat (first | (with_reducible first | exact HB.out | apply below_alloc | apply pw_below_drewN | apply below_drew1) | exact HB.out))) : w.heap.size ≤ gb197)); clear HB; have HB := n0_; have BK197 := n1_; have GW197 := n2_; have GE197 := n3_; clear n0_ n1_ n2_ n3_; clear hb hbox hg; have hcz35_0 : w34.cell? ⟨gb197, 0, none⟩ = some (.slice none 0 0) := (blk_cell BK197.out 0).trans rfl; have hcz35_1 : w34.cell? ⟨gb197, 1, none⟩ = some (.int .i64 0) := (blk_cell BK197.out 1).trans rfl; have hfz35_0 := blk_frozen BK197.out 0; have hfz35_1 := blk_frozen BK197.out 1))
                have n0_ : Aside0 (((w34.setCell ⟨gb197, 0, none⟩ (.slice A196_0 ((rd_T41 l0 x7_1).f0).length c196_0)).setCell ⟨gb197, 1, none⟩ (.int .i64 ((rd_T41 l0 x7_1).f1))).heap[gb197]? = some (.cells #[.slice A196_0 ((rd_T41 l0 x7_1).f0).length c196_0, .int .i64 ((rd_T41 l0 x7_1).f1)] 41 (0, 0))) := ⟨by (with_reducible repeat (first | refine blk_drewN ?_ _ | refine blk_drew ?_ | refine blk_alloc ?_ _)); refine blk_put (cs := #[.slice A196_0 ((rd_T41 l0 x7_1).f0).length c196_0, .int .i64 0]) ?_ 1 _ rfl; (with_reducible repeat (first | refine blk_drewN ?_ _ | refine blk_drew ?_ | refine blk_alloc ?_ _)); refine blk_put (cs := #[.slice none 0 0, .int .i64 0]) ?_ 0 _ rfl; (with_reducible repeat (first | refine blk_drewN ?_ _ | refine blk_drew ?_ | refine blk_alloc ?_ _)); exact BK197.out⟩
                have n1_ : Aside0 (Below w.heap.size w ((w34.setCell ⟨gb197, 0, none⟩ (.slice A196_0 ((rd_T41 l0 x7_1).f0).length c196_0)).setCell ⟨gb197, 1, none⟩ (.int .i64 ((rd_T41 l0 x7_1).f1)))) := ⟨by repeat (first | (with_reducible first | exact HB.out | apply below_alloc | apply pw_below_drewN | apply below_drew1 | refine below_set ?_ GE197.out) | exact HB.out)⟩
                (try clear BK197)
                (try clear HB)
                generalize ((w34.setCell ⟨gb197, 0, none⟩ (.slice A196_0 ((rd_T41 l0 x7_1).f0).length c196_0)).setCell ⟨gb197, 1, none⟩ (.int .i64 ((rd_T41 l0 x7_1).f1))) = w36 at n0_ n1_ ⊢
                have BK197 := n0_
                have HB := n1_
                clear n0_ n1_
                have n0_ := Aside0.mk (blk_drew BK197.out)
                have n1_ := Aside0.mk (below_drew1 HB.out)
                clear BK197
                clear HB
                have BK197 := n0_
                have HB := n1_
                clear n0_ n1_
                have p199 : 0 ≤ (0 : Int) := (by omega)
                have q199 : 0 < (l0.length : Int) := of_decide_eq_true (by first | (with_reducible assumption) | assumption)
                obtain ⟨ad199, A199_0, c199_0, e199, hx199_0, hx199_1, hl199_0, hi199_0⟩ := at_T41 HR0.out 0 p199 q199
                have hw199_1 := hx199_1
                (try rw [show ((0 : Int)).toNat = 0 from rfl] at hw199_1)
                (try rw [show 0 * 2 = 0 from rfl] at hw199_1)
                (try rw [Addr.add_zero'] at hw199_1)
                have hw199_0 := hx199_0
                (try rw [show ((0 : Int)).toNat = 0 from rfl] at hw199_0)
                (try rw [show 0 * 2 = 0 from rfl] at hw199_0)
                (try rw [Addr.add_zero'] at hw199_0)
                obtain rfl : ad196 = ad199 := (by injection e199)
                have qi199 : (0 < l0.length) = True := eq_true (by omega)
                (try rw [show ((0 : Int)).toNat = 0 from rfl] at hx199_0)
                (try rw [show 0 * 2 = 0 from rfl] at hx199_0)
                (try rw [Addr.add_zero'] at hx199_0)
                (try rw [show ((0 : Int)).toNat = 0 from rfl] at hx199_1)
                (try rw [show 0 * 2 = 0 from rfl] at hx199_1)
                (try rw [Addr.add_zero'] at hx199_1)
                replace hx199_0 := (HB.out.cell (World.block_lt_of_cell? w _ hx199_0)).trans hx199_0
                replace hx199_1 := (HB.out.cell (World.block_lt_of_cell? w _ hx199_1)).trans hx199_1
                have HR199_0 := Aside0.mk hi199_0
                have HC199_0 := Aside0.mk hl199_0
                clear hi199_0 hl199_0
                replace p199 := eq_true p199
                replace q199 := eq_true q199
                have p200 : 0 ≤ ((ji25) : Int) := of_decide_eq_true (by first | (with_reducible assumption) | assumption)
                have q200 : (ji25) < (l0.length : Int) := of_decide_eq_true (by first | (with_reducible assumption) | assumption)
                obtain ⟨ad200, A200_0, c200_0, e200, hx200_0, hx200_1, hl200_0, hi200_0⟩ := at_T41 HR0.out (ji25) p200 q200
                have hw200_1 := hx200_1
                have hw200_0 := hx200_0
                obtain rfl : ad196 = ad200 := (by injection e200)
                replace hx200_0 := (HB.out.cell (World.block_lt_of_cell? w _ hx200_0)).trans hx200_0
                replace hx200_1 := (HB.out.cell (World.block_lt_of_cell? w _ hx200_1)).trans hx200_1
                have HR200_0 := Aside0.mk hi200_0
                have HC200_0 := Aside0.mk hl200_0
                clear hi200_0 hl200_0
                replace p200 := eq_true p200
                replace q200 := eq_true q200
                refine start_ (n := 46) (S := fun w' => w'.cell? ⟨gb197, 0, none⟩ = some (.slice A196_0 ((rd_T41 l0 x7_1).f0).length c196_0) ∧ w'.cell? ⟨gb197, 1, none⟩ = some (.int .i64 ((rd_T41 l0 x7_1).f1)) ∧ w'.cell? ad196 = some (.slice A199_0 ((rd_T41 l0 0).f0).length c199_0) ∧ w'.cell? ⟨ad196.block, ad196.off + 1, none⟩ = some (.int .i64 ((rd_T41 l0 0).f1)) ∧ w'.cell? (ad196.add (((ji25)).toNat * 2)) = some (.slice A200_0 ((rd_T41 l0 (ji25)).f0).length c200_0) ∧ w'.cell? ⟨(ad196.add (((ji25)).toNat * 2)).block, (ad196.add (((ji25)).toNat * 2)).off + 1, none⟩ = some (.int .i64 ((rd_T41 l0 (ji25)).f1))) (ds := []) (Array.replicate 46 false) (by kernel_rfl) rfl rfl ⟨(blk_cell BK197.out 0).trans rfl, (blk_cell BK197.out 1).trans rfl, ((HB.out.cell (World.block_lt_of_cell? w _ hw199_0)).trans hw199_0), ((HB.out.cell (World.block_lt_of_cell? w _ hw199_1)).trans hw199_1), ((HB.out.cell (World.block_lt_of_cell? w _ hw200_0)).trans hw200_0), ((HB.out.cell (World.block_lt_of_cell? w _ hw200_1)).trans hw200_1)⟩ (fun hHeld => ?_); refine with_tabW impl_ValidZSet.tab4 impl_ValidZSet.bits4 (fun HT_ HW_ => ?_)
                generalize w36.drew = w37 at BK197 HB HR199_0 HR200_0 hx199_0 hx199_1 hx200_0 hx200_1 hHeld ⊢
                refine pT HT_ 0 12 (bm 46 1) ?_
                refine tT HT_ HW_ hHeld 1 13 (bm 46 3) ?_
                refine one_ (i := 2) (N := some 14) (bm 46 7) rfl rfl (one_of HT_.out (by kernel_rfl)) (by decide) (fun K hK => ?_)
                refine goes_ Try.func66 (by kernel_rfl) rfl #[.slice A196_0 ((rd_T41 l0 x7_1).f0).length c196_0] (by rfl) rfl rfl (by (try simp only [List.map_toArray, List.map_cons, List.map_nil]); first | done | rfl | (simp only [List.length_drop, List.length_take]; rfl)) ?_
                with_reducible refine (impl_ValidRow.calls k1 _ _ ((rd_T41 l0 x7_1).f0) true _ ?side1 ?side2 A5.out).mono ?_
                (case side1 => repeat (first | exact (Kd.C_below HR196_0.out HB.out) | (with_reducible refine Kd.C_alloc ?_ _) | (with_reducible refine Kd.C_drewN ?_ _) | (with_reducible refine Kd.C_drew ?_)))
                (case side2 => exact HC196_0.out)
                rintro e w' ⟨rfl, ⟨nd, rfl⟩⟩
                refine ⟨_, rfl, ?_⟩
                refine hK.out _ _ ⟨(blk_cell BK197.out 0).trans rfl, (blk_cell BK197.out 1).trans rfl, ((HB.out.cell (World.block_lt_of_cell? w _ hw199_0)).trans hw199_0), ((HB.out.cell (World.block_lt_of_cell? w _ hw199_1)).trans hw199_1), ((HB.out.cell (World.block_lt_of_cell? w _ hw200_0)).trans hw200_0), ((HB.out.cell (World.block_lt_of_cell? w _ hw200_1)).trans hw200_1)⟩ (fun hHeld => ?_)
                clear hK K
                refine nS 14 ?_
                refine pT HT_ 3 15 (bm 46 15) ?_
                refine pT HT_ 4 16 (bm 46 31) ?_
                refine pT HT_ 5 17 (bm 46 63) ?_
                refine pT HT_ 8 20 (bm 46 319) ?_
                refine pT HT_ 9 21 (bm 46 831) ?_
                refine pT HT_ 10 22 (bm 46 1855) ?_
                refine tT HT_ HW_ hHeld 6 18 (bm 46 1919) ?_
                refine pT HT_ 7 19 (bm 46 2047) ?_
                refine tT HT_ HW_ hHeld 11 23 (bm 46 4095) ?_
                refine pT HT_ 12 24 (bm 46 8191) ?_
                refine pT HT_ 13 25 (bm 46 16383) ?_
                refine pT HT_ 14 26 (bm 46 32767) ?_
                refine pT HT_ 15 27 (bm 46 65535) ?_
                refine pT HT_ 16 28 (bm 46 131071) ?_
                refine tT HT_ HW_ hHeld 17 29 (bm 46 262143) ?_
                refine pT HT_ 18 30 (bm 46 524287) ?_
                refine pT HT_ 19 31 (bm 46 1048575) ?_
                refine pT HT_ 20 32 (bm 46 2097151) ?_
                refine pT HT_ 21 33 (bm 46 4194303) ?_
                refine tT HT_ HW_ hHeld 22 34 (bm 46 8388607) ?_
                refine pT HT_ 23 35 (bm 46 16777215) ?_
                refine pT HT_ 24 36 (bm 46 33554431) ?_
                refine pT HT_ 25 37 (bm 46 67108863) ?_
                refine pT HT_ 26 38 (bm 46 134217727) ?_
                refine tT HT_ HW_ hHeld 27 39 (bm 46 268435455) ?_
                refine pT HT_ 28 40 (bm 46 536870911) ?_
                refine pT HT_ 29 41 (bm 46 1073741823) ?_
                refine pT HT_ 30 42 (bm 46 2147483647) ?_
                refine pT HT_ 31 43 (bm 46 4294967295) ?_
                refine pT HT_ 32 44 (bm 46 8589934591) ?_
                refine pT HT_ 33 45 (bm 46 17179869183) ?_
                refine pT HT_ 34 46 (bm 46 34359738367) ?_
                refine pT HT_ 35 47 (bm 46 68719476735) ?_
                refine pT HT_ 36 48 (bm 46 137438953471) ?_
                refine pT HT_ 37 49 (bm 46 274877906943) ?_
                refine pT HT_ 38 50 (bm 46 549755813887) ?_
                refine pT HT_ 40 52 (bm 46 1649267441663) ?_
                refine tT HT_ HW_ hHeld 39 51 (bm 46 2199023255551) ?_
                refine tT HT_ HW_ hHeld 41 53 (bm 46 4398046511103) ?_
                refine one_ (i := 42) (N := some 54) (bm 46 8796093022207) rfl rfl (one_of HT_.out (by kernel_rfl)) (by decide) (fun K hK => ?_)
                refine goes_ Try.func67 (by kernel_rfl) rfl #[.slice A200_0 ((rd_T41 l0 (ji25)).f0).length c200_0, .slice A196_0 ((rd_T41 l0 x7_1).f0).length c196_0] (by rfl) rfl rfl (by (try simp only [List.map_toArray, List.map_cons, List.map_nil]); first | done | (simp only [hji25]; rfl) | rfl | (simp only [List.length_drop, List.length_take]; rfl)) ?_
                with_reducible refine (impl_RowLess.calls k1 _ _ ((rd_T41 l0 (ji25)).f0) _ _ ((rd_T41 l0 x7_1).f0) false _ ?side1 ?side2 ?side3 ?side4 A28.out).mono ?_
                (case side1 => repeat (first | exact (Kd.C_below HR200_0.out (by repeat (first | (with_reducible first | exact HB.out | apply below_alloc | apply pw_below_drewN | apply below_drew1 | refine below_set ?_ GE197.out) | exact HB.out))) | (with_reducible refine Kd.C_alloc ?_ _) | (with_reducible refine Kd.C_drewN ?_ _) | (with_reducible refine Kd.C_drew ?_)))
                (case side2 => exact HC200_0.out)
                (case side3 => repeat (first | exact (Kd.C_below HR196_0.out (by repeat (first | (with_reducible first | exact HB.out | apply below_alloc | apply pw_below_drewN | apply below_drew1 | refine below_set ?_ GE197.out) | exact HB.out))) | (with_reducible refine Kd.C_alloc ?_ _) | (with_reducible refine Kd.C_drewN ?_ _) | (with_reducible refine Kd.C_drew ?_)))
                (case side4 => exact HC196_0.out)
                rintro e w' ⟨rfl, ⟨nd, rfl⟩⟩
                refine ⟨_, rfl, ?_⟩
                refine hK.out _ _ ⟨(blk_cell BK197.out 0).trans rfl, (blk_cell BK197.out 1).trans rfl, ((HB.out.cell (World.block_lt_of_cell? w _ hw199_0)).trans hw199_0), ((HB.out.cell (World.block_lt_of_cell? w _ hw199_1)).trans hw199_1), ((HB.out.cell (World.block_lt_of_cell? w _ hw200_0)).trans hw200_0), ((HB.out.cell (World.block_lt_of_cell? w _ hw200_1)).trans hw200_1)⟩ (fun hHeld => ?_)
                clear hK K
                refine nS 54 ?_
                refine pT HT_ 43 55 (bm 46 17592186044415) ?_
                refine pT HT_ 44 56 (bm 46 35184372088831) ?_
                refine pT HT_ 45 57 (bm 46 70368744177663) ?_
                refine done_ (done_of HT_.out (by kernel_rfl)) ?_
                try go_wp2
                go_ret
                exact ⟨by first | rfl | (simp [errW_none, errW_some] <;> rfl) | (simp only [← hji25]; first | rfl | (simp [errW_none, errW_some] <;> rfl)) | (simp [*, errW_none, errW_some] <;> rfl), by repeat (first | (with_reducible first | exact HB.out | apply below_alloc | apply pw_below_drewN | apply below_drew1 | refine below_set ?_ GE197.out) | exact HB.out)⟩
              ·
               rw [if_neg c27] at H
               exact absurd H (by simp)
             ·
              rw [if_neg c26] at H
              exact absurd H (by simp)
            ·
             rw [if_neg c24] at H
             have c24b0 : decide (0 < x7_1) = false := decide_eq_false c24
             clear c24
             have H' := Aside0.mk H
             clear H
             have p196 : 0 ≤ (x7_1 : Int) := of_decide_eq_true (by first | (with_reducible assumption) | assumption)
             have q196 : x7_1 < (l0.length : Int) := of_decide_eq_true (by first | (with_reducible assumption) | assumption)
             obtain ⟨ad196, A196_0, c196_0, e196, hx196_0, hx196_1, hl196_0, hi196_0⟩ := at_T41 HR0.out x7_1 p196 q196
             cases e196
             replace hx196_0 := (HB.out.cell (World.block_lt_of_cell? w _ hx196_0)).trans hx196_0
             replace hx196_1 := (HB.out.cell (World.block_lt_of_cell? w _ hx196_1)).trans hx196_1
             have HR196_0 := Aside0.mk hi196_0
             have HC196_0 := Aside0.mk hl196_0
             clear hi196_0 hl196_0
             replace p196 := eq_true p196
             replace q196 := eq_true q196
             try go_wp2_with (first | ((with_reducible refine gate_dst (N := 4) rfl ?_); (try (refine gate_guard (by rfl) ?_; dsimp only)); refine box_event ?hg (N := 4) ?hd (cs := #[.slice none 0 0, .int .i64 0]) (t := 41) ?hr ?_; (case hd => rfl); (case hg => rfl); (case hr => first | (go_simp; done) | (go_simp; rfl)); intro gb197 hg w38 hbox hb; have n0_ := Aside0.mk (below_step (by repeat (first | (with_reducible first | exact HB.out | apply below_alloc | apply pw_below_drewN | apply below_drew1) | exact HB.out)) hb); have n1_ := Aside0.mk (hbox); have n2_ := Aside0.mk ((by rw [hg]; exact (below_size (by repeat (first | (with_reducible first | exact HB.out | apply below_alloc | apply pw_below_drewN | apply below_drew1) | exact HB.out))) : w.heap.size ≤ gb197)); have n3_ := Aside0.mk ((by rw [hg]; exact (below_size (by repeat (first | (with_reducible first | exact HB.out | apply below_alloc | apply pw_below_drewN | apply below_drew1) | exact HB.out))) : w.heap.size ≤ gb197)); clear HB; have HB := n0_; have BK197 := n1_; have GW197 := n2_; have GE197 := n3_; clear n0_ n1_ n2_ n3_; clear hb hbox hg; have hcz39_0 : w38.cell? ⟨gb197, 0, none⟩ = some (.slice none 0 0) := (blk_cell BK197.out 0).trans rfl; have hcz39_1 : w38.cell? ⟨gb197, 1, none⟩ = some (.int .i64 0) := (blk_cell BK197.out 1).trans rfl; have hfz39_0 := blk_frozen BK197.out 0; have hfz39_1 := blk_frozen BK197.out 1))
             have n0_ : Aside0 (((w38.setCell ⟨gb197, 0, none⟩ (.slice A196_0 ((rd_T41 l0 x7_1).f0).length c196_0)).setCell ⟨gb197, 1, none⟩ (.int .i64 ((rd_T41 l0 x7_1).f1))).heap[gb197]? = some (.cells #[.slice A196_0 ((rd_T41 l0 x7_1).f0).length c196_0, .int .i64 ((rd_T41 l0 x7_1).f1)] 41 (0, 0))) := ⟨by (with_reducible repeat (first | refine blk_drewN ?_ _ | refine blk_drew ?_ | refine blk_alloc ?_ _)); refine blk_put (cs := #[.slice A196_0 ((rd_T41 l0 x7_1).f0).length c196_0, .int .i64 0]) ?_ 1 _ rfl; (with_reducible repeat (first | refine blk_drewN ?_ _ | refine blk_drew ?_ | refine blk_alloc ?_ _)); refine blk_put (cs := #[.slice none 0 0, .int .i64 0]) ?_ 0 _ rfl; (with_reducible repeat (first | refine blk_drewN ?_ _ | refine blk_drew ?_ | refine blk_alloc ?_ _)); exact BK197.out⟩
             have n1_ : Aside0 (Below w.heap.size w ((w38.setCell ⟨gb197, 0, none⟩ (.slice A196_0 ((rd_T41 l0 x7_1).f0).length c196_0)).setCell ⟨gb197, 1, none⟩ (.int .i64 ((rd_T41 l0 x7_1).f1)))) := ⟨by repeat (first | (with_reducible first | exact HB.out | apply below_alloc | apply pw_below_drewN | apply below_drew1 | refine below_set ?_ GE197.out) | exact HB.out)⟩
             (try clear BK197)
             (try clear HB)
             generalize ((w38.setCell ⟨gb197, 0, none⟩ (.slice A196_0 ((rd_T41 l0 x7_1).f0).length c196_0)).setCell ⟨gb197, 1, none⟩ (.int .i64 ((rd_T41 l0 x7_1).f1))) = w40 at n0_ n1_ ⊢
             have BK197 := n0_
             have HB := n1_
             clear n0_ n1_
             have n0_ := Aside0.mk (blk_drew BK197.out)
             have n1_ := Aside0.mk (below_drew1 HB.out)
             clear BK197
             clear HB
             have BK197 := n0_
             have HB := n1_
             clear n0_ n1_
             have p199 : 0 ≤ (0 : Int) := (by omega)
             have q199 : 0 < (l0.length : Int) := of_decide_eq_true (by first | (with_reducible assumption) | assumption)
             obtain ⟨ad199, A199_0, c199_0, e199, hx199_0, hx199_1, hl199_0, hi199_0⟩ := at_T41 HR0.out 0 p199 q199
             have hw199_1 := hx199_1
             (try rw [show ((0 : Int)).toNat = 0 from rfl] at hw199_1)
             (try rw [show 0 * 2 = 0 from rfl] at hw199_1)
             (try rw [Addr.add_zero'] at hw199_1)
             have hw199_0 := hx199_0
             (try rw [show ((0 : Int)).toNat = 0 from rfl] at hw199_0)
             (try rw [show 0 * 2 = 0 from rfl] at hw199_0)
             (try rw [Addr.add_zero'] at hw199_0)
             obtain rfl : ad196 = ad199 := (by injection e199)
             have qi199 : (0 < l0.length) = True := eq_true (by omega)
             (try rw [show ((0 : Int)).toNat = 0 from rfl] at hx199_0)
             (try rw [show 0 * 2 = 0 from rfl] at hx199_0)
             (try rw [Addr.add_zero'] at hx199_0)
             (try rw [show ((0 : Int)).toNat = 0 from rfl] at hx199_1)
             (try rw [show 0 * 2 = 0 from rfl] at hx199_1)
             (try rw [Addr.add_zero'] at hx199_1)
             replace hx199_0 := (HB.out.cell (World.block_lt_of_cell? w _ hx199_0)).trans hx199_0
             replace hx199_1 := (HB.out.cell (World.block_lt_of_cell? w _ hx199_1)).trans hx199_1
             have HR199_0 := Aside0.mk hi199_0
             have HC199_0 := Aside0.mk hl199_0
             clear hi199_0 hl199_0
             replace p199 := eq_true p199
             replace q199 := eq_true q199
             refine start_ (n := 46) (S := fun w' => w'.cell? ⟨gb197, 0, none⟩ = some (.slice A196_0 ((rd_T41 l0 x7_1).f0).length c196_0) ∧ w'.cell? ⟨gb197, 1, none⟩ = some (.int .i64 ((rd_T41 l0 x7_1).f1)) ∧ w'.cell? ad196 = some (.slice A199_0 ((rd_T41 l0 0).f0).length c199_0) ∧ w'.cell? ⟨ad196.block, ad196.off + 1, none⟩ = some (.int .i64 ((rd_T41 l0 0).f1))) (ds := []) (Array.replicate 46 false) (by kernel_rfl) rfl rfl ⟨(blk_cell BK197.out 0).trans rfl, (blk_cell BK197.out 1).trans rfl, ((HB.out.cell (World.block_lt_of_cell? w _ hw199_0)).trans hw199_0), ((HB.out.cell (World.block_lt_of_cell? w _ hw199_1)).trans hw199_1)⟩ (fun hHeld => ?_); refine with_tabW impl_ValidZSet.tab4 impl_ValidZSet.bits4 (fun HT_ HW_ => ?_)
             generalize w40.drew = w41 at BK197 HB HR199_0 hx199_0 hx199_1 hHeld ⊢
             refine pT HT_ 0 12 (bm 46 1) ?_
             refine tT HT_ HW_ hHeld 1 13 (bm 46 3) ?_
             refine one_ (i := 2) (N := some 14) (bm 46 7) rfl rfl (one_of HT_.out (by kernel_rfl)) (by decide) (fun K hK => ?_)
             refine goes_ Try.func66 (by kernel_rfl) rfl #[.slice A196_0 ((rd_T41 l0 x7_1).f0).length c196_0] (by rfl) rfl rfl (by (try simp only [List.map_toArray, List.map_cons, List.map_nil]); first | done | rfl | (simp only [List.length_drop, List.length_take]; rfl)) ?_
             with_reducible refine (impl_ValidRow.calls k1 _ _ ((rd_T41 l0 x7_1).f0) true _ ?side1 ?side2 A5.out).mono ?_
             (case side1 => repeat (first | exact (Kd.C_below HR196_0.out HB.out) | (with_reducible refine Kd.C_alloc ?_ _) | (with_reducible refine Kd.C_drewN ?_ _) | (with_reducible refine Kd.C_drew ?_)))
             (case side2 => exact HC196_0.out)
             rintro e w' ⟨rfl, ⟨nd, rfl⟩⟩
             refine ⟨_, rfl, ?_⟩
             refine hK.out _ _ ⟨(blk_cell BK197.out 0).trans rfl, (blk_cell BK197.out 1).trans rfl, ((HB.out.cell (World.block_lt_of_cell? w _ hw199_0)).trans hw199_0), ((HB.out.cell (World.block_lt_of_cell? w _ hw199_1)).trans hw199_1)⟩ (fun hHeld => ?_)
             clear hK K
             refine nS 14 ?_
             refine pT HT_ 3 15 (bm 46 15) ?_
             refine pT HT_ 4 16 (bm 46 31) ?_
             refine pT HT_ 5 17 (bm 46 63) ?_
             refine pT HT_ 8 20 (bm 46 319) ?_
             refine pT HT_ 9 21 (bm 46 831) ?_
             refine pT HT_ 10 22 (bm 46 1855) ?_
             refine tT HT_ HW_ hHeld 6 18 (bm 46 1919) ?_
             refine pT HT_ 7 19 (bm 46 2047) ?_
             refine tT HT_ HW_ hHeld 11 23 (bm 46 4095) ?_
             refine pT HT_ 12 24 (bm 46 8191) ?_
             refine pT HT_ 13 25 (bm 46 16383) ?_
             refine pT HT_ 14 26 (bm 46 32767) ?_
             refine pT HT_ 15 27 (bm 46 65535) ?_
             refine pT HT_ 16 28 (bm 46 131071) ?_
             refine tT HT_ HW_ hHeld 17 29 (bm 46 262143) ?_
             refine pT HT_ 18 30 (bm 46 524287) ?_
             refine pT HT_ 19 31 (bm 46 1048575) ?_
             refine pT HT_ 20 32 (bm 46 2097151) ?_
             refine pT HT_ 21 33 (bm 46 4194303) ?_
             refine tT HT_ HW_ hHeld 22 34 (bm 46 8388607) ?_
             refine pT HT_ 23 35 (bm 46 16777215) ?_
             refine pT HT_ 24 36 (bm 46 33554431) ?_
             refine pT HT_ 25 37 (bm 46 67108863) ?_
             refine pT HT_ 26 38 (bm 46 134217727) ?_
             refine tT HT_ HW_ hHeld 27 39 (bm 46 268435455) ?_
             refine pT HT_ 28 40 (bm 46 536870911) ?_
             refine pT HT_ 29 41 (bm 46 1073741823) ?_
             refine pT HT_ 30 42 (bm 46 2147483647) ?_
             refine pT HT_ 31 43 (bm 46 4294967295) ?_
             refine pT HT_ 32 44 (bm 46 8589934591) ?_
             refine pT HT_ 33 45 (bm 46 17179869183) ?_
             refine pU HT_ 34 46 (bm 46 34359738367) ?_
             refine pU HT_ 35 47 (bm 46 68719476735) ?_
             refine pU HT_ 36 48 (bm 46 137438953471) ?_
             refine pU HT_ 37 49 (bm 46 274877906943) ?_
             refine pU HT_ 38 50 (bm 46 549755813887) ?_
             refine pU HT_ 39 51 (bm 46 1099511627775) ?_
             refine pU HT_ 40 52 (bm 46 2199023255551) ?_
             refine pU HT_ 41 53 (bm 46 4398046511103) ?_
             refine pU HT_ 42 54 (bm 46 8796093022207) ?_
             refine pU HT_ 43 55 (bm 46 17592186044415) ?_
             refine pT HT_ 44 56 (bm 46 35184372088831) ?_
             refine pT HT_ 45 57 (bm 46 70368744177663) ?_
             refine done_ (done_of HT_.out (by kernel_rfl)) ?_
             try go_wp2
             go_roundg k1
             case measure => have := HK1.out; omega
             case rel => exact ⟨(wrap64 (x7_1 + 1)), (by first | rfl | (simp; done) | (simp [*]; done)), H', ⟨by have := HK1.out; omega⟩, ⟨by repeat (first | (with_reducible first | exact HB.out | apply below_alloc | apply pw_below_drewN | apply below_drew1 | refine below_set ?_ GE197.out) | exact HB.out)⟩⟩
        ·
         rw [if_neg c8] at H
         have c8b0 : ((((rd_T41 l0 x7_1).f0).length : Int) == (((rd_T41 l0 0).f0).length : Int)) = false := beq_eq_false_iff_ne.mpr c8
         have c8b1 : ((((rd_T41 l0 x7_1).f0).length : Int) != (((rd_T41 l0 0).f0).length : Int)) = true := bne_iff_ne.mpr c8
         have c8b2 : (((rd_T41 l0 x7_1).f0).length == ((rd_T41 l0 0).f0).length) = false := by first | simpa using c8 | (simp at c8 ⊢; omega)
         obtain rfl := Option.some.inj H
         have p196 : 0 ≤ (x7_1 : Int) := of_decide_eq_true (by first | (with_reducible assumption) | assumption)
         have q196 : x7_1 < (l0.length : Int) := of_decide_eq_true (by first | (with_reducible assumption) | assumption)
         obtain ⟨ad196, A196_0, c196_0, e196, hx196_0, hx196_1, hl196_0, hi196_0⟩ := at_T41 HR0.out x7_1 p196 q196
         cases e196
         replace hx196_0 := (HB.out.cell (World.block_lt_of_cell? w _ hx196_0)).trans hx196_0
         replace hx196_1 := (HB.out.cell (World.block_lt_of_cell? w _ hx196_1)).trans hx196_1
         have HR196_0 := Aside0.mk hi196_0
         have HC196_0 := Aside0.mk hl196_0
         clear hi196_0 hl196_0
         replace p196 := eq_true p196
         replace q196 := eq_true q196
         try go_wp2_with (first | ((with_reducible refine gate_dst (N := 4) rfl ?_); (try (refine gate_guard (by rfl) ?_; dsimp only)); refine box_event ?hg (N := 4) ?hd (cs := #[.slice none 0 0, .int .i64 0]) (t := 41) ?hr ?_; (case hd => rfl); (case hg => rfl); (case hr => first | (go_simp; done) | (go_simp; rfl)); intro gb197 hg w42 hbox hb; have n0_ := Aside0.mk (below_step (by repeat (first | (with_reducible first | exact HB.out | apply below_alloc | apply pw_below_drewN | apply below_drew1) | exact HB.out)) hb); have n1_ := Aside0.mk (hbox); have n2_ := Aside0.mk ((by rw [hg]; exact (below_size (by repeat (first | (with_reducible first | exact HB.out | apply below_alloc | apply pw_below_drewN | apply below_drew1) | exact HB.out))) : w.heap.size ≤ gb197)); have n3_ := Aside0.mk ((by rw [hg]; exact (below_size (by repeat (first | (with_reducible first | exact HB.out | apply below_alloc | apply pw_below_drewN | apply below_drew1) | exact HB.out))) : w.heap.size ≤ gb197)); clear HB; have HB := n0_; have BK197 := n1_; have GW197 := n2_; have GE197 := n3_; clear n0_ n1_ n2_ n3_; clear hb hbox hg; have hcz43_0 : w42.cell? ⟨gb197, 0, none⟩ = some (.slice none 0 0) := (blk_cell BK197.out 0).trans rfl; have hcz43_1 : w42.cell? ⟨gb197, 1, none⟩ = some (.int .i64 0) := (blk_cell BK197.out 1).trans rfl; have hfz43_0 := blk_frozen BK197.out 0; have hfz43_1 := blk_frozen BK197.out 1))
         have n0_ : Aside0 (((w42.setCell ⟨gb197, 0, none⟩ (.slice A196_0 ((rd_T41 l0 x7_1).f0).length c196_0)).setCell ⟨gb197, 1, none⟩ (.int .i64 ((rd_T41 l0 x7_1).f1))).heap[gb197]? = some (.cells #[.slice A196_0 ((rd_T41 l0 x7_1).f0).length c196_0, .int .i64 ((rd_T41 l0 x7_1).f1)] 41 (0, 0))) := ⟨by (with_reducible repeat (first | refine blk_drewN ?_ _ | refine blk_drew ?_ | refine blk_alloc ?_ _)); refine blk_put (cs := #[.slice A196_0 ((rd_T41 l0 x7_1).f0).length c196_0, .int .i64 0]) ?_ 1 _ rfl; (with_reducible repeat (first | refine blk_drewN ?_ _ | refine blk_drew ?_ | refine blk_alloc ?_ _)); refine blk_put (cs := #[.slice none 0 0, .int .i64 0]) ?_ 0 _ rfl; (with_reducible repeat (first | refine blk_drewN ?_ _ | refine blk_drew ?_ | refine blk_alloc ?_ _)); exact BK197.out⟩
         have n1_ : Aside0 (Below w.heap.size w ((w42.setCell ⟨gb197, 0, none⟩ (.slice A196_0 ((rd_T41 l0 x7_1).f0).length c196_0)).setCell ⟨gb197, 1, none⟩ (.int .i64 ((rd_T41 l0 x7_1).f1)))) := ⟨by repeat (first | (with_reducible first | exact HB.out | apply below_alloc | apply pw_below_drewN | apply below_drew1 | refine below_set ?_ GE197.out) | exact HB.out)⟩
         (try clear BK197)
         (try clear HB)
         generalize ((w42.setCell ⟨gb197, 0, none⟩ (.slice A196_0 ((rd_T41 l0 x7_1).f0).length c196_0)).setCell ⟨gb197, 1, none⟩ (.int .i64 ((rd_T41 l0 x7_1).f1))) = w44 at n0_ n1_ ⊢
         have BK197 := n0_
         have HB := n1_
         clear n0_ n1_
         have n0_ := Aside0.mk (blk_drew BK197.out)
         have n1_ := Aside0.mk (below_drew1 HB.out)
         clear BK197
         clear HB
         have BK197 := n0_
         have HB := n1_
         clear n0_ n1_
         have p199 : 0 ≤ (0 : Int) := (by omega)
         have q199 : 0 < (l0.length : Int) := of_decide_eq_true (by first | (with_reducible assumption) | assumption)
         obtain ⟨ad199, A199_0, c199_0, e199, hx199_0, hx199_1, hl199_0, hi199_0⟩ := at_T41 HR0.out 0 p199 q199
         have hw199_1 := hx199_1
         (try rw [show ((0 : Int)).toNat = 0 from rfl] at hw199_1)
         (try rw [show 0 * 2 = 0 from rfl] at hw199_1)
         (try rw [Addr.add_zero'] at hw199_1)
         have hw199_0 := hx199_0
         (try rw [show ((0 : Int)).toNat = 0 from rfl] at hw199_0)
         (try rw [show 0 * 2 = 0 from rfl] at hw199_0)
         (try rw [Addr.add_zero'] at hw199_0)
         obtain rfl : ad196 = ad199 := (by injection e199)
         have qi199 : (0 < l0.length) = True := eq_true (by omega)
         (try rw [show ((0 : Int)).toNat = 0 from rfl] at hx199_0)
         (try rw [show 0 * 2 = 0 from rfl] at hx199_0)
         (try rw [Addr.add_zero'] at hx199_0)
         (try rw [show ((0 : Int)).toNat = 0 from rfl] at hx199_1)
         (try rw [show 0 * 2 = 0 from rfl] at hx199_1)
         (try rw [Addr.add_zero'] at hx199_1)
         replace hx199_0 := (HB.out.cell (World.block_lt_of_cell? w _ hx199_0)).trans hx199_0
         replace hx199_1 := (HB.out.cell (World.block_lt_of_cell? w _ hx199_1)).trans hx199_1
         have HR199_0 := Aside0.mk hi199_0
         have HC199_0 := Aside0.mk hl199_0
         clear hi199_0 hl199_0
         replace p199 := eq_true p199
         replace q199 := eq_true q199
         refine start_ (n := 46) (S := fun w' => w'.cell? ⟨gb197, 0, none⟩ = some (.slice A196_0 ((rd_T41 l0 x7_1).f0).length c196_0) ∧ w'.cell? ⟨gb197, 1, none⟩ = some (.int .i64 ((rd_T41 l0 x7_1).f1)) ∧ w'.cell? ad196 = some (.slice A199_0 ((rd_T41 l0 0).f0).length c199_0) ∧ w'.cell? ⟨ad196.block, ad196.off + 1, none⟩ = some (.int .i64 ((rd_T41 l0 0).f1))) (ds := []) (Array.replicate 46 false) (by kernel_rfl) rfl rfl ⟨(blk_cell BK197.out 0).trans rfl, (blk_cell BK197.out 1).trans rfl, ((HB.out.cell (World.block_lt_of_cell? w _ hw199_0)).trans hw199_0), ((HB.out.cell (World.block_lt_of_cell? w _ hw199_1)).trans hw199_1)⟩ (fun hHeld => ?_); refine with_tabW impl_ValidZSet.tab4 impl_ValidZSet.bits4 (fun HT_ HW_ => ?_)
         generalize w44.drew = w45 at BK197 HB HR199_0 hx199_0 hx199_1 hHeld ⊢
         refine pT HT_ 0 12 (bm 46 1) ?_
         refine tT HT_ HW_ hHeld 1 13 (bm 46 3) ?_
         refine one_ (i := 2) (N := some 14) (bm 46 7) rfl rfl (one_of HT_.out (by kernel_rfl)) (by decide) (fun K hK => ?_)
         refine goes_ Try.func66 (by kernel_rfl) rfl #[.slice A196_0 ((rd_T41 l0 x7_1).f0).length c196_0] (by rfl) rfl rfl (by (try simp only [List.map_toArray, List.map_cons, List.map_nil]); first | done | rfl | (simp only [List.length_drop, List.length_take]; rfl)) ?_
         with_reducible refine (impl_ValidRow.calls k1 _ _ ((rd_T41 l0 x7_1).f0) true _ ?side1 ?side2 A5.out).mono ?_
         (case side1 => repeat (first | exact (Kd.C_below HR196_0.out HB.out) | (with_reducible refine Kd.C_alloc ?_ _) | (with_reducible refine Kd.C_drewN ?_ _) | (with_reducible refine Kd.C_drew ?_)))
         (case side2 => exact HC196_0.out)
         rintro e w' ⟨rfl, ⟨nd, rfl⟩⟩
         refine ⟨_, rfl, ?_⟩
         refine hK.out _ _ ⟨(blk_cell BK197.out 0).trans rfl, (blk_cell BK197.out 1).trans rfl, ((HB.out.cell (World.block_lt_of_cell? w _ hw199_0)).trans hw199_0), ((HB.out.cell (World.block_lt_of_cell? w _ hw199_1)).trans hw199_1)⟩ (fun hHeld => ?_)
         clear hK K
         refine nS 14 ?_
         refine pT HT_ 3 15 (bm 46 15) ?_
         refine pT HT_ 4 16 (bm 46 31) ?_
         refine pT HT_ 5 17 (bm 46 63) ?_
         refine pT HT_ 8 20 (bm 46 319) ?_
         refine pT HT_ 9 21 (bm 46 831) ?_
         refine pT HT_ 10 22 (bm 46 1855) ?_
         refine tT HT_ HW_ hHeld 6 18 (bm 46 1919) ?_
         refine pT HT_ 7 19 (bm 46 2047) ?_
         refine tT HT_ HW_ hHeld 11 23 (bm 46 4095) ?_
         refine pT HT_ 12 24 (bm 46 8191) ?_
         refine pT HT_ 13 25 (bm 46 16383) ?_
         refine pT HT_ 14 26 (bm 46 32767) ?_
         refine pT HT_ 15 27 (bm 46 65535) ?_
         refine pU HT_ 16 28 (bm 46 131071) ?_
         refine pU HT_ 17 29 (bm 46 262143) ?_
         refine pU HT_ 18 30 (bm 46 524287) ?_
         refine pT HT_ 19 31 (bm 46 1048575) ?_
         refine pT HT_ 20 32 (bm 46 2097151) ?_
         refine pU HT_ 21 33 (bm 46 4194303) ?_
         refine pU HT_ 22 34 (bm 46 8388607) ?_
         refine pU HT_ 23 35 (bm 46 16777215) ?_
         refine pT HT_ 24 36 (bm 46 33554431) ?_
         refine pT HT_ 25 37 (bm 46 67108863) ?_
         refine pU HT_ 26 38 (bm 46 134217727) ?_
         refine pU HT_ 27 39 (bm 46 268435455) ?_
         refine pU HT_ 28 40 (bm 46 536870911) ?_
         refine pT HT_ 29 41 (bm 46 1073741823) ?_
         refine pT HT_ 30 42 (bm 46 2147483647) ?_
         refine pU HT_ 31 43 (bm 46 4294967295) ?_
         refine pU HT_ 32 44 (bm 46 8589934591) ?_
         refine pU HT_ 33 45 (bm 46 17179869183) ?_
         refine pU HT_ 34 46 (bm 46 34359738367) ?_
         refine pU HT_ 35 47 (bm 46 68719476735) ?_
         refine pU HT_ 36 48 (bm 46 137438953471) ?_
         refine pU HT_ 37 49 (bm 46 274877906943) ?_
         refine pU HT_ 38 50 (bm 46 549755813887) ?_
         refine pU HT_ 39 51 (bm 46 1099511627775) ?_
         refine pU HT_ 40 52 (bm 46 2199023255551) ?_
         refine pU HT_ 41 53 (bm 46 4398046511103) ?_
         refine pU HT_ 42 54 (bm 46 8796093022207) ?_
         refine pU HT_ 43 55 (bm 46 17592186044415) ?_
         refine pU HT_ 44 56 (bm 46 35184372088831) ?_
         refine pT HT_ 45 57 (bm 46 70368744177663) ?_
         refine done_ (done_of HT_.out (by kernel_rfl)) ?_
         try go_wp2
         go_ret
         exact ⟨by first | rfl | (simp [errW_none, errW_some] <;> rfl) | (simp [*, errW_none, errW_some] <;> rfl), by repeat (first | (with_reducible first | exact HB.out | apply below_alloc | apply pw_below_drewN | apply below_drew1 | refine below_set ?_ GE197.out) | exact HB.out)⟩
       ·
        rw [if_neg c7] at H
        exact absurd H (by simp)
      ·
       replace c6 := Bool.eq_false_iff.mpr c6
       subst c6
       have H1 : (some false) = some r := by rw [if_neg (show ¬ (false = true) by decide)] at H; exact H
       clear H
       have H := H1
       clear H1
       obtain rfl := Option.some.inj H
       have p196 : 0 ≤ (x7_1 : Int) := of_decide_eq_true (by first | (with_reducible assumption) | assumption)
       have q196 : x7_1 < (l0.length : Int) := of_decide_eq_true (by first | (with_reducible assumption) | assumption)
       obtain ⟨ad196, A196_0, c196_0, e196, hx196_0, hx196_1, hl196_0, hi196_0⟩ := at_T41 HR0.out x7_1 p196 q196
       cases e196
       replace hx196_0 := (HB.out.cell (World.block_lt_of_cell? w _ hx196_0)).trans hx196_0
       replace hx196_1 := (HB.out.cell (World.block_lt_of_cell? w _ hx196_1)).trans hx196_1
       have HR196_0 := Aside0.mk hi196_0
       have HC196_0 := Aside0.mk hl196_0
       clear hi196_0 hl196_0
       replace p196 := eq_true p196
       replace q196 := eq_true q196
       try go_wp2_with (first | ((with_reducible refine gate_dst (N := 4) rfl ?_); (try (refine gate_guard (by rfl) ?_; dsimp only)); refine box_event ?hg (N := 4) ?hd (cs := #[.slice none 0 0, .int .i64 0]) (t := 41) ?hr ?_; (case hd => rfl); (case hg => rfl); (case hr => first | (go_simp; done) | (go_simp; rfl)); intro gb197 hg w46 hbox hb; have n0_ := Aside0.mk (below_step (by repeat (first | (with_reducible first | exact HB.out | apply below_alloc | apply pw_below_drewN | apply below_drew1) | exact HB.out)) hb); have n1_ := Aside0.mk (hbox); have n2_ := Aside0.mk ((by rw [hg]; exact (below_size (by repeat (first | (with_reducible first | exact HB.out | apply below_alloc | apply pw_below_drewN | apply below_drew1) | exact HB.out))) : w.heap.size ≤ gb197)); have n3_ := Aside0.mk ((by rw [hg]; exact (below_size (by repeat (first | (with_reducible first | exact HB.out | apply below_alloc | apply pw_below_drewN | apply below_drew1) | exact HB.out))) : w.heap.size ≤ gb197)); clear HB; have HB := n0_; have BK197 := n1_; have GW197 := n2_; have GE197 := n3_; clear n0_ n1_ n2_ n3_; clear hb hbox hg; have hcz47_0 : w46.cell? ⟨gb197, 0, none⟩ = some (.slice none 0 0) := (blk_cell BK197.out 0).trans rfl; have hcz47_1 : w46.cell? ⟨gb197, 1, none⟩ = some (.int .i64 0) := (blk_cell BK197.out 1).trans rfl; have hfz47_0 := blk_frozen BK197.out 0; have hfz47_1 := blk_frozen BK197.out 1))
       have n0_ : Aside0 (((w46.setCell ⟨gb197, 0, none⟩ (.slice A196_0 ((rd_T41 l0 x7_1).f0).length c196_0)).setCell ⟨gb197, 1, none⟩ (.int .i64 ((rd_T41 l0 x7_1).f1))).heap[gb197]? = some (.cells #[.slice A196_0 ((rd_T41 l0 x7_1).f0).length c196_0, .int .i64 ((rd_T41 l0 x7_1).f1)] 41 (0, 0))) := ⟨by (with_reducible repeat (first | refine blk_drewN ?_ _ | refine blk_drew ?_ | refine blk_alloc ?_ _)); refine blk_put (cs := #[.slice A196_0 ((rd_T41 l0 x7_1).f0).length c196_0, .int .i64 0]) ?_ 1 _ rfl; (with_reducible repeat (first | refine blk_drewN ?_ _ | refine blk_drew ?_ | refine blk_alloc ?_ _)); refine blk_put (cs := #[.slice none 0 0, .int .i64 0]) ?_ 0 _ rfl; (with_reducible repeat (first | refine blk_drewN ?_ _ | refine blk_drew ?_ | refine blk_alloc ?_ _)); exact BK197.out⟩
       have n1_ : Aside0 (Below w.heap.size w ((w46.setCell ⟨gb197, 0, none⟩ (.slice A196_0 ((rd_T41 l0 x7_1).f0).length c196_0)).setCell ⟨gb197, 1, none⟩ (.int .i64 ((rd_T41 l0 x7_1).f1)))) := ⟨by repeat (first | (with_reducible first | exact HB.out | apply below_alloc | apply pw_below_drewN | apply below_drew1 | refine below_set ?_ GE197.out) | exact HB.out)⟩
       (try clear BK197)
       (try clear HB)
       generalize ((w46.setCell ⟨gb197, 0, none⟩ (.slice A196_0 ((rd_T41 l0 x7_1).f0).length c196_0)).setCell ⟨gb197, 1, none⟩ (.int .i64 ((rd_T41 l0 x7_1).f1))) = w48 at n0_ n1_ ⊢
       have BK197 := n0_
       have HB := n1_
       clear n0_ n1_
       have n0_ := Aside0.mk (blk_drew BK197.out)
       have n1_ := Aside0.mk (below_drew1 HB.out)
       clear BK197
       clear HB
       have BK197 := n0_
       have HB := n1_
       clear n0_ n1_
       refine start_ (n := 46) (S := fun w' => w'.cell? ⟨gb197, 0, none⟩ = some (.slice A196_0 ((rd_T41 l0 x7_1).f0).length c196_0) ∧ w'.cell? ⟨gb197, 1, none⟩ = some (.int .i64 ((rd_T41 l0 x7_1).f1))) (ds := []) (Array.replicate 46 false) (by kernel_rfl) rfl rfl ⟨(blk_cell BK197.out 0).trans rfl, (blk_cell BK197.out 1).trans rfl⟩ (fun hHeld => ?_); refine with_tabW impl_ValidZSet.tab4 impl_ValidZSet.bits4 (fun HT_ HW_ => ?_)
       generalize w48.drew = w49 at BK197 HB hHeld ⊢
       refine pT HT_ 0 12 (bm 46 1) ?_
       refine tT HT_ HW_ hHeld 1 13 (bm 46 3) ?_
       refine one_ (i := 2) (N := some 14) (bm 46 7) rfl rfl (one_of HT_.out (by kernel_rfl)) (by decide) (fun K hK => ?_)
       refine goes_ Try.func66 (by kernel_rfl) rfl #[.slice A196_0 ((rd_T41 l0 x7_1).f0).length c196_0] (by rfl) rfl rfl (by (try simp only [List.map_toArray, List.map_cons, List.map_nil]); first | done | rfl | (simp only [List.length_drop, List.length_take]; rfl)) ?_
       with_reducible refine (impl_ValidRow.calls k1 _ _ ((rd_T41 l0 x7_1).f0) false _ ?side1 ?side2 A5.out).mono ?_
       (case side1 => repeat (first | exact (Kd.C_below HR196_0.out HB.out) | (with_reducible refine Kd.C_alloc ?_ _) | (with_reducible refine Kd.C_drewN ?_ _) | (with_reducible refine Kd.C_drew ?_)))
       (case side2 => exact HC196_0.out)
       rintro e w' ⟨rfl, ⟨nd, rfl⟩⟩
       refine ⟨_, rfl, ?_⟩
       refine hK.out _ _ ⟨(blk_cell BK197.out 0).trans rfl, (blk_cell BK197.out 1).trans rfl⟩ (fun hHeld => ?_)
       clear hK K
       refine nS 14 ?_
       refine pT HT_ 3 15 (bm 46 15) ?_
       refine pT HT_ 4 16 (bm 46 31) ?_
       refine pU HT_ 5 17 (bm 46 63) ?_
       refine pU HT_ 6 18 (bm 46 127) ?_
       refine pU HT_ 7 19 (bm 46 255) ?_
       refine pU HT_ 8 20 (bm 46 511) ?_
       refine pU HT_ 9 21 (bm 46 1023) ?_
       refine pU HT_ 10 22 (bm 46 2047) ?_
       refine pU HT_ 11 23 (bm 46 4095) ?_
       refine pU HT_ 12 24 (bm 46 8191) ?_
       refine pU HT_ 13 25 (bm 46 16383) ?_
       refine pT HT_ 14 26 (bm 46 32767) ?_
       refine pT HT_ 15 27 (bm 46 65535) ?_
       refine pU HT_ 16 28 (bm 46 131071) ?_
       refine pU HT_ 17 29 (bm 46 262143) ?_
       refine pU HT_ 18 30 (bm 46 524287) ?_
       refine pT HT_ 19 31 (bm 46 1048575) ?_
       refine pT HT_ 20 32 (bm 46 2097151) ?_
       refine pU HT_ 21 33 (bm 46 4194303) ?_
       refine pU HT_ 22 34 (bm 46 8388607) ?_
       refine pU HT_ 23 35 (bm 46 16777215) ?_
       refine pT HT_ 24 36 (bm 46 33554431) ?_
       refine pT HT_ 25 37 (bm 46 67108863) ?_
       refine pU HT_ 26 38 (bm 46 134217727) ?_
       refine pU HT_ 27 39 (bm 46 268435455) ?_
       refine pU HT_ 28 40 (bm 46 536870911) ?_
       refine pT HT_ 29 41 (bm 46 1073741823) ?_
       refine pT HT_ 30 42 (bm 46 2147483647) ?_
       refine pU HT_ 31 43 (bm 46 4294967295) ?_
       refine pU HT_ 32 44 (bm 46 8589934591) ?_
       refine pU HT_ 33 45 (bm 46 17179869183) ?_
       refine pU HT_ 34 46 (bm 46 34359738367) ?_
       refine pU HT_ 35 47 (bm 46 68719476735) ?_
       refine pU HT_ 36 48 (bm 46 137438953471) ?_
       refine pU HT_ 37 49 (bm 46 274877906943) ?_
       refine pU HT_ 38 50 (bm 46 549755813887) ?_
       refine pU HT_ 39 51 (bm 46 1099511627775) ?_
       refine pU HT_ 40 52 (bm 46 2199023255551) ?_
       refine pU HT_ 41 53 (bm 46 4398046511103) ?_
       refine pU HT_ 42 54 (bm 46 8796093022207) ?_
       refine pU HT_ 43 55 (bm 46 17592186044415) ?_
       refine pU HT_ 44 56 (bm 46 35184372088831) ?_
       refine pT HT_ 45 57 (bm 46 70368744177663) ?_
       refine done_ (done_of HT_.out (by kernel_rfl)) ?_
       try go_wp2
       go_ret
       exact ⟨by first | rfl | (simp [errW_none, errW_some] <;> rfl) | (simp [*, errW_none, errW_some] <;> rfl), by repeat (first | (with_reducible first | exact HB.out | apply below_alloc | apply pw_below_drewN | apply below_drew1 | refine below_set ?_ GE197.out) | exact HB.out)⟩
     ·
      rw [if_neg c4] at H
      exact absurd H (by simp)
    ·
     rw [if_neg c3] at H
     exact absurd H (by simp)
   ·
    rw [if_neg c2] at H
    have c2b0 : decide (x7_1 < (l0.length : Int)) = false := decide_eq_false c2
    clear c2
    obtain rfl := Option.some.inj H
    go_wp2
    go_ret
    exact ⟨by first | rfl | (simp [errW_none, errW_some] <;> rfl) | (simp [*, errW_none, errW_some] <;> rfl), by repeat (first | (with_reducible first | exact HB.out | apply below_alloc | apply pw_below_drewN | apply below_drew1) | exact HB.out)⟩

end Go.Proofs.Ythmolcmgfhjegaa.PFnExactNegate
