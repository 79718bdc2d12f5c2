/- Functions of the law FnExactNegate: each as a plain Lean function ('.f'), and that the Go code comes to what it answers ('.calls'); put together by programs of this repo (wip/tools) out of the kit's print. No condition. -/
import Derived.Test.YthmolcmgfhjegaaZFnExactNegatex0
import Derived.Test.YthmolcmgfhjegaaZFnExactNegatex2
import Derived.Test.YthmolcmgfhjegaaZFnExactNegatex3
namespace Go.Proofs.Ythmolcmgfhjegaa.PFnExactNegate
open Go.RowKit Go.Proofs.YthmolcmgfhjegaaW.PrintWords Go.Proofs.YthmolcmgfhjegaaW.PrintLast Go.Proofs.YthmolcmgfhjegaaW.PrintMore Go.Proofs.Ythmolcmgfhjegaa.Sq
attribute [local go_sem] max2_int min2_int max_two min_two max_three min_three max_four min_four   -- for this text's walks alone
set_option linter.unusedVariables false
set_option linter.unusedSimpArgs false

/-! ### spec_validZSet: function 53 -/
def spec_validZSet.l0 : Nat → List (S41) → Int → Option (Bool)
 | 0, _, _ => none
 | k + 1, x0, x3 => if x3 < (x0.length : Int) then (if 0 ≤ x3 then ((spec_validRow.f k ((rd_T41 x0 x3).f0)).bind fun t146 => (if t146 = true then (if 0 < (x0.length : Int) then (if (((rd_T41 x0 x3).f0).length : Int) = (((rd_T41 x0 0).f0).length : Int) then (if ((rd_T41 x0 x3).f1) = 0 then (some false) else ((spec_inRange.f ((rd_T41 x0 x3).f1) (-1000000) 1000000).bind fun t151 => (if t151 = true then (if x3 > 0 then (if 0 ≤ (wrap64 (x3 - 1)) then (if (wrap64 (x3 - 1)) < (x0.length : Int) then ((spec_rowLess.f k ((rd_T41 x0 (wrap64 (x3 - 1))).f0) ((rd_T41 x0 x3).f0)).bind fun t154 => (if t154 = true then (spec_validZSet.l0 k x0 (wrap64 (x3 + 1))) else (some false))) else (none)) else (none)) else (spec_validZSet.l0 k x0 (wrap64 (x3 + 1)))) else (some false)))) else (some false)) else (none)) else (some false))) else (none)) else (some (decide ((x0.length : Int) ≤ 400)))
def spec_validZSet.f (k : Nat) (l0 : List (S41)) : Option (Bool) := spec_validZSet.l0 k l0 0
theorem spec_validZSet.mono_l : ∀ k, (∀ y0 y1, LeO (spec_validZSet.l0 k y0 y1) (spec_validZSet.l0 (k + 1) y0 y1))
 | 0 => fun _ _ r h => by simp [spec_validZSet.l0] at h
 | k + 1 => by
  have ih0 := spec_validZSet.mono_l k
  ·
   intro y0 y1
   unfold spec_validZSet.l0
   repeat' first
   | (with_reducible exact ih0 _ _)
   | (with_reducible exact spec_rowLess.mono _ _ _)
   | (with_reducible exact spec_validRow.mono _ _)
   | (with_reducible exact LeO.refl _)
   | (with_reducible exact LeO.none _)
   | (with_reducible refine LeO.ite ?_ ?_)
   | (with_reducible refine LeO.bind ?_ (fun _ => ?_))
   | exact ih0 _ _
   | exact spec_rowLess.mono _ _ _
   | exact spec_validRow.mono _ _
   | exact LeO.none _
   | refine LeO.ite ?_ ?_
   | refine LeO.bind ?_ (fun _ => ?_)
theorem spec_validZSet.mono : ∀ a0 k, LeO (spec_validZSet.f k a0) (spec_validZSet.f (k + 1) a0) := by
 intro a0 k
 have ih0 := spec_validZSet.mono_l k
 unfold spec_validZSet.f
 repeat' first
   | (with_reducible exact ih0 _ _)
   | (with_reducible exact spec_rowLess.mono _ _ _)
   | (with_reducible exact spec_validRow.mono _ _)
   | (with_reducible exact LeO.refl _)
   | (with_reducible exact LeO.none _)
   | (with_reducible refine LeO.ite ?_ ?_)
   | (with_reducible refine LeO.bind ?_ (fun _ => ?_))
   | exact ih0 _ _
   | exact spec_rowLess.mono _ _ _
   | exact spec_validRow.mono _ _
   | exact LeO.none _
   | refine LeO.ite ?_ ?_
   | refine LeO.bind ?_ (fun _ => ?_)
def spec_validZSet.T4 : Bool × List (List Nat × List Nat) := (true, [([], []), ([], []), ([0, 1], [0, 1]), ([2], [2]), ([3], [3]), ([4], [4]), ([5], [5]), ([6, 5], [6]), ([7], [7]), ([7], [7]), ([8, 9, 7], [7, 8, 9]), ([10, 7], [7, 10]), ([11, 7], [7, 11]), ([12, 7], [7, 12]), ([7], [7]), ([14, 7], [7, 14]), ([15, 7], [7, 15]), ([16, 7], [7, 16]), ([17, 7], [7, 17]), ([13, 18, 7], [7, 13, 18]), ([7, 19], [7, 19]), ([20, 7], [20]), ([21], [21]), ([21], [21]), ([22, 23, 21], [21, 22, 23]), ([24, 21], [21, 24]), ([25, 21], [21, 25]), ([26, 21], [21, 26]), ([21, 27], [21, 27]), ([28, 21], [28]), ([29], [29]), ([29], [29]), ([30, 31, 29], [29, 30, 31]), ([32, 29], [29, 32]), ([33, 29], [29, 33]), ([34, 29, 29], [29, 34]), ([35, 29], [29, 35]), ([29, 36], [29, 36]), ([37, 35], [37]), ([38], [38]), ([39, 38], [38, 39]), ([40, 38, 38], [38, 40]), ([41], [41]), ([41], [41]), ([43, 41], [41, 43]), ([42, 44, 41], [41, 42, 44]), ([45, 41], [41, 45]), ([46, 41], [41, 46]), ([41], [41]), ([41], [41]), ([48, 49, 41], [41, 48, 49]), ([50, 41], [41, 50]), ([51, 41], [41, 51]), ([47, 52, 41, 41], [41, 47, 52]), ([53, 41], [41, 53]), ([41, 54, 38], [38, 41, 54]), ([38, 55], [38, 55])])
def spec_validZSet.B4 : List Nat := [0, 0, 3, 7, 15, 31, 63, 127, 255, 255, 1023, 2047, 4095, 8191, 255, 16639, 49407, 114943, 246015, 524287, 1048575, 2097151, 4194303, 4194303, 16777215, 33554431, 67108863, 134217727, 268435455, 536870911, 1073741823, 1073741823, 4294967295, 8589934591, 17179869183, 34359738367, 68719476735, 137438953471, 274877906943, 549755813887, 1099511627775, 2199023255551, 4398046511103, 4398046511103, 13194139533311, 35184372088831, 70368744177663, 140737488355327, 4398046511103, 4398046511103, 848822976643071, 1974722883485695, 4226522697170943, 9007199254740991, 18014398509481983, 36028797018963967, 72057594037927935]
theorem spec_validZSet.tab4 : rtab .any (opsOf Try.f53 4) = spec_validZSet.T4 := by kernel_rfl
theorem spec_validZSet.bits4 : waitsOk spec_validZSet.T4.2 spec_validZSet.B4 = true := by kernel_rfl
set_option maxHeartbeats 8000000 in
set_option maxRecDepth 100000 in
theorem spec_validZSet.calls (k : Nat) (A0 : Option Addr) (c0 : Nat) (l0 : List (S41)) (r : Bool) (w : World) (hr0 : Kd.C k41 w A0 l0.length l0) (hc0 : l0.length ≤ c0) (h : spec_validZSet.f k l0 = some r) :
  Calls Try.prog 53 #[.slice A0 l0.length c0] w fun e w' => e = .returned (.bool r) ∧ Below w.heap.size w w' := by
 have HR0 := Aside0.mk hr0
 have HC0 := Aside0.mk hc0
 clear hr0 hc0
 have HB := Aside0.mk (Below.refl w.heap.size w)
 have H : (spec_validZSet.l0 k l0 0) = some r := h
 clear h
 have H' := Aside0.mk H
 clear H
 go_enter Try.func53, Try.ntmps53
 go_wp2
 go_loopg [3] k (fun kq v3 w' => ∃ (x3_1 : Int), v3 = .int .i64 x3_1 ∧ Aside0 (spec_validZSet.l0 kq l0 x3_1 = some r) ∧ Aside0 (kq ≤ k) ∧ Aside0 (Below w.heap.size w w'))
 case atStart => exact ⟨(0), (by first | rfl | (simp; done) | (simp [*]; done)), H', ⟨Nat.le_refl _⟩, ⟨by repeat (first | (with_reducible first | exact HB.out | apply below_alloc | apply pw_below_drewN | apply below_drew1) | exact HB.out)⟩⟩
 case round =>
  clear H'
  obtain ⟨x3_1, rfl, HA, HK1, HB⟩ := hrel
  cases gk with
  | zero => exact absurd HA.out (by simp [spec_validZSet.l0])
  | succ k1 =>
   have H := HA.out
   clear HA
   simp only [spec_validZSet.l0] at H
   by_cases c2 : x3_1 < (l0.length : Int)
   ·
    rw [if_pos c2] at H
    have c2b0 : decide (x3_1 < (l0.length : Int)) = true := decide_eq_true c2
    clear c2
    by_cases c3 : 0 ≤ x3_1
    ·
     rw [if_pos c3] at H
     have c3b0 : decide (0 ≤ x3_1) = true := decide_eq_true c3
     clear c3
     replace H := Option.bind_eq_some_iff.mp H
     obtain ⟨t146, A40, H⟩ := H
     replace H : (if t146 = true then (if 0 < (l0.length : Int) then (if (((rd_T41 l0 x3_1).f0).length : Int) = (((rd_T41 l0 0).f0).length : Int) then (if ((rd_T41 l0 x3_1).f1) = 0 then (some false) else ((spec_inRange.f ((rd_T41 l0 x3_1).f1) (-1000000) 1000000).bind fun t151 => (if t151 = true then (if x3_1 > 0 then (if 0 ≤ (wrap64 (x3_1 - 1)) then (if (wrap64 (x3_1 - 1)) < (l0.length : Int) then ((spec_rowLess.f k1 ((rd_T41 l0 (wrap64 (x3_1 - 1))).f0) ((rd_T41 l0 x3_1).f0)).bind fun t154 => (if t154 = true then (spec_validZSet.l0 k1 l0 (wrap64 (x3_1 + 1))) else (some false))) else (none)) else (none)) else (spec_validZSet.l0 k1 l0 (wrap64 (x3_1 + 1)))) else (some false)))) else (some false)) else (none)) else (some false)) = some r := H
     have A4 := Aside0.mk A40
     clear A40
     by_cases c5 : t146 = true
     ·
      subst c5
      have H1 : (if 0 < (l0.length : Int) then (if (((rd_T41 l0 x3_1).f0).length : Int) = (((rd_T41 l0 0).f0).length : Int) then (if ((rd_T41 l0 x3_1).f1) = 0 then (some false) else ((spec_inRange.f ((rd_T41 l0 x3_1).f1) (-1000000) 1000000).bind fun t151 => (if t151 = true then (if x3_1 > 0 then (if 0 ≤ (wrap64 (x3_1 - 1)) then (if (wrap64 (x3_1 - 1)) < (l0.length : Int) then ((spec_rowLess.f k1 ((rd_T41 l0 (wrap64 (x3_1 - 1))).f0) ((rd_T41 l0 x3_1).f0)).bind fun t154 => (if t154 = true then (spec_validZSet.l0 k1 l0 (wrap64 (x3_1 + 1))) else (some false))) else (none)) else (none)) else (spec_validZSet.l0 k1 l0 (wrap64 (x3_1 + 1)))) else (some false)))) else (some false)) else (none)) = some r := by rw [if_pos rfl] at H; exact H
      clear H
      have H := H1
      clear H1
      by_cases c6 : 0 < (l0.length : Int)
      ·
       rw [if_pos c6] at H
       have c6b0 : decide (0 < (l0.length : Int)) = true := decide_eq_true c6
       have c6b1 : decide (0 < l0.length) = true := decide_eq_true (by omega)
       clear c6
       by_cases c7 : (((rd_T41 l0 x3_1).f0).length : Int) = (((rd_T41 l0 0).f0).length : Int)
       ·
        rw [if_pos c7] at H
        have c7b0 : ((((rd_T41 l0 x3_1).f0).length : Int) == (((rd_T41 l0 0).f0).length : Int)) = true := beq_iff_eq.mpr c7
        have c7b1 : ((((rd_T41 l0 x3_1).f0).length : Int) != (((rd_T41 l0 0).f0).length : Int)) = false := bne_eq_false_iff_eq.mpr c7
        have c7b2 : (((rd_T41 l0 x3_1).f0).length == ((rd_T41 l0 0).f0).length) = true := by first | simpa using c7 | (simp at c7 ⊢; omega)
        clear c7
        by_cases c8 : ((rd_T41 l0 x3_1).f1) = 0
        ·
         rw [if_pos c8] at H
         have c8b0 : (((rd_T41 l0 x3_1).f1) == 0) = true := beq_iff_eq.mpr c8
         have c8b1 : (((rd_T41 l0 x3_1).f1) != 0) = false := bne_eq_false_iff_eq.mpr c8
         clear c8
         obtain rfl := Option.some.inj H
         try go_wp2
         have n0_ := Aside0.mk (below_drew1 HB.out)
         clear HB
         have HB := n0_
         clear n0_
         have p145 : 0 ≤ (x3_1 : Int) := of_decide_eq_true (by first | (with_reducible assumption) | assumption)
         have q145 : x3_1 < (l0.length : Int) := of_decide_eq_true (by first | (with_reducible assumption) | assumption)
         obtain ⟨ad145, A145_0, c145_0, e145, hx145_0, hx145_1, hl145_0, hi145_0⟩ := at_T41 HR0.out x3_1 p145 q145
         have hw145_1 := hx145_1
         have hw145_0 := hx145_0
         cases e145
         replace hx145_0 := (HB.out.cell (World.block_lt_of_cell? w _ hx145_0)).trans hx145_0
         replace hx145_1 := (HB.out.cell (World.block_lt_of_cell? w _ hx145_1)).trans hx145_1
         have HR145_0 := Aside0.mk hi145_0
         have HC145_0 := Aside0.mk hl145_0
         clear hi145_0 hl145_0
         replace p145 := eq_true p145
         replace q145 := eq_true q145
         have p147 : 0 ≤ (x3_1 : Int) := of_decide_eq_true (by first | (with_reducible assumption) | assumption)
         have q147 : x3_1 < (l0.length : Int) := of_decide_eq_true (by first | (with_reducible assumption) | assumption)
         obtain ⟨ad147, A147_0, c147_0, e147, hx147_0, hx147_1, hl147_0, hi147_0⟩ := at_T41 HR0.out x3_1 p147 q147
         have hw147_1 := hx147_1
         have hw147_0 := hx147_0
         obtain rfl : ad145 = ad147 := (by injection e147)
         replace hx147_0 := (HB.out.cell (World.block_lt_of_cell? w _ hx147_0)).trans hx147_0
         replace hx147_1 := (HB.out.cell (World.block_lt_of_cell? w _ hx147_1)).trans hx147_1
         have HR147_0 := Aside0.mk hi147_0
         have HC147_0 := Aside0.mk hl147_0
         clear hi147_0 hl147_0
         replace p147 := eq_true p147
         replace q147 := eq_true q147
         have ea_ := Option.some.inj (hx145_0.symm.trans hx147_0)
         injection ea_ with ea_ en_ ec_
         subst ea_
         subst ec_
         clear en_
         have p148 : 0 ≤ (0 : Int) := (by omega)
         have q148 : 0 < (l0.length : Int) := of_decide_eq_true (by first | (with_reducible assumption) | assumption)
         obtain ⟨ad148, A148_0, c148_0, e148, hx148_0, hx148_1, hl148_0, hi148_0⟩ := at_T41 HR0.out 0 p148 q148
         have hw148_1 := hx148_1
         (try rw [show ((0 : Int)).toNat = 0 from rfl] at hw148_1)
         (try rw [show 0 * 2 = 0 from rfl] at hw148_1)
         (try rw [Addr.add_zero'] at hw148_1)
         have hw148_0 := hx148_0
         (try rw [show ((0 : Int)).toNat = 0 from rfl] at hw148_0)
         (try rw [show 0 * 2 = 0 from rfl] at hw148_0)
         (try rw [Addr.add_zero'] at hw148_0)
         obtain rfl : ad145 = ad148 := (by injection e148)
         have qi148 : (0 < l0.length) = True := eq_true (by omega)
         (try rw [show ((0 : Int)).toNat = 0 from rfl] at hx148_0)
         (try rw [show 0 * 2 = 0 from rfl] at hx148_0)
         (try rw [Addr.add_zero'] at hx148_0)
         (try rw [show ((0 : Int)).toNat = 0 from rfl] at hx148_1)
         (try rw [show 0 * 2 = 0 from rfl] at hx148_1)
         (try rw [Addr.add_zero'] at hx148_1)
         replace hx148_0 := (HB.out.cell (World.block_lt_of_cell? w _ hx148_0)).trans hx148_0
         replace hx148_1 := (HB.out.cell (World.block_lt_of_cell? w _ hx148_1)).trans hx148_1
         have HR148_0 := Aside0.mk hi148_0
         have HC148_0 := Aside0.mk hl148_0
         clear hi148_0 hl148_0
         replace p148 := eq_true p148
         replace q148 := eq_true q148
         have p149 : 0 ≤ (x3_1 : Int) := of_decide_eq_true (by first | (with_reducible assumption) | assumption)
         have q149 : x3_1 < (l0.length : Int) := of_decide_eq_true (by first | (with_reducible assumption) | assumption)
         obtain ⟨ad149, A149_0, c149_0, e149, hx149_0, hx149_1, hl149_0, hi149_0⟩ := at_T41 HR0.out x3_1 p149 q149
         have hw149_1 := hx149_1
         have hw149_0 := hx149_0
         obtain rfl : ad145 = ad149 := (by injection e149)
         replace hx149_0 := (HB.out.cell (World.block_lt_of_cell? w _ hx149_0)).trans hx149_0
         replace hx149_1 := (HB.out.cell (World.block_lt_of_cell? w _ hx149_1)).trans hx149_1
         have HR149_0 := Aside0.mk hi149_0
         have HC149_0 := Aside0.mk hl149_0
         clear hi149_0 hl149_0
         replace p149 := eq_true p149
         replace q149 := eq_true q149
         have ea_ := Option.some.inj (hx145_0.symm.trans hx149_0)
         injection ea_ with ea_ en_ ec_
         subst ea_
         subst ec_
         clear en_
         refine start_ (n := 57) (S := fun w' => w'.cell? (ad145.add ((x3_1).toNat * 2)) = some (.slice A145_0 ((rd_T41 l0 x3_1).f0).length c145_0) ∧ w'.cell? ⟨(ad145.add ((x3_1).toNat * 2)).block, (ad145.add ((x3_1).toNat * 2)).off + 1, none⟩ = some (.int .i64 ((rd_T41 l0 x3_1).f1)) ∧ w'.cell? (ad145.add ((x3_1).toNat * 2)) = some (.slice A145_0 ((rd_T41 l0 x3_1).f0).length c145_0) ∧ w'.cell? ⟨(ad145.add ((x3_1).toNat * 2)).block, (ad145.add ((x3_1).toNat * 2)).off + 1, none⟩ = some (.int .i64 ((rd_T41 l0 x3_1).f1)) ∧ w'.cell? ad145 = some (.slice A148_0 ((rd_T41 l0 0).f0).length c148_0) ∧ w'.cell? ⟨ad145.block, ad145.off + 1, none⟩ = some (.int .i64 ((rd_T41 l0 0).f1)) ∧ w'.cell? (ad145.add ((x3_1).toNat * 2)) = some (.slice A145_0 ((rd_T41 l0 x3_1).f0).length c145_0) ∧ w'.cell? ⟨(ad145.add ((x3_1).toNat * 2)).block, (ad145.add ((x3_1).toNat * 2)).off + 1, none⟩ = some (.int .i64 ((rd_T41 l0 x3_1).f1))) (ds := []) (Array.replicate 57 false) (by kernel_rfl) rfl rfl ⟨((HB.out.cell (World.block_lt_of_cell? w _ hw145_0)).trans hw145_0), ((HB.out.cell (World.block_lt_of_cell? w _ hw145_1)).trans hw145_1), ((HB.out.cell (World.block_lt_of_cell? w _ hw147_0)).trans hw147_0), ((HB.out.cell (World.block_lt_of_cell? w _ hw147_1)).trans hw147_1), ((HB.out.cell (World.block_lt_of_cell? w _ hw148_0)).trans hw148_0), ((HB.out.cell (World.block_lt_of_cell? w _ hw148_1)).trans hw148_1), ((HB.out.cell (World.block_lt_of_cell? w _ hw149_0)).trans hw149_0), ((HB.out.cell (World.block_lt_of_cell? w _ hw149_1)).trans hw149_1)⟩ (fun hHeld => ?_); refine with_tabW spec_validZSet.tab4 spec_validZSet.bits4 (fun HT_ HW_ => ?_)
         generalize wr.drew = w9 at HB HR145_0 HR147_0 HR148_0 HR149_0 hx145_0 hx145_1 hx147_0 hx147_1 hx148_0 hx148_1 hx149_0 hx149_1 hHeld ⊢
         refine pT HT_ 0 10 (bm 57 1) ?_
         refine pT HT_ 1 11 (bm 57 3) ?_
         refine pT HT_ 2 12 (bm 57 7) ?_
         refine pT HT_ 3 13 (bm 57 15) ?_
         refine tT HT_ HW_ hHeld 4 14 (bm 57 31) ?_
         refine one_ (i := 5) (N := some 15) (bm 57 63) rfl rfl (one_of HT_.out (by kernel_rfl)) (by decide) (fun K hK => ?_)
         refine goes_ Try.func79 (by kernel_rfl) rfl #[.slice A145_0 ((rd_T41 l0 x3_1).f0).length c145_0] (by rfl) rfl rfl (by (try simp only [List.map_toArray, List.map_cons, List.map_nil]); first | done | rfl | (simp only [List.length_drop, List.length_take]; rfl)) ?_
         with_reducible refine (spec_validRow.calls k1 _ _ ((rd_T41 l0 x3_1).f0) true _ ?side1 ?side2 A4.out).mono ?_
         (case side1 => repeat (first | exact (Kd.C_below HR145_0.out HB.out) | (with_reducible refine Kd.C_alloc ?_ _) | (with_reducible refine Kd.C_drewN ?_ _) | (with_reducible refine Kd.C_drew ?_)))
         (case side2 => exact HC145_0.out)
         rintro e w' ⟨rfl, ⟨nd, rfl⟩⟩
         refine ⟨_, rfl, ?_⟩
         refine hK.out _ _ ⟨((HB.out.cell (World.block_lt_of_cell? w _ hw145_0)).trans hw145_0), ((HB.out.cell (World.block_lt_of_cell? w _ hw145_1)).trans hw145_1), ((HB.out.cell (World.block_lt_of_cell? w _ hw147_0)).trans hw147_0), ((HB.out.cell (World.block_lt_of_cell? w _ hw147_1)).trans hw147_1), ((HB.out.cell (World.block_lt_of_cell? w _ hw148_0)).trans hw148_0), ((HB.out.cell (World.block_lt_of_cell? w _ hw148_1)).trans hw148_1), ((HB.out.cell (World.block_lt_of_cell? w _ hw149_0)).trans hw149_0), ((HB.out.cell (World.block_lt_of_cell? w _ hw149_1)).trans hw149_1)⟩ (fun hHeld => ?_)
         clear hK K
         refine nS 15 ?_
         refine pT HT_ 6 16 (bm 57 127) ?_
         refine pT HT_ 7 17 (bm 57 255) ?_
         refine pT HT_ 8 18 (bm 57 511) ?_
         refine pT HT_ 9 19 (bm 57 1023) ?_
         refine pT HT_ 10 20 (bm 57 2047) ?_
         refine pT HT_ 11 21 (bm 57 4095) ?_
         refine pT HT_ 14 24 (bm 57 20479) ?_
         refine pT HT_ 15 25 (bm 57 53247) ?_
         refine pT HT_ 16 26 (bm 57 118783) ?_
         refine tT HT_ HW_ hHeld 12 22 (bm 57 122879) ?_
         refine pT HT_ 13 23 (bm 57 131071) ?_
         refine tT HT_ HW_ hHeld 17 27 (bm 57 262143) ?_
         refine pT HT_ 18 28 (bm 57 524287) ?_
         refine pT HT_ 19 29 (bm 57 1048575) ?_
         refine pT HT_ 20 30 (bm 57 2097151) ?_
         refine pT HT_ 21 31 (bm 57 4194303) ?_
         refine pT HT_ 22 32 (bm 57 8388607) ?_
         refine pT HT_ 23 33 (bm 57 16777215) ?_
         refine pT HT_ 24 34 (bm 57 33554431) ?_
         refine pT HT_ 25 35 (bm 57 67108863) ?_
         refine tT HT_ HW_ hHeld 26 36 (bm 57 134217727) ?_
         refine pT HT_ 27 37 (bm 57 268435455) ?_
         refine pT HT_ 28 38 (bm 57 536870911) ?_
         refine pT HT_ 29 39 (bm 57 1073741823) ?_
         refine pU HT_ 30 40 (bm 57 2147483647) ?_
         refine pU HT_ 31 41 (bm 57 4294967295) ?_
         refine pU HT_ 32 42 (bm 57 8589934591) ?_
         refine pU HT_ 33 43 (bm 57 17179869183) ?_
         refine pU HT_ 34 44 (bm 57 34359738367) ?_
         refine pU HT_ 35 45 (bm 57 68719476735) ?_
         refine pU HT_ 36 46 (bm 57 137438953471) ?_
         refine pT HT_ 37 47 (bm 57 274877906943) ?_
         refine pT HT_ 38 48 (bm 57 549755813887) ?_
         refine pU HT_ 39 49 (bm 57 1099511627775) ?_
         refine pU HT_ 40 50 (bm 57 2199023255551) ?_
         refine pU HT_ 41 51 (bm 57 4398046511103) ?_
         refine pU HT_ 42 52 (bm 57 8796093022207) ?_
         refine pU HT_ 43 53 (bm 57 17592186044415) ?_
         refine pU HT_ 44 54 (bm 57 35184372088831) ?_
         refine pU HT_ 45 55 (bm 57 70368744177663) ?_
         refine pU HT_ 46 56 (bm 57 140737488355327) ?_
         refine pU HT_ 47 57 (bm 57 281474976710655) ?_
         refine pU HT_ 48 58 (bm 57 562949953421311) ?_
         refine pU HT_ 49 59 (bm 57 1125899906842623) ?_
         refine pU HT_ 50 60 (bm 57 2251799813685247) ?_
         refine pU HT_ 51 61 (bm 57 4503599627370495) ?_
         refine pU HT_ 52 62 (bm 57 9007199254740991) ?_
         refine pU HT_ 53 63 (bm 57 18014398509481983) ?_
         refine pU HT_ 54 64 (bm 57 36028797018963967) ?_
         refine pU HT_ 55 65 (bm 57 72057594037927935) ?_
         refine pT HT_ 56 66 (bm 57 144115188075855871) ?_
         refine done_ (done_of HT_.out (by kernel_rfl)) ?_
         try go_wp2
         go_ret
         exact ⟨by first | rfl | (simp [errW_none, errW_some] <;> rfl) | (simp [*, errW_none, errW_some] <;> rfl), by repeat (first | (with_reducible first | exact HB.out | apply below_alloc | apply pw_below_drewN | apply below_drew1) | exact HB.out)⟩
        ·
         rw [if_neg c8] at H
         have c8b0 : (((rd_T41 l0 x3_1).f1) == 0) = false := beq_eq_false_iff_ne.mpr c8
         have c8b1 : (((rd_T41 l0 x3_1).f1) != 0) = true := bne_iff_ne.mpr c8
         replace H := Option.bind_eq_some_iff.mp H
         obtain ⟨t151, A100, H⟩ := H
         replace H : (if t151 = true then (if x3_1 > 0 then (if 0 ≤ (wrap64 (x3_1 - 1)) then (if (wrap64 (x3_1 - 1)) < (l0.length : Int) then ((spec_rowLess.f k1 ((rd_T41 l0 (wrap64 (x3_1 - 1))).f0) ((rd_T41 l0 x3_1).f0)).bind fun t154 => (if t154 = true then (spec_validZSet.l0 k1 l0 (wrap64 (x3_1 + 1))) else (some false))) else (none)) else (none)) else (spec_validZSet.l0 k1 l0 (wrap64 (x3_1 + 1)))) else (some false)) = some r := H
         have A10 := Aside0.mk A100
         clear A100
         by_cases c11 : t151 = true
         ·
          subst c11
          have H1 : (if x3_1 > 0 then (if 0 ≤ (wrap64 (x3_1 - 1)) then (if (wrap64 (x3_1 - 1)) < (l0.length : Int) then ((spec_rowLess.f k1 ((rd_T41 l0 (wrap64 (x3_1 - 1))).f0) ((rd_T41 l0 x3_1).f0)).bind fun t154 => (if t154 = true then (spec_validZSet.l0 k1 l0 (wrap64 (x3_1 + 1))) else (some false))) else (none)) else (none)) else (spec_validZSet.l0 k1 l0 (wrap64 (x3_1 + 1)))) = some r := by rw [if_pos rfl] at H; exact H
          clear H
          have H := H1
          clear H1
          by_cases c12 : x3_1 > 0
          ·
           rw [if_pos c12] at H
           have c12b0 : decide (0 < x3_1) = true := decide_eq_true c12
           clear c12
           obtain ⟨ji13, hji13⟩ : ∃ j_ : Int, (wrap64 (x3_1 - 1)) = j_ := ⟨_, rfl⟩
           replace H : (if 0 ≤ (ji13) then (if (ji13) < (l0.length : Int) then ((spec_rowLess.f k1 ((rd_T41 l0 (ji13)).f0) ((rd_T41 l0 x3_1).f0)).bind fun t154 => (if t154 = true then (spec_validZSet.l0 k1 l0 (wrap64 (x3_1 + 1))) else (some false))) else (none)) else (none)) = some r := by first | (rw [hji13] at H; exact H) | (simp only [hji13] at H ⊢; exact H)
           (try rw [hji13] at A4)
           (try rw [hji13] at A10)
           have hji13w : (IntKind.i64.wrap (x3_1 - 1)) = ji13 := (i64_w _).trans hji13
           by_cases c14 : 0 ≤ (ji13)
           ·
            rw [if_pos c14] at H
            have c14b0 : decide (0 ≤ (ji13)) = true := decide_eq_true c14
            clear c14
            by_cases c15 : (ji13) < (l0.length : Int)
            ·
             rw [if_pos c15] at H
             have c15b0 : decide ((ji13) < (l0.length : Int)) = true := decide_eq_true c15
             clear c15
             replace H := Option.bind_eq_some_iff.mp H
             obtain ⟨t154, A160, H⟩ := H
             replace H : (if t154 = true then (spec_validZSet.l0 k1 l0 (wrap64 (x3_1 + 1))) else (some false)) = some r := H
             have A16 := Aside0.mk A160
             clear A160
             by_cases c17 : t154 = true
             ·
              subst c17
              have H1 : (spec_validZSet.l0 k1 l0 (wrap64 (x3_1 + 1))) = some r := by rw [if_pos rfl] at H; exact H
              clear H
              have H := H1
              clear H1
              have H' := Aside0.mk H
              clear H
              try go_wp2
              have n0_ := Aside0.mk (below_drew1 HB.out)
              clear HB
              have HB := n0_
              clear n0_
              have p145 : 0 ≤ (x3_1 : Int) := of_decide_eq_true (by first | (with_reducible assumption) | assumption)
              have q145 : x3_1 < (l0.length : Int) := of_decide_eq_true (by first | (with_reducible assumption) | assumption)
              obtain ⟨ad145, A145_0, c145_0, e145, hx145_0, hx145_1, hl145_0, hi145_0⟩ := at_T41 HR0.out x3_1 p145 q145
              have hw145_1 := hx145_1
              have hw145_0 := hx145_0
              cases e145
              replace hx145_0 := (HB.out.cell (World.block_lt_of_cell? w _ hx145_0)).trans hx145_0
              replace hx145_1 := (HB.out.cell (World.block_lt_of_cell? w _ hx145_1)).trans hx145_1
              have HR145_0 := Aside0.mk hi145_0
              have HC145_0 := Aside0.mk hl145_0
              clear hi145_0 hl145_0
              replace p145 := eq_true p145
              replace q145 := eq_true q145
              have p147 : 0 ≤ (x3_1 : Int) := of_decide_eq_true (by first | (with_reducible assumption) | assumption)
              have q147 : x3_1 < (l0.length : Int) := of_decide_eq_true (by first | (with_reducible assumption) | assumption)
              obtain ⟨ad147, A147_0, c147_0, e147, hx147_0, hx147_1, hl147_0, hi147_0⟩ := at_T41 HR0.out x3_1 p147 q147
              have hw147_1 := hx147_1
              have hw147_0 := hx147_0
              obtain rfl : ad145 = ad147 := (by injection e147)
              replace hx147_0 := (HB.out.cell (World.block_lt_of_cell? w _ hx147_0)).trans hx147_0
              replace hx147_1 := (HB.out.cell (World.block_lt_of_cell? w _ hx147_1)).trans hx147_1
              have HR147_0 := Aside0.mk hi147_0
              have HC147_0 := Aside0.mk hl147_0
              clear hi147_0 hl147_0
              replace p147 := eq_true p147
              replace q147 := eq_true q147
              have ea_ := Option.some.inj (hx145_0.symm.trans hx147_0)
              injection ea_ with ea_ en_ ec_
              subst ea_
              subst ec_
              clear en_
              have p148 : 0 ≤ (0 : Int) := (by omega)
              have q148 : 0 < (l0.length : Int) := of_decide_eq_true (by first | (with_reducible assumption) | assumption)
              obtain ⟨ad148, A148_0, c148_0, e148, hx148_0, hx148_1, hl148_0, hi148_0⟩ := at_T41 HR0.out 0 p148 q148
              have hw148_1 := hx148_1
              (try rw [show ((0 : Int)).toNat = 0 from rfl] at hw148_1)
              (try rw [show 0 * 2 = 0 from rfl] at hw148_1)
              (try rw [Addr.add_zero'] at hw148_1)
              have hw148_0 := hx148_0
              (try rw [show ((0 : Int)).toNat = 0 from rfl] at hw148_0)
              (try rw [show 0 * 2 = 0 from rfl] at hw148_0)
              (try rw [Addr.add_zero'] at hw148_0)
              obtain rfl : ad145 = ad148 := (by injection e148)
              have qi148 : (0 < l0.length) = True := eq_true (by omega)
              (try rw [show ((0 : Int)).toNat = 0 from rfl] at hx148_0)
              (try rw [show 0 * 2 = 0 from rfl] at hx148_0)
              (try rw [Addr.add_zero'] at hx148_0)
              (try rw [show ((0 : Int)).toNat = 0 from rfl] at hx148_1)
              (try rw [show 0 * 2 = 0 from rfl] at hx148_1)
              (try rw [Addr.add_zero'] at hx148_1)
              replace hx148_0 := (HB.out.cell (World.block_lt_of_cell? w _ hx148_0)).trans hx148_0
              replace hx148_1 := (HB.out.cell (World.block_lt_of_cell? w _ hx148_1)).trans hx148_1
              have HR148_0 := Aside0.mk hi148_0
              have HC148_0 := Aside0.mk hl148_0
              clear hi148_0 hl148_0
              replace p148 := eq_true p148
              replace q148 := eq_true q148
              have p149 : 0 ≤ (x3_1 : Int) := of_decide_eq_true (by first | (with_reducible assumption) | assumption)
              have q149 : x3_1 < (l0.length : Int) := of_decide_eq_true (by first | (with_reducible assumption) | assumption)
              obtain ⟨ad149, A149_0, c149_0, e149, hx149_0, hx149_1, hl149_0, hi149_0⟩ := at_T41 HR0.out x3_1 p149 q149
              have hw149_1 := hx149_1
              have hw149_0 := hx149_0
              obtain rfl : ad145 = ad149 := (by injection e149)
              replace hx149_0 := (HB.out.cell (World.block_lt_of_cell? w _ hx149_0)).trans hx149_0
              replace hx149_1 := (HB.out.cell (World.block_lt_of_cell? w _ hx149_1)).trans hx149_1
              have HR149_0 := Aside0.mk hi149_0
              have HC149_0 := Aside0.mk hl149_0
              clear hi149_0 hl149_0
              replace p149 := eq_true p149
              replace q149 := eq_true q149
              have ea_ := Option.some.inj (hx145_0.symm.trans hx149_0)
              injection ea_ with ea_ en_ ec_
              subst ea_
              subst ec_
              clear en_
              have p150 : 0 ≤ (x3_1 : Int) := of_decide_eq_true (by first | (with_reducible assumption) | assumption)
              have q150 : x3_1 < (l0.length : Int) := of_decide_eq_true (by first | (with_reducible assumption) | assumption)
              obtain ⟨ad150, A150_0, c150_0, e150, hx150_0, hx150_1, hl150_0, hi150_0⟩ := at_T41 HR0.out x3_1 p150 q150
              have hw150_1 := hx150_1
              have hw150_0 := hx150_0
              obtain rfl : ad145 = ad150 := (by injection e150)
              replace hx150_0 := (HB.out.cell (World.block_lt_of_cell? w _ hx150_0)).trans hx150_0
              replace hx150_1 := (HB.out.cell (World.block_lt_of_cell? w _ hx150_1)).trans hx150_1
              have HR150_0 := Aside0.mk hi150_0
              have HC150_0 := Aside0.mk hl150_0
              clear hi150_0 hl150_0
              replace p150 := eq_true p150
              replace q150 := eq_true q150
              have ea_ := Option.some.inj (hx145_0.symm.trans hx150_0)
              injection ea_ with ea_ en_ ec_
              subst ea_
              subst ec_
              clear en_
              have p152 : 0 ≤ ((ji13) : Int) := of_decide_eq_true (by first | (with_reducible assumption) | assumption)
              have q152 : (ji13) < (l0.length : Int) := of_decide_eq_true (by first | (with_reducible assumption) | assumption)
              obtain ⟨ad152, A152_0, c152_0, e152, hx152_0, hx152_1, hl152_0, hi152_0⟩ := at_T41 HR0.out (ji13) p152 q152
              have hw152_1 := hx152_1
              have hw152_0 := hx152_0
              obtain rfl : ad145 = ad152 := (by injection e152)
              replace hx152_0 := (HB.out.cell (World.block_lt_of_cell? w _ hx152_0)).trans hx152_0
              replace hx152_1 := (HB.out.cell (World.block_lt_of_cell? w _ hx152_1)).trans hx152_1
              have HR152_0 := Aside0.mk hi152_0
              have HC152_0 := Aside0.mk hl152_0
              clear hi152_0 hl152_0
              replace p152 := eq_true p152
              replace q152 := eq_true q152
              have p153 : 0 ≤ (x3_1 : Int) := of_decide_eq_true (by first | (with_reducible assumption) | assumption)
              have q153 : x3_1 < (l0.length : Int) := of_decide_eq_true (by first | (with_reducible assumption) | assumption)
              obtain ⟨ad153, A153_0, c153_0, e153, hx153_0, hx153_1, hl153_0, hi153_0⟩ := at_T41 HR0.out x3_1 p153 q153
              have hw153_1 := hx153_1
              have hw153_0 := hx153_0
              obtain rfl : ad145 = ad153 := (by injection e153)
              replace hx153_0 := (HB.out.cell (World.block_lt_of_cell? w _ hx153_0)).trans hx153_0
              replace hx153_1 := (HB.out.cell (World.block_lt_of_cell? w _ hx153_1)).trans hx153_1
              have HR153_0 := Aside0.mk hi153_0
              have HC153_0 := Aside0.mk hl153_0
              clear hi153_0 hl153_0
              replace p153 := eq_true p153
              replace q153 := eq_true q153
              have ea_ := Option.some.inj (hx145_0.symm.trans hx153_0)
              injection ea_ with ea_ en_ ec_
              subst ea_
              subst ec_
              clear en_
              refine start_ (n := 57) (S := fun w' => w'.cell? (ad145.add ((x3_1).toNat * 2)) = some (.slice A145_0 ((rd_T41 l0 x3_1).f0).length c145_0) ∧ w'.cell? ⟨(ad145.add ((x3_1).toNat * 2)).block, (ad145.add ((x3_1).toNat * 2)).off + 1, none⟩ = some (.int .i64 ((rd_T41 l0 x3_1).f1)) ∧ w'.cell? (ad145.add ((x3_1).toNat * 2)) = some (.slice A145_0 ((rd_T41 l0 x3_1).f0).length c145_0) ∧ w'.cell? ⟨(ad145.add ((x3_1).toNat * 2)).block, (ad145.add ((x3_1).toNat * 2)).off + 1, none⟩ = some (.int .i64 ((rd_T41 l0 x3_1).f1)) ∧ w'.cell? ad145 = some (.slice A148_0 ((rd_T41 l0 0).f0).length c148_0) ∧ w'.cell? ⟨ad145.block, ad145.off + 1, none⟩ = some (.int .i64 ((rd_T41 l0 0).f1)) ∧ w'.cell? (ad145.add ((x3_1).toNat * 2)) = some (.slice A145_0 ((rd_T41 l0 x3_1).f0).length c145_0) ∧ w'.cell? ⟨(ad145.add ((x3_1).toNat * 2)).block, (ad145.add ((x3_1).toNat * 2)).off + 1, none⟩ = some (.int .i64 ((rd_T41 l0 x3_1).f1)) ∧ w'.cell? (ad145.add ((x3_1).toNat * 2)) = some (.slice A145_0 ((rd_T41 l0 x3_1).f0).length c145_0) ∧ w'.cell? ⟨(ad145.add ((x3_1).toNat * 2)).block, (ad145.add ((x3_1).toNat * 2)).off + 1, none⟩ = some (.int .i64 ((rd_T41 l0 x3_1).f1)) ∧ w'.cell? (ad145.add (((ji13)).toNat * 2)) = some (.slice A152_0 ((rd_T41 l0 (ji13)).f0).length c152_0) ∧ w'.cell? ⟨(ad145.add (((ji13)).toNat * 2)).block, (ad145.add (((ji13)).toNat * 2)).off + 1, none⟩ = some (.int .i64 ((rd_T41 l0 (ji13)).f1)) ∧ w'.cell? (ad145.add ((x3_1).toNat * 2)) = some (.slice A145_0 ((rd_T41 l0 x3_1).f0).length c145_0) ∧ w'.cell? ⟨(ad145.add ((x3_1).toNat * 2)).block, (ad145.add ((x3_1).toNat * 2)).off + 1, none⟩ = some (.int .i64 ((rd_T41 l0 x3_1).f1))) (ds := []) (Array.replicate 57 false) (by kernel_rfl) rfl rfl ⟨((HB.out.cell (World.block_lt_of_cell? w _ hw145_0)).trans hw145_0), ((HB.out.cell (World.block_lt_of_cell? w _ hw145_1)).trans hw145_1), ((HB.out.cell (World.block_lt_of_cell? w _ hw147_0)).trans hw147_0), ((HB.out.cell (World.block_lt_of_cell? w _ hw147_1)).trans hw147_1), ((HB.out.cell (World.block_lt_of_cell? w _ hw148_0)).trans hw148_0), ((HB.out.cell (World.block_lt_of_cell? w _ hw148_1)).trans hw148_1), ((HB.out.cell (World.block_lt_of_cell? w _ hw149_0)).trans hw149_0), ((HB.out.cell (World.block_lt_of_cell? w _ hw149_1)).trans hw149_1), ((HB.out.cell (World.block_lt_of_cell? w _ hw150_0)).trans hw150_0), ((HB.out.cell (World.block_lt_of_cell? w _ hw150_1)).trans hw150_1), ((HB.out.cell (World.block_lt_of_cell? w _ hw152_0)).trans hw152_0), ((HB.out.cell (World.block_lt_of_cell? w _ hw152_1)).trans hw152_1), ((HB.out.cell (World.block_lt_of_cell? w _ hw153_0)).trans hw153_0), ((HB.out.cell (World.block_lt_of_cell? w _ hw153_1)).trans hw153_1)⟩ (fun hHeld => ?_); refine with_tabW spec_validZSet.tab4 spec_validZSet.bits4 (fun HT_ HW_ => ?_)
              generalize wr.drew = w18 at HB HR145_0 HR147_0 HR148_0 HR149_0 HR150_0 HR152_0 HR153_0 hx145_0 hx145_1 hx147_0 hx147_1 hx148_0 hx148_1 hx149_0 hx149_1 hx150_0 hx150_1 hx152_0 hx152_1 hx153_0 hx153_1 hHeld ⊢
              refine pT HT_ 0 10 (bm 57 1) ?_
              refine pT HT_ 1 11 (bm 57 3) ?_
              refine pT HT_ 2 12 (bm 57 7) ?_
              refine pT HT_ 3 13 (bm 57 15) ?_
              refine tT HT_ HW_ hHeld 4 14 (bm 57 31) ?_
              refine one_ (i := 5) (N := some 15) (bm 57 63) rfl rfl (one_of HT_.out (by kernel_rfl)) (by decide) (fun K hK => ?_)
              refine goes_ Try.func79 (by kernel_rfl) rfl #[.slice A145_0 ((rd_T41 l0 x3_1).f0).length c145_0] (by rfl) rfl rfl (by (try simp only [List.map_toArray, List.map_cons, List.map_nil]); first | done | rfl | (simp only [List.length_drop, List.length_take]; rfl)) ?_
              with_reducible refine (spec_validRow.calls k1 _ _ ((rd_T41 l0 x3_1).f0) true _ ?side1 ?side2 A4.out).mono ?_
              (case side1 => repeat (first | exact (Kd.C_below HR145_0.out HB.out) | (with_reducible refine Kd.C_alloc ?_ _) | (with_reducible refine Kd.C_drewN ?_ _) | (with_reducible refine Kd.C_drew ?_)))
              (case side2 => exact HC145_0.out)
              rintro e w' ⟨rfl, ⟨nd, rfl⟩⟩
              refine ⟨_, rfl, ?_⟩
              refine hK.out _ _ ⟨((HB.out.cell (World.block_lt_of_cell? w _ hw145_0)).trans hw145_0), ((HB.out.cell (World.block_lt_of_cell? w _ hw145_1)).trans hw145_1), ((HB.out.cell (World.block_lt_of_cell? w _ hw147_0)).trans hw147_0), ((HB.out.cell (World.block_lt_of_cell? w _ hw147_1)).trans hw147_1), ((HB.out.cell (World.block_lt_of_cell? w _ hw148_0)).trans hw148_0), ((HB.out.cell (World.block_lt_of_cell? w _ hw148_1)).trans hw148_1), ((HB.out.cell (World.block_lt_of_cell? w _ hw149_0)).trans hw149_0), ((HB.out.cell (World.block_lt_of_cell? w _ hw149_1)).trans hw149_1), ((HB.out.cell (World.block_lt_of_cell? w _ hw150_0)).trans hw150_0), ((HB.out.cell (World.block_lt_of_cell? w _ hw150_1)).trans hw150_1), ((HB.out.cell (World.block_lt_of_cell? w _ hw152_0)).trans hw152_0), ((HB.out.cell (World.block_lt_of_cell? w _ hw152_1)).trans hw152_1), ((HB.out.cell (World.block_lt_of_cell? w _ hw153_0)).trans hw153_0), ((HB.out.cell (World.block_lt_of_cell? w _ hw153_1)).trans hw153_1)⟩ (fun hHeld => ?_)
              clear hK K
              refine nS 15 ?_
              refine pT HT_ 6 16 (bm 57 127) ?_
              refine pT HT_ 7 17 (bm 57 255) ?_
              refine pT HT_ 8 18 (bm 57 511) ?_
              refine pT HT_ 9 19 (bm 57 1023) ?_
              refine pT HT_ 10 20 (bm 57 2047) ?_
              refine pT HT_ 11 21 (bm 57 4095) ?_
              refine pT HT_ 14 24 (bm 57 20479) ?_
              refine pT HT_ 15 25 (bm 57 53247) ?_
              refine pT HT_ 16 26 (bm 57 118783) ?_
              refine tT HT_ HW_ hHeld 12 22 (bm 57 122879) ?_
              refine pT HT_ 13 23 (bm 57 131071) ?_
              refine tT HT_ HW_ hHeld 17 27 (bm 57 262143) ?_
              refine pT HT_ 18 28 (bm 57 524287) ?_
              refine pT HT_ 19 29 (bm 57 1048575) ?_
              refine pT HT_ 20 30 (bm 57 2097151) ?_
              refine pT HT_ 21 31 (bm 57 4194303) ?_
              refine pT HT_ 22 32 (bm 57 8388607) ?_
              refine pT HT_ 23 33 (bm 57 16777215) ?_
              refine pT HT_ 24 34 (bm 57 33554431) ?_
              refine pT HT_ 25 35 (bm 57 67108863) ?_
              refine tT HT_ HW_ hHeld 26 36 (bm 57 134217727) ?_
              refine pT HT_ 27 37 (bm 57 268435455) ?_
              refine pT HT_ 28 38 (bm 57 536870911) ?_
              refine pT HT_ 29 39 (bm 57 1073741823) ?_
              refine pT HT_ 30 40 (bm 57 2147483647) ?_
              refine pT HT_ 31 41 (bm 57 4294967295) ?_
              refine pT HT_ 32 42 (bm 57 8589934591) ?_
              refine pT HT_ 33 43 (bm 57 17179869183) ?_
              refine tT HT_ HW_ hHeld 34 44 (bm 57 34359738367) ?_
              refine one_ (i := 35) (N := some 45) (bm 57 68719476735) rfl rfl (one_of HT_.out (by kernel_rfl)) (by decide) (fun K hK => ?_)
              refine goes_ Try.func80 (by kernel_rfl) rfl #[.int .i64 ((rd_T41 l0 x3_1).f1), .int .i64 (-1000000), .int .i64 1000000] (by rfl) rfl rfl (by (try simp only [List.map_toArray, List.map_cons, List.map_nil]); first | done | rfl | (simp only [List.length_drop, List.length_take]; rfl)) ?_
              with_reducible refine (spec_inRange.calls ((rd_T41 l0 x3_1).f1) (-1000000) 1000000 true _ A10.out).mono ?_
              rintro e w' ⟨rfl, ⟨nd, rfl⟩⟩
              refine ⟨_, rfl, ?_⟩
              refine hK.out _ _ ⟨((HB.out.cell (World.block_lt_of_cell? w _ hw145_0)).trans hw145_0), ((HB.out.cell (World.block_lt_of_cell? w _ hw145_1)).trans hw145_1), ((HB.out.cell (World.block_lt_of_cell? w _ hw147_0)).trans hw147_0), ((HB.out.cell (World.block_lt_of_cell? w _ hw147_1)).trans hw147_1), ((HB.out.cell (World.block_lt_of_cell? w _ hw148_0)).trans hw148_0), ((HB.out.cell (World.block_lt_of_cell? w _ hw148_1)).trans hw148_1), ((HB.out.cell (World.block_lt_of_cell? w _ hw149_0)).trans hw149_0), ((HB.out.cell (World.block_lt_of_cell? w _ hw149_1)).trans hw149_1), ((HB.out.cell (World.block_lt_of_cell? w _ hw150_0)).trans hw150_0), ((HB.out.cell (World.block_lt_of_cell? w _ hw150_1)).trans hw150_1), ((HB.out.cell (World.block_lt_of_cell? w _ hw152_0)).trans hw152_0), ((HB.out.cell (World.block_lt_of_cell? w _ hw152_1)).trans hw152_1), ((HB.out.cell (World.block_lt_of_cell? w _ hw153_0)).trans hw153_0), ((HB.out.cell (World.block_lt_of_cell? w _ hw153_1)).trans hw153_1)⟩ (fun hHeld => ?_)
              clear hK K
              refine nS 45 ?_
              refine pT HT_ 36 46 (bm 57 137438953471) ?_
              refine pT HT_ 37 47 (bm 57 274877906943) ?_
              refine pT HT_ 38 48 (bm 57 549755813887) ?_
              refine pT HT_ 39 49 (bm 57 1099511627775) ?_
              refine pT HT_ 40 50 (bm 57 2199023255551) ?_
              refine pT HT_ 41 51 (bm 57 4398046511103) ?_
              refine pT HT_ 42 52 (bm 57 8796093022207) ?_
              refine pT HT_ 43 53 (bm 57 17592186044415) ?_
              refine pT HT_ 44 54 (bm 57 35184372088831) ?_
              refine pT HT_ 45 55 (bm 57 70368744177663) ?_
              refine pT HT_ 46 56 (bm 57 140737488355327) ?_
              refine pT HT_ 48 58 (bm 57 422212465065983) ?_
              refine pT HT_ 49 59 (bm 57 985162418487295) ?_
              refine pT HT_ 50 60 (bm 57 2111062325329919) ?_
              refine pT HT_ 51 61 (bm 57 4362862139015167) ?_
              refine tT HT_ HW_ hHeld 47 57 (bm 57 4503599627370495) ?_
              refine tT HT_ HW_ hHeld 52 62 (bm 57 9007199254740991) ?_
              refine one_ (i := 53) (N := some 63) (bm 57 18014398509481983) rfl rfl (one_of HT_.out (by kernel_rfl)) (by decide) (fun K hK => ?_)
              refine goes_ Try.func87 (by kernel_rfl) rfl #[.slice A152_0 ((rd_T41 l0 (ji13)).f0).length c152_0, .slice A145_0 ((rd_T41 l0 x3_1).f0).length c145_0] (by rfl) rfl rfl (by (try simp only [List.map_toArray, List.map_cons, List.map_nil]); first | done | (simp only [hji13]; rfl) | rfl | (simp only [List.length_drop, List.length_take]; rfl)) ?_
              with_reducible refine (spec_rowLess.calls k1 _ _ ((rd_T41 l0 (ji13)).f0) _ _ ((rd_T41 l0 x3_1).f0) true _ ?side1 ?side2 ?side3 ?side4 A16.out).mono ?_
              (case side1 => repeat (first | exact (Kd.C_below HR152_0.out (by repeat (first | (with_reducible first | exact HB.out | apply below_alloc | apply pw_below_drewN | apply below_drew1) | exact HB.out))) | (with_reducible refine Kd.C_alloc ?_ _) | (with_reducible refine Kd.C_drewN ?_ _) | (with_reducible refine Kd.C_drew ?_)))
              (case side2 => exact HC152_0.out)
              (case side3 => repeat (first | exact (Kd.C_below HR153_0.out (by repeat (first | (with_reducible first | exact HB.out | apply below_alloc | apply pw_below_drewN | apply below_drew1) | exact HB.out))) | (with_reducible refine Kd.C_alloc ?_ _) | (with_reducible refine Kd.C_drewN ?_ _) | (with_reducible refine Kd.C_drew ?_)))
              (case side4 => exact HC153_0.out)
              rintro e w' ⟨rfl, ⟨nd, rfl⟩⟩
              refine ⟨_, rfl, ?_⟩
              refine hK.out _ _ ⟨((HB.out.cell (World.block_lt_of_cell? w _ hw145_0)).trans hw145_0), ((HB.out.cell (World.block_lt_of_cell? w _ hw145_1)).trans hw145_1), ((HB.out.cell (World.block_lt_of_cell? w _ hw147_0)).trans hw147_0), ((HB.out.cell (World.block_lt_of_cell? w _ hw147_1)).trans hw147_1), ((HB.out.cell (World.block_lt_of_cell? w _ hw148_0)).trans hw148_0), ((HB.out.cell (World.block_lt_of_cell? w _ hw148_1)).trans hw148_1), ((HB.out.cell (World.block_lt_of_cell? w _ hw149_0)).trans hw149_0), ((HB.out.cell (World.block_lt_of_cell? w _ hw149_1)).trans hw149_1), ((HB.out.cell (World.block_lt_of_cell? w _ hw150_0)).trans hw150_0), ((HB.out.cell (World.block_lt_of_cell? w _ hw150_1)).trans hw150_1), ((HB.out.cell (World.block_lt_of_cell? w _ hw152_0)).trans hw152_0), ((HB.out.cell (World.block_lt_of_cell? w _ hw152_1)).trans hw152_1), ((HB.out.cell (World.block_lt_of_cell? w _ hw153_0)).trans hw153_0), ((HB.out.cell (World.block_lt_of_cell? w _ hw153_1)).trans hw153_1)⟩ (fun hHeld => ?_)
              clear hK K
              refine nS 63 ?_
              refine pT HT_ 54 64 (bm 57 36028797018963967) ?_
              refine pT HT_ 55 65 (bm 57 72057594037927935) ?_
              refine pT HT_ 56 66 (bm 57 144115188075855871) ?_
              refine done_ (done_of HT_.out (by kernel_rfl)) ?_
              try go_wp2
              go_roundg k1
              case measure => have := HK1.out; omega
              case rel => exact ⟨(wrap64 (x3_1 + 1)), (by first | rfl | (simp; done) | (simp [*]; done)), H', ⟨by have := HK1.out; omega⟩, ⟨by repeat (first | (with_reducible first | exact HB.out | apply below_alloc | apply pw_below_drewN | apply below_drew1) | exact HB.out)⟩⟩
             ·
              replace c17 := Bool.eq_false_iff.mpr c17
              subst c17
              have H1 : (some false) = some r := by rw [if_neg (show ¬ (false = true) by decide)] at H; exact H
              clear H
              have H := H1
              clear H1
              obtain rfl := Option.some.inj H
              try go_wp2
              have n0_ := Aside0.mk (below_drew1 HB.out)
              clear HB
              have HB := n0_
              clear n0_
              have p145 : 0 ≤ (x3_1 : Int) := of_decide_eq_true (by first | (with_reducible assumption) | assumption)
              have q145 : x3_1 < (l0.length : Int) := of_decide_eq_true (by first | (with_reducible assumption) | assumption)
              obtain ⟨ad145, A145_0, c145_0, e145, hx145_0, hx145_1, hl145_0, hi145_0⟩ := at_T41 HR0.out x3_1 p145 q145
              have hw145_1 := hx145_1
              have hw145_0 := hx145_0
              cases e145
              replace hx145_0 := (HB.out.cell (World.block_lt_of_cell? w _ hx145_0)).trans hx145_0
              replace hx145_1 := (HB.out.cell (World.block_lt_of_cell? w _ hx145_1)).trans hx145_1
              have HR145_0 := Aside0.mk hi145_0
              have HC145_0 := Aside0.mk hl145_0
              clear hi145_0 hl145_0
              replace p145 := eq_true p145
              replace q145 := eq_true q145
              have p147 : 0 ≤ (x3_1 : Int) := of_decide_eq_true (by first | (with_reducible assumption) | assumption)
              have q147 : x3_1 < (l0.length : Int) := of_decide_eq_true (by first | (with_reducible assumption) | assumption)
              obtain ⟨ad147, A147_0, c147_0, e147, hx147_0, hx147_1, hl147_0, hi147_0⟩ := at_T41 HR0.out x3_1 p147 q147
              have hw147_1 := hx147_1
              have hw147_0 := hx147_0
              obtain rfl : ad145 = ad147 := (by injection e147)
              replace hx147_0 := (HB.out.cell (World.block_lt_of_cell? w _ hx147_0)).trans hx147_0
              replace hx147_1 := (HB.out.cell (World.block_lt_of_cell? w _ hx147_1)).trans hx147_1
              have HR147_0 := Aside0.mk hi147_0
              have HC147_0 := Aside0.mk hl147_0
              clear hi147_0 hl147_0
              replace p147 := eq_true p147
              replace q147 := eq_true q147
              have ea_ := Option.some.inj (hx145_0.symm.trans hx147_0)
              injection ea_ with ea_ en_ ec_
              subst ea_
              subst ec_
              clear en_
              have p148 : 0 ≤ (0 : Int) := (by omega)
              have q148 : 0 < (l0.length : Int) := of_decide_eq_true (by first | (with_reducible assumption) | assumption)
              obtain ⟨ad148, A148_0, c148_0, e148, hx148_0, hx148_1, hl148_0, hi148_0⟩ := at_T41 HR0.out 0 p148 q148
              have hw148_1 := hx148_1
              (try rw [show ((0 : Int)).toNat = 0 from rfl] at hw148_1)
              (try rw [show 0 * 2 = 0 from rfl] at hw148_1)
              (try rw [Addr.add_zero'] at hw148_1)
              have hw148_0 := hx148_0
              (try rw [show ((0 : Int)).toNat = 0 from rfl] at hw148_0)
              (try rw [show 0 * 2 = 0 from rfl] at hw148_0)
              (try rw [Addr.add_zero'] at hw148_0)
              obtain rfl : ad145 = ad148 := (by injection e148)
              have qi148 : (0 < l0.length) = True := eq_true (by omega)
              (try rw [show ((0 : Int)).toNat = 0 from rfl] at hx148_0)
              (try rw [show 0 * 2 = 0 from rfl] at hx148_0)
              (try rw [Addr.add_zero'] at hx148_0)
              (try rw [show ((0 : Int)).toNat = 0 from rfl] at hx148_1)
              (try rw [show 0 * 2 = 0 from rfl] at hx148_1)
              (try rw [Addr.add_zero'] at hx148_1)
              replace hx148_0 := (HB.out.cell (World.block_lt_of_cell? w _ hx148_0)).trans hx148_0
              replace hx148_1 := (HB.out.cell (World.block_lt_of_cell? w _ hx148_1)).trans hx148_1
              have HR148_0 := Aside0.mk hi148_0
              have HC148_0 := Aside0.mk hl148_0
              clear hi148_0 hl148_0
              replace p148 := eq_true p148
              replace q148 := eq_true q148
              have p149 : 0 ≤ (x3_1 : Int) := of_decide_eq_true (by first | (with_reducible assumption) | assumption)
              have q149 : x3_1 < (l0.length : Int) := of_decide_eq_true (by first | (with_reducible assumption) | assumption)
              obtain ⟨ad149, A149_0, c149_0, e149, hx149_0, hx149_1, hl149_0, hi149_0⟩ := at_T41 HR0.out x3_1 p149 q149
              have hw149_1 := hx149_1
              have hw149_0 := hx149_0
              obtain rfl : ad145 = ad149 := (by injection e149)
              replace hx149_0 := (HB.out.cell (World.block_lt_of_cell? w _ hx149_0)).trans hx149_0
              replace hx149_1 := (HB.out.cell (World.block_lt_of_cell? w _ hx149_1)).trans hx149_1
              have HR149_0 := Aside0.mk hi149_0
              have HC149_0 := Aside0.mk hl149_0
              clear hi149_0 hl149_0
              replace p149 := eq_true p149
              replace q149 := eq_true q149
              have ea_ := Option.some.inj (hx145_0.symm.trans hx149_0)
              injection ea_ with ea_ en_ ec_
              subst ea_
              subst ec_
              clear en_
              have p150 : 0 ≤ (x3_1 : Int) := of_decide_eq_true (by first | (with_reducible assumption) | assumption)
              have q150 : x3_1 < (l0.length : Int) := of_decide_eq_true (by first | (with_reducible assumption) | assumption)
              obtain ⟨ad150, A150_0, c150_0, e150, hx150_0, hx150_1, hl150_0, hi150_0⟩ := at_T41 HR0.out x3_1 p150 q150
              have hw150_1 := hx150_1
              have hw150_0 := hx150_0
              obtain rfl : ad145 = ad150 := (by injection e150)
              replace hx150_0 := (HB.out.cell (World.block_lt_of_cell? w _ hx150_0)).trans hx150_0
              replace hx150_1 := (HB.out.cell (World.block_lt_of_cell? w _ hx150_1)).trans hx150_1
              have HR150_0 := Aside0.mk hi150_0
              have HC150_0 := Aside0.mk hl150_0
              clear hi150_0 hl150_0
              replace p150 := eq_true p150
              replace q150 := eq_true q150
              have ea_ := Option.some.inj (hx145_0.symm.trans hx150_0)
              injection ea_ with ea_ en_ ec_
              subst ea_
              subst ec_
              clear en_
              have p152 : 0 ≤ ((ji13) : Int) := of_decide_eq_true (by first | (with_reducible assumption) | assumption)
              have q152 : (ji13) < (l0.length : Int) := of_decide_eq_true (by first | (with_reducible assumption) | assumption)
              obtain ⟨ad152, A152_0, c152_0, e152, hx152_0, hx152_1, hl152_0, hi152_0⟩ := at_T41 HR0.out (ji13) p152 q152
              have hw152_1 := hx152_1
              have hw152_0 := hx152_0
              obtain rfl : ad145 = ad152 := (by injection e152)
              replace hx152_0 := (HB.out.cell (World.block_lt_of_cell? w _ hx152_0)).trans hx152_0
              replace hx152_1 := (HB.out.cell (World.block_lt_of_cell? w _ hx152_1)).trans hx152_1
              have HR152_0 := Aside0.mk hi152_0
              have HC152_0 := Aside0.mk hl152_0
              clear hi152_0 hl152_0
              replace p152 := eq_true p152
              replace q152 := eq_true q152
              have p153 : 0 ≤ (x3_1 : Int) := of_decide_eq_true (by first | (with_reducible assumption) | assumption)
              have q153 : x3_1 < (l0.length : Int) := of_decide_eq_true (by first | (with_reducible assumption) | assumption)
              obtain ⟨ad153, A153_0, c153_0, e153, hx153_0, hx153_1, hl153_0, hi153_0⟩ := at_T41 HR0.out x3_1 p153 q153
              have hw153_1 := hx153_1
              have hw153_0 := hx153_0
              obtain rfl : ad145 = ad153 := (by injection e153)
              replace hx153_0 := (HB.out.cell (World.block_lt_of_cell? w _ hx153_0)).trans hx153_0
              replace hx153_1 := (HB.out.cell (World.block_lt_of_cell? w _ hx153_1)).trans hx153_1
              have HR153_0 := Aside0.mk hi153_0
              have HC153_0 := Aside0.mk hl153_0
              clear hi153_0 hl153_0
              replace p153 := eq_true p153
              replace q153 := eq_true q153
              have ea_ := Option.some.inj (hx145_0.symm.trans hx153_0)
              injection ea_ with ea_ en_ ec_
              subst ea_
              subst ec_
              clear en_
              refine start_ (n := 57) (S := fun w' => w'.cell? (ad145.add ((x3_1).toNat * 2)) = some (.slice A145_0 ((rd_T41 l0 x3_1).f0).length c145_0) ∧ w'.cell? ⟨(ad145.add ((x3_1).toNat * 2)).block, (ad145.add ((x3_1).toNat * 2)).off + 1, none⟩ = some (.int .i64 ((rd_T41 l0 x3_1).f1)) ∧ w'.cell? (ad145.add ((x3_1).toNat * 2)) = some (.slice A145_0 ((rd_T41 l0 x3_1).f0).length c145_0) ∧ w'.cell? ⟨(ad145.add ((x3_1).toNat * 2)).block, (ad145.add ((x3_1).toNat * 2)).off + 1, none⟩ = some (.int .i64 ((rd_T41 l0 x3_1).f1)) ∧ w'.cell? ad145 = some (.slice A148_0 ((rd_T41 l0 0).f0).length c148_0) ∧ w'.cell? ⟨ad145.block, ad145.off + 1, none⟩ = some (.int .i64 ((rd_T41 l0 0).f1)) ∧ w'.cell? (ad145.add ((x3_1).toNat * 2)) = some (.slice A145_0 ((rd_T41 l0 x3_1).f0).length c145_0) ∧ w'.cell? ⟨(ad145.add ((x3_1).toNat * 2)).block, (ad145.add ((x3_1).toNat * 2)).off + 1, none⟩ = some (.int .i64 ((rd_T41 l0 x3_1).f1)) ∧ w'.cell? (ad145.add ((x3_1).toNat * 2)) = some (.slice A145_0 ((rd_T41 l0 x3_1).f0).length c145_0) ∧ w'.cell? ⟨(ad145.add ((x3_1).toNat * 2)).block, (ad145.add ((x3_1).toNat * 2)).off + 1, none⟩ = some (.int .i64 ((rd_T41 l0 x3_1).f1)) ∧ w'.cell? (ad145.add (((ji13)).toNat * 2)) = some (.slice A152_0 ((rd_T41 l0 (ji13)).f0).length c152_0) ∧ w'.cell? ⟨(ad145.add (((ji13)).toNat * 2)).block, (ad145.add (((ji13)).toNat * 2)).off + 1, none⟩ = some (.int .i64 ((rd_T41 l0 (ji13)).f1)) ∧ w'.cell? (ad145.add ((x3_1).toNat * 2)) = some (.slice A145_0 ((rd_T41 l0 x3_1).f0).length c145_0) ∧ w'.cell? ⟨(ad145.add ((x3_1).toNat * 2)).block, (ad145.add ((x3_1).toNat * 2)).off + 1, none⟩ = some (.int .i64 ((rd_T41 l0 x3_1).f1))) (ds := []) (Array.replicate 57 false) (by kernel_rfl) rfl rfl ⟨((HB.out.cell (World.block_lt_of_cell? w _ hw145_0)).trans hw145_0), ((HB.out.cell (World.block_lt_of_cell? w _ hw145_1)).trans hw145_1), ((HB.out.cell (World.block_lt_of_cell? w _ hw147_0)).trans hw147_0), ((HB.out.cell (World.block_lt_of_cell? w _ hw147_1)).trans hw147_1), ((HB.out.cell (World.block_lt_of_cell? w _ hw148_0)).trans hw148_0), ((HB.out.cell (World.block_lt_of_cell? w _ hw148_1)).trans hw148_1), ((HB.out.cell (World.block_lt_of_cell? w _ hw149_0)).trans hw149_0), ((HB.out.cell (World.block_lt_of_cell? w _ hw149_1)).trans hw149_1), ((HB.out.cell (World.block_lt_of_cell? w _ hw150_0)).trans hw150_0), ((HB.out.cell (World.block_lt_of_cell? w _ hw150_1)).trans hw150_1), ((HB.out.cell (World.block_lt_of_cell? w _ hw152_0)).trans hw152_0), ((HB.out.cell (World.block_lt_of_cell? w _ hw152_1)).trans hw152_1), ((HB.out.cell (World.block_lt_of_cell? w _ hw153_0)).trans hw153_0), ((HB.out.cell (World.block_lt_of_cell? w _ hw153_1)).trans hw153_1)⟩ (fun hHeld => ?_); refine with_tabW spec_validZSet.tab4 spec_validZSet.bits4 (fun HT_ HW_ => ?_)
              generalize wr.drew = w19 at HB HR145_0 HR147_0 HR148_0 HR149_0 HR150_0 HR152_0 HR153_0 hx145_0 hx145_1 hx147_0 hx147_1 hx148_0 hx148_1 hx149_0 hx149_1 hx150_0 hx150_1 hx152_0 hx152_1 hx153_0 hx153_1 hHeld ⊢
              refine pT HT_ 0 10 (bm 57 1) ?_
              refine pT HT_ 1 11 (bm 57 3) ?_
              refine pT HT_ 2 12 (bm 57 7) ?_
              refine pT HT_ 3 13 (bm 57 15) ?_
              refine tT HT_ HW_ hHeld 4 14 (bm 57 31) ?_
              refine one_ (i := 5) (N := some 15) (bm 57 63) rfl rfl (one_of HT_.out (by kernel_rfl)) (by decide) (fun K hK => ?_)
              refine goes_ Try.func79 (by kernel_rfl) rfl #[.slice A145_0 ((rd_T41 l0 x3_1).f0).length c145_0] (by rfl) rfl rfl (by (try simp only [List.map_toArray, List.map_cons, List.map_nil]); first | done | rfl | (simp only [List.length_drop, List.length_take]; rfl)) ?_
              with_reducible refine (spec_validRow.calls k1 _ _ ((rd_T41 l0 x3_1).f0) true _ ?side1 ?side2 A4.out).mono ?_
              (case side1 => repeat (first | exact (Kd.C_below HR145_0.out HB.out) | (with_reducible refine Kd.C_alloc ?_ _) | (with_reducible refine Kd.C_drewN ?_ _) | (with_reducible refine Kd.C_drew ?_)))
              (case side2 => exact HC145_0.out)
              rintro e w' ⟨rfl, ⟨nd, rfl⟩⟩
              refine ⟨_, rfl, ?_⟩
              refine hK.out _ _ ⟨((HB.out.cell (World.block_lt_of_cell? w _ hw145_0)).trans hw145_0), ((HB.out.cell (World.block_lt_of_cell? w _ hw145_1)).trans hw145_1), ((HB.out.cell (World.block_lt_of_cell? w _ hw147_0)).trans hw147_0), ((HB.out.cell (World.block_lt_of_cell? w _ hw147_1)).trans hw147_1), ((HB.out.cell (World.block_lt_of_cell? w _ hw148_0)).trans hw148_0), ((HB.out.cell (World.block_lt_of_cell? w _ hw148_1)).trans hw148_1), ((HB.out.cell (World.block_lt_of_cell? w _ hw149_0)).trans hw149_0), ((HB.out.cell (World.block_lt_of_cell? w _ hw149_1)).trans hw149_1), ((HB.out.cell (World.block_lt_of_cell? w _ hw150_0)).trans hw150_0), ((HB.out.cell (World.block_lt_of_cell? w _ hw150_1)).trans hw150_1), ((HB.out.cell (World.block_lt_of_cell? w _ hw152_0)).trans hw152_0), ((HB.out.cell (World.block_lt_of_cell? w _ hw152_1)).trans hw152_1), ((HB.out.cell (World.block_lt_of_cell? w _ hw153_0)).trans hw153_0), ((HB.out.cell (World.block_lt_of_cell? w _ hw153_1)).trans hw153_1)⟩ (fun hHeld => ?_)
              clear hK K
              refine nS 15 ?_
              refine pT HT_ 6 16 (bm 57 127) ?_
              refine pT HT_ 7 17 (bm 57 255) ?_
              refine pT HT_ 8 18 (bm 57 511) ?_
              refine pT HT_ 9 19 (bm 57 1023) ?_
              refine pT HT_ 10 20 (bm 57 2047) ?_
              refine pT HT_ 11 21 (bm 57 4095) ?_
              refine pT HT_ 14 24 (bm 57 20479) ?_
              refine pT HT_ 15 25 (bm 57 53247) ?_
              refine pT HT_ 16 26 (bm 57 118783) ?_
              refine tT HT_ HW_ hHeld 12 22 (bm 57 122879) ?_
              refine pT HT_ 13 23 (bm 57 131071) ?_
              refine tT HT_ HW_ hHeld 17 27 (bm 57 262143) ?_
              refine pT HT_ 18 28 (bm 57 524287) ?_
              refine pT HT_ 19 29 (bm 57 1048575) ?_
              refine pT HT_ 20 30 (bm 57 2097151) ?_
              refine pT HT_ 21 31 (bm 57 4194303) ?_
              refine pT HT_ 22 32 (bm 57 8388607) ?_
              refine pT HT_ 23 33 (bm 57 16777215) ?_
              refine pT HT_ 24 34 (bm 57 33554431) ?_
              refine pT HT_ 25 35 (bm 57 67108863) ?_
              refine tT HT_ HW_ hHeld 26 36 (bm 57 134217727) ?_
              refine pT HT_ 27 37 (bm 57 268435455) ?_
              refine pT HT_ 28 38 (bm 57 536870911) ?_
              refine pT HT_ 29 39 (bm 57 1073741823) ?_
              refine pT HT_ 30 40 (bm 57 2147483647) ?_
              refine pT HT_ 31 41 (bm 57 4294967295) ?_
              refine pT HT_ 32 42 (bm 57 8589934591) ?_
              refine pT HT_ 33 43 (bm 57 17179869183) ?_
              refine tT HT_ HW_ hHeld 34 44 (bm 57 34359738367) ?_
              refine one_ (i := 35) (N := some 45) (bm 57 68719476735) rfl rfl (one_of HT_.out (by kernel_rfl)) (by decide) (fun K hK => ?_)
              refine goes_ Try.func80 (by kernel_rfl) rfl #[.int .i64 ((rd_T41 l0 x3_1).f1), .int .i64 (-1000000), .int .i64 1000000] (by rfl) rfl rfl (by (try simp only [List.map_toArray, List.map_cons, List.map_nil]); first | done | rfl | (simp only [List.length_drop, List.length_take]; rfl)) ?_
              with_reducible refine (spec_inRange.calls ((rd_T41 l0 x3_1).f1) (-1000000) 1000000 true _ A10.out).mono ?_
              rintro e w' ⟨rfl, ⟨nd, rfl⟩⟩
              refine ⟨_, rfl, ?_⟩
              refine hK.out _ _ ⟨((HB.out.cell (World.block_lt_of_cell? w _ hw145_0)).trans hw145_0), ((HB.out.cell (World.block_lt_of_cell? w _ hw145_1)).trans hw145_1), ((HB.out.cell (World.block_lt_of_cell? w _ hw147_0)).trans hw147_0), ((HB.out.cell (World.block_lt_of_cell? w _ hw147_1)).trans hw147_1), ((HB.out.cell (World.block_lt_of_cell? w _ hw148_0)).trans hw148_0), ((HB.out.cell (World.block_lt_of_cell? w _ hw148_1)).trans hw148_1), ((HB.out.cell (World.block_lt_of_cell? w _ hw149_0)).trans hw149_0), ((HB.out.cell (World.block_lt_of_cell? w _ hw149_1)).trans hw149_1), ((HB.out.cell (World.block_lt_of_cell? w _ hw150_0)).trans hw150_0), ((HB.out.cell (World.block_lt_of_cell? w _ hw150_1)).trans hw150_1), ((HB.out.cell (World.block_lt_of_cell? w _ hw152_0)).trans hw152_0), ((HB.out.cell (World.block_lt_of_cell? w _ hw152_1)).trans hw152_1), ((HB.out.cell (World.block_lt_of_cell? w _ hw153_0)).trans hw153_0), ((HB.out.cell (World.block_lt_of_cell? w _ hw153_1)).trans hw153_1)⟩ (fun hHeld => ?_)
              clear hK K
              refine nS 45 ?_
              refine pT HT_ 36 46 (bm 57 137438953471) ?_
              refine pT HT_ 37 47 (bm 57 274877906943) ?_
              refine pT HT_ 38 48 (bm 57 549755813887) ?_
              refine pT HT_ 39 49 (bm 57 1099511627775) ?_
              refine pT HT_ 40 50 (bm 57 2199023255551) ?_
              refine pT HT_ 41 51 (bm 57 4398046511103) ?_
              refine pT HT_ 42 52 (bm 57 8796093022207) ?_
              refine pT HT_ 43 53 (bm 57 17592186044415) ?_
              refine pT HT_ 44 54 (bm 57 35184372088831) ?_
              refine pT HT_ 45 55 (bm 57 70368744177663) ?_
              refine pT HT_ 46 56 (bm 57 140737488355327) ?_
              refine pT HT_ 48 58 (bm 57 422212465065983) ?_
              refine pT HT_ 49 59 (bm 57 985162418487295) ?_
              refine pT HT_ 50 60 (bm 57 2111062325329919) ?_
              refine pT HT_ 51 61 (bm 57 4362862139015167) ?_
              refine tT HT_ HW_ hHeld 47 57 (bm 57 4503599627370495) ?_
              refine tT HT_ HW_ hHeld 52 62 (bm 57 9007199254740991) ?_
              refine one_ (i := 53) (N := some 63) (bm 57 18014398509481983) rfl rfl (one_of HT_.out (by kernel_rfl)) (by decide) (fun K hK => ?_)
              refine goes_ Try.func87 (by kernel_rfl) rfl #[.slice A152_0 ((rd_T41 l0 (ji13)).f0).length c152_0, .slice A145_0 ((rd_T41 l0 x3_1).f0).length c145_0] (by rfl) rfl rfl (by (try simp only [List.map_toArray, List.map_cons, List.map_nil]); first | done | (simp only [hji13]; rfl) | rfl | (simp only [List.length_drop, List.length_take]; rfl)) ?_
              with_reducible refine (spec_rowLess.calls k1 _ _ ((rd_T41 l0 (ji13)).f0) _ _ ((rd_T41 l0 x3_1).f0) false _ ?side1 ?side2 ?side3 ?side4 A16.out).mono ?_
              (case side1 => repeat (first | exact (Kd.C_below HR152_0.out (by repeat (first | (with_reducible first | exact HB.out | apply below_alloc | apply pw_below_drewN | apply below_drew1) | exact HB.out))) | (with_reducible refine Kd.C_alloc ?_ _) | (with_reducible refine Kd.C_drewN ?_ _) | (with_reducible refine Kd.C_drew ?_)))
              (case side2 => exact HC152_0.out)
              (case side3 => repeat (first | exact (Kd.C_below HR153_0.out (by repeat (first | (with_reducible first | exact HB.out | apply below_alloc | apply pw_below_drewN | apply below_drew1) | exact HB.out))) | (with_reducible refine Kd.C_alloc ?_ _) | (with_reducible refine Kd.C_drewN ?_ _) | (with_reducible refine Kd.C_drew ?_)))
              (case side4 => exact HC153_0.out)
              rintro e w' ⟨rfl, ⟨nd, rfl⟩⟩
              refine ⟨_, rfl, ?_⟩
              refine hK.out _ _ ⟨((HB.out.cell (World.block_lt_of_cell? w _ hw145_0)).trans hw145_0), ((HB.out.cell (World.block_lt_of_cell? w _ hw145_1)).trans hw145_1), ((HB.out.cell (World.block_lt_of_cell? w _ hw147_0)).trans hw147_0), ((HB.out.cell (World.block_lt_of_cell? w _ hw147_1)).trans hw147_1), ((HB.out.cell (World.block_lt_of_cell? w _ hw148_0)).trans hw148_0), ((HB.out.cell (World.block_lt_of_cell? w _ hw148_1)).trans hw148_1), ((HB.out.cell (World.block_lt_of_cell? w _ hw149_0)).trans hw149_0), ((HB.out.cell (World.block_lt_of_cell? w _ hw149_1)).trans hw149_1), ((HB.out.cell (World.block_lt_of_cell? w _ hw150_0)).trans hw150_0), ((HB.out.cell (World.block_lt_of_cell? w _ hw150_1)).trans hw150_1), ((HB.out.cell (World.block_lt_of_cell? w _ hw152_0)).trans hw152_0), ((HB.out.cell (World.block_lt_of_cell? w _ hw152_1)).trans hw152_1), ((HB.out.cell (World.block_lt_of_cell? w _ hw153_0)).trans hw153_0), ((HB.out.cell (World.block_lt_of_cell? w _ hw153_1)).trans hw153_1)⟩ (fun hHeld => ?_)
              clear hK K
              refine nS 63 ?_
              refine pT HT_ 54 64 (bm 57 36028797018963967) ?_
              refine pT HT_ 55 65 (bm 57 72057594037927935) ?_
              refine pT HT_ 56 66 (bm 57 144115188075855871) ?_
              refine done_ (done_of HT_.out (by kernel_rfl)) ?_
              try go_wp2
              go_ret
              exact ⟨by first | rfl | (simp [errW_none, errW_some] <;> rfl) | (simp only [← hji13]; first | rfl | (simp [errW_none, errW_some] <;> rfl)) | (simp [*, errW_none, errW_some] <;> rfl), by repeat (first | (with_reducible first | exact HB.out | apply below_alloc | apply pw_below_drewN | apply below_drew1) | exact HB.out)⟩
            ·
             rw [if_neg c15] at H
             exact absurd H (by simp)
           ·
            rw [if_neg c14] at H
            exact absurd H (by simp)
          ·
           rw [if_neg c12] at H
           have c12b0 : decide (0 < x3_1) = false := decide_eq_false c12
           clear c12
           have H' := Aside0.mk H
           clear H
           try go_wp2
           have n0_ := Aside0.mk (below_drew1 HB.out)
           clear HB
           have HB := n0_
           clear n0_
           have p145 : 0 ≤ (x3_1 : Int) := of_decide_eq_true (by first | (with_reducible assumption) | assumption)
           have q145 : x3_1 < (l0.length : Int) := of_decide_eq_true (by first | (with_reducible assumption) | assumption)
           obtain ⟨ad145, A145_0, c145_0, e145, hx145_0, hx145_1, hl145_0, hi145_0⟩ := at_T41 HR0.out x3_1 p145 q145
           have hw145_1 := hx145_1
           have hw145_0 := hx145_0
           cases e145
           replace hx145_0 := (HB.out.cell (World.block_lt_of_cell? w _ hx145_0)).trans hx145_0
           replace hx145_1 := (HB.out.cell (World.block_lt_of_cell? w _ hx145_1)).trans hx145_1
           have HR145_0 := Aside0.mk hi145_0
           have HC145_0 := Aside0.mk hl145_0
           clear hi145_0 hl145_0
           replace p145 := eq_true p145
           replace q145 := eq_true q145
           have p147 : 0 ≤ (x3_1 : Int) := of_decide_eq_true (by first | (with_reducible assumption) | assumption)
           have q147 : x3_1 < (l0.length : Int) := of_decide_eq_true (by first | (with_reducible assumption) | assumption)
           obtain ⟨ad147, A147_0, c147_0, e147, hx147_0, hx147_1, hl147_0, hi147_0⟩ := at_T41 HR0.out x3_1 p147 q147
           have hw147_1 := hx147_1
           have hw147_0 := hx147_0
           obtain rfl : ad145 = ad147 := (by injection e147)
           replace hx147_0 := (HB.out.cell (World.block_lt_of_cell? w _ hx147_0)).trans hx147_0
           replace hx147_1 := (HB.out.cell (World.block_lt_of_cell? w _ hx147_1)).trans hx147_1
           have HR147_0 := Aside0.mk hi147_0
           have HC147_0 := Aside0.mk hl147_0
           clear hi147_0 hl147_0
           replace p147 := eq_true p147
           replace q147 := eq_true q147
           have ea_ := Option.some.inj (hx145_0.symm.trans hx147_0)
           injection ea_ with ea_ en_ ec_
           subst ea_
           subst ec_
           clear en_
           have p148 : 0 ≤ (0 : Int) := (by omega)
           have q148 : 0 < (l0.length : Int) := of_decide_eq_true (by first | (with_reducible assumption) | assumption)
           obtain ⟨ad148, A148_0, c148_0, e148, hx148_0, hx148_1, hl148_0, hi148_0⟩ := at_T41 HR0.out 0 p148 q148
           have hw148_1 := hx148_1
           (try rw [show ((0 : Int)).toNat = 0 from rfl] at hw148_1)
           (try rw [show 0 * 2 = 0 from rfl] at hw148_1)
           (try rw [Addr.add_zero'] at hw148_1)
           have hw148_0 := hx148_0
           (try rw [show ((0 : Int)).toNat = 0 from rfl] at hw148_0)
           (try rw [show 0 * 2 = 0 from rfl] at hw148_0)
           (try rw [Addr.add_zero'] at hw148_0)
           obtain rfl : ad145 = ad148 := (by injection e148)
           have qi148 : (0 < l0.length) = True := eq_true (by omega)
           (try rw [show ((0 : Int)).toNat = 0 from rfl] at hx148_0)
           (try rw [show 0 * 2 = 0 from rfl] at hx148_0)
           (try rw [Addr.add_zero'] at hx148_0)
           (try rw [show ((0 : Int)).toNat = 0 from rfl] at hx148_1)
           (try rw [show 0 * 2 = 0 from rfl] at hx148_1)
           (try rw [Addr.add_zero'] at hx148_1)
           replace hx148_0 := (HB.out.cell (World.block_lt_of_cell? w _ hx148_0)).trans hx148_0
           replace hx148_1 := (HB.out.cell (World.block_lt_of_cell? w _ hx148_1)).trans hx148_1
           have HR148_0 := Aside0.mk hi148_0
           have HC148_0 := Aside0.mk hl148_0
           clear hi148_0 hl148_0
           replace p148 := eq_true p148
           replace q148 := eq_true q148
           have p149 : 0 ≤ (x3_1 : Int) := of_decide_eq_true (by first | (with_reducible assumption) | assumption)
           have q149 : x3_1 < (l0.length : Int) := of_decide_eq_true (by first | (with_reducible assumption) | assumption)
           obtain ⟨ad149, A149_0, c149_0, e149, hx149_0, hx149_1, hl149_0, hi149_0⟩ := at_T41 HR0.out x3_1 p149 q149
           have hw149_1 := hx149_1
           have hw149_0 := hx149_0
           obtain rfl : ad145 = ad149 := (by injection e149)
           replace hx149_0 := (HB.out.cell (World.block_lt_of_cell? w _ hx149_0)).trans hx149_0
           replace hx149_1 := (HB.out.cell (World.block_lt_of_cell? w _ hx149_1)).trans hx149_1
           have HR149_0 := Aside0.mk hi149_0
           have HC149_0 := Aside0.mk hl149_0
           clear hi149_0 hl149_0
           replace p149 := eq_true p149
           replace q149 := eq_true q149
           have ea_ := Option.some.inj (hx145_0.symm.trans hx149_0)
           injection ea_ with ea_ en_ ec_
           subst ea_
           subst ec_
           clear en_
           have p150 : 0 ≤ (x3_1 : Int) := of_decide_eq_true (by first | (with_reducible assumption) | assumption)
           have q150 : x3_1 < (l0.length : Int) := of_decide_eq_true (by first | (with_reducible assumption) | assumption)
           obtain ⟨ad150, A150_0, c150_0, e150, hx150_0, hx150_1, hl150_0, hi150_0⟩ := at_T41 HR0.out x3_1 p150 q150
           have hw150_1 := hx150_1
           have hw150_0 := hx150_0
           obtain rfl : ad145 = ad150 := (by injection e150)
           replace hx150_0 := (HB.out.cell (World.block_lt_of_cell? w _ hx150_0)).trans hx150_0
           replace hx150_1 := (HB.out.cell (World.block_lt_of_cell? w _ hx150_1)).trans hx150_1
           have HR150_0 := Aside0.mk hi150_0
           have HC150_0 := Aside0.mk hl150_0
           clear hi150_0 hl150_0
           replace p150 := eq_true p150
           replace q150 := eq_true q150
           have ea_ := Option.some.inj (hx145_0.symm.trans hx150_0)
           injection ea_ with ea_ en_ ec_
           subst ea_
           subst ec_
           clear en_
           refine start_ (n := 57) (S := fun w' => w'.cell? (ad145.add ((x3_1).toNat * 2)) = some (.slice A145_0 ((rd_T41 l0 x3_1).f0).length c145_0) ∧ w'.cell? ⟨(ad145.add ((x3_1).toNat * 2)).block, (ad145.add ((x3_1).toNat * 2)).off + 1, none⟩ = some (.int .i64 ((rd_T41 l0 x3_1).f1)) ∧ w'.cell? (ad145.add ((x3_1).toNat * 2)) = some (.slice A145_0 ((rd_T41 l0 x3_1).f0).length c145_0) ∧ w'.cell? ⟨(ad145.add ((x3_1).toNat * 2)).block, (ad145.add ((x3_1).toNat * 2)).off + 1, none⟩ = some (.int .i64 ((rd_T41 l0 x3_1).f1)) ∧ w'.cell? ad145 = some (.slice A148_0 ((rd_T41 l0 0).f0).length c148_0) ∧ w'.cell? ⟨ad145.block, ad145.off + 1, none⟩ = some (.int .i64 ((rd_T41 l0 0).f1)) ∧ w'.cell? (ad145.add ((x3_1).toNat * 2)) = some (.slice A145_0 ((rd_T41 l0 x3_1).f0).length c145_0) ∧ w'.cell? ⟨(ad145.add ((x3_1).toNat * 2)).block, (ad145.add ((x3_1).toNat * 2)).off + 1, none⟩ = some (.int .i64 ((rd_T41 l0 x3_1).f1)) ∧ w'.cell? (ad145.add ((x3_1).toNat * 2)) = some (.slice A145_0 ((rd_T41 l0 x3_1).f0).length c145_0) ∧ w'.cell? ⟨(ad145.add ((x3_1).toNat * 2)).block, (ad145.add ((x3_1).toNat * 2)).off + 1, none⟩ = some (.int .i64 ((rd_T41 l0 x3_1).f1))) (ds := []) (Array.replicate 57 false) (by kernel_rfl) rfl rfl ⟨((HB.out.cell (World.block_lt_of_cell? w _ hw145_0)).trans hw145_0), ((HB.out.cell (World.block_lt_of_cell? w _ hw145_1)).trans hw145_1), ((HB.out.cell (World.block_lt_of_cell? w _ hw147_0)).trans hw147_0), ((HB.out.cell (World.block_lt_of_cell? w _ hw147_1)).trans hw147_1), ((HB.out.cell (World.block_lt_of_cell? w _ hw148_0)).trans hw148_0), ((HB.out.cell (World.block_lt_of_cell? w _ hw148_1)).trans hw148_1), ((HB.out.cell (World.block_lt_of_cell? w _ hw149_0)).trans hw149_0), ((HB.out.cell (World.block_lt_of_cell? w _ hw149_1)).trans hw149_1), ((HB.out.cell (World.block_lt_of_cell? w _ hw150_0)).trans hw150_0), ((HB.out.cell (World.block_lt_of_cell? w _ hw150_1)).trans hw150_1)⟩ (fun hHeld => ?_); refine with_tabW spec_validZSet.tab4 spec_validZSet.bits4 (fun HT_ HW_ => ?_)
           generalize wr.drew = w20 at HB HR145_0 HR147_0 HR148_0 HR149_0 HR150_0 hx145_0 hx145_1 hx147_0 hx147_1 hx148_0 hx148_1 hx149_0 hx149_1 hx150_0 hx150_1 hHeld ⊢
           refine pT HT_ 0 10 (bm 57 1) ?_
           refine pT HT_ 1 11 (bm 57 3) ?_
           refine pT HT_ 2 12 (bm 57 7) ?_
           refine pT HT_ 3 13 (bm 57 15) ?_
           refine tT HT_ HW_ hHeld 4 14 (bm 57 31) ?_
           refine one_ (i := 5) (N := some 15) (bm 57 63) rfl rfl (one_of HT_.out (by kernel_rfl)) (by decide) (fun K hK => ?_)
           refine goes_ Try.func79 (by kernel_rfl) rfl #[.slice A145_0 ((rd_T41 l0 x3_1).f0).length c145_0] (by rfl) rfl rfl (by (try simp only [List.map_toArray, List.map_cons, List.map_nil]); first | done | rfl | (simp only [List.length_drop, List.length_take]; rfl)) ?_
           with_reducible refine (spec_validRow.calls k1 _ _ ((rd_T41 l0 x3_1).f0) true _ ?side1 ?side2 A4.out).mono ?_
           (case side1 => repeat (first | exact (Kd.C_below HR145_0.out HB.out) | (with_reducible refine Kd.C_alloc ?_ _) | (with_reducible refine Kd.C_drewN ?_ _) | (with_reducible refine Kd.C_drew ?_)))
           (case side2 => exact HC145_0.out)
           rintro e w' ⟨rfl, ⟨nd, rfl⟩⟩
           refine ⟨_, rfl, ?_⟩
           refine hK.out _ _ ⟨((HB.out.cell (World.block_lt_of_cell? w _ hw145_0)).trans hw145_0), ((HB.out.cell (World.block_lt_of_cell? w _ hw145_1)).trans hw145_1), ((HB.out.cell (World.block_lt_of_cell? w _ hw147_0)).trans hw147_0), ((HB.out.cell (World.block_lt_of_cell? w _ hw147_1)).trans hw147_1), ((HB.out.cell (World.block_lt_of_cell? w _ hw148_0)).trans hw148_0), ((HB.out.cell (World.block_lt_of_cell? w _ hw148_1)).trans hw148_1), ((HB.out.cell (World.block_lt_of_cell? w _ hw149_0)).trans hw149_0), ((HB.out.cell (World.block_lt_of_cell? w _ hw149_1)).trans hw149_1), ((HB.out.cell (World.block_lt_of_cell? w _ hw150_0)).trans hw150_0), ((HB.out.cell (World.block_lt_of_cell? w _ hw150_1)).trans hw150_1)⟩ (fun hHeld => ?_)
           clear hK K
           refine nS 15 ?_
           refine pT HT_ 6 16 (bm 57 127) ?_
           refine pT HT_ 7 17 (bm 57 255) ?_
           refine pT HT_ 8 18 (bm 57 511) ?_
           refine pT HT_ 9 19 (bm 57 1023) ?_
           refine pT HT_ 10 20 (bm 57 2047) ?_
           refine pT HT_ 11 21 (bm 57 4095) ?_
           refine pT HT_ 14 24 (bm 57 20479) ?_
           refine pT HT_ 15 25 (bm 57 53247) ?_
           refine pT HT_ 16 26 (bm 57 118783) ?_
           refine tT HT_ HW_ hHeld 12 22 (bm 57 122879) ?_
           refine pT HT_ 13 23 (bm 57 131071) ?_
           refine tT HT_ HW_ hHeld 17 27 (bm 57 262143) ?_
           refine pT HT_ 18 28 (bm 57 524287) ?_
           refine pT HT_ 19 29 (bm 57 1048575) ?_
           refine pT HT_ 20 30 (bm 57 2097151) ?_
           refine pT HT_ 21 31 (bm 57 4194303) ?_
           refine pT HT_ 22 32 (bm 57 8388607) ?_
           refine pT HT_ 23 33 (bm 57 16777215) ?_
           refine pT HT_ 24 34 (bm 57 33554431) ?_
           refine pT HT_ 25 35 (bm 57 67108863) ?_
           refine tT HT_ HW_ hHeld 26 36 (bm 57 134217727) ?_
           refine pT HT_ 27 37 (bm 57 268435455) ?_
           refine pT HT_ 28 38 (bm 57 536870911) ?_
           refine pT HT_ 29 39 (bm 57 1073741823) ?_
           refine pT HT_ 30 40 (bm 57 2147483647) ?_
           refine pT HT_ 31 41 (bm 57 4294967295) ?_
           refine pT HT_ 32 42 (bm 57 8589934591) ?_
           refine pT HT_ 33 43 (bm 57 17179869183) ?_
           refine tT HT_ HW_ hHeld 34 44 (bm 57 34359738367) ?_
           refine one_ (i := 35) (N := some 45) (bm 57 68719476735) rfl rfl (one_of HT_.out (by kernel_rfl)) (by decide) (fun K hK => ?_)
           refine goes_ Try.func80 (by kernel_rfl) rfl #[.int .i64 ((rd_T41 l0 x3_1).f1), .int .i64 (-1000000), .int .i64 1000000] (by rfl) rfl rfl (by (try simp only [List.map_toArray, List.map_cons, List.map_nil]); first | done | rfl | (simp only [List.length_drop, List.length_take]; rfl)) ?_
           with_reducible refine (spec_inRange.calls ((rd_T41 l0 x3_1).f1) (-1000000) 1000000 true _ A10.out).mono ?_
           rintro e w' ⟨rfl, ⟨nd, rfl⟩⟩
           refine ⟨_, rfl, ?_⟩
           refine hK.out _ _ ⟨((HB.out.cell (World.block_lt_of_cell? w _ hw145_0)).trans hw145_0), ((HB.out.cell (World.block_lt_of_cell? w _ hw145_1)).trans hw145_1), ((HB.out.cell (World.block_lt_of_cell? w _ hw147_0)).trans hw147_0), ((HB.out.cell (World.block_lt_of_cell? w _ hw147_1)).trans hw147_1), ((HB.out.cell (World.block_lt_of_cell? w _ hw148_0)).trans hw148_0), ((HB.out.cell (World.block_lt_of_cell? w _ hw148_1)).trans hw148_1), ((HB.out.cell (World.block_lt_of_cell? w _ hw149_0)).trans hw149_0), ((HB.out.cell (World.block_lt_of_cell? w _ hw149_1)).trans hw149_1), ((HB.out.cell (World.block_lt_of_cell? w _ hw150_0)).trans hw150_0), ((HB.out.cell (World.block_lt_of_cell? w _ hw150_1)).trans hw150_1)⟩ (fun hHeld => ?_)
           clear hK K
           refine nS 45 ?_
           refine pT HT_ 36 46 (bm 57 137438953471) ?_
           refine pT HT_ 37 47 (bm 57 274877906943) ?_
           refine pT HT_ 38 48 (bm 57 549755813887) ?_
           refine pT HT_ 39 49 (bm 57 1099511627775) ?_
           refine pT HT_ 40 50 (bm 57 2199023255551) ?_
           refine pT HT_ 41 51 (bm 57 4398046511103) ?_
           refine pU HT_ 42 52 (bm 57 8796093022207) ?_
           refine pU HT_ 43 53 (bm 57 17592186044415) ?_
           refine pU HT_ 44 54 (bm 57 35184372088831) ?_
           refine pU HT_ 45 55 (bm 57 70368744177663) ?_
           refine pU HT_ 46 56 (bm 57 140737488355327) ?_
           refine pU HT_ 47 57 (bm 57 281474976710655) ?_
           refine pU HT_ 48 58 (bm 57 562949953421311) ?_
           refine pU HT_ 49 59 (bm 57 1125899906842623) ?_
           refine pU HT_ 50 60 (bm 57 2251799813685247) ?_
           refine pU HT_ 51 61 (bm 57 4503599627370495) ?_
           refine pU HT_ 52 62 (bm 57 9007199254740991) ?_
           refine pU HT_ 53 63 (bm 57 18014398509481983) ?_
           refine pU HT_ 54 64 (bm 57 36028797018963967) ?_
           refine pT HT_ 55 65 (bm 57 72057594037927935) ?_
           refine pT HT_ 56 66 (bm 57 144115188075855871) ?_
           refine done_ (done_of HT_.out (by kernel_rfl)) ?_
           try go_wp2
           go_roundg k1
           case measure => have := HK1.out; omega
           case rel => exact ⟨(wrap64 (x3_1 + 1)), (by first | rfl | (simp; done) | (simp [*]; done)), H', ⟨by have := HK1.out; omega⟩, ⟨by repeat (first | (with_reducible first | exact HB.out | apply below_alloc | apply pw_below_drewN | apply below_drew1) | exact HB.out)⟩⟩
         ·
          replace c11 := Bool.eq_false_iff.mpr c11
          subst c11
          have H1 : (some false) = some r := by rw [if_neg (show ¬ (false = true) by decide)] at H; exact H
          clear H
          have H := H1
          clear H1
          obtain rfl := Option.some.inj H
          try go_wp2
          have n0_ := Aside0.mk (below_drew1 HB.out)
          clear HB
          have HB := n0_
          clear n0_
          have p145 : 0 ≤ (x3_1 : Int) := of_decide_eq_true (by first | (with_reducible assumption) | assumption)
          have q145 : x3_1 < (l0.length : Int) := of_decide_eq_true (by first | (with_reducible assumption) | assumption)
          obtain ⟨ad145, A145_0, c145_0, e145, hx145_0, hx145_1, hl145_0, hi145_0⟩ := at_T41 HR0.out x3_1 p145 q145
          have hw145_1 := hx145_1
          have hw145_0 := hx145_0
          cases e145
          replace hx145_0 := (HB.out.cell (World.block_lt_of_cell? w _ hx145_0)).trans hx145_0
          replace hx145_1 := (HB.out.cell (World.block_lt_of_cell? w _ hx145_1)).trans hx145_1
          have HR145_0 := Aside0.mk hi145_0
          have HC145_0 := Aside0.mk hl145_0
          clear hi145_0 hl145_0
          replace p145 := eq_true p145
          replace q145 := eq_true q145
          have p147 : 0 ≤ (x3_1 : Int) := of_decide_eq_true (by first | (with_reducible assumption) | assumption)
          have q147 : x3_1 < (l0.length : Int) := of_decide_eq_true (by first | (with_reducible assumption) | assumption)
          obtain ⟨ad147, A147_0, c147_0, e147, hx147_0, hx147_1, hl147_0, hi147_0⟩ := at_T41 HR0.out x3_1 p147 q147
          have hw147_1 := hx147_1
          have hw147_0 := hx147_0
          obtain rfl : ad145 = ad147 := (by injection e147)
          replace hx147_0 := (HB.out.cell (World.block_lt_of_cell? w _ hx147_0)).trans hx147_0
          replace hx147_1 := (HB.out.cell (World.block_lt_of_cell? w _ hx147_1)).trans hx147_1
          have HR147_0 := Aside0.mk hi147_0
          have HC147_0 := Aside0.mk hl147_0
          clear hi147_0 hl147_0
          replace p147 := eq_true p147
          replace q147 := eq_true q147
          have ea_ := Option.some.inj (hx145_0.symm.trans hx147_0)
          injection ea_ with ea_ en_ ec_
          subst ea_
          subst ec_
          clear en_
          have p148 : 0 ≤ (0 : Int) := (by omega)
          have q148 : 0 < (l0.length : Int) := of_decide_eq_true (by first | (with_reducible assumption) | assumption)
          obtain ⟨ad148, A148_0, c148_0, e148, hx148_0, hx148_1, hl148_0, hi148_0⟩ := at_T41 HR0.out 0 p148 q148
          have hw148_1 := hx148_1
          (try rw [show ((0 : Int)).toNat = 0 from rfl] at hw148_1)
          (try rw [show 0 * 2 = 0 from rfl] at hw148_1)
          (try rw [Addr.add_zero'] at hw148_1)
          have hw148_0 := hx148_0
          (try rw [show ((0 : Int)).toNat = 0 from rfl] at hw148_0)
          (try rw [show 0 * 2 = 0 from rfl] at hw148_0)
          (try rw [Addr.add_zero'] at hw148_0)
          obtain rfl : ad145 = ad148 := (by injection e148)
          have qi148 : (0 < l0.length) = True := eq_true (by omega)
          (try rw [show ((0 : Int)).toNat = 0 from rfl] at hx148_0)
          (try rw [show 0 * 2 = 0 from rfl] at hx148_0)
          (try rw [Addr.add_zero'] at hx148_0)
          (try rw [show ((0 : Int)).toNat = 0 from rfl] at hx148_1)
          (try rw [show 0 * 2 = 0 from rfl] at hx148_1)
          (try rw [Addr.add_zero'] at hx148_1)
          replace hx148_0 := (HB.out.cell (World.block_lt_of_cell? w _ hx148_0)).trans hx148_0
          replace hx148_1 := (HB.out.cell (World.block_lt_of_cell? w _ hx148_1)).trans hx148_1
          have HR148_0 := Aside0.mk hi148_0
          have HC148_0 := Aside0.mk hl148_0
          clear hi148_0 hl148_0
          replace p148 := eq_true p148
          replace q148 := eq_true q148
          have p149 : 0 ≤ (x3_1 : Int) := of_decide_eq_true (by first | (with_reducible assumption) | assumption)
          have q149 : x3_1 < (l0.length : Int) := of_decide_eq_true (by first | (with_reducible assumption) | assumption)
          obtain ⟨ad149, A149_0, c149_0, e149, hx149_0, hx149_1, hl149_0, hi149_0⟩ := at_T41 HR0.out x3_1 p149 q149
          have hw149_1 := hx149_1
          have hw149_0 := hx149_0
          obtain rfl : ad145 = ad149 := (by injection e149)
          replace hx149_0 := (HB.out.cell (World.block_lt_of_cell? w _ hx149_0)).trans hx149_0
          replace hx149_1 := (HB.out.cell (World.block_lt_of_cell? w _ hx149_1)).trans hx149_1
          have HR149_0 := Aside0.mk hi149_0
          have HC149_0 := Aside0.mk hl149_0
          clear hi149_0 hl149_0
          replace p149 := eq_true p149
          replace q149 := eq_true q149
          have ea_ := Option.some.inj (hx145_0.symm.trans hx149_0)
          injection ea_ with ea_ en_ ec_
          subst ea_
          subst ec_
          clear en_
          have p150 : 0 ≤ (x3_1 : Int) := of_decide_eq_true (by first | (with_reducible assumption) | assumption)
          have q150 : x3_1 < (l0.length : Int) := of_decide_eq_true (by first | (with_reducible assumption) | assumption)
          obtain ⟨ad150, A150_0, c150_0, e150, hx150_0, hx150_1, hl150_0, hi150_0⟩ := at_T41 HR0.out x3_1 p150 q150
          have hw150_1 := hx150_1
          have hw150_0 := hx150_0
          obtain rfl : ad145 = ad150 := (by injection e150)
          replace hx150_0 := (HB.out.cell (World.block_lt_of_cell? w _ hx150_0)).trans hx150_0
          replace hx150_1 := (HB.out.cell (World.block_lt_of_cell? w _ hx150_1)).trans hx150_1
          have HR150_0 := Aside0.mk hi150_0
          have HC150_0 := Aside0.mk hl150_0
          clear hi150_0 hl150_0
          replace p150 := eq_true p150
          replace q150 := eq_true q150
          have ea_ := Option.some.inj (hx145_0.symm.trans hx150_0)
          injection ea_ with ea_ en_ ec_
          subst ea_
          subst ec_
          clear en_
          refine start_ (n := 57) (S := fun w' => w'.cell? (ad145.add ((x3_1).toNat * 2)) = some (.slice A145_0 ((rd_T41 l0 x3_1).f0).length c145_0) ∧ w'.cell? ⟨(ad145.add ((x3_1).toNat * 2)).block, (ad145.add ((x3_1).toNat * 2)).off + 1, none⟩ = some (.int .i64 ((rd_T41 l0 x3_1).f1)) ∧ w'.cell? (ad145.add ((x3_1).toNat * 2)) = some (.slice A145_0 ((rd_T41 l0 x3_1).f0).length c145_0) ∧ w'.cell? ⟨(ad145.add ((x3_1).toNat * 2)).block, (ad145.add ((x3_1).toNat * 2)).off + 1, none⟩ = some (.int .i64 ((rd_T41 l0 x3_1).f1)) ∧ w'.cell? ad145 = some (.slice A148_0 ((rd_T41 l0 0).f0).length c148_0) ∧ w'.cell? ⟨ad145.block, ad145.off + 1, none⟩ = some (.int .i64 ((rd_T41 l0 0).f1)) ∧ w'.cell? (ad145.add ((x3_1).toNat * 2)) = some (.slice A145_0 ((rd_T41 l0 x3_1).f0).length c145_0) ∧ w'.cell? ⟨(ad145.add ((x3_1).toNat * 2)).block, (ad145.add ((x3_1).toNat * 2)).off + 1, none⟩ = some (.int .i64 ((rd_T41 l0 x3_1).f1)) ∧ w'.cell? (ad145.add ((x3_1).toNat * 2)) = some (.slice A145_0 ((rd_T41 l0 x3_1).f0).length c145_0) ∧ w'.cell? ⟨(ad145.add ((x3_1).toNat * 2)).block, (ad145.add ((x3_1).toNat * 2)).off + 1, none⟩ = some (.int .i64 ((rd_T41 l0 x3_1).f1))) (ds := []) (Array.replicate 57 false) (by kernel_rfl) rfl rfl ⟨((HB.out.cell (World.block_lt_of_cell? w _ hw145_0)).trans hw145_0), ((HB.out.cell (World.block_lt_of_cell? w _ hw145_1)).trans hw145_1), ((HB.out.cell (World.block_lt_of_cell? w _ hw147_0)).trans hw147_0), ((HB.out.cell (World.block_lt_of_cell? w _ hw147_1)).trans hw147_1), ((HB.out.cell (World.block_lt_of_cell? w _ hw148_0)).trans hw148_0), ((HB.out.cell (World.block_lt_of_cell? w _ hw148_1)).trans hw148_1), ((HB.out.cell (World.block_lt_of_cell? w _ hw149_0)).trans hw149_0), ((HB.out.cell (World.block_lt_of_cell? w _ hw149_1)).trans hw149_1), ((HB.out.cell (World.block_lt_of_cell? w _ hw150_0)).trans hw150_0), ((HB.out.cell (World.block_lt_of_cell? w _ hw150_1)).trans hw150_1)⟩ (fun hHeld => ?_); refine with_tabW spec_validZSet.tab4 spec_validZSet.bits4 (fun HT_ HW_ => ?_)
          generalize wr.drew = w21 at HB HR145_0 HR147_0 HR148_0 HR149_0 HR150_0 hx145_0 hx145_1 hx147_0 hx147_1 hx148_0 hx148_1 hx149_0 hx149_1 hx150_0 hx150_1 hHeld ⊢
          refine pT HT_ 0 10 (bm 57 1) ?_
          refine pT HT_ 1 11 (bm 57 3) ?_
          refine pT HT_ 2 12 (bm 57 7) ?_
          refine pT HT_ 3 13 (bm 57 15) ?_
          refine tT HT_ HW_ hHeld 4 14 (bm 57 31) ?_
          refine one_ (i := 5) (N := some 15) (bm 57 63) rfl rfl (one_of HT_.out (by kernel_rfl)) (by decide) (fun K hK => ?_)
          refine goes_ Try.func79 (by kernel_rfl) rfl #[.slice A145_0 ((rd_T41 l0 x3_1).f0).length c145_0] (by rfl) rfl rfl (by (try simp only [List.map_toArray, List.map_cons, List.map_nil]); first | done | rfl | (simp only [List.length_drop, List.length_take]; rfl)) ?_
          with_reducible refine (spec_validRow.calls k1 _ _ ((rd_T41 l0 x3_1).f0) true _ ?side1 ?side2 A4.out).mono ?_
          (case side1 => repeat (first | exact (Kd.C_below HR145_0.out HB.out) | (with_reducible refine Kd.C_alloc ?_ _) | (with_reducible refine Kd.C_drewN ?_ _) | (with_reducible refine Kd.C_drew ?_)))
          (case side2 => exact HC145_0.out)
          rintro e w' ⟨rfl, ⟨nd, rfl⟩⟩
          refine ⟨_, rfl, ?_⟩
          refine hK.out _ _ ⟨((HB.out.cell (World.block_lt_of_cell? w _ hw145_0)).trans hw145_0), ((HB.out.cell (World.block_lt_of_cell? w _ hw145_1)).trans hw145_1), ((HB.out.cell (World.block_lt_of_cell? w _ hw147_0)).trans hw147_0), ((HB.out.cell (World.block_lt_of_cell? w _ hw147_1)).trans hw147_1), ((HB.out.cell (World.block_lt_of_cell? w _ hw148_0)).trans hw148_0), ((HB.out.cell (World.block_lt_of_cell? w _ hw148_1)).trans hw148_1), ((HB.out.cell (World.block_lt_of_cell? w _ hw149_0)).trans hw149_0), ((HB.out.cell (World.block_lt_of_cell? w _ hw149_1)).trans hw149_1), ((HB.out.cell (World.block_lt_of_cell? w _ hw150_0)).trans hw150_0), ((HB.out.cell (World.block_lt_of_cell? w _ hw150_1)).trans hw150_1)⟩ (fun hHeld => ?_)
          clear hK K
          refine nS 15 ?_
          refine pT HT_ 6 16 (bm 57 127) ?_
          refine pT HT_ 7 17 (bm 57 255) ?_
          refine pT HT_ 8 18 (bm 57 511) ?_
          refine pT HT_ 9 19 (bm 57 1023) ?_
          refine pT HT_ 10 20 (bm 57 2047) ?_
          refine pT HT_ 11 21 (bm 57 4095) ?_
          refine pT HT_ 14 24 (bm 57 20479) ?_
          refine pT HT_ 15 25 (bm 57 53247) ?_
          refine pT HT_ 16 26 (bm 57 118783) ?_
          refine tT HT_ HW_ hHeld 12 22 (bm 57 122879) ?_
          refine pT HT_ 13 23 (bm 57 131071) ?_
          refine tT HT_ HW_ hHeld 17 27 (bm 57 262143) ?_
          refine pT HT_ 18 28 (bm 57 524287) ?_
          refine pT HT_ 19 29 (bm 57 1048575) ?_
          refine pT HT_ 20 30 (bm 57 2097151) ?_
          refine pT HT_ 21 31 (bm 57 4194303) ?_
          refine pT HT_ 22 32 (bm 57 8388607) ?_
          refine pT HT_ 23 33 (bm 57 16777215) ?_
          refine pT HT_ 24 34 (bm 57 33554431) ?_
          refine pT HT_ 25 35 (bm 57 67108863) ?_
          refine tT HT_ HW_ hHeld 26 36 (bm 57 134217727) ?_
          refine pT HT_ 27 37 (bm 57 268435455) ?_
          refine pT HT_ 28 38 (bm 57 536870911) ?_
          refine pT HT_ 29 39 (bm 57 1073741823) ?_
          refine pT HT_ 30 40 (bm 57 2147483647) ?_
          refine pT HT_ 31 41 (bm 57 4294967295) ?_
          refine pT HT_ 32 42 (bm 57 8589934591) ?_
          refine pT HT_ 33 43 (bm 57 17179869183) ?_
          refine tT HT_ HW_ hHeld 34 44 (bm 57 34359738367) ?_
          refine one_ (i := 35) (N := some 45) (bm 57 68719476735) rfl rfl (one_of HT_.out (by kernel_rfl)) (by decide) (fun K hK => ?_)
          refine goes_ Try.func80 (by kernel_rfl) rfl #[.int .i64 ((rd_T41 l0 x3_1).f1), .int .i64 (-1000000), .int .i64 1000000] (by rfl) rfl rfl (by (try simp only [List.map_toArray, List.map_cons, List.map_nil]); first | done | rfl | (simp only [List.length_drop, List.length_take]; rfl)) ?_
          with_reducible refine (spec_inRange.calls ((rd_T41 l0 x3_1).f1) (-1000000) 1000000 false _ A10.out).mono ?_
          rintro e w' ⟨rfl, ⟨nd, rfl⟩⟩
          refine ⟨_, rfl, ?_⟩
          refine hK.out _ _ ⟨((HB.out.cell (World.block_lt_of_cell? w _ hw145_0)).trans hw145_0), ((HB.out.cell (World.block_lt_of_cell? w _ hw145_1)).trans hw145_1), ((HB.out.cell (World.block_lt_of_cell? w _ hw147_0)).trans hw147_0), ((HB.out.cell (World.block_lt_of_cell? w _ hw147_1)).trans hw147_1), ((HB.out.cell (World.block_lt_of_cell? w _ hw148_0)).trans hw148_0), ((HB.out.cell (World.block_lt_of_cell? w _ hw148_1)).trans hw148_1), ((HB.out.cell (World.block_lt_of_cell? w _ hw149_0)).trans hw149_0), ((HB.out.cell (World.block_lt_of_cell? w _ hw149_1)).trans hw149_1), ((HB.out.cell (World.block_lt_of_cell? w _ hw150_0)).trans hw150_0), ((HB.out.cell (World.block_lt_of_cell? w _ hw150_1)).trans hw150_1)⟩ (fun hHeld => ?_)
          clear hK K
          refine nS 45 ?_
          refine pT HT_ 36 46 (bm 57 137438953471) ?_
          refine pT HT_ 37 47 (bm 57 274877906943) ?_
          refine pT HT_ 38 48 (bm 57 549755813887) ?_
          refine pU HT_ 39 49 (bm 57 1099511627775) ?_
          refine pU HT_ 40 50 (bm 57 2199023255551) ?_
          refine pU HT_ 41 51 (bm 57 4398046511103) ?_
          refine pU HT_ 42 52 (bm 57 8796093022207) ?_
          refine pU HT_ 43 53 (bm 57 17592186044415) ?_
          refine pU HT_ 44 54 (bm 57 35184372088831) ?_
          refine pU HT_ 45 55 (bm 57 70368744177663) ?_
          refine pU HT_ 46 56 (bm 57 140737488355327) ?_
          refine pU HT_ 47 57 (bm 57 281474976710655) ?_
          refine pU HT_ 48 58 (bm 57 562949953421311) ?_
          refine pU HT_ 49 59 (bm 57 1125899906842623) ?_
          refine pU HT_ 50 60 (bm 57 2251799813685247) ?_
          refine pU HT_ 51 61 (bm 57 4503599627370495) ?_
          refine pU HT_ 52 62 (bm 57 9007199254740991) ?_
          refine pU HT_ 53 63 (bm 57 18014398509481983) ?_
          refine pU HT_ 54 64 (bm 57 36028797018963967) ?_
          refine pU HT_ 55 65 (bm 57 72057594037927935) ?_
          refine pT HT_ 56 66 (bm 57 144115188075855871) ?_
          refine done_ (done_of HT_.out (by kernel_rfl)) ?_
          try go_wp2
          go_ret
          exact ⟨by first | rfl | (simp [errW_none, errW_some] <;> rfl) | (simp [*, errW_none, errW_some] <;> rfl), by repeat (first | (with_reducible first | exact HB.out | apply below_alloc | apply pw_below_drewN | apply below_drew1) | exact HB.out)⟩
       ·
        rw [if_neg c7] at H
        have c7b0 : ((((rd_T41 l0 x3_1).f0).length : Int) == (((rd_T41 l0 0).f0).length : Int)) = false := beq_eq_false_iff_ne.mpr c7
        have c7b1 : ((((rd_T41 l0 x3_1).f0).length : Int) != (((rd_T41 l0 0).f0).length : Int)) = true := bne_iff_ne.mpr c7
        have c7b2 : (((rd_T41 l0 x3_1).f0).length == ((rd_T41 l0 0).f0).length) = false := by first | simpa using c7 | (simp at c7 ⊢; omega)
        obtain rfl := Option.some.inj H
        try go_wp2
        have n0_ := Aside0.mk (below_drew1 HB.out)
        clear HB
        have HB := n0_
        clear n0_
        have p145 : 0 ≤ (x3_1 : Int) := of_decide_eq_true (by first | (with_reducible assumption) | assumption)
        have q145 : x3_1 < (l0.length : Int) := of_decide_eq_true (by first | (with_reducible assumption) | assumption)
        obtain ⟨ad145, A145_0, c145_0, e145, hx145_0, hx145_1, hl145_0, hi145_0⟩ := at_T41 HR0.out x3_1 p145 q145
        have hw145_1 := hx145_1
        have hw145_0 := hx145_0
        cases e145
        replace hx145_0 := (HB.out.cell (World.block_lt_of_cell? w _ hx145_0)).trans hx145_0
        replace hx145_1 := (HB.out.cell (World.block_lt_of_cell? w _ hx145_1)).trans hx145_1
        have HR145_0 := Aside0.mk hi145_0
        have HC145_0 := Aside0.mk hl145_0
        clear hi145_0 hl145_0
        replace p145 := eq_true p145
        replace q145 := eq_true q145
        have p147 : 0 ≤ (x3_1 : Int) := of_decide_eq_true (by first | (with_reducible assumption) | assumption)
        have q147 : x3_1 < (l0.length : Int) := of_decide_eq_true (by first | (with_reducible assumption) | assumption)
        obtain ⟨ad147, A147_0, c147_0, e147, hx147_0, hx147_1, hl147_0, hi147_0⟩ := at_T41 HR0.out x3_1 p147 q147
        have hw147_1 := hx147_1
        have hw147_0 := hx147_0
        obtain rfl : ad145 = ad147 := (by injection e147)
        replace hx147_0 := (HB.out.cell (World.block_lt_of_cell? w _ hx147_0)).trans hx147_0
        replace hx147_1 := (HB.out.cell (World.block_lt_of_cell? w _ hx147_1)).trans hx147_1
        have HR147_0 := Aside0.mk hi147_0
        have HC147_0 := Aside0.mk hl147_0
        clear hi147_0 hl147_0
        replace p147 := eq_true p147
        replace q147 := eq_true q147
        have ea_ := Option.some.inj (hx145_0.symm.trans hx147_0)
        injection ea_ with ea_ en_ ec_
        subst ea_
        subst ec_
        clear en_
        have p148 : 0 ≤ (0 : Int) := (by omega)
        have q148 : 0 < (l0.length : Int) := of_decide_eq_true (by first | (with_reducible assumption) | assumption)
        obtain ⟨ad148, A148_0, c148_0, e148, hx148_0, hx148_1, hl148_0, hi148_0⟩ := at_T41 HR0.out 0 p148 q148
        have hw148_1 := hx148_1
        (try rw [show ((0 : Int)).toNat = 0 from rfl] at hw148_1)
        (try rw [show 0 * 2 = 0 from rfl] at hw148_1)
        (try rw [Addr.add_zero'] at hw148_1)
        have hw148_0 := hx148_0
        (try rw [show ((0 : Int)).toNat = 0 from rfl] at hw148_0)
        (try rw [show 0 * 2 = 0 from rfl] at hw148_0)
        (try rw [Addr.add_zero'] at hw148_0)
        obtain rfl : ad145 = ad148 := (by injection e148)
        have qi148 : (0 < l0.length) = True := eq_true (by omega)
        (try rw [show ((0 : Int)).toNat = 0 from rfl] at hx148_0)
        (try rw [show 0 * 2 = 0 from rfl] at hx148_0)
        (try rw [Addr.add_zero'] at hx148_0)
        (try rw [show ((0 : Int)).toNat = 0 from rfl] at hx148_1)
        (try rw [show 0 * 2 = 0 from rfl] at hx148_1)
        (try rw [Addr.add_zero'] at hx148_1)
        replace hx148_0 := (HB.out.cell (World.block_lt_of_cell? w _ hx148_0)).trans hx148_0
        replace hx148_1 := (HB.out.cell (World.block_lt_of_cell? w _ hx148_1)).trans hx148_1
        have HR148_0 := Aside0.mk hi148_0
        have HC148_0 := Aside0.mk hl148_0
        clear hi148_0 hl148_0
        replace p148 := eq_true p148
        replace q148 := eq_true q148
        refine start_ (n := 57) (S := fun w' => w'.cell? (ad145.add ((x3_1).toNat * 2)) = some (.slice A145_0 ((rd_T41 l0 x3_1).f0).length c145_0) ∧ w'.cell? ⟨(ad145.add ((x3_1).toNat * 2)).block, (ad145.add ((x3_1).toNat * 2)).off + 1, none⟩ = some (.int .i64 ((rd_T41 l0 x3_1).f1)) ∧ w'.cell? (ad145.add ((x3_1).toNat * 2)) = some (.slice A145_0 ((rd_T41 l0 x3_1).f0).length c145_0) ∧ w'.cell? ⟨(ad145.add ((x3_1).toNat * 2)).block, (ad145.add ((x3_1).toNat * 2)).off + 1, none⟩ = some (.int .i64 ((rd_T41 l0 x3_1).f1)) ∧ w'.cell? ad145 = some (.slice A148_0 ((rd_T41 l0 0).f0).length c148_0) ∧ w'.cell? ⟨ad145.block, ad145.off + 1, none⟩ = some (.int .i64 ((rd_T41 l0 0).f1))) (ds := []) (Array.replicate 57 false) (by kernel_rfl) rfl rfl ⟨((HB.out.cell (World.block_lt_of_cell? w _ hw145_0)).trans hw145_0), ((HB.out.cell (World.block_lt_of_cell? w _ hw145_1)).trans hw145_1), ((HB.out.cell (World.block_lt_of_cell? w _ hw147_0)).trans hw147_0), ((HB.out.cell (World.block_lt_of_cell? w _ hw147_1)).trans hw147_1), ((HB.out.cell (World.block_lt_of_cell? w _ hw148_0)).trans hw148_0), ((HB.out.cell (World.block_lt_of_cell? w _ hw148_1)).trans hw148_1)⟩ (fun hHeld => ?_); refine with_tabW spec_validZSet.tab4 spec_validZSet.bits4 (fun HT_ HW_ => ?_)
        generalize wr.drew = w22 at HB HR145_0 HR147_0 HR148_0 hx145_0 hx145_1 hx147_0 hx147_1 hx148_0 hx148_1 hHeld ⊢
        refine pT HT_ 0 10 (bm 57 1) ?_
        refine pT HT_ 1 11 (bm 57 3) ?_
        refine pT HT_ 2 12 (bm 57 7) ?_
        refine pT HT_ 3 13 (bm 57 15) ?_
        refine tT HT_ HW_ hHeld 4 14 (bm 57 31) ?_
        refine one_ (i := 5) (N := some 15) (bm 57 63) rfl rfl (one_of HT_.out (by kernel_rfl)) (by decide) (fun K hK => ?_)
        refine goes_ Try.func79 (by kernel_rfl) rfl #[.slice A145_0 ((rd_T41 l0 x3_1).f0).length c145_0] (by rfl) rfl rfl (by (try simp only [List.map_toArray, List.map_cons, List.map_nil]); first | done | rfl | (simp only [List.length_drop, List.length_take]; rfl)) ?_
        with_reducible refine (spec_validRow.calls k1 _ _ ((rd_T41 l0 x3_1).f0) true _ ?side1 ?side2 A4.out).mono ?_
        (case side1 => repeat (first | exact (Kd.C_below HR145_0.out HB.out) | (with_reducible refine Kd.C_alloc ?_ _) | (with_reducible refine Kd.C_drewN ?_ _) | (with_reducible refine Kd.C_drew ?_)))
        (case side2 => exact HC145_0.out)
        rintro e w' ⟨rfl, ⟨nd, rfl⟩⟩
        refine ⟨_, rfl, ?_⟩
        refine hK.out _ _ ⟨((HB.out.cell (World.block_lt_of_cell? w _ hw145_0)).trans hw145_0), ((HB.out.cell (World.block_lt_of_cell? w _ hw145_1)).trans hw145_1), ((HB.out.cell (World.block_lt_of_cell? w _ hw147_0)).trans hw147_0), ((HB.out.cell (World.block_lt_of_cell? w _ hw147_1)).trans hw147_1), ((HB.out.cell (World.block_lt_of_cell? w _ hw148_0)).trans hw148_0), ((HB.out.cell (World.block_lt_of_cell? w _ hw148_1)).trans hw148_1)⟩ (fun hHeld => ?_)
        clear hK K
        refine nS 15 ?_
        refine pT HT_ 6 16 (bm 57 127) ?_
        refine pT HT_ 7 17 (bm 57 255) ?_
        refine pT HT_ 8 18 (bm 57 511) ?_
        refine pT HT_ 9 19 (bm 57 1023) ?_
        refine pT HT_ 10 20 (bm 57 2047) ?_
        refine pT HT_ 11 21 (bm 57 4095) ?_
        refine pT HT_ 14 24 (bm 57 20479) ?_
        refine pT HT_ 15 25 (bm 57 53247) ?_
        refine pT HT_ 16 26 (bm 57 118783) ?_
        refine tT HT_ HW_ hHeld 12 22 (bm 57 122879) ?_
        refine pT HT_ 13 23 (bm 57 131071) ?_
        refine tT HT_ HW_ hHeld 17 27 (bm 57 262143) ?_
        refine pT HT_ 18 28 (bm 57 524287) ?_
        refine pT HT_ 19 29 (bm 57 1048575) ?_
        refine pT HT_ 20 30 (bm 57 2097151) ?_
        refine pT HT_ 21 31 (bm 57 4194303) ?_
        refine pU HT_ 22 32 (bm 57 8388607) ?_
        refine pU HT_ 23 33 (bm 57 16777215) ?_
        refine pU HT_ 24 34 (bm 57 33554431) ?_
        refine pU HT_ 25 35 (bm 57 67108863) ?_
        refine pU HT_ 26 36 (bm 57 134217727) ?_
        refine pU HT_ 27 37 (bm 57 268435455) ?_
        refine pT HT_ 28 38 (bm 57 536870911) ?_
        refine pT HT_ 29 39 (bm 57 1073741823) ?_
        refine pU HT_ 30 40 (bm 57 2147483647) ?_
        refine pU HT_ 31 41 (bm 57 4294967295) ?_
        refine pU HT_ 32 42 (bm 57 8589934591) ?_
        refine pU HT_ 33 43 (bm 57 17179869183) ?_
        refine pU HT_ 34 44 (bm 57 34359738367) ?_
        refine pU HT_ 35 45 (bm 57 68719476735) ?_
        refine pU HT_ 36 46 (bm 57 137438953471) ?_
        refine pT HT_ 37 47 (bm 57 274877906943) ?_
        refine pT HT_ 38 48 (bm 57 549755813887) ?_
        refine pU HT_ 39 49 (bm 57 1099511627775) ?_
        refine pU HT_ 40 50 (bm 57 2199023255551) ?_
        refine pU HT_ 41 51 (bm 57 4398046511103) ?_
        refine pU HT_ 42 52 (bm 57 8796093022207) ?_
        refine pU HT_ 43 53 (bm 57 17592186044415) ?_
        refine pU HT_ 44 54 (bm 57 35184372088831) ?_
        refine pU HT_ 45 55 (bm 57 70368744177663) ?_
        refine pU HT_ 46 56 (bm 57 140737488355327) ?_
        refine pU HT_ 47 57 (bm 57 281474976710655) ?_
        refine pU HT_ 48 58 (bm 57 562949953421311) ?_
        refine pU HT_ 49 59 (bm 57 1125899906842623) ?_
        refine pU HT_ 50 60 (bm 57 2251799813685247) ?_
        refine pU HT_ 51 61 (bm 57 4503599627370495) ?_
        refine pU HT_ 52 62 (bm 57 9007199254740991) ?_
        refine pU HT_ 53 63 (bm 57 18014398509481983) ?_
        refine pU HT_ 54 64 (bm 57 36028797018963967) ?_
        refine pU HT_ 55 65 (bm 57 72057594037927935) ?_
        refine pT HT_ 56 66 (bm 57 144115188075855871) ?_
        refine done_ (done_of HT_.out (by kernel_rfl)) ?_
        try go_wp2
        go_ret
        exact ⟨by first | rfl | (simp [errW_none, errW_some] <;> rfl) | (simp [*, errW_none, errW_some] <;> rfl), by repeat (first | (with_reducible first | exact HB.out | apply below_alloc | apply pw_below_drewN | apply below_drew1) | exact HB.out)⟩
      ·
       rw [if_neg c6] at H
       exact absurd H (by simp)
     ·
      replace c5 := Bool.eq_false_iff.mpr c5
      subst c5
      have H1 : (some false) = some r := by rw [if_neg (show ¬ (false = true) by decide)] at H; exact H
      clear H
      have H := H1
      clear H1
      obtain rfl := Option.some.inj H
      try go_wp2
      have n0_ := Aside0.mk (below_drew1 HB.out)
      clear HB
      have HB := n0_
      clear n0_
      have p145 : 0 ≤ (x3_1 : Int) := of_decide_eq_true (by first | (with_reducible assumption) | assumption)
      have q145 : x3_1 < (l0.length : Int) := of_decide_eq_true (by first | (with_reducible assumption) | assumption)
      obtain ⟨ad145, A145_0, c145_0, e145, hx145_0, hx145_1, hl145_0, hi145_0⟩ := at_T41 HR0.out x3_1 p145 q145
      have hw145_1 := hx145_1
      have hw145_0 := hx145_0
      cases e145
      replace hx145_0 := (HB.out.cell (World.block_lt_of_cell? w _ hx145_0)).trans hx145_0
      replace hx145_1 := (HB.out.cell (World.block_lt_of_cell? w _ hx145_1)).trans hx145_1
      have HR145_0 := Aside0.mk hi145_0
      have HC145_0 := Aside0.mk hl145_0
      clear hi145_0 hl145_0
      replace p145 := eq_true p145
      replace q145 := eq_true q145
      refine start_ (n := 57) (S := fun w' => w'.cell? (ad145.add ((x3_1).toNat * 2)) = some (.slice A145_0 ((rd_T41 l0 x3_1).f0).length c145_0) ∧ w'.cell? ⟨(ad145.add ((x3_1).toNat * 2)).block, (ad145.add ((x3_1).toNat * 2)).off + 1, none⟩ = some (.int .i64 ((rd_T41 l0 x3_1).f1))) (ds := []) (Array.replicate 57 false) (by kernel_rfl) rfl rfl ⟨((HB.out.cell (World.block_lt_of_cell? w _ hw145_0)).trans hw145_0), ((HB.out.cell (World.block_lt_of_cell? w _ hw145_1)).trans hw145_1)⟩ (fun hHeld => ?_); refine with_tabW spec_validZSet.tab4 spec_validZSet.bits4 (fun HT_ HW_ => ?_)
      generalize wr.drew = w23 at HB HR145_0 hx145_0 hx145_1 hHeld ⊢
      refine pT HT_ 0 10 (bm 57 1) ?_
      refine pT HT_ 1 11 (bm 57 3) ?_
      refine pT HT_ 2 12 (bm 57 7) ?_
      refine pT HT_ 3 13 (bm 57 15) ?_
      refine tT HT_ HW_ hHeld 4 14 (bm 57 31) ?_
      refine one_ (i := 5) (N := some 15) (bm 57 63) rfl rfl (one_of HT_.out (by kernel_rfl)) (by decide) (fun K hK => ?_)
      refine goes_ Try.func79 (by kernel_rfl) rfl #[.slice A145_0 ((rd_T41 l0 x3_1).f0).length c145_0] (by rfl) rfl rfl (by (try simp only [List.map_toArray, List.map_cons, List.map_nil]); first | done | rfl | (simp only [List.length_drop, List.length_take]; rfl)) ?_
      with_reducible refine (spec_validRow.calls k1 _ _ ((rd_T41 l0 x3_1).f0) false _ ?side1 ?side2 A4.out).mono ?_
      (case side1 => repeat (first | exact (Kd.C_below HR145_0.out HB.out) | (with_reducible refine Kd.C_alloc ?_ _) | (with_reducible refine Kd.C_drewN ?_ _) | (with_reducible refine Kd.C_drew ?_)))
      (case side2 => exact HC145_0.out)
      rintro e w' ⟨rfl, ⟨nd, rfl⟩⟩
      refine ⟨_, rfl, ?_⟩
      refine hK.out _ _ ⟨((HB.out.cell (World.block_lt_of_cell? w _ hw145_0)).trans hw145_0), ((HB.out.cell (World.block_lt_of_cell? w _ hw145_1)).trans hw145_1)⟩ (fun hHeld => ?_)
      clear hK K
      refine nS 15 ?_
      refine pT HT_ 6 16 (bm 57 127) ?_
      refine pT HT_ 7 17 (bm 57 255) ?_
      refine pU HT_ 8 18 (bm 57 511) ?_
      refine pU HT_ 9 19 (bm 57 1023) ?_
      refine pU HT_ 10 20 (bm 57 2047) ?_
      refine pU HT_ 11 21 (bm 57 4095) ?_
      refine pU HT_ 12 22 (bm 57 8191) ?_
      refine pU HT_ 13 23 (bm 57 16383) ?_
      refine pU HT_ 14 24 (bm 57 32767) ?_
      refine pU HT_ 15 25 (bm 57 65535) ?_
      refine pU HT_ 16 26 (bm 57 131071) ?_
      refine pU HT_ 17 27 (bm 57 262143) ?_
      refine pU HT_ 18 28 (bm 57 524287) ?_
      refine pU HT_ 19 29 (bm 57 1048575) ?_
      refine pT HT_ 20 30 (bm 57 2097151) ?_
      refine pT HT_ 21 31 (bm 57 4194303) ?_
      refine pU HT_ 22 32 (bm 57 8388607) ?_
      refine pU HT_ 23 33 (bm 57 16777215) ?_
      refine pU HT_ 24 34 (bm 57 33554431) ?_
      refine pU HT_ 25 35 (bm 57 67108863) ?_
      refine pU HT_ 26 36 (bm 57 134217727) ?_
      refine pU HT_ 27 37 (bm 57 268435455) ?_
      refine pT HT_ 28 38 (bm 57 536870911) ?_
      refine pT HT_ 29 39 (bm 57 1073741823) ?_
      refine pU HT_ 30 40 (bm 57 2147483647) ?_
      refine pU HT_ 31 41 (bm 57 4294967295) ?_
      refine pU HT_ 32 42 (bm 57 8589934591) ?_
      refine pU HT_ 33 43 (bm 57 17179869183) ?_
      refine pU HT_ 34 44 (bm 57 34359738367) ?_
      refine pU HT_ 35 45 (bm 57 68719476735) ?_
      refine pU HT_ 36 46 (bm 57 137438953471) ?_
      refine pT HT_ 37 47 (bm 57 274877906943) ?_
      refine pT HT_ 38 48 (bm 57 549755813887) ?_
      refine pU HT_ 39 49 (bm 57 1099511627775) ?_
      refine pU HT_ 40 50 (bm 57 2199023255551) ?_
      refine pU HT_ 41 51 (bm 57 4398046511103) ?_
      refine pU HT_ 42 52 (bm 57 8796093022207) ?_
      refine pU HT_ 43 53 (bm 57 17592186044415) ?_
      refine pU HT_ 44 54 (bm 57 35184372088831) ?_
      refine pU HT_ 45 55 (bm 57 70368744177663) ?_
      refine pU HT_ 46 56 (bm 57 140737488355327) ?_
      refine pU HT_ 47 57 (bm 57 281474976710655) ?_
      refine pU HT_ 48 58 (bm 57 562949953421311) ?_
      refine pU HT_ 49 59 (bm 57 1125899906842623) ?_
      refine pU HT_ 50 60 (bm 57 2251799813685247) ?_
      refine pU HT_ 51 61 (bm 57 4503599627370495) ?_
      refine pU HT_ 52 62 (bm 57 9007199254740991) ?_
      refine pU HT_ 53 63 (bm 57 18014398509481983) ?_
      refine pU HT_ 54 64 (bm 57 36028797018963967) ?_
      refine pU HT_ 55 65 (bm 57 72057594037927935) ?_
      refine pT HT_ 56 66 (bm 57 144115188075855871) ?_
      refine done_ (done_of HT_.out (by kernel_rfl)) ?_
      try go_wp2
      go_ret
      exact ⟨by first | rfl | (simp [errW_none, errW_some] <;> rfl) | (simp [*, errW_none, errW_some] <;> rfl), by repeat (first | (with_reducible first | exact HB.out | apply below_alloc | apply pw_below_drewN | apply below_drew1) | exact HB.out)⟩
    ·
     rw [if_neg c3] at H
     exact absurd H (by simp)
   ·
    rw [if_neg c2] at H
    have c2b0 : decide (x3_1 < (l0.length : Int)) = false := decide_eq_false c2
    clear c2
    obtain rfl := Option.some.inj H
    go_wp2
    go_ret
    exact ⟨by first | rfl | (simp [errW_none, errW_some] <;> rfl) | (simp [*, errW_none, errW_some] <;> rfl), by repeat (first | (with_reducible first | exact HB.out | apply below_alloc | apply pw_below_drewN | apply below_drew1) | exact HB.out)⟩

end Go.Proofs.Ythmolcmgfhjegaa.PFnExactNegate
