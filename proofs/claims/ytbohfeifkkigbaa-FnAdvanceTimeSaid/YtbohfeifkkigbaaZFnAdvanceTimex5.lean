/- Functions of the law FnAdvanceTime: each as a plain Lean function ('.f'), and that the Go code comes to what it answers ('.calls'); put together by programs of this repo (wip/tools) out of the kit's print. No condition. -/
import Derived.Test.YtbohfeifkkigbaaZFnAdvanceTimex0
import Derived.Test.YtbohfeifkkigbaaZFnAdvanceTimex4
namespace Go.Proofs.Ytbohfeifkkigbaa.PFnAdvanceTime
open Go.RowKit Go.Proofs.YtbohfeifkkigbaaW.PrintWords Go.Proofs.YtbohfeifkkigbaaW.PrintLast Go.Proofs.YtbohfeifkkigbaaW.PrintMore Go.Proofs.Ytbohfeifkkigbaa.Sq
attribute [local go_sem] max2_int min2_int max_two min_two max_three min_three max_four min_four   -- for this text's walks alone
set_option linter.unusedVariables false
set_option linter.unusedSimpArgs false

/-! ### spec_validFrontier: function 54 -/
mutual
def spec_validFrontier.l0 : Nat → List (S38) → Int → Option (Bool)
 | 0, _, _ => none
 | k + 1, x0, x3 => if x3 < (x0.length : Int) then (if 0 ≤ x3 then ((spec_validTime.f ((rd_T38 x0 x3).f0) ((rd_T38 x0 x3).f1)).bind fun t130 => (if t130 = true then (if x3 > 0 then (if 0 ≤ (wrap64 (x3 - 1)) then (if (wrap64 (x3 - 1)) < (x0.length : Int) then ((spec_timeBefore.f ((rd_T38 x0 (wrap64 (x3 - 1))).f0) ((rd_T38 x0 (wrap64 (x3 - 1))).f1) ((rd_T38 x0 x3).f0) ((rd_T38 x0 x3).f1)).bind fun t133 => (spec_validFrontier.j1 k x0 x3 (!t133))) else (none)) else (none)) else (spec_validFrontier.j1 k x0 x3 false)) else (spec_validFrontier.j1 k x0 x3 true))) else (none)) else (some (decide ((x0.length : Int) ≤ 100)))
def spec_validFrontier.j1 : Nat → List (S38) → Int → Bool → Option (Bool)
 | 0, _, _, _ => none
 | k + 1, x0, x3, x33 => if x33 = true then (some false) else (spec_validFrontier.l1 k x0 x3 0)
def spec_validFrontier.l1 : Nat → List (S38) → Int → Int → Option (Bool)
 | 0, _, _, _ => none
 | k + 1, x0, x3, x4 => if x4 < x3 then (if 0 ≤ x4 then (if x4 < (x0.length : Int) then (if 0 ≤ x3 then (if x3 < (x0.length : Int) then ((spec_timeLessEqual.f ((rd_T38 x0 x4).f0) ((rd_T38 x0 x4).f1) ((rd_T38 x0 x3).f0) ((rd_T38 x0 x3).f1)).bind fun t136 => (if t136 = true then (some false) else (spec_validFrontier.l1 k x0 x3 (wrap64 (x4 + 1))))) else (none)) else (none)) else (none)) else (none)) else (spec_validFrontier.l0 k x0 (wrap64 (x3 + 1)))
end
def spec_validFrontier.f (k : Nat) (l0 : List (S38)) : Option (Bool) := spec_validFrontier.l0 k l0 0
theorem spec_validFrontier.mono_l : ∀ k, (∀ y0 y1, LeO (spec_validFrontier.l0 k y0 y1) (spec_validFrontier.l0 (k + 1) y0 y1)) ∧ (∀ y0 y1 y2, LeO (spec_validFrontier.j1 k y0 y1 y2) (spec_validFrontier.j1 (k + 1) y0 y1 y2)) ∧ (∀ y0 y1 y2, LeO (spec_validFrontier.l1 k y0 y1 y2) (spec_validFrontier.l1 (k + 1) y0 y1 y2))
 | 0 => ⟨fun _ _ r h => by simp [spec_validFrontier.l0] at h, fun _ _ _ r h => by simp [spec_validFrontier.j1] at h, fun _ _ _ r h => by simp [spec_validFrontier.l1] at h⟩
 | k + 1 => by
  obtain ⟨ih0, ih1, ih2⟩ := spec_validFrontier.mono_l k
  refine ⟨?_, ?_, ?_⟩
  ·
   intro y0 y1
   unfold spec_validFrontier.l0
   repeat' first
   | (with_reducible exact ih0 _ _)
   | (with_reducible exact ih1 _ _ _)
   | (with_reducible exact ih2 _ _ _)
   | (with_reducible exact LeO.refl _)
   | (with_reducible exact LeO.none _)
   | (with_reducible refine LeO.ite ?_ ?_)
   | (with_reducible refine LeO.bind ?_ (fun _ => ?_))
   | exact ih0 _ _
   | exact ih1 _ _ _
   | exact ih2 _ _ _
   | exact LeO.none _
   | refine LeO.ite ?_ ?_
   | refine LeO.bind ?_ (fun _ => ?_)
  ·
   intro y0 y1 y2
   unfold spec_validFrontier.j1
   repeat' first
   | (with_reducible exact ih0 _ _)
   | (with_reducible exact ih1 _ _ _)
   | (with_reducible exact ih2 _ _ _)
   | (with_reducible exact LeO.refl _)
   | (with_reducible exact LeO.none _)
   | (with_reducible refine LeO.ite ?_ ?_)
   | (with_reducible refine LeO.bind ?_ (fun _ => ?_))
   | exact ih0 _ _
   | exact ih1 _ _ _
   | exact ih2 _ _ _
   | exact LeO.none _
   | refine LeO.ite ?_ ?_
   | refine LeO.bind ?_ (fun _ => ?_)
  ·
   intro y0 y1 y2
   unfold spec_validFrontier.l1
   repeat' first
   | (with_reducible exact ih0 _ _)
   | (with_reducible exact ih1 _ _ _)
   | (with_reducible exact ih2 _ _ _)
   | (with_reducible exact LeO.refl _)
   | (with_reducible exact LeO.none _)
   | (with_reducible refine LeO.ite ?_ ?_)
   | (with_reducible refine LeO.bind ?_ (fun _ => ?_))
   | exact ih0 _ _
   | exact ih1 _ _ _
   | exact ih2 _ _ _
   | exact LeO.none _
   | refine LeO.ite ?_ ?_
   | refine LeO.bind ?_ (fun _ => ?_)
theorem spec_validFrontier.mono : ∀ a0 k, LeO (spec_validFrontier.f k a0) (spec_validFrontier.f (k + 1) a0) := by
 intro a0 k
 obtain ⟨ih0, ih1, ih2⟩ := spec_validFrontier.mono_l k
 unfold spec_validFrontier.f
 repeat' first
   | (with_reducible exact ih0 _ _)
   | (with_reducible exact ih1 _ _ _)
   | (with_reducible exact ih2 _ _ _)
   | (with_reducible exact LeO.refl _)
   | (with_reducible exact LeO.none _)
   | (with_reducible refine LeO.ite ?_ ?_)
   | (with_reducible refine LeO.bind ?_ (fun _ => ?_))
   | exact ih0 _ _
   | exact ih1 _ _ _
   | exact ih2 _ _ _
   | exact LeO.none _
   | refine LeO.ite ?_ ?_
   | refine LeO.bind ?_ (fun _ => ?_)
def spec_validFrontier.T4 : Bool × List (List Nat × List Nat) := (true, [([], []), ([], []), ([0, 1], [0, 1]), ([2], [2]), ([3], [3]), ([4], [4]), ([5, 4], [5]), ([6], [6]), ([7, 6], [6, 7]), ([8, 6, 6], [6, 8]), ([9], [9]), ([9], [9]), ([11, 9], [9, 11]), ([10, 12, 9], [9, 10, 12]), ([13, 9], [9, 13]), ([9], [9]), ([9], [9]), ([15, 16, 9], [9, 15, 16]), ([17, 9], [9, 17]), ([14, 18, 9, 9], [9, 14, 18]), ([19, 9], [9, 19]), ([9, 20, 6], [6, 9, 20]), ([6, 21], [6, 21])])
def spec_validFrontier.B4 : List Nat := [0, 0, 3, 7, 15, 31, 63, 127, 255, 511, 1023, 1023, 3071, 8191, 16383, 1023, 1023, 99327, 230399, 524287, 1048575, 2097151, 4194303]
theorem spec_validFrontier.tab4 : rtab .any (opsOf Try.f54 4) = spec_validFrontier.T4 := by kernel_rfl
theorem spec_validFrontier.bits4 : waitsOk spec_validFrontier.T4.2 spec_validFrontier.B4 = true := by kernel_rfl
def spec_validFrontier.T9 : Bool × List (List Nat × List Nat) := (true, [([], []), ([], []), ([0, 1], [0, 1]), ([2], [2]), ([], []), ([], []), ([4, 5], [4, 5]), ([6], [6]), ([3, 7], [3, 7])])
def spec_validFrontier.B9 : List Nat := [0, 0, 3, 7, 0, 0, 48, 112, 255]
theorem spec_validFrontier.tab9 : rtab .any (opsOf Try.f54 9) = spec_validFrontier.T9 := by kernel_rfl
theorem spec_validFrontier.bits9 : waitsOk spec_validFrontier.T9.2 spec_validFrontier.B9 = true := by kernel_rfl
set_option maxHeartbeats 8000000 in
set_option maxRecDepth 100000 in
theorem spec_validFrontier.calls (k : Nat) (A0 : Option Addr) (c0 : Nat) (l0 : List (S38)) (r : Bool) (w : World) (hr0 : Kd.C k38 w A0 l0.length l0) (hc0 : l0.length ≤ c0) (h : spec_validFrontier.f k l0 = some r) :
  Calls Try.prog 54 #[.slice A0 l0.length c0] w fun e w' => e = .returned (.bool r) ∧ Below w.heap.size w w' := by
 have hu38 := Try.underlying38
 have HR0 := Aside0.mk hr0
 have HC0 := Aside0.mk hc0
 clear hr0 hc0
 have HB := Aside0.mk (Below.refl w.heap.size w)
 have H : (spec_validFrontier.l0 k l0 0) = some r := h
 clear h
 have H' := Aside0.mk H
 clear H
 go_enter Try.func54, Try.ntmps54
 go_wp2
 go_loopg [3] k (fun kq v3 w' => ∃ (x3_1 : Int), v3 = .int .i64 x3_1 ∧ Aside0 (spec_validFrontier.l0 kq l0 x3_1 = some r) ∧ Aside0 (kq ≤ k) ∧ Aside0 (Below w.heap.size w w'))
 case atStart => exact ⟨(0), (by first | rfl | (simp; done) | (simp [*]; done)), H', ⟨Nat.le_refl _⟩, ⟨by repeat (first | (with_reducible first | exact HB.out | apply below_alloc | apply pw_below_drewN | apply below_drew1) | exact HB.out)⟩⟩
 case round =>
  clear H'
  obtain ⟨x3_1, rfl, HA, HK1, HB⟩ := hrel
  cases gk with
  | zero => exact absurd HA.out (by simp [spec_validFrontier.l0])
  | succ k1 =>
   have H := HA.out
   clear HA
   simp only [spec_validFrontier.l0] at H
   by_cases c2 : x3_1 < (l0.length : Int)
   ·
    rw [if_pos c2] at H
    have c2b0 : decide (x3_1 < (l0.length : Int)) = true := decide_eq_true c2
    clear c2
    have HC3 := Aside0.mk H
    clear H
    go_upto_region 4 with (fail)
    go_cut [33] (fun v33 wc => ∃ (kq : Nat) (x33_2 : Bool), v33 = .bool x33_2 ∧ Aside0 (spec_validFrontier.j1 kq l0 x3_1 x33_2 = some r) ∧ Aside0 (kq ≤ k1) ∧ Aside0 (Below w.heap.size w wc))
    case first =>
     have H := HC3.out
     clear HC3
     by_cases c4 : 0 ≤ x3_1
     ·
      rw [if_pos c4] at H
      have c4b0 : decide (0 ≤ x3_1) = true := decide_eq_true c4
      clear c4
      (first | rw [c4b0] | (simp only [i64_w, i32_w]; rw [c4b0]) | skip)
      replace H := Option.bind_eq_some_iff.mp H
      obtain ⟨t130, A50, H⟩ := H
      replace H : (if t130 = true then (if x3_1 > 0 then (if 0 ≤ (wrap64 (x3_1 - 1)) then (if (wrap64 (x3_1 - 1)) < (l0.length : Int) then ((spec_timeBefore.f ((rd_T38 l0 (wrap64 (x3_1 - 1))).f0) ((rd_T38 l0 (wrap64 (x3_1 - 1))).f1) ((rd_T38 l0 x3_1).f0) ((rd_T38 l0 x3_1).f1)).bind fun t133 => (spec_validFrontier.j1 k1 l0 x3_1 (!t133))) else (none)) else (none)) else (spec_validFrontier.j1 k1 l0 x3_1 false)) else (spec_validFrontier.j1 k1 l0 x3_1 true)) = some r := H
      have A5 := Aside0.mk A50
      clear A50
      by_cases c6 : t130 = true
      ·
       subst c6
       have H1 : (if x3_1 > 0 then (if 0 ≤ (wrap64 (x3_1 - 1)) then (if (wrap64 (x3_1 - 1)) < (l0.length : Int) then ((spec_timeBefore.f ((rd_T38 l0 (wrap64 (x3_1 - 1))).f0) ((rd_T38 l0 (wrap64 (x3_1 - 1))).f1) ((rd_T38 l0 x3_1).f0) ((rd_T38 l0 x3_1).f1)).bind fun t133 => (spec_validFrontier.j1 k1 l0 x3_1 (!t133))) else (none)) else (none)) else (spec_validFrontier.j1 k1 l0 x3_1 false)) = some r := by rw [if_pos rfl] at H; exact H
       clear H
       have H := H1
       clear H1
       by_cases c7 : x3_1 > 0
       ·
        rw [if_pos c7] at H
        have c7b0 : decide (0 < x3_1) = true := decide_eq_true c7
        clear c7
        obtain ⟨ji8, hji8⟩ : ∃ j_ : Int, (wrap64 (x3_1 - 1)) = j_ := ⟨_, rfl⟩
        replace H : (if 0 ≤ (ji8) then (if (ji8) < (l0.length : Int) then ((spec_timeBefore.f ((rd_T38 l0 (ji8)).f0) ((rd_T38 l0 (ji8)).f1) ((rd_T38 l0 x3_1).f0) ((rd_T38 l0 x3_1).f1)).bind fun t133 => (spec_validFrontier.j1 k1 l0 x3_1 (!t133))) else (none)) else (none)) = some r := by first | (rw [hji8] at H; exact H) | (simp only [hji8] at H ⊢; exact H)
        (try rw [hji8] at A5)
        have hji8w : (IntKind.i64.wrap (x3_1 - 1)) = ji8 := (i64_w _).trans hji8
        by_cases c9 : 0 ≤ (ji8)
        ·
         rw [if_pos c9] at H
         have c9b0 : decide (0 ≤ (ji8)) = true := decide_eq_true c9
         clear c9
         by_cases c10 : (ji8) < (l0.length : Int)
         ·
          rw [if_pos c10] at H
          have c10b0 : decide ((ji8) < (l0.length : Int)) = true := decide_eq_true c10
          clear c10
          replace H := Option.bind_eq_some_iff.mp H
          obtain ⟨t133, A110, H⟩ := H
          replace H : (spec_validFrontier.j1 k1 l0 x3_1 (!t133)) = some r := H
          have A11 := Aside0.mk A110
          clear A110
          have H' := Aside0.mk H
          clear H
          try go_wp2
          have n0_ := Aside0.mk (below_drew1 HB.out)
          clear HB
          have HB := n0_
          clear n0_
          have p129 : 0 ≤ (x3_1 : Int) := of_decide_eq_true (by first | (with_reducible assumption) | assumption)
          have q129 : x3_1 < (l0.length : Int) := of_decide_eq_true (by first | (with_reducible assumption) | assumption)
          obtain ⟨ad129, e129, hx129_0, hx129_1⟩ := at_T38 HR0.out x3_1 p129 q129
          have hw129_1 := hx129_1
          have hw129_0 := hx129_0
          cases e129
          replace hx129_0 := (HB.out.cell (World.block_lt_of_cell? w _ hx129_0)).trans hx129_0
          replace hx129_1 := (HB.out.cell (World.block_lt_of_cell? w _ hx129_1)).trans hx129_1
          replace p129 := eq_true p129
          replace q129 := eq_true q129
          have p131 : 0 ≤ ((ji8) : Int) := of_decide_eq_true (by first | (with_reducible assumption) | assumption)
          have q131 : (ji8) < (l0.length : Int) := of_decide_eq_true (by first | (with_reducible assumption) | assumption)
          obtain ⟨ad131, e131, hx131_0, hx131_1⟩ := at_T38 HR0.out (ji8) p131 q131
          have hw131_1 := hx131_1
          have hw131_0 := hx131_0
          obtain rfl : ad129 = ad131 := (by injection e131)
          replace hx131_0 := (HB.out.cell (World.block_lt_of_cell? w _ hx131_0)).trans hx131_0
          replace hx131_1 := (HB.out.cell (World.block_lt_of_cell? w _ hx131_1)).trans hx131_1
          replace p131 := eq_true p131
          replace q131 := eq_true q131
          have p132 : 0 ≤ (x3_1 : Int) := of_decide_eq_true (by first | (with_reducible assumption) | assumption)
          have q132 : x3_1 < (l0.length : Int) := of_decide_eq_true (by first | (with_reducible assumption) | assumption)
          obtain ⟨ad132, e132, hx132_0, hx132_1⟩ := at_T38 HR0.out x3_1 p132 q132
          have hw132_1 := hx132_1
          have hw132_0 := hx132_0
          obtain rfl : ad129 = ad132 := (by injection e132)
          replace hx132_0 := (HB.out.cell (World.block_lt_of_cell? w _ hx132_0)).trans hx132_0
          replace hx132_1 := (HB.out.cell (World.block_lt_of_cell? w _ hx132_1)).trans hx132_1
          replace p132 := eq_true p132
          replace q132 := eq_true q132
          refine start_ (n := 23) (S := fun w' => w'.cell? (ad129.add ((x3_1).toNat * 2)) = some (.int .i64 ((rd_T38 l0 x3_1).f0)) ∧ w'.cell? ⟨(ad129.add ((x3_1).toNat * 2)).block, (ad129.add ((x3_1).toNat * 2)).off + 1, none⟩ = some (.int .i64 ((rd_T38 l0 x3_1).f1)) ∧ w'.cell? (ad129.add (((ji8)).toNat * 2)) = some (.int .i64 ((rd_T38 l0 (ji8)).f0)) ∧ w'.cell? ⟨(ad129.add (((ji8)).toNat * 2)).block, (ad129.add (((ji8)).toNat * 2)).off + 1, none⟩ = some (.int .i64 ((rd_T38 l0 (ji8)).f1)) ∧ w'.cell? (ad129.add ((x3_1).toNat * 2)) = some (.int .i64 ((rd_T38 l0 x3_1).f0)) ∧ w'.cell? ⟨(ad129.add ((x3_1).toNat * 2)).block, (ad129.add ((x3_1).toNat * 2)).off + 1, none⟩ = some (.int .i64 ((rd_T38 l0 x3_1).f1))) (ds := []) (Array.replicate 23 false) (by kernel_rfl) rfl rfl ⟨((HB.out.cell (World.block_lt_of_cell? w _ hw129_0)).trans hw129_0), ((HB.out.cell (World.block_lt_of_cell? w _ hw129_1)).trans hw129_1), ((HB.out.cell (World.block_lt_of_cell? w _ hw131_0)).trans hw131_0), ((HB.out.cell (World.block_lt_of_cell? w _ hw131_1)).trans hw131_1), ((HB.out.cell (World.block_lt_of_cell? w _ hw132_0)).trans hw132_0), ((HB.out.cell (World.block_lt_of_cell? w _ hw132_1)).trans hw132_1)⟩ (fun hHeld => ?_); refine with_tabW spec_validFrontier.tab4 spec_validFrontier.bits4 (fun HT_ HW_ => ?_)
          generalize wr.drew = w12 at HB hx129_0 hx129_1 hx131_0 hx131_1 hx132_0 hx132_1 hHeld ⊢
          refine pT HT_ 0 11 (bm 23 1) ?_
          refine pT HT_ 1 12 (bm 23 3) ?_
          refine pT HT_ 2 13 (bm 23 7) ?_
          refine tT HT_ HW_ hHeld 3 14 (bm 23 15) ?_
          refine one_ (i := 4) (N := some 15) (bm 23 31) rfl rfl (one_of HT_.out (by kernel_rfl)) (by decide) (fun K hK => ?_)
          refine goes_ Try.func61 (by kernel_rfl) rfl #[.agg #[.int .i64 ((rd_T38 l0 x3_1).f0), .int .i64 ((rd_T38 l0 x3_1).f1)]] (by rfl) rfl rfl (by (try simp only [List.map_toArray, List.map_cons, List.map_nil]); first | done | rfl | (simp only [List.length_drop, List.length_take]; rfl)) ?_
          with_reducible refine (spec_validTime.calls ((rd_T38 l0 x3_1).f0) ((rd_T38 l0 x3_1).f1) true _ A5.out).mono ?_
          rintro e w13 ⟨rfl, hb⟩
          refine ⟨_, rfl, ?_⟩
          have n0_ := Aside0.mk (below_step (by repeat (first | (with_reducible first | exact HB.out | apply below_alloc | apply pw_below_drewN | apply below_drew1) | exact HB.out)) hb)
          clear HB
          have HB := n0_
          clear n0_
          (try clear hb)
          (try clear hb2)
          (try clear hk)
          (try clear hi)
          refine hK.out _ _ ⟨((HB.out.cell (World.block_lt_of_cell? w _ hw129_0)).trans hw129_0), ((HB.out.cell (World.block_lt_of_cell? w _ hw129_1)).trans hw129_1), ((HB.out.cell (World.block_lt_of_cell? w _ hw131_0)).trans hw131_0), ((HB.out.cell (World.block_lt_of_cell? w _ hw131_1)).trans hw131_1), ((HB.out.cell (World.block_lt_of_cell? w _ hw132_0)).trans hw132_0), ((HB.out.cell (World.block_lt_of_cell? w _ hw132_1)).trans hw132_1)⟩ (fun hHeld => ?_)
          clear hK K
          refine nS 15 ?_
          refine pT HT_ 5 16 (bm 23 63) ?_
          refine pT HT_ 6 17 (bm 23 127) ?_
          refine pT HT_ 7 18 (bm 23 255) ?_
          refine pT HT_ 8 19 (bm 23 511) ?_
          refine pT HT_ 9 20 (bm 23 1023) ?_
          refine pT HT_ 10 21 (bm 23 2047) ?_
          refine pT HT_ 11 22 (bm 23 4095) ?_
          refine pT HT_ 12 23 (bm 23 8191) ?_
          refine pT HT_ 13 24 (bm 23 16383) ?_
          refine pT HT_ 15 26 (bm 23 49151) ?_
          refine pT HT_ 16 27 (bm 23 114687) ?_
          refine pT HT_ 17 28 (bm 23 245759) ?_
          refine tT HT_ HW_ hHeld 14 25 (bm 23 262143) ?_
          refine tT HT_ HW_ hHeld 18 29 (bm 23 524287) ?_
          refine one_ (i := 19) (N := some 30) (bm 23 1048575) rfl rfl (one_of HT_.out (by kernel_rfl)) (by decide) (fun K hK => ?_)
          refine goes_ Try.func84 (by kernel_rfl) rfl #[.agg #[.int .i64 ((rd_T38 l0 (ji8)).f0), .int .i64 ((rd_T38 l0 (ji8)).f1)], .agg #[.int .i64 ((rd_T38 l0 x3_1).f0), .int .i64 ((rd_T38 l0 x3_1).f1)]] (by rfl) rfl rfl (by (try simp only [List.map_toArray, List.map_cons, List.map_nil]); first | done | (simp only [hji8]; rfl) | rfl | (simp only [List.length_drop, List.length_take]; rfl)) ?_
          with_reducible refine (spec_timeBefore.calls ((rd_T38 l0 (ji8)).f0) ((rd_T38 l0 (ji8)).f1) ((rd_T38 l0 x3_1).f0) ((rd_T38 l0 x3_1).f1) t133 _ A11.out).mono ?_
          rintro e w14 ⟨rfl, hb⟩
          refine ⟨_, rfl, ?_⟩
          have n0_ := Aside0.mk (below_step (by repeat (first | (with_reducible first | exact HB.out | apply below_alloc | apply pw_below_drewN | apply below_drew1) | exact HB.out)) hb)
          clear HB
          have HB := n0_
          clear n0_
          (try clear hb)
          (try clear hb2)
          (try clear hk)
          (try clear hi)
          refine hK.out _ _ ⟨((HB.out.cell (World.block_lt_of_cell? w _ hw129_0)).trans hw129_0), ((HB.out.cell (World.block_lt_of_cell? w _ hw129_1)).trans hw129_1), ((HB.out.cell (World.block_lt_of_cell? w _ hw131_0)).trans hw131_0), ((HB.out.cell (World.block_lt_of_cell? w _ hw131_1)).trans hw131_1), ((HB.out.cell (World.block_lt_of_cell? w _ hw132_0)).trans hw132_0), ((HB.out.cell (World.block_lt_of_cell? w _ hw132_1)).trans hw132_1)⟩ (fun hHeld => ?_)
          clear hK K
          refine nS 30 ?_
          refine pT HT_ 20 31 (bm 23 2097151) ?_
          refine pT HT_ 21 32 (bm 23 4194303) ?_
          refine pT HT_ 22 33 (bm 23 8388607) ?_
          refine done_ (done_of HT_.out (by kernel_rfl)) ?_
          try go_wp2
          go_meet
          case rel => exact ⟨_, (!t133), (by first | rfl | (simp; done) | (simp [*]; done)), H', ⟨by have := HK1.out; first | omega | exact Nat.le_refl _⟩, ⟨by repeat (first | (with_reducible first | exact HB.out | apply below_alloc | apply pw_below_drewN | apply below_drew1) | exact HB.out)⟩⟩
         ·
          rw [if_neg c10] at H
          exact absurd H (by simp)
        ·
         rw [if_neg c9] at H
         exact absurd H (by simp)
       ·
        rw [if_neg c7] at H
        have c7b0 : decide (0 < x3_1) = false := decide_eq_false c7
        clear c7
        have H' := Aside0.mk H
        clear H
        try go_wp2
        have n0_ := Aside0.mk (below_drew1 HB.out)
        clear HB
        have HB := n0_
        clear n0_
        have p129 : 0 ≤ (x3_1 : Int) := of_decide_eq_true (by first | (with_reducible assumption) | assumption)
        have q129 : x3_1 < (l0.length : Int) := of_decide_eq_true (by first | (with_reducible assumption) | assumption)
        obtain ⟨ad129, e129, hx129_0, hx129_1⟩ := at_T38 HR0.out x3_1 p129 q129
        have hw129_1 := hx129_1
        have hw129_0 := hx129_0
        cases e129
        replace hx129_0 := (HB.out.cell (World.block_lt_of_cell? w _ hx129_0)).trans hx129_0
        replace hx129_1 := (HB.out.cell (World.block_lt_of_cell? w _ hx129_1)).trans hx129_1
        replace p129 := eq_true p129
        replace q129 := eq_true q129
        refine start_ (n := 23) (S := fun w' => w'.cell? (ad129.add ((x3_1).toNat * 2)) = some (.int .i64 ((rd_T38 l0 x3_1).f0)) ∧ w'.cell? ⟨(ad129.add ((x3_1).toNat * 2)).block, (ad129.add ((x3_1).toNat * 2)).off + 1, none⟩ = some (.int .i64 ((rd_T38 l0 x3_1).f1))) (ds := []) (Array.replicate 23 false) (by kernel_rfl) rfl rfl ⟨((HB.out.cell (World.block_lt_of_cell? w _ hw129_0)).trans hw129_0), ((HB.out.cell (World.block_lt_of_cell? w _ hw129_1)).trans hw129_1)⟩ (fun hHeld => ?_); refine with_tabW spec_validFrontier.tab4 spec_validFrontier.bits4 (fun HT_ HW_ => ?_)
        generalize wr.drew = w15 at HB hx129_0 hx129_1 hHeld ⊢
        refine pT HT_ 0 11 (bm 23 1) ?_
        refine pT HT_ 1 12 (bm 23 3) ?_
        refine pT HT_ 2 13 (bm 23 7) ?_
        refine tT HT_ HW_ hHeld 3 14 (bm 23 15) ?_
        refine one_ (i := 4) (N := some 15) (bm 23 31) rfl rfl (one_of HT_.out (by kernel_rfl)) (by decide) (fun K hK => ?_)
        refine goes_ Try.func61 (by kernel_rfl) rfl #[.agg #[.int .i64 ((rd_T38 l0 x3_1).f0), .int .i64 ((rd_T38 l0 x3_1).f1)]] (by rfl) rfl rfl (by (try simp only [List.map_toArray, List.map_cons, List.map_nil]); first | done | rfl | (simp only [List.length_drop, List.length_take]; rfl)) ?_
        with_reducible refine (spec_validTime.calls ((rd_T38 l0 x3_1).f0) ((rd_T38 l0 x3_1).f1) true _ A5.out).mono ?_
        rintro e w16 ⟨rfl, hb⟩
        refine ⟨_, rfl, ?_⟩
        have n0_ := Aside0.mk (below_step (by repeat (first | (with_reducible first | exact HB.out | apply below_alloc | apply pw_below_drewN | apply below_drew1) | exact HB.out)) hb)
        clear HB
        have HB := n0_
        clear n0_
        (try clear hb)
        (try clear hb2)
        (try clear hk)
        (try clear hi)
        refine hK.out _ _ ⟨((HB.out.cell (World.block_lt_of_cell? w _ hw129_0)).trans hw129_0), ((HB.out.cell (World.block_lt_of_cell? w _ hw129_1)).trans hw129_1)⟩ (fun hHeld => ?_)
        clear hK K
        refine nS 15 ?_
        refine pT HT_ 5 16 (bm 23 63) ?_
        refine pT HT_ 6 17 (bm 23 127) ?_
        refine pT HT_ 7 18 (bm 23 255) ?_
        refine pT HT_ 8 19 (bm 23 511) ?_
        refine pT HT_ 9 20 (bm 23 1023) ?_
        refine pU HT_ 10 21 (bm 23 2047) ?_
        refine pU HT_ 11 22 (bm 23 4095) ?_
        refine pU HT_ 12 23 (bm 23 8191) ?_
        refine pU HT_ 13 24 (bm 23 16383) ?_
        refine pU HT_ 14 25 (bm 23 32767) ?_
        refine pU HT_ 15 26 (bm 23 65535) ?_
        refine pU HT_ 16 27 (bm 23 131071) ?_
        refine pU HT_ 17 28 (bm 23 262143) ?_
        refine pU HT_ 18 29 (bm 23 524287) ?_
        refine pU HT_ 19 30 (bm 23 1048575) ?_
        refine pU HT_ 20 31 (bm 23 2097151) ?_
        refine pT HT_ 21 32 (bm 23 4194303) ?_
        refine pT HT_ 22 33 (bm 23 8388607) ?_
        refine done_ (done_of HT_.out (by kernel_rfl)) ?_
        try go_wp2
        go_meet
        case rel => exact ⟨_, (false), (by first | rfl | (simp; done) | (simp [*]; done)), H', ⟨by have := HK1.out; first | omega | exact Nat.le_refl _⟩, ⟨by repeat (first | (with_reducible first | exact HB.out | apply below_alloc | apply pw_below_drewN | apply below_drew1) | exact HB.out)⟩⟩
      ·
       replace c6 := Bool.eq_false_iff.mpr c6
       subst c6
       have H1 : (spec_validFrontier.j1 k1 l0 x3_1 true) = some r := by rw [if_neg (show ¬ (false = true) by decide)] at H; exact H
       clear H
       have H := H1
       clear H1
       have H' := Aside0.mk H
       clear H
       try go_wp2
       have n0_ := Aside0.mk (below_drew1 HB.out)
       clear HB
       have HB := n0_
       clear n0_
       have p129 : 0 ≤ (x3_1 : Int) := of_decide_eq_true (by first | (with_reducible assumption) | assumption)
       have q129 : x3_1 < (l0.length : Int) := of_decide_eq_true (by first | (with_reducible assumption) | assumption)
       obtain ⟨ad129, e129, hx129_0, hx129_1⟩ := at_T38 HR0.out x3_1 p129 q129
       have hw129_1 := hx129_1
       have hw129_0 := hx129_0
       cases e129
       replace hx129_0 := (HB.out.cell (World.block_lt_of_cell? w _ hx129_0)).trans hx129_0
       replace hx129_1 := (HB.out.cell (World.block_lt_of_cell? w _ hx129_1)).trans hx129_1
       replace p129 := eq_true p129
       replace q129 := eq_true q129
       refine start_ (n := 23) (S := fun w' => w'.cell? (ad129.add ((x3_1).toNat * 2)) = some (.int .i64 ((rd_T38 l0 x3_1).f0)) ∧ w'.cell? ⟨(ad129.add ((x3_1).toNat * 2)).block, (ad129.add ((x3_1).toNat * 2)).off + 1, none⟩ = some (.int .i64 ((rd_T38 l0 x3_1).f1))) (ds := []) (Array.replicate 23 false) (by kernel_rfl) rfl rfl ⟨((HB.out.cell (World.block_lt_of_cell? w _ hw129_0)).trans hw129_0), ((HB.out.cell (World.block_lt_of_cell? w _ hw129_1)).trans hw129_1)⟩ (fun hHeld => ?_); refine with_tabW spec_validFrontier.tab4 spec_validFrontier.bits4 (fun HT_ HW_ => ?_)
       generalize wr.drew = w17 at HB hx129_0 hx129_1 hHeld ⊢
       refine pT HT_ 0 11 (bm 23 1) ?_
       refine pT HT_ 1 12 (bm 23 3) ?_
       refine pT HT_ 2 13 (bm 23 7) ?_
       refine tT HT_ HW_ hHeld 3 14 (bm 23 15) ?_
       refine one_ (i := 4) (N := some 15) (bm 23 31) rfl rfl (one_of HT_.out (by kernel_rfl)) (by decide) (fun K hK => ?_)
       refine goes_ Try.func61 (by kernel_rfl) rfl #[.agg #[.int .i64 ((rd_T38 l0 x3_1).f0), .int .i64 ((rd_T38 l0 x3_1).f1)]] (by rfl) rfl rfl (by (try simp only [List.map_toArray, List.map_cons, List.map_nil]); first | done | rfl | (simp only [List.length_drop, List.length_take]; rfl)) ?_
       with_reducible refine (spec_validTime.calls ((rd_T38 l0 x3_1).f0) ((rd_T38 l0 x3_1).f1) false _ A5.out).mono ?_
       rintro e w18 ⟨rfl, hb⟩
       refine ⟨_, rfl, ?_⟩
       have n0_ := Aside0.mk (below_step (by repeat (first | (with_reducible first | exact HB.out | apply below_alloc | apply pw_below_drewN | apply below_drew1) | exact HB.out)) hb)
       clear HB
       have HB := n0_
       clear n0_
       (try clear hb)
       (try clear hb2)
       (try clear hk)
       (try clear hi)
       refine hK.out _ _ ⟨((HB.out.cell (World.block_lt_of_cell? w _ hw129_0)).trans hw129_0), ((HB.out.cell (World.block_lt_of_cell? w _ hw129_1)).trans hw129_1)⟩ (fun hHeld => ?_)
       clear hK K
       refine nS 15 ?_
       refine pT HT_ 5 16 (bm 23 63) ?_
       refine pT HT_ 6 17 (bm 23 127) ?_
       refine pU HT_ 7 18 (bm 23 255) ?_
       refine pU HT_ 8 19 (bm 23 511) ?_
       refine pU HT_ 9 20 (bm 23 1023) ?_
       refine pU HT_ 10 21 (bm 23 2047) ?_
       refine pU HT_ 11 22 (bm 23 4095) ?_
       refine pU HT_ 12 23 (bm 23 8191) ?_
       refine pU HT_ 13 24 (bm 23 16383) ?_
       refine pU HT_ 14 25 (bm 23 32767) ?_
       refine pU HT_ 15 26 (bm 23 65535) ?_
       refine pU HT_ 16 27 (bm 23 131071) ?_
       refine pU HT_ 17 28 (bm 23 262143) ?_
       refine pU HT_ 18 29 (bm 23 524287) ?_
       refine pU HT_ 19 30 (bm 23 1048575) ?_
       refine pU HT_ 20 31 (bm 23 2097151) ?_
       refine pU HT_ 21 32 (bm 23 4194303) ?_
       refine pT HT_ 22 33 (bm 23 8388607) ?_
       refine done_ (done_of HT_.out (by kernel_rfl)) ?_
       try go_wp2
       go_meet
       case rel => exact ⟨_, (true), (by first | rfl | (simp; done) | (simp [*]; done)), H', ⟨by have := HK1.out; first | omega | exact Nat.le_refl _⟩, ⟨by repeat (first | (with_reducible first | exact HB.out | apply below_alloc | apply pw_below_drewN | apply below_drew1) | exact HB.out)⟩⟩
     ·
      rw [if_neg c4] at H
      exact absurd H (by simp)
    case rest =>
     clear HC3
     try clear c1
     try clear p1
     try clear q1
     try clear hx1
     try clear p2
     try clear c4
     try clear c6
     try clear c7
     try clear c7b0
     try clear c8
     try clear c9
     try clear c10
     try clear p12
     try clear q12
     try clear hx12
     try clear p13
     try clear q13
     try clear hx13
     try clear hx129_0
     try clear hx129_1
     try clear hx131_0
     try clear hx131_1
     try clear hx132_0
     try clear hx132_1
     try clear p129
     try clear p131
     try clear p132
     try clear q129
     try clear q131
     try clear q132
     obtain ⟨kq, x33_2, rfl, HA, HJ2, HB⟩ := hcut
     cases kq with
     | zero => exact absurd HA.out (by simp [spec_validFrontier.j1])
     | succ kj2 =>
      have H := HA.out
      clear HA
      simp only [spec_validFrontier.j1] at H
      by_cases c19 : x33_2 = true
      ·
       subst c19
       have H1 : (some false) = some r := by rw [if_pos rfl] at H; exact H
       clear H
       have H := H1
       clear H1
       obtain rfl := Option.some.inj H
       go_wp2
       go_ret
       exact ⟨by first | rfl | (simp [errW_none, errW_some] <;> rfl) | (simp [*, errW_none, errW_some] <;> rfl), by repeat (first | (with_reducible first | exact HB.out | apply below_alloc | apply pw_below_drewN | apply below_drew1) | exact HB.out)⟩
      ·
       replace c19 := Bool.eq_false_iff.mpr c19
       subst c19
       have H1 : (spec_validFrontier.l1 kj2 l0 x3_1 0) = some r := by rw [if_neg (show ¬ (false = true) by decide)] at H; exact H
       clear H
       have H := H1
       clear H1
       have H' := Aside0.mk H
       clear H
       go_wp2
       go_loopg [4] kj2 (fun kq v4 w' => ∃ (x4_3 : Int), v4 = .int .i64 x4_3 ∧ Aside0 (spec_validFrontier.l1 kq l0 x3_1 x4_3 = some r) ∧ Aside0 (kq ≤ kj2) ∧ Aside0 (Below w.heap.size w w'))
       case atStart => exact ⟨(0), (by first | rfl | (simp; done) | (simp [*]; done)), H', ⟨Nat.le_refl _⟩, ⟨by repeat (first | (with_reducible first | exact HB.out | apply below_alloc | apply pw_below_drewN | apply below_drew1) | exact HB.out)⟩⟩
       case round =>
        clear H'
        try clear c1
        try clear p1
        try clear q1
        try clear hx1
        try clear p2
        try clear c4
        try clear c6
        try clear c7
        try clear c7b0
        try clear c8
        try clear c9
        try clear c10
        try clear p12
        try clear q12
        try clear hx12
        try clear p13
        try clear q13
        try clear hx13
        try clear c19
        try clear hx129_0
        try clear hx129_1
        try clear hx131_0
        try clear hx131_1
        try clear hx132_0
        try clear hx132_1
        try clear p1
        try clear p12
        try clear p129
        try clear p13
        try clear p131
        try clear p132
        try clear p2
        try clear q1
        try clear q12
        try clear q129
        try clear q13
        try clear q131
        try clear q132
        obtain ⟨x4_3, rfl, HA, HK3, HB⟩ := hrel
        cases gk with
        | zero => exact absurd HA.out (by simp [spec_validFrontier.l1])
        | succ k3 =>
         have H := HA.out
         clear HA
         simp only [spec_validFrontier.l1] at H
         by_cases c20 : x4_3 < x3_1
         ·
          rw [if_pos c20] at H
          have c20b0 : decide (x4_3 < x3_1) = true := decide_eq_true c20
          clear c20
          by_cases c21 : 0 ≤ x4_3
          ·
           rw [if_pos c21] at H
           have c21b0 : decide (0 ≤ x4_3) = true := decide_eq_true c21
           clear c21
           by_cases c22 : x4_3 < (l0.length : Int)
           ·
            rw [if_pos c22] at H
            have c22b0 : decide (x4_3 < (l0.length : Int)) = true := decide_eq_true c22
            clear c22
            by_cases c23 : 0 ≤ x3_1
            ·
             rw [if_pos c23] at H
             have c23b0 : decide (0 ≤ x3_1) = true := decide_eq_true c23
             clear c23
             by_cases c24 : x3_1 < (l0.length : Int)
             ·
              rw [if_pos c24] at H
              have c24b0 : decide (x3_1 < (l0.length : Int)) = true := decide_eq_true c24
              clear c24
              replace H := Option.bind_eq_some_iff.mp H
              obtain ⟨t136, A250, H⟩ := H
              replace H : (if t136 = true then (some false) else (spec_validFrontier.l1 k3 l0 x3_1 (wrap64 (x4_3 + 1)))) = some r := H
              have A25 := Aside0.mk A250
              clear A250
              by_cases c26 : t136 = true
              ·
               subst c26
               have H1 : (some false) = some r := by rw [if_pos rfl] at H; exact H
               clear H
               have H := H1
               clear H1
               obtain rfl := Option.some.inj H
               try go_wp2
               have n0_ := Aside0.mk (below_drew1 HB.out)
               clear HB
               have HB := n0_
               clear n0_
               have p134 : 0 ≤ (x4_3 : Int) := of_decide_eq_true (by first | (with_reducible assumption) | assumption)
               have q134 : x4_3 < (l0.length : Int) := of_decide_eq_true (by first | (with_reducible assumption) | assumption)
               obtain ⟨ad134, e134, hx134_0, hx134_1⟩ := at_T38 HR0.out x4_3 p134 q134
               have hw134_1 := hx134_1
               have hw134_0 := hx134_0
               cases e134
               replace hx134_0 := (HB.out.cell (World.block_lt_of_cell? w _ hx134_0)).trans hx134_0
               replace hx134_1 := (HB.out.cell (World.block_lt_of_cell? w _ hx134_1)).trans hx134_1
               replace p134 := eq_true p134
               replace q134 := eq_true q134
               have p135 : 0 ≤ (x3_1 : Int) := of_decide_eq_true (by first | (with_reducible assumption) | assumption)
               have q135 : x3_1 < (l0.length : Int) := of_decide_eq_true (by first | (with_reducible assumption) | assumption)
               obtain ⟨ad135, e135, hx135_0, hx135_1⟩ := at_T38 HR0.out x3_1 p135 q135
               have hw135_1 := hx135_1
               have hw135_0 := hx135_0
               obtain rfl : ad134 = ad135 := (by injection e135)
               replace hx135_0 := (HB.out.cell (World.block_lt_of_cell? w _ hx135_0)).trans hx135_0
               replace hx135_1 := (HB.out.cell (World.block_lt_of_cell? w _ hx135_1)).trans hx135_1
               replace p135 := eq_true p135
               replace q135 := eq_true q135
               refine start_ (n := 9) (S := fun w' => w'.cell? (ad134.add ((x4_3).toNat * 2)) = some (.int .i64 ((rd_T38 l0 x4_3).f0)) ∧ w'.cell? ⟨(ad134.add ((x4_3).toNat * 2)).block, (ad134.add ((x4_3).toNat * 2)).off + 1, none⟩ = some (.int .i64 ((rd_T38 l0 x4_3).f1)) ∧ w'.cell? (ad134.add ((x3_1).toNat * 2)) = some (.int .i64 ((rd_T38 l0 x3_1).f0)) ∧ w'.cell? ⟨(ad134.add ((x3_1).toNat * 2)).block, (ad134.add ((x3_1).toNat * 2)).off + 1, none⟩ = some (.int .i64 ((rd_T38 l0 x3_1).f1))) (ds := []) (Array.replicate 9 false) (by kernel_rfl) rfl rfl ⟨((HB.out.cell (World.block_lt_of_cell? w _ hw134_0)).trans hw134_0), ((HB.out.cell (World.block_lt_of_cell? w _ hw134_1)).trans hw134_1), ((HB.out.cell (World.block_lt_of_cell? w _ hw135_0)).trans hw135_0), ((HB.out.cell (World.block_lt_of_cell? w _ hw135_1)).trans hw135_1)⟩ (fun hHeld => ?_); refine with_tabW spec_validFrontier.tab9 spec_validFrontier.bits9 (fun HT_ HW_ => ?_)
               generalize wr.drew = w27 at HB hx134_0 hx134_1 hx135_0 hx135_1 hHeld ⊢
               refine pT HT_ 0 39 (bm 9 1) ?_
               refine pT HT_ 1 40 (bm 9 3) ?_
               refine pT HT_ 2 41 (bm 9 7) ?_
               refine pT HT_ 4 43 (bm 9 23) ?_
               refine pT HT_ 5 44 (bm 9 55) ?_
               refine pT HT_ 6 45 (bm 9 119) ?_
               refine tT HT_ HW_ hHeld 3 42 (bm 9 127) ?_
               refine tT HT_ HW_ hHeld 7 46 (bm 9 255) ?_
               refine one_ (i := 8) (N := some 47) (bm 9 511) rfl rfl (one_of HT_.out (by kernel_rfl)) (by decide) (fun K hK => ?_)
               refine goes_ Try.func85 (by kernel_rfl) rfl #[.agg #[.int .i64 ((rd_T38 l0 x4_3).f0), .int .i64 ((rd_T38 l0 x4_3).f1)], .agg #[.int .i64 ((rd_T38 l0 x3_1).f0), .int .i64 ((rd_T38 l0 x3_1).f1)]] (by rfl) rfl rfl (by (try simp only [List.map_toArray, List.map_cons, List.map_nil]); first | done | rfl | (simp only [List.length_drop, List.length_take]; rfl)) ?_
               with_reducible refine (spec_timeLessEqual.calls ((rd_T38 l0 x4_3).f0) ((rd_T38 l0 x4_3).f1) ((rd_T38 l0 x3_1).f0) ((rd_T38 l0 x3_1).f1) true _ A25.out).mono ?_
               rintro e w28 ⟨rfl, hb⟩
               refine ⟨_, rfl, ?_⟩
               have n0_ := Aside0.mk (below_step (by repeat (first | (with_reducible first | exact HB.out | apply below_alloc | apply pw_below_drewN | apply below_drew1) | exact HB.out)) hb)
               clear HB
               have HB := n0_
               clear n0_
               (try clear hb)
               (try clear hb2)
               (try clear hk)
               (try clear hi)
               refine hK.out _ _ ⟨((HB.out.cell (World.block_lt_of_cell? w _ hw134_0)).trans hw134_0), ((HB.out.cell (World.block_lt_of_cell? w _ hw134_1)).trans hw134_1), ((HB.out.cell (World.block_lt_of_cell? w _ hw135_0)).trans hw135_0), ((HB.out.cell (World.block_lt_of_cell? w _ hw135_1)).trans hw135_1)⟩ (fun hHeld => ?_)
               clear hK K
               refine nS 47 ?_
               refine done_ (done_of HT_.out (by kernel_rfl)) ?_
               try go_wp2
               go_ret
               exact ⟨by first | rfl | (simp [errW_none, errW_some] <;> rfl) | (simp [*, errW_none, errW_some] <;> rfl), by repeat (first | (with_reducible first | exact HB.out | apply below_alloc | apply pw_below_drewN | apply below_drew1) | exact HB.out)⟩
              ·
               replace c26 := Bool.eq_false_iff.mpr c26
               subst c26
               have H1 : (spec_validFrontier.l1 k3 l0 x3_1 (wrap64 (x4_3 + 1))) = some r := by rw [if_neg (show ¬ (false = true) by decide)] at H; exact H
               clear H
               have H := H1
               clear H1
               have H' := Aside0.mk H
               clear H
               try go_wp2
               have n0_ := Aside0.mk (below_drew1 HB.out)
               clear HB
               have HB := n0_
               clear n0_
               have p134 : 0 ≤ (x4_3 : Int) := of_decide_eq_true (by first | (with_reducible assumption) | assumption)
               have q134 : x4_3 < (l0.length : Int) := of_decide_eq_true (by first | (with_reducible assumption) | assumption)
               obtain ⟨ad134, e134, hx134_0, hx134_1⟩ := at_T38 HR0.out x4_3 p134 q134
               have hw134_1 := hx134_1
               have hw134_0 := hx134_0
               cases e134
               replace hx134_0 := (HB.out.cell (World.block_lt_of_cell? w _ hx134_0)).trans hx134_0
               replace hx134_1 := (HB.out.cell (World.block_lt_of_cell? w _ hx134_1)).trans hx134_1
               replace p134 := eq_true p134
               replace q134 := eq_true q134
               have p135 : 0 ≤ (x3_1 : Int) := of_decide_eq_true (by first | (with_reducible assumption) | assumption)
               have q135 : x3_1 < (l0.length : Int) := of_decide_eq_true (by first | (with_reducible assumption) | assumption)
               obtain ⟨ad135, e135, hx135_0, hx135_1⟩ := at_T38 HR0.out x3_1 p135 q135
               have hw135_1 := hx135_1
               have hw135_0 := hx135_0
               obtain rfl : ad134 = ad135 := (by injection e135)
               replace hx135_0 := (HB.out.cell (World.block_lt_of_cell? w _ hx135_0)).trans hx135_0
               replace hx135_1 := (HB.out.cell (World.block_lt_of_cell? w _ hx135_1)).trans hx135_1
               replace p135 := eq_true p135
               replace q135 := eq_true q135
               refine start_ (n := 9) (S := fun w' => w'.cell? (ad134.add ((x4_3).toNat * 2)) = some (.int .i64 ((rd_T38 l0 x4_3).f0)) ∧ w'.cell? ⟨(ad134.add ((x4_3).toNat * 2)).block, (ad134.add ((x4_3).toNat * 2)).off + 1, none⟩ = some (.int .i64 ((rd_T38 l0 x4_3).f1)) ∧ w'.cell? (ad134.add ((x3_1).toNat * 2)) = some (.int .i64 ((rd_T38 l0 x3_1).f0)) ∧ w'.cell? ⟨(ad134.add ((x3_1).toNat * 2)).block, (ad134.add ((x3_1).toNat * 2)).off + 1, none⟩ = some (.int .i64 ((rd_T38 l0 x3_1).f1))) (ds := []) (Array.replicate 9 false) (by kernel_rfl) rfl rfl ⟨((HB.out.cell (World.block_lt_of_cell? w _ hw134_0)).trans hw134_0), ((HB.out.cell (World.block_lt_of_cell? w _ hw134_1)).trans hw134_1), ((HB.out.cell (World.block_lt_of_cell? w _ hw135_0)).trans hw135_0), ((HB.out.cell (World.block_lt_of_cell? w _ hw135_1)).trans hw135_1)⟩ (fun hHeld => ?_); refine with_tabW spec_validFrontier.tab9 spec_validFrontier.bits9 (fun HT_ HW_ => ?_)
               generalize wr.drew = w29 at HB hx134_0 hx134_1 hx135_0 hx135_1 hHeld ⊢
               refine pT HT_ 0 39 (bm 9 1) ?_
               refine pT HT_ 1 40 (bm 9 3) ?_
               refine pT HT_ 2 41 (bm 9 7) ?_
               refine pT HT_ 4 43 (bm 9 23) ?_
               refine pT HT_ 5 44 (bm 9 55) ?_
               refine pT HT_ 6 45 (bm 9 119) ?_
               refine tT HT_ HW_ hHeld 3 42 (bm 9 127) ?_
               refine tT HT_ HW_ hHeld 7 46 (bm 9 255) ?_
               refine one_ (i := 8) (N := some 47) (bm 9 511) rfl rfl (one_of HT_.out (by kernel_rfl)) (by decide) (fun K hK => ?_)
               refine goes_ Try.func85 (by kernel_rfl) rfl #[.agg #[.int .i64 ((rd_T38 l0 x4_3).f0), .int .i64 ((rd_T38 l0 x4_3).f1)], .agg #[.int .i64 ((rd_T38 l0 x3_1).f0), .int .i64 ((rd_T38 l0 x3_1).f1)]] (by rfl) rfl rfl (by (try simp only [List.map_toArray, List.map_cons, List.map_nil]); first | done | rfl | (simp only [List.length_drop, List.length_take]; rfl)) ?_
               with_reducible refine (spec_timeLessEqual.calls ((rd_T38 l0 x4_3).f0) ((rd_T38 l0 x4_3).f1) ((rd_T38 l0 x3_1).f0) ((rd_T38 l0 x3_1).f1) false _ A25.out).mono ?_
               rintro e w30 ⟨rfl, hb⟩
               refine ⟨_, rfl, ?_⟩
               have n0_ := Aside0.mk (below_step (by repeat (first | (with_reducible first | exact HB.out | apply below_alloc | apply pw_below_drewN | apply below_drew1) | exact HB.out)) hb)
               clear HB
               have HB := n0_
               clear n0_
               (try clear hb)
               (try clear hb2)
               (try clear hk)
               (try clear hi)
               refine hK.out _ _ ⟨((HB.out.cell (World.block_lt_of_cell? w _ hw134_0)).trans hw134_0), ((HB.out.cell (World.block_lt_of_cell? w _ hw134_1)).trans hw134_1), ((HB.out.cell (World.block_lt_of_cell? w _ hw135_0)).trans hw135_0), ((HB.out.cell (World.block_lt_of_cell? w _ hw135_1)).trans hw135_1)⟩ (fun hHeld => ?_)
               clear hK K
               refine nS 47 ?_
               refine done_ (done_of HT_.out (by kernel_rfl)) ?_
               try go_wp2
               go_roundg k3
               case measure => have := HK1.out; have := HJ2.out; have := HK3.out; omega
               case rel => exact ⟨(wrap64 (x4_3 + 1)), (by first | rfl | (simp; done) | (simp [*]; done)), H', ⟨by have := HK1.out; have := HJ2.out; have := HK3.out; omega⟩, ⟨by repeat (first | (with_reducible first | exact HB.out | apply below_alloc | apply pw_below_drewN | apply below_drew1) | exact HB.out)⟩⟩
             ·
              rw [if_neg c24] at H
              exact absurd H (by simp)
            ·
             rw [if_neg c23] at H
             exact absurd H (by simp)
           ·
            rw [if_neg c22] at H
            exact absurd H (by simp)
          ·
           rw [if_neg c21] at H
           exact absurd H (by simp)
         ·
          rw [if_neg c20] at H
          have c20b0 : decide (x4_3 < x3_1) = false := decide_eq_false c20
          clear c20
          have H' := Aside0.mk H
          clear H
          go_wp2
          go_roundg k3
          case measure => have := HK1.out; have := HJ2.out; have := HK3.out; omega
          case rel => exact ⟨(wrap64 (x3_1 + 1)), (by first | rfl | (simp; done) | (simp [*]; done)), H', ⟨by have := HK1.out; have := HJ2.out; have := HK3.out; omega⟩, ⟨by repeat (first | (with_reducible first | exact HB.out | apply below_alloc | apply pw_below_drewN | apply below_drew1) | exact HB.out)⟩⟩
   ·
    rw [if_neg c2] at H
    have c2b0 : decide (x3_1 < (l0.length : Int)) = false := decide_eq_false c2
    clear c2
    obtain rfl := Option.some.inj H
    go_wp2
    go_ret
    exact ⟨by first | rfl | (simp [errW_none, errW_some] <;> rfl) | (simp [*, errW_none, errW_some] <;> rfl), by repeat (first | (with_reducible first | exact HB.out | apply below_alloc | apply pw_below_drewN | apply below_drew1) | exact HB.out)⟩

end Go.Proofs.Ytbohfeifkkigbaa.PFnAdvanceTime
