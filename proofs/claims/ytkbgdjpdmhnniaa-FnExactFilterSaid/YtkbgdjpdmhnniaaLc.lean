/- The law FnExactFilter: it answers true. Own work. No condition. -/
import Derived.Test.YtkbgdjpdmhnniaaLcA
import Derived.Test.YtkbgdjpdmhnniaaPx
import Derived.Test.YtkbgdjpdmhnniaaPf
namespace Go.Proofs.Ytkbgdjpdmhnniaa
open Go Go.Vc Go.Proofs
set_option linter.unusedVariables false
variable {m : Mem} {A B : Option Addr} {L : List ED} {c : Nat}
theorem cnt_FilE (p : PD) (L : List ED) : cntE (FilE p L) ≤ cntE L := by
  unfold FilE; split
  · exact cnt_filter _ L
  · exact Nat.zero_le _
theorem markE_markE : ∀ (k k' : Int) (L : List ED), markE k (markE k' L) = markE k L
  | _, _, [] => rfl
  | k, k', e :: r => by simp only [markE, seqI_length, markE_markE _ _ r]
theorem markE_cnt {k : Int} {L : List ED} : cntE (markE k L) = cntE L := cntE_markE k L
/-- FnExactFilter -/
theorem law6 (hx : RdE m A L) (hl : L.length < 2 ^ 60) (p : PD) : Tr Try.prog 6 #[.slice A L.length c, pdV p] m fun v m' => v = .bool true ∧ Ext m m' := by
  obtain ⟨pa, po, pb⟩ := p
  refine tr_of pok Try.func6 k6 (args := [_, _]) rfl ?_
  refine (t49 hx (by omega) (by omega)).mono ?_
  rintro v m1 ⟨rfl, r, rfl, hr1, hr2⟩
  refine IteB.of (fun h => ?_) (fun h => ?_)
  · exact ⟨rfl, Ext.refl _⟩
  have hcnt : cntE L ≤ 2 ^ 20 := by have := hr1 (by omega); omega
  have hL1 := cnt_len L
  have hL2 : ∀ e ∈ L, e.1.length < 2 ^ 40 := fun e he => by have := cnt_row L e he; omega
  have hFc := cnt_FilE (pa, po, pb) L
  generalize hF : FilE (pa, po, pb) L = F at hFc
  have hFl := cnt_len F
  -- the reference's
  refine (t51 hx (by omega) hL2).mono ?_
  rintro v m2 ⟨b2, c2, es2, rfl, n2, d2⟩
  have rd2 := n2.own.rd
  rw [d2] at rd2
  refine pl1 n2.ext ?_
  refine (t52 pa po pb).mono ?_
  rintro v m2' ⟨rfl, rfl⟩
  refine (t50 rd2 hl (pa, po, pb)).mono ?_
  intro w0 m3 h3
  rw [hF] at h3
  have x3 : Ext m1 m3 := by
    obtain ⟨_, _, _, _, e⟩ := h3.res
    exact n2.ext.trans e
  obtain ⟨Aw, cw, rfl, rdw, xw⟩ := h3.res
  -- the argument's copy
  refine (t51 (hx.ext x3) (by omega) hL2).mono ?_
  rintro v m4 ⟨b4, c4, es4, rfl, n4, d4⟩
  have rd4 := n4.own.rd
  rw [d4] at rd4
  refine (t52 pa po pb).mono ?_
  rintro v m4' ⟨rfl, rfl⟩
  -- the program's
  refine (t53 rd4 hl (pa, po, pb)).mono ?_
  intro g0 m5 h5
  rw [hF] at h5
  have lv5 := Liv.of h5
  obtain ⟨Ag, cg, rfl, rdg, xg⟩ := h5.res
  refine (t54 rdg (rdw.ext (n4.ext.trans xg)) (by omega)).mono ?_
  rintro v m6 ⟨rfl, rfl⟩
  refine IteB.not (IteB.of (fun _ => ?_) (fun q => absurd rfl q))
  refine (t51 (hx.ext ((x3.trans n4.ext).trans xg)) (by omega) hL2).mono ?_
  rintro v m7 ⟨b7, c7, es7, rfl, n7, d7⟩
  have rd7 := n7.own.rd
  rw [d7] at rd7
  refine (t54 ((rd4.ext xg).ext n7.ext) rd7 (by omega)).mono ?_
  rintro v m8 ⟨rfl, rfl⟩
  refine IteB.not (IteB.of (fun _ => ?_) (fun q => absurd rfl q))
  -- the copy is marked
  have own7 := (n4.own.ext xg).ext n7.ext
  have hl4 : es4.length = L.length := by rw [← d4]; simp
  have e8 : Ext m3 m8 := (n4.ext.trans xg).trans n7.ext
  have t9 := t55 (k := 1) own7 n4.sep (by omega) (by rw [d4]; omega) (by omega)
  rw [hl4, d4] at t9
  refine t9.mono ?_
  rintro v m9 ⟨rfl, _, s9⟩
  have e9 : Ext m3 m9 := Ext.same e8 s9 n4.foot
  have lv9 := (lv5.ext n7.ext).same s9 n4.own.foot
  refine IteB.of (fun q => absurd q (by omega)) (fun _ => ?_)
  obtain ⟨Ag', cg', hg', rdg9⟩ := lv9.rd
  obtain ⟨rfl, rfl⟩ : Ag = Ag' ∧ cg = cg' := by
    simp only [Value.slice.injEq, true_and] at hg'
    exact ⟨hg'.1, hg'.2⟩
  refine (t54 rdg9 (rdw.ext e9) (by omega)).mono ?_
  rintro v m10 ⟨rfl, rfl⟩
  refine IteB.not (IteB.of (fun _ => ?_) (fun q => absurd rfl q))
  -- the result is marked, and held
  refine (lv9.mark (by omega)).mono ?_
  rintro v m11 ⟨rfl, ⟨Fg, s11, f11⟩, lv11⟩
  have e11 : Ext m3 m11 := Ext.same e9 s11 (fun x hx => n4.ext.no (f11 x hx))
  obtain ⟨Ag', cg'', hg', rdg11⟩ := lv11.rd
  obtain ⟨rfl, rfl⟩ : Ag = Ag' ∧ cg = cg'' := by
    simp only [Value.slice.injEq] at hg'
    exact ⟨hg'.1, hg'.2.2⟩
  have hml := markE_length 1 F
  have hmc := cntE_markE 1 F
  have hself : markE 1 F = markE 1 (markE 1 F) := (markE_markE 1 1 F).symm
  have t12 := t56 (c := cg) (k := 1) rdg11 (by omega) (by omega) (by omega)
  rw [hml] at t12
  refine t12.mono ?_
  rintro v m12 ⟨rfl, r1, rfl, hq1, _⟩
  have hq1 := hq1 hself
  refine IteB.of (fun q => absurd q (by omega)) (fun _ => ?_)
  refine IteB.of (fun q => absurd q (by simp only [ne_eq, Decidable.not_not]; omega)) (fun _ => ?_)
  -- once more
  refine (t51 (hx.ext (x3.trans e11)) (by omega) hL2).mono ?_
  rintro v m13 ⟨b13, c13, es13, rfl, n13, d13⟩
  have rd13 := n13.own.rd
  rw [d13] at rd13
  refine pl1 n13.ext ?_
  refine (t52 pa po pb).mono ?_
  rintro v m13' ⟨rfl, rfl⟩
  refine (t53 rd13 hl (pa, po, pb)).mono ?_
  intro h0 m14 h14
  rw [hF] at h14
  obtain ⟨Ah, ch, rfl, rdh, xh⟩ := h14.res
  have e14 : Ext m3 m14 := (e11.trans n13.ext).trans xh
  refine (t54 rdh (rdw.ext e14) (by omega)).mono ?_
  rintro v m15 ⟨rfl, rfl⟩
  refine IteB.not (IteB.of (fun _ => ?_) (fun q => absurd rfl q))
  have t16 := t56 (c := cg) (k := 1) ((rdg11.ext n13.ext).ext xh) (by omega) (by omega) (by omega)
  rw [hml] at t16
  refine t16.mono ?_
  rintro v m16 ⟨rfl, r2, rfl, hq2, _⟩
  have hq2 := hq2 hself
  refine IteB.of (fun q => absurd q (by omega)) (fun _ => ?_)
  refine IteB.of (fun q => absurd q (by simp only [ne_eq, Decidable.not_not]; omega)) (fun _ => ?_)
  exact ⟨rfl, x3.trans e14⟩
end Go.Proofs.Ytkbgdjpdmhnniaa
