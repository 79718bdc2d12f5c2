/- Go functions of the reference that add up entries: what each comes to. Own work. No condition. -/
import Derived.Test.YtkbgdjpdmhnniaaPnA
import Derived.Test.YtkbgdjpdmhnniaaPp
import Derived.Test.YtkbgdjpdmhnniaaPq
namespace Go.Proofs.Ytkbgdjpdmhnniaa
open Go Go.Vc Go.Proofs
set_option linter.unusedVariables false
variable {m : Mem} {A B : Option Addr} {xs ys : List Int} {L L' : List ED} {c c' : Nat} {u w k : Int}
theorem mid_eq {a b n : Nat} (ha : a < b) (hb : b ≤ n) : (((a : Int) + b).tdiv 2) = (((a + b) / 2 : Nat) : Int) ∧ a ≤ (a + b) / 2 ∧ (a + b) / 2 < b := by
  refine ⟨?_, by omega, by omega⟩
  rw [show (a : Int) + b = ((a + b : Nat) : Int) by omega]
  exact (Int.ofNat_tdiv (a + b) 2).symm
/-- Entries that a call may write into. -/
structure SpZ (m m' : Mem) (b c : Nat) (es : List EH) : Prop where
  own : OwZ m' b c es
  ext : Ext m m'
  b : m b = none
theorem OwR.kp' {m m' : Mem} {r : RH} {b : Nat} {cs : List Value} (h : OwR m r) (hb : Bk m b 40 cs) (k : Kp b m m') : OwR m' r := h.kp k (h.ne hb (by decide))
theorem ones_flat : ∀ (es : List EH), onesB (es.flatMap EH.cells) = true
  | [] => rfl
  | e :: es => by
    have := ones_flat es
    simp only [List.flatMap_cons, EH.cells, RH.val, List.cons_append, List.nil_append, onesB]
    exact this
/-- addEntry -/
theorem t196 {b : Nat} {es : List EH} {D : Int} (ho : OwZ m b c es) (hx : IsRow m A xs) (hs : srt (es.map EH.d)) (hl : es.length < 2 ^ 39) (hxl : xs.length < 2 ^ 39) (hw : ∀ e ∈ es, -D ≤ e.w ∧ e.w ≤ D) (hD : D < 2 ^ 61) (hu : -2 ^ 61 < u ∧ u < 2 ^ 61) :
    Tr Try.prog 196 #[.slice (some ⟨b, 0, none⟩) es.length c, .slice A xs.length c', .int .i64 u] m fun v m' => ∃ b' c2 es', v = .slice (some ⟨b', 0, none⟩) es'.length c2 ∧ OwZ m' b' c2 es' ∧ es'.map EH.d = insE xs u (es.map EH.d) ∧ (b' = b ∨ m b' = none) ∧ Kp b m m' := by
  refine tr_of pok Try.func196 k196 (args := [_, _, _]) rfl ?_
  have hrd : ∀ i (h : i < es.length), IsRow m (some ⟨es[i].r.b, 0, none⟩) es[i].r.xs := fun i h => (ho.2.2 _ (List.getElem_mem h)).row
  refine Lp.of (fun s : Nat × Nat => [(0, .v (.slice (some ⟨b, 0, none⟩) es.length c)), (1, .v (.slice A xs.length c')), (2, .v (.int .i64 u)), (7, .v (.int .i64 (s.1 : Int))), (8, .v (.int .i64 (s.2 : Int)))]) (fun _ => [])
    (fun s m' => m' = m ∧ s.1 ≤ s.2 ∧ s.2 ≤ es.length ∧ (∀ j (h : j < es.length), j < s.1 → cmpR es[j].r.xs xs < 0) ∧ (∀ j (h : j < es.length), s.2 ≤ j → ¬ cmpR es[j].r.xs xs < 0)) (fun s => s.2 - s.1) (0, es.length)
    ⟨rfl, Nat.zero_le _, Nat.le_refl _, fun j h hj => by simp at hj, fun j h hj => by simp at hj; omega⟩ ?_
  rintro ⟨lo, hi⟩ m1 ⟨rfl, h1, h2, h3, h4⟩
  simp only at h1 h2 h3 h4
  have hd : ∀ i j (hi : i < es.length) (hj : j < es.length), i < j → cmpR es[i].r.xs es[j].r.xs < 0 := fun i j hi hj hij => by
    have := List.pairwise_iff_getElem.1 hs i j (by simpa using hi) (by simpa using hj) hij
    simpa [EH.d] using this
  refine IteB.of (fun g1 => ?_) (fun g1 => ?_)
  · obtain ⟨e1, e2, e3⟩ := mid_eq (n := es.length) (a := lo) (b := hi) (by simp only at g1; omega) h2
    have hm : (lo + hi) / 2 < es.length := by omega
    refine Wr.ok (by simp only; omega) ⟨by decide, Wr.ok (by simp only [e1]; omega) ?_⟩
    simp only
    rw [e1]
    obtain ⟨q1, q2⟩ := ho.mc _ hm
    refine Ix.at rfl hm (Ld.of q1 ?_)
    refine (t187 (hrd _ hm) hx (by have := (ho.2.2 _ (List.getElem_mem hm)).2.2; omega)).mono ?_
    rintro v m' ⟨rfl, rfl⟩
    refine IteB.of (fun g2 => ?_) (fun g2 => ?_)
    · refine Wr.ok (by omega) ⟨((lo + hi) / 2 + 1, hi), ⟨rfl, rfl, rfl, rfl, rfl, trivial⟩, trivial, ⟨rfl, by simp only; omega, h2, fun j hj hlt => ?_, h4⟩, by simp only; omega⟩
      by_cases hj2 : j = (lo + hi) / 2
      · subst hj2; exact g2
      · exact cmpR_trans (hd j _ hj hm (by simp only at hlt; omega)) g2
    · refine ⟨(lo, (lo + hi) / 2), ⟨rfl, rfl, rfl, rfl, rfl, trivial⟩, trivial, ⟨rfl, by simp only; omega, by simp only; omega, h3, fun j hj hge => ?_⟩, by simp only; omega⟩
      by_cases hj2 : j = (lo + hi) / 2
      · subst hj2; exact g2
      · intro hc
        exact g2 (cmpR_trans (hd _ j hm hj (by simp only at hge; omega)) hc)
  · have hlo : hi = lo := by simp only at g1; omega
    subst hlo
    have hsp := insE_split xs u (es.map EH.d) hi (by simpa using h2) (fun j hj hlt => by simpa [EH.d] using h3 j (by simpa using hj) hlt) (fun hl => by simpa [EH.d] using h4 hi (by simpa using hl) (Nat.le_refl _))
    -- a row that is there, or a new one
    have new : (∀ h : hi < es.length, es[hi].r.xs ≠ xs) → insE xs u (es.map EH.d) = (es.take hi).map EH.d ++ [(xs, u)] ++ (es.drop hi).map EH.d := by
      intro hne
      rw [hsp]
      split
      · rename_i hl
        have hl' : hi < es.length := by simpa using hl
        rw [if_neg (by simpa [EH.d] using hne hl')]
        simp [List.map_take, List.map_drop]
      · rename_i hl
        have : es.length ≤ hi := by simpa using hl
        rw [List.drop_of_length_le this]
        simp [List.map_take]
    obtain ⟨⟨sp, o1, o2⟩, o3, o4⟩ := id ho
    by_cases hf : ∃ h : hi < es.length, es[hi].r.xs = xs
    · obtain ⟨hlt, hxs⟩ := hf
      refine IteB.of (fun g2 => ?_) (fun g2 => absurd (by simp only; omega) g2)
      obtain ⟨q1, q2⟩ := ho.mc _ hlt
      refine Ix.at rfl hlt (Ld.of q1 ?_)
      refine (t214 (hrd _ hlt) hx (by have := (o4 _ (List.getElem_mem hlt)).2.2; omega)).mono ?_
      rintro v m' ⟨rfl, rfl⟩
      refine IteB.of (fun g3 => ?_) (fun g3 => absurd hxs g3)
      have hwi := hw _ (List.getElem_mem hlt)
      refine Ix.at rfl hlt (Ld.of q2 (Wr.ok (by omega) ?_))
      refine Ix.at rfl hlt ?_
      rw [at_add, at_add]
      refine Stt.bk o1 rfl (by simp [flat_length EH.len]; omega) ?_
      refine ⟨b, c, es.set hi { es[hi] with w := es[hi].w + u }, by simp, ?_, ?_, .inl rfl, Kp.mu b m' _⟩
      · rw [Nat.zero_add, wr_field EH.len es sp hi 1 { es[hi] with w := es[hi].w + u } _ hlt (by omega) rfl]
        refine ⟨⟨sp, Bk.mu _ _ _ _, by simpa using o2⟩, by simpa using o3, fun e he => ?_⟩
        rcases List.mem_or_eq_of_mem_set he with he | rfl
        · exact (o4 e he).kp' o1 (Kp.mu b m' _)
        · exact (o4 _ (List.getElem_mem hlt)).kp' o1 (Kp.mu b m' _)
      · rw [hsp, dif_pos (by simpa using hlt), if_pos (by simpa [EH.d] using hxs), List.map_set]
        rw [set_eq _ _ _ (by simpa using hlt)]
        simp [EH.d]
    · have hne : ∀ h : hi < es.length, es[hi].r.xs ≠ xs := fun h he => hf ⟨h, he⟩
      refine IteB.of (fun g2 => ?_) (fun g2 => ?_)
      have hlt : hi < es.length := by simp only at g2; omega
      obtain ⟨q1, q2⟩ := ho.mc _ hlt
      refine Ix.at rfl hlt (Ld.of q1 ?_)
      refine (t214 (hrd _ hlt) hx (by have := (o4 _ (List.getElem_mem hlt)).2.2; omega)).mono ?_
      rintro v m1 ⟨rfl, rfl⟩
      refine IteB.of (fun g3 => absurd g3 (hne hlt)) (fun g3 => ?_)
      all_goals
        refine ⟨fun b1 hb1 => ?_⟩
        refine Sl.pre (by omega) ?_
        have x1 : Ext m1 (mu m1 b1 (.cells ⟨[]⟩ 40 (0, 0))) := Ext.mu hb1
        have bk1 : Bk (mu m1 b1 (.cells ⟨[]⟩ 40 (0, 0))) b1 40 (([] : List EH).flatMap EH.cells ++ []) := Bk.mu _ _ _ _
        refine Ap.own (f := EH.cells) (k := 2) EH.len (l := []) (l' := es.take hi) bk1 rfl rfl rfl (by omega) ?_ (by rw [List.length_take]; omega) (ones_flat _) (by (try dsimp only); omega) ?_
        · have := (o1.ext x1)
          rw [← List.take_append_drop hi es, List.flatMap_append, List.append_assoc] at this
          exact this.rd
        intro b2 c2 sp2 m2 e1 e2 e3 e4 e5 e6
        rw [List.nil_append] at e2
        have x2 : Ext m1 m2 := x1.kp e5 hb1
        have hb2 : m1 b2 = none := by
          rcases e1 with rfl | e1
          · exact hb1
          · exact x1.no e1
        refine (t189 (hx.ext x2) (by omega)).mono ?_
        rintro v m3 ⟨r, hr1, rfl, hr2, hr3, hr4⟩
        refine ⟨fun b3 hb3 => ?_⟩
        refine Ap.one (f := EH.cells) (k := 2) EH.len (l := es.take hi) (x := ⟨r, u⟩) hb3 (e2.ext hr4) (by rw [List.length_take]; omega) (by simpa using e3) rfl (by omega) rfl (by (try dsimp only); omega) ?_
        intro b4 c4 sp4 m4 f1 f2 f3 f4 f5
        have x4 : Ext m1 m4 := (x2.trans hr4).kp f5 hb2
        have hb4 : m1 b4 = none := by
          rcases f1 with rfl | f1
          · exact hb2
          · exact (x2.trans hr4).no f1
        refine Sl.suf EH.len (es := es) (o1.ext x4) rfl h2 o3 ?_
        intro A' hA' _
        have hlen4 : (es.take hi ++ [(⟨r, u⟩ : EH)]).length = hi + 1 := by rw [List.length_append, List.length_take]; simp; omega
        refine Ap.own (f := EH.cells) (k := 2) EH.len (l := es.take hi ++ [⟨r, u⟩]) (l' := es.drop hi) f2 (by rw [hlen4]; omega) (by simpa using f3) rfl (by omega) hA' (by rw [List.length_drop]) (ones_flat _) (by (try dsimp only); omega) ?_
        intro b5 c5 sp5 m5 g1 g2 g3 g4 g5 g6
        have x5 : Ext m1 m5 := x4.kp g5 hb4
        have hr5 : OwR m5 r := ((hr2.kp' (e2.ext hr4) f5)).kp' f2 g5
        have hlen5 : (es.take hi ++ [(⟨r, u⟩ : EH)] ++ es.drop hi).length = 0 + hi + 1 + (es.length - hi) := by rw [List.length_append, hlen4, List.length_drop]; omega
        refine ⟨b5, c5, es.take hi ++ [⟨r, u⟩] ++ es.drop hi, by rw [hlen5], ⟨⟨sp5, g2, by rw [hlen5]; exact g3⟩, by rw [hlen5]; exact g4, fun e he => ?_⟩, ?_, .inr ?_, Kp.of x5⟩
        · simp only [List.mem_append, List.mem_singleton] at he
          rcases he with (he | rfl) | he
          · exact (o4 e (List.mem_of_mem_take he)).ext x5
          · exact hr5
          · exact (o4 e (List.mem_of_mem_drop he)).ext x5
        · rw [new hne]
          simp [EH.d, hr1]
        · rcases g1 with rfl | g1
          · exact hb4
          · exact x4.no g1
/-- withoutZeros -/
theorem t198 {b : Nat} {es : List EH} (ho : OwZ m b c es) (hl : es.length < 2 ^ 40) :
    Tr Try.prog 198 #[.slice (some ⟨b, 0, none⟩) es.length c] m fun v m' => ∃ b' c2 es', v = .slice (some ⟨b', 0, none⟩) es'.length c2 ∧ OwZ m' b' c2 es' ∧ es'.map EH.d = nz (es.map EH.d) ∧ m b' = none ∧ Ext m m' := by
  refine tr_of pok Try.func198 k198 (args := [_]) rfl ?_
  refine ⟨fun b0 hb0 => ?_⟩
  refine Lp.of (fun s : Nat × Nat × Nat × List EH => [(0, .v (.slice (some ⟨b, 0, none⟩) es.length c)), (3, .v (.slice (some ⟨s.2.1, 0, none⟩) s.2.2.2.length s.2.2.1)), (4, .v (.int .i64 (s.1 : Int)))]) (fun _ => [])
    (fun s m' => s.1 ≤ es.length ∧ OwZ m' s.2.1 s.2.2.1 s.2.2.2 ∧ s.2.2.2.map EH.d = nz ((es.take s.1).map EH.d) ∧ (∀ e ∈ s.2.2.2, e ∈ es) ∧ s.2.2.2.length ≤ s.1 ∧ m s.2.1 = none ∧ Ext m m') (fun s => es.length - s.1) (0, b0, 0, []) ⟨Nat.zero_le _, (NewZ.nil hb0).own, rfl, fun _ h => (by cases h), Nat.le_refl _, hb0, Ext.mu hb0⟩ ?_
  rintro ⟨i, b1, cc, fs⟩ m1 ⟨hi, hn, ht, hm, hle, hb1, hx⟩
  simp only at hi hn ht hm hle hb1
  refine IteB.of (fun h1 => ?_) (fun h1 => ?_)
  · have hi' : i < es.length := by omega
    obtain ⟨q1, q2⟩ := (ho.ext hx).mc i hi'
    refine Ix.at rfl hi' (Ld.of q2 ?_)
    have hnx : nz ((es.take (i + 1)).map EH.d) = nz ((es.take i).map EH.d) ++ nz [es[i].d] := by
      rw [List.take_succ_eq_append_getElem hi', List.map_append]; simp [nz]
    refine IteB.of (fun h2 => ?_) (fun h2 => ?_)
    · refine Ix.at rfl hi' (LdN.two q1 q2 ?_)
      refine ⟨fun bb hbb => ?_⟩
      obtain ⟨⟨sp, o1, o2⟩, o3, o4⟩ := hn
      refine Ap.one (f := EH.cells) (k := 2) EH.len (l := fs) (x := es[i]) hbb o1 rfl o2 rfl (by omega) rfl (by (try dsimp only); omega) ?_
      intro b' c' sp' m3 g1 g2 g3 g4 g5
      have hx3 : Ext m m3 := hx.kp g5 hb1
      have hb' : m b' = none := by
        rcases g1 with rfl | g1
        · exact hb1
        · exact hx.no g1
      refine Wr.ok (by omega) ⟨(i + 1, b', c', fs ++ [es[i]]), ⟨rfl, ?_, rfl, trivial⟩, trivial, ⟨by simp only; omega, ⟨⟨sp', g2, by simpa using g3⟩, by simpa using g4, fun e he => ?_⟩, ?_, fun e he => ?_, by simp only [List.length_append, List.length_singleton]; omega, hb', hx3⟩, by simp only; omega⟩
      · simp only [List.length_append, List.length_singleton]; rfl
      · rcases List.mem_append.1 he with he | he
        · exact (ho.2.2 e (hm e he)).ext hx3
        · simp at he; subst he; exact (ho.2.2 _ (List.getElem_mem hi')).ext hx3
      · simp only
        rw [hnx, List.map_append, ht]
        simp only [nz, EH.d, List.map_cons, List.map_nil, List.filter_cons, h2, decide_true, if_true, List.filter_nil, ne_eq, not_false_eq_true]
      · rcases List.mem_append.1 he with he | he
        · exact hm e he
        · simp at he; subst he; exact List.getElem_mem hi'
    · refine Wr.ok (by omega) ⟨(i + 1, b1, cc, fs), ⟨rfl, rfl, rfl, trivial⟩, trivial, ⟨by simp only; omega, hn, ?_, hm, by simp only; omega, hb1, hx⟩, by simp only; omega⟩
      simp only
      rw [hnx, ht]
      simp only [ne_eq, Decidable.not_not] at h2
      simp [nz, EH.d, h2]
  · have : i = es.length := by omega
    subst this
    rw [List.take_length] at ht
    exact ⟨b1, cc, fs, rfl, hn, ht, hb1, hx⟩
/-- checked -/
theorem t197 (hx : RdE m A L) (hl : L.length < 2 ^ 60) : Tr Try.prog 197 #[.slice A L.length c] m fun v m' => ResZ m m' v (chk L) := by
  refine tr_of pok Try.func197 k197 (args := [_]) rfl ?_
  refine (t127 hx hl).mono ?_
  rintro v m1 ⟨rfl, rfl⟩
  refine IteB.not (IteB.of (fun hv => ?_) (fun hv => ?_))
  · rw [chk, if_pos hv]
    exact ⟨A, c, rfl, hx, Ext.refl _⟩
  · rw [chk, if_neg hv]
    exact ⟨fun b hb => (IsZ.new (NewZ.nil hb) rfl rfl).res⟩
/-- normalize -/
theorem t149 (hx : RdE m A L) (hl : L.length < 2 ^ 20) (hr : ∀ e ∈ L, e.1.length < 2 ^ 39) (hw : ∀ e ∈ L, -2 ^ 22 ≤ e.2 ∧ e.2 ≤ 2 ^ 22) : Tr Try.prog 149 #[.slice A L.length c] m fun v m' => ResZ m m' v (chk (nz (normS L))) := by
  refine tr_of pok Try.func149 k149 (args := [_]) rfl ?_
  refine ⟨fun b0 hb0 => ?_⟩
  refine Lp.of (fun s : Nat × Nat × Nat × List EH => [(0, .v (.slice A L.length c)), (3, .v (.slice (some ⟨s.2.1, 0, none⟩) s.2.2.2.length s.2.2.1)), (4, .v (.int .i64 (s.1 : Int)))]) (fun _ => [])
    (fun s m' => s.1 ≤ L.length ∧ OwZ m' s.2.1 s.2.2.1 s.2.2.2 ∧ s.2.2.2.map EH.d = normS (L.take s.1) ∧ m s.2.1 = none ∧ Ext m m') (fun s => L.length - s.1) (0, b0, 0, []) ⟨Nat.zero_le _, (NewZ.nil hb0).own, rfl, hb0, Ext.mu hb0⟩ ?_
  rintro ⟨i, b1, cc, fs⟩ m1 ⟨hi, hn, ht, hb1, he⟩
  simp only at hi hn ht hb1
  have hlen : fs.length ≤ i := by
    have h1 : (fs.map EH.d).length = fs.length := by simp
    rw [← h1, ht]
    have := normS_length (L.take i)
    rw [List.length_take] at this
    omega
  refine IteB.of (fun h1 => ?_) (fun h1 => ?_)
  · have hi' : i < L.length := by omega
    obtain ⟨a, Ar, cr, ha, q1, q2, q3, q4, q5⟩ := (hx.ext he) i hi'
    refine Ix.at ha hi' (Ld.of q1 (Ix.at ha hi' (Ld.of q2 ?_)))
    have hB : ∀ e ∈ fs, -((2 : Int) ^ 22 * i) ≤ e.w ∧ e.w ≤ 2 ^ 22 * i := fun e hem => by
      have := normS_bound (B := 2 ^ 22) (by decide) L hw i e.d (by rw [← ht]; exact List.mem_map_of_mem hem)
      simpa [EH.d] using this
    have hBi : (2 : Int) ^ 22 * i < 2 ^ 61 := by omega
    have hwi := hw _ (List.getElem_mem hi')
    refine (t196 (D := 2 ^ 22 * i) hn q3 (by rw [ht]; exact (normS_spec _).1) (by omega) (hr _ (List.getElem_mem hi')) hB hBi (by omega)).mono ?_
    rintro v m2 ⟨b2, c2, es2, rfl, g1, g2, g3, g4⟩
    have hb2 : m b2 = none := by
      rcases g3 with rfl | g3
      · exact hb1
      · exact he.no g3
    refine Wr.ok (by omega) ⟨(i + 1, b2, c2, es2), ⟨rfl, rfl, rfl, trivial⟩, trivial, ⟨by simp only; omega, g1, ?_, hb2, he.kp g4 hb1⟩, by simp only; omega⟩
    simp only
    rw [g2, ht, List.take_succ_eq_append_getElem hi', normS_snoc]
  · have : i = L.length := by omega
    subst this
    rw [List.take_length] at ht
    refine (t198 hn (by omega)).mono ?_
    rintro v m2 ⟨b2, c2, es2, rfl, g1, g2, g3, g4⟩
    have hl2 : es2.length = (es2.map EH.d).length := by simp
    rw [hl2]
    refine (t197 g1.rd (by
      rw [g2]
      have : (nz (fs.map EH.d)).length ≤ (fs.map EH.d).length := List.length_filter_le _ _
      rw [List.length_map] at this
      omega)).mono ?_
    rintro v m3 ⟨A3, c3, rfl, g5, g6⟩
    rw [g2, ht] at g5 ⊢
    exact ⟨A3, c3, rfl, g5, (he.trans g4).trans g6⟩
/-- Normalize, of the reference -/
theorem t59 (hx : RdE m A L) (hl : L.length < 2 ^ 60) (hr : ∀ e ∈ L, e.1.length < 2 ^ 60) : Tr Try.prog 59 #[.slice A L.length c] m fun v m' => ResZ m m' v (if L.length ≤ 400 ∧ ∀ e ∈ L, vRow e.1 ∧ -1000000 ≤ e.2 ∧ e.2 ≤ 1000000 then chk (nz (normS L)) else []) := by
  refine tr_of pok Try.func59 k59 (args := [_]) rfl ?_
  refine IteB.of (fun h0 => ?_) (fun h0 => ?_)
  · rw [if_neg (by omega)]
    exact ⟨fun b hb => (IsZ.new (NewZ.nil hb) rfl rfl).res⟩
  refine Lp.of (fun i : Nat => [(0, .v (.slice A L.length c)), (3, .v (.int .i64 (i : Int)))]) (fun _ => [])
    (fun i m' => i ≤ L.length ∧ m' = m ∧ ∀ j (h : j < L.length), j < i → vRow L[j].1 ∧ -1000000 ≤ L[j].2 ∧ L[j].2 ≤ 1000000) (fun i => L.length - i) 0 ⟨Nat.zero_le _, rfl, fun j h hj => by omega⟩ ?_
  rintro i m1 ⟨hi, rfl, hall⟩
  refine IteB.of (fun h1 => ?_) (fun h1 => ?_)
  · have hi' : i < L.length := by omega
    obtain ⟨a, Ar, cr, ha, q1, q2, q3, q4, q5⟩ := hx i hi'
    refine Ix.at ha hi' (Ld.of q1 ?_)
    refine (t147 q3 (by have := hr _ (List.getElem_mem hi'); omega)).mono ?_
    rintro v m2 ⟨rfl, rfl⟩
    have bad : ¬ (vRow L[i].1 ∧ -1000000 ≤ L[i].2 ∧ L[i].2 ≤ 1000000) → ¬ (L.length ≤ 400 ∧ ∀ e ∈ L, vRow e.1 ∧ -1000000 ≤ e.2 ∧ e.2 ≤ 1000000) := fun h q => h (q.2 _ (List.getElem_mem hi'))
    refine IteB.not (IteB.of (fun g1 => ?_) (fun g1 => ?_))
    · refine Ix.at ha hi' (Ld.of q2 ?_)
      refine (t148 _ _ _).mono ?_
      rintro v m3 ⟨rfl, rfl⟩
      refine IteB.not (IteB.of (fun g2 => ?_) (fun g2 => ?_))
      · refine Wr.ok (by omega) ⟨i + 1, ⟨rfl, rfl, trivial⟩, trivial, ⟨by omega, rfl, fun j h hj => ?_⟩, by omega⟩
        by_cases hji : j = i
        · subst hji; exact ⟨g1, g2⟩
        · exact hall j h (by omega)
      · rw [if_neg (bad fun h => g2 h.2)]
        exact ⟨fun b hb => (IsZ.new (NewZ.nil hb) rfl rfl).res⟩
    · rw [if_neg (bad fun h => g1 h.1)]
      exact ⟨fun b hb => (IsZ.new (NewZ.nil hb) rfl rfl).res⟩
  · have hall' : ∀ e ∈ L, vRow e.1 ∧ -1000000 ≤ e.2 ∧ e.2 ≤ 1000000 := fun e he => by
      obtain ⟨j, hj, rfl⟩ := List.getElem_of_mem he
      exact hall j hj (by omega)
    rw [if_pos ⟨by omega, hall'⟩]
    refine (t149 hx (by omega) (fun e he => by have := (hall' e he).1.2.2; omega) (fun e he => by have := (hall' e he).2; omega)).mono ?_
    exact fun _ _ h => h
end Go.Proofs.Ytkbgdjpdmhnniaa
