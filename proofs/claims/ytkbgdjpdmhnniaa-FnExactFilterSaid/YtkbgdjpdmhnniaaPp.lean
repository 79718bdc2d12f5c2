/- Go functions that make or mark lists of entries: what each comes to. Own work. No condition. -/
import Derived.Test.YtkbgdjpdmhnniaaPpA
import Derived.Test.YtkbgdjpdmhnniaaPo
namespace Go.Proofs.Ytkbgdjpdmhnniaa
open Go Go.Vc Go.Proofs
set_option linter.unusedVariables false
variable {m : Mem} {A B : Option Addr} {xs ys : List Int} {L L' : List ED} {c c' : Nat} {u w k : Int}
def distE (L : List ED) : List ED := (L.filter fun e => decide (0 < e.2)).map fun e => (e.1, 1)
theorem distE_append (a b : List ED) : distE (a ++ b) = distE a ++ distE b := by simp [distE]
/-- distinct -/
theorem t131 (hx : RdE m A L) (hl : L.length < 2 ^ 40) (hr : ∀ e ∈ L, e.1.length < 2 ^ 40) : Tr Try.prog 131 #[.slice A L.length c] m fun v m' => IsZ m m' v (distE L) := by
  refine tr_of pok Try.func131 k131 (args := [_]) rfl ?_
  refine ⟨fun b hb => ?_⟩
  refine Lp.of (fun s : Nat × Nat × Nat × List EH => [(0, .v (.slice A L.length c)), (3, .v (.slice (some ⟨s.2.1, 0, none⟩) s.2.2.2.length s.2.2.1)), (4, .v (.int .i64 (s.1 : Int)))]) (fun _ => [])
    (fun s m' => s.1 ≤ L.length ∧ NewZ m m' s.2.1 s.2.2.1 s.2.2.2 ∧ s.2.2.2.map EH.d = distE (L.take s.1) ∧ s.2.2.2.length ≤ s.1) (fun s => L.length - s.1) (0, b, 0, []) ⟨Nat.zero_le _, NewZ.nil hb, rfl, Nat.le_refl _⟩ ?_
  rintro ⟨i, b, cc, es⟩ m1 ⟨hi, hn, ht, hle⟩
  simp only at hi hn ht hle
  refine IteB.of (fun h1 => ?_) (fun h1 => ?_)
  · have hi' : i < L.length := by omega
    obtain ⟨a, Ar, cr, ha, q1, q2, q3, q4, q5⟩ := (hx.ext hn.ext) i hi'
    refine Ix.at ha hi' (Ld.of q2 ?_)
    refine IteB.of (fun h2 => ?_) (fun h2 => ?_)
    · refine Ix.at ha hi' (Ld.of q1 ?_)
      refine (t189 q3 (hr _ (List.getElem_mem hi'))).mono ?_
      rintro v m2 ⟨r, hxs, rfl, h3, h4, h5⟩
      refine ⟨fun bb hbb => ?_⟩
      obtain ⟨⟨sp, o1, o2⟩, o3, o4⟩ := hn.own
      refine Ap.one (f := EH.cells) (k := 2) EH.len (l := es) (x := ⟨r, 1⟩) hbb (o1.ext h5) rfl o2 rfl (by omega) rfl (by (try dsimp only); omega) ?_
      intro b' c' sp' m3 g1 g2 g3 g4 g5
      refine Wr.ok (by omega) ⟨(i + 1, b', c', es ++ [⟨r, 1⟩]), ⟨rfl, ?_, rfl, trivial⟩, trivial, ⟨by simp only; omega, hn.push h5 h3 h4 g1 g2 g3 g4 g5, ?_, by simp only [List.length_append, List.length_singleton]; omega⟩, by simp only; omega⟩
      · simp only [List.length_append, List.length_singleton]; rfl
      · simp only
        rw [List.map_append, ht, List.take_succ_eq_append_getElem hi', distE_append]
        simp only [distE, List.map_cons, List.map_nil, EH.d, hxs, List.filter_cons, h2, decide_true, if_true, List.filter_nil]
    · refine Wr.ok (by omega) ⟨(i + 1, b, cc, es), ⟨rfl, rfl, rfl, trivial⟩, trivial, ⟨by simp only; omega, hn, ?_, by simp only; omega⟩, by simp only; omega⟩
      simp only
      rw [ht, List.take_succ_eq_append_getElem hi', distE_append]
      simp [distE, h2]
  · have : i = L.length := by omega
    subst this
    rw [List.take_length] at ht
    exact IsZ.new hn ht (by rw [← ht]; simp)
/-- Distinct, of the reference -/
theorem t46 (hx : RdE m A L) (hl : L.length < 2 ^ 60) : Tr Try.prog 46 #[.slice A L.length c] m fun v m' => IsZ m m' v (if vZ L then distE L else []) := by
  refine tr_of pok Try.func46 k46 (args := [_]) rfl ?_
  refine (t127 hx hl).mono ?_
  rintro v m1 ⟨rfl, rfl⟩
  refine IteB.not (IteB.of (fun hv => ?_) (fun hv => ?_))
  · rw [if_pos hv]
    obtain ⟨s1, s2, s3⟩ := vZ_small hv
    refine (t131 hx s1 (fun e he => (s2 e he).2)).mono ?_
    rintro v m2 h
    exact h
  · rw [if_neg hv]
    exact ⟨fun b hb => IsZ.new (NewZ.nil hb) rfl rfl⟩
/-- Distinct, of the program -/
theorem t45 (hx : RdE m A L) (hl : L.length < 2 ^ 60) : Tr Try.prog 45 #[.slice A L.length c] m fun v m' => IsZ m m' v (if vZ L then distE L else []) := by
  refine tr_of pok Try.func45 k45 (args := [_]) rfl ?_
  refine (t42 hx hl).mono ?_
  rintro v m1 ⟨rfl, rfl⟩
  refine IteB.not (IteB.of (fun hv => ?_) (fun hv => ?_))
  · rw [if_pos hv]
    obtain ⟨s1, hr, s3⟩ := vZ_small hv
    refine ⟨fun b hb => ?_⟩
    refine Lp.of (fun s : Nat × Nat × Nat × List EH => [(10, .v (.slice A L.length c)), (11, .v (.int .i64 L.length)), (3, .v (.slice (some ⟨s.2.1, 0, none⟩) s.2.2.2.length s.2.2.1)), (12, .v (.int .i64 (s.1 : Int)))]) (fun _ => [])
      (fun s m' => s.1 ≤ L.length ∧ NewZ m1 m' s.2.1 s.2.2.1 s.2.2.2 ∧ s.2.2.2.map EH.d = distE (L.take s.1) ∧ s.2.2.2.length ≤ s.1) (fun s => L.length - s.1) (0, b, 0, []) ⟨Nat.zero_le _, NewZ.nil hb, rfl, Nat.le_refl _⟩ ?_
    rintro ⟨i, b, cc, es⟩ m2 ⟨hi, hn, ht, hle⟩
    simp only at hi hn ht hle
    refine IteB.of (fun h1 => ?_) (fun h1 => ?_)
    · have hi' : i < L.length := by omega
      obtain ⟨a, Ar, cr, ha, q1, q2, q3, q4, q5⟩ := (hx.ext hn.ext) i hi'
      refine Ix.at ha hi' (LdN.two q1 q2 ?_)
      refine IteB.of (fun h2 => ?_) (fun h2 => ?_)
      · refine (t130 q3 (hr _ (List.getElem_mem hi')).1 (hr _ (List.getElem_mem hi')).2).mono ?_
        rintro v m2 ⟨r, hxs, rfl, h3, h4, h5⟩
        refine ⟨fun bb hbb => ?_⟩
        obtain ⟨⟨sp, o1, o2⟩, o3, o4⟩ := hn.own
        refine Ap.one (f := EH.cells) (k := 2) EH.len (l := es) (x := ⟨r, 1⟩) hbb (o1.ext h5) rfl o2 rfl (by omega) rfl (by (try dsimp only); omega) ?_
        intro b' c' sp' m3 g1 g2 g3 g4 g5
        refine Wr.ok (by omega) ⟨(i + 1, b', c', es ++ [⟨r, 1⟩]), ⟨rfl, rfl, ?_, rfl, trivial⟩, trivial, ⟨by simp only; omega, hn.push h5 h3 h4 g1 g2 g3 g4 g5, ?_, by simp only [List.length_append, List.length_singleton]; omega⟩, by simp only; omega⟩
        · simp only [List.length_append, List.length_singleton]; rfl
        · simp only
          rw [List.map_append, ht, List.take_succ_eq_append_getElem hi', distE_append]
          simp only [distE, List.map_cons, List.map_nil, EH.d, hxs, List.filter_cons, h2, decide_true, if_true, List.filter_nil]
      · refine Wr.ok (by omega) ⟨(i + 1, b, cc, es), ⟨rfl, rfl, rfl, rfl, trivial⟩, trivial, ⟨by simp only; omega, hn, ?_, by simp only; omega⟩, by simp only; omega⟩
        simp only
        rw [ht, List.take_succ_eq_append_getElem hi', distE_append]
        simp [distE, h2]
    · have : i = L.length := by omega
      subst this
      rw [List.take_length] at ht
      exact IsZ.new hn ht (by rw [← ht]; simp)
  · rw [if_neg hv]
    exact IsZ.mk0
/-- toEntryS -/
theorem zs_ents (n : Nat) : zs n [Value.slice none 0 0, Value.int .i64 0] = (List.replicate n ()).flatMap (fun _ => [Value.slice none 0 0, Value.int .i64 0]) := by
  simp [zs, List.flatMap_def]
theorem t51 (hx : RdE m A L) (hl : L.length < 2 ^ 40) (hr : ∀ e ∈ L, e.1.length < 2 ^ 40) : Tr Try.prog 51 #[.slice A L.length c] m fun v m' => ∃ b c' es, v = .slice (some ⟨b, 0, none⟩) L.length c' ∧ NewZ m m' b c' es ∧ es.map EH.d = L := by
  refine tr_of pok Try.func51 k51 (args := [_]) rfl ?_
  refine ⟨L.length, rfl, by omega, by omega, fun b hb => ?_⟩
  have hz : ∀ n, (zs n [Value.slice none 0 0, Value.int .i64 0]).length = n * 2 := fun n => by simp [zs_length]
  refine Lp.of (fun s : Nat × List EH => [(0, .v (.slice A L.length c)), (3, .v (.slice (some ⟨b, 0, none⟩) L.length L.length)), (4, .v (.int .i64 (s.1 : Int)))]) (fun _ => [])
    (fun s m' => s.1 ≤ L.length ∧ Bk m' b 40 (s.2.flatMap EH.cells ++ zs (L.length - s.1) [.slice none 0 0, .int .i64 0]) ∧ Ext m m' ∧ (∀ e ∈ s.2, OwR m' e.r ∧ m e.r.b = none) ∧ (s.2.map fun e => e.r.b).Nodup ∧ s.2.map EH.d = L.take s.1) (fun s => L.length - s.1) (0, [])
    ⟨Nat.zero_le _, Bk.mu _ _ _ _, Ext.mu hb, fun e he => (by cases he), List.nodup_nil, rfl⟩ ?_
  rintro ⟨i, es⟩ m1 ⟨hi, hbk, hext, hrows, hsep, ht⟩
  simp only at hi hbk hext hrows hsep ht
  have hes : es.length = i := by have := congrArg List.length ht; simp at this; omega
  refine IteB.of (fun h1 => ?_) (fun h1 => ?_)
  · have hi' : i < L.length := by omega
    obtain ⟨a, Ar, cr, ha, q1, q2, q3, q4, q5⟩ := (hx.ext hext) i hi'
    refine Ix.at ha hi' (LdN.two q1 q2 ?_)
    refine (t137 q3 (hr _ (List.getElem_mem hi'))).mono ?_
    rintro v m2 ⟨e, he, rfl, h2, h3, h4⟩
    refine Ix.at rfl hi' ?_
    rw [at_add, Nat.zero_add]
    refine Stt.bk (hbk.ext h4) rfl (by simp [flat_length EH.len, hz, hes, EH.cells]; omega) ?_
    refine Wr.ok (by omega) ⟨(i + 1, es ++ [e]), ⟨rfl, rfl, rfl, trivial⟩, trivial, ⟨by simp only; omega, ?_, ?_, ?_, ?_, ?_⟩, by simp only; omega⟩
    · simp only
      have e1 : wr (es.flatMap EH.cells ++ zs (L.length - i) [Value.slice none 0 0, Value.int .i64 0]) (i * 2) [e.r.val, Value.int .i64 e.w] = (es ++ [e]).flatMap EH.cells ++ zs (L.length - (i + 1)) [Value.slice none 0 0, Value.int .i64 0] := by
        obtain ⟨q, hq⟩ : ∃ q, L.length - i = q + 1 := ⟨L.length - i - 1, by omega⟩
        rw [hq, show L.length - (i + 1) = q by omega]
        have hlen := flat_length EH.len es
        rw [wr_eq _ _ _ (by simp [hlen, hz, hes]; omega)]
        rw [List.take_append_of_le_length (by rw [hlen, hes]; exact Nat.le_refl _), List.take_of_length_le (by rw [hlen, hes]; exact Nat.le_refl _), List.drop_append, List.drop_of_length_le (by rw [hlen, hes]; omega), hlen, hes]
        simp only [List.length_cons, List.length_nil, List.nil_append, show i * 2 + (0 + 1 + 1) - i * 2 = 2 by omega]
        simp [zs, List.replicate_succ, List.flatMap_append, EH.cells]
      rw [e1]
      exact Bk.mu _ _ _ _
    · exact (hext.trans h4).kp (Kp.mu b m2 _) hb
    · simp only
      intro x hxm
      rcases List.mem_append.1 hxm with hxm | hxm
      · exact ⟨((hrows x hxm).1.ext h4).kp (Kp.mu b m2 _) ((hrows x hxm).1.ne hbk (by decide)), (hrows x hxm).2⟩
      · simp at hxm; subst hxm
        exact ⟨h2.kp (Kp.mu b m2 _) (h2.ne (hbk.ext h4) (by decide)), hext.no h3⟩
    · simp only
      rw [List.map_append, List.nodup_append]
      refine ⟨hsep, by simp, fun x hx1 y hy => ?_⟩
      simp at hy; subst hy
      obtain ⟨q, hq, rfl⟩ := List.mem_map.1 hx1
      intro hh
      obtain ⟨sp5, h5⟩ := (hrows q hq).1.1
      exact h5.ne h3 hh
    · simp only
      rw [List.map_append, ht, List.take_succ_eq_append_getElem hi']
      simp only [List.map_cons, List.map_nil, he]
  · have : i = L.length := by omega
    subst this
    rw [List.take_length] at ht
    rw [Nat.sub_self] at hbk
    exact ⟨b, L.length, es, rfl, ⟨⟨⟨_, hbk, by simp [zs, hes]⟩, by omega, fun e he => (hrows e he).1⟩, hext, hb, fun e he => (hrows e he).2, hsep⟩, ht⟩
/-- All but some blocks are as they were. -/
def Same (F : List Nat) (m m' : Mem) : Prop := ∀ x, x ∉ F → m' x = m x
theorem Same.trans {F : List Nat} {a b c : Mem} (h : Same F a b) (k : Same F b c) : Same F a c := fun x hx => (k x hx).trans (h x hx)
theorem Same.mu {F : List Nat} {m : Mem} {b : Nat} {o : Obj} (hb : b ∈ F) : Same F m (mu m b o) := fun x hx => mu_ne (fun e => hx (e ▸ hb))
/-- markIntS -/
theorem t79 {r : RH} (hr : OwR m r) (hk : 0 ≤ k ∧ k < 2 ^ 61) : Tr Try.prog 79 #[r.val, .int .i64 k] m fun v m' => v = .int .i64 (k + r.xs.length) ∧ OwR m' { r with xs := seqI k r.xs.length } ∧ Same [r.b] m m' := by
  refine tr_of pok Try.func79 k79 (args := [_, _]) rfl ?_
  obtain ⟨⟨sp, hb⟩, hc, hl⟩ := hr
  refine Lp.of (fun i : Nat => [(0, .v r.val), (1, .v (.int .i64 (k + i))), (5, .v (.int .i64 (i : Int)))]) (fun _ => []) (fun i m' => i ≤ r.xs.length ∧ m' = (if i = 0 then m else mu m r.b (.cells ⟨(seqI k i ++ r.xs.drop i).map (Value.int .i64) ++ sp⟩ 3 (0, 0)))) (fun i => r.xs.length - i) 0 ⟨by omega, by simp⟩ ?_ (hf := ⟨rfl, by show _ = _; simp; rfl, rfl, trivial⟩)
  rintro i m' ⟨hi, hm⟩
  have hbk : Bk m' r.b 3 ((seqI k i ++ r.xs.drop i).map (Value.int .i64) ++ sp) := by
    rw [hm]; split
    · rename_i h0; subst h0; simpa [seqI] using hb
    · exact Bk.mu _ _ _ _
  have hsame : Same [r.b] m m' := by
    rw [hm]; split
    · exact fun x _ => rfl
    · exact Same.mu (by simp)
  refine IteB.of (fun h1 => ?_) (fun h1 => ?_)
  · have hi' : i < r.xs.length := by omega
    refine Ix.at rfl hi' ?_
    rw [at_add]
    refine Stt.bk hbk rfl (by simp [seqI_length]; omega) ?_
    refine Wr.ok (by omega) (Wr.ok (by omega) ⟨i + 1, ⟨rfl, ?_, rfl, trivial⟩, trivial, ⟨by omega, ?_⟩, by omega⟩)
    · show AV.v (.int .i64 (k + i + 1)) = AV.v (.int .i64 (k + ((i + 1 : Nat) : Int)))
      rw [show k + (i : Int) + 1 = k + ((i + 1 : Nat) : Int) by omega]
    · rw [if_neg (by omega)]
      have e1 : wr ((seqI k i ++ r.xs.drop i).map (Value.int .i64) ++ sp) (0 + i * 1) [Value.int .i64 (k + i)] = (seqI k (i + 1) ++ r.xs.drop (i + 1)).map (Value.int .i64) ++ sp := by
        rw [wr_eq _ _ _ (by simp [seqI_length]; omega), seqI_snoc, List.drop_eq_getElem_cons hi']
        have h2 : ((seqI k i).map (Value.int .i64)).length = i := by simp [seqI_length]
        simp only [List.map_append, List.map_cons, List.append_assoc, Nat.zero_add, Nat.mul_one, List.length_singleton]
        rw [List.take_append_of_le_length (by omega), List.take_of_length_le (by omega), List.drop_append, List.drop_of_length_le (by omega), h2]
        simp [show i + 1 - i = 1 by omega]
      rw [e1, hm]
      split
      · rfl
      · rw [mu_mu]
  · have hi' : i = r.xs.length := by omega
    subst hi'
    refine ⟨rfl, ⟨⟨sp, ?_⟩, by simpa [seqI_length] using hc, by simpa [seqI_length] using hl⟩, hsame⟩
    simpa using hbk
/-- The blocks of a list of entries. -/
def footE (b : Nat) (es : List EH) : List Nat := b :: es.map fun e => e.r.b
/-- markEntryS -/
theorem t55 {b : Nat} {es : List EH} (ho : OwZ m b c es) (hsep : (es.map fun e => e.r.b).Nodup) (hl : es.length < 2 ^ 60) (hc : cntE (es.map EH.d) < 2 ^ 60) (hk : 0 ≤ k ∧ k < 2 ^ 60) :
    Tr Try.prog 55 #[.slice (some ⟨b, 0, none⟩) es.length c, .int .i64 k] m fun v m' => v = .int .i64 (k + cntE (es.map EH.d)) ∧ (∃ es' : List EH, OwZ m' b c es' ∧ es'.map EH.d = markE k (es.map EH.d) ∧ es'.map (fun e => e.r.b) = es.map (fun e => e.r.b)) ∧ Same (footE b es) m m' := by
  refine tr_of pok Try.func55 k55 (args := [_, _]) rfl ?_
  have hdl : ∀ l : List EH, (l.map EH.d).length = l.length := fun l => by simp
  refine Lp.of (fun s : Nat × List EH => [(0, .v (.slice (some ⟨b, 0, none⟩) es.length c)), (1, .v (.int .i64 (k + cntE ((es.take s.1).map EH.d)))), (5, .v (.int .i64 (s.1 : Int)))]) (fun _ => [])
    (fun s m' => s.1 ≤ es.length ∧ OwZ m' b c s.2 ∧ s.2.map EH.d = markE k ((es.take s.1).map EH.d) ++ (es.drop s.1).map EH.d ∧ s.2.map (fun e => e.r.b) = es.map (fun e => e.r.b) ∧ Same (footE b es) m m') (fun s => es.length - s.1) (0, es)
    ⟨by simp, ho, by simp [markE], rfl, fun _ _ => rfl⟩ ?_ (hf := ⟨rfl, by show _ = _; simp [cntE]; rfl, rfl, trivial⟩)
  rintro ⟨i, fs⟩ m1 ⟨hi, ho1, hd1, hb1, hs1⟩
  simp only at hi ho1 hd1 hb1 hs1
  have hfl : fs.length = es.length := by have := congrArg List.length hb1; simpa using this
  have hcnt : cntE ((es.take i).map EH.d) + cntE ((es.drop i).map EH.d) = cntE (es.map EH.d) := by rw [← cntE_append, ← List.map_append, List.take_append_drop]
  refine IteB.of (fun h1 => ?_) (fun h1 => ?_)
  · have hi' : i < es.length := by omega
    have hif : i < fs.length := by omega
    have hdi : fs[i].d = es[i].d := by
      have h3 : (fs.map EH.d)[i]? = (markE k ((es.take i).map EH.d) ++ (es.drop i).map EH.d)[i]? := by rw [hd1]
      rw [List.getElem?_append_right (by rw [markE_length]; simp; omega), markE_length, List.getElem?_map, List.getElem?_eq_getElem hif] at h3
      have : i - ((es.take i).map EH.d).length = 0 := by simp; omega
      rw [this, List.getElem?_map, List.getElem?_drop, Nat.add_zero, List.getElem?_eq_getElem hi'] at h3
      simpa using h3
    have hcd : cntE ((es.drop i).map EH.d) = es[i].r.xs.length + 1 + cntE ((es.drop (i + 1)).map EH.d) := by rw [List.drop_eq_getElem_cons hi']; rfl
    have hxi : fs[i].r.xs = es[i].r.xs := congrArg Prod.fst hdi
    obtain ⟨q1, q2⟩ := ho1.mc i hif
    refine Ix.at rfl hi' (Ld.of q1 ?_)
    have hri := ho1.2.2 fs[i] (List.getElem_mem hif)
    refine (t79 hri (by (try dsimp only); omega)).mono ?_
    rintro v m2 ⟨rfl, hr2, hsm⟩
    obtain ⟨⟨sp, o1, o2⟩, o3, o4⟩ := ho1
    have hbf : b ∉ [fs[i].r.b] := by
      simp only [List.mem_singleton]
      exact fun e => (hri.ne o1 (by decide)) e.symm
    have hbk2 : Bk m2 b 40 (fs.flatMap EH.cells ++ sp) := by unfold Bk; rw [hsm b hbf]; exact o1
    refine Ix.at rfl hi' ?_
    rw [at_add, at_add]
    refine Stt.bk hbk2 rfl (by simp [flat_length EH.len]; omega) ?_
    have hlen : fs[i].r.xs.length = es[i].r.xs.length := by rw [hxi]
    let e' : EH := ⟨{ fs[i].r with xs := seqI (k + cntE ((es.take i).map EH.d)) fs[i].r.xs.length }, k + cntE ((es.take i).map EH.d) + fs[i].r.xs.length⟩
    have hfld : wr (fs.flatMap EH.cells ++ sp) (0 + i * 2 + 1) [Value.int .i64 (k + cntE ((es.take i).map EH.d) + fs[i].r.xs.length)] = (fs.set i e').flatMap EH.cells ++ sp := by
      rw [Nat.zero_add]
      refine wr_field EH.len fs sp i 1 e' _ hif (by omega) ?_
      simp [e', EH.cells, RH.val, seqI_length]
    have hmapb : (fs.set i e').map (fun e => e.r.b) = fs.map fun e => e.r.b := by
      rw [List.map_set]
      apply List.ext_getElem?
      intro j
      by_cases hj : j = i
      · subst hj; simp [hif, e']
      · simp [List.getElem?_set_ne (Ne.symm hj)]
    have hfoot : b ∈ footE b es ∧ fs[i].r.b ∈ footE b es := by
      refine ⟨by simp [footE], ?_⟩
      have : fs[i].r.b ∈ fs.map fun e => e.r.b := List.mem_map.2 ⟨_, List.getElem_mem hif, rfl⟩
      rw [hb1] at this
      exact List.mem_cons_of_mem _ this
    refine Wr.ok (by (try dsimp only); omega) (Wr.ok (by (try dsimp only); omega) ⟨(i + 1, fs.set i e'), ⟨rfl, ?_, rfl, trivial⟩, trivial, ⟨by simp only; omega, ?_, ?_, by simp only; rw [hmapb, hb1], ?_⟩, by simp only; omega⟩)
    · show AV.v (.int .i64 (k + cntE ((es.take i).map EH.d) + fs[i].r.xs.length + 1)) = AV.v (.int .i64 (k + cntE ((es.take (i + 1)).map EH.d)))
      rw [List.take_succ_eq_append_getElem hi', List.map_append, cntE_append, hlen]
      congr 2
      simp only [List.map_cons, List.map_nil, cntE, EH.d]
      push_cast
      omega
    · simp only
      rw [hfld]
      refine ⟨⟨sp, Bk.mu _ _ _ _, by simpa using o2⟩, by simpa using o3, fun x hx => ?_⟩
      obtain ⟨j, hj, rfl⟩ := List.getElem_of_mem hx
      rw [List.getElem_set]
      have hjl : j < fs.length := by simpa using hj
      split
      · exact hr2.kp (Kp.mu b m2 _) (fun e => hbf (by rw [← e]; simp))
      · rename_i hne
        have hnd : (fs.map fun e => e.r.b).Nodup := by rw [hb1]; exact hsep
        have hdiff : fs[j].r.b ≠ fs[i].r.b := by
          intro he
          have := (List.getElem_inj (h₀ := by simpa using hjl) (h₁ := by simpa using hif) hnd).1 (by simpa using he)
          exact hne this.symm
        have hj4 := o4 fs[j] (List.getElem_mem hjl)
        obtain ⟨⟨sp5, h5⟩, h6⟩ := hj4
        have h7 : Bk m2 fs[j].r.b 3 (fs[j].r.xs.map (Value.int .i64) ++ sp5) := by unfold Bk; rw [hsm _ (by simpa using hdiff)]; exact h5
        exact OwR.kp ⟨⟨sp5, h7⟩, h6⟩ (Kp.mu b m2 _) (h5.neT o1 (by decide))
    · simp only
      rw [List.map_set, hd1, List.take_succ_eq_append_getElem hi', List.drop_eq_getElem_cons hi', List.map_append, markE_append]
      have e2 : (markE k ((es.take i).map EH.d)).length = i := by rw [markE_length]; simp; omega
      rw [List.set_append_right _ _ (by omega), e2, Nat.sub_self]
      simp only [List.map_cons, List.map_nil, List.set_cons_zero, markE, List.append_assoc, List.singleton_append]
      congr 2
      simp [EH.d, e', hxi]
    · exact (hs1.trans (fun x hx => hsm x (by simp only [List.mem_singleton]; exact fun e => hx (e ▸ hfoot.2)))).trans (Same.mu hfoot.1)
  · have : i = es.length := by omega
    subst this
    rw [List.take_length] at *
    refine ⟨rfl, ⟨fs, ho1, ?_, hb1⟩, hs1⟩
    simpa using hd1
end Go.Proofs.Ytkbgdjpdmhnniaa
