/- Go functions that read lists of entries: what each comes to. Own work. No condition. -/
import Derived.Test.YtkbgdjpdmhnniaaPeA
import Derived.Test.YtkbgdjpdmhnniaaPb
import Derived.Test.YtkbgdjpdmhnniaaPa
namespace Go.Proofs.Ytkbgdjpdmhnniaa
open Go Go.Vc Go.Proofs
set_option linter.unusedVariables false
abbrev ED := List Int × Int
/-- Entries from A on. -/
def RdE (m : Mem) (A : Option Addr) (L : List ED) : Prop := ∀ i (h : i < L.length), ∃ a Ar cr, A = some a ∧ mc m (a.add (i * 2)) = some (.slice Ar L[i].1.length cr) ∧ mc m ((a.add (i * 2)).add 1) = some (.int .i64 L[i].2) ∧ IsRow m Ar L[i].1 ∧ L[i].1.length ≤ cr ∧ L[i].1.length < 2 ^ 62
theorem RdE.ext {m m' : Mem} {A : Option Addr} {L : List ED} (h : RdE m A L) (k : Ext m m') : RdE m' A L := fun i hi => by
  obtain ⟨a, Ar, cr, h1, h2, h3, h4, h5⟩ := h i hi; exact ⟨a, Ar, cr, h1, k.mc h2, k.mc h3, h4.ext k, h5⟩
variable {m : Mem} {A B : Option Addr} {xs ys : List Int} {L L' : List ED} {c c' : Nat} {u w k : Int}
/-- eqEntry -/
theorem t142 (hx : IsRow m A xs) (hy : IsRow m B ys) (hl : xs.length < 2 ^ 62) : Tr Try.prog 142 #[.agg #[.slice A xs.length c, .int .i64 u], .agg #[.slice B ys.length c', .int .i64 w]] m fun v m' => m' = m ∧ v = .bool (decide ((xs, u) = (ys, w))) := by
  refine tr_of pok Try.func142 k142 (args := [_, _]) rfl ?_
  refine (t78 hx hy hl).mono ?_
  rintro v m' ⟨rfl, rfl⟩
  refine IteB.not (IteB.of (fun h => ?_) (fun h => ⟨rfl, b_no (fun hh => h (by cases hh; rfl))⟩))
  refine IteB.of (fun h2 => ⟨rfl, b_no (fun hh => h2 (by cases hh; rfl))⟩) (fun h2 => ⟨rfl, b_yes ?_⟩)
  rw [h, Decidable.not_not.1 h2]
/-- eqEntryS -/
theorem t54 (hx : RdE m A L) (hy : RdE m B L') (hl : L.length < 2 ^ 62) : Tr Try.prog 54 #[.slice A L.length c, .slice B L'.length c'] m fun v m' => m' = m ∧ v = .bool (decide (L = L')) := by
  refine tr_of pok Try.func54 k54 (args := [_, _]) rfl ?_
  refine IteB.of (fun h => ⟨rfl, b_no (by intro he; subst he; exact h rfl)⟩) (fun h => ?_)
  have hlen : L.length = L'.length := by omega
  refine Lp.of (fun i : Nat => [(0, .v (.slice A L.length c)), (1, .v (.slice B L'.length c')), (5, .v (.int .i64 (i : Int)))]) (fun _ => []) (fun i m' => m' = m ∧ i ≤ L.length ∧ L.take i = L'.take i) (fun i => L.length - i) 0 ⟨rfl, by omega, rfl⟩ ?_
  rintro i m' ⟨rfl, hi, ht⟩
  refine IteB.of (fun h1 => ?_) (fun h1 => ?_)
  · have hi' : i < L.length := by omega
    obtain ⟨a, Ar, cr, ha, q1, q2, q3, q4, q5⟩ := hx i hi'
    obtain ⟨b, Br, dr, hb, r1, r2, r3, r4, r5⟩ := hy i (by omega)
    refine Ix.at ha hi' (LdN.two q1 q2 ?_)
    refine Ix.at hb (by omega) (LdN.two r1 r2 ?_)
    refine (t142 q3 r3 q5).mono ?_
    rintro v m' ⟨rfl, rfl⟩
    refine IteB.not (IteB.of (fun h2 => ?_) (fun h2 => ⟨rfl, b_no (by intro he; subst he; exact h2 rfl)⟩))
    refine Wr.ok (by omega) ⟨i + 1, ⟨rfl, rfl, rfl, trivial⟩, trivial, ⟨rfl, by omega, ?_⟩, by omega⟩
    rw [List.take_succ_eq_append_getElem hi', List.take_succ_eq_append_getElem (by omega), ht]
    congr 2
  · refine ⟨rfl, b_yes ?_⟩
    have hi' : i = L.length := by omega
    subst hi'
    rwa [List.take_length, hlen, List.take_length] at ht
/-- equalZSets -/
theorem t40 (hx : RdE m A L) (hy : RdE m B L') (hl : L.length < 2 ^ 62) : Tr Try.prog 40 #[.slice A L.length c, .slice B L'.length c'] m fun v m' => m' = m ∧ v = .bool (decide (L = L')) := by
  refine tr_of pok Try.func40 k40 (args := [_, _]) rfl ?_
  refine IteB.of (fun h => ⟨rfl, b_no (by intro he; subst he; exact h rfl)⟩) (fun h => ?_)
  have hlen : L.length = L'.length := by omega
  refine Lp.of (fun i : Nat => [(0, .v (.slice A L.length c)), (1, .v (.slice B L'.length c')), (5, .v (.int .i64 (i : Int)))]) (fun _ => []) (fun i m' => m' = m ∧ i ≤ L.length ∧ L.take i = L'.take i) (fun i => L.length - i) 0 ⟨rfl, by omega, rfl⟩ ?_
  rintro i m' ⟨rfl, hi, ht⟩
  refine IteB.of (fun h1 => ?_) (fun h1 => ?_)
  · have hi' : i < L.length := by omega
    obtain ⟨a, Ar, cr, ha, q1, q2, q3, q4, q5⟩ := hx i hi'
    obtain ⟨b, Br, dr, hb, r1, r2, r3, r4, r5⟩ := hy i (by omega)
    refine Ix.at ha hi' (Ld.of q1 ?_)
    refine Ix.at hb (by omega) (Ld.of r1 ?_)
    refine (t60 q3 r3 q5).mono ?_
    rintro v m' ⟨rfl, rfl⟩
    refine pl0 ?_
    refine IteB.not (IteB.of (fun h2 => ?_) (fun h2 => ⟨rfl, b_no (by intro he; subst he; exact h2 rfl)⟩))
    refine Ix.at ha hi' (Ld.of q2 ?_)
    refine Ix.at hb (by omega) (Ld.of r2 ?_)
    refine IteB.of (fun h3 => ⟨rfl, b_no (by intro he; subst he; exact h3 rfl)⟩) (fun h3 => ?_)
    refine Wr.ok (by omega) ⟨i + 1, ⟨rfl, rfl, rfl, trivial⟩, trivial, ⟨rfl, by omega, ?_⟩, by omega⟩
    rw [List.take_succ_eq_append_getElem hi', List.take_succ_eq_append_getElem (by omega), ht]
    congr 2
    exact Prod.ext h2 (Decidable.not_not.1 h3)
  · refine ⟨rfl, b_yes ?_⟩
    have hi' : i = L.length := by omega
    subst hi'
    rwa [List.take_length, hlen, List.take_length] at ht
/-- szIntS -/
theorem t183 (hw : -2 ^ 62 < w ∧ w < 2 ^ 62) (hl : xs.length < 2 ^ 62) : Tr Try.prog 183 #[.slice A xs.length c, .int .i64 w] m fun v m' => m' = m ∧ v = .int .i64 (if w < xs.length then -1 else w - xs.length) := by
  refine tr_of pok Try.func183 k183 (args := [_, _]) rfl ?_
  refine Wr.ok (by omega) ?_
  exact IteB.of (fun h => ⟨rfl, by rw [if_pos (by omega)]⟩) (fun h => ⟨rfl, by rw [if_neg (by omega)]⟩)
/-- szEntry -/
theorem t133 (hw : -2 ^ 62 < w ∧ w < 2 ^ 62) (hl : xs.length < 2 ^ 62) : Tr Try.prog 133 #[.agg #[.slice A xs.length c, .int .i64 u], .int .i64 w] m fun v m' => m' = m ∧ v = .int .i64 (if w < xs.length then -1 else w - xs.length) := by
  refine tr_of pok Try.func133 k133 (args := [_, _]) rfl ?_
  refine (t183 hw hl).mono ?_
  rintro v m' ⟨rfl, rfl⟩
  refine IteB.of (fun h => ⟨rfl, ?_⟩) (fun h => ⟨rfl, rfl⟩)
  split at h
  · rw [if_pos (by assumption)]
  · omega
/-- szEntryS: not less than 0 only where the sizes are within 'left' -/
theorem t49 (hx : RdE m A L) (hw : 0 ≤ w ∧ w < 2 ^ 61) (hl : L.length < 2 ^ 61) : Tr Try.prog 49 #[.slice A L.length c, .int .i64 w] m fun v m' => m' = m ∧ ∃ r : Int, v = .int .i64 r ∧ (0 ≤ r → r = w - cntE L) ∧ (r < 0 → r = -1) := by
  refine tr_of pok Try.func49 k49 (args := [_, _]) rfl ?_
  refine Wr.ok (by omega) ?_
  refine IteB.of (fun h => ⟨rfl, _, rfl, fun h => by omega, fun _ => rfl⟩) (fun h => ?_)
  refine Lp.of (fun s : Nat × Int => [(0, .v (.slice A L.length c)), (1, .v (.int .i64 s.2)), (5, .v (.int .i64 (s.1 : Int)))]) (fun _ => []) (fun s m' => m' = m ∧ s.1 ≤ L.length ∧ 0 ≤ s.2 ∧ s.2 + cntE (L.take s.1) + (L.length - s.1) = w) (fun s => L.length - s.1) (0, w - L.length) ⟨rfl, by simp, by simp; omega, by simp [cntE]⟩ ?_
  rintro ⟨i, q⟩ m' ⟨rfl, hi, h0, ht⟩
  simp only at hi h0 ht
  refine IteB.of (fun h1 => ?_) (fun h1 => ?_)
  · have hi' : i < L.length := by omega
    obtain ⟨a, Ar, cr, ha, q1, q2, q3, q4, q5⟩ := hx i hi'
    refine Ix.at ha hi' (LdN.two q1 q2 ?_)
    refine (t133 (by simp only; omega) q5).mono ?_
    rintro v m' ⟨rfl, rfl⟩
    simp only
    by_cases hq : q < L[i].1.length
    · rw [if_pos hq]
      exact IteB.of (fun h2 => ⟨rfl, _, rfl, fun h => by omega, fun _ => rfl⟩) (fun h2 => by omega)
    · rw [if_neg hq]
      refine IteB.of (fun h2 => by omega) (fun h2 => ?_)
      refine Wr.ok (by omega) ⟨(i + 1, q - L[i].1.length), ⟨rfl, rfl, rfl, trivial⟩, trivial, ⟨rfl, by simp only; omega, by simp only; omega, ?_⟩, by simp only; omega⟩
      simp only
      rw [List.take_succ_eq_append_getElem hi', cntE_append]
      simp only [cntE]
      push_cast
      omega
  · refine ⟨rfl, q, rfl, fun _ => ?_, fun h => by omega⟩
    have : i = L.length := by omega
    subst this
    rw [List.take_length] at ht
    omega
/-- heldIntS -/
theorem t143 (hx : IsRow m A xs) (hl : xs.length < 2 ^ 61) (hk : 0 ≤ k ∧ k < 2 ^ 61) : Tr Try.prog 143 #[.slice A xs.length c, .int .i64 k] m fun v m' => m' = m ∧ v = .int .i64 (if xs = seqI k xs.length then k + xs.length else -1) := by
  refine tr_of pok Try.func143 k143 (args := [_, _]) rfl ?_
  refine Lp.of (fun i : Nat => [(0, .v (.slice A xs.length c)), (1, .v (.int .i64 (k + i))), (5, .v (.int .i64 (i : Int)))]) (fun _ => []) (fun i m' => m' = m ∧ i ≤ xs.length ∧ xs.take i = seqI k i) (fun i => xs.length - i) 0 ⟨rfl, by omega, rfl⟩ ?_ (hf := ⟨rfl, by show _ = _; simp; rfl, rfl, trivial⟩)
  rintro i m' ⟨rfl, hi, ht⟩
  refine IteB.of (fun h1 => ?_) (fun h1 => ?_)
  · have hi' : i < xs.length := by omega
    obtain ⟨a, ha, hca⟩ := hx.at i hi'
    refine Ix.at ha hi' (Ld.of (by simpa using hca) ?_)
    refine IteB.of (fun h2 => ⟨rfl, ?_⟩) (fun h2 => ?_)
    · rw [if_neg]
      intro he
      apply h2
      have := seqI_get k xs.length i (by rw [seqI_length]; exact hi')
      rw [← this]
      congr 1
    · refine Wr.ok (by omega) (Wr.ok (by omega) ⟨i + 1, ⟨rfl, ?_, rfl, trivial⟩, trivial, ⟨rfl, by omega, ?_⟩, by omega⟩)
      · show AV.v (.int .i64 (k + i + 1)) = AV.v (.int .i64 (k + ((i + 1 : Nat) : Int)))
        rw [show k + (i : Int) + 1 = k + ((i + 1 : Nat) : Int) by omega]
      · rw [List.take_succ_eq_append_getElem hi', ht, seqI_snoc, Decidable.not_not.1 h2]
  · refine ⟨rfl, ?_⟩
    have : i = xs.length := by omega
    subst this
    rw [List.take_length] at ht
    rw [if_pos ht]
/-- heldEntryS -/
theorem t56 (hx : RdE m A L) (hl : L.length < 2 ^ 60) (hc : cntE L < 2 ^ 60) (hk : 0 ≤ k ∧ k < 2 ^ 60) : Tr Try.prog 56 #[.slice A L.length c, .int .i64 k] m fun v m' => m' = m ∧ ∃ r, v = .int .i64 r ∧ (L = markE k L → r = k + cntE L) ∧ (r = k + cntE L ∨ r = -1) := by
  refine tr_of pok Try.func56 k56 (args := [_, _]) rfl ?_
  refine Lp.of (fun i : Nat => [(0, .v (.slice A L.length c)), (1, .v (.int .i64 (k + cntE (L.take i)))), (5, .v (.int .i64 (i : Int)))]) (fun _ => []) (fun i m' => m' = m ∧ i ≤ L.length) (fun i => L.length - i) 0 ⟨rfl, by omega⟩ ?_ (hf := ⟨rfl, by show _ = _; simp [cntE]; rfl, rfl, trivial⟩)
  rintro i m' ⟨rfl, hi⟩
  have hsplit : cntE (L.take i) + cntE (L.drop i) = cntE L := by rw [← cntE_append, List.take_append_drop]
  refine IteB.of (fun h1 => ?_) (fun h1 => ?_)
  · have hi' : i < L.length := by omega
    obtain ⟨a, Ar, cr, ha, q1, q2, q3, q4, q5⟩ := hx i hi'
    have hd : cntE (L.drop i) = L[i].1.length + 1 + cntE (L.drop (i + 1)) := by rw [List.drop_eq_getElem_cons hi']; rfl
    have hmk : L = markE k L → L[i].1 = seqI (k + cntE (L.take i)) L[i].1.length ∧ L[i].2 = k + cntE (L.take i) + L[i].1.length := by
      intro h
      have h2 : markE k L = markE k (L.take i) ++ markE (k + cntE (L.take i)) (L.drop i) := by rw [← markE_append, List.take_append_drop]
      rw [h2, List.drop_eq_getElem_cons hi'] at h
      have h3 : L[i]? = (markE k (L.take i) ++ markE (k + cntE (L.take i)) (L[i] :: L.drop (i + 1)))[i]? := by rw [← h]
      rw [List.getElem?_append_right (by rw [markE_length, List.length_take]; omega), markE_length, List.length_take, Nat.min_eq_left (by omega), Nat.sub_self, List.getElem?_eq_getElem hi'] at h3
      simp only [markE, List.getElem?_cons_zero, Option.some.injEq] at h3
      exact ⟨congrArg Prod.fst h3, congrArg Prod.snd h3⟩
    refine Ix.at ha hi' (Ld.of q1 ?_)
    refine (t143 q3 (by omega) (by omega)).mono ?_
    rintro v m' ⟨rfl, rfl⟩
    by_cases hs : L[i].1 = seqI (k + cntE (L.take i)) L[i].1.length
    · rw [if_pos hs]
      refine IteB.of (fun h2 => by omega) (fun h2 => ?_)
      refine Ix.at ha hi' (Ld.of q2 ?_)
      refine IteB.of (fun h3 => ⟨rfl, _, rfl, fun h => absurd (hmk h).2 h3, .inr rfl⟩) (fun h3 => ?_)
      refine Wr.ok (by omega) (Wr.ok (by omega) ⟨i + 1, ⟨rfl, ?_, rfl, trivial⟩, trivial, ⟨rfl, by omega⟩, by omega⟩)
      show AV.v (.int .i64 (k + cntE (L.take i) + L[i].1.length + 1)) = AV.v (.int .i64 (k + cntE (L.take (i + 1))))
      rw [List.take_succ_eq_append_getElem hi', cntE_append]
      congr 2
      simp only [cntE]
      push_cast
      omega
    · rw [if_neg hs]
      exact IteB.of (fun h2 => ⟨rfl, _, rfl, fun h => absurd (hmk h).1 hs, .inr rfl⟩) (fun h2 => by omega)
  · refine ⟨rfl, _, rfl, ?_⟩
    have : i = L.length := by omega
    subst this
    rw [List.take_length]
    exact ⟨fun _ => rfl, .inl rfl⟩
/-- validZSet -/
theorem t127 (hx : RdE m A L) (hl : L.length < 2 ^ 60) : Tr Try.prog 127 #[.slice A L.length c] m fun v m' => m' = m ∧ v = .bool (decide (vZ L)) := by
  refine tr_of pok Try.func127 k127 (args := [_]) rfl ?_
  refine Lp.of (fun i : Nat => [(0, .v (.slice A L.length c)), (3, .v (.int .i64 (i : Int)))]) (fun _ => []) (fun i m' => m' = m ∧ i ≤ L.length ∧ ∀ j (hj : j < i) (h : j < L.length), zOK L j h) (fun i => L.length - i) 0 ⟨rfl, by omega, fun j hj => by omega⟩ ?_
  rintro i m' ⟨rfl, hi, ht⟩
  refine IteB.of (fun h1 => ?_) (fun h1 => ⟨rfl, b_iff ⟨fun h => ⟨by omega, fun j hj => ht j (by omega) hj⟩, fun h => by have := h.1; omega⟩⟩)
  have hi' : i < L.length := by omega
  obtain ⟨a, Ar, cr, ha, q1, q2, q3, q4, q5⟩ := hx i hi'
  obtain ⟨a0, Ar0, cr0, ha0, p1, p2, p3, p4, p5⟩ := hx 0 (by omega)
  refine Ix.at ha hi' (Ld.of q1 ?_)
  refine (t147 q3 q5).mono ?_
  rintro v m' ⟨rfl, rfl⟩
  refine pl0 (IteB.not (IteB.of (fun h2 => ?_) (fun h2 => pl0 ⟨rfl, b_no (fun hv => h2 (hv.2 i hi').1)⟩)))
  refine Ix.at ha hi' (Ld.of q1 ?_)
  refine Ix.at (j := 0) ha0 (by omega) (Ld.of p1 ?_)
  refine IteB.of (fun h3 => pl0 ⟨rfl, b_no (fun hv => h3 (by have := (hv.2 i hi').2.1; omega))⟩) (fun h3 => ?_)
  refine Ix.at ha hi' (Ld.of q2 ?_)
  refine IteB.of (fun h4 => pl0 ⟨rfl, b_no (fun hv => (hv.2 i hi').2.2.1 h4)⟩) (fun h4 => ?_)
  refine Ix.at ha hi' (Ld.of q2 ?_)
  refine (t148 _ _ _).mono ?_
  rintro v m' ⟨rfl, rfl⟩
  refine pl0 (IteB.not (IteB.of (fun h5 => ?_) (fun h5 => ⟨rfl, b_no (fun hv => h5 (hv.2 i hi').2.2.2.1)⟩)))
  have next : (∀ h0 : 0 < i, cmpR (L[i - 1]'(by omega)).1 L[i].1 < 0) → ∀ j (hj : j < i + 1) (h : j < L.length), zOK L j h := fun hc j hj h => by
    by_cases hji : j = i
    · subst hji; exact ⟨h2, by omega, h4, h5, hc⟩
    · exact ht j (by omega) h
  refine IteB.of (fun h6 => ?_) (fun h6 => ?_)
  · obtain ⟨a1, Ar1, cr1, ha1, r1, r2, r3, r4, r5⟩ := hx (i - 1) (by omega)
    have e1 : (i : Int) - 1 = ((i - 1 : Nat) : Int) := by omega
    refine Wr.ok (by omega) ?_
    rw [e1]
    refine Ix.at ha1 (by omega) (Ld.of r1 ?_)
    refine Ix.at ha hi' (Ld.of q1 ?_)
    refine (t187 r3 q3 r5).mono ?_
    rintro v m' ⟨rfl, rfl⟩
    refine IteB.not (IteB.of (fun h7 => ?_) (fun h7 => ⟨rfl, b_no (fun hv => h7 ((hv.2 i hi').2.2.2.2 (by omega)))⟩))
    exact Wr.ok (by omega) ⟨i + 1, ⟨rfl, rfl, trivial⟩, trivial, ⟨rfl, by omega, next (fun _ => h7)⟩, by omega⟩
  · exact Wr.ok (by omega) ⟨i + 1, ⟨rfl, rfl, trivial⟩, trivial, ⟨rfl, by omega, next (fun h0 => by omega)⟩, by omega⟩
/-- ValidZSet -/
theorem t42 (hx : RdE m A L) (hl : L.length < 2 ^ 60) : Tr Try.prog 42 #[.slice A L.length c] m fun v m' => m' = m ∧ v = .bool (decide (vZ L)) := by
  refine tr_of pok Try.func42 k42 (args := [_]) rfl ?_
  refine Lp.of (fun i : Nat => [(0, .v (.slice A L.length c)), (5, .v (.slice A L.length c)), (6, .v (.int .i64 L.length)), (7, .v (.int .i64 (i : Int)))]) (fun _ => []) (fun i m' => m' = m ∧ i ≤ L.length ∧ ∀ j (hj : j < i) (h : j < L.length), zOK L j h) (fun i => L.length - i) 0 ⟨rfl, by omega, fun j hj => by omega⟩ ?_
  rintro i m' ⟨rfl, hi, ht⟩
  refine IteB.of (fun h1 => ?_) (fun h1 => ⟨rfl, b_iff ⟨fun h => ⟨by omega, fun j hj => ht j (by omega) hj⟩, fun h => by have := h.1; omega⟩⟩)
  have hi' : i < L.length := by omega
  obtain ⟨a, Ar, cr, ha, q1, q2, q3, q4, q5⟩ := hx i hi'
  obtain ⟨a0, Ar0, cr0, ha0, p1, p2, p3, p4, p5⟩ := hx 0 (by omega)
  refine Ix.at ha hi' (LdN.two q1 q2 ?_)
  refine (t120 q3 q5).mono ?_
  rintro v m' ⟨rfl, rfl⟩
  refine pl0 (IteB.not (IteB.of (fun h2 => ?_) (fun h2 => ⟨rfl, b_no (fun hv => h2 (hv.2 i hi').1)⟩)))
  refine Ix.at (j := 0) ha0 (by omega) (Ld.of p1 ?_)
  refine IteB.of (fun h3 => ⟨rfl, b_no (fun hv => h3 (by have := (hv.2 i hi').2.1; omega))⟩) (fun h3 => ?_)
  refine IteB.of (fun h4 => ⟨rfl, b_no (fun hv => (hv.2 i hi').2.2.1 h4)⟩) (fun h4 => ?_)
  refine IteB.of (fun h5 => ⟨rfl, b_no (fun hv => by have := (hv.2 i hi').2.2.2.1; omega)⟩) (fun h5 => ?_)
  refine IteB.of (fun h5' => ⟨rfl, b_no (fun hv => by have := (hv.2 i hi').2.2.2.1; omega)⟩) (fun h5' => ?_)
  have next : (∀ h0 : 0 < i, cmpR (L[i - 1]'(by omega)).1 L[i].1 < 0) → ∀ j (hj : j < i + 1) (h : j < L.length), zOK L j h := fun hc j hj h => by
    by_cases hji : j = i
    · subst hji; exact ⟨h2, by omega, h4, by omega, hc⟩
    · exact ht j (by omega) h
  refine IteB.of (fun h6 => ?_) (fun h6 => ?_)
  · obtain ⟨a1, Ar1, cr1, ha1, r1, r2, r3, r4, r5⟩ := hx (i - 1) (by omega)
    have e1 : (i : Int) - 1 = ((i - 1 : Nat) : Int) := by omega
    refine Wr.ok (by omega) ?_
    rw [e1]
    refine Ix.at ha1 (by omega) (Ld.of r1 ?_)
    refine (t129 r3 q3 r5).mono ?_
    rintro v m' ⟨rfl, rfl⟩
    refine IteB.not (IteB.of (fun h7 => ?_) (fun h7 => ⟨rfl, b_no (fun hv => h7 ((hv.2 i hi').2.2.2.2 (by omega)))⟩))
    exact Wr.ok (by omega) ⟨i + 1, ⟨rfl, rfl, rfl, rfl, trivial⟩, trivial, ⟨rfl, by omega, next (fun _ => h7)⟩, by omega⟩
  · exact Wr.ok (by omega) ⟨i + 1, ⟨rfl, rfl, rfl, rfl, trivial⟩, trivial, ⟨rfl, by omega, next (fun h0 => by omega)⟩, by omega⟩
/-- TotalWeight -/
theorem t43 (hx : RdE m A L) (hl : L.length < 2 ^ 60) : Tr Try.prog 43 #[.slice A L.length c] m fun v m' => m' = m ∧ v = .int .i64 (if vZ L then totE L else 0) := by
  refine tr_of pok Try.func43 k43 (args := [_]) rfl ?_
  refine (t42 hx hl).mono ?_
  rintro v m1 ⟨rfl, rfl⟩
  refine IteB.not (IteB.of (fun hv => ?_) (fun h => ⟨rfl, by rw [if_neg h]⟩))
  rw [if_pos hv]
  have hb : ∀ e ∈ L, -1000000 ≤ e.2 ∧ e.2 ≤ 1000000 := fun e he => by
    obtain ⟨j, hj, rfl⟩ := List.getElem_of_mem he
    exact (hv.2 j hj).2.2.2.1
  refine Lp.of (fun i : Nat => [(3, .v (.int .i64 (totE (L.take i)))), (9, .v (.slice A L.length c)), (10, .v (.int .i64 L.length)), (11, .v (.int .i64 (i : Int)))]) (fun _ => []) (fun i m' => m' = m1 ∧ i ≤ L.length) (fun i => L.length - i) 0 ⟨rfl, by omega⟩ ?_
  rintro i m' ⟨rfl, hi⟩
  refine IteB.of (fun h1 => ?_) (fun h1 => ?_)
  · have hi' : i < L.length := by omega
    obtain ⟨a, Ar, cr, ha, q1, q2, q3, q4, q5⟩ := hx i hi'
    have b1 := totE_bound (L.take i) (fun e he => hb e (List.mem_of_mem_take he))
    have b2 := hb L[i] (List.getElem_mem hi')
    have b3 := hv.1
    have b4 : (L.take i).length ≤ 400 := by rw [List.length_take]; omega
    refine Ix.at ha hi' (LdN.two q1 q2 ?_)
    refine Wr.ok (by omega) (Wr.ok (by omega) ⟨i + 1, ⟨?_, rfl, rfl, rfl, trivial⟩, trivial, ⟨rfl, by omega⟩, by omega⟩)
    show AV.v (.int .i64 (totE (L.take i) + L[i].2)) = _
    rw [List.take_succ_eq_append_getElem hi', totE_append]
    simp [totE]
  · refine ⟨rfl, ?_⟩
    rw [List.take_of_length_le (by omega)]
/-- IsSet -/
theorem t48 (hx : RdE m A L) (hl : L.length < 2 ^ 60) : Tr Try.prog 48 #[.slice A L.length c] m fun v m' => m' = m ∧ v = .bool (decide (vZ L ∧ ∀ e ∈ L, e.2 = 1)) := by
  refine tr_of pok Try.func48 k48 (args := [_]) rfl ?_
  refine Lp.of (fun i : Nat => [(0, .v (.slice A L.length c)), (5, .v (.slice A L.length c)), (6, .v (.int .i64 L.length)), (7, .v (.int .i64 (i : Int)))]) (fun _ => []) (fun i m' => m' = m ∧ i ≤ L.length ∧ ∀ j (hj : j < i) (h : j < L.length), L[j].2 = 1) (fun i => L.length - i) 0 ⟨rfl, by omega, fun j hj => by omega⟩ ?_
  rintro i m' ⟨rfl, hi, ht⟩
  refine IteB.of (fun h1 => ?_) (fun h1 => ?_)
  · have hi' : i < L.length := by omega
    obtain ⟨a, Ar, cr, ha, q1, q2, q3, q4, q5⟩ := hx i hi'
    refine Ix.at ha hi' (LdN.two q1 q2 ?_)
    refine IteB.of (fun h2 => ⟨rfl, b_no (fun hv => h2 (hv.2 _ (List.getElem_mem hi')))⟩) (fun h2 => ?_)
    refine Wr.ok (by omega) ⟨i + 1, ⟨rfl, rfl, rfl, rfl, trivial⟩, trivial, ⟨rfl, by omega, fun j hj h => ?_⟩, by omega⟩
    by_cases hji : j = i
    · subst hji; exact Decidable.not_not.1 h2
    · exact ht j (by omega) h
  · refine (t42 hx hl).mono ?_
    rintro v m' ⟨rfl, rfl⟩
    refine ⟨rfl, b_iff ⟨fun h => ⟨h, fun e he => ?_⟩, fun h => h.1⟩⟩
    obtain ⟨j, hj, rfl⟩ := List.getElem_of_mem he
    exact ht j (by omega) hj
/-- WeightOf -/
theorem t47 (hx : RdE m A L) (hy : IsRow m B ys) (hl : L.length < 2 ^ 60) : Tr Try.prog 47 #[.slice A L.length c, .slice B ys.length c'] m fun v m' => m' = m ∧ v = .int .i64 (if vZ L then wOf L ys else 0) := by
  refine tr_of pok Try.func47 k47 (args := [_, _]) rfl ?_
  refine (t42 hx hl).mono ?_
  rintro v m1 ⟨rfl, rfl⟩
  refine IteB.not (IteB.of (fun hv => ?_) (fun h => ⟨rfl, by rw [if_neg h]⟩))
  rw [if_pos hv]
  refine Lp.of (fun i : Nat => [(1, .v (.slice B ys.length c')), (10, .v (.slice A L.length c)), (11, .v (.int .i64 L.length)), (12, .v (.int .i64 (i : Int)))]) (fun _ => []) (fun i m' => m' = m1 ∧ i ≤ L.length ∧ wOf L ys = wOf (L.drop i) ys) (fun i => L.length - i) 0 ⟨rfl, by omega, rfl⟩ ?_
  rintro i m' ⟨rfl, hi, ht⟩
  refine IteB.of (fun h1 => ?_) (fun h1 => ?_)
  · have hi' : i < L.length := by omega
    obtain ⟨a, Ar, cr, ha, q1, q2, q3, q4, q5⟩ := hx i hi'
    have hd : wOf (L.drop i) ys = if L[i].1 = ys then L[i].2 else wOf (L.drop (i + 1)) ys := by rw [List.drop_eq_getElem_cons hi']; rfl
    refine Ix.at ha hi' (LdN.two q1 q2 ?_)
    refine (t132 q3 hy q5).mono ?_
    rintro v m' ⟨rfl, rfl⟩
    refine IteB.of (fun h2 => ⟨rfl, by rw [ht, hd, if_pos h2]⟩) (fun h2 => ?_)
    exact Wr.ok (by omega) ⟨i + 1, ⟨rfl, rfl, rfl, rfl, trivial⟩, trivial, ⟨rfl, by omega, by rw [ht, hd, if_neg h2]⟩, by omega⟩
  · refine ⟨rfl, ?_⟩
    rw [ht, List.drop_of_length_le (by omega)]
    rfl
/-- widthOf, of the program -/
theorem t138 (hx : RdE m A L) (hl : L.length < 2 ^ 60) : Tr Try.prog 138 #[.slice A L.length c] m fun v m' => m' = m ∧ v = .int .i64 (((L.head?.map (·.1.length)).getD 0 : Nat) : Int) := by
  refine tr_of pok Try.func138 k138 (args := [_]) rfl ?_
  refine IteB.of (fun h => ⟨rfl, ?_⟩) (fun h => ?_)
  · have : L = [] := List.eq_nil_of_length_eq_zero (by omega)
    subst this; rfl
  · obtain ⟨a, Ar, cr, ha, q1, q2, q3, q4, q5⟩ := hx 0 (by omega)
    refine Ix.at (j := 0) ha (by omega) (Ld.of q1 ⟨rfl, ?_⟩)
    cases L with
    | nil => simp at h
    | cons e r => rfl
/-- widthOf, of the reference -/
theorem t135 (hx : RdE m A L) (hl : L ≠ []) : Tr Try.prog 135 #[.slice A L.length c] m fun v m' => m' = m ∧ v = .int .i64 (((L.head?.map (·.1.length)).getD 0 : Nat) : Int) := by
  refine tr_of pok Try.func135 k135 (args := [_]) rfl ?_
  have h0 : 0 < L.length := List.length_pos_iff.2 hl
  obtain ⟨a, Ar, cr, ha, q1, q2, q3, q4, q5⟩ := hx 0 h0
  refine Ix.at (j := 0) ha h0 (Ld.of q1 ⟨rfl, ?_⟩)
  cases L with
  | nil => simp at h0
  | cons e r => rfl
end Go.Proofs.Ytkbgdjpdmhnniaa
