/- The reader of the reference: what it draws. Own work. No condition. -/
import Derived.Test.YtkbgdjpdmhnniaaPrA
import Derived.Test.YtkbgdjpdmhnniaaPn
namespace Go.Proofs.Ytkbgdjpdmhnniaa
open Go Go.Vc Go.Proofs
set_option linter.unusedVariables false
variable {m : Mem} {A B : Option Addr} {xs ys : List Int} {L L' : List ED} {c c' : Nat} {u w k : Int}
/-- n bytes from A on. -/
def RdB (m : Mem) (A : Option Addr) (n : Nat) : Prop := ∀ j < n, ∃ a x, A = some a ∧ mc m (a.add j) = some (.int .u8 x) ∧ 0 ≤ x ∧ x < 256
theorem RdB.ext {m m' : Mem} {n : Nat} (h : RdB m A n) (k : Ext m m') : RdB m' A n := fun j hj => by
  obtain ⟨a, x, h1, h2, h3⟩ := h j hj; exact ⟨a, x, h1, k.mc h2, h3⟩
/-- A reader that has drawn N numbers at most, in a memory that has grown out of m0. -/
structure Rdr (m0 m : Mem) (rb : Nat) (N : Int) : Prop where
  ext : Ext m0 m
  no : m0 rb = none
  out : ∃ A n c p, Bk m rb 148 [.slice A n c, .int .i64 p] ∧ RdB m0 A n ∧ n ≤ 2000 ∧ 0 ≤ p ∧ p ≤ N
variable {m0 m1 m2 m3 : Mem} {rb : Nat} {N : Int}
theorem Rdr.mono {N' : Int} (h : Rdr m0 m rb N) (k : N ≤ N') : Rdr m0 m rb N' := by
  obtain ⟨h1, h2, A, n, c, p, h3, h4, h5, h6, h7⟩ := h; exact ⟨h1, h2, A, n, c, p, h3, h4, h5, h6, by omega⟩
theorem Rdr.grow (h : Rdr m0 m rb N) (k : Ext m m1) : Rdr m0 m1 rb N := by
  obtain ⟨h1, h2, A, n, c, p, h3, h4⟩ := h; exact ⟨h1.trans k, h2, A, n, c, p, h3.ext k, h4⟩
theorem Rdr.kp {b : Nat} {T : TypeId} {cs : List Value} (h : Rdr m0 m rb N) (hb : Bk m b T cs) (hT : T ≠ 148) (hn : m0 b = none) (k : Kp b m m1) : Rdr m0 m1 rb N := by
  obtain ⟨h1, h2, A, n, c, p, h3, h4⟩ := h; exact ⟨h1.kp k hn, h2, A, n, c, p, h3.kp k (h3.neT hb (Ne.symm hT)), h4⟩
abbrev rp (rb : Nat) : Value := .pointer (some ⟨rb, 0, none⟩)
/-- newReader -/
theorem t123 {n : Nat} (hx : RdB m A n) (hn : n < 2 ^ 60) (hc : n ≤ c) : Tr Try.prog 123 #[.slice A n c] m fun v m' => ∃ rb, v = rp rb ∧ Rdr m m' rb 0 := by
  refine tr_of pok Try.func123 k123 (args := [_]) rfl ?_
  refine IteB.of (fun h => ?_) (fun h => ?_)
  · refine Sl.pre (k := 2000) (by omega) ?_
    refine ⟨fun b hb => ?_⟩
    exact ⟨b, rfl, Ext.mu hb, hb, A, 2000, c, 0, Bk.mu _ _ _ _, fun j hj => hx j (by omega), by omega, by omega, by omega⟩
  · refine ⟨fun b hb => ?_⟩
    exact ⟨b, rfl, Ext.mu hb, hb, A, n, c, 0, Bk.mu _ _ _ _, hx, by omega, by omega, by omega⟩
theorem tmod_range {a b : Int} (ha : 0 ≤ a) (hb : 0 < b) : 0 ≤ a.tmod b ∧ a.tmod b < b := by
  rw [Int.tmod_eq_emod_of_nonneg ha]; exact ⟨Int.emod_nonneg _ (by omega), Int.emod_lt_of_pos _ hb⟩
theorem tdiv_range {a b : Int} (ha : 0 ≤ a) (hb : 0 < b) : 0 ≤ a.tdiv b ∧ a.tdiv b ≤ a := by
  rw [Int.tdiv_eq_ediv_of_nonneg ha]; exact ⟨Int.ediv_nonneg ha (by omega), Int.ediv_le_self _ ha⟩
theorem xor_range {a b : Int} (ha : 0 ≤ a ∧ a < 2 ^ 60) (hb : 0 ≤ b ∧ b < 2 ^ 60) : 0 ≤ xorI .i64 a b ∧ xorI .i64 a b < 2 ^ 60 := by
  obtain ⟨a, rfl⟩ := Int.eq_ofNat_of_zero_le ha.1
  obtain ⟨b, rfl⟩ := Int.eq_ofNat_of_zero_le hb.1
  have h : (BitVec.ofInt (IntKind.bits .i64) (a : Int) ^^^ BitVec.ofInt (IntKind.bits .i64) (b : Int)).toNat < 2 ^ 60 := by
    rw [BitVec.toNat_xor]
    apply Nat.xor_lt_two_pow
    · rw [BitVec.ofInt_natCast, BitVec.toNat_ofNat]; exact Nat.lt_of_le_of_lt (Nat.mod_le _ _) (by omega)
    · rw [BitVec.ofInt_natCast, BitVec.toNat_ofNat]; exact Nat.lt_of_le_of_lt (Nat.mod_le _ _) (by omega)
  unfold xorI
  have : ∀ x : Nat, x < 2 ^ 60 → 0 ≤ IntKind.wrap .i64 (x : Int) ∧ IntKind.wrap .i64 (x : Int) < 2 ^ 60 := fun x hx => by
    have : Wr .i64 (x : Int) fun z => 0 ≤ z ∧ z < 2 ^ 60 := Wr.ok (by omega) (by omega)
    exact this.out
  exact this _ h
/-- pick -/
theorem t125 (hr : Rdr m0 m rb N) (hN : N < 2 ^ 40) : Tr Try.prog 125 #[rp rb, .int .i64 k] m fun v m' => ∃ x : Int, v = .int .i64 x ∧ 0 ≤ x ∧ (0 < k → x < k) ∧ Rdr m0 m' rb (N + 1) ∧ Kp rb m m' := by
  obtain ⟨h1, h2, A, n, c, p, h3, h4, h5, h6, h7⟩ := hr
  refine tr_of pok Try.func125 k125 (args := [_, _]) rfl ?_
  have g1 : mc m ((⟨rb, 0, none⟩ : Addr).add 1) = some (.int .i64 p) := by rw [at_add, h3.mc]; rfl
  refine Ld.of g1 (Wr.ok (by omega) ?_)
  rw [at_add]
  refine Stt.bk h3 rfl (by simp) ?_
  have e1 : Bk (mu m rb (.cells ⟨[.slice A n c, .int .i64 (p + 1)]⟩ 148 (0, 0))) rb 148 [.slice A n c, .int .i64 (p + 1)] := Bk.mu _ _ _ _
  have e2 : Kp rb m (mu m rb (.cells ⟨[.slice A n c, .int .i64 (p + 1)]⟩ 148 (0, 0))) := Kp.mu rb m _
  show _
  simp only [wr, Nat.zero_add]
  have fin : Rdr m0 (mu m rb (.cells ⟨[.slice A n c, .int .i64 (p + 1)]⟩ 148 (0, 0))) rb (N + 1) := ⟨h1.kp e2 h2, h2, A, n, c, p + 1, e1, h4, h5, by omega, by omega⟩
  have g2 : mc (mu m rb (.cells ⟨[.slice A n c, .int .i64 (p + 1)]⟩ 148 (0, 0))) ⟨rb, 0, none⟩ = some (.slice A n c) := by rw [e1.mc]; rfl
  have g3 : mc (mu m rb (.cells ⟨[.slice A n c, .int .i64 (p + 1)]⟩ 148 (0, 0))) ((⟨rb, 0, none⟩ : Addr).add 1) = some (.int .i64 (p + 1)) := by rw [at_add, e1.mc]; rfl
  have hB := fun j (hj : j < n) => (show RdB _ A n from h4.ext fin.ext) j hj
  generalize hM : mu m rb (.cells ⟨[.slice A n c, .int .i64 (p + 1)]⟩ 148 (0, 0)) = M at *
  refine IteB.of (fun q1 => ?_) (fun q1 => ?_)
  · exact ⟨0, rfl, by omega, fun h => h, fin, e2⟩
  · refine Ld.of g2 ?_
    refine IteB.of (fun q2 => ?_) (fun q2 => ?_)
    · exact ⟨0, rfl, by omega, fun h => h, fin, e2⟩
    · refine Ld.of g3 (Wr.ok (by omega) ?_)
      rw [show p + 1 - 1 = p by omega]
      refine Ld.of g2 ?_
      refine IteB.of (fun q3 => ?_) (fun q3 => ?_)
      · refine Ld.of g2 ?_
        obtain ⟨pn, rfl⟩ := Int.eq_ofNat_of_zero_le h6
        obtain ⟨a, x, r1, r2, r3, r4⟩ := hB pn (by omega)
        refine Ix.at r1 (by omega) ?_
        rw [Nat.mul_one]
        refine Ld.of r2 (Wr.ok (by omega) ⟨by omega, ?_⟩)
        have := tmod_range r3 (b := k) (by omega)
        exact ⟨_, rfl, this.1, fun _ => this.2, fin, e2⟩
      · obtain ⟨pn, rfl⟩ := Int.eq_ofNat_of_zero_le h6
        have hn0 : 0 < n := by omega
        have tm : ∀ q : Nat, ((q : Int).tmod (n : Int)) = ((q % n : Nat) : Int) := fun q => (Int.ofNat_tmod q n).symm
        have lt1 := Nat.mod_lt pn hn0
        have lt2 := Nat.mod_lt (pn * 7 + 3) hn0
        obtain ⟨a, x, r1, r2, r3, r4⟩ := hB _ lt1
        obtain ⟨a', x', s1, s2, s3, s4⟩ := hB _ lt2
        refine Ld.of g2 (Ld.of g2 ⟨by omega, ?_⟩)
        rw [tm]
        refine Ix.at r1 lt1 ?_
        rw [Nat.mul_one]
        refine Ld.of r2 (Wr.ok (by omega) (Wr.ok (by omega) ?_))
        refine Ld.of g2 (Wr.ok (by omega) (Wr.ok (by omega) (Ld.of g2 ⟨by omega, ?_⟩)))
        rw [show (pn : Int) * 7 + 3 = ((pn * 7 + 3 : Nat) : Int) by omega, tm]
        refine Ix.at s1 lt2 ?_
        rw [Nat.mul_one]
        refine Ld.of s2 (Wr.ok (by omega) (Wr.ok (by omega) (Wr.ok (by omega) (Wr.ok (by omega) (Wr.ok (by omega) ?_)))))
        have q := tdiv_range (a := (pn : Int)) (b := (n : Int)) (by omega) (by omega)
        refine Ld.of g2 ⟨by omega, Wr.ok (by omega) (Wr.ok (by omega) (Wr.ok (by omega) ⟨by omega, ?_⟩))⟩
        generalize hy : x * 131 + x' * 1117 + (pn : Int) * 29 + (pn : Int).tdiv n * 53 = y
        have q4 := tdiv_range (a := y) (b := 64) (by omega) (by omega)
        refine Wr.ok (by omega) ⟨by omega, ?_⟩
        have q5 := xor_range (a := y) (b := y.tdiv 64) (by omega) (by omega)
        have := tmod_range q5.1 (b := k) (by omega)
        exact ⟨_, rfl, this.1, fun _ => this.2, fin, e2⟩
/-- one -/
theorem t192 (hr : Rdr m0 m rb N) (hN : N < 2 ^ 40) (hx : IsRow m A xs) (hA : ∀ a, A = some a → m0 a.block = none ∧ a.block ≠ rb) (hne : xs ≠ []) : Tr Try.prog 192 #[rp rb, .slice A xs.length c] m fun v m' => ∃ x, v = .int .i64 x ∧ x ∈ xs ∧ Rdr m0 m' rb (N + 1) ∧ Kp rb m m' := by
  refine tr_of pok Try.func192 k192 (args := [_, _]) rfl ?_
  refine (t125 hr hN).mono ?_
  rintro v m1 ⟨i, rfl, h1, h2, h3, h4⟩
  have hl : 0 < xs.length := List.length_pos_iff.2 hne
  have h2 := h2 (by omega)
  obtain ⟨j, rfl⟩ := Int.eq_ofNat_of_zero_le h1
  have hj : j < xs.length := by omega
  obtain ⟨a, ha, hc⟩ := hx.at j hj
  refine Ix.at ha hj ?_
  rw [Nat.mul_one]
  have hb := (hA a ha).2
  refine Ld.of (v := .int .i64 xs[j]) ?_ ⟨_, rfl, List.getElem_mem hj, h3, h4⟩
  have hb' : (a.add j).block ≠ rb := by unfold Addr.add; split <;> simpa using hb
  unfold Vc.mc at *
  cases e : m (a.add j).block with
  | none => rw [e] at hc; cases hc
  | some o => rw [e] at hc; rw [h4 _ hb' o e]; exact hc
theorem OwR.kp2 {r : RH} (h : OwR m r) (hR : Rdr m0 m rb N) (k : Kp rb m m1) : OwR m1 r := by
  obtain ⟨_, _, A, n, c, p, h3, _⟩ := hR
  exact h.kp k (h.ne h3 (by decide))
theorem flat1 {α : Type} (g : α → Value) : ∀ l : List α, (l.flatMap fun x => [g x]) = l.map g
  | [] => rfl
  | x :: l => by simp [List.flatMap_cons, flat1 g l]
theorem Rdr.free {b : Nat} (h : Rdr m0 m1 rb N) (k : Kp rb m m1) (hb : m1 b = none) : m b = none := by
  obtain ⟨_, _, A, n, c, p, h3, _⟩ := h
  cases e : m b with
  | none => rfl
  | some o =>
    by_cases q : b = rb
    · subst q; unfold Bk at h3; rw [hb] at h3; cases h3
    · rw [k b q o e] at hb; cases hb
theorem kp_thru {a b : Nat} (h : Kp a m m1) (k : Kp b m1 m2) (hb : m b = none) : Kp a m m2 := fun x hx o ho =>
  k x (fun e => by subst e; rw [hb] at ho; cases ho) o (h x hx o ho)
theorem Rdr.zero (h : Rdr m0 m rb N) {b : Nat} (hb : m b = none) : m0 b = none := h.ext.no hb
/-- randomRow -/
theorem t144 (hr : Rdr m0 m rb N) (hN : 0 ≤ N ∧ N < 2 ^ 39) (hk : 0 ≤ k ∧ k < 2 ^ 20) : Tr Try.prog 144 #[rp rb, .int .i64 k] m fun v m' => ∃ r : RH, v = r.val ∧ (r.xs.length : Int) = k ∧ (∀ x ∈ r.xs, 0 ≤ x ∧ x < 4) ∧ OwR m' r ∧ m r.b = none ∧ Rdr m0 m' rb (N + k) ∧ Kp rb m m' := by
  refine tr_of pok Try.func144 k144 (args := [_, _]) rfl ?_
  refine ⟨fun b hb => ?_⟩
  refine Lp.of (fun s : RH => [(0, .v (rp rb)), (1, .v (.int .i64 k)), (5, .v s.val), (6, .v (.int .i64 (s.xs.length : Int)))]) (fun _ => [])
    (fun s m' => (s.xs.length : Int) ≤ k ∧ (∀ x ∈ s.xs, 0 ≤ x ∧ x < 4) ∧ (∃ sp, Bk m' s.b 3 (s.xs.flatMap (fun x => [Value.int .i64 x]) ++ sp) ∧ s.xs.length * 1 + sp.length = s.c * 1) ∧ s.xs.length ≤ s.c ∧ m s.b = none ∧ Rdr m0 m' rb (N + s.xs.length) ∧ Kp rb m m') (fun s => (k - s.xs.length).toNat) ⟨b, 0, []⟩ ?_ ?_
  · exact ⟨by simp; omega, by simp, ⟨[], Bk.mu _ _ _ _, rfl⟩, by simp, hb, by simpa using hr.grow (Ext.mu hb), Kp.of (Ext.mu hb)⟩
  rintro s m1 ⟨h1, h2, ⟨sp, h3, h3'⟩, h3'', h4, h5, h6⟩
  refine IteB.of (fun g1 => ?_) (fun g1 => ?_)
  · refine (t125 h5 (by omega)).mono ?_
    rintro v m2 ⟨x, rfl, j1, j2, j3, j4⟩
    have j2 := j2 (by omega)
    have hne : s.b ≠ rb := by
      obtain ⟨_, _, A, n, c, p, w3, _⟩ := h5
      exact h3.neT w3 (by decide)
    have o2 := h3.kp j4 hne
    have k2 : Kp rb m m2 := h6.trans j4
    refine ⟨fun b2 hb2 => ?_⟩
    refine Ap.one (f := fun x => [Value.int .i64 x]) (k := 1) (fun _ => rfl) (l := s.xs) (x := x) hb2 o2 rfl h3' rfl (by omega) rfl (by (try dsimp only); omega) ?_
    intro b4 c4 sp4 m4 f1 f2 f3 f4 f5
    have hb4 : m b4 = none := by
      rcases f1 with rfl | f1
      · exact h4
      · exact j3.free k2 f1
    refine Wr.ok (by omega) ⟨⟨b4, c4, s.xs ++ [x]⟩, ⟨rfl, rfl, by simp [RH.val]; rfl, by simp; rfl, trivial⟩, trivial, ⟨by simp; omega, ?_, ⟨sp4, f2, by simpa using f3⟩, by simpa using f4, hb4, ?_, kp_thru k2 f5 h4⟩, by simp; omega⟩
    · intro y hy
      rcases List.mem_append.1 hy with hy | hy
      · exact h2 y hy
      · simp at hy; omega
    · exact (j3.kp o2 (by decide) (hr.zero h4) f5).mono (by simp; omega)
  · refine ⟨s, rfl, by omega, h2, ⟨⟨sp, by rw [flat1] at h3; exact h3⟩, h3'', by omega⟩, h4, h5.mono (by omega), h6⟩
/-- Entries as a reader draws them. -/
def Sml (D : Int) (L : List ED) : Prop := (L.length : Int) ≤ D ∧ ∀ e ∈ L, (e.1.length : Int) ≤ D ∧ -(D * 1000001) ≤ e.2 ∧ e.2 ≤ D * 1000001
theorem normS_len_map {es : List EH} {L : List ED} (h : es.map EH.d = L) : es.length = L.length := by rw [← h]; simp
theorem Rdr.ne {b : Nat} {T : TypeId} {cs : List Value} (h : Rdr m0 m rb N) (hb : Bk m b T cs) (hT : T ≠ 148) : b ≠ rb := by
  obtain ⟨_, _, A, n, c, p, h3, _⟩ := h; exact hb.neT h3 hT
theorem OwZ.kp2 {b : Nat} {es : List EH} (h : OwZ m b c es) (hR : Rdr m0 m rb N) (k : Kp rb m m1) : OwZ m1 b c es := by
  obtain ⟨⟨sp, h1, h2⟩, h3, h4⟩ := h
  exact ⟨⟨sp, h1.kp k (hR.ne h1 (by decide)), h2⟩, h3, fun e he => (h4 e he).kp2 hR k⟩
/-- What a draw of entries comes to. -/
structure Drw (m0 m : Mem) (rb : Nat) (N : Int) (v : Value) (D : Int) : Prop where
  out : ∃ b c es, v = .slice (some ⟨b, 0, none⟩) es.length c ∧ OwZ m b c es ∧ m0 b = none ∧ Sml D (es.map EH.d)
  rd : Rdr m0 m rb N
theorem OwR.of_new (r : RH) (m : Mem) (b : Nat) (xs : List Int) (hl : xs.length < 2 ^ 20) : OwR (mu m b (.cells ⟨xs.map (Value.int .i64)⟩ 3 (0, 0))) ⟨b, xs.length, xs⟩ :=
  ⟨⟨[], by rw [List.append_nil]; exact Bk.mu _ _ _ _⟩, Nat.le_refl _, by simp only; omega⟩
/-- randomZSet -/
theorem t186 {q : Int} (hr : Rdr m0 m rb N) (hN : 0 ≤ N ∧ N < 2 ^ 38) (hk : 0 ≤ k ∧ k ≤ 8) (hq : 0 ≤ q ∧ q ≤ 8) : Tr Try.prog 186 #[rp rb, .int .i64 k, .int .i64 q] m fun v m' => Drw m0 m' rb (N + 1000) v 16 := by
  refine tr_of pok Try.func186 k186 (args := [_, _, _]) rfl ?_
  refine ⟨fun b0 hb0 => ?_⟩
  refine Wr.ok (by omega) ?_
  refine (t125 (hr.grow (Ext.mu hb0)) (by omega)).mono ?_
  rintro v m1 ⟨n, rfl, h1, h2, h3, h4⟩
  have h2 := h2 (by omega)
  have o0 : OwZ m1 b0 0 [] := (NewZ.nil hb0).own.kp2 (hr.grow (Ext.mu hb0)) h4
  refine Lp.of (fun s : Nat × Nat × Nat × List EH => [(0, .v (rp rb)), (1, .v (.int .i64 k)), (7, .v (.slice (some ⟨s.2.1, 0, none⟩) s.2.2.2.length s.2.2.1)), (8, .v (.int .i64 (n - s.1)))]) (fun _ => [])
    (fun s m' => (s.1 : Int) ≤ n ∧ OwZ m' s.2.1 s.2.2.1 s.2.2.2 ∧ m0 s.2.1 = none ∧ srt (s.2.2.2.map EH.d) ∧ s.2.2.2.length ≤ s.1 ∧ (∀ e ∈ s.2.2.2, (e.r.xs.length : Int) ≤ 8 ∧ -(2 * s.1) ≤ e.w ∧ e.w ≤ 2 * s.1) ∧ Rdr m0 m' rb (N + 1 + 20 * s.1)) (fun s => (n - s.1).toNat) (0, b0, 0, []) ⟨by simp only; omega, o0, hr.zero hb0, by simp [srt], Nat.le_refl _, fun _ h => (by cases h), h3.mono (by omega)⟩ ?_ (hf := ⟨rfl, rfl, rfl, by simp; rfl, trivial⟩)
  rintro ⟨i, b1, cc, fs⟩ m2 ⟨hi, hn, hb1, hs, hle, hB, hR⟩
  simp only at hi hn hb1 hs hle hB hR
  refine IteB.of (fun g1 => ?_) (fun g1 => ?_)
  · refine (t144 hR (by omega) (by omega)).mono ?_
    rintro v m3 ⟨r, rfl, j1, j2, j3, j4, j5, j6⟩
    have o3 := hn.kp2 hR j6
    refine ⟨fun bb hbb => ?_⟩
    have x4 : Ext m3 (mu m3 bb (.cells ⟨([1, 1, 2, -1] : List Int).map (Value.int .i64)⟩ 3 (0, 0))) := Ext.mu hbb
    have hrow : IsRow (mu m3 bb (.cells ⟨([1, 1, 2, -1] : List Int).map (Value.int .i64)⟩ 3 (0, 0))) (some ⟨bb, 0, none⟩) [1, 1, 2, -1] := (OwR.of_new r m3 bb [1, 1, 2, -1] (by decide)).row
    have hbr : bb ≠ rb := (j5.grow x4).ne (Bk.mu _ _ _ _) (by decide)
    refine (t192 (j5.grow x4) (by omega) (xs := [1, 1, 2, -1]) hrow (fun a ha => by cases ha; exact ⟨j5.zero hbb, hbr⟩) (by simp)).mono ?_
    rintro v m5 ⟨w, rfl, l1, l2, l3⟩
    have o5 := (o3.ext x4).kp2 (j5.grow x4) l3
    have r5 := (j3.ext x4).kp2 (j5.grow x4) l3
    have hw : -2 ≤ w ∧ w ≤ 2 := by simp at l1; omega
    refine (t196 (D := 2 * i) o5 r5.row hs (by omega) (by omega) (fun e he => (hB e he).2) (by omega) (by omega)).mono ?_
    rintro v m6 ⟨b6, c6, es6, rfl, p1, p2, p3, p4⟩
    obtain ⟨⟨sp, o5', _⟩, _⟩ := id o5
    have hlen6 : es6.length ≤ i + 1 := by
      have := insE_length r.xs w (fs.map EH.d)
      rw [← p2] at this
      simp at this
      omega
    refine Wr.ok (by omega) ⟨(i + 1, b6, c6, es6), ⟨rfl, rfl, rfl, ?_, trivial⟩, trivial, ⟨by simp only; omega, p1, ?_, by simp only; rw [p2]; exact srt_insE _ _ hs, by simp only; omega, fun e he => ?_, (l2.kp o5' (by decide) hb1 p4).mono (by simp only; omega)⟩, by simp only; omega⟩
    · show AV.v (Value.int .i64 (n - (i : Int) - 1)) = AV.v (.int .i64 (n - ((i + 1 : Nat) : Int)))
      rw [show n - (i : Int) - 1 = n - ((i + 1 : Nat) : Int) by omega]
    · rcases p3 with rfl | p3
      · exact hb1
      · exact l2.zero p3
    · have hm : e.d ∈ insE r.xs w (fs.map EH.d) := by rw [← p2]; exact List.mem_map_of_mem he
      have b1 := insE_bound (xs := r.xs) (w := w) (B := 2 * i) (C := 2) (L := fs.map EH.d) (fun e he => by
        obtain ⟨q, hq, rfl⟩ := List.mem_map.1 he; exact (hB q hq).2) hw (by omega) (by omega) _ hm
      have hrow : e.r.xs ∈ rows (insE r.xs w (fs.map EH.d)) := List.mem_map.2 ⟨_, hm, rfl⟩
      rw [rows_insE] at hrow
      refine ⟨?_, ?_⟩
      · rcases hrow with h | h
        · rw [h]; omega
        · obtain ⟨x, hx, he2⟩ := List.mem_map.1 h
          obtain ⟨y, hy, rfl⟩ := List.mem_map.1 hx
          have := (hB y hy).1
          rw [← he2]; exact this
      · simp only [EH.d] at b1
        simp only
        push_cast
        omega
  · refine (t198 hn (by omega)).mono ?_
    rintro v m3 ⟨b3, c3, es3, rfl, p1, p2, p3, p4⟩
    refine ⟨⟨b3, c3, es3, rfl, p1, hR.zero p3, ?_⟩, (hR.grow p4).mono (by omega)⟩
    rw [p2]
    refine ⟨?_, fun e he => ?_⟩
    · have : (nz (fs.map EH.d)).length ≤ (fs.map EH.d).length := List.length_filter_le _ _
      simp at this
      omega
    · obtain ⟨q, hq, rfl⟩ := List.mem_map.1 (List.mem_filter.1 he).1
      have := hB q hq
      simp only [EH.d]
      omega
theorem Drw.mono {v : Value} {D D' N' : Int} (h : Drw m0 m rb N v D) (hD : D ≤ D') (hN : N ≤ N') : Drw m0 m rb N' v D' := by
  obtain ⟨⟨b, c, es, h1, h2, h3, h4, h5⟩, h6⟩ := h
  exact ⟨⟨b, c, es, h1, h2, h3, by omega, fun e he => by have := h5 e he; omega⟩, h6.mono hN⟩
theorem flat_getD {α : Type} (f : α → List Value) (l : List α) (i : Nat) (h : i < l.length) : l[i] ∈ l := List.getElem_mem h
theorem stt1 {b o j : Nat} {ys cs : List Value} {T : TypeId} {K : Mem → Prop} (h : Bk m b T cs) (h1 : onesB ys = true) (hl : o + j + ys.length ≤ cs.length) (k : K (mu m b (.cells ⟨wr cs (o + j) ys⟩ T (0, 0)))) : Stt m ((⟨b, o, none⟩ : Addr).add j) ys K := by
  rw [at_add]; exact Stt.bk h h1 hl k
theorem stt_ent {b i j : Nat} {es : List EH} {sp : List Value} {v : Value} {K : Mem → Prop} (h : Bk m b 40 (es.flatMap EH.cells ++ sp)) (hi : i < es.length) (hj : j < 2) (h1 : onesB [v] = true) (e : EH) (hx : e.cells = (es[i].cells).set j v) (k : K (mu m b (.cells ⟨(es.set i e).flatMap EH.cells ++ sp⟩ 40 (0, 0)))) :
    Stt m ((⟨b, 0 + i * 2, none⟩ : Addr).add j) [v] K := by
  refine stt1 h h1 (by simp [flat_length EH.len]; omega) ?_
  rw [Nat.zero_add, wr_field EH.len es sp i j e v hi hj hx]
  exact k
/-- damage -/
theorem t145 {b : Nat} {es : List EH} {D : Int} (hr : Rdr m0 m rb N) (hN : 0 ≤ N ∧ N < 2 ^ 38) (ho : OwZ m b c es) (hb : m0 b = none) (hs : Sml D (es.map EH.d)) (hD : 1 ≤ D ∧ D ≤ 100) : Tr Try.prog 145 #[rp rb, .slice (some ⟨b, 0, none⟩) es.length c] m fun v m' => Drw m0 m' rb (N + 1000) v (D + 1) := by
  refine tr_of pok Try.func145 k145 (args := [_, _]) rfl ?_
  have hlen : (es.length : Int) ≤ D := by have := hs.1; simpa using this
  have hsE : ∀ e ∈ es, (e.r.xs.length : Int) ≤ D ∧ -(D * 1000001) ≤ e.w ∧ e.w ≤ D * 1000001 := fun e he => hs.2 e.d (List.mem_map_of_mem he)
  refine IteB.of (fun g0 => ?_) (fun g0 => ?_)
  · exact Drw.mono ⟨⟨b, c, es, rfl, ho, hb, hs⟩, hr⟩ (by omega) (by omega)
  refine (t125 hr (by omega)).mono ?_
  rintro v m1 ⟨n, rfl, h1, h2, h3, h4⟩
  have h2 := h2 (by omega)
  obtain ⟨i, rfl⟩ := Int.eq_ofNat_of_zero_le h1
  have hi : i < es.length := by omega
  have o1 := ho.kp2 hr h4
  refine (t125 h3 (by omega)).mono ?_
  rintro v m2 ⟨n, rfl, h5, h6, h7, h8⟩
  have o2 := o1.kp2 h3 h8
  obtain ⟨⟨sp, a1, a2⟩, a3, a4⟩ := id o2
  -- an entry put in place of another
  have fin : ∀ (m3 : Mem) (N' : Int) (e : EH) (m4 : Mem), Bk m4 b 40 ((es.set i e).flatMap EH.cells ++ sp) → Rdr m0 m4 rb N' → N' ≤ N + 1000 → OwR m4 e.r → (∀ x ∈ es, OwR m4 x.r) → (e.r.xs.length : Int) ≤ D + 1 → -((D + 1) * 1000001) ≤ e.w ∧ e.w ≤ (D + 1) * 1000001 → Drw m0 m4 rb (N + 1000) (.slice (some ⟨b, 0, none⟩) es.length c) (D + 1) := by
    intro m3 N' e m4 q1 q2 q3 q4 q5 q6 q7
    refine ⟨⟨b, c, es.set i e, by rw [List.length_set], ⟨⟨sp, q1, by rw [List.length_set]; exact a2⟩, by rw [List.length_set]; exact a3, fun x hx => ?_⟩, hb, by simp only [List.length_map, List.length_set]; omega, fun x hx => ?_⟩, q2.mono q3⟩
    · rcases List.mem_or_eq_of_mem_set hx with hx | rfl
      · exact q5 x hx
      · exact q4
    · obtain ⟨y, hy, rfl⟩ := List.mem_map.1 hx
      rcases List.mem_or_eq_of_mem_set hy with hy | rfl
      · have := hsE y hy
        simp only [EH.d]
        omega
      · exact ⟨q6, q7⟩
  have hsi := hsE _ (List.getElem_mem hi)
  refine IteB.of (fun c0 => ?_) (fun c0 => ?_)
  · refine ⟨fun bb hbb => ?_⟩
    have x4 : Ext m2 (mu m2 bb (.cells ⟨([0, 1000001, -1000001, 1000000] : List Int).map (Value.int .i64)⟩ 3 (0, 0))) := Ext.mu hbb
    have hrow : IsRow (mu m2 bb (.cells ⟨([0, 1000001, -1000001, 1000000] : List Int).map (Value.int .i64)⟩ 3 (0, 0))) (some ⟨bb, 0, none⟩) [0, 1000001, -1000001, 1000000] := (OwR.of_new ⟨0, 0, []⟩ m2 bb [0, 1000001, -1000001, 1000000] (by decide)).row
    have hbr : bb ≠ rb := (h7.grow x4).ne (Bk.mu _ _ _ _) (by decide)
    refine (t192 (h7.grow x4) (by omega) (xs := [0, 1000001, -1000001, 1000000]) hrow (fun a ha => by cases ha; exact ⟨h7.zero hbb, hbr⟩) (by simp)).mono ?_
    rintro v m5 ⟨w, rfl, l1, l2, l3⟩
    have o5 := (o2.ext x4).kp2 (h7.grow x4) l3
    obtain ⟨⟨sp5, b1, _⟩, _, b4⟩ := id o5
    have b1' := (a1.ext x4).kp l3 ((h7.grow x4).ne (a1.ext x4) (by decide))
    have hw : -1000001 ≤ w ∧ w ≤ 1000001 := by simp at l1; omega
    refine Ix.at rfl hi ?_
    rw [at_add]
    refine stt_ent b1' hi (by omega) rfl { es[i] with w := w } rfl ?_
    refine fin m5 _ { es[i] with w := w } _ (Bk.mu _ _ _ _) (l2.kp b1' (by decide) hb (Kp.mu _ _ _)) (by omega) ((b4 _ (List.getElem_mem hi)).kp' b1' (Kp.mu _ _ _)) (fun x hx => (b4 x hx).kp' b1' (Kp.mu _ _ _)) (by simp only; omega) (by simp only; omega)
  refine IteB.of (fun c1 => ?_) (fun c1 => ?_)
  · obtain ⟨q1, q2⟩ := o2.mc i hi
    refine Ix.at rfl hi (Ld.of q1 ?_)
    refine (t189s (a4 _ (List.getElem_mem hi)).row (by omega)).mono ?_
    rintro v m3 ⟨r, hr1, rfl, hr2, ⟨spr, p1, p2⟩, hr3, hr4⟩
    refine ⟨fun bb hbb => ?_⟩
    have r3 := h7.grow hr4
    refine Ap.one (f := fun x => [Value.int .i64 x]) (k := 1) (fun _ => rfl) (l := r.xs) (x := 1) hbb (by rw [flat1]; exact p1) rfl (by omega) rfl (by omega) rfl (by (try dsimp only); rw [hr1]; omega) ?_
    intro b4 c4 sp4 m4 f1 f2 f3 f4 f5
    rw [flat1] at f2
    have hm0 : m0 r.b = none := h7.zero hr3
    have hm4 : m0 b4 = none := by
      rcases f1 with rfl | f1
      · exact hm0
      · exact r3.zero f1
    have o3 := o2.ext hr4
    obtain ⟨⟨sp3, u1, u2⟩, u3, u4⟩ := id o3
    have w1 : Bk m4 b 40 (es.flatMap EH.cells ++ sp) := (a1.ext hr4).kp f5 ((a1.ext hr4).neT p1 (by decide))
    have r4 : Rdr m0 m4 rb (N + 1 + 1) := r3.kp p1 (by decide) hm0 f5
    have rows4 : ∀ x ∈ es, OwR m4 x.r := fun x hx => (u4 x hx).kp f5 (fun e => by
      have := (a4 x hx).ext hr4
      obtain ⟨⟨spx, hbx⟩, _⟩ := a4 x hx
      exact hbx.ne hr3 e)
    have hrl : r.xs.length = es[i].r.xs.length := by rw [hr1]
    refine Ix.at rfl hi ?_
    rw [at_add]
    have hlen1 : (r.xs ++ [(1 : Int)]).length = r.xs.length + 1 := by simp
    refine stt_ent w1 hi (by omega) rfl { es[i] with r := ⟨b4, c4, r.xs ++ [1]⟩ } (by simp [EH.cells, RH.val]) ?_
    refine fin m4 _ { es[i] with r := ⟨b4, c4, r.xs ++ [1]⟩ } _ (Bk.mu _ _ _ _) (r4.kp w1 (by decide) hb (Kp.mu _ _ _)) (by omega) (OwR.kp' ⟨⟨sp4, f2⟩, by simpa using f4, by simp only [hlen1]; omega⟩ w1 (Kp.mu _ _ _)) (fun x hx => (rows4 x hx).kp' w1 (Kp.mu _ _ _)) (by simp only [hlen1]; omega) (by simp only; omega)
  refine IteB.of (fun c2 => ?_) (fun c2 => ?_)
  · obtain ⟨q1, q2⟩ := o2.mc i hi
    refine Ix.at rfl hi (LdN.two q1 q2 ?_)
    refine (t190 (a4 _ (List.getElem_mem hi)).row (by omega)).mono ?_
    rintro v m3 ⟨e, he1, rfl, hr2, hr3, hr4⟩
    refine ⟨fun bb hbb => ?_⟩
    have r3 := h7.grow hr4
    have o3 := o2.ext hr4
    obtain ⟨⟨sp3, u1, u2⟩, u3, u4⟩ := id o3
    refine Ap.one (f := EH.cells) (k := 2) EH.len (l := es) (x := e) hbb u1 rfl u2 rfl (by omega) rfl (by (try dsimp only); omega) ?_
    intro b4 c4 sp4 m4 f1 f2 f3 f4 f5
    have hm4 : m0 b4 = none := by
      rcases f1 with rfl | f1
      · exact hb
      · exact r3.zero f1
    have hed : e.r.xs = es[i].r.xs ∧ e.w = es[i].w := by simpa [EH.d] using he1
    refine ⟨⟨b4, c4, es ++ [e], by simp, ⟨⟨sp4, f2, by simpa using f3⟩, by simpa using f4, fun x hx => ?_⟩, hm4, by simp; omega, fun x hx => ?_⟩, (r3.kp u1 (by decide) hb f5).mono (by omega)⟩
    · rcases List.mem_append.1 hx with hx | hx
      · exact (u4 x hx).kp' u1 f5
      · simp at hx; subst hx; exact hr2.kp' u1 f5
    · obtain ⟨y, hy, rfl⟩ := List.mem_map.1 hx
      rcases List.mem_append.1 hy with hy | hy
      · have := hsE y hy
        simp only [EH.d]; omega
      · simp at hy; subst hy
        simp only [EH.d, hed.1, hed.2]; omega
  refine IteB.of (fun c3 => ?_) (fun c3 => ?_)
  · refine ⟨fun bb hbb => ?_⟩
    refine Ix.at rfl hi ?_
    rw [at_add]
    refine stt_ent (a1.ext (Ext.mu hbb)) hi (by omega) rfl { es[i] with r := ⟨bb, 0, []⟩ } rfl ?_
    have w1 : Bk (mu m2 bb (.cells ⟨([] : List Int).map (Value.int .i64)⟩ 3 (0, 0))) b 40 (es.flatMap EH.cells ++ sp) := a1.ext (Ext.mu hbb)
    exact fin m2 _ { es[i] with r := ⟨bb, 0, []⟩ } _ (Bk.mu _ _ _ _) ((h7.grow (Ext.mu hbb)).kp w1 (by decide) hb (Kp.mu _ _ _)) (by omega) (OwR.kp' (OwR.of_new ⟨0, 0, []⟩ m2 bb [] (by decide)) w1 (Kp.mu _ _ _)) (fun x hx => ((a4 x hx).ext (Ext.mu hbb)).kp' w1 (Kp.mu _ _ _)) (by simp; omega) (by simp only; omega)
  · refine ⟨fun bb hbb => ?_⟩
    refine Ix.at rfl hi ?_
    rw [at_add]
    refine stt_ent (a1.ext (Ext.mu hbb)) hi (by omega) rfl { es[i] with r := ⟨bb, 1, [10000]⟩ } rfl ?_
    have w1 : Bk (mu m2 bb (.cells ⟨([10000] : List Int).map (Value.int .i64)⟩ 3 (0, 0))) b 40 (es.flatMap EH.cells ++ sp) := a1.ext (Ext.mu hbb)
    exact fin m2 _ { es[i] with r := ⟨bb, 1, [10000]⟩ } _ (Bk.mu _ _ _ _) ((h7.grow (Ext.mu hbb)).kp w1 (by decide) hb (Kp.mu _ _ _)) (by omega) (OwR.kp' (OwR.of_new ⟨0, 0, []⟩ m2 bb [10000] (by decide)) w1 (Kp.mu _ _ _)) (fun x hx => ((a4 x hx).ext (Ext.mu hbb)).kp' w1 (Kp.mu _ _ _)) (by simp; omega) (by simp only; omega)
/-- anyZSet -/
theorem t124 (hr : Rdr m0 m rb N) (hN : 0 ≤ N ∧ N < 2 ^ 37) (hk : 0 ≤ k ∧ k ≤ 8) : Tr Try.prog 124 #[rp rb, .int .i64 k] m fun v m' => Drw m0 m' rb (N + 3000) v 17 := by
  refine tr_of pok Try.func124 k124 (args := [_, _]) rfl ?_
  refine (t186 hr (by omega) hk (by omega)).mono ?_
  rintro v m1 ⟨⟨b, c, es, rfl, h1, h2, h3⟩, h4⟩
  refine (t125 h4 (by omega)).mono ?_
  rintro v m2 ⟨n, rfl, h5, h6, h7, h8⟩
  have o2 := h1.kp2 h4 h8
  refine IteB.of (fun c0 => ?_) (fun c0 => ?_)
  · refine (t145 h7 (by omega) o2 h2 h3 (by omega)).mono ?_
    intro v m3 h
    exact h.mono (by omega) (by omega)
  · exact Drw.mono ⟨⟨b, c, es, rfl, o2, h2, h3⟩, h7⟩ (by omega) (by omega)
/-- DrawNegate -/
theorem t38 {n : Nat} (hx : RdB m A n) (hn : n < 2 ^ 60) (hc : n ≤ c) : Tr Try.prog 38 #[.slice A n c] m fun v m' => ∃ L, ResZ m m' v L ∧ Sml 17 L := by
  refine tr_of pok Try.func38 k38 (args := [_]) rfl ?_
  refine (t123 hx hn hc).mono ?_
  rintro v m1 ⟨rb, rfl, h1⟩
  refine (t125 h1 (by omega)).mono ?_
  rintro v m2 ⟨k, rfl, h2, h3, h4, h5⟩
  have h3 := h3 (by omega)
  refine Wr.ok (by omega) ?_
  refine (t124 h4 (by omega) (by omega)).mono ?_
  rintro v m3 ⟨⟨b, c, es, rfl, g1, g2, g3⟩, g4⟩
  exact ⟨es.map EH.d, ⟨some ⟨b, 0, none⟩, c, by simp, g1.rd, g4.ext⟩, g3⟩
/-- DrawDistinct -/
theorem t44 {n : Nat} (hx : RdB m A n) (hn : n < 2 ^ 60) (hc : n ≤ c) : Tr Try.prog 44 #[.slice A n c] m fun v m' => ∃ L, ResZ m m' v L ∧ Sml 17 L := by
  refine tr_of pok Try.func44 k44 (args := [_]) rfl ?_
  refine (t38 hx hn hc).mono ?_
  exact fun _ _ h => h
end Go.Proofs.Ytkbgdjpdmhnniaa
