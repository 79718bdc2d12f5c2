/- Go functions that make lists of entries, and those that write into them: what each comes to. Own work. No condition. -/
import Derived.Test.YtkbgdjpdmhnniaaPoA
import Derived.Test.YtkbgdjpdmhnniaaPe
namespace Go.Proofs.Ytkbgdjpdmhnniaa
open Go Go.Vc Go.Proofs
set_option linter.unusedVariables false
/-- A row that is owned. -/
structure RH where
  b : Nat
  c : Nat
  xs : List Int
def RH.val (r : RH) : Value := .slice (some ⟨r.b, 0, none⟩) r.xs.length r.c
structure EH where
  r : RH
  w : Int
def EH.cells (e : EH) : List Value := [e.r.val, .int .i64 e.w]
def EH.d (e : EH) : ED := (e.r.xs, e.w)
theorem EH.len (e : EH) : e.cells.length = 2 := rfl
def OwR (m : Mem) (r : RH) : Prop := (∃ sp, Bk m r.b 3 (r.xs.map (Value.int .i64) ++ sp)) ∧ r.xs.length ≤ r.c ∧ r.xs.length < 2 ^ 61
def OwZ (m : Mem) (b c : Nat) (es : List EH) : Prop := (∃ sp, Bk m b 40 (es.flatMap EH.cells ++ sp) ∧ es.length * 2 + sp.length = c * 2) ∧ es.length ≤ c ∧ ∀ e ∈ es, OwR m e.r
theorem OwR.row {m : Mem} {r : RH} (h : OwR m r) : IsRow m (some ⟨r.b, 0, none⟩) r.xs := by obtain ⟨⟨sp, h⟩, _⟩ := h; exact h.rd
theorem OwR.ext {m m' : Mem} {r : RH} (h : OwR m r) (k : Ext m m') : OwR m' r := by obtain ⟨⟨sp, h⟩, h2⟩ := h; exact ⟨⟨sp, h.ext k⟩, h2⟩
theorem OwR.ne {m : Mem} {r : RH} {b : Nat} {cs : List Value} {T : TypeId} (h : OwR m r) (hb : Bk m b T cs) (hT : 3 ≠ T) : r.b ≠ b := by obtain ⟨⟨sp, h⟩, _⟩ := h; exact h.neT hb hT
theorem OwR.kp {m m' : Mem} {r : RH} {b : Nat} (h : OwR m r) (k : Kp b m m') (hb : r.b ≠ b) : OwR m' r := by obtain ⟨⟨sp, h⟩, h2⟩ := h; exact ⟨⟨sp, h.kp k hb⟩, h2⟩
theorem OwZ.ext {m m' : Mem} {b c : Nat} {es : List EH} (h : OwZ m b c es) (k : Ext m m') : OwZ m' b c es := by
  obtain ⟨⟨sp, h1, h2⟩, h3, h4⟩ := h; exact ⟨⟨sp, h1.ext k, h2⟩, h3, fun e he => (h4 e he).ext k⟩
theorem OwZ.mc {m : Mem} {b c : Nat} {es : List EH} (h : OwZ m b c es) (i : Nat) (hi : i < es.length) : mc m ((⟨b, 0, none⟩ : Addr).add (i * 2)) = some es[i].r.val ∧ mc m (((⟨b, 0, none⟩ : Addr).add (i * 2)).add 1) = some (.int .i64 es[i].w) := by
  obtain ⟨⟨sp, h1, h2⟩, h3, h4⟩ := h
  have hl := flat_length EH.len es
  rw [add_add, at_add, at_add, h1.mc, h1.mc, Nat.zero_add, Nat.zero_add, List.getElem?_append_left (by rw [hl]; omega), List.getElem?_append_left (by rw [hl]; omega)]
  have e0 := flat_get EH.len es i 0 hi (by omega)
  have e1 := flat_get EH.len es i 1 hi (by omega)
  exact ⟨by simpa [EH.cells] using e0, by simpa [EH.cells] using e1⟩
theorem OwZ.rd {m : Mem} {b c : Nat} {es : List EH} (h : OwZ m b c es) : RdE m (some ⟨b, 0, none⟩) (es.map EH.d) := fun i hi => by
  have hi' : i < es.length := by simpa using hi
  obtain ⟨h1, h2⟩ := h.mc i hi'
  have hr := h.2.2 es[i] (List.getElem_mem hi')
  refine ⟨_, some ⟨es[i].r.b, 0, none⟩, es[i].r.c, rfl, ?_, ?_, ?_, ?_, ?_⟩
  · rw [h1]; simp [EH.d, RH.val]
  · rw [h2]; simp [EH.d]
  · simpa [EH.d] using hr.row
  · simpa [EH.d] using hr.2.1
  · have := hr.2.2; simp [EH.d]; omega
/-- Memory, a list of entries of its own in it. -/
structure NewZ (m m' : Mem) (b c : Nat) (es : List EH) : Prop where
  own : OwZ m' b c es
  ext : Ext m m'
  b : m b = none
  rows : ∀ e ∈ es, m e.r.b = none
  sep : (es.map fun e => e.r.b).Nodup
def IsZ (m m' : Mem) (v : Value) (L : List ED) : Prop := (v = .slice none 0 0 ∧ L = [] ∧ Ext m m') ∨ ∃ b c es, v = .slice (some ⟨b, 0, none⟩) L.length c ∧ NewZ m m' b c es ∧ es.map EH.d = L
/-- Entries to be read. -/
def ResZ (m m' : Mem) (v : Value) (L : List ED) : Prop := ∃ A c, v = .slice A L.length c ∧ RdE m' A L ∧ Ext m m'
theorem IsZ.res {m m' : Mem} {v : Value} {L : List ED} (h : IsZ m m' v L) : ResZ m m' v L := by
  rcases h with ⟨rfl, rfl, h⟩ | ⟨b, c, es, rfl, h, rfl⟩
  · exact ⟨none, 0, rfl, fun i hi => by simp at hi, h⟩
  · exact ⟨_, c, rfl, h.own.rd, h.ext⟩
theorem NewZ.nil {m : Mem} {b : Nat} (hb : m b = none) : NewZ m (mu m b (.cells ⟨[]⟩ 40 (0, 0))) b 0 [] :=
  ⟨⟨⟨[], Bk.mu _ _ _ _, rfl⟩, Nat.le_refl _, fun e he => (by cases he)⟩, Ext.mu hb, hb, fun e he => (by cases he), List.nodup_nil⟩
/-- One entry more, whose row is new. -/
theorem NewZ.push {m m' m1 m2 : Mem} {b c b' c' : Nat} {es : List EH} {sp' : List Value} {e : EH} (h : NewZ m m' b c es) (hx : Ext m' m1) (hr : OwR m1 e.r) (hn : m' e.r.b = none) (hb' : b' = b ∨ m1 b' = none)
    (hbk : Bk m2 b' 40 ((es ++ [e]).flatMap EH.cells ++ sp')) (hsp : (es.length + 1) * 2 + sp'.length = c' * 2) (hc : es.length + 1 ≤ c') (hk : Kp b m1 m2) : NewZ m m2 b' c' (es ++ [e]) := by
  obtain ⟨⟨⟨sp, h1, h2⟩, h3, h4⟩, hext, hb, hrows, hsep⟩ := h
  have h1' := h1.ext hx
  refine ⟨⟨⟨sp', hbk, by simpa using hsp⟩, by simpa using hc, fun x hxm => ?_⟩, (hext.trans hx).kp hk hb, ?_, fun x hxm => ?_, ?_⟩
  · rcases List.mem_append.1 hxm with hxm | hxm
    · exact ((h4 x hxm).ext hx).kp hk ((h4 x hxm).ne h1 (by decide))
    · simp at hxm; subst hxm; exact hr.kp hk (hr.ne h1' (by decide))
  · rcases hb' with rfl | hb'
    · exact hb
    · exact (hext.trans hx).no hb'
  · rcases List.mem_append.1 hxm with hxm | hxm
    · exact hrows x hxm
    · simp at hxm; subst hxm; exact hext.no hn
  · rw [List.map_append, List.nodup_append]
    refine ⟨hsep, by simp, fun x hx1 y hy => ?_⟩
    simp at hy; subst hy
    obtain ⟨q, hq, rfl⟩ := List.mem_map.1 hx1
    intro hh
    have h5 := (h4 q hq).1
    obtain ⟨sp5, h5⟩ := h5
    exact h5.ne hn hh
variable {m : Mem} {A B : Option Addr} {xs ys : List Int} {L L' : List ED} {c c' : Nat} {u w k : Int}
theorem ints_ones : ∀ (xs : List Int), onesB (xs.map (Value.int .i64)) = true
  | [] => rfl
  | x :: xs => by simpa [onesB] using ints_ones xs
/-- toIntS -/
theorem t76 (hx : IsRow m A xs) (hl : xs.length < 2 ^ 40) : Tr Try.prog 76 #[.slice A xs.length c] m fun v m' => ∃ r : RH, r.xs = xs ∧ v = r.val ∧ OwR m' r ∧ m r.b = none ∧ Ext m m' := by
  refine tr_of pok Try.func76 k76 (args := [_]) rfl ?_
  refine ⟨xs.length, rfl, by omega, by omega, fun b hb => ?_⟩
  have hz : zs xs.length [Value.int .i64 0] = (List.replicate xs.length 0).map (Value.int .i64) := by simp [zs, List.flatten_replicate_singleton]
  rw [hz]
  refine Lp.of (fun i : Nat => [(0, .v (.slice A xs.length c)), (3, .v (.slice (some ⟨b, 0, none⟩) xs.length xs.length)), (4, .v (.int .i64 (i : Int)))]) (fun _ => [])
    (fun i m' => i ≤ xs.length ∧ m' = mu m b (.cells ⟨(xs.take i ++ List.replicate (xs.length - i) 0).map (Value.int .i64)⟩ 3 (0, 0))) (fun i => xs.length - i) 0 ⟨by omega, by simp⟩ ?_
  rintro i m' ⟨hi, rfl⟩
  have hbk := Bk.mu m b 3 ((xs.take i ++ List.replicate (xs.length - i) 0).map (Value.int .i64))
  have he : Ext m (mu m b (.cells ⟨(xs.take i ++ List.replicate (xs.length - i) 0).map (Value.int .i64)⟩ 3 (0, 0))) := Ext.mu hb
  refine IteB.of (fun h1 => ?_) (fun h1 => ?_)
  · have hi' : i < xs.length := by omega
    obtain ⟨a, ha, hca⟩ := (hx.ext he).at i hi'
    refine Ix.at ha hi' (Ld.of (by simpa using hca) ?_)
    refine Ix.at rfl hi' ?_
    rw [at_add]
    refine Stt.bk hbk rfl (by simp; omega) ?_
    refine Wr.ok (by omega) ⟨i + 1, ⟨rfl, rfl, rfl, trivial⟩, trivial, ⟨by omega, ?_⟩, by omega⟩
    rw [mu_mu]
    congr 3
    rw [wr_eq _ _ _ (by simp; omega)]
    obtain ⟨q, hq⟩ : ∃ q, xs.length - i = q + 1 := ⟨xs.length - i - 1, by omega⟩
    rw [List.take_succ_eq_append_getElem hi', hq, show xs.length - (i + 1) = q by omega]
    have hlt : (xs.take i).length = i := by rw [List.length_take]; omega
    simp only [Nat.mul_one, Nat.zero_add, List.map_append, List.length_singleton]
    rw [List.take_append_of_le_length (by simp; omega), List.take_of_length_le (by simp; omega), List.drop_append, List.drop_of_length_le (by simp; omega)]
    simp only [List.length_map, hlt, List.nil_append, show i + 1 - i = 1 by omega, List.replicate_succ, List.map_cons, List.drop_succ_cons, List.drop_zero, List.map_nil]
  · have hi' : i = xs.length := by omega
    subst hi'
    refine ⟨⟨b, xs.length, xs⟩, rfl, rfl, ⟨⟨[], ?_⟩, Nat.le_refl _, by simp only; omega⟩, hb, he⟩
    simpa using hbk
/-- toEntry -/
theorem t137 (hx : IsRow m A xs) (hl : xs.length < 2 ^ 40) : Tr Try.prog 137 #[.agg #[.slice A xs.length c, .int .i64 u]] m fun v m' => ∃ e : EH, e.d = (xs, u) ∧ v = .agg ⟨e.cells⟩ ∧ OwR m' e.r ∧ m e.r.b = none ∧ Ext m m' := by
  refine tr_of pok Try.func137 k137 (args := [_]) rfl ?_
  refine (t76 hx hl).mono ?_
  rintro v m' ⟨r, rfl, rfl, h1, h2, h3⟩
  exact ⟨⟨r, u⟩, rfl, rfl, h1, h2, h3⟩
/-- copyInts -/
theorem t189s (hx : IsRow m A xs) (hl : xs.length < 2 ^ 40) : Tr Try.prog 189 #[.slice A xs.length c] m fun v m' => ∃ r : RH, r.xs = xs ∧ v = r.val ∧ OwR m' r ∧ (∃ sp, Bk m' r.b 3 (r.xs.map (Value.int .i64) ++ sp) ∧ r.xs.length + sp.length = r.c) ∧ m r.b = none ∧ Ext m m' := by
  refine tr_of pok Try.func189 k189 (args := [_]) rfl ?_
  refine ⟨fun b hb => ?_⟩
  have hbk : Bk (mu m b (.cells ⟨[]⟩ 3 (0, 0))) b 3 (([] : List Int).flatMap (fun x => [Value.int .i64 x]) ++ []) := Bk.mu _ _ _ _
  have hmap : ∀ l : List Int, l.flatMap (fun x => [Value.int .i64 x]) = l.map (Value.int .i64) := fun l => by induction l <;> simp_all
  refine Ap.own (f := fun x : Int => [Value.int .i64 x]) (k := 1) (fun _ => rfl) (l := []) (l' := xs) hbk rfl rfl rfl (by omega) ?_ rfl (by rw [hmap]; exact ints_ones xs) (by omega) ?_
  · rw [hmap]; exact hx.ext (Ext.mu hb)
  · intro b' c' sp' m' h1 h2 h3 h4 h5 h6
    rw [List.nil_append, hmap] at h2
    refine ⟨⟨b', c', xs⟩, rfl, by simp [RH.val], ⟨⟨sp', h2⟩, by simp only; omega, by simp only; omega⟩, ⟨sp', h2, by simp only; omega⟩, ?_, ?_⟩
    · rcases h1 with rfl | h1
      · exact hb
      · exact (Ext.mu hb).no h1
    · exact (Ext.mu hb).kp h5 hb
theorem t189 (hx : IsRow m A xs) (hl : xs.length < 2 ^ 40) : Tr Try.prog 189 #[.slice A xs.length c] m fun v m' => ∃ r : RH, r.xs = xs ∧ v = r.val ∧ OwR m' r ∧ m r.b = none ∧ Ext m m' :=
  (t189s hx hl).mono fun _ _ ⟨r, h1, h2, h3, _, h4⟩ => ⟨r, h1, h2, h3, h4⟩
/-- slices.Clone, of a row that is not empty -/
theorem t130 (hx : IsRow m A xs) (hne : xs ≠ []) (hl : xs.length < 2 ^ 40) : Tr Try.prog 130 #[.slice A xs.length c] m fun v m' => ∃ r : RH, r.xs = xs ∧ v = r.val ∧ OwR m' r ∧ m r.b = none ∧ Ext m m' := by
  refine tr_of pok Try.func130 k130 (args := [_]) rfl ?_
  have hA : A.isNone = false := by
    obtain ⟨a, rfl, _⟩ := hx.at 0 (List.length_pos_iff.2 hne)
    rfl
  refine IteB.bool (fun h => by rw [hA] at h; cases h) (fun _ => ?_)
  refine ⟨fun b hb => ?_⟩
  have hbk : Bk (mu m b (.cells ⟨[]⟩ 3 (0, 0))) b 3 (([] : List Int).flatMap (fun x => [Value.int .i64 x]) ++ []) := Bk.mu _ _ _ _
  have hmap : ∀ l : List Int, l.flatMap (fun x => [Value.int .i64 x]) = l.map (Value.int .i64) := fun l => by induction l <;> simp_all
  refine Ap.own (f := fun x : Int => [Value.int .i64 x]) (k := 1) (fun _ => rfl) (l := []) (l' := xs) hbk rfl rfl rfl (by omega) ?_ rfl (by rw [hmap]; exact ints_ones xs) (by omega) ?_
  · rw [hmap]; exact hx.ext (Ext.mu hb)
  · intro b' c' sp' m' h1 h2 h3 h4 h5 h6
    rw [List.nil_append, hmap] at h2
    refine ⟨⟨b', c', xs⟩, rfl, by simp [RH.val], ⟨⟨sp', h2⟩, by simp only; omega, by simp only; omega⟩, ?_, ?_⟩
    · rcases h1 with rfl | h1
      · exact hb
      · exact (Ext.mu hb).no h1
    · exact (Ext.mu hb).kp h5 hb
/-- copyEntry -/
theorem t190 (hx : IsRow m A xs) (hl : xs.length < 2 ^ 40) : Tr Try.prog 190 #[.agg #[.slice A xs.length c, .int .i64 u]] m fun v m' => ∃ e : EH, e.d = (xs, u) ∧ v = .agg ⟨e.cells⟩ ∧ OwR m' e.r ∧ m e.r.b = none ∧ Ext m m' := by
  refine tr_of pok Try.func190 k190 (args := [_]) rfl ?_
  refine (t189 hx hl).mono ?_
  rintro v m' ⟨r, rfl, rfl, h1, h2, h3⟩
  refine pl1 h3 ?_
  exact ⟨⟨r, u⟩, rfl, rfl, h1, h2, h3⟩
theorem EH.ones (e : EH) : onesB e.cells = true := rfl
/-- copyZSet -/
theorem t188 (hx : RdE m A L) (hl : L.length < 2 ^ 40) (hr : ∀ e ∈ L, e.1.length < 2 ^ 40) : Tr Try.prog 188 #[.slice A L.length c] m fun v m' => ∃ b c' es, v = .slice (some ⟨b, 0, none⟩) L.length c' ∧ NewZ m m' b c' es ∧ es.map EH.d = L := by
  refine tr_of pok Try.func188 k188 (args := [_]) rfl ?_
  refine ⟨fun b hb => ?_⟩
  refine Lp.of (fun s : Nat × Nat × Nat × List EH => [(0, .v (.slice A L.length c)), (3, .v (.slice (some ⟨s.2.1, 0, none⟩) s.1 s.2.2.1)), (4, .v (.int .i64 (s.1 : Int)))]) (fun _ => [])
    (fun s m' => s.1 ≤ L.length ∧ NewZ m m' s.2.1 s.2.2.1 s.2.2.2 ∧ s.2.2.2.map EH.d = L.take s.1) (fun s => L.length - s.1) (0, b, 0, []) ⟨Nat.zero_le _, NewZ.nil hb, rfl⟩ ?_
  rintro ⟨i, b, cc, es⟩ m1 ⟨hi, hn, ht⟩
  simp only at hi hn ht
  have hes : es.length = i := by have := congrArg List.length ht; simp at this; omega
  refine IteB.of (fun h1 => ?_) (fun h1 => ?_)
  · have hi' : i < L.length := by omega
    obtain ⟨a, Ar, cr, ha, q1, q2, q3, q4, q5⟩ := (hx.ext hn.ext) i hi'
    refine Ix.at ha hi' (LdN.two q1 q2 ?_)
    refine (t190 q3 (hr _ (List.getElem_mem hi'))).mono ?_
    rintro v m2 ⟨e, he, rfl, h2, h3, h4⟩
    refine ⟨fun bb hbb => ?_⟩
    obtain ⟨⟨sp, o1, o2⟩, o3, o4⟩ := hn.own
    refine Ap.one (f := EH.cells) (k := 2) EH.len (l := es) (x := e) hbb (o1.ext h4) hes (by rw [← hes]; exact o2) rfl (by omega) rfl (by omega) ?_
    intro b' c' sp' m3 g1 g2 g3 g4 g5
    refine Wr.ok (by omega) ⟨(i + 1, b', c', es ++ [e]), ⟨rfl, rfl, rfl, trivial⟩, trivial, ⟨by simp only; omega, ?_, ?_⟩, by simp only; omega⟩
    · exact hn.push h4 h2 h3 g1 g2 (by rw [hes]; exact g3) (by rw [hes]; exact g4) g5
    · simp only
      rw [List.map_append, ht, List.take_succ_eq_append_getElem hi']
      simp only [List.map_cons, List.map_nil, he]
  · have : i = L.length := by omega
    subst this
    rw [List.take_length] at ht
    exact ⟨b, cc, es, rfl, hn, ht⟩
/-- copyZ -/
theorem t126 (hx : RdE m A L) (hl : L.length < 2 ^ 40) (hr : ∀ e ∈ L, e.1 ≠ [] ∧ e.1.length < 2 ^ 40) : Tr Try.prog 126 #[.slice A L.length c] m fun v m' => ∃ b c' es, v = .slice (some ⟨b, 0, none⟩) L.length c' ∧ NewZ m m' b c' es ∧ es.map EH.d = L := by
  refine tr_of pok Try.func126 k126 (args := [_]) rfl ?_
  refine ⟨fun b hb => ?_⟩
  refine Lp.of (fun s : Nat × Nat × Nat × List EH => [(7, .v (.slice A L.length c)), (8, .v (.int .i64 L.length)), (3, .v (.slice (some ⟨s.2.1, 0, none⟩) s.1 s.2.2.1)), (9, .v (.int .i64 (s.1 : Int)))]) (fun _ => [])
    (fun s m' => s.1 ≤ L.length ∧ NewZ m m' s.2.1 s.2.2.1 s.2.2.2 ∧ s.2.2.2.map EH.d = L.take s.1) (fun s => L.length - s.1) (0, b, 0, []) ⟨Nat.zero_le _, NewZ.nil hb, rfl⟩ ?_
  rintro ⟨i, b, cc, es⟩ m1 ⟨hi, hn, ht⟩
  simp only at hi hn ht
  have hes : es.length = i := by have := congrArg List.length ht; simp at this; omega
  refine IteB.of (fun h1 => ?_) (fun h1 => ?_)
  · have hi' : i < L.length := by omega
    obtain ⟨a, Ar, cr, ha, q1, q2, q3, q4, q5⟩ := (hx.ext hn.ext) i hi'
    refine Ix.at ha hi' (LdN.two q1 q2 ?_)
    refine (t130 q3 (hr _ (List.getElem_mem hi')).1 (hr _ (List.getElem_mem hi')).2).mono ?_
    rintro v m2 ⟨r, hxs, rfl, h2, h3, h4⟩
    refine pl1 h4 ⟨fun bb hbb => ?_⟩
    obtain ⟨⟨sp, o1, o2⟩, o3, o4⟩ := hn.own
    refine Ap.one (f := EH.cells) (k := 2) EH.len (l := es) (x := ⟨r, L[i].2⟩) hbb (o1.ext h4) hes (by rw [← hes]; exact o2) rfl (by omega) rfl (by omega) ?_
    intro b' c' sp' m3 g1 g2 g3 g4 g5
    refine Wr.ok (by omega) ⟨(i + 1, b', c', es ++ [⟨r, L[i].2⟩]), ⟨rfl, rfl, rfl, rfl, trivial⟩, trivial, ⟨by simp only; omega, ?_, ?_⟩, by simp only; omega⟩
    · exact hn.push h4 h2 h3 g1 g2 (by rw [hes]; exact g3) (by rw [hes]; exact g4) g5
    · simp only
      rw [List.map_append, ht, List.take_succ_eq_append_getElem hi']
      simp only [List.map_cons, List.map_nil, EH.d, hxs]
  · have : i = L.length := by omega
    subst this
    rw [List.take_length] at ht
    exact ⟨b, cc, es, rfl, hn, ht⟩
/-- One weight changed. -/
theorem NewZ.setw {m m' : Mem} {b c : Nat} {es : List EH} (h : NewZ m m' b c es) {i : Nat} (hi : i < es.length) (u : Int) {cs : List Value} (hb : m' b = some (.cells ⟨cs⟩ 40 (0, 0))) :
    NewZ m (mu m' b (.cells ⟨wr cs (i * 2 + 1) [.int .i64 u]⟩ 40 (0, 0))) b c (es.set i { es[i] with w := u }) := by
  obtain ⟨⟨⟨sp, h1, h2⟩, h3, h4⟩, hext, hb0, hrows, hsep⟩ := h
  obtain rfl : cs = es.flatMap EH.cells ++ sp := by
    unfold Bk at h1; rw [h1] at hb; cases hb; rfl
  have hmap : (es.set i { es[i] with w := u }).map (fun e => e.r.b) = es.map fun e => e.r.b := by
    rw [List.map_set]
    apply List.ext_getElem?
    intro j
    by_cases hj : j = i
    · subst hj; simp [hi]
    · simp [List.getElem?_set_ne (Ne.symm hj)]
  have hmem : ∀ e ∈ es.set i { es[i] with w := u }, ∃ e' ∈ es, e.r = e'.r := fun e he => by
    rcases List.mem_or_eq_of_mem_set he with he | rfl
    · exact ⟨e, he, rfl⟩
    · exact ⟨es[i], List.getElem_mem hi, rfl⟩
  rw [wr_field EH.len es sp i 1 { es[i] with w := u } _ hi (by omega) rfl]
  refine ⟨⟨⟨sp, Bk.mu _ _ _ _, by simpa using h2⟩, by simpa using h3, fun e he => ?_⟩, hext.kp (Kp.mu b m' _) hb0, hb0, fun e he => ?_, by rw [hmap]; exact hsep⟩
  · obtain ⟨e', he', hr⟩ := hmem e he
    rw [hr]
    exact (h4 e' he').kp (Kp.mu b m' _) ((h4 e' he').ne h1 (by decide))
  · obtain ⟨e', he', hr⟩ := hmem e he
    rw [hr]; exact hrows e' he'
def negE (L : List ED) : List ED := L.map fun e => (e.1, -e.2)
/-- negate -/
theorem t128 (hx : RdE m A L) (hl : L.length < 2 ^ 40) (hr : ∀ e ∈ L, e.1.length < 2 ^ 40) (hw : ∀ e ∈ L, -2 ^ 62 < e.2 ∧ e.2 < 2 ^ 62) : Tr Try.prog 128 #[.slice A L.length c] m fun v m' => ∃ b c' es, v = .slice (some ⟨b, 0, none⟩) L.length c' ∧ NewZ m m' b c' es ∧ es.map EH.d = negE L := by
  refine tr_of pok Try.func128 k128 (args := [_]) rfl ?_
  refine (t188 hx hl hr).mono ?_
  rintro v m1 ⟨b, c', es, rfl, hn, hd⟩
  have hes : es.length = L.length := by have := congrArg List.length hd; simpa using this
  refine Lp.of (fun s : Nat × List EH => [(3, .v (.slice (some ⟨b, 0, none⟩) L.length c')), (4, .v (.int .i64 (s.1 : Int)))]) (fun _ => [])
    (fun s m' => s.1 ≤ L.length ∧ NewZ m m' b c' s.2 ∧ s.2.map EH.d = negE (L.take s.1) ++ L.drop s.1) (fun s => L.length - s.1) (0, es) ⟨Nat.zero_le _, hn, by simpa [negE] using hd⟩ ?_
  rintro ⟨i, es⟩ m2 ⟨hi, hn, ht⟩
  simp only at hi hn ht
  have hes : es.length = L.length := by have := congrArg List.length ht; simp [negE] at this; omega
  refine IteB.of (fun h1 => ?_) (fun h1 => ?_)
  · have hi' : i < L.length := by omega
    have hi2 : i < es.length := by omega
    have hei : es[i].d = L[i] := by
      have h3 : (es.map EH.d)[i]? = (negE (L.take i) ++ L.drop i)[i]? := by rw [ht]
      rw [List.getElem?_append_right (by simp [negE]; omega), List.getElem?_map, List.getElem?_eq_getElem hi2] at h3
      have : i - (negE (L.take i)).length = 0 := by simp [negE]; omega
      rw [this, List.getElem?_drop, Nat.add_zero, List.getElem?_eq_getElem hi'] at h3
      simpa using h3
    have hwi := hw _ (List.getElem_mem hi')
    have hwe : es[i].w = L[i].2 := by rw [← hei]; rfl
    obtain ⟨q1, q2⟩ := hn.own.mc i hi2
    refine Ix.at rfl hi' (Ld.of q2 (Wr.ok (by omega) ?_))
    refine Ix.at rfl hi' ?_
    rw [at_add, at_add]
    obtain ⟨⟨sp, o1, o2⟩, o3, o4⟩ := hn.own
    refine Stt.bk o1 rfl (by simp [flat_length EH.len]; omega) ?_
    refine Wr.ok (by omega) ⟨(i + 1, es.set i { es[i] with w := 0 - es[i].w }), ⟨rfl, rfl, trivial⟩, trivial, ⟨by simp only; omega, ?_, ?_⟩, by simp only; omega⟩
    · have := hn.setw hi2 (0 - es[i].w) o1
      simpa using this
    · simp only
      rw [List.map_set, ht, List.take_succ_eq_append_getElem hi', List.drop_eq_getElem_cons hi']
      have e2 : (negE (L.take i)).length = i := by simp [negE]; omega
      rw [List.set_append_right _ _ (by omega), e2, Nat.sub_self]
      simp only [List.set_cons_zero, negE, List.map_append, List.map_cons, List.map_nil, List.append_assoc, List.singleton_append]
      congr 2
      show (es[i].r.xs, 0 - es[i].w) = (L[i].1, -L[i].2)
      rw [← hei]
      simp [EH.d]
  · have : i = L.length := by omega
    subst this
    rw [List.take_length, List.drop_length, List.append_nil] at ht
    exact ⟨b, c', es, rfl, hn, ht⟩
theorem vZ_small {L : List ED} (h : vZ L) : L.length < 2 ^ 40 ∧ (∀ e ∈ L, e.1 ≠ [] ∧ e.1.length < 2 ^ 40) ∧ (∀ e ∈ L, -2 ^ 62 < e.2 ∧ e.2 < 2 ^ 62) := by
  refine ⟨by have := h.1; omega, fun e he => ?_, fun e he => ?_⟩
  · obtain ⟨j, hj, rfl⟩ := List.getElem_of_mem he
    have := (h.2 j hj).1.2
    exact ⟨fun h0 => by rw [h0] at this; simp at this, by omega⟩
  · obtain ⟨j, hj, rfl⟩ := List.getElem_of_mem he
    have := (h.2 j hj).2.2.2.1
    omega
theorem IsZ.mk0 {m : Mem} : IsZ m m (.slice none 0 0) [] := .inl ⟨rfl, rfl, Ext.refl m⟩
theorem IsZ.new {m m' : Mem} {b c : Nat} {es : List EH} {n : Nat} {L : List ED} (h : NewZ m m' b c es) (hd : es.map EH.d = L) (hn : n = L.length) : IsZ m m' (.slice (some ⟨b, 0, none⟩) n c) L := .inr ⟨b, c, es, by rw [hn], h, hd⟩
/-- Negate, of the reference -/
theorem t41 (hx : RdE m A L) (hl : L.length < 2 ^ 60) : Tr Try.prog 41 #[.slice A L.length c] m fun v m' => IsZ m m' v (if vZ L then negE L else []) := by
  refine tr_of pok Try.func41 k41 (args := [_]) rfl ?_
  refine (t127 hx hl).mono ?_
  rintro v m1 ⟨rfl, rfl⟩
  refine IteB.not (IteB.of (fun hv => ?_) (fun hv => ?_))
  · rw [if_pos hv]
    obtain ⟨s1, s2, s3⟩ := vZ_small hv
    refine (t128 hx s1 (fun e he => (s2 e he).2) s3).mono ?_
    rintro v m2 ⟨b, c', es, rfl, hn, hd⟩
    exact IsZ.new hn hd (by simp [negE])
  · rw [if_neg hv]
    exact ⟨fun b hb => IsZ.new (NewZ.nil hb) rfl rfl⟩
/-- Negate, of the program -/
theorem t39 (hx : RdE m A L) (hl : L.length < 2 ^ 60) : Tr Try.prog 39 #[.slice A L.length c] m fun v m' => IsZ m m' v (if vZ L then negE L else []) := by
  refine tr_of pok Try.func39 k39 (args := [_]) rfl ?_
  refine (t42 hx hl).mono ?_
  rintro v m1 ⟨rfl, rfl⟩
  refine IteB.not (IteB.of (fun hv => ?_) (fun hv => ?_))
  · rw [if_pos hv]
    obtain ⟨s1, s2, s3⟩ := vZ_small hv
    refine (t126 hx s1 s2).mono ?_
    rintro v m2 ⟨b, c', es, rfl, hn, hd⟩
    have hes : es.length = L.length := by have := congrArg List.length hd; simpa using this
    refine Lp.of (fun s : Nat × List EH => [(3, .v (.slice (some ⟨b, 0, none⟩) L.length c')), (11, .v (.int .i64 L.length)), (12, .v (.int .i64 (s.1 : Int)))]) (fun _ => [])
      (fun s m' => s.1 ≤ L.length ∧ NewZ m1 m' b c' s.2 ∧ s.2.map EH.d = negE (L.take s.1) ++ L.drop s.1) (fun s => L.length - s.1) (0, es) ⟨Nat.zero_le _, hn, by simpa [negE] using hd⟩ ?_
    rintro ⟨i, es⟩ m2 ⟨hi, hn, ht⟩
    simp only at hi hn ht
    have hes : es.length = L.length := by have := congrArg List.length ht; simp [negE] at this; omega
    refine IteB.of (fun h1 => ?_) (fun h1 => ?_)
    · have hi' : i < L.length := by omega
      have hi2 : i < es.length := by omega
      have hei : es[i].d = L[i] := by
        have h3 : (es.map EH.d)[i]? = (negE (L.take i) ++ L.drop i)[i]? := by rw [ht]
        rw [List.getElem?_append_right (by simp [negE]; omega), List.getElem?_map, List.getElem?_eq_getElem hi2] at h3
        have : i - (negE (L.take i)).length = 0 := by simp [negE]; omega
        rw [this, List.getElem?_drop, Nat.add_zero, List.getElem?_eq_getElem hi'] at h3
        simpa using h3
      have hwi := s3 _ (List.getElem_mem hi')
      have hwe : es[i].w = L[i].2 := by rw [← hei]; rfl
      obtain ⟨q1, q2⟩ := hn.own.mc i hi2
      refine Ix.at rfl hi' (Ld.of q2 (Wr.ok (by omega) ?_))
      refine Ix.at rfl hi' ?_
      rw [at_add, at_add]
      obtain ⟨⟨sp, o1, o2⟩, o3, o4⟩ := hn.own
      refine Stt.bk o1 rfl (by simp [flat_length EH.len]; omega) ?_
      refine Wr.ok (by omega) ⟨(i + 1, es.set i { es[i] with w := 0 - es[i].w }), ⟨rfl, rfl, rfl, trivial⟩, trivial, ⟨by simp only; omega, ?_, ?_⟩, by simp only; omega⟩
      · have := hn.setw hi2 (0 - es[i].w) o1
        simpa using this
      · simp only
        rw [List.map_set, ht, List.take_succ_eq_append_getElem hi', List.drop_eq_getElem_cons hi']
        have e2 : (negE (L.take i)).length = i := by simp [negE]; omega
        rw [List.set_append_right _ _ (by omega), e2, Nat.sub_self]
        simp only [List.set_cons_zero, negE, List.map_append, List.map_cons, List.map_nil, List.append_assoc, List.singleton_append]
        congr 2
        show (es[i].r.xs, 0 - es[i].w) = (L[i].1, -L[i].2)
        rw [← hei]
        simp [EH.d]
    · have : i = L.length := by omega
      subst this
      rw [List.take_length, List.drop_length, List.append_nil] at ht
      exact IsZ.new hn ht (by simp [negE])
  · rw [if_neg hv]
    exact IsZ.mk0
end Go.Proofs.Ytkbgdjpdmhnniaa
