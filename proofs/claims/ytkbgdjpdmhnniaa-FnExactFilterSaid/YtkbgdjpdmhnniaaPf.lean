/- Go functions that keep some of a list of entries: what each comes to. Own work. No condition. -/
import Derived.Test.YtkbgdjpdmhnniaaPfA
import Derived.Test.YtkbgdjpdmhnniaaPn
import Derived.Test.YtkbgdjpdmhnniaaPv
namespace Go.Proofs.Ytkbgdjpdmhnniaa
open Go Go.Vc Go.Proofs
set_option linter.unusedVariables false
variable {m : Mem} {A B : Option Addr} {xs ys : List Int} {L L' : List ED} {c c' : Nat} {u w k : Int}
/-- A predicate: column, kind, number. -/
abbrev PD := Int × Int × Int
def pdV (p : PD) : Value := .agg #[.int .i64 p.1, .int .i64 p.2.1, .int .i64 p.2.2]
def pOK (p : PD) (w : Int) : Prop := 1 ≤ w ∧ w ≤ 6 ∧ 0 ≤ p.1 ∧ p.1 < w ∧ 1 ≤ p.2.1 ∧ p.2.1 ≤ 4 ∧ -9999 ≤ p.2.2 ∧ p.2.2 ≤ 9999
instance (p : PD) (w : Int) : Decidable (pOK p w) := by unfold pOK; infer_instance
def satP (o v x : Int) : Bool := if o = 1 then decide (x = v) else if o = 2 then decide (x < v) else if o = 3 then decide (v < x) else decide (x ≠ v)
def satE (p : PD) (xs : List Int) : Bool := satP p.2.1 p.2.2 (xs[p.1.toNat]?.getD 0)
/-- ValidPredicate, of the program -/
theorem t66 (p : PD) (w : Int) : Tr Try.prog 66 #[pdV p, .int .i64 w] m fun v m' => m' = m ∧ v = .bool (decide (pOK p w)) := by
  obtain ⟨a, o, b⟩ := p
  refine tr_of pok Try.func66 k66 (args := [_, _]) rfl ?_
  refine IteB.of (fun h1 => ?_) (fun h1 => ⟨rfl, b_no (fun q => h1 q.1)⟩)
  refine IteB.of (fun h2 => ?_) (fun h2 => ⟨rfl, b_no (fun q => h2 q.2.1)⟩)
  refine IteB.of (fun h3 => ?_) (fun h3 => ⟨rfl, b_no (fun q => h3 q.2.2.1)⟩)
  refine IteB.of (fun h4 => ?_) (fun h4 => ⟨rfl, b_no (fun q => h4 q.2.2.2.1)⟩)
  refine IteB.of (fun h5 => ?_) (fun h5 => ⟨rfl, b_no (fun q => h5 q.2.2.2.2.1)⟩)
  refine IteB.of (fun h6 => ?_) (fun h6 => ⟨rfl, b_no (fun q => h6 q.2.2.2.2.2.1)⟩)
  refine IteB.of (fun h7 => ?_) (fun h7 => ⟨rfl, b_no (fun q => h7 q.2.2.2.2.2.2.1)⟩)
  exact ⟨rfl, b_iff ⟨fun h8 => ⟨h1, h2, h3, h4, h5, h6, h7, h8⟩, fun q => q.2.2.2.2.2.2.2⟩⟩
/-- validPredicate, of the reference, at a width of a row -/
theorem t134 (p : PD) {w : Int} (hw : 1 ≤ w ∧ w ≤ 6) : Tr Try.prog 134 #[pdV p, .int .i64 w] m fun v m' => m' = m ∧ v = .bool (decide (pOK p w)) := by
  obtain ⟨a, o, b⟩ := p
  refine tr_of pok Try.func134 k134 (args := [_, _]) rfl ?_
  refine Wr.ok (by omega) ?_
  refine (t148 _ _ _).mono ?_
  rintro v m1 ⟨rfl, rfl⟩
  refine IteB.of (fun h1 => ?_) (fun h1 => ⟨rfl, b_no (fun q => h1 ⟨q.2.2.1, by have := q.2.2.2.1; simp only at this; omega⟩)⟩)
  refine (t148 _ _ _).mono ?_
  rintro v m1 ⟨rfl, rfl⟩
  refine IteB.of (fun h2 => ?_) (fun h2 => ⟨rfl, b_no (fun q => h2 ⟨q.2.2.2.2.1, q.2.2.2.2.2.1⟩)⟩)
  refine (t148 _ _ _).mono ?_
  rintro v m1 ⟨rfl, rfl⟩
  exact ⟨rfl, b_iff ⟨fun h3 => ⟨hw.1, hw.2, h1.1, by simp only; omega, h2.1, h2.2, h3.1, h3.2⟩, fun q => ⟨q.2.2.2.2.2.2.1, q.2.2.2.2.2.2.2⟩⟩⟩
/-- satisfies, holds -/
theorem t141 (hx : IsRow m A xs) (p : PD) (hp : 0 ≤ p.1 ∧ p.1 < xs.length) : Tr Try.prog 141 #[.slice A xs.length c,pdV p] m fun v m' => m' = m ∧ v = .bool (satE p xs) := by
  obtain ⟨a, o, b⟩ := p
  refine tr_of pok Try.func141 k141 (args := [_, _]) rfl ?_
  simp only at hp
  obtain ⟨j, rfl⟩ := Int.eq_ofNat_of_zero_le hp.1
  have hj : j < xs.length := by omega
  obtain ⟨ad, ha, hca⟩ := hx.at j hj
  have he : ∀ q : Bool, satP o b xs[j] = q → satE ((j : Int), o, b) xs = q := fun q h => by unfold satE; simpa [hj] using h
  refine Ix.at ha hj (Ld.of (by simpa using hca) ?_)
  refine IteB.of (fun h1 => ?_) (fun h1 => ?_)
  · exact ⟨rfl, by rw [he _ rfl, satP, if_pos h1]⟩
  refine IteB.of (fun h2 => ?_) (fun h2 => ?_)
  · exact ⟨rfl, by rw [he _ rfl, satP, if_neg h1, if_pos h2]⟩
  refine IteB.of (fun h3 => ?_) (fun h3 => ?_)
  · exact ⟨rfl, by rw [he _ rfl, satP, if_neg h1, if_neg h2, if_pos h3]⟩
  · exact ⟨rfl, by rw [he _ rfl, satP, if_neg h1, if_neg h2, if_neg h3]⟩
/-- satisfies, holds -/
theorem t164 (hx : IsRow m A xs) (p : PD) (hp : 0 ≤ p.1 ∧ p.1 < xs.length) : Tr Try.prog 164 #[pdV p,.slice A xs.length c] m fun v m' => m' = m ∧ v = .bool (satE p xs) := by
  obtain ⟨a, o, b⟩ := p
  refine tr_of pok Try.func164 k164 (args := [_, _]) rfl ?_
  simp only at hp
  obtain ⟨j, rfl⟩ := Int.eq_ofNat_of_zero_le hp.1
  have hj : j < xs.length := by omega
  obtain ⟨ad, ha, hca⟩ := hx.at j hj
  have he : ∀ q : Bool, satP o b xs[j] = q → satE ((j : Int), o, b) xs = q := fun q h => by unfold satE; simpa [hj] using h
  refine Ix.at ha hj (Ld.of (by simpa using hca) ?_)
  refine IteB.of (fun h1 => ?_) (fun h1 => ?_)
  · exact ⟨rfl, by rw [he _ rfl, satP, if_pos h1]⟩
  refine IteB.of (fun h2 => ?_) (fun h2 => ?_)
  · exact ⟨rfl, by rw [he _ rfl, satP, if_neg h1, if_pos h2]⟩
  refine IteB.of (fun h3 => ?_) (fun h3 => ?_)
  · exact ⟨rfl, by rw [he _ rfl, satP, if_neg h1, if_neg h2, if_pos h3]⟩
  · exact ⟨rfl, by rw [he _ rfl, satP, if_neg h1, if_neg h2, if_neg h3]⟩
theorem LdN3 {a : Addr} {K : List Value → Prop} {c0 c1 c2 : Value} (h0 : mc m a = some c0) (h1 : mc m (a.add 1) = some c1) (h2 : mc m (a.add 2) = some c2) (k : K [c0, c1, c2]) : LdN m a 3 K := by
  refine ⟨[c0, c1, c2], rfl, fun j v hj => ?_, k⟩
  match j with
  | 0 => simp at hj; subst hj; exact h0
  | 1 => simp at hj; subst hj; exact h1
  | 2 => simp at hj; subst hj; exact h2
  | j + 3 => simp at hj
/-- The closure of Filter, over the block of its predicate. -/
def fclo (pb : Nat) : Value := .func (.func 140) #[] #[.pointer (some ⟨pb, 0, none⟩)]
def pdC (p : PD) : List Value := [.int .i64 p.1, .int .i64 p.2.1, .int .i64 p.2.2]
/-- Filter's closure: does the entry go? -/
theorem t140 {pb : Nat} {p : PD} (hb : Bk m pb 47 (pdC p)) (hx : IsRow m A xs) (hp : 0 ≤ p.1 ∧ p.1 < xs.length) : Tr Try.prog 140 #[.agg #[.slice A xs.length c, .int .i64 u], .pointer (some ⟨pb, 0, none⟩)] m fun v m' => m' = m ∧ v = .bool (!(satE p xs)) := by
  refine tr_of pok Try.func140 k140 (args := [_, _]) rfl ?_
  have q0 : mc m ⟨pb, 0, none⟩ = some (.int .i64 p.1) := by rw [hb.mc]; rfl
  have q1 : mc m ((⟨pb, 0, none⟩ : Addr).add 1) = some (.int .i64 p.2.1) := by rw [at_add, hb.mc]; rfl
  have q2 : mc m ((⟨pb, 0, none⟩ : Addr).add 2) = some (.int .i64 p.2.2) := by rw [at_add, hb.mc]; rfl
  refine LdN3 q0 q1 q2 ?_
  refine (t141 hx p hp).mono ?_
  rintro v m1 ⟨rfl, rfl⟩
  exact ⟨rfl, rfl⟩
/-- IndexFunc, over Filter's closure -/
theorem t191 {b pb : Nat} {p : PD} {es : List EH} (ho : OwZ m b c es) (hb : Bk m pb 47 (pdC p)) (hp : ∀ e ∈ es, 0 ≤ p.1 ∧ p.1 < e.r.xs.length) (hl : es.length < 2 ^ 40) :
    Tr Try.prog 191 #[.slice (some ⟨b, 0, none⟩) es.length c, fclo pb] m fun v m' => m' = m ∧ ((v = .int .i64 (-1) ∧ ∀ e ∈ es, satE p e.r.xs = true) ∨ ∃ i : Nat, v = .int .i64 i ∧ (∃ h : i < es.length, satE p es[i].r.xs = false) ∧ ∀ e ∈ es.take i, satE p e.r.xs = true) := by
  refine tr_of pok Try.func191 k191 (args := [_, _]) rfl ?_
  refine Lp.of (fun i : Nat => [(0, .v (.slice (some ⟨b, 0, none⟩) es.length c)), (1, .v (fclo pb)), (7, .v (.int .i64 (es.length : Int))), (8, .v (.int .i64 (i : Int)))]) (fun _ => [])
    (fun i m' => i ≤ es.length ∧ m' = m ∧ ∀ e ∈ es.take i, satE p e.r.xs = true) (fun i => es.length - i) 0 ⟨Nat.zero_le _, rfl, fun e he => by simp at he⟩ ?_
  rintro i m1 ⟨hi, rfl, hall⟩
  refine IteB.of (fun h1 => ?_) (fun h1 => ?_)
  · have hi' : i < es.length := by omega
    obtain ⟨q1, q2⟩ := ho.mc i hi'
    refine Ix.at rfl hi' (LdN.two q1 q2 ?_)
    refine ⟨⟨_, _, Try.func140, rfl⟩, ?_⟩
    refine (t140 hb (ho.2.2 _ (List.getElem_mem hi')).row (hp _ (List.getElem_mem hi'))).mono ?_
    rintro v m2 ⟨rfl, rfl⟩
    refine IteB.not (IteB.bool (fun h2 => ?_) (fun h2 => ?_))
    · refine Wr.ok (by omega) ⟨i + 1, ⟨rfl, rfl, rfl, rfl, trivial⟩, trivial, ⟨by omega, rfl, fun e he => ?_⟩, by omega⟩
      rw [List.take_succ_eq_append_getElem hi'] at he
      rcases List.mem_append.1 he with he | he
      · exact hall e he
      · simp at he; subst he; exact h2
    · exact ⟨rfl, .inr ⟨i, rfl, ⟨hi', h2⟩, hall⟩⟩
  · refine ⟨rfl, .inl ⟨rfl, fun e he => hall e ?_⟩⟩
    rw [List.take_of_length_le (by omega)]; exact he
theorem zs_two (n : Nat) : (zs n [Value.slice none 0 0, Value.int .i64 0]).length = n * 2 := by rw [zs_length]; rfl
theorem zs_ones2 : ∀ n : Nat, onesB (zs n [Value.slice none 0 0, Value.int .i64 0]) = true
  | 0 => rfl
  | n + 1 => by
    have := zs_ones2 n
    simpa [zs, List.replicate_succ, onesB] using this
theorem sttq {b o j : Nat} {ys cs : List Value} {T : TypeId} {K : Mem → Prop} (h : Bk m b T cs) (h1 : onesB ys = true) (hl : o + j + ys.length ≤ cs.length) (k : K (mu m b (.cells ⟨wr cs (o + j) ys⟩ T (0, 0)))) : Stt m ((⟨b, o, none⟩ : Addr).add j) ys K := by
  rw [at_add]; exact Stt.bk h h1 hl k
/-- DeleteFunc, over Filter's closure -/
theorem t139 {b pb : Nat} {p : PD} {es : List EH} (ho : OwZ m b c es) (hb : Bk m pb 47 (pdC p)) (hp : ∀ e ∈ es, 0 ≤ p.1 ∧ p.1 < e.r.xs.length) (hl : es.length < 2 ^ 40) :
    Tr Try.prog 139 #[.slice (some ⟨b, 0, none⟩) es.length c, fclo pb] m fun v m' => ∃ es', v = .slice (some ⟨b, 0, none⟩) es'.length c ∧ es' = es.filter (fun e => satE p e.r.xs) ∧ OwZ m' b c es' ∧ Kp b m m' := by
  refine tr_of pok Try.func139 k139 (args := [_, _]) rfl ?_
  refine (t191 ho hb hp hl).mono ?_
  rintro v m1 ⟨rfl, ⟨rfl, hall⟩ | ⟨i0, rfl, ⟨hi0, hno⟩, hall⟩⟩
  · refine IteB.of (fun _ => ?_) (fun h => absurd rfl h)
    exact ⟨es, rfl, (List.filter_eq_self.2 hall).symm, ho, Kp.refl b _⟩
  refine IteB.of (fun h => absurd h (by omega)) (fun _ => ?_)
  refine Wr.ok (by omega) ?_
  obtain ⟨⟨sp, o1, o2⟩, o3, o4⟩ := id ho
  have hpb : pb ≠ b := hb.neT o1 (by decide)
  have hf0 : (es.take i0).filter (fun e => satE p e.r.xs) = es.take i0 := List.filter_eq_self.2 hall
  have hf1 : (es.take (i0 + 1)).filter (fun e => satE p e.r.xs) = es.take i0 := by
    rw [List.take_succ_eq_append_getElem hi0, List.filter_append, hf0]; simp [hno]
  have hl0 : ((es.take (i0 + 1)).filter (fun e => satE p e.r.xs)).length = i0 := by rw [hf1, List.length_take]; omega
  refine Lp.of (fun s : Nat × List EH => [(0, .v (.slice (some ⟨b, 0, none⟩) es.length c)), (1, .v (fclo pb)), (5, .v (.int .i64 ((((es.take s.1).filter (fun e => satE p e.r.xs)).length : Nat) : Int))), (6, .v (.int .i64 (s.1 : Int)))]) (fun _ => [])
    (fun s m' => s.1 ≤ es.length ∧ s.2.length = es.length ∧ s.2.take ((es.take s.1).filter (fun e => satE p e.r.xs)).length = (es.take s.1).filter (fun e => satE p e.r.xs) ∧ ((es.take s.1).filter (fun e => satE p e.r.xs)).length < s.1 ∧ s.2.drop s.1 = es.drop s.1 ∧ (∀ x ∈ s.2, x ∈ es) ∧ Bk m' b 40 (s.2.flatMap EH.cells ++ sp) ∧ Kp b m1 m') (fun s => es.length - s.1) (i0 + 1, es)
    ⟨by simp only; omega, rfl, by simp only; rw [hl0, hf1], by simp only; omega, rfl, fun _ h => h, o1, Kp.refl b _⟩ ?_ (hf := ⟨rfl, rfl, by simp only [hl0]; rfl, rfl, trivial⟩)
  rintro ⟨j, fs⟩ m2 ⟨g1, g2, g3, g4, g5, g6, g7, g8⟩
  simp only at g1 g2 g3 g4 g5 g6 g7
  have ho2 : OwZ m2 b c fs := ⟨⟨sp, g7, by rw [g2]; exact o2⟩, by rw [g2]; exact o3, fun e he => (o4 e (g6 e he)).kp' o1 g8⟩
  refine IteB.of (fun h1 => ?_) (fun h1 => ?_)
  · have hj : j < es.length := by omega
    have hjf : j < fs.length := by omega
    have hej : fs[j] = es[j] := by
      have := congrArg (fun l => l[0]?) g5
      simp only [List.getElem?_drop, Nat.add_zero] at this
      rw [List.getElem?_eq_getElem hjf, List.getElem?_eq_getElem hj] at this
      exact Option.some.inj this
    obtain ⟨q1, q2⟩ := ho2.mc j hjf
    refine Ix.at rfl hj (LdN.two q1 q2 ?_)
    refine ⟨⟨_, _, Try.func140, rfl⟩, ?_⟩
    refine (t140 (hb.kp g8 hpb) (ho2.2.2 _ (List.getElem_mem hjf)).row (hp _ (by rw [hej]; exact List.getElem_mem hj))).mono ?_
    rintro v m3 ⟨rfl, rfl⟩
    have hnx : (es.take (j + 1)).filter (fun e => satE p e.r.xs) = (es.take j).filter (fun e => satE p e.r.xs) ++ [es[j]].filter (fun e => satE p e.r.xs) := by
      rw [List.take_succ_eq_append_getElem hj, List.filter_append]
    have hdrop : fs.drop (j + 1) = es.drop (j + 1) := by
      have := congrArg (List.drop 1) g5
      simpa [List.drop_drop] using this
    refine IteB.not (IteB.not (IteB.bool (fun h2 => ?_) (fun h2 => ?_)))
    · rw [hej] at h2
      have hq1 : (es.take (j + 1)).filter (fun e => satE p e.r.xs) = (es.take j).filter (fun e => satE p e.r.xs) ++ [es[j]] := by rw [hnx]; simp [h2]
      refine Ix.at rfl (by (try dsimp only); omega) ?_
      refine sttq (o := 0) (j := ((es.take j).filter (fun e => satE p e.r.xs)).length * 2) (ys := EH.cells fs[j]) g7 rfl (by simp [flat_length EH.len, EH.len]; omega) ?_
      refine Wr.ok (by (try dsimp only); omega) (Wr.ok (by (try dsimp only); omega) ⟨(j + 1, fs.set ((es.take j).filter (fun e => satE p e.r.xs)).length es[j]), ⟨rfl, rfl, ?_, rfl, trivial⟩, trivial, ⟨by simp only; omega, by simp [g2], ?_, ?_, ?_, fun x hx => ?_, ?_, g8.trans (Kp.mu b _ _)⟩, by simp only; omega⟩)
      · simp only [hq1, List.length_append, List.length_singleton]; rfl
      · simp only [hq1, List.length_append, List.length_singleton]
        rw [set_eq _ _ _ (by omega)]
        have hlt : (fs.take ((es.take j).filter (fun e => satE p e.r.xs)).length).length = ((es.take j).filter (fun e => satE p e.r.xs)).length := by rw [List.length_take]; omega
        rw [List.take_append, hlt, show ((es.take j).filter (fun e => satE p e.r.xs)).length + 1 - ((es.take j).filter (fun e => satE p e.r.xs)).length = 1 by omega, List.take_of_length_le (by omega), g3]
        rfl
      · simp only [hq1, List.length_append, List.length_singleton]; omega
      · simp only
        rw [List.drop_set_of_lt (by omega), hdrop]
      · rcases List.mem_or_eq_of_mem_set hx with hx | rfl
        · exact g6 x hx
        · exact List.getElem_mem hj
      · simp only [Nat.zero_add]
        rw [← wr_flat EH.len fs sp ((es.take j).filter (fun e => satE p e.r.xs)).length es[j] (by omega)]
        rw [hej]
        exact Bk.mu _ _ _ _
    · rw [hej] at h2
      have hq1 : (es.take (j + 1)).filter (fun e => satE p e.r.xs) = (es.take j).filter (fun e => satE p e.r.xs) := by rw [hnx]; simp [h2]
      refine Wr.ok (by omega) ⟨(j + 1, fs), ⟨rfl, rfl, ?_, rfl, trivial⟩, trivial, ⟨by simp only; omega, g2, ?_, ?_, hdrop, g6, g7, g8⟩, by simp only; omega⟩
      · simp only [hq1]; rfl
      · simp only [hq1]; exact g3
      · simp only [hq1]; omega
  · have hjn : j = es.length := by omega
    subst hjn
    rw [List.take_length] at g3 g4
    have g4' : (es.filter (fun e => satE p e.r.xs)).length < es.length := g4
    have g2' : fs.length = es.length := g2
    generalize hQ : es.filter (fun e => satE p e.r.xs) = Q at g3 g4 g4'
    simp only [List.take_length, hQ]
    have fin : ∀ (m3 : Mem) (sp' : List Value), Bk m3 b 40 (Q.flatMap EH.cells ++ sp') → Q.length * 2 + sp'.length = c * 2 → Kp b m1 m3 → OwZ m3 b c Q := fun m3 sp' e1 e2 e3 =>
      ⟨⟨sp', e1, e2⟩, by omega, fun e he => (o4 e (by rw [← hQ] at he; exact (List.mem_filter.1 he).1)).kp' o1 e3⟩
    refine Sl.suf EH.len (es := fs) g7 g2' (by omega) o3 ?_
    intro A' hA' hA2
    refine ⟨fun h0 => absurd h0 (by omega), fun _ => ⟨_, hA2 (by omega), ?_⟩⟩
    refine Stt.bk g7 (zs_ones2 _) (by rw [zs_two]; simp [flat_length EH.len]; omega) ?_
    refine Sl.pre (k := Q.length) (by omega) ?_
    have hw : wr (fs.flatMap EH.cells ++ sp) (Q.length * 2) (zs (es.length - Q.length) [Value.slice none 0 0, Value.int .i64 0]) = Q.flatMap EH.cells ++ (zs (es.length - Q.length) [Value.slice none 0 0, Value.int .i64 0] ++ sp) := by
      have hfl := flat_length EH.len fs
      rw [wr_eq _ _ _ (by rw [zs_two]; simp [hfl]; omega), zs_two]
      rw [List.take_append_of_le_length (by rw [hfl]; omega), flat_take EH.len fs _ (by omega), g3]
      rw [show Q.length * 2 + (es.length - Q.length) * 2 = (fs.flatMap EH.cells).length by rw [hfl]; omega, List.drop_left, List.append_assoc]
    refine ⟨Q, rfl, rfl, fin _ (zs (es.length - Q.length) [Value.slice none 0 0, Value.int .i64 0] ++ sp) ?_ ?_ (g8.trans (Kp.mu b _ _)), g8.trans (Kp.mu b _ _)⟩
    · rw [hw]; exact Bk.mu _ _ _ _
    · rw [List.length_append, zs_two]; omega
def widthE (L : List ED) : Int := (((L.head?.map (·.1.length)).getD 0 : Nat) : Int)
def filtE (p : PD) (L : List ED) : List ED := L.filter fun e => satE p e.1
def FilE (p : PD) (L : List ED) : List ED := if vZ L ∧ pOK p (widthE L) then filtE p L else []
theorem widthE_mem {L : List ED} (hv : vZ L) : ∀ e ∈ L, (e.1.length : Int) = widthE L := by
  intro e he
  have h := (vZ_iff.1 hv).2.2.1
  match L, he with
  | x :: L, he =>
    show (e.1.length : Int) = ((x.1.length : Nat) : Int)
    rw [h e he x (by simp)]
theorem filtE_append (p : PD) (a b : List ED) : filtE p (a ++ b) = filtE p a ++ filtE p b := by simp [filtE]
theorem filt_map (p : PD) (es : List EH) : (es.filter fun e => satE p e.r.xs).map EH.d = filtE p (es.map EH.d) := by
  unfold filtE; rw [List.filter_map]; rfl
theorem IsZ.mk0' {m' : Mem} (h : Ext m m') : IsZ m m' (.slice none 0 0) [] := .inl ⟨rfl, rfl, h⟩
/-- Filter, of the program -/
theorem t53 (hx : RdE m A L) (hl : L.length < 2 ^ 60) (p : PD) : Tr Try.prog 53 #[.slice A L.length c, pdV p] m fun v m' => IsZ m m' v (FilE p L) := by
  refine tr_of pok Try.func53 k53 (args := [_, _]) rfl ?_
  refine ⟨fun pb hpb => ?_⟩
  have e1 : Ext m (mu m pb (.cells ⟨pdC p⟩ 47 (0, 0))) := Ext.mu hpb
  have b1 : Bk (mu m pb (.cells ⟨pdC p⟩ 47 (0, 0))) pb 47 (pdC p) := Bk.mu _ _ _ _
  refine (t42 (hx.ext e1) hl).mono ?_
  rintro v m2 ⟨rfl, rfl⟩
  have q0 : mc (mu m pb (.cells ⟨pdC p⟩ 47 (0, 0))) ⟨pb, 0, none⟩ = some (.int .i64 p.1) := by rw [b1.mc]; rfl
  have q1 : mc (mu m pb (.cells ⟨pdC p⟩ 47 (0, 0))) ((⟨pb, 0, none⟩ : Addr).add 1) = some (.int .i64 p.2.1) := by rw [at_add, b1.mc]; rfl
  have q2 : mc (mu m pb (.cells ⟨pdC p⟩ 47 (0, 0))) ((⟨pb, 0, none⟩ : Addr).add 2) = some (.int .i64 p.2.2) := by rw [at_add, b1.mc]; rfl
  refine pl0 ?_
  refine IteB.not (IteB.of (fun hv => ?_) (fun hv => ?_))
  · refine LdN3 q0 q1 q2 ?_
    refine (t138 (hx.ext e1) hl).mono ?_
    rintro v m2 ⟨rfl, rfl⟩
    refine pl0 ?_
    refine (t66 p _).mono ?_
    rintro v m2 ⟨rfl, rfl⟩
    refine IteB.not (IteB.of (fun hq => ?_) (fun hq => ?_))
    · have hF : FilE p L = filtE p L := if_pos ⟨hv, hq⟩
      obtain ⟨s1, s2, s3⟩ := vZ_small hv
      refine (t126 (hx.ext e1) s1 s2).mono ?_
      rintro v m3 ⟨b, c', es, rfl, h3, hd⟩
      have hel : L.length = es.length := by rw [← hd]; simp
      rw [hel]
      have hpe : ∀ e ∈ es, 0 ≤ p.1 ∧ p.1 < e.r.xs.length := fun e he => by
        have := widthE_mem hv e.d (by rw [← hd]; exact List.mem_map_of_mem he)
        have h1 := hq.2.2.1
        have h2 := hq.2.2.2.1
        simp only [EH.d] at this
        rw [this]
        exact ⟨h1, h2⟩
      refine (t139 h3.own (b1.ext h3.ext) hpe (by omega)).mono ?_
      rintro v m4 ⟨es', rfl, rfl, h5, h6⟩
      refine IsZ.new (es := es.filter fun e => satE p e.r.xs) ⟨h5, (e1.trans h3.ext).kp h6 (e1.no h3.b), e1.no h3.b, fun e he => e1.no (h3.rows e (List.mem_filter.1 he).1), h3.sep.sublist (List.Sublist.map _ List.filter_sublist)⟩ (by rw [hF, filt_map, hd]) (by rw [hF, ← hd, ← filt_map]; simp)
    · rw [FilE, if_neg (fun q => hq q.2)]
      exact IsZ.mk0' e1
  · rw [FilE, if_neg (fun q => hv q.1)]
    refine pl0 ?_
    exact IsZ.mk0' e1
/-- filter, of the reference -/
theorem t136 (hx : RdE m A L) (hl : L.length < 2 ^ 40) (hr : ∀ e ∈ L, e.1.length < 2 ^ 40) (p : PD) (hp : ∀ e ∈ L, 0 ≤ p.1 ∧ p.1 < e.1.length) : Tr Try.prog 136 #[.slice A L.length c, pdV p] m fun v m' => IsZ m m' v (filtE p L) := by
  refine tr_of pok Try.func136 k136 (args := [_, _]) rfl ?_
  refine ⟨fun b hb => ?_⟩
  refine Lp.of (fun s : Nat × Nat × Nat × List EH => [(0, .v (.slice A L.length c)), (3, .b 0 0), (5, .v (.slice (some ⟨s.2.1, 0, none⟩) s.2.2.2.length s.2.2.1)), (6, .v (.int .i64 (s.1 : Int)))]) (fun _ => [pdC p])
    (fun s m' => s.1 ≤ L.length ∧ NewZ m m' s.2.1 s.2.2.1 s.2.2.2 ∧ s.2.2.2.map EH.d = filtE p (L.take s.1) ∧ s.2.2.2.length ≤ s.1) (fun s => L.length - s.1) (0, b, 0, []) ⟨Nat.zero_le _, NewZ.nil hb, rfl, Nat.le_refl _⟩ ?_
  rintro ⟨i, b, cc, es⟩ m1 ⟨hi, hn, ht, hle⟩
  simp only at hi hn ht hle
  refine IteB.of (fun h1 => ?_) (fun h1 => ?_)
  · have hi' : i < L.length := by omega
    obtain ⟨a, Ar, cr, ha, q1, q2, q3, q4, q5⟩ := (hx.ext hn.ext) i hi'
    refine Ix.at ha hi' (Ld.of q1 ?_)
    refine (t164 q3 p (hp _ (List.getElem_mem hi'))).mono ?_
    rintro v m2 ⟨rfl, rfl⟩
    have hnx : filtE p (L.take (i + 1)) = filtE p (L.take i) ++ filtE p [L[i]] := by rw [List.take_succ_eq_append_getElem hi', filtE_append]
    refine IteB.bool (fun h2 => ?_) (fun h2 => ?_)
    · refine Ix.at ha hi' (LdN.two q1 q2 ?_)
      refine (t190 q3 (hr _ (List.getElem_mem hi'))).mono ?_
      rintro v m3 ⟨e, hd, rfl, h3, h4, h5⟩
      refine ⟨fun bb hbb => ?_⟩
      obtain ⟨⟨sp, o1, o2⟩, o3, o4⟩ := hn.own
      refine Ap.one (f := EH.cells) (k := 2) EH.len (l := es) (x := e) hbb (o1.ext h5) rfl o2 rfl (by omega) rfl (by (try dsimp only); omega) ?_
      intro b' c' sp' m4 g1 g2 g3 g4 g5
      refine Wr.ok (by omega) ⟨(i + 1, b', c', es ++ [e]), ⟨rfl, rfl, ?_, rfl, trivial⟩, ⟨rfl, trivial⟩, ⟨by simp only; omega, hn.push h5 h3 h4 g1 g2 g3 g4 g5, ?_, by simp only [List.length_append, List.length_singleton]; omega⟩, by simp only; omega⟩
      · simp only [List.length_append, List.length_singleton]; rfl
      · simp only
        rw [List.map_append, ht, hnx]
        simp [filtE, h2, hd]
    · refine Wr.ok (by omega) ⟨(i + 1, b, cc, es), ⟨rfl, rfl, rfl, rfl, trivial⟩, ⟨rfl, trivial⟩, ⟨by simp only; omega, hn, ?_, by simp only; omega⟩, by simp only; omega⟩
      simp only
      rw [ht, hnx]
      simp [filtE, h2]
  · have : i = L.length := by omega
    subst this
    rw [List.take_length] at ht
    exact IsZ.new hn ht (by rw [← ht]; simp)
/-- Filter, of the reference -/
theorem t50 (hx : RdE m A L) (hl : L.length < 2 ^ 60) (p : PD) : Tr Try.prog 50 #[.slice A L.length c, pdV p] m fun v m' => IsZ m m' v (FilE p L) := by
  refine tr_of pok Try.func50 k50 (args := [_, _]) rfl ?_
  refine (t127 hx hl).mono ?_
  rintro v m2 ⟨rfl, rfl⟩
  refine pl0 ?_
  refine IteB.not (IteB.of (fun hv => ?_) (fun hv => ?_))
  · refine IteB.of (fun h0 => ?_) (fun h0 => ?_)
    · have : L = [] := List.eq_nil_of_length_eq_zero (by omega)
      subst this
      rw [FilE, if_neg (fun q => by have := q.2.1; simp [widthE] at this)]
      refine pl0 ?_
      exact ⟨fun b hb => IsZ.new (NewZ.nil hb) rfl rfl⟩
    · have hne : L ≠ [] := fun e => h0 (by rw [e]; rfl)
      refine (t135 hx hne).mono ?_
      rintro v m2 ⟨rfl, rfl⟩
      refine pl0 ?_
      have hw : 1 ≤ widthE L ∧ widthE L ≤ 6 := by
        obtain ⟨e, he⟩ := List.exists_mem_of_ne_nil L hne
        have a := widthE_mem hv e he
        have b := ((vZ_iff.1 hv).2.1 e he).1
        have := b.2
        omega
      refine (t134 p hw).mono ?_
      rintro v m2 ⟨rfl, rfl⟩
      refine IteB.not (IteB.of (fun hq => ?_) (fun hq => ?_))
      · have hF : FilE p L = filtE p L := if_pos ⟨hv, hq⟩
        rw [hF]
        obtain ⟨s1, s2, s3⟩ := vZ_small hv
        refine (t136 hx s1 (fun e he => (s2 e he).2) p (fun e he => by
          have := widthE_mem hv e he
          have h1 := hq.2.2.1
          have h2 := hq.2.2.2.1
          rw [this]
          exact ⟨h1, h2⟩)).mono ?_
        exact fun _ _ h => h
      · rw [FilE, if_neg (fun q => hq q.2)]
        exact ⟨fun b hb => IsZ.new (NewZ.nil hb) rfl rfl⟩
  · rw [FilE, if_neg (fun q => hv q.1)]
    refine pl0 ?_
    exact ⟨fun b hb => IsZ.new (NewZ.nil hb) rfl rfl⟩
end Go.Proofs.Ytkbgdjpdmhnniaa
