/- What the laws of exactness ask of lists of entries. Own work. No condition. -/
import Derived.Test.YtkbgdjpdmhnniaaPxA
import Derived.Test.YtkbgdjpdmhnniaaPp
namespace Go.Proofs.Ytkbgdjpdmhnniaa
open Go Go.Vc Go.Proofs
set_option linter.unusedVariables false
variable {m m' m0 m1 m2 : Mem} {A B : Option Addr} {L : List ED} {c : Nat} {k : Int}
theorem Ext.same {F : List Nat} (h : Ext m m1) (s : Same F m1 m2) (hF : ∀ x ∈ F, m x = none) : Ext m m2 := fun x o hx => by
  rw [s x (fun hm => by rw [hF x hm] at hx; cases hx)]
  exact h x o hx
theorem Bk.same {F : List Nat} {b : Nat} {T : TypeId} {cs : List Value} (h : Bk m b T cs) (s : Same F m m1) (hb : b ∉ F) : Bk m1 b T cs := by
  unfold Bk at *; rw [s b hb]; exact h
theorem OwZ.same {F : List Nat} {b : Nat} {es : List EH} (h : OwZ m b c es) (s : Same F m m1) (hb : b ∉ F) (he : ∀ e ∈ es, e.r.b ∉ F) : OwZ m1 b c es := by
  obtain ⟨⟨sp, h1, h2⟩, h3, h4⟩ := h
  refine ⟨⟨sp, Bk.same h1 s hb, h2⟩, h3, fun e hm => ?_⟩
  obtain ⟨⟨sp, h5⟩, h6⟩ := h4 e hm
  exact ⟨⟨sp, Bk.same h5 s (he e hm)⟩, h6⟩
/-- The blocks of what is owned lie in memory; those of what is new do not lie in the elder one. -/
theorem NewZ.foot {b : Nat} {es : List EH} (h : NewZ m m' b c es) : ∀ x ∈ footE b es, m x = none := fun x hx => by
  simp only [footE, List.mem_cons, List.mem_map] at hx
  rcases hx with rfl | ⟨e, he, rfl⟩
  · exact h.b
  · exact h.rows e he
theorem OwZ.foot {b : Nat} {es : List EH} (h : OwZ m b c es) : ∀ x ∈ footE b es, m x ≠ none := fun x hx => by
  obtain ⟨⟨sp, h1, h2⟩, h3, h4⟩ := h
  simp only [footE, List.mem_cons, List.mem_map] at hx
  rcases hx with rfl | ⟨e, he, rfl⟩
  · intro q; unfold Bk at h1; rw [q] at h1; cases h1
  · obtain ⟨⟨sp, h5⟩, _⟩ := h4 e he
    intro q; unfold Bk at h5; rw [q] at h5; cases h5
theorem cnt_len : ∀ (L : List ED), L.length ≤ cntE L
  | [] => Nat.le_refl _
  | e :: L => by have := cnt_len L; simp only [List.length_cons, cntE]; omega
theorem cnt_row : ∀ (L : List ED), ∀ e ∈ L, e.1.length ≤ cntE L
  | x :: L, e, he => by
    simp only [cntE]
    rcases List.mem_cons.1 he with rfl | he
    · omega
    · have := cnt_row L e he; omega
theorem cnt_filter (p : ED → Bool) : ∀ (L : List ED), cntE (L.filter p) ≤ cntE L
  | [] => Nat.le_refl _
  | x :: L => by
    have := cnt_filter p L
    rw [List.filter_cons]
    split <;> simp only [cntE] <;> omega
/-- toPredicate -/
theorem t52 (a o b : Int) : Tr Try.prog 52 #[.agg #[.int .i64 a, .int .i64 o, .int .i64 b]] m fun v m' => m' = m ∧ v = .agg #[.int .i64 a, .int .i64 o, .int .i64 b] := by
  refine tr_of pok Try.func52 k52 (args := [_]) rfl ?_
  exact ⟨rfl, rfl⟩
/-- A result that a call owns, none of whose blocks lay in m0. -/
def Liv (m0 m : Mem) (v : Value) (L : List ED) : Prop := (v = .slice none 0 0 ∧ L = []) ∨ ∃ b c es, v = .slice (some ⟨b, 0, none⟩) L.length c ∧ OwZ m b c es ∧ es.map EH.d = L ∧ (∀ x ∈ footE b es, m0 x = none) ∧ (es.map fun e => e.r.b).Nodup
theorem Liv.of {v : Value} (h : IsZ m0 m v L) : Liv m0 m v L := by
  rcases h with ⟨h1, h2, _⟩ | ⟨b, c, es, h1, h2, h3⟩
  · exact .inl ⟨h1, h2⟩
  · exact .inr ⟨b, c, es, h1, h2.own, h3, h2.foot, h2.sep⟩
theorem Liv.ext {v : Value} (h : Liv m0 m v L) (k : Ext m m1) : Liv m0 m1 v L := by
  rcases h with h | ⟨b, c, es, h1, h2, h3⟩
  · exact .inl h
  · exact .inr ⟨b, c, es, h1, h2.ext k, h3⟩
theorem Liv.same {v : Value} {F : List Nat} (h : Liv m0 m v L) (k : Same F m m1) (hF : ∀ x ∈ F, m0 x ≠ none) : Liv m0 m1 v L := by
  rcases h with h | ⟨b, c, es, h1, h2, h3, h4, h5⟩
  · exact .inl h
  · exact .inr ⟨b, c, es, h1, OwZ.same h2 k (fun q => hF b q (h4 b (by simp [footE]))) (fun e he q => hF _ q (h4 _ (by simp only [footE, List.mem_cons, List.mem_map]; exact .inr ⟨e, he, rfl⟩))), h3, h4, h5⟩
theorem Liv.rd {v : Value} (h : Liv m0 m v L) : ∃ A c, v = .slice A L.length c ∧ RdE m A L := by
  rcases h with ⟨rfl, rfl⟩ | ⟨b, c, es, rfl, h2, rfl, _⟩
  · exact ⟨none, 0, rfl, fun i hi => by simp at hi⟩
  · exact ⟨_, c, rfl, h2.rd⟩
/-- markEntryS, of no slice -/
theorem t55n : Tr Try.prog 55 #[.slice none 0 0, .int .i64 k] m fun v m' => v = .int .i64 k ∧ m' = m := by
  refine tr_of pok Try.func55 k55 (args := [_, _]) rfl ?_
  refine Lp.of (fun _ : Unit => [(0, .v (.slice none 0 0)), (1, .v (.int .i64 k)), (5, .v (.int .i64 0))]) (fun _ => []) (fun _ m' => m' = m) (fun _ => 0) () rfl ?_
  rintro _ m1 rfl
  refine IteB.of (fun h => absurd h (by decide)) (fun _ => ?_)
  exact ⟨rfl, rfl⟩
theorem Liv.mark {v : Value} (h : Liv m0 m v L) (hc : cntE L < 2 ^ 59) : Tr Try.prog 55 #[v, .int .i64 1] m fun u m' => u = .int .i64 (1 + cntE L) ∧ (∃ F : List Nat, Same F m m' ∧ ∀ x ∈ F, m0 x = none) ∧ Liv m0 m' v (markE 1 L) := by
  rcases h with ⟨rfl, rfl⟩ | ⟨b, c, es, rfl, h2, rfl, h4, h5⟩
  · refine t55n.mono ?_
    rintro u m' ⟨rfl, rfl⟩
    exact ⟨rfl, ⟨[], fun _ _ => rfl, by simp⟩, .inl ⟨rfl, rfl⟩⟩
  · have hle := cnt_len (es.map EH.d)
    have hlm : (es.map EH.d).length = es.length := by simp
    rw [hlm]
    refine (t55 h2 h5 (by omega) (by omega) (by omega)).mono ?_
    rintro u m' ⟨rfl, ⟨es', g1, g2, g3⟩, g4⟩
    refine ⟨rfl, ⟨_, g4, h4⟩, .inr ⟨b, c, es', by rw [markE_length, hlm], g1, g2, ?_, by rw [g3]; exact h5⟩⟩
    have : footE b es' = footE b es := by unfold footE; rw [g3]
    rw [this]; exact h4
end Go.Proofs.Ytkbgdjpdmhnniaa
