/- The walker: words for memory, and how a walk goes on at each head. Own work. No condition. -/
import Derived.Test.YtkbgdjpdmhnniaaVcA
namespace Go.Vc
open Go
set_option linter.unusedVariables false
/-- n numbers from A on. -/
def IsRow (m : Mem) (A : Option Addr) (xs : List Int) : Prop := Rd m A (xs.map (Value.int .i64))
theorem IsRow.at {m : Mem} {A : Option Addr} {xs : List Int} (h : IsRow m A xs) (j : Nat) (hj : j < xs.length) : ∃ a, A = some a ∧ mc m (a.add j) = some (.int .i64 xs[j]) :=
  h j _ (by simp [hj])
theorem IteB.of {p : Prop} [Decidable p] {X Y : Prop} (h1 : p → X) (h2 : ¬ p → Y) : IteB (decide p) X Y := ⟨fun h => h1 (of_decide_eq_true h), fun h => h2 (of_decide_eq_false h)⟩
theorem IteB.bool {b : Bool} {X Y : Prop} (h1 : b = true → X) (h2 : b = false → Y) : IteB b X Y := ⟨h1, h2⟩
theorem IteB.ff {X Y : Prop} (h : Y) : IteB false X Y := ⟨fun h => (by cases h), fun _ => h⟩
theorem IteB.tt {X Y : Prop} (h : X) : IteB true X Y := ⟨fun _ => h, fun h => (by cases h)⟩
theorem IteB.not {b : Bool} {X Y : Prop} (h : IteB b Y X) : IteB (!b) X Y := ⟨fun hb => h.n (by simpa using hb), fun hb => h.y (by simpa using hb)⟩
theorem Wr.ok {x : Int} {K : Int → Prop} (h : -9223372036854775808 ≤ x ∧ x ≤ 9223372036854775807) (k : K x) : Wr .i64 x K := by
  refine ⟨?_⟩
  have : IntKind.i64.wrap x = x := by unfold IntKind.wrap; simp [IntKind.bits, IntKind.signed]; omega
  rw [this]; exact k
theorem Ix.at {A : Option Addr} {n : Nat} {j sz : Nat} {K : Addr → Prop} {a : Addr} (ha : A = some a) (hj : j < n) (k : K (a.add (j * sz))) : Ix A n (j : Int) sz K :=
  ⟨⟨a, ha, by omega, by omega, by simpa using k⟩⟩
theorem Ld.of {m : Mem} {a : Addr} {K : Value → Prop} {v : Value} (h : mc m a = some v) (k : K v) : Ld m a K := ⟨⟨v, h, k⟩⟩
theorem add_add (a : Addr) (i j : Nat) : (a.add i).add j = a.add (i + j) := by
  unfold Addr.add
  by_cases hi : i = 0
  · subst hi; simp
  · by_cases hj : j = 0
    · subst hj; simp
    · simp [hi, hj, Nat.add_assoc]
theorem add_zero (a : Addr) : a.add 0 = a := rfl
theorem LdN.two {m : Mem} {a : Addr} {K : List Value → Prop} {c0 c1 : Value} (h0 : mc m a = some c0) (h1 : mc m (a.add 1) = some c1) (k : K [c0, c1]) : LdN m a 2 K := by
  refine ⟨[c0, c1], rfl, fun j v hj => ?_, k⟩
  match j with
  | 0 => simp at hj; subst hj; exact h0
  | 1 => simp at hj; subst hj; exact h1
  | j + 2 => simp at hj
theorem LdN.four {m : Mem} {a : Addr} {K : List Value → Prop} {c0 c1 c2 c3 : Value} (h0 : mc m a = some c0) (h1 : mc m (a.add 1) = some c1) (h2 : mc m (a.add 2) = some c2) (h3 : mc m (a.add 3) = some c3) (k : K [c0, c1, c2, c3]) : LdN m a 4 K := by
  refine ⟨[c0, c1, c2, c3], rfl, fun j v hj => ?_, k⟩
  match j with
  | 0 => simp at hj; subst hj; exact h0
  | 1 => simp at hj; subst hj; exact h1
  | 2 => simp at hj; subst hj; exact h2
  | 3 => simp at hj; subst hj; exact h3
  | j + 4 => simp at hj
theorem Ext.refl (m : Mem) : Ext m m := fun _ _ h => h
theorem Ext.trans {a b c : Mem} (h : Ext a b) (k : Ext b c) : Ext a c := fun x o hx => k x o (h x o hx)
theorem Ext.mu {m : Mem} {b : Nat} {o : Obj} (h : m b = none) : Ext m (mu m b o) := fun x q hx => by
  unfold Vc.mu
  rw [if_neg]
  · exact hx
  · intro e; subst e; rw [h] at hx; cases hx
theorem Ext.mc {m m' : Mem} (h : Ext m m') {a : Addr} {v : Value} (hc : mc m a = some v) : mc m' a = some v := by
  unfold Vc.mc at *
  cases e : m a.block with
  | none => rw [e] at hc; cases hc
  | some o => rw [e] at hc; rw [h _ _ e]; exact hc
theorem IsRow.ext {m m' : Mem} {A : Option Addr} {xs : List Int} (h : IsRow m A xs) (k : Ext m m') : IsRow m' A xs := fun j v hj => by
  obtain ⟨a, ha, hc⟩ := h j v hj; exact ⟨a, ha, k.mc hc⟩
/-- A call in a region that draws, behind which a load may come. -/
theorem pl0 {m : Mem} {bx : Bx} {X : Prop} (h : X) : Ext m m ∧ (∃ r, bx = bx ++ r) ∧ X := ⟨Ext.refl m, ⟨[], (List.append_nil bx).symm⟩, h⟩
theorem pl1 {m m' : Mem} {bx : Bx} {X : Prop} (he : Ext m m') (h : X) : Ext m m' ∧ (∃ r, bx = bx ++ r) ∧ X := ⟨he, ⟨[], (List.append_nil bx).symm⟩, h⟩
abbrev Tm := Int × Int
def tv (t : Tm) : Value := .agg #[.int .i64 t.1, .int .i64 t.2]
/-- Times from A on. -/
def RdT (m : Mem) (A : Option Addr) (L : List Tm) : Prop := ∀ i (h : i < L.length), ∃ a, A = some a ∧ mc m (a.add (i * 2)) = some (.int .i64 L[i].1) ∧ mc m ((a.add (i * 2)).add 1) = some (.int .i64 L[i].2)
theorem RdT.ext {m m' : Mem} {A : Option Addr} {L : List Tm} (h : RdT m A L) (k : Ext m m') : RdT m' A L := fun i hi => by
  obtain ⟨a, ha, h1, h2⟩ := h i hi; exact ⟨a, ha, k.mc h1, k.mc h2⟩
theorem b_iff {p q : Prop} [Decidable p] [Decidable q] (h : p ↔ q) : Value.bool (decide p) = .bool (decide q) := by congr 1; exact decide_eq_decide.2 h
theorem b_no {p : Prop} [Decidable p] (h : ¬ p) : Value.bool false = .bool (decide p) := by rw [decide_eq_false h]
theorem b_yes {p : Prop} [Decidable p] (h : p) : Value.bool true = .bool (decide p) := by rw [decide_eq_true h]
theorem Lp.of {σ : Type} {body : Post → Env → Bx → Mem → Prop} {Q : Post} {e : Env} {bx : Bx} {m : Mem} (vals : σ → List (Nat × AV)) (bxs : σ → Bx) (J : σ → Mem → Prop) (μ : σ → Nat) (s0 : σ) (hJ : J s0 m)
    (round : ∀ s m, J s m → body (fun ex e' bx' m' => match ex with
      | .nrm => ∃ s', Fit e' (vals s') ∧ Pre (bxs s') bx' ∧ J s' m' ∧ μ s' < μ s
      | ex => Q ex e' bx' m') (envOf (vals s)) (bxs s) m)
    (hf : Fit e (vals s0) := by repeat (first | exact True.intro | refine And.intro rfl ?_)) (hp : Pre (bxs s0) bx := by repeat (first | exact True.intro | refine And.intro rfl ?_))
    (hin : ∀ s, allIn (bxs s).length (vals s) = true := by intro _; rfl) : Lp body Q e bx m := ⟨⟨σ, vals, bxs, J, μ, s0, hin, hf, hp, hJ, round⟩⟩
end Go.Vc
