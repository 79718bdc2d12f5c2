/- Plain facts on rows of numbers. Own work. No condition. -/
namespace Go.Vc
/-- Rows compared. -/
def cmpR : List Int → List Int → Int
  | [], [] => 0
  | [], _ :: _ => -1
  | _ :: _, [] => 1
  | x :: xs, y :: ys => if x < y then -1 else if y < x then 1 else cmpR xs ys
def vRow (xs : List Int) : Prop := (∀ x ∈ xs, -9999 ≤ x ∧ x ≤ 9999) ∧ 1 ≤ xs.length ∧ xs.length ≤ 6
instance (xs : List Int) : Decidable (vRow xs) := by unfold vRow; infer_instance
theorem cmpR_step {xs ys : List Int} {i : Nat} (hx : i < xs.length) (hy : i < ys.length) :
    cmpR (xs.drop i) (ys.drop i) = if xs[i] < ys[i] then -1 else if ys[i] < xs[i] then 1 else cmpR (xs.drop (i + 1)) (ys.drop (i + 1)) := by
  rw [List.drop_eq_getElem_cons hx, List.drop_eq_getElem_cons hy]
  rfl
theorem cmpR_nil_left (ys : List Int) : cmpR [] ys = if ys = [] then 0 else -1 := by cases ys <;> rfl
theorem cmpR_nil_right (xs : List Int) : cmpR xs [] = if xs = [] then 0 else 1 := by cases xs <;> rfl
theorem cmpR_range : ∀ (xs ys : List Int), -1 ≤ cmpR xs ys ∧ cmpR xs ys ≤ 1
  | [], [] => by simp [cmpR]
  | [], _ :: _ => by simp [cmpR]
  | _ :: _, [] => by simp [cmpR]
  | x :: xs, y :: ys => by
    unfold cmpR
    split
    · omega
    · split
      · omega
      · exact cmpR_range xs ys
theorem cmpR_self : ∀ (xs : List Int), cmpR xs xs = 0
  | [] => rfl
  | x :: xs => by simp [cmpR, cmpR_self xs]
theorem cmpR_eq : ∀ {xs ys : List Int}, cmpR xs ys = 0 → xs = ys
  | [], [], _ => rfl
  | [], _ :: _, h => by simp [cmpR] at h
  | _ :: _, [], h => by simp [cmpR] at h
  | x :: xs, y :: ys, h => by
    unfold cmpR at h
    split at h
    · omega
    · split at h
      · omega
      · have := cmpR_eq h
        have hxy : x = y := by omega
        rw [this, hxy]
theorem cmpR_zero {xs ys : List Int} : cmpR xs ys = 0 ↔ xs = ys := ⟨cmpR_eq, fun h => h ▸ cmpR_self xs⟩
theorem cmpR_swap : ∀ (xs ys : List Int), cmpR ys xs = - cmpR xs ys
  | [], [] => rfl
  | [], _ :: _ => rfl
  | _ :: _, [] => rfl
  | x :: xs, y :: ys => by
    have ih := cmpR_swap xs ys
    unfold cmpR
    by_cases h1 : x < y
    · have h2 : ¬ y < x := by omega
      simp [h1, h2]
    · by_cases h2 : y < x
      · simp [h1, h2]
      · simp [h1, h2, ih]
theorem cmpR_trans : ∀ {xs ys zs : List Int}, cmpR xs ys < 0 → cmpR ys zs < 0 → cmpR xs zs < 0
  | [], [], _, h, _ => by simp [cmpR] at h
  | _, _ :: _, [], _, h => by simp [cmpR] at h
  | [], _ :: _, _ :: _, _, _ => by simp [cmpR]
  | _ :: _, [], _, h, _ => by simp [cmpR] at h
  | x :: xs, y :: ys, z :: zs, h1, h2 => by
    unfold cmpR at h1 h2 ⊢
    split at h1
    · split at h2
      · rw [if_pos (by omega)]; omega
      · split at h2
        · omega
        · rw [if_pos (by omega)]; omega
    · split at h1
      · omega
      · split at h2
        · rw [if_pos (by omega)]; omega
        · split at h2
          · omega
          · rw [if_neg (by omega), if_neg (by omega)]
            exact cmpR_trans h1 h2
/-! Times -/
def vT (t : Int × Int) : Prop := 0 ≤ t.1 ∧ t.1 ≤ 99 ∧ 0 ≤ t.2 ∧ t.2 ≤ 99
instance (t : Int × Int) : Decidable (vT t) := by unfold vT; infer_instance
def tle (a b : Int × Int) : Prop := a.1 ≤ b.1 ∧ a.2 ≤ b.2
instance (a b : Int × Int) : Decidable (tle a b) := by unfold tle; infer_instance
def tlt (a b : Int × Int) : Prop := a.1 < b.1 ∨ a.1 = b.1 ∧ a.2 < b.2
instance (a b : Int × Int) : Decidable (tlt a b) := by unfold tlt; infer_instance
def cmpT (a b : Int × Int) : Int := if tlt a b then -1 else if tlt b a then 1 else 0
def tjoin (a b : Int × Int) : Int × Int := (max a.1 b.1, max a.2 b.2)
def tmeet (a b : Int × Int) : Int × Int := (min a.1 b.1, min a.2 b.2)
theorem cmpT_zero {a b : Int × Int} : cmpT a b = 0 ↔ a = b := by
  obtain ⟨a1, a2⟩ := a
  obtain ⟨b1, b2⟩ := b
  rw [Prod.mk.injEq]
  unfold cmpT
  by_cases h1 : tlt (a1, a2) (b1, b2)
  · rw [if_pos h1]; simp only [tlt] at h1; omega
  · rw [if_neg h1]
    by_cases h2 : tlt (b1, b2) (a1, a2)
    · rw [if_pos h2]; simp only [tlt] at h2; omega
    · rw [if_neg h2]; simp only [tlt] at h1 h2; omega
def covered (L : List (Int × Int)) (t : Int × Int) : Prop := ∃ u ∈ L, tle u t
instance (L : List (Int × Int)) (t : Int × Int) : Decidable (covered L t) := by unfold covered; infer_instance
/-! Z-sets -/
def totE : List (List Int × Int) → Int
  | [] => 0
  | e :: r => e.2 + totE r
theorem totE_append : ∀ (a b : List (List Int × Int)), totE (a ++ b) = totE a + totE b
  | [], b => by simp [totE]
  | e :: a, b => by simp [totE, totE_append a b]; omega
def wOf (L : List (List Int × Int)) (xs : List Int) : Int := match L with
  | [] => 0
  | e :: r => if e.1 = xs then e.2 else wOf r xs
theorem totE_bound : ∀ (L : List (List Int × Int)), (∀ e ∈ L, -1000000 ≤ e.2 ∧ e.2 ≤ 1000000) → -1000000 * (L.length : Int) ≤ totE L ∧ totE L ≤ 1000000 * (L.length : Int)
  | [], _ => by simp [totE]
  | e :: r, h => by
    have h1 := totE_bound r (fun x hx => h x (by simp [hx]))
    have h2 := h e (by simp)
    simp only [totE, List.length_cons]
    push_cast
    omega
def zOK (L : List (List Int × Int)) (i : Nat) (h : i < L.length) : Prop :=
  vRow L[i].1 ∧ L[i].1.length = (L[0]'(by omega)).1.length ∧ L[i].2 ≠ 0 ∧ (-1000000 ≤ L[i].2 ∧ L[i].2 ≤ 1000000) ∧ (∀ h0 : 0 < i, cmpR (L[i - 1]'(by omega)).1 L[i].1 < 0)
instance (L : List (List Int × Int)) (i : Nat) (h : i < L.length) : Decidable (zOK L i h) := by unfold zOK; infer_instance
def vZ (L : List (List Int × Int)) : Prop := L.length ≤ 400 ∧ ∀ i (h : i < L.length), zOK L i h
instance (L : List (List Int × Int)) : Decidable (vZ L) := by unfold vZ; infer_instance
/-- Numbers in a row. -/
def seqI (k : Int) : Nat → List Int
  | 0 => []
  | n + 1 => k :: seqI (k + 1) n
theorem seqI_length : ∀ (k : Int) (n : Nat), (seqI k n).length = n
  | _, 0 => rfl
  | k, n + 1 => by simp [seqI, seqI_length (k + 1) n]
theorem seqI_snoc : ∀ (k : Int) (n : Nat), seqI k (n + 1) = seqI k n ++ [k + n]
  | k, 0 => by simp [seqI]
  | k, n + 1 => by
    rw [seqI, seqI_snoc (k + 1) n, seqI]
    simp
    omega
theorem seqI_get : ∀ (k : Int) (n i : Nat) (h : i < (seqI k n).length), (seqI k n)[i] = k + i
  | k, 0, i, h => by simp [seqI] at h
  | k, n + 1, 0, h => by simp [seqI]
  | k, n + 1, i + 1, h => by
    simp only [seqI, List.getElem_cons_succ]
    rw [seqI_get (k + 1) n i (by simpa [seqI] using h)]
    omega
def cntE : List (List Int × Int) → Nat
  | [] => 0
  | e :: r => e.1.length + 1 + cntE r
def markE (k : Int) : List (List Int × Int) → List (List Int × Int)
  | [] => []
  | e :: r => (seqI k e.1.length, k + e.1.length) :: markE (k + e.1.length + 1) r
theorem markE_length : ∀ (k : Int) (L : List (List Int × Int)), (markE k L).length = L.length
  | _, [] => rfl
  | k, e :: r => by simp [markE, markE_length _ r]
theorem cntE_append : ∀ (a b : List (List Int × Int)), cntE (a ++ b) = cntE a + cntE b
  | [], b => by simp [cntE]
  | e :: a, b => by simp [cntE, cntE_append a b]; omega
theorem markE_append : ∀ (k : Int) (a b : List (List Int × Int)), markE k (a ++ b) = markE k a ++ markE (k + cntE a) b
  | k, [], b => by simp [markE, cntE]
  | k, e :: a, b => by
    simp only [markE, List.cons_append, markE_append _ a b, cntE]
    congr 3
    push_cast
    omega
theorem cntE_markE : ∀ (k : Int) (L : List (List Int × Int)), cntE (markE k L) = cntE L
  | _, [] => rfl
  | k, e :: r => by simp [markE, cntE, seqI_length, cntE_markE _ r]
end Go.Vc
