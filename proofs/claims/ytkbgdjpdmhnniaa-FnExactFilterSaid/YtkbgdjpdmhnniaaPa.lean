/- Blocks that a call owns, and arrays of structs in them. Own work. No condition. -/
import Derived.Test.YtkbgdjpdmhnniaaVcU
namespace Go.Vc
open Go
set_option linter.unusedVariables false
/-- Block b holds these cells. -/
def Bk (m : Mem) (b : Nat) (T : TypeId) (cs : List Value) : Prop := m b = some (.cells ⟨cs⟩ T (0, 0))
/-- All but block b is kept. -/
def Kp (b : Nat) (m m' : Mem) : Prop := ∀ x, x ≠ b → ∀ o, m x = some o → m' x = some o
theorem Kp.of {b : Nat} {m m' : Mem} (h : Ext m m') : Kp b m m' := fun x _ o hx => h x o hx
theorem Kp.refl (b : Nat) (m : Mem) : Kp b m m := fun _ _ _ h => h
theorem Kp.trans {b : Nat} {m m' m'' : Mem} (h : Kp b m m') (k : Kp b m' m'') : Kp b m m'' := fun x hx o ho => k x hx o (h x hx o ho)
theorem Kp.mu (b : Nat) (m : Mem) (o : Obj) : Kp b m (mu m b o) := fun x hx q hq => by unfold Vc.mu; rw [if_neg hx]; exact hq
theorem Kp.ext {b : Nat} {m m' : Mem} (h : Kp b m m') (hb : m b = none) : Ext m m' := fun x o hx => h x (fun e => by subst e; rw [hb] at hx; cases hx) o hx
theorem mu_same (m : Mem) (b : Nat) (o : Obj) : mu m b o b = some o := by simp [mu]
theorem mu_ne {m : Mem} {b x : Nat} {o : Obj} (h : x ≠ b) : mu m b o x = m x := by simp [mu, h]
theorem mu_mu (m : Mem) (b : Nat) (o o' : Obj) : mu (mu m b o) b o' = mu m b o' := by funext x; unfold mu; split <;> rfl
theorem Bk.mu (m : Mem) (b : Nat) (T : TypeId) (cs : List Value) : Bk (mu m b (.cells ⟨cs⟩ T (0, 0))) b T cs := mu_same m b _
theorem Bk.kp {m m' : Mem} {b x : Nat} {T : TypeId} {cs : List Value} (h : Bk m x T cs) (k : Kp b m m') (hx : x ≠ b) : Bk m' x T cs := k x hx _ h
theorem Bk.ext {m m' : Mem} {x : Nat} {T : TypeId} {cs : List Value} (h : Bk m x T cs) (k : Ext m m') : Bk m' x T cs := k x _ h
theorem Bk.ne {m : Mem} {b x : Nat} {T : TypeId} {cs : List Value} (h : Bk m x T cs) (hb : m b = none) : x ≠ b := fun e => by subst e; unfold Bk at h; rw [hb] at h; cases h
theorem Bk.neT {m : Mem} {b x : Nat} {T T' : TypeId} {cs cs' : List Value} (h : Bk m x T cs) (h' : Bk m b T' cs') (hT : T ≠ T') : x ≠ b := fun e => by
  subst e; unfold Bk at h h'; rw [h] at h'; cases h'; exact hT rfl
theorem at_add (b o k : Nat) : (⟨b, o, none⟩ : Addr).add k = ⟨b, o + k, none⟩ := by unfold Addr.add; split <;> simp_all
theorem Bk.mc {m : Mem} {b : Nat} {T : TypeId} {cs : List Value} (h : Bk m b T cs) (o : Nat) : mc m ⟨b, o, none⟩ = cs[o]? := by
  unfold Vc.mc; unfold Bk at h; simp only [h, Option.bind_some, objCell]; simp
theorem Bk.rd {m : Mem} {b : Nat} {T : TypeId} {cs sp : List Value} (h : Bk m b T (cs ++ sp)) : Rd m (some ⟨b, 0, none⟩) cs := fun j v hj => by
  refine ⟨_, rfl, ?_⟩
  rw [at_add, h.mc, Nat.zero_add, List.getElem?_append_left (List.getElem?_eq_some_iff.1 hj).1]
  exact hj
theorem Stt.bk {m : Mem} {b o : Nat} {ys cs : List Value} {T : TypeId} {K : Mem → Prop} (h : Bk m b T cs) (h1 : onesB ys = true) (hl : o + ys.length ≤ cs.length) (k : K (mu m b (.cells ⟨wr cs o ys⟩ T (0, 0)))) : Stt m ⟨b, o, none⟩ ys K :=
  ⟨⟨h1, cs, T, h, rfl, hl, k⟩⟩
/-! ### Lists of cells -/
section
variable {α : Type} {f : α → List Value} {k : Nat}
theorem flat_length (hk : ∀ x, (f x).length = k) (l : List α) : (l.flatMap f).length = l.length * k := by
  induction l with
  | nil => simp
  | cons x l ih => simp [List.flatMap_cons, ih, hk, Nat.add_mul, Nat.add_comm]
theorem flat_get (hk : ∀ x, (f x).length = k) : ∀ (l : List α) (i j : Nat) (hi : i < l.length), j < k → (l.flatMap f)[i * k + j]? = (f l[i])[j]?
  | [], i, j, hi, hj => by simp at hi
  | x :: l, 0, j, hi, hj => by
    simp only [List.flatMap_cons, Nat.zero_mul, Nat.zero_add]
    rw [List.getElem?_append_left (by rw [hk]; exact hj)]
    rfl
  | x :: l, i + 1, j, hi, hj => by
    simp only [List.flatMap_cons]
    rw [List.getElem?_append_right (by rw [hk, Nat.add_mul]; omega)]
    have := flat_get hk l i j (by simpa using hi) hj
    rw [hk, show (i + 1) * k + j - k = i * k + j by rw [Nat.add_mul]; omega, this]
    rfl
theorem flat_take (hk : ∀ x, (f x).length = k) (l : List α) (i : Nat) (hi : i ≤ l.length) : (l.flatMap f).take (i * k) = (l.take i).flatMap f := by
  conv => lhs; rw [← List.take_append_drop i l, List.flatMap_append]
  rw [List.take_append_of_le_length (by rw [flat_length hk, List.length_take, Nat.min_eq_left hi]; exact Nat.le_refl _)]
  rw [List.take_of_length_le (by rw [flat_length hk, List.length_take, Nat.min_eq_left hi]; exact Nat.le_refl _)]
theorem flat_drop (hk : ∀ x, (f x).length = k) (l : List α) (i : Nat) (hi : i ≤ l.length) : (l.flatMap f).drop (i * k) = (l.drop i).flatMap f := by
  conv => lhs; rw [← List.take_append_drop i l, List.flatMap_append]
  have e : ((l.take i).flatMap f).length = i * k := by rw [flat_length hk, List.length_take, Nat.min_eq_left hi]
  rw [← e, List.drop_left]
theorem set_eq (l : List α) (i : Nat) (x : α) (hi : i < l.length) : l.set i x = l.take i ++ x :: l.drop (i + 1) := by
  rw [List.set_eq_take_append_cons_drop, if_pos hi]
theorem wr_flat (hk : ∀ x, (f x).length = k) (l : List α) (sp : List Value) (i : Nat) (x : α) (hi : i < l.length) : wr (l.flatMap f ++ sp) (i * k) (f x) = (l.set i x).flatMap f ++ sp := by
  have hl := flat_length hk l
  have h1 : i * k + k ≤ l.length * k := by rw [← Nat.succ_mul]; exact Nat.mul_le_mul_right _ hi
  rw [wr_eq _ _ _ (by rw [List.length_append, hl, hk]; omega), hk]
  rw [List.take_append_of_le_length (by rw [hl]; omega), List.drop_append_of_le_length (by rw [hl]; omega)]
  rw [flat_take hk l i (by omega), show i * k + k = (i + 1) * k by rw [Nat.succ_mul], flat_drop hk l (i + 1) hi, set_eq l i x hi]
  simp [List.flatMap_append, List.flatMap_cons]
/-- One cell of an element. -/
theorem wr_field (hk : ∀ x, (f x).length = k) (l : List α) (sp : List Value) (i j : Nat) (x : α) (v : Value) (hi : i < l.length) (hj : j < k) (hx : f x = (f l[i]).set j v) : wr (l.flatMap f ++ sp) (i * k + j) [v] = (l.set i x).flatMap f ++ sp := by
  have hl := flat_length hk l
  have h1 : i * k + k ≤ l.length * k := by rw [← Nat.succ_mul]; exact Nat.mul_le_mul_right _ hi
  rw [← wr_flat hk l sp i x hi, wr_eq _ _ _ (by rw [List.length_append, hl]; simp; omega), wr_eq _ _ _ (by rw [List.length_append, hl, hk]; omega)]
  apply List.ext_getElem?
  intro q
  have e1 : ((l.flatMap f ++ sp).take (i * k + j)).length = i * k + j := by rw [List.length_take, List.length_append, hl]; omega
  have e2 : ((l.flatMap f ++ sp).take (i * k)).length = i * k := by rw [List.length_take, List.length_append, hl]; omega
  have hfx : (f x).length = k := hk x
  have hfi : (f l[i]).length = k := hk _
  by_cases q1 : q < i * k
  · rw [List.append_assoc, List.getElem?_append_left (by omega), List.append_assoc, List.getElem?_append_left (by omega)]
    simp [List.getElem?_take, show q < i * k + j by omega, q1]
  · by_cases q2 : q < i * k + k
    · have hr : ((l.flatMap f ++ sp).take (i * k) ++ f x ++ (l.flatMap f ++ sp).drop (i * k + (f x).length))[q]? = (f x)[q - i * k]? := by
        rw [List.append_assoc, List.getElem?_append_right (by omega), e2, List.getElem?_append_left (by omega)]
      rw [hr, hx]
      have horig : ∀ p, p < k → (l.flatMap f ++ sp)[i * k + p]? = (f l[i])[p]? := fun p hp => by
        rw [List.getElem?_append_left (by rw [hl]; omega), flat_get hk l i p hi hp]
      by_cases q3 : q < i * k + j
      · rw [List.append_assoc, List.getElem?_append_left (by omega), List.getElem?_take, if_pos q3, List.getElem?_set_ne (by omega)]
        have := horig (q - i * k) (by omega)
        rwa [show i * k + (q - i * k) = q by omega] at this
      · by_cases q4 : q = i * k + j
        · subst q4
          rw [List.append_assoc, List.getElem?_append_right (by omega), e1, Nat.sub_self]
          rw [show i * k + j - i * k = j by omega, List.getElem?_set_self (by omega)]
          rfl
        · rw [List.getElem?_append_right (by simp [e1]; omega), List.getElem?_drop, List.getElem?_set_ne (by omega)]
          have := horig (q - i * k) (by omega)
          rw [show i * k + (q - i * k) = q by omega] at this
          rw [← this]
          congr 1
          simp [e1]; omega
    · rw [List.getElem?_append_right (by simp [e1]; omega), List.getElem?_append_right (by simp [e2, hfx]; omega), List.getElem?_drop, List.getElem?_drop]
      congr 1
      simp [e1, e2, hfx]; omega
/-- Append to what is owned. -/
theorem Ap.own (hk : ∀ x, (f x).length = k) {m : Mem} {b n c kk : Nat} {B : Option Addr} {T : TypeId} {bytes : Nat} {zero sp : List Value} {l l' : List α} {K : Value → Mem → Prop} (hb : Bk m b T (l.flatMap f ++ sp)) (hn : l.length = n) (hsp : n * k + sp.length = c * k) (hz : zero.length = k) (hk0 : 0 < k)
    (hnew : Rd m B (l'.flatMap f)) (hl' : l'.length = kk) (h1 : onesB (l'.flatMap f) = true) (hby : (n + kk) * bytes ≤ 140737488355328 ∧ bytes ≠ 0)
    (h : ∀ b' c' sp' m', (b' = b ∨ m b' = none) → Bk m' b' T ((l ++ l').flatMap f ++ sp') → (n + kk) * k + sp'.length = c' * k → n + kk ≤ c' → Kp b m m' → (∀ x o, m' x = some o → m x ≠ none ∨ x = b') → K (.slice (some ⟨b', 0, none⟩) (n + kk) c') m') :
    Ap m (some ⟨b, 0, none⟩) n c B kk T k bytes zero K := by
  have hlen := flat_length hk l
  have hlen' := flat_length hk l'
  refine ⟨l'.flatMap f, by rw [hlen', hl'], hnew, fun hroom => ⟨fun he => ?_, fun hne => ⟨_, rfl, ?_⟩⟩, fun hgr => ⟨l.flatMap f, by rw [hlen, hn], hb.rd, hby.1, hby.2, fun b' cap hb' hc hc2 => ?_⟩⟩
  · have hkk : kk = 0 := by
      have h0 : kk * k = 0 := by rw [← hl', ← hlen', he]; rfl
      rcases Nat.mul_eq_zero.1 h0 with h0 | h0
      · exact h0
      · omega
    subst hkk
    have : l' = [] := List.eq_nil_of_length_eq_zero hl'
    subst this
    exact h b c sp m (.inl rfl) (by simpa using hb) (by simpa using hsp) hroom (Kp.refl b m) (fun x o hx => .inl (by simp [hx]))
  · have hmul : (n + kk) * k ≤ c * k := Nat.mul_le_mul_right _ hroom
    have e1 : n * k + kk * k = (n + kk) * k := by rw [Nat.add_mul]
    rw [at_add, Nat.zero_add]
    refine Stt.bk hb h1 (by rw [List.length_append, hlen, hlen', hn, hl']; omega) ?_
    refine h b c (sp.drop (kk * k)) _ (.inl rfl) ?_ (by rw [List.length_drop]; omega) hroom (Kp.mu b m _) (fun x o hx => ?_)
    · have : wr (l.flatMap f ++ sp) (n * k) (l'.flatMap f) = (l ++ l').flatMap f ++ sp.drop (kk * k) := by
        rw [wr_eq _ _ _ (by rw [List.length_append, hlen, hlen', hn, hl']; omega)]
        rw [List.take_append_of_le_length (by rw [hlen, hn]; exact Nat.le_refl _), List.take_of_length_le (by rw [hlen, hn]; exact Nat.le_refl _)]
        rw [List.drop_append, hlen, hlen', hn, hl', List.drop_of_length_le (by rw [hlen, hn]; omega), List.flatMap_append]
        simp
      rw [this]; exact Bk.mu _ _ _ _
    · unfold Vc.mu at hx
      split at hx
      · rename_i hx'; exact .inr hx'
      · exact .inl (by simp [hx])
  · refine h b' cap (zs (cap - (n + kk)) zero) _ (.inr hb') ?_ ?_ hc (Kp.of (Ext.mu hb')) (fun x o hx => ?_)
    · rw [List.flatMap_append]; exact Bk.mu _ _ _ _
    · rw [zs_length, hz, ← Nat.add_mul]; congr 1; omega
    · unfold Vc.mu at hx
      split at hx
      · rename_i hx'; exact .inr hx'
      · exact .inl (by simp [hx])
/-- One element more. -/
theorem Ap.one (hk : ∀ x, (f x).length = k) {m : Mem} {b bb n c : Nat} {T : TypeId} {bytes : Nat} {zero sp : List Value} {l : List α} {x : α} {K : Value → Mem → Prop} (hbb : m bb = none) (hb : Bk m b T (l.flatMap f ++ sp)) (hn : l.length = n) (hsp : n * k + sp.length = c * k) (hz : zero.length = k) (hk0 : 0 < k)
    (h1 : onesB (f x) = true) (hby : (n + 1) * bytes ≤ 140737488355328 ∧ bytes ≠ 0)
    (h : ∀ b' c' sp' m', (b' = b ∨ m b' = none) → Bk m' b' T ((l ++ [x]).flatMap f ++ sp') → (n + 1) * k + sp'.length = c' * k → n + 1 ≤ c' → Kp b m m' → K (.slice (some ⟨b', 0, none⟩) (n + 1) c') m') :
    Ap (Vc.mu m bb (.cells ⟨f x⟩ T (0, 0))) (some ⟨b, 0, none⟩) n c (some ⟨bb, 0, none⟩) 1 T k bytes zero K := by
  have he : Ext m (Vc.mu m bb (.cells ⟨f x⟩ T (0, 0))) := Ext.mu hbb
  have hf : ([x] : List α).flatMap f = f x := by simp
  refine Ap.own hk (l := l) (l' := [x]) (hb.ext he) hn hsp hz hk0 ?_ rfl (by rw [hf]; exact h1) hby ?_
  · rw [hf]
    have := (Bk.mu m bb T (f x))
    exact Bk.rd (sp := []) (by simpa using this)
  · intro b' c' sp' m' h2 h3 h4 h5 h6 _
    refine h b' c' sp' m' (h2.imp_right fun hh => ?_) h3 h4 h5 ((Kp.of he).trans h6)
    cases e : m b' with
    | none => rfl
    | some o => rw [he b' o e] at hh; cases hh
end
theorem Sl.pre {A : Option Addr} {n c k sz : Nat} {K : Option Addr → Nat → Nat → Prop} (h : k ≤ c) (hk : K A k c) : Sl A n c none (some (k : Int)) sz K := by
  refine ⟨0, k, rfl, rfl, by omega, h, ?_⟩
  have : (if c = 0 then A else A.map (·.add (0 * sz))) = A := by
    split
    · rfl
    · cases A with
      | none => rfl
      | some a => simp [Addr.add]
  rw [this]
  exact hk
theorem Sl.suf {α : Type} {f : α → List Value} {k : Nat} (hk : ∀ x, (f x).length = k) {m : Mem} {b n c l : Nat} {T : TypeId} {es : List α} {sp : List Value} {K : Option Addr → Nat → Nat → Prop} (hb : Bk m b T (es.flatMap f ++ sp)) (hn : es.length = n) (hl : l ≤ n) (hc : n ≤ c)
    (h : ∀ A, Rd m A ((es.drop l).flatMap f) → (c ≠ l → A = some ⟨b, l * k, none⟩) → K A (n - l) (c - l)) : Sl (some ⟨b, 0, none⟩) n c (some (l : Int)) none k K := by
  refine ⟨l, n, rfl, rfl, hl, hc, ?_⟩
  refine h _ ?_ (fun hne => by rw [if_neg hne]; simp [at_add])
  intro j v hj
  have hlen : ((es.drop l).flatMap f).length = (n - l) * k := by rw [flat_length hk, List.length_drop, hn]
  have hjl := (List.getElem?_eq_some_iff.1 hj).1
  have hne : c ≠ l := by
    intro e
    have : n - l = 0 := by omega
    rw [this] at hlen
    omega
  rw [if_neg hne]
  refine ⟨_, by simp only [Option.map_some, at_add]; rfl, ?_⟩
  rw [at_add, hb.mc, Nat.zero_add]
  rw [← flat_drop hk es l (by omega), List.getElem?_drop] at hj
  rw [List.getElem?_append_left (List.getElem?_eq_some_iff.1 hj).1]
  exact hj
theorem Ext.no {m m' : Mem} (h : Ext m m') {x : Nat} (hx : m' x = none) : m x = none := by
  cases e : m x with
  | none => rfl
  | some o => rw [h x o e] at hx; cases hx
theorem Ext.kp {m m' m'' : Mem} {b : Nat} (h : Ext m m') (k : Kp b m' m'') (hb : m b = none) : Ext m m'' := fun x o hx => k x (fun e => by subst e; rw [hb] at hx; cases hx) o (h x o hx)
end Go.Vc
