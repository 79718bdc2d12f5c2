/- The walker's operations under their guards, and regions in the order of the text. Own work. No condition. -/
import Derived.Test.YtkbgdjpdmhnniaaVcK
namespace Go.Vc
open Go
set_option linter.unusedVariables false
set_option linter.unusedSimpArgs false
def compI (P : Program) (ext : Bool) (o : Op) : Option I := match compF P o with
  | some i => some i
  | none => compS P ext o
def compNd (P : Program) (N : Nat) (exts : List Nat) (ops : Array Oper) (o : Oper) : Option Nd :=
  match compI P (match o.dst with | some d => exts.contains d | none => false) o.op with
  | none => none
  | some i => match (match o.dst with | some d => Nat.ble (d + 1) N | none => true) with
    | false => none
    | true => match o.guard with
      | none => some ⟨o.dst, none, i⟩
      | some (j, want) => match (ops[j]?).bind (·.dst) with
        | some g => some ⟨o.dst, some (g, want), i⟩
        | none => none
theorem compF_free {P : Program} {o : Op} {i : I} (h : compF P o = some i) : i.free = true := by
  unfold compF at h
  repeat' (split at h)
  all_goals first | (cases h; rfl) | (cases h)
theorem compS_not {P : Program} {ext : Bool} {o : Op} {i : I} (h : compS P ext o = some i) : i.free = false := by
  unfold compS at h
  repeat' (split at h)
  all_goals first | (cases h; rfl) | (cases h)
theorem compI_free {P : Program} {ext : Bool} {o : Op} {i : I} (h : compI P ext o = some i) (hf : i.free = true) : compF P o = some i := by
  unfold compI at h
  split at h
  · rename_i j hj; cases h; exact hj
  · have := compS_not h; rw [hf] at this; cases this
theorem compI_not {P : Program} {ext : Bool} {o : Op} {i : I} (h : compI P ext o = some i) (hf : i.free = false) : compS P ext o = some i := by
  unfold compI at h
  split at h
  · rename_i j hj; cases h; have := compF_free hj; rw [hf] at this; cases this
  · exact h
structure NdOf (P : Program) (N : Nat) (ext : Bool) (ops : Array Oper) (o : Oper) (nd : Nd) : Prop where
  i : compI P ext o.op = some nd.i
  dst : nd.dst = o.dst
  lt : ∀ d, o.dst = some d → d < N
  g0 : o.guard = none → nd.g = none
  g1 : ∀ j want, o.guard = some (j, want) → ∃ g, (ops[j]?).bind (·.dst) = some g ∧ nd.g = some (g, want)
theorem compNd_inv {P : Program} {N : Nat} {exts : List Nat} {ops : Array Oper} {o : Oper} {nd : Nd} (h : compNd P N exts ops o = some nd) : ∃ ext, NdOf P N ext ops o nd := by
  unfold compNd at h
  split at h
  · cases h
  · rename_i i hi
    split at h
    · cases h
    · rename_i hlt
      have hlt' : ∀ d, o.dst = some d → d < N := by
        intro d hd
        rw [hd] at hlt
        exact Nat.lt_of_succ_le (Nat.le_of_ble_eq_true hlt)
      split at h
      · rename_i hg; cases h
        exact ⟨_, ⟨hi, rfl, hlt', fun _ => rfl, fun j w hh => (by rw [hg] at hh; cases hh)⟩⟩
      · rename_i j want hg
        split at h
        · rename_i g hj; cases h
          exact ⟨_, ⟨hi, rfl, hlt', fun hh => (by rw [hg] at hh; cases hh), fun j' w' hh => (by rw [hg] at hh; cases hh; exact ⟨g, hj, rfl⟩)⟩⟩
        · cases h
/-- A state is told. -/
def RelK (w0 : World) (m0 : Mem) (N : Nat) (K : Env → Bx → Mem → Prop) (a : Act) (w : World) : Prop :=
  ∃ e bx β m, ER β e a ∧ MR w0 m0 bx β m w ∧ a.defers = [] ∧ N ≤ a.tmps.size ∧ K e bx m
theorem RelK.mono {w0 : World} {m0 : Mem} {N : Nat} {K K' : Env → Bx → Mem → Prop} {a : Act} {w : World} (h : RelK w0 m0 N K a w) (k : ∀ e bx m, K e bx m → K' e bx m) : RelK w0 m0 N K' a w :=
  let ⟨e, bx, β, m, h1, h2, h3, h4, h5⟩ := h; ⟨e, bx, β, m, h1, h2, h3, h4, k _ _ _ h5⟩
def YieldsC (P : Program) (ops : Array Oper) (cls : World → Prop) (o : Oper) (v : Value) (a : Act) : Prop :=
  (Region.wanted o (yielded ops a.tmps) = true ∧ ∀ w, cls w → (execOp a.eval o).run P w = .ok (.value v) w) ∨ (Region.wanted o (yielded ops a.tmps) = false ∧ v = undef)
section
variable {P : Program} {N : Nat} {ext : Bool} {ops : Array Oper} {o : Oper} {nd : Nd} {w0 : World} {m0 : Mem} {bx : Bx} {β : List Nat} {m : Mem} {w : World} {e : Env} {a : Act} {lb : Bx} {lm : Mem} {K : Env → Bx → Mem → Prop} {Q : Exit → Act → World → Prop}
theorem ER.put (hE : ER β e a) (hN : N ≤ a.tmps.size) {d : Option Nat} (hd : ∀ t, d = some t → t < N) {x : AV} {u : Value} (hx : AvR β x u) : ER β (put e d x) (a.put d u) := by
  cases d with
  | none => exact hE
  | some d =>
    intro t
    have hlt := hd d rfl
    unfold Vc.put Env.set Act.put
    by_cases h : t = d
    · subst h
      have : Nat.beq t t = true := Nat.beq_refl t
      simp only [this, cond_true, Array.getD_eq_getD_getElem?]
      rw [Array.getElem?_setIfInBounds_self_of_lt (by omega)]
      exact hx
    · have : Nat.beq t d = false := by
        cases hb : Nat.beq t d
        · rfl
        · exact absurd (Nat.eq_of_beq_eq_true hb) h
      simp only [this, cond_false, Array.getD_eq_getD_getElem?]
      rw [Array.getElem?_setIfInBounds_ne (Ne.symm h)]
      have := hE t
      rwa [Array.getD_eq_getD_getElem?] at this
theorem put_size {d : Option Nat} {u : Value} : (a.put d u).tmps.size = a.tmps.size := by cases d <;> simp [Act.put]
theorem put_defers {d : Option Nat} {u : Value} : (a.put d u).defers = a.defers := by cases d <;> rfl
def runOf (P : Program) (nd : Nd) (e : Env) (bx : Bx) (m : Mem) (lb : Bx) (lm : Mem) (K : Env → Bx → Mem → Prop) : Prop := match nd.i.free with
    | true => fv nd.i e lb lm fun x => K (put e nd.dst x) bx m
    | false => sv P nd.i e bx m fun x bx' m' => K (put e nd.dst x) bx' m'
theorem guard_inv (hn : NdOf P N ext ops o nd) (hE : ER β e a) (h : nv P nd e bx m lb lm K) :
    ∃ e', ER β e' a ∧ ((Region.wanted o (yielded ops a.tmps) = true ∧ runOf P nd e' bx m lb lm K) ∨ (Region.wanted o (yielded ops a.tmps) = false ∧ K (put e' nd.dst (.v undef)) bx m)) := by
  unfold nv at h
  cases hg : o.guard with
  | none =>
    rw [hn.g0 hg] at h
    exact ⟨e, hE, .inl ⟨by simp [Region.wanted, hg], h⟩⟩
  | some gw =>
    obtain ⟨j, want⟩ := gw
    obtain ⟨g, hj, hng⟩ := hn.g1 j want hg
    rw [hng] at h
    have get : ∀ y : Value, (∀ u, AvR β (e g) u → u = y) → a.tmps.getD g undef = y := fun y hy => hy _ (hE g)
    have yes : ∀ t, a.tmps.getD g undef = .bool t → Region.wanted o (yielded ops a.tmps) = (t == want) := fun t h2 => by
      have hy : yielded ops a.tmps j = some t := by
        unfold yielded
        rw [hj]
        have h3 : a.tmps[g]? = some (.bool t) := by
          rw [Array.getD_eq_getD_getElem?] at h2
          cases hh : a.tmps[g]? with
          | none => rw [hh] at h2; cases h2
          | some v => rw [hh] at h2; simp at h2; rw [h2]
        simp [h3]
      simp only [Region.wanted, hg, hy]
      cases t <;> cases want <;> rfl
    simp only at h
    split at h
    · rename_i ht
      rw [yes true (get _ (by rw [ht]; exact fun u h => h))]
      cases want
      · exact ⟨e, hE, .inr ⟨rfl, h⟩⟩
      · exact ⟨e, hE, .inl ⟨rfl, h⟩⟩
    · rename_i ht
      rw [yes false (get _ (by rw [ht]; exact fun u h => h))]
      cases want
      · exact ⟨e, hE, .inl ⟨rfl, h⟩⟩
      · exact ⟨e, hE, .inr ⟨rfl, h⟩⟩
    · rename_i t ht
      have hg' := get (.bool t) (by rw [ht]; exact fun u h => h)
      rw [yes t hg']
      have hset : ER β (e.set g (.k t)) a := by
        intro s
        unfold Env.set
        by_cases hb : Nat.beq s g = true
        · obtain rfl := Nat.eq_of_beq_eq_true hb
          simp only [hb, cond_true]; exact hg'
        · simp only [Bool.not_eq_true] at hb
          simp only [hb, cond_false]; exact hE s
      refine ⟨e.set g (.k t), hset, ?_⟩
      rcases IteB_inv h with ⟨rfl, q⟩ | ⟨rfl, q⟩ <;> cases want
      · exact .inr ⟨rfl, q⟩
      · exact .inl ⟨rfl, q⟩
      · exact .inl ⟨rfl, q⟩
      · exact .inr ⟨rfl, q⟩
    · rename_i vs ht
      have hy : yielded ops a.tmps j = none := by
        unfold yielded
        rw [hj]
        have h2 := get (.tuple vs) (by rw [ht]; exact fun u h => h)
        rw [Array.getD_eq_getD_getElem?] at h2
        cases hh : a.tmps[g]? with
        | none => simp [hh]
        | some v => rw [hh] at h2; simp at h2; subst h2; simp [hh]
      exact ⟨e, hE, .inr ⟨by simp only [Region.wanted, hg, hy]; cases want <;> rfl, h⟩⟩
    · exact h.elim
/-- A free operation. -/
theorem nvf (hn : NdOf P N ext ops o nd) (hf : nd.i.free = true) (hE : ER β e a) (hN : N ≤ a.tmps.size) (h : nv P nd e bx m lb lm K) :
    ∃ e' u, ER β e' (a.put o.dst u) ∧ K e' bx m ∧ YieldsC P ops (fun w => nd.i.loads = true → Cls β lb lm w) o u a := by
  obtain ⟨e', hE', h⟩ := guard_inv hn hE h
  rcases h with ⟨hw, h⟩ | ⟨hw, h⟩
  · unfold runOf at h
    rw [hf] at h
    obtain ⟨x, u, h1, h2, h3⟩ := fv_sound hE' (compI_free hn.i hf) h
    exact ⟨_, u, by rw [hn.dst]; exact hE'.put hN hn.lt h1, h2, .inl ⟨hw, h3⟩⟩
  · exact ⟨_, undef, by rw [hn.dst]; exact hE'.put hN hn.lt rfl, h, .inr ⟨hw, rfl⟩⟩
/-- An operation that is not free. -/
theorem nvs (hP : POk P) (hn : NdOf P N ext ops o nd) (hf : nd.i.free = false) (hE : ER β e a) (hM : MR w0 m0 bx β m w) (hd : a.defers = []) (hN : N ≤ a.tmps.size) {idx : Nat} (hi : ops[idx]? = some o)
    (h : nv P nd e bx m lb lm K) : wpOp P ops Q idx (fun a' w' => ∃ e' bx' r m', ER (β ++ r) e' a' ∧ MR w0 m0 bx' (β ++ r) m' w' ∧ a'.defers = [] ∧ N ≤ a'.tmps.size ∧ K e' bx' m') a w := by
  obtain ⟨e', hE', h⟩ := guard_inv hn hE h
  unfold wpOp
  simp only [hi]
  rcases h with ⟨hw, h⟩ | ⟨hw, h⟩
  · simp only [hw, if_true]
    unfold runOf at h
    rw [hf] at h
    refine .inl (Oper.wp_mono (fun a' w' hnx => ?_) (sv_sound hP hE' hM (compI_not hn.i hf) h))
    obtain ⟨u, x, bx', r, m', rfl, h1, h2, h3⟩ := hnx
    refine ⟨_, bx', r, m', ?_, h2, by rw [put_defers]; exact hd, by rw [put_size]; exact hN, h3⟩
    rw [hn.dst]; exact hE'.mono.put hN hn.lt h1
  · simp only [hw, Bool.false_eq_true, if_false]
    exact ⟨_, bx, [], m, by rw [hn.dst]; simpa using hE'.put hN hn.lt (x := .v undef) (u := undef) rfl, by simpa using hM, by rw [put_defers]; exact hd, by rw [put_size]; exact hN, h⟩
/-- One operation, where it stands. -/
theorem nv_sound (hP : POk P) (hn : NdOf P N ext ops o nd) (hE : ER β e a) (hM : MR w0 m0 bx β m w) (hd : a.defers = []) (hN : N ≤ a.tmps.size) {idx : Nat} (hi : ops[idx]? = some o)
    (h : nv P nd e bx m bx m K) : wpOp P ops Q idx (RelK w0 m0 N K) a w := by
  cases hf : nd.i.free with
  | false => exact wpOp_mono (fun a' w' ⟨e', bx', r, m', h1, h2, h3, h4, h5⟩ => ⟨e', bx', _, m', h1, h2, h3, h4, h5⟩) (nvs hP hn hf hE hM hd hN hi h)
  | true =>
    obtain ⟨e', u, h1, h2, h3⟩ := nvf hn hf hE hN h
    have hr : RelK w0 m0 N K (a.put o.dst u) w := ⟨e', bx, β, m, h1, hM, by rw [put_defers]; exact hd, by rw [put_size]; exact hN, h2⟩
    unfold wpOp
    simp only [hi]
    rcases h3 with ⟨hw, h3⟩ | ⟨hw, rfl⟩
    · simp only [hw, if_true]
      refine .inl ?_
      unfold Oper.wp
      rw [h3 w (fun _ => hM.cls)]
      exact hr
    · simp only [hw, Bool.false_eq_true, if_false]
      exact hr
theorem osv_sound (hP : POk P) : ∀ (nds : List Nd) (l : List Oper) (k : Nat), (∀ j, l[j]? = ops[k + j]?) → l.length = nds.length → (∀ (j : Nat) (o : Oper) (nd : Nd), l[j]? = some o → nds[j]? = some nd → ∃ ext, NdOf P N ext ops o nd) →
    ∀ (e : Env) (bx : Bx) (β : List Nat) (m : Mem) (a : Act) (w : World) (K : Env → Bx → Mem → Prop), ER β e a → MR w0 m0 bx β m w → a.defers = [] → N ≤ a.tmps.size → osv P nds e bx m K →
    wpOps P ops (fun ex a w => ex = .normal ∧ RelK w0 m0 N K a w ∨ Q ex a w) (List.range' k l.length) a w
  | [], [], k, _, _, _, e, bx, β, m, a, w, K, hE, hM, hd, hN, h => .inl ⟨rfl, e, bx, β, m, hE, hM, hd, hN, h⟩
  | [], _ :: _, _, _, hl, _, _, _, _, _, _, _, _, _, _, _, _, _ => by simp at hl
  | _ :: _, [], _, _, hl, _, _, _, _, _, _, _, _, _, _, _, _, _ => by simp at hl
  | nd :: nds, o :: l, k, hops, hl, hnd, e, bx, β, m, a, w, K, hE, hM, hd, hN, h => by
    have hi : ops[k]? = some o := by simpa using (hops 0).symm
    obtain ⟨ext, hn⟩ := hnd 0 o nd rfl rfl
    rw [List.length_cons, List.range'_succ, wpOps_cons]
    refine wpOp_mono (fun a' w' ⟨e', bx', β', m', h1, h2, h3, h4, h5⟩ => ?_) (nv_sound hP hn hE hM hd hN hi h)
    exact osv_sound hP nds l (k + 1) (fun j => by have := hops (j + 1); simpa [Nat.add_assoc, Nat.add_comm 1 j] using this) (by simpa using hl)
      (fun j o nd ho hn => hnd (j + 1) o nd (by simpa using ho) (by simpa using hn)) e' bx' β' m' a' w' K h1 h2 h3 h4 h5
end
end Go.Vc
