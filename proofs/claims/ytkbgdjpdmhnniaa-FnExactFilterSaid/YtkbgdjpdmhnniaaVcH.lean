/- The walker's other operations: what the conditions say is what the machine does. Own work. No condition. -/
import Derived.Test.YtkbgdjpdmhnniaaVcG
namespace Go.Vc
open Go
set_option linter.unusedVariables false
set_option linter.unusedSimpArgs false
/-- The compiled operation that makes or writes memory, or calls. -/
def compS (P : Program) (ext : Bool) (o : Op) : Option I := match o with
  | .store t x v => match P.info? t with | some i => some (.st i.size x v) | none => none
  | .alloc T => match P.info? T with
    | some i => match i.zero with | some z => some (.al ext T z.cells.toList) | none => none
    | none => none
  | .box T x => some (.bx ext T x)
  | .buildSlice t len parts => match elemT? P t with
    | some el => match P.info? el with
      | some i => match i.zero with
        | some z => match Nat.ble (len * i.size) (2 ^ 24) && Nat.beq z.cells.size i.size with
          | true => some (.bs el i.size len (zs len z.cells.toList) parts.toList)
          | false => none
        | none => none
      | none => none
    | none => none
  | .makeSlice t l c => match elemT? P t, l, c with
    | some el, .tmp x, .tmp y => match P.info? el with
      | some i => match i.zero with
        | some z => match Nat.beq x y && Nat.beq z.cells.size i.size with
          | true => some (.mk el i.size i.bytes z.cells.toList l)
          | false => none
        | none => none
      | none => none
    | _, _, _ => none
  | .call c => match c.callee with
    | .builtin b => match b, c.argTypes.toList, c.args.toList with
      | .append, [t, t'], [s, x] => match elemT? P t, elemT? P t' with
        | some el, some _ => match P.info? el with
          | some i => match i.zero with
            | some z => match Nat.beq z.cells.size i.size with
              | true => some (.ap el i.size i.bytes z.cells.toList s x)
              | false => none
            | none => none
          | none => none
        | _, _ => none
      | .clear, [t], [x] => match elemT? P t with
        | some el => match P.info? el with
          | some i => match i.zero with
            | some z => match Nat.beq z.cells.size i.size with
              | true => some (.clr i.size z.cells.toList x)
              | false => none
            | none => none
          | none => none
        | none => none
      | _, _, _ => none
    | .value (.func f) => match P.funcs[f]? with
      | some fn => match fn.body with | some _ => some (.call f c.args.toList) | none => none
      | none => none
    | .value f => some (.cv f c.args.toList)
    | _ => none
  | _ => none

structure POk (P : Program) : Prop where
  names : ∀ (f : FuncId) (fn : Func), P.funcs[f]? = some fn → (fn.name == "runtime.NumGoroutine") = false
  mixed : P.follows .mixedOrders = true

/-- The world, the boxes and the memory that is told of. -/
structure MR (w0 : World) (m0 : Mem) (bx : Bx) (β : List Nat) (m : Mem) (w : World) : Prop where
  st : St w0 w m0 m
  len : β.length = bx.length
  box : ∀ (k b : Nat) (c : List Value), β[k]? = some b → bx[k]? = some c → w0.heap.size ≤ b ∧ m b = none ∧ ∃ T : TypeId, w.heap[b]? = some (Obj.cells ⟨c⟩ T (0, 0))
  inj : ∀ (i j b : Nat), β[i]? = some b → β[j]? = some b → i = j

theorem AvR.mono {β r : List Nat} {x : AV} {u : Value} (h : AvR β x u) : AvR (β ++ r) x u := by
  cases x with
  | v y => exact h
  | k t => exact h
  | b k o => obtain ⟨g, hg, hu⟩ := h; exact ⟨g, by rw [List.getElem?_append_left (List.getElem?_eq_some_iff.1 hg).1]; exact hg, hu⟩
  | u => trivial
theorem ER.mono {β r : List Nat} {e : Env} {a : Act} (h : ER β e a) : ER (β ++ r) e a := fun t => (h t).mono

section
variable {w0 : World} {m0 : Mem} {bx : Bx} {β : List Nat} {m : Mem} {w : World}
theorem MR.lt (h : MR w0 m0 bx β m w) {k b : Nat} (hb : β[k]? = some b) : b < w.heap.size := by
  have hk : k < bx.length := by rw [← h.len]; exact (List.getElem?_eq_some_iff.1 hb).1
  obtain ⟨_, _, T, hT⟩ := h.box k b bx[k] hb (List.getElem?_eq_getElem hk)
  exact (Array.getElem?_eq_some_iff.1 hT).1
theorem MR.no (h : MR w0 m0 bx β m w) {k b : Nat} (hb : β[k]? = some b) : m b = none := by
  have hk : k < bx.length := by rw [← h.len]; exact (List.getElem?_eq_some_iff.1 hb).1
  exact (h.box k b bx[k] hb (List.getElem?_eq_getElem hk)).2.1
/-- A call came back. -/
theorem MR.call (h : MR w0 m0 bx β m w) {w' : World} {m' : Mem} (s : St w w' m m') : MR w0 m0 bx β m' w' := by
  refine ⟨h.st.trans s, h.len, fun k b c hb hc => ?_, h.inj⟩
  obtain ⟨h1, h2, T, h3⟩ := h.box k b c hb hc
  have hlt := h.lt hb
  refine ⟨h1, ?_, T, (s.frame b hlt h2).trans h3⟩
  cases e : m' b with
  | none => rfl
  | some o =>
    rcases s.dom b o e with h' | h'
    · exact absurd h2 h'
    · omega
/-- New memory of the tale's own. -/
theorem MR.new (h : MR w0 m0 bx β m w) (o : Obj) : m w.heap.size = none ∧ MR w0 m0 bx β (mu m w.heap.size o) (w.alloc o) := by
  have hn : m w.heap.size = none := by
    cases e : m w.heap.size with
    | none => rfl
    | some o' => exact absurd (h.st.le.lt e) (Nat.lt_irrefl _)
  refine ⟨hn, h.call ⟨rfl, rfl, rfl, by simp, fun b o' hb => ?_, fun b hb _ => ?_, fun b o' hb => ?_⟩⟩
  · unfold mu at hb
    split at hb
    · rename_i e; cases hb; subst e; exact heap_alloc_new w o
    · rw [heap_alloc_old w o b (h.st.le.lt hb)]; exact h.st.le b o' hb
  · exact heap_alloc_old w o b hb
  · unfold mu at hb
    split at hb
    · right; omega
    · left; simp [hb]
/-- A new box. -/
theorem MR.box' (h : MR w0 m0 bx β m w) (c : List Value) (T : TypeId) : MR w0 m0 (bx ++ [c]) (β ++ [w.heap.size]) m (w.alloc (.cells ⟨c⟩ T (0, 0))) := by
  have hn : m w.heap.size = none := (h.new (.cells ⟨c⟩ T (0, 0))).1
  have hle := h.st.size
  refine ⟨h.st.trans ⟨rfl, rfl, rfl, by simp, fun b o' hb => ?_, fun b hb _ => heap_alloc_old w _ b hb, fun b o' hb => .inl (by simp [hb])⟩, by simp [h.len], fun k b c' hb hc => ?_, fun i j b hi hj => ?_⟩
  · rw [heap_alloc_old w _ b (h.st.le.lt hb)]; exact h.st.le b o' hb
  · by_cases hk : k < β.length
    · rw [List.getElem?_append_left hk] at hb
      rw [List.getElem?_append_left (by rw [← h.len]; exact hk)] at hc
      obtain ⟨h1, h2, T', h3⟩ := h.box k b c' hb hc
      exact ⟨h1, h2, T', (heap_alloc_old w _ b (h.lt hb)).trans h3⟩
    · rw [List.getElem?_append_right (by omega)] at hb
      rw [List.getElem?_append_right (by rw [← h.len]; omega), ← h.len] at hc
      have hk0 : k - β.length = 0 := by
        have := (List.getElem?_eq_some_iff.1 hb).1
        simp at this; omega
      rw [hk0] at hb hc
      simp at hb hc
      subst hb hc
      exact ⟨hle, hn, T, heap_alloc_new w _⟩
  · have old : ∀ (q b : Nat), (β ++ [w.heap.size])[q]? = some b → q < β.length → β[q]? = some b := fun q b hq hl => by rwa [List.getElem?_append_left hl] at hq
    have nw : ∀ (q b : Nat), (β ++ [w.heap.size])[q]? = some b → ¬ q < β.length → q = β.length ∧ b = w.heap.size := fun q b hq hl => by
      have h1 := (List.getElem?_eq_some_iff.1 hq).1
      simp at h1
      have : q = β.length := by omega
      subst this
      simp at hq
      exact ⟨rfl, hq.symm⟩
    by_cases hi' : i < β.length <;> by_cases hj' : j < β.length
    · exact h.inj i j b (old i b hi hi') (old j b hj hj')
    · obtain ⟨_, rfl⟩ := nw j b hj hj'
      exact absurd (h.lt (old i _ hi hi')) (Nat.lt_irrefl _)
    · obtain ⟨_, rfl⟩ := nw i b hi hi'
      exact absurd (h.lt (old j _ hj hj')) (Nat.lt_irrefl _)
    · rw [(nw i b hi hi').1, (nw j b hj hj').1]
/-- A store into the tale's memory. -/
theorem MR.upd (h : MR w0 m0 bx β m w) {g : Nat} {c c' : List Value} {T : TypeId} (hm : m g = some (.cells ⟨c⟩ T (0, 0))) : MR w0 m0 bx β (mu m g (.cells ⟨c'⟩ T (0, 0))) (w.setRow g ⟨c'⟩) := by
  have hg := h.st.le g _ hm
  refine h.call ⟨rfl, rfl, rfl, by simp, fun b o' hb => ?_, fun b hb hn => ?_, fun b o' hb => ?_⟩
  · unfold mu at hb
    split at hb
    · rename_i e; cases hb; subst e; exact setRow_heap w _ _ _ T _ hg
    · rename_i e; rw [setRow_other w g b _ e]; exact h.st.le b o' hb
  · exact setRow_other w g b _ (fun e => by subst e; simp [hm] at hn)
  · unfold mu at hb
    split at hb
    · rename_i e; subst e; exact .inl (by simp [hm])
    · exact .inl (by simp [hb])
/-- A store into a box. -/
theorem MR.put (h : MR w0 m0 bx β m w) {k g : Nat} {c c' : List Value} (hg : β[k]? = some g) (hc : bx[k]? = some c) : MR w0 m0 (bx.set k c') β m (w.setRow g ⟨c'⟩) := by
  obtain ⟨h1, h2, T, h3⟩ := h.box k g c hg hc
  refine ⟨⟨h.st.os, h.st.tape, h.st.output, by simpa using h.st.size, fun b o' hb => ?_, fun b hb hn => ?_, h.st.dom⟩, by simp [h.len], fun q b c1 hb hc1 => ?_, h.inj⟩
  · rw [setRow_other w g b _ (fun e => by subst e; simp [h2] at hb)]; exact h.st.le b o' hb
  · rw [setRow_other w g b _ (by omega)]; exact h.st.frame b hb hn
  · by_cases hq : q = k
    · subst hq
      have : g = b := Option.some.inj (hg.symm.trans hb)
      subst this
      have hk : q < bx.length := by rw [← h.len]; exact (List.getElem?_eq_some_iff.1 hg).1
      rw [List.getElem?_set_self hk] at hc1
      cases hc1
      exact ⟨h1, h2, T, setRow_heap w _ _ _ T _ h3⟩
    · rw [List.getElem?_set_ne (Ne.symm hq)] at hc1
      obtain ⟨e1, e2, T', e3⟩ := h.box q b c1 hb hc1
      refine ⟨e1, e2, T', ?_⟩
      rw [setRow_other w g b _ (fun e => by subst e; exact hq (h.inj q k _ hb hg))]; exact e3

theorem MR.cls (h : MR w0 m0 bx β m w) : Cls β bx m w := ⟨fun k b c hb hc => (h.box k b c hb hc).2.2, .inl h.len, h.st.le⟩

theorem wr_length (c : List Value) (o : Nat) (ys : List Value) (h : o + ys.length ≤ c.length) : (wr c o ys).length = c.length := by
  rw [wr_eq c o ys h]; simp; omega
theorem onesB_all : ∀ {ys : List Value}, onesB ys = true → ∀ v ∈ ys, v.oneCell' = true
  | [], _, v, hv => by cases hv
  | x :: r, h, v, hv => by
    unfold onesB at h
    split at h
    · cases h
    · cases h
    · rename_i h1 h2
      rcases List.mem_cons.1 hv with rfl | hv
      · cases v <;> first | rfl | (exact absurd rfl (h1 _)) | (exact absurd rfl (h2 _))
      · exact onesB_all h v hv
variable {P : Program}
theorem run_st {g o : Nat} {c ys : List Value} {T : TypeId} (hg : w.heap[g]? = some (.cells ⟨c⟩ T (0, 0))) (hl : o + ys.length ≤ c.length) (h1 : onesB ys = true) :
    (storeCells ⟨g, o, none⟩ ys).run P w = .ok () (w.setRow g ⟨wr c o ys⟩) := by
  have := run_storeCells_at P g o T ys 0 ⟨c⟩ w hg (by simpa using hl) (onesB_all h1)
  rw [this, wr_eq c o ys hl]
  rfl
/-- What the next state is. -/
def Nxt (w0 : World) (m0 : Mem) (β : List Nat) (a : Act) (o : Oper) (K : AV → Bx → Mem → Prop) (a' : Act) (w' : World) : Prop :=
  ∃ u x bx' r m', a' = a.put o.dst u ∧ AvR (β ++ r) x u ∧ MR w0 m0 bx' (β ++ r) m' w' ∧ K x bx' m'
theorem nxt_val {e : Env} {a : Act} {o : Oper} {K : AV → Bx → Mem → Prop} {Q : Exit → Act → World → Prop} {u : Value} {w' : World} (x : AV) (bx' : Bx) (r : List Nat) (m' : Mem) (hr : (execOp a.eval o).run P w = .ok (.value u) w')
    (h1 : AvR (β ++ r) x u) (h2 : MR w0 m0 bx' (β ++ r) m' w') (h3 : K x bx' m') : o.wp P a w (Nxt w0 m0 β a o K) Q := by
  unfold Oper.wp; rw [hr]; exact ⟨u, x, bx', r, m', rfl, h1, h2, h3⟩
theorem nxt_skip {e : Env} {a : Act} {o : Oper} {K : AV → Bx → Mem → Prop} {Q : Exit → Act → World → Prop} {w' : World} (bx' : Bx) (r : List Nat) (m' : Mem) (hr : (execOp a.eval o).run P w = .ok .skip w')
    (h2 : MR w0 m0 bx' (β ++ r) m' w') (h3 : K .u bx' m') : o.wp P a w (Nxt w0 m0 β a o K) Q := by
  unfold Oper.wp; rw [hr]; exact ⟨undef, .u, bx', r, m', rfl, trivial, h2, h3⟩
theorem bset_inv : ∀ {bx : Bx} {k o : Nat} {ys : List Value} {K : Bx → Prop}, bset bx k o ys K → ∃ c, bx[k]? = some c ∧ onesB ys = true ∧ o + ys.length ≤ c.length ∧ K (bx.set k (wr c o ys))
  | [], _, _, _, _, h => h.elim
  | c :: r, 0, o, ys, K, h => by
    unfold bset at h
    split at h
    · rename_i hb
      simp only [Bool.and_eq_true] at hb
      exact ⟨c, rfl, hb.1, Nat.le_of_ble_eq_true hb.2, force_inv h⟩
    · exact h.elim
  | c :: r, k + 1, o, ys, K, h => by
    obtain ⟨c', h1, h2, h3, h4⟩ := bset_inv (bx := r) (k := k) h
    exact ⟨c', by simpa using h1, h2, h3, by simpa using h4⟩
theorem st_sound {e : Env} {a : Act} (hE : ER β e a) (hM : MR w0 m0 bx β m w) {o : Oper} {t : TypeId} {x v : Operand} {i : TypeInfo} {K : AV → Bx → Mem → Prop} {Q : Exit → Act → World → Prop} (ho : o.op = .store t x v) (hi : P.info? t = some i)
    (h : sv P (.st i.size x v) e bx m K) : o.wp P a w (Nxt w0 m0 β a o K) Q := by
  obtain ⟨y, hy, h⟩ := asV_inv h
  obtain ⟨hl, h⟩ := vcs_inv h
  have ey := ev_a hE hy
  have run : ∀ (ad : Addr) (w' : World), a.eval x = .pointer (some ad) → (storeCells ad y.cells.toList).run P w = .ok () w' → (execOp a.eval o).run P w = .ok .skip w' := by
    intro ad w' hx hst
    have hl' : y.cells.size = i.size := by simpa using hl
    simp [execOp, ho, hx, ey, Instr.storeAt, Instr.sureAddr, storeVar, run_so hi, hl', hst]
  split at h
  · rename_i k of hx
    have := ev_sound hE x
    rw [hx] at this
    obtain ⟨g, hg, hu⟩ := this
    obtain ⟨c, h1, h2, h3, h4⟩ := bset_inv h
    obtain ⟨_, _, T, hT⟩ := hM.box k g c hg h1
    exact nxt_skip (e := e) _ [] m (run _ _ hu (run_st hT h3 h2)) (by simpa using hM.put hg h1) h4
  · rename_i ad hx
    obtain ⟨h1, c, T, hm, hs, h3, h4⟩ := h.out
    obtain ⟨b, off, sp⟩ := ad
    simp only at hs hm h3 h4
    subst hs
    exact nxt_skip (e := e) bx [] _ (run _ _ (ev_v hE hx) (run_st (hM.st.le _ _ hm) h3 h1)) (by simpa using hM.upd hm) h4
  · exact h.elim
end
end Go.Vc
