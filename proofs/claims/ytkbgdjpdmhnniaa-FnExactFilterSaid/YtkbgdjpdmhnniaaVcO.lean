/- Memory that reads as Go data, opened: what a row hands over becomes what the walks ask. Own work. No condition. -/
import Derived.ChangeShapes
import Derived.ChangeSlices
import Derived.ChangeSame
import Derived.SizedLaws
import Derived.Below
import Derived.Deep.Slices
import Derived.Deep.Strs
import Derived.Lib.SmallJoins
import Derived.Test.YtkbgdjpdmhnniaaVcU
namespace Go.Vc
open Go Go.ChangeShapes Go.WideShapes Go.RowKit Go.Deep
set_option linter.unusedVariables false
/-- The whole memory of a world. -/
def hm (W : World) : Mem := fun b => W.heap[b]?
theorem hm_holds (W : World) : Holds (hm W) W := fun _ _ h => h
theorem hm_cell {W : World} {a : Addr} {v : Value} (h : W.cell? a = some v) : mc (hm W) a = some v := by
  unfold World.cell? at h
  unfold mc hm objCell
  split at h
  · rename_i c e f hb
    rw [hb]; exact h
  · cases h
theorem Below.of_st {W w' : World} {m' : Mem} (h : St W w' (hm W) m') (e : Ext (hm W) m') : Below W.heap.size W w' :=
  ⟨h.os, h.tape, h.output, h.size, fun b hb => by
    cases q : (hm W) b with
    | none => exact h.frame b hb q
    | some o => rw [h.le b o (e b o q)]; exact q.symm⟩
/-- A call that answers true and keeps what was there. -/
theorem calls_true {P : Program} {f : FuncId} {args : Array Value} {W : World} (h : Tr P f args (hm W) fun v m' => v = .bool true ∧ Ext (hm W) m') : Calls P f args W fun e w' => e = .returned (.bool true) ∧ Below W.heap.size W w' :=
  (h.out W (hm_holds W)).mono fun e w' ⟨v, m', he, hs, hv, hx⟩ => ⟨by rw [he, hv], Below.of_st hs hx⟩
/-- Whatever reads as data of type t fits, where no slice in it is longer than memory takes. -/
def Op {H α : Type} (enc : TypeId × Value → H) (P : Program) (W : World) (t : TypeId) (K : α → List Value → Prop) : Prop :=
  ∀ (base : Nat) (spare : Nat → Bool) (held : Bool) (fuel : Nat) (cs : List Value) (x : DataW H × List MemPlace), DataW.trod enc P W base spare held fuel t cs = some x → (∀ n ∈ x.1.weights P t, n ≤ reachBytes) → ∃ a, K a cs
/-- Elements from A on. -/
def Sls {α : Type} (m : Mem) (sz : Nat) (K : α → List Value → Prop) (A : Option Addr) (l : List α) : Prop :=
  ∀ i (h : i < l.length), ∃ a cs, A = some a ∧ cs.length = sz ∧ K l[i] cs ∧ ∀ j v, cs[j]? = some v → mc m (a.add (i * sz + j)) = some v
def KI (k : IntKind) (n : Int) (cs : List Value) : Prop := cs = [.int k n] ∧ (Lit.int k n).wf = true
def KS {α : Type} (m : Mem) (sz B : Nat) (K : α → List Value → Prop) (l : List α) (cs : List Value) : Prop := ∃ A c, cs = [.slice A l.length c] ∧ l.length ≤ c ∧ l.length * B ≤ reachBytes ∧ Sls m sz K A l
def K2 {α β : Type} (na : Nat) (Ka : α → List Value → Prop) (Kb : β → List Value → Prop) (p : α × β) (cs : List Value) : Prop := Ka p.1 (cs.take na) ∧ Kb p.2 (cs.drop na)
section
variable {H α β γ δ : Type} {enc : TypeId × Value → H} {P : Program} {W : World}
theorem op_int {t : TypeId} {k : IntKind} (ht : P.underlying t = some (.int k)) : Op enc P W t (KI k) := by
  intro base spare held fuel cs x h _
  obtain ⟨n, rfl, rfl, hw⟩ := DataW.trod_int ht h
  exact ⟨n, rfl, hw⟩
theorem weightsAll_mem {e : TypeId} {d : DataW H} {n : Nat} : ∀ {l : List (DataW H)}, d ∈ l → n ∈ d.weights P e → n ∈ DataW.weightsAll P e l
  | x :: l, hd, hn => by
    simp only [DataW.weightsAll, List.mem_append]
    rcases List.mem_cons.1 hd with rfl | hd
    · exact .inl hn
    · exact .inr (weightsAll_mem hd hn)
theorem op_slice {t e : TypeId} {K : α → List Value → Prop} {sz B : Nat} (ht : P.underlying t = some (.slice e)) (hc : P.cellsOf e = sz) (hB : P.bytesOf e = B) (he : Op enc P W e K) : Op enc P W t (KS (hm W) sz B K) := by
  intro base spare held fuel cs x h hw
  rcases open_slice ht h with ⟨rfl, rfl⟩ | ⟨a, len, cap, m, n, D, Pl, rfl, hb, hl, hmx, hmm, rfl, hx⟩
  · exact ⟨[], none, 0, rfl, Nat.le_refl _, by simp, fun i hi => by simp at hi⟩
  · have hle : len ≤ m := by rw [hmm]; split <;> omega
    simp only [DataW.weights, ht, List.mem_cons, List.mem_append] at hw
    have hch : ∀ i, i < len → ∃ v : α, ∃ c : List Value, c.length = sz ∧ K v c ∧ ∀ j u, c[j]? = some u → mc (hm W) (a.add (i * sz + j)) = some u := by
      intro i hi
      obtain ⟨c, h1, h2⟩ := hx i (by omega)
      obtain ⟨v, hv⟩ := he _ _ _ _ _ _ h2 (fun n hn => hw n (.inr (.inl (weightsAll_mem (List.mem_map.2 ⟨i, List.mem_range.2 hi, rfl⟩) hn))))
      obtain ⟨_, hlen, hcell⟩ := World.cells?_some h1
      refine ⟨v, c, by rw [hlen, hc], hv, fun j u hj => ?_⟩
      have hjl : j < c.length := (List.getElem?_eq_some_iff.1 hj).1
      have := hcell j (by rw [← hlen]; exact hjl)
      rw [hj, hc] at this
      rw [Go.Deep.add_add] at this
      exact hm_cell this
    refine ⟨List.ofFn (fun i : Fin len => Classical.choose (hch i.1 i.2)), some a, cap, by simp, by simpa using hl, ?_, fun i hi => ?_⟩
    · have := hw _ (.inl rfl)
      rw [hB] at this
      simp only [List.length_map, List.length_range, List.length_ofFn] at this ⊢
      exact Nat.le_trans (Nat.mul_le_mul_right _ (Nat.le_add_right _ _)) this
    · have hi' : i < len := by simpa using hi
      obtain ⟨c, h1, h2, h3⟩ := Classical.choose_spec (hch i hi')
      exact ⟨a, c, rfl, h1, by simpa using h2, h3⟩
theorem op_struct2 {t : TypeId} {f0 f1 : Field} {Ka : α → List Value → Prop} {Kb : β → List Value → Prop} {na nb : Nat} (ht : P.underlying t = some (.struct #[f0, f1]))
    (hc : P.cellsOf t = na + nb) (h0 : f0.offset = 0 ∧ P.cellsOf f0.type = na) (h1 : f1.offset = na ∧ P.cellsOf f1.type = nb) (oa : Op enc P W f0.type Ka) (ob : Op enc P W f1.type Kb) :
    Op enc P W t (K2 na Ka Kb) := by
  intro base spare held fuel cs x h hw
  obtain ⟨y0, y1, n, rfl, hl, e0, e1⟩ := trod_struct2 ht h
  simp only [DataW.weights, ht, List.map_cons, List.map_nil, DataW.weightsEach, List.mem_append, List.append_nil] at hw
  rw [h0.1, h0.2] at e0
  rw [h1.1, h1.2] at e1
  obtain ⟨a, ka⟩ := oa _ _ _ _ _ _ e0 (fun n hn => hw n (.inl hn))
  obtain ⟨b, kb⟩ := ob _ _ _ _ _ _ e1 (fun n hn => hw n (.inr hn))
  refine ⟨(a, b), by simpa using ka, ?_⟩
  have : (cs.drop na).take nb = cs.drop na := List.take_of_length_le (by rw [List.length_drop]; omega)
  rwa [this] at kb
/-- A struct of four fields, the tail of which lies in one pair. -/
theorem op_struct4 {t : TypeId} {f0 f1 f2 f3 : Field} {Ka : α → List Value → Prop} {Kb : β → List Value → Prop} {Kc : γ → List Value → Prop} {Kd : δ → List Value → Prop} {na nb nc nd : Nat} (ht : P.underlying t = some (.struct #[f0, f1, f2, f3]))
    (hc : P.cellsOf t = na + nb + nc + nd) (h0 : f0.offset = 0 ∧ P.cellsOf f0.type = na) (h1 : f1.offset = na ∧ P.cellsOf f1.type = nb) (h2 : f2.offset = na + nb ∧ P.cellsOf f2.type = nc) (h3 : f3.offset = na + nb + nc ∧ P.cellsOf f3.type = nd)
    (oa : Op enc P W f0.type Ka) (ob : Op enc P W f1.type Kb) (oc : Op enc P W f2.type Kc) (od : Op enc P W f3.type Kd) :
    Op enc P W t (fun (p : α × β × γ × δ) cs => Ka p.1 (cs.take na) ∧ Kb p.2.1 ((cs.drop na).take nb) ∧ Kc p.2.2.1 ((cs.drop (na + nb)).take nc) ∧ Kd p.2.2.2 ((cs.drop (na + nb + nc)).take nd)) := by
  intro base spare held fuel cs x h hw
  obtain ⟨xs, n, _, rfl, hl, hlen, hf⟩ := DataW.trod_struct ht h
  match xs, hlen with
  | [y0, y1, y2, y3], _ =>
    have e0 := hf 0 f0 rfl
    have e1 := hf 1 f1 rfl
    have e2 := hf 2 f2 rfl
    have e3 := hf 3 f3 rfl
    simp only [List.getElem?_cons_zero, List.getElem?_cons_succ] at e0 e1 e2 e3
    simp only [DataW.weights, ht, List.map_cons, List.map_nil, DataW.weightsEach, List.mem_append, List.append_nil] at hw
    rw [h0.1, h0.2] at e0
    rw [h1.1, h1.2] at e1
    rw [h2.1, h2.2] at e2
    rw [h3.1, h3.2] at e3
    obtain ⟨a, ka⟩ := oa _ _ _ _ _ _ e0 (fun n hn => hw n (.inl hn))
    obtain ⟨b, kb⟩ := ob _ _ _ _ _ _ e1 (fun n hn => hw n (.inr (.inl hn)))
    obtain ⟨c, kc⟩ := oc _ _ _ _ _ _ e2 (fun n hn => hw n (.inr (.inr (.inl hn))))
    obtain ⟨d, kd⟩ := od _ _ _ _ _ _ e3 (fun n hn => hw n (.inr (.inr (.inr hn))))
    exact ⟨(a, b, c, d), by simpa using ka, kb, kc, kd⟩
/-- An argument, with what the row says of its weight. -/
theorem op_arg {t : TypeId} {K : α → List Value → Prop} {v : Value} {dd : DataW H} {ps : List MemPlace} {base : Nat} {spare : Nat → Bool} {held : Bool} {ts : List TypeId} {ds : List (DataW H)} {j : Nat} (ho : Op enc P W t K)
    (hsz : (DataW.weightsEach P ts ds).all (· ≤ reachBytes) = true) (hj : ts[j]? = some t) (hd : ds[j]? = some dd) (h : DataW.Trod enc P W base spare held t v dd ps) : ∃ a, K a v.cells.toList := by
  obtain ⟨fuel, hf⟩ := h
  exact ho _ _ _ _ _ _ hf (fun n hn => by simpa using List.all_eq_true.1 hsz _ (DataW.weights_mem_each hj hd n hn))
theorem KS.get {m : Mem} {sz B : Nat} {K : α → List Value → Prop} {l : List α} {a : Option Addr} {n c : Nat} (h : KS m sz B K l (Value.slice a n c).cells.toList) : n = l.length ∧ l.length ≤ c ∧ l.length * B ≤ reachBytes ∧ Sls m sz K a l := by
  obtain ⟨A, c', h1, h2, h3, h4⟩ := h
  have hcs : (Value.slice a n c).cells.toList = [Value.slice a n c] := by simp [Value.cells]
  rw [hcs] at h1
  simp only [List.cons.injEq, Value.slice.injEq, and_true] at h1
  obtain ⟨rfl, rfl, rfl⟩ := h1
  exact ⟨rfl, h2, h3, h4⟩
end
theorem Sls.row {m : Mem} {A : Option Addr} {l : List Int} (h : Sls m 1 (KI .i64) A l) : IsRow m A l := fun j v hj => by
  have hjl : j < l.length := by have := (List.getElem?_eq_some_iff.1 hj).1; simpa using this
  obtain ⟨a, cs, ha, _, ⟨rfl, _⟩, hc⟩ := h j hjl
  refine ⟨a, ha, ?_⟩
  have := hc 0 _ rfl
  rw [Nat.mul_one, Nat.add_zero] at this
  rw [this]
  rw [List.getElem?_map, List.getElem?_eq_getElem hjl] at hj
  simpa using hj
end Go.Vc
