/- Memory that reads as Go data, opened: what a row hands over becomes what the printed functions ask. No condition. -/
import Derived.ChangeShapes
import Derived.ChangeSlices
import Derived.ChangeSame
import Derived.SizedLaws
import Derived.Deep.Slices
import Derived.Deep.Strs
import Derived.Lib.SmallJoins
import Derived.Test.YthmolcmgfhjegaaWWords
namespace Go.Proofs.Ythmolcmgfhjegaa.Opening
open Go.ChangeShapes Go.WideShapes Go.RowKit Go.Deep Go.Proofs.YthmolcmgfhjegaaW.PrintWords
set_option linter.unusedVariables false
/-- Whatever reads as data of type t in the world W has the kind d, and what is good of it. -/
def Opens {H α : Type} (enc : TypeId × Value → H) (P : Program) (W : World) (t : TypeId) (d : Kd α) (good : α → Prop) : Prop :=
  ∀ (base : Nat) (spare : Nat → Bool) (held : Bool) (fuel : Nat) (cs : List Value) (x : DataW H × List MemPlace), DataW.trod enc P W base spare held fuel t cs = some x → ∃ a, d.K W a cs ∧ good a
section
variable {H α β γ δ : Type} {enc : TypeId × Value → H} {P : Program} {W : World}
theorem opens_int {t : TypeId} {k : IntKind} (ht : P.underlying t = some (.int k)) : Opens enc P W t (Kd.int k) (fun x => (Lit.int k x).wf = true) := by
  intro base spare held fuel cs x h
  obtain ⟨n, rfl, rfl, hw⟩ := DataW.trod_int ht h
  exact ⟨n, rfl, hw⟩
theorem opens_slice {t e : TypeId} {d : Kd α} {good : α → Prop} (ht : P.underlying t = some (.slice e)) (hc : P.cellsOf e = d.sz) (he : Opens enc P W e d good) :
    Opens enc P W t (Kd.slice e d) (fun l => l.length ≤ maxLen ∧ ∀ x ∈ l, good x) := by
  intro base spare held fuel cs x h
  rcases open_slice ht h with ⟨rfl, rfl⟩ | ⟨a, len, cap, m, n, D, Pl, rfl, hb, hl, hm, hmm, rfl, hx⟩
  · exact ⟨[], ⟨none, 0, rfl, Nat.le_refl _, Kd.C_nil d W⟩, by simp [maxLen], fun x hx => by cases hx⟩
  · have hle : len ≤ m := by rw [hmm]; split <;> omega
    have hch : ∀ i, i < len → ∃ v : α, (∃ c, c.length = d.sz ∧ d.K W v c ∧ ∀ j u, c[j]? = some u → W.cell? (a.add (i * d.sz + j)) = some u) ∧ good v := by
      intro i hi
      obtain ⟨c, h1, h2⟩ := hx i (by omega)
      obtain ⟨v, hv, hg⟩ := he _ _ _ _ _ _ h2
      obtain ⟨_, hlen, hcell⟩ := World.cells?_some h1
      refine ⟨v, ⟨c, by rw [hlen, hc], hv, fun j u hj => ?_⟩, hg⟩
      have hjl : j < c.length := (List.getElem?_eq_some_iff.1 hj).1
      have := hcell j (by rw [← hlen]; exact hjl)
      rw [hj, hc] at this
      rw [← this, Go.Deep.add_add]
    have ex : ∃ l : List α, l.length = len ∧ ∀ i v, l[i]? = some v → (∃ c, c.length = d.sz ∧ d.K W v c ∧ ∀ j u, c[j]? = some u → W.cell? (a.add (i * d.sz + j)) = some u) ∧ good v := by
      refine ⟨List.ofFn (fun i : Fin len => Classical.choose (hch i.1 i.2)), by simp, fun i v hv => ?_⟩
      have hi : i < len := by have := (List.getElem?_eq_some_iff.1 hv).1; simpa using this
      rw [List.getElem?_eq_getElem (by simpa using hi)] at hv
      simp only [List.getElem_ofFn, Option.some.injEq] at hv
      subst hv
      exact Classical.choose_spec (hch i hi)
    obtain ⟨l, hl1, hl2⟩ := ex
    refine ⟨l, ⟨some a, cap, by rw [hl1], by omega, hl1.symm ▸ ⟨hl1, ?_, fun _ => ⟨a, rfl, fun j p hp => (hl2 j p hp).1⟩⟩⟩, ?_, fun x hx => ?_⟩
    · unfold maxLen at hm; omega
    · omega
    · obtain ⟨i, hi, rfl⟩ := List.getElem_of_mem hx
      exact (hl2 i _ (List.getElem?_eq_getElem hi)).2
/-- A struct of two fields. -/
theorem opens_struct2 {t : TypeId} {f0 f1 : Field} {da : Kd α} {db : Kd β} {ga : α → Prop} {gb : β → Prop} (ht : P.underlying t = some (.struct #[f0, f1])) (f : γ → α × β) (mk : α → β → γ) (hf : ∀ a b, f (mk a b) = (a, b))
    (hc : P.cellsOf t = da.sz + db.sz) (h0 : f0.offset = 0 ∧ P.cellsOf f0.type = da.sz) (h1 : f1.offset = da.sz ∧ P.cellsOf f1.type = db.sz) (oa : Opens enc P W f0.type da ga) (ob : Opens enc P W f1.type db gb) :
    Opens enc P W t (Kd.iso (Kd.pair da db) f) (fun x => ga (f x).1 ∧ gb (f x).2) := by
  intro base spare held fuel cs x h
  obtain ⟨y0, y1, n, _, hl, e0, e1⟩ := trod_struct2 ht h
  rw [h0.1, h0.2] at e0
  rw [h1.1, h1.2] at e1
  obtain ⟨a, ka, ga'⟩ := oa _ _ _ _ _ _ e0
  obtain ⟨b, kb, gb'⟩ := ob _ _ _ _ _ _ e1
  refine ⟨mk a b, ?_, by show ga (f (mk a b)).1 ∧ gb (f (mk a b)).2; rw [hf]; exact ⟨ga', gb'⟩⟩
  show (Kd.pair da db).K W (f (mk a b)) cs
  rw [hf]
  refine ⟨cs.take da.sz, cs.drop da.sz, by rw [List.take_append_drop], by simpa using ka, ?_⟩
  have : (cs.drop da.sz).take db.sz = cs.drop da.sz := List.take_of_length_le (by rw [List.length_drop]; omega)
  rwa [this] at kb
/-- A struct of three fields. -/
theorem opens_struct3 {t : TypeId} {f0 f1 f2 : Field} {da : Kd α} {db : Kd β} {dc : Kd δ} {ga : α → Prop} {gb : β → Prop} {gc : δ → Prop} (ht : P.underlying t = some (.struct #[f0, f1, f2])) (f : γ → α × β × δ) (mk : α → β → δ → γ) (hf : ∀ a b c, f (mk a b c) = (a, b, c))
    (hc : P.cellsOf t = da.sz + db.sz + dc.sz) (h0 : f0.offset = 0 ∧ P.cellsOf f0.type = da.sz) (h1 : f1.offset = da.sz ∧ P.cellsOf f1.type = db.sz) (h2 : f2.offset = da.sz + db.sz ∧ P.cellsOf f2.type = dc.sz)
    (oa : Opens enc P W f0.type da ga) (ob : Opens enc P W f1.type db gb) (oc : Opens enc P W f2.type dc gc) :
    Opens enc P W t (Kd.iso (Kd.pair da (Kd.pair db dc)) f) (fun x => ga (f x).1 ∧ gb (f x).2.1 ∧ gc (f x).2.2) := by
  intro base spare held fuel cs x h
  obtain ⟨y0, y1, y2, n, _, hl, e0, e1, e2⟩ := trod_struct3 ht h
  rw [h0.1, h0.2] at e0
  rw [h1.1, h1.2] at e1
  rw [h2.1, h2.2] at e2
  obtain ⟨a, ka, ga'⟩ := oa _ _ _ _ _ _ e0
  obtain ⟨b, kb, gb'⟩ := ob _ _ _ _ _ _ e1
  obtain ⟨c, kc, gc'⟩ := oc _ _ _ _ _ _ e2
  refine ⟨mk a b c, ?_, by show ga (f (mk a b c)).1 ∧ gb (f (mk a b c)).2.1 ∧ gc (f (mk a b c)).2.2; rw [hf]; exact ⟨ga', gb', gc'⟩⟩
  show (Kd.pair da (Kd.pair db dc)).K W (f (mk a b c)) cs
  rw [hf]
  refine ⟨cs.take da.sz, cs.drop da.sz, by rw [List.take_append_drop], by simpa using ka, (cs.drop da.sz).take db.sz, (cs.drop da.sz).drop db.sz, by rw [List.take_append_drop], kb, ?_⟩
  rw [← List.drop_drop] at kc
  have : ((cs.drop da.sz).drop db.sz).take dc.sz = (cs.drop da.sz).drop db.sz := List.take_of_length_le (by rw [List.length_drop, List.length_drop]; omega)
  rwa [this] at kc
/-- An argument that is a slice: its list, its reading, and what the row's own weights say of its length. -/
theorem open_arg {t e : TypeId} {d : Kd α} {good : α → Prop} {a : Option Addr} {len cap : Nat} {dd : DataW H} {ps : List MemPlace} {base : Nat} {spare : Nat → Bool} {held : Bool} {ts : List TypeId} {ds : List (DataW H)} {j B : Nat}
    (hsz : (DataW.weightsEach P ts ds).all (· ≤ reachBytes) = true) (hj : ts[j]? = some t) (hd : ds[j]? = some dd) (ht : P.underlying t = some (.slice e)) (hc : P.cellsOf e = d.sz) (hB : P.bytesOf e = B) (he : Opens enc P W e d good)
    (h : DataW.Trod enc P W base spare held t (.slice a len cap) dd ps) :
    ∃ l : List α, len = l.length ∧ d.C W a l.length l ∧ l.length ≤ cap ∧ l.length ≤ maxLen ∧ l.length * B ≤ 140737488351232 ∧ ∀ x ∈ l, good x := by
  obtain ⟨fuel, hf⟩ := h
  have hcs : (Value.slice a len cap).cells.toList = [Value.slice a len cap] := by simp [Value.cells]
  obtain ⟨l, ⟨A, c, hK, hlc, hC⟩, hm, hg⟩ := opens_slice ht hc he _ _ _ _ _ _ hf
  rw [hcs] at hK
  simp only [List.cons.injEq, Value.slice.injEq, and_true] at hK
  obtain ⟨rfl, rfl, rfl⟩ := hK
  refine ⟨l, rfl, hC, hlc, hm, ?_, hg⟩
  rcases open_slice ht hf with ⟨h1, _⟩ | ⟨x, len', cap', m, n, D, Pl, h1, _, hl, _, hmm, hx, _⟩
  · rw [hcs] at h1
    simp only [List.cons.injEq, Value.slice.injEq, and_true] at h1
    rw [h1.2.1]; simp
  · rw [hcs] at h1
    simp only [List.cons.injEq, Value.slice.injEq, and_true] at h1
    obtain ⟨_, rfl, rfl⟩ := h1
    obtain ⟨hx1, _⟩ := Prod.mk.inj hx
    subst hx1
    have z := sized_slice hsz hj hd ht
    rw [hB] at z
    simp only [List.length_map, List.length_range] at z
    exact Nat.le_trans (Nat.mul_le_mul_right _ (Nat.le_add_right _ _)) z
end
end Go.Proofs.Ythmolcmgfhjegaa.Opening
