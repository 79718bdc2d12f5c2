/- The walker's free operations: what the conditions say is what the machine does. Own work. No condition. -/
import Derived.Test.YtkbgdjpdmhnniaaVc
import Derived.Laws.CopyRow
import Derived.Laws.StructEq
import Derived.Lib.SliceRun
import Derived.Laws.Tables
namespace Go.Vc
open Go
set_option linter.unusedVariables false
set_option linter.unusedSimpArgs false

def infoOf (P : Program) (t : TypeId) : Option TypeInfo := P.info? t
def elemOf? (P : Program) (t : TypeId) : Option TypeInfo := match P.underlying t with
  | some (.slice e) => P.info? e
  | _ => none
def elemT? (P : Program) (t : TypeId) : Option TypeId := match P.underlying t with
  | some (.slice e) => some e
  | _ => none
def isStr (P : Program) (t : TypeId) : Option Bool := match P.underlying t with
  | some (.struct _) | some (.array _ _) => some true
  | some _ => some false
  | none => none
def intOp : BinOp → Bool
  | .add | .sub | .mul | .quo | .rem | .lss | .leq | .gtr | .geq | .eql | .neq | .xor => true
  | _ => false
def isI64 (P : Program) (t : TypeId) : Bool := match P.underlying t with | some (.int .i64) => true | _ => false
/-- A struct of two int64s that may be compared. -/
def eqT (P : Program) (t : TypeId) : Bool := match P.underlying t with
  | some (.struct fs) => match fs.toList with
    | [f, g] => f.name != "_" && g.name != "_" && Nat.beq f.offset 0 && Nat.beq g.offset 1 && isI64 P f.type && isI64 P g.type && !P.stoodInHeld t && !P.eqGuardType P.depth t
    | _ => false
  | _ => false
def partsOf (places : List (Nat × Nat)) (ps : List (Nat × Operand)) : Option (List (Nat × Nat × Operand)) := ps.mapM fun p => match places[p.1]? with | some q => some (q.1, q.2, p.2) | none => none
/-- The compiled free operation. -/
def compF (P : Program) (o : Op) : Option I := match o with
  | .move x | .assign x => some (.mv x)
  | .pick c a b => some (.pick c a b)
  | .binOp op t x y _ => match eqT P t with
    | true => match op with | .eql => some (.eqs false 2 x y) | .neq => some (.eqs true 2 x y) | _ => none
    | false => match op, y, P.underlying t with
      | .eql, .const (.slice none _ _), some (.slice _) => some (.isn x)
      | .eql, _, some .bool => some (.beq false x y)
      | .neq, _, some .bool => some (.beq true x y)
      | _, _, _ => match intOp op with | true => some (.bin op x y) | false => none
  | .build t parts => match P.underlying t, P.info? t with
    | some (.struct fs), some ti => match ti.zero, fs.toList.mapM (fun f => (P.info? f.type).map fun i => (f.offset, i.size)) with
      | some z, some places => match partsOf places parts.toList with
        | some ps => some (.bd z.cells.toList ps)
        | none => none
      | _, _ => none
    | _, _ => none
  | .unOp op _ x => match op with | .neg => some (.un .neg x) | .not => some (.un .not x) | _ => none
  | .convert s d x => match P.underlying s, P.underlying d with
    | some (.int _), some (.int k) => some (.conv k x)
    | _, _ => none
  | .fieldAddr s x f => match P.underlying s with
    | some (.struct fs) => match fs[f]? with
      | some fd => match P.info? fd.type with
        | some i => match Nat.beq i.size 0 with | true => none | false => some (.fa x fd.offset)
        | none => none
      | none => none
    | _ => none
  | .indexAddr t x i => match elemOf? P t with
    | some ei => some (.ia x i ei.size)
    | none => none
  | .load t x => match isStr P t, P.info? t with
    | some true, some i => some (.ld (some i.size) x)
    | some false, some _ => some (.ld none x)
    | _, _ => none
  | .nilCheck x => some (.nc x)
  | .slice t x lo hi mx => match elemOf? P t, mx with
    | some ei, none => some (.sl x lo hi ei.size)
    | _, _ => none
  | .makeFunc fn first caps => match fn, first.toList with
    | .func f, [] => some (.mf f caps.toList)
    | _, _ => none
  | .extract x i => some (.ex x i)
  | .call c => match c.callee with
    | .builtin b => match b, c.argTypes.toList, c.args.toList with
      | .len, [t], [x] => match elemT? P t with | some _ => some (.len x) | none => none
      | .max, _, [x, y] => some (.mm true x y)
      | .min, _, [x, y] => some (.mm false x y)
      | _, _, _ => none
    | _ => none
  | _ => none

def AvR (β : List Nat) : AV → Value → Prop
  | .v x, u => u = x
  | .k b, u => u = .bool b
  | .b k o, u => ∃ b, β[k]? = some b ∧ u = .pointer (some ⟨b, o, none⟩)
  | .u, _ => True
/-- The frame is as told. -/
def ER (β : List Nat) (e : Env) (a : Act) : Prop := ∀ t, AvR β (e t) (a.tmps.getD t undef)
/-- The memory that a free operation looks at. -/
structure Cls (β : List Nat) (lb : Bx) (lm : Mem) (w : World) : Prop where
  box : ∀ (k b : Nat) (c : List Value), β[k]? = some b → lb[k]? = some c → ∃ T : TypeId, w.heap[b]? = some (Obj.cells ⟨c⟩ T (0, 0))
  len : β.length = lb.length ∨ lb.length ≤ β.length
  mem : Holds lm w

theorem ev_sound {β : List Nat} {e : Env} {a : Act} (h : ER β e a) (x : Operand) : AvR β (ev e x) (a.eval x) := by
  cases x with
  | tmp t => exact h t
  | const c => cases c <;> rfl
  | global g => trivial
  | func f => rfl
theorem asV_inv {x : AV} {K : Value → Prop} (h : asV x K) : ∃ y, (∀ β u, AvR β x u → u = y) ∧ K y := by
  cases x <;> simp only [asV] at h
  · exact ⟨_, fun _ _ h => h, h⟩
  · exact ⟨_, fun _ _ h => h, h⟩
theorem asI_inv {x : AV} {K : IntKind → Int → Prop} (h : asI x K) : ∃ k n, x = .v (.int k n) ∧ K k n := by
  unfold asI at h; split at h
  · exact ⟨_, _, rfl, h⟩
  · exact h.elim
theorem branch_inv {x : AV} {X Y : Prop} (h : branch x X Y) : ∃ t, (∀ β u, AvR β x u → u = .bool t) ∧ ((t = true ∧ X) ∨ (t = false ∧ Y)) := by
  unfold branch at h
  split at h
  · exact ⟨true, fun _ _ h => h, .inl ⟨rfl, h⟩⟩
  · exact ⟨false, fun _ _ h => h, .inr ⟨rfl, h⟩⟩
  · rename_i t
    refine ⟨t, fun _ _ h => h, ?_⟩
    cases t
    · exact .inr ⟨rfl, h.n rfl⟩
    · exact .inl ⟨rfl, h.y rfl⟩
  · exact h.elim
theorem asS_inv {x : AV} {K : Option Addr → Nat → Nat → Prop} (h : asS x K) : ∃ A n c, x = .v (.slice A n c) ∧ K A n c := by
  unfold asS at h; split at h
  · exact ⟨_, _, _, rfl, h⟩
  · exact h.elim
theorem ev_v {β : List Nat} {e : Env} {a : Act} (h : ER β e a) {x : Operand} {y : Value} (hx : ev e x = .v y) : a.eval x = y := by
  have := ev_sound h x; rw [hx] at this; exact this
theorem ev_a {β : List Nat} {e : Env} {a : Act} (h : ER β e a) {x : Operand} {y : Value} (hx : ∀ β u, AvR β (ev e x) u → u = y) : a.eval x = y := hx β _ (ev_sound h x)
theorem keep_inv {x : AV} {K : AV → Prop} (h : keep x K) : x ≠ .u ∧ K x := by
  cases x <;> simp only [keep] at h
  · exact ⟨by simp, h⟩
  · exact ⟨by simp, h⟩
  · exact ⟨by simp, h⟩
theorem IteB_inv {t : Bool} {X Y : Prop} (h : IteB t X Y) : (t = true ∧ X) ∨ (t = false ∧ Y) := by
  cases t
  · exact .inr ⟨rfl, h.n rfl⟩
  · exact .inl ⟨rfl, h.y rfl⟩
theorem sameK_eq {k k' : IntKind} (h : sameK k k' = true) : k = k' := by cases k <;> cases k' <;> simp_all [sameK]
theorem args_inv {β : List Nat} {e : Env} {a : Act} (hE : ER β e a) : ∀ {l : List Operand} {K : List Value → Prop}, args e l K → K (l.map a.eval)
  | [], K, h => h
  | o :: r, K, h => by
    obtain ⟨y, hy, h⟩ := asV_inv h
    have := args_inv hE (l := r) h
    rw [List.map_cons, ev_a hE hy]; exact this
theorem cget_inv : ∀ {l : List Value} {i : Nat} {K : Value → Prop}, cget l i K → ∃ v, l[i]? = some v ∧ K v
  | [], _, _, h => h.elim
  | c :: _, 0, _, h => ⟨c, rfl, h⟩
  | _ :: r, k + 1, K, h => by simpa using cget_inv (l := r) h
theorem bget_inv : ∀ {l : Bx} {i : Nat} {K : List Value → Prop}, bget l i K → ∃ v, l[i]? = some v ∧ K v
  | [], _, _, h => h.elim
  | c :: _, 0, _, h => ⟨c, rfl, h⟩
  | _ :: r, k + 1, K, h => by simpa using bget_inv (l := r) h
theorem cdrop_inv : ∀ {n : Nat} {l : List Value} {K : List Value → Prop}, cdrop n l K → n ≤ l.length ∧ K (l.drop n)
  | 0, l, K, h => ⟨Nat.zero_le _, h⟩
  | n + 1, _ :: l, K, h => by have := cdrop_inv (n := n) (l := l) h; simpa using this
  | _ + 1, [], _, h => h.elim
theorem ctake_inv : ∀ {n : Nat} {l : List Value} {K : List Value → Prop}, ctake n l K → n ≤ l.length ∧ K (l.take n)
  | 0, l, K, h => ⟨Nat.zero_le _, by simpa [ctake] using h⟩
  | n + 1, c :: l, K, h => by have := ctake_inv (n := n) (l := l) h; simpa using this
  | _ + 1, [], _, h => h.elim
theorem force_inv : ∀ {l : List Value} {K : List Value → Prop}, force l K → K l
  | [], K, h => h
  | c :: l, K, h => force_inv (l := l) h
theorem vcs_inv {y : Value} {n : Nat} {K : List Value → Prop} (h : vcs y n K) : y.cells.toList.length = n ∧ K y.cells.toList := by
  unfold vcs at h
  split at h
  · rename_i cs
    split at h
    · rename_i hb
      exact ⟨by simpa [Value.cells] using Nat.eq_of_beq_eq_true hb, force_inv h⟩
    · exact h.elim
  · exact h.elim
  · rename_i h1 h2
    split at h
    · refine ⟨?_, ?_⟩
      · cases y <;> first | rfl | (exact absurd rfl (h1 _)) 
      · have : y.cells.toList = [y] := by cases y <;> first | rfl | (exact absurd rfl (h1 _))
        rw [this]; exact h
    · exact h.elim
theorem ints_inv : ∀ {l : List Value} {K : List Int → Prop}, ints l K → ∃ is : List Int, l = is.map (Value.int .i64) ∧ K is
  | [], K, h => ⟨[], rfl, h⟩
  | v :: l, K, h => by
    unfold ints at h
    split at h
    · rename_i e; cases e
    · rename_i e; cases e
      obtain ⟨is, e, h⟩ := ints_inv h
      exact ⟨_ :: is, by rw [e]; rfl, h⟩
    · exact h.elim
theorem optI_inv {β : List Nat} {e : Env} {a : Act} (hE : ER β e a) {o : Option Operand} {K : Option Int → Prop} (h : optI e o K) :
    ∃ r : Option Int, K r ∧ (∀ n, r = some n → ∃ k, o.map a.eval = some (.int k n)) ∧ (r = none → o = none) := by
  cases o with
  | none => exact ⟨none, h, by simp, by simp⟩
  | some o =>
    obtain ⟨k, n, hx, h⟩ := asI_inv h
    exact ⟨some n, h, fun n' e => by cases e; exact ⟨k, by simp [ev_v hE hx]⟩, by simp⟩

theorem run_und {P : Program} {t : TypeId} {d : TypeDesc} (h : P.underlying t = some d) (w : World) : (underlying t).run P w = .ok d w := by
  simp [underlying, h]
theorem run_ti {P : Program} {t : TypeId} {d : TypeInfo} (h : P.info? t = some d) (w : World) : (typeInfo t).run P w = .ok d w := by
  simp [typeInfo, h]
theorem run_so {P : Program} {t : TypeId} {d : TypeInfo} (h : P.info? t = some d) (w : World) : (sizeOf t).run P w = .ok d.size w := by
  simp [sizeOf, run_ti h]
theorem elemOf_inv {P : Program} {t : TypeId} {i : TypeInfo} (h : elemOf? P t = some i) : ∃ e, P.underlying t = some (.slice e) ∧ P.info? e = some i := by
  unfold elemOf? at h; split at h
  · exact ⟨_, by assumption, h⟩
  · cases h
theorem wr_eq : ∀ (c : List Value) (o : Nat) (ys : List Value), o + ys.length ≤ c.length → wr c o ys = c.take o ++ ys ++ c.drop (o + ys.length)
  | [], 0, [], _ => by simp [wr]
  | [], 0, _ :: _, h => by simp at h
  | [], _ + 1, _, h => by simp at h
  | c :: cs, 0, [], _ => by simp [wr]
  | c :: cs, 0, v :: vs, h => by
    have := wr_eq cs 0 vs (by simp at h; omega)
    simp only [Nat.zero_add, List.take_zero, List.nil_append] at this
    simp [wr, this]
  | c :: cs, o + 1, vs, h => by
    have := wr_eq cs o vs (by simp at h; omega)
    rw [show o + 1 + vs.length = (o + vs.length) + 1 by omega]
    simp [wr, this]
section
theorem foldl_set (ys : List Value) : ∀ (c : List Value) (off j : Nat), off + j + ys.length ≤ c.length →
    ((ys.zipIdx j).foldl (fun (cs : Array Value) (p : Value × Nat) => cs.setIfInBounds (off + p.2) p.1) ⟨c⟩).toList = c.take (off + j) ++ ys ++ c.drop (off + j + ys.length) := by
  induction ys with
  | nil => intro c off j _; simp
  | cons y r ih =>
    intro c off j h
    simp only [List.zipIdx_cons, List.foldl_cons]
    have e1 : (Array.setIfInBounds ⟨c⟩ (off + j) y : Array Value) = ⟨c.set (off + j) y⟩ := by simp
    rw [e1, ih (c.set (off + j) y) off (j + 1) (by simp at h ⊢; omega)]
    have := list_seg_step c (off + j) y r (by simp at h; omega)
    simpa [Nat.add_assoc, Nat.add_comm 1] using this
theorem fill_step {place : Nat → Option (Nat × Nat)} {c : List Value} {i off n : Nat} {v : Value} {rest : List (Nat × Value)} (hp : place i = some (off, n)) (hv : v.cells.toList.length = n) (hl : off + n ≤ c.length) :
    Instr.fill place ⟨c⟩ ((i, v) :: rest) = Instr.fill place ⟨wr c off v.cells.toList⟩ rest := by
  have hs : v.cells.size = n := by simpa using hv
  have h2 : ¬ (v.cells.size ≠ n ∨ off + v.cells.size > (⟨c⟩ : Array Value).size) := by rw [hs]; simp; omega
  have hf := foldl_set v.cells.toList c off 0 (by rw [hv]; omega)
  have e2 : (v.cells.zipIdx.foldl (fun (cs : Array Value) (p : Value × Nat) => cs.setIfInBounds (off + p.2) p.1) ⟨c⟩) = ⟨wr c off v.cells.toList⟩ := by
    rw [← Array.foldl_toList]
    apply Array.toList_inj.1
    rw [Array.toList_zipIdx, hf, wr_eq c off _ (by rw [hv]; omega)]
    simp
  rw [Instr.fill, hp]
  simp only [hs] at h2
  simp only [hs]
  rw [if_neg (by simpa [hs] using h2)]
  rw [← e2]
end
end Go.Vc
