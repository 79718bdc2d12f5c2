/- The walker's free operations, each shown. Own work. No condition. -/
import Derived.Test.YtkbgdjpdmhnniaaVcF
namespace Go.Vc
open Go
set_option linter.unusedVariables false
set_option linter.unusedSimpArgs false
section
variable {P : Program} {β : List Nat} {e : Env} {a : Act} {lb : Bx} {lm : Mem} {K : AV → Prop}
/-- What a free operation comes to. -/
def Gives (P : Program) (β : List Nat) (a : Act) (o : Oper) (cls : World → Prop) (K : AV → Prop) : Prop :=
  ∃ x u, AvR β x u ∧ K x ∧ ∀ w, cls w → (execOp a.eval o).run P w = .ok (.value u) w
theorem Gives.mk' {o : Oper} {cls : World → Prop} (u : Value) (hk : K (.v u)) (h : ∀ w, cls w → (execOp a.eval o).run P w = .ok (.value u) w) : Gives P β a o cls K :=
  ⟨.v u, u, rfl, hk, h⟩
theorem keep_gives (hE : ER β e a) {o : Oper} {cls : World → Prop} {x : Operand} (h : keep (ev e x) K) (hr : ∀ w, cls w → (execOp a.eval o).run P w = .ok (.value (a.eval x)) w) : Gives P β a o cls K :=
  ⟨ev e x, a.eval x, ev_sound hE x, (keep_inv h).2, hr⟩
theorem bin_gives (hE : ER β e a) {o : Oper} {cls : World → Prop} {op : BinOp} {t t' : TypeId} {x y : Operand} (ho : o.op = .binOp op t x y t') (hop : intOp op = true)
    (h : fv (.bin op x y) e lb lm K) : Gives P β a o cls K := by
  obtain ⟨k, n, hx, h⟩ := asI_inv h
  obtain ⟨k', n', hy, h⟩ := asI_inv h
  split at h
  case h_2 => exact h.elim
  rename_i hk
  obtain rfl := sameK_eq hk
  have ex := ev_v hE hx
  have ey := ev_v hE hy
  have hg : ∀ w, (eqGuard op t x y (.int k n) (.int k n')).run P w = .ok () w := by
    intro w
    unfold eqGuard
    cases op <;> simp
  have run : ∀ (u : Value), (∀ w, (binOp op t (.int k n) (.int k n')).run P w = .ok u w) → ∀ w, cls w → (execOp a.eval o).run P w = .ok (.value u) w := by
    intro u hu w _
    simp [execOp, ho, ex, ey, hg, hu]
  cases op <;> simp only [intOp, Bool.false_eq_true] at hop <;> simp only [binVC] at h
  case add => exact .mk' _ h.out (run _ fun w => by simp [binOp, Op.intArith])
  case sub => exact .mk' _ h.out (run _ fun w => by simp [binOp, Op.intArith])
  case mul => exact .mk' _ h.out (run _ fun w => by simp [binOp, Op.intArith])
  case quo => exact .mk' _ h.out.out (run _ fun w => by simp [binOp, Op.intDiv, h.ne])
  case rem => exact .mk' _ h.out (run _ fun w => by simp [binOp, Op.intDiv, h.ne])
  case lss => exact .mk' _ h (run _ fun w => by simp [binOp, Op.intCmp])
  case leq => exact .mk' _ h (run _ fun w => by simp [binOp, Op.intCmp])
  case gtr => exact .mk' _ h (run _ fun w => by simp [binOp, Op.intCmp])
  case geq => exact .mk' _ h (run _ fun w => by simp [binOp, Op.intCmp])
  case eql => exact .mk' _ h (run _ fun w => by
    simp only [binOp, Op.intCmp, if_neg (fun hh : k ≠ k => hh rfl)]
    rfl)
  case neq => exact .mk' _ h (run _ fun w => by
    have : decide (n ≠ n') = (n != n') := by by_cases hn : n = n' <;> simp [hn]
    rw [this]
    simp only [binOp, Op.intCmp, if_neg (fun hh : k ≠ k => hh rfl)]
    rfl)
  case xor => exact .mk' _ h (run _ fun w => by simp [binOp, Op.intBits, xorI])
theorem isn_gives (hE : ER β e a) {o : Oper} {cls : World → Prop} {t t' el : TypeId} {x : Operand} {l c : Nat} (ho : o.op = .binOp .eql t x (.const (.slice none l c)) t') (ht : P.underlying t = some (.slice el))
    (h : fv (.isn x) e lb lm K) : Gives P β a o cls K := by
  obtain ⟨A, n, cp, hx, h⟩ := asS_inv h
  refine .mk' _ h fun w _ => ?_
  have e2 : a.eval (.const (.slice none l c)) = .slice none l c := rfl
  have hb := Lib.run_eql_slice_nil (P := P) w t el A n cp l c ht
  have hg : (eqGuard .eql t x (.const (.slice none l c)) (.slice A n cp) (.slice none l c)).run P w = .ok () w := by unfold eqGuard; simp
  simp only [execOp, ho, ev_v hE hx, e2, Sem.run_bind, hg, hb, Result.andThen_ok, Sem.run_pure]
theorem asB_inv {x : AV} {K : Bool → Prop} (h : asB x K) : ∃ b, (∀ β u, AvR β x u → u = .bool b) ∧ K b := by
  unfold asB at h
  split at h
  · rename_i b; exact ⟨b, fun β u hu => hu, h⟩
  · rename_i b; exact ⟨b, fun β u hu => hu, h⟩
  · exact h.elim
theorem beq_gives (hE : ER β e a) {o : Oper} {cls : World → Prop} {op : BinOp} {t t' : TypeId} {x y : Operand} {neg : Bool} (ho : o.op = .binOp op t x y t') (ht : P.underlying t = some .bool) (hop : op = (match neg with | true => .neq | false => .eql))
    (h : fv (.beq neg x y) e lb lm K) : Gives P β a o cls K := by
  obtain ⟨p, hx, h⟩ := asB_inv h
  obtain ⟨q, hy, h⟩ := asB_inv h
  have ex := ev_a hE hx
  have ey := ev_a hE hy
  refine .mk' _ h fun w _ => ?_
  cases neg <;> (simp only at hop; subst hop)
  · have hg : (eqGuard .eql t x y (.bool p) (.bool q)).run P w = .ok () w := by unfold eqGuard; simp
    have hb := run_eql_bool (P := P) w t p q ht
    have e : (p == q) = decide (p = q) := by cases p <;> cases q <;> rfl
    rw [e] at hb
    simp only [execOp, ho, ex, ey, Sem.run_bind, hg, hb, Result.andThen_ok, Sem.run_pure]
  · have hg : (eqGuard .neq t x y (.bool p) (.bool q)).run P w = .ok () w := by unfold eqGuard; simp
    have hb := run_neq_bool (P := P) w t p q ht
    have e : (!(p == q)) = decide (p ≠ q) := by cases p <;> cases q <;> rfl
    rw [e] at hb
    simp only [execOp, ho, ex, ey, Sem.run_bind, hg, hb, Result.andThen_ok, Sem.run_pure]
theorem un_gives (hE : ER β e a) {o : Oper} {cls : World → Prop} {op : UnOp} {t : TypeId} {x : Operand} (ho : o.op = .unOp op t x)
    (h : fv (.un op x) e lb lm K) : Gives P β a o cls K := by
  simp only [fv] at h
  split at h
  · obtain ⟨k, n, hx, h⟩ := asI_inv h
    exact .mk' _ h.out fun w _ => by simp [execOp, ho, ev_v hE hx, Op.unary, Op.intArith]
  · split at h
    · rename_i hx
      have := ev_sound hE x; rw [hx] at this
      exact ⟨.k false, .bool false, rfl, h, fun w _ => by rw [show execOp a.eval o = _ from rfl]; simp [execOp, ho, show a.eval x = .bool true from this, Op.unary]⟩
    · rename_i hx
      have := ev_sound hE x; rw [hx] at this
      exact ⟨.k true, .bool true, rfl, h, fun w _ => by simp [execOp, ho, show a.eval x = .bool false from this, Op.unary]⟩
    · rename_i t hx
      exact .mk' _ h fun w _ => by simp [execOp, ho, ev_v hE hx, Op.unary]
    · exact h.elim
  · exact h.elim
theorem conv_gives (hE : ER β e a) {o : Oper} {cls : World → Prop} {s d : TypeId} {x : Operand} {k k' : IntKind} (ho : o.op = .convert s d x) (hs : P.underlying s = some (.int k')) (hd : P.underlying d = some (.int k))
    (h : fv (.conv k x) e lb lm K) : Gives P β a o cls K := by
  obtain ⟨k1, n, hx, h⟩ := asI_inv h
  exact .mk' _ h.out fun w _ => by simp [execOp, ho, ev_v hE hx, convert, run_und hs, run_und hd, Conv.intToInt]
theorem fa_gives (hE : ER β e a) {o : Oper} {cls : World → Prop} {s : TypeId} {x : Operand} {f : Nat} {fs : Array Field} {fd : Field} {i : TypeInfo} (ho : o.op = .fieldAddr s x f) (hs : P.underlying s = some (.struct fs))
    (hf : fs[f]? = some fd) (hi : P.info? fd.type = some i) (h0 : i.size ≠ 0) (h : fv (.fa x fd.offset) e lb lm K) : Gives P β a o cls K := by
  simp only [fv] at h
  have run : ∀ (ad : Addr), a.eval x = .pointer (some ad) → ∀ w, (execOp a.eval o).run P w = .ok (.value (.pointer (some (ad.add fd.offset)))) w := by
    intro ad hx w
    simp [execOp, ho, hx, Instr.fieldAt, run_und hs, hf, Instr.sureAddr, fieldPlace, run_so hi, h0]
  split at h
  · rename_i ad hx
    exact .mk' _ h fun w _ => run ad (ev_v hE hx) w
  · rename_i k of hx
    have := ev_sound hE x
    rw [hx] at this
    obtain ⟨b, hb, hu⟩ := this
    refine ⟨_, _, ?_, h, fun w _ => run _ hu w⟩
    refine ⟨b, hb, ?_⟩
    unfold Addr.add; split <;> simp_all
  · exact h.elim
theorem ia_gives (hE : ER β e a) {o : Oper} {cls : World → Prop} {t : TypeId} {x i : Operand} {ei : TypeInfo} (ho : o.op = .indexAddr t x i) (ht : elemOf? P t = some ei)
    (h : fv (.ia x i ei.size) e lb lm K) : Gives P β a o cls K := by
  obtain ⟨el, hu, hi⟩ := elemOf_inv ht
  obtain ⟨A, n, c, hx, h⟩ := asS_inv h
  obtain ⟨k, j, hj, h⟩ := asI_inv h
  obtain ⟨ad, rfl, h0, h1, h⟩ := h.out
  refine .mk' _ h fun w _ => ?_
  simp [execOp, ho, ev_v hE hx, ev_v hE hj, Instr.indexAt, asIntOf, run_und hu, h0, h1, run_so hi]
theorem nc_gives (hE : ER β e a) {o : Oper} {cls : World → Prop} {x : Operand} (ho : o.op = .nilCheck x) (h : fv (.nc x) e lb lm K) : Gives P β a o cls K := by
  simp only [fv] at h
  split at h
  · rename_i ad hx
    exact .mk' _ h fun w _ => by simp [execOp, ho, ev_v hE hx]
  · rename_i k of hx
    have := ev_sound hE x
    rw [hx] at this
    obtain ⟨b, hb, hu⟩ := this
    exact ⟨.b k of, .pointer (some ⟨b, of, none⟩), ⟨b, hb, rfl⟩, h, fun w _ => by simp [execOp, ho, hu]⟩
  · exact h.elim
def ldn : Bool → Nat → Option Nat | true, n => some n | false, _ => none
theorem ld_gives (hE : ER β e a) {o : Oper} {t : TypeId} {x : Operand} {b : Bool} {i : TypeInfo} (ho : o.op = .load t x) (hb : isStr P t = some b) (hi : P.info? t = some i)
    (h : fv (.ld (ldn b i.size) x) e lb lm K) : Gives P β a o (Cls β lb lm) K := by
  have hagg : ∀ w, (isAgg t).run P w = .ok b w := by
    intro w
    unfold isStr at hb
    split at hb
    · cases hb; rename_i hu; simp [isAgg, run_und hu]
    · cases hb; rename_i hu; simp [isAgg, run_und hu]
    · cases hb
      rename_i d hd n1 n2
      simp only [isAgg, Sem.run_bind, run_und n2, Result.andThen_ok]
      rfl
    · cases hb
  simp only [fv] at h
  split at h
  · rename_i ad hx
    have ex := ev_v hE hx
    cases b with
    | false =>
      obtain ⟨v, hv, h⟩ := h.out
      exact .mk' _ h fun w hw => by simp [execOp, ho, ex, Instr.loadAt, Instr.sureAddr, loadVar, hagg, hw.mem.cell hv]
    | true =>
      obtain ⟨cs, hl, hv, h⟩ := h.out
      refine .mk' _ h fun w hw => ?_
      have := run_loadCells_list (P := P) w ad cs (fun j v hj => hw.mem.cell (hv j v hj))
      rw [hl] at this
      simp [execOp, ho, ex, Instr.loadAt, Instr.sureAddr, loadVar, hagg, run_so hi, this]
  · rename_i k of hx
    have := ev_sound hE x
    rw [hx] at this
    obtain ⟨g, hg, hu⟩ := this
    obtain ⟨cs, hcs, h⟩ := bget_inv h
    have hcell : ∀ w, Cls β lb lm w → ∀ j v, cs[of + j]? = some v → w.cell? ((⟨g, of, none⟩ : Addr).add j) = some v := by
      intro w hw j v hj
      obtain ⟨T, hT⟩ := hw.box k g cs hg hcs
      have : (⟨g, of, none⟩ : Addr).add j = ⟨g, of + j, none⟩ := by unfold Addr.add; split <;> simp_all
      rw [this]
      simp [World.cell?, hT, hj]
    cases b with
    | false =>
      obtain ⟨v, hv, h⟩ := cget_inv h
      refine .mk' _ h fun w hw => ?_
      have := hcell w hw 0 v (by simpa using hv)
      rw [show (⟨g, of, none⟩ : Addr).add 0 = ⟨g, of, none⟩ by simp [Addr.add]] at this
      simp [execOp, ho, hu, Instr.loadAt, Instr.sureAddr, loadVar, hagg, this]
    | true =>
      obtain ⟨hle, h⟩ := cdrop_inv h
      obtain ⟨hle2, h⟩ := ctake_inv h
      refine .mk' _ h fun w hw => ?_
      have := run_loadCells_list (P := P) w ⟨g, of, none⟩ ((cs.drop of).take i.size) (fun j v hj => hcell w hw j v (by
        rw [List.getElem?_take] at hj
        split at hj
        · simpa using hj
        · cases hj))
      rw [List.length_take, Nat.min_eq_left hle2] at this
      simp [execOp, ho, hu, Instr.loadAt, Instr.sureAddr, loadVar, hagg, run_so hi, this]
  · exact h.elim
theorem sl_gives (hE : ER β e a) {o : Oper} {cls : World → Prop} {t : TypeId} {x : Operand} {lo hi : Option Operand} {ei : TypeInfo} (ho : o.op = .slice t x lo hi none) (ht : elemOf? P t = some ei)
    (h : fv (.sl x lo hi ei.size) e lb lm K) : Gives P β a o cls K := by
  obtain ⟨el, hu, hi'⟩ := elemOf_inv ht
  obtain ⟨A, n, c, hx, h⟩ := asS_inv h
  obtain ⟨rl, h, hl1, hl2⟩ := optI_inv hE h
  obtain ⟨rh, h, hh1, hh2⟩ := optI_inv hE h
  obtain ⟨l, hgh, el1, eh1, hlh, hhc, h⟩ := h.out
  refine .mk' _ h fun w _ => ?_
  have hb : (Instr.sliceBounds true n c (lo.map a.eval) (hi.map a.eval) none).run P w = .ok (l, hgh, c) w := by
    cases rh with
    | none =>
      obtain rfl := hh2 rfl
      obtain rfl : n = hgh := by simp at eh1; omega
      cases rl with
      | none =>
        obtain rfl := hl2 rfl
        obtain rfl : 0 = l := by simp at el1; omega
        simp [Instr.sliceBounds]
      | some q =>
        obtain ⟨k, hk⟩ := hl1 q rfl
        simp only [Option.getD_some] at el1
        subst el1
        simp [Instr.sliceBounds, hk, Instr.sliceBound, asIntOf, hlh]
    | some p =>
      obtain ⟨kh, hkh⟩ := hh1 p rfl
      simp only [Option.getD_some] at eh1
      subst eh1
      cases rl with
      | none =>
        obtain rfl := hl2 rfl
        obtain rfl : 0 = l := by simp at el1; omega
        simp [Instr.sliceBounds, hkh, Instr.sliceBound, asIntOf, hhc]
      | some q =>
        obtain ⟨k, hk⟩ := hl1 q rfl
        simp only [Option.getD_some] at el1
        subst el1
        simp [Instr.sliceBounds, hk, hkh, Instr.sliceBound, asIntOf, hlh, hhc]
  simp [execOp, ho, ev_v hE hx, Instr.sliceAt, Instr.slice, run_und hu, hb, run_so hi']
theorem mf_gives (hE : ER β e a) {o : Oper} {cls : World → Prop} {f : FuncId} {first caps : Array Operand} (ho : o.op = .makeFunc (.func f) first caps) (hf : first.toList = [])
    (h : fv (.mf f caps.toList) e lb lm K) : Gives P β a o cls K := by
  have := args_inv hE h
  refine .mk' _ this fun w _ => ?_
  have e1 : first = #[] := by simpa using hf
  have e2 : (caps.toList.map a.eval).toArray = caps.map a.eval := by
    rw [← Array.toList_map]
  simp only [execOp, ho, Instr.makeFunc, e1]
  rw [← e2]
  simp
theorem ex_gives (hE : ER β e a) {o : Oper} {cls : World → Prop} {x : Operand} {i : Nat} (ho : o.op = .extract x i) (h : fv (.ex x i) e lb lm K) : Gives P β a o cls K := by
  simp only [fv] at h
  split at h
  · rename_i vs hx
    obtain ⟨v, hv, h⟩ := cget_inv h
    refine .mk' _ h fun w _ => ?_
    have hv' : vs[i]? = some v := by simpa using hv
    simp [execOp, ho, ev_v hE hx, Instr.extract, hv']
  · exact h.elim
theorem len_gives (hE : ER β e a) {o : Oper} {cls : World → Prop} {c : Call} {t el : TypeId} {x : Operand} (ho : o.op = .call c) (hc : c.callee = .builtin .len) (h1 : c.argTypes.toList = [t]) (h2 : c.args.toList = [x])
    (ht : elemT? P t = some el) (h : fv (.len x) e lb lm K) : Gives P β a o cls K := by
  obtain ⟨A, n, c', hx, h⟩ := asS_inv h
  have hu : P.underlying t = some (.slice el) := by
    unfold elemT? at ht; split at ht
    · cases ht; assumption
    · cases ht
  refine .mk' _ h fun w _ => ?_
  have e1 : c.argTypes = #[t] := by rw [← h1]
  have e2 : c.args = #[x] := by rw [← h2]
  simp [execOp, ho, resolve, hc, invoke, builtin, Builtin.len_, e1, e2, ev_v hE hx, run_und hu, goInt]
theorem mm_gives (hE : ER β e a) {o : Oper} {cls : World → Prop} {c : Call} {mx : Bool} {x y : Operand} (ho : o.op = .call c) (hc : c.callee = .builtin (match mx with | true => .max | false => .min)) (h2 : c.args.toList = [x, y])
    (h : fv (.mm mx x y) e lb lm K) : Gives P β a o cls K := by
  obtain ⟨k, n, hx, h⟩ := asI_inv h
  obtain ⟨k', n', hy, h⟩ := asI_inv h
  refine .mk' _ h fun w _ => ?_
  have e2 : c.args = #[x, y] := by rw [← h2]
  cases mx
  · simp [execOp, ho, resolve, hc, invoke, builtin, Builtin.min_, Builtin.min2, e2, ev_v hE hx, ev_v hE hy]
  · simp [execOp, ho, resolve, hc, invoke, builtin, Builtin.max_, Builtin.max2, e2, ev_v hE hx, ev_v hE hy]
theorem lay_inv (hE : ER β e a) {places : List (Nat × Nat)} : ∀ {ps : List (Nat × Operand)} {qs : List (Nat × Nat × Operand)} {c : List Value} {K : List Value → Prop}, partsOf places ps = some qs → lay e c qs K →
    ∃ cs, Instr.fill (places.toArray[·]?) ⟨c⟩ (ps.map fun p => (p.1, a.eval p.2)) = some ⟨cs⟩ ∧ K cs
  | [], qs, c, K, hp, h => by
    simp [partsOf] at hp; subst hp
    exact ⟨c, rfl, force_inv h⟩
  | (i, x) :: r, qs, c, K, hp, h => by
    unfold partsOf at hp
    simp only [List.mapM_cons, Option.bind_eq_bind, Option.bind_eq_some_iff, Option.pure_def, Option.some.injEq] at hp
    obtain ⟨q, hq, qs', hqs, rfl⟩ := hp
    split at hq
    · rename_i pl hpl
      cases hq
      obtain ⟨y, hy, h⟩ := asV_inv h
      obtain ⟨hl, h⟩ := vcs_inv h
      split at h
      · rename_i hb
        obtain ⟨cs, h1, h2⟩ := lay_inv hE (ps := r) hqs h
        refine ⟨cs, ?_, h2⟩
        simp only [List.map_cons, ev_a hE hy]
        rw [fill_step (off := pl.1) (n := pl.2) (by simpa using hpl) hl (Nat.le_of_ble_eq_true hb)]
        exact h1
      · exact h.elim
    · cases hq
theorem bd_gives (hE : ER β e a) {o : Oper} {cls : World → Prop} {t : TypeId} {parts : Array (Nat × Operand)} {fs : Array Field} {ti : TypeInfo} {z : Value} {places : List (Nat × Nat)} {ps : List (Nat × Nat × Operand)} (ho : o.op = .build t parts)
    (hu : P.underlying t = some (.struct fs)) (hi : P.info? t = some ti) (hz : ti.zero = some z) (hp : fs.toList.mapM (fun f => (P.info? f.type).map fun i => (f.offset, i.size)) = some places) (hps : partsOf places parts.toList = some ps)
    (h : fv (.bd z.cells.toList ps) e lb lm K) : Gives P β a o cls K := by
  obtain ⟨cs, h1, h2⟩ := lay_inv hE hps h
  refine .mk' _ h2 fun w _ => ?_
  have hb : P.built t (parts.map fun (p : Nat × Operand) => (p.1, a.eval p.2)).toList = some ⟨cs⟩ := by
    simp only [Program.built, hi, hu, hz, hp, Array.toList_map]
    exact h1
  simp [execOp, ho, run_build w t _ _ hb]
theorem eqs_gives (hE : ER β e a) {o : Oper} {cls : World → Prop} {op : BinOp} {t t' : TypeId} {x y : Operand} {neg : Bool} (ho : o.op = .binOp op t x y t') (ht : eqT P t = true) (hop : op = (match neg with | true => .neq | false => .eql))
    (h : fv (.eqs neg 2 x y) e lb lm K) : Gives P β a o cls K := by
  obtain ⟨u, hu, h⟩ := asV_inv h
  obtain ⟨v, hv, h⟩ := asV_inv h
  obtain ⟨l1, h⟩ := vcs_inv h
  obtain ⟨l2, h⟩ := vcs_inv h
  obtain ⟨is, e1, h⟩ := ints_inv h
  obtain ⟨js, e2, h⟩ := ints_inv h
  refine .mk' _ h fun w _ => ?_
  have agg : ∀ (u : Value) (is : List Int), u.cells.toList.length = 2 → u.cells.toList = is.map (Value.int .i64) → ∃ p q, is = [p, q] ∧ u = .agg #[.int .i64 p, .int .i64 q] := by
    intro u is l e
    have hl : is.length = 2 := by rw [e] at l; simpa using l
    match is, hl with
    | [p, q], _ =>
      refine ⟨p, q, rfl, ?_⟩
      cases u <;> simp [Value.cells] at l e ⊢
      rename_i cs
      rw [← e]
  obtain ⟨p, q, rfl, rfl⟩ := agg u is l1 e1
  obtain ⟨p', q', rfl, rfl⟩ := agg v js l2 e2
  unfold eqT at ht
  split at ht
  case h_2 => cases ht
  rename_i fs hfs
  split at ht
  case h_2 => cases ht
  rename_i f g hfg
  simp only [Bool.and_eq_true, bne_iff_ne, ne_eq, Bool.not_eq_true'] at ht
  obtain ⟨⟨⟨⟨⟨⟨⟨n1, n2⟩, o1⟩, o2⟩, i1⟩, i2⟩, st⟩, gt⟩ := ht
  have o1' := Nat.eq_of_beq_eq_true o1
  have o2' := Nat.eq_of_beq_eq_true o2
  have int64 : ∀ {t : TypeId}, isI64 P t = true → P.underlying t = some (.int .i64) := by
    intro t h; unfold isI64 at h; split at h
    · assumption
    · cases h
  have hfo : P.fieldsOf t = fs := by simp [Program.fieldsOf, hfs]
  have notagg : ∀ {t : TypeId}, isI64 P t = true → ∀ w, (isAgg t).run P w = .ok false w := fun h w => by
    simp [isAgg, run_und (int64 h)]
  have heq : (Op.equalIn 10000 t (.agg #[.int .i64 p, .int .i64 q]) (.agg #[.int .i64 p', .int .i64 q'])).run P w = .ok (p == p' && q == q') w := by
    rw [run_equalIn_struct w 9999 t _ _ (by rw [hfo]; exact hfs) st, hfo, hfg]
    simp only [Op.eqFields, n1, n2, if_true, not_false_eq_true, ne_eq, Sem.run_bind, part, notagg i1, notagg i2, Result.andThen_ok, o1', o2', Bool.false_eq_true, if_false]
    simp only [List.getElem?_toArray, List.getElem?_cons_zero, List.getElem?_cons_succ, Sem.run_pure, Result.andThen_ok, run_equalIn_int w 9998 _ _ _ _ _ (int64 i1), run_equalIn_int w 9998 _ _ _ _ _ (int64 i2)]
    by_cases hp : p = p' <;> by_cases hq : q = q' <;> simp [hp, hq, run_equalIn_int w 9998 _ _ _ _ _ (int64 i2), Result.andThen, notagg i2, part]
  cases neg with
  | true =>
    subst hop
    simp only [execOp, ho, ev_a hE hu, ev_a hE hv, Sem.run_bind, run_eqGuard_agg w _ t x y _ _ gt, Result.andThen_ok, run_neq_struct, heq, Sem.run_pure]
    congr 3
    by_cases hp : p = p' <;> by_cases hq : q = q' <;> simp [hp, hq]
  | false =>
    subst hop
    simp only [execOp, ho, ev_a hE hu, ev_a hE hv, Sem.run_bind, run_eqGuard_agg w _ t x y _ _ gt, Result.andThen_ok, run_eql_struct, heq, Sem.run_pure]
    congr 3
    by_cases hp : p = p' <;> by_cases hq : q = q' <;> simp [hp, hq]
theorem fv_sound (hE : ER β e a) {o : Oper} {i : I} (hc : compF P o.op = some i) (h : fv i e lb lm K) :
    Gives P β a o (fun w => i.loads = true → Cls β lb lm w) K := by
  have lift : ∀ {cls : World → Prop}, Gives P β a o (fun _ => True) K → Gives P β a o cls K := fun ⟨x, u, h1, h2, h3⟩ => ⟨x, u, h1, h2, fun w _ => h3 w trivial⟩
  unfold compF at hc
  split at hc
  · rename_i x ho; cases hc; exact lift (keep_gives hE h fun w _ => by simp [execOp, ho])
  · rename_i x ho; cases hc; exact lift (keep_gives hE h fun w _ => by simp [execOp, ho])
  · rename_i c x y ho; cases hc
    obtain ⟨t, hx, h⟩ := branch_inv h
    rcases h with ⟨rfl, h⟩ | ⟨rfl, h⟩
    · exact lift (keep_gives hE h fun w _ => by simp [execOp, ho, ev_a hE hx, asBool])
    · exact lift (keep_gives hE h fun w _ => by simp [execOp, ho, ev_a hE hx, asBool])
  · rename_i op t x y t' ho
    split at hc
    · rename_i ht
      split at hc
      · cases hc; exact lift (eqs_gives (neg := false) hE ho ht rfl h)
      · cases hc; exact lift (eqs_gives (neg := true) hE ho ht rfl h)
      · cases hc
    · split at hc
      · rename_i hu; cases hc; exact lift (isn_gives hE ho hu h)
      · rename_i hu; cases hc; exact lift (beq_gives (neg := false) hE ho hu rfl h)
      · rename_i hu; cases hc; exact lift (beq_gives (neg := true) hE ho hu rfl h)
      · split at hc
        · rename_i hop; cases hc; exact lift (bin_gives hE ho hop h)
        · cases hc
  · rename_i t parts ho
    split at hc
    · rename_i fs ti hu hi
      split at hc
      · rename_i z places hz hp
        split at hc
        · rename_i ps hps; cases hc; exact lift (bd_gives hE ho hu hi hz hp hps h)
        · cases hc
      · cases hc
    · cases hc
  · rename_i op t x ho
    split at hc
    · cases hc; exact lift (un_gives hE ho h)
    · cases hc; exact lift (un_gives hE ho h)
    · cases hc
  · rename_i s d x ho
    split at hc
    · rename_i k' k hs hd; cases hc; exact lift (conv_gives hE ho hs hd h)
    · cases hc
  · rename_i s x f ho
    split at hc
    · rename_i fs hs
      split at hc
      · rename_i fd hf
        split at hc
        · rename_i ti hi
          split at hc
          · cases hc
          · rename_i hz; cases hc
            exact lift (fa_gives hE ho hs hf hi (fun h0 => by simp [h0] at hz) h)
        · cases hc
      · cases hc
    · cases hc
  · rename_i t x ix ho
    split at hc
    · rename_i ei ht; cases hc; exact lift (ia_gives hE ho ht h)
    · cases hc
  · rename_i t x ho
    split at hc
    · rename_i ti hb hi; cases hc
      obtain ⟨x', u, h1, h2, h3⟩ := ld_gives (b := true) hE ho hb hi h
      exact ⟨x', u, h1, h2, fun w hw => h3 w (hw rfl)⟩
    · rename_i ti hb hi; cases hc
      obtain ⟨x', u, h1, h2, h3⟩ := ld_gives (b := false) hE ho hb hi h
      exact ⟨x', u, h1, h2, fun w hw => h3 w (hw rfl)⟩
    · cases hc
  · rename_i x ho; cases hc; exact lift (nc_gives hE ho h)
  · rename_i t x lo hi mx ho
    split at hc
    · rename_i ei ht; cases hc; exact lift (sl_gives hE ho ht h)
    · cases hc
  · rename_i fn first caps ho
    split at hc
    · rename_i f hf; cases hc; exact lift (mf_gives hE ho hf h)
    · cases hc
  · rename_i x ix ho; cases hc; exact lift (ex_gives hE ho h)
  · rename_i c ho
    split at hc
    · rename_i b hb
      split at hc
      · rename_i t x h1 h2
        split at hc
        · rename_i el ht; cases hc; exact lift (len_gives hE ho hb h1 h2 ht h)
        · cases hc
      · rename_i x y h1; cases hc; exact lift (mm_gives (mx := true) hE ho hb h1 h)
      · rename_i x y h1; cases hc; exact lift (mm_gives (mx := false) hE ho hb h1 h)
      · cases hc
    · cases hc
  · cases hc
end
end Go.Vc
