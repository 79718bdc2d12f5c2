/- The walker's other operations, each shown. Own work. No condition. -/
import Derived.Test.YtkbgdjpdmhnniaaVcH
namespace Go.Vc
open Go
set_option linter.unusedVariables false
set_option linter.unusedSimpArgs false
section
variable {w0 : World} {m0 : Mem} {bx : Bx} {β : List Nat} {m : Mem} {w : World} {P : Program} {e : Env} {a : Act} {o : Oper} {K : AV → Bx → Mem → Prop} {Q : Exit → Act → World → Prop}
theorem AvR_new (k : Nat) (b : Nat) (hk : β.length = k) : AvR (β ++ [b]) (.b k 0) (.pointer (some ⟨b, 0, none⟩)) := ⟨b, by subst hk; simp, rfl⟩
theorem al_sound (hE : ER β e a) (hM : MR w0 m0 bx β m w) {T : TypeId} {i : TypeInfo} {z : Value} {ext : Bool} (ho : o.op = .alloc T) (hi : P.info? T = some i) (hz : i.zero = some z)
    (h : sv P (.al ext T z.cells.toList) e bx m K) : o.wp P a w (Nxt w0 m0 β a o K) Q := by
  have run : (execOp a.eval o).run P w = .ok (.value (.pointer (some ⟨w.heap.size, 0, none⟩))) (w.alloc (.cells ⟨z.cells.toList⟩ T (0, 0))) := by
    simp [execOp, ho, Instr.alloc, zeroValue, run_ti hi, hz, newVar, newRow]
  cases ext with
  | true =>
    obtain ⟨h1, h2⟩ := hM.new (.cells ⟨z.cells.toList⟩ T (0, 0))
    exact nxt_val (e := e) (.v _) bx [] _ run rfl (by simpa using h2) (h.out _ h1)
  | false => exact nxt_val (e := e) _ _ [w.heap.size] m run (AvR_new _ _ hM.len) (hM.box' _ T) h
theorem bx_sound (hE : ER β e a) (hM : MR w0 m0 bx β m w) {T : TypeId} {x : Operand} {ext : Bool} (ho : o.op = .box T x)
    (h : sv P (.bx ext T x) e bx m K) : o.wp P a w (Nxt w0 m0 β a o K) Q := by
  obtain ⟨y, hy, h⟩ := asV_inv h
  have run : ∀ cs : List Value, y.cells.toList = cs → (execOp a.eval o).run P w = .ok (.value (.pointer (some ⟨w.heap.size, 0, none⟩))) (w.alloc (.cells ⟨cs⟩ T (0, 0))) := by
    intro cs hcs
    have : y.cells = ⟨cs⟩ := by rw [← hcs]
    simp [execOp, ho, ev_a hE hy, Instr.box, newVar, newRow, this]
  split at h
  · rename_i cs
    cases ext with
    | true =>
      obtain ⟨h1, h2⟩ := hM.new (.cells cs T (0, 0))
      exact nxt_val (e := e) (.v _) bx [] _ (run cs.toList rfl) rfl (by simpa using h2) (h.out _ h1)
    | false => exact nxt_val (e := e) _ _ [w.heap.size] m (run cs.toList rfl) (AvR_new _ _ hM.len) (hM.box' _ T) (force_inv h)
  · exact h.elim
  · rename_i n1 n2
    have hy1 : y.cells.toList = [y] := by cases y <;> first | rfl | (exact absurd rfl (n1 _))
    cases ext with
    | true =>
      obtain ⟨h1, h2⟩ := hM.new (.cells #[y] T (0, 0))
      exact nxt_val (e := e) (.v _) bx [] _ (run [y] hy1) rfl (by simpa using h2) (h.out _ h1)
    | false => exact nxt_val (e := e) _ _ [w.heap.size] m (run [y] hy1) (AvR_new _ _ hM.len) (hM.box' _ T) h
theorem place_inv (hE : ER β e a) {sz : Nat} : ∀ {parts : List (Nat × Operand)} {c : List Value} {K : List Value → Prop}, place e sz c parts K →
    ∃ cs, Instr.fill (fun i => some (i * sz, sz)) ⟨c⟩ (parts.map fun p => (p.1, a.eval p.2)) = some ⟨cs⟩ ∧ K cs
  | [], c, K, h => ⟨c, rfl, force_inv h⟩
  | (i, x) :: r, c, K, h => by
    obtain ⟨y, hy, h⟩ := asV_inv h
    obtain ⟨hl, h⟩ := vcs_inv h
    split at h
    · rename_i hb
      obtain ⟨cs, h1, h2⟩ := place_inv hE (parts := r) h
      refine ⟨cs, ?_, h2⟩
      simp only [List.map_cons, ev_a hE hy]
      rw [fill_step rfl hl (Nat.le_of_ble_eq_true hb)]
      exact h1
    · exact h.elim
theorem zs_length (n : Nat) (z : List Value) : (zs n z).length = n * z.length := by simp [zs]
theorem zs_get (z : List Value) : ∀ (n j : Nat), j < n * z.length → (zs n z)[j]? = z[j % z.length]?
  | 0, j, h => by simp at h
  | n + 1, j, h => by
    have e1 : zs (n + 1) z = z ++ zs n z := by simp [zs, List.replicate_succ]
    rw [e1]
    by_cases hj : j < z.length
    · rw [List.getElem?_append_left hj, Nat.mod_eq_of_lt hj]
    · rw [List.getElem?_append_right (by omega), zs_get z n _ (by rw [Nat.add_mul] at h; omega)]
      rw [Nat.mod_eq_sub_mod (by omega : j ≥ z.length)]
theorem zeros_eq (z : Array Value) (n : Nat) : (Array.range (n * z.size)).map (fun i => z[i % z.size]!) = ⟨zs n z.toList⟩ := by
  apply Array.ext
  · simp [zs_length]
  · intro i h1 h2
    simp only [Array.size_map, Array.size_range] at h1
    have hz : 0 < z.size := by
      rcases Nat.eq_zero_or_pos z.size with h | h
      · rw [h] at h1; simp at h1
      · exact h
    have hm : i % z.size < z.size := Nat.mod_lt _ hz
    have h3 := zs_get z.toList n i (by simpa using h1)
    simp only [Array.length_toList] at h3
    rw [List.getElem?_eq_getElem (by simpa [zs_length] using h1), List.getElem?_eq_getElem (by simpa using hm)] at h3
    simp only [Option.some.injEq] at h3
    simp only [Array.getElem_map, Array.getElem_range, List.getElem_toArray]
    rw [h3]
    simp [hm]
theorem er0 (f : Nat → Value) : (Array.range 0).map f = (⟨[]⟩ : Array Value) := by apply Array.ext <;> simp
theorem bs_sound (hE : ER β e a) (hM : MR w0 m0 bx β m w) {t el : TypeId} {i : TypeInfo} {z : Value} {len : Nat} {parts : Array (Nat × Operand)} (ho : o.op = .buildSlice t len parts) (ht : elemT? P t = some el) (hi : P.info? el = some i) (hz : i.zero = some z)
    (hle : len * i.size ≤ 2 ^ 24) (hzs : z.cells.size = i.size) (h : sv P (.bs el i.size len (zs len z.cells.toList) parts.toList) e bx m K) : o.wp P a w (Nxt w0 m0 β a o K) Q := by
  have hu : P.underlying t = some (.slice el) := by
    unfold elemT? at ht; split at ht
    · cases ht; assumption
    · cases ht
  obtain ⟨cs, h1, h2⟩ := place_inv hE h
  have hp : (parts.map fun (p : Nat × Operand) => (p.1, a.eval p.2)).toList = parts.toList.map fun p => (p.1, a.eval p.2) := by simp
  have run : (execOp a.eval o).run P w = .ok (.value (.slice (some ⟨w.heap.size, 0, none⟩) len len)) (w.alloc (.cells ⟨cs⟩ el (0, 0))) := by
    have hle' : ¬ len * i.size > 2 ^ 24 := by omega
    by_cases h0 : len * i.size = 0
    · have e1 : zs len z.cells.toList = [] := List.eq_nil_of_length_eq_zero (by rw [zs_length]; simpa [hzs] using h0)
      rw [e1] at h1
      simp only [execOp, ho, Instr.buildSlice, Sem.run_bind, run_und hu, Result.andThen_ok, run_so hi, if_neg hle', if_pos h0, Sem.run_pure, hp]
      rw [h0, er0, h1]
      simp [newRow]
    · have hb2 : (Array.range (len * i.size)).map (fun q => z.cells[q % z.cells.size]!) = ⟨zs len z.cells.toList⟩ := by rw [← hzs]; exact zeros_eq _ _
      simp only [execOp, ho, Instr.buildSlice, Sem.run_bind, run_und hu, Result.andThen_ok, run_so hi, if_neg hle', if_neg h0, Sem.run_pure, hp, zeroValue, run_ti hi, hz, hb2]
      simp [h1, newRow]
  obtain ⟨g1, g2⟩ := hM.new (.cells ⟨cs⟩ el (0, 0))
  exact nxt_val (e := e) (.v _) bx [] _ run rfl (by simpa using g2) (h2.out _ g1)
theorem mk_sound (hE : ER β e a) (hM : MR w0 m0 bx β m w) {t el : TypeId} {i : TypeInfo} {z : Value} {l : Operand} (ho : o.op = .makeSlice t l l) (ht : elemT? P t = some el) (hi : P.info? el = some i) (hz : i.zero = some z)
    (hzs : z.cells.size = i.size) (h : sv P (.mk el i.size i.bytes z.cells.toList l) e bx m K) : o.wp P a w (Nxt w0 m0 β a o K) Q := by
  have hu : P.underlying t = some (.slice el) := by
    unfold elemT? at ht; split at ht
    · cases ht; assumption
    · cases ht
  obtain ⟨k, nn, hx, h⟩ := asI_inv h
  obtain ⟨n, rfl, hb, h63, h⟩ := h.out
  have hw : IntKind.i64.wrap (n : Int) = n := by
    unfold IntKind.wrap; simp [IntKind.bits, IntKind.signed]; omega
  have run : (execOp a.eval o).run P w = .ok (.value (.slice (some ⟨w.heap.size, 0, none⟩) n n)) (w.alloc (.cells ⟨zs n z.cells.toList⟩ el (0, 0))) := by
    have hb' : (i.bytes : Int) * (n : Int) ≤ 2 ^ 48 := by
      have : i.bytes * n ≤ 2 ^ 48 := by rw [Nat.mul_comm]; exact hb
      exact_mod_cast this
    have hc : ¬ ((i.bytes : Int) * (n : Int) > 2 ^ 48) := by omega
    have hneg : ¬ ((n : Int) < 0) := by omega
    have hc' : ¬ (281474976710656 < (i.bytes : Int) * (n : Int)) := by omega
    by_cases h0 : n * i.size = 0
    · have e1 : zs n z.cells.toList = [] := List.eq_nil_of_length_eq_zero (by rw [zs_length]; simpa [hzs] using h0)
      simp [execOp, ho, Instr.makeSlice, run_und hu, ev_v hE hx, asInt, asIntOf, run_ti hi, hw, hneg, hc', run_so hi, h0, newRow, e1, er0]
    · have hb2 : (Array.range (n * i.size)).map (fun q => z.cells[q % z.cells.size]!) = ⟨zs n z.cells.toList⟩ := by rw [← hzs]; exact zeros_eq _ _
      simp only [execOp, ho, Instr.makeSlice, Sem.run_bind, run_und hu, Result.andThen_ok, ev_v hE hx, asInt, asIntOf, Sem.run_pure, run_ti hi, hw]
      rw [if_neg (by simp [hneg]; omega)]
      simp only [Sem.run_bind, run_askRoom, Result.andThen_ok, run_so hi, Int.toNat_natCast, if_neg h0, zeroValue, run_ti hi, hz, Sem.run_pure, hb2, newRow, run_newObj]
      rfl
  obtain ⟨g1, g2⟩ := hM.new (.cells ⟨zs n z.cells.toList⟩ el (0, 0))
  exact nxt_val (e := e) (.v _) bx [] _ run rfl (by simpa using g2) (h _ g1)
theorem tr_wp (hM : MR w0 m0 bx β m w) {f : FuncId} {vs : Array Value} (h : Tr P f vs m fun v m' => K (.v v) bx m') :
    Calls P f vs w fun | .returned v, w'' => Nxt w0 m0 β a o K (a.put o.dst v) w'' | .panicked chain, w'' => Q (.panic chain) a w'' | .outgrown, _ => LetsOut Q := by
  refine (h.out w hM.st.le).mono fun en w' ⟨v, m', he, hs, hr⟩ => ?_
  subst he
  exact ⟨v, .v v, bx, [], m', rfl, rfl, by simpa using hM.call hs, hr⟩
theorem run_cf (hP : POk P) {f : FuncId} {fn : Func} {c : Code} (hf : P.funcs[f]? = some fn) (hb : fn.body = some c) (vs : Array Value) (w : World) : (callFunc f vs).run P w = .ok (.enter f vs) w := by
  have h1 := hP.names f fn hf
  simp only [callFunc, Sem.run_bind, run_program, Result.andThen_ok, hf, h1, hb, Option.isNone_some, Bool.false_eq_true, if_false, Sem.run_pure]
theorem call_sound (hP : POk P) (hE : ER β e a) (hM : MR w0 m0 bx β m w) {c : Call} {f : FuncId} {fn : Func} {cd : Code} (ho : o.op = .call c) (hc : c.callee = .value (.func f)) (hf : P.funcs[f]? = some fn) (hb : fn.body = some cd)
    (h : sv P (.call f c.args.toList) e bx m K) : o.wp P a w (Nxt w0 m0 β a o K) Q := by
  have h2 := args_inv hE h
  have ea : (⟨c.args.toList.map a.eval⟩ : Array Value) = c.args.map a.eval := by rw [← Array.toList_map]
  rw [ea] at h2
  have run : (execOp a.eval o).run P w = .ok (.enter f (c.args.map a.eval)) w := by
    simp [execOp, ho, resolve, hc, Act.eval, Deferred.ofValue, invoke, run_cf hP hf hb]
  unfold Oper.wp; rw [run]
  exact tr_wp hM h2
theorem cv_sound (hP : POk P) (hE : ER β e a) (hM : MR w0 m0 bx β m w) {c : Call} {g : Operand} (ho : o.op = .call c) (hc : c.callee = .value g)
    (h : sv P (.cv g c.args.toList) e bx m K) : o.wp P a w (Nxt w0 m0 β a o K) Q := by
  simp only [sv] at h
  split at h
  · rename_i f first caps hx
    split at h
    · rename_i hf
      have h2 := args_inv hE h
      have hfe : first = #[] := by simpa using hf
      obtain ⟨⟨fn, cd, hfn, hb⟩, h3⟩ := h2
      have ea : (⟨c.args.toList.map a.eval ++ caps.toList⟩ : Array Value) = c.args.map a.eval ++ caps := by
        apply Array.toList_inj.1; simp
      rw [ea] at h3
      have run : (execOp a.eval o).run P w = .ok (.enter f (c.args.map a.eval ++ caps)) w := by
        simp [execOp, ho, resolve, hc, ev_v hE hx, Deferred.ofValue, invoke, hfe, run_cf hP hfn hb]
      unfold Oper.wp; rw [run]
      exact tr_wp hM h3
    · exact h.elim
  · exact h.elim
theorem rd_run {A : Option Addr} {cs : List Value} {n sz c : Nat} (hM : MR w0 m0 bx β m w) (hr : Rd m A cs) (hl : cs.length = n * sz) : (Builtin.firstCells sz n (.slice A n c)).run P w = .ok ⟨cs⟩ w := by
  cases A with
  | none =>
    have : cs = [] := by
      cases cs with
      | nil => rfl
      | cons v r => obtain ⟨a, ha, _⟩ := hr 0 v rfl; cases ha
    subst this
    simp [Builtin.firstCells]
  | some ad =>
    have := run_loadCells_list (P := P) w ad cs (fun j v hj => by obtain ⟨a, ha, hc⟩ := hr j v hj; cases ha; exact hM.st.le.cell hc)
    rw [hl] at this
    simp [Builtin.firstCells, this]
theorem zeroCells_eq (z : Array Value) (n : Nat) : Builtin.zeroCells z n = ⟨zs n z.toList⟩ := zeros_eq z n
theorem ap_sound (hE : ER β e a) (hM : MR w0 m0 bx β m w) {c : Call} {t t' el el' : TypeId} {s x : Operand} {i : TypeInfo} {z : Value} (ho : o.op = .call c) (hc : c.callee = .builtin .append) (h1 : c.argTypes.toList = [t, t']) (h2 : c.args.toList = [s, x])
    (ht : elemT? P t = some el) (ht' : elemT? P t' = some el') (hi : P.info? el = some i) (hz : i.zero = some z) (hzs : z.cells.size = i.size)
    (h : sv P (.ap el i.size i.bytes z.cells.toList s x) e bx m K) : o.wp P a w (Nxt w0 m0 β a o K) Q := by
  have hu : ∀ {t el : TypeId}, elemT? P t = some el → P.underlying t = some (.slice el) := by
    intro t el ht
    unfold elemT? at ht; split at ht
    · cases ht; assumption
    · cases ht
  have hu1 := hu ht
  have hu2 := hu ht'
  obtain ⟨A, n, cp, hs, h⟩ := asS_inv h
  obtain ⟨B, k, c2, hx, h⟩ := asS_inv h
  obtain ⟨new, hnl, hnr, hin, hgr⟩ := h.out
  have e1 : c.argTypes = #[t, t'] := by rw [← h1]
  have e2 : c.args = #[s, x] := by rw [← h2]
  have exec : (execOp a.eval o).run P w = ((Builtin.append_ #[t, t'] o.type #[.slice A n cp, .slice B k c2]).run P w).andThen fun v w' => .ok (.value v) w' := by
    simp [execOp, ho, resolve, hc, invoke, builtin, e1, e2, ev_v hE hs, ev_v hE hx]
  have rnew : ∀ c3, (Builtin.firstCells i.size k (.slice B k c3)).run P w = .ok ⟨new⟩ w := fun c3 => rd_run hM hnr hnl
  by_cases hroom : n + k ≤ cp
  · obtain ⟨q1, q2⟩ := hin hroom
    by_cases hne : new = []
    · subst hne
      have run : (Builtin.append_ #[t, t'] o.type #[.slice A n cp, .slice B k c2]).run P w = .ok (.slice A (n + k) cp) w := by
        cases A with
        | none => simp [Builtin.append_, run_und hu1, run_und hu2, run_so hi, Builtin.lenOf, hroom, rnew]
        | some ad => simp [Builtin.append_, run_und hu1, run_und hu2, run_so hi, Builtin.lenOf, hroom, rnew, storeCells]
      exact nxt_val (e := e) (.v _) bx [] m (by rw [exec, run]; rfl) rfl (by simpa using hM) (q1 rfl)
    · obtain ⟨ad, rfl, h⟩ := q2 hne
      obtain ⟨g1, c3, T, hm, hsp, g3, g4⟩ := h.out
      generalize hadd : ad.add (n * i.size) = ad' at hm hsp g3 g4
      obtain ⟨b, off, sp⟩ := ad'
      simp only at hsp hm g3 g4
      subst hsp
      have hst := run_st (P := P) (hM.st.le _ _ hm) g3 g1
      have run : (Builtin.append_ #[t, t'] o.type #[.slice (some ad) n cp, .slice B k c2]).run P w = .ok (.slice (some ad) (n + k) cp) (w.setRow b ⟨wr c3 off new⟩) := by
        simp [Builtin.append_, run_und hu1, run_und hu2, run_so hi, Builtin.lenOf, hroom, rnew, hadd, hst]
      exact nxt_val (e := e) (.v _) bx [] _ (by rw [exec, run]; rfl) rfl (by simpa using hM.upd hm) g4
  · obtain ⟨old, hol, hor, hby, hb0, hk⟩ := hgr (by omega)
    have rold := rd_run (P := P) (c := cp) hM hor hol
    have hfit : ¬ (Builtin.nextslicecap (n + k) cp * i.bytes > 2 ^ 48) := by
      have := growslice_fits (need := n + k) (old := cp) (bytes := i.bytes) (by omega) hby
      omega
    have h47 : n + k ≤ 140737488355328 := Nat.le_trans (Nat.le_mul_of_pos_right _ (by omega)) hby
    have hi64 : ¬ (((n + k : Nat) : Int) > IntKind.i64.max) := by
      simp [IntKind.max, IntKind.bits, IntKind.signed]; omega
    let cap := Question.cut (.appendCap (n + k) cp el) (w.tape w.drawn (.appendCap (n + k) cp el))
    have hcap : n + k ≤ cap ∧ cap < 2 ^ 63 := by
      have hlt := Nat.mod_lt (w.tape w.drawn (.appendCap (n + k) cp el)) (show 0 < 2 ^ 63 - (n + k) by omega)
      simp only [cap, Question.cut]
      omega
    have rold' : (Builtin.firstCells i.size n (.slice A n cp)).run P w.drew = .ok ⟨old⟩ w.drew := by
      have := rd_run (P := P) (w := w.drew) (n := n) (sz := i.size) (c := cp) (w0 := w0) (m0 := m0) (bx := bx) (β := β) (m := m) ⟨⟨hM.st.os, hM.st.tape, hM.st.output, hM.st.size, hM.st.le, hM.st.frame, hM.st.dom⟩, hM.len, hM.box, hM.inj⟩ hor hol
      exact this
    have rnew' : (Builtin.firstCells i.size k (.slice B k c2)).run P w.drew = .ok ⟨new⟩ w.drew := by
      have := rd_run (P := P) (w := w.drew) (n := k) (sz := i.size) (c := c2) (w0 := w0) (m0 := m0) (bx := bx) (β := β) (m := m) ⟨⟨hM.st.os, hM.st.tape, hM.st.output, hM.st.size, hM.st.le, hM.st.frame, hM.st.dom⟩, hM.len, hM.box, hM.inj⟩ hnr hnl
      exact this
    have hMd : MR w0 m0 bx β m w.drew := ⟨⟨hM.st.os, hM.st.tape, hM.st.output, hM.st.size, hM.st.le, hM.st.frame, hM.st.dom⟩, hM.len, hM.box, hM.inj⟩
    obtain ⟨g1, g2⟩ := hMd.new (.cells ⟨old ++ new ++ zs (cap - (n + k)) z.cells.toList⟩ el (0, 0))
    have hz' : zeroValue el = zeroValue el := rfl
    have run : (Builtin.append_ #[t, t'] o.type #[.slice A n cp, .slice B k c2]).run P w = .ok (.slice (some ⟨w.heap.size, 0, none⟩) (n + k) cap) (w.drew.alloc (.cells ⟨old ++ new ++ zs (cap - (n + k)) z.cells.toList⟩ el (0, 0))) := by
      have e3 : (⟨old⟩ : Array Value) ++ ⟨new⟩ ++ Builtin.zeroCells z.cells (cap - (n + k)) = ⟨old ++ new ++ zs (cap - (n + k)) z.cells.toList⟩ := by
        rw [zeroCells_eq]; simp
      have ch : ∀ w, (choose (.appendCap (n + k) cp el)).run P w = .ok (Question.cut (.appendCap (n + k) cp el) (w.tape w.drawn (.appendCap (n + k) cp el))) w.drew := fun w => by simp [Question.forced]
      simp only [Builtin.append_, Sem.run_bind, List.getElem?_toArray, List.getElem?_cons_zero, List.getElem?_cons_succ, run_und hu1, run_und hu2, Result.andThen_ok, run_so hi, Sem.run_pure, Builtin.lenOf, Bool.false_eq_true, if_false, Bool.not_false, if_true, run_ti hi]
      rw [if_neg hroom]
      simp only [Sem.run_bind, run_ti hi, Result.andThen_ok]
      rw [if_neg (by intro hh; exact hi64 hh.1)]
      simp only [Sem.run_bind, run_ti hi, Result.andThen_ok]
      rw [if_neg hfit]
      simp only [Sem.run_bind, ch, Result.andThen_ok, run_ti hi, run_askRoom, rold', rnew', zeroValue, hz, Sem.run_pure, newRow, run_newObj, e3, Sem.run_pure]
      show _ = Result.ok _ _
      simp only [e3, cap] at *
      simp [World.alloc, e3]
    exact nxt_val (e := e) (.v _) bx [] _ (by rw [exec, run]; rfl) rfl (by simpa using g2) (hk _ _ g1 hcap.1 hcap.2)
theorem clr_sound (hE : ER β e a) (hM : MR w0 m0 bx β m w) {c : Call} {t el : TypeId} {x : Operand} {i : TypeInfo} {z : Value} (ho : o.op = .call c) (hc : c.callee = .builtin .clear) (h1 : c.argTypes.toList = [t]) (h2 : c.args.toList = [x])
    (ht : elemT? P t = some el) (hi : P.info? el = some i) (hz : i.zero = some z) (hzs : z.cells.size = i.size)
    (h : sv P (.clr i.size z.cells.toList x) e bx m K) : o.wp P a w (Nxt w0 m0 β a o K) Q := by
  have hu : P.underlying t = some (.slice el) := by
    unfold elemT? at ht; split at ht
    · cases ht; assumption
    · cases ht
  obtain ⟨A, n, cp, hx, h⟩ := asS_inv h
  obtain ⟨q1, q2⟩ := h.out
  have e1 : c.argTypes = #[t] := by rw [← h1]
  have e2 : c.args = #[x] := by rw [← h2]
  by_cases hn : n = 0
  · subst hn
    have run : (execOp a.eval o).run P w = .ok (.value (.tuple #[])) w := by
      cases A <;> simp [execOp, ho, resolve, hc, invoke, builtin, e1, e2, ev_v hE hx, Builtin.clear_, run_und hu]
    exact nxt_val (e := e) (.v _) bx [] m run rfl (by simpa using hM) (q1 rfl)
  · obtain ⟨ad, hA, h2'⟩ := q2 hn
    subst hA
    obtain ⟨g1, c3, T, hm, hsp, g3, g4⟩ := h2'.out
    clear q1 q2
    cases ad with | mk b off sp =>
    simp only at hsp hm g3 g4
    subst hsp
    have hst := run_st (P := P) (hM.st.le _ _ hm) g3 g1
    have run : (execOp a.eval o).run P w = .ok (.value (.tuple #[])) (w.setRow b ⟨wr c3 off (zs n z.cells.toList)⟩) := by
      have hsc : (storeCells ⟨b, off, none⟩ (Builtin.zeroCells z.cells n).toList).run P w = .ok () (w.setRow b ⟨wr c3 off (zs n z.cells.toList)⟩) := by rw [zeroCells_eq]; exact hst
      obtain ⟨n, rfl⟩ : ∃ q, n = q + 1 := ⟨n - 1, by omega⟩
      simp [execOp, ho, resolve, hc, invoke, builtin, e1, e2, ev_v hE hx, Builtin.clear_, run_und hu, zeroValue, run_ti hi, hz, hsc]
    exact nxt_val (e := e) (.v _) bx [] _ run rfl (by simpa using hM.upd hm) g4
theorem sv_sound (hP : POk P) (hE : ER β e a) (hM : MR w0 m0 bx β m w) {ext : Bool} {i : I} (hc : compS P ext o.op = some i) (h : sv P i e bx m K) : o.wp P a w (Nxt w0 m0 β a o K) Q := by
  unfold compS at hc
  split at hc
  · rename_i t x v ho
    split at hc
    · rename_i ti hi; cases hc; exact st_sound hE hM ho hi h
    · cases hc
  · rename_i T ho
    split at hc
    · rename_i ti hi
      split at hc
      · rename_i z hz; cases hc; exact al_sound hE hM ho hi hz h
      · cases hc
    · cases hc
  · rename_i T x ho; cases hc; exact bx_sound hE hM ho h
  · rename_i t len parts ho
    split at hc
    · rename_i el ht
      split at hc
      · rename_i ti hi
        split at hc
        · rename_i z hz
          split at hc
          · rename_i hb; cases hc
            simp only [Bool.and_eq_true] at hb
            exact bs_sound hE hM ho ht hi hz (Nat.le_of_ble_eq_true hb.1) (Nat.eq_of_beq_eq_true hb.2) h
          · cases hc
        · cases hc
      · cases hc
    · cases hc
  · rename_i t l c ho
    split at hc
    · rename_i el x y ht
      split at hc
      · rename_i ti hi
        split at hc
        · rename_i z hz
          split at hc
          · rename_i hb; cases hc
            simp only [Bool.and_eq_true] at hb
            obtain rfl := Nat.eq_of_beq_eq_true hb.1
            exact mk_sound hE hM ho ht hi hz (Nat.eq_of_beq_eq_true hb.2) h
          · cases hc
        · cases hc
      · cases hc
    · cases hc
  · rename_i c ho
    split at hc
    · rename_i b hb
      split at hc
      · rename_i t t' s x h1 h2
        split at hc
        · rename_i el el' ht ht'
          split at hc
          · rename_i ti hi
            split at hc
            · rename_i z hz
              split at hc
              · rename_i hb'; cases hc
                exact ap_sound hE hM ho hb h1 h2 ht ht' hi hz (Nat.eq_of_beq_eq_true hb') h
              · cases hc
            · cases hc
          · cases hc
        · cases hc
      · rename_i t x h1 h2
        split at hc
        · rename_i el ht
          split at hc
          · rename_i ti hi
            split at hc
            · rename_i z hz
              split at hc
              · rename_i hb'; cases hc
                exact clr_sound hE hM ho hb h1 h2 ht hi hz (Nat.eq_of_beq_eq_true hb') h
              · cases hc
            · cases hc
          · cases hc
        · cases hc
      · cases hc
    · rename_i f hf
      split at hc
      · rename_i fn hfn
        split at hc
        · rename_i cd hb; cases hc; exact call_sound hP hE hM ho hf hfn hb h
        · cases hc
      · cases hc
    · rename_i g hg _; cases hc; exact cv_sound hP hE hM ho (by assumption) h
    · cases hc
  · cases hc
end
end Go.Vc
