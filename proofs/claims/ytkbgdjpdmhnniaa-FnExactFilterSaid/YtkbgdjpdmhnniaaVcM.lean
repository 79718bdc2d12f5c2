/- The walker: a region that draws its order. One order serves all. Own work. No condition. -/
import Derived.Test.YtkbgdjpdmhnniaaVcL
namespace Go.Vc
open Go
set_option linter.unusedVariables false
set_option linter.unusedSimpArgs false
def wpAnyC (P : Program) (ops : Array Oper) (C : World → Prop) (pres : Nat → Bool) (Q : Exit → Act → World → Prop) : Nat → Array Bool → Act → World → Prop
  | 0, listed, a, w => Region.ready .any ops listed = [] ∧ Q .normal a w
  | f + 1, listed, a, w => (Region.ready .any ops listed = [] → Q .normal a w) ∧
      ∀ i ∈ Region.ready .any ops listed, wpOp P ops Q i (fun a' w' => (pres i = true → C w → C w') ∧ wpAnyC P ops C pres Q f (listed.setIfInBounds i true) a' w') a w
inductive Blk (ops : Array Oper) (i : Nat) : Nat → Prop
  | direct {j : Nat} {oj : Oper} {ed : Edge} : ops[j]? = some oj → ed ∈ oj.after → Region.binds .any ed = true → ed.on = i → Blk ops i j
  | step {j : Nat} {oj : Oper} {ed : Edge} : ops[j]? = some oj → ed ∈ oj.after → Region.binds .any ed = true → Blk ops i ed.on → Blk ops i j
def Closed (ops : Array Oper) (listed : Array Bool) : Prop := ∀ (j : Nat) (oj : Oper), ops[j]? = some oj → listed.getD j false = true → ∀ ed ∈ oj.after, Region.binds .any ed = true → listed.getD ed.on false = true
section
variable {P : Program} {ops : Array Oper} {C : World → Prop} {pres : Nat → Bool} {Q : Exit → Act → World → Prop}
theorem wpAny_of_C : ∀ (f : Nat) (listed : Array Bool) (a : Act) (w : World), wpAnyC P ops C pres Q f listed a w → wpAny P .any ops Q f listed a w
  | 0, _, _, _, h => h
  | f + 1, listed, a, w, h => ⟨h.1, fun i hi => wpOp_mono (fun a' w' h' => wpAny_of_C f _ a' w' h'.2) (h.2 i hi)⟩
theorem Blk.un {i j : Nat} (h : Blk ops i j) {listed : Array Bool} (hc : Closed ops listed) (hi : listed.getD i false = false) : listed.getD j false = false := by
  induction h with
  | direct ho he hb hon =>
    cases hl : listed.getD _ false with
    | false => rfl
    | true => have := hc _ _ ho hl _ he hb; rw [hon, hi] at this; cases this
  | step ho he hb _ ih =>
    cases hl : listed.getD _ false with
    | false => rfl
    | true => have := hc _ _ ho hl _ he hb; rw [ih] at this; cases this
theorem Blk.not_ready {i j : Nat} (h : Blk ops i j) {listed : Array Bool} (hc : Closed ops listed) (hi : listed.getD i false = false) : j ∉ Region.ready .any ops listed := by
  intro hr
  obtain ⟨_, o, ho, hall⟩ := mem_ready.1 hr
  cases h with
  | direct ho' he hb hon =>
    cases ho.symm.trans ho'
    have := hall _ he hb
    rw [hon, hi] at this; cases this
  | step ho' he hb hk =>
    cases ho.symm.trans ho'
    have := hall _ he hb
    rw [hk.un hc hi] at this; cases this
theorem Closed.set {listed : Array Bool} (hc : Closed ops listed) {i : Nat} (hi : i ∈ Region.ready .any ops listed) : Closed ops (listed.setIfInBounds i true) := by
  intro j oj hj hl ed he hb
  by_cases hij : i = j
  · subst hij
    obtain ⟨_, o, ho, hall⟩ := mem_ready.1 hi
    cases ho.symm.trans hj
    exact getD_set_true (hall ed he hb)
  · rw [getD_set_ne false hij] at hl
    exact getD_set_true (hc j oj hj hl ed he hb)
theorem YieldsC.same {cls : World → Prop} {o : Oper} {v : Value} {a a' : Act} (hy : YieldsC P ops cls o v a) (he : execOp a'.eval o = execOp a.eval o) (hw : Region.wanted o (yielded ops a'.tmps) = Region.wanted o (yielded ops a.tmps)) : YieldsC P ops cls o v a' := by
  unfold YieldsC at *
  rw [he, hw]
  exact hy
/-- Two operations apart may change places. -/
theorem wpOp_swap {cls : World → Prop} {j : Nat} {oi oj : Oper} {v : Value} (hj : ops[j]? = some oj) (hap : oi.apart ops oj = true) (hsi : ∀ cs b, oi.op ≠ .select cs b) (hsj : ∀ cs b, oj.op ≠ .select cs b)
    (hQ : ∀ c a w, ¬ Q (.panic c) a w) {K : Act → World → Prop} {a : Act} {w : World} (hy : YieldsC P ops cls oi v a) (h : wpOp P ops Q j K (a.put oi.dst v) w) :
    wpOp P ops Q j (fun a' w' => YieldsC P ops cls oi v a' ∧ K (a'.put oi.dst v) w') a w := by
  obtain ⟨h1, h2, h3⟩ := Oper.apart_spec hap
  have kp : ∀ (b : Act), YieldsC P ops cls oi v b → ∀ u, YieldsC P ops cls oi v (b.put oj.dst u) := fun b hb u => hb.same (execOp_put oi hsi b oj.dst u h3) (wanted_put oi b oj.dst u h3)
  have kd : ∀ d, YieldsC P ops cls oi v { a with defers := d :: a.defers } := fun d => hy.same rfl rfl
  unfold wpOp at *
  simp only [hj] at *
  rw [wanted_put oj a oi.dst v h1] at h
  by_cases hw : Region.wanted oj (yielded ops a.tmps) = true
  · simp only [hw, if_true] at h ⊢
    rcases h with h | ⟨hasks, hlets⟩
    · refine .inl ?_
      unfold Oper.wp at *
      rw [execOp_put oj hsj a oi.dst v h1] at h
      generalize (execOp a.eval oj).run P w = r at *
      rcases r with ⟨n, w'⟩ | ⟨x, w'⟩
      · cases n <;> simp only [Oper.upon] at h ⊢
        case value u => exact ⟨kp a hy u, by rw [← Act.put_comm a v u h2]; exact h⟩
        case skip => exact ⟨kp a hy _, by rw [← Act.put_comm a v undef h2]; exact h⟩
        case defer d => exact ⟨kp _ (kd d) _, by rw [← Act.put_comm _ v undef h2, ← Act.put_defers]; exact h⟩
        case enter f args =>
          refine Calls.mono h fun e w'' he => ?_
          cases e with
          | returned u => exact ⟨kp a hy u, by rw [← Act.put_comm a v u h2]; exact he⟩
          | panicked c => exact absurd he (hQ _ _ _)
          | outgrown => exact he
        case row row args => exact Rows.mono h fun u w'' he => ⟨kp a hy u, by rw [← Act.put_comm a v u h2]; exact he⟩
      · cases x <;> simp only [Oper.upon] at h ⊢
        case panic u => exact absurd h (hQ _ _ _)
    · exact .inr ⟨by unfold Oper.asks at *; rw [execOp_put oj hsj a oi.dst v h1] at hasks; exact hasks, hlets⟩
  · simp only [hw, Bool.false_eq_true, if_false] at h ⊢
    exact ⟨kp a hy _, by rw [← Act.put_comm a v undef h2]; exact h⟩
theorem YieldsC.now {cls : World → Prop} {i : Nat} {o : Oper} {v : Value} {a : Act} {w : World} (hi : ops[i]? = some o) (hy : YieldsC P ops cls o v a) (hw : cls w) {K : Act → World → Prop} (h : K (a.put o.dst v) w) : wpOp P ops Q i K a w := by
  unfold wpOp
  simp only [hi]
  rcases hy with ⟨hv, h3⟩ | ⟨hv, rfl⟩
  · simp only [hv, if_true]
    refine .inl ?_
    unfold Oper.wp
    rw [h3 w hw]
    exact h
  · simp only [hv, Bool.false_eq_true, if_false]; exact h
theorem first {i : Nat} {oi : Oper} {v : Value} {cls : World → Prop} (hi : ops[i]? = some oi) (hsel : ∀ (j : Nat) (o : Oper) cs b, ops[j]? = some o → o.op ≠ .select cs b) (hQ : ∀ c a w, ¬ Q (.panic c) a w) :
    ∀ (fuel : Nat) (listed : Array Bool) (a : Act) (w : World), Closed ops listed → cls w →
      (∀ (j : Nat) (oj : Oper), ops[j]? = some oj → j ≠ i → listed.getD j true = false → ¬ Blk ops i j → ∀ w w', cls w → (pres j = true → C w → C w') → cls w') →
      (∀ (j : Nat) (oj : Oper), ops[j]? = some oj → j ≠ i → listed.getD j true = false → (∀ e ∈ oj.after, Region.binds .any e = true → e.on ≠ i) → oi.apart ops oj = true) →
      i ∈ Region.ready .any ops listed → YieldsC P ops cls oi v a →
      wpAnyC P ops C pres Q fuel (listed.setIfInBounds i true) (a.put oi.dst v) w → wpAnyC P ops C pres Q (fuel + 1) listed a w := by
  intro fuel
  induction fuel with
  | zero =>
    intro listed a w hcl hw _ _ hr hy H
    refine ⟨fun h => (by rw [h] at hr; cases hr), fun j hj => ?_⟩
    by_cases hji : j = i
    · subst hji; exact hy.now hi hw ⟨fun _ h => h, H⟩
    · have := ready_mono hj hji
      rw [H.1] at this
      cases this
  | succ fuel ih =>
    intro listed a w hcl hw hpres hfree hr hy H
    refine ⟨fun h => (by rw [h] at hr; cases hr), fun j hj => ?_⟩
    by_cases hji : j = i
    · subst hji; exact hy.now hi hw ⟨fun _ h => h, H⟩
    · have h1 := H.2 j (ready_mono hj hji)
      obtain ⟨hjun, oj, hoj, hall⟩ := mem_ready.1 hj
      have hiun : listed.getD i false = false := by
        have h0 := (mem_ready.1 hr).1
        rcases Nat.lt_or_ge i listed.size with h' | h'
        · simp [h'] at h0 ⊢; exact h0
        · simp [Array.getElem?_eq_none h'] at h0
      have hnot : ∀ e ∈ oj.after, Region.binds .any e = true → e.on ≠ i := fun e he hb heq => by
        have h1 := hall e he hb
        rw [heq, hiun] at h1; cases h1
      have hnb : ¬ Blk ops i j := fun hb => hb.not_ready hcl hiun hj
      have h2 := wpOp_swap hoj (hfree j oj hoj hji hjun hnot) (fun cs b => hsel i oi cs b hi) (fun cs b => hsel j oj cs b hoj) hQ hy h1
      have sub : ∀ k, (listed.setIfInBounds j true).getD k true = false → listed.getD k true = false := fun k hun => by
        by_cases hjk : j = k
        · subst hjk; exact hjun
        · rw [getD_set_ne true hjk] at hun; exact hun
      refine wpOp_mono (fun a' w' h3 => ?_) h2
      have hcw := h3.2.1
      refine ⟨hcw, ih (listed.setIfInBounds j true) a' w' (hcl.set hj) (hpres j oj hoj hji hjun hnb w w' hw hcw) (fun k ok hk hki hun hb => hpres k ok hk hki (sub k hun) hb)
        (fun k ok hk hki hun hno => hfree k ok hk hki (sub k hun) hno) (ready_mono hr (Ne.symm hji)) h3.1 ?_⟩
      rw [Array.setIfInBounds_comm _ _ hji]
      exact h3.2.2
/-! ### The order that is walked -/
inductive It
  | fin
  | op (idx : Nat) (rest : It)
  | alt (a b : It)
def It.depth : It → Nat
  | .fin => 0
  | .op _ r => r.depth + 1
  | .alt a b => max a.depth b.depth
def mkOt (f : Oper → Option Nd) (ops : Array Oper) : It → Option Ot
  | .fin => some .fin
  | .op i r => match (ops[i]?).bind f, mkOt f ops r with
    | some nd, some t => some (.op i nd t)
    | _, _ => none
  | .alt a b => match mkOt f ops a, mkOt f ops b with
    | some s, some t => some (.alt s t)
    | _, _ => none
def isFree (P : Program) (ops : Array Oper) (j : Nat) : Bool := match ops[j]? with
  | some o => (compF P o.op).isSome
  | none => false
def isLoad (P : Program) (ops : Array Oper) (j : Nat) : Bool := match ops[j]? with
  | some o => match compF P o.op with | some i => i.loads | none => false
  | none => false
def presB (P : Program) (ops : Array Oper) (pl : List Nat) (j : Nat) : Bool := isFree P ops j || pl.contains j
/-- The operations that wait for i, directly or through others. -/
def blkSet (ops : Array Oper) (i : Nat) : List Nat :=
  (List.range ops.size).foldl (fun acc j => match ops[j]? with
    | some oj => if oj.after.toList.any (fun ed => Region.binds .any ed && (ed.on == i || acc.contains ed.on)) then j :: acc else acc
    | none => acc) []
def ldB (P : Program) (ops : Array Oper) (pl : List Nat) (listed : Array Bool) (i : Nat) : Bool :=
  (List.range ops.size).all fun j => j == i || listed.getD j true || presB P ops pl j || (blkSet ops i).contains j
def itB (P : Program) (ops : Array Oper) (pl : List Nat) : It → Array Bool → Bool
  | .fin, listed => (Region.ready .any ops listed).isEmpty
  | .op i r, listed => (match isFree P ops i with
      | true => (Region.ready .any ops listed).contains i && Region.free .any ops listed i && (!isLoad P ops i || ldB P ops pl listed i)
      | false => Region.ready .any ops listed == [i]) && itB P ops pl r (listed.setIfInBounds i true)
  | .alt (.op i r) (.op j s), listed => !isFree P ops i && !isFree P ops j && Region.ready .any ops listed == [i, j] && itB P ops pl r (listed.setIfInBounds i true) && itB P ops pl s (listed.setIfInBounds j true)
  | .alt _ _, _ => false
theorem blkSet_spec {i j : Nat} (h : j ∈ blkSet ops i) : Blk ops i j := by
  have key : ∀ (l acc : List Nat), (∀ k ∈ acc, Blk ops i k) → ∀ k ∈ l.foldl (fun acc j => match ops[j]? with
      | some oj => if oj.after.toList.any (fun ed => Region.binds .any ed && (ed.on == i || acc.contains ed.on)) then j :: acc else acc
      | none => acc) acc, Blk ops i k := by
    intro l
    induction l with
    | nil => intro acc hacc; exact hacc
    | cons x l ih =>
      intro acc hacc
      simp only [List.foldl_cons]
      apply ih
      split
      · rename_i oj hoj
        split
        · rename_i hany
          intro k hk
          rcases List.mem_cons.1 hk with rfl | hk
          · obtain ⟨ed, hed, hb⟩ := List.any_eq_true.1 hany
            simp only [Bool.and_eq_true, Bool.or_eq_true, beq_iff_eq, List.contains_iff_mem] at hb
            rcases hb with ⟨hb, hon | hon⟩
            · exact .direct hoj (Array.mem_toList_iff.1 hed) hb hon
            · exact .step hoj (Array.mem_toList_iff.1 hed) hb (hacc _ hon)
          · exact hacc k hk
        · exact hacc
      · exact hacc
  exact key _ [] (fun k hk => by cases hk) j h
end
section
variable {P : Program} {N : Nat} {exts : List Nat} {ops : Array Oper} {pl : List Nat} {w0 : World} {m0 : Mem} {lb : Bx} {β0 : List Nat} {lm : Mem}
theorem compNd_free {o : Oper} {nd : Nd} {ext : Bool} (hn : NdOf P N ext ops o nd) {i : Nat} (hi : ops[i]? = some o) : isFree P ops i = nd.i.free := by
  unfold isFree
  rw [hi]
  have := hn.i
  unfold compI at this
  cases h : compF P o.op with
  | some j => rw [h] at this; cases this; simp [h, compF_free h]
  | none =>
    rw [h] at this
    have h' : compS P ext o.op = some nd.i := this
    simp [h, compS_not h']
theorem compNd_load {o : Oper} {nd : Nd} {ext : Bool} (hn : NdOf P N ext ops o nd) {i : Nat} (hi : ops[i]? = some o) (hl : nd.i.loads = true) : isLoad P ops i = true := by
  have hf : nd.i.free = true := by cases hh : nd.i <;> rw [hh] at hl <;> first | rfl | (simp [I.loads] at hl)
  unfold isLoad
  rw [hi]
  simp only [compI_free hn.i hf, hl]
theorem op_case (hP : POk P) {K : Env → Bx → Mem → Prop} {i : Nat} {nd : Nd} {rest : Ot} {ext : Bool} {o : Oper} {listed : Array Bool} {fuel : Nat}
    (hi : ops[i]? = some o) (hn : NdOf P N ext ops o nd) (hnf : nd.i.free = false)
    (ih : ∀ (ok : Bool) (r : List Nat) (e : Env) (bx : Bx) (m : Mem) (a : Act) (w : World), ER (β0 ++ r) e a → MR w0 m0 bx (β0 ++ r) m w → a.defers = [] → N ≤ a.tmps.size →
      (ok = true → Ext lm m ∧ ∃ r', bx = lb ++ r') → otv P pl lb lm rest ok e bx m K → wpAnyC P ops (Cls β0 lb lm) (presB P ops pl) (fun ex a w => ex = .normal ∧ RelK w0 m0 N K a w) fuel (listed.setIfInBounds i true) a w)
    (ok : Bool) (r : List Nat) (e : Env) (bx : Bx) (m : Mem) (a : Act) (w : World) (hE : ER (β0 ++ r) e a) (hM : MR w0 m0 bx (β0 ++ r) m w) (hd : a.defers = []) (hN : N ≤ a.tmps.size)
    (hok : ok = true → Ext lm m ∧ ∃ r', bx = lb ++ r') (hlen : β0.length = lb.length) (h : otv P pl lb lm (.op i nd rest) ok e bx m K) :
    wpOp P ops (fun ex a w => ex = .normal ∧ RelK w0 m0 N K a w) i (fun a' w' => (presB P ops pl i = true → Cls β0 lb lm w → Cls β0 lb lm w') ∧ wpAnyC P ops (Cls β0 lb lm) (presB P ops pl) (fun ex a w => ex = .normal ∧ RelK w0 m0 N K a w) fuel (listed.setIfInBounds i true) a' w') a w := by
  have hpr : presB P ops pl i = pl.contains i := by unfold presB; rw [compNd_free hn hi, hnf, Bool.false_or]
  have cls_of : ∀ (bx : Bx) (r' : List Nat) (m' : Mem) (w' : World) (s : List (List Value)), MR w0 m0 bx (β0 ++ r') m' w' → bx = lb ++ s → Ext lm m' → Cls β0 lb lm w' := by
    intro bx r' m' w' s hM' hbx hext
    refine ⟨fun k b c hb hc => ?_, .inl hlen, fun b o hb => hM'.st.le b o (hext b o hb)⟩
    refine (hM'.box k b c ?_ ?_).2.2
    · rw [List.getElem?_append_left (List.getElem?_eq_some_iff.1 hb).1]; exact hb
    · rw [hbx, List.getElem?_append_left (List.getElem?_eq_some_iff.1 hc).1]; exact hc
  unfold otv at h
  rw [hnf] at h
  simp only at h
  cases hpc : pl.contains i with
  | true =>
    rw [hpc] at h
    cases ok with
    | false => exact h.elim
    | true =>
      obtain ⟨hex, r0, hbx0⟩ := hok rfl
      -- the walk's lb, lm are not looked at by an operation that is not free
      have h' : nv P nd e bx m bx m (fun e bx' m' => Ext m m' ∧ (∃ r, bx' = bx ++ r) ∧ otv P pl lb lm rest true e bx' m' K) := by
        unfold nv at h ⊢
        simp only [hnf] at h ⊢
        exact h
      refine wpOp_mono (fun a' w' hh => ?_) (nvs hP hn hnf hE hM hd hN hi h')
      obtain ⟨e', bx', r', m', g1, g2, g3, g4, g5, ⟨s, g6⟩, g7⟩ := hh
      rw [List.append_assoc] at g1 g2
      have hex' : Ext lm m' := fun b o hb => g5 b o (hex b o hb)
      have hbx' : bx' = lb ++ (r0 ++ s) := by rw [g6, hbx0, List.append_assoc]
      exact ⟨fun _ _ => cls_of bx' _ m' w' _ g2 hbx' hex', ih true (r ++ r') e' bx' m' a' w' g1 g2 g3 g4 (fun _ => ⟨hex', _, hbx'⟩) g7⟩
  | false =>
    rw [hpc] at h
    have h' : nv P nd e bx m bx m (fun e bx' m' => otv P pl lb lm rest false e bx' m' K) := by
      unfold nv at h ⊢
      simp only [hnf] at h ⊢
      exact h
    refine wpOp_mono (fun a' w' hh => ?_) (nvs hP hn hnf hE hM hd hN hi h')
    obtain ⟨e', bx', r', m', g1, g2, g3, g4, g5⟩ := hh
    rw [List.append_assoc] at g1 g2
    exact ⟨fun hp => (by rw [hpr, hpc] at hp; cases hp), ih false (r ++ r') e' bx' m' a' w' g1 g2 g3 g4 (fun hh => by cases hh) g5⟩
theorem otv_sound (hP : POk P) (hlen : β0.length = lb.length) (hsel : Region.noSelect ops = true) (K : Env → Bx → Mem → Prop) : ∀ (t : It) (ot : Ot) (listed : Array Bool) (x : Nat), mkOt (compNd P N exts ops) ops t = some ot → itB P ops pl t listed = true → Closed ops listed →
    ∀ (ok : Bool) (r : List Nat) (e : Env) (bx : Bx) (m : Mem) (a : Act) (w : World), ER (β0 ++ r) e a → MR w0 m0 bx (β0 ++ r) m w → a.defers = [] → N ≤ a.tmps.size →
    (ok = true → Ext lm m ∧ ∃ r', bx = lb ++ r') → otv P pl lb lm ot ok e bx m K →
    wpAnyC P ops (Cls β0 lb lm) (presB P ops pl) (fun ex a w => ex = .normal ∧ RelK w0 m0 N K a w) (t.depth + x) listed a w
  | .fin, ot, listed, x, hmk, hB, hcl, ok, r, e, bx, m, a, w, hE, hM, hd, hN, hok, h => by
    simp only [mkOt, Option.some.injEq] at hmk
    subst hmk
    have hr : Region.ready .any ops listed = [] := by simpa [itB] using hB
    have hq : RelK w0 m0 N K a w := ⟨e, bx, _, m, hE, hM, hd, hN, h⟩
    cases x with
    | zero => exact ⟨hr, rfl, hq⟩
    | succ x => exact ⟨fun _ => ⟨rfl, hq⟩, fun i hi => by rw [hr] at hi; cases hi⟩
  | .op i rest, ot, listed, x, hmk, hB, hcl, ok, r, e, bx, m, a, w, hE, hM, hd, hN, hok, h => by
    simp only [mkOt] at hmk
    split at hmk
    case h_2 => cases hmk
    rename_i nd rt hnd hrt
    cases hmk
    obtain ⟨o, hi, hc⟩ := Option.bind_eq_some_iff.1 hnd
    obtain ⟨ext, hn⟩ := compNd_inv hc
    have ef := compNd_free hn hi
    simp only [itB, Bool.and_eq_true] at hB
    obtain ⟨hB1, hB2⟩ := hB
    have e0 : (It.op i rest).depth + x = (rest.depth + x) + 1 := by simp only [It.depth]; omega
    rw [e0]
    cases hf : nd.i.free with
    | false =>
      rw [ef, hf] at hB1
      have hr : Region.ready .any ops listed = [i] := by simpa using hB1
      refine ⟨fun h0 => (by rw [hr] at h0; cases h0), fun j hj => ?_⟩
      rw [hr] at hj
      obtain rfl : j = i := by simpa using hj
      exact op_case hP hi hn hf (fun ok r e bx m a w h1 h2 h3 h4 h5 h6 => otv_sound hP hlen hsel K rest rt _ x hrt hB2 (hcl.set (by rw [hr]; simp)) ok r e bx m a w h1 h2 h3 h4 h5 h6) ok r e bx m a w hE hM hd hN hok hlen h
    | true =>
      rw [ef, hf] at hB1
      simp only [Bool.and_eq_true, Bool.or_eq_true, Bool.not_eq_true', List.contains_iff_mem] at hB1
      obtain ⟨⟨hr, hfr⟩, hld⟩ := hB1
      unfold otv at h
      rw [hf] at h
      simp only at h
      cases hlk : (ok || !nd.i.loads) with
      | false => rw [hlk] at h; exact h.elim
      | true =>
        rw [hlk] at h
        simp only at h
        obtain ⟨e', u, h1, h2, h3⟩ := nvf hn hf hE hN h
        have hrest := otv_sound hP hlen hsel K rest rt (listed.setIfInBounds i true) x hrt hB2 (hcl.set hr) ok r e' bx m (a.put o.dst u) w h1 hM (by rw [put_defers]; exact hd) (by rw [put_size]; exact hN) hok h2
        have cl : ∀ w', Cls β0 lb lm w' → Cls (β0 ++ r) lb lm w' := fun w' hc' => ⟨fun k b c hb hcc => hc'.box k b c (by
          rw [List.getElem?_append_left (by rw [hlen]; exact (List.getElem?_eq_some_iff.1 hcc).1)] at hb; exact hb) hcc, .inr (by simp [hlen]), hc'.mem⟩
        have now : nd.i.loads = true → Cls β0 lb lm w := fun hl => by
          have hokt : ok = true := by cases ok <;> simp_all
          obtain ⟨hex, r0, hbx0⟩ := hok hokt
          refine ⟨fun k b c hb hcc => (hM.box k b c (by rw [List.getElem?_append_left (List.getElem?_eq_some_iff.1 hb).1]; exact hb) (by rw [hbx0, List.getElem?_append_left (List.getElem?_eq_some_iff.1 hcc).1]; exact hcc)).2.2, .inl hlen, fun b o hb => hM.st.le b o (hex b o hb)⟩
        refine first (cls := fun w => nd.i.loads = true → Cls β0 lb lm w) hi (Region.noSelect_spec hsel) (fun c a w hh => by cases hh.1) _ listed a w hcl now ?_ (Region.free_spec hi hfr) hr ?_ hrest
        · intro j oj hoj hne hun hnb w1 w2 hc1 hp hl
          rcases hld with hl' | hl'
          · rw [compNd_load hn hi hl] at hl'; cases hl'
          · have hj := List.all_eq_true.1 hl' j (List.mem_range.2 (Array.getElem?_eq_some_iff.1 hoj).1)
            simp only [Bool.or_eq_true, beq_iff_eq, List.contains_iff_mem, hne, false_or, hun, Bool.false_eq_true] at hj
            rcases hj with hj | hj
            · exact hp hj (hc1 hl)
            · exact absurd (blkSet_spec hj) hnb
        · rcases h3 with ⟨q1, q2⟩ | q
          · exact .inl ⟨q1, fun w' hw' => q2 w' (fun hl => cl w' (hw' hl))⟩
          · exact .inr q
  | .alt (.op i ra) (.op j rb), ot, listed, x, hmk, hB, hcl, ok, r, e, bx, m, a, w, hE, hM, hd, hN, hok, h => by
    simp only [itB, Bool.and_eq_true, Bool.not_eq_true', beq_iff_eq] at hB
    obtain ⟨⟨⟨⟨hfi, hfj⟩, hr⟩, hBa⟩, hBb⟩ := hB
    rw [mkOt] at hmk
    split at hmk
    case h_2 => cases hmk
    rename_i sa sb hsa hsb
    cases hmk
    simp only [mkOt] at hsa hsb
    split at hsa
    case h_2 => cases hsa
    rename_i nda ta hnda hta
    cases hsa
    split at hsb
    case h_2 => cases hsb
    rename_i ndb tb hndb htb
    cases hsb
    obtain ⟨oa, hia, hca⟩ := Option.bind_eq_some_iff.1 hnda
    obtain ⟨exta, hna⟩ := compNd_inv hca
    obtain ⟨ob, hib, hcb⟩ := Option.bind_eq_some_iff.1 hndb
    obtain ⟨extb, hnb⟩ := compNd_inv hcb
    rw [compNd_free hna hia] at hfi
    rw [compNd_free hnb hib] at hfj
    obtain ⟨x', hx'⟩ : ∃ x', (It.alt (.op i ra) (.op j rb)).depth + x = (ra.depth + x') + 1 := ⟨(It.alt (.op i ra) (.op j rb)).depth + x - 1 - ra.depth, by simp only [It.depth]; omega⟩
    obtain ⟨x'', hx''⟩ : ∃ x'', ra.depth + x' = rb.depth + x'' := ⟨ra.depth + x' - rb.depth, by simp only [It.depth] at hx'; omega⟩
    rw [hx']
    refine ⟨fun h0 => (by rw [hr] at h0; cases h0), fun q hq => ?_⟩
    have hq' := hq
    rw [hr] at hq
    simp only [List.mem_cons, List.not_mem_nil, or_false] at hq
    unfold otv at h
    rcases hq with rfl | rfl
    · exact op_case hP hia hna hfi (fun ok r e bx m a w h1 h2 h3 h4 h5 h6 => otv_sound hP hlen hsel K ra ta _ x' hta hBa (hcl.set hq') ok r e bx m a w h1 h2 h3 h4 h5 h6) ok r e bx m a w hE hM hd hN hok hlen h.1
    · rw [hx'']
      exact op_case hP hib hnb hfj (fun ok r e bx m a w h1 h2 h3 h4 h5 h6 => otv_sound hP hlen hsel K rb tb _ x'' htb hBb (hcl.set hq') ok r e bx m a w h1 h2 h3 h4 h5 h6) ok r e bx m a w hE hM hd hN hok hlen h.2
  | .alt .fin _, _, _, _, _, hB, _, _, _, _, _, _, _, _, _, _, _, _, _, _ => by simp [itB] at hB
  | .alt (.alt _ _) _, _, _, _, _, hB, _, _, _, _, _, _, _, _, _, _, _, _, _, _ => by simp [itB] at hB
  | .alt (.op _ _) .fin, _, _, _, _, hB, _, _, _, _, _, _, _, _, _, _, _, _, _, _ => by simp [itB] at hB
  | .alt (.op _ _) (.alt _ _), _, _, _, _, hB, _, _, _, _, _, _, _, _, _, _, _, _, _, _ => by simp [itB] at hB
end
end Go.Vc
