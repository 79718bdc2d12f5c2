/- The walker: whole functions. Own work. No condition. -/
import Derived.Test.YtkbgdjpdmhnniaaVcM
namespace Go.Vc
open Go
set_option linter.unusedVariables false
set_option linter.unusedSimpArgs false
def compC (P : Program) (N : Nat) (exts : List Nat) (hints : Nat → List Nat × It) : Code → Option C
  | .skip => some .skip
  | .region id ops draw => match draw with
    | false => (ops.toList.mapM (compNd P N exts ops)).map C.rg
    | true => match mkOt (compNd P N exts ops) ops (hints id).2 with
      | some t => match Region.noSelect ops && itB P ops (hints id).1 (hints id).2 (Array.replicate ops.size false) && Nat.ble (hints id).2.depth ops.size with
        | true => some (.dr (hints id).1 t)
        | false => none
      | none => none
  | .seq a b => match compC P N exts hints a, compC P N exts hints b with
    | some x, some y => some (.seq x y)
    | _, _ => none
  | .cond c a b => match compC P N exts hints a, compC P N exts hints b with
    | some x, some y => some (.cond c x y)
    | _, _ => none
  | .block id c => (compC P N exts hints c).map (C.block id)
  | .loop c => (compC P N exts hints c).map C.loop
  | .exit id => some (.exit id)
  | .ret => some .ret
  | _ => none
/-- What the machine's way to end means. -/
def WQ (w0 : World) (m0 : Mem) (N : Nat) (Q : Post) : Exit → Act → World → Prop
  | .normal, a, w => RelK w0 m0 N (Q .nrm) a w
  | .exit id, a, w => RelK w0 m0 N (Q (.ext id)) a w
  | .ret, a, w => RelK w0 m0 N (Q .ret) a w
  | _, _, _ => False
theorem least {p : Nat → Prop} (h : ∃ n, p n) : ∃ n, p n ∧ ∀ m, p m → n ≤ m := by
  obtain ⟨n, hn⟩ := h
  induction n using Nat.strongRecOn with
  | _ n ih =>
    by_cases hc : ∃ m, m < n ∧ p m
    · obtain ⟨m, hm, hp⟩ := hc; exact ih m hm hp
    · exact ⟨n, hn, fun m hm => by
        rcases Nat.lt_or_ge m n with h | h
        · exact absurd ⟨m, h, hm⟩ hc
        · exact h⟩
theorem Pre_spec : ∀ {a b : Bx}, Pre a b → ∃ r, b = a ++ r
  | [], b, _ => ⟨b, rfl⟩
  | c :: r, c' :: r', h => by
    obtain ⟨s, hs⟩ := Pre_spec h.2
    exact ⟨s, by rw [h.1, hs]; rfl⟩
  | _ :: _, [], h => h.elim
def InB (n : Nat) : AV → Prop
  | .b k _ => k < n
  | _ => True
theorem allIn_spec {n : Nat} : ∀ {l : List (Nat × AV)}, allIn n l = true → ∀ p ∈ l, InB n p.2
  | [], _, p, hp => by cases hp
  | (s, x) :: r, h, p, hp => by
    have hr : allIn n r = true := by cases x <;> simp_all [allIn]
    rcases List.mem_cons.1 hp with rfl | hp
    · cases x with
      | b k o =>
        simp only [allIn, Bool.and_eq_true] at h
        exact Nat.le_of_ble_eq_true h.1
      | v y => trivial
      | k t => trivial
      | u => trivial
    · exact allIn_spec hr p hp
section
variable {P : Program} {N : Nat} {exts : List Nat} {hints : Nat → List Nat × It} {w0 : World} {m0 : Mem}
theorem Fit_er {β : List Nat} {e : Env} {a : Act} (hE : ER β e a) : ∀ {l : List (Nat × AV)}, Fit e l → ER β (envOf l) a
  | [], _ => fun _ => trivial
  | (s, x) :: r, h => by
    intro t
    have := Fit_er hE h.2
    unfold envOf Env.set
    by_cases hb : Nat.beq t s = true
    · obtain rfl := Nat.eq_of_beq_eq_true hb
      simp only [hb, cond_true]
      rw [← h.1]; exact hE t
    · simp only [Bool.not_eq_true] at hb
      simp only [hb, cond_false]
      exact this t
theorem MR.shrink {bx r : Bx} {β : List Nat} {m : Mem} {w : World} (h : MR w0 m0 (bx ++ r) β m w) : MR w0 m0 bx (β.take bx.length) m w := by
  have hl : bx.length ≤ β.length := by rw [h.len]; simp
  have get : ∀ (k b : Nat), (β.take bx.length)[k]? = some b → β[k]? = some b ∧ k < bx.length := fun k b hb => by
    rw [List.getElem?_take] at hb
    split at hb
    · exact ⟨hb, by assumption⟩
    · cases hb
  refine ⟨h.st, by rw [List.length_take, Nat.min_eq_left hl], fun k b c hb hc => ?_, fun i j b hi hj => h.inj i j b (get i b hi).1 (get j b hj).1⟩
  obtain ⟨h1, h2⟩ := get k b hb
  exact h.box k b c h1 (by rw [List.getElem?_append_left h2]; exact hc)
/-- The state at a loop's head. -/
theorem head_rel {e : Env} {bx : Bx} {β : List Nat} {m : Mem} {a : Act} {w : World} (hE : ER β e a) (hM : MR w0 m0 bx β m w) {l : List (Nat × AV)} {bx0 : Bx} (hf : Fit e l) (hp : Pre bx0 bx) (hin : ∀ p ∈ l, InB bx0.length p.2) :
    ∃ β', ER β' (envOf l) a ∧ MR w0 m0 bx0 β' m w := by
  obtain ⟨r, rfl⟩ := Pre_spec hp
  have hM' := hM.shrink
  have hl : bx0.length ≤ β.length := by rw [hM.len]; simp
  refine ⟨β.take bx0.length, ?_, hM'⟩
  have h1 := Fit_er hE hf
  intro t
  have h2 := h1 t
  have : InB bx0.length (envOf l t) := by
    clear h1 h2 hf
    induction l with
    | nil => trivial
    | cons p l ih =>
      unfold envOf Env.set
      cases hb : Nat.beq t p.1 with
      | true => exact hin p (by simp)
      | false => exact ih (fun q hq => hin q (by simp [hq]))
  cases h : envOf l t with
  | v y => rw [h] at h2; exact h2
  | k t => rw [h] at h2; exact h2
  | u => trivial
  | b k o =>
    rw [h] at h2 this
    obtain ⟨g, hg, hu⟩ := h2
    exact ⟨g, by rw [List.getElem?_take, if_pos (show k < bx0.length from this)]; exact hg, hu⟩
theorem cvc_sound (hP : POk P) : ∀ (cd : Code) (c : C), compC P N exts hints cd = some c → ∀ (Q : Post) (e : Env) (bx : Bx) (β : List Nat) (m : Mem) (a : Act) (w : World),
    ER β e a → MR w0 m0 bx β m w → a.defers = [] → N ≤ a.tmps.size → cvc P c Q e bx m → cd.wp P (WQ w0 m0 N Q) a w
  | .skip, c, hc, Q, e, bx, β, m, a, w, hE, hM, hd, hN, h => by
    simp only [compC, Option.some.injEq] at hc; subst hc
    exact wp_skip ⟨e, bx, β, m, hE, hM, hd, hN, h⟩
  | .region id ops draw, c, hc, Q, e, bx, β, m, a, w, hE, hM, hd, hN, h => by
    cases draw with
    | false =>
      simp only [compC, Option.map_eq_some_iff] at hc
      obtain ⟨nds, hnds, rfl⟩ := hc
      have hall : ∀ (l : List Oper) (nds : List Nd), l.mapM (compNd P N exts ops) = some nds → l.length = nds.length ∧ ∀ (j : Nat) (o : Oper) (nd : Nd), l[j]? = some o → nds[j]? = some nd → ∃ ext, NdOf P N ext ops o nd := by
        intro l
        induction l with
        | nil => intro nds h; simp at h; subst h; exact ⟨rfl, fun j o nd ho => by simp at ho⟩
        | cons o l ih =>
          intro nds h
          simp only [List.mapM_cons, Option.bind_eq_bind, Option.bind_eq_some_iff, Option.pure_def, Option.some.injEq] at h
          obtain ⟨nd, h1, nds', h2, rfl⟩ := h
          obtain ⟨i1, i2⟩ := ih nds' h2
          refine ⟨by simp [i1], fun j o' nd' ho hn => ?_⟩
          cases j with
          | zero => simp at ho hn; subst ho hn; exact compNd_inv h1
          | succ j => exact i2 j o' nd' (by simpa using ho) (by simpa using hn)
      obtain ⟨h1, h2⟩ := hall _ _ hnds
      have := osv_sound (ops := ops) (Q := fun _ _ _ => False) (w0 := w0) (m0 := m0) (N := N) hP nds ops.toList 0 (by simp) h1 h2 e bx β m a w (Q .nrm) hE hM hd hN h
      rw [show List.range' 0 ops.toList.length = List.range ops.size by simp [List.range_eq_range']] at this
      refine wp_mono (wp_region this) fun ex a w hq => ?_
      rcases hq with ⟨rfl, hq⟩ | hq
      · exact hq
      · exact hq.elim
    | true =>
      simp only [compC] at hc
      split at hc
      case h_2 => cases hc
      rename_i t ht
      split at hc
      case h_2 => cases hc
      rename_i hb
      cases hc
      simp only [Bool.and_eq_true] at hb
      obtain ⟨⟨hs, hB⟩, hdp⟩ := hb
      have hdp' := Nat.le_of_ble_eq_true hdp
      have hMd : MR w0 m0 bx β m w.drew := ⟨⟨hM.st.os, hM.st.tape, hM.st.output, hM.st.size, hM.st.le, hM.st.frame, hM.st.dom⟩, hM.len, hM.box, hM.inj⟩
      have hcl : Closed ops (Array.replicate ops.size false) := by
        intro j oj hj hl
        exfalso
        rw [Array.getD_eq_getD_getElem?] at hl
        rcases Nat.lt_or_ge j ops.size with h' | h'
        · simp [h'] at hl
        · rw [Array.getElem?_eq_none (by simpa using h')] at hl; simp at hl
      have := otv_sound (ops := ops) (pl := (hints id).1) (lb := bx) (lm := m) (β0 := β) (w0 := w0) (m0 := m0) (N := N) (exts := exts) hP hM.len hs (Q .nrm) (hints id).2 t (Array.replicate ops.size false) (ops.size - (hints id).2.depth) ht hB hcl
        true [] e bx m a w.drew (by simpa using hE) (by simpa using hMd) hd hN (fun _ => ⟨fun _ _ h => h, [], by simp⟩) h
      rw [show (hints id).2.depth + (ops.size - (hints id).2.depth) = ops.size by omega] at this
      refine wp_mono (wp_region_any hP.mixed (wpAny_of_C _ _ _ _ this)) fun ex a w hq => ?_
      obtain ⟨rfl, hq⟩ := hq
      exact hq
  | .seq x y, c, hc, Q, e, bx, β, m, a, w, hE, hM, hd, hN, h => by
    simp only [compC] at hc
    split at hc
    case h_2 => cases hc
    rename_i cx cy hx hy
    cases hc
    refine wp_seq (wp_mono (cvc_sound hP x cx hx _ e bx β m a w hE hM hd hN h) fun ex a w hq => ?_)
    cases ex with
    | normal =>
      obtain ⟨e', bx', β', m', h1, h2, h3, h4, h5⟩ := hq
      exact cvc_sound hP y cy hy Q e' bx' β' m' a w h1 h2 h3 h4 h5
    | exit id => exact hq
    | ret => exact hq
    | goto l => exact hq.elim
    | panic ch => exact hq.elim
    | outgrown => exact hq.elim
  | .cond cn x y, c, hc, Q, e, bx, β, m, a, w, hE, hM, hd, hN, h => by
    simp only [compC] at hc
    split at hc
    case h_2 => cases hc
    rename_i cx cy hx hy
    cases hc
    obtain ⟨t, ht, h⟩ := branch_inv h
    refine wp_cond (t := t) (ev_a hE ht) ?_
    rcases h with ⟨rfl, h⟩ | ⟨rfl, h⟩
    · exact cvc_sound hP x cx hx Q e bx β m a w hE hM hd hN h
    · exact cvc_sound hP y cy hy Q e bx β m a w hE hM hd hN h
  | .block id x, c, hc, Q, e, bx, β, m, a, w, hE, hM, hd, hN, h => by
    simp only [compC, Option.map_eq_some_iff] at hc
    obtain ⟨cx, hx, rfl⟩ := hc
    refine wp_block (wp_mono (cvc_sound hP x cx hx _ e bx β m a w hE hM hd hN h) fun ex a w hq => ?_)
    cases ex with
    | normal => exact hq
    | exit id' =>
      by_cases hid : id' = id
      · subst hid
        simp only [Exit.inBlock, if_true]
        refine RelK.mono hq fun e bx m hh => ?_
        simpa using hh
      · simp only [Exit.inBlock, hid, if_false]
        refine RelK.mono hq fun e bx m hh => ?_
        have : Nat.beq id' id = false := by
          cases hb : Nat.beq id' id
          · rfl
          · exact absurd (Nat.eq_of_beq_eq_true hb) hid
        simpa [this] using hh
    | ret => exact hq
    | goto l => exact hq.elim
    | panic ch => exact hq.elim
    | outgrown => exact hq.elim
  | .loop x, c, hc, Q, e, bx, β, m, a, w, hE, hM, hd, hN, h => by
    simp only [compC, Option.map_eq_some_iff] at hc
    obtain ⟨cx, hx, rfl⟩ := hc
    obtain ⟨σ, vals, bxs, J, μ, s0, hin, hf, hp, hJ, hround⟩ := h.out
    let R : σ → Act → World → Prop := fun s a w => ∃ β m, ER β (envOf (vals s)) a ∧ MR w0 m0 (bxs s) β m w ∧ a.defers = [] ∧ N ≤ a.tmps.size ∧ J s m
    let p : Act → World → Nat → Prop := fun a w n => ∃ s, μ s = n ∧ R s a w
    have hmin : ∀ a w, ∃ n, (∃ k, p a w k) → p a w n ∧ ∀ k, p a w k → n ≤ k := fun a w => by
      by_cases hh : ∃ k, p a w k
      · obtain ⟨n, h1, h2⟩ := least hh; exact ⟨n, fun _ => ⟨h1, h2⟩⟩
      · exact ⟨0, fun h => absurd h hh⟩
    let ν : Act → World → Nat := fun a w => Classical.choose (hmin a w)
    have hν : ∀ a w, (∃ k, p a w k) → p a w (ν a w) ∧ ∀ k, p a w k → ν a w ≤ k := fun a w => Classical.choose_spec (hmin a w)
    obtain ⟨β1, hE1, hM1⟩ := head_rel hE hM hf hp (allIn_spec (hin s0))
    refine wp_loop (fun a w => ∃ k, p a w k) ν ⟨_, s0, rfl, β1, m, hE1, hM1, hd, hN, hJ⟩ ?_
    intro a w hI
    obtain ⟨⟨s, hs, β', m', g1, g2, g3, g4, g5⟩, _⟩ := hν a w hI
    refine wp_mono (cvc_sound hP x cx hx _ _ _ β' m' a w g1 g2 g3 g4 (hround s m' g5)) fun ex a' w' hq => ?_
    cases ex with
    | normal =>
      obtain ⟨e2, bx2, β2, m2, k1, k2, k3, k4, s', k5, k6, k7, k8⟩ := hq
      obtain ⟨β3, hE3, hM3⟩ := head_rel k1 k2 k5 k6 (allIn_spec (hin s'))
      have hp' : p a' w' (μ s') := ⟨s', rfl, β3, m2, hE3, hM3, k3, k4, k7⟩
      refine ⟨⟨_, hp'⟩, ?_⟩
      have := (hν a' w' ⟨_, hp'⟩).2 _ hp'
      omega
    | exit id => exact hq
    | ret => exact hq
    | goto l => exact hq.elim
    | panic ch => exact hq.elim
    | outgrown => exact hq.elim
  | .exit id, c, hc, Q, e, bx, β, m, a, w, hE, hM, hd, hN, h => by
    simp only [compC, Option.some.injEq] at hc; subst hc
    exact wp_exit ⟨e, bx, β, m, hE, hM, hd, hN, h⟩
  | .ret, c, hc, Q, e, bx, β, m, a, w, hE, hM, hd, hN, h => by
    simp only [compC, Option.some.injEq] at hc; subst hc
    exact wp_ret ⟨e, bx, β, m, hE, hM, hd, hN, h⟩
  | .rangeFunc .., c, hc, _, _, _, _, _, _, _, _, _, _, _, _ => by simp [compC] at hc
  | .scope _, c, hc, _, _, _, _, _, _, _, _, _, _, _, _ => by simp [compC] at hc
  | .label _, c, hc, _, _, _, _, _, _, _, _, _, _, _, _ => by simp [compC] at hc
  | .goto _, c, hc, _, _, _, _, _, _, _, _, _, _, _, _ => by simp [compC] at hc
  | .refuse _, c, hc, _, _, _, _, _, _, _, _, _, _, _, _ => by simp [compC] at hc
end
/-! ### Functions -/
inductive Rv
  | t (s : Nat)
  | c (s : Nat) (n : Option Nat)
def compR (P : Program) : ResultVar → Option Rv
  | .tmp t => some (.t t)
  | .cell s T => match isStr P T, P.info? T with
    | some true, some i => some (.c s (some i.size))
    | some false, some _ => some (.c s none)
    | _, _ => none
def rvv (e : Env) (bx : Bx) (m : Mem) : Rv → (Value → Prop) → Prop
  | .t s, K => asV (e s) K
  | .c s n, K => fv (.ld n (.tmp s)) e bx m fun x => asV x K
def rvs (e : Env) (bx : Bx) (m : Mem) (rs : List Rv) (R : Value → Mem → Prop) : Prop := match rs with
  | [] => R (.tuple #[]) m
  | [r] => rvv e bx m r fun v => R v m
  | [r, s] => rvv e bx m r fun v => rvv e bx m s fun u => R (.tuple #[v, u]) m
  | _ => False
def argEnv : List Value → Env
  | [] => fun _ => .u
  | v :: r => fun t => match t with | 0 => .v v | t + 1 => argEnv r t
def hint : List (Nat × List Nat × It) → Nat → List Nat × It
  | [], _ => ([], .fin)
  | (i, p) :: r, k => match Nat.beq i k with | true => p | false => hint r k
structure Cd where
  c : C
  rs : List Rv
def compFn (P : Program) (exts : List Nat) (hs : List (Nat × List Nat × It)) (fn : Func) : Option Cd := match fn.body with
  | none => none
  | some cd => match compC P fn.ntmps exts (hint hs) cd, fn.results.toList.mapM (compR P) with
    | some c, some rs => some ⟨c, rs⟩
    | _, _ => none
def rf (tmps : Array Value) : ResultVar → Sem Value
  | .tmp t => pure (tmps.getD t undef)
  | .cell a t => do loadVar t (← asAddr (tmps.getD a undef))
theorem res_eq (fn : Func) (tmps : Array Value) : results fn tmps = (do let vs ← fn.results.mapM (rf tmps); pure (if h : vs.size = 1 then vs[0] else .tuple vs)) := rfl
theorem res1 {P : Program} {w : World} {f : ResultVar → Sem Value} {x : ResultVar} {v : Value} (hx : (f x).run P w = .ok v w) :
    ((do let vs ← (⟨[x]⟩ : Array ResultVar).mapM f; pure (if h : vs.size = 1 then vs[0] else Value.tuple vs)) : Sem Value).run P w = .ok v w := by simp [hx]
theorem res2 {P : Program} {w : World} {f : ResultVar → Sem Value} {x y : ResultVar} {v u : Value} (hx : (f x).run P w = .ok v w) (hy : (f y).run P w = .ok u w) :
    ((do let vs ← (⟨[x, y]⟩ : Array ResultVar).mapM f; pure (if h : vs.size = 1 then vs[0] else Value.tuple vs)) : Sem Value).run P w = .ok (.tuple #[v, u]) w := by simp [hx, hy]
def endQ (rs : List Rv) (R : Value → Mem → Prop) : Post := fun ex e bx m => match ex with
  | .nrm => rvs e bx m rs R
  | .ret => rvs e bx m rs R
  | .ext _ => False
theorem argEnv_get : ∀ (l : List Value) (t : Nat), argEnv l t = (match l[t]? with | some v => .v v | none => .u)
  | [], t => by simp [argEnv]
  | v :: r, 0 => rfl
  | v :: r, t + 1 => by simpa [argEnv] using argEnv_get r t
theorem rvv_sound {P : Program} {e : Env} {bx : Bx} {β : List Nat} {m : Mem} {a : Act} {w0 w : World} {m0 : Mem} (hE : ER β e a) (hM : MR w0 m0 bx β m w) {r : ResultVar} {rv : Rv} (hr : compR P r = some rv) {K : Value → Prop} (h : rvv e bx m rv K) :
    ∃ v, (rf a.tmps r).run P w = .ok v w ∧ K v := by
  cases r with
  | tmp t =>
    simp only [compR, Option.some.injEq] at hr; subst hr
    obtain ⟨v, hv, hk⟩ := asV_inv h
    have := hv β _ (hE t)
    exact ⟨v, by simp only [rf, Sem.run_pure]; rw [show a.tmps.getD t undef = v from this], hk⟩
  | cell s T =>
    have key : ∀ (b : Bool) (i : TypeInfo), isStr P T = some b → P.info? T = some i → fv (.ld (ldn b i.size) (.tmp s)) e bx m (fun x => asV x K) →
        ∃ v, (rf a.tmps (.cell s T)).run P w = .ok v w ∧ K v := by
      intro b i hb hi hf
      obtain ⟨x, u, h1, h2, h3⟩ := ld_gives (P := P) (o := { dst := none, op := .load T (.tmp s), type := 0, pos := "", after := #[], guard := none }) hE rfl hb hi hf
      obtain ⟨v, hvv, hk⟩ := asV_inv h2
      have h4 := h3 w hM.cls
      obtain rfl : u = v := hvv β u h1
      refine ⟨u, ?_, hk⟩
      simp only [execOp, Instr.loadAt, Sem.run_bind] at h4
      simp only [rf, Sem.run_bind]
      have ea : a.eval (.tmp s) = a.tmps.getD s undef := rfl
      rw [ea] at h4
      cases hv : a.tmps.getD s undef <;> rw [hv] at h4 <;> simp [Instr.sureAddr, asAddr] at h4 ⊢
      rename_i ad
      cases ad <;> simp [Instr.sureAddr, asAddr] at h4 ⊢
      generalize (loadVar T _).run P w = rr at h4 ⊢
      cases rr <;> simp at h4 ⊢
      exact h4
    simp only [compR] at hr
    split at hr
    · rename_i i hb hi; cases hr; exact key true i hb hi h
    · rename_i i hb hi; cases hr; exact key false i hb hi h
    · cases hr
theorem tr_of {P : Program} (hP : POk P) {f : FuncId} {fn : Func} {exts : List Nat} {hs : List (Nat × List Nat × It)} {cd : Cd} (hf : P.funcs[f]? = some fn) (hc : compFn P exts hs fn = some cd) {args : List Value} (hn' : Nat.ble args.length fn.ntmps = true)
    {m : Mem} {R : Value → Mem → Prop} (h : cvc P cd.c (endQ cd.rs R) (argEnv args) [] m) : Tr P f ⟨args⟩ m R := by
  have hn := Nat.le_of_ble_eq_true hn'
  refine ⟨fun w hw => ?_⟩
  unfold compFn at hc
  split at hc
  · cases hc
  rename_i body hb
  split at hc
  case h_2 => cases hc
  rename_i c rs hcc hrs
  cases hc
  refine calls_of_wp hf hb (wp_mono (cvc_sound (w0 := w) (m0 := m) hP body c hcc _ _ [] [] m _ w ?_ ⟨St.refl hw, rfl, fun k b c hb => by simp at hb, fun i j b hi => by simp at hi⟩ rfl (by simp; omega) h) ?_)
  · intro t
    rw [argEnv_get]
    cases ht : args[t]? with
    | none => trivial
    | some v =>
      have hlt := (List.getElem?_eq_some_iff.1 ht).1
      show _ = v
      rw [Array.getD_eq_getD_getElem?, Array.getElem?_append_left (by simpa using hlt)]
      simp [ht]
  · intro ex a w' hq
    have fin : RelK w m fn.ntmps (fun e bx m => rvs e bx m rs R) a w' → a.defers = [] ∧ ∃ v, (results fn a.tmps).run P w' = .ok v w' ∧ ∃ v_1 m', Ending.returned v = Ending.returned v_1 ∧ St w w' m m' ∧ R v_1 m' := by
      rintro ⟨e, bx, β, m', h1, h2, h3, h4, h5⟩
      refine ⟨h3, ?_⟩
      have hres : fn.results = ⟨fn.results.toList⟩ := rfl
      generalize fn.results.toList = rl at hrs hres
      unfold rvs at h5
      split at h5
      · have : rl = [] := by
          cases rl with
          | nil => rfl
          | cons x y => simp [List.mapM_cons, Option.bind_eq_some_iff] at hrs
        subst this
        exact ⟨.tuple #[], by simp [results, hres], _, m', rfl, h2.st, h5⟩
      · rename_i r
        obtain ⟨x, rfl, hx⟩ : ∃ x, rl = [x] ∧ compR P x = some r := by
          cases rl with
          | nil => simp at hrs
          | cons x y =>
            cases y with
            | nil => simp [List.mapM_cons, Option.bind_eq_some_iff] at hrs; exact ⟨x, rfl, hrs⟩
            | cons y z => simp [List.mapM_cons, Option.bind_eq_some_iff] at hrs
        obtain ⟨v, hv, hk⟩ := rvv_sound h1 h2 hx h5
        exact ⟨v, by rw [res_eq, hres]; exact res1 hv, v, m', rfl, h2.st, hk⟩
      · rename_i r s
        obtain ⟨x, y, rfl, hx, hy⟩ : ∃ x y, rl = [x, y] ∧ compR P x = some r ∧ compR P y = some s := by
          cases rl with
          | nil => simp at hrs
          | cons x y =>
            cases y with
            | nil => simp [List.mapM_cons, Option.bind_eq_some_iff] at hrs
            | cons y z =>
              cases z with
              | nil => simp [List.mapM_cons, Option.bind_eq_some_iff] at hrs; exact ⟨x, y, rfl, hrs.1, hrs.2⟩
              | cons z zz => simp [List.mapM_cons, Option.bind_eq_some_iff] at hrs
        obtain ⟨v, hv, hk⟩ := rvv_sound h1 h2 hx h5
        obtain ⟨u, hu, hk'⟩ := rvv_sound h1 h2 hy hk
        exact ⟨.tuple #[v, u], by rw [res_eq, hres]; exact res2 hv hu, _, m', rfl, h2.st, hk'⟩
      · exact h5.elim
    cases ex with
    | normal => exact fin hq
    | ret => exact fin hq
    | exit id =>
      obtain ⟨e, bx, β, m', h1, h2, h3, h4, h5⟩ := hq
      exact h5.elim
    | goto l => exact hq.elim
    | panic ch => exact hq.elim
    | outgrown => exact hq.elim
end Go.Vc
