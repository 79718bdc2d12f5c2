/- A small walker of the translated code: conditions ('fv', 'sv', 'cvc') computed from the operations, and that they suffice. Own work. No condition. -/
import Derived.Laws.Sem
import Derived.Laws.Cells
import Derived.Laws.World
import Derived.Laws.CopyRow
import Derived.Laws.AppendOwn
import Derived.Orders
import Derived.Calls
import Derived.KernelRfl
namespace Go.Vc
set_option linter.unusedVariables false
set_option linter.unusedSimpArgs false

/-! ### Memory -/
abbrev Mem := Nat → Option Obj
def mu (m : Mem) (b : Nat) (o : Obj) : Mem := fun i => if i = b then some o else m i
def objCell (o : Obj) (a : Addr) : Option Value := match o with
  | .cells c _ _ => if a.spot.isSome then none else c[a.off]?
  | _ => none
/-- The cell at an address. -/
def mc (m : Mem) (a : Addr) : Option Value := (m a.block).bind (objCell · a)
def Ext (m m' : Mem) : Prop := ∀ b o, m b = some o → m' b = some o
def Holds (m : Mem) (w : World) : Prop := ∀ b o, m b = some o → w.heap[b]? = some o

theorem Holds.cell {m : Mem} {w : World} (h : Holds m w) {a : Addr} {v : Value} (hc : mc m a = some v) : w.cell? a = some v := by
  unfold mc at hc
  cases hm : m a.block with
  | none => simp [hm] at hc
  | some o =>
    simp only [hm, Option.bind_some] at hc
    have := h _ _ hm
    unfold World.cell?
    rw [this]
    unfold objCell at hc
    cases o <;> simp_all

/-! ### Abstract values -/
inductive AV
  | v (x : Value)
  | k (b : Bool)
  | b (k off : Nat)
  | u
abbrev Env := Nat → AV
def Env.set (e : Env) (d : Nat) (x : AV) : Env := fun i => bif Nat.beq i d then x else e i
abbrev Bx := List (List Value)
inductive Ex | nrm | ext (id : Nat) | ret

/-! ### The instructions -/
inductive I
  | mv (x : Operand)
  | pick (c a b : Operand)
  | bin (op : BinOp) (x y : Operand)
  | eqs (neg : Bool) (n : Nat) (x y : Operand)
  | isn (x : Operand)
  | beq (neg : Bool) (x y : Operand)
  | un (op : UnOp) (x : Operand)
  | conv (k : IntKind) (x : Operand)
  | len (x : Operand)
  | mm (mx : Bool) (x y : Operand)
  | fa (x : Operand) (off : Nat)
  | ia (x i : Operand) (sz : Nat)
  | ld (n : Option Nat) (x : Operand)
  | nc (x : Operand)
  | sl (x : Operand) (lo hi : Option Operand) (sz : Nat)
  | bd (zero : List Value) (parts : List (Nat × Nat × Operand))
  | mf (f : FuncId) (caps : List Operand)
  | ex (x : Operand) (i : Nat)
  | st (n : Nat) (x v : Operand)
  | al (ext : Bool) (T : TypeId) (zero : List Value)
  | bx (ext : Bool) (T : TypeId) (x : Operand)
  | bs (T : TypeId) (sz len : Nat) (base : List Value) (parts : List (Nat × Operand))
  | ap (T : TypeId) (sz bytes : Nat) (zero : List Value) (s x : Operand)
  | clr (sz : Nat) (zero : List Value) (x : Operand)
  | call (f : FuncId) (args : List Operand)
  | cv (f : Operand) (args : List Operand)
  | mk (T : TypeId) (sz bytes : Nat) (zero : List Value) (l : Operand)

def I.free : I → Bool
  | .st .. | .al .. | .bx .. | .bs .. | .ap .. | .clr .. | .call .. | .cv .. | .mk .. => false
  | _ => true
def I.loads : I → Bool
  | .ld .. => true
  | _ => false

structure Nd where
  dst : Option Nat
  g : Option (Nat × Bool)
  i : I

/-! ### Heads at which a walk stops -/
structure Wr (k : IntKind) (x : Int) (K : Int → Prop) : Prop where out : K (k.wrap x)
structure Dv (b : Int) (X : Prop) : Prop where
  ne : b ≠ 0
  out : X
structure IteB (t : Bool) (X Y : Prop) : Prop where
  y : t = true → X
  n : t = false → Y
structure Ix (A : Option Addr) (n : Nat) (j : Int) (sz : Nat) (K : Addr → Prop) : Prop where
  out : ∃ a, A = some a ∧ 0 ≤ j ∧ j < (n : Int) ∧ K (a.add (j.toNat * sz))
structure Ld (m : Mem) (a : Addr) (K : Value → Prop) : Prop where
  out : ∃ v, mc m a = some v ∧ K v
structure LdN (m : Mem) (a : Addr) (n : Nat) (K : List Value → Prop) : Prop where
  out : ∃ cs : List Value, cs.length = n ∧ (∀ j v, cs[j]? = some v → mc m (a.add j) = some v) ∧ K cs
structure Sl (A : Option Addr) (n c : Nat) (lo hi : Option Int) (sz : Nat) (K : Option Addr → Nat → Nat → Prop) : Prop where
  out : ∃ l h : Nat, lo.getD 0 = l ∧ hi.getD n = h ∧ l ≤ h ∧ h ≤ c ∧ K (if c = l then A else A.map (·.add (l * sz))) (h - l) (c - l)
/-- Cells written into a list. -/
def wr : List Value → Nat → List Value → List Value
  | cs, 0, [] => cs
  | c :: cs, 0, v :: vs => v :: wr cs 0 vs
  | c :: cs, o + 1, vs => c :: wr cs o vs
  | [], _, _ => []
def onesB : List Value → Bool
  | [] => true
  | v :: r => match v with | .agg _ => false | .tuple _ => false | _ => onesB r
structure Stt (m : Mem) (a : Addr) (ys : List Value) (K : Mem → Prop) : Prop where
  out : onesB ys = true ∧ ∃ (c : List Value) (T : TypeId), m a.block = some (.cells ⟨c⟩ T (0, 0)) ∧ a.spot = none ∧ a.off + ys.length ≤ c.length ∧ K (mu m a.block (.cells ⟨wr c a.off ys⟩ T (0, 0)))
structure New (m : Mem) (o : Obj) (K : Nat → Mem → Prop) : Prop where
  out : ∀ b, m b = none → K b (mu m b o)
/-- n cells from A on read so. -/
def Rd (m : Mem) (A : Option Addr) (cs : List Value) : Prop := ∀ j v, cs[j]? = some v → ∃ a, A = some a ∧ mc m (a.add j) = some v
def zs (n : Nat) (zero : List Value) : List Value := (List.replicate n zero).flatten
structure Ap (m : Mem) (A : Option Addr) (n c : Nat) (B : Option Addr) (k : Nat) (T : TypeId) (sz bytes : Nat) (zero : List Value) (K : Value → Mem → Prop) : Prop where
  out : ∃ new : List Value, new.length = k * sz ∧ Rd m B new ∧
    (n + k ≤ c → (new = [] → K (.slice A (n + k) c) m) ∧ (new ≠ [] → ∃ a, A = some a ∧ Stt m (a.add (n * sz)) new (fun m' => K (.slice A (n + k) c) m'))) ∧
    (c < n + k → ∃ old : List Value, old.length = n * sz ∧ Rd m A old ∧ (n + k) * bytes ≤ 140737488355328 ∧ bytes ≠ 0 ∧
      ∀ b cap, m b = none → n + k ≤ cap → cap < 2 ^ 63 → K (.slice (some ⟨b, 0, none⟩) (n + k) cap) (mu m b (.cells ⟨old ++ new ++ zs (cap - (n + k)) zero⟩ T (0, 0))))
structure Cl (m : Mem) (A : Option Addr) (n sz : Nat) (zero : List Value) (K : Mem → Prop) : Prop where
  out : (n = 0 → K m) ∧ (n ≠ 0 → ∃ a, A = some a ∧ Stt m a (zs n zero) K)
structure Mk (m : Mem) (l : Int) (T : TypeId) (bytes : Nat) (zero : List Value) (K : Value → Mem → Prop) : Prop where
  out : ∃ n : Nat, l = n ∧ n * bytes ≤ 2 ^ 48 ∧ n < 2 ^ 63 ∧ ∀ b, m b = none → K (.slice (some ⟨b, 0, none⟩) n n) (mu m b (.cells ⟨zs n zero⟩ T (0, 0)))

structure St (w0 w : World) (m0 m : Mem) : Prop where
  os : w.os = w0.os
  tape : w.tape = w0.tape
  output : w.output = w0.output
  size : w0.heap.size ≤ w.heap.size
  le : Holds m w
  frame : ∀ b, b < w0.heap.size → m0 b = none → w.heap[b]? = w0.heap[b]?
  dom : ∀ b o, m b = some o → m0 b ≠ none ∨ w0.heap.size ≤ b

theorem St.refl {w : World} {m : Mem} (h : Holds m w) : St w w m m := ⟨rfl, rfl, rfl, Nat.le_refl _, h, fun _ _ _ => rfl, fun b o h => .inl (by simp [h])⟩
theorem Holds.lt {m : Mem} {w : World} (h : Holds m w) {b : Nat} {o : Obj} (hb : m b = some o) : b < w.heap.size :=
  (Array.getElem?_eq_some_iff.1 (h b o hb)).1
theorem St.trans {w0 w1 w2 : World} {m0 m1 m2 : Mem} (h : St w0 w1 m0 m1) (k : St w1 w2 m1 m2) : St w0 w2 m0 m2 := by
  refine ⟨k.os.trans h.os, k.tape.trans h.tape, k.output.trans h.output, Nat.le_trans h.size k.size, k.le, fun b hb hm => ?_, fun b o hb => ?_⟩
  · have h1 : m1 b = none := by
      cases e : m1 b with
      | none => rfl
      | some o => rcases h.dom b o e with h' | h'
                  · exact absurd hm h'
                  · omega
    rw [k.frame b (Nat.lt_of_lt_of_le hb h.size) h1, h.frame b hb hm]
  · rcases k.dom b o hb with h' | h'
    · cases e : m1 b with
      | none => exact absurd e h'
      | some o' => exact h.dom b o' e
    · exact .inr (Nat.le_trans h.size h')

structure Tr (P : Program) (f : FuncId) (args : Array Value) (m : Mem) (R : Value → Mem → Prop) : Prop where
  out : ∀ w, Holds m w → Calls P f args w (fun e w' => ∃ v m', e = .returned v ∧ St w w' m m' ∧ R v m')
theorem Tr.mono {P : Program} {f : FuncId} {args : Array Value} {m : Mem} {R R' : Value → Mem → Prop} (h : Tr P f args m R) (k : ∀ v m', R v m' → R' v m') : Tr P f args m R' :=
  ⟨fun w hw => (h.out w hw).mono fun e w' ⟨v, m', he, hs, hr⟩ => ⟨v, m', he, hs, k v m' hr⟩⟩

structure Cb (P : Program) (g : FuncId) (X : Prop) : Prop where
  ok : ∃ fn c, P.funcs[g]? = some fn ∧ fn.body = some c
  out : X
/-! ### The conditions -/
def ev (e : Env) : Operand → AV
  | .tmp t => e t
  | .const c => match c with | .bool b => .k b | c => .v c
  | .func f => .v (.func (.func f) #[] #[])
  | .global _ => .u
def asV (x : AV) (K : Value → Prop) : Prop := match x with | .v y => K y | .k b => K (.bool b) | _ => False
def asI (x : AV) (K : IntKind → Int → Prop) : Prop := match x with | .v (.int k n) => K k n | _ => False
def branch (x : AV) (X Y : Prop) : Prop := match x with | .k true => X | .k false => Y | .v (.bool t) => IteB t X Y | _ => False
def asS (x : AV) (K : Option Addr → Nat → Nat → Prop) : Prop := match x with | .v (.slice A n c) => K A n c | _ => False
def keep (x : AV) (K : AV → Prop) : Prop := match x with | .v y => K (.v y) | .k b => K (.k b) | .b k o => K (.b k o) | .u => False
def sameK : IntKind → IntKind → Bool
  | .i64, .i64 | .u64, .u64 | .u8, .u8 | .i32, .i32 | .u32, .u32 | .i8, .i8 | .i16, .i16 | .u16, .u16 => true
  | _, _ => false
def xorI (k : IntKind) (a b : Int) : Int := k.wrap (BitVec.ofInt k.bits a ^^^ BitVec.ofInt k.bits b).toNat
def binVC (op : BinOp) (k : IntKind) (a b : Int) (K : AV → Prop) : Prop := match op with
  | .add => Wr k (a + b) fun z => K (.v (.int k z))
  | .sub => Wr k (a - b) fun z => K (.v (.int k z))
  | .mul => Wr k (a * b) fun z => K (.v (.int k z))
  | .quo => Dv b (Wr k (a.tdiv b) fun z => K (.v (.int k z)))
  | .rem => Dv b (K (.v (.int k (a.tmod b))))
  | .lss => K (.v (.bool (decide (a < b))))
  | .leq => K (.v (.bool (decide (a ≤ b))))
  | .gtr => K (.v (.bool (decide (b < a))))
  | .geq => K (.v (.bool (decide (b ≤ a))))
  | .eql => K (.v (.bool (decide (a = b))))
  | .neq => K (.v (.bool (decide (a ≠ b))))
  | .xor => K (.v (.int k (xorI k a b)))
  | _ => False
def asB (x : AV) (K : Bool → Prop) : Prop := match x with | .v (.bool b) => K b | .k b => K b | _ => False
def bget : Bx → Nat → (List Value → Prop) → Prop
  | [], _, _ => False
  | c :: _, 0, K => K c
  | _ :: r, k + 1, K => bget r k K
def cget : List Value → Nat → (Value → Prop) → Prop
  | [], _, _ => False
  | c :: _, 0, K => K c
  | _ :: r, k + 1, K => cget r k K
def cdrop : Nat → List Value → (List Value → Prop) → Prop
  | 0, l, K => K l
  | n + 1, _ :: l, K => cdrop n l K
  | _ + 1, [], _ => False
def ctake : Nat → List Value → (List Value → Prop) → Prop
  | 0, _, K => K []
  | n + 1, c :: l, K => ctake n l fun r => K (c :: r)
  | _ + 1, [], _ => False
def force : List Value → (List Value → Prop) → Prop
  | [], K => K []
  | c :: l, K => force l fun r => K (c :: r)
/-- The cells of a value of n cells. -/
def vcs (y : Value) (n : Nat) (K : List Value → Prop) : Prop := match y with
  | .agg cs => match Nat.beq cs.toList.length n with | true => force cs.toList K | false => False
  | .tuple _ => False
  | y => match n with | 1 => K [y] | _ => False
def args (e : Env) : List Operand → (List Value → Prop) → Prop
  | [], K => K []
  | o :: r, K => asV (ev e o) fun y => args e r fun ys => K (y :: ys)
def optI (e : Env) (o : Option Operand) (K : Option Int → Prop) : Prop := match o with
  | none => K none
  | some o => asI (ev e o) fun _ n => K (some n)
/-- Parts laid into cells. -/
def lay (e : Env) : List Value → List (Nat × Nat × Operand) → (List Value → Prop) → Prop
  | cs, [], K => force cs K
  | cs, (off, n, o) :: r, K => asV (ev e o) fun y => vcs y n fun ys => match Nat.ble (off + n) cs.length with | true => lay e (wr cs off ys) r K | false => False
def ints : List Value → (List Int → Prop) → Prop
  | [], K => K []
  | .int .i64 n :: l, K => ints l fun r => K (n :: r)
  | _ :: _, _ => False
def fv (i : I) (e : Env) (lb : Bx) (lm : Mem) (K : AV → Prop) : Prop := match i with
  | .mv x => keep (ev e x) K
  | .pick c a b => branch (ev e c) (keep (ev e a) K) (keep (ev e b) K)
  | .bin op x y => asI (ev e x) fun k a => asI (ev e y) fun k' b => match sameK k k' with | true => binVC op k a b K | false => False
  | .eqs neg n x y => asV (ev e x) fun a => asV (ev e y) fun b => vcs a n fun as => vcs b n fun bs => ints as fun is => ints bs fun js =>
      K (.v (.bool (match neg with | true => decide (is ≠ js) | false => decide (is = js))))
  | .isn x => asS (ev e x) fun A _ _ => K (.v (.bool A.isNone))
  | .beq neg x y => asB (ev e x) fun a => asB (ev e y) fun b => K (.v (.bool (match neg with | true => decide (a ≠ b) | false => decide (a = b))))
  | .un op x => match op with
    | .neg => asI (ev e x) fun k a => Wr k (0 - a) fun z => K (.v (.int k z))
    | .not => match ev e x with
      | .k true => K (.k false)
      | .k false => K (.k true)
      | .v (.bool t) => K (.v (.bool (!t)))
      | _ => False
    | _ => False
  | .conv k x => asI (ev e x) fun _ a => Wr k a fun z => K (.v (.int k z))
  | .len x => asS (ev e x) fun _ n _ => K (.v (.int .i64 n))
  | .mm mx x y => asI (ev e x) fun k a => asI (ev e y) fun _ b => K (.v (.int k (match mx with | true => if b > a then b else a | false => if b < a then b else a)))
  | .fa x off => match ev e x with
    | .v (.pointer (some a)) => K (.v (.pointer (some (a.add off))))
    | .b k o => K (.b k (o + off))
    | _ => False
  | .ia x i sz => asS (ev e x) fun A n _ => asI (ev e i) fun _ j => Ix A n j sz fun a => K (.v (.pointer (some a)))
  | .ld n x => match ev e x with
    | .v (.pointer (some a)) => match n with
      | none => Ld lm a fun v => K (.v v)
      | some s => LdN lm a s fun cs => K (.v (.agg ⟨cs⟩))
    | .b k o => bget lb k fun cs => match n with
      | none => cget cs o fun v => K (.v v)
      | some s => cdrop o cs fun l => ctake s l fun r => K (.v (.agg ⟨r⟩))
    | _ => False
  | .nc x => match ev e x with
    | .v (.pointer (some a)) => K (.v (.pointer (some a)))
    | .b k o => K (.b k o)
    | _ => False
  | .sl x lo hi sz => asS (ev e x) fun A n c => optI e lo fun l => optI e hi fun h => Sl A n c l h sz fun A' n' c' => K (.v (.slice A' n' c'))
  | .bd zero parts => lay e zero parts fun cs => K (.v (.agg ⟨cs⟩))
  | .mf f caps => args e caps fun vs => K (.v (.func (.func f) #[] ⟨vs⟩))
  | .ex x i => match ev e x with
    | .v (.tuple vs) => cget vs.toList i fun y => K (.v y)
    | _ => False
  | _ => False
def bset : Bx → Nat → Nat → List Value → (Bx → Prop) → Prop
  | [], _, _, _, _ => False
  | c :: r, 0, o, ys, K => match onesB ys && Nat.ble (o + ys.length) c.length with | true => force (wr c o ys) fun c' => K (c' :: r) | false => False
  | c :: r, k + 1, o, ys, K => bset r k o ys fun r' => K (c :: r')
def place (e : Env) (sz : Nat) : List Value → List (Nat × Operand) → (List Value → Prop) → Prop
  | cs, [], K => force cs K
  | cs, (i, o) :: r, K => asV (ev e o) fun y => vcs y sz fun ys => match Nat.ble (i * sz + sz) cs.length with | true => place e sz (wr cs (i * sz) ys) r K | false => False
def sv (P : Program) (i : I) (e : Env) (bx : Bx) (m : Mem) (K : AV → Bx → Mem → Prop) : Prop := match i with
  | .st n x v => asV (ev e v) fun y => vcs y n fun ys => match ev e x with
    | .b k o => bset bx k o ys fun bx' => K .u bx' m
    | .v (.pointer (some a)) => Stt m a ys fun m' => K .u bx m'
    | _ => False
  | .al ext T zero => match ext with
    | true => New m (.cells ⟨zero⟩ T (0, 0)) fun b m' => K (.v (.pointer (some ⟨b, 0, none⟩))) bx m'
    | false => K (.b bx.length 0) (bx ++ [zero]) m
  | .bx ext T x => asV (ev e x) fun y => match y with
    | .agg cs => match ext with
      | true => New m (.cells cs T (0, 0)) fun b m' => K (.v (.pointer (some ⟨b, 0, none⟩))) bx m'
      | false => force cs.toList fun l => K (.b bx.length 0) (bx ++ [l]) m
    | .tuple _ => False
    | y => match ext with
      | true => New m (.cells #[y] T (0, 0)) fun b m' => K (.v (.pointer (some ⟨b, 0, none⟩))) bx m'
      | false => K (.b bx.length 0) (bx ++ [[y]]) m
  | .bs T sz len base parts => place e sz base parts fun cs => New m (.cells ⟨cs⟩ T (0, 0)) fun b m' => K (.v (.slice (some ⟨b, 0, none⟩) len len)) bx m'
  | .ap T sz bytes zero s x => asS (ev e s) fun A n c => asS (ev e x) fun B k _ => Ap m A n c B k T sz bytes zero fun v m' => K (.v v) bx m'
  | .clr sz zero x => asS (ev e x) fun A n _ => Cl m A n sz zero fun m' => K (.v (.tuple #[])) bx m'
  | .call f as => args e as fun vs => Tr P f ⟨vs⟩ m fun v m' => K (.v v) bx m'
  | .cv f as => match ev e f with
    | .v (.func (.func g) first caps) => match first.toList with
      | [] => args e as fun vs => Cb P g (Tr P g ⟨vs ++ caps.toList⟩ m fun v m' => K (.v v) bx m')
      | _ => False
    | _ => False
  | .mk T sz bytes zero l => asI (ev e l) fun _ n => Mk m n T bytes zero fun v m' => K (.v v) bx m'
  | _ => False
def put (e : Env) (d : Option Nat) (x : AV) : Env := match d with | none => e | some d => e.set d x
/-- One operation: its guard, then itself. -/
def nv (P : Program) (nd : Nd) (e : Env) (bx : Bx) (m : Mem) (lb : Bx) (lm : Mem) (K : Env → Bx → Mem → Prop) : Prop :=
  let run (e : Env) : Prop := match nd.i.free with
    | true => fv nd.i e lb lm fun x => K (put e nd.dst x) bx m
    | false => sv P nd.i e bx m fun x bx' m' => K (put e nd.dst x) bx' m'
  let skip (e : Env) : Prop := K (put e nd.dst (.v (.tuple #[]))) bx m
  match nd.g with
  | none => run e
  | some (g, want) => match e g with
    | .k true => match want with | true => run e | false => skip e
    | .k false => match want with | true => skip e | false => run e
    | .v (.bool t) => IteB t (let e := e.set g (.k true); match want with | true => run e | false => skip e) (let e := e.set g (.k false); match want with | true => skip e | false => run e)
    | .v (.tuple _) => skip e
    | _ => False
def osv (P : Program) : List Nd → Env → Bx → Mem → (Env → Bx → Mem → Prop) → Prop
  | [], e, bx, m, K => K e bx m
  | nd :: r, e, bx, m, K => nv P nd e bx m bx m fun e bx m => osv P r e bx m K

/-- The orders of a region that draws. -/
inductive Ot
  | fin
  | op (idx : Nat) (nd : Nd) (rest : Ot)
  | alt (a b : Ot)
def otv (P : Program) (pl : List Nat) (lb : Bx) (lm : Mem) : Ot → Bool → Env → Bx → Mem → (Env → Bx → Mem → Prop) → Prop
  | .fin, _, e, bx, m, K => K e bx m
  | .op idx nd rest, ok, e, bx, m, K => match nd.i.free with
    | true => match ok || !nd.i.loads with
      | true => nv P nd e bx m lb lm fun e bx m => otv P pl lb lm rest ok e bx m K
      | false => False
    | false => match pl.contains idx with
      | true => match ok with
        | true => nv P nd e bx m lb lm fun e bx' m' => Ext m m' ∧ (∃ r, bx' = bx ++ r) ∧ otv P pl lb lm rest ok e bx' m' K
        | false => False
      | false => nv P nd e bx m lb lm fun e bx' m' => otv P pl lb lm rest false e bx' m' K
  | .alt a b, ok, e, bx, m, K => otv P pl lb lm a ok e bx m K ∧ otv P pl lb lm b ok e bx m K

inductive C
  | skip
  | rg (ops : List Nd)
  | dr (pl : List Nat) (t : Ot)
  | seq (a b : C)
  | cond (c : Operand) (a b : C)
  | block (id : Nat) (c : C)
  | loop (c : C)
  | exit (id : Nat)
  | ret
abbrev Post := Ex → Env → Bx → Mem → Prop
def Fit (e : Env) : List (Nat × AV) → Prop
  | [] => True
  | (s, x) :: r => e s = x ∧ Fit e r
def envOf : List (Nat × AV) → Env
  | [] => fun _ => .u
  | (s, x) :: r => (envOf r).set s x
def Pre : Bx → Bx → Prop
  | [], _ => True
  | c :: r, c' :: r' => c = c' ∧ Pre r r'
  | _ :: _, [] => False
def allIn (n : Nat) : List (Nat × AV) → Bool
  | [] => true
  | (_, .b k _) :: r => Nat.blt k n && allIn n r
  | _ :: r => allIn n r
structure Lp (body : Post → Env → Bx → Mem → Prop) (Q : Post) (e : Env) (bx : Bx) (m : Mem) : Prop where
  out : ∃ (σ : Type) (vals : σ → List (Nat × AV)) (bxs : σ → Bx) (J : σ → Mem → Prop) (μ : σ → Nat) (s0 : σ), (∀ s, allIn (bxs s).length (vals s) = true) ∧
    Fit e (vals s0) ∧ Pre (bxs s0) bx ∧ J s0 m ∧
    ∀ s m, J s m → body (fun ex e' bx' m' => match ex with
      | .nrm => ∃ s', Fit e' (vals s') ∧ Pre (bxs s') bx' ∧ J s' m' ∧ μ s' < μ s
      | ex => Q ex e' bx' m') (envOf (vals s)) (bxs s) m
def cvc (P : Program) : C → Post → Env → Bx → Mem → Prop
  | .skip, Q, e, bx, m => Q .nrm e bx m
  | .rg ops, Q, e, bx, m => osv P ops e bx m (Q .nrm)
  | .dr pl t, Q, e, bx, m => otv P pl bx m t true e bx m (Q .nrm)
  | .seq a b, Q, e, bx, m => cvc P a (fun ex e bx m => match ex with | .nrm => cvc P b Q e bx m | ex => Q ex e bx m) e bx m
  | .cond c a b, Q, e, bx, m => branch (ev e c) (cvc P a Q e bx m) (cvc P b Q e bx m)
  | .block id c, Q, e, bx, m => cvc P c (fun ex e bx m => match ex with
      | .ext id' => match Nat.beq id' id with | true => Q .nrm e bx m | false => Q (.ext id') e bx m
      | ex => Q ex e bx m) e bx m
  | .loop c, Q, e, bx, m => Lp (cvc P c) Q e bx m
  | .exit id, Q, e, bx, m => Q (.ext id) e bx m
  | .ret, Q, e, bx, m => Q .ret e bx m
end Go.Vc
