/- A symbolic run of a body: values, states, the short form of an operation, what one operation does to a state. No statement of the program. -/
import Derived.Test.YtgljbdcamagdbaaLib
import Derived.Deep.LoopGhost
import Derived.Orders
namespace Go.Proofs.Ytgljbdcamagdbaa
open Go.RowKit

/-! ### values -/
/-- the value of one cell -/
inductive SC where
  | v (x : Value)
  | bo (e : Bool)
  | xv (i : Nat)
  | ptr (id off : Nat)
  | sl (id off len cap : Nat)
  | ep (i s k j : Nat)

/-- what a value's names stand for: blocks of the call's own; values of callees and arguments -/
structure Env where
  ρ : Nat → Nat
  χ : Nat → Value

def SC.den (E : Env) : SC → Value
  | .v x => x
  | .bo e => .bool e
  | .xv i => E.χ i
  | .ptr id off => .pointer (some ⟨E.ρ id, off, none⟩)
  | .sl id off len cap => .slice (some ⟨E.ρ id, off, none⟩) len cap
  | .ep i s k j => match E.χ i with
    | .slice (some a) _ _ => .pointer (some ⟨a.block, a.off + k * s + j, none⟩)
    | _ => .pointer none

inductive SV where
  | c (x : SC)
  | agg (l : List SC)
  | tup (l : List (Bool × List SC))

def den1 (E : Env) : Bool × List SC → Value
  | (true, l) => .agg (l.map (SC.den E)).toArray
  | (false, x :: _) => x.den E
  | (false, []) => undef

def SV.den (E : Env) : SV → Value
  | .c x => x.den E
  | .agg l => .agg (l.map (SC.den E)).toArray
  | .tup l => .tuple (l.map (den1 E)).toArray

/-! ### states -/
/-- a slice that is only read: how many elements, how many cells each has, their values; fr: it lies in memory that is newer than the call -/
structure ArrF where
  len : Nat
  size : Nat
  at_ : Nat → List Value
  fr : Bool

structure St where
  nt : Nat
  tmps : List (Nat × SV)
  own : List (Nat × List SC × Nat)
  arrs : List (Nat × ArrF)
  facts : List (Env → World → Prop)
  nid : Nat

def look {α : Type} : List (Nat × α) → Nat → Option α
  | [], _ => none
  | (k, v) :: l, t => if k = t then some v else look l t

def ArrAt (E : Env) (w : World) (i : Nat) (A : ArrF) : Prop :=
  ∃ ba cap, E.χ i = .slice ba A.len cap ∧ A.len ≤ cap ∧ cap ≤ maxLen ∧
    (A.len = 0 ∨ ∃ b off, ba = some ⟨b, off, none⟩ ∧ ∀ k, k < A.len → (A.at_ k).length = A.size ∧ ∀ j u, (A.at_ k)[j]? = some u → w.cell? ⟨b, off + k * A.size + j, none⟩ = some u)

def Holds (E : Env) (S : St) (w : World) : Prop :=
  (∀ i A, look S.arrs i = some A → ArrAt E w i A) ∧ ∀ φ ∈ S.facts, φ E w

def HoldsN (E : Env) (S : St) (w : World) : Prop := ∀ i A, look S.arrs i = some A → A.fr = true → ArrAt E w i A

/-- the state tells of the slots and of memory; B: how much memory there was at the call; w0: that memory -/
structure Sat (B : Nat) (w0 : World) (E : Env) (S : St) (a : Act) (w : World) : Prop where
  size : a.tmps.size = S.nt
  defers : a.defers = []
  one : ∀ i, (E.χ i).oneCell' = true
  tmps : ∀ t v, look S.tmps t = some v → t < S.nt ∧ a.tmps.getD t undef = v.den E
  below : Below B w0 w
  hB : B ≤ w0.heap.size
  own : ∀ id cs ty, look S.own id = some (cs, ty) → B ≤ E.ρ id ∧ w.heap[E.ρ id]? = some (.cells (cs.map (SC.den E)).toArray ty (0, 0))
  inj : ∀ id id' o o', look S.own id = some o → look S.own id' = some o' → E.ρ id = E.ρ id' → id = id'
  foot : ∃ F : Nat → Prop, (∀ id o, look S.own id = some o → ¬ F (E.ρ id)) ∧ (∀ n, F n → n < w.heap.size) ∧
    (∀ w', (∀ n, F n → w'.heap[n]? = w.heap[n]?) → Holds E S w') ∧ ∀ w', (∀ n, F n → B ≤ n → w'.heap[n]? = w.heap[n]?) → HoldsN E S w'

def Agree (n : Nat) (E E' : Env) : Prop := (∀ i, i < n → E'.ρ i = E.ρ i ∧ E'.χ i = E.χ i) ∧ ((∀ i, (E.χ i).oneCell' = true) → ∀ i, (E'.χ i).oneCell' = true)

/-- .. whatever the names from nid on stand for -/
def SatA (B : Nat) (w0 : World) (E : Env) (S : St) (a : Act) (w : World) : Prop := ∀ E', Agree S.nid E E' → Sat B w0 E' S a w

theorem Agree.refl (n : Nat) (E : Env) : Agree n E E := ⟨fun _ _ => ⟨rfl, rfl⟩, id⟩
theorem SatA.sat {B : Nat} {w0 : World} {E : Env} {S : St} {a : Act} {w : World} (h : SatA B w0 E S a w) : Sat B w0 E S a w := h E (.refl _ _)

/-! ### the short form of operations -/
inductive IX where
  | t (n : Nat)
  | k (v : SV)

inductive IOp where
  | mv (x : IX)
  | pick (c a b : IX)
  | new (t : Nat) (z : List SC)
  | box (t : Nat) (x : IX)
  | build (z : List SC) (parts : List (Nat × Nat × IX))
  | mkSl (t : Nat) (len size : Nat) (z : List SC) (parts : List (Nat × Nat × IX))
  | ld (agg : Bool) (n : Nat) (x : IX)
  | st (n : Nat) (a v : IX)
  | nilck (x : IX)
  | bin (op : BinOp) (x y : IX)
  | eqb (neg : Bool) (x y : IX)
  | eqa (neg : Bool) (ks : List Bool) (x y : IX)
  | un (op : UnOp) (x : IX)
  | conv (k : IntKind) (x : IX)
  | fa (off : Nat) (x : IX)
  | fld (agg : Bool) (off n : Nat) (x : IX)
  | ia (size : Nat) (x i : IX)
  | ext (i : Nat) (x : IX)
  | len (x : IX)
  | call (f : Nat) (args : List IX)

structure IO1 where
  dst : Option Nat
  op : IOp
  guard : Option (Nat × Bool)

/-- what is known of a type -/
structure TI where
  desc : TypeDesc
  zero : Value
  size : Nat
  bytes : Nat
  flat : List Bool

abbrev TT := List (Nat × TI)

/-- the fields of a flat struct: each one cell, an integer (true) or a bool (false), one behind the other -/
def flatFields (P : Program) : List Bool → List Field → Nat → Prop
  | [], [], _ => True
  | b :: bs, f :: r, i => f.name ≠ "_" ∧ f.offset = i ∧ (if b then ∃ k, P.underlying f.type = some (.int k) else P.underlying f.type = some .bool) ∧ flatFields P bs r (i + 1)
  | _, _, _ => False

def TOk (P : Program) (T : TT) : Prop := ∀ t ti, look T t = some ti →
  P.underlying t = some ti.desc ∧ (P.info? t).map (fun i => (i.zero, i.size, i.bytes)) = some (some ti.zero, ti.size, ti.bytes) ∧
  (ti.flat ≠ [] → P.stoodInHeld t = false ∧ P.eqGuardType P.depth t = false ∧ ∃ fs, ti.desc = .struct fs ∧ flatFields P ti.flat fs.toList 0)

def isAggD : TypeDesc → Bool
  | .struct _ | .array _ _ => true
  | _ => false

def scs (cs : Array Value) : List SC := cs.toList.map SC.v

def svOf : Value → Option SV
  | .agg cs => some (.agg (scs cs))
  | .tuple _ => none
  | v => some (.c (.v v))

def opd : Operand → Option IX
  | .tmp t => some (.t t)
  | .const v => (svOf v).map .k
  | .func f => some (.k (.c (.v (.func (.func f) #[] #[]))))
  | .global _ => none

def opds : List Operand → Option (List IX)
  | [] => some []
  | x :: r => (opd x).bind fun a => (opds r).map (a :: ·)

def structParts (T : TT) (fs : Array Field) : List (Nat × Operand) → Option (List (Nat × Nat × IX))
  | [] => some []
  | (i, x) :: r => (fs[i]?).bind fun f => (look T f.type).bind fun ti => (opd x).bind fun a => (structParts T fs r).map ((f.offset, ti.size, a) :: ·)
def rowParts (size : Nat) : List (Nat × Operand) → Option (List (Nat × Nat × IX))
  | [] => some []
  | (i, x) :: r => (opd x).bind fun a => (rowParts size r).map ((i * size, size, a) :: ·)

def rowZero (n : Nat) (z : Value) : List SC := (List.range n).map fun i => SC.v (z.cells[i % z.cells.size]!)
def allIn (T : TT) : List Field → Bool
  | [] => true
  | f :: r => (look T f.type).isSome && allIn T r

def compOp (T : TT) : Op → Option IOp
  | .move x | .assign x => (opd x).map .mv
  | .pick c a b => (opd c).bind fun c => (opd a).bind fun a => (opd b).map fun b => .pick c a b
  | .alloc e => (look T e).map fun ti => .new e (scs ti.zero.cells)
  | .box e x => (opd x).map fun x => .box e x
  | .build t parts => (look T t).bind fun ti => match ti.desc with
    | .struct fs => if allIn T fs.toList then (structParts T fs parts.toList).map fun ps => .build (scs ti.zero.cells) ps else none
    | _ => none
  | .buildSlice t len parts => (look T t).bind fun ti => match ti.desc with
    | .slice e => (look T e).bind fun te => if len * te.size ≤ 16777216 then (rowParts te.size parts.toList).map fun ps => .mkSl e len te.size (rowZero (len * te.size) te.zero) ps else none
    | _ => none
  | .load t a => (look T t).bind fun ti => (opd a).map fun a => .ld (isAggD ti.desc) ti.size a
  | .store t a v => (look T t).bind fun ti => (opd a).bind fun a => (opd v).map fun v => .st ti.size a v
  | .nilCheck x => (opd x).map .nilck
  | .binOp op t x y _ => (look T t).bind fun ti => (opd x).bind fun x => (opd y).bind fun y =>
    match ti.desc, op with
    | .int _, _ => some (.bin op x y)
    | .bool, .eql => some (.eqb false x y)
    | .bool, .neq => some (.eqb true x y)
    | .struct _, .eql => if ti.flat.isEmpty then none else some (.eqa false ti.flat x y)
    | .struct _, .neq => if ti.flat.isEmpty then none else some (.eqa true ti.flat x y)
    | _, _ => none
  | .unOp op _ x => (opd x).map fun x => .un op x
  | .convert s d x => (look T s).bind fun ts => (look T d).bind fun td => match ts.desc, td.desc with
    | .int _, .int k => (opd x).map fun x => .conv k x
    | _, _ => none
  | .fieldAddr s x f => (look T s).bind fun ti => match ti.desc with
    | .struct fs => (fs[f]?).bind fun fd => (look T fd.type).bind fun tf => if tf.size = 0 then none else (opd x).map fun x => .fa fd.offset x
    | _ => none
  | .field s x f => (look T s).bind fun ti => match ti.desc with
    | .struct fs => (fs[f]?).bind fun fd => (look T fd.type).bind fun tf => (opd x).map fun x => .fld (isAggD tf.desc) fd.offset tf.size x
    | _ => none
  | .indexAddr t x i => (look T t).bind fun ti => match ti.desc with
    | .slice e => (look T e).bind fun te => (opd x).bind fun x => (opd i).map fun i => .ia te.size x i
    | _ => none
  | .extract x i => (opd x).map fun x => .ext i x
  | .call c => match c.callee with
    | .value (.func f) => (opds c.args.toList).map fun xs => .call f xs
    | .builtin .len => match c.args.toList, c.argTypes.toList with
      | [x], [t] => (look T t).bind fun ti => match ti.desc with
        | .slice _ => (opd x).map .len
        | _ => none
      | _, _ => none
    | _ => none
  | _ => none

def compIO (T : TT) (ops : Array Oper) (o : Oper) : Option IO1 :=
  (compOp T o.op).bind fun op => match o.guard with
    | none => some ⟨o.dst, op, none⟩
    | some (j, want) => ((ops[j]?).bind (·.dst)).map fun g => ⟨o.dst, op, some (g, want)⟩

def compList (T : TT) (ops : Array Oper) : List Oper → Option (List IO1)
  | [] => some []
  | o :: r => (compIO T ops o).bind fun i => (compList T ops r).map (i :: ·)

/-! ### what an operation does -/
structure Out where
  val : SV
  new : Option (List SC × Nat)
  wr : Option (Nat × List SC × Nat)

inductive Res where
  | ok (vc : Prop) (out : Out)
  | bad

def St.ev (S : St) : IX → Option SV
  | .t n => look S.tmps n
  | .k v => some v

def SC.one : SC → Bool
  | .v x => x.oneCell'
  | _ => true

def drop' {α : Type} : Nat → List α → List α
  | 0, l => l
  | _ + 1, [] => []
  | n + 1, _ :: l => drop' n l
def take' {α : Type} : Nat → List α → List α
  | 0, _ => []
  | _ + 1, [] => []
  | n + 1, a :: l => a :: take' n l
def nth {α : Type} : List α → Nat → Option α
  | [], _ => none
  | a :: _, 0 => some a
  | _ :: l, n + 1 => nth l n
def len' {α : Type} : List α → Nat
  | [] => 0
  | _ :: l => len' l + 1

def allOne : List SC → Bool
  | [] => true
  | c :: r => c.one && allOne r

/-- the cells of a value -/
def SV.cells : SV → Option (List SC)
  | .c x => if x.one then some [x] else none
  | .agg l => if allOne l then some l else none
  | .tup _ => none

def put (l : List SC) (off : Nat) (cs : List SC) : List SC := take' off l ++ cs ++ drop' (off + len' cs) l

def fillP (S : St) : List (Nat × Nat × IX) → List SC → Option (List SC)
  | [], z => some z
  | (off, size, x) :: r, z => match S.ev x with
    | some v => match v.cells with
      | some cs => if len' cs = size ∧ off + size ≤ len' z then fillP S r (put z off cs) else none
      | none => none
    | none => none

def pure1 (v : SV) : Res := .ok True ⟨v, none, none⟩

def binI (op : BinOp) (k : IntKind) (a b : Int) : Res :=
  match op with
  | .add => pure1 (.c (.v (.int k (k.wrap (a + b)))))
  | .sub => pure1 (.c (.v (.int k (k.wrap (a - b)))))
  | .mul => pure1 (.c (.v (.int k (k.wrap (a * b)))))
  | .quo => .ok (b ≠ 0) ⟨.c (.v (.int k (k.wrap (a.tdiv b)))), none, none⟩
  | .rem => .ok (b ≠ 0) ⟨.c (.v (.int k (a.tmod b))), none, none⟩
  | .and => pure1 (.c (.v (.int k (bits .and k a b))))
  | .or => pure1 (.c (.v (.int k (bits .or k a b))))
  | .xor => pure1 (.c (.v (.int k (bits .xor k a b))))
  | .andNot => pure1 (.c (.v (.int k (bits .andNot k a b))))
  | .eql => pure1 (.c (.bo (a == b)))
  | .neq => pure1 (.c (.bo (a != b)))
  | .lss => pure1 (.c (.bo (decide (a < b))))
  | .leq => pure1 (.c (.bo (decide (a ≤ b))))
  | .gtr => pure1 (.c (.bo (decide (a > b))))
  | .geq => pure1 (.c (.bo (decide (a ≥ b))))
  | _ => .bad

def SC.bool? : SC → Option Bool
  | .v (.bool b) => some b
  | .bo e => some e
  | _ => none

def eqCells : List Bool → List SC → List SC → Option Bool
  | [], [], [] => some true
  | true :: ks, .v (.int k a) :: r, .v (.int k' b) :: r' => if k = k' then (eqCells ks r r').map ((a == b) && ·) else none
  | false :: ks, c :: r, c' :: r' => match c.bool?, c'.bool? with
    | some a, some b => (eqCells ks r r').map ((a == b) && ·)
    | _, _ => none
  | _, _, _ => none

def neg? (neg b : Bool) : Bool := if neg then !b else b

def stepOut (op : IOp) (S : St) : Res :=
  match op with
  | .mv x => match S.ev x with
    | some v => pure1 v
    | none => .bad
  | .pick c a b => match S.ev c with
    | some (.c (.v (.bool true))) => match S.ev a with
      | some v => pure1 v
      | none => .bad
    | some (.c (.v (.bool false))) => match S.ev b with
      | some v => pure1 v
      | none => .bad
    | some (.c (.bo e)) => match S.ev a, S.ev b with
      | some (.c x), some (.c y) => match x.bool?, y.bool? with
        | some p, some q => pure1 (.c (.bo (if e = true then p else q)))
        | _, _ => .bad
      | _, _ => .bad
    | _ => .bad
  | .new t z => .ok True ⟨.c (.ptr S.nid 0), some (z, t), none⟩
  | .box t x => match S.ev x with
    | some v => match v.cells with
      | some cs => .ok True ⟨.c (.ptr S.nid 0), some (cs, t), none⟩
      | none => .bad
    | none => .bad
  | .build z ps => match fillP S ps z with
    | some cs => pure1 (.agg cs)
    | none => .bad
  | .mkSl t len _ z ps => match fillP S ps z with
    | some cs => .ok True ⟨.c (.sl S.nid 0 len len), some (cs, t), none⟩
    | none => .bad
  | .ld agg n x => match S.ev x with
    | some (.c (.ptr id off)) => match look S.own id with
      | some (cs, _) => if agg then (if off + n ≤ len' cs then pure1 (.agg (take' n (drop' off cs))) else .bad)
        else match nth cs off with
          | some c => pure1 (.c c)
          | none => .bad
      | none => .bad
    | some (.c (.ep i s k j)) => match look S.arrs i with
      | some A => if agg then .ok (k < A.len ∧ A.size = s ∧ j + n ≤ s) ⟨.agg ((take' n (drop' j (A.at_ k))).map .v), none, none⟩
        else match nth (A.at_ k) j with
          | some c => .ok (k < A.len ∧ A.size = s) ⟨.c (.v c), none, none⟩
          | none => .bad
      | none => .bad
    | _ => .bad
  | .st n a v => match S.ev a, S.ev v with
    | some (.c (.ptr id off)), some v => match look S.own id, v.cells with
      | some (cs, t), some new => if len' new = n ∧ off + n ≤ len' cs then .ok True ⟨.c (.v undef), none, some (id, put cs off new, t)⟩ else .bad
      | _, _ => .bad
    | _, _ => .bad
  | .nilck x => match S.ev x with
    | some (.c (.ptr id off)) => pure1 (.c (.ptr id off))
    | _ => .bad
  | .bin op x y => match S.ev x, S.ev y with
    | some (.c (.v (.int k a))), some (.c (.v (.int k' b))) => if k = k' then binI op k a b else .bad
    | _, _ => .bad
  | .eqb neg x y => match S.ev x, S.ev y with
    | some (.c x), some (.c y) => match x.bool?, y.bool? with
      | some a, some b => pure1 (.c (.bo (neg? neg (a == b))))
      | _, _ => .bad
    | _, _ => .bad
  | .eqa neg ks x y => match S.ev x, S.ev y with
    | some (.agg a), some (.agg b) => match eqCells ks a b with
      | some r => pure1 (.c (.bo (neg? neg r)))
      | none => .bad
    | _, _ => .bad
  | .un op x => match op, S.ev x with
    | .not, some (.c (.v (.bool b))) => pure1 (.c (.v (.bool (!b))))
    | .not, some (.c (.bo e)) => pure1 (.c (.bo (!e)))
    | .neg, some (.c (.v (.int k n))) => pure1 (.c (.v (.int k (k.wrap (0 - n)))))
    | _, _ => .bad
  | .conv k x => match S.ev x with
    | some (.c (.v (.int _ n))) => pure1 (.c (.v (.int k (k.wrap n))))
    | _ => .bad
  | .fa off x => match S.ev x with
    | some (.c (.ptr id o)) => pure1 (.c (.ptr id (o + off)))
    | some (.c (.ep i s k j)) => match look S.arrs i with
      | some A => .ok (k < A.len) ⟨.c (.ep i s k (j + off)), none, none⟩
      | none => .bad
    | _ => .bad
  | .fld agg off n x => match S.ev x with
    | some (.agg cs) => if agg then (if off + n ≤ len' cs then pure1 (.agg (take' n (drop' off cs))) else .bad)
      else match nth cs off with
        | some c => pure1 (.c c)
        | none => .bad
    | _ => .bad
  | .ia size x i => match S.ev x, S.ev i with
    | some (.c (.xv n)), some (.c (.v (.int _ z))) => match look S.arrs n with
      | some A => .ok (0 ≤ z ∧ z < A.len) ⟨.c (.ep n size z.toNat 0), none, none⟩
      | none => .bad
    | some (.c (.sl id off len _)), some (.c (.v (.int _ z))) => .ok (0 ≤ z ∧ z < len) ⟨.c (.ptr id (off + z.toNat * size)), none, none⟩
    | _, _ => .bad
  | .ext i x => match S.ev x with
    | some (.tup l) => match nth l i with
      | some (true, cs) => pure1 (.agg cs)
      | some (false, c :: _) => pure1 (.c c)
      | _ => .bad
    | _ => .bad
  | .len x => match S.ev x with
    | some (.c (.xv n)) => match look S.arrs n with
      | some A => pure1 (.c (.v (.int .i64 A.len)))
      | none => .bad
    | some (.c (.sl _ _ len _)) => pure1 (.c (.v (.int .i64 len)))
    | some (.c (.v (.slice _ n _))) => pure1 (.c (.v (.int .i64 n)))
    | _ => .bad
  | .call _ _ => .bad

def Out.world (E : Env) (w : World) (o : Out) : World :=
  match o.new, o.wr with
  | some (cs, t), _ => w.alloc (.cells (cs.map (SC.den E)).toArray t)
  | none, some (id, cs, _) => w.setRow (E.ρ id) (cs.map (SC.den E)).toArray
  | none, none => w

def St.putT (S : St) (dst : Option Nat) (v : SV) : List (Nat × SV) :=
  match dst with
  | some d => if d < S.nt then (d, v) :: S.tmps else S.tmps
  | none => S.tmps

def St.app (S : St) (dst : Option Nat) (o : Out) : St :=
  ⟨S.nt,
   S.putT dst o.val,
   match o.new, o.wr with
    | some b, _ => (S.nid, b) :: S.own
    | none, some b => b :: S.own
    | none, none => S.own,
   S.arrs, S.facts,
   match o.new with
    | some _ => S.nid + 1
    | none => S.nid⟩
end Go.Proofs.Ytgljbdcamagdbaa
