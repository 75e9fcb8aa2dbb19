
/- A symbolic run of a body, second form: values, memory told block by block, states, the short form of operations, what one operation does to a state. No statement of the program. -/
import Derived.Test.YtkjeedlkkpgopaaLib
import Derived.Deep.LoopGhost
import Derived.Orders
namespace Go.Proofs.Ytkjeedlkkpgopaa.Z
open Go Go.RowKit
set_option linter.unusedVariables false

/-! ### values -/
/-- a name: a number, and its place in a family (0, 0 where it is none) -/
abbrev Nm := Nat × Nat × Nat

/-- the value of one cell -/
inductive SC where
  | v (x : Value)
  | bo (e : Bool)
  | xv (x : Nm)
  | ptr (x : Nm) (off : Nat)
  | sl (x : Nm) (s o n : Nat) (c : Option Nat)
  | pe (x : Nm) (s e j : Nat)
  | xs (x : Nm) (s o n : Nat) (c : Option Nat)
  | ep (x : Nm) (s e j : Nat)
  | mp (x : Nm)
  | ifc (t : Nat) (c : SC)
  | fn (f : Fn) (l r : List SC)

/-- what a value's names stand for: blocks, their capacities, which are nil; values of callees and arguments -/
structure Env where
  ρ : Nm → Nat
  κ : Nm → Nat
  ν : Nm → Bool
  χ : Nm → Value

mutual
def SC.den (E : Env) : SC → Value
  | .v x => x
  | .bo e => .bool e
  | .xv x => E.χ x
  | .ptr x off => .pointer (some ⟨E.ρ x, off, none⟩)
  | .sl x s o n c => .slice (if E.ν x then none else some ⟨E.ρ x, o * s, none⟩) n (c.getD (E.κ x - o))
  | .pe x s e j => .pointer (some ⟨E.ρ x, e * s + j, none⟩)
  | .xs x s o n c => match E.χ x with
    | .slice (some a) _ cap => .slice (some (a.add (o * s))) n (c.getD (cap - o))
    | .slice none _ cap => .slice none n (c.getD (cap - o))
    | y => y
  | .ep x s e j => match E.χ x with
    | .slice (some a) _ _ => .pointer (some ⟨a.block, a.off + e * s + j, none⟩)
    | _ => .pointer none
  | .mp x => .map (some (E.ρ x))
  | .ifc t c => .iface t (SC.den E c)
  | .fn f l r => .func f (SC.denL E l).toArray (SC.denL E r).toArray
def SC.denL (E : Env) : List SC → List Value
  | [] => []
  | c :: r => SC.den E c :: SC.denL E r
end

/-- gd: what an operation yields whose guard (slot g, wanted so) is told by e: nothing where e is false -/
inductive SV where
  | c (x : SC)
  | agg (l : List SC)
  | tup (l : List (Bool × List SC))
  | gd (g : Nat) (want : Bool) (e : Bool) (v : SV)

def den1 (E : Env) : Bool × List SC → Value
  | (true, l) => .agg (l.map (SC.den E)).toArray
  | (false, x :: _) => x.den E
  | (false, []) => undef

def SV.den (E : Env) : SV → Value
  | .c x => x.den E
  | .agg l => .agg (l.map (SC.den E)).toArray
  | .tup l => .tuple (l.map (den1 E)).toArray
  | .gd _ _ e v => if e = true then v.den E else undef

/-! ### families -/
inductive Fm (α : Type) where
  | one (a : α)
  | fam (n : Nat) (f : Nat → α)
  | fam2 (n : Nat) (m : Nat → Nat) (f : Nat → Nat → α)

def Fm.get {α : Type} : Fm α → Nat × Nat → Option α
  | .one a, (k, l) => if k = 0 ∧ l = 0 then some a else none
  | .fam n f, (k, l) => if k < n ∧ l = 0 then some (f k) else none
  | .fam2 n m f, (k, l) => if k < n ∧ l < m k then some (f k l) else none
/-- a member, and that it is one -/
def Fm.pk {α : Type} : Fm α → Nat × Nat → Prop × α
  | .one a, (k, l) => (k = 0 ∧ l = 0, a)
  | .fam n f, (k, l) => (k < n ∧ l = 0, f k)
  | .fam2 n m f, (k, l) => (k < n ∧ l < m k, f k l)
def Fm.set {α : Type} : Fm α → Nat × Nat → α → Fm α
  | .one _, _, b => .one b
  | .fam n f, (k, _), b => .fam n fun x => if x = k then b else f x
  | .fam2 n m f, (k, l), b => .fam2 n m fun x y => if x = k ∧ y = l then b else f x y

def look {α : Type} : List (Nat × α) → Nat → Option α
  | [], _ => none
  | (k, v) :: l, t => if k = t then some v else look l t
/-- an entry is laid in the place of the elder one -/
def setL {α : Type} : List (Nat × α) → Nat → α → List (Nat × α)
  | [], t, v => [(t, v)]
  | (k, u) :: l, t, v => if k = t then (k, v) :: l else (k, u) :: setL l t v
def mergeL {α : Type} : List (Nat × α) → List (Nat × α) → List (Nat × α)
  | [], l => l
  | (k, v) :: r, l => setL (mergeL r l) k v
/-- entries that are let go -/
def memB : List Nat → Nat → Bool
  | [], _ => false
  | a :: l, k => if a = k then true else memB l k
def dropL {α : Type} (ks : List Nat) : List (Nat × α) → List (Nat × α)
  | [] => []
  | (k, v) :: l => if memB ks k = true then dropL ks l else (k, v) :: dropL ks l

def atN {α : Type} (l : List (Nat × Fm α)) (x : Nm) : Option α := match look l x.1 with
  | some F => F.get x.2
  | none => none
/-- the entry of a name: that it is there, and what it is -/
def pkN {α : Type} (l : List (Nat × Fm α)) (x : Nm) : Option (Prop × α) := match look l x.1 with
  | some F => some (F.pk x.2)
  | none => none
def setN {α : Type} (l : List (Nat × Fm α)) (x : Nm) (b : α) : List (Nat × Fm α) := match look l x.1 with
  | some F => [(x.1, F.set x.2 b)]
  | none => []

/-! ### memory -/
abbrev PH := Nat → Option Obj
def emp : PH := fun _ => none
def sing (b : Nat) (o : Obj) : PH := fun n => if n = b then some o else none

/-- the keys of a map: integers, or arrays of so many integers -/
inductive KK where
  | int (k : IntKind)
  | arr (n : Nat) (k : IntKind)
  deriving DecidableEq
def KK.len : KK → Nat
  | .int _ => 1
  | .arr n _ => n
def KK.enc : KK → List Int → Value
  | .int k, [n] => .int k n
  | .int _, _ => .bool true
  | .arr _ k, l => .agg (l.map (Value.int k)).toArray

inductive Blk where
  | no
  | bk (cs : List SC) (ty : Nat)
  | ar (n s : Nat) (at_ : Nat → List SC) (ty : Nat)
  | mp (kk : KK) (kd : IntKind) (f : List Int → Option Int)
  | mpe (kk : KK) (kd : IntKind) (f : List Int → Option Int) (a : List Int) (y : Nm)
  | wm (kk : KK) (kd : IntKind) (g : List Int → Int)
  | pr (φ : Env → PH → Prop)

/-- an entry of a map: its key, its value, when it was born -/
structure MEnt where
  key : List Int
  val : Int
  born : Nat
def MEnt.den (kk : KK) (kd : IntKind) (e : MEnt) : MapEntry := ⟨kk.enc e.key, .int kd e.val, e.born⟩
def fnd (a : List Int) : List MEnt → Nat → Option (Nat × Int)
  | [], _ => none
  | e :: r, i => if e.key = a then some (i, e.val) else fnd a r (i + 1)
/-- the entries of a map tell what a function does -/
def MapOk (kk : KK) (kd : IntKind) (f : List Int → Option Int) (es : Array MapEntry) (clock : Nat) : Prop :=
  ∃ L : List MEnt, es = (L.map (MEnt.den kk kd)).toArray ∧ (∀ e ∈ L, e.key.length = kk.len ∧ e.born < clock) ∧ (L.map (·.key)).Nodup ∧ (∀ a, a.length = kk.len → f a = (fnd a L 0).map (·.2)) ∧ (L.map (·.born)).Nodup

def Blk.den (E : Env) (x : Nm) : Blk → PH → Prop
  | .no, h => h = emp
  | .bk cs ty, h => h = sing (E.ρ x) (.cells (cs.map (SC.den E)).toArray ty (0, 0))
  | .ar n s at_ ty, h => (E.ν x = true ∧ E.κ x = 0 ∧ n = 0 ∧ h = emp) ∨
      (E.ν x = false ∧ n ≤ E.κ x ∧ E.κ x ≤ maxLen ∧ ∃ cells : Array Value, h = sing (E.ρ x) (.cells cells ty (0, 0)) ∧ cells.size = E.κ x * s ∧
        ∀ e, e < n → (at_ e).length = s ∧ ∀ j u, (at_ e)[j]? = some u → cells[e * s + j]? = some (u.den E) ∧ (u.den E).oneCell' = true)
  | .mp kk kd f, h => ∃ es clock, h = sing (E.ρ x) (.map es clock) ∧ MapOk kk kd f es clock
  | .mpe kk kd f a y, h => ∃ es clock, h = sing (E.ρ x) (.map es clock) ∧ MapOk kk kd (fun q => if q = a then some ((f a).getD 0) else f q) es clock ∧ ∃ (i : Nat) (e : MapEntry), es[i]? = some e ∧ e.key = kk.enc a ∧ E.χ y = .int .i64 e.born
  | .wm kk kd g, h => ∃ es clock, h = sing (E.ρ x) (.map es clock) ∧ ∃ f, MapOk kk kd f es clock ∧ ∀ a, a.length = kk.len → (f a).getD 0 = g a
  | .pr φ, h => φ E h

abbrev Own := List (Nat × Fm Blk)

/-- a slice that is only read: how many elements, how many cells each has, their values; from which block on it lies -/
structure ArrF where
  len : Nat
  size : Nat
  at_ : Nat → List SC
  low : Nat

structure St where
  nt : Nat
  tmps : List (Nat × SV)
  own : Own
  arrs : List (Nat × Fm ArrF)
  facts : List (Env → World → Prop)
  nid : Nat

def ArrAt (E : Env) (w : World) (x : Nm) (A : ArrF) : Prop :=
  ∃ ba cap, E.χ x = .slice ba A.len cap ∧ A.len ≤ cap ∧ cap ≤ maxLen ∧
    (A.len = 0 ∨ ∃ b off, ba = some ⟨b, off, none⟩ ∧ A.low ≤ b ∧ ∀ k, k < A.len → (A.at_ k).length = A.size ∧ ∀ j u, (A.at_ k)[j]? = some u → w.cell? ⟨b, off + k * A.size + j, none⟩ = some (u.den E) ∧ (u.den E).oneCell' = true)

def Holds (E : Env) (S : St) (w : World) : Prop :=
  (∀ x A, atN S.arrs x = some A → ArrAt E w x A) ∧ ∀ φ ∈ S.facts, φ E w

/-- memory is as the entries tell; what each takes up -/
structure HeapOk (B : Nat) (W : Nat → Prop) (E : Env) (own : Own) (H : Nm → PH) (w : World) : Prop where
  den : ∀ x b, atN own x = some b → b.den E x (H x)
  disj : ∀ x y b c, atN own x = some b → atN own y = some c → x ≠ y → ∀ n, H x n = none ∨ H y n = none
  sub : ∀ x b, atN own x = some b → ∀ n o, H x n = some o → w.heap[n]? = some o ∧ (B ≤ n ∨ W n)

/-- no entry takes up the block -/
def Free (own : Own) (H : Nm → PH) (n : Nat) : Prop := ∀ x b, atN own x = some b → H x n = none

/-- memory that was there at the call and is not handed over is as it was -/
structure Frame0 (B : Nat) (W : Nat → Prop) (w0 w : World) : Prop where
  os : w.os = w0.os
  tape : w.tape = w0.tape
  output : w.output = w0.output
  size : B ≤ w.heap.size
  keep : ∀ n, n < B → ¬ W n → w.heap[n]? = w0.heap[n]?

structure Sat (B : Nat) (W : Nat → Prop) (w0 : World) (E : Env) (S : St) (a : Act) (w : World) : Prop where
  size : a.tmps.size = S.nt
  defers : a.defers = []
  one : ∀ x, (E.χ x).oneCell' = true
  tmps : ∀ t v, look S.tmps t = some v → t < S.nt ∧ a.tmps.getD t undef = v.den E
  frame : Frame0 B W w0 w
  mem : ∃ H, HeapOk B W E S.own H w ∧ ∀ w', (∀ n, n < w.heap.size → Free S.own H n → w'.heap[n]? = w.heap[n]?) → Holds E S w'

/-- two readings of the names agree -/
def Same (E E' : Env) (x : Nm) : Prop := E'.ρ x = E.ρ x ∧ E'.κ x = E.κ x ∧ E'.ν x = E.ν x ∧ E'.χ x = E.χ x
def OneC (E : Env) : Prop := ∀ x, (E.χ x).oneCell' = true
def AgreeD (D : Nat → Prop) (E E' : Env) : Prop := ∀ x : Nm, D x.1 → Same E E' x

/-- .. whatever the names outside D stand for -/
def SatD (D : Nat → Prop) (B : Nat) (W : Nat → Prop) (w0 : World) (E : Env) (S : St) (a : Act) (w : World) : Prop := ∀ E', AgreeD D E E' → OneC E' → Sat B W w0 E' S a w
def SatA (B : Nat) (W : Nat → Prop) (w0 : World) (E : Env) (S : St) (a : Act) (w : World) : Prop := OneC E ∧ SatD (· < S.nid) B W w0 E S a w

/-! ### what an operation, a call leaves -/
structure EffOk (E : Env) (own : Own) (H : Nm → PH) (w w' : World) (eff : Own) : Prop where
  os : w'.os = w.os
  tape : w'.tape = w.tape
  output : w'.output = w.output
  size : w.heap.size ≤ w'.heap.size
  keep : ∀ n, n < w.heap.size → (∀ x b, (look eff x.1).isSome = true → atN own x = some b → H x n = none) → w'.heap[n]? = w.heap[n]?
  new : ∃ H' : Nm → PH, (∀ x b, atN eff x = some b → b.den E x (H' x)) ∧ (∀ x y b c, atN eff x = some b → atN eff y = some c → x ≠ y → ∀ n, H' x n = none ∨ H' y n = none) ∧
    ∀ x b, atN eff x = some b → ∀ n o, H' x n = some o → w'.heap[n]? = some o ∧ (w.heap.size ≤ n ∨ ∃ y c, (look eff y.1).isSome = true ∧ atN own y = some c ∧ H y n ≠ none)

def Fits (B : Nat) (W : Nat → Prop) (E : Env) (S : St) (w w' : World) (eff : Own) (arrs' : List (Nat × Fm ArrF)) : Prop :=
  (∀ H, HeapOk B W E S.own H w → EffOk E S.own H w w' eff) ∧ ∀ w'', Holds E S w'' → ∀ x A, atN arrs' x = some A → ArrAt E w'' x A

def NewIds (n nx i : Nat) : Prop := n ≤ i ∧ i < n + nx

/-- .. where lists may lie in new memory that is not told otherwise (G) -/
structure EffG (E : Env) (own : Own) (H : Nm → PH) (w w' : World) (eff : Own) (G : Nat → Prop) : Prop where
  os : w'.os = w.os
  tape : w'.tape = w.tape
  output : w'.output = w.output
  size : w.heap.size ≤ w'.heap.size
  keep : ∀ n, n < w.heap.size → (∀ x b, (look eff x.1).isSome = true → atN own x = some b → H x n = none) → w'.heap[n]? = w.heap[n]?
  new : ∃ H' : Nm → PH, (∀ x b, atN eff x = some b → b.den E x (H' x)) ∧ (∀ x y b c, atN eff x = some b → atN eff y = some c → x ≠ y → ∀ n, H' x n = none ∨ H' y n = none) ∧
    ∀ x b, atN eff x = some b → ∀ n o, H' x n = some o → w'.heap[n]? = some o ∧ ((w.heap.size ≤ n ∧ ¬ G n) ∨ ∃ y c, (look eff y.1).isSome = true ∧ atN own y = some c ∧ H y n ≠ none)

def FitsG (B : Nat) (W : Nat → Prop) (E : Env) (S : St) (w w' : World) (eff : Own) (arrs' : List (Nat × Fm ArrF)) : Prop :=
  ∃ G : Nat → Prop, (∀ n, G n → w.heap.size ≤ n ∧ n < w'.heap.size) ∧ (∀ H, HeapOk B W E S.own H w → EffG E S.own H w w' eff G) ∧
    ∀ w'', Holds E S w'' → (∀ n, G n → w''.heap[n]? = w'.heap[n]?) → ∀ x A, atN arrs' x = some A → ArrAt E w'' x A

theorem Fits.G {B : Nat} {W : Nat → Prop} {E : Env} {S : St} {w w' : World} {eff : Own} {arrs' : List (Nat × Fm ArrF)} (h : Fits B W E S w w' eff arrs') : FitsG B W E S w w' eff arrs' := by
  refine ⟨fun _ => False, fun n h => h.elim, fun H hH => ?_, fun w'' h1 _ => h.2 w'' h1⟩
  have he := h.1 H hH
  obtain ⟨H', h1, h2, h3⟩ := he.new
  exact ⟨he.os, he.tape, he.output, he.size, he.keep, H', h1, h2, fun x b hb n o hn => ⟨(h3 x b hb n o hn).1, (h3 x b hb n o hn).2.imp (fun h => ⟨h, fun h => h⟩) id⟩⟩

/-- the answer v and the world w' are told by a pattern; ks: the names that must stand for what they stand for in E -/
def After (B : Nat) (W : Nat → Prop) (w0 : World) (E : Env) (ks : List Nat) (S : St) (a : Act) (w : World) (tmpl : SV) (nx : Nat) (eff : Own) (arrs' : List (Nat × Fm ArrF)) (v : Value) (w' : World) : Prop :=
  ∃ N : Env, OneC N ∧ ∀ E2, Sat B W w0 E2 S a w → AgreeD (· ∈ ks) E E2 → AgreeD (NewIds S.nid nx) N E2 → v = tmpl.den E2 ∧ FitsG B W E2 S w w' eff arrs'

/-! ### the short form of operations -/
inductive IX where
  | t (n : Nat)
  | k (v : SV)

inductive IOp where
  | mv (x : IX)
  | pick (c a b : IX)
  | new (t : Nat) (z : List SC)
  | newA (t : Nat) (n s : Nat) (z : List SC)
  | box (t : Nat) (x : IX)
  | build (z : List SC) (parts : List (Nat × Nat × IX))
  | mkSl (t : Nat) (len size : Nat) (z : List SC) (parts : List (Nat × Nat × IX))
  | ld (agg : Bool) (n : Nat) (x : IX)
  | st (n : Nat) (a v : IX)
  | nilck (x : IX)
  | bin (op : BinOp) (x y : IX)
  | sh (left : Bool) (x y : IX)
  | eqb (neg : Bool) (x y : IX)
  | eqa (neg : Bool) (ks : List Bool) (x y : IX)
  | eqn (kd : Nat) (neg : Bool) (x y : IX)
  | un (op : UnOp) (x : IX)
  | conv (k : IntKind) (x : IX)
  | fa (off : Nat) (x : IX)
  | fld (agg : Bool) (off n : Nat) (x : IX)
  | ia (size : Nat) (x i : IX)
  | iar (len size : Nat) (x i : IX)
  | idx (agg : Bool) (len size : Nat) (x i : IX)
  | ext (i : Nat) (x : IX)
  | len (x : IX)
  | app (t size bytes : Nat) (z : List SC) (s x : IX)
  | cpy (size : Nat) (d s : IX)
  | mks (t size bytes : Nat) (z : List SC) (len cap : IX)
  | slc (size : Nat) (x : IX) (lo hi mx : Option IX)
  | mm (max : Bool) (x y : IX)
  | mif (t : Nat) (x : IX)
  | mfn (f : Fn) (l r : List IX)
  | mkm (kk : KK) (kd : IntKind)
  | lkp (kk : KK) (kd : IntKind) (ok : Bool) (m k : IX)
  | mup (kk : KK) (kd : IntKind) (m k v : IX)
  | ent (kk : KK) (kd : IntKind) (m k : IX)
  | ests (kk : KK) (kd : IntKind) (m s v : IX)
  | call (f : Nat) (args : List IX)
  | callv (x : IX) (args : List IX)
  | calli (name : String) (x : IX) (args : List IX)

structure IO1 where
  dst : Option Nat
  op : IOp
  guard : Option (Nat × Bool)

/-! ### what an operation does -/
structure Out where
  val : SV
  eff : Own
  arrs : List (Nat × Fm ArrF)
  cnt : Nat

inductive Res where
  | ok (vc : Prop) (out : Out)
  | two (c : Prop) (vc : Prop) (out : Out) (vc' : Prop) (out' : Out)
  | bad

/-- which of them it is -/
def Res.Sel : Res → Prop → Out → Prop
  | .ok p o, vc, out => vc = p ∧ out = o
  | .two c p o p' o', vc, out => (c ∧ vc = p ∧ out = o) ∨ (¬ c ∧ vc = p' ∧ out = o')
  | .bad, _, _ => False

def St.ev (S : St) : IX → Option SV
  | .t n => look S.tmps n
  | .k v => some v
def evs (S : St) : List IX → Option (List SV)
  | [] => some []
  | x :: r => match S.ev x, evs S r with
    | some v, some vs => some (v :: vs)
    | _, _ => none
def evC (S : St) : List IX → Option (List SC)
  | [] => some []
  | x :: r => match S.ev x, evC S r with
    | some (.c v), some vs => some (v :: vs)
    | _, _ => none

def SC.one : SC → Bool
  | .v x => x.oneCell'
  | _ => true

def drop' {α : Type} : Nat → List α → List α
  | 0, l => l
  | _ + 1, [] => []
  | n + 1, _ :: l => drop' n l
def take' {α : Type} : Nat → List α → List α
  | 0, _ => []
  | _ + 1, [] => []
  | n + 1, a :: l => a :: take' n l
def nth {α : Type} : List α → Nat → Option α
  | [], _ => none
  | a :: _, 0 => some a
  | _ :: l, n + 1 => nth l n
def len' {α : Type} : List α → Nat
  | [] => 0
  | _ :: l => len' l + 1

def allOne : List SC → Bool
  | [] => true
  | c :: r => c.one && allOne r

/-- the cells of a value -/
def SV.cells : SV → Option (List SC)
  | .c x => if x.one then some [x] else none
  | .agg l => if allOne l then some l else none
  | .tup _ => none
  | .gd _ _ _ _ => none

def put (l : List SC) (off : Nat) (cs : List SC) : List SC := take' off l ++ cs ++ drop' (off + len' cs) l

def fillP (S : St) : List (Nat × Nat × IX) → List SC → Option (List SC)
  | [], z => some z
  | (off, size, x) :: r, z => match S.ev x with
    | some v => match v.cells with
      | some cs => if len' cs = size ∧ off + size ≤ len' z then fillP S r (put z off cs) else none
      | none => none
    | none => none

def pureO (v : SV) : Out := ⟨v, [], [], 0⟩
/-- a list of no elements, of a new name -/
def endO (S : St) (size : Nat) : Out := ⟨.c (.xv (S.nid, 0, 0)), [], [(S.nid, .one ⟨0, size, fun _ => [], 0⟩)], 1⟩
def pure1 (v : SV) : Res := .ok True (pureO v)

/-- a shift -/
def shI (left : Bool) (k : IntKind) (a b : Int) : Int := if left then k.wrap (a * 2 ^ min b.toNat k.bits) else a.fdiv (2 ^ min b.toNat k.bits)
def binI (op : BinOp) (k : IntKind) (a b : Int) : Res :=
  match op with
  | .add => pure1 (.c (.v (.int k (k.wrap (a + b)))))
  | .sub => pure1 (.c (.v (.int k (k.wrap (a - b)))))
  | .mul => pure1 (.c (.v (.int k (k.wrap (a * b)))))
  | .quo => .ok (b ≠ 0) (pureO (.c (.v (.int k (k.wrap (a.tdiv b))))))
  | .rem => .ok (b ≠ 0) (pureO (.c (.v (.int k (a.tmod b)))))
  | .and => pure1 (.c (.v (.int k (bits .and k a b))))
  | .or => pure1 (.c (.v (.int k (bits .or k a b))))
  | .xor => pure1 (.c (.v (.int k (bits .xor k a b))))
  | .andNot => pure1 (.c (.v (.int k (bits .andNot k a b))))
  | .eql => pure1 (.c (.bo (a == b)))
  | .neq => pure1 (.c (.bo (a != b)))
  | .lss => pure1 (.c (.bo (decide (a < b))))
  | .leq => pure1 (.c (.bo (decide (a ≤ b))))
  | .gtr => pure1 (.c (.bo (decide (a > b))))
  | .geq => pure1 (.c (.bo (decide (a ≥ b))))
  | _ => .bad

def SC.bool? : SC → Option Bool
  | .v (.bool b) => some b
  | .bo e => some e
  | _ => none

def eqCells : List Bool → List SC → List SC → Option Bool
  | [], [], [] => some true
  | true :: ks, .v (.int k a) :: r, .v (.int k' b) :: r' => if k = k' then (eqCells ks r r').map ((a == b) && ·) else none
  | false :: ks, c :: r, c' :: r' => match c.bool?, c'.bool? with
    | some a, some b => (eqCells ks r r').map ((a == b) && ·)
    | _, _ => none
  | _, _, _ => none

def neg? (neg b : Bool) : Bool := if neg then !b else b

/-- is it nil? (0: a pointer, 1: a slice, 2: a map, 3: a function, 4: an interface value) -/
def SC.nil? : Nat → SC → Option Bool
  | 0, .v (.pointer none) => some true
  | 0, .ptr _ _ => some false
  | 0, .pe _ _ _ _ => some false
  | 1, .v (.slice none _ _) => some true
  | 2, .v (.map none) => some true
  | 2, .mp _ => some false
  | 3, .v .nilFunc => some true
  | 3, .fn _ _ _ => some false
  | 4, .v .nilIface => some true
  | 4, .ifc _ _ => some false
  | _, _ => none

/-- a key's integers -/
def intsOf (k : IntKind) : List SC → Option (List Int)
  | [] => some []
  | .v (.int k' n) :: r => if k' = k then (intsOf k r).map (n :: ·) else none
  | _ => none
def keyOf : KK → SV → Option (List Int)
  | .int k, .c (.v (.int k' n)) => if k' = k then some [n] else none
  | .arr _ k, .agg l => intsOf k l
  | _, _ => none

/-- elements of size s out of a list of cells -/
def segs (s : Nat) (cs : List SC) (e : Nat) : List SC := take' s (drop' (e * s) cs)

/-- an integer's value -/
def SV.int? : SV → Option Int
  | .c (.v (.int _ n)) => some n
  | _ => none

/-- what is read as a slice: that it may be, how many elements, and element by element -/
def slSrc (S : St) (s : Nat) : SV → Option (Prop × Nat × (Nat → List SC))
  | .c (.v (.slice none 0 0)) => some (True, 0, fun _ => [])
  | .c (.sl x s' o n _) => match pkN S.own x with
    | some (p, .ar m s'' at_ _) => some (p ∧ s' = s ∧ s'' = s ∧ o + n ≤ m, n, fun e => at_ (o + e))
    | _ => none
  | .c (.xv x) => match pkN S.arrs x with
    | some (p, A) => some (p ∧ A.size = s, A.len, A.at_)
    | _ => none
  | .c (.xs x s' o n _) => match pkN S.arrs x with
    | some (p, A) => some (p ∧ s' = s ∧ A.size = s ∧ o + n ≤ A.len, n, fun e => A.at_ (o + e))
    | _ => none
  | _ => none

def appAt (n : Nat) (f g : Nat → List SC) (e : Nat) : List SC := if e < n then f e else g (e - n)
def cpyAt (o n : Nat) (f g : Nat → List SC) (e : Nat) : List SC := if o ≤ e ∧ e < o + n then g (e - o) else f e
def setAt (k : Nat) (f : Nat → List SC) (x : List SC) (e : Nat) : List SC := if e = k then x else f e

/-- the bounds of a slicing -/
def slB (S : St) (lo hi : Option IX) (n : Nat) : Option (Int × Int) :=
  match (match lo with
    | none => some (0 : Int)
    | some x => (S.ev x).bind SV.int?), (match hi with
    | none => some (n : Int)
    | some x => (S.ev x).bind SV.int?) with
  | some l, some h => some (l, h)
  | _, _ => none
def slM (S : St) : Option IX → Option (Option Int)
  | none => some none
  | some x => match (S.ev x).bind SV.int? with
    | some m => some (some m)
    | none => none

/-! ### guards that are not known -/
def gB (want b : Bool) : Bool := if want = true then b else !b
/-- a guard, its elder ones, and what tells whether they are met -/
def chain (tmps : List (Nat × SV)) : Nat → Nat → Bool → List (Nat × Bool × Bool)
  | 0, _, _ => []
  | n + 1, g, want => match look tmps g with
    | some (.c (.bo b)) => [(g, want, gB want b)]
    | some (.gd g' w' e' (.c (.bo b))) => (g, want, e' && gB want b) :: chain tmps n g' w'
    | _ => []
/-- .. and that what was noted of the elder ones is what they tell -/
def chainP (tmps : List (Nat × SV)) : Nat → Nat → Bool → Prop
  | 0, _, _ => True
  | n + 1, g, want => match look tmps g with
    | some (.gd g' w' e' (.c (.bo b))) => (match chain tmps n g' w' with
      | (_, _, e'') :: _ => e' = e''
      | [] => False) ∧ chainP tmps n g' w'
    | _ => True
def inCh : List (Nat × Bool × Bool) → Nat → Bool → Option Bool
  | [], _, _ => none
  | (g, w, e) :: l, g', w' => if g = g' ∧ w = w' then some e else inCh l g' w'
/-- a value as it is where the guards are met, and what that rests on -/
def resV (ch : List (Nat × Bool × Bool)) (tmps : List (Nat × SV)) : SV → Prop × SV
  | .gd g w e v => match inCh ch g w with
    | some e0 => (e = e0, v)
    | none => match look tmps g with
      | some (.gd g' w' e' (.c (.bo b))) => match inCh ch g' w' with
        | some e0 => (e' = e0 ∧ e = (e' && gB w b), .gd g w (gB w b) v)
        | none => (True, .gd g w e v)
      | _ => (True, .gd g w e v)
  | v => (True, v)
def rsvP (ch : List (Nat × Bool × Bool)) (tmps : List (Nat × SV)) : List Nat → Prop
  | [] => True
  | t :: l => match look tmps t with
    | some v => (resV ch tmps v).1 ∧ rsvP ch tmps l
    | none => rsvP ch tmps l
def resT (ch : List (Nat × Bool × Bool)) (tmps : List (Nat × SV)) : List Nat → List (Nat × SV)
  | [] => tmps
  | t :: l => match look tmps t with
    | some v => setL (resT ch tmps l) t (resV ch tmps v).2
    | none => resT ch tmps l
def slot1 : IX → List Nat
  | .t n => [n]
  | .k _ => []
/-- the slots that an operation reads which changes nothing; none: another one -/
def pureSlots : IOp → Option (List Nat)
  | .mv x => some (slot1 x)
  | .pick c a b => some (slot1 c ++ slot1 a ++ slot1 b)
  | .ld _ _ x => some (slot1 x)
  | .nilck x => some (slot1 x)
  | .bin _ x y => some (slot1 x ++ slot1 y)
  | .sh _ x y => some (slot1 x ++ slot1 y)
  | .eqb _ x y => some (slot1 x ++ slot1 y)
  | .eqa _ _ x y => some (slot1 x ++ slot1 y)
  | .eqn _ _ x y => some (slot1 x ++ slot1 y)
  | .un _ x => some (slot1 x)
  | .conv _ x => some (slot1 x)
  | .fa _ x => some (slot1 x)
  | .fld _ _ _ x => some (slot1 x)
  | .ia _ x i => some (slot1 x ++ slot1 i)
  | .iar _ _ x i => some (slot1 x ++ slot1 i)
  | .idx _ _ _ x i => some (slot1 x ++ slot1 i)
  | .ext _ x => some (slot1 x)
  | .len x => some (slot1 x)
  | .mm _ x y => some (slot1 x ++ slot1 y)
  | .lkp _ _ _ m k => some (slot1 m ++ slot1 k)
  | _ => none
/-- one arm of a choice: what was worked out for it alone -/
def St.evW (S : St) (c : IX) (want : Bool) (x : IX) : Option (Prop × SV) := match S.ev x with
  | some (.gd g w e v) => match c with
    | .t n => if g = n ∧ w = want then (match look S.tmps n with
      | some (.c (.bo b)) => some (e = gB want b, v)
      | _ => none) else none
    | _ => none
  | some v => some (True, v)
  | none => none
/-- behind a branch: what hung on the guard is told -/
def resA1 (g : Nat) (b0 b : Bool) : SV → Prop × SV
  | .gd g' w e v => if g' = g then (e = gB w b0, if w = b then v else .c (.v undef)) else (True, .gd g' w e v)
  | v => (True, v)
def resAP (g : Nat) (b0 b : Bool) : List (Nat × SV) → Prop
  | [] => True
  | (_, v) :: l => (resA1 g b0 b v).1 ∧ resAP g b0 b l
def resA (g : Nat) (b0 b : Bool) : List (Nat × SV) → List (Nat × SV)
  | [] => []
  | (t, v) :: l => (t, (resA1 g b0 b v).2) :: resA g b0 b l

def stepOut (op : IOp) (S : St) : Res :=
  match op with
  | .mv x => match S.ev x with
    | some v => pure1 v
    | none => .bad
  | .pick c a b => match S.ev c with
    | some (.c (.v (.bool true))) => match S.ev a with
      | some v => pure1 v
      | none => .bad
    | some (.c (.v (.bool false))) => match S.ev b with
      | some v => pure1 v
      | none => .bad
    | some (.c (.bo e)) => match S.evW c true a, S.evW c false b with
      | some (pa, .c x), some (pb, .c y) => match x.bool?, y.bool? with
        | some p, some q => .ok (pa ∧ pb) (pureO (.c (.bo (if e = true then p else q))))
        | _, _ => .bad
      | _, _ => .bad
    | _ => .bad
  | .new t z => .ok True ⟨.c (.ptr (S.nid, 0, 0) 0), [(S.nid, .one (.bk z t))], [], 1⟩
  | .newA t n s z => .ok (allOne z = true ∧ len' z = s ∧ n ≤ maxLen) ⟨.c (.pe (S.nid, 0, 0) s 0 0), [(S.nid, .one (.ar n s (fun _ => z) t))], [], 1⟩
  | .box t x => match S.ev x with
    | some v => match v.cells with
      | some cs => .ok True ⟨.c (.ptr (S.nid, 0, 0) 0), [(S.nid, .one (.bk cs t))], [], 1⟩
      | none => .bad
    | none => .bad
  | .build z ps => match fillP S ps z with
    | some cs => pure1 (.agg cs)
    | none => .bad
  | .mkSl t len s z ps => match fillP S ps z with
    | some cs => .ok (allOne cs = true ∧ len' cs = len * s ∧ len ≤ maxLen) ⟨.c (.sl (S.nid, 0, 0) s 0 len none), [(S.nid, .one (.ar len s (segs s cs) t))], [], 1⟩
    | none => .bad
  | .ld agg n x => match S.ev x with
    | some (.c (.ptr x off)) => match pkN S.own x with
      | some (p, .bk cs _) => if agg then (if off + n ≤ len' cs then .ok p (pureO (.agg (take' n (drop' off cs)))) else .bad)
        else match nth cs off with
          | some c => .ok p (pureO (.c c))
          | none => .bad
      | _ => .bad
    | some (.c (.pe x s k j)) => match pkN S.own x with
      | some (p, .ar m s' at_ _) => if agg then .ok (p ∧ k < m ∧ s' = s ∧ j + n ≤ s) (pureO (.agg (take' n (drop' j (at_ k)))))
        else match nth (at_ k) j with
          | some c => .ok (p ∧ k < m ∧ s' = s) (pureO (.c c))
          | none => .bad
      | _ => .bad
    | some (.c (.ep x s k j)) => match pkN S.arrs x with
      | some (p, A) => if agg then .ok (p ∧ k < A.len ∧ A.size = s ∧ j + n ≤ s) (pureO (.agg (take' n (drop' j (A.at_ k)))))
        else match nth (A.at_ k) j with
          | some c => .ok (p ∧ k < A.len ∧ A.size = s) (pureO (.c c))
          | none => .bad
      | none => .bad
    | _ => .bad
  | .st n a v => match S.ev a, S.ev v with
    | some (.c (.ptr x off)), some v => match pkN S.own x, v.cells with
      | some (p, .bk cs t), some new => if len' new = n ∧ off + n ≤ len' cs then .ok p ⟨.c (.v undef), setN S.own x (.bk (put cs off new) t), [], 0⟩ else .bad
      | _, _ => .bad
    | some (.c (.pe x s k j)), some v => match pkN S.own x, v.cells with
      | some (p, .ar m s' at_ t), some new => .ok (p ∧ k < m ∧ s' = s ∧ len' new = n ∧ j + n ≤ s) ⟨.c (.v undef), setN S.own x (.ar m s' (setAt k at_ (put (at_ k) j new)) t), [], 0⟩
      | _, _ => .bad
    | _, _ => .bad
  | .nilck x => match S.ev x with
    | some (.c (.ptr x off)) => pure1 (.c (.ptr x off))
    | some (.c (.pe x s k j)) => pure1 (.c (.pe x s k j))
    | some (.c (.fn f l r)) => match f with
      | .func _ => pure1 (.c (.fn f l r))
      | _ => .bad
    | _ => .bad
  | .bin op x y => match S.ev x, S.ev y with
    | some (.c (.v (.int k a))), some (.c (.v (.int k' b))) => if k = k' then binI op k a b else .bad
    | _, _ => .bad
  | .sh left x y => match S.ev x, S.ev y with
    | some (.c (.v (.int k a))), some (.c (.v (.int _ b))) => .ok (0 ≤ b) (pureO (.c (.v (.int k (shI left k a b)))))
    | _, _ => .bad
  | .eqb neg x y => match S.ev x, S.ev y with
    | some (.c x), some (.c y) => match x.bool?, y.bool? with
      | some a, some b => pure1 (.c (.bo (neg? neg (a == b))))
      | _, _ => .bad
    | _, _ => .bad
  | .eqa neg ks x y => match S.ev x, S.ev y with
    | some (.agg a), some (.agg b) => match eqCells ks a b with
      | some r => pure1 (.c (.bo (neg? neg r)))
      | none => .bad
    | _, _ => .bad
  | .eqn kd neg x y => match S.ev x, S.ev y with
    | some (.c x), some (.c y) => match x.nil? kd, y.nil? kd with
      | some a, some true => pure1 (.c (.v (.bool (neg? neg a))))
      | some true, some b => pure1 (.c (.v (.bool (neg? neg b))))
      | _, _ => .bad
    | _, _ => .bad
  | .un op x => match op, S.ev x with
    | .not, some (.c (.v (.bool b))) => pure1 (.c (.v (.bool (!b))))
    | .not, some (.c (.bo e)) => pure1 (.c (.bo (!e)))
    | .neg, some (.c (.v (.int k n))) => pure1 (.c (.v (.int k (k.wrap (0 - n)))))
    | _, _ => .bad
  | .conv k x => match S.ev x with
    | some (.c (.v (.int _ n))) => pure1 (.c (.v (.int k (k.wrap n))))
    | _ => .bad
  | .fa off x => match S.ev x with
    | some (.c (.ptr x o)) => pure1 (.c (.ptr x (o + off)))
    | some (.c (.pe x s k j)) => pure1 (.c (.pe x s k (j + off)))
    | some (.c (.ep x s k j)) => match pkN S.arrs x with
      | some (p, A) => .ok (p ∧ k < A.len) (pureO (.c (.ep x s k (j + off))))
      | none => .bad
    | _ => .bad
  | .fld agg off n x => match S.ev x with
    | some (.agg cs) => if agg then (if off + n ≤ len' cs then pure1 (.agg (take' n (drop' off cs))) else .bad)
      else match nth cs off with
        | some c => pure1 (.c c)
        | none => .bad
    | _ => .bad
  | .ia size x i => match S.ev x, S.ev i with
    | some (.c (.xv x)), some (.c (.v (.int _ z))) => match pkN S.arrs x with
      | some (p, A) => .ok (p ∧ 0 ≤ z ∧ z < A.len) (pureO (.c (.ep x size z.toNat 0)))
      | none => .bad
    | some (.c (.xs x s o n _)), some (.c (.v (.int _ z))) => match pkN S.arrs x with
      | some (p, A) => .ok (p ∧ s = size ∧ 0 ≤ z ∧ z < n ∧ o + n ≤ A.len) (pureO (.c (.ep x size (o + z.toNat) 0)))
      | none => .bad
    | some (.c (.sl x s o n _)), some (.c (.v (.int _ z))) => match pkN S.own x with
      | some (p, .ar m _ _ _) => .ok (p ∧ s = size ∧ 0 ≤ z ∧ z < n ∧ o + n ≤ m) (pureO (.c (.pe x size (o + z.toNat) 0)))
      | _ => .bad
    | _, _ => .bad
  | .iar len size x i => match S.ev x, S.ev i with
    | some (.c (.ptr x off)), some (.c (.v (.int _ z))) => .ok (0 ≤ z ∧ z < len) (pureO (.c (.ptr x (off + z.toNat * size))))
    | some (.c (.pe x s 0 0)), some (.c (.v (.int _ z))) => if s = size then .ok (0 ≤ z ∧ z < len) (pureO (.c (.pe x s z.toNat 0))) else .ok (0 ≤ z ∧ z < len) (pureO (.c (.pe x s 0 (z.toNat * size))))
    | some (.c (.pe x s k j)), some (.c (.v (.int _ z))) => .ok (0 ≤ z ∧ z < len) (pureO (.c (.pe x s k (j + z.toNat * size))))
    | some (.c (.ep x s k j)), some (.c (.v (.int _ z))) => match pkN S.arrs x with
      | some (p, A) => .ok (p ∧ k < A.len ∧ 0 ≤ z ∧ z < len) (pureO (.c (.ep x s k (j + z.toNat * size))))
      | none => .bad
    | _, _ => .bad
  | .idx agg len size x i => match S.ev x, S.ev i with
    | some (.agg cs), some (.c (.v (.int _ z))) => if agg then .ok (0 ≤ z ∧ z < len) (pureO (.agg (take' size (drop' (z.toNat * size) cs))))
      else match nth cs (z.toNat * size) with
        | some c => .ok (0 ≤ z ∧ z < len) (pureO (.c c))
        | none => .bad
    | _, _ => .bad
  | .ext i x => match S.ev x with
    | some (.tup l) => match nth l i with
      | some (true, cs) => pure1 (.agg cs)
      | some (false, c :: _) => pure1 (.c c)
      | _ => .bad
    | _ => .bad
  | .len x => match S.ev x with
    | some (.c (.xv x)) => match pkN S.arrs x with
      | some (p, A) => .ok p (pureO (.c (.v (.int .i64 A.len))))
      | none => .bad
    | some (.c (.xs x _ _ n _)) => match pkN S.arrs x with
      | some (p, _) => .ok p (pureO (.c (.v (.int .i64 n))))
      | none => .bad
    | some (.c (.sl _ _ _ n _)) => pure1 (.c (.v (.int .i64 n)))
    | some (.c (.v (.slice _ n _))) => pure1 (.c (.v (.int .i64 n)))
    | _ => .bad
  | .app t size bytes z s x => match S.ev x with
    | some xv => match slSrc S size xv with
      | some (q, m, g) => match S.ev s with
        | some (.c (.v (.slice none 0 0))) => .ok (q ∧ len' z = size ∧ 0 < size ∧ m * bytes ≤ 281474976710656 ∧ m ≤ maxLen)
            ⟨.c (.sl (S.nid, 0, 0) size 0 m none), [(S.nid, .one (.ar m size g t))], [], 1⟩
        | some (.c (.sl y s' 0 n none)) => match pkN S.own y with
          | some (p, .ar k s'' f t') => .ok (p ∧ q ∧ s' = size ∧ s'' = size ∧ t' = t ∧ len' z = size ∧ 0 < size ∧ n ≤ k ∧ (n + m + (n + m) / 4 + 192) * bytes ≤ 281474976710656 ∧ n + m ≤ maxLen)
              ⟨.c (.sl (S.nid, 0, 0) size 0 (n + m) none), (S.nid, .one (.ar (n + m) size (appAt n f g) t)) :: setN S.own y .no, [], 1⟩
          | _ => .bad
        | some (.c (.sl y s' o n (some c))) => match pkN S.own y with
          | some (p, .ar k s'' f _) => .ok (p ∧ q ∧ s' = size ∧ s'' = size ∧ len' z = size ∧ 0 < size ∧ o + n ≤ k ∧ c = n ∧ 0 < m ∧ (n + m + (n + m) / 4 + 192) * bytes ≤ 281474976710656 ∧ n + m ≤ maxLen)
              ⟨.c (.sl (S.nid, 0, 0) size 0 (n + m) none), [(S.nid, .one (.ar (n + m) size (appAt n (fun e => f (o + e)) g) t))], [], 1⟩
          | _ => .bad
        | some (.c (.xs y s' o n (some c))) => match pkN S.arrs y with
          | some (p, A) => .ok (p ∧ q ∧ s' = size ∧ A.size = size ∧ len' z = size ∧ 0 < size ∧ o + n ≤ A.len ∧ c = n ∧ 0 < m ∧ (n + m + (n + m) / 4 + 192) * bytes ≤ 281474976710656 ∧ n + m ≤ maxLen)
              ⟨.c (.sl (S.nid, 0, 0) size 0 (n + m) none), [(S.nid, .one (.ar (n + m) size (appAt n (fun e => A.at_ (o + e)) g) t))], [], 1⟩
          | _ => .bad
        | _ => .bad
      | none => .bad
    | none => .bad
  | .cpy size d x => match S.ev x with
    | some xv => match slSrc S size xv with
      | some (q, m, g) => match S.ev d with
        | some (.c (.sl y s' o n _)) => match pkN S.own y with
          | some (p, .ar k s'' f t) => .ok (p ∧ q ∧ s' = size ∧ s'' = size ∧ 0 < size ∧ o + n ≤ k) ⟨.c (.v (.int .i64 (Nat.min m n))), setN S.own y (.ar k s'' (cpyAt o (Nat.min m n) f g) t), [], 0⟩
          | _ => .bad
        | _ => .bad
      | none => .bad
    | none => .bad
  | .mks t size bytes z l c => match S.ev l, S.ev c with
    | some (.c (.v (.int _ n))), some (.c (.v (.int _ m))) => .ok (0 ≤ n ∧ n ≤ m ∧ m * bytes ≤ 140737488355328 ∧ m ≤ maxLen ∧ len' z = size ∧ 0 < size ∧ allOne z = true) ⟨.c (.sl (S.nid, 0, 0) size 0 n.toNat none), [(S.nid, .one (.ar m.toNat size (fun _ => z) t))], [], 1⟩
    | _, _ => .bad
  | .slc size x lo hi mx => match slM S mx with
    | some m => match S.ev x with
      | some (.c (.sl y s o n c)) => match slB S lo hi n, pkN S.own y with
        | some (l, h), some (p, .ar k s' _ _) =>
          match m with
          | none => .two (l = n ∧ h = l ∧ 0 < l) (p ∧ s = size ∧ s' = size ∧ o + n ≤ k ∧ ∀ q, c = some q → n ≤ q ∧ q ≤ maxLen) (endO S size)
              (p ∧ s = size ∧ s' = size ∧ 0 ≤ l ∧ l ≤ h ∧ o + h ≤ k ∧ (∀ q, c = some q → h ≤ q ∧ (0 < l → n ≤ q)) ∧ (l < n ∨ l = 0) ∧ (0 < l → o + n ≤ k)) (pureO (.c (.sl y s (o + l.toNat) (h.toNat - l.toNat) (c.map (· - l.toNat)))))
          | some m => .ok (p ∧ s = size ∧ s' = size ∧ 0 ≤ l ∧ l ≤ h ∧ h ≤ m ∧ o + m ≤ k ∧ (∀ q, c = some q → m ≤ q) ∧ (l < m ∨ l = 0)) (pureO (.c (.sl y s (o + l.toNat) (h.toNat - l.toNat) (some (m.toNat - l.toNat)))))
        | _, _ => .bad
      | some (.c (.xv y)) => match pkN S.arrs y with
        | some (p, A) => match slB S lo hi A.len with
          | some (l, h) => match m with
            | none => .ok (p ∧ A.size = size ∧ 0 ≤ l ∧ l ≤ h ∧ h ≤ A.len ∧ (l < A.len ∨ l = 0)) (pureO (.c (.xs y size l.toNat (h.toNat - l.toNat) none)))
            | some m => .ok (p ∧ A.size = size ∧ 0 ≤ l ∧ l ≤ h ∧ h ≤ m ∧ m ≤ A.len ∧ (l < m ∨ l = 0)) (pureO (.c (.xs y size l.toNat (h.toNat - l.toNat) (some (m.toNat - l.toNat)))))
          | none => .bad
        | none => .bad
      | some (.c (.xs y s o n c)) => match pkN S.arrs y with
        | some (p, A) => match slB S lo hi n with
          | some (l, h) => match m with
            | none => .ok (p ∧ A.size = size ∧ s = size ∧ 0 ≤ l ∧ l ≤ h ∧ o + h ≤ A.len ∧ (∀ q, c = some q → h ≤ q) ∧ (l < h ∨ l = 0)) (pureO (.c (.xs y size (o + l.toNat) (h.toNat - l.toNat) (c.map (· - l.toNat)))))
            | some m => .ok (p ∧ A.size = size ∧ s = size ∧ 0 ≤ l ∧ l ≤ h ∧ h ≤ m ∧ m ≤ n ∧ o + n ≤ A.len ∧ (∀ q, c = some q → n ≤ q) ∧ (l < m ∨ l = 0)) (pureO (.c (.xs y size (o + l.toNat) (h.toNat - l.toNat) (some (m.toNat - l.toNat)))))
          | none => .bad
        | none => .bad
      | _ => .bad
    | none => .bad
  | .mm max x y => match S.ev x, S.ev y with
    | some (.c (.v (.int k a))), some (.c (.v (.int k' b))) => if k = k' then pure1 (.c (.v (.int k (if max then (if b > a then b else a) else (if b < a then b else a))))) else .bad
    | _, _ => .bad
  | .mif t x => match S.ev x with
    | some (.c c) => pure1 (.c (.ifc t c))
    | _ => .bad
  | .mfn f l r => match evC S l, evC S r with
    | some l, some r => pure1 (.c (.fn f l r))
    | _, _ => .bad
  | .mkm kk kd => .ok True ⟨.c (.mp (S.nid, 0, 0)), [(S.nid, .one (.mp kk kd fun _ => none))], [], 1⟩
  | .lkp kk kd ok m k => match S.ev m, S.ev k with
    | some (.c (.mp x)), some kv => match pkN S.own x, keyOf kk kv with
      | some (p, .mp kk' kd' f), some a => .ok (p ∧ kk' = kk ∧ kd' = kd ∧ a.length = kk.len) (pureO (if ok then .tup [(false, [.v (.int kd ((f a).getD 0))]), (false, [.bo (f a).isSome])] else .c (.v (.int kd ((f a).getD 0)))))
      | some (p, .wm kk' kd' g), some a => if ok then .bad else .ok (p ∧ kk' = kk ∧ kd' = kd ∧ a.length = kk.len) (pureO (.c (.v (.int kd (g a)))))
      | _, _ => .bad
    | _, _ => .bad
  | .mup kk kd m k v => match S.ev m, S.ev k, S.ev v with
    | some (.c (.mp x)), some kv, some (.c (.v (.int kd'' n))) => match pkN S.own x, keyOf kk kv with
      | some (p, .mp kk' kd' f), some a => .ok (p ∧ kk' = kk ∧ kd' = kd ∧ kd'' = kd ∧ a.length = kk.len) ⟨.c (.v undef), setN S.own x (.mp kk kd fun q => if q = a then some n else f q), [], 0⟩
      | _, _ => .bad
    | _, _, _ => .bad
  | .ent kk kd m k => match S.ev m, S.ev k with
    | some (.c (.mp x)), some kv => match pkN S.own x, keyOf kk kv with
      | some (p, .mp kk' kd' f), some a => .ok (p ∧ kk' = kk ∧ kd' = kd ∧ a.length = kk.len) ⟨.tup [(false, [.v (.int kd ((f a).getD 0))]), (false, [.xv (S.nid, 0, 0)])], setN S.own x (.mpe kk kd f a (S.nid, 0, 0)), [], 1⟩
      | _, _ => .bad
    | _, _ => .bad
  | .ests kk kd m s v => match S.ev m, S.ev s, S.ev v with
    | some (.c (.mp x)), some (.c (.xv y)), some (.c (.v (.int kd'' n))) => match pkN S.own x with
      | some (p, .mpe kk' kd' f a y') => .ok (p ∧ kk' = kk ∧ kd' = kd ∧ kd'' = kd ∧ y' = y ∧ a.length = kk.len) ⟨.c (.v undef), setN S.own x (.mp kk kd fun q => if q = a then some n else f q), [], 0⟩
      | _ => .bad
    | _, _, _ => .bad
  | .call _ _ => .bad
  | .callv _ _ => .bad
  | .calli _ _ _ => .bad

def St.putT (S : St) (dst : Option Nat) (v : SV) : List (Nat × SV) :=
  match dst with
  | some d => if d < S.nt then setL S.tmps d v else S.tmps
  | none => S.tmps

def St.app (S : St) (dst : Option Nat) (o : Out) : St :=
  ⟨S.nt, S.putT dst o.val, mergeL o.eff S.own, mergeL o.arrs S.arrs, S.facts, S.nid + o.cnt⟩
end Go.Proofs.Ytkjeedlkkpgopaa.Z
