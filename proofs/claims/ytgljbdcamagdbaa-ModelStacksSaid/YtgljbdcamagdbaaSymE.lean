/- The symbolic run of a body, and that it tells what a call comes to. No statement of the program. -/
import Derived.Test.YtgljbdcamagdbaaSymD
namespace Go.Proofs.Ytgljbdcamagdbaa
open Go.RowKit

/-! ### the short form of code -/
inductive IR where
  | skip
  | ops (l : List IO1)
  | draw (l : List (IO1 × List Nat × List Nat))
  | seq (a b : IR)
  | cond (c : IX) (a b : IR)
  | blk (id : Nat) (c : IR)
  | loop (c : IR)
  | exit (id : Nat)
  | ret
  | mark (j : Nat) (c : IR)

def IR.strip : IR → IR
  | .mark _ c => c.strip
  | .seq a b => .seq a.strip b.strip
  | .cond c a b => .cond c a.strip b.strip
  | .blk id c => .blk id c.strip
  | .loop c => .loop c.strip
  | c => c

structure Tab where
  T : TT
  F : List Nat

def FnOk (P : Program) (f : Nat) : Prop := ∃ fn, P.funcs[f]? = some fn ∧ (fn.name == "runtime.NumGoroutine") = false ∧ fn.body.isNone = false
def Tab.Ok (P : Program) (t : Tab) : Prop := TOk P t.T ∧ ∀ f ∈ t.F, FnOk P f

def callsIn (F : List Nat) : List IO1 → Bool
  | [] => true
  | o :: r => (match o.op with | .call f _ => F.contains f | _ => true) && callsIn F r

def afterOn (o : Oper) : List Nat := (o.after.toList.filter (Region.binds .any)).map (·.on)

/-- of each operation those that must come ahead of it -/
def ancsGo : List (List Nat) → List (List Nat) → List (List Nat)
  | acc, [] => acc
  | acc, a :: r => ancsGo (acc ++ [(List.range acc.length).filter fun j => a.contains j || a.any fun p => (acc.getD p []).contains j]) r
def unord (A : List (List Nat)) (i j : Nat) : Bool := i != j && !(A.getD i []).contains j && !(A.getD j []).contains i
def unordB (A : List (List Nat)) (i : Nat) : List Nat := (List.range i).filter (unord A i)
def dstAt (l : List IO1) (j : Nat) : Option Nat := (l[j]?).bind (·.dst)
def unordD (A : List (List Nat)) (l : List IO1) (i : Nat) : List Nat := ((List.range l.length).filter (unord A i)).filterMap (dstAt l)
def dstsOk (A : List (List Nat)) (l : List IO1) : Bool := (List.range l.length).all fun i => match dstAt l i with
  | some d => !(unordD A l i).contains d
  | none => true
def aftersOk (ops : List Oper) : Bool := (List.range ops.length).all fun i => match ops[i]? with
  | some o => (afterOn o).all (· < i)
  | none => true
def ancsOf (ops : List Oper) : List (List Nat) := ancsGo [] (ops.map afterOn)
def mkDraw (A : List (List Nat)) (l : List IO1) : List (IO1 × List Nat × List Nat) := l.zipIdx.map fun p => (p.1, unordB A p.2, unordD A l p.2)

def compC (t : Tab) : Code → Option IR
  | .skip => some .skip
  | .region _ ops false => (compList t.T ops ops.toList).bind fun l => if callsIn t.F l then some (.ops l) else none
  | .region _ ops true => (compList t.T ops ops.toList).bind fun l => if callsIn t.F l && dstsOk (ancsOf ops.toList) l && aftersOk ops.toList then some (.draw (mkDraw (ancsOf ops.toList) l)) else none
  | .seq a b => (compC t a).bind fun a => (compC t b).map fun b => .seq a b
  | .cond c a b => (opd c).bind fun c => (compC t a).bind fun a => (compC t b).map fun b => .cond c a b
  | .block id c => (compC t c).map fun c => .blk id c
  | .loop c => (compC t c).map fun c => .loop c
  | .exit id => some (.exit id)
  | .ret => some .ret
  | _ => none

inductive RS where
  | t (n : Nat)
  | cell (n : Nat) (agg : Bool) (k : Nat)

def compR (T : TT) : List ResultVar → Option (List RS)
  | [] => some []
  | .tmp n :: r => (compR T r).map (.t n :: ·)
  | .cell a t :: r => (look T t).bind fun ti => (compR T r).map (.cell a (isAggD ti.desc) ti.size :: ·)

/-! ### the run -/
structure Ctx where
  P : Program
  tab : Tab
  B : Nat
  w0 : World
  rs : List RS
  R : Ending → World → Prop

def resP (S : St) : RS → Option (Bool × List SC)
  | .t n => match look S.tmps n with
    | some (.c x) => some (false, [x])
    | some (.agg l) => some (true, l)
    | _ => none
  | .cell n agg k => match look S.tmps n with
    | some (.c (.ptr id off)) => match look S.own id with
      | some (cs, _) => if agg then (if off + k ≤ len' cs then some (true, take' k (drop' off cs)) else none) else match nth cs off with
        | some c => some (false, [c])
        | none => none
      | none => none
    | _ => none

def resL (S : St) : List RS → Option (List (Bool × List SC))
  | [] => some []
  | r :: l => match resP S r, resL S l with
    | some p, some q => some (p :: q)
    | _, _ => none

def oneSV : Bool × List SC → SV
  | (true, l) => .agg l
  | (false, x :: _) => .c x
  | (false, []) => .c (.v undef)

def resSV : List (Bool × List SC) → SV
  | [p] => oneSV p
  | l => .tup l

/-- the state tells no operation: where the run stands still -/
def StuckOp (_ : IOp) (_ : St) : Prop := False
def StuckAt (_ : IR) (_ : St) : Prop := False
def StuckRet (_ : List RS) (_ : St) : Prop := False

/-- the end: what is to be shown of what comes back -/
def RetVC (C : Ctx) (v : SV) (S : St) : Prop := ∀ E a w, SatA C.B C.w0 E S a w → C.R (.returned (v.den E)) w

def retS (C : Ctx) (S : St) : Option (List (Bool × List SC)) → Prop
  | some l => RetVC C (resSV l) S
  | none => StuckRet C.rs S
def finS (C : Ctx) (S : St) : Prop := retS C S (resL S C.rs)

def CallVC (C : Ctx) (f : Nat) (vs : List SV) (dst : Option Nat) (S : St) (K : St → Prop) : Prop :=
  ∀ E a w, SatA C.B C.w0 E S a w → Calls C.P f (vs.map (SV.den E)).toArray w fun e w' => ∃ v, e = .returned v ∧ ∃ E' S', SatA C.B C.w0 E' S' (a.put dst v) w' ∧ K S'

def DrawVC (C : Ctx) (l : List (IO1 × List Nat × List Nat)) (S : St) (K : St → Prop) : Prop :=
  ∀ id ops, compC C.tab (.region id ops true) = some (.draw l) → ∀ E a w, SatA C.B C.w0 E S a w →
    (Code.region id ops true).wp C.P (fun e a' w' => e = .normal ∧ ∃ E' S', SatA C.B C.w0 E' S' a' w' ∧ K S') a w

def Le (C : Ctx) (S S' : St) : Prop := ∀ E a w, SatA C.B C.w0 E S a w → ∃ E', SatA C.B C.w0 E' S' a w

inductive KI : Type 1 where
  | code (c : IR)
  | blk (id : Nat)
  | ops (l : List IO1)
  | back (ι : Type) (I : ι → St) (μ : ι → Nat) (i : ι)

def LoopVC (C : Ctx) (c : IR) (k : List KI) (S : St) (ex : List KI → St → Prop) : Prop :=
  ∃ (ι : Type) (I : ι → St) (μ : ι → Nat) (i : ι), Le C S (I i) ∧ ∀ i, ex (.code c :: .back ι I μ i :: k) (I i)

def BackVC (C : Ctx) (ι : Type) (I : ι → St) (μ : ι → Nat) (i : ι) (S : St) : Prop := ∃ j, μ j < μ i ∧ Le C S (I j)

def MarkVC (_ : Nat) (S : St) (K : St → Prop) : Prop := K S

def evs (S : St) : List IX → Option (List SV)
  | [] => some []
  | x :: r => match S.ev x, evs S r with
    | some v, some vs => some (v :: vs)
    | _, _ => none

def thenS (ex : List KI → St → Prop) (its : List KI) (S : St) (d : Option Nat) (op : IOp) : Res → Prop
  | .ok vc out => vc ∧ ex its (S.app d out)
  | .bad => StuckOp op S

def runOp (C : Ctx) (ex : List KI → St → Prop) (o : IO1) (r : List IO1) (k : List KI) (S : St) : Prop :=
  match o.op with
  | .call f xs => match evs S xs with
    | some vs => CallVC C f vs o.dst S (ex (.ops r :: k))
    | none => StuckOp o.op S
  | op => thenS ex (.ops r :: k) S o.dst op (stepOut op S)

def St.skipT (S : St) (dst : Option Nat) : St := ⟨S.nt, S.putT dst (.c (.v undef)), S.own, S.arrs, S.facts, S.nid⟩
def St.setB (S : St) (g : Nat) (b : Bool) : St := ⟨S.nt, (g, .c (.v (.bool b))) :: S.tmps, S.own, S.arrs, S.facts, S.nid⟩

def popTo (id : Nat) : List KI → Option (List KI)
  | .blk id' :: k => if id' = id then some k else popTo id k
  | _ :: k => popTo id k
  | [] => none

def exec (C : Ctx) : Nat → List KI → St → Prop
  | 0, _, _ => False
  | _ + 1, [], S => finS C S
  | n + 1, .code c :: k, S => match c with
    | .skip => exec C n k S
    | .ops l => exec C n (.ops l :: k) S
    | .draw l => DrawVC C l S (exec C n k)
    | .seq a b => exec C n (.code a :: .code b :: k) S
    | .cond x a b => match S.ev x with
      | some (.c (.v (.bool t))) => if t = true then exec C n (.code a :: k) S else exec C n (.code b :: k) S
      | some (.c (.bo t)) => (t = true → exec C n (.code a :: k) S) ∧ (t = false → exec C n (.code b :: k) S)
      | _ => StuckAt c S
    | .blk id c => exec C n (.code c :: .blk id :: k) S
    | .loop c => LoopVC C c k S (exec C n)
    | .exit id => match popTo id k with
      | some k' => exec C n k' S
      | none => StuckAt c S
    | .ret => finS C S
    | .mark j c => MarkVC j S (exec C n (.code c :: k))
  | n + 1, .blk _ :: k, S => exec C n k S
  | n + 1, .ops [] :: k, S => exec C n k S
  | n + 1, .ops (o :: r) :: k, S => match o.guard with
    | none => runOp C (exec C n) o r k S
    | some (g, want) => match look S.tmps g with
      | some (.c (.v (.bool b))) => if b = want then runOp C (exec C n) o r k S else exec C n (.ops r :: k) (S.skipT o.dst)
      | some (.c (.bo b)) => (b = want → runOp C (exec C n) o r k (S.setB g want)) ∧ (b = (!want) → exec C n (.ops r :: k) ((S.setB g (!want)).skipT o.dst))
      | _ => StuckOp o.op S
  | _ + 1, .back ι I μ i :: _, S => BackVC C ι I μ i S

/-! ### the run, step by step (each equation at all its arguments: so that what stands behind a call is left as it is) -/
section
variable (C : Ctx) (n : Nat) (k : List KI) (S : St)
theorem ex_nil : exec C (n + 1) [] S = finS C S := rfl
theorem ex_skip : exec C (n + 1) (.code .skip :: k) S = exec C n k S := rfl
theorem ex_ops (l : List IO1) : exec C (n + 1) (.code (.ops l) :: k) S = exec C n (.ops l :: k) S := rfl
theorem ex_draw (l : List (IO1 × List Nat × List Nat)) : exec C (n + 1) (.code (.draw l) :: k) S = DrawVC C l S (exec C n k) := rfl
theorem ex_seq (a b : IR) : exec C (n + 1) (.code (.seq a b) :: k) S = exec C n (.code a :: .code b :: k) S := rfl
def condS (x : IX) (S : St) (A B Z : Prop) : Prop := match S.ev x with
  | some (.c (.v (.bool t))) => if t = true then A else B
  | some (.c (.bo t)) => (t = true → A) ∧ (t = false → B)
  | _ => Z
theorem ex_cond (x : IX) (a b : IR) : exec C (n + 1) (.code (.cond x a b) :: k) S = condS x S (exec C n (.code a :: k) S) (exec C n (.code b :: k) S) (StuckAt (.cond x a b) S) := by
  simp only [exec, condS]
theorem ex_blk (id : Nat) (c : IR) : exec C (n + 1) (.code (.blk id c) :: k) S = exec C n (.code c :: .blk id :: k) S := rfl
theorem ex_loop (c : IR) : exec C (n + 1) (.code (.loop c) :: k) S = LoopVC C c k S (exec C n) := rfl
def exitS (r : Option (List KI)) (f : List KI → St → Prop) (S : St) (Z : Prop) : Prop := match r with
  | some k => f k S
  | none => Z
theorem ex_exit (id : Nat) : exec C (n + 1) (.code (.exit id) :: k) S = exitS (popTo id k) (exec C n) S (StuckAt (.exit id) S) := by
  simp only [exec, exitS]
theorem ex_ret : exec C (n + 1) (.code .ret :: k) S = finS C S := rfl
theorem ex_mark (j : Nat) (c : IR) : exec C (n + 1) (.code (.mark j c) :: k) S = MarkVC j S (exec C n (.code c :: k)) := rfl
theorem ex_pop (id : Nat) : exec C (n + 1) (.blk id :: k) S = exec C n k S := rfl
theorem ex_onil : exec C (n + 1) (.ops [] :: k) S = exec C n k S := rfl
theorem ex_op (d : Option Nat) (op : IOp) (r : List IO1) : exec C (n + 1) (.ops (⟨d, op, none⟩ :: r) :: k) S = runOp C (exec C n) ⟨d, op, none⟩ r k S := rfl
def gateS (g : Nat) (want : Bool) (S : St) (A Z : Prop) (f : List KI → St → Prop) (o : IO1) (r : List IO1) (k : List KI) (C : Ctx) : Prop := match look S.tmps g with
  | some (.c (.v (.bool b))) => if b = want then A else f (.ops r :: k) (S.skipT o.dst)
  | some (.c (.bo b)) => (b = want → runOp C f o r k (S.setB g want)) ∧ (b = (!want) → f (.ops r :: k) ((S.setB g (!want)).skipT o.dst))
  | _ => Z
theorem ex_opg (d : Option Nat) (op : IOp) (g : Nat) (want : Bool) (r : List IO1) : exec C (n + 1) (.ops (⟨d, op, some (g, want)⟩ :: r) :: k) S =
    gateS g want S (runOp C (exec C n) ⟨d, op, some (g, want)⟩ r k S) (StuckOp op S) (exec C n) ⟨d, op, some (g, want)⟩ r k C := by
  simp only [exec, gateS]
theorem ex_back (ι : Type) (I : ι → St) (μ : ι → Nat) (i : ι) : exec C (n + 1) (.back ι I μ i :: k) S = BackVC C ι I μ i S := rfl
end
end Go.Proofs.Ytgljbdcamagdbaa
