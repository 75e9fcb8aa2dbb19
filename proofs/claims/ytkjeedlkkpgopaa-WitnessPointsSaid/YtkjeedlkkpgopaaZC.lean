
/- The short form of operations out of the program's own. No statement of the program. -/
import Derived.Test.YtkjeedlkkpgopaaZB
namespace Go.Proofs.Ytkjeedlkkpgopaa.Z
open Go Go.RowKit

/-- what is known of a type -/
structure TI where
  desc : TypeDesc
  zero : Value
  size : Nat
  bytes : Nat
  flat : List Bool
  asAr : Bool

abbrev TT := List (Nat × TI)

/-- the cells of a type that holds integers (true) and bools (false) alone -/
def flatFs (P : Program) (g : TypeId → Option (List Bool)) : List Field → Nat → Option (List Bool)
  | [], _ => some []
  | f :: r, o => if f.name = "_" then none else if f.offset = o then match g f.type, P.info? f.type with
    | some ks, some i => if i.size = ks.length ∧ 0 < i.size then (flatFs P g r (o + ks.length)).map (ks ++ ·) else none
    | _, _ => none
    else none
def flatTy (P : Program) : Nat → TypeId → Option (List Bool)
  | 0, _ => none
  | d + 1, t => match P.underlying t with
    | some (.int _) => some [true]
    | some .bool => some [false]
    | some (.struct fs) => if P.stoodInHeld t then none else flatFs P (flatTy P d) fs.toList 0
    | some (.array n e) => match flatTy P d e, P.info? e with
      | some ks, some i => if i.size = ks.length ∧ 0 < i.size then some (List.replicate n ks).flatten else none
      | _, _ => none
    | _ => none

def TOk (P : Program) (T : TT) : Prop := ∀ t ti, look T t = some ti →
  P.underlying t = some ti.desc ∧ (P.info? t).map (fun i => (i.zero, i.size, i.bytes)) = some (some ti.zero, ti.size, ti.bytes) ∧
  (ti.flat ≠ [] → P.eqGuardType P.depth t = false ∧ flatTy P 8 t = some ti.flat)

def isAggD : TypeDesc → Bool
  | .struct _ | .array _ _ => true
  | _ => false

def scs (cs : Array Value) : List SC := cs.toList.map SC.v

def svOf : Value → Option SV
  | .agg cs => some (.agg (scs cs))
  | .tuple _ => none
  | v => some (.c (.v v))

def opd : Operand → Option IX
  | .tmp t => some (.t t)
  | .const v => (svOf v).map .k
  | .func f => some (.k (.c (.fn (.func f) [] [])))
  | .global _ => none

def opds : List Operand → Option (List IX)
  | [] => some []
  | x :: r => (opd x).bind fun a => (opds r).map (a :: ·)
def opdO : Option Operand → Option (Option IX)
  | none => some none
  | some x => (opd x).map some

def structParts (T : TT) (fs : Array Field) : List (Nat × Operand) → Option (List (Nat × Nat × IX))
  | [] => some []
  | (i, x) :: r => (fs[i]?).bind fun f => (look T f.type).bind fun ti => (opd x).bind fun a => (structParts T fs r).map ((f.offset, ti.size, a) :: ·)
def rowParts (size : Nat) : List (Nat × Operand) → Option (List (Nat × Nat × IX))
  | [] => some []
  | (i, x) :: r => (opd x).bind fun a => (rowParts size r).map ((i * size, size, a) :: ·)

def rowZero (n : Nat) (z : Value) : List SC := (List.range n).map fun i => SC.v (z.cells[i % z.cells.size]!)
def allIn (T : TT) : List Field → Bool
  | [] => true
  | f :: r => (look T f.type).isSome && allIn T r

/-- a cell's zero is known to be the same -/
def zEq : Value → Value → Bool
  | .bool a, .bool b => a == b
  | .int k a, .int k' b => decide (k = k') && a == b
  | .pointer none, .pointer none => true
  | .slice none 0 0, .slice none 0 0 => true
  | .map none, .map none => true
  | .nilFunc, .nilFunc => true
  | .nilIface, .nilIface => true
  | _, _ => false
def zEqs : List Value → List Value → Bool
  | [], [] => true
  | a :: l, b :: r => zEq a b && zEqs l r
  | _, _ => false

def isConst : Operand → Bool
  | .const _ => true
  | _ => false

/-- the kind of a map's keys and values -/
def mapKind (T : TT) (t : Nat) : Option (KK × IntKind) := (look T t).bind fun ti => match ti.desc with
  | .map k e => (look T k).bind fun tk => (look T e).bind fun te => match te.desc with
    | .int kd => match tk.desc with
      | .int kk => if zEq te.zero (.int kd 0) then some (.int kk, kd) else none
      | .array n x => (look T x).bind fun tx => match tx.desc with
        | .int kk => if zEq te.zero (.int kd 0) && tx.size == 1 && tk.flat == List.replicate n true then some (.arr n kk, kd) else none
        | _ => none
      | _ => none
    | _ => none
  | _ => none

def compOp (T : TT) : Op → Option IOp
  | .move x | .assign x => (opd x).map .mv
  | .pick c a b => (opd c).bind fun c => (opd a).bind fun a => (opd b).map fun b => .pick c a b
  | .alloc e => (look T e).bind fun ti => match ti.asAr, ti.desc with
    | true, .array n te => (look T te).bind fun te => if zEqs ti.zero.cells.toList (List.replicate n te.zero.cells.toList).flatten && te.zero.cells.size == te.size then some (.newA e n te.size (scs te.zero.cells)) else none
    | _, _ => some (.new e (scs ti.zero.cells))
  | .box e x => (opd x).map fun x => .box e x
  | .build t parts => (look T t).bind fun ti => match ti.desc with
    | .struct fs => if allIn T fs.toList then (structParts T fs parts.toList).map fun ps => .build (scs ti.zero.cells) ps else none
    | .array _ e => (look T e).bind fun te => (rowParts te.size parts.toList).map fun ps => .build (scs ti.zero.cells) ps
    | _ => none
  | .buildSlice t len parts => (look T t).bind fun ti => match ti.desc with
    | .slice e => (look T e).bind fun te => if len * te.size ≤ 16777216 then (rowParts te.size parts.toList).map fun ps => .mkSl e len te.size (rowZero (len * te.size) te.zero) ps else none
    | _ => none
  | .load t a => (look T t).bind fun ti => (opd a).map fun a => .ld (isAggD ti.desc) ti.size a
  | .store t a v => (look T t).bind fun ti => (opd a).bind fun a => (opd v).map fun v => .st ti.size a v
  | .nilCheck x => (opd x).map .nilck
  | .binOp op t x y _ => (look T t).bind fun ti => (opd x).bind fun ix => (opd y).bind fun iy =>
    match ti.desc, op with
    | .int _, .shl => some (.sh true ix iy)
    | .int _, .shr => some (.sh false ix iy)
    | .int _, _ => some (.bin op ix iy)
    | .bool, .eql => some (.eqb false ix iy)
    | .bool, .neq => some (.eqb true ix iy)
    | .struct _, .eql | .array _ _, .eql => if ti.flat.isEmpty then none else some (.eqa false ti.flat ix iy)
    | .struct _, .neq | .array _ _, .neq => if ti.flat.isEmpty then none else some (.eqa true ti.flat ix iy)
    | .pointer _, .eql => some (.eqn 0 false ix iy)
    | .pointer _, .neq => some (.eqn 0 true ix iy)
    | .slice _, .eql => some (.eqn 1 false ix iy)
    | .slice _, .neq => some (.eqn 1 true ix iy)
    | .map _ _, .eql => some (.eqn 2 false ix iy)
    | .map _ _, .neq => some (.eqn 2 true ix iy)
    | .func _ _ _, .eql => some (.eqn 3 false ix iy)
    | .func _ _ _, .neq => some (.eqn 3 true ix iy)
    | .interface _, .eql => if isConst y then some (.eqn 4 false ix iy) else none
    | .interface _, .neq => if isConst y then some (.eqn 4 true ix iy) else none
    | _, _ => none
  | .unOp op _ x => (opd x).map fun x => .un op x
  | .convert s d x => (look T s).bind fun ts => (look T d).bind fun td => match ts.desc, td.desc with
    | .int _, .int k => (opd x).map fun x => .conv k x
    | _, _ => none
  | .fieldAddr s x f => (look T s).bind fun ti => match ti.desc with
    | .struct fs => (fs[f]?).bind fun fd => (look T fd.type).bind fun tf => if tf.size = 0 then none else (opd x).map fun x => .fa fd.offset x
    | _ => none
  | .field s x f => (look T s).bind fun ti => match ti.desc with
    | .struct fs => (fs[f]?).bind fun fd => (look T fd.type).bind fun tf => (opd x).map fun x => .fld (isAggD tf.desc) fd.offset tf.size x
    | _ => none
  | .indexAddr t x i => (look T t).bind fun ti => match ti.desc with
    | .slice e => (look T e).bind fun te => (opd x).bind fun x => (opd i).map fun i => .ia te.size x i
    | .array n e => (look T e).bind fun te => (opd x).bind fun x => (opd i).map fun i => .iar n te.size x i
    | _ => none
  | .index t x i => (look T t).bind fun ti => match ti.desc with
    | .array n e => (look T e).bind fun te => (opd x).bind fun x => (opd i).map fun i => .idx (isAggD te.desc) n te.size x i
    | _ => none
  | .extract x i => (opd x).map fun x => .ext i x
  | .makeSlice t l c => (look T t).bind fun ti => match ti.desc with
    | .slice e => (look T e).bind fun te => (opd l).bind fun l => (opd c).map fun c => .mks e te.size te.bytes (scs te.zero.cells) l c
    | _ => none
  | .slice t x lo hi mx => (look T t).bind fun ti => match ti.desc with
    | .slice e => (look T e).bind fun te => (opd x).bind fun x => (opdO lo).bind fun lo => (opdO hi).bind fun hi => (opdO mx).bind fun mx => if hi.isNone && mx.isSome then none else some (.slc te.size x lo hi mx)
    | _ => none
  | .makeInterface t x => (look T t).bind fun ti => match ti.desc with
    | .interface _ => none
    | _ => (opd x).map fun x => .mif t x
  | .makeMap t none => (mapKind T t).map fun p => .mkm p.1 p.2
  | .lookup t m k ok => (mapKind T t).bind fun p => (opd m).bind fun m => (opd k).map fun k => .lkp p.1 p.2 ok m k
  | .mapUpdate t m k v | .insert t m k v => (mapKind T t).bind fun p => (opd m).bind fun m => (opd k).bind fun k => (opd v).map fun v => .mup p.1 p.2 m k v
  | .mapEntry t m k => (mapKind T t).bind fun p => (opd m).bind fun m => (opd k).map fun k => .ent p.1 p.2 m k
  | .entryStore t m s v => (mapKind T t).bind fun p => (opd m).bind fun m => (opd s).bind fun s => (opd v).map fun v => .ests p.1 p.2 m s v
  | .makeFunc f l r => (opds l.toList).bind fun l => (opds r.toList).map fun r => .mfn f l r
  | .call c => match c.callee with
    | .value (.func f) => (opds c.args.toList).map fun xs => .call f xs
    | .value (.tmp t) => (opds c.args.toList).map fun xs => .callv (.t t) xs
    | .invoke x name => (opd x).bind fun x => (opds c.args.toList).map fun xs => .calli name x xs
    | .builtin .len => match c.args.toList, c.argTypes.toList with
      | [x], [t] => (look T t).bind fun ti => match ti.desc with
        | .slice _ => (opd x).map .len
        | _ => none
      | _, _ => none
    | .builtin .append => match c.args.toList, c.argTypes.toList with
      | [s, x], [t, u] => (look T t).bind fun ti => (look T u).bind fun tu => match ti.desc, tu.desc with
        | .slice e, .slice _ => (look T e).bind fun te => (opd s).bind fun s => (opd x).map fun x => .app e te.size te.bytes (scs te.zero.cells) s x
        | _, _ => none
      | _, _ => none
    | .builtin .copy => match c.args.toList, c.argTypes.toList with
      | [s, x], [t, u] => (look T t).bind fun ti => (look T u).bind fun tu => match ti.desc, tu.desc with
        | .slice e, .slice _ => (look T e).bind fun te => (opd s).bind fun s => (opd x).map fun x => .cpy te.size s x
        | _, _ => none
      | _, _ => none
    | .builtin .max => match c.args.toList with
      | [x, y] => (opd x).bind fun x => (opd y).map fun y => .mm true x y
      | _ => none
    | .builtin .min => match c.args.toList with
      | [x, y] => (opd x).bind fun x => (opd y).map fun y => .mm false x y
      | _ => none
    | _ => none
  | _ => none

def compIO (T : TT) (ops : Array Oper) (o : Oper) : Option IO1 :=
  (compOp T o.op).bind fun op => match o.guard with
    | none => some ⟨o.dst, op, none⟩
    | some (j, want) => ((ops[j]?).bind (·.dst)).map fun g => ⟨o.dst, op, some (g, want)⟩

def compList (T : TT) (ops : Array Oper) : List Oper → Option (List IO1)
  | [] => some []
  | o :: r => (compIO T ops o).bind fun i => (compList T ops r).map (i :: ·)

/-! ### small lists -/
theorem drop'_eq {α : Type} : ∀ (n : Nat) (l : List α), drop' n l = l.drop n
  | 0, _ => rfl
  | _ + 1, [] => rfl
  | n + 1, _ :: l => by simp [drop', drop'_eq n l]
theorem take'_eq {α : Type} : ∀ (n : Nat) (l : List α), take' n l = l.take n
  | 0, _ => by simp [take']
  | _ + 1, [] => rfl
  | n + 1, _ :: l => by simp [take', take'_eq n l]
theorem nth_eq {α : Type} : ∀ (l : List α) (n : Nat), nth l n = l[n]?
  | [], _ => by simp [nth]
  | _ :: _, 0 => rfl
  | _ :: l, n + 1 => by simp [nth, nth_eq l n]
theorem len'_eq {α : Type} : ∀ (l : List α), len' l = l.length
  | [] => rfl
  | _ :: l => by simp [len', len'_eq l]
theorem allOne_mem : ∀ {l : List SC}, allOne l = true → ∀ c ∈ l, c.one = true
  | [], _, c, h => by cases h
  | a :: r, h, c, hc => by
    simp only [allOne, Bool.and_eq_true] at h
    rcases List.mem_cons.1 hc with rfl | hc
    · exact h.1
    · exact allOne_mem h.2 c hc
theorem zEq_eq {a b : Value} (h : zEq a b = true) : a = b := by
  unfold zEq at h
  split at h
  · rw [beq_iff_eq.1 h]
  · simp only [Bool.and_eq_true, decide_eq_true_eq, beq_iff_eq] at h
    rw [h.1, h.2]
  all_goals first | rfl | (cases h; done)
theorem zEqs_eq : ∀ {a b : List Value}, zEqs a b = true → a = b
  | [], [], _ => rfl
  | a :: l, b :: r, h => by
    simp only [zEqs, Bool.and_eq_true] at h
    rw [zEq_eq h.1, zEqs_eq h.2]
  | [], _ :: _, h => by cases h
  | _ :: _, [], h => by cases h

section
variable (E : Env)
theorem den_c (x : SC) : (SV.c x).den E = x.den E := rfl
theorem den_agg (l : List SC) : (SV.agg l).den E = .agg (l.map (SC.den E)).toArray := rfl
theorem den_tup (l : List (Bool × List SC)) : (SV.tup l).den E = .tuple (l.map (den1 E)).toArray := rfl
theorem den_v (x : Value) : (SC.v x).den E = x := by simp [SC.den]
theorem den_b (e : Bool) : (SC.bo e).den E = .bool e := by simp [SC.den]
theorem den_xv (x : Nm) : (SC.xv x).den E = E.χ x := by simp [SC.den]
theorem den_ptr (x : Nm) (off : Nat) : (SC.ptr x off).den E = .pointer (some ⟨E.ρ x, off, none⟩) := by simp [SC.den]
theorem den_pe (x : Nm) (s e j : Nat) : (SC.pe x s e j).den E = .pointer (some ⟨E.ρ x, e * s + j, none⟩) := by simp [SC.den]
theorem den_sl (x : Nm) (s o n : Nat) (c : Option Nat) : (SC.sl x s o n c).den E = .slice (if E.ν x = true then none else some ⟨E.ρ x, o * s, none⟩) n (c.getD (E.κ x - o)) := by simp [SC.den]
end
section
variable {P : Program} {T : TT} {B : Nat} {W : Nat → Prop} {w0 : World} {E : Env} {S : St} {a : Act} {w : World}

theorem scs_den (E : Env) (cs : Array Value) : ((scs cs).map (SC.den E)).toArray = cs := by
  simp [scs, Function.comp_def, den_v]

theorem svOf_den {x : Value} {v : SV} (h : svOf x = some v) (E : Env) : v.den E = x := by
  cases x <;> simp only [svOf, Option.some.injEq, reduceCtorEq] at h <;> subst h <;> simp [SV.den, den_v, scs_den]

theorem opd_den {x : Operand} {i : IX} {v : SV} (hs : Sat B W w0 E S a w) (h : opd x = some i) (hv : S.ev i = some v) : a.eval x = v.den E := by
  cases x with
  | tmp t =>
    simp only [opd, Option.some.injEq] at h
    subst h
    exact (hs.tmps t v hv).2
  | const c =>
    simp only [opd, Option.map_eq_some_iff] at h
    obtain ⟨u, hu, rfl⟩ := h
    simp only [St.ev, Option.some.injEq] at hv
    subst hv
    exact (svOf_den hu E).symm
  | func f =>
    simp only [opd, Option.some.injEq] at h
    subst h
    simp only [St.ev, Option.some.injEq] at hv
    subst hv
    simp [SV.den, SC.den, SC.denL]
    rfl
  | global g => simp [opd] at h

theorem opds_den (hs : Sat B W w0 E S a w) : ∀ (xs : List Operand) (is : List IX) (vs : List SV), opds xs = some is → evs S is = some vs → xs.map a.eval = vs.map (SV.den E)
  | [], is, vs, h, h' => by
    simp only [opds, Option.some.injEq] at h
    subst h
    simp only [evs, Option.some.injEq] at h'
    subst h'
    rfl
  | x :: r, is, vs, h, h' => by
    simp only [opds, Option.bind_eq_some_iff, Option.map_eq_some_iff] at h
    obtain ⟨i, hi, is', his, rfl⟩ := h
    simp only [evs] at h'
    split at h'
    · next v vs' hv hvs =>
      simp only [Option.some.injEq] at h'
      subst h'
      simp only [List.map_cons]
      rw [opd_den hs hi hv, opds_den hs r is' vs' his hvs]
    · cases h'
theorem evC_den (hs : Sat B W w0 E S a w) : ∀ (xs : List Operand) (is : List IX) (vs : List SC), opds xs = some is → evC S is = some vs → xs.map a.eval = vs.map (SC.den E)
  | [], is, vs, h, h' => by
    simp only [opds, Option.some.injEq] at h
    subst h
    simp only [evC, Option.some.injEq] at h'
    subst h'
    rfl
  | x :: r, is, vs, h, h' => by
    simp only [opds, Option.bind_eq_some_iff, Option.map_eq_some_iff] at h
    obtain ⟨i, hi, is', his, rfl⟩ := h
    simp only [evC] at h'
    split at h'
    · next v vs' hv hvs =>
      simp only [Option.some.injEq] at h'
      subst h'
      simp only [List.map_cons]
      rw [opd_den hs hi hv, evC_den hs r is' vs' his hvs]
      rfl
    · cases h'

theorem bool?_den {x : SC} {b : Bool} (h : x.bool? = some b) (E : Env) : x.den E = .bool b := by
  cases x with
  | v y => cases y <;> simp only [SC.bool?, Option.some.injEq, reduceCtorEq] at h; subst h; exact den_v _ _
  | bo e => simp only [SC.bool?, Option.some.injEq] at h; subst h; exact den_b _ _
  | _ => simp [SC.bool?] at h

theorem one_den (hx : OneC E) {c : SC} (hc : c.one = true) : (c.den E).oneCell' = true := by
  cases c with
  | v x => rw [den_v]; exact hc
  | bo e => rw [den_b]; rfl
  | xv i => rw [den_xv]; exact hx i
  | xs x s o n c => simp only [SC.den]; split <;> first | rfl | exact hx x
  | ep i s k j => simp only [SC.den]; split <;> rfl
  | _ => simp [SC.den, Value.oneCell']

theorem cells_den {v : SV} {cs : List SC} (h : v.cells = some cs) (hx : OneC E) : (v.den E).cells = (cs.map (SC.den E)).toArray ∧ ∀ u ∈ cs.map (SC.den E), u.oneCell' = true := by
  cases v with
  | c x =>
    simp only [SV.cells] at h
    split at h
    · next hone =>
      simp only [Option.some.injEq] at h
      subst h
      have := one_den hx hone
      refine ⟨?_, fun u hu => ?_⟩
      · simp only [SV.den, List.map_cons, List.map_nil]
        generalize x.den E = y at this
        cases y <;> first | rfl | (simp [Value.oneCell'] at this)
      · simp only [List.map_cons, List.map_nil, List.mem_singleton] at hu
        subst hu; exact this
    · cases h
  | agg l =>
    simp only [SV.cells] at h
    split at h
    · next hone =>
      simp only [Option.some.injEq] at h
      subst h
      refine ⟨rfl, fun u hu => ?_⟩
      obtain ⟨c, hc, rfl⟩ := List.mem_map.1 hu
      exact one_den hx (allOne_mem hone c hc)
    · cases h
  | tup l => simp [SV.cells] at h
  | gd g w e v => simp [SV.cells] at h

theorem ti_parts {t : Nat} {ti : TI} (hT : TOk P T) (h : look T t = some ti) : P.underlying t = some ti.desc ∧ ∃ i, P.info? t = some i ∧ i.zero = some ti.zero ∧ i.size = ti.size ∧ i.bytes = ti.bytes := by
  obtain ⟨h1, h2, _⟩ := hT t ti h
  exact ⟨h1, info_parts h2⟩

theorem run_sizeOf {t : Nat} {i : TypeInfo} (h : P.info? t = some i) (w : World) : (sizeOf t).run P w = .ok i.size w := by
  simp [sizeOf, typeInfo, h]
theorem run_zeroValue {t : Nat} {i : TypeInfo} {z : Value} (h : P.info? t = some i) (hz : i.zero = some z) (w : World) : (zeroValue t).run P w = .ok z w := by
  simp [zeroValue, typeInfo, h, hz]
theorem run_isAgg {t : Nat} {d : TypeDesc} (h : P.underlying t = some d) (w : World) : (isAgg t).run P w = .ok (isAggD d) w := by
  unfold isAgg
  simp only [Sem.run_bind, run_underlying h, Result.andThen_ok]
  cases d <;> rfl

theorem addr_add0 (b o : Nat) (j : Nat) : (⟨b, o, none⟩ : Addr).add j = ⟨b, o + j, none⟩ := by unfold Addr.add; split <;> simp_all

/-- a load of n cells -/
theorem run_ldv {t : Nat} {ti : TI} (hT : TOk P T) (ht : look T t = some ti) (b off : Nat) (cs : List Value) (hl : cs.length = ti.size)
    (hc : ∀ j u, cs[j]? = some u → w.cell? ⟨b, off + j, none⟩ = some u) :
    (Instr.loadAt t (.pointer (some ⟨b, off, none⟩))).run P w = .ok (if isAggD ti.desc then .agg cs.toArray else (cs[0]?).getD undef) w ∨ (isAggD ti.desc = false ∧ cs = []) := by
  obtain ⟨hu, i, hi, hz, hs, _⟩ := ti_parts hT ht
  cases hd : isAggD ti.desc with
  | true =>
    left
    have := run_loadCells_list (P := P) w ⟨b, off, none⟩ cs (fun j v hv => by rw [addr_add0]; exact hc j v hv)
    simp only [Instr.loadAt, Instr.sureAddr, Sem.run_bind, Sem.run_pure, Result.andThen_ok, loadVar, run_isAgg hu, hd, if_true, run_sizeOf hi, hs, ← hl, this]
  | false =>
    cases cs with
    | nil => right; exact ⟨rfl, rfl⟩
    | cons v r =>
      left
      have h0 := hc 0 v rfl
      rw [Nat.add_zero] at h0
      simp only [Instr.loadAt, Instr.sureAddr, Sem.run_bind, Sem.run_pure, Result.andThen_ok, loadVar, run_isAgg hu, hd, Bool.false_eq_true, if_false]
      simp [load, Sem.run, h0]
theorem run_ld1 {t : Nat} {ti : TI} (hT : TOk P T) (ht : look T t = some ti) (hd : isAggD ti.desc = false) (b off : Nat) (u : Value) (hc : w.cell? ⟨b, off, none⟩ = some u) :
    (Instr.loadAt t (.pointer (some ⟨b, off, none⟩))).run P w = .ok u w := by
  obtain ⟨hu, _⟩ := ti_parts hT ht
  simp only [Instr.loadAt, Instr.sureAddr, Sem.run_bind, Sem.run_pure, Result.andThen_ok, loadVar, run_isAgg hu, hd, Bool.false_eq_true, if_false]
  simp [load, Sem.run, hc]

theorem seg_get {α : Type} {l : List α} {off n j : Nat} {u : α} (h : (take' n (drop' off l))[j]? = some u) : l[off + j]? = some u := by
  rw [take'_eq, drop'_eq, List.getElem?_take] at h
  split at h
  · rw [List.getElem?_drop] at h; exact h
  · cases h

theorem seg_len {α : Type} {l : List α} {off n : Nat} (h : off + n ≤ l.length) : (take' n (drop' off l)).length = n := by
  rw [take'_eq, drop'_eq, List.length_take, List.length_drop]; omega

/-! ### what the entries tell of cells -/
theorem bk_heap {own : Own} {H : Nm → PH} (hH : HeapOk B W E own H w) {x : Nm} {cs : List SC} {ty : Nat} (h : atN own x = some (.bk cs ty)) : w.heap[E.ρ x]? = some (.cells (cs.map (SC.den E)).toArray ty (0, 0)) := by
  have h1 := hH.den x _ h
  simp only [Blk.den] at h1
  exact (hH.sub x _ h (E.ρ x) _ (by rw [h1]; simp [sing])).1
theorem bk_cell {own : Own} {H : Nm → PH} (hH : HeapOk B W E own H w) {x : Nm} {cs : List SC} {ty : Nat} (h : atN own x = some (.bk cs ty)) (j : Nat) : w.cell? ⟨E.ρ x, j, none⟩ = (cs[j]?).map (SC.den E) := by
  rw [cell_of_row w _ j _ ty (0, 0) (bk_heap hH h)]
  simp
/-- an array of the state: nil, or a block -/
theorem ar_heap {own : Own} {H : Nm → PH} (hH : HeapOk B W E own H w) {x : Nm} {n s ty : Nat} {at_ : Nat → List SC} (h : atN own x = some (.ar n s at_ ty)) :
    (E.ν x = true ∧ E.κ x = 0 ∧ n = 0 ∧ H x = emp) ∨ (E.ν x = false ∧ n ≤ E.κ x ∧ E.κ x ≤ maxLen ∧ ∃ cells : Array Value, H x = sing (E.ρ x) (.cells cells ty (0, 0)) ∧ w.heap[E.ρ x]? = some (.cells cells ty (0, 0)) ∧ cells.size = E.κ x * s ∧
        ∀ e, e < n → (at_ e).length = s ∧ ∀ j u, (at_ e)[j]? = some u → cells[e * s + j]? = some (u.den E) ∧ (u.den E).oneCell' = true) := by
  have h1 := hH.den x _ h
  simp only [Blk.den] at h1
  rcases h1 with h1 | ⟨h2, h3, h4, cells, h5, h6, h7⟩
  · exact Or.inl h1
  · exact Or.inr ⟨h2, h3, h4, cells, h5, (hH.sub x _ h (E.ρ x) _ (by rw [h5]; simp [sing])).1, h6, h7⟩
theorem ar_cell {own : Own} {H : Nm → PH} (hH : HeapOk B W E own H w) {x : Nm} {n s ty : Nat} {at_ : Nat → List SC} (h : atN own x = some (.ar n s at_ ty)) {e : Nat} (he : e < n) :
    E.ν x = false ∧ (at_ e).length = s ∧ ∀ j u, (at_ e)[j]? = some u → w.cell? ⟨E.ρ x, e * s + j, none⟩ = some (u.den E) ∧ (u.den E).oneCell' = true := by
  rcases ar_heap hH h with ⟨_, _, h0, _⟩ | ⟨h2, _, _, cells, _, hb, _, h7⟩
  · omega
  · refine ⟨h2, (h7 e he).1, fun j u hu => ?_⟩
    rw [cell_of_row w _ _ _ ty (0, 0) hb]
    exact (h7 e he).2 j u hu
theorem Sat.arr (hs : Sat B W w0 E S a w) {x : Nm} {A : ArrF} (h : atN S.arrs x = some A) : ArrAt E w x A := by
  obtain ⟨H, _, hF⟩ := hs.mem
  exact (hF w (fun _ _ _ => rfl)).1 x A h

theorem put_eq (l : List SC) (off : Nat) (cs : List SC) : put l off cs = l.take off ++ cs ++ l.drop (off + cs.length) := by
  simp [put, take'_eq, drop'_eq, len'_eq]
end
end Go.Proofs.Ytkjeedlkkpgopaa.Z
