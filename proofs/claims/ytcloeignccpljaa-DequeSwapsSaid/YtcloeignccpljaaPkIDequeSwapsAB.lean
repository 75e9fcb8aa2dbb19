/- DequeSwapsSaid: what its proof is made of. No condition. -/
import Derived.Test.YtcloeignccpljaaPkIDequeSwapsAA
set_option linter.unusedSimpArgs false
set_option linter.unusedVariables false
namespace Go.Proofs.Ytcloeignccpljaa.Z
open Go Go.RowKit
structure TI where
 desc:TypeDesc
 zero:Value
 size:Nat
 bytes:Nat
 flat:List Bool
 asAr:Bool
abbrev TT:=List (Nat×TI)
def flatFs (P:Program) (g:TypeId→Option (List Bool)):List Field→Nat→Option (List Bool)
 | [],_=>some []
 | f :: r,o=>if f.name = "_" then none else if f.offset=o then match g f.type,P.info? f.type with
  | some ks,some i=>if i.size=ks.length∧0<i.size then (flatFs P g r (o+ks.length)).map (ks++·) else none
  | _,_=>none
  else none
def flatTy (P:Program):Nat→TypeId→Option (List Bool)
 | 0,_=>none
 | d+1,t=>match P.underlying t with
  | some (.int _)=>some [true]
  | some .bool=>some [false]
  | some (.struct fs)=>if P.stoodInHeld t then none else flatFs P (flatTy P d) fs.toList 0
  | some (.array n e)=>match flatTy P d e,P.info? e with
   | some ks,some i=>if i.size=ks.length∧0<i.size then some (List.replicate n ks).flatten else none
   | _,_=>none
  | _=>none
def TOk (P:Program) (T:TT):Prop:=∀ t ti,look T t=some ti →
 P.underlying t=some ti.desc∧(P.info? t).map (fun i=>(i.zero,i.size,i.bytes))=some (some ti.zero,ti.size,ti.bytes) ∧
 (ti.flat≠[]→P.eqGuardType P.depth t=false∧flatTy P 8 t=some ti.flat)
def isAggD:TypeDesc→Bool
 | .struct _ | .array _ _=>true
 | _=>false
def scs (cs:Array Value):List SC:=cs.toList.map SC.v
def svOf:Value→Option SV
 | .agg cs=>some (.agg (scs cs))
 | .tuple _=>none
 | v=>some (.c (.v v))
def opd:Operand→Option IX
 | .tmp t=>some (.t t)
 | .const v=>(svOf v).map .k
 | .func f=>some (.k (.c (.fn (.func f) [] [])))
 | .global _=>none
def opds:List Operand→Option (List IX)
 | []=>some []
 | x :: r=>(opd x).bind fun a=>(opds r).map (a :: ·)
def opdO:Option Operand→Option (Option IX)
 | none=>some none
 | some x=>(opd x).map some
def structParts (T:TT) (fs:Array Field):List (Nat×Operand)→Option (List (Nat×Nat×IX))
 | []=>some []
 | (i,x) :: r=>(fs[i]?).bind fun f=>(look T f.type).bind fun ti=>(opd x).bind fun a=>(structParts T fs r).map ((f.offset,ti.size,a) :: ·)
def rowParts (size:Nat):List (Nat×Operand)→Option (List (Nat×Nat×IX))
 | []=>some []
 | (i,x) :: r=>(opd x).bind fun a=>(rowParts size r).map ((i * size,size,a) :: ·)
def rowZero (n:Nat) (z:Value):List SC:=(List.range n).map fun i=>SC.v (z.cells[i % z.cells.size]!)
def allIn (T:TT):List Field→Bool
 | []=>true
 | f :: r=>(look T f.type).isSome && allIn T r
def zEq:Value→Value→Bool
 | .bool a,.bool b=>a == b
 | .int k a,.int k' b=>decide (k=k') && a == b
 | .pointer none,.pointer none=>true
 | .slice none 0 0,.slice none 0 0=>true
 | .map none,.map none=>true
 | .nilFunc,.nilFunc=>true
 | .nilIface,.nilIface=>true
 | _,_=>false
def zEqs:List Value→List Value→Bool
 | [],[]=>true
 | a :: l,b :: r=>zEq a b && zEqs l r
 | _,_=>false
def isConst:Operand→Bool
 | .const _=>true
 | _=>false
def mapKind (T:TT) (t:Nat):Option (KK×IntKind):=(look T t).bind fun ti=>match ti.desc with
 | .map k e=>(look T k).bind fun tk=>(look T e).bind fun te=>match te.desc with
  | .int kd=>match tk.desc with
   | .int kk=>if zEq te.zero (.int kd 0) then some (.int kk,kd) else none
   | .array n x=>(look T x).bind fun tx=>match tx.desc with
    | .int kk=>if zEq te.zero (.int kd 0) && tx.size == 1 && tk.flat == List.replicate n true then some (.arr n kk,kd) else none
    | _=>none
   | _=>none
  | _=>none
 | _=>none
def compOp (T:TT):Op→Option IOp
 | .move x | .assign x=>(opd x).map .mv
 | .pick c a b=>(opd c).bind fun c=>(opd a).bind fun a=>(opd b).map fun b=>.pick c a b
 | .alloc e=>(look T e).bind fun ti=>match ti.asAr,ti.desc with
  | true,.array n te=>(look T te).bind fun te=>if zEqs ti.zero.cells.toList (List.replicate n te.zero.cells.toList).flatten && te.zero.cells.size == te.size then some (.newA e n te.size (scs te.zero.cells)) else none
  | _,_=>some (.new e (scs ti.zero.cells))
 | .box e x=>(opd x).map fun x=>.box e x
 | .build t parts=>(look T t).bind fun ti=>match ti.desc with
  | .struct fs=>if allIn T fs.toList then (structParts T fs parts.toList).map fun ps=>.build (scs ti.zero.cells) ps else none
  | .array _ e=>(look T e).bind fun te=>(rowParts te.size parts.toList).map fun ps=>.build (scs ti.zero.cells) ps
  | _=>none
 | .buildSlice t len parts=>(look T t).bind fun ti=>match ti.desc with
  | .slice e=>(look T e).bind fun te=>if len * te.size≤16777216 then (rowParts te.size parts.toList).map fun ps=>.mkSl e len te.size (rowZero (len * te.size) te.zero) ps else none
  | _=>none
 | .load t a=>(look T t).bind fun ti=>(opd a).map fun a=>.ld (isAggD ti.desc) ti.size a
 | .store t a v=>(look T t).bind fun ti=>(opd a).bind fun a=>(opd v).map fun v=>.st ti.size a v
 | .nilCheck x=>(opd x).map .nilck
 | .binOp op t x y _=>(look T t).bind fun ti=>(opd x).bind fun ix=>(opd y).bind fun iy =>
  match ti.desc,op with
  | .int _,.shl=>some (.sh true ix iy)
  | .int _,.shr=>some (.sh false ix iy)
  | .int _,_=>some (.bin op ix iy)
  | .bool,.eql=>some (.eqb false ix iy)
  | .bool,.neq=>some (.eqb true ix iy)
  | .string,.eql=>some (.eqs false ix iy)
  | .string,.neq=>some (.eqs true ix iy)
  | .struct _,.eql | .array _ _,.eql=>if ti.flat.isEmpty then none else some (.eqa false ti.flat ix iy)
  | .struct _,.neq | .array _ _,.neq=>if ti.flat.isEmpty then none else some (.eqa true ti.flat ix iy)
  | .pointer _,.eql=>some (.eqn 0 false ix iy)
  | .pointer _,.neq=>some (.eqn 0 true ix iy)
  | .slice _,.eql=>some (.eqn 1 false ix iy)
  | .slice _,.neq=>some (.eqn 1 true ix iy)
  | .map _ _,.eql=>some (.eqn 2 false ix iy)
  | .map _ _,.neq=>some (.eqn 2 true ix iy)
  | .func _ _ _,.eql=>some (.eqn 3 false ix iy)
  | .func _ _ _,.neq=>some (.eqn 3 true ix iy)
  | .interface _,.eql=>if isConst y then some (.eqn 4 false ix iy) else none
  | .interface _,.neq=>if isConst y then some (.eqn 4 true ix iy) else none
  | _,_=>none
 | .unOp op _ x=>(opd x).map fun x=>.un op x
 | .convert s d x=>(look T s).bind fun ts=>(look T d).bind fun td=>match ts.desc,td.desc with
  | .int _,.int k=>(opd x).map fun x=>.conv k x
  | _,_=>none
 | .fieldAddr s x f=>(look T s).bind fun ti=>match ti.desc with
  | .struct fs=>(fs[f]?).bind fun fd=>(look T fd.type).bind fun tf=>if tf.size=0 then none else (opd x).map fun x=>.fa fd.offset x
  | _=>none
 | .field s x f=>(look T s).bind fun ti=>match ti.desc with
  | .struct fs=>(fs[f]?).bind fun fd=>(look T fd.type).bind fun tf=>(opd x).map fun x=>.fld (isAggD tf.desc) fd.offset tf.size x
  | _=>none
 | .indexAddr t x i=>(look T t).bind fun ti=>match ti.desc with
  | .slice e=>(look T e).bind fun te=>(opd x).bind fun x=>(opd i).map fun i=>.ia te.size x i
  | .array n e=>(look T e).bind fun te=>(opd x).bind fun x=>(opd i).map fun i=>.iar n te.size x i
  | _=>none
 | .index t x i=>(look T t).bind fun ti=>match ti.desc with
  | .array n e=>(look T e).bind fun te=>(opd x).bind fun x=>(opd i).map fun i=>.idx (isAggD te.desc) n te.size x i
  | _=>none
 | .extract x i=>(opd x).map fun x=>.ext i x
 | .makeSlice t l c=>(look T t).bind fun ti=>match ti.desc with
  | .slice e=>(look T e).bind fun te=>(opd l).bind fun l=>(opd c).map fun c=>.mks e te.size te.bytes (scs te.zero.cells) l c
  | _=>none
 | .slice t x lo hi mx=>(look T t).bind fun ti=>match ti.desc with
  | .slice e=>(look T e).bind fun te=>(opd x).bind fun x=>(opdO lo).bind fun lo=>(opdO hi).bind fun hi=>(opdO mx).bind fun mx=>if hi.isNone && mx.isSome then none else some (.slc te.size x lo hi mx)
  | .array n e=>(look T e).bind fun te=>if te.size=1∧0<n∧lo=none∧hi=none∧mx=none then (opd x).map fun x=>.sla n x else none
  | _=>none
 | .makeInterface t x=>(look T t).bind fun ti=>match ti.desc with
  | .interface _=>none
  | _=>(opd x).map fun x=>.mif t x
 | .makeMap t none=>match mapKind T t with
  | some p=>some (.mkm p.1 p.2)
  | none=>some (.xmk t)
 | .lookup t m k ok=>(opd m).bind fun m=>(opd k).map fun k=>match mapKind T t with
  | some p=>.lkp p.1 p.2 ok m k
  | none=>.xlk t ok m k
 | .mapUpdate t m k v | .insert t m k v=>(opd m).bind fun m=>(opd k).bind fun k=>(opd v).map fun v=>match mapKind T t with
  | some p=>.mup p.1 p.2 m k v
  | none=>.xup t m k v
 | .mapEntry t m k=>(mapKind T t).bind fun p=>(opd m).bind fun m=>(opd k).map fun k=>.ent p.1 p.2 m k
 | .entryStore t m s v=>(mapKind T t).bind fun p=>(opd m).bind fun m=>(opd s).bind fun s=>(opd v).map fun v=>.ests p.1 p.2 m s v
 | .makeFunc f l r=>(opds l.toList).bind fun l=>(opds r.toList).map fun r=>.mfn f l r
 | .call c=>match c.callee with
  | .value (.func f)=>(opds c.args.toList).map fun xs=>.call f xs
  | .value (.tmp t)=>(opds c.args.toList).map fun xs=>.callv (.t t) xs
  | .invoke x name=>(opd x).bind fun x=>(opds c.args.toList).map fun xs=>.calli name x xs
  | .builtin .len=>match c.args.toList,c.argTypes.toList with
   | [x],[t]=>(look T t).bind fun ti=>match ti.desc with
    | .slice _=>(opd x).map .len
    | _=>none
   | _,_=>none
  | .builtin .append=>match c.args.toList,c.argTypes.toList with
   | [s,x],[t,u]=>(look T t).bind fun ti=>(look T u).bind fun tu=>match ti.desc,tu.desc with
    | .slice e,.slice _=>(look T e).bind fun te=>(opd s).bind fun s=>(opd x).map fun x=>.app e te.size te.bytes (scs te.zero.cells) s x
    | _,_=>none
   | _,_=>none
  | .builtin .copy=>match c.args.toList,c.argTypes.toList with
   | [s,x],[t,u]=>(look T t).bind fun ti=>(look T u).bind fun tu=>match ti.desc,tu.desc with
    | .slice e,.slice _=>(look T e).bind fun te=>(opd s).bind fun s=>(opd x).map fun x=>.cpy te.size s x
    | _,_=>none
   | _,_=>none
  | .builtin .max=>match c.args.toList with
   | [x,y]=>(opd x).bind fun x=>(opd y).map fun y=>.mm true x y
   | _=>none
  | .builtin .min=>match c.args.toList with
   | [x,y]=>(opd x).bind fun x=>(opd y).map fun y=>.mm false x y
   | _=>none
  | _=>none
 | _=>none
def compIO (T:TT) (ops:Array Oper) (o:Oper):Option IO1 :=
 (compOp T o.op).bind fun op=>match o.guard with
  | none=>some ⟨o.dst,op,none⟩
  | some (j,want)=>((ops[j]?).bind (·.dst)).map fun g=>⟨o.dst,op,some (g,want)⟩
def compList (T:TT) (ops:Array Oper):List Oper→Option (List IO1)
 | []=>some []
 | o :: r=>(compIO T ops o).bind fun i=>(compList T ops r).map (i :: ·)
theorem drop'_eq {α:Type}:∀ (n:Nat) (l:List α),drop' n l=l.drop n
 | 0,_=>rfl
 | _+1,[]=>rfl
 | n+1,_ :: l=>by simp [drop',drop'_eq n l]
theorem take'_eq {α:Type}:∀ (n:Nat) (l:List α),take' n l=l.take n
 | 0,_=>by simp [take']
 | _+1,[]=>rfl
 | n+1,_ :: l=>by simp [take',take'_eq n l]
theorem nth_eq {α:Type}:∀ (l:List α) (n:Nat),nth l n=l[n]?
 | [],_=>by simp [nth]
 | _ :: _,0=>rfl
 | _ :: l,n+1=>by simp [nth,nth_eq l n]
theorem len'_eq {α:Type}:∀ (l:List α),len' l=l.length
 | []=>rfl
 | _ :: l=>by simp [len',len'_eq l]
theorem allOne_mem:∀ {l:List SC},allOne l=true→∀ c∈l,c.one=true
 | [],_,c,h=>by cases h
 | a :: r,h,c,hc=>by
  simp only [allOne,Bool.and_eq_true] at h
  rcases List.mem_cons.1 hc with rfl | hc
  ·exact h.1
  ·exact allOne_mem h.2 c hc
theorem zEq_eq {a b:Value} (h:zEq a b=true):a=b:=by
 unfold zEq at h
 split at h
 ·rw [beq_iff_eq.1 h]
 ·simp only [Bool.and_eq_true,decide_eq_true_eq,beq_iff_eq] at h
  rw [h.1,h.2]
 all_goals first | rfl | (cases h;done)
theorem zEqs_eq:∀ {a b:List Value},zEqs a b=true→a=b
 | [],[],_=>rfl
 | a :: l,b :: r,h=>by
  simp only [zEqs,Bool.and_eq_true] at h
  rw [zEq_eq h.1,zEqs_eq h.2]
 | [],_ :: _,h=>by cases h
 | _ :: _,[],h=>by cases h
section
variable (E:Env)
theorem den_c (x:SC):(SV.c x).den E=x.den E:=rfl
theorem den_agg (l:List SC):(SV.agg l).den E = .agg (l.map (SC.den E)).toArray:=rfl
theorem den_tup (l:List (Bool×List SC)):(SV.tup l).den E = .tuple (l.map (den1 E)).toArray:=rfl
theorem den_v (x:Value):(SC.v x).den E=x:=by simp [SC.den]
theorem den_b (e:Bool):(SC.bo e).den E = .bool e:=by simp [SC.den]
theorem den_xv (x:Nm):(SC.xv x).den E=E.χ x:=by simp [SC.den]
theorem den_ptr (x:Nm) (off:Nat):(SC.ptr x off).den E = .pointer (some ⟨E.ρ x,off,none⟩):=by simp [SC.den]
theorem den_pe (x:Nm) (s e j:Nat):(SC.pe x s e j).den E = .pointer (some ⟨E.ρ x,e * s+j,none⟩):=by simp [SC.den]
theorem den_sl (x:Nm) (s o n:Nat) (c:Option Nat):(SC.sl x s o n c).den E = .slice (if E.ν x=true then none else some ⟨E.ρ x,o * s,none⟩) n (c.getD (E.κ x - o)):=by simp [SC.den]
end
section
variable {P:Program} {T:TT} {B:Nat} {W:Nat→Prop} {w0:World} {E:Env} {S:St} {a:Act} {w:World}
theorem scs_den (E:Env) (cs:Array Value):((scs cs).map (SC.den E)).toArray=cs:=by
 simp [scs,Function.comp_def,den_v]
theorem svOf_den {x:Value} {v:SV} (h:svOf x=some v) (E:Env):v.den E=x:=by
 cases x <;> simp only [svOf,Option.some.injEq,reduceCtorEq] at h <;> subst h <;> simp [SV.den,den_v,scs_den]
theorem opd_den {x:Operand} {i:IX} {v:SV} (hs:Sat B W w0 E S a w) (h:opd x=some i) (hv:S.ev i=some v):a.eval x=v.den E:=by
 cases x with
 | tmp t =>
  simp only [opd,Option.some.injEq] at h
  subst h
  exact (hs.tmps t v hv).2
 | const c =>
  simp only [opd,Option.map_eq_some_iff] at h
  obtain ⟨u,hu,rfl⟩:=h
  simp only [St.ev,Option.some.injEq] at hv
  subst hv
  exact (svOf_den hu E).symm
 | func f =>
  simp only [opd,Option.some.injEq] at h
  subst h
  simp only [St.ev,Option.some.injEq] at hv
  subst hv
  simp [SV.den,SC.den,SC.denL]
  rfl
 | global g=>simp [opd] at h
theorem opds_den (hs:Sat B W w0 E S a w):∀ (xs:List Operand) (is:List IX) (vs:List SV),opds xs=some is→evs S is=some vs→xs.map a.eval=vs.map (SV.den E)
 | [],is,vs,h,h'=>by
  simp only [opds,Option.some.injEq] at h
  subst h
  simp only [evs,Option.some.injEq] at h'
  subst h'
  rfl
 | x :: r,is,vs,h,h'=>by
  simp only [opds,Option.bind_eq_some_iff,Option.map_eq_some_iff] at h
  obtain ⟨i,hi,is',his,rfl⟩:=h
  simp only [evs] at h'
  split at h'
  ·next v vs' hv hvs =>
   simp only [Option.some.injEq] at h'
   subst h'
   simp only [List.map_cons]
   rw [opd_den hs hi hv,opds_den hs r is' vs' his hvs]
  ·cases h'
theorem evC_den (hs:Sat B W w0 E S a w):∀ (xs:List Operand) (is:List IX) (vs:List SC),opds xs=some is→evC S is=some vs→xs.map a.eval=vs.map (SC.den E)
 | [],is,vs,h,h'=>by
  simp only [opds,Option.some.injEq] at h
  subst h
  simp only [evC,Option.some.injEq] at h'
  subst h'
  rfl
 | x :: r,is,vs,h,h'=>by
  simp only [opds,Option.bind_eq_some_iff,Option.map_eq_some_iff] at h
  obtain ⟨i,hi,is',his,rfl⟩:=h
  simp only [evC] at h'
  split at h'
  ·next v vs' hv hvs =>
   simp only [Option.some.injEq] at h'
   subst h'
   simp only [List.map_cons]
   rw [opd_den hs hi hv,evC_den hs r is' vs' his hvs]
   rfl
  ·cases h'
theorem bool?_den {x:SC} {b:Bool} (h:x.bool? = some b) (E:Env):x.den E = .bool b:=by
 cases x with
 | v y=>cases y <;> simp only [SC.bool?,Option.some.injEq,reduceCtorEq] at h;subst h;exact den_v _ _
 | bo e=>simp only [SC.bool?,Option.some.injEq] at h;subst h;exact den_b _ _
 | _=>simp [SC.bool?] at h
theorem one_den (hx:OneC E) {c:SC} (hc:c.one=true):(c.den E).oneCell' = true:=by
 cases c with
 | v x=>rw [den_v];exact hc
 | bo e=>rw [den_b];rfl
 | xv i=>rw [den_xv];exact hx i
 | xs x s o n c=>simp only [SC.den];split <;> first | rfl | exact hx x
 | ep i s k j=>simp only [SC.den];split <;> rfl
 | _=>simp [SC.den,Value.oneCell']
theorem cells_den {v:SV} {cs:List SC} (h:v.cells=some cs) (hx:OneC E):(v.den E).cells=(cs.map (SC.den E)).toArray∧∀ u∈cs.map (SC.den E),u.oneCell' = true:=by
 cases v with
 | c x =>
  simp only [SV.cells] at h
  split at h
  ·next hone =>
   simp only [Option.some.injEq] at h
   subst h
   have:=one_den hx hone
   refine ⟨?_,fun u hu=>?_⟩
   ·simp only [SV.den,List.map_cons,List.map_nil]
    generalize x.den E=y at this
    cases y <;> first | rfl | (simp [Value.oneCell'] at this)
   ·simp only [List.map_cons,List.map_nil,List.mem_singleton] at hu
    subst hu;exact this
  ·cases h
 | agg l =>
  simp only [SV.cells] at h
  split at h
  ·next hone =>
   simp only [Option.some.injEq] at h
   subst h
   refine ⟨rfl,fun u hu=>?_⟩
   obtain ⟨c,hc,rfl⟩:=List.mem_map.1 hu
   exact one_den hx (allOne_mem hone c hc)
  ·cases h
 | tup l=>simp [SV.cells] at h
 | gd g w e v=>simp [SV.cells] at h
theorem ti_parts {t:Nat} {ti:TI} (hT:TOk P T) (h:look T t=some ti):P.underlying t=some ti.desc∧∃ i,P.info? t=some i∧i.zero=some ti.zero∧i.size=ti.size∧i.bytes=ti.bytes:=by
 obtain ⟨h1,h2,_⟩:=hT t ti h
 exact ⟨h1,info_parts h2⟩
theorem run_sizeOf {t:Nat} {i:TypeInfo} (h:P.info? t=some i) (w:World):(sizeOf t).run P w = .ok i.size w:=by
 simp [sizeOf,typeInfo,h]
theorem run_zeroValue {t:Nat} {i:TypeInfo} {z:Value} (h:P.info? t=some i) (hz:i.zero=some z) (w:World):(zeroValue t).run P w = .ok z w:=by
 simp [zeroValue,typeInfo,h,hz]
theorem run_isAgg {t:Nat} {d:TypeDesc} (h:P.underlying t=some d) (w:World):(isAgg t).run P w = .ok (isAggD d) w:=by
 unfold isAgg
 simp only [Sem.run_bind,run_underlying h,Result.andThen_ok]
 cases d <;> rfl
theorem addr_add0 (b o:Nat) (j:Nat):(⟨b,o,none⟩:Addr).add j=⟨b,o+j,none⟩:=by unfold Addr.add;split <;> simp_all
theorem run_ldv {t:Nat} {ti:TI} (hT:TOk P T) (ht:look T t=some ti) (b off:Nat) (cs:List Value) (hl:cs.length=ti.size)
  (hc:∀ j u,cs[j]? = some u→w.cell? ⟨b,off+j,none⟩=some u) :
  (Instr.loadAt t (.pointer (some ⟨b,off,none⟩))).run P w = .ok (if isAggD ti.desc then .agg cs.toArray else (cs[0]?).getD undef) w∨(isAggD ti.desc=false∧cs=[]):=by
 obtain ⟨hu,i,hi,hz,hs,_⟩:=ti_parts hT ht
 cases hd:isAggD ti.desc with
 | true =>
  left
  have:=run_loadCells_list (P:=P) w ⟨b,off,none⟩ cs (fun j v hv=>by rw [addr_add0];exact hc j v hv)
  simp only [Instr.loadAt,Instr.sureAddr,Sem.run_bind,Sem.run_pure,Result.andThen_ok,loadVar,run_isAgg hu,hd,if_true,run_sizeOf hi,hs,← hl,this]
 | false =>
  cases cs with
  | nil=>right;exact ⟨rfl,rfl⟩
  | cons v r =>
   left
   have h0:=hc 0 v rfl
   rw [Nat.add_zero] at h0
   simp only [Instr.loadAt,Instr.sureAddr,Sem.run_bind,Sem.run_pure,Result.andThen_ok,loadVar,run_isAgg hu,hd,Bool.false_eq_true,if_false]
   simp [load,Sem.run,h0]
theorem run_ld1 {t:Nat} {ti:TI} (hT:TOk P T) (ht:look T t=some ti) (hd:isAggD ti.desc=false) (b off:Nat) (u:Value) (hc:w.cell? ⟨b,off,none⟩=some u) :
  (Instr.loadAt t (.pointer (some ⟨b,off,none⟩))).run P w = .ok u w:=by
 obtain ⟨hu,_⟩:=ti_parts hT ht
 simp only [Instr.loadAt,Instr.sureAddr,Sem.run_bind,Sem.run_pure,Result.andThen_ok,loadVar,run_isAgg hu,hd,Bool.false_eq_true,if_false]
 simp [load,Sem.run,hc]
theorem seg_get {α:Type} {l:List α} {off n j:Nat} {u:α} (h:(take' n (drop' off l))[j]? = some u):l[off+j]? = some u:=by
 rw [take'_eq,drop'_eq,List.getElem?_take] at h
 split at h
 ·rw [List.getElem?_drop] at h;exact h
 ·cases h
theorem seg_len {α:Type} {l:List α} {off n:Nat} (h:off+n≤l.length):(take' n (drop' off l)).length=n:=by
 rw [take'_eq,drop'_eq,List.length_take,List.length_drop];omega
theorem bk_heap {own:Own} {H:Nm→PH} (hH:HeapOk B W E own H w) {x:Nm} {cs:List SC} {ty:Nat} (h:atN own x=some (.bk cs ty)):w.heap[E.ρ x]? = some (.cells (cs.map (SC.den E)).toArray ty (0,0)):=by
 have h1:=hH.den x _ h
 simp only [Blk.den] at h1
 exact (hH.sub x _ h (E.ρ x) _ (by rw [h1];simp [sing])).1
theorem bk_cell {own:Own} {H:Nm→PH} (hH:HeapOk B W E own H w) {x:Nm} {cs:List SC} {ty:Nat} (h:atN own x=some (.bk cs ty)) (j:Nat):w.cell? ⟨E.ρ x,j,none⟩=(cs[j]?).map (SC.den E):=by
 rw [cell_of_row w _ j _ ty (0,0) (bk_heap hH h)]
 simp
theorem ar_heap {own:Own} {H:Nm→PH} (hH:HeapOk B W E own H w) {x:Nm} {n s ty:Nat} {at_:Nat→List SC} (h:atN own x=some (.ar n s at_ ty)) :
  (True∧E.κ x=0∧n=0∧H x=emp)∨(E.ν x=false∧(n≤E.κ x∧0<E.κ x)∧E.κ x≤maxLen∧∃ cells:Array Value,H x=sing (E.ρ x) (.cells cells ty (0,0))∧w.heap[E.ρ x]? = some (.cells cells ty (0,0))∧cells.size=E.κ x * s ∧
    ∀ e,e<n→(at_ e).length=s∧∀ j u,(at_ e)[j]? = some u→cells[e * s+j]? = some (u.den E)∧(u.den E).oneCell' = true):=by
 have h1:=hH.den x _ h
 simp only [Blk.den] at h1
 rcases h1 with h1 | ⟨h2,h3,h4,cells,h5,h6,h7⟩
 ·exact Or.inl h1
 ·exact Or.inr ⟨h2,h3,h4,cells,h5,(hH.sub x _ h (E.ρ x) _ (by rw [h5];simp [sing])).1,h6,h7⟩
theorem ar_cell {own:Own} {H:Nm→PH} (hH:HeapOk B W E own H w) {x:Nm} {n s ty:Nat} {at_:Nat→List SC} (h:atN own x=some (.ar n s at_ ty)) {e:Nat} (he:e<n) :
  E.ν x=false∧(at_ e).length=s∧∀ j u,(at_ e)[j]? = some u→w.cell? ⟨E.ρ x,e * s+j,none⟩=some (u.den E)∧(u.den E).oneCell' = true:=by
 rcases ar_heap hH h with ⟨_,_,h0,_⟩ | ⟨h2,_,_,cells,_,hb,_,h7⟩
 ·omega
 ·refine ⟨h2,(h7 e he).1,fun j u hu=>?_⟩
  rw [cell_of_row w _ _ _ ty (0,0) hb]
  exact (h7 e he).2 j u hu
theorem Sat.arr (hs:Sat B W w0 E S a w) {x:Nm} {A:ArrF} (h:atN S.arrs x=some A):ArrAt E w x A:=by
 obtain ⟨H,_,hF⟩:=hs.mem
 exact (hF w (fun _ _ _=>rfl)).1 x A h
theorem put_eq (l:List SC) (off:Nat) (cs:List SC):put l off cs=l.take off++cs++l.drop (off+cs.length):=by
 simp [put,take'_eq,drop'_eq,len'_eq]
end
end Go.Proofs.Ytcloeignccpljaa.Z
namespace Go.Proofs.Ytcloeignccpljaa.Z
open Go Go.RowKit
section
variable {P:Program} {T:TT} {B:Nat} {W:Nat→Prop} {w0:World} {E:Env} {S:St} {a:Act} {w:World}
def RunsTo (r:Result Next) (v:Value) (w' : World):Prop:=r = .ok (.value v) w'∨(r = .ok .skip w'∧v=undef)
theorem det_after {r:Result Next} {val:SV} {cnt:Nat} {eff:Own} {arrs' : List (Nat×Fm ArrF)} (N:Env) (hN:OneC N) (hex:∃ v w',RunsTo r v w')
  (h:∀ E2,Sat B W w0 E2 S a w→AgreeD (NewIds S.nid cnt) N E2→∃ w2,(r = .ok (.value (val.den E2)) w2∨(r = .ok .skip w2∧val = .c (.v undef)))∧Fits B W E2 S w w2 eff arrs') :
  ∃ v w',RunsTo r v w'∧After B W w0 E [] S a w val cnt eff arrs' v w':=by
 obtain ⟨v,w',hr⟩:=hex
 refine ⟨v,w',hr,N,hN,fun E2 hs2 _ hag=>?_⟩
 obtain ⟨w2,h1,h2⟩:=h E2 hs2 hag
 rcases hr with hr | ⟨hr,rfl⟩
 ·rcases h1 with h1 | ⟨h1,_⟩
  ·rw [hr] at h1
   simp only [Result.ok.injEq,Next.value.injEq] at h1
   obtain ⟨rfl,rfl⟩:=h1
   exact ⟨rfl,h2.G⟩
  ·rw [hr] at h1
   simp at h1
 ·rcases h1 with h1 | ⟨h1,hv⟩
  ·rw [hr] at h1
   simp at h1
  ·rw [hr] at h1
   simp only [Result.ok.injEq,true_and] at h1
   subst h1
   exact ⟨by rw [hv,den_c,den_v],h2.G⟩
theorem pure_after {r:Result Next} {val:SV} (hs:Sat B W w0 E S a w) (h:∀ E2,Sat B W w0 E2 S a w→r = .ok (.value (val.den E2)) w) :
  ∃ v w',RunsTo r v w'∧After B W w0 E [] S a w (pureO val).val (pureO val).cnt (pureO val).eff (pureO val).arrs v w' :=
 det_after E hs.one ⟨_,_,Or.inl (h E hs)⟩ fun E2 hs2 _=>⟨w,Or.inl (h E2 hs2),fits_nil⟩
theorem run_val {s:Sem Value} {v:Value} {w' : World} (h:s.run P w = .ok v w'):(do pure (Next.value (← s)):Sem Next).run P w = .ok (.value v) w':=by
 simp only [Sem.run_bind,h,Result.andThen_ok,Sem.run_pure]
theorem run_unit {s:Sem Unit} {w' : World} (h:s.run P w = .ok () w'):(do s;pure Next.skip:Sem Next).run P w = .ok .skip w':=by
 simp only [Sem.run_bind,h,Result.andThen_ok,Sem.run_pure]
theorem ld_ok {t:Nat} {x:Operand} {ix:IX} {ti:TI} (hT:TOk P T) (ht:look T t=some ti) (hx:opd x=some ix) {vc:Prop} {out:Out}
  (h:(stepOut (.ld (isAggD ti.desc) ti.size ix) S).Sel vc out) (hvc:vc):∃ val,out=pureO val∧∀ E,Sat B W w0 E S a w→(Instr.loadAt t (a.eval x)).run P w = .ok (val.den E) w:=by
 simp only [stepOut] at h
 split at h
 ·next y off hev =>
  split at h
  ·next p cs ty hlook =>
   cases hd:isAggD ti.desc with
   | true =>
    rw [hd,if_pos rfl] at h
    split at h
    ·next hfit =>
     obtain ⟨rfl,rfl⟩:=h
     refine ⟨_,rfl,fun E hs=>?_⟩
     obtain ⟨H,hH,_⟩:=hs.mem
     have hoc:=bk_cell hH (pkN_at hlook hvc)
     rw [opd_den hs hx hev,den_c,den_ptr]
     rw [len'_eq] at hfit
     have:=run_ldv (P:=P) (w:=w) hT ht (E.ρ y) off ((take' ti.size (drop' off cs)).map (SC.den E)) (by rw [List.length_map,seg_len hfit]) (fun j u hu=>by
      rw [List.getElem?_map,Option.map_eq_some_iff] at hu
      obtain ⟨c,hc,rfl⟩:=hu
      rw [hoc,seg_get hc];rfl)
     rw [hd] at this
     simpa [den_agg] using this
    ·exact h.elim
   | false =>
    rw [hd,if_neg (by simp)] at h
    split at h
    ·next c hn =>
     obtain ⟨rfl,rfl⟩:=h
     refine ⟨_,rfl,fun E hs=>?_⟩
     obtain ⟨H,hH,_⟩:=hs.mem
     have hoc:=bk_cell hH (pkN_at hlook hvc)
     rw [opd_den hs hx hev,den_c,den_ptr,den_c]
     rw [nth_eq] at hn
     exact run_ld1 hT ht hd _ _ _ (by rw [hoc,hn];rfl)
    ·exact h.elim
  ·exact h.elim
 ·next y s k j hev =>
  split at h
  ·next p m s' at_ ty hlook =>
   cases hd:isAggD ti.desc with
   | true =>
    rw [hd,if_pos rfl] at h
    by_cases hwide:s=1∧1<ti.size
    ·rw [if_pos hwide] at h
     obtain ⟨rfl,rfl⟩:=h
     obtain ⟨hp,rfl,rfl,rfl,hkn,hn0⟩:=hvc
     refine ⟨_,rfl,fun E hs=>?_⟩
     obtain ⟨H,hH,_⟩:=hs.mem
     have hcl:=fun e (he:e<m)=>ar_cell hH (pkN_at hlook hp) he
     obtain ⟨hl1,hget⟩:=rowC_get ti.size k at_ fun e he=>(hcl (k+e) (by omega)).2.1
     rw [opd_den hs hx hev,den_c,den_pe]
     have:=run_ldv (P:=P) (w:=w) hT ht (E.ρ y) (k * 1+0) ((rowC ti.size k at_).map (SC.den E)) (by rw [List.length_map,hl1]) (fun q u hu=>by
      have hq:q<ti.size:=by have:=(List.getElem?_eq_some_iff.1 hu).1;rw [List.length_map,hl1] at this;exact this
      rw [List.getElem?_map,Option.map_eq_some_iff,hget q hq] at hu
      obtain ⟨c,hc,rfl⟩:=hu
      have:=((hcl (k+q) (by omega)).2.2 0 c hc).1
      rwa [show (k+q) * 1+0=k * 1+0+q by omega] at this)
     rw [hd] at this
     simpa [den_agg] using this
    rw [if_neg hwide] at h
    obtain ⟨rfl,rfl⟩:=h
    obtain ⟨hp,hk,hsz,hj⟩:=hvc
    refine ⟨_,rfl,fun E hs=>?_⟩
    obtain ⟨H,hH,_⟩:=hs.mem
    obtain ⟨_,hlen,hcell⟩:=ar_cell hH (pkN_at hlook hp) hk
    rw [opd_den hs hx hev,den_c,den_pe]
    have:=run_ldv (P:=P) (w:=w) hT ht (E.ρ y) (k * s+j) ((take' ti.size (drop' j (at_ k))).map (SC.den E)) (by rw [List.length_map,seg_len (by omega)]) (fun q u hu=>by
      rw [List.getElem?_map,Option.map_eq_some_iff] at hu
      obtain ⟨c,hc,rfl⟩:=hu
      have:=(hcell (j+q) c (seg_get hc)).1
      rw [hsz] at this
      rw [show k * s+j+q=k * s+(j+q) by omega];exact this)
    rw [hd] at this
    simpa [den_agg] using this
   | false =>
    rw [hd,if_neg (by simp)] at h
    split at h
    ·next c hn =>
     obtain ⟨rfl,rfl⟩:=h
     obtain ⟨hp,hk,hsz⟩:=hvc
     refine ⟨_,rfl,fun E hs=>?_⟩
     obtain ⟨H,hH,_⟩:=hs.mem
     obtain ⟨_,hlen,hcell⟩:=ar_cell hH (pkN_at hlook hp) hk
     rw [opd_den hs hx hev,den_c,den_pe,den_c]
     rw [nth_eq] at hn
     have hc:=(hcell j c hn).1
     rw [hsz] at hc
     exact run_ld1 hT ht hd _ _ _ hc
    ·exact h.elim
  ·exact h.elim
 ·next y s k j hev =>
  split at h
  ·next p A hlook =>
   have arr:∀ E,Sat B W w0 E S a w→p→k<A.len→A.size=s→∃ b off,(SC.ep y s k j).den E = .pointer (some ⟨b,off+k * s+j,none⟩)∧(A.at_ k).length=A.size∧∀ q u,(A.at_ k)[q]? = some u→w.cell? ⟨b,off+k * s+q,none⟩=some (u.den E):=by
    intro E hs hp hk hsz
    obtain ⟨ba,cap,hχ,hl,hm,hcell⟩:=hs.arr (pkN_at hlook hp)
    rcases hcell with h0 | ⟨b,off,rfl,_,hcell⟩
    ·omega
    obtain ⟨hlen,hcell⟩:=hcell k hk
    refine ⟨b,off,?_,hlen,fun q u hu=>?_⟩
    ·simp only [SC.den,hχ]
    ·rw [← hsz];exact (hcell q u hu).1
   cases hd:isAggD ti.desc with
   | true =>
    rw [hd,if_pos rfl] at h
    obtain ⟨rfl,rfl⟩:=h
    obtain ⟨hp,hk,hsz,hj⟩:=hvc
    refine ⟨_,rfl,fun E hs=>?_⟩
    obtain ⟨b,off,hden,hlen,hcell⟩:=arr E hs hp hk hsz
    rw [opd_den hs hx hev,den_c,hden]
    have:=run_ldv (P:=P) (w:=w) hT ht b (off+k * s+j) ((take' ti.size (drop' j (A.at_ k))).map (SC.den E)) (by rw [List.length_map,seg_len (by omega)]) (fun q u hu=>by
      rw [List.getElem?_map,Option.map_eq_some_iff] at hu
      obtain ⟨c,hc,rfl⟩:=hu
      have:=hcell (j+q) c (seg_get hc)
      rw [show off+k * s+j+q=off+k * s+(j+q) by omega];exact this)
    rw [hd] at this
    simpa [den_agg] using this
   | false =>
    rw [hd,if_neg (by simp)] at h
    split at h
    ·next c hn =>
     obtain ⟨rfl,rfl⟩:=h
     obtain ⟨hp,hk,hsz⟩:=hvc
     refine ⟨_,rfl,fun E hs=>?_⟩
     obtain ⟨b,off,hden,hlen,hcell⟩:=arr E hs hp hk hsz
     rw [opd_den hs hx hev,den_c,hden,den_c]
     rw [nth_eq] at hn
     exact run_ld1 hT ht hd _ _ _ (hcell j c hn)
    ·exact h.elim
  ·exact h.elim
 ·exact h.elim
theorem heap_setRow {g:Nat} {old cs:Array Value} {t:TypeId} {fr:Nat×Nat} (hg:w.heap[g]? = some (.cells old t fr)) (n:Nat):(w.setRow g cs).heap[n]? = if n=g then some (.cells cs t fr) else w.heap[n]?:=by
 split
 ·next e=>subst e;exact setRow_heap w n old cs t fr hg
 ·next e=>exact setRow_other w g n cs e
theorem put_get {l:List SC} {off:Nat} {cs:List SC} (h:off+cs.length≤l.length) (j:Nat):(put l off cs)[j]? = if j<off then l[j]? else if j<off+cs.length then cs[j - off]? else l[j]?:=by
 rw [put_eq,List.append_assoc]
 by_cases h1:j<off
 ·rw [if_pos h1,List.getElem?_append_left (by rw [List.length_take];omega),List.getElem?_take,if_pos h1]
 ·rw [if_neg h1,List.getElem?_append_right (by rw [List.length_take];omega),List.length_take,Nat.min_eq_left (by omega)]
  by_cases h2:j<off+cs.length
  ·rw [if_pos h2,List.getElem?_append_left (by omega)]
  ·rw [if_neg h2,List.getElem?_append_right (by omega),List.getElem?_drop]
   congr 1
   omega
theorem splice_get {E:Env} (L news:List Value) (new:List SC) (hn:news=new.map (SC.den E)) {o:Nat} (h:o+new.length≤L.length) (q:Nat) :
  (L.take o++news++L.drop (o+new.length)).toArray[q]? = if o≤q∧q<o+new.length then (new[q - o]?).map (SC.den E) else L[q]?:=by
 subst hn
 have e:(L.take o++new.map (SC.den E)++L.drop (o+new.length)).toArray[q]? = (L.take o++(new.map (SC.den E)++L.drop (o+new.length)))[q]?:=by simp
 rw [e]
 by_cases h1:q<o
 ·rw [List.getElem?_append_left (by rw [List.length_take];omega),List.getElem?_take,if_pos h1,if_neg (by omega)]
 ·rw [List.getElem?_append_right (by rw [List.length_take];omega),List.length_take,Nat.min_eq_left (by omega)]
  by_cases h2:q<o+new.length
  ·rw [List.getElem?_append_left (by rw [List.length_map];omega),if_pos ⟨by omega,h2⟩,List.getElem?_map]
  ·rw [List.getElem?_append_right (by rw [List.length_map];omega),if_neg (by omega),List.getElem?_drop,List.length_map]
   congr 1
   omega
theorem st_ok {t:Nat} {x y:Operand} {ix iy:IX} {ti:TI} (hT:TOk P T) (ht:look T t=some ti) (hx:opd x=some ix) (hy:opd y=some iy) {vc:Prop} {out:Out}
  (h:(stepOut (.st ti.size ix iy) S).Sel vc out) (hvc:vc):out.val = .c (.v undef)∧out.cnt=0∧out.arrs=[]∧∀ E,Sat B W w0 E S a w→∃ w',(Instr.storeAt t (a.eval x) (a.eval y)).run P w = .ok () w'∧Fits B W E S w w' out.eff []:=by
 obtain ⟨hu,i,hi,hz,hsz,_⟩:=ti_parts hT ht
 simp only [stepOut] at h
 split at h
 ·next z off v hev hev2 =>
  split at h
  ·next p cs ty new hlook hcells =>
   split at h
   ·next hfit =>
    obtain ⟨rfl,rfl⟩:=h
    refine ⟨rfl,rfl,rfl,fun E hs=>?_⟩
    obtain ⟨hn,hle⟩:=hfit
    rw [len'_eq] at hn hle
    obtain ⟨hcd,hone⟩:=cells_den hcells hs.one
    obtain ⟨H,hH,_⟩:=hs.mem
    have hb:=bk_heap hH (pkN_at hlook hvc)
    rw [opd_den hs hx hev,opd_den hs hy hev2]
    have hst:=run_storeCells_at (P:=P) (E.ρ z) off ty (new.map (SC.den E)) 0 _ w hb (by simp;omega) hone
    refine ⟨w.setRow (E.ρ z) ((put cs off new).map (SC.den E)).toArray,?_,?_⟩
    ·simp only [den_c,den_ptr,Instr.storeAt,Instr.sureAddr,Sem.run_bind,Sem.run_pure,Result.andThen_ok,storeVar,run_sizeOf hi,hcd,List.size_toArray,List.length_map,hn,hsz,ne_eq,not_true_eq_false,if_false]
     rw [hst]
     simp only [put_eq,Nat.add_zero,List.length_map,List.map_append,List.map_take,List.map_drop]
    ·refine fits_write (g:=E.ρ z) (o:=.cells ((put cs off new).map (SC.den E)).toArray ty (0,0)) (b':=.bk (put cs off new) ty) hlook hvc ?_ (fun H hH=>?_) (by simp only [Blk.den]) _ ⟨rfl,rfl,rfl⟩ (heap_setRow hb)
     ·exact (Array.getElem?_eq_some_iff.1 hb).1
     ·have h1:=hH.den z _ (pkN_at hlook hvc)
      simp only [Blk.den] at h1
      rw [h1,hb];rfl
   ·exact h.elim
  ·exact h.elim
 ·next z s k j v hev hev2 =>
  split at h
  ·next p m s' at_ ty new hlook hcells =>
   by_cases hwide:s=1∧1<ti.size
   ·rw [if_pos hwide] at h
    obtain ⟨rfl,rfl⟩:=h
    refine ⟨rfl,rfl,rfl,fun E hs=>?_⟩
    obtain ⟨hp,rfl,rfl,rfl,rfl,hn,hnm,h0⟩:=hvc
    rw [len'_eq] at hn
    obtain ⟨hcd,hone⟩:=cells_den hcells hs.one
    obtain ⟨H,hH,_⟩:=hs.mem
    rcases ar_heap hH (pkN_at hlook hp) with ⟨_,_,h0,_⟩ | ⟨hν,hκ,hm,cells,hHz,hb,hcs,hc⟩
    ·omega
    rw [opd_den hs hx hev,opd_den hs hy hev2]
    have hfit:new.length≤cells.size:=by rw [hcs];omega
    have hst:=run_storeCells_at (P:=P) (E.ρ z) 0 ty (new.map (SC.den E)) 0 _ w hb (by simp;omega) hone
    refine ⟨w.setRow (E.ρ z) (cells.toList.take 0++new.map (SC.den E)++cells.toList.drop (0+new.length)).toArray,?_,?_⟩
    ·simp only [den_c,den_pe,Nat.zero_mul,Nat.add_zero,Instr.storeAt,Instr.sureAddr,Sem.run_bind,Sem.run_pure,Result.andThen_ok,storeVar,run_sizeOf hi,hcd,List.size_toArray,List.length_map,hn,hsz,ne_eq,not_true_eq_false,if_false]
     rw [hst]
     simp only [Nat.add_zero,List.length_map,hn]
    ·refine fits_write (g:=E.ρ z) (o:=.cells (cells.toList.take 0++new.map (SC.den E)++cells.toList.drop (0+new.length)).toArray ty (0,0)) (b':=.ar m 1 (segs 1 new) ty) hlook hp ?_ (fun H hH=>?_) ?_ _ ⟨rfl,rfl,rfl⟩ (heap_setRow hb)
     ·exact (Array.getElem?_eq_some_iff.1 hb).1
     ·rcases ar_heap hH (pkN_at hlook hp) with ⟨_,_,h3,_⟩ | ⟨_,_,_,cells',h4,h5,_⟩
      ·omega
      ·rw [h4,h5];rfl
     simp only [Blk.den]
     refine Or.inr ⟨hν,hκ,hm,_,rfl,?_,?_⟩
     ·simp only [List.size_toArray,List.length_append,List.length_take,List.length_map,List.length_drop,Array.length_toList]
      omega
     ·intro e he
      have get:∀ q,(cells.toList.take 0++new.map (SC.den E)++cells.toList.drop (0+new.length)).toArray[q]? = if 0≤q∧q<0+new.length then (new[q - 0]?).map (SC.den E) else cells[q]?:=by
       intro q
       obtain ⟨L⟩:=cells
       have e0:(⟨L⟩:Array Value)[q]? = L[q]?:=by simp
       rw [e0]
       exact splice_get (E:=E) L (new.map (SC.den E)) new rfl (by simpa using hfit) q
      have hsg:segs 1 new e=[new[e]'(by omega)]:=by
       unfold segs
       rw [take'_eq,drop'_eq,Nat.mul_one,List.drop_eq_getElem_cons (by omega)]
       rfl
      rw [hsg]
      refine ⟨rfl,fun q u hu=>?_⟩
      cases q with
      | zero =>
       simp only [List.getElem?_cons_zero,Option.some.injEq] at hu
       subst hu
       rw [get,if_pos ⟨by omega,by omega⟩,show e * 1+0 - 0=e by omega,List.getElem?_eq_getElem (by omega)]
       exact ⟨rfl,hone _ (List.mem_map.2 ⟨_,List.getElem_mem _,rfl⟩)⟩
      | succ q=>simp at hu
   rw [if_neg hwide] at h
   obtain ⟨rfl,rfl⟩:=h
   refine ⟨rfl,rfl,rfl,fun E hs=>?_⟩
   obtain ⟨hp,hk,hss,hn,hle⟩:=hvc
   subst hss
   rw [len'_eq] at hn
   obtain ⟨hcd,hone⟩:=cells_den hcells hs.one
   obtain ⟨H,hH,_⟩:=hs.mem
   rcases ar_heap hH (pkN_at hlook hp) with ⟨_,_,h0,_⟩ | ⟨hν,hκ,hm,cells,hHz,hb,hcs,hc⟩
   ·omega
   have hlen:=(hc k hk).1
   have hfit:k * s' + j+new.length≤cells.size:=by
    have h2:(k+1) * s'≤E.κ z * s':=Nat.mul_le_mul_right _ (by omega)
    rw [Nat.add_mul,Nat.one_mul] at h2
    omega
   rw [opd_den hs hx hev,opd_den hs hy hev2]
   have hst:=run_storeCells_at (P:=P) (E.ρ z) (k * s' + j) ty (new.map (SC.den E)) 0 _ w hb (by simp;omega) hone
   refine ⟨w.setRow (E.ρ z) (cells.toList.take (k * s' + j)++new.map (SC.den E)++cells.toList.drop (k * s' + j+new.length)).toArray,?_,?_⟩
   ·simp only [den_c,den_pe,Instr.storeAt,Instr.sureAddr,Sem.run_bind,Sem.run_pure,Result.andThen_ok,storeVar,run_sizeOf hi,hcd,List.size_toArray,List.length_map,hn,hsz,ne_eq,not_true_eq_false,if_false]
    rw [hst]
    simp only [Nat.add_zero,List.length_map,hn]
   ·refine fits_write (g:=E.ρ z) (o:=.cells (cells.toList.take (k * s' + j)++new.map (SC.den E)++cells.toList.drop (k * s' + j+new.length)).toArray ty (0,0)) (b':=.ar m s' (setAt k at_ (put (at_ k) j new)) ty) hlook hp ?_ (fun H hH=>?_) ?_ _ ⟨rfl,rfl,rfl⟩ (heap_setRow hb)
    ·exact (Array.getElem?_eq_some_iff.1 hb).1
    ·rcases ar_heap hH (pkN_at hlook hp) with ⟨_,_,h3,_⟩ | ⟨_,_,_,cells',h4,h5,_⟩
     ·omega
     ·rw [h4,h5];rfl
    simp only [Blk.den]
    refine Or.inr ⟨hν,hκ,hm,_,rfl,?_,?_⟩
    ·simp only [List.size_toArray,List.length_append,List.length_take,List.length_map,List.length_drop,Array.length_toList]
     omega
    ·intro e he
     have get:∀ q,(cells.toList.take (k * s' + j)++new.map (SC.den E)++cells.toList.drop (k * s' + j+new.length)).toArray[q]? = if k * s' + j≤q∧q<k * s' + j+new.length then (new[q - (k * s' + j)]?).map (SC.den E) else cells[q]?:=by
      intro q
      obtain ⟨L⟩:=cells
      have e0:(⟨L⟩:Array Value)[q]? = L[q]?:=by simp
      rw [e0]
      exact splice_get (E:=E) L (new.map (SC.den E)) new rfl (by simpa using hfit) q
     unfold setAt
     split
     ·next e1 =>
      subst e1
      have hle' : j+new.length≤(at_ e).length:=by rw [hlen];omega
      refine ⟨?_,fun q u hu=>?_⟩
      ·rw [put_eq]
       simp only [List.length_append,List.length_take,List.length_drop]
       omega
      ·rw [put_get hle'] at hu
       rw [get]
       split at hu
       ·rw [if_neg (by omega)]
        exact (hc e he).2 q u hu
       ·next h1 =>
        split at hu
        ·next h2 =>
         rw [if_pos ⟨by omega,by omega⟩,show e * s' + q - (e * s' + j)=q - j by omega,hu]
         exact ⟨rfl,hone _ (List.mem_map.2 ⟨u,List.mem_of_getElem? hu,rfl⟩)⟩
        ·next h2 =>
         rw [if_neg (by omega)]
         exact (hc e he).2 q u hu
     ·next e1 =>
      refine ⟨(hc e he).1,fun q u hu=>?_⟩
      have hq:q<s':=by rw [← (hc e he).1];exact (List.getElem?_eq_some_iff.1 hu).1
      rw [get,if_neg]
      ·exact (hc e he).2 q u hu
      ·intro h3
       rcases Nat.lt_or_gt_of_ne e1 with h4 | h4
       ·have:(e+1) * s'≤k * s':=Nat.mul_le_mul_right _ (by omega)
        rw [Nat.add_mul,Nat.one_mul] at this
        omega
       ·have:(k+1) * s'≤e * s':=Nat.mul_le_mul_right _ (by omega)
        rw [Nat.add_mul,Nat.one_mul] at this
        omega
  ·exact h.elim
 ·exact h.elim
end
end Go.Proofs.Ytcloeignccpljaa.Z
namespace Go.Proofs.Ytcloeignccpljaa.Z
open Go Go.RowKit
def RdAt (E:Env) (w:World) (v:Value) (s m:Nat) (g:Nat→List SC):Prop :=
 ∃ ba cap,v = .slice ba m cap∧(m=0∨∃ b off,ba=some ⟨b,off,none⟩∧∀ e,e<m→(g e).length=s∧∀ j u,(g e)[j]? = some u→w.cell? ⟨b,off+e * s+j,none⟩=some (u.den E)∧(u.den E).oneCell' = true)
def cellsOf (E:Env) (m:Nat) (g:Nat→List SC):List Value:=(List.range m).flatMap fun e=>(g e).map (SC.den E)
theorem cellsOf_succ (E:Env) (m:Nat) (g:Nat→List SC):cellsOf E (m+1) g=cellsOf E m g++(g m).map (SC.den E):=by
 simp [cellsOf,List.range_succ]
theorem cellsOf_len {E:Env} {s:Nat} {g:Nat→List SC}:∀ {m:Nat},(∀ e,e<m→(g e).length=s)→(cellsOf E m g).length=m * s
 | 0,_=>by simp [cellsOf]
 | m+1,h=>by
  rw [cellsOf_succ,List.length_append,cellsOf_len (fun e he=>h e (by omega)),List.length_map,h m (by omega),Nat.add_mul,Nat.one_mul]
theorem cellsOf_get {E:Env} {s:Nat} {g:Nat→List SC}:∀ {m:Nat},(∀ e,e<m→(g e).length=s)→∀ e j,e<m→j<s→(cellsOf E m g)[e * s+j]? = ((g e)[j]?).map (SC.den E)
 | 0,_,e,j,he,_=>by omega
 | m+1,h,e,j,he,hj=>by
  have hl:(cellsOf E m g).length=m * s:=cellsOf_len (fun e he=>h e (by omega))
  rw [cellsOf_succ]
  by_cases h1:e<m
  ·have:(e+1) * s≤m * s:=Nat.mul_le_mul_right _ h1
   rw [Nat.add_mul,Nat.one_mul] at this
   rw [List.getElem?_append_left (by omega)]
   exact cellsOf_get (fun e he=>h e (by omega)) e j h1 hj
  ·have e1:e=m:=by omega
   subst e1
   rw [List.getElem?_append_right (by omega),hl,List.getElem?_map]
   congr 2
   omega
theorem cellsOf_inv {E:Env} {s:Nat} {g:Nat→List SC} {m i:Nat} {u:Value} (h:∀ e,e<m→(g e).length=s) (hu:(cellsOf E m g)[i]? = some u) :
  ∃ e j c,e<m∧j<s∧i=e * s+j∧(g e)[j]? = some c∧u=c.den E:=by
 have hi:i<m * s:=by rw [← cellsOf_len (E:=E) h];exact (List.getElem?_eq_some_iff.1 hu).1
 have h0:0<s:=by
  rcases Nat.eq_zero_or_pos s with h0 | h0
  ·subst h0;rw [Nat.mul_zero] at hi;omega
  ·exact h0
 have hk:i / s<m:=Nat.div_lt_of_lt_mul (by rw [Nat.mul_comm];exact hi)
 have hm:i % s<s:=Nat.mod_lt _ h0
 have e1:i / s * s+i % s=i:=by rw [Nat.mul_comm];exact Nat.div_add_mod i s
 have hx:=cellsOf_get (E:=E) h (i / s) (i % s) hk hm
 rw [e1,hu] at hx
 cases hc:(g (i / s))[i % s]? with
 | none=>rw [hc] at hx;cases hx
 | some c =>
  rw [hc] at hx
  exact ⟨_,_,c,hk,hm,e1.symm,hc,by simpa using hx⟩
section
variable {P:Program} {T:TT} {B:Nat} {W:Nat→Prop} {w0:World} {E:Env} {S:St} {a:Act} {w:World}
theorem RdAt.lens {v:Value} {s m:Nat} {g:Nat→List SC} (h:RdAt E w v s m g):∀ e,e<m→(g e).length=s:=by
 obtain ⟨_,_,_,h | ⟨_,_,_,h⟩⟩:=h
 ·intro e he;omega
 ·exact fun e he=>(h e he).1
theorem RdAt.first {v:Value} {s m:Nat} {g:Nat→List SC} (h:RdAt E w v s m g) (w' : World) (hw:w'.heap=w.heap):(Builtin.firstCells s m v).run P w' = .ok (cellsOf E m g).toArray w'∧(cellsOf E m g).length=m * s∧∀ u∈cellsOf E m g,u.oneCell' = true:=by
 have hl:=h.lens
 obtain ⟨ba,cap,rfl,h⟩:=h
 have hcell:∀ p,w'.cell? p=w.cell? p:=fun p=>by unfold World.cell?;rw [hw]
 rcases h with h | ⟨b,off,rfl,h⟩
 ·subst h
  refine ⟨?_,by simp [cellsOf],fun u hu=>by simp [cellsOf] at hu⟩
  cases ba with
  | none=>exact run_firstCells_none w' s 0 0 cap
  | some b=>exact run_firstCells_some w' s 0 b 0 cap [] (by simp) (by simp)
 ·refine ⟨run_firstCells_some w' s m ⟨b,off,none⟩ m cap _ (cellsOf_len hl) (fun i u hu=>?_),cellsOf_len hl,fun u hu=>?_⟩
  ·obtain ⟨e,j,c,he,hj,rfl,hc,rfl⟩:=cellsOf_inv hl hu
   rw [addr_add0,hcell,show off+(e * s+j)=off+e * s+j by omega]
   exact ((h e he).2 j c hc).1
  ·obtain ⟨i,hi⟩:=List.mem_iff_getElem?.1 hu
   obtain ⟨e,j,c,he,hj,rfl,hc,rfl⟩:=cellsOf_inv hl hi
   exact ((h e he).2 j c hc).2
theorem RdAt.src {v:Value} {s m:Nat} {g:Nat→List SC} {tx e' : TypeId} (hk:P.underlying tx=some (.slice e')) (h:RdAt E w v s m g):Src P s tx v m (cellsOf E m g) w:=by
 obtain ⟨h1,h2,h3⟩:=h.first (P:=P) w rfl
 obtain ⟨h4,_,_⟩:=h.first (P:=P) w.drew rfl
 refine ⟨.inl ⟨e',hk⟩,fun w'=>?_,h1,h4,h2,h3⟩
 obtain ⟨ba,cap,rfl,_⟩:=h
 rfl
theorem slSrc_ok {s m:Nat} {v:SV} {q:Prop} {g:Nat→List SC} (h:slSrc S s v=some (q,m,g)) (hq:q) (hs:Sat B W w0 E S a w):RdAt E w (v.den E) s m g:=by
 unfold slSrc at h
 split at h
 ·simp only [Option.some.injEq,Prod.mk.injEq] at h
  obtain ⟨_,rfl,rfl⟩:=h
  exact ⟨none,0,by rw [den_c,den_v],Or.inl rfl⟩
 ·next x s' o n c =>
  split at h
  ·next p m' s'' at_ ty hlook =>
   simp only [Option.some.injEq,Prod.mk.injEq] at h
   obtain ⟨rfl,rfl,rfl⟩:=h
   obtain ⟨hp,rfl,rfl,hon⟩:=hq
   obtain ⟨H,hH,_⟩:=hs.mem
   have hat:=pkN_at hlook hp
   refine ⟨_,_,by rw [den_c,den_sl],?_⟩
   rcases Nat.eq_zero_or_pos n with h0 | h0
   ·exact Or.inl h0
   ·right
    obtain ⟨hν,_,_⟩:=ar_cell hH hat (show o<m' by omega)
    refine ⟨E.ρ x,o * s'',by rw [hν];rfl,fun e he=>?_⟩
    obtain ⟨_,h1,h2⟩:=ar_cell hH hat (show o+e<m' by omega)
    refine ⟨h1,fun j u hu=>?_⟩
    rw [← Nat.add_mul]
    exact h2 j u hu
  ·cases h
 ·next x =>
  split at h
  ·next p A hlook =>
   simp only [Option.some.injEq,Prod.mk.injEq] at h
   obtain ⟨rfl,rfl,rfl⟩:=h
   obtain ⟨hp,rfl⟩:=hq
   obtain ⟨ba,cap,hχ,hl,hm,hcell⟩:=hs.arr (pkN_at hlook hp)
   rw [den_c,den_xv]
   exact ⟨ba,cap,hχ,hcell.imp id fun ⟨b,off,h1,_,h2⟩=>⟨b,off,h1,h2⟩⟩
  ·cases h
 ·next x s' o n c =>
  split at h
  ·next p A hlook =>
   simp only [Option.some.injEq,Prod.mk.injEq] at h
   obtain ⟨rfl,rfl,rfl⟩:=h
   obtain ⟨hp,rfl,hsz,hon⟩:=hq
   obtain ⟨ba,cap,hχ,hl,hm,hcell⟩:=hs.arr (pkN_at hlook hp)
   rw [den_c]
   simp only [SC.den,hχ]
   rcases Nat.eq_zero_or_pos n with h0 | h0
   ·cases ba with
    | none=>exact ⟨_,_,rfl,Or.inl h0⟩
    | some b=>exact ⟨_,_,rfl,Or.inl h0⟩
   ·rcases hcell with h1 | ⟨b,off,rfl,_,hcell⟩
    ·omega
    refine ⟨_,_,rfl,Or.inr ⟨b,off+o * s',by rw [addr_add0],fun e he=>?_⟩⟩
    obtain ⟨h1,h2⟩:=hcell (o+e) (by omega)
    refine ⟨h1.trans hsz,fun j u hu=>?_⟩
    have:=h2 j u hu
    rw [hsz,Nat.add_mul] at this
    rw [show off+o * s' + e * s' + j=off+(o * s' + e * s')+j by omega]
    exact this
  ·cases h
 ·cases h
theorem cellsOf_congr {f g:Nat→List SC}:∀ {n:Nat},(∀ e,e<n→f e=g e)→cellsOf E n f=cellsOf E n g
 | 0,_=>by simp [cellsOf]
 | n+1,h=>by rw [cellsOf_succ,cellsOf_succ,cellsOf_congr (fun e he=>h e (by omega)),h n (by omega)]
theorem appAt_len {s n m:Nat} {f g:Nat→List SC} (hf:∀ e,e<n→(f e).length=s) (hg:∀ e,e<m→(g e).length=s):∀ e,e<n+m→(appAt n f g e).length=s:=by
 intro e he
 unfold appAt
 split
 ·next h=>exact hf e h
 ·exact hg _ (by omega)
theorem cellsOf_app {n m:Nat} {f g:Nat→List SC}:cellsOf E (n+m) (appAt n f g)=cellsOf E n f++cellsOf E m g:=by
 induction m with
 | zero =>
  rw [Nat.add_zero,show cellsOf E 0 g=[] by simp [cellsOf],List.append_nil]
  exact cellsOf_congr fun e he=>by simp [appAt,he]
 | succ m ih =>
  rw [← Nat.add_assoc,cellsOf_succ,ih,cellsOf_succ,List.append_assoc]
  have:appAt n f g (n+m)=g m:=by
   unfold appAt
   rw [if_neg (by omega)]
   congr 1
   omega
  rw [this]
theorem RdAt.one {v:Value} {s m:Nat} {g:Nat→List SC} (h:RdAt E w v s m g):∀ e,e<m→∀ (j:Nat) (u:SC),(g e)[j]? = some u→(u.den E).oneCell' = true:=by
 obtain ⟨_,_,_,h | ⟨_,_,_,h⟩⟩:=h
 ·intro e he;omega
 ·exact fun e he j u hu=>((h e he).2 j u hu).2
def ArCells (E:Env) (n s:Nat) (at_:Nat→List SC) (cells:Array Value):Prop:=∀ e,e<n→(at_ e).length=s∧∀ j u,(at_ e)[j]? = some u→cells[e * s+j]? = some (u.den E)∧(u.den E).oneCell' = true
theorem arCells_of {s n:Nat} {f:Nat→List SC} {cells:Array Value} (hl:∀ e,e<n→(f e).length=s) (h1:∀ e,e<n→∀ (j:Nat) (u:SC),(f e)[j]? = some u→(u.den E).oneCell' = true) (hc:∀ (i:Nat) (u:Value),(cellsOf E n f)[i]? = some u→cells[i]? = some u):ArCells E n s f cells:=by
 intro e he
 refine ⟨hl e he,fun j u hu=>⟨?_,h1 e he j u hu⟩⟩
 have hj:j<s:=by rw [← hl e he];exact (List.getElem?_eq_some_iff.1 hu).1
 refine hc _ _ ?_
 rw [cellsOf_get hl e j he hj,hu]
 rfl
theorem app_grow {t u ty e:TypeId} {i:TypeInfo} {z:Value} (ht:P.underlying t=some (.slice e)) {e' : TypeId} (hu:P.underlying u=some (.slice e')) (hi:P.info? e=some i) (hz:i.zero=some z)
  {ba:Option Addr} {n cap m:Nat} {xv:Value} {f g:Nat→List SC} (hs:RdAt E w (.slice ba n cap) i.size n f) (hx:RdAt E w xv i.size m g) (hg:cap<n+m) (hb:(n+m+(n+m) / 4+192) * i.bytes≤281474976710656∨(cap=0∧(n+m) * i.bytes≤281474976710656)) (hm:n+m≤maxLen) :
  ∃ cells,(Builtin.append_ #[t,u] ty #[.slice ba n cap,xv]).run P w = .ok (.slice (some ⟨w.heap.size,0,none⟩) (n+m) (grownCap w (n+m) cap e)) (w.drew.alloc (.cells cells e)) ∧
   (z.cells.size=i.size→cells.size=grownCap w (n+m) cap e * i.size)∧ArCells E (n+m) i.size (appAt n f g) cells:=by
 have hfit:Builtin.nextslicecap (n+m) cap * i.bytes≤281474976710656:=by
  rcases hb with hb | ⟨rfl,hb⟩
  ·exact growslice_fits_wide hg hb
  ·rw [nextslicecap_zero hg];exact hb
 have h63:((n+m:Nat):Int)≤9223372036854775807:=by unfold maxLen at hm;omega
 obtain ⟨ho,hlo,_⟩:=hs.first (P:=P) w.drew rfl
 have hr:=run_append_grow_src (P:=P) w t u ty e i z ht hi hz ba n cap (cellsOf E n f) ho xv m (cellsOf E m g) (hx.src hu) hg h63 hfit
 refine ⟨_,hr,fun hzs=>?_,?_⟩
 ·have hge:=grownCap_ge w (n+m) cap e
  simp only [Array.size_append,List.size_toArray,List.length_append,size_zeroCells,hzs,cellsOf_len hs.lens,cellsOf_len hx.lens,← Nat.add_mul]
  congr 1
  omega
 ·refine arCells_of (appAt_len hs.lens hx.lens) (fun k hk j c hc=>?_) (fun k c hc=>?_)
  ·unfold appAt at hc
   split at hc
   ·next h=>exact hs.one k h j c hc
   ·exact hx.one _ (by omega) j c hc
  ·rw [cellsOf_app] at hc
   have hlt:=(List.getElem?_eq_some_iff.1 hc).1
   rw [Array.getElem?_append_left (by simpa using hlt)]
   simpa using hc
theorem app_room {t u ty e:TypeId} {i:TypeInfo} (ht:P.underlying t=some (.slice e)) {e' : TypeId} (hu:P.underlying u=some (.slice e')) (hi:P.info? e=some i)
  {b n cap m tb:Nat} {xv:Value} {g:Nat→List SC} {cells:Array Value} (hb:w.heap[b]? = some (.cells cells tb (0,0))) (hcap:cells.size=cap * i.size) (hx:RdAt E w xv i.size m g) (hroom:n+m≤cap) :
  (Builtin.append_ #[t,u] ty #[.slice (some ⟨b,0,none⟩) n cap,xv]).run P w = .ok (.slice (some ⟨b,0,none⟩) (n+m) cap) (w.setRow b (cells.toList.take (n * i.size)++cellsOf E m g++cells.toList.drop (n * i.size+(cellsOf E m g).length)).toArray):=by
 obtain ⟨_,hl,h1⟩:=hx.first (P:=P) w rfl
 have hsrc:=hx.src (P:=P) hu
 have hle:(n+m) * i.size≤cap * i.size:=Nat.mul_le_mul_right _ hroom
 rw [Nat.add_mul] at hle
 have hst:=run_storeCells_at P b (n * i.size) tb (cellsOf E m g) 0 cells w hb (by rw [hl];omega) h1
 simp only [Nat.add_zero] at hst
 rcases hsrc.kind with ⟨e'',hk⟩ | hk
 ·simp [Builtin.append_,run_underlying ht,run_underlying hk,sizeOf,typeInfo,hi,hsrc.len,hroom,hsrc.cells,Addr.add_lit,hst]
 ·rw [hu] at hk;cases hk
end
end Go.Proofs.Ytcloeignccpljaa.Z
namespace Go.Proofs.Ytcloeignccpljaa.Z
open Go Go.RowKit
section
variable {P:Program} {T:TT} {B:Nat} {W:Nat→Prop} {w0:World} {E:Env} {S:St} {a:Act} {w:World}
theorem emp_some {n:Nat} {o:Obj} (h:emp n=some o):False:=by cases h
theorem fits_emp {b:Blk} {i:Nat} (hb:b.den E (i,0,0) emp):Fits B W E S w w [(i,.one b)] []:=by
 refine ⟨fun H hH=>?_,fun _ _ x A h=>by simp [atN,look] at h⟩
 have hat:∀ x c,atN [(i,Fm.one b)] x=some c→x=(i,0,0)∧c=b:=by
  rintro ⟨j,k,l⟩ c h
  simp only [atN,look] at h
  by_cases e:i=j
  ·subst e
   simp only [if_true,Fm.get] at h
   split at h
   ·next e =>
    obtain ⟨rfl,rfl⟩:=e
    cases h
    exact ⟨rfl,rfl⟩
   ·cases h
  ·rw [if_neg e] at h
   cases h
 refine ⟨rfl,rfl,rfl,Nat.le_refl _,fun _ _ _=>rfl,fun _=>emp,fun x c h=>?_,fun x y c d hx hy hne n=>Or.inl rfl,fun x c hx n o hn=>(emp_some hn).elim⟩
 obtain ⟨rfl,rfl⟩:=hat x c h
 exact hb
theorem fits_move {b b' : Blk} {y:Nm} {p:Prop} {i:Nat} {h' : PH} {w1:World} (hy:pkN S.own y=some (p,b)) (hp:p) (hb:b'.den E (i,0,0) h') (h0:w1.os=w.os∧w1.tape=w.tape∧w1.output=w.output)
  (hsz:w.heap.size≤w1.heap.size) (hk:∀ H,HeapOk B W E S.own H w→∀ n,n<w.heap.size→H y n=none→w1.heap[n]? = w.heap[n]?)
  (hs:∀ H,HeapOk B W E S.own H w→∀ n o,h' n=some o→w1.heap[n]? = some o∧(w.heap.size≤n∨H y n≠none)):Fits B W E S w w1 ((i,.one b') :: setN S.own y .no) []:=by
 refine ⟨fun H hH=>?_,fun _ _ x A h=>by simp [atN,look] at h⟩
 have hat:=pkN_at hy hp
 have hkey:∀ j,(look ((i,Fm.one b') :: setN S.own y .no) j).isSome=true↔(j=i∨j=y.1):=by
  intro j
  rw [look_cons]
  split
  ·next e=>subst e;simp
  ·next e=>rw [setN_look hy];simp [Ne.symm e]
 have hget:∀ x c,atN ((i,Fm.one b') :: setN S.own y .no) x=some c→(x=(i,0,0)∧c=b')∨(x.1≠i∧x.1=y.1∧((x=y∧c = .no)∨(x≠y∧atN S.own x=some c))):=by
  intro x c h
  unfold atN at h
  rw [look_cons] at h
  by_cases e:i=x.1
  ·rw [if_pos e] at h
   left
   obtain ⟨j,k,l⟩:=x
   simp only [Fm.get] at h e
   split at h
   ·next e2 =>
    obtain ⟨rfl,rfl⟩:=e2
    cases h
    subst e
    exact ⟨rfl,rfl⟩
   ·cases h
  ·rw [if_neg e] at h
   right
   have h2:atN (setN S.own y .no) x=some c:=h
   rw [atN_setN hy hp] at h2
   split at h2
   ·next e1 =>
    refine ⟨Ne.symm e,e1,?_⟩
    split at h2
    ·next e2=>cases h2;exact Or.inl ⟨e2,rfl⟩
    ·next e2=>exact Or.inr ⟨e2,h2⟩
   ·cases h2
 -- an own block that is not y's lies in w1 as it did
 have hother:∀ x c,x≠y→atN S.own x=some c→∀ n o,H x n=some o→w1.heap[n]? = some o∧H y n=none∧n<w.heap.size:=by
  intro x c hne hx n o hn
  have h1:=(hH.sub x c hx n o hn).1
  have hlt:=hH.lt hx hn
  have hyn:H y n=none:=by
   rcases hH.disj y x b c hat hx (Ne.symm hne) n with h | h
   ·exact h
   ·rw [h] at hn;cases hn
  exact ⟨by rw [hk H hH n hlt hyn];exact h1,hyn,hlt⟩
 refine ⟨h0.1,h0.2.1,h0.2.2,hsz,fun n hn h=>hk H hH n hn (h y b ((hkey _).2 (Or.inr rfl)) hat),fun x=>if x.1=i then h' else if x=y then emp else H x,?_,?_,?_⟩
 ·intro x c hc
  rcases hget x c hc with ⟨rfl,rfl⟩ | ⟨e1,e2,⟨rfl,rfl⟩ | ⟨e3,h⟩⟩
  ·simpa using hb
  ·simp only [e1,if_false,if_true,Blk.den]
  ·simp only [e1,e3,if_false]
   exact hH.den x c h
 ·intro x z c d hc hd hne n
  have key:∀ z d,z≠y→atN S.own z=some d→h' n=none∨H z n=none:=by
   intro z d hz hd
   cases e1:h' n with
   | none=>exact Or.inl rfl
   | some o =>
    right
    cases e2:H z n with
    | none=>rfl
    | some o' =>
     obtain ⟨_,h3,h4⟩:=hother z d hz hd n o' e2
     rcases (hs H hH n o e1).2 with h5 | h5
     ·omega
     ·exact absurd h3 h5
  rcases hget x c hc with ⟨rfl,rfl⟩ | ⟨e1,e2,⟨rfl,rfl⟩ | ⟨e3,h⟩⟩
  ·rcases hget z d hd with ⟨rfl,rfl⟩ | ⟨f1,f2,⟨rfl,rfl⟩ | ⟨f3,h2⟩⟩
   ·exact absurd rfl hne
   ·right;simp only [f1,if_false,if_true];rfl
   ·simp only [f1,f3,if_true,if_false]
    exact key z d f3 h2
  ·left;simp only [e1,if_false,if_true];rfl
  ·rcases hget z d hd with ⟨rfl,rfl⟩ | ⟨f1,f2,⟨rfl,rfl⟩ | ⟨f3,h2⟩⟩
   ·simp only [e1,e3,if_true,if_false]
    exact (key x c e3 h).symm
   ·right;simp only [f1,if_false,if_true];rfl
   ·simp only [e1,e3,f1,f3,if_false]
    exact hH.disj x z c d h h2 hne n
 ·intro x c hc n o hn
  rcases hget x c hc with ⟨rfl,rfl⟩ | ⟨e1,e2,⟨rfl,rfl⟩ | ⟨e3,h⟩⟩
  ·simp only [if_true] at hn
   obtain ⟨g1,g2⟩:=hs H hH n o hn
   exact ⟨g1,g2.imp id fun h=>⟨y,b,(hkey _).2 (Or.inr rfl),hat,h⟩⟩
  ·simp only [e1,if_false,if_true] at hn
   exact (emp_some hn).elim
  ·simp only [e1,e3,if_false] at hn
   obtain ⟨g1,g2,g3⟩:=hother x c e3 h n o hn
   exact ⟨g1,Or.inr ⟨x,c,(hkey _).2 (Or.inr e2),h,by rw [hn];simp⟩⟩
def one1 (b k:Nat) (nil:Bool):Env:=⟨fun _=>b,fun _=>k,fun _=>nil,fun _=>.bool true⟩
theorem one1_one (b k:Nat) (nil:Bool):OneC (one1 b k nil):=fun _=>rfl
theorem one1_at {b k:Nat} {nil:Bool} {i:Nat} (h:AgreeD (NewIds i 1) (one1 b k nil) E):E.ρ (i,0,0)=b∧E.κ (i,0,0)=k∧E.ν (i,0,0)=nil:=by
 have:=h (i,0,0) ⟨Nat.le_refl _,by simp⟩
 exact ⟨this.1,this.2.1,this.2.2.1⟩
theorem ar_den {i n s ty:Nat} {at_:Nat→List SC} {cells:Array Value} {b k:Nat} (hE:E.ρ (i,0,0)=b∧E.κ (i,0,0)=k∧E.ν (i,0,0)=false) (hn:n≤k) (hp:0<k) (hk:k≤maxLen) (hsz:cells.size=k * s) (hc:ArCells E n s at_ cells) :
  Blk.den E (i,0,0) (.ar n s at_ ty) (sing b (.cells cells ty (0,0))):=by
 obtain ⟨h1,h2,h3⟩:=hE
 simp only [Blk.den]
 exact Or.inr ⟨h3,by omega,by omega,cells,by rw [h1],by rw [h2];exact hsz,hc⟩
theorem fits_allocA {i n s ty:Nat} {at_:Nat→List SC} {cells:Array Value} {k:Nat} (hE:E.ρ (i,0,0)=w.heap.size∧E.κ (i,0,0)=k∧E.ν (i,0,0)=false) (hn:n≤k) (hk:k≤maxLen) (hsz:cells.size=k * s) (hc:ArCells E n s at_ cells)
  (w1:World) (hw:w1=w.alloc (.cells cells ty (0,0))∨w1=w.drew.alloc (.cells cells ty (0,0))):Fits B W E S w w1 [(i,.one (.ar n s at_ ty))] []:=by
 rcases Nat.eq_zero_or_pos k with h0 | h0
 ·have hf:Fits B W E S w w [(i,.one (.ar n s at_ ty))] []:=fits_emp (by simp only [Blk.den];exact Or.inl ⟨trivial,by omega,by omega,by trivial⟩)
  refine ⟨fun H hH=>?_,hf.2⟩
  obtain ⟨g1,g2,g3,g4,g5,H',g6,g7,g8⟩:=hf.1 H hH
  have e1:w1.heap=w.heap.push (.cells cells ty (0,0)):=by rcases hw with rfl | rfl <;> rfl
  refine ⟨by rcases hw with rfl | rfl <;> rfl,by rcases hw with rfl | rfl <;> rfl,by rcases hw with rfl | rfl <;> rfl,by rw [e1];simp,fun n hn _=>?_,H',g6,g7,fun x b hb n o hn=>?_⟩
  ·rw [e1,Array.getElem?_push]
   rw [if_neg (by omega)]
  ·obtain ⟨q1,q2⟩:=g8 x b hb n o hn
   refine ⟨?_,q2⟩
   rw [e1,Array.getElem?_push,if_neg (by have:=(Array.getElem?_eq_some_iff.1 q1).1;omega)]
   exact q1
 ·exact fits_alloc (ar_den hE hn h0 hk hsz hc) w1 hw
theorem sl_parts {x:Nm} {s n:Nat} {E E2:Env} (h:(SC.sl x s 0 n none).den E=(SC.sl x s 0 n none).den E2):E2.κ x=E.κ x∧E2.ν x=E.ν x∧(E.ν x=false→E2.ρ x=E.ρ x):=by
 rw [den_sl,den_sl] at h
 simp only [Value.slice.injEq,true_and,Option.getD_none,Nat.sub_zero] at h
 obtain ⟨h1,h2⟩:=h
 cases e1:E.ν x <;> cases e2:E2.ν x <;> rw [e1,e2] at h1 <;> simp at h1
 ·exact ⟨h2.symm,rfl,fun _=>h1.symm⟩
 ·exact ⟨h2.symm,rfl,fun h=>by cases h⟩
theorem own_rd {own:Own} {H:Nm→PH} (hH:HeapOk B W E own H w) {x:Nm} {k s ty n o:Nat} {f:Nat→List SC} {c:Nat} (h:atN own x=some (.ar k s f ty)) (hon:o+n≤k):RdAt E w (.slice (if E.ν x=true then none else some ⟨E.ρ x,o * s,none⟩) n c) s n (fun e=>f (o+e)):=by
 refine ⟨_,_,rfl,?_⟩
 rcases Nat.eq_zero_or_pos n with h0 | h0
 ·exact Or.inl h0
 ·right
  obtain ⟨hν,_,_⟩:=ar_cell hH h (show o<k by omega)
  refine ⟨E.ρ x,o * s,by rw [hν];rfl,fun e he=>?_⟩
  obtain ⟨_,h1,h2⟩:=ar_cell hH h (show o+e<k by omega)
  refine ⟨h1,fun j u hu=>?_⟩
  rw [← Nat.add_mul]
  exact h2 j u hu
def Grown (P:Program) (E:Env) (w:World) (t u ty e:TypeId) (zs size:Nat) (sv xv:Value) (n m cap:Nat) (f g:Nat→List SC):Prop :=
 ∃ cells,(Builtin.append_ #[t,u] ty #[sv,xv]).run P w = .ok (.slice (some ⟨w.heap.size,0,none⟩) (n+m) (grownCap w (n+m) cap e)) (w.drew.alloc (.cells cells e)) ∧
   (zs=size→cells.size=grownCap w (n+m) cap e * size)∧ArCells E (n+m) size (appAt n f g) cells
theorem app_ok {t u ty e e' : Nat} {s x:Operand} {is ix:IX} {ti tu te:TI} (hT:TOk P T) (ht:look T t=some ti) (htd:ti.desc = .slice e) (hu:look T u=some tu) (hud:tu.desc = .slice e') (he:look T e=some te)
  (hs1:opd s=some is) (hx1:opd x=some ix) {vc:Prop} {out:Out} (h:(stepOut (.app e te.size te.bytes (scs te.zero.cells) is ix) S).Sel vc out) (hvc:vc) (hs:Sat B W w0 E S a w) :
  ∃ v w',RunsTo ((do pure (Next.value (← Builtin.append_ #[t,u] ty #[a.eval s,a.eval x])):Sem Next).run P w) v w'∧After B W w0 E [] S a w out.val out.cnt out.eff out.arrs v w':=by
 obtain ⟨hut,_⟩:=ti_parts hT ht
 obtain ⟨huu,_⟩:=ti_parts hT hu
 obtain ⟨_,i,hi,hz,hsz,hby⟩:=ti_parts hT he
 rw [htd] at hut
 rw [hud] at huu
 have hzl:∀ {n:Nat},len' (scs te.zero.cells)=n→te.zero.cells.size=n:=by
  intro n h;rw [len'_eq] at h;simpa [scs] using h
 simp only [stepOut] at h
 split at h
 ·next xv hxv =>
  split at h
  ·next q m g hsrc =>
   split at h
   ·next hsv =>
    -- onto nil
    obtain ⟨rfl,rfl⟩:=h
    obtain ⟨hq,hzc,hpos,hb,hm⟩:=hvc
    have hzc:=hzl hzc
    have rd:∀ E,Sat B W w0 E S a w→RdAt E w (a.eval x) i.size m g:=fun E hs=>by rw [opd_den hs hx1 hxv,hsz];exact slSrc_ok hsrc hq hs
    have hes:a.eval s = .slice none 0 0:=by rw [opd_den hs hs1 hsv,den_c,den_v]
    rw [hes]
    rcases Nat.eq_zero_or_pos m with h0 | h0
    ·subst h0
     have hrun:∀ E,Sat B W w0 E S a w→(Builtin.append_ #[t,u] ty #[.slice none 0 0,a.eval x]).run P w = .ok (.slice none 0 0) w:=by
      intro E hs
      have hsrc:=(rd E hs).src (P:=P) huu
      simp [Builtin.append_,run_underlying hut,run_underlying huu,sizeOf,typeInfo,hi,hsrc.len,hsrc.cells]
     refine det_after (one1 0 0 true) (one1_one _ _ _) ⟨_,_,Or.inl (run_val (hrun E hs))⟩ fun E2 hs2 hag=>⟨w,Or.inl ?_,?_⟩
     ·obtain ⟨_,h2,h3⟩:=one1_at hag
      rw [run_val (hrun E2 hs2),den_c,den_sl,h2,h3];rfl
     ·obtain ⟨_,h2,h3⟩:=one1_at hag
      exact fits_emp (by simp only [Blk.den];exact Or.inl ⟨trivial,h2,by trivial,by trivial⟩)
    ·have hgrow:=fun E hs=>app_grow (E:=E) (w:=w) (ty:=ty) hut huu hi hz (ba:=none) (n:=0) (cap:=0) (f:=fun _=>[]) ⟨none,0,rfl,Or.inl rfl⟩ (rd E hs) (by omega) (Or.inr ⟨rfl,by rw [hby,Nat.zero_add];exact hb⟩) (by omega)
     obtain ⟨cells,hr,_⟩:=hgrow E hs
     have hge:=grownCap_ge w (0+m) 0 e
     have hcm:=grownCap_le_maxLen w (0+m) 0 e (by omega)
     refine det_after (one1 w.heap.size (grownCap w (0+m) 0 e) false) (one1_one _ _ _) ⟨_,_,Or.inl (run_val hr)⟩ fun E2 hs2 hag=>?_
     obtain ⟨cells2,hr2,hc2,hat2⟩:=hgrow E2 hs2
     have hE:=one1_at hag
     refine ⟨w.drew.alloc (.cells cells2 e),Or.inl ?_,fits_allocA (cells:=cells2) hE (n:=m) (by omega) hcm ?_ ?_ _ (Or.inr rfl)⟩
     ·rw [run_val hr2,den_c,den_sl,hE.1,hE.2.1,hE.2.2];simp
     ·rw [← hsz];exact hc2 (by rw [hzc,hsz])
     ·rw [← hsz]
      intro k hk
      have:=hat2 k (by omega)
      have e0:appAt 0 (fun _=>[]) g k=g k:=by simp [appAt]
      rw [e0] at this
      exact this
   ·next y s' n hsv =>
    split at h
    ·next p k s'' f t' hlook =>
     -- onto a slice of the state's own
     obtain ⟨rfl,rfl⟩:=h
     obtain ⟨hp,hq,rfl,rfl,rfl,hzc,hpos,hnk,hb,hm⟩:=hvc
     have hzc:=hzl hzc
     rw [← hsz] at hlook hpos
     have rd:∀ E,Sat B W w0 E S a w→RdAt E w (a.eval x) i.size m g:=fun E hs=>by rw [opd_den hs hx1 hxv,hsz];exact slSrc_ok hsrc hq hs
     have hes:∀ E,Sat B W w0 E S a w→a.eval s = .slice (if E.ν y=true then none else some ⟨E.ρ y,0,none⟩) n (E.κ y):=fun E hs=>by
      rw [opd_den hs hs1 hsv,den_c,den_sl];simp
     have same:∀ E2,Sat B W w0 E2 S a w→E2.κ y=E.κ y∧E2.ν y=E.ν y∧(E.ν y=false→E2.ρ y=E.ρ y):=fun E2 hs2 =>
      sl_parts ((opd_den hs hs1 hsv).symm.trans (opd_den hs2 hs1 hsv))
     have hmem:∀ E,Sat B W w0 E S a w→∃ H,HeapOk B W E S.own H w:=fun E hs=>let ⟨H,hH,_⟩:=hs.mem;⟨H,hH⟩
     by_cases hroom:n+m≤E.κ y
     ·by_cases hz:E.κ y=0
      ·-- no room,and nothing comes
       have hn0:n=0:=by omega
       have hm0:m=0:=by omega
       subst hn0 hm0
       have hrun:∀ E2,Sat B W w0 E2 S a w→(Builtin.append_ #[t,u] ty #[a.eval s,a.eval x]).run P w = .ok (.slice (if E.ν y=true then none else some ⟨E.ρ y,0,none⟩) 0 0) w:=by
        intro E2 hs2
        have hsrc:=(rd E2 hs2).src (P:=P) huu
        obtain ⟨f1,f2,f3⟩:=same E2 hs2
        have ev:(if E2.ν y=true then none else some ⟨E2.ρ y,0,none⟩:Option Addr)=if E.ν y=true then none else some ⟨E.ρ y,0,none⟩:=by
         rw [f2]
         cases hv:E.ν y with
         | true=>rfl
         | false=>rw [f3 hv]
        rw [hes E2 hs2,f1,hz,ev]
        have hc0:cellsOf E2 0 g=[]:=by simp [cellsOf]
        cases hv:E.ν y <;> simp [Builtin.append_,run_underlying hut,run_underlying huu,sizeOf,typeInfo,hi,hsrc.len,hsrc.cells,hc0,storeCells]
       refine det_after (one1 (E.ρ y) 0 (E.ν y)) (one1_one _ _ _) ⟨_,_,Or.inl (run_val (hrun E hs))⟩ fun E2 hs2 hag=>⟨w,Or.inl ?_,?_⟩
       ·obtain ⟨h1,h2,h3⟩:=one1_at hag
        rw [run_val (hrun E2 hs2),den_c,den_sl,h1,h2,h3];simp
       ·obtain ⟨_,h2,h3⟩:=one1_at hag
        exact fits_move hlook hp (h':=emp) (by simp only [Blk.den];exact Or.inl ⟨trivial,h2,by trivial,by trivial⟩) ⟨rfl,rfl,rfl⟩ (Nat.le_refl _) (fun _ _ _ _ _=>rfl) (fun _ _ n o hn=>(emp_some hn).elim)
      ·have hν:E.ν y=false:=by
        obtain ⟨H,hH⟩:=hmem E hs
        rcases ar_heap hH (pkN_at hlook hp) with ⟨_,h2,_⟩ | ⟨h2,_⟩
        ·exact absurd h2 hz
        ·exact h2
       have hbl:∀ E2,Sat B W w0 E2 S a w→k≤E2.κ y∧E2.κ y≤maxLen∧∃ cells,w.heap[E2.ρ y]? = some (.cells cells t' (0,0))∧cells.size=E2.κ y * i.size∧ArCells E2 k i.size f cells∧∀ H,HeapOk B W E2 S.own H w→H y=sing (E2.ρ y) (.cells cells t' (0,0)):=by
        intro E2 hs2
        obtain ⟨H,hH⟩:=hmem E2 hs2
        rcases ar_heap hH (pkN_at hlook hp) with ⟨_,h2,_⟩ | ⟨h2,h3,h4,cells,h5,h6,h7,h8⟩
        ·rw [(same E2 hs2).1] at h2;exact absurd h2 hz
        ·refine ⟨h3.1,h4,cells,h6,h7,h8,fun H' hH'=>?_⟩
         rcases ar_heap hH' (pkN_at hlook hp) with ⟨_,g2,_⟩ | ⟨_,_,_,cells',g5,g6,_,_⟩
         ·omega
         ·rw [h6] at g6
          cases g6
          exact g5
       have hrun:∀ E2 (hs2:Sat B W w0 E2 S a w) cells,w.heap[E2.ρ y]? = some (.cells cells t' (0,0))→cells.size=E2.κ y * i.size →
         (Builtin.append_ #[t,u] ty #[a.eval s,a.eval x]).run P w = .ok (.slice (some ⟨E2.ρ y,0,none⟩) (n+m) (E2.κ y)) (w.setRow (E2.ρ y) (cells.toList.take (n * i.size)++cellsOf E2 m g++cells.toList.drop (n * i.size+(cellsOf E2 m g).length)).toArray):=by
        intro E2 hs2 cells h1 h2
        rw [hes E2 hs2,(same E2 hs2).2.1,hν]
        exact app_room hut huu hi h1 h2 (rd E2 hs2) (by rw [(same E2 hs2).1];exact hroom)
       obtain ⟨_,_,cells,h1,h2,_,_⟩:=hbl E hs
       refine det_after (one1 (E.ρ y) (E.κ y) false) (one1_one _ _ _) ⟨_,_,Or.inl (run_val (hrun E hs cells h1 h2))⟩ fun E2 hs2 hag=>?_
       obtain ⟨hk2,hm2,cells2,g1,g2,g3,g4⟩:=hbl E2 hs2
       have hE:=one1_at hag
       have hsame:=same E2 hs2
       have eρ:=hsame.2.2 hν
       have hlen:(cellsOf E2 m g).length=m * i.size:=cellsOf_len (rd E2 hs2).lens
       have hle:(n+m) * i.size≤E2.κ y * i.size:=Nat.mul_le_mul_right _ (by rw [hsame.1];exact hroom)
       rw [Nat.add_mul] at hle
       refine ⟨w.setRow (E2.ρ y) (cells2.toList.take (n * i.size)++cellsOf E2 m g++cells2.toList.drop (n * i.size+(cellsOf E2 m g).length)).toArray,Or.inl ?_,fits_move hlook hp (h':=sing (E2.ρ y) (.cells (cells2.toList.take (n * i.size)++cellsOf E2 m g++cells2.toList.drop (n * i.size+(cellsOf E2 m g).length)).toArray t' (0,0))) ?_ ⟨rfl,rfl,rfl⟩ ?_ ?_ ?_⟩
       ·rw [run_val (hrun E2 hs2 cells2 g1 g2),den_c,den_sl,hE.1,hE.2.1,hE.2.2,eρ,hsame.1];simp
       ·rw [← hsz]
        refine ar_den (by rw [eρ];exact hE) (by omega) (by omega) (by rw [← hsame.1];exact hm2) ?_ ?_
        ·simp only [List.size_toArray,List.length_append,List.length_take,List.length_drop,Array.length_toList,hlen]
         rw [hsame.1] at g2 hle
         omega
        ·have hfl:∀ e,e<n→(f e).length=i.size:=fun e he=>(g3 e (by omega)).1
         have hcl:=cellsOf_len (E:=E2) hfl
         refine arCells_of (appAt_len hfl (rd E2 hs2).lens) (fun r hr j c hc=>?_) (fun r c hc=>?_)
         ·unfold appAt at hc
          split at hc
          ·next h=>exact ((g3 r (by omega)).2 j c hc).2
          ·exact (rd E2 hs2).one _ (by omega) j c hc
         ·rw [cellsOf_app] at hc
          have hlt:=(List.getElem?_eq_some_iff.1 hc).1
          rw [List.length_append,hcl,hlen] at hlt
          simp only [List.getElem?_toArray]
          rw [List.getElem?_append_left (by simp only [List.length_append,List.length_take,Array.length_toList,hlen];omega)]
          by_cases hr:r<n * i.size
          ·rw [List.getElem?_append_left (by rw [hcl];exact hr)] at hc
           obtain ⟨e1,j,c1,he1,hj,rfl,hc1,rfl⟩:=cellsOf_inv hfl hc
           rw [List.getElem?_append_left (by simp only [List.length_take,Array.length_toList];omega),List.getElem?_take,if_pos hr,Array.getElem?_toList]
           exact ((g3 e1 (by omega)).2 j c1 hc1).1
          ·rw [List.getElem?_append_right (by rw [hcl];omega),hcl] at hc
           rw [List.getElem?_append_right (by simp only [List.length_take,Array.length_toList];omega)]
           simp only [List.length_take,Array.length_toList]
           rw [Nat.min_eq_left (by omega)]
           exact hc
       ·show w.heap.size≤(w.setRow _ _).heap.size
        simp [World.setRow]
       ·intro H hH r hr hHr
        have e1:=g4 H hH
        refine setRow_other _ _ _ _ fun e2=>?_
        rw [e1,e2] at hHr
        simp [sing] at hHr
       ·intro H hH r o hr
        obtain ⟨rfl,rfl⟩:=sing_some hr
        refine ⟨setRow_heap w _ _ _ _ _ g1,Or.inr ?_⟩
        rw [g4 H hH]
        simp [sing]
     ·-- there is no room
      have hgrow:∀ E2,Sat B W w0 E2 S a w→Grown P E2 w t u ty t' te.zero.cells.size i.size (a.eval s) (a.eval x) n m (E2.κ y) f g:=fun E2 hs2=>by
       obtain ⟨H,hH⟩:=hmem E2 hs2
       rw [hes E2 hs2]
       have hr:=own_rd hH (c:=E2.κ y) (pkN_at hlook hp) (show 0+n≤k by omega)
       simp only [Nat.zero_add,Nat.zero_mul] at hr
       exact app_grow (E:=E2) (w:=w) (ty:=ty) (u:=u) hut huu hi hz hr (rd E2 hs2) (by rw [(same E2 hs2).1];omega) (Or.inl (by rw [hby];exact hb)) hm
      obtain ⟨cells,hr,_⟩:=hgrow E hs
      have hge:=grownCap_ge w (n+m) (E.κ y) t'
      have hcm:=grownCap_le_maxLen w (n+m) (E.κ y) t' (by omega)
      refine det_after (one1 w.heap.size (grownCap w (n+m) (E.κ y) t') false) (one1_one _ _ _) ⟨_,_,Or.inl (run_val hr)⟩ fun E2 hs2 hag=>?_
      obtain ⟨cells2,hr2,hc2,hat2⟩:=hgrow E2 hs2
      have hE:=one1_at hag
      rw [(same E2 hs2).1] at hr2 hc2
      refine ⟨w.drew.alloc (.cells cells2 t'),Or.inl ?_,fits_move hlook hp (h':=sing w.heap.size (.cells cells2 t' (0,0))) (ar_den hE (by omega) (by omega) hcm ?_ ?_) ⟨rfl,rfl,rfl⟩ ?_ ?_ ?_⟩
      ·rw [run_val hr2,den_c,den_sl,hE.1,hE.2.1,hE.2.2];simp
      ·rw [← hsz];exact hc2 (by rw [hzc,hsz])
      ·rw [← hsz];exact hat2
      ·simp
      ·intro H hH r hr _
       exact Below.heap_alloc w.drew _ _ hr
      ·intro H hH r o hr
       obtain ⟨rfl,rfl⟩:=sing_some hr
       exact ⟨heap_alloc_new w.drew _,Or.inl (Nat.le_refl _)⟩
    ·exact h.elim
   ·next y s' o n c hsv =>
    split at h
    ·next p k s'' f t' hlook =>
     -- onto a slice without spare room
     obtain ⟨rfl,rfl⟩:=h
     obtain ⟨hp,hq,rfl,rfl,hzc,hpos,hnk,rfl,hm0,hb,hm⟩:=hvc
     have hzc:=hzl hzc
     rw [← hsz] at hlook hpos
     have rd:∀ E,Sat B W w0 E S a w→RdAt E w (a.eval x) i.size m g:=fun E hs=>by rw [opd_den hs hx1 hxv,hsz];exact slSrc_ok hsrc hq hs
     have hgrow:∀ E2,Sat B W w0 E2 S a w→Grown P E2 w t u ty e te.zero.cells.size i.size (a.eval s) (a.eval x) c m c (fun e=>f (o+e)) g:=fun E2 hs2=>by
      obtain ⟨H,hH,_⟩:=hs2.mem
      have hr:=own_rd hH (c:=c) (pkN_at hlook hp) hnk
      have e1:a.eval s = .slice (if E2.ν y=true then none else some ⟨E2.ρ y,o * i.size,none⟩) c c:=by
       rw [opd_den hs2 hs1 hsv,den_c,den_sl,hsz];rfl
      rw [e1]
      exact app_grow (E:=E2) (w:=w) (ty:=ty) (u:=u) hut huu hi hz hr (rd E2 hs2) (by omega) (Or.inl (by rw [hby];exact hb)) hm
     obtain ⟨cells,hr,_⟩:=hgrow E hs
     have hge:=grownCap_ge w (c+m) c e
     have hcm:=grownCap_le_maxLen w (c+m) c e (by omega)
     refine det_after (one1 w.heap.size (grownCap w (c+m) c e) false) (one1_one _ _ _) ⟨_,_,Or.inl (run_val hr)⟩ fun E2 hs2 hag=>?_
     obtain ⟨cells2,hr2,hc2,hat2⟩:=hgrow E2 hs2
     have hE:=one1_at hag
     refine ⟨w.drew.alloc (.cells cells2 e),Or.inl ?_,fits_allocA (cells:=cells2) hE (by omega) hcm ?_ ?_ _ (Or.inr rfl)⟩
     ·rw [run_val hr2,den_c,den_sl,hE.1,hE.2.1,hE.2.2];simp
     ·rw [← hsz];exact hc2 (by rw [hzc,hsz])
     ·rw [← hsz];exact hat2
    ·exact h.elim
   ·next y s' o n c hsv =>
    split at h
    ·next p A hlook =>
     -- onto a borrowed slice without spare room
     obtain ⟨rfl,rfl⟩:=h
     obtain ⟨hp,hq,rfl,hAs,hzc,hpos,hnk,rfl,hm0,hb,hm⟩:=hvc
     have hzc:=hzl hzc
     have rd:∀ E,Sat B W w0 E S a w→RdAt E w (a.eval x) i.size m g:=fun E hs=>by rw [opd_den hs hx1 hxv,hsz];exact slSrc_ok hsrc hq hs
     have hgrow:∀ E2,Sat B W w0 E2 S a w→Grown P E2 w t u ty e te.zero.cells.size i.size (a.eval s) (a.eval x) c m c (fun e=>A.at_ (o+e)) g:=fun E2 hs2=>by
      have hr:=slSrc_ok (s:=te.size) (v:=.c (.xs y te.size o c (some c))) (m:=c) (q:=p∧te.size=te.size∧A.size=te.size∧o+c≤A.len) (g:=fun e=>A.at_ (o+e)) (by simp only [slSrc,hlook]) ⟨hp,rfl,hAs,hnk⟩ hs2
      rw [← hsz] at hr
      have e1:a.eval s=(SV.c (.xs y te.size o c (some c))).den E2:=opd_den hs2 hs1 hsv
      rw [← hsz] at e1
      rw [← e1] at hr
      obtain ⟨ba,cap,e2,h3⟩:=hr
      have e3:cap=c:=by
       rw [e1] at e2
       obtain ⟨ba',cap',hχ,_⟩:=hs2.arr (pkN_at hlook hp)
       rw [den_c] at e2
       simp only [SC.den,hχ] at e2
       cases ba' <;> simp at e2 <;> exact e2.2.symm
      subst e3
      rw [e2]
      exact app_grow (E:=E2) (w:=w) (ty:=ty) (u:=u) hut huu hi hz (ba:=ba) ⟨ba,cap,rfl,h3⟩ (rd E2 hs2) (by omega) (Or.inl (by rw [hby];exact hb)) hm
     obtain ⟨cells,hr,_⟩:=hgrow E hs
     have hge:=grownCap_ge w (c+m) c e
     have hcm:=grownCap_le_maxLen w (c+m) c e (by omega)
     refine det_after (one1 w.heap.size (grownCap w (c+m) c e) false) (one1_one _ _ _) ⟨_,_,Or.inl (run_val hr)⟩ fun E2 hs2 hag=>?_
     obtain ⟨cells2,hr2,hc2,hat2⟩:=hgrow E2 hs2
     have hE:=one1_at hag
     refine ⟨w.drew.alloc (.cells cells2 e),Or.inl ?_,fits_allocA (cells:=cells2) hE (by omega) hcm ?_ ?_ _ (Or.inr rfl)⟩
     ·rw [run_val hr2,den_c,den_sl,hE.1,hE.2.1,hE.2.2];simp
     ·rw [← hsz];exact hc2 (by rw [hzc,hsz])
     ·rw [← hsz];exact hat2
    ·exact h.elim
   ·exact h.elim
  ·exact h.elim
 ·exact h.elim
end
end Go.Proofs.Ytcloeignccpljaa.Z
