/- DequeSwapsSaid: what its proof is made of. No condition. -/
import Derived.Test.YtcloeignccpljaaPkIDequeSwapsAD
set_option linter.unusedSimpArgs false
set_option linter.unusedVariables false
namespace Go.Proofs.Ytcloeignccpljaa.Z
open Go Go.RowKit
inductive IR where
 | skip
 | ops (l:List IO1)
 | draw (l:List (IO1×List Nat×List Nat))
 | seq (a b:IR)
 | cond (c:IX) (a b:IR)
 | blk (id:Nat) (c:IR)
 | loop (c:IR)
 | exit (id:Nat)
 | ret
 | no
 | mark (j:Nat) (c:IR)
 | kill (ts:List Nat) (c:IR)
def IR.strip:IR→IR
 | .mark _ c=>c.strip
 | .kill _ c=>c.strip
 | .seq a b=>.seq a.strip b.strip
 | .cond c a b=>.cond c a.strip b.strip
 | .blk id c=>.blk id c.strip
 | .loop c=>.loop c.strip
 | c=>c
structure Tab where
 T:TT
 F:List Nat
def FnOk (P:Program) (f:Nat):Prop:=∃ fn,P.funcs[f]? = some fn∧(fn.name == "runtime.NumGoroutine")=false∧fn.body.isNone=false
def Tab.Ok (P:Program) (t:Tab):Prop:=TOk P t.T∧∀ f∈t.F,FnOk P f
def callsIn (F:List Nat):List IO1→Bool
 | []=>true
 | o :: r=>(match o.op with | .call f _=>F.contains f | _=>true) && callsIn F r
def afterOn (o:Oper):List Nat:=(o.after.toList.filter (Region.binds .any)).map (·.on)
def ancsGo:List (List Nat)→List (List Nat)→List (List Nat)
 | acc,[]=>acc
 | acc,a :: r=>ancsGo (acc++[(List.range acc.length).filter fun j=>a.contains j || a.any fun p=>(acc.getD p []).contains j]) r
def unord (A:List (List Nat)) (i j:Nat):Bool:=i != j && !(A.getD i []).contains j && !(A.getD j []).contains i
def unordB (A:List (List Nat)) (i:Nat):List Nat:=(List.range i).filter (unord A i)
def dstAt (l:List IO1) (j:Nat):Option Nat:=(l[j]?).bind (·.dst)
def unordD (A:List (List Nat)) (l:List IO1) (i:Nat):List Nat:=((List.range l.length).filter (unord A i)).filterMap (dstAt l)
def dstsOk (A:List (List Nat)) (l:List IO1):Bool:=(List.range l.length).all fun i=>match dstAt l i with
 | some d=>!(unordD A l i).contains d
 | none=>true
def aftersOk (ops:List Oper):Bool:=(List.range ops.length).all fun i=>match ops[i]? with
 | some o=>(afterOn o).all (· < i)
 | none=>true
def ancsOf (ops:List Oper):List (List Nat):=ancsGo [] (ops.map afterOn)
def mkDraw (A:List (List Nat)) (l:List IO1):List (IO1×List Nat×List Nat):=l.zipIdx.map fun p=>(p.1,unordB A p.2,unordD A l p.2)
def compC (t:Tab):Code→Option IR
 | .skip=>some .skip
 | .region _ ops false=>(compList t.T ops ops.toList).bind fun l=>if callsIn t.F l then some (.ops l) else none
 | .region _ ops true=>(compList t.T ops ops.toList).bind fun l=>if callsIn t.F l && dstsOk (ancsOf ops.toList) l && aftersOk ops.toList then some (.draw (mkDraw (ancsOf ops.toList) l)) else none
 | .seq a b=>(compC t a).map fun a=>.seq a ((compC t b).getD .no)
 | .cond c a b=>(opd c).map fun c=>.cond c ((compC t a).getD .no) ((compC t b).getD .no)
 | .block id c=>(compC t c).map fun c=>.blk id c
 | .loop c=>(compC t c).map fun c=>.loop c
 | .exit id=>some (.exit id)
 | .ret=>some .ret
 | _=>none
inductive RS where
 | t (n:Nat)
 | cell (n:Nat) (agg:Bool) (k:Nat)
def compR (T:TT):List ResultVar→Option (List RS)
 | []=>some []
 | .tmp n :: r=>(compR T r).map (.t n :: ·)
 | .cell a t :: r=>(look T t).bind fun ti=>(compR T r).map (.cell a (isAggD ti.desc) ti.size :: ·)
structure Ctx where
 P:Program
 tab:Tab
 B:Nat
 W:Nat→Prop
 w0:World
 rs:List RS
 R:Ending→World→Prop
def resP (S:St):RS→Option (Bool×List SC)
 | .t n=>match look S.tmps n with
  | some (.c x)=>some (false,[x])
  | some (.agg l)=>some (true,l)
  | _=>none
 | .cell n agg k=>match look S.tmps n with
  | some (.c (.ptr (id,0,0) off))=>match look S.own id with
   | some (.one (.bk cs _))=>if agg then (if off+k≤len' cs then some (true,take' k (drop' off cs)) else none) else match nth cs off with
    | some c=>some (false,[c])
    | none=>none
   | _=>none
  | some (.c (.pe (id,0,0) s 0 0))=>match look S.own id with
   | some (.one (.ar m s' at_ _))=>if agg=true∧s' = 1∧k≤m∧0<k then some (true,rowC k 0 at_) else none
   | _=>none
  | _=>none
def resL (S:St):List RS→Option (List (Bool×List SC))
 | []=>some []
 | r :: l=>match resP S r,resL S l with
  | some p,some q=>some (p :: q)
  | _,_=>none
def oneSV:Bool×List SC→SV
 | (true,l)=>.agg l
 | (false,x :: _)=>.c x
 | (false,[])=>.c (.v undef)
def resSV:List (Bool×List SC)→SV
 | [p]=>oneSV p
 | l=>.tup l
def StuckOp (_:IOp) (_:St):Prop:=False
def StuckAt (_:IR) (_:St):Prop:=False
def StuckRet (_:List RS) (_:St):Prop:=False
def RetVC (C:Ctx) (v:SV) (S:St):Prop:=∀ E a w,SatA C.B C.W C.w0 E S a w→C.R (.returned (v.den E)) w
def retS (C:Ctx) (S:St):Option (List (Bool×List SC))→Prop
 | some l=>RetVC C (resSV l) S
 | none=>StuckRet C.rs S
def finS (C:Ctx) (S:St):Prop:=retS C S (resL S C.rs)
def CallVC (C:Ctx) (f:Nat) (vs:List SV) (dst:Option Nat) (S:St) (K:St→Prop):Prop :=
 ∀ E a w,SatA C.B C.W C.w0 E S a w→Calls C.P f (vs.map (SV.den E)).toArray w fun e w'=>∃ v,e = .returned v∧∃ E' S',SatA C.B C.W C.w0 E' S' (a.put dst v) w'∧K S'
def DrawVC (C:Ctx) (l:List (IO1×List Nat×List Nat)) (S:St) (K:St→Prop):Prop :=
 ∀ id ops,compC C.tab (.region id ops true)=some (.draw l)→∀ E a w,SatA C.B C.W C.w0 E S a w →
  (Code.region id ops true).wp C.P (fun e a' w'=>e = .normal∧∃ E' S',SatA C.B C.W C.w0 E' S' a' w'∧K S') a w
def Le (C:Ctx) (S S' : St):Prop:=∀ E a w,SatA C.B C.W C.w0 E S a w→∃ E',SatA C.B C.W C.w0 E' S' a w
inductive KI:Type 1 where
 | code (c:IR)
 | blk (id:Nat)
 | ops (l:List IO1)
 | back (ι:Type) (I:ι→St) (μ:ι→Nat) (i:ι)
def LoopVC (C:Ctx) (c:IR) (k:List KI) (S:St) (ex:List KI→St→Prop):Prop :=
 ∃ (ι:Type) (I:ι→St) (μ:ι→Nat) (i:ι),Le C S (I i)∧∀ i,ex (.code c :: .back ι I μ i :: k) (I i)
def BackVC (C:Ctx) (ι:Type) (I:ι→St) (μ:ι→Nat) (i:ι) (S:St):Prop:=∃ j,μ j<μ i∧Le C S (I j)
def MarkVC (_:Nat) (S:St) (K:St→Prop):Prop:=K S
def OpVC (C:Ctx) (op:IOp) (d:Option Nat) (S:St) (K:St→Prop):Prop :=
 ∀ o:Oper,compOp C.tab.T o.op=some op→o.dst=d→∀ E a w,SatA C.B C.W C.w0 E S a w→∀ (K' : Act→World→Prop) (Q:Exit→Act→World→Prop),(∀ E' S' a' w',SatA C.B C.W C.w0 E' S' a' w'→K S'→K' a' w')→o.wp C.P a w K' Q
def thenS (C:Ctx) (ex:List KI→St→Prop) (its:List KI) (S:St) (d:Option Nat) (op:IOp):Res→Prop
 | .ok vc out=>vc∧ex its (S.app d out)
 | .two c vc out vc' out'=>(c→vc∧ex its (S.app d out))∧(¬ c→vc'∧ex its (S.app d out'))
 | .bad=>OpVC C op d S (ex its)
def MethA (P:Program) (t:Nat) (name:String) (f:Nat):Prop :=
 (P.info? t).any (fun i=>match i.methods.find? (·.name == name) with | some m=>m.path.isEmpty && (match P.underlying t with | some (.pointer _)=>m.func == some (f,true) | some (.slice _)=>m.func == some (f,false) | _=>false) | none=>false)=true∧∃ e,P.underlying t=some e
def atHead (P:Program) (st idx:Nat):Bool:=match P.underlying st with
 | some (.struct fs)=>(match fs[idx]? with
  | some fd=>fd.offset == 0 && (match P.info? fd.type with | some i=>!(i.size == 0) | none=>false) && (match P.underlying fd.type with | some (.pointer _)=>false | some _=>true | none=>false)
  | none=>false)
 | _=>false
def MethP (P:Program) (t:Nat) (name:String) (f:Nat):Bool :=
 (P.info? t).any (fun i=>match i.methods.find? (·.name == name) with | some m=>(match m.path.toList with | [s]=>s.deref && atHead P s.struct s.index | _=>false) && m.func == some (f,true) | none=>false)
def Meth (P:Program) (t:Nat) (name:String) (f:Nat) (c:SC):Prop:=MethA P t name f∨(MethP P t name f=true∧∃ x off,c = .ptr x off)
def runOp (C:Ctx) (ex:List KI→St→Prop) (o:IO1) (r:List IO1) (k:List KI) (S:St):Prop :=
 match o.op with
 | .call f xs=>match evs S xs with
  | some vs=>CallVC C f vs o.dst S (ex (.ops r :: k))
  | none=>StuckOp o.op S
 | .callv x xs=>match S.ev x,evs S xs with
  | some (.c (.fn (.func f) l l')),some vs=>FnOk C.P f∧CallVC C f (l.map SV.c++vs++l'.map SV.c) o.dst S (ex (.ops r :: k))
  | _,_=>StuckOp o.op S
 | .calli name x xs=>match S.ev x,evs S xs with
  | some (.c (.ifc t c)),some vs=>∃ f,Meth C.P t name f c∧FnOk C.P f∧CallVC C f (.c c :: vs) o.dst S (ex (.ops r :: k))
  | _,_=>StuckOp o.op S
 | op=>thenS C ex (.ops r :: k) S o.dst op (stepOut op S)
def St.skipT (S:St) (dst:Option Nat):St:=⟨S.nt,S.putT dst (.c (.v undef)),S.own,S.arrs,S.facts,S.nid⟩
def St.setB (S:St) (g:Nat) (b:Bool):St:=⟨S.nt,setL S.tmps g (.c (.v (.bool b))),S.own,S.arrs,S.facts,S.nid⟩
def St.kill (S:St) (ts:List Nat):St:=⟨S.nt,dropL ts S.tmps,S.own,S.arrs,S.facts,S.nid⟩
def popTo (id:Nat):List KI→Option (List KI)
 | .blk id' :: k=>if id' = id then some k else popTo id k
 | _ :: k=>popTo id k
 | []=>none
def specO (ex:List KI→St→Prop) (r:List IO1) (k:List KI) (S:St) (d:Option Nat) (op:IOp) (g:Nat) (want e:Bool):Res→Prop
 | .ok vc ⟨val,[],[],0⟩=>(e=true→vc)∧ex (.ops r :: k) ⟨S.nt,S.putT d (.gd g want e val),S.own,S.arrs,S.facts,S.nid⟩
 | _=>StuckOp op S
def St.resS (S:St) (ch:List (Nat×Bool×Bool)) (sl:List Nat):St:=⟨S.nt,resT ch S.tmps sl,S.own,S.arrs,S.facts,S.nid⟩
def slotL:List IX→List Nat
 | []=>[]
 | x :: r=>slot1 x++slotL r
def CRv (C:Ctx) (f:Nat) (vs:List SV) (S:St) (tmpl:SV):Prop :=
 ∀ E a w,Sat C.B C.W C.w0 E S a w→Calls C.P f (vs.map (SV.den E)).toArray w fun e w'=>∃ v,e = .returned v∧After C.B C.W C.w0 E [] S a w tmpl 0 [] [] v w'
def CallG (C:Ctx) (ex:List KI→St→Prop) (f:Nat) (vs:List SV) (r:List IO1) (k:List KI) (S S' : St) (d:Option Nat) (g:Nat) (want e:Bool) (Z:Prop):Prop :=
 (∃ tmpl,(e=true→CRv C f vs S' tmpl)∧ex (.ops r :: k) ⟨S.nt,S.putT d (.gd g want e tmpl),S.own,S.arrs,S.facts,S.nid⟩)∨Z
def specC (C:Ctx) (ex:List KI→St→Prop) (o:IO1) (r:List IO1) (k:List KI) (S:St) (g:Nat) (want e:Bool) (ch:List (Nat×Bool×Bool)) (Z:Prop):IOp→Prop
 | .call f xs=>(rsvP ch S.tmps (slotL xs)∧match evs (S.resS ch (slotL xs)) xs with
  | some vs=>CallG C ex f vs r k S (S.resS ch (slotL xs)) o.dst g want e Z
  | none=>False)∨Z
 | _=>Z
def specS (C:Ctx) (ex:List KI→St→Prop) (o:IO1) (r:List IO1) (k:List KI) (S:St) (g:Nat) (want:Bool) (Z:Prop):List (Nat×Bool×Bool)→Prop
 | (g0,w0,e) :: ch=>match pureSlots o.op with
  | some sl=>chainP S.tmps 20 g want∧rsvP ((g0,w0,e) :: ch) S.tmps sl∧specO ex r k S o.dst o.op g want e (stepOut o.op (S.resS ((g0,w0,e) :: ch) sl))
  | none=>chainP S.tmps 20 g want∧specC C ex o r k S g want e ((g0,w0,e) :: ch) Z o.op
 | []=>Z
def St.setA (S:St) (g:Nat) (b0 b:Bool):St:=⟨S.nt,setL (resA g b0 b S.tmps) g (.c (.v (.bool b))),S.own,S.arrs,S.facts,S.nid⟩
def forkS (C:Ctx) (ex:List KI→St→Prop) (o:IO1) (r:List IO1) (k:List KI) (S:St) (g:Nat) (want b:Bool):Prop :=
 (b=want→resAP g b want S.tmps∧runOp C ex o r k (S.setA g b want))∧(b=(!want)→resAP g b (!want) S.tmps∧ex (.ops r :: k) ((S.setA g b (!want)).skipT o.dst))
def exec (C:Ctx):Nat→List KI→St→Prop
 | 0,_,_=>False
 | _+1,[],S=>finS C S
 | n+1,.code c :: k,S=>match c with
  | .skip=>exec C n k S
  | .ops l=>exec C n (.ops l :: k) S
  | .draw l=>DrawVC C l S (exec C n k)
  | .seq a b=>exec C n (.code a :: .code b :: k) S
  | .cond x a b=>match S.ev x with
   | some (.c (.v (.bool t)))=>if t=true then exec C n (.code a :: k) S else exec C n (.code b :: k) S
   | some (.c (.bo t))=>(t=true→exec C n (.code a :: k) S)∧(t=false→exec C n (.code b :: k) S)
   | _=>StuckAt c S
  | .blk id c=>exec C n (.code c :: .blk id :: k) S
  | .loop c=>LoopVC C c k S (exec C n)
  | .exit id=>match popTo id k with
   | some k'=>exec C n k' S
   | none=>StuckAt c S
  | .ret=>finS C S
  | .no=>StuckAt c S
  | .mark j c=>MarkVC j S (exec C n (.code c :: k))
  | .kill ts c=>exec C n (.code c :: k) (S.kill ts)
 | n+1,.blk _ :: k,S=>exec C n k S
 | n+1,.ops [] :: k,S=>exec C n k S
 | n+1,.ops (o :: r) :: k,S=>match o.guard with
  | none=>runOp C (exec C n) o r k S
  | some (g,want)=>match look S.tmps g with
   | some (.c (.v (.bool b)))=>if b=want then runOp C (exec C n) o r k S else exec C n (.ops r :: k) (S.skipT o.dst)
   | some (.c (.bo b))=>specS C (exec C n) o r k S g want (forkS C (exec C n) o r k S g want b) (chain S.tmps 20 g want)
   | some (.gd _ _ _ _)=>specS C (exec C n) o r k S g want (StuckOp o.op S) (chain S.tmps 20 g want)
   | _=>StuckOp o.op S
 | _+1,.back ι I μ i :: _,S=>BackVC C ι I μ i S
section
variable (C:Ctx) (n:Nat) (k:List KI) (S:St)
theorem ex_nil:exec C (n+1) [] S=finS C S:=rfl
theorem ex_skip:exec C (n+1) (.code .skip :: k) S=exec C n k S:=rfl
theorem ex_ops (l:List IO1):exec C (n+1) (.code (.ops l) :: k) S=exec C n (.ops l :: k) S:=rfl
theorem ex_draw (l:List (IO1×List Nat×List Nat)):exec C (n+1) (.code (.draw l) :: k) S=DrawVC C l S (exec C n k):=rfl
theorem ex_seq (a b:IR):exec C (n+1) (.code (.seq a b) :: k) S=exec C n (.code a :: .code b :: k) S:=rfl
def condS (x:IX) (S:St) (A B Z:Prop):Prop:=match S.ev x with
 | some (.c (.v (.bool t)))=>if t=true then A else B
 | some (.c (.bo t))=>(t=true→A)∧(t=false→B)
 | _=>Z
theorem ex_cond (x:IX) (a b:IR):exec C (n+1) (.code (.cond x a b) :: k) S=condS x S (exec C n (.code a :: k) S) (exec C n (.code b :: k) S) (StuckAt (.cond x a b) S):=by
 simp only [exec,condS]
theorem ex_blk (id:Nat) (c:IR):exec C (n+1) (.code (.blk id c) :: k) S=exec C n (.code c :: .blk id :: k) S:=rfl
theorem ex_loop (c:IR):exec C (n+1) (.code (.loop c) :: k) S=LoopVC C c k S (exec C n):=rfl
def exitS (r:Option (List KI)) (f:List KI→St→Prop) (S:St) (Z:Prop):Prop:=match r with
 | some k=>f k S
 | none=>Z
theorem ex_exit (id:Nat):exec C (n+1) (.code (.exit id) :: k) S=exitS (popTo id k) (exec C n) S (StuckAt (.exit id) S):=by
 simp only [exec,exitS]
theorem ex_ret:exec C (n+1) (.code .ret :: k) S=finS C S:=rfl
theorem ex_mark (j:Nat) (c:IR):exec C (n+1) (.code (.mark j c) :: k) S=MarkVC j S (exec C n (.code c :: k)):=rfl
theorem ex_kill (ts:List Nat) (c:IR):exec C (n+1) (.code (.kill ts c) :: k) S=exec C n (.code c :: k) (S.kill ts):=rfl
theorem ex_pop (id:Nat):exec C (n+1) (.blk id :: k) S=exec C n k S:=rfl
theorem ex_onil:exec C (n+1) (.ops [] :: k) S=exec C n k S:=rfl
theorem ex_op (d:Option Nat) (op:IOp) (r:List IO1):exec C (n+1) (.ops (⟨d,op,none⟩ :: r) :: k) S=runOp C (exec C n) ⟨d,op,none⟩ r k S:=rfl
def gateS (g:Nat) (want:Bool) (S:St) (A Z:Prop) (f:List KI→St→Prop) (o:IO1) (r:List IO1) (k:List KI) (C:Ctx):Prop:=match look S.tmps g with
 | some (.c (.v (.bool b)))=>if b=want then A else f (.ops r :: k) (S.skipT o.dst)
 | some (.c (.bo b))=>specS C f o r k S g want (forkS C f o r k S g want b) (chain S.tmps 20 g want)
 | some (.gd _ _ _ _)=>specS C f o r k S g want (StuckOp o.op S) (chain S.tmps 20 g want)
 | _=>Z
theorem ex_opg (d:Option Nat) (op:IOp) (g:Nat) (want:Bool) (r:List IO1):exec C (n+1) (.ops (⟨d,op,some (g,want)⟩ :: r) :: k) S =
  gateS g want S (runOp C (exec C n) ⟨d,op,some (g,want)⟩ r k S) (StuckOp op S) (exec C n) ⟨d,op,some (g,want)⟩ r k C:=by
 simp only [exec,gateS]
theorem ex_back (ι:Type) (I:ι→St) (μ:ι→Nat) (i:ι):exec C (n+1) (.back ι I μ i :: k) S=BackVC C ι I μ i S:=rfl
end
inductive SI:Type 1 where
 | code (c:Code)
 | blk (id:Nat)
 | ops (all:Array Oper) (rest:List Oper)
 | back (J:Act→World→Prop)
section
variable (P:Program) (fn:Func) (R:Ending→World→Prop)
def aft:List SI→Exit→Act→World→Prop
 | [],e,a,w=>bodyPost P fn R e a w
 | .code c :: k,.normal,a,w=>c.wp P (aft k) a w
 | .blk _ :: k,.normal,a,w=>aft k .normal a w
 | .blk id :: k,.exit id',a,w=>if id' = id then aft k .normal a w else aft k (.exit id') a w
 | .ops all rest :: k,.normal,a,w=>wpList P all (aft k) rest a w
 | .back J :: _,.normal,a,w=>J a w
 | _ :: k,e,a,w=>aft k e a w
end
section
variable {P:Program} {fn:Func} {R:Ending→World→Prop}
theorem aft_ret:∀ (k:List SI) (a:Act) (w:World),bodyPost P fn R .ret a w→aft P fn R k .ret a w
 | [],_,_,h=>h
 | .code _ :: k,a,w,h=>aft_ret k a w h
 | .blk _ :: k,a,w,h=>aft_ret k a w h
 | .ops _ _ :: k,a,w,h=>aft_ret k a w h
 | .back _ :: k,a,w,h=>aft_ret k a w h
end
def Inv (C:Ctx) (ι:Type) (I:ι→St) (μ:ι→Nat) (n:Nat) (a:Act) (w:World):Prop:=∃ i E,μ i=n∧SatA C.B C.W C.w0 E (I i) a w
inductive RelK (C:Ctx):List KI→List SI→Prop
 | nil:RelK C [] []
 | code {c:IR} {x:Code} {k:List KI} {k' : List SI}:(compC C.tab x).getD .no=c.strip→RelK C k k'→RelK C (.code c :: k) (.code x :: k')
 | blk {id:Nat} {k:List KI} {k' : List SI}:RelK C k k'→RelK C (.blk id :: k) (.blk id :: k')
 | ops {l:List IO1} {all:Array Oper} {r:List Oper} {k:List KI} {k' : List SI}:compList C.tab.T all r=some l→callsIn C.tab.F l=true→RelK C k k'→RelK C (.ops l :: k) (.ops all r :: k')
 | back {ι:Type} {I:ι→St} {μ:ι→Nat} {i:ι} {k:List KI} {k' : List SI}:RelK C k k'→RelK C (.back ι I μ i :: k) (.back (fun a w=>∃ n,n<μ i∧Inv C ι I μ n a w) :: k')
section
variable {C:Ctx} {E:Env} {S:St} {a:Act} {w:World}
theorem wanted_of {ops:Array Oper} (hs:Sat C.B C.W C.w0 E S a w) {o:Oper} {j:Nat} {want:Bool} {g:Nat} {b:Bool} {x:SC} (hg:o.guard=some (j,want)) (hd:(ops[j]?).bind (·.dst)=some g)
  (hl:look S.tmps g=some (.c x)) (hb:x.den E = .bool b):Region.wanted o (yielded ops a.tmps)=(b == want):=by
 obtain ⟨h1,h2⟩:=hs.tmps g _ hl
 have h3:a.tmps[g]? = some (.bool b):=by
  rw [← hs.size] at h1
  rw [Array.getD_eq_getD_getElem?,Array.getElem?_eq_getElem h1] at h2
  rw [Array.getElem?_eq_getElem h1]
  simp only [Option.getD_some] at h2
  rw [h2,den_c,hb]
 simp only [Region.wanted,hg,yielded,hd,Option.bind_some,h3]
 cases b <;> cases want <;> rfl
theorem wanted_ofV {ops:Array Oper} (hs:Sat C.B C.W C.w0 E S a w) {o:Oper} {j:Nat} {want:Bool} {g:Nat} {b:Bool} {x:SV} (hg:o.guard=some (j,want)) (hd:(ops[j]?).bind (·.dst)=some g)
  (hl:look S.tmps g=some x) (hb:x.den E = .bool b):Region.wanted o (yielded ops a.tmps)=(b == want):=by
 obtain ⟨h1,h2⟩:=hs.tmps g _ hl
 have h3:a.tmps[g]? = some (.bool b):=by
  rw [← hs.size] at h1
  rw [Array.getD_eq_getD_getElem?,Array.getElem?_eq_getElem h1] at h2
  rw [Array.getElem?_eq_getElem h1]
  simp only [Option.getD_some] at h2
  rw [h2,hb]
 simp only [Region.wanted,hg,yielded,hd,Option.bind_some,h3]
 cases b <;> cases want <;> rfl
theorem satA_skip (hs:SatA C.B C.W C.w0 E S a w) (dst:Option Nat):SatA C.B C.W C.w0 E (S.skipT dst) (a.put dst undef) w:=by
 refine ⟨hs.1,fun E' hE' ho'=>?_⟩
 have h:=hs.2 E' hE' ho'
 have e:(SV.c (.v undef)).den E' = undef:=by rw [den_c,den_v]
 have hp:=sat_put h dst (.c (.v undef))
 rw [e] at hp
 exact ⟨by rw [put_size'];exact h.size,by rw [put_defers'];exact h.defers,h.one,hp,h.frame,h.mem⟩
theorem satA_kill (hs:SatA C.B C.W C.w0 E S a w) (ts:List Nat):SatA C.B C.W C.w0 E (S.kill ts) a w:=by
 refine ⟨hs.1,fun E' hE' ho'=>?_⟩
 have h:=hs.2 E' hE' ho'
 exact ⟨h.size,h.defers,h.one,fun t v ht=>h.tmps t v (look_dropL ht).2,h.frame,h.mem⟩
theorem satA_resA (hs:SatA C.B C.W C.w0 E S a w) {g:Nat} {b0 b:Bool} (hl:look S.tmps g=some (.c (.bo b0))) (hb:b0=b) (hP:resAP g b0 b S.tmps):SatA C.B C.W C.w0 E (S.setA g b0 b) a w:=by
 refine ⟨hs.1,fun E' hE' ho'=>?_⟩
 have h:=hs.2 E' hE' ho'
 refine ⟨h.size,h.defers,h.one,?_,h.frame,h.mem⟩
 intro t v ht
 simp only [St.setA,look_setL] at ht
 split at ht
 ·next e =>
  subst e
  simp only [Option.some.injEq] at ht
  subst ht
  refine ⟨(h.tmps _ _ hl).1,?_⟩
  rw [(h.tmps _ _ hl).2,den_c,den_c,den_b,den_v,hb]
 ·have key:∀ (l:List (Nat×SV)),resAP g b0 b l→∀ v,look (resA g b0 b l) t=some v→∃ v0,look l t=some v0∧v.den E' = v0.den E':=by
   intro l
   induction l with
   | nil=>intro _ v hv;cases hv
   | cons p l ih =>
    obtain ⟨j,u⟩:=p
    rintro ⟨h1,h2⟩ v hv
    simp only [resA,look_cons] at hv ⊢
    split at hv
    ·next e =>
     simp only [Option.some.injEq] at hv
     subst hv
     refine ⟨u,by rw [if_pos e],?_⟩
     cases u with
     | gd g' w' e' x =>
      simp only [resA1] at h1 ⊢
      by_cases hg:g' = g
      ·rw [if_pos hg] at h1 ⊢
       simp only at h1 ⊢
       simp only [SV.den,h1,hb]
       cases w' <;> cases b <;> simp [gB,SV.den,SC.den]
      ·rw [if_neg hg]
     | _=>rfl
    ·next e =>
     obtain ⟨v0,g1,g2⟩:=ih h2 v hv
     exact ⟨v0,by rw [if_neg e];exact g1,g2⟩
  obtain ⟨v0,h1,h2⟩:=key S.tmps hP v ht
  obtain ⟨g1,g2⟩:=h.tmps t v0 h1
  exact ⟨g1,by rw [h2];exact g2⟩
def allT (ch:List (Nat×Bool×Bool)):Prop:=∀ g w e,inCh ch g w=some e→e=true
theorem chain_allT {tmps:List (Nat×SV)}:∀ (n g:Nat) (want:Bool),chainP tmps n g want→(∀ g0 w0 e ch,chain tmps n g want=(g0,w0,e) :: ch→e=true)→allT (chain tmps n g want)
 | 0,g,want,_,_=>by intro g' w' e h;simp [chain,inCh] at h
 | n+1,g,want,hP,h0=>by
  intro g' w' e h
  unfold chain at h h0
  unfold chainP at hP
  split at h
  ·next b hl =>
   rw [hl] at h0
   simp only [inCh] at h
   split at h
   ·cases h
    exact h0 _ _ _ _ rfl
   ·cases h
  ·next g1 w1 e1 b hl =>
   rw [hl] at h0 hP
   have he:=h0 _ _ _ _ rfl
   simp only [inCh] at h
   split at h
   ·cases h;exact he
   ·simp only at hP
    obtain ⟨hP1,hP2⟩:=hP
    refine chain_allT n g1 w1 hP2 ?_ g' w' e h
    intro g2 w2 e2 ch2 hch
    rw [hch] at hP1
    simp only at hP1
    rw [← hP1]
    simp only [Bool.and_eq_true] at he
    exact he.1
  ·simp [inCh] at h
theorem sat_resS (hs:Sat C.B C.W C.w0 E S a w) {ch:List (Nat×Bool×Bool)} (hch:allT ch):∀ {sl:List Nat},rsvP ch S.tmps sl→Sat C.B C.W C.w0 E (S.resS ch sl) a w:=by
 intro sl hP
 refine ⟨hs.size,hs.defers,hs.one,?_,hs.frame,hs.mem⟩
 have hval:∀ v,(resV ch S.tmps v).1→(resV ch S.tmps v).2.den E=v.den E:=by
  intro v hv
  cases v with
  | gd g w e x =>
   simp only [resV] at hv ⊢
   split at hv
   ·next e0 hin =>
    have h1:=hch g w e0 hin
    have h2:e=e0:=hv
    simp only [SV.den,h2,h1,if_true]
   ·next hin =>
    split at hv
    ·next g' w' e' b hl =>
     split at hv
     ·next e0 hin' =>
      have h1:=hch g' w' e0 hin'
      obtain ⟨h2,h3⟩:=hv
      have h4:e=gB w b:=by rw [h3,h2,h1];rfl
      simp only [SV.den,h4]
     ·rfl
    ·rfl
  | _=>rfl
 have key:∀ sl,rsvP ch S.tmps sl→∀ t v,look (resT ch S.tmps sl) t=some v→∃ v0,look S.tmps t=some v0∧v.den E=v0.den E:=by
  intro sl
  induction sl with
  | nil=>intro _ t v hv;exact ⟨v,hv,rfl⟩
  | cons j sl ih =>
   intro hP t v hv
   unfold rsvP at hP
   unfold resT at hv
   split at hP
   ·next u hu =>
    rw [hu] at hv
    simp only [look_setL] at hv
    split at hv
    ·next e =>
     subst e
     simp only [Option.some.injEq] at hv
     subst hv
     exact ⟨u,hu,hval u hP.1⟩
    ·exact ih hP.2 t v hv
   ·next hu =>
    rw [hu] at hv
    exact ih hP t v hv
 intro t v ht
 obtain ⟨v0,h1,h2⟩:=key sl hP t v ht
 obtain ⟨g1,g2⟩:=hs.tmps t v0 h1
 exact ⟨g1,by rw [h2];exact g2⟩
theorem wanted_chain {ops:Array Oper} (hs:Sat C.B C.W C.w0 E S a w) {o:Oper} {j n:Nat} {want:Bool} {g g0:Nat} {w0 e:Bool} {ch:List (Nat×Bool×Bool)} (hg:o.guard=some (j,want)) (hd:(ops[j]?).bind (·.dst)=some g)
  (hc:chain S.tmps n g want=(g0,w0,e) :: ch):Region.wanted o (yielded ops a.tmps)=e:=by
 have slot:∀ v,look S.tmps g=some v→a.tmps[g]? = some (v.den E):=by
  intro v hl
  obtain ⟨h1,h2⟩:=hs.tmps g v hl
  rw [← hs.size] at h1
  rw [Array.getD_eq_getD_getElem?,Array.getElem?_eq_getElem h1] at h2
  rw [Array.getElem?_eq_getElem h1]
  simp only [Option.getD_some] at h2
  rw [h2]
 cases n with
 | zero=>simp [chain] at hc
 | succ n =>
  unfold chain at hc
  split at hc
  ·next b hl =>
   simp only [List.cons.injEq,Prod.mk.injEq] at hc
   obtain ⟨⟨_,_,rfl⟩,_⟩:=hc
   have:=slot _ hl
   rw [den_c,den_b] at this
   simp only [Region.wanted,hg,yielded,hd,Option.bind_some,this]
   cases b <;> cases want <;> rfl
  ·next g' w' e' b hl =>
   simp only [List.cons.injEq,Prod.mk.injEq] at hc
   obtain ⟨⟨_,_,rfl⟩,_⟩:=hc
   have:=slot _ hl
   simp only [SV.den,SC.den] at this
   cases e' with
   | true =>
    simp only [if_true] at this
    simp only [Region.wanted,hg,yielded,hd,Option.bind_some,this]
    cases b <;> cases want <;> rfl
   | false =>
    simp only [Bool.false_eq_true,if_false,undef] at this
    simp only [Region.wanted,hg,yielded,hd,Option.bind_some,this]
    cases want <;> rfl
  ·cases hc
theorem popTo_ok {fn:Func} {id:Nat} {k r:List KI} {k' : List SI} (h:RelK C k k') (hp:popTo id k=some r):∃ r',RelK C r r'∧∀ a w,aft C.P fn C.R r' .normal a w→aft C.P fn C.R k' (.exit id) a w:=by
 induction h with
 | nil=>simp [popTo] at hp
 | code _ _ ih =>
  obtain ⟨r',h1,h2⟩:=ih (by simpa [popTo] using hp)
  exact ⟨r',h1,fun a w h=>h2 a w h⟩
 | @blk id' k k' hk ih =>
  simp only [popTo] at hp
  split at hp
  ·next e =>
   simp only [Option.some.injEq] at hp
   subst hp
   subst e
   exact ⟨k',hk,fun a w h=>by simp only [aft,if_true];exact h⟩
  ·next e =>
   obtain ⟨r',h1,h2⟩:=ih hp
   exact ⟨r',h1,fun a w h=>by
    simp only [aft]
    rw [if_neg (fun e'=>e e'.symm)]
    exact h2 a w h⟩
 | ops _ _ _ ih =>
  obtain ⟨r',h1,h2⟩:=ih (by simpa [popTo] using hp)
  exact ⟨r',h1,fun a w h=>h2 a w h⟩
 | back _ ih =>
  obtain ⟨r',h1,h2⟩:=ih (by simpa [popTo] using hp)
  exact ⟨r',h1,fun a w h=>h2 a w h⟩
theorem compR_cons_tmp {T:TT} {n:Nat} {r:List ResultVar} {rs:List RS} (h:compR T (.tmp n :: r)=some rs):∃ rs',compR T r=some rs'∧rs = .t n :: rs':=by
 simp only [compR,Option.map_eq_some_iff] at h
 obtain ⟨rs',h1,rfl⟩:=h
 exact ⟨rs',h1,rfl⟩
theorem run_res1 (hT:TOk C.P C.tab.T) (hs:Sat C.B C.W C.w0 E S a w) (t:Nat) (ti:TI) (ht:look C.tab.T t=some ti) (n:Nat) {p:Bool×List SC} (h:resP S (.cell n (isAggD ti.desc) ti.size)=some p) :
  (do loadVar t (← asAddr (a.tmps.getD n undef)):Sem Value).run C.P w = .ok (den1 E p) w:=by
 obtain ⟨hu,i,hi,hz,hsz,_⟩:=ti_parts hT ht
 simp only [resP] at h
 split at h
 ·next id off hl =>
  rw [(hs.tmps n _ hl).2]
  split at h
  ·next cs ty hown =>
   obtain ⟨H,hH,_⟩:=hs.mem
   have hat:atN S.own (id,0,0)=some (.bk cs ty):=by simp [atN,hown,Fm.get]
   have hoc:=bk_cell hH hat
   simp only [den_c,den_ptr,asAddr,Sem.run_bind,Sem.run_pure,Result.andThen_ok]
   cases hd:isAggD ti.desc with
   | true =>
    rw [hd,if_pos rfl] at h
    split at h
    ·next hfit =>
     simp only [Option.some.injEq] at h
     subst h
     have:=run_ldv (P:=C.P) (w:=w) hT ht (E.ρ (id,0,0)) off ((take' ti.size (drop' off cs)).map (SC.den E)) (by rw [List.length_map,seg_len (by rw [len'_eq] at hfit;exact hfit)]) (fun j u hu=>by
      rw [List.getElem?_map,Option.map_eq_some_iff] at hu
      obtain ⟨c,hc,rfl⟩:=hu
      rw [hoc,seg_get hc];rfl)
     rw [hd] at this
     simp only [Instr.loadAt,Instr.sureAddr,Sem.run_bind,Sem.run_pure,Result.andThen_ok,Bool.true_eq_false,false_and,or_false] at this
     exact this
    ·cases h
   | false =>
    rw [hd,if_neg (by simp)] at h
    split at h
    ·next c hn =>
     simp only [Option.some.injEq] at h
     subst h
     rw [nth_eq] at hn
     simp only [loadVar,Sem.run_bind,run_isAgg hu,hd,Result.andThen_ok,Bool.false_eq_true,if_false]
     simp [load,Sem.run,hoc,hn,den1]
    ·cases h
  ·cases h
 ·next id s hl =>
  rw [(hs.tmps n _ hl).2]
  split at h
  ·next m s' at_ ty hown =>
   split at h
   ·next hc =>
    obtain ⟨hd,rfl,hkm,hk0⟩:=hc
    simp only [Option.some.injEq] at h
    subst h
    obtain ⟨H,hH,_⟩:=hs.mem
    have hat:atN S.own (id,0,0)=some (.ar m 1 at_ ty):=by simp [atN,hown,Fm.get]
    have hcl:=fun e (he:e<m)=>ar_cell hH hat he
    obtain ⟨hl1,hget⟩:=rowC_get ti.size 0 at_ fun e he=>by rw [Nat.zero_add];exact (hcl e (by omega)).2.1
    simp only [den_c,den_pe,asAddr,Sem.run_bind,Sem.run_pure,Result.andThen_ok,Nat.zero_mul,Nat.add_zero]
    have:=run_ldv (P:=C.P) (w:=w) hT ht (E.ρ (id,0,0)) 0 ((rowC ti.size 0 at_).map (SC.den E)) (by rw [List.length_map,hl1]) (fun j u hu=>by
     have hj:j<ti.size:=by have:=(List.getElem?_eq_some_iff.1 hu).1;rw [List.length_map,hl1] at this;exact this
     rw [List.getElem?_map,Option.map_eq_some_iff,hget j hj] at hu
     obtain ⟨c,hc,rfl⟩:=hu
     rw [Nat.zero_add] at hc ⊢
     have:=((hcl j (by omega)).2.2 0 c hc).1
     rwa [Nat.mul_one,Nat.add_zero] at this)
    rw [hd] at this
    simp only [Instr.loadAt,Instr.sureAddr,Sem.run_bind,Sem.run_pure,Result.andThen_ok,Bool.true_eq_false,false_and,or_false] at this
    exact this
   ·cases h
  ·cases h
 ·cases h
theorem run_results (hT:TOk C.P C.tab.T) (hs:Sat C.B C.W C.w0 E S a w):∀ (rv:List ResultVar) (rs:List RS) (l:List (Bool×List SC)),compR C.tab.T rv=some rs→resL S rs=some l →
  (rv.mapM (fun | .tmp t=>pure (a.tmps.getD t undef) | .cell x t=>do loadVar t (← asAddr (a.tmps.getD x undef))):Sem (List Value)).run C.P w = .ok (l.map (den1 E)) w
 | [],rs,l,h,h'=>by
  simp only [compR,Option.some.injEq] at h
  subst h
  simp only [resL,Option.some.injEq] at h'
  subst h'
  rfl
 | .tmp n :: r,rs,l,h,h'=>by
  obtain ⟨rs',h1,rfl⟩:=compR_cons_tmp h
  simp only [resL] at h'
  split at h'
  ·next p q hp hq =>
   simp only [Option.some.injEq] at h'
   subst h'
   have hv:a.tmps.getD n undef=den1 E p:=by
    simp only [resP] at hp
    split at hp
    ·next x hx =>
     simp only [Option.some.injEq] at hp
     subst hp
     exact (hs.tmps n _ hx).2
    ·next x hx =>
     simp only [Option.some.injEq] at hp
     subst hp
     exact (hs.tmps n _ hx).2
    ·cases hp
   simp only [List.mapM_cons,Sem.run_bind,Sem.run_pure,Result.andThen_ok,run_results hT hs r rs' q h1 hq,List.map_cons,hv]
  ·cases h'
 | .cell n t :: r,rs,l,h,h'=>by
  simp only [compR,Option.bind_eq_some_iff,Option.map_eq_some_iff] at h
  obtain ⟨ti,hti,rs',h1,rfl⟩:=h
  simp only [resL] at h'
  split at h'
  ·next p q hp hq =>
   simp only [Option.some.injEq] at h'
   subst h'
   have h2:=run_res1 hT hs t ti hti n hp
   simp only [Sem.run_bind] at h2
   simp only [List.mapM_cons,Sem.run_bind,Sem.run_pure,Result.andThen_ok,run_results hT hs r rs' q h1 hq,List.map_cons,h2]
  ·cases h'
theorem fin_ok {fn:Func} (hT:TOk C.P C.tab.T) (hr:compR C.tab.T fn.results.toList=some C.rs) (hs:SatA C.B C.W C.w0 E S a w) (h:finS C S):bodyPost C.P fn C.R .ret a w:=by
 unfold finS retS at h
 split at h
 ·next l hl =>
  have h1:=run_results hT hs.sat fn.results.toList C.rs l hr hl
  refine ⟨hs.sat.defers,(resSV l).den E,?_,h E a w hs⟩
  have e:∀ m:Sem (List Value),m.run C.P w = .ok (l.map (den1 E)) w→((do
    let vs ← List.toArray <$> m
    pure (if h:vs.size=1 then vs[0] else .tuple vs)):Sem Value).run C.P w = .ok ((resSV l).den E) w:=by
   intro m hm
   simp only [Sem.run_bind,Sem.run_map,hm,Result.andThen_ok,Sem.run_pure]
   match l with
   | []=>rfl
   | [p] =>
    obtain ⟨b,cs⟩:=p
    cases b with
    | true=>rfl
    | false=>cases cs <;> rfl
   | p :: q :: r=>simp [resSV,SV.den]
  unfold results
  rw [Array.mapM_eq_mapM_toList]
  exact e _ h1
 ·exact h.elim
theorem list_unfold {Q:Exit→Act→World→Prop} {ops:Array Oper} {o:Oper} {r:List Oper} (b:Bool) (hb:Region.wanted o (yielded ops a.tmps)=b)
  (h1:b=true→o.wp C.P a w (wpList C.P ops Q r) Q) (h2:b=false→wpList C.P ops Q r (a.put o.dst undef) w):wpList C.P ops Q (o :: r) a w:=by
 unfold wpList
 cases b with
 | true=>rw [if_pos hb];exact Or.inl (h1 rfl)
 | false=>rw [if_neg (by rw [hb];simp)];exact h2 rfl
def isCall:IOp→Bool
 | .call _ _=>true
 | .callv _ _=>true
 | .calli _ _ _=>true
 | _=>false
theorem compOp_isCall {T:TT} {op:Op} {iop:IOp} (hc:compOp T op=some iop) (hi:isCall iop=true):∃ c,op = .call c ∧
  ((∃ f xs,iop = .call f xs∧c.callee = .value (.func f)∧opds c.args.toList=some xs)∨(∃ t xs,iop = .callv (.t t) xs∧c.callee = .value (.tmp t)∧opds c.args.toList=some xs) ∨
   (∃ name x ix xs,iop = .calli name ix xs∧c.callee = .invoke x name∧opd x=some ix∧opds c.args.toList=some xs)):=by
 cases op
 case call c =>
  refine ⟨c,rfl,?_⟩
  simp only [compOp] at hc
  split at hc
  ·next g hcl =>
   simp only [Option.map_eq_some_iff] at hc
   obtain ⟨is,his,rfl⟩:=hc
   exact Or.inl ⟨g,is,rfl,hcl,his⟩
  ·next g hcl =>
   simp only [Option.map_eq_some_iff] at hc
   obtain ⟨is,his,rfl⟩:=hc
   exact Or.inr (Or.inl ⟨g,is,rfl,hcl,his⟩)
  ·next x name hcl =>
   simp only [Option.bind_eq_some_iff,Option.map_eq_some_iff] at hc
   obtain ⟨ix,hx,is,his,rfl⟩:=hc
   exact Or.inr (Or.inr ⟨name,x,ix,is,rfl,hcl,hx,his⟩)
  all_goals
   exfalso
   repeat' (first | (split at hc) | (simp only [Option.bind_eq_some_iff,Option.map_eq_some_iff] at hc) | (obtain ⟨_,_,hc⟩:=hc))
   all_goals first | (cases hc;done) | (subst hc;simp [isCall] at hi;done) | (simp [isCall] at hi;done)
 case makeMap t r =>
  exfalso
  cases r with
  | some _=>cases hc
  | none =>
   simp only [compOp] at hc
   split at hc <;> (cases hc;simp [isCall] at hi)
 all_goals
  exfalso
  simp only [compOp,reduceCtorEq] at hc
  try (repeat' (first | (split at hc) | (simp only [Option.bind_eq_some_iff,Option.map_eq_some_iff] at hc) | (obtain ⟨_,_,hc⟩:=hc)))
  all_goals first | (cases hc;done) | (simp only [Option.some.injEq] at hc;subst hc;simp [isCall] at hi;done) | (subst hc;simp [isCall] at hi;done) | (simp [isCall] at hi;done)
def EntersAt (P:Program) (o:Oper) (a:Act) (w:World) (f:Nat) (args:Array Value):Prop:=(execOp a.eval o).run P w = .ok (.enter f args) w
theorem run_callFunc {P:Program} {f:Nat} (hf:FnOk P f) (args:Array Value) (w:World):(callFunc f args).run P w = .ok (.enter f args) w:=by
 obtain ⟨fn,hfn,hname,hbody⟩:=hf
 have h1:fn.name≠"runtime.NumGoroutine":=by simpa using hname
 have h2:¬ fn.body=none:=by
  intro e
  rw [e] at hbody
  cases hbody
 unfold callFunc
 simp [hfn,h1,h2,program,Sem.run]
theorem enters_call {o:Oper} {f:Nat} {xs:List IX} {vs:List SV} (hf:FnOk C.P f) (hc:compOp C.tab.T o.op=some (.call f xs)) (hv:evs S xs=some vs) (hs:Sat C.B C.W C.w0 E S a w) :
  EntersAt C.P o a w f (vs.map (SV.den E)).toArray:=by
 obtain ⟨c,hop,h | ⟨_,_,h,_⟩ | ⟨_,_,_,_,h,_⟩⟩:=compOp_isCall hc rfl
 ·obtain ⟨f',xs',h,hcl,his⟩:=h
  cases h
  have hargs:=opds_den hs c.args.toList xs vs his hv
  have hargs' : c.args.map a.eval=(vs.map (SV.den E)).toArray:=by
   apply Array.ext'
   simpa using hargs
  unfold EntersAt execOp
  rw [hop]
  simp only [resolve,hcl,Act.eval,hargs',Sem.run_bind,Deferred.ofValue,Sem.run_pure,Result.andThen_ok,invoke,run_callFunc hf]
  simp
 ·cases h
 ·cases h
theorem enters_callv {o:Oper} {f:Nat} {x:IX} {xs:List IX} {vs:List SV} {l l' : List SC} (hf:FnOk C.P f) (hc:compOp C.tab.T o.op=some (.callv x xs)) (hx:S.ev x=some (.c (.fn (.func f) l l'))) (hv:evs S xs=some vs) (hs:Sat C.B C.W C.w0 E S a w) :
  EntersAt C.P o a w f ((l.map SV.c++vs++l'.map SV.c).map (SV.den E)).toArray:=by
 obtain ⟨c,hop,⟨_,_,h,_⟩ | h | ⟨_,_,_,_,h,_⟩⟩:=compOp_isCall hc rfl
 ·cases h
 ·obtain ⟨t,xs',h,hcl,his⟩:=h
  cases h
  have hargs:=opds_den hs c.args.toList xs vs his hv
  have hargs' : c.args.map a.eval=(vs.map (SV.den E)).toArray:=by
   apply Array.ext'
   simpa using hargs
  have ht:a.eval (.tmp t) = .func (.func f) (SC.denL E l).toArray (SC.denL E l').toArray:=by
   rw [opd_den (i:=.t t) hs rfl hx,den_c];simp [SC.den]
  unfold EntersAt execOp
  rw [hop]
  simp only [resolve,hcl,ht,hargs',Sem.run_bind,Deferred.ofValue,Sem.run_pure,Result.andThen_ok,invoke,run_callFunc hf]
  have e:∀ l:List SC,SC.denL E l=(l.map SV.c).map (SV.den E):=by
   intro l
   rw [denL_eq,List.map_map]
   rfl
  rw [e l,e l']
  simp only [List.map_append]
  congr 3
  apply Array.ext'
  simp
 ·cases h
theorem enters_calli {o:Oper} {f t:Nat} {x:IX} {name:String} {xs:List IX} {vs:List SV} {c:SC} (hf:FnOk C.P f) (hm:Meth C.P t name f c) (hc:compOp C.tab.T o.op=some (.calli name x xs)) (hx:S.ev x=some (.c (.ifc t c))) (hv:evs S xs=some vs) (hs:Sat C.B C.W C.w0 E S a w) :
  EntersAt C.P o a w f ((SV.c c :: vs).map (SV.den E)).toArray:=by
 obtain ⟨cl,hop,⟨_,_,h,_⟩ | ⟨_,_,h,_⟩ | h⟩:=compOp_isCall hc rfl
 ·cases h
 ·cases h
 ·obtain ⟨name',x',ix,xs',h,hcl,hix,his⟩:=h
  cases h
  have hargs:=opds_den hs cl.args.toList xs vs his hv
  have hargs' : cl.args.map a.eval=(vs.map (SV.den E)).toArray:=by
   apply Array.ext'
   simpa using hargs
  have ht:a.eval x' = .iface t (c.den E):=by
   rw [opd_den hs hix hx,den_c];simp [SC.den]
  have fin:(∀ (n:Nat) (w:World),(method (n+1) t (c.den E) name).run C.P w = .ok (f,c.den E) w)→EntersAt C.P o a w f ((SV.c c :: vs).map (SV.den E)).toArray:=by
   intro hmeth
   have hn:C.P.types.size+Made.depth=(C.P.types.size+99)+1:=rfl
   have hm2:=hmeth (C.P.types.size+99) w
   unfold EntersAt execOp
   rw [hop]
   simp only [resolve,hcl,ht,hargs',Sem.run_bind,Sem.run_pure,Result.andThen_ok,invoke]
   simp only [Array.getElem?_append,List.size_toArray,List.length_cons,List.length_nil]
   simp [callMethod,program,Sem.run,hn,hm2,run_callFunc hf]
   exact ⟨rfl,List.take_of_length_le (by simp)⟩
  rcases hm with hm | ⟨hm,y,off,rfl⟩
  ·obtain ⟨hm1,e,hu⟩:=hm
   rw [Option.any_eq_true] at hm1
   obtain ⟨i,hi,hm1⟩:=hm1
   split at hm1
   ·next m hfind =>
    rw [Bool.and_eq_true] at hm1
    obtain ⟨hpath,hfunc⟩:=hm1
    have hp:m.path.toList=[]:=by simpa using hpath
    rw [hu] at hfunc
    refine fin fun n w=>?_
    split at hfunc
    ·next e' he =>
     cases he
     rw [beq_iff_eq] at hfunc
     unfold method
     simp only [Sem.run_bind,typeInfo,program,Sem.run,Result.andThen_ok,hi,hfind,hp,follow,Sem.run_pure,hfunc,receiverAt,run_underlying hu,Place.get]
    ·next e' he =>
     cases he
     rw [beq_iff_eq] at hfunc
     unfold method
     simp only [Sem.run_bind,typeInfo,program,Sem.run,Result.andThen_ok,hi,hfind,hp,follow,Sem.run_pure,hfunc,receiverAt,run_underlying hu,Place.get]
    ·cases hfunc
   ·cases hm1
  ·unfold MethP at hm
   rw [Option.any_eq_true] at hm
   obtain ⟨i,hi,hm1⟩:=hm
   split at hm1
   ·next m hfind =>
    rw [Bool.and_eq_true] at hm1
    obtain ⟨hpath,hfunc⟩:=hm1
    rw [beq_iff_eq] at hfunc
    split at hpath
    ·next s hp =>
     rw [Bool.and_eq_true] at hpath
     obtain ⟨hder,hat⟩:=hpath
     unfold atHead at hat
     split at hat
     ·next fs hst =>
      split at hat
      ·next fd hfd =>
       simp only [Bool.and_eq_true,beq_iff_eq] at hat
       obtain ⟨⟨ho,hsz⟩,hpt⟩:=hat
       split at hsz
       ·next ii hii =>
        have hsz:ii.size≠0:=by simpa using hsz
        split at hpt
        ·cases hpt
        ·next d hnp hd =>
         refine fin fun n w=>?_
         unfold method
         have hrec:∀ (ad:Addr) (w:World),(receiverAt fd.type (.var ad) true none).run C.P w = .ok (.pointer (some ad)) w:=by
          intro ad w
          unfold receiverAt
          simp only [Sem.run_bind,run_underlying hd,Result.andThen_ok]
          rfl
         have hpe:m.path.isEmpty=false:=by
          cases hh:m.path.isEmpty with
          | false=>rfl
          | true=>rw [Array.isEmpty_iff] at hh;rw [hh] at hp;cases hp
         have hfp:∀ (ad:Addr) (w:World),(fieldPlace ad fd).run C.P w = .ok ad w:=by
          intro ad w
          unfold fieldPlace
          simp only [Sem.run_bind,run_sizeOf hii,Result.andThen_ok,if_neg hsz,Sem.run_pure,ho,Addr.add,if_true]
         simp only [Sem.run_bind,typeInfo,program,Sem.run,Result.andThen_ok,hi,hfind,hp,follow,run_underlying hst,hfd,hder,if_true,Place.get,Sem.run_pure,SC.den,asAddr,hfp,hfunc,hpe]
         simp [hrec]
        ·cases hpt
       ·cases hsz
      ·cases hat
     ·cases hat
    ·cases hpath
   ·cases hm1
theorem call_ok {o:Oper} {f:Nat} {vs:List SV} {K:Act→World→Prop} {Q:Exit→Act→World→Prop} {Kt:St→Prop} (hrun:EntersAt C.P o a w f (vs.map (SV.den E)).toArray)
  (hs:SatA C.B C.W C.w0 E S a w) (h:CallVC C f vs o.dst S Kt)
  (hK:∀ E' S' a' w',SatA C.B C.W C.w0 E' S' a' w'→Kt S'→K a' w'):o.wp C.P a w K Q:=by
 unfold EntersAt at hrun
 unfold Oper.wp
 rw [hrun]
 exact (h E a w hs).mono fun e w' ⟨v,he,E',S',h1,h2⟩=>by
  subst he
  exact hK E' S' _ _ h1 h2
theorem op_ok (hT:TOk C.P C.tab.T) {o:Oper} {op:IOp} (hc:compOp C.tab.T o.op=some op) {vc:Prop} {out:Out} (h:(stepOut op S).Sel vc out) (hvc:vc) (hs:SatA C.B C.W C.w0 E S a w)
  {K:Act→World→Prop} {Q:Exit→Act→World→Prop} (hK:∀ E1 a1 w1,SatA C.B C.W C.w0 E1 (S.app o.dst out) a1 w1→K a1 w1):o.wp C.P a w K Q:=by
 obtain ⟨v,w',hr,haft⟩:=step_ok hT hc h hvc hs.sat
 obtain ⟨E',h'⟩:=satA_after hs (fun i hi=>by cases hi) haft o.dst
 unfold Oper.wp
 rcases hr with hr | ⟨hr,rfl⟩
 ·rw [hr];exact hK E' _ _ h'
 ·rw [hr];exact hK E' _ _ h'
theorem exec_ok {fn:Func} (hT:C.tab.Ok C.P) (hr:compR C.tab.T fn.results.toList=some C.rs):∀ (n:Nat) (k:List KI) (S:St),exec C n k S→∀ k',RelK C k k'→∀ E a w,SatA C.B C.W C.w0 E S a w→aft C.P fn C.R k' .normal a w:=by
 intro n
 induction n with
 | zero=>intro k S h;exact h.elim
 | succ n ih =>
  intro k S h k' hk E a w hs
  have hfin:finS C S→bodyPost C.P fn C.R .ret a w:=fin_ok hT.1 hr hs
  cases hk with
  | nil =>
   simp only [exec] at h
   have:=hfin h
   exact this
  | @blk id k k' hk =>
   simp only [exec] at h
   exact ih _ _ h _ hk E a w hs
  | @back ι I μ i k k' hk =>
   simp only [exec] at h
   obtain ⟨j,hj,hle⟩:=h
   obtain ⟨E',hs'⟩:=hle E a w hs
   exact ⟨μ j,hj,j,E',rfl,hs'⟩
  | @ops l all r k k' hl hcalls hk =>
   cases r with
   | nil =>
    simp only [compList,Option.some.injEq] at hl
    subst hl
    simp only [exec] at h
    exact ih _ _ h _ hk E a w hs
   | cons o r =>
    simp only [compList,Option.bind_eq_some_iff,Option.map_eq_some_iff] at hl
    obtain ⟨i,hi,l',hl',rfl⟩:=hl
    simp only [callsIn,Bool.and_eq_true] at hcalls
    simp only [compIO,Option.bind_eq_some_iff] at hi
    obtain ⟨op,hop,hi⟩:=hi
    -- one operation that runs
    have run1:∀ (E:Env) (S:St) (g:Option (Nat×Bool)),SatA C.B C.W C.w0 E S a w→callsIn C.tab.F [⟨o.dst,op,g⟩]=true→runOp C (exec C n) ⟨o.dst,op,g⟩ l' k S→o.wp C.P a w (wpList C.P all (aft C.P fn C.R k') r) (aft C.P fn C.R k'):=by
     intro E S g hs hcf h
     have hrest:∀ E' S' a' w',SatA C.B C.W C.w0 E' S' a' w'→exec C n (.ops l' :: k) S'→wpList C.P all (aft C.P fn C.R k') r a' w':=by
      intro E' S' a' w' hs' h'
      exact ih _ _ h' (.ops all r :: k') (.ops hl' hcalls.2 hk) E' a' w' hs'
     unfold runOp at h
     split at h
     ·next f xs hcall =>
      split at h
      ·next vs hvs =>
       simp only at hcall
       subst hcall
       have hf:f∈C.tab.F:=by simpa [callsIn] using hcf
       exact call_ok (enters_call (hT.2 f hf) hop hvs hs.sat) hs h hrest
      ·exact h.elim
     ·next x xs hcall =>
      simp only at hcall
      subst hcall
      split at h
      ·next f l l' vs hx hvs=>exact call_ok (enters_callv h.1 hop hx hvs hs.sat) hs h.2 hrest
      ·exact h.elim
     ·next name x xs hcall =>
      simp only at hcall
      subst hcall
      split at h
      ·next t c vs hx hvs =>
       obtain ⟨f,hm,hf,h⟩:=h
       exact call_ok (enters_calli hf hm hop hx hvs hs.sat) hs h hrest
      ·exact h.elim
     ·have fin:∀ vc out,(stepOut op S).Sel vc out→vc→exec C n (.ops l' :: k) (S.app o.dst out)→o.wp C.P a w (wpList C.P all (aft C.P fn C.R k') r) (aft C.P fn C.R k'):=fun vc out hsel hvc h =>
       op_ok hT.1 hop hsel hvc hs (fun E1 a1 w1 h1=>hrest E1 _ a1 w1 h1 h)
      simp only at h
      unfold thenS at h
      split at h
      ·next vc out hst=>exact fin vc out (by rw [hst];exact ⟨rfl,rfl⟩) h.1 h.2
      ·next c vc out vc' out' hst =>
       by_cases hcc:c
       ·exact fin vc out (by rw [hst];exact Or.inl ⟨hcc,rfl,rfl⟩) (h.1 hcc).1 (h.1 hcc).2
       ·exact fin vc' out' (by rw [hst];exact Or.inr ⟨hcc,rfl,rfl⟩) (h.2 hcc).1 (h.2 hcc).2
      ·exact h o hop rfl E a w hs _ _ hrest
    have skip1:∀ (E:Env) (S:St),SatA C.B C.W C.w0 E S a w→exec C n (.ops l' :: k) (S.skipT o.dst)→wpList C.P all (aft C.P fn C.R k') r (a.put o.dst undef) w:=by
     intro E S hs h'
     exact ih _ _ h' (.ops all r :: k') (.ops hl' hcalls.2 hk) E _ w (satA_skip hs o.dst)
    show wpList C.P all (aft C.P fn C.R k') (o :: r) a w
    cases hg:o.guard with
    | none =>
     rw [hg] at hi
     simp only [Option.some.injEq] at hi
     subst hi
     simp only [exec] at h
     exact list_unfold true (by simp [Region.wanted,hg]) (fun _=>run1 E S none hs (by simpa [callsIn] using hcalls.1) h) (fun h=>by cases h)
    | some jw =>
     obtain ⟨j,want⟩:=jw
     rw [hg] at hi
     simp only [Option.map_eq_some_iff] at hi
     obtain ⟨g,hgd,rfl⟩:=hi
     simp only [exec] at h
     have hcg:∀ g',callsIn C.tab.F [⟨o.dst,op,g'⟩]=true:=fun g'=>by simpa [callsIn] using hcalls.1
     have hrest:∀ E' S' a' w',SatA C.B C.W C.w0 E' S' a' w'→exec C n (.ops l' :: k) S'→wpList C.P all (aft C.P fn C.R k') r a' w':=by
      intro E' S' a' w' hs' h'
      exact ih _ _ h' (.ops all r :: k') (.ops hl' hcalls.2 hk) E' a' w' hs'
     -- a slot that hangs on a guard
     have gdSat:∀ (e:Bool) (val:SV),e=false→SatA C.B C.W C.w0 E ⟨S.nt,S.putT o.dst (.gd g want e val),S.own,S.arrs,S.facts,S.nid⟩ (a.put o.dst undef) w:=by
      intro e val he
      refine ⟨hs.1,fun E' hE' ho'=>?_⟩
      have h1:=sat_after (tmpl:=.gd g want e val) (hs.2 E' hE' ho') fits_nil.G o.dst S.nid
      have ed:(SV.gd g want e val).den E' = undef:=by simp only [SV.den,he,Bool.false_eq_true,if_false]
      rw [ed] at h1
      exact h1
     have gdAft:∀ (e:Bool) (val:SV) (ch:List (Nat×Bool×Bool)) (sl:List Nat) (v:Value) (w' : World),e=true→(∀ E',Sat C.B C.W C.w0 E' S a w→Sat C.B C.W C.w0 E' (S.resS ch sl) a w)→After C.B C.W C.w0 E [] (S.resS ch sl) a w val 0 [] [] v w' →
       SatA C.B C.W C.w0 E ⟨S.nt,S.putT o.dst (.gd g want e val),S.own,S.arrs,S.facts,S.nid⟩ (a.put o.dst v) w':=by
      rintro e val ch sl v w' he hres ⟨N,hN,haft⟩
      refine ⟨hs.1,fun E' hE' ho'=>?_⟩
      have h1:=hs.2 E' hE' ho'
      obtain ⟨hv,hf⟩:=haft E' (hres E' h1) (fun x hx=>by cases hx) (fun x hx=>by have:=hx.1;have:=hx.2;omega)
      have h2:=sat_after (tmpl:=.gd g want e val) h1 (eff:=[]) (arrs':=[]) hf o.dst S.nid
      have ed:(SV.gd g want e val).den E' = val.den E':=by simp only [SV.den,he,if_true]
      rw [ed] at h2
      rw [hv]
      exact h2
     have spec:∀ Z:Prop,specS C (exec C n) ⟨o.dst,op,some (g,want)⟩ l' k S g want Z (chain S.tmps 20 g want)→(Z→wpList C.P all (aft C.P fn C.R k') (o :: r) a w)→wpList C.P all (aft C.P fn C.R k') (o :: r) a w:=by
      intro Z h hZ
      cases hch:chain S.tmps 20 g want with
      | nil =>
       rw [hch] at h
       exact hZ h
      | cons p ch =>
       obtain ⟨g0,w0',e⟩:=p
       rw [hch] at h
       have hwant:=wanted_chain hs.sat hg hgd hch
       have hall:chainP S.tmps 20 g want→e=true→allT ((g0,w0',e) :: ch):=by
        intro hcp he
        rw [← hch]
        refine chain_allT 20 g want hcp ?_
        intro g1 w1 e1 ch1 h1
        rw [hch] at h1
        cases h1
        exact he
       unfold specS at h
       simp only at h
       cases hps:pureSlots op with
       | some sl =>
        rw [hps] at h
        obtain ⟨hcp,hrp,h⟩:=h
        unfold specO at h
        split at h
        ·next vc val hst =>
         obtain ⟨hvc,h⟩:=h
         refine list_unfold e hwant (fun he=>?_) (fun he=>?_)
         ·have hres:∀ E',Sat C.B C.W C.w0 E' S a w→Sat C.B C.W C.w0 E' (S.resS ((g0,w0',e) :: ch) sl) a w:=fun E' h'=>sat_resS h' (hall hcp he) hrp
          obtain ⟨v,w',hr1,haft⟩:=step_ok (E:=E) hT.1 hop (vc:=vc) (out:=⟨val,[],[],0⟩) (by rw [hst];exact ⟨rfl,rfl⟩) (hvc he) (hres E hs.sat)
          have hsat:=gdAft e val _ sl v w' he hres haft
          unfold Oper.wp
          rcases hr1 with hr1 | ⟨hr1,rfl⟩
          ·rw [hr1];exact hrest E _ _ _ hsat h
          ·rw [hr1];exact hrest E _ _ _ hsat h
         ·exact hrest E _ _ _ (gdSat e val he) h
        ·exact h.elim
       | none =>
        rw [hps] at h
        obtain ⟨hcp,h⟩:=h
        unfold specC at h
        split at h
        ·next f xs hcall =>
         rcases h with ⟨hrp,h⟩ | h
         ·split at h
          ·next vs hvs =>
           rcases h with ⟨tmpl,hcr,h⟩ | h
           ·refine list_unfold e hwant (fun he=>?_) (fun he=>?_)
            ·have hres:∀ E',Sat C.B C.W C.w0 E' S a w→Sat C.B C.W C.w0 E' (S.resS ((g0,w0',e) :: ch) (slotL xs)) a w:=fun E' h'=>sat_resS h' (hall hcp he) hrp
             have hf:f∈C.tab.F:=by
              have:=hcg none
              simpa [callsIn] using this
             have hrun:=enters_call (hT.2 f hf) hop hvs (hres E hs.sat)
             unfold EntersAt at hrun
             unfold Oper.wp
             rw [hrun]
             refine (hcr he E a w (hres E hs.sat)).mono ?_
             rintro e' w' ⟨v,rfl,haft⟩
             exact hrest E _ _ _ (gdAft e tmpl _ _ v w' he hres haft) h
            ·exact hrest E _ _ _ (gdSat e tmpl he) h
           ·exact hZ h
          ·exact h.elim
         ·exact hZ h
        ·exact hZ h
     split at h
     ·next b hlk =>
      have hw:=wanted_of hs.sat hg hgd hlk (by exact den_v _ _)
      refine list_unfold (b == want) hw (fun hb=>?_) (fun hb=>?_)
      ·rw [if_pos (by simpa using hb)] at h
       exact run1 E S (some (g,want)) hs (hcg _) h
      ·rw [if_neg (by simpa using hb)] at h
       exact skip1 E S hs h
     ·next b hlk =>
      refine spec _ h fun h=>?_
      have hw:=wanted_of hs.sat hg hgd hlk (by exact den_b _ _)
      refine list_unfold (b == want) hw (fun hb=>?_) (fun hb=>?_)
      ·have hb:b=want:=by simpa using hb
       obtain ⟨h1,h2⟩:=h.1 hb
       exact run1 E _ (some (g,want)) (satA_resA hs hlk hb h1) (hcg _) h2
      ·have hb:b = !want:=by cases b <;> cases want <;> simp_all
       obtain ⟨h1,h2⟩:=h.2 hb
       exact skip1 E _ (satA_resA hs hlk hb h1) h2
     ·exact spec _ h fun h=>h.elim
     ·exact h.elim
  | @code c x k k' hc hk =>
   have hcc:c.strip≠.no→compC C.tab x=some c.strip:=fun hne=>by
    cases hx:compC C.tab x with
    | none=>rw [hx] at hc;exact absurd hc.symm hne
    | some v=>rw [hx] at hc;exact congrArg some hc
   have up:∀ {x:Code} {c:IR},compC C.tab x=some c→(compC C.tab x).getD .no=c:=fun h=>by rw [h];rfl
   cases c with
   | no=>simp only [exec] at h;exact h.elim
   | mark j c =>
    simp only [exec,MarkVC] at h
    exact ih _ _ h _ (.code hc hk) E a w hs
   | kill ts c =>
    simp only [exec] at h
    exact ih _ _ h _ (.code hc hk) E a w (satA_kill hs ts)
   | skip =>
    simp only [exec] at h
    replace hc:=hcc (by simp only [IR.strip,ne_eq,reduceCtorEq,not_false_eq_true])
    cases x <;> simp only [compC,IR.strip,reduceCtorEq,Option.map_eq_some_iff,and_false,exists_false,Option.some.injEq] at hc
    case skip=>exact wp_skip (ih _ _ h _ hk E a w hs)
    case region id ops d =>
     cases d <;> simp only [compC,Option.bind_eq_some_iff] at hc <;> obtain ⟨_,_,hc⟩:=hc <;> split at hc <;> simp at hc
   | ret =>
    simp only [exec] at h
    replace hc:=hcc (by simp only [IR.strip,ne_eq,reduceCtorEq,not_false_eq_true])
    cases x <;> simp only [compC,IR.strip,reduceCtorEq,Option.map_eq_some_iff,and_false,exists_false,Option.some.injEq] at hc
    case ret=>exact wp_ret (aft_ret _ _ _ (hfin h))
    case region id ops d =>
     cases d <;> simp only [compC,Option.bind_eq_some_iff] at hc <;> obtain ⟨_,_,hc⟩:=hc <;> split at hc <;> simp at hc
   | exit id =>
    simp only [exec] at h
    replace hc:=hcc (by simp only [IR.strip,ne_eq,reduceCtorEq,not_false_eq_true])
    cases x <;> simp only [compC,IR.strip,reduceCtorEq,Option.map_eq_some_iff,and_false,exists_false,Option.some.injEq,IR.exit.injEq] at hc
    case exit id' =>
     subst hc
     split at h
     ·next r hp =>
      obtain ⟨r',hr',h2⟩:=popTo_ok (fn:=fn) hk hp
      exact wp_exit (h2 a w (ih _ _ h r' hr' E a w hs))
     ·exact h.elim
    case region id ops d =>
     cases d <;> simp only [compC,Option.bind_eq_some_iff] at hc <;> obtain ⟨_,_,hc⟩:=hc <;> split at hc <;> simp at hc
   | ops l =>
    simp only [exec] at h
    replace hc:=hcc (by simp only [IR.strip,ne_eq,reduceCtorEq,not_false_eq_true])
    cases x <;> simp only [compC,IR.strip,reduceCtorEq,Option.map_eq_some_iff,and_false,exists_false,Option.some.injEq] at hc
    case region id ops d =>
     cases d with
     | true=>simp only [compC,Option.bind_eq_some_iff] at hc;obtain ⟨_,_,hc⟩:=hc;split at hc <;> simp at hc
     | false =>
      simp only [compC,Option.bind_eq_some_iff] at hc
      obtain ⟨l',hl',hc⟩:=hc
      split at hc
      ·next hcl =>
       simp only [Option.some.injEq,IR.ops.injEq] at hc
       subst hc
       refine wp_region ?_
       have e:=wpOps_eq_wpList (P:=C.P) (ops:=ops) (Q:=aft C.P fn C.R k') ops.toList 0 (fun j=>by simp)
       simp only [Array.length_toList] at e
       rw [List.range_eq_range',e]
       exact ih _ _ h (.ops ops ops.toList :: k') (.ops hl' hcl hk) E a w hs
      ·cases hc
   | draw l =>
    simp only [exec] at h
    replace hc:=hcc (by simp only [IR.strip,ne_eq,reduceCtorEq,not_false_eq_true])
    cases x <;> simp only [compC,IR.strip,reduceCtorEq,Option.map_eq_some_iff,and_false,exists_false,Option.some.injEq] at hc
    case region id ops d =>
     cases d with
     | false=>simp only [compC,Option.bind_eq_some_iff] at hc;obtain ⟨_,_,hc⟩:=hc;split at hc <;> simp at hc
     | true =>
      refine wp_mono (h id ops hc E a w hs) ?_
      rintro e a' w' ⟨rfl,E',S',hs',h'⟩
      exact ih _ _ h' k' hk E' a' w' hs'
   | seq p q =>
    simp only [exec] at h
    replace hc:=hcc (by simp only [IR.strip,ne_eq,reduceCtorEq,not_false_eq_true])
    cases x <;> simp only [compC,IR.strip,reduceCtorEq,Option.map_eq_some_iff,and_false,exists_false,Option.some.injEq,IR.seq.injEq] at hc
    case seq x y =>
     obtain ⟨_,hx,rfl,hy⟩:=hc
     refine wp_seq (wp_mono (ih _ _ h (.code x :: .code y :: k') (.code (up hx) (.code hy hk)) E a w hs) ?_)
     intro e a' w' h'
     cases e <;> exact h'
    case region id ops d =>
     cases d <;> simp only [compC,Option.bind_eq_some_iff] at hc <;> obtain ⟨_,_,hc⟩:=hc <;> split at hc <;> simp at hc
   | cond t p q =>
    simp only [exec] at h
    replace hc:=hcc (by simp only [IR.strip,ne_eq,reduceCtorEq,not_false_eq_true])
    cases x <;> simp only [compC,IR.strip,reduceCtorEq,Option.map_eq_some_iff,and_false,exists_false,Option.some.injEq,IR.cond.injEq] at hc
    case cond y x1 x2 =>
     obtain ⟨_,hy,rfl,hx1,hx2⟩:=hc
     split at h
     ·next b hb =>
      have hev:=(opd_den hs.sat hy hb).trans (by first | exact (den_c _ _).trans (den_v _ _) | exact (den_c _ _).trans (den_b _ _))
      refine wp_cond (t:=b) hev ?_
      cases b with
      | true=>exact ih _ _ (by simpa using h) (.code x1 :: k') (.code hx1 hk) E a w hs
      | false=>exact ih _ _ (by simpa using h) (.code x2 :: k') (.code hx2 hk) E a w hs
     ·next b hb =>
      have hev:=(opd_den hs.sat hy hb).trans (by first | exact (den_c _ _).trans (den_v _ _) | exact (den_c _ _).trans (den_b _ _))
      refine wp_cond (t:=b) hev ?_
      cases b with
      | true=>exact ih _ _ (h.1 rfl) (.code x1 :: k') (.code hx1 hk) E a w hs
      | false=>exact ih _ _ (h.2 rfl) (.code x2 :: k') (.code hx2 hk) E a w hs
     ·exact h.elim
    case region id ops d =>
     cases d <;> simp only [compC,Option.bind_eq_some_iff] at hc <;> obtain ⟨_,_,hc⟩:=hc <;> split at hc <;> simp at hc
   | blk id p =>
    simp only [exec] at h
    replace hc:=hcc (by simp only [IR.strip,ne_eq,reduceCtorEq,not_false_eq_true])
    cases x <;> simp only [compC,IR.strip,reduceCtorEq,Option.map_eq_some_iff,and_false,exists_false,Option.some.injEq,IR.blk.injEq] at hc
    case block id' x =>
     obtain ⟨_,hx,rfl,rfl⟩:=hc
     refine wp_block (wp_mono (ih _ _ h (.code x :: .blk id' :: k') (.code (up hx) (.blk hk)) E a w hs) ?_)
     intro e a' w' h'
     cases e <;> exact h'
    case region id ops d =>
     cases d <;> simp only [compC,Option.bind_eq_some_iff] at hc <;> obtain ⟨_,_,hc⟩:=hc <;> split at hc <;> simp at hc
   | loop p =>
    simp only [exec] at h
    replace hc:=hcc (by simp only [IR.strip,ne_eq,reduceCtorEq,not_false_eq_true])
    cases x <;> simp only [compC,IR.strip,reduceCtorEq,Option.map_eq_some_iff,and_false,exists_false,Option.some.injEq,IR.loop.injEq] at hc
    case loop x =>
     obtain ⟨_,hx,rfl⟩:=hc
     obtain ⟨ι,I,μ,i0,hle,hround⟩:=h
     obtain ⟨E0,hs0⟩:=hle E a w hs
     refine wp_loop_ghost (Inv C ι I μ) (μ i0) ⟨i0,E0,rfl,hs0⟩ ?_
     rintro m a1 w1 ⟨i,E1,rfl,hs1⟩
     refine wp_mono (ih _ _ (hround i) (.code x :: .back _ :: k') (.code (up hx) (.back hk)) E1 a1 w1 hs1) ?_
     intro e a' w' h'
     cases e <;> exact h'
    case region id ops d =>
     cases d <;> simp only [compC,Option.bind_eq_some_iff] at hc <;> obtain ⟨_,_,hc⟩:=hc <;> split at hc <;> simp at hc
theorem calls_of_exec {f:Nat} {fn:Func} {x:Code} {c:IR} {args:List Value} {w:World} {S:St} {E:Env} (n:Nat) (hT:C.tab.Ok C.P) (hf:C.P.funcs[f]? = some fn) (hb:fn.body=some x)
  (hc:compC C.tab x=some c.strip) (hr:compR C.tab.T fn.results.toList=some C.rs) (hs:SatA C.B C.W C.w0 E S ⟨args.toArray++Array.replicate (fn.ntmps - args.length) undef,[]⟩ w)
  (h:exec C n [.code c] S):Calls C.P f args.toArray w C.R:=by
 refine calls_of_wp hf hb ?_
 have:=exec_ok (fn:=fn) hT hr n _ S h [.code x] (.code (by rw [hc];rfl) .nil) E _ w hs
 refine wp_mono (show x.wp C.P (aft C.P fn C.R []) _ w by rw [List.size_toArray];exact this) ?_
 intro e a' w' h'
 exact h'
end
end Go.Proofs.Ytcloeignccpljaa.Z
namespace Go.Proofs.Ytcloeignccpljaa.Z
open Go Go.RowKit
section
variable (P:Program)
def flatOf (t:Nat) (d:TypeDesc):List Bool:=if isAggD d=true∧P.eqGuardType P.depth t=false then (flatTy P 8 t).getD [] else []
def tiOf (A:List Nat) (t:Nat):Option (Nat×TI) :=
 match P.underlying t,P.info? t with
 | some d,some i=>match i.zero with
  | some z=>some (t,⟨d,z,i.size,i.bytes,flatOf P t d,memB A t⟩)
  | none=>none
 | _,_=>none
def fnOkB (f:Nat):Bool:=match P.funcs[f]? with
 | some fn=>!(fn.name == "runtime.NumGoroutine") && !fn.body.isNone
 | none=>false
def mkTab (A:List Nat):Tab:=⟨(List.range P.types.size).filterMap (tiOf P A),(List.range P.funcs.size).filter (fnOkB P)⟩
theorem fnOk_of {f:Nat} (h:fnOkB P f=true):FnOk P f:=by
 unfold fnOkB at h
 split at h
 ·next fn hfn =>
  simp only [Bool.and_eq_true,Bool.not_eq_true'] at h
  exact ⟨fn,hfn,h.1,h.2⟩
 ·cases h
theorem look_filterMap {f:Nat→Option (Nat×TI)} (hf:∀ t p,f t=some p→p.1=t):∀ (l:List Nat) (t:Nat) (ti:TI),look (l.filterMap f) t=some ti→f t=some (t,ti)
 | [],t,ti,h=>by cases h
 | x :: l,t,ti,h=>by
  rw [List.filterMap_cons] at h
  split at h
  ·exact look_filterMap hf l t ti h
  ·next p hp =>
   obtain ⟨k,v⟩:=p
   have:=hf x _ hp
   simp only at this
   subst this
   rw [look_cons] at h
   split at h
   ·next e =>
    subst e
    simp only [Option.some.injEq] at h
    subst h
    exact hp
   ·exact look_filterMap hf l t ti h
theorem mkTab_ok (A:List Nat):(mkTab P A).Ok P:=by
 refine ⟨?_,?_⟩
 ·intro t ti h
  have h1:=look_filterMap (f:=tiOf P A) (fun t p hp=>by
   unfold tiOf at hp
   split at hp
   ·split at hp
    ·simp only [Option.some.injEq] at hp
     subst hp
     rfl
    ·cases hp
   ·cases hp) _ t ti h
  unfold tiOf at h1
  split at h1
  ·next d i hu hi =>
   split at h1
   ·next z hz =>
    simp only [Option.some.injEq,Prod.mk.injEq,true_and] at h1
    subst h1
    refine ⟨hu,by simp [hi,hz],?_⟩
    intro hfl
    simp only at hfl ⊢
    unfold flatOf at hfl ⊢
    split at hfl
    ·next hc =>
     rw [if_pos hc]
     cases hk:flatTy P 8 t with
     | none=>rw [hk] at hfl;exact absurd rfl hfl
     | some ks=>exact ⟨hc.2,rfl⟩
    ·exact absurd rfl hfl
   ·cases h1
  ·cases h1
 ·intro f hf
  exact fnOk_of P (List.mem_filter.1 hf).2
end
section
variable {C:Ctx} {S:St} {f:Nat} {vs:List SV} {dst:Option Nat} {K:St→Prop}
def CR (C:Ctx) (f:Nat) (vs:List SV) (S:St) (ks:List Nat) (tmpl:SV) (nx:Nat) (eff:Own) (arrs' : List (Nat×Fm ArrF)):Prop :=
 ∀ E a w,Sat C.B C.W C.w0 E S a w→Calls C.P f (vs.map (SV.den E)).toArray w fun e w'=>∃ v,e = .returned v∧After C.B C.W C.w0 E ks S a w tmpl nx eff arrs' v w'
def St.call (S:St) (dst:Option Nat) (tmpl:SV) (nx:Nat) (eff:Own) (arrs' : List (Nat×Fm ArrF)):St :=
 ⟨S.nt,S.putT dst tmpl,mergeL eff S.own,mergeL arrs' S.arrs,S.facts,S.nid+nx⟩
theorem call_intro {ks:List Nat} {tmpl:SV} {nx:Nat} {eff:Own} {arrs' : List (Nat×Fm ArrF)} (hrule:CR C f vs S ks tmpl nx eff arrs') (hks:∀ i∈ks,i<S.nid) (hk:K (S.call dst tmpl nx eff arrs')):CallVC C f vs dst S K:=by
 intro E a w hs
 refine (hrule E a w hs.sat).mono ?_
 rintro e w' ⟨v,rfl,h⟩
 obtain ⟨E',h'⟩:=satA_after hs hks h dst
 exact ⟨v,rfl,E',_,h',hk⟩
end
theorem effOk_below {E:Env} {own:Own} {H:Nm→PH} {w w' : World} (h:Below w.heap.size w w'):EffOk E own H w w' [] :=
 ⟨h.os,h.tape,h.output,h.size,fun n hn _=>h.block n hn,fun _=>emp,fun x b h=>by simp [atN,look] at h,fun x y b c h=>by simp [atN,look] at h,fun x b h=>by simp [atN,look] at h⟩
section
variable {C:Ctx} {S:St} {f:Nat} {vs:List SV}
theorem cr_val (tmpl:SV) (v:Value) (hv:∀ E,tmpl.den E=v)
  (hrule:∀ E a w,Sat C.B C.W C.w0 E S a w→Calls C.P f (vs.map (SV.den E)).toArray w fun e w'=>e = .returned v∧Below w.heap.size w w'):CR C f vs S [] tmpl 0 [] []:=by
 intro E a w hs
 refine (hrule E a w hs).mono ?_
 rintro e w' ⟨rfl,hb⟩
 exact ⟨v,rfl,E,hs.one,fun E2 _ _ _=>⟨(hv E2).symm,Fits.G ⟨fun H _=>effOk_below hb,fun _ _ x A h=>by simp [atN,look] at h⟩⟩⟩
end
theorem Arr.lenM {α:Type} {w:World} {enc:α→List Value} {s:Nat} {v:Value} {xs:List α} (h:Arr w enc s v xs):xs.length≤maxLen:=by
 obtain ⟨_,cap,_,h1,h2,_⟩:=h
 omega
def arrOf {α:Type} (enc:α→List Value) (s:Nat) (xs:List α) (d:α) (low:Nat:=0):ArrF:=⟨xs.length,s,fun k=>(enc (xs.getD k d)).map .v,low⟩
theorem arrAt_of {α:Type} {E:Env} {w:World} {x:Nm} {s:Nat} {enc:α→List Value} {xs:List α} {d:α} (T:EncT enc s) (h:Arr w enc s (E.χ x) xs):ArrAt E w x (arrOf enc s xs d):=by
 obtain ⟨ba,cap,hv,hl,hm,hc⟩:=h
 refine ⟨ba,cap,hv,hl,hm,?_⟩
 rcases hc with h | ⟨b,off,hb,hc⟩
 ·left;rw [h];rfl
 ·right
  refine ⟨b,off,hb,Nat.zero_le _,fun k hk=>⟨by simp only [arrOf,List.length_map];exact T.len _,fun j u hu=>?_⟩⟩
  have hx:xs[k]? = some (xs.getD k d):=by rw [List.getD_eq_getElem?_getD,List.getElem?_eq_getElem hk];rfl
  simp only [arrOf,List.getElem?_map,Option.map_eq_some_iff] at hu
  obtain ⟨u',hu',rfl⟩:=hu
  rw [den_v]
  exact ⟨hc k _ hx j u' hu',T.one _ u' (List.mem_of_getElem? hu')⟩
theorem arr_of {α:Type} {E:Env} {w:World} {x:Nm} {s:Nat} {enc:α→List Value} {xs:List α} {d:α} {low:Nat} (h:ArrAt E w x (arrOf enc s xs d low)):Arr w enc s (E.χ x) xs:=by
 obtain ⟨ba,cap,hv,hl,hm,hc⟩:=h
 refine ⟨ba,cap,hv,hl,hm,?_⟩
 rcases hc with h | ⟨b,off,hb,_,hc⟩
 ·left;exact List.eq_nil_of_length_eq_zero h
 ·right
  refine ⟨b,off,hb,fun k y hy j u hu=>?_⟩
  have hk:k<xs.length:=(List.getElem?_eq_some_iff.1 hy).1
  have he:xs.getD k d=y:=by rw [List.getD_eq_getElem?_getD,hy];rfl
  have:=((hc k hk).2 j (.v u) (by simp only [arrOf,he,List.getElem?_map,hu];rfl)).1
  rw [den_v] at this
  exact this
def enumT:Nat→List SV→List (Nat×SV)
 | _,[]=>[]
 | i,v :: r=>(i,v) :: enumT (i+1) r
theorem look_enumT:∀ (vs:List SV) (i t:Nat) (v:SV),look (enumT i vs) t=some v→∃ j,t=i+j∧vs[j]? = some v
 | [],i,t,v,h=>by cases h
 | x :: r,i,t,v,h=>by
  simp only [enumT,look_cons] at h
  split at h
  ·next e =>
   subst e
   simp only [Option.some.injEq] at h
   subst h
   exact ⟨0,rfl,rfl⟩
  ·obtain ⟨j,e,hj⟩:=look_enumT r (i+1) t v h
   exact ⟨j+1,by omega,hj⟩
def InOk (C:Ctx) (E:Env) (own:Own) (arrs:List (Nat×Fm ArrF)) (facts:List (Env→World→Prop)) (w:World):Prop :=
 ∃ H:Nm→PH,(∀ x b,atN own x=some b→b.den E x (H x))∧(∀ x y b c,atN own x=some b→atN own y=some c→x≠y→∀ n,H x n=none∨H y n=none) ∧
  (∀ x b,atN own x=some b→∀ n o,H x n=some o→w.heap[n]? = some o∧C.W n) ∧
  ∀ w' : World,(∀ n,n<w.heap.size→Free own H n→w'.heap[n]? = w.heap[n]?)→(∀ x A,atN arrs x=some A→ArrAt E w' x A)∧∀ φ∈facts,φ E w'
theorem calls_sym {C:Ctx} {f:Nat} {fn:Func} {x:Code} {c:IR} {w:World} (n:Nat) (vs:List SV) (E:Env) (own:Own) (arrs:List (Nat×Fm ArrF)) (facts:List (Env→World→Prop)) (nid nt:Nat) (args:Array Value)
  (hT:C.tab.Ok C.P) (hf:C.P.funcs[f]? = some fn) (hb:fn.body=some x) (hc:compC C.tab x=some c.strip) (hr:compR C.tab.T fn.results.toList=some C.rs) (hn:fn.ntmps=nt)
  (hB:C.B=w.heap.size) (hw:C.w0=w) (hone:OneC E)
  (hargs:∀ E' : Env,AgreeD (· < nid) E E'→(vs.map (SV.den E')).toArray=args) (hnt:vs.length≤nt)
  (hin:∀ E' : Env,AgreeD (· < nid) E E'→InOk C E' own arrs facts w)
  (hex:exec C n [.code c] ⟨nt,enumT 0 vs,own,arrs,facts,nid⟩):Calls C.P f args w C.R:=by
 subst hn
 have e0:=hargs E (.refl _ _)
 have el:args=(vs.map (SV.den E)).toArray:=e0.symm
 rw [el]
 refine calls_of_exec (E:=E) n hT hf hb hc hr ⟨hone,?_⟩ hex
 intro E' hE' ho'
 have e1:=hargs E' hE'
 obtain ⟨H,h1,h2,h3,h4⟩:=hin E' hE'
 refine ⟨?_,rfl,ho',?_,?_,H,⟨h1,h2,fun x b hb n o hn=>⟨(h3 x b hb n o hn).1,Or.inr (h3 x b hb n o hn).2⟩⟩,h4⟩
 ·simp
  omega
 ·intro t v ht
  obtain ⟨j,rfl,hj⟩:=look_enumT vs 0 t v ht
  have hjl:j<vs.length:=(List.getElem?_eq_some_iff.1 hj).1
  refine ⟨by simp only;omega,?_⟩
  have e2:vs.map (SV.den E)=vs.map (SV.den E'):=by
   have:=e0.trans e1.symm
   simpa using this
  simp only [e2,Nat.zero_add,Array.getD_eq_getD_getElem?]
  rw [Array.getElem?_append_left (by simpa using hjl)]
  simp [hj]
 ·rw [hB,hw]
  exact ⟨rfl,rfl,rfl,Nat.le_refl _,fun _ _ _=>rfl⟩
end Go.Proofs.Ytcloeignccpljaa.Z
namespace Go.Proofs.Ytcloeignccpljaa
open Go.RowKit
def cntF:List Bool→Nat
 | []=>0
 | b :: r=>(if b then 0 else 1)+cntF r
theorem cntF_set:∀ (l:List Bool) (i:Nat),l[i]? = some false→cntF (l.set i true)+1=cntF l
 | [],i,h=>by simp at h
 | b :: r,0,h=>by simp at h;subst h;simp [cntF];omega
 | b :: r,i+1,h=>by
  have:=cntF_set r i (by simpa using h)
  simp only [List.set_cons_succ,cntF];omega
theorem cntF_zero:∀ (l:List Bool),cntF l=0→∀ i,l.getD i true=true
 | [],_,i=>by simp
 | b :: r,h,0=>by cases b <;> simp_all [cntF]
 | b :: r,h,i+1=>by
  have:=cntF_zero r (by simp only [cntF] at h;omega) i
  simpa using this
theorem cntF_replicate (n:Nat):cntF (List.replicate n false)=n:=by
 induction n with
 | zero=>rfl
 | succ n ih=>simp only [List.replicate_succ,cntF,ih];simp;omega
section
variable {P:Program} {ops:Array Oper} {Q:Exit→Act→World→Prop}
theorem wpAny_inv {I:Array Bool→Act→World→Prop}
  (hstep:∀ listed a w i,I listed a w→i∈Region.ready .any ops listed→wpOp P ops Q i (I (listed.setIfInBounds i true)) a w)
  (hfin:∀ listed a w,I listed a w→Region.ready .any ops listed=[]→Q .normal a w)
  : ∀ (fuel:Nat) (listed:Array Bool) (a:Act) (w:World),cntF listed.toList≤fuel→I listed a w→wpAny P .any ops Q fuel listed a w:=by
 intro fuel
 induction fuel with
 | zero =>
  intro listed a w hc hI
  have h0:Region.ready .any ops listed=[]:=by
   rw [List.eq_nil_iff_forall_not_mem]
   intro j hj
   obtain ⟨h1,_⟩:=mem_ready.1 hj
   have:=cntF_zero listed.toList (by omega) j
   have e:listed.getD j true=listed.toList.getD j true:=by simp [Array.getD_eq_getD_getElem?]
   rw [e,this] at h1
   cases h1
  exact ⟨h0,hfin _ _ _ hI h0⟩
 | succ fuel ih =>
  intro listed a w hc hI
  refine ⟨fun h0=>hfin _ _ _ hI h0,fun i hi=>wpOp_mono (fun a' w' hI'=>ih _ _ _ ?_ hI') (hstep _ _ _ _ hI hi)⟩
  obtain ⟨h1,_⟩:=mem_ready.1 hi
  have h2:listed.toList[i]? = some false:=by
   rw [Array.getElem?_toList]
   cases h:listed[i]? with
   | none=>rw [Array.getD_eq_getD_getElem?,h] at h1;cases h1
   | some b=>rw [Array.getD_eq_getD_getElem?,h] at h1;simp at h1;rw [h1]
  have:=cntF_set _ _ h2
  rw [Array.toList_setIfInBounds]
  omega
def slotOf (a:Act):Option Tmp→Value
 | some d=>a.tmps.getD d undef
 | none=>undef
def StepsAt (P:Program) (ops:Array Oper) (Q:Exit→Act→World→Prop) (n:Nat) (Φ:Nat→Value→World→Prop) (R:World→World→Prop) (a0:Act) (w1:World):Nat→List Oper→Prop
 | _,[]=>True
 | i,o :: r=>(∀ a w,R w1 w→a.defers=a0.defers→a.tmps.size=a0.tmps.size →
   (∀ t,(∀ j o',j<n→ops[j]? = some o'→o'.dst≠some t)→a.tmps.getD t undef=a0.tmps.getD t undef) →
   (∀ e∈o.after,Region.binds .any e=true→∀ oj,ops[e.on]? = some oj→Φ e.on (slotOf a oj.dst) w) →
   if Region.wanted o (yielded ops a.tmps)=true then o.wp P a w (fun a' w'=>R w w'∧∃ v,a' = a.put o.dst v∧Φ i v w') Q else R w w∧Φ i undef w) ∧
  StepsAt P ops Q n Φ R a0 w1 (i+1) r
theorem StepsAt.get {n:Nat} {Φ:Nat→Value→World→Prop} {R:World→World→Prop} {a0:Act} {w1:World}:∀ (l:List Oper) (k:Nat),StepsAt P ops Q n Φ R a0 w1 k l→∀ j o,l[j]? = some o →
  ∀ a w,R w1 w→a.defers=a0.defers→a.tmps.size=a0.tmps.size →
   (∀ t,(∀ j o',j<n→ops[j]? = some o'→o'.dst≠some t)→a.tmps.getD t undef=a0.tmps.getD t undef) →
   (∀ e∈o.after,Region.binds .any e=true→∀ oj,ops[e.on]? = some oj→Φ e.on (slotOf a oj.dst) w) →
   if Region.wanted o (yielded ops a.tmps)=true then o.wp P a w (fun a' w'=>R w w'∧∃ v,a' = a.put o.dst v∧Φ (k+j) v w') Q else R w w∧Φ (k+j) undef w:=by
 intro l
 induction l with
 | nil=>intro k _ j o h;simp at h
 | cons x r ih =>
  intro k hs j o h
  cases j with
  | zero =>
   simp only [List.getElem?_cons_zero,Option.some.injEq] at h
   subst h
   exact hs.1
  | succ j =>
   have:=ih (k+1) hs.2 j o (by simpa using h)
   rw [show k+(j+1)=k+1+j by omega]
   exact this
end
end Go.Proofs.Ytcloeignccpljaa
