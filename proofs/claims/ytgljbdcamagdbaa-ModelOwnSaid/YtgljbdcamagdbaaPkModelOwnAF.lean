/- ModelOwnSaid: what its proof is made of. No condition. -/
import Derived.Test.YtgljbdcamagdbaaPkModelOwnAE
set_option linter.unusedSimpArgs false
set_option linter.unusedVariables false
namespace Go.Proofs.Ytgljbdcamagdbaa.Z
open Go Go.RowKit
abbrev Nm:=Nat×Nat×Nat
inductive SC where
 | v (x:Value)
 | bo (e:Bool)
 | xv (x:Nm)
 | ptr (x:Nm) (off:Nat)
 | sl (x:Nm) (s o n:Nat) (c:Option Nat)
 | pe (x:Nm) (s e j:Nat)
 | xs (x:Nm) (s o n:Nat) (c:Option Nat)
 | ep (x:Nm) (s e j:Nat)
 | mp (x:Nm)
 | ifc (t:Nat) (c:SC)
 | fn (f:Fn) (l r:List SC)
structure Env where
 ρ:Nm→Nat
 κ:Nm→Nat
 ν:Nm→Bool
 χ:Nm→Value
mutual
def SC.den (E:Env):SC→Value
 | .v x=>x
 | .bo e=>.bool e
 | .xv x=>E.χ x
 | .ptr x off=>.pointer (some ⟨E.ρ x,off,none⟩)
 | .sl x s o n c=>.slice (if E.ν x then none else some ⟨E.ρ x,o * s,none⟩) n (c.getD (E.κ x - o))
 | .pe x s e j=>.pointer (some ⟨E.ρ x,e * s+j,none⟩)
 | .xs x s o n c=>match E.χ x with
  | .slice (some a) _ cap=>.slice (some (a.add (o * s))) n (c.getD (cap - o))
  | .slice none _ cap=>.slice none n (c.getD (cap - o))
  | y=>y
 | .ep x s e j=>match E.χ x with
  | .slice (some a) _ _=>.pointer (some ⟨a.block,a.off+e * s+j,none⟩)
  | _=>.pointer none
 | .mp x=>.map (some (E.ρ x))
 | .ifc t c=>.iface t (SC.den E c)
 | .fn f l r=>.func f (SC.denL E l).toArray (SC.denL E r).toArray
def SC.denL (E:Env):List SC→List Value
 | []=>[]
 | c :: r=>SC.den E c :: SC.denL E r
end
inductive SV where
 | c (x:SC)
 | agg (l:List SC)
 | tup (l:List (Bool×List SC))
 | gd (g:Nat) (want:Bool) (e:Bool) (v:SV)
def den1 (E:Env):Bool×List SC→Value
 | (true,l)=>.agg (l.map (SC.den E)).toArray
 | (false,x :: _)=>x.den E
 | (false,[])=>undef
def SV.den (E:Env):SV→Value
 | .c x=>x.den E
 | .agg l=>.agg (l.map (SC.den E)).toArray
 | .tup l=>.tuple (l.map (den1 E)).toArray
 | .gd _ _ e v=>if e=true then v.den E else undef
inductive Fm (α:Type) where
 | one (a:α)
 | fam (n:Nat) (f:Nat→α)
 | fam2 (n:Nat) (m:Nat→Nat) (f:Nat→Nat→α)
def Fm.get {α:Type}:Fm α→Nat×Nat→Option α
 | .one a,(k,l)=>if k=0∧l=0 then some a else none
 | .fam n f,(k,l)=>if k<n∧l=0 then some (f k) else none
 | .fam2 n m f,(k,l)=>if k<n∧l<m k then some (f k l) else none
def Fm.pk {α:Type}:Fm α→Nat×Nat→Prop×α
 | .one a,(k,l)=>(k=0∧l=0,a)
 | .fam n f,(k,l)=>(k<n∧l=0,f k)
 | .fam2 n m f,(k,l)=>(k<n∧l<m k,f k l)
def Fm.set {α:Type}:Fm α→Nat×Nat→α→Fm α
 | .one _,_,b=>.one b
 | .fam n f,(k,_),b=>.fam n fun x=>if x=k then b else f x
 | .fam2 n m f,(k,l),b=>.fam2 n m fun x y=>if x=k∧y=l then b else f x y
def look {α:Type}:List (Nat×α)→Nat→Option α
 | [],_=>none
 | (k,v) :: l,t=>if k=t then some v else look l t
def setL {α:Type}:List (Nat×α)→Nat→α→List (Nat×α)
 | [],t,v=>[(t,v)]
 | (k,u) :: l,t,v=>if k=t then (k,v) :: l else (k,u) :: setL l t v
def mergeL {α:Type}:List (Nat×α)→List (Nat×α)→List (Nat×α)
 | [],l=>l
 | (k,v) :: r,l=>setL (mergeL r l) k v
def memB:List Nat→Nat→Bool
 | [],_=>false
 | a :: l,k=>if a=k then true else memB l k
def dropL {α:Type} (ks:List Nat):List (Nat×α)→List (Nat×α)
 | []=>[]
 | (k,v) :: l=>if memB ks k=true then dropL ks l else (k,v) :: dropL ks l
def atN {α:Type} (l:List (Nat×Fm α)) (x:Nm):Option α:=match look l x.1 with
 | some F=>F.get x.2
 | none=>none
def pkN {α:Type} (l:List (Nat×Fm α)) (x:Nm):Option (Prop×α):=match look l x.1 with
 | some F=>some (F.pk x.2)
 | none=>none
def setN {α:Type} (l:List (Nat×Fm α)) (x:Nm) (b:α):List (Nat×Fm α):=match look l x.1 with
 | some F=>[(x.1,F.set x.2 b)]
 | none=>[]
abbrev PH:=Nat→Option Obj
def emp:PH:=fun _=>none
def sing (b:Nat) (o:Obj):PH:=fun n=>if n=b then some o else none
inductive KK where
 | int (k:IntKind)
 | arr (n:Nat) (k:IntKind)
 deriving DecidableEq
def KK.len:KK→Nat
 | .int _=>1
 | .arr n _=>n
def KK.enc:KK→List Int→Value
 | .int k,[n]=>.int k n
 | .int _,_=>.bool true
 | .arr _ k,l=>.agg (l.map (Value.int k)).toArray
inductive Blk where
 | no
 | bk (cs:List SC) (ty:Nat)
 | ar (n s:Nat) (at_:Nat→List SC) (ty:Nat)
 | mp (kk:KK) (kd:IntKind) (f:List Int→Option Int)
 | mpe (kk:KK) (kd:IntKind) (f:List Int→Option Int) (a:List Int) (y:Nm)
 | wm (kk:KK) (kd:IntKind) (g:List Int→Int)
 | pr (φ:Env→PH→Prop)
structure MEnt where
 key:List Int
 val:Int
 born:Nat
def MEnt.den (kk:KK) (kd:IntKind) (e:MEnt):MapEntry:=⟨kk.enc e.key,.int kd e.val,e.born⟩
def fnd (a:List Int):List MEnt→Nat→Option (Nat×Int)
 | [],_=>none
 | e :: r,i=>if e.key=a then some (i,e.val) else fnd a r (i+1)
def MapOk (kk:KK) (kd:IntKind) (f:List Int→Option Int) (es:Array MapEntry) (clock:Nat):Prop :=
 ∃ L:List MEnt,es=(L.map (MEnt.den kk kd)).toArray∧(∀ e∈L,e.key.length=kk.len∧e.born<clock)∧(L.map (·.key)).Nodup∧(∀ a,a.length=kk.len→f a=(fnd a L 0).map (·.2))∧(L.map (·.born)).Nodup
def Blk.den (E:Env) (x:Nm):Blk→PH→Prop
 | .no,h=>h=emp
 | .bk cs ty,h=>h=sing (E.ρ x) (.cells (cs.map (SC.den E)).toArray ty (0,0))
 | .ar n s at_ ty,h=>(True∧E.κ x=0∧n=0∧h=emp) ∨
   (E.ν x=false∧(n≤E.κ x∧0<E.κ x)∧E.κ x≤maxLen∧∃ cells:Array Value,h=sing (E.ρ x) (.cells cells ty (0,0))∧cells.size=E.κ x * s ∧
    ∀ e,e<n→(at_ e).length=s∧∀ j u,(at_ e)[j]? = some u→cells[e * s+j]? = some (u.den E)∧(u.den E).oneCell' = true)
 | .mp kk kd f,h=>∃ es clock,h=sing (E.ρ x) (.map es clock)∧MapOk kk kd f es clock
 | .mpe kk kd f a y,h=>∃ es clock,h=sing (E.ρ x) (.map es clock)∧MapOk kk kd (fun q=>if q=a then some ((f a).getD 0) else f q) es clock∧∃ (i:Nat) (e:MapEntry),es[i]? = some e∧e.key=kk.enc a∧E.χ y = .int .i64 e.born
 | .wm kk kd g,h=>∃ es clock,h=sing (E.ρ x) (.map es clock)∧∃ f,MapOk kk kd f es clock∧∀ a,a.length=kk.len→(f a).getD 0=g a
 | .pr φ,h=>φ E h
abbrev Own:=List (Nat×Fm Blk)
structure ArrF where
 len:Nat
 size:Nat
 at_:Nat→List SC
 low:Nat
structure St where
 nt:Nat
 tmps:List (Nat×SV)
 own:Own
 arrs:List (Nat×Fm ArrF)
 facts:List (Env→World→Prop)
 nid:Nat
def ArrAt (E:Env) (w:World) (x:Nm) (A:ArrF):Prop :=
 ∃ ba cap,E.χ x = .slice ba A.len cap∧A.len≤cap∧cap≤maxLen ∧
  (A.len=0∨∃ b off,ba=some ⟨b,off,none⟩∧A.low≤b∧∀ k,k<A.len→(A.at_ k).length=A.size∧∀ j u,(A.at_ k)[j]? = some u→w.cell? ⟨b,off+k * A.size+j,none⟩=some (u.den E)∧(u.den E).oneCell' = true)
def Holds (E:Env) (S:St) (w:World):Prop :=
 (∀ x A,atN S.arrs x=some A→ArrAt E w x A)∧∀ φ∈S.facts,φ E w
structure HeapOk (B:Nat) (W:Nat→Prop) (E:Env) (own:Own) (H:Nm→PH) (w:World):Prop where
 den:∀ x b,atN own x=some b→b.den E x (H x)
 disj:∀ x y b c,atN own x=some b→atN own y=some c→x≠y→∀ n,H x n=none∨H y n=none
 sub:∀ x b,atN own x=some b→∀ n o,H x n=some o→w.heap[n]? = some o∧(B≤n∨W n)
def Free (own:Own) (H:Nm→PH) (n:Nat):Prop:=∀ x b,atN own x=some b→H x n=none
structure Frame0 (B:Nat) (W:Nat→Prop) (w0 w:World):Prop where
 os:w.os=w0.os
 tape:w.tape=w0.tape
 output:w.output=w0.output
 size:B≤w.heap.size
 keep:∀ n,n<B→¬ W n→w.heap[n]? = w0.heap[n]?
structure Sat (B:Nat) (W:Nat→Prop) (w0:World) (E:Env) (S:St) (a:Act) (w:World):Prop where
 size:a.tmps.size=S.nt
 defers:a.defers=[]
 one:∀ x,(E.χ x).oneCell' = true
 tmps:∀ t v,look S.tmps t=some v→t<S.nt∧a.tmps.getD t undef=v.den E
 frame:Frame0 B W w0 w
 mem:∃ H,HeapOk B W E S.own H w∧∀ w',(∀ n,n<w.heap.size→Free S.own H n→w'.heap[n]? = w.heap[n]?)→Holds E S w'
def Same (E E' : Env) (x:Nm):Prop:=E'.ρ x=E.ρ x∧E'.κ x=E.κ x∧E'.ν x=E.ν x∧E'.χ x=E.χ x
def OneC (E:Env):Prop:=∀ x,(E.χ x).oneCell' = true
def AgreeD (D:Nat→Prop) (E E' : Env):Prop:=∀ x:Nm,D x.1→Same E E' x
def SatD (D:Nat→Prop) (B:Nat) (W:Nat→Prop) (w0:World) (E:Env) (S:St) (a:Act) (w:World):Prop:=∀ E',AgreeD D E E'→OneC E'→Sat B W w0 E' S a w
def SatA (B:Nat) (W:Nat→Prop) (w0:World) (E:Env) (S:St) (a:Act) (w:World):Prop:=OneC E∧SatD (· < S.nid) B W w0 E S a w
structure EffOk (E:Env) (own:Own) (H:Nm→PH) (w w' : World) (eff:Own):Prop where
 os:w'.os=w.os
 tape:w'.tape=w.tape
 output:w'.output=w.output
 size:w.heap.size≤w'.heap.size
 keep:∀ n,n<w.heap.size→(∀ x b,(look eff x.1).isSome=true→atN own x=some b→H x n=none)→w'.heap[n]? = w.heap[n]?
 new:∃ H' : Nm→PH,(∀ x b,atN eff x=some b→b.den E x (H' x))∧(∀ x y b c,atN eff x=some b→atN eff y=some c→x≠y→∀ n,H' x n=none∨H' y n=none) ∧
  ∀ x b,atN eff x=some b→∀ n o,H' x n=some o→w'.heap[n]? = some o∧(w.heap.size≤n∨∃ y c,(look eff y.1).isSome=true∧atN own y=some c∧H y n≠none)
def Fits (B:Nat) (W:Nat→Prop) (E:Env) (S:St) (w w' : World) (eff:Own) (arrs' : List (Nat×Fm ArrF)):Prop :=
 (∀ H,HeapOk B W E S.own H w→EffOk E S.own H w w' eff)∧∀ w'',Holds E S w''→∀ x A,atN arrs' x=some A→ArrAt E w'' x A
def NewIds (n nx i:Nat):Prop:=n≤i∧i<n+nx
structure EffG (E:Env) (own:Own) (H:Nm→PH) (w w' : World) (eff:Own) (G:Nat→Prop):Prop where
 os:w'.os=w.os
 tape:w'.tape=w.tape
 output:w'.output=w.output
 size:w.heap.size≤w'.heap.size
 keep:∀ n,n<w.heap.size→(∀ x b,(look eff x.1).isSome=true→atN own x=some b→H x n=none)→w'.heap[n]? = w.heap[n]?
 new:∃ H' : Nm→PH,(∀ x b,atN eff x=some b→b.den E x (H' x))∧(∀ x y b c,atN eff x=some b→atN eff y=some c→x≠y→∀ n,H' x n=none∨H' y n=none) ∧
  ∀ x b,atN eff x=some b→∀ n o,H' x n=some o→w'.heap[n]? = some o∧((w.heap.size≤n∧¬ G n)∨∃ y c,(look eff y.1).isSome=true∧atN own y=some c∧H y n≠none)
def FitsG (B:Nat) (W:Nat→Prop) (E:Env) (S:St) (w w' : World) (eff:Own) (arrs' : List (Nat×Fm ArrF)):Prop :=
 ∃ G:Nat→Prop,(∀ n,G n→w.heap.size≤n∧n<w'.heap.size)∧(∀ H,HeapOk B W E S.own H w→EffG E S.own H w w' eff G) ∧
  ∀ w'',Holds E S w''→(∀ n,G n→w''.heap[n]? = w'.heap[n]?)→∀ x A,atN arrs' x=some A→ArrAt E w'' x A
theorem Fits.G {B:Nat} {W:Nat→Prop} {E:Env} {S:St} {w w' : World} {eff:Own} {arrs' : List (Nat×Fm ArrF)} (h:Fits B W E S w w' eff arrs'):FitsG B W E S w w' eff arrs':=by
 refine ⟨fun _=>False,fun n h=>h.elim,fun H hH=>?_,fun w'' h1 _=>h.2 w'' h1⟩
 have he:=h.1 H hH
 obtain ⟨H',h1,h2,h3⟩:=he.new
 exact ⟨he.os,he.tape,he.output,he.size,he.keep,H',h1,h2,fun x b hb n o hn=>⟨(h3 x b hb n o hn).1,(h3 x b hb n o hn).2.imp (fun h=>⟨h,fun h=>h⟩) id⟩⟩
def After (B:Nat) (W:Nat→Prop) (w0:World) (E:Env) (ks:List Nat) (S:St) (a:Act) (w:World) (tmpl:SV) (nx:Nat) (eff:Own) (arrs' : List (Nat×Fm ArrF)) (v:Value) (w' : World):Prop :=
 ∃ N:Env,OneC N∧∀ E2,Sat B W w0 E2 S a w→AgreeD (·∈ks) E E2→AgreeD (NewIds S.nid nx) N E2→v=tmpl.den E2∧FitsG B W E2 S w w' eff arrs'
inductive IX where
 | t (n:Nat)
 | k (v:SV)
inductive IOp where
 | mv (x:IX)
 | pick (c a b:IX)
 | new (t:Nat) (z:List SC)
 | newA (t:Nat) (n s:Nat) (z:List SC)
 | box (t:Nat) (x:IX)
 | build (z:List SC) (parts:List (Nat×Nat×IX))
 | mkSl (t:Nat) (len size:Nat) (z:List SC) (parts:List (Nat×Nat×IX))
 | ld (agg:Bool) (n:Nat) (x:IX)
 | st (n:Nat) (a v:IX)
 | nilck (x:IX)
 | bin (op:BinOp) (x y:IX)
 | sh (left:Bool) (x y:IX)
 | eqb (neg:Bool) (x y:IX)
 | eqs (neg:Bool) (x y:IX)
 | eqa (neg:Bool) (ks:List Bool) (x y:IX)
 | eqn (kd:Nat) (neg:Bool) (x y:IX)
 | un (op:UnOp) (x:IX)
 | conv (k:IntKind) (x:IX)
 | fa (off:Nat) (x:IX)
 | fld (agg:Bool) (off n:Nat) (x:IX)
 | ia (size:Nat) (x i:IX)
 | iar (len size:Nat) (x i:IX)
 | idx (agg:Bool) (len size:Nat) (x i:IX)
 | ext (i:Nat) (x:IX)
 | len (x:IX)
 | app (t size bytes:Nat) (z:List SC) (s x:IX)
 | cpy (size:Nat) (d s:IX)
 | mks (t size bytes:Nat) (z:List SC) (len cap:IX)
 | slc (size:Nat) (x:IX) (lo hi mx:Option IX)
 | sla (len:Nat) (x:IX)
 | mm (max:Bool) (x y:IX)
 | mif (t:Nat) (x:IX)
 | mfn (f:Fn) (l r:List IX)
 | mkm (kk:KK) (kd:IntKind)
 | lkp (kk:KK) (kd:IntKind) (ok:Bool) (m k:IX)
 | mup (kk:KK) (kd:IntKind) (m k v:IX)
 | ent (kk:KK) (kd:IntKind) (m k:IX)
 | ests (kk:KK) (kd:IntKind) (m s v:IX)
 | call (f:Nat) (args:List IX)
 | callv (x:IX) (args:List IX)
 | calli (name:String) (x:IX) (args:List IX)
structure IO1 where
 dst:Option Nat
 op:IOp
 guard:Option (Nat×Bool)
structure Out where
 val:SV
 eff:Own
 arrs:List (Nat×Fm ArrF)
 cnt:Nat
inductive Res where
 | ok (vc:Prop) (out:Out)
 | two (c:Prop) (vc:Prop) (out:Out) (vc' : Prop) (out' : Out)
 | bad
def Res.Sel:Res→Prop→Out→Prop
 | .ok p o,vc,out=>vc=p∧out=o
 | .two c p o p' o',vc,out=>(c∧vc=p∧out=o)∨(¬ c∧vc=p'∧out=o')
 | .bad,_,_=>False
def St.ev (S:St):IX→Option SV
 | .t n=>look S.tmps n
 | .k v=>some v
def evs (S:St):List IX→Option (List SV)
 | []=>some []
 | x :: r=>match S.ev x,evs S r with
  | some v,some vs=>some (v :: vs)
  | _,_=>none
def evC (S:St):List IX→Option (List SC)
 | []=>some []
 | x :: r=>match S.ev x,evC S r with
  | some (.c v),some vs=>some (v :: vs)
  | _,_=>none
def SC.one:SC→Bool
 | .v x=>x.oneCell'
 | _=>true
def drop' {α:Type}:Nat→List α→List α
 | 0,l=>l
 | _+1,[]=>[]
 | n+1,_ :: l=>drop' n l
def take' {α:Type}:Nat→List α→List α
 | 0,_=>[]
 | _+1,[]=>[]
 | n+1,a :: l=>a :: take' n l
def nth {α:Type}:List α→Nat→Option α
 | [],_=>none
 | a :: _,0=>some a
 | _ :: l,n+1=>nth l n
def len' {α:Type}:List α→Nat
 | []=>0
 | _ :: l=>len' l+1
def allOne:List SC→Bool
 | []=>true
 | c :: r=>c.one && allOne r
def SV.cells:SV→Option (List SC)
 | .c x=>if x.one then some [x] else none
 | .agg l=>if allOne l then some l else none
 | .tup _=>none
 | .gd _ _ _ _=>none
def put (l:List SC) (off:Nat) (cs:List SC):List SC:=take' off l++cs++drop' (off+len' cs) l
def fillP (S:St):List (Nat×Nat×IX)→List SC→Option (List SC)
 | [],z=>some z
 | (off,size,x) :: r,z=>match S.ev x with
  | some v=>match v.cells with
   | some cs=>if len' cs=size∧off+size≤len' z then fillP S r (put z off cs) else none
   | none=>none
  | none=>none
def pureO (v:SV):Out:=⟨v,[],[],0⟩
def endO (S:St) (size:Nat):Out:=⟨.c (.xv (S.nid,0,0)),[],[(S.nid,.one ⟨0,size,fun _=>[],0⟩)],1⟩
def pure1 (v:SV):Res:=.ok True (pureO v)
def shI (left:Bool) (k:IntKind) (a b:Int):Int:=if left then k.wrap (a * 2 ^ min b.toNat k.bits) else a.fdiv (2 ^ min b.toNat k.bits)
def binI (op:BinOp) (k:IntKind) (a b:Int):Res :=
 match op with
 | .add=>pure1 (.c (.v (.int k (k.wrap (a+b)))))
 | .sub=>pure1 (.c (.v (.int k (k.wrap (a - b)))))
 | .mul=>pure1 (.c (.v (.int k (k.wrap (a * b)))))
 | .quo=>.ok (b≠0) (pureO (.c (.v (.int k (k.wrap (a.tdiv b))))))
 | .rem=>.ok (b≠0) (pureO (.c (.v (.int k (a.tmod b)))))
 | .and=>pure1 (.c (.v (.int k (bits .and k a b))))
 | .or=>pure1 (.c (.v (.int k (bits .or k a b))))
 | .xor=>pure1 (.c (.v (.int k (bits .xor k a b))))
 | .andNot=>pure1 (.c (.v (.int k (bits .andNot k a b))))
 | .eql=>pure1 (.c (.bo (a == b)))
 | .neq=>pure1 (.c (.bo (a != b)))
 | .lss=>pure1 (.c (.bo (decide (a<b))))
 | .leq=>pure1 (.c (.bo (decide (a≤b))))
 | .gtr=>pure1 (.c (.bo (decide (a>b))))
 | .geq=>pure1 (.c (.bo (decide (a≥b))))
 | _=>.bad
def SC.bool? : SC→Option Bool
 | .v (.bool b)=>some b
 | .bo e=>some e
 | _=>none
def eqCells:List Bool→List SC→List SC→Option Bool
 | [],[],[]=>some true
 | true :: ks,.v (.int k a) :: r,.v (.int k' b) :: r'=>if k=k' then (eqCells ks r r').map ((a == b) && ·) else none
 | false :: ks,c :: r,c' :: r'=>match c.bool?,c'.bool? with
  | some a,some b=>(eqCells ks r r').map ((a == b) && ·)
  | _,_=>none
 | _,_,_=>none
def neg? (neg b:Bool):Bool:=if neg then !b else b
def SC.nil? : Nat→SC→Option Bool
 | 0,.v (.pointer none)=>some true
 | 0,.ptr _ _=>some false
 | 0,.pe _ _ _ _=>some false
 | 1,.v (.slice none _ _)=>some true
 | 2,.v (.map none)=>some true
 | 2,.mp _=>some false
 | 3,.v .nilFunc=>some true
 | 3,.fn _ _ _=>some false
 | 4,.v .nilIface=>some true
 | 4,.ifc _ _=>some false
 | _,_=>none
def intsOf (k:IntKind):List SC→Option (List Int)
 | []=>some []
 | .v (.int k' n) :: r=>if k' = k then (intsOf k r).map (n :: ·) else none
 | _=>none
def keyOf:KK→SV→Option (List Int)
 | .int k,.c (.v (.int k' n))=>if k' = k then some [n] else none
 | .arr _ k,.agg l=>intsOf k l
 | _,_=>none
def segs (s:Nat) (cs:List SC) (e:Nat):List SC:=take' s (drop' (e * s) cs)
def rowC:Nat→Nat→(Nat→List SC)→List SC
 | 0,_,_=>[]
 | n+1,k,f=>f k++rowC n (k+1) f
theorem rowC_get:∀ (n k:Nat) (f:Nat→List SC),(∀ e,e<n→(f (k+e)).length=1)→(rowC n k f).length=n∧∀ j,j<n→(rowC n k f)[j]? = (f (k+j))[0]?
 | 0,k,f,_=>⟨rfl,fun j hj=>by omega⟩
 | n+1,k,f,h=>by
  obtain ⟨h1,h2⟩:=rowC_get n (k+1) f fun e he=>by have:=h (e+1) (by omega);rwa [show k+(e+1)=k+1+e by omega] at this
  have h0:=h 0 (by omega)
  rw [Nat.add_zero] at h0
  refine ⟨by simp only [rowC,List.length_append,h0,h1];omega,fun j hj=>?_⟩
  cases j with
  | zero =>
   simp only [rowC,Nat.add_zero]
   rw [List.getElem?_append_left (by omega)]
  | succ j =>
   simp only [rowC]
   rw [List.getElem?_append_right (by omega),h0,Nat.add_sub_cancel,h2 j (by omega),show k+1+j=k+(j+1) by omega]
def SV.int? : SV→Option Int
 | .c (.v (.int _ n))=>some n
 | _=>none
def slSrc (S:St) (s:Nat):SV→Option (Prop×Nat×(Nat→List SC))
 | .c (.v (.slice none 0 0))=>some (True,0,fun _=>[])
 | .c (.sl x s' o n _)=>match pkN S.own x with
  | some (p,.ar m s'' at_ _)=>some (p∧s' = s∧s'' = s∧o+n≤m,n,fun e=>at_ (o+e))
  | _=>none
 | .c (.xv x)=>match pkN S.arrs x with
  | some (p,A)=>some (p∧A.size=s,A.len,A.at_)
  | _=>none
 | .c (.xs x s' o n _)=>match pkN S.arrs x with
  | some (p,A)=>some (p∧s' = s∧A.size=s∧o+n≤A.len,n,fun e=>A.at_ (o+e))
  | _=>none
 | _=>none
def appAt (n:Nat) (f g:Nat→List SC) (e:Nat):List SC:=if e<n then f e else g (e - n)
def cpyAt (o n:Nat) (f g:Nat→List SC) (e:Nat):List SC:=if o≤e∧e<o+n then g (e - o) else f e
def setAt (k:Nat) (f:Nat→List SC) (x:List SC) (e:Nat):List SC:=if e=k then x else f e
def slB (S:St) (lo hi:Option IX) (n:Nat):Option (Int×Int) :=
 match (match lo with
  | none=>some (0:Int)
  | some x=>(S.ev x).bind SV.int?),(match hi with
  | none=>some (n:Int)
  | some x=>(S.ev x).bind SV.int?) with
 | some l,some h=>some (l,h)
 | _,_=>none
def slM (S:St):Option IX→Option (Option Int)
 | none=>some none
 | some x=>match (S.ev x).bind SV.int? with
  | some m=>some (some m)
  | none=>none
def gB (want b:Bool):Bool:=if want=true then b else !b
def chain (tmps:List (Nat×SV)):Nat→Nat→Bool→List (Nat×Bool×Bool)
 | 0,_,_=>[]
 | n+1,g,want=>match look tmps g with
  | some (.c (.bo b))=>[(g,want,gB want b)]
  | some (.gd g' w' e' (.c (.bo b)))=>(g,want,e' && gB want b) :: chain tmps n g' w'
  | _=>[]
def chainP (tmps:List (Nat×SV)):Nat→Nat→Bool→Prop
 | 0,_,_=>True
 | n+1,g,want=>match look tmps g with
  | some (.gd g' w' e' (.c (.bo b)))=>(match chain tmps n g' w' with
   | (_,_,e'') :: _=>e' = e''
   | []=>False)∧chainP tmps n g' w'
  | _=>True
def inCh:List (Nat×Bool×Bool)→Nat→Bool→Option Bool
 | [],_,_=>none
 | (g,w,e) :: l,g',w'=>if g=g'∧w=w' then some e else inCh l g' w'
def resV (ch:List (Nat×Bool×Bool)) (tmps:List (Nat×SV)):SV→Prop×SV
 | .gd g w e v=>match inCh ch g w with
  | some e0=>(e=e0,v)
  | none=>match look tmps g with
   | some (.gd g' w' e' (.c (.bo b)))=>match inCh ch g' w' with
    | some e0=>(e' = e0∧e=(e' && gB w b),.gd g w (gB w b) v)
    | none=>(True,.gd g w e v)
   | _=>(True,.gd g w e v)
 | v=>(True,v)
def rsvP (ch:List (Nat×Bool×Bool)) (tmps:List (Nat×SV)):List Nat→Prop
 | []=>True
 | t :: l=>match look tmps t with
  | some v=>(resV ch tmps v).1∧rsvP ch tmps l
  | none=>rsvP ch tmps l
def resT (ch:List (Nat×Bool×Bool)) (tmps:List (Nat×SV)):List Nat→List (Nat×SV)
 | []=>tmps
 | t :: l=>match look tmps t with
  | some v=>setL (resT ch tmps l) t (resV ch tmps v).2
  | none=>resT ch tmps l
def slot1:IX→List Nat
 | .t n=>[n]
 | .k _=>[]
def pureSlots:IOp→Option (List Nat)
 | .mv x=>some (slot1 x)
 | .pick c a b=>some (slot1 c++slot1 a++slot1 b)
 | .ld _ _ x=>some (slot1 x)
 | .nilck x=>some (slot1 x)
 | .bin _ x y=>some (slot1 x++slot1 y)
 | .sh _ x y=>some (slot1 x++slot1 y)
 | .eqb _ x y=>some (slot1 x++slot1 y)
 | .eqs _ x y=>some (slot1 x++slot1 y)
 | .eqa _ _ x y=>some (slot1 x++slot1 y)
 | .eqn _ _ x y=>some (slot1 x++slot1 y)
 | .un _ x=>some (slot1 x)
 | .conv _ x=>some (slot1 x)
 | .fa _ x=>some (slot1 x)
 | .fld _ _ _ x=>some (slot1 x)
 | .ia _ x i=>some (slot1 x++slot1 i)
 | .iar _ _ x i=>some (slot1 x++slot1 i)
 | .idx _ _ _ x i=>some (slot1 x++slot1 i)
 | .ext _ x=>some (slot1 x)
 | .len x=>some (slot1 x)
 | .mm _ x y=>some (slot1 x++slot1 y)
 | .lkp _ _ _ m k=>some (slot1 m++slot1 k)
 | _=>none
def St.evW (S:St) (c:IX) (want:Bool) (x:IX):Option (Prop×SV):=match S.ev x with
 | some (.gd g w e v)=>match c with
  | .t n=>if g=n∧w=want then (match look S.tmps n with
   | some (.c (.bo b))=>some (e=gB want b,v)
   | _=>none) else none
  | _=>none
 | some v=>some (True,v)
 | none=>none
def resA1 (g:Nat) (b0 b:Bool):SV→Prop×SV
 | .gd g' w e v=>if g' = g then (e=gB w b0,if w=b then v else .c (.v undef)) else (True,.gd g' w e v)
 | v=>(True,v)
def resAP (g:Nat) (b0 b:Bool):List (Nat×SV)→Prop
 | []=>True
 | (_,v) :: l=>(resA1 g b0 b v).1∧resAP g b0 b l
def resA (g:Nat) (b0 b:Bool):List (Nat×SV)→List (Nat×SV)
 | []=>[]
 | (t,v) :: l=>(t,(resA1 g b0 b v).2) :: resA g b0 b l
def stepOut (op:IOp) (S:St):Res :=
 match op with
 | .mv x=>match S.ev x with
  | some v=>pure1 v
  | none=>.bad
 | .pick c a b=>match S.ev c with
  | some (.c (.v (.bool true)))=>match S.ev a with
   | some v=>pure1 v
   | none=>.bad
  | some (.c (.v (.bool false)))=>match S.ev b with
   | some v=>pure1 v
   | none=>.bad
  | some (.c (.bo e))=>match S.evW c true a,S.evW c false b with
   | some (pa,.c x),some (pb,.c y)=>match x.bool?,y.bool? with
    | some p,some q=>.ok (pa∧pb) (pureO (.c (.bo (if e=true then p else q))))
    | _,_=>.bad
   | _,_=>.bad
  | _=>.bad
 | .new t z=>.ok True ⟨.c (.ptr (S.nid,0,0) 0),[(S.nid,.one (.bk z t))],[],1⟩
 | .newA t n s z=>.ok (allOne z=true∧len' z=s∧n≤maxLen) ⟨.c (.pe (S.nid,0,0) s 0 0),[(S.nid,.one (.ar n s (fun _=>z) t))],[],1⟩
 | .box t x=>match S.ev x with
  | some v=>match v.cells with
   | some cs=>.ok True ⟨.c (.ptr (S.nid,0,0) 0),[(S.nid,.one (.bk cs t))],[],1⟩
   | none=>.bad
  | none=>.bad
 | .build z ps=>match fillP S ps z with
  | some cs=>pure1 (.agg cs)
  | none=>.bad
 | .mkSl t len s z ps=>match fillP S ps z with
  | some cs=>.ok (allOne cs=true∧len' cs=len * s∧len≤maxLen) ⟨.c (.sl (S.nid,0,0) s 0 len none),[(S.nid,.one (.ar len s (segs s cs) t))],[],1⟩
  | none=>.bad
 | .ld agg n x=>match S.ev x with
  | some (.c (.ptr x off))=>match pkN S.own x with
   | some (p,.bk cs _)=>if agg then (if off+n≤len' cs then .ok p (pureO (.agg (take' n (drop' off cs)))) else .bad)
    else match nth cs off with
     | some c=>.ok p (pureO (.c c))
     | none=>.bad
   | _=>.bad
  | some (.c (.pe x s k j))=>match pkN S.own x with
   | some (p,.ar m s' at_ _)=>if agg then (if s=1∧1<n then .ok (p∧s' = s∧s=1∧j=0∧k+n≤m∧0<n) (pureO (.agg (rowC n k at_))) else .ok (p∧k<m∧s' = s∧j+n≤s) (pureO (.agg (take' n (drop' j (at_ k))))))
    else match nth (at_ k) j with
     | some c=>.ok (p∧k<m∧s' = s) (pureO (.c c))
     | none=>.bad
   | _=>.bad
  | some (.c (.ep x s k j))=>match pkN S.arrs x with
   | some (p,A)=>if agg then .ok (p∧k<A.len∧A.size=s∧j+n≤s) (pureO (.agg (take' n (drop' j (A.at_ k)))))
    else match nth (A.at_ k) j with
     | some c=>.ok (p∧k<A.len∧A.size=s) (pureO (.c c))
     | none=>.bad
   | none=>.bad
  | _=>.bad
 | .st n a v=>match S.ev a,S.ev v with
  | some (.c (.ptr x off)),some v=>match pkN S.own x,v.cells with
   | some (p,.bk cs t),some new=>if len' new=n∧off+n≤len' cs then .ok p ⟨.c (.v undef),setN S.own x (.bk (put cs off new) t),[],0⟩ else .bad
   | _,_=>.bad
  | some (.c (.pe x s k j)),some v=>match pkN S.own x,v.cells with
   | some (p,.ar m s' at_ t),some new=>if s=1∧1<n then .ok (p∧s' = s∧s=1∧j=0∧k=0∧len' new=n∧n=m∧0<n) ⟨.c (.v undef),setN S.own x (.ar m s' (segs 1 new) t),[],0⟩
    else .ok (p∧k<m∧s' = s∧len' new=n∧j+n≤s) ⟨.c (.v undef),setN S.own x (.ar m s' (setAt k at_ (put (at_ k) j new)) t),[],0⟩
   | _,_=>.bad
  | _,_=>.bad
 | .nilck x=>match S.ev x with
  | some (.c (.ptr x off))=>pure1 (.c (.ptr x off))
  | some (.c (.pe x s k j))=>pure1 (.c (.pe x s k j))
  | some (.c (.ep x s k j))=>match pkN S.arrs x with
   | some (p,A)=>.ok (p∧k<A.len) (pureO (.c (.ep x s k j)))
   | none=>.bad
  | some (.c (.fn f l r))=>match f with
   | .func _=>pure1 (.c (.fn f l r))
   | _=>.bad
  | _=>.bad
 | .bin op x y=>match S.ev x,S.ev y with
  | some (.c (.v (.int k a))),some (.c (.v (.int k' b)))=>if k=k' then binI op k a b else .bad
  | _,_=>.bad
 | .sh left x y=>match S.ev x,S.ev y with
  | some (.c (.v (.int k a))),some (.c (.v (.int _ b)))=>.ok (0≤b) (pureO (.c (.v (.int k (shI left k a b)))))
  | _,_=>.bad
 | .eqb neg x y=>match S.ev x,S.ev y with
  | some (.c x),some (.c y)=>match x.bool?,y.bool? with
   | some a,some b=>pure1 (.c (.bo (neg? neg (a == b))))
   | _,_=>.bad
  | _,_=>.bad
 | .eqs neg x y=>match S.ev x,S.ev y with
  | some (.c (.v (.string a))),some (.c (.v (.string b)))=>pure1 (.c (.bo (neg? neg (a.toList == b.toList))))
  | _,_=>.bad
 | .eqa neg ks x y=>match S.ev x,S.ev y with
  | some (.agg a),some (.agg b)=>match eqCells ks a b with
   | some r=>pure1 (.c (.bo (neg? neg r)))
   | none=>.bad
  | _,_=>.bad
 | .eqn kd neg x y=>match S.ev x,S.ev y with
  | some (.c x),some (.c y)=>match x.nil? kd,y.nil? kd with
   | some a,some true=>pure1 (.c (.v (.bool (neg? neg a))))
   | some true,some b=>pure1 (.c (.v (.bool (neg? neg b))))
   | _,_=>.bad
  | _,_=>.bad
 | .un op x=>match op,S.ev x with
  | .not,some (.c (.v (.bool b)))=>pure1 (.c (.v (.bool (!b))))
  | .not,some (.c (.bo e))=>pure1 (.c (.bo (!e)))
  | .neg,some (.c (.v (.int k n)))=>pure1 (.c (.v (.int k (k.wrap (0 - n)))))
  | _,_=>.bad
 | .conv k x=>match S.ev x with
  | some (.c (.v (.int _ n)))=>pure1 (.c (.v (.int k (k.wrap n))))
  | _=>.bad
 | .fa off x=>match S.ev x with
  | some (.c (.ptr x o))=>pure1 (.c (.ptr x (o+off)))
  | some (.c (.pe x s k j))=>pure1 (.c (.pe x s k (j+off)))
  | some (.c (.ep x s k j))=>match pkN S.arrs x with
   | some (p,A)=>.ok (p∧k<A.len) (pureO (.c (.ep x s k (j+off))))
   | none=>.bad
  | _=>.bad
 | .fld agg off n x=>match S.ev x with
  | some (.agg cs)=>if agg then (if off+n≤len' cs then pure1 (.agg (take' n (drop' off cs))) else .bad)
   else match nth cs off with
    | some c=>pure1 (.c c)
    | none=>.bad
  | _=>.bad
 | .ia size x i=>match S.ev x,S.ev i with
  | some (.c (.xv x)),some (.c (.v (.int _ z)))=>match pkN S.arrs x with
   | some (p,A)=>.ok (p∧0≤z∧z<A.len) (pureO (.c (.ep x size z.toNat 0)))
   | none=>.bad
  | some (.c (.xs x s o n _)),some (.c (.v (.int _ z)))=>match pkN S.arrs x with
   | some (p,A)=>.ok (p∧s=size∧0≤z∧z<n∧o+n≤A.len) (pureO (.c (.ep x size (o+z.toNat) 0)))
   | none=>.bad
  | some (.c (.sl x s o n _)),some (.c (.v (.int _ z)))=>match pkN S.own x with
   | some (p,.ar m _ _ _)=>.ok (p∧s=size∧0≤z∧z<n∧o+n≤m) (pureO (.c (.pe x size (o+z.toNat) 0)))
   | _=>.bad
  | _,_=>.bad
 | .iar len size x i=>match S.ev x,S.ev i with
  | some (.c (.ptr x off)),some (.c (.v (.int _ z)))=>.ok (0≤z∧z<len) (pureO (.c (.ptr x (off+z.toNat * size))))
  | some (.c (.pe x s 0 0)),some (.c (.v (.int _ z)))=>if s=size then .ok (0≤z∧z<len) (pureO (.c (.pe x s z.toNat 0))) else .ok (0≤z∧z<len) (pureO (.c (.pe x s 0 (z.toNat * size))))
  | some (.c (.pe x s k j)),some (.c (.v (.int _ z)))=>.ok (0≤z∧z<len) (pureO (.c (.pe x s k (j+z.toNat * size))))
  | some (.c (.ep x s k j)),some (.c (.v (.int _ z)))=>match pkN S.arrs x with
   | some (p,A)=>.ok (p∧k<A.len∧0≤z∧z<len) (pureO (.c (.ep x s k (j+z.toNat * size))))
   | none=>.bad
  | _,_=>.bad
 | .idx agg len size x i=>match S.ev x,S.ev i with
  | some (.agg cs),some (.c (.v (.int _ z)))=>if agg then .ok (0≤z∧z<len) (pureO (.agg (take' size (drop' (z.toNat * size) cs))))
   else match nth cs (z.toNat * size) with
    | some c=>.ok (0≤z∧z<len) (pureO (.c c))
    | none=>.bad
  | _,_=>.bad
 | .ext i x=>match S.ev x with
  | some (.tup l)=>match nth l i with
   | some (true,cs)=>pure1 (.agg cs)
   | some (false,c :: _)=>pure1 (.c c)
   | _=>.bad
  | _=>.bad
 | .len x=>match S.ev x with
  | some (.c (.xv x))=>match pkN S.arrs x with
   | some (p,A)=>.ok p (pureO (.c (.v (.int .i64 A.len))))
   | none=>.bad
  | some (.c (.xs x _ _ n _))=>match pkN S.arrs x with
   | some (p,_)=>.ok p (pureO (.c (.v (.int .i64 n))))
   | none=>.bad
  | some (.c (.sl _ _ _ n _))=>pure1 (.c (.v (.int .i64 n)))
  | some (.c (.v (.slice _ n _)))=>pure1 (.c (.v (.int .i64 n)))
  | _=>.bad
 | .app t size bytes z s x=>match S.ev x with
  | some xv=>match slSrc S size xv with
   | some (q,m,g)=>match S.ev s with
    | some (.c (.v (.slice none 0 0)))=>.ok (q∧len' z=size∧0<size∧m * bytes≤281474976710656∧m≤maxLen)
      ⟨.c (.sl (S.nid,0,0) size 0 m none),[(S.nid,.one (.ar m size g t))],[],1⟩
    | some (.c (.sl y s' 0 n none))=>match pkN S.own y with
     | some (p,.ar k s'' f t')=>.ok (p∧q∧s' = size∧s'' = size∧t' = t∧len' z=size∧0<size∧n≤k∧(n+m+(n+m) / 4+192) * bytes≤281474976710656∧n+m≤maxLen)
       ⟨.c (.sl (S.nid,0,0) size 0 (n+m) none),(S.nid,.one (.ar (n+m) size (appAt n f g) t)) :: setN S.own y .no,[],1⟩
     | _=>.bad
    | some (.c (.sl y s' o n (some c)))=>match pkN S.own y with
     | some (p,.ar k s'' f _)=>.ok (p∧q∧s' = size∧s'' = size∧len' z=size∧0<size∧o+n≤k∧c=n∧0<m∧(n+m+(n+m) / 4+192) * bytes≤281474976710656∧n+m≤maxLen)
       ⟨.c (.sl (S.nid,0,0) size 0 (n+m) none),[(S.nid,.one (.ar (n+m) size (appAt n (fun e=>f (o+e)) g) t))],[],1⟩
     | _=>.bad
    | some (.c (.xs y s' o n (some c)))=>match pkN S.arrs y with
     | some (p,A)=>.ok (p∧q∧s' = size∧A.size=size∧len' z=size∧0<size∧o+n≤A.len∧c=n∧0<m∧(n+m+(n+m) / 4+192) * bytes≤281474976710656∧n+m≤maxLen)
       ⟨.c (.sl (S.nid,0,0) size 0 (n+m) none),[(S.nid,.one (.ar (n+m) size (appAt n (fun e=>A.at_ (o+e)) g) t))],[],1⟩
     | _=>.bad
    | _=>.bad
   | none=>.bad
  | none=>.bad
 | .cpy size d x=>match S.ev x with
  | some xv=>match slSrc S size xv with
   | some (q,m,g)=>match S.ev d with
    | some (.c (.sl y s' o n _))=>match pkN S.own y with
     | some (p,.ar k s'' f t)=>.ok (p∧q∧s' = size∧s'' = size∧0<size∧o+n≤k) ⟨.c (.v (.int .i64 (Nat.min m n))),setN S.own y (.ar k s'' (cpyAt o (Nat.min m n) f g) t),[],0⟩
     | _=>.bad
    | _=>.bad
   | none=>.bad
  | none=>.bad
 | .mks t size bytes z l c=>match S.ev l,S.ev c with
  | some (.c (.v (.int _ n))),some (.c (.v (.int _ m)))=>.ok (0≤n∧n≤m∧m * bytes≤140737488355328∧m≤maxLen∧len' z=size∧0<size∧allOne z=true) ⟨.c (.sl (S.nid,0,0) size 0 n.toNat none),[(S.nid,.one (.ar m.toNat size (fun _=>z) t))],[],1⟩
  | _,_=>.bad
 | .slc size x lo hi mx=>match slM S mx with
  | some m=>match S.ev x with
   | some (.c (.sl y s o n c))=>match slB S lo hi n,pkN S.own y with
    | some (l,h),some (p,.ar k s' _ _) =>
     match m with
     | none=>.two (l=n∧h=l∧0<l) (p∧s=size∧s' = size∧o+n≤k∧∀ q,c=some q→n≤q∧q≤maxLen) (endO S size)
       (p∧s=size∧s' = size∧0≤l∧l≤h∧o+h≤k∧(∀ q,c=some q→h≤q∧(0<l→n≤q))∧(l<n∨l=0)∧(0<l→o+n≤k)) (pureO (.c (.sl y s (o+l.toNat) (h.toNat - l.toNat) (c.map (· - l.toNat)))))
     | some m=>.ok (p∧s=size∧s' = size∧0≤l∧l≤h∧h≤m∧o+m≤k∧(∀ q,c=some q→m≤q)∧(l<m∨l=0)) (pureO (.c (.sl y s (o+l.toNat) (h.toNat - l.toNat) (some (m.toNat - l.toNat)))))
    | _,_=>.bad
   | some (.c (.xv y))=>match pkN S.arrs y with
    | some (p,A)=>match slB S lo hi A.len with
     | some (l,h)=>match m with
      | none=>match lo,hi with
       | some _,some _=>.two (l=A.len∧h=l) (p∧A.size=size) (endO S size)
         (p∧A.size=size∧0≤l∧l≤h∧h≤A.len∧(l<A.len∨l=0)) (pureO (.c (.xs y size l.toNat (h.toNat - l.toNat) none)))
       | _,_=>.ok (p∧A.size=size∧0≤l∧l≤h∧h≤A.len∧(l<A.len∨l=0)) (pureO (.c (.xs y size l.toNat (h.toNat - l.toNat) none)))
      | some m=>.ok (p∧A.size=size∧0≤l∧l≤h∧h≤m∧m≤A.len∧(l<m∨l=0)) (pureO (.c (.xs y size l.toNat (h.toNat - l.toNat) (some (m.toNat - l.toNat)))))
     | none=>.bad
    | none=>.bad
   | some (.c (.xs y s o n c))=>match pkN S.arrs y with
    | some (p,A)=>match slB S lo hi n with
     | some (l,h)=>match m with
      | none=>.ok (p∧A.size=size∧s=size∧0≤l∧l≤h∧o+h≤A.len∧(∀ q,c=some q→h≤q)∧(l<h∨l=0)) (pureO (.c (.xs y size (o+l.toNat) (h.toNat - l.toNat) (c.map (· - l.toNat)))))
      | some m=>.ok (p∧A.size=size∧s=size∧0≤l∧l≤h∧h≤m∧m≤n∧o+n≤A.len∧(∀ q,c=some q→n≤q)∧(l<m∨l=0)) (pureO (.c (.xs y size (o+l.toNat) (h.toNat - l.toNat) (some (m.toNat - l.toNat)))))
     | none=>.bad
    | none=>.bad
   | _=>.bad
  | none=>.bad
 | .sla len x=>match S.ev x with
  | some (.c (.pe y s e j))=>match pkN S.own y with
   | some (p,.ar m _ _ _)=>.ok (p∧e<m∧0<len) (pureO (.c (.sl y 1 (e * s+j) len (some len))))
   | _=>.bad
  | some (.c (.ep y s e j))=>match pkN S.arrs y with
   | some (p,A)=>.ok (p∧e<A.len∧0<len) (pureO (.c (.xs y 1 (e * s+j) len (some len))))
   | none=>.bad
  | _=>.bad
 | .mm max x y=>match S.ev x,S.ev y with
  | some (.c (.v (.int k a))),some (.c (.v (.int k' b)))=>if k=k' then pure1 (.c (.v (.int k (if max then (if b>a then b else a) else (if b<a then b else a))))) else .bad
  | _,_=>.bad
 | .mif t x=>match S.ev x with
  | some (.c c)=>pure1 (.c (.ifc t c))
  | _=>.bad
 | .mfn f l r=>match evC S l,evC S r with
  | some l,some r=>pure1 (.c (.fn f l r))
  | _,_=>.bad
 | .mkm kk kd=>.ok True ⟨.c (.mp (S.nid,0,0)),[(S.nid,.one (.mp kk kd fun _=>none))],[],1⟩
 | .lkp kk kd ok m k=>match S.ev m,S.ev k with
  | some (.c (.mp x)),some kv=>match pkN S.own x,keyOf kk kv with
   | some (p,.mp kk' kd' f),some a=>.ok (p∧kk' = kk∧kd' = kd∧a.length=kk.len) (pureO (if ok then .tup [(false,[.v (.int kd ((f a).getD 0))]),(false,[.bo (f a).isSome])] else .c (.v (.int kd ((f a).getD 0)))))
   | some (p,.wm kk' kd' g),some a=>if ok then .bad else .ok (p∧kk' = kk∧kd' = kd∧a.length=kk.len) (pureO (.c (.v (.int kd (g a)))))
   | _,_=>.bad
  | _,_=>.bad
 | .mup kk kd m k v=>match S.ev m,S.ev k,S.ev v with
  | some (.c (.mp x)),some kv,some (.c (.v (.int kd'' n)))=>match pkN S.own x,keyOf kk kv with
   | some (p,.mp kk' kd' f),some a=>.ok (p∧kk' = kk∧kd' = kd∧kd'' = kd∧a.length=kk.len) ⟨.c (.v undef),setN S.own x (.mp kk kd fun q=>if q=a then some n else f q),[],0⟩
   | _,_=>.bad
  | _,_,_=>.bad
 | .ent kk kd m k=>match S.ev m,S.ev k with
  | some (.c (.mp x)),some kv=>match pkN S.own x,keyOf kk kv with
   | some (p,.mp kk' kd' f),some a=>.ok (p∧kk' = kk∧kd' = kd∧a.length=kk.len) ⟨.tup [(false,[.v (.int kd ((f a).getD 0))]),(false,[.xv (S.nid,0,0)])],setN S.own x (.mpe kk kd f a (S.nid,0,0)),[],1⟩
   | _,_=>.bad
  | _,_=>.bad
 | .ests kk kd m s v=>match S.ev m,S.ev s,S.ev v with
  | some (.c (.mp x)),some (.c (.xv y)),some (.c (.v (.int kd'' n)))=>match pkN S.own x with
   | some (p,.mpe kk' kd' f a y')=>.ok (p∧kk' = kk∧kd' = kd∧kd'' = kd∧y' = y∧a.length=kk.len) ⟨.c (.v undef),setN S.own x (.mp kk kd fun q=>if q=a then some n else f q),[],0⟩
   | _=>.bad
  | _,_,_=>.bad
 | .call _ _=>.bad
 | .callv _ _=>.bad
 | .calli _ _ _=>.bad
def St.putT (S:St) (dst:Option Nat) (v:SV):List (Nat×SV) :=
 match dst with
 | some d=>if d<S.nt then setL S.tmps d v else S.tmps
 | none=>S.tmps
def St.app (S:St) (dst:Option Nat) (o:Out):St :=
 ⟨S.nt,S.putT dst o.val,mergeL o.eff S.own,mergeL o.arrs S.arrs,S.facts,S.nid+o.cnt⟩
end Go.Proofs.Ytgljbdcamagdbaa.Z
namespace Go.Proofs.Ytgljbdcamagdbaa.Z
open Go Go.RowKit
section
variable {α:Type}
theorem look_cons (k:Nat) (v:α) (l:List (Nat×α)) (t:Nat):look ((k,v) :: l) t=if k=t then some v else look l t:=rfl
theorem look_setL:∀ (l:List (Nat×α)) (k:Nat) (v:α) (t:Nat),look (setL l k v) t=if k=t then some v else look l t
 | [],k,v,t=>rfl
 | (j,u) :: l,k,v,t=>by
  simp only [setL]
  split
  ·next e=>subst e;simp only [look_cons];split <;> rfl
  ·next e =>
   simp only [look_cons,look_setL l k v t]
   split
   ·next e1=>subst e1;rw [if_neg (fun h=>e h.symm)]
   ·rfl
theorem look_mergeL:∀ (e l:List (Nat×α)) (t:Nat),look (mergeL e l) t=(look e t).or (look l t)
 | [],l,t=>rfl
 | (k,v) :: e,l,t=>by
  simp only [mergeL,look_setL,look_cons,look_mergeL e l t]
  split <;> rfl
theorem atN_some {l:List (Nat×Fm α)} {x:Nm} {b:α} (h:atN l x=some b):∃ F,look l x.1=some F∧F.get x.2=some b:=by
 unfold atN at h
 split at h
 ·next F hF=>exact ⟨F,hF,h⟩
 ·cases h
theorem atN_mergeL (e l:List (Nat×Fm α)) (x:Nm):atN (mergeL e l) x=if (look e x.1).isSome=true then atN e x else atN l x:=by
 unfold atN
 rw [look_mergeL]
 cases look e x.1 with
 | none=>rfl
 | some F=>rfl
theorem get_pk {F:Fm α} {k:Nat×Nat} (h:(F.pk k).1):F.get k=some (F.pk k).2:=by
 obtain ⟨k,l⟩:=k
 cases F <;> simp only [Fm.pk,Fm.get] at h ⊢ <;> rw [if_pos h]
theorem pkN_at {l:List (Nat×Fm α)} {x:Nm} {p:Prop} {b:α} (h:pkN l x=some (p,b)) (hp:p):atN l x=some b:=by
 unfold pkN at h
 unfold atN
 split at h
 ·next F hF =>
  simp only [Option.some.injEq] at h
  have:=get_pk (F:=F) (k:=x.2) (by rw [h];exact hp)
  rw [h] at this
  simp only [hF,this]
 ·cases h
theorem get_set {F:Fm α} {k:Nat×Nat} (h:(F.pk k).1) (b:α) (q:Nat×Nat):(F.set k b).get q=if q=k then some b else F.get q:=by
 obtain ⟨k,l⟩:=k
 obtain ⟨x,y⟩:=q
 cases F with
 | one a =>
  simp only [Fm.pk] at h
  obtain ⟨rfl,rfl⟩:=h
  simp only [Fm.set,Fm.get,Prod.mk.injEq]
  by_cases e:x=0∧y=0
  ·rw [if_pos e,if_pos e]
  ·rw [if_neg e,if_neg e,if_neg e]
 | fam n f =>
  simp only [Fm.pk] at h
  simp only [Fm.set,Fm.get,Prod.mk.injEq]
  by_cases e:x=k∧y=l
  ·obtain ⟨rfl,rfl⟩:=e
   simp [h]
  ·rw [if_neg e]
   by_cases e2:x<n∧y=0
   ·rw [if_pos e2,if_pos e2,if_neg]
    rintro rfl
    exact e ⟨rfl,by omega⟩
   ·rw [if_neg e2,if_neg e2]
 | fam2 n m f =>
  simp only [Fm.pk] at h
  simp only [Fm.set,Fm.get,Prod.mk.injEq]
  by_cases e:x=k∧y=l
  ·obtain ⟨rfl,rfl⟩:=e
   simp [h]
  ·rw [if_neg e]
   by_cases e2:x<n∧y<m x
   ·rw [if_pos e2,if_neg e]
   ·rw [if_neg e2,if_neg e]
theorem setN_look {l:List (Nat×Fm α)} {x:Nm} {p:Prop} {b:α} (h:pkN l x=some (p,b)) (b' : α) (i:Nat):(look (setN l x b') i).isSome=true↔i=x.1:=by
 unfold pkN at h
 unfold setN
 split at h
 ·next F hF =>
  simp only [hF,look_cons,look]
  split
  ·next e=>simp [e]
  ·next e=>simp [Ne.symm e]
 ·cases h
theorem atN_setN {l:List (Nat×Fm α)} {x:Nm} {p:Prop} {b:α} (h:pkN l x=some (p,b)) (hp:p) (b' : α) (y:Nm):atN (setN l x b') y=if y.1=x.1 then (if y=x then some b' else atN l y) else none:=by
 obtain ⟨x,k⟩:=x
 obtain ⟨y,q⟩:=y
 unfold pkN at h
 unfold setN atN
 simp only at h ⊢
 split at h
 ·next F hF =>
  simp only [Option.some.injEq] at h
  simp only [hF,look_cons,look]
  by_cases e:y=x
  ·subst e
   rw [if_pos rfl,if_pos rfl]
   simp only [get_set (F:=F) (k:=k) (by rw [h];exact hp),hF,Prod.mk.injEq,true_and]
  ·rw [if_neg e,if_neg (fun h=>e h.symm)]
 ·cases h
theorem memB_iff {l:List Nat} {k:Nat}:memB l k=true↔k∈l:=by
 induction l with
 | nil=>simp [memB]
 | cons a l ih =>
  simp only [memB,List.mem_cons]
  split
  ·next e=>simp [e]
  ·next e=>rw [ih];simp [Ne.symm e]
theorem look_dropL {ks:List Nat}:∀ {l:List (Nat×α)} {t:Nat} {v:α},look (dropL ks l) t=some v→¬ t∈ks∧look l t=some v
 | [],t,v,h=>by cases h
 | (k,x) :: l,t,v,h=>by
  simp only [dropL] at h
  by_cases hk:memB ks k=true
  ·rw [if_pos hk] at h
   obtain ⟨h1,h2⟩:=look_dropL h
   refine ⟨h1,?_⟩
   rw [look_cons,if_neg]
   ·exact h2
   ·rintro rfl;exact h1 (memB_iff.1 hk)
  ·rw [if_neg hk,look_cons] at h
   split at h
   ·next e =>
    subst e
    exact ⟨fun hm=>hk (memB_iff.2 hm),by rw [look_cons,if_pos rfl];exact h⟩
   ·next e =>
    obtain ⟨h1,h2⟩:=look_dropL h
    exact ⟨h1,by rw [look_cons,if_neg e];exact h2⟩
end
theorem denL_eq (E:Env):∀ l:List SC,SC.denL E l=l.map (SC.den E)
 | []=>by simp [SC.denL]
 | c :: r=>by simp [SC.denL,denL_eq E r]
theorem put_size' (a:Act) (d:Option Tmp) (v:Value):(a.put d v).tmps.size=a.tmps.size:=by cases d <;> simp [Act.put]
theorem put_defers' (a:Act) (d:Option Tmp) (v:Value):(a.put d v).defers=a.defers:=by cases d <;> rfl
theorem put_same' (a:Act) (d:Tmp) (v:Value) (h:d<a.tmps.size):(a.put (some d) v).tmps.getD d undef=v:=by
 simp [Act.put,Array.getD_eq_getD_getElem?,h]
theorem put_other' (a:Act) (d t:Tmp) (v:Value) (h:d≠t):(a.put (some d) v).tmps.getD t undef=a.tmps.getD t undef:=by
 simp [Act.put,Array.getD_eq_getD_getElem?,Array.getElem?_setIfInBounds_ne h]
section
variable {B:Nat} {W:Nat→Prop} {w0:World} {E:Env} {S:St} {a:Act} {w w' : World}
theorem sat_put (hs:Sat B W w0 E S a w) (dst:Option Nat) (v:SV):∀ t u,look (S.putT dst v) t=some u→t<S.nt∧(a.put dst (v.den E)).tmps.getD t undef=u.den E:=by
 intro t u h
 cases dst with
 | none=>exact hs.tmps t u h
 | some d =>
  simp only [St.putT] at h
  by_cases hd:d<S.nt
  ·rw [if_pos hd,look_setL] at h
   split at h
   ·next e =>
    subst e
    simp only [Option.some.injEq] at h
    subst h
    exact ⟨hd,put_same' a d _ (by rw [hs.size];exact hd)⟩
   ·next e =>
    obtain ⟨h1,h2⟩:=hs.tmps t u h
    exact ⟨h1,by rw [put_other' a d t _ e];exact h2⟩
  ·rw [if_neg hd] at h
   obtain ⟨h1,h2⟩:=hs.tmps t u h
   exact ⟨h1,by rw [put_other' a d t _ (show (d:Nat)≠t by omega)];exact h2⟩
theorem HeapOk.lt {own:Own} {H:Nm→PH} (hH:HeapOk B W E own H w) {x:Nm} {b:Blk} (h:atN own x=some b) {n:Nat} {o:Obj} (hn:H x n=some o):n<w.heap.size :=
 (Array.getElem?_eq_some_iff.1 (hH.sub x b h n o hn).1).1
theorem sat_after {eff:Own} {arrs' : List (Nat×Fm ArrF)} {tmpl:SV} (hs:Sat B W w0 E S a w) (hfit:FitsG B W E S w w' eff arrs') (dst:Option Nat) (nid:Nat) :
  Sat B W w0 E ⟨S.nt,S.putT dst tmpl,mergeL eff S.own,mergeL arrs' S.arrs,S.facts,nid⟩ (a.put dst (tmpl.den E)) w':=by
 obtain ⟨H,hH,hF⟩:=hs.mem
 obtain ⟨G,hG,hfit1,hfit2⟩:=hfit
 have he:=hfit1 H hH
 obtain ⟨H',h1,h2,h3⟩:=he.new
 have hk:∀ n,n<w.heap.size→(∀ x b,(look eff x.1).isSome=true→atN S.own x=some b→H x n=none)→w'.heap[n]? = w.heap[n]?:=he.keep
 refine ⟨by rw [put_size'];exact hs.size,by rw [put_defers'];exact hs.defers,hs.one,sat_put hs dst tmpl,?_,fun x=>if (look eff x.1).isSome=true then H' x else H x,⟨?_,?_,?_⟩,?_⟩
 ·refine ⟨he.os.trans hs.frame.os,he.tape.trans hs.frame.tape,he.output.trans hs.frame.output,Nat.le_trans hs.frame.size he.size,fun n hn hW=>?_⟩
  rw [← hs.frame.keep n hn hW]
  refine hk n (Nat.lt_of_lt_of_le hn hs.frame.size) (fun x b _ hx=>?_)
  cases hHn:H x n with
  | none=>rfl
  | some o =>
   rcases (hH.sub x b hx n o hHn).2 with h | h
   ·omega
   ·exact absurd h hW
 ·intro x b hb
  simp only [atN_mergeL] at hb
  by_cases e:(look eff x.1).isSome=true
  ·rw [if_pos e] at hb
   simp only [e,if_true]
   exact h1 x b hb
  ·rw [if_neg e] at hb
   simp only [e,if_false,Bool.false_eq_true]
   exact hH.den x b hb
 ·intro x y b c hb hc hne n
  simp only [atN_mergeL] at hb hc
  have mixed:∀ x y b c,(look eff x.1).isSome=true→¬ (look eff y.1).isSome=true→atN eff x=some b→atN S.own y=some c→H' x n=none∨H y n=none:=by
   intro x y b c ex ey hb hc
   cases h4:H' x n with
   | none=>exact Or.inl rfl
   | some o =>
    right
    cases h5:H y n with
    | none=>rfl
    | some o' =>
     have hlt:=hH.lt hc h5
     rcases (h3 x b hb n o h4).2 with h | ⟨z,d,ez,hz,h6⟩
     ·have:=h.1;omega
     ·rcases hH.disj z y d c hz hc (fun e=>ey (e ▸ ez)) n with h | h
      ·exact absurd h h6
      ·rw [h] at h5;cases h5
  by_cases ex:(look eff x.1).isSome=true
  ·by_cases ey:(look eff y.1).isSome=true
   ·simp only [ex,ey,if_true] at hb hc ⊢
    exact h2 x y b c hb hc hne n
   ·simp only [ex,ey,if_true,if_false,Bool.false_eq_true] at hb hc ⊢
    exact mixed x y b c ex ey hb hc
  ·by_cases ey:(look eff y.1).isSome=true
   ·simp only [ex,ey,if_true,if_false,Bool.false_eq_true] at hb hc ⊢
    exact (mixed y x c b ey ex hc hb).symm
   ·simp only [ex,ey,if_false,Bool.false_eq_true] at hb hc ⊢
    exact hH.disj x y b c hb hc hne n
 ·intro x b hb n o hn
  simp only [atN_mergeL] at hb
  by_cases e:(look eff x.1).isSome=true
  ·simp only [e,if_true] at hb hn
   obtain ⟨g1,g2⟩:=h3 x b hb n o hn
   refine ⟨g1,?_⟩
   rcases g2 with g | ⟨z,d,ez,hz,h6⟩
   ·exact Or.inl (Nat.le_trans hs.frame.size g.1)
   ·cases h7:H z n with
    | none=>exact absurd h7 h6
    | some o'=>exact (hH.sub z d hz n o' h7).2
  ·simp only [e,if_false,Bool.false_eq_true] at hb hn
   obtain ⟨g1,g2⟩:=hH.sub x b hb n o hn
   refine ⟨?_,g2⟩
   rw [← g1]
   refine hk n (hH.lt hb hn) (fun y c ey hy=>?_)
   rcases hH.disj y x c b hy hb (fun e'=>e (e' ▸ ey)) n with h | h
   ·exact h
   ·rw [h] at hn;cases hn
 ·intro w'' hw''
  have hold:Holds E S w'':=by
   refine hF w'' (fun n hn hfree=>?_)
   have h4:w'.heap[n]? = w.heap[n]?:=hk n hn (fun x b _ hx=>hfree x b hx)
   rw [← h4]
   refine hw'' n (Nat.lt_of_lt_of_le hn he.size) (fun x b hb=>?_)
   simp only [atN_mergeL] at hb
   by_cases e:(look eff x.1).isSome=true
   ·simp only [e,if_true] at hb ⊢
    cases h5:H' x n with
    | none=>rfl
    | some o =>
     rcases (h3 x b hb n o h5).2 with h | ⟨z,d,ez,hz,h6⟩
     ·have:=h.1;omega
     ·exact absurd (hfree z d hz) h6
   ·simp only [e,if_false,Bool.false_eq_true] at hb ⊢
    exact hfree x b hb
  refine ⟨fun x A hA=>?_,hold.2⟩
  simp only [atN_mergeL] at hA
  by_cases e:(look arrs' x.1).isSome=true
  ·rw [if_pos e] at hA
   refine hfit2 w'' hold (fun n hn=>?_) x A hA
   obtain ⟨g1,g2⟩:=hG n hn
   refine hw'' n g2 fun y b hb=>?_
   simp only [atN_mergeL] at hb
   by_cases e:(look eff y.1).isSome=true
   ·simp only [e,if_true] at hb ⊢
    cases h5:H' y n with
    | none=>rfl
    | some o =>
     rcases (h3 y b hb n o h5).2 with h | ⟨z,d,ez,hz,h6⟩
     ·exact absurd hn h.2
     ·cases h7:H z n with
      | none=>exact absurd h7 h6
      | some o'=>have:=hH.lt hz h7;omega
   ·simp only [e,if_false,Bool.false_eq_true] at hb ⊢
    cases h5:H y n with
    | none=>rfl
    | some o=>have:=hH.lt hb h5;omega
  ·rw [if_neg e] at hA
   exact hold.1 x A hA
theorem Same.refl (E:Env) (x:Nm):Same E E x:=⟨rfl,rfl,rfl,rfl⟩
theorem Same.trans {E1 E2 E3:Env} {x:Nm} (h:Same E1 E2 x) (k:Same E2 E3 x):Same E1 E3 x:=⟨k.1.trans h.1,k.2.1.trans h.2.1,k.2.2.1.trans h.2.2.1,k.2.2.2.trans h.2.2.2⟩
theorem Same.symm {E1 E2:Env} {x:Nm} (h:Same E1 E2 x):Same E2 E1 x:=⟨h.1.symm,h.2.1.symm,h.2.2.1.symm,h.2.2.2.symm⟩
theorem AgreeD.refl (D:Nat→Prop) (E:Env):AgreeD D E E:=fun x _=>Same.refl E x
theorem SatD.sat {D:Nat→Prop} (h:SatD D B W w0 E S a w) (h1:OneC E):Sat B W w0 E S a w:=h E (.refl _ _) h1
theorem SatA.sat (h:SatA B W w0 E S a w):Sat B W w0 E S a w:=h.2 E (.refl _ _) h.1
def Env.mix (E N:Env) (lo nx:Nat):Env :=
 ⟨fun x=>if lo≤x.1∧x.1<lo+nx then N.ρ x else E.ρ x,fun x=>if lo≤x.1∧x.1<lo+nx then N.κ x else E.κ x,fun x=>if lo≤x.1∧x.1<lo+nx then N.ν x else E.ν x,fun x=>if lo≤x.1∧x.1<lo+nx then N.χ x else E.χ x⟩
theorem mix_new {E N:Env} {lo nx:Nat} {x:Nm} (h:NewIds lo nx x.1):Same N (E.mix N lo nx) x:=by
 have h:lo≤x.1∧x.1<lo+nx:=h
 exact ⟨by simp [Env.mix,h],by simp [Env.mix,h],by simp [Env.mix,h],by simp [Env.mix,h]⟩
theorem mix_old {E N:Env} {lo nx:Nat} {x:Nm} (h:¬ NewIds lo nx x.1):Same E (E.mix N lo nx) x:=by
 have h:¬ (lo≤x.1∧x.1<lo+nx):=h
 exact ⟨by simp only [Env.mix,if_neg h],by simp only [Env.mix,if_neg h],by simp only [Env.mix,if_neg h],by simp only [Env.mix,if_neg h]⟩
theorem mix_one {E N:Env} {lo nx:Nat} (h:OneC E) (h' : OneC N):OneC (E.mix N lo nx):=by
 intro x
 simp only [Env.mix]
 split
 ·exact h' x
 ·exact h x
theorem satD_after {S' : St} {D:Nat→Prop} {eff:Own} {arrs' : List (Nat×Fm ArrF)} {tmpl:SV} {nx:Nat} {v:Value} (hs:SatD D B W w0 E S' a w) (h1:OneC E) (hD:∀ i,NewIds S.nid nx i→¬ D i)
  (hsub:∀ E,Sat B W w0 E S' a w→Sat B W w0 E S a w) (hfit:∀ E,Sat B W w0 E S' a w→FitsG B W E S w w' eff arrs'→FitsG B W E S' w w' eff arrs')
  {ks:List Nat} (hks:∀ i∈ks,D i) (h:After B W w0 E ks S a w tmpl nx eff arrs' v w') (dst:Option Nat) (nid:Nat) :
  ∃ E',OneC E'∧SatD (fun i=>D i∨NewIds S.nid nx i) B W w0 E' ⟨S'.nt,S'.putT dst tmpl,mergeL eff S'.own,mergeL arrs' S'.arrs,S'.facts,nid⟩ (a.put dst v) w':=by
 obtain ⟨N,hN,h⟩:=h
 refine ⟨E.mix N S.nid nx,mix_one h1 hN,fun E2 hE2 ho2=>?_⟩
 have hs2:=hs E2 (fun x hx=>(mix_old (fun hn=>hD _ hn hx)).trans (hE2 x (Or.inl hx))) ho2
 obtain ⟨e,hf⟩:=h E2 (hsub E2 hs2) (fun x hx=>hE2 x (Or.inl (hks _ hx)) |> fun q=>(mix_old (N:=N) (lo:=S.nid) (nx:=nx) (fun hn=>hD _ hn (hks _ hx))).trans q) (fun x hx=>(mix_new hx).trans (hE2 x (Or.inr hx)))
 rw [e]
 exact sat_after hs2 (hfit E2 hs2 hf) dst nid
theorem satA_after {eff:Own} {arrs' : List (Nat×Fm ArrF)} {tmpl:SV} {nx:Nat} {v:Value} (hs:SatA B W w0 E S a w)
  {ks:List Nat} (hks:∀ i∈ks,i<S.nid) (h:After B W w0 E ks S a w tmpl nx eff arrs' v w') (dst:Option Nat) :
  ∃ E',SatA B W w0 E' ⟨S.nt,S.putT dst tmpl,mergeL eff S.own,mergeL arrs' S.arrs,S.facts,S.nid+nx⟩ (a.put dst v) w':=by
 obtain ⟨E',h1,h2⟩:=satD_after hs.2 hs.1 (fun i hi hlt=>by have:=hi.1;omega) (fun _ h=>h) (fun _ _ h=>h) hks h dst (S.nid+nx)
 refine ⟨E',h1,fun E2 hE2=>h2 E2 (fun x hx=>hE2 x ?_)⟩
 rcases hx with hx | hx
 ·exact Nat.lt_of_lt_of_le hx (Nat.le_add_right _ _)
 ·exact hx.2
theorem sing_some {b n:Nat} {o o' : Obj} (h:sing b o n=some o'):n=b∧o' = o:=by
 unfold sing at h
 split at h
 ·next e=>cases h;exact ⟨e,rfl⟩
 ·cases h
theorem effOk_nil {own:Own} {H:Nm→PH}:EffOk E own H w w [] :=
 ⟨rfl,rfl,rfl,Nat.le_refl _,fun _ _ _=>rfl,fun _=>emp,fun x b h=>by simp [atN,look] at h,fun x y b c h=>by simp [atN,look] at h,fun x b h=>by simp [atN,look] at h⟩
theorem fits_nil:Fits B W E S w w [] []:=⟨fun _ _=>effOk_nil,fun _ _ x A h=>by simp [atN,look] at h⟩
theorem fits_alloc {o:Obj} {b:Blk} {i:Nat} (hb:b.den E (i,0,0) (sing w.heap.size o)) (w1:World) (hw:w1=w.alloc o∨w1=w.drew.alloc o):Fits B W E S w w1 [(i,.one b)] []:=by
 refine ⟨fun H hH=>?_,fun _ _ x A h=>by simp [atN,look] at h⟩
 have e1:w1.heap=w.heap.push o:=by rcases hw with rfl | rfl <;> rfl
 have hat:∀ x c,atN [(i,Fm.one b)] x=some c→x=(i,0,0)∧c=b:=by
  rintro ⟨j,k,l⟩ c h
  simp only [atN,look] at h
  by_cases e:i=j
  ·subst e
   simp only [if_true,Fm.get] at h
   split at h
   ·next e =>
    obtain ⟨rfl,rfl⟩:=e
    cases h
    exact ⟨rfl,rfl⟩
   ·cases h
  ·rw [if_neg e] at h
   cases h
 refine ⟨by rcases hw with rfl | rfl <;> rfl,by rcases hw with rfl | rfl <;> rfl,by rcases hw with rfl | rfl <;> rfl,by rw [e1];simp,fun n hn _=>?_,fun _=>sing w.heap.size o,?_,?_,?_⟩
 ·rw [e1,Array.getElem?_push]
  rw [if_neg (by omega)]
 ·intro x c h
  obtain ⟨rfl,rfl⟩:=hat x c h
  exact hb
 ·intro x y c d hx hy hne
  obtain ⟨rfl,_⟩:=hat x c hx
  obtain ⟨rfl,_⟩:=hat y d hy
  exact absurd rfl hne
 ·intro x c hx n o' hn
  obtain ⟨rfl,rfl⟩:=sing_some hn
  refine ⟨?_,Or.inl (Nat.le_refl _)⟩
  rw [e1,Array.getElem?_push]
  simp
theorem fits_write {o:Obj} {b b' : Blk} {x:Nm} {p:Prop} {g:Nat} (hx:pkN S.own x=some (p,b)) (hp:p) (hg:g<w.heap.size) (hown:∀ H,HeapOk B W E S.own H w→H x=sing g (w.heap[g]?.getD default))
  (hb:b'.den E x (sing g o)) (w1:World) (h0:w1.os=w.os∧w1.tape=w.tape∧w1.output=w.output) (hw:∀ n,w1.heap[n]? = if n=g then some o else w.heap[n]?):Fits B W E S w w1 (setN S.own x b') []:=by
 refine ⟨fun H hH=>?_,fun _ _ x A h=>by simp [atN,look] at h⟩
 have hHx:=hown H hH
 have hat:=pkN_at hx hp
 have hsz:w.heap.size≤w1.heap.size:=by
  rcases Nat.lt_or_ge w1.heap.size w.heap.size with h | h
  ·have h1:=hw w1.heap.size
   rw [Array.getElem?_eq_none (Nat.le_refl _)] at h1
   split at h1
   ·cases h1
   ·rw [Array.getElem?_eq_getElem h] at h1;cases h1
  ·exact h
 refine ⟨h0.1,h0.2.1,h0.2.2,hsz,fun n hn h=>?_,fun y=>if y=x then sing g o else H y,?_,?_,?_⟩
 ·rw [hw n]
  split
  ·next e =>
   subst e
   have:=h x b ((setN_look hx b' x.1).2 rfl) hat
   rw [hHx] at this
   simp [sing] at this
  ·rfl
 ·intro y c hc
  rw [atN_setN hx hp] at hc
  split at hc
  ·split at hc
   ·next e=>subst e;cases hc;simpa using hb
   ·next e=>simp only [e,if_false];exact hH.den y c hc
  ·cases hc
 ·intro y z c d hc hd hne n
  rw [atN_setN hx hp] at hc hd
  have key:∀ z d,z≠x→atN S.own z=some d→sing g o n=none∨H z n=none:=by
   intro z d hz hd
   by_cases e:n=g
   ·right
    rcases hH.disj x z b d hat hd (Ne.symm hz) n with h | h
    ·rw [hHx,e] at h
     simp [sing] at h
    ·exact h
   ·left
    simp [sing,e]
  split at hc
  ·split at hd
   ·by_cases ey:y=x
    ·by_cases ez:z=x
     ·exact absurd (ey.trans ez.symm) hne
     ·simp only [ey,ez,if_true,if_false] at hc hd ⊢
      exact key z d ez hd
    ·by_cases ez:z=x
     ·simp only [ey,ez,if_true,if_false] at hc hd ⊢
      exact (key y c ey hc).symm
     ·simp only [ey,ez,if_false] at hc hd ⊢
      exact hH.disj y z c d hc hd hne n
   ·cases hd
  ·cases hc
 ·intro y c hc n o' hn
  rw [atN_setN hx hp] at hc
  split at hc
  ·next e1 =>
   by_cases ey:y=x
   ·simp only [ey,if_true] at hn
    unfold sing at hn
    split at hn
    ·next e =>
     subst e
     cases hn
     refine ⟨by rw [hw];simp,Or.inr ⟨x,b,(setN_look hx b' x.1).2 rfl,hat,?_⟩⟩
     rw [hHx];simp [sing]
    ·cases hn
   ·simp only [ey,if_false] at hc hn
    have h4:=(hH.sub y c hc n o' hn).1
    have hng:n≠g:=by
     intro e
     rcases hH.disj x y b c hat hc (Ne.symm ey) n with h | h
     ·rw [hHx,e] at h
      simp [sing] at h
     ·rw [h] at hn;cases hn
    refine ⟨by rw [hw,if_neg hng];exact h4,Or.inr ⟨y,c,?_,hc,?_⟩⟩
    ·exact (setN_look hx b' y.1).2 e1
    ·rw [hn];simp
  ·cases hc
end
end Go.Proofs.Ytgljbdcamagdbaa.Z
namespace Go.Proofs.Ytgljbdcamagdbaa.Z
open Go Go.RowKit
structure TI where
 desc:TypeDesc
 zero:Value
 size:Nat
 bytes:Nat
 flat:List Bool
 asAr:Bool
abbrev TT:=List (Nat×TI)
def flatFs (P:Program) (g:TypeId→Option (List Bool)):List Field→Nat→Option (List Bool)
 | [],_=>some []
 | f :: r,o=>if f.name = "_" then none else if f.offset=o then match g f.type,P.info? f.type with
  | some ks,some i=>if i.size=ks.length∧0<i.size then (flatFs P g r (o+ks.length)).map (ks++·) else none
  | _,_=>none
  else none
def flatTy (P:Program):Nat→TypeId→Option (List Bool)
 | 0,_=>none
 | d+1,t=>match P.underlying t with
  | some (.int _)=>some [true]
  | some .bool=>some [false]
  | some (.struct fs)=>if P.stoodInHeld t then none else flatFs P (flatTy P d) fs.toList 0
  | some (.array n e)=>match flatTy P d e,P.info? e with
   | some ks,some i=>if i.size=ks.length∧0<i.size then some (List.replicate n ks).flatten else none
   | _,_=>none
  | _=>none
def TOk (P:Program) (T:TT):Prop:=∀ t ti,look T t=some ti →
 P.underlying t=some ti.desc∧(P.info? t).map (fun i=>(i.zero,i.size,i.bytes))=some (some ti.zero,ti.size,ti.bytes) ∧
 (ti.flat≠[]→P.eqGuardType P.depth t=false∧flatTy P 8 t=some ti.flat)
def isAggD:TypeDesc→Bool
 | .struct _ | .array _ _=>true
 | _=>false
def scs (cs:Array Value):List SC:=cs.toList.map SC.v
def svOf:Value→Option SV
 | .agg cs=>some (.agg (scs cs))
 | .tuple _=>none
 | v=>some (.c (.v v))
def opd:Operand→Option IX
 | .tmp t=>some (.t t)
 | .const v=>(svOf v).map .k
 | .func f=>some (.k (.c (.fn (.func f) [] [])))
 | .global _=>none
def opds:List Operand→Option (List IX)
 | []=>some []
 | x :: r=>(opd x).bind fun a=>(opds r).map (a :: ·)
def opdO:Option Operand→Option (Option IX)
 | none=>some none
 | some x=>(opd x).map some
def structParts (T:TT) (fs:Array Field):List (Nat×Operand)→Option (List (Nat×Nat×IX))
 | []=>some []
 | (i,x) :: r=>(fs[i]?).bind fun f=>(look T f.type).bind fun ti=>(opd x).bind fun a=>(structParts T fs r).map ((f.offset,ti.size,a) :: ·)
def rowParts (size:Nat):List (Nat×Operand)→Option (List (Nat×Nat×IX))
 | []=>some []
 | (i,x) :: r=>(opd x).bind fun a=>(rowParts size r).map ((i * size,size,a) :: ·)
def rowZero (n:Nat) (z:Value):List SC:=(List.range n).map fun i=>SC.v (z.cells[i % z.cells.size]!)
def allIn (T:TT):List Field→Bool
 | []=>true
 | f :: r=>(look T f.type).isSome && allIn T r
def zEq:Value→Value→Bool
 | .bool a,.bool b=>a == b
 | .int k a,.int k' b=>decide (k=k') && a == b
 | .pointer none,.pointer none=>true
 | .slice none 0 0,.slice none 0 0=>true
 | .map none,.map none=>true
 | .nilFunc,.nilFunc=>true
 | .nilIface,.nilIface=>true
 | _,_=>false
def zEqs:List Value→List Value→Bool
 | [],[]=>true
 | a :: l,b :: r=>zEq a b && zEqs l r
 | _,_=>false
def isConst:Operand→Bool
 | .const _=>true
 | _=>false
def mapKind (T:TT) (t:Nat):Option (KK×IntKind):=(look T t).bind fun ti=>match ti.desc with
 | .map k e=>(look T k).bind fun tk=>(look T e).bind fun te=>match te.desc with
  | .int kd=>match tk.desc with
   | .int kk=>if zEq te.zero (.int kd 0) then some (.int kk,kd) else none
   | .array n x=>(look T x).bind fun tx=>match tx.desc with
    | .int kk=>if zEq te.zero (.int kd 0) && tx.size == 1 && tk.flat == List.replicate n true then some (.arr n kk,kd) else none
    | _=>none
   | _=>none
  | _=>none
 | _=>none
def compOp (T:TT):Op→Option IOp
 | .move x | .assign x=>(opd x).map .mv
 | .pick c a b=>(opd c).bind fun c=>(opd a).bind fun a=>(opd b).map fun b=>.pick c a b
 | .alloc e=>(look T e).bind fun ti=>match ti.asAr,ti.desc with
  | true,.array n te=>(look T te).bind fun te=>if zEqs ti.zero.cells.toList (List.replicate n te.zero.cells.toList).flatten && te.zero.cells.size == te.size then some (.newA e n te.size (scs te.zero.cells)) else none
  | _,_=>some (.new e (scs ti.zero.cells))
 | .box e x=>(opd x).map fun x=>.box e x
 | .build t parts=>(look T t).bind fun ti=>match ti.desc with
  | .struct fs=>if allIn T fs.toList then (structParts T fs parts.toList).map fun ps=>.build (scs ti.zero.cells) ps else none
  | .array _ e=>(look T e).bind fun te=>(rowParts te.size parts.toList).map fun ps=>.build (scs ti.zero.cells) ps
  | _=>none
 | .buildSlice t len parts=>(look T t).bind fun ti=>match ti.desc with
  | .slice e=>(look T e).bind fun te=>if len * te.size≤16777216 then (rowParts te.size parts.toList).map fun ps=>.mkSl e len te.size (rowZero (len * te.size) te.zero) ps else none
  | _=>none
 | .load t a=>(look T t).bind fun ti=>(opd a).map fun a=>.ld (isAggD ti.desc) ti.size a
 | .store t a v=>(look T t).bind fun ti=>(opd a).bind fun a=>(opd v).map fun v=>.st ti.size a v
 | .nilCheck x=>(opd x).map .nilck
 | .binOp op t x y _=>(look T t).bind fun ti=>(opd x).bind fun ix=>(opd y).bind fun iy =>
  match ti.desc,op with
  | .int _,.shl=>some (.sh true ix iy)
  | .int _,.shr=>some (.sh false ix iy)
  | .int _,_=>some (.bin op ix iy)
  | .bool,.eql=>some (.eqb false ix iy)
  | .bool,.neq=>some (.eqb true ix iy)
  | .string,.eql=>some (.eqs false ix iy)
  | .string,.neq=>some (.eqs true ix iy)
  | .struct _,.eql | .array _ _,.eql=>if ti.flat.isEmpty then none else some (.eqa false ti.flat ix iy)
  | .struct _,.neq | .array _ _,.neq=>if ti.flat.isEmpty then none else some (.eqa true ti.flat ix iy)
  | .pointer _,.eql=>some (.eqn 0 false ix iy)
  | .pointer _,.neq=>some (.eqn 0 true ix iy)
  | .slice _,.eql=>some (.eqn 1 false ix iy)
  | .slice _,.neq=>some (.eqn 1 true ix iy)
  | .map _ _,.eql=>some (.eqn 2 false ix iy)
  | .map _ _,.neq=>some (.eqn 2 true ix iy)
  | .func _ _ _,.eql=>some (.eqn 3 false ix iy)
  | .func _ _ _,.neq=>some (.eqn 3 true ix iy)
  | .interface _,.eql=>if isConst y then some (.eqn 4 false ix iy) else none
  | .interface _,.neq=>if isConst y then some (.eqn 4 true ix iy) else none
  | _,_=>none
 | .unOp op _ x=>(opd x).map fun x=>.un op x
 | .convert s d x=>(look T s).bind fun ts=>(look T d).bind fun td=>match ts.desc,td.desc with
  | .int _,.int k=>(opd x).map fun x=>.conv k x
  | _,_=>none
 | .fieldAddr s x f=>(look T s).bind fun ti=>match ti.desc with
  | .struct fs=>(fs[f]?).bind fun fd=>(look T fd.type).bind fun tf=>if tf.size=0 then none else (opd x).map fun x=>.fa fd.offset x
  | _=>none
 | .field s x f=>(look T s).bind fun ti=>match ti.desc with
  | .struct fs=>(fs[f]?).bind fun fd=>(look T fd.type).bind fun tf=>(opd x).map fun x=>.fld (isAggD tf.desc) fd.offset tf.size x
  | _=>none
 | .indexAddr t x i=>(look T t).bind fun ti=>match ti.desc with
  | .slice e=>(look T e).bind fun te=>(opd x).bind fun x=>(opd i).map fun i=>.ia te.size x i
  | .array n e=>(look T e).bind fun te=>(opd x).bind fun x=>(opd i).map fun i=>.iar n te.size x i
  | _=>none
 | .index t x i=>(look T t).bind fun ti=>match ti.desc with
  | .array n e=>(look T e).bind fun te=>(opd x).bind fun x=>(opd i).map fun i=>.idx (isAggD te.desc) n te.size x i
  | _=>none
 | .extract x i=>(opd x).map fun x=>.ext i x
 | .makeSlice t l c=>(look T t).bind fun ti=>match ti.desc with
  | .slice e=>(look T e).bind fun te=>(opd l).bind fun l=>(opd c).map fun c=>.mks e te.size te.bytes (scs te.zero.cells) l c
  | _=>none
 | .slice t x lo hi mx=>(look T t).bind fun ti=>match ti.desc with
  | .slice e=>(look T e).bind fun te=>(opd x).bind fun x=>(opdO lo).bind fun lo=>(opdO hi).bind fun hi=>(opdO mx).bind fun mx=>if hi.isNone && mx.isSome then none else some (.slc te.size x lo hi mx)
  | .array n e=>(look T e).bind fun te=>if te.size=1∧0<n∧lo=none∧hi=none∧mx=none then (opd x).map fun x=>.sla n x else none
  | _=>none
 | .makeInterface t x=>(look T t).bind fun ti=>match ti.desc with
  | .interface _=>none
  | _=>(opd x).map fun x=>.mif t x
 | .makeMap t none=>(mapKind T t).map fun p=>.mkm p.1 p.2
 | .lookup t m k ok=>(mapKind T t).bind fun p=>(opd m).bind fun m=>(opd k).map fun k=>.lkp p.1 p.2 ok m k
 | .mapUpdate t m k v | .insert t m k v=>(mapKind T t).bind fun p=>(opd m).bind fun m=>(opd k).bind fun k=>(opd v).map fun v=>.mup p.1 p.2 m k v
 | .mapEntry t m k=>(mapKind T t).bind fun p=>(opd m).bind fun m=>(opd k).map fun k=>.ent p.1 p.2 m k
 | .entryStore t m s v=>(mapKind T t).bind fun p=>(opd m).bind fun m=>(opd s).bind fun s=>(opd v).map fun v=>.ests p.1 p.2 m s v
 | .makeFunc f l r=>(opds l.toList).bind fun l=>(opds r.toList).map fun r=>.mfn f l r
 | .call c=>match c.callee with
  | .value (.func f)=>(opds c.args.toList).map fun xs=>.call f xs
  | .value (.tmp t)=>(opds c.args.toList).map fun xs=>.callv (.t t) xs
  | .invoke x name=>(opd x).bind fun x=>(opds c.args.toList).map fun xs=>.calli name x xs
  | .builtin .len=>match c.args.toList,c.argTypes.toList with
   | [x],[t]=>(look T t).bind fun ti=>match ti.desc with
    | .slice _=>(opd x).map .len
    | _=>none
   | _,_=>none
  | .builtin .append=>match c.args.toList,c.argTypes.toList with
   | [s,x],[t,u]=>(look T t).bind fun ti=>(look T u).bind fun tu=>match ti.desc,tu.desc with
    | .slice e,.slice _=>(look T e).bind fun te=>(opd s).bind fun s=>(opd x).map fun x=>.app e te.size te.bytes (scs te.zero.cells) s x
    | _,_=>none
   | _,_=>none
  | .builtin .copy=>match c.args.toList,c.argTypes.toList with
   | [s,x],[t,u]=>(look T t).bind fun ti=>(look T u).bind fun tu=>match ti.desc,tu.desc with
    | .slice e,.slice _=>(look T e).bind fun te=>(opd s).bind fun s=>(opd x).map fun x=>.cpy te.size s x
    | _,_=>none
   | _,_=>none
  | .builtin .max=>match c.args.toList with
   | [x,y]=>(opd x).bind fun x=>(opd y).map fun y=>.mm true x y
   | _=>none
  | .builtin .min=>match c.args.toList with
   | [x,y]=>(opd x).bind fun x=>(opd y).map fun y=>.mm false x y
   | _=>none
  | _=>none
 | _=>none
def compIO (T:TT) (ops:Array Oper) (o:Oper):Option IO1 :=
 (compOp T o.op).bind fun op=>match o.guard with
  | none=>some ⟨o.dst,op,none⟩
  | some (j,want)=>((ops[j]?).bind (·.dst)).map fun g=>⟨o.dst,op,some (g,want)⟩
def compList (T:TT) (ops:Array Oper):List Oper→Option (List IO1)
 | []=>some []
 | o :: r=>(compIO T ops o).bind fun i=>(compList T ops r).map (i :: ·)
theorem drop'_eq {α:Type}:∀ (n:Nat) (l:List α),drop' n l=l.drop n
 | 0,_=>rfl
 | _+1,[]=>rfl
 | n+1,_ :: l=>by simp [drop',drop'_eq n l]
theorem take'_eq {α:Type}:∀ (n:Nat) (l:List α),take' n l=l.take n
 | 0,_=>by simp [take']
 | _+1,[]=>rfl
 | n+1,_ :: l=>by simp [take',take'_eq n l]
theorem nth_eq {α:Type}:∀ (l:List α) (n:Nat),nth l n=l[n]?
 | [],_=>by simp [nth]
 | _ :: _,0=>rfl
 | _ :: l,n+1=>by simp [nth,nth_eq l n]
theorem len'_eq {α:Type}:∀ (l:List α),len' l=l.length
 | []=>rfl
 | _ :: l=>by simp [len',len'_eq l]
theorem allOne_mem:∀ {l:List SC},allOne l=true→∀ c∈l,c.one=true
 | [],_,c,h=>by cases h
 | a :: r,h,c,hc=>by
  simp only [allOne,Bool.and_eq_true] at h
  rcases List.mem_cons.1 hc with rfl | hc
  ·exact h.1
  ·exact allOne_mem h.2 c hc
theorem zEq_eq {a b:Value} (h:zEq a b=true):a=b:=by
 unfold zEq at h
 split at h
 ·rw [beq_iff_eq.1 h]
 ·simp only [Bool.and_eq_true,decide_eq_true_eq,beq_iff_eq] at h
  rw [h.1,h.2]
 all_goals first | rfl | (cases h;done)
theorem zEqs_eq:∀ {a b:List Value},zEqs a b=true→a=b
 | [],[],_=>rfl
 | a :: l,b :: r,h=>by
  simp only [zEqs,Bool.and_eq_true] at h
  rw [zEq_eq h.1,zEqs_eq h.2]
 | [],_ :: _,h=>by cases h
 | _ :: _,[],h=>by cases h
section
variable (E:Env)
theorem den_c (x:SC):(SV.c x).den E=x.den E:=rfl
theorem den_agg (l:List SC):(SV.agg l).den E = .agg (l.map (SC.den E)).toArray:=rfl
theorem den_tup (l:List (Bool×List SC)):(SV.tup l).den E = .tuple (l.map (den1 E)).toArray:=rfl
theorem den_v (x:Value):(SC.v x).den E=x:=by simp [SC.den]
theorem den_b (e:Bool):(SC.bo e).den E = .bool e:=by simp [SC.den]
theorem den_xv (x:Nm):(SC.xv x).den E=E.χ x:=by simp [SC.den]
theorem den_ptr (x:Nm) (off:Nat):(SC.ptr x off).den E = .pointer (some ⟨E.ρ x,off,none⟩):=by simp [SC.den]
theorem den_pe (x:Nm) (s e j:Nat):(SC.pe x s e j).den E = .pointer (some ⟨E.ρ x,e * s+j,none⟩):=by simp [SC.den]
theorem den_sl (x:Nm) (s o n:Nat) (c:Option Nat):(SC.sl x s o n c).den E = .slice (if E.ν x=true then none else some ⟨E.ρ x,o * s,none⟩) n (c.getD (E.κ x - o)):=by simp [SC.den]
end
section
variable {P:Program} {T:TT} {B:Nat} {W:Nat→Prop} {w0:World} {E:Env} {S:St} {a:Act} {w:World}
theorem scs_den (E:Env) (cs:Array Value):((scs cs).map (SC.den E)).toArray=cs:=by
 simp [scs,Function.comp_def,den_v]
theorem svOf_den {x:Value} {v:SV} (h:svOf x=some v) (E:Env):v.den E=x:=by
 cases x <;> simp only [svOf,Option.some.injEq,reduceCtorEq] at h <;> subst h <;> simp [SV.den,den_v,scs_den]
theorem opd_den {x:Operand} {i:IX} {v:SV} (hs:Sat B W w0 E S a w) (h:opd x=some i) (hv:S.ev i=some v):a.eval x=v.den E:=by
 cases x with
 | tmp t =>
  simp only [opd,Option.some.injEq] at h
  subst h
  exact (hs.tmps t v hv).2
 | const c =>
  simp only [opd,Option.map_eq_some_iff] at h
  obtain ⟨u,hu,rfl⟩:=h
  simp only [St.ev,Option.some.injEq] at hv
  subst hv
  exact (svOf_den hu E).symm
 | func f =>
  simp only [opd,Option.some.injEq] at h
  subst h
  simp only [St.ev,Option.some.injEq] at hv
  subst hv
  simp [SV.den,SC.den,SC.denL]
  rfl
 | global g=>simp [opd] at h
theorem opds_den (hs:Sat B W w0 E S a w):∀ (xs:List Operand) (is:List IX) (vs:List SV),opds xs=some is→evs S is=some vs→xs.map a.eval=vs.map (SV.den E)
 | [],is,vs,h,h'=>by
  simp only [opds,Option.some.injEq] at h
  subst h
  simp only [evs,Option.some.injEq] at h'
  subst h'
  rfl
 | x :: r,is,vs,h,h'=>by
  simp only [opds,Option.bind_eq_some_iff,Option.map_eq_some_iff] at h
  obtain ⟨i,hi,is',his,rfl⟩:=h
  simp only [evs] at h'
  split at h'
  ·next v vs' hv hvs =>
   simp only [Option.some.injEq] at h'
   subst h'
   simp only [List.map_cons]
   rw [opd_den hs hi hv,opds_den hs r is' vs' his hvs]
  ·cases h'
theorem evC_den (hs:Sat B W w0 E S a w):∀ (xs:List Operand) (is:List IX) (vs:List SC),opds xs=some is→evC S is=some vs→xs.map a.eval=vs.map (SC.den E)
 | [],is,vs,h,h'=>by
  simp only [opds,Option.some.injEq] at h
  subst h
  simp only [evC,Option.some.injEq] at h'
  subst h'
  rfl
 | x :: r,is,vs,h,h'=>by
  simp only [opds,Option.bind_eq_some_iff,Option.map_eq_some_iff] at h
  obtain ⟨i,hi,is',his,rfl⟩:=h
  simp only [evC] at h'
  split at h'
  ·next v vs' hv hvs =>
   simp only [Option.some.injEq] at h'
   subst h'
   simp only [List.map_cons]
   rw [opd_den hs hi hv,evC_den hs r is' vs' his hvs]
   rfl
  ·cases h'
theorem bool?_den {x:SC} {b:Bool} (h:x.bool? = some b) (E:Env):x.den E = .bool b:=by
 cases x with
 | v y=>cases y <;> simp only [SC.bool?,Option.some.injEq,reduceCtorEq] at h;subst h;exact den_v _ _
 | bo e=>simp only [SC.bool?,Option.some.injEq] at h;subst h;exact den_b _ _
 | _=>simp [SC.bool?] at h
theorem one_den (hx:OneC E) {c:SC} (hc:c.one=true):(c.den E).oneCell' = true:=by
 cases c with
 | v x=>rw [den_v];exact hc
 | bo e=>rw [den_b];rfl
 | xv i=>rw [den_xv];exact hx i
 | xs x s o n c=>simp only [SC.den];split <;> first | rfl | exact hx x
 | ep i s k j=>simp only [SC.den];split <;> rfl
 | _=>simp [SC.den,Value.oneCell']
theorem cells_den {v:SV} {cs:List SC} (h:v.cells=some cs) (hx:OneC E):(v.den E).cells=(cs.map (SC.den E)).toArray∧∀ u∈cs.map (SC.den E),u.oneCell' = true:=by
 cases v with
 | c x =>
  simp only [SV.cells] at h
  split at h
  ·next hone =>
   simp only [Option.some.injEq] at h
   subst h
   have:=one_den hx hone
   refine ⟨?_,fun u hu=>?_⟩
   ·simp only [SV.den,List.map_cons,List.map_nil]
    generalize x.den E=y at this
    cases y <;> first | rfl | (simp [Value.oneCell'] at this)
   ·simp only [List.map_cons,List.map_nil,List.mem_singleton] at hu
    subst hu;exact this
  ·cases h
 | agg l =>
  simp only [SV.cells] at h
  split at h
  ·next hone =>
   simp only [Option.some.injEq] at h
   subst h
   refine ⟨rfl,fun u hu=>?_⟩
   obtain ⟨c,hc,rfl⟩:=List.mem_map.1 hu
   exact one_den hx (allOne_mem hone c hc)
  ·cases h
 | tup l=>simp [SV.cells] at h
 | gd g w e v=>simp [SV.cells] at h
theorem ti_parts {t:Nat} {ti:TI} (hT:TOk P T) (h:look T t=some ti):P.underlying t=some ti.desc∧∃ i,P.info? t=some i∧i.zero=some ti.zero∧i.size=ti.size∧i.bytes=ti.bytes:=by
 obtain ⟨h1,h2,_⟩:=hT t ti h
 exact ⟨h1,info_parts h2⟩
theorem run_sizeOf {t:Nat} {i:TypeInfo} (h:P.info? t=some i) (w:World):(sizeOf t).run P w = .ok i.size w:=by
 simp [sizeOf,typeInfo,h]
theorem run_zeroValue {t:Nat} {i:TypeInfo} {z:Value} (h:P.info? t=some i) (hz:i.zero=some z) (w:World):(zeroValue t).run P w = .ok z w:=by
 simp [zeroValue,typeInfo,h,hz]
theorem run_isAgg {t:Nat} {d:TypeDesc} (h:P.underlying t=some d) (w:World):(isAgg t).run P w = .ok (isAggD d) w:=by
 unfold isAgg
 simp only [Sem.run_bind,run_underlying h,Result.andThen_ok]
 cases d <;> rfl
theorem addr_add0 (b o:Nat) (j:Nat):(⟨b,o,none⟩:Addr).add j=⟨b,o+j,none⟩:=by unfold Addr.add;split <;> simp_all
theorem run_ldv {t:Nat} {ti:TI} (hT:TOk P T) (ht:look T t=some ti) (b off:Nat) (cs:List Value) (hl:cs.length=ti.size)
  (hc:∀ j u,cs[j]? = some u→w.cell? ⟨b,off+j,none⟩=some u) :
  (Instr.loadAt t (.pointer (some ⟨b,off,none⟩))).run P w = .ok (if isAggD ti.desc then .agg cs.toArray else (cs[0]?).getD undef) w∨(isAggD ti.desc=false∧cs=[]):=by
 obtain ⟨hu,i,hi,hz,hs,_⟩:=ti_parts hT ht
 cases hd:isAggD ti.desc with
 | true =>
  left
  have:=run_loadCells_list (P:=P) w ⟨b,off,none⟩ cs (fun j v hv=>by rw [addr_add0];exact hc j v hv)
  simp only [Instr.loadAt,Instr.sureAddr,Sem.run_bind,Sem.run_pure,Result.andThen_ok,loadVar,run_isAgg hu,hd,if_true,run_sizeOf hi,hs,← hl,this]
 | false =>
  cases cs with
  | nil=>right;exact ⟨rfl,rfl⟩
  | cons v r =>
   left
   have h0:=hc 0 v rfl
   rw [Nat.add_zero] at h0
   simp only [Instr.loadAt,Instr.sureAddr,Sem.run_bind,Sem.run_pure,Result.andThen_ok,loadVar,run_isAgg hu,hd,Bool.false_eq_true,if_false]
   simp [load,Sem.run,h0]
theorem run_ld1 {t:Nat} {ti:TI} (hT:TOk P T) (ht:look T t=some ti) (hd:isAggD ti.desc=false) (b off:Nat) (u:Value) (hc:w.cell? ⟨b,off,none⟩=some u) :
  (Instr.loadAt t (.pointer (some ⟨b,off,none⟩))).run P w = .ok u w:=by
 obtain ⟨hu,_⟩:=ti_parts hT ht
 simp only [Instr.loadAt,Instr.sureAddr,Sem.run_bind,Sem.run_pure,Result.andThen_ok,loadVar,run_isAgg hu,hd,Bool.false_eq_true,if_false]
 simp [load,Sem.run,hc]
theorem seg_get {α:Type} {l:List α} {off n j:Nat} {u:α} (h:(take' n (drop' off l))[j]? = some u):l[off+j]? = some u:=by
 rw [take'_eq,drop'_eq,List.getElem?_take] at h
 split at h
 ·rw [List.getElem?_drop] at h;exact h
 ·cases h
theorem seg_len {α:Type} {l:List α} {off n:Nat} (h:off+n≤l.length):(take' n (drop' off l)).length=n:=by
 rw [take'_eq,drop'_eq,List.length_take,List.length_drop];omega
theorem bk_heap {own:Own} {H:Nm→PH} (hH:HeapOk B W E own H w) {x:Nm} {cs:List SC} {ty:Nat} (h:atN own x=some (.bk cs ty)):w.heap[E.ρ x]? = some (.cells (cs.map (SC.den E)).toArray ty (0,0)):=by
 have h1:=hH.den x _ h
 simp only [Blk.den] at h1
 exact (hH.sub x _ h (E.ρ x) _ (by rw [h1];simp [sing])).1
theorem bk_cell {own:Own} {H:Nm→PH} (hH:HeapOk B W E own H w) {x:Nm} {cs:List SC} {ty:Nat} (h:atN own x=some (.bk cs ty)) (j:Nat):w.cell? ⟨E.ρ x,j,none⟩=(cs[j]?).map (SC.den E):=by
 rw [cell_of_row w _ j _ ty (0,0) (bk_heap hH h)]
 simp
theorem ar_heap {own:Own} {H:Nm→PH} (hH:HeapOk B W E own H w) {x:Nm} {n s ty:Nat} {at_:Nat→List SC} (h:atN own x=some (.ar n s at_ ty)) :
  (True∧E.κ x=0∧n=0∧H x=emp)∨(E.ν x=false∧(n≤E.κ x∧0<E.κ x)∧E.κ x≤maxLen∧∃ cells:Array Value,H x=sing (E.ρ x) (.cells cells ty (0,0))∧w.heap[E.ρ x]? = some (.cells cells ty (0,0))∧cells.size=E.κ x * s ∧
    ∀ e,e<n→(at_ e).length=s∧∀ j u,(at_ e)[j]? = some u→cells[e * s+j]? = some (u.den E)∧(u.den E).oneCell' = true):=by
 have h1:=hH.den x _ h
 simp only [Blk.den] at h1
 rcases h1 with h1 | ⟨h2,h3,h4,cells,h5,h6,h7⟩
 ·exact Or.inl h1
 ·exact Or.inr ⟨h2,h3,h4,cells,h5,(hH.sub x _ h (E.ρ x) _ (by rw [h5];simp [sing])).1,h6,h7⟩
theorem ar_cell {own:Own} {H:Nm→PH} (hH:HeapOk B W E own H w) {x:Nm} {n s ty:Nat} {at_:Nat→List SC} (h:atN own x=some (.ar n s at_ ty)) {e:Nat} (he:e<n) :
  E.ν x=false∧(at_ e).length=s∧∀ j u,(at_ e)[j]? = some u→w.cell? ⟨E.ρ x,e * s+j,none⟩=some (u.den E)∧(u.den E).oneCell' = true:=by
 rcases ar_heap hH h with ⟨_,_,h0,_⟩ | ⟨h2,_,_,cells,_,hb,_,h7⟩
 ·omega
 ·refine ⟨h2,(h7 e he).1,fun j u hu=>?_⟩
  rw [cell_of_row w _ _ _ ty (0,0) hb]
  exact (h7 e he).2 j u hu
theorem Sat.arr (hs:Sat B W w0 E S a w) {x:Nm} {A:ArrF} (h:atN S.arrs x=some A):ArrAt E w x A:=by
 obtain ⟨H,_,hF⟩:=hs.mem
 exact (hF w (fun _ _ _=>rfl)).1 x A h
theorem put_eq (l:List SC) (off:Nat) (cs:List SC):put l off cs=l.take off++cs++l.drop (off+cs.length):=by
 simp [put,take'_eq,drop'_eq,len'_eq]
end
end Go.Proofs.Ytgljbdcamagdbaa.Z
