/- DequeSwapsSaid: what its proof is made of. No condition. -/
import Derived.Test.YtcloeignccpljaaPkIDequeSwapsAE
set_option linter.unusedSimpArgs false
set_option linter.unusedVariables false
namespace Go.Proofs.Ytcloeignccpljaa.Z
open Go Go.RowKit
structure Rec where
 dst:Option Nat
 val:SV
 eff:Own
 arrs:List (Nat×Fm ArrF)
 lo:Nat
 cnt:Nat
 kn:List Nat
 ks:List Nat
 wk:Own
def keysL {α:Type}:List (Nat×α)→List Nat
 | []=>[]
 | (k,_) :: l=>k :: keysL l
def St.appR (S:St) (r:Rec):St:=⟨S.nt,S.putT r.dst r.val,mergeL r.eff S.own,mergeL r.arrs S.arrs,S.facts,S.nid⟩
def St.appN (S:St) (r:Rec):St:=⟨S.nt,S.putT r.dst r.val,mergeL r.eff S.own,mergeL r.arrs S.arrs,S.facts,r.lo+r.cnt⟩
def Rec.tch (r:Rec):List Nat:=keysL r.eff
def tchs (done:List Rec):List Nat→List Nat
 | []=>[]
 | j :: U=>match nth done j with
  | some r=>r.tch++tchs done U
  | none=>tchs done U
def keyss (done:List Rec):List Nat→List Nat
 | []=>[]
 | j :: U=>match nth done j with
  | some r=>keysL r.arrs++keyss done U
  | none=>keyss done U
def St.hid (S:St) (H T Ks:List Nat):St:=⟨S.nt,dropL H S.tmps,dropL T S.own,dropL Ks S.arrs,S.facts,S.nid⟩
def idC:SC→List Nat
 | .ptr x _=>[x.1]
 | .sl x _ _ _ _=>[x.1]
 | .pe x _ _ _=>[x.1]
 | .mp x=>[x.1]
 | _=>[]
def idX (S:St) (x:IX):List Nat:=match S.ev x with
 | some (.c c)=>idC c
 | _=>[]
def useO (S:St):IOp→List Nat
 | .ld _ _ x=>idX S x
 | .st _ a _=>idX S a
 | .ia _ x _=>idX S x
 | .len x=>idX S x
 | .slc _ x _ _ _=>idX S x
 | .sla _ x=>idX S x
 | .app _ _ _ _ s x=>idX S s++idX S x
 | .cpy _ d s=>idX S d++idX S s
 | .lkp _ _ _ m _=>idX S m
 | .mup _ _ m _ _=>idX S m
 | .ent _ _ m _=>idX S m
 | .ests _ _ m _ _=>idX S m
 | _=>[]
def keepK {α:Type} (ks:List Nat):List (Nat×α)→List (Nat×α)
 | []=>[]
 | (k,v) :: l=>if memB ks k=true then (k,v) :: keepK ks l else keepK ks l
def St.only (S:St) (op:IOp):St:=⟨S.nt,S.tmps,keepK (useO S op) S.own,S.arrs,S.facts,S.nid⟩
def ltAll:List Nat→Nat→Bool
 | [],_=>true
 | a :: l,n=>decide (a<n) && ltAll l n
def wrFree (done:List Rec) (id:Nat):List Nat→Bool
 | []=>true
 | j :: U=>match nth done j with
  | some r=>if memB r.kn id=true then false else wrFree done id U
  | none=>false
def BImp (b b' : Blk):Prop:=∀ (E:Env) (x:Nm) (h:PH),b.den E x h→b'.den E x h
def FImp (u v:Fm Blk):Prop:=∀ (x:Nat×Nat) (b' : Blk),v.get x=some b'→∃ b,u.get x=some b∧BImp b b'
def wkImp (done:List Rec) (id:Nat) (b:Fm Blk):List Nat→Prop
 | []=>True
 | j :: U=>(match nth done j with
  | some r=>(match look r.wk id with
   | some v=>FImp b v
   | none=>True)
  | none=>True)∧wkImp done id b U
def wrOk (U:List Nat) (done:List Rec) (lo cnt:Nat):Own→Prop
 | []=>True
 | (k,b) :: l=>((lo≤k∧k<lo+cnt)∨(k<lo∧wrFree done k U=true∧wkImp done k b U))∧wrOk U done lo cnt l
def newOk (lo cnt:Nat):List Nat→Prop
 | []=>True
 | k :: l=>(lo≤k∧k<lo+cnt)∧newOk lo cnt l
def DCallVC (C:Ctx) (bs:Nat) (f:Nat) (vs:List SV) (dst:Option Nat) (U:List Nat) (Si:St) (done:List Rec) (S:St) (ex:List Rec→St→Prop):Prop :=
 ∃ ks tmpl nx eff arrs',CR C f vs Si ks tmpl nx eff arrs'∧ltAll ks bs=true∧newOk Si.nid nx (keysL arrs')∧wrOk U done Si.nid nx eff∧(∀ k∈keysL eff,k<Si.nid→(look Si.own k).isSome=true) ∧
  ex (done++[⟨dst,tmpl,eff,arrs',Si.nid,nx,keysL Si.own,ks,[]⟩]) (S.appN ⟨dst,tmpl,eff,arrs',Si.nid,nx,keysL Si.own,ks,[]⟩)
def recOf (dst:Option Nat) (nid:Nat) (kn:List Nat) (o:Out):Rec:=⟨dst,o.val,o.eff,o.arrs,nid,o.cnt,kn,[],[]⟩
def skipR (dst:Option Nat) (nid:Nat) (kn:List Nat):Rec:=⟨dst,.c (.v undef),[],[],nid,0,kn,[],[]⟩
def outOk (U:List Nat) (done:List Rec) (Si:St) (o:Out):Prop:=newOk Si.nid o.cnt (keysL o.arrs)∧wrOk U done Si.nid o.cnt o.eff
def OpR (C:Ctx) (op:IOp) (So:St) (tmpl:SV) (nx:Nat) (eff:Own) (arrs' : List (Nat×Fm ArrF)):Prop :=
 ∀ o:Oper,compOp C.tab.T o.op=some op→∀ E a w,Sat C.B C.W C.w0 E So a w→∃ v w',RunsTo ((execOp a.eval o).run C.P w) v w'∧After C.B C.W C.w0 E [] So a w tmpl nx eff arrs' v w'
def DOpVC (C:Ctx) (op:IOp) (d:Option Nat) (U:List Nat) (So:St) (done:List Rec) (S:St) (ex:List Rec→St→Prop):Prop :=
 ∃ tmpl nx eff arrs',OpR C op So tmpl nx eff arrs'∧newOk So.nid nx (keysL arrs')∧wrOk U done So.nid nx eff∧(∀ k∈keysL eff,k<So.nid→(look So.own k).isSome=true) ∧
  ex (done++[⟨d,tmpl,eff,arrs',So.nid,nx,keysL So.own,[],[]⟩]) (S.appN ⟨d,tmpl,eff,arrs',So.nid,nx,keysL So.own,[],[]⟩)
def thenD (C:Ctx) (ex:List Rec→St→Prop) (U:List Nat) (Si:St) (done:List Rec) (S:St) (d:Option Nat) (op:IOp):Res→Prop
 | .ok vc out=>vc∧outOk U done Si out∧ex (done++[recOf d Si.nid (keysL Si.own) out]) (S.appN (recOf d Si.nid (keysL Si.own) out))
 | .two c vc out vc' out'=>(c→vc∧outOk U done Si out∧ex (done++[recOf d Si.nid (keysL Si.own) out]) (S.appN (recOf d Si.nid (keysL Si.own) out))) ∧
   (¬ c→vc'∧outOk U done Si out'∧ex (done++[recOf d Si.nid (keysL Si.own) out']) (S.appN (recOf d Si.nid (keysL Si.own) out')))
 | .bad=>DOpVC C op d U Si done S ex
def St.weak (S:St) (m:IX):Option St:=match S.ev m with
 | some (.c (.mp x))=>match look S.own x.1 with
  | some (.one (.mp kk kd f))=>some ⟨S.nt,S.tmps,[(x.1,.one (.wm kk kd fun a=>(f a).getD 0))],S.arrs,S.facts,S.nid⟩
  | _=>none
 | _=>none
def recW (d:Option Nat) (nid:Nat) (val:SV) (wk:Own):Rec:=⟨d,val,[],[],nid,0,[],[],wk⟩
def thenW (ex:List Rec→St→Prop) (So:St) (done:List Rec) (S:St) (d:Option Nat) (op:IOp):Res→Prop
 | .ok vc ⟨val,[],[],0⟩=>vc∧ex (done++[recW d So.nid val So.own]) (S.appN (recW d So.nid val So.own))
 | _=>StuckOp op So
def runD (C:Ctx) (bs:Nat) (ex:List Rec→St→Prop) (o:IO1) (U:List Nat) (Si:St) (done:List Rec) (S:St):Prop :=
 match o.op with
 | .call f xs=>match evs Si xs with
  | some vs=>DCallVC C bs f vs o.dst U Si done S ex
  | none=>StuckOp o.op Si
 | .callv x xs=>match Si.ev x,evs Si xs with
  | some (.c (.fn (.func f) l l')),some vs=>FnOk C.P f∧DCallVC C bs f (l.map SV.c++vs++l'.map SV.c) o.dst U Si done S ex
  | _,_=>StuckOp o.op Si
 | .calli name x xs=>match Si.ev x,evs Si xs with
  | some (.c (.ifc t c)),some vs=>∃ f,Meth C.P t name f c∧FnOk C.P f∧DCallVC C bs f (.c c :: vs) o.dst U Si done S ex
  | _,_=>StuckOp o.op Si
 | .lkp kk kd false m k=>match Si.weak m with
  | some Sw=>thenW ex Sw done S o.dst (.lkp kk kd false m k) (stepOut (.lkp kk kd false m k) Sw)
  | none=>StuckOp o.op Si
 | op=>thenD C ex U (Si.only op) done S o.dst op (stepOut op (Si.only op))
def recG (d:Option Nat) (g:Nat) (want e:Bool) (val:SV) (nid:Nat) (kn:List Nat):Rec:=⟨d,.gd g want e val,[],[],nid,0,kn,[],[]⟩
def specDO (ex:List Rec→St→Prop) (Si:St) (done:List Rec) (S:St) (d:Option Nat) (op:IOp) (g:Nat) (want e:Bool):Res→Prop
 | .ok vc ⟨val,[],[],0⟩=>(e=true→vc)∧ex (done++[recG d g want e val Si.nid (keysL Si.own)]) (S.appN (recG d g want e val Si.nid (keysL Si.own)))
 | _=>StuckOp op Si
def specD (C:Ctx) (ex:List Rec→St→Prop) (o:IO1) (U:List Nat) (Si:St) (done:List Rec) (S:St) (g:Nat) (want:Bool):List (Nat×Bool×Bool)→Prop
 | (g0,w0,e) :: ch=>chainP Si.tmps 20 g want∧match pureSlots o.op with
  | some sl=>rsvP ((g0,w0,e) :: ch) Si.tmps sl∧specDO ex ((Si.resS ((g0,w0,e) :: ch) sl).only o.op) done S o.dst o.op g want e (stepOut o.op ((Si.resS ((g0,w0,e) :: ch) sl).only o.op))
  | none=>match o.op with
   | .call f xs=>rsvP ((g0,w0,e) :: ch) Si.tmps (slotL xs)∧match evs (Si.resS ((g0,w0,e) :: ch) (slotL xs)) xs with
    | some vs=>∃ tmpl,(e=true→CRv C f vs (Si.resS ((g0,w0,e) :: ch) (slotL xs)) tmpl)∧ex (done++[recG o.dst g want e tmpl Si.nid (keysL Si.own)]) (S.appN (recG o.dst g want e tmpl Si.nid (keysL Si.own)))
    | none=>False
   | _=>StuckOp o.op Si
 | []=>StuckOp o.op Si
def altC (P Q:Prop):IOp→Prop
 | .call _ _=>P∨Q
 | _=>P
def gateD (C:Ctx) (bs:Nat) (ex:List Rec→St→Prop) (o:IO1) (U:List Nat) (Si:St) (done:List Rec) (S:St):Prop :=
 match o.guard with
 | none=>runD C bs ex o U Si done S
 | some (g,want)=>match look Si.tmps g with
  | some (.c (.v (.bool b)))=>if b=want then runD C bs ex o U Si done S else ex (done++[skipR o.dst Si.nid (keysL ([]:Own))]) (S.appN (skipR o.dst Si.nid (keysL ([]:Own))))
  | some (.c (.bo b))=>altC (specD C ex o U Si done S g want (chain Si.tmps 20 g want)) (b=want∧runD C bs ex o U Si done S) o.op
  | some (.gd _ _ e (.c (.v (.bool b))))=>e=true∧(if b=want then runD C bs ex o U Si done S else ex (done++[skipR o.dst Si.nid (keysL ([]:Own))]) (S.appN (skipR o.dst Si.nid (keysL ([]:Own)))))
  | some (.gd _ _ e (.c (.bo b)))=>altC (specD C ex o U Si done S g want (chain Si.tmps 20 g want)) (e=true∧b=want∧runD C bs ex o U Si done S) o.op
  | some (.gd _ _ _ _)=>specD C ex o U Si done S g want (chain Si.tmps 20 g want)
  | _=>StuckOp o.op Si
def drawX (C:Ctx) (bs:Nat) (K:St→Prop):List (IO1×List Nat×List Nat)→List Rec→St→Prop
 | [],_,S=>K S
 | (o,U,H) :: r,done,S=>gateD C bs (drawX C bs K r) o U (S.hid H (tchs done U) (keyss done U)) done S
structure Sub (S' S:St):Prop where
 nt:S'.nt=S.nt
 tmps:∀ t v,look S'.tmps t=some v→look S.tmps t=some v
 own:∀ t v,look S'.own t=some v→look S.own t=some v
 arrs:∀ t v,look S'.arrs t=some v→look S.arrs t=some v
 facts:∀ φ∈S'.facts,φ∈S.facts
theorem at_sub {α:Type} {l l' : List (Nat×Fm α)} (h:∀ t v,look l t=some v→look l' t=some v) {x:Nm} {b:α} (hb:atN l x=some b):atN l' x=some b:=by
 obtain ⟨F,hF,hg⟩:=atN_some hb
 unfold atN
 rw [h _ _ hF]
 exact hg
section
variable {B:Nat} {W:Nat→Prop} {w0:World} {E:Env} {S S' : St} {a:Act} {w w' : World}
theorem Sub.refl (S:St):Sub S S:=⟨rfl,fun _ _ h=>h,fun _ _ h=>h,fun _ _ h=>h,fun _ h=>h⟩
theorem Sub.trans {S'' : St} (h:Sub S'' S') (k:Sub S' S):Sub S'' S:=⟨h.nt.trans k.nt,fun t v g=>k.tmps t v (h.tmps t v g),fun t v g=>k.own t v (h.own t v g),fun t v g=>k.arrs t v (h.arrs t v g),fun φ g=>k.facts φ (h.facts φ g)⟩
theorem Sub.holds (h:Sub S' S) (hh:Holds E S w):Holds E S' w:=⟨fun x A hA=>hh.1 x A (at_sub h.arrs hA),fun φ hφ=>hh.2 φ (h.facts φ hφ)⟩
theorem Sub.heap (h:Sub S' S) {H:Nm→PH} (hH:HeapOk B W E S.own H w):HeapOk B W E S'.own H w :=
 ⟨fun x b hb=>hH.den x b (at_sub h.own hb),fun x y b c hb hc=>hH.disj x y b c (at_sub h.own hb) (at_sub h.own hc),fun x b hb=>hH.sub x b (at_sub h.own hb)⟩
theorem sat_sub (h:Sub S' S) (hs:Sat B W w0 E S a w):Sat B W w0 E S' a w:=by
 obtain ⟨H,hH,hF⟩:=hs.mem
 exact ⟨hs.size.trans h.nt.symm,hs.defers,hs.one,fun t v ht=>by rw [h.nt];exact hs.tmps t v (h.tmps t v ht),hs.frame,H,h.heap hH,
  fun w' hw'=>h.holds (hF w' (fun n hn hfr=>hw' n hn (fun x b hb=>hfr x b (at_sub h.own hb))))⟩
theorem Fits.sub {eff:Own} {arrs' : List (Nat×Fm ArrF)} (h:Sub S' S) (hf:FitsG B W E S' w w' eff arrs'):FitsG B W E S w w' eff arrs':=by
 obtain ⟨G,hG,hf1,hf2⟩:=hf
 refine ⟨G,hG,fun H hH=>?_,fun w'' hw''=>hf2 w'' (h.holds hw'')⟩
 have he:=hf1 H (h.heap hH)
 obtain ⟨H',h1,h2,h3⟩:=he.new
 refine ⟨he.os,he.tape,he.output,he.size,fun n hn hk=>he.keep n hn (fun x b hx hb=>hk x b hx (at_sub h.own hb)),H',h1,h2,fun x b hb n o hn=>?_⟩
 obtain ⟨g1,g2⟩:=h3 x b hb n o hn
 exact ⟨g1,g2.imp id fun ⟨y,c,gy,hc,hy⟩=>⟨y,c,gy,at_sub h.own hc,hy⟩⟩
theorem sat_drew (hs:Sat B W w0 E S a w):Sat B W w0 E S a { w with drawn:=w.drawn+1 }:=by
 obtain ⟨H,hH,hF⟩:=hs.mem
 exact ⟨hs.size,hs.defers,hs.one,hs.tmps,⟨hs.frame.os,hs.frame.tape,hs.frame.output,hs.frame.size,hs.frame.keep⟩,H,⟨hH.den,hH.disj,hH.sub⟩,hF⟩
theorem SatD.grow {D D' : Nat→Prop} (h:SatD D B W w0 E S a w) (hD:∀ i,D i→D' i):SatD D' B W w0 E S a w:=fun E' h1 h2=>h E' (fun x hx=>h1 x (hD _ hx)) h2
theorem SatD.sub {D:Nat→Prop} (h:SatD D B W w0 E S a w) (hsub:Sub S' S):SatD D B W w0 E S' a w:=fun E' h1 h2=>sat_sub hsub (h E' h1 h2)
end
theorem BImp.refl (b:Blk):BImp b b:=fun _ _ _ h=>h
theorem FImp.refl (u:Fm Blk):FImp u u:=fun _ b h=>⟨b,h,BImp.refl b⟩
structure SubW (S' S:St):Prop where
 nt:S'.nt=S.nt
 tmps:∀ t v,look S'.tmps t=some v→look S.tmps t=some v
 own:∀ t v,look S'.own t=some v→∃ u,look S.own t=some u∧FImp u v
 arrs:∀ t v,look S'.arrs t=some v→look S.arrs t=some v
 facts:∀ φ∈S'.facts,φ∈S.facts
theorem Sub.weak {S' S:St} (h:Sub S' S):SubW S' S:=⟨h.nt,h.tmps,fun t v g=>⟨v,h.own t v g,FImp.refl v⟩,h.arrs,h.facts⟩
theorem at_subW {l l' : Own} (h:∀ t v,look l t=some v→∃ u,look l' t=some u∧FImp u v) {x:Nm} {b:Blk} (hb:atN l x=some b):∃ c,atN l' x=some c∧BImp c b:=by
 obtain ⟨F,hF,hg⟩:=atN_some hb
 obtain ⟨u,hu,hi⟩:=h _ _ hF
 obtain ⟨c,hc,hcb⟩:=hi x.2 b hg
 exact ⟨c,by unfold atN;rw [hu];exact hc,hcb⟩
section
variable {B:Nat} {W:Nat→Prop} {w0:World} {E:Env} {S S' : St} {a:Act} {w w' : World}
theorem SubW.holds (h:SubW S' S) (hh:Holds E S w):Holds E S' w:=⟨fun x A hA=>hh.1 x A (at_sub h.arrs hA),fun φ hφ=>hh.2 φ (h.facts φ hφ)⟩
theorem SubW.heap (h:SubW S' S) {H:Nm→PH} (hH:HeapOk B W E S.own H w):HeapOk B W E S'.own H w :=
  ⟨fun x b hb=>let ⟨_,g1,g2⟩:=at_subW h.own hb;g2 E x (H x) (hH.den x _ g1),
   fun x y b c hb hc=>let ⟨_,g1,_⟩:=at_subW h.own hb;let ⟨_,k1,_⟩:=at_subW h.own hc;hH.disj x y _ _ g1 k1,
   fun x b hb=>let ⟨_,g1,_⟩:=at_subW h.own hb;hH.sub x _ g1⟩
theorem sat_subW (h:SubW S' S) (hs:Sat B W w0 E S a w):Sat B W w0 E S' a w:=by
 obtain ⟨H,hH,hF⟩:=hs.mem
 exact ⟨hs.size.trans h.nt.symm,hs.defers,hs.one,fun t v ht=>by rw [h.nt];exact hs.tmps t v (h.tmps t v ht),hs.frame,H,h.heap hH,
  fun w' hw'=>h.holds (hF w' (fun n hn hfr=>hw' n hn (fun x b hb=>let ⟨_,g1,_⟩:=at_subW h.own hb;hfr x _ g1)))⟩
theorem Fits.subW {eff:Own} {arrs' : List (Nat×Fm ArrF)} (h:SubW S' S) (hf:FitsG B W E S' w w' eff arrs'):FitsG B W E S w w' eff arrs':=by
 obtain ⟨G,hG,hf1,hf2⟩:=hf
 refine ⟨G,hG,fun H hH=>?_,fun w'' hw''=>hf2 w'' (h.holds hw'')⟩
 have he:=hf1 H (h.heap hH)
 obtain ⟨H',h1,h2,h3⟩:=he.new
 refine ⟨he.os,he.tape,he.output,he.size,fun n hn hk=>he.keep n hn (fun x b hx hb=>let ⟨_,g1,_⟩:=at_subW h.own hb;hk x _ hx g1),H',h1,h2,fun x b hb n o hn=>?_⟩
 obtain ⟨g1,g2⟩:=h3 x b hb n o hn
 exact ⟨g1,g2.imp id fun ⟨y,c,gy,hc,hy⟩=>let ⟨c',k1,_⟩:=at_subW h.own hc;⟨y,c',gy,k1,hy⟩⟩
end
def LC (C:Ctx) (o:Oper) (Si:St) (r:Rec):Prop :=
 ∀ (SL:St) (D:Nat→Prop) (E:Env) (a:Act) (w:World),OneC E→SubW Si SL→SatD D C.B C.W C.w0 E SL a w→(∀ i,NewIds r.lo r.cnt i→¬ D i)→(∀ i∈r.ks,D i) →
  ∀ (K:Act→World→Prop) (Q:Exit→Act→World→Prop),(∀ E1 a1 w1,OneC E1→SatD (fun i=>D i∨NewIds r.lo r.cnt i) C.B C.W C.w0 E1 (SL.appR r) a1 w1→K a1 w1)→o.wp C.P a w K Q
section
variable {C:Ctx} {Si:St}
theorem lc_after {o:Oper} {r:Rec} {So:St} (hlo:r.lo=So.nid)
  (h:∀ E a w,Sat C.B C.W C.w0 E So a w→∀ (K:Act→World→Prop) (Q:Exit→Act→World→Prop),(∀ v w',After C.B C.W C.w0 E r.ks So a w r.val r.cnt r.eff r.arrs v w'→K (a.put r.dst v) w')→o.wp C.P a w K Q):LC C o So r:=by
 intro SL D E a w hone hsub' hs hD hks K Q hK
 refine h E a w (sat_subW hsub' (hs.sat hone)) K Q fun v w' haft=>?_
 rw [hlo] at hD
 obtain ⟨E',h1,h2⟩:=satD_after hs hone hD (fun E h=>sat_subW hsub' h) (fun E _ hf=>Fits.subW hsub' hf) hks haft r.dst SL.nid
 rw [← hlo] at h2
 exact hK E' _ _ h1 h2
theorem only_sub (op:IOp):Sub (Si.only op) Si:=by
 refine ⟨rfl,fun _ _ h=>h,fun t v h=>?_,fun _ _ h=>h,fun _ h=>h⟩
 have : ∀ (ks:List Nat) (l:Own),look (keepK ks l) t=some v→look l t=some v:=by
  intro ks l
  induction l with
  | nil=>intro h;exact h
  | cons p l ih =>
   obtain ⟨k,u⟩:=p
   intro h
   simp only [keepK] at h
   by_cases hk:memB ks k=true
   ·rw [if_pos hk,look_cons] at h
    rw [look_cons]
    split at h
    ·next e=>rw [if_pos e];exact h
    ·next e=>rw [if_neg e];exact ih h
   ·rw [if_neg hk] at h
    rw [look_cons]
    split
    ·next e =>
     exfalso
     subst e
     have key:∀ l:Own,look (keepK ks l) k≠none→memB ks k=true:=by
      intro l
      induction l with
      | nil=>intro h;exact absurd rfl h
      | cons p l ih2 =>
       obtain ⟨j,u⟩:=p
       intro h
       simp only [keepK] at h
       by_cases hj:memB ks j=true
       ·rw [if_pos hj,look_cons] at h
        split at h
        ·next e=>subst e;exact hj
        ·exact ih2 h
       ·rw [if_neg hj] at h
        exact ih2 h
     exact hk (key l (by rw [h];simp))
    ·exact ih h
 exact this _ _ h
theorem lc_op (hT:TOk C.P C.tab.T) {o:Oper} {op:IOp} (hc:compOp C.tab.T o.op=some op) {vc:Prop} {out:Out} (h:(stepOut op (Si.only op)).Sel vc out) (hvc:vc):LC C o (Si.only op) (recOf o.dst Si.nid (keysL (Si.only op).own) out):=by
 refine lc_after (So:=Si.only op) rfl fun E a w hs K Q hK=>?_
 obtain ⟨v,w',hr,haft⟩:=step_ok hT hc h hvc hs
 unfold Oper.wp
 rcases hr with hr | ⟨hr,rfl⟩
 ·rw [hr];exact hK _ _ haft
 ·rw [hr];exact hK _ _ haft
theorem lc_call {o:Oper} {f:Nat} {vs:List SV} {ks:List Nat} {tmpl:SV} {nx:Nat} {eff:Own} {arrs' : List (Nat×Fm ArrF)} (hent:∀ E a w,Sat C.B C.W C.w0 E Si a w→EntersAt C.P o a w f (vs.map (SV.den E)).toArray)
  (hrule:CR C f vs Si ks tmpl nx eff arrs'):LC C o Si ⟨o.dst,tmpl,eff,arrs',Si.nid,nx,keysL Si.own,ks,[]⟩:=by
 refine lc_after (So:=Si) rfl fun E a w hs K Q hK=>?_
 have hrun:=hent E a w hs
 unfold EntersAt at hrun
 unfold Oper.wp
 rw [hrun]
 refine (hrule E a w hs).mono ?_
 rintro e w' ⟨v,rfl,haft⟩
 exact hK v w' haft
end
section
variable {β:Type} (ev:Nat→Option β)
def foldE (L:Nat→Bool) (base:Option β):Nat→Option β
 | 0=>base
 | n+1=>if L n then (ev n).or (foldE L base n) else foldE L base n
variable {ev} {L L' : Nat→Bool} {base:Option β}
theorem foldE_congr {n:Nat} (h:∀ j,j<n→(L j=L' j∨ev j=none)):foldE ev L base n=foldE ev L' base n:=by
 induction n with
 | zero=>rfl
 | succ n ih =>
  have ih:=ih (fun j hj=>h j (by omega))
  simp only [foldE]
  rcases h n (by omega) with e | e
  ·rw [e,ih]
  ·rw [e,ih]
   cases L n <;> cases L' n <;> rfl
theorem foldE_more {i n:Nat} (hi:i≤n) (h:∀ j,i≤j→j<n→L j=true→ev j=none):foldE ev L base n=foldE ev L base i:=by
 induction n with
 | zero =>
  have:i=0:=by omega
  rw [this]
 | succ n ih =>
  by_cases e:i=n+1
  ·rw [e]
  ·have ih:=ih (by omega) (fun j h1 h2=>h j h1 (by omega))
   simp only [foldE]
   cases hL:L n with
   | false=>simpa using ih
   | true=>simp [h n (by omega) (by omega) hL,ih]
theorem foldE_from {P:β→Prop} {i n:Nat} (hi:i≤n) (h0:∃ u,foldE ev L base i=some u∧P u) (h:∀ j,i≤j→j<n→L j=true→∀ b,ev j=some b→P b):∃ u,foldE ev L base n=some u∧P u:=by
 induction n with
 | zero =>
  have:i=0:=by omega
  rw [← this];exact h0
 | succ n ih =>
  by_cases e:i=n+1
  ·rw [← e];exact h0
  ·obtain ⟨u,h1,h2⟩:=ih (by omega) (fun j a b=>h j a (by omega))
   simp only [foldE]
   cases hL:L n with
   | false=>exact ⟨u,by simpa using h1,h2⟩
   | true =>
    cases he:ev n with
    | none=>exact ⟨u,by simpa using h1,h2⟩
    | some b=>exact ⟨b,by simp,h n (by omega) (by omega) hL b he⟩
theorem foldE_add {i n:Nat} (hi:i<n) (hL:L i=false) (hL' : ∀ j,L' j=if j=i then true else L j) (h:∀ j,i<j→j<n→L j=true→ev j=none∨ev i=none) :
  foldE ev L' base n=(ev i).or (foldE ev L base n):=by
 induction n with
 | zero=>omega
 | succ n ih =>
  simp only [foldE]
  by_cases e:i=n
  ·subst e
   have h1:foldE ev L' base i=foldE ev L base i:=foldE_congr (fun j hj=>Or.inl (by rw [hL' j,if_neg (by omega)]))
   rw [hL' i,if_pos rfl,hL,h1]
   rfl
  ·have ih:=ih (by omega) (fun j h1 h2=>h j h1 (by omega))
   have hLn:L' n=L n:=by rw [hL' n,if_neg (fun e'=>e e'.symm)]
   rw [hLn,ih]
   cases hn:L n with
   | false=>rfl
   | true =>
    show (ev n).or ((ev i).or (foldE ev L base n))=(ev i).or ((ev n).or (foldE ev L base n))
    rcases h n (by omega) (by omega) hn with e | e
    ·rw [e];rfl
    ·rw [e];rfl
end
def evT (nt:Nat) (r:Rec) (t:Nat):Option SV:=match r.dst with
 | some d=>if d<nt then (if d=t then some r.val else none) else none
 | none=>none
def evO (r:Rec) (id:Nat):Option (Fm Blk):=look r.eff id
def SL (rc:Nat→Rec) (L:Nat→Bool) (S:St):Nat→St
 | 0=>S
 | n+1=>if L n then (SL rc L S n).appR (rc n) else SL rc L S n
section
variable {rc:Nat→Rec} {L:Nat→Bool} {S:St}
theorem look_putT (d:Option Nat) (v:SV) (t:Nat):look (S.putT d v) t=(match d with | some d=>if d<S.nt then (if d=t then some v else none) else none | none=>none:Option SV).or (look S.tmps t):=by
 unfold St.putT
 cases d with
 | none=>rfl
 | some d =>
  simp only
  by_cases h:d<S.nt
  ·rw [if_pos h,if_pos h,look_setL]
   split <;> rfl
  ·rw [if_neg h,if_neg h];rfl
theorem SL_nt (n:Nat):(SL rc L S n).nt=S.nt:=by
 induction n with
 | zero=>rfl
 | succ n ih=>simp only [SL];split;exact ih;exact ih
theorem SL_facts (n:Nat):(SL rc L S n).facts=S.facts:=by
 induction n with
 | zero=>rfl
 | succ n ih=>simp only [SL];split;exact ih;exact ih
theorem SL_tmps (n t:Nat):look (SL rc L S n).tmps t=foldE (fun j=>evT S.nt (rc j) t) L (look S.tmps t) n:=by
 induction n with
 | zero=>rfl
 | succ n ih =>
  simp only [SL,foldE]
  split
  ·simp only [St.appR]
   rw [look_putT,SL_nt,ih]
   rfl
  ·exact ih
theorem SL_own (n id:Nat):look (SL rc L S n).own id=foldE (fun j=>evO (rc j) id) L (look S.own id) n:=by
 induction n with
 | zero=>rfl
 | succ n ih =>
  simp only [SL,foldE]
  split
  ·simp only [St.appR]
   rw [look_mergeL,ih]
   rfl
  ·exact ih
theorem SL_arrs (n k:Nat):look (SL rc L S n).arrs k=foldE (fun j=>look (rc j).arrs k) L (look S.arrs k) n:=by
 induction n with
 | zero=>rfl
 | succ n ih =>
  simp only [SL,foldE]
  split
  ·simp only [St.appR]
   rw [look_mergeL,ih]
  ·exact ih
end
theorem look_keysL {α:Type}:∀ {l:List (Nat×α)} {k:Nat} {A:α},look l k=some A→k∈keysL l
 | [],k,A,h=>by cases h
 | (i,x) :: l,k,A,h=>by
  rw [look_cons] at h
  simp only [keysL,List.mem_cons]
  split at h
  ·next e=>exact Or.inl e.symm
  ·exact Or.inr (look_keysL h)
theorem evO_tch {r:Rec} {id:Nat} {b:Fm Blk} (h:evO r id=some b):id∈r.tch:=look_keysL h
theorem mem_tchs {done:List Rec} {j id:Nat} {r:Rec} (hr:done[j]? = some r) (hid:id∈r.tch):∀ {U:List Nat},j∈U→id∈tchs done U
 | [],h=>by cases h
 | u :: U,h=>by
  simp only [tchs,nth_eq]
  rcases List.mem_cons.1 h with rfl | h
  ·rw [hr];exact List.mem_append.2 (Or.inl hid)
  ·have:=mem_tchs hr hid h
   split
   ·exact List.mem_append.2 (Or.inr this)
   ·exact this
theorem mem_keyss {done:List Rec} {j id:Nat} {r:Rec} (hr:done[j]? = some r) (hid:id∈keysL r.arrs):∀ {U:List Nat},j∈U→id∈keyss done U
 | [],h=>by cases h
 | u :: U,h=>by
  simp only [keyss,nth_eq]
  rcases List.mem_cons.1 h with rfl | h
  ·rw [hr];exact List.mem_append.2 (Or.inl hid)
  ·have:=mem_keyss hr hid h
   split
   ·exact List.mem_append.2 (Or.inr this)
   ·exact this
theorem ltAll_mem:∀ {l:List Nat} {n:Nat},ltAll l n=true→∀ k∈l,k<n
 | [],_,_,k,h=>by cases h
 | a :: l,n,h,k,hk=>by
  simp only [ltAll,Bool.and_eq_true,decide_eq_true_eq] at h
  rcases List.mem_cons.1 hk with rfl | hk
  ·exact h.1
  ·exact ltAll_mem h.2 k hk
theorem wrFree_mem {done:List Rec} {id:Nat}:∀ {U:List Nat},wrFree done id U=true→∀ j∈U,∀ r,done[j]? = some r→¬ id∈r.kn
 | [],_,j,h,_,_=>by cases h
 | u :: U,h,j,hj,r,hr=>by
  simp only [wrFree,nth_eq] at h
  split at h
  ·next r' hr' =>
   split at h
   ·cases h
   ·next hm =>
    rcases List.mem_cons.1 hj with rfl | hj
    ·rw [hr'] at hr
     cases hr
     exact fun hin=>hm (memB_iff.2 hin)
    ·exact wrFree_mem h j hj r hr
  ·cases h
theorem ancsGo_good (l:List (List Nat)):∀ (r acc:List (List Nat)) (l1:List (List Nat)),l=l1++r→acc.length=l1.length →
  (∀ i a,l[i]? = some a→i<acc.length→∀ j∈acc.getD i [],j<i∧(j∈a∨∃ p∈a,p<i∧j∈acc.getD p [])) →
  (ancsGo acc r).length=l.length∧∀ i a,l[i]? = some a→∀ j∈(ancsGo acc r).getD i [],j<i∧(j∈a∨∃ p∈a,p<i∧j∈(ancsGo acc r).getD p [])
 | [],acc,l1,hl,hn,h=>by
  simp only [List.append_nil] at hl
  subst hl
  simp only [ancsGo]
  refine ⟨hn,fun i a ha j hj=>h i a ha ?_ j hj⟩
  rw [hn];exact (List.getElem?_eq_some_iff.1 ha).1
 | x :: r,acc,l1,hl,hn,h=>by
  simp only [ancsGo]
  refine ancsGo_good l r _ (l1++[x]) (by rw [hl];simp) (by simp [hn]) ?_
  intro i a ha hi j hj
  simp only [List.length_append,List.length_cons,List.length_nil] at hi
  have hget:∀ p,p<acc.length→(acc++[(List.range acc.length).filter fun j=>x.contains j || x.any fun p=>(acc.getD p []).contains j]).getD p []=acc.getD p []:=by
   intro p hp
   simp only [List.getD_eq_getElem?_getD]
   rw [List.getElem?_append_left hp]
  by_cases e:i<acc.length
  ·rw [hget i e] at hj
   obtain ⟨h1,h2⟩:=h i a ha e j hj
   refine ⟨h1,h2.imp id ?_⟩
   rintro ⟨p,hp,hpi,hjp⟩
   exact ⟨p,hp,hpi,by rw [hget p (by omega)];exact hjp⟩
  ·have ei:i=acc.length:=by omega
   subst ei
   have hx:a=x:=by
    rw [hl,hn,List.getElem?_append_right (Nat.le_refl _),Nat.sub_self] at ha
    simpa using ha.symm
   subst hx
   simp only [List.getD_eq_getElem?_getD] at hj
   rw [List.getElem?_append_right (Nat.le_refl _),Nat.sub_self] at hj
   simp only [List.getElem?_cons_zero,Option.getD_some,List.mem_filter,List.mem_range,Bool.or_eq_true,List.contains_iff_mem,List.any_eq_true] at hj
   obtain ⟨h1,h2⟩:=hj
   refine ⟨h1,h2.imp id ?_⟩
   rintro ⟨p,hp,hjp⟩
   have hpl:p<acc.length:=by
    rcases Nat.lt_or_ge p acc.length with h | h
    ·exact h
    ·rw [List.getElem?_eq_none h] at hjp
     simp at hjp
   refine ⟨p,hp,hpl,?_⟩
   rw [hget p hpl,List.getD_eq_getElem?_getD]
   exact hjp
theorem anc_good (ops:List Oper):(ancsOf ops).length=ops.length∧∀ (i:Nat) (o:Oper),ops[i]? = some o→∀ j∈(ancsOf ops).getD i [],j<i∧(j∈afterOn o∨∃ p∈afterOn o,p<i∧j∈(ancsOf ops).getD p []):=by
 have:=ancsGo_good (ops.map afterOn) (ops.map afterOn) [] [] rfl rfl (fun i a _ h=>by simp at h)
 refine ⟨by simpa [ancsOf] using this.1,fun i o ho j hj=>this.2 i (afterOn o) (by simp [ho]) j hj⟩
def ClosedL (ops:List Oper) (L:Nat→Bool):Prop:=∀ (j:Nat) (o:Oper),ops[j]? = some o→L j=true→∀ p∈afterOn o,L p=true
theorem anc_listed {ops:List Oper} {L:Nat→Bool} (hc:ClosedL ops L):∀ (m i:Nat) (o:Oper),i<m→ops[i]? = some o→(∀ p∈afterOn o,L p=true)→∀ j∈(ancsOf ops).getD i [],L j=true
 | 0,i,o,hi,_,_,_,_=>by omega
 | m+1,i,o,hi,ho,ha,j,hj=>by
  obtain ⟨hji,h | ⟨p,hp,hpi,hjp⟩⟩:=(anc_good ops).2 i o ho j hj
  ·exact ha j h
  ·have hop:∃ o',ops[p]? = some o':=⟨ops[p]'(by have:=(List.getElem?_eq_some_iff.1 ho).1;omega),List.getElem?_eq_getElem _⟩
   obtain ⟨o',ho'⟩:=hop
   exact anc_listed hc m p o' (by omega) ho' (hc p o' ho' (ha p hp)) j hjp
theorem mem_afterOn {o:Oper} {p:Nat}:p∈afterOn o↔∃ e∈o.after,Region.binds .any e=true∧e.on=p:=by
 unfold afterOn
 simp only [List.mem_map,List.mem_filter,Array.mem_toList_iff]
 constructor
 ·rintro ⟨e,⟨h1,h2⟩,h3⟩;exact ⟨e,h1,h2,h3⟩
 ·rintro ⟨e,h1,h2,h3⟩;exact ⟨e,⟨h1,h2⟩,h3⟩
def gateYes (o:IO1) (Si:St):Prop:=o.guard=none∨∃ g want x,o.guard=some (g,want)∧look Si.tmps g=some x∧∀ E,x.den E = .bool want
def gateNo (o:IO1) (Si:St):Prop:=∃ g want x,o.guard=some (g,want)∧look Si.tmps g=some x∧∀ E,x.den E = .bool (!want)
structure RecOk (C:Ctx) (bs:Nat) (o:IO1) (U:List Nat) (done:List Rec) (Si:St) (r:Rec):Prop where
 dst:r.dst=o.dst
 lo:r.lo=Si.nid
 kn:∀ k b,evO r k=some b→k<r.lo→(look Si.own k).isSome=true
 keys:newOk r.lo r.cnt (keysL r.arrs)
 wr:wrOk U done r.lo r.cnt r.eff
 ksb:∀ k∈r.ks,k<bs
def LCe (C:Ctx) (o:IO1) (So:St) (r:Rec) (e:Bool):Prop :=
 ∀ ox:Oper,(∀ f xs,o.op = .call f xs→FnOk C.P f)→compOp C.tab.T ox.op=some o.op→ox.dst=o.dst→∀ (SL:St) (D:Nat→Prop) (E:Env) (a:Act) (w:World),OneC E→SubW So SL→SatD D C.B C.W C.w0 E SL a w →
  ∀ (K:Act→World→Prop) (Q:Exit→Act→World→Prop),(∀ E1 a1 w1,OneC E1→SatD (fun i=>D i∨NewIds r.lo r.cnt i) C.B C.W C.w0 E1 (SL.appR r) a1 w1→K a1 w1)→(e=true→ox.wp C.P a w K Q)∧(e=false→K (a.put ox.dst undef) w)
def gateSpec (C:Ctx) (o:IO1) (Si:St) (r:Rec):Prop :=
 ∃ g want g0 w0 e ch So,o.guard=some (g,want)∧Sub So Si∧r.kn=keysL So.own∧chain So.tmps 20 g want=(g0,w0,e) :: ch∧LCe C o So r e
def knOk (So Si:St) (r:Rec):Prop:=∀ t v,look So.own t=some v→(t∈r.kn∧look Si.own t=some v)∨(look r.wk t=some v∧∃ u,look Si.own t=some u∧FImp u v)
theorem knOk.strong {So Si:St} {r:Rec} (h:Sub So Si) (hk:r.kn=keysL So.own):knOk So Si r:=fun t v g=>Or.inl ⟨by rw [hk];exact look_keysL g,h.own t v g⟩
def StepP (C:Ctx) (bs:Nat) (o:IO1) (U:List Nat) (done:List Rec) (Si:St) (r:Rec):Prop :=
 RecOk C bs o U done Si r∧((gateYes o Si∧∃ So,SubW So Si∧knOk So Si r∧(∀ ox:Oper,(∀ f xs,o.op = .call f xs→FnOk C.P f)→compOp C.tab.T ox.op=some o.op→ox.dst=o.dst→LC C ox So r))∨(gateNo o Si∧r=skipR o.dst Si.nid (keysL ([]:Own)))∨gateSpec C o Si r)
def foldN (S:St) (l:List Rec):St:=l.foldl St.appN S
theorem foldN_snoc (S:St) (l:List Rec) (r:Rec):foldN S (l++[r])=(foldN S l).appN r:=by simp [foldN]
section
variable {C:Ctx} {bs:Nat} {K:St→Prop}
theorem wkImp_mem {done:List Rec} {id:Nat} {b:Fm Blk}:∀ {U:List Nat},wkImp done id b U→∀ j∈U,∀ r v,done[j]? = some r→look r.wk id=some v→FImp b v
 | [],_,j,hj,_,_,_,_=>by cases hj
 | i :: U,h,j,hj,r,v,hr,hv=>by
  obtain ⟨h1,h2⟩:=h
  rcases List.mem_cons.1 hj with rfl | hj
  ·rw [nth_eq,hr] at h1
   simp only [hv] at h1
   exact h1
  ·exact wkImp_mem h2 j hj r v hr hv
theorem wrOk_mem {U:List Nat} {done:List Rec} {lo cnt:Nat}:∀ {l:Own},wrOk U done lo cnt l→∀ k b,look l k=some b→(lo≤k∧k<lo+cnt)∨(k<lo∧wrFree done k U=true∧wkImp done k b U)
 | [],_,k,b,h=>by cases h
 | (i,x) :: l,h,k,b,hk=>by
  rw [look_cons] at hk
  split at hk
  ·next e =>
   subst e
   cases hk
   exact h.1
  ·exact wrOk_mem h.2 k b hk
theorem newOk_mem {lo cnt:Nat}:∀ {l:List Nat},newOk lo cnt l→∀ k∈l,lo≤k∧k<lo+cnt
 | [],_,k,h=>by cases h
 | a :: l,h,k,hk=>by
  rcases List.mem_cons.1 hk with rfl | hk
  ·exact h.1
  ·exact newOk_mem h.2 k hk
theorem binI_eff {op:BinOp} {k:IntKind} {x y:Int} {vc:Prop} {out:Out} (h:(binI op k x y).Sel vc out):out.eff=[]:=by
 cases op <;> simp only [binI,pure1,Res.Sel] at h <;> first | (exact h.elim) | (obtain ⟨_,rfl⟩:=h;rfl)
theorem stepOut_eff {op:IOp} {S:St} {vc:Prop} {out:Out} (h:(stepOut op S).Sel vc out):∀ k b,look out.eff k=some b→k<S.nid→(look S.own k).isSome=true:=by
 have hset:∀ {x:Nm} {p:Prop} {b b' : Blk},pkN S.own x=some (p,b)→∀ k c,look (setN S.own x b') k=some c→(look S.own k).isSome=true:=by
  intro x p b b' hx k c hc
  have:=(setN_look hx b' k).1 (by rw [hc];rfl)
  subst this
  unfold pkN at hx
  split at hx
  ·next F hF=>rw [hF];rfl
  ·cases hx
 have hnew:∀ {b:Fm Blk} {k:Nat} {c:Fm Blk},look [(S.nid,b)] k=some c→k<S.nid→(look S.own k).isSome=true:=by
  intro b k c hc hlt
  simp only [look] at hc
  split at hc
  ·next e=>omega
  ·cases hc
 have hnil:∀ {k:Nat} {c:Fm Blk},look ([]:Own) k=some c→k<S.nid→(look S.own k).isSome=true:=fun hc=>by cases hc
 intro k c hc hlt
 unfold stepOut at h
 repeat' (first | (exact h.elim) | split at h)
 all_goals first
  | (obtain ⟨_,rfl⟩:=h;exact hnil hc hlt)
  | (obtain ⟨_,rfl⟩:=h;exact hnew hc hlt)
  | (next hx _ _=>obtain ⟨_,rfl⟩:=h;exact hset hx k c hc)
  | (next hx _=>obtain ⟨_,rfl⟩:=h;exact hset hx k c hc)
  | (next hx=>obtain ⟨_,rfl⟩:=h;exact hset hx k c hc)
  | (rcases h with ⟨_,_,rfl⟩ | ⟨_,_,rfl⟩ <;> exact hnil hc hlt)
  | (next hx=>obtain ⟨_,rfl⟩:=h;simp only [look_cons] at hc;split at hc;(next e=>omega);exact hset hx k c hc)
  | (rw [binI_eff h] at hc;exact hnil hc hlt)
theorem fimp_mp (kk:KK) (kd:IntKind) (f:List Int→Option Int):FImp (.one (.mp kk kd f)) (.one (.wm kk kd fun a=>(f a).getD 0)):=by
 rintro ⟨k,l⟩ b' h
 simp only [Fm.get] at h ⊢
 split at h
 ·next e =>
  cases h
  refine ⟨_,if_pos e,?_⟩
  rintro E x h ⟨es,clock,h1,h2⟩
  exact ⟨es,clock,h1,f,h2,fun _ _=>rfl⟩
 ·cases h
theorem fimp_mpe (kk:KK) (kd:IntKind) (f:List Int→Option Int) (a:List Int) (y:Nm):FImp (.one (.mpe kk kd f a y)) (.one (.wm kk kd fun q=>(f q).getD 0)):=by
 rintro ⟨k,l⟩ b' h
 simp only [Fm.get] at h ⊢
 split at h
 ·next e =>
  cases h
  refine ⟨_,if_pos e,?_⟩
  rintro E x h ⟨es,clock,h1,h2,_⟩
  refine ⟨es,clock,h1,_,h2,fun q _=>?_⟩
  simp only
  split
  ·next e=>rw [e];rfl
  ·rfl
 ·cases h
theorem weak_spec {S Sw:St} {m:IX} (h:S.weak m=some Sw):Sw.nid=S.nid∧SubW Sw S:=by
 unfold St.weak at h
 split at h
 ·split at h
  ·next x _ kk kd f hl =>
   cases h
   refine ⟨rfl,rfl,fun _ _ h=>h,fun t v hv=>?_,fun _ _ h=>h,fun _ h=>h⟩
   simp only [look] at hv
   split at hv
   ·next e =>
    subst e
    cases hv
    exact ⟨_,hl,fimp_mp kk kd f⟩
   ·cases hv
  ·cases h
 ·cases h
theorem runD_step {ex:List Rec→St→Prop} {o:IO1} {U:List Nat} {Si:St} {done:List Rec} {S:St} (hT:TOk C.P C.tab.T) (hg:gateYes o Si) (h:runD C bs ex o U Si done S):∃ r,StepP C bs o U done Si r∧ex (done++[r]) (S.appN r):=by
 have dcall:∀ f vs,DCallVC C bs f vs o.dst U Si done S ex→(∀ ox:Oper,(∀ f xs,o.op = .call f xs→FnOk C.P f)→compOp C.tab.T ox.op=some o.op→∀ E a w,Sat C.B C.W C.w0 E Si a w→EntersAt C.P ox a w f (vs.map (SV.den E)).toArray) →
   ∃ r,StepP C bs o U done Si r∧ex (done++[r]) (S.appN r):=by
  rintro f vs ⟨ks,tmpl,nx,eff,arrs',h1,h0,h2,h3,h4,h5⟩ hent
  refine ⟨⟨o.dst,tmpl,eff,arrs',Si.nid,nx,keysL Si.own,ks,[]⟩,⟨⟨rfl,rfl,fun k b hk hlt=>h4 k (look_keysL (show look eff k=some b from hk)) hlt,h2,h3,fun k hk=>ltAll_mem h0 k hk⟩,Or.inl ⟨hg,Si,(Sub.refl _).weak,knOk.strong (Sub.refl _) rfl,fun ox hf hc hd=>?_⟩⟩,h5⟩
  have:=lc_call (o:=ox) (hent ox hf hc) h1
  rw [hd] at this
  exact this
 unfold runD at h
 split at h
 ·next f xs hop =>
  split at h
  ·next vs hvs =>
   exact dcall f vs h fun ox hf hc E a w hs=>enters_call (hf f xs hop) (by rw [hc,hop]) hvs hs
  ·exact h.elim
 ·next x xs hop =>
  split at h
  ·next f l l' vs hx hvs =>
   exact dcall f _ h.2 fun ox hf hc E a w hs=>enters_callv h.1 (by rw [hc,hop]) hx hvs hs
  ·exact h.elim
 ·next name x xs hop =>
  split at h
  ·next t c vs hx hvs =>
   obtain ⟨f,hm,hf,h⟩:=h
   exact dcall f _ h fun ox _ hc E a w hs=>enters_calli hf hm (by rw [hc,hop]) hx hvs hs
  ·exact h.elim
 ·next kk kd m k hop =>
  split at h
  ·next Sw hw =>
   obtain ⟨hn,hsw⟩:=weak_spec hw
   unfold thenW at h
   split at h
   ·next vc val hst =>
    obtain ⟨hvc,h⟩:=h
    refine ⟨recW o.dst Sw.nid val Sw.own,⟨⟨rfl,hn,fun k b hk=>(by cases hk),trivial,trivial,fun k hk=>(by cases hk)⟩,Or.inl ⟨hg,Sw,hsw,fun t v g=>Or.inr ⟨g,hsw.own t v g⟩,fun ox _ hc hd=>?_⟩⟩,h⟩
    refine lc_after (So:=Sw) rfl fun E a w hs K Q hK=>?_
    obtain ⟨v,w',hr,haft⟩:=step_ok hT (hc.trans (congrArg some hop)) (vc:=vc) (out:=⟨val,[],[],0⟩) (by rw [hst];exact ⟨rfl,rfl⟩) hvc hs
    unfold Oper.wp
    rw [← hd] at hK
    rcases hr with hr | ⟨hr,rfl⟩
    ·rw [hr];exact hK _ _ haft
    ·rw [hr];exact hK _ _ haft
   ·exact h.elim
  ·exact h.elim
 ·have fin:∀ vc out,(stepOut o.op (Si.only o.op)).Sel vc out→vc→outOk U done (Si.only o.op) out→ex (done++[recOf o.dst Si.nid (keysL (Si.only o.op).own) out]) (S.appN (recOf o.dst Si.nid (keysL (Si.only o.op).own) out))→∃ r,StepP C bs o U done Si r∧ex (done++[r]) (S.appN r):=by
   intro vc out hsel hvc hok h
   refine ⟨_,⟨⟨rfl,rfl,fun k b hk hlt=>?_,hok.1,hok.2,fun k hk=>(by cases hk)⟩,Or.inl ⟨hg,Si.only o.op,(only_sub _).weak,knOk.strong (only_sub _) rfl,fun ox _ hc hd=>?_⟩⟩,h⟩
   ·have:=stepOut_eff hsel k b hk hlt
    obtain ⟨F,hF⟩:=Option.isSome_iff_exists.1 this
    rw [(only_sub o.op).own _ _ hF];rfl
   ·have:=lc_op (o:=ox) (Si:=Si) hT hc hsel hvc
    rw [hd] at this
    exact this
  unfold thenD at h
  split at h
  ·next vc out hst=>exact fin vc out (by rw [hst];exact ⟨rfl,rfl⟩) h.1 h.2.1 h.2.2
  ·next c vc out vc' out' hst =>
   by_cases hcc:c
   ·exact fin vc out (by rw [hst];exact Or.inl ⟨hcc,rfl,rfl⟩) (h.1 hcc).1 (h.1 hcc).2.1 (h.1 hcc).2.2
   ·exact fin vc' out' (by rw [hst];exact Or.inr ⟨hcc,rfl,rfl⟩) (h.2 hcc).1 (h.2 hcc).2.1 (h.2 hcc).2.2
  ·obtain ⟨tmpl,nx,eff,arrs',h1,h2,h3,h4,h5⟩:=h
   refine ⟨_,⟨⟨rfl,rfl,fun k b hk hlt=>?_,h2,h3,fun k hk=>(by cases hk)⟩,Or.inl ⟨hg,Si.only o.op,(only_sub _).weak,knOk.strong (only_sub _) rfl,fun ox _ hc hd=>?_⟩⟩,h5⟩
   ·have:=h4 k (look_keysL (show look eff k=some b from hk)) hlt
    obtain ⟨F,hF⟩:=Option.isSome_iff_exists.1 this
    rw [(only_sub o.op).own _ _ hF];rfl
   ·refine lc_after (So:=Si.only o.op) rfl fun E a w hs K Q hK=>?_
    obtain ⟨v,w',hr,haft⟩:=h1 ox hc E a w hs
    unfold Oper.wp
    rw [← hd] at hK
    rcases hr with hr | ⟨hr,rfl⟩
    ·rw [hr];exact hK _ _ haft
    ·rw [hr];exact hK _ _ haft
theorem lce_of {o:IO1} {Si S1:St} {g:Nat} {want e:Bool} {val:SV} (hown:Sub ⟨Si.nt,[],S1.own,S1.arrs,S1.facts,Si.nid⟩ Si)
  (hnid:S1.nid=Si.nid) (hres:e=true→∀ E a w,Sat C.B C.W C.w0 E ⟨Si.nt,Si.tmps,S1.own,S1.arrs,S1.facts,Si.nid⟩ a w→Sat C.B C.W C.w0 E S1 a w)
  (hdo:e=true→∀ ox:Oper,(∀ f xs,o.op = .call f xs→FnOk C.P f)→compOp C.tab.T ox.op=some o.op→∀ E a w,Sat C.B C.W C.w0 E S1 a w→∀ (K:Act→World→Prop) (Q:Exit→Act→World→Prop),(∀ v w',After C.B C.W C.w0 E [] S1 a w val 0 [] [] v w'→K (a.put ox.dst v) w')→ox.wp C.P a w K Q) :
  LCe C o ⟨Si.nt,Si.tmps,S1.own,S1.arrs,S1.facts,Si.nid⟩ (recG o.dst g want e val Si.nid (keysL S1.own)) e:=by
 intro ox hf hc hd SL D E a w hone hsub hs K Q hK
 refine ⟨fun he=>?_,fun he=>?_⟩
 ·have hs1:∀ E',Sat C.B C.W C.w0 E' SL a w→Sat C.B C.W C.w0 E' S1 a w:=fun E' h'=>hres he E' a w (sat_subW hsub h')
  refine hdo he ox hf hc E a w (hs1 E (hs.sat hone)) K Q ?_
  rintro v w' ⟨N,hN,haft⟩
  refine hK E _ _ hone fun E' hE' ho'=>?_
  have h1:=hs E' (fun x hx=>hE' x (Or.inl hx)) ho'
  obtain ⟨hv,hfit⟩:=haft E' (hs1 E' h1) (fun x hx=>by cases hx) (fun x hx=>by have:=hx.1;have:=hx.2;omega)
  have hfit' : FitsG C.B C.W E' SL w w' [] []:=Fits.subW (S':=⟨Si.nt,Si.tmps,S1.own,S1.arrs,S1.facts,Si.nid⟩) hsub hfit
  have h2:=sat_after (tmpl:=.gd g want e val) h1 hfit' ox.dst SL.nid
  have ed:(SV.gd g want e val).den E' = val.den E':=by simp only [SV.den,he,if_true]
  rw [ed,← hv] at h2
  rw [hd] at h2 ⊢
  exact h2
 ·refine hK E _ _ hone fun E' hE' ho'=>?_
  have h1:=hs E' (fun x hx=>hE' x (Or.inl hx)) ho'
  have h2:=sat_after (tmpl:=.gd g want e val) h1 fits_nil.G ox.dst SL.nid
  have ed:(SV.gd g want e val).den E' = undef:=by simp only [SV.den,he,Bool.false_eq_true,if_false]
  rw [ed] at h2
  rw [hd] at h2 ⊢
  exact h2
theorem allT_of {tmps:List (Nat×SV)} {g:Nat} {want:Bool} {g0:Nat} {w0 e:Bool} {ch:List (Nat×Bool×Bool)} (hch:chain tmps 20 g want=(g0,w0,e) :: ch) (hcp:chainP tmps 20 g want) (he:e=true):allT ((g0,w0,e) :: ch):=by
 rw [← hch]
 refine chain_allT 20 g want hcp ?_
 intro g1 w1 e1 ch1 h1
 rw [hch] at h1
 cases h1
 exact he
theorem specD_step {ex:List Rec→St→Prop} {o:IO1} {U:List Nat} {Si:St} {done:List Rec} {S:St} {g:Nat} {want:Bool} (hT:TOk C.P C.tab.T) (hg:o.guard=some (g,want)) (h:specD C ex o U Si done S g want (chain Si.tmps 20 g want)) :
  ∃ r,StepP C bs o U done Si r∧ex (done++[r]) (S.appN r):=by
 cases hch:chain Si.tmps 20 g want with
 | nil=>rw [hch] at h;exact h.elim
 | cons p ch =>
  obtain ⟨g0,w0,e⟩:=p
  rw [hch] at h
  obtain ⟨hcp,h⟩:=h
  have rok:∀ val kn,RecOk C bs o U done Si (recG o.dst g want e val Si.nid kn):=fun val kn=>⟨rfl,rfl,fun k b hk=>(by cases hk),trivial,trivial,fun k hk=>(by cases hk)⟩
  split at h
  ·next sl hps =>
   obtain ⟨hrp,h⟩:=h
   unfold specDO at h
   split at h
   ·next vc val hst =>
    obtain ⟨hvc,h⟩:=h
    refine ⟨recG o.dst g want e val Si.nid (keysL ((Si.resS ((g0,w0,e) :: ch) sl).only o.op).own),⟨rok val _,Or.inr (Or.inr ⟨g,want,g0,w0,e,ch,⟨Si.nt,Si.tmps,((Si.resS ((g0,w0,e) :: ch) sl).only o.op).own,Si.arrs,Si.facts,Si.nid⟩,hg,?_,rfl,hch,lce_of (Si:=Si) (S1:=(Si.resS ((g0,w0,e) :: ch) sl).only o.op) ?_ rfl ?_ ?_⟩)⟩,h⟩
    ·exact ⟨rfl,fun _ _ h=>h,fun t v h=>(only_sub (Si:=Si.resS ((g0,w0,e) :: ch) sl) o.op).own t v h,fun _ _ h=>h,fun _ h=>h⟩
    ·exact ⟨rfl,fun _ _ h=>(by cases h),fun t v h=>(only_sub (Si:=Si.resS ((g0,w0,e) :: ch) sl) o.op).own t v h,fun _ _ h=>h,fun _ h=>h⟩
    ·intro he E a w hs
     exact sat_resS (C:=C) hs (allT_of hch hcp he) hrp
    ·intro he ox _ hc E a w hs K Q hK
     obtain ⟨v,w',hr,haft⟩:=step_ok hT hc (vc:=vc) (out:=⟨val,[],[],0⟩) (by rw [hst];exact ⟨rfl,rfl⟩) (hvc he) hs
     unfold Oper.wp
     rcases hr with hr | ⟨hr,rfl⟩
     ·rw [hr];exact hK _ _ haft
     ·rw [hr];exact hK _ _ haft
   ·exact h.elim
  ·split at h
   ·next f xs hcall =>
    obtain ⟨hrp,h⟩:=h
    split at h
    ·next vs hvs =>
     obtain ⟨tmpl,hcr,h⟩:=h
     refine ⟨recG o.dst g want e tmpl Si.nid (keysL Si.own),⟨rok tmpl _,Or.inr (Or.inr ⟨g,want,g0,w0,e,ch,Si,hg,?_,rfl,hch,lce_of (Si:=Si) (S1:=Si.resS ((g0,w0,e) :: ch) (slotL xs)) ?_ rfl ?_ ?_⟩)⟩,h⟩
     ·exact ⟨rfl,fun _ _ h=>h,fun _ _ h=>h,fun _ _ h=>h,fun _ h=>h⟩
     ·exact ⟨rfl,fun _ _ h=>(by cases h),fun _ _ h=>h,fun _ _ h=>h,fun _ h=>h⟩
     ·intro he E a w hs
      exact sat_resS (C:=C) hs (allT_of hch hcp he) hrp
     ·intro he ox hf hc E a w hs K Q hK
      have hrun:=enters_call (hf f xs hcall) (by rw [hc,hcall]) hvs hs
      unfold EntersAt at hrun
      unfold Oper.wp
      rw [hrun]
      refine (hcr he E a w hs).mono ?_
      rintro e' w' ⟨v,rfl,haft⟩
      exact hK v w' haft
    ·exact h.elim
   ·exact h.elim
theorem gateD_step {ex:List Rec→St→Prop} {o:IO1} {U:List Nat} {Si:St} {done:List Rec} {S:St} (hT:TOk C.P C.tab.T) (h:gateD C bs ex o U Si done S):∃ r,StepP C bs o U done Si r∧ex (done++[r]) (S.appN r):=by
 have skip:RecOk C bs o U done Si (skipR o.dst Si.nid (keysL ([]:Own))):=⟨rfl,rfl,fun k b hk=>(by cases hk),trivial,trivial,fun k hk=>(by cases hk)⟩
 unfold gateD at h
 split at h
 ·next hg=>exact runD_step hT (Or.inl hg) h
 ·next g want hg =>
  split at h
  ·next b hl =>
   split at h
   ·next e=>exact runD_step hT (Or.inr ⟨g,want,_,hg,hl,fun E=>by rw [← e];exact den_v _ _⟩) h
   ·next e=>exact ⟨_,⟨skip,Or.inr (Or.inl ⟨⟨g,want,_,hg,hl,fun E=>by rw [show (!want)=b by cases b <;> cases want <;> simp_all];exact den_v _ _⟩,rfl⟩)⟩,h⟩
  ·next b hl =>
   have h:specD C ex o U Si done S g want (chain Si.tmps 20 g want)∨(b=want∧runD C bs ex o U Si done S):=by
    unfold altC at h
    split at h
    ·exact h
    ·exact Or.inl h
   rcases h with h | ⟨e,h⟩
   ·exact specD_step hT hg h
   ·exact runD_step hT (Or.inr ⟨g,want,_,hg,hl,fun E=>by rw [← e];rfl⟩) h
  ·next g0 w0 e b hl =>
   obtain ⟨he,h⟩:=h
   subst he
   split at h
   ·next e=>exact runD_step hT (Or.inr ⟨g,want,_,hg,hl,fun E=>by rw [← e];simp only [SV.den,if_true];exact den_v _ _⟩) h
   ·next e=>exact ⟨_,⟨skip,Or.inr (Or.inl ⟨⟨g,want,_,hg,hl,fun E=>by rw [show (!want)=b by cases b <;> cases want <;> simp_all];simp only [SV.den,if_true];exact den_v _ _⟩,rfl⟩)⟩,h⟩
  ·next g0 w0 e b hl =>
   have h:specD C ex o U Si done S g want (chain Si.tmps 20 g want)∨(e=true∧b=want∧runD C bs ex o U Si done S):=by
    unfold altC at h
    split at h
    ·exact h
    ·exact Or.inl h
   rcases h with h | ⟨he,e',h⟩
   ·exact specD_step hT hg h
   ·exact runD_step hT (Or.inr ⟨g,want,_,hg,hl,fun E=>by rw [← e',he];simp only [SV.den,if_true];rfl⟩) h
  ·exact specD_step hT hg h
  ·exact h.elim
theorem drawX_recs (hT:TOk C.P C.tab.T):∀ (todo:List (IO1×List Nat×List Nat)) (done:List Rec) (S:St),drawX C bs K todo done S →
  ∃ more:List Rec,more.length=todo.length∧K (foldN S more)∧∀ (k:Nat) (o:IO1) (U H:List Nat) (r:Rec),todo[k]? = some (o,U,H)→more[k]? = some r →
   StepP C bs o U (done++more.take k) ((foldN S (more.take k)).hid H (tchs (done++more.take k) U) (keyss (done++more.take k) U)) r
 | [],done,S,h=>⟨[],rfl,h,fun k o U H r hk=>by simp at hk⟩
 | (o,U,H) :: todo,done,S,h=>by
  simp only [drawX] at h
  obtain ⟨r,hr,h⟩:=gateD_step hT h
  obtain ⟨more,h1,h2,h3⟩:=drawX_recs hT todo (done++[r]) (S.appN r) h
  refine ⟨r :: more,by simp [h1],h2,?_⟩
  intro k o' U' H' r' hk hr'
  cases k with
  | zero =>
   simp only [List.getElem?_cons_zero,Option.some.injEq,Prod.mk.injEq] at hk hr'
   obtain ⟨rfl,rfl,rfl⟩:=hk
   subst hr'
   simpa [foldN] using hr
  | succ k =>
   have:=h3 k o' U' H' r' (by simpa using hk) (by simpa using hr')
   simpa [foldN,List.append_assoc] using this
end
def LtS (S:St):Prop:=(∀ id b,look S.own id=some b→id<S.nid)∧∀ k A,look S.arrs k=some A→k<S.nid
section
variable {C:Ctx} {b0:Nat}
theorem StepP.touch {o:IO1} {U:List Nat} {done:List Rec} {Si:St} {r:Rec} (h:StepP C b0 o U done Si r) {id:Nat} {b:Fm Blk} (he:evO r id=some b) :
  (r.lo≤id∧id<r.lo+r.cnt)∨(id<r.lo∧wrFree done id U=true∧wkImp done id b U∧∃ b',look Si.own id=some b'):=by
 rcases wrOk_mem h.1.wr id b he with g | ⟨g1,g2,g3⟩
 ·exact Or.inl g
 ·exact Or.inr ⟨g1,g2,g3,Option.isSome_iff_exists.1 (h.1.kn id b he g1)⟩
theorem lt_appN {S Si:St} {o:IO1} {U H T Ks:List Nat} {done:List Rec} {r:Rec} (hsi:Si=S.hid H T Ks) (h:StepP C b0 o U done Si r) (hl:LtS S):LtS (S.appN r):=by
 have hlo:r.lo=S.nid:=by rw [h.1.lo,hsi];rfl
 refine ⟨fun id b hb=>?_,fun k A hA=>?_⟩
 ·simp only [St.appN] at hb ⊢
  rw [look_mergeL] at hb
  cases he:look r.eff id with
  | none=>rw [he] at hb;have:=hl.1 id b hb;omega
  | some b' =>
   rcases h.touch he with g | ⟨g,_⟩ <;> omega
 ·simp only [St.appN] at hA ⊢
  rw [look_mergeL] at hA
  cases he:look r.arrs k with
  | none=>rw [he] at hA;have:=hl.2 k A hA;omega
  | some b'=>exact (newOk_mem h.1.keys k (look_keysL he)).2
end
section
variable {C:Ctx}
theorem sat_skipR {B:Nat} {W:Nat→Prop} {w0:World} {E:Env} {S:St} {a:Act} {w:World} (hs:Sat B W w0 E S a w) (dst:Option Nat) (nid:Nat) (kn:List Nat):Sat B W w0 E (S.appR (skipR dst nid kn)) (a.put dst undef) w:=by
 have:=sat_after (tmpl:=.c (.v undef)) hs fits_nil.G dst S.nid
 rw [den_c,den_v] at this
 exact this
theorem compList_get {T:TT} {all:Array Oper}:∀ {r:List Oper} {l:List IO1},compList T all r=some l→l.length=r.length∧∀ (i:Nat) (o:Oper),r[i]? = some o→∃ io,l[i]? = some io∧compIO T all o=some io
 | [],l,h=>by
  simp only [compList,Option.some.injEq] at h
  subst h
  exact ⟨rfl,fun i o h=>by simp at h⟩
 | o :: r,l,h=>by
  simp only [compList,Option.bind_eq_some_iff,Option.map_eq_some_iff] at h
  obtain ⟨io,hio,l',hl',rfl⟩:=h
  obtain ⟨h1,h2⟩:=compList_get hl'
  refine ⟨by simp [h1],fun i o' ho'=>?_⟩
  cases i with
  | zero =>
   simp only [List.getElem?_cons_zero,Option.some.injEq] at ho'
   subst ho'
   exact ⟨io,rfl,hio⟩
  | succ i=>exact h2 i o' (by simpa using ho')
theorem callsIn_get {F:List Nat}:∀ {l:List IO1},callsIn F l=true→∀ (i:Nat) (io:IO1) (f:Nat) (xs:List IX),l[i]? = some io→io.op = .call f xs→f∈F
 | [],_,i,io,f,xs,h,_=>by simp at h
 | o :: r,hc,i,io,f,xs,h,hop=>by
  simp only [callsIn,Bool.and_eq_true] at hc
  cases i with
  | zero =>
   simp only [List.getElem?_cons_zero,Option.some.injEq] at h
   subst h
   have:=hc.1
   rw [hop] at this
   simpa using this
  | succ i=>exact callsIn_get hc.2 i io f xs (by simpa using h) hop
theorem draw_sound {id:Nat} {ops:Array Oper} {ios:List IO1} {S:St} {K:St→Prop} (hm:C.P.follows .mixedOrders=true) (hTab:C.tab.Ok C.P) (hl:compList C.tab.T ops ops.toList=some ios) (hcalls:callsIn C.tab.F ios=true)
    (hd:dstsOk (ancsOf ops.toList) ios=true) (ha:aftersOk ops.toList=true) (hlt:LtS S) (hx:drawX C S.nid K (mkDraw (ancsOf ops.toList) ios) [] S) :
    ∀ E a w,SatA C.B C.W C.w0 E S a w→(Code.region id ops true).wp C.P (fun e a' w'=>e = .normal∧∃ E' S',SatA C.B C.W C.w0 E' S' a' w'∧K S') a w:=by
  intro E a w hs
  obtain ⟨recs,hlen,hK,hrec⟩:=drawX_recs hTab.1 _ _ _ hx
  obtain ⟨hil,hio⟩:=compList_get hl
  have hn:recs.length=ops.size:=by rw [hlen];simp [mkDraw,hil]
  obtain ⟨A,hA⟩:∃ A,A=ancsOf ops.toList:=⟨_,rfl⟩
  rw [← hA] at hd hrec
  let rc:Nat→Rec:=fun i=>recs.getD i (skipR none 0 [])
  have hrc:∀ i,i<ops.size→recs[i]? = some (rc i):=fun i hi=>by
    simp only [rc,List.getD_eq_getElem?_getD]
    rw [List.getElem?_eq_getElem (by omega)]
    rfl
  -- the state of the text's order,ahead of operation i
  let TS:Nat→St:=fun i=>foldN S (recs.take i)
  have hTS0:TS 0=S:=rfl
  have hTS1:∀ i,i<ops.size→TS (i+1)=(TS i).appN (rc i):=fun i hi=>by
    simp only [TS]
    rw [List.take_add_one,hrc i hi]
    exact foldN_snoc _ _ _
  let Si:Nat→St:=fun i=>(TS i).hid (unordD A ios i) (tchs (recs.take i) (unordB A i)) (keyss (recs.take i) (unordB A i))
  have hstep:∀ i io,ios[i]? = some io→i<ops.size→StepP C S.nid io (unordB A i) (recs.take i) (Si i) (rc i):=by
    intro i io hi hlti
    have:=hrec i io (unordB A i) (unordD A ios i) (rc i) (by simp [mkDraw,hi]) (hrc i hlti)
    simpa using this
  have hios:∀ i,i<ops.size→∃ o io,ops[i]? = some o∧ios[i]? = some io∧compIO C.tab.T ops o=some io:=by
    intro i hi
    have ho:ops.toList[i]? = some ops[i]:=by simp [hi]
    obtain ⟨io,h1,h2⟩:=hio i _ ho
    exact ⟨ops[i],io,by simp [hi],h1,h2⟩
  have hLt:∀ i,i≤ops.size→LtS (TS i):=by
    intro i
    induction i with
    | zero=>intro _;exact hlt
    | succ i ih =>
      intro hi
      obtain ⟨o,io,_,h2,_⟩:=hios i (by omega)
      rw [hTS1 i (by omega)]
      exact lt_appN rfl (hstep i io h2 (by omega)) (ih (by omega))
  have hlo:∀ i,i<ops.size→(rc i).lo=(TS i).nid:=by
    intro i hi
    obtain ⟨o,io,_,h2,_⟩:=hios i hi
    rw [(hstep i io h2 hi).1.lo]
    rfl
  have hnid1:∀ i,i<ops.size→(TS (i+1)).nid=(rc i).lo+(rc i).cnt:=fun i hi=>by rw [hTS1 i hi];rfl
  have hmono:∀ j i,i≤j→j≤ops.size→(TS i).nid≤(TS j).nid:=by
    intro j
    induction j with
    | zero => intro i h1 _;have:i=0:=by omega
              rw [this];exact Nat.le_refl _
    | succ j ih =>
      intro i h1 h2
      by_cases e:i=j+1
      · rw [e];exact Nat.le_refl _
      · have:=ih i (by omega) (by omega)
        have h3:=hnid1 j (by omega)
        have h4:=hlo j (by omega)
        omega
  have hdst:∀ i,i<ops.size→(rc i).dst=dstAt ios i:=by
    intro i hi
    obtain ⟨o,io,_,h2,_⟩:=hios i hi
    rw [(hstep i io h2 hi).1.dst]
    simp [dstAt,h2]
  -- the text's order as a set of operations
  let S' : St:=⟨S.nt,S.tmps,S.own,S.arrs,S.facts,(TS ops.size).nid⟩
  have hTS:∀ i,i≤ops.size→TS i=⟨S.nt,(SL rc (fun _=>true) S' i).tmps,(SL rc (fun _=>true) S' i).own,(SL rc (fun _=>true) S' i).arrs,S.facts,(TS i).nid⟩:=by
    intro i
    induction i with
    | zero=>intro _;rfl
    | succ i ih =>
      intro hi
      have h1:=ih (by omega)
      have e1:SL rc (fun _=>true) S' (i+1)=(SL rc (fun _=>true) S' i).appR (rc i):=by simp [SL]
      have e2:=hTS1 i (by omega)
      have e3:=hnid1 i (by omega)
      rw [e1]
      have enid:(TS (i+1)).nid=(rc i).lo+(rc i).cnt:=e3
      rw [enid,e2,h1]
      have ent:(SL rc (fun _=>true) S' i).nt=S.nt:=SL_nt i
      simp only [St.appN,St.appR,St.putT,ent]
  -- unordered pairs
  have hun:∀ i j,i<ops.size→j<ops.size→i≠j→¬ j∈A.getD i []→¬ i∈A.getD j []→unord A i j=true:=by
    intro i j _ _ h1 h2 h3
    have e2:(A.getD i []).contains j=false:=by rw [← Bool.not_eq_true,List.contains_iff_mem];exact h2
    have e3:(A.getD j []).contains i=false:=by rw [← Bool.not_eq_true,List.contains_iff_mem];exact h3
    have e1:(i != j)=true:=by rw [bne_iff_ne];exact h1
    rw [unord,e1,e2,e3]
    rfl
  have hunD:∀ i j d,i<ops.size→j<ops.size→unord A i j=true→(rc j).dst=some d→d∈unordD A ios i:=by
    intro i j d hi hj hu hdj
    rw [hdst j hj] at hdj
    simp only [unordD,List.mem_filterMap,List.mem_filter,List.mem_range]
    exact ⟨j,⟨by rw [hil];simpa using hj,hu⟩,hdj⟩
  have hunB:∀ i j,j<i→unord A i j=true→j∈unordB A i:=by
    intro i j hj hu
    simp only [unordB,List.mem_filter,List.mem_range]
    exact ⟨hj,hu⟩
  have hsym:∀ i j,unord A i j=true→unord A j i=true:=by
    intro i j h
    simp only [unord,Bool.and_eq_true,bne_iff_ne,Bool.not_eq_true'] at h ⊢
    exact ⟨⟨Ne.symm h.1.1,h.2⟩,h.1.2⟩
  have hanc:∀ i j,i<ops.size→j∈A.getD i []→j<i:=by
    intro i j hi hj
    rw [hA] at hj
    exact ((anc_good ops.toList).2 i ops[i] (by simp [hi]) j hj).1
  -- an element of the own blocks is touched
  have hevw:∀ j id b,j<ops.size→evO (rc j) id=some b→(((rc j).lo≤id∧id<(rc j).lo+(rc j).cnt)∨(id<(rc j).lo∧wrFree (recs.take j) id (unordB A j)=true∧wkImp (recs.take j) id b (unordB A j)∧∃ b',look (Si j).own id=some b')):=by
    intro j id b hj he
    obtain ⟨o,io,_,h2,_⟩:=hios j hj
    exact (hstep j io h2 hj).touch he
  have hkey:∀ j k B',j<ops.size→look (rc j).arrs k=some B'→(rc j).lo≤k∧k<(rc j).lo+(rc j).cnt:=by
    intro j k B' hj hk
    obtain ⟨o,io,_,h2,_⟩:=hios j hj
    exact newOk_mem (hstep j io h2 hj).1.keys k (look_keysL hk)
  -- the invariant
  let DL:(Nat→Bool)→Nat→Prop:=fun L k=>k<S.nid∨∃ j,j<ops.size∧L j=true∧(rc j).lo≤k∧k<(rc j).lo+(rc j).cnt
  let Lf:Array Bool→Nat→Bool:=fun listed j=>listed.getD j false
  let I:Array Bool→Act→World→Prop:=fun listed a w=>listed.size=ops.size∧ClosedL ops.toList (Lf listed)∧∃ E,OneC E∧SatD (DL (Lf listed)) C.B C.W C.w0 E (SL rc (Lf listed) S' ops.size) a w
  -- what is known of i lies within what is known of any set that i may join
  have hsub : ∀ i L So,SubW So (Si i)→knOk So (Si i) (rc i)→i<ops.size→ClosedL ops.toList L→L i=false→(∀ j∈A.getD i [],L j=true)→SubW So (SL rc L S' ops.size):=by
    intro i L So hSo hkn0 hi hcl hLi hanci
    have hlater:∀ j,i<j→j<ops.size→L j=true→unord A i j=true:=by
      intro j hij hj hLj
      refine hun i j hi hj (by omega) (fun h=>?_) (fun h=>?_)
      · have:=hanc i j hi h;omega
      · rw [hA] at h
        have hoj:ops.toList[j]? = some ops[j]:=by simp [hj]
        have:=anc_listed hcl (j+1) j ops[j] (by omega) hoj (hcl j ops[j] hoj hLj) i h
        rw [hLi] at this
        cases this
    have hearly:∀ j,j<i→L j=false→unord A i j=true:=by
      intro j hji hLj
      refine hun i j hi (by omega) (by omega) (fun h=>?_) (fun h=>?_)
      · rw [hanci j h] at hLj;cases hLj
      · have:=hanc j i (by omega) h;omega
    have fold:∀ {β:Type} (ev:Nat→Option β) (base:Option β),(∀ j,j<ops.size→unord A i j=true→ev j=none)→foldE ev (fun _=>true) base i=foldE ev L base ops.size:=by
      intro β ev base hev0
      rw [foldE_more (L:=L) (i:=i) (n:=ops.size) (by omega) (fun j h1 h2 h3=>by
        by_cases e:j=i
        · rw [e,hLi] at h3;cases h3
        · exact hev0 j h2 (hlater j (by omega) h2 h3))]
      refine foldE_congr (fun j hj=>?_)
      cases hLj:L j with
      | true=>exact Or.inl rfl
      | false=>exact Or.inr (hev0 j (by omega) (hearly j hj hLj))
    refine ⟨?_,?_,?_,?_,?_⟩
    · rw [hSo.nt]
      show (TS i).nt=_
      rw [hTS i (by omega),SL_nt]
    · intro t v h
      obtain ⟨h1,h2⟩:=look_dropL (hSo.tmps _ _ h)
      rw [hTS i (by omega)] at h2
      simp only [SL_tmps] at h2
      rw [SL_tmps,← h2]
      refine (fold _ _ (fun j hj hu=>?_)).symm
      unfold evT
      cases hdj:(rc j).dst with
      | none=>rfl
      | some d =>
        simp only
        split
        · split
          · next e=>exact absurd (e ▸ hunD i j d hi hj hu hdj) h1
          · rfl
        · rfl
    · intro t v h
      rcases hkn0 t v h with ⟨hkt,hlk⟩ | ⟨hwt,u,hlk,himp⟩
      case inr =>
        obtain ⟨h1,h2⟩:=look_dropL hlk
        have hti:=(hLt i (by omega)).1 t u h2
        rw [hTS i (by omega)] at h2
        simp only [SL_own] at h2
        rw [SL_own]
        refine foldE_from (P:=fun u=>FImp u v) (i:=i) (by omega) ⟨u,?_,himp⟩ ?_
        · rw [← h2]
          refine foldE_congr (fun j hj=>?_)
          cases hLj:L j with
          | true=>exact Or.inl rfl
          | false =>
            right
            cases he:evO (rc j) t with
            | none=>rfl
            | some b =>
              exfalso
              have hr:(recs.take i)[j]? = some (rc j):=by rw [List.getElem?_take,if_pos hj];exact hrc j (by omega)
              exact h1 (mem_tchs hr (evO_tch he) (hunB i j hj (hearly j hj hLj)))
        · intro j h1' h2' hLj b he
          have hij:i<j:=by
            by_cases e:j=i
            · rw [e,hLi] at hLj;cases hLj
            · omega
          have hu:=hlater j hij h2' hLj
          have hm1:=hmono j i (by omega) (by omega)
          have hlj:=hlo j h2'
          rcases hevw j t b h2' he with ⟨e,_⟩ | ⟨_,_,e,_⟩
          · omega
          · have hr:(recs.take j)[i]? = some (rc i):=by rw [List.getElem?_take,if_pos hij];exact hrc i hi
            exact wkImp_mem e i (hunB j i hij (hsym i j hu)) _ v hr hwt
      refine ⟨v,?_,FImp.refl v⟩
      obtain ⟨h1,h2⟩:=look_dropL hlk
      have hti:=(hLt i (by omega)).1 t v h2
      rw [hTS i (by omega)] at h2
      simp only [SL_own] at h2
      rw [SL_own,← h2]
      refine (fold _ _ (fun j hj hu=>?_)).symm
      cases he:evO (rc j) t with
      | none=>rfl
      | some b =>
        exfalso
        rcases Nat.lt_or_ge j i with hji | hji
        · have hr:(recs.take i)[j]? = some (rc j):=by rw [List.getElem?_take,if_pos hji];exact hrc j hj
          exact h1 (mem_tchs hr (evO_tch he) (hunB i j hji hu))
        · have hij:i<j:=by
            rcases Nat.lt_or_ge i j with h | h
            · exact h
            · have:i=j:=by omega
              subst this
              simp [unord] at hu
          have hm1:=hmono j i (by omega) (by omega)
          have hlj:=hlo j hj
          rcases hevw j t b hj he with ⟨e,_⟩ | ⟨_,e,_⟩
          · omega
          · have hr:(recs.take j)[i]? = some (rc i):=by rw [List.getElem?_take,if_pos hij];exact hrc i hi
            exact wrFree_mem e i (hunB j i hij (hsym i j hu)) _ hr hkt
    · intro t v h
      obtain ⟨h1,h2⟩:=look_dropL (hSo.arrs _ _ h)
      have hti:=(hLt i (by omega)).2 t v h2
      rw [hTS i (by omega)] at h2
      simp only [SL_arrs] at h2
      rw [SL_arrs,← h2]
      refine (fold _ _ (fun j hj hu=>?_)).symm
      cases he:look (rc j).arrs t with
      | none=>rfl
      | some b =>
        exfalso
        rcases Nat.lt_or_ge j i with hji | hji
        · have hr:(recs.take i)[j]? = some (rc j):=by rw [List.getElem?_take,if_pos hji];exact hrc j hj
          exact h1 (mem_keyss hr (look_keysL he) (hunB i j hji hu))
        · have hm1:=hmono j i hji (by omega)
          have hlj:=hlo j hj
          have:=hkey j t b hj he
          omega
    · intro φ hφ
      have:φ∈(TS i).facts:=hSo.facts φ hφ
      rw [hTS i (by omega)] at this
      rw [SL_facts]
      exact this
  have hadd : ∀ i L L',i<ops.size→ClosedL ops.toList L→L i=false→(∀ j,L' j=if j=i then true else L j)→Sub (SL rc L' S' ops.size) ((SL rc L S' ops.size).appR (rc i)):=by
    intro i L L' hi hcl hLi hL'
    have hlater:∀ j,i<j→j<ops.size→L j=true→unord A i j=true:=by
      intro j hij hj hLj
      refine hun i j hi hj (by omega) (fun h=>?_) (fun h=>?_)
      · have:=hanc i j hi h;omega
      · rw [hA] at h
        have hoj:ops.toList[j]? = some ops[j]:=by simp [hj]
        have:=anc_listed hcl (j+1) j ops[j] (by omega) hoj (hcl j ops[j] hoj hLj) i h
        rw [hLi] at this
        cases this
    refine ⟨by rw [SL_nt];exact (SL_nt _).symm,?_,?_,?_,?_⟩
    · intro t v h
      rw [SL_tmps,foldE_add hi hLi hL'] at h
      · simp only [St.appR]
        rw [look_putT,SL_nt,SL_tmps]
        exact h
      · intro j hij hj hLj
        have hu:=hlater j hij hj hLj
        cases hdi:(rc i).dst with
        | none=>right;simp [evT,hdi]
        | some d =>
          have h1:¬ d∈unordD A ios i:=by
            simp only [dstsOk,List.all_eq_true,List.mem_range] at hd
            have:=hd i (by rw [hil];simpa using hi)
            rw [← hdst i hi,hdi] at this
            simpa using this
          by_cases e:d=t
          · left
            unfold evT
            cases hdj:(rc j).dst with
            | none=>rfl
            | some d' =>
              simp only
              split
              · split
                · next e'=>exact absurd (by rw [e,← e'];exact hunD i j d' hi hj hu hdj) h1
                · rfl
              · rfl
          · right
            simp [evT,hdi,e]
    · intro t v h
      rw [SL_own,foldE_add hi hLi hL'] at h
      · simp only [St.appR]
        rw [look_mergeL,SL_own]
        exact h
      · intro j hij hj hLj
        have hu:=hlater j hij hj hLj
        cases hei:evO (rc i) t with
        | none=>exact Or.inr rfl
        | some b =>
          left
          cases hej:evO (rc j) t with
          | none=>rfl
          | some b' =>
            exfalso
            have hm1:=hmono j (i+1) (by omega) (by omega)
            have hlj:=hlo j hj
            have hli:=hlo i hi
            have hni:=hnid1 i hi
            rcases hevw j t b' hj hej with ⟨e,_⟩ | ⟨_,_,_,b2,e⟩
            · rcases hevw i t b hi hei with h3 | ⟨h3,_⟩
              · omega
              · omega
            · have hr:(recs.take j)[i]? = some (rc i):=by rw [List.getElem?_take,if_pos hij];exact hrc i hi
              exact (look_dropL e).1 (mem_tchs hr (evO_tch hei) (hunB j i hij (hsym i j hu)))
    · intro t v h
      rw [SL_arrs,foldE_add hi hLi hL'] at h
      · simp only [St.appR]
        rw [look_mergeL,SL_arrs]
        exact h
      · intro j hij hj hLj
        cases hei:look (rc i).arrs t with
        | none=>exact Or.inr rfl
        | some b =>
          left
          cases hej:look (rc j).arrs t with
          | none=>rfl
          | some b' =>
            exfalso
            have hm1:=hmono j (i+1) (by omega) (by omega)
            have hlj:=hlo j hj
            have hni:=hnid1 i hi
            have h3:=hkey i t b hi hei
            have h4:=hkey j t b' hj hej
            omega
    · intro φ hφ
      rw [SL_facts] at hφ
      show φ∈(SL rc L S' ops.size).facts
      rw [SL_facts]
      exact hφ
  refine wp_region_any hm (wpAny_inv (I:=I) ?_ ?_ _ _ _ _ ?_ ?_)
  · -- one operation
    rintro listed a w i ⟨hsz,hcl,E,hone,hsat⟩ hready
    obtain ⟨hun0,o,ho,hall⟩:=mem_ready.1 hready
    have hi:i<ops.size:=(Array.getElem?_eq_some_iff.1 ho).1
    have hLi:Lf listed i=false:=by
      simp only [Lf]
      have h1:i<listed.size:=by omega
      rw [Array.getD_eq_getD_getElem?,Array.getElem?_eq_getElem h1] at hun0 ⊢
      exact hun0
    have hafter:∀ p∈afterOn o,Lf listed p=true:=by
      intro p hp
      obtain ⟨e,h1,h2,rfl⟩:=mem_afterOn.1 hp
      exact hall e h1 h2
    have hol:ops.toList[i]? = some o:=by simpa using ho
    have hanci:∀ j∈A.getD i [],Lf listed j=true:=by
      intro j hj
      rw [hA] at hj
      exact anc_listed hcl (i+1) i o (by omega) hol hafter j hj
    obtain ⟨o',io,ho',hio1,hcio⟩:=hios i hi
    rw [ho] at ho'
    cases ho'
    have hst:=hstep i io hio1 hi
    have hL' : ∀ j,Lf (listed.setIfInBounds i true) j=if j=i then true else Lf listed j:=by
      intro j
      simp only [Lf,Array.getD_eq_getD_getElem?,Array.getElem?_setIfInBounds]
      by_cases e:j=i
      · subst e
        rw [if_pos rfl,if_pos rfl,if_pos (by omega)]
        rfl
      · rw [if_neg (fun e'=>e e'.symm),if_neg e]
    have hcl' : ClosedL ops.toList (Lf (listed.setIfInBounds i true)):=by
      intro j oj hoj hj p hp
      rw [hL'] at hj ⊢
      by_cases e:j=i
      · subst e
        rw [hol] at hoj
        cases hoj
        rw [hafter p hp]
        split <;> rfl
      · rw [if_neg e] at hj
        rw [hcl j oj hoj hj p hp]
        split <;> rfl
    have hdone:∀ E1 a1 w1,OneC E1→SatD (fun k=>DL (Lf listed) k∨NewIds (rc i).lo (rc i).cnt k) C.B C.W C.w0 E1 ((SL rc (Lf listed) S' ops.size).appR (rc i)) a1 w1→I (listed.setIfInBounds i true) a1 w1:=by
      intro E1 a1 w1 ho1 hs1
      refine ⟨by simpa using hsz,hcl',E1,ho1,?_⟩
      refine (hs1.sub (hadd i _ _ hi hcl hLi hL')).grow ?_
      rintro k (h | h)
      · rcases h with h | ⟨j,hj,hLj,h⟩
        · exact Or.inl h
        · refine Or.inr ⟨j,hj,?_,h⟩
          rw [hL',hLj]
          split <;> rfl
      · refine Or.inr ⟨i,hi,?_,h⟩
        rw [hL',if_pos rfl]
    have hDno:∀ k,NewIds (rc i).lo (rc i).cnt k→¬ DL (Lf listed) k:=by
      rintro k ⟨h1,h2⟩
      have hli:=hlo i hi
      have hni:=hnid1 i hi
      have h0:=hmono i 0 (by omega) (by omega)
      rintro (h | ⟨j,hj,hLj,h3,h4⟩)
      · rw [hTS0] at h0;omega
      · have hlj:=hlo j hj
        have hnj:=hnid1 j hj
        rcases Nat.lt_trichotomy j i with e | e | e
        · have:=hmono i (j+1) (by omega) (by omega);omega
        · rw [e,hLi] at hLj;cases hLj
        · have:=hmono j (i+1) (by omega) (by omega);omega
    simp only [compIO,Option.bind_eq_some_iff] at hcio
    obtain ⟨op,hop,hgd⟩:=hcio
    have hsE:=hsat E (AgreeD.refl _ _) hone
    have hsi:Sat C.B C.W C.w0 E ⟨(Si i).nt,(Si i).tmps,[],(Si i).arrs,(Si i).facts,(Si i).nid⟩ a w :=
      sat_subW (hsub i (Lf listed) _ ⟨rfl,fun _ _ h=>h,fun _ _ h=>(by cases h),fun _ _ h=>h,fun _ h=>h⟩ (fun t v h=>by cases h) hi hcl hLi hanci) hsE
    unfold wpOp
    rw [ho]
    simp only
    have hgyes:gateYes io (Si i)→io.op=op∧io.dst=o.dst→Region.wanted o (yielded ops a.tmps)=true:=by
      intro hg _
      cases hog:o.guard with
      | none=>simp [Region.wanted,hog]
      | some jw =>
        obtain ⟨j,want⟩:=jw
        rw [hog] at hgd
        simp only [Option.map_eq_some_iff] at hgd
        obtain ⟨g,hg1,rfl⟩:=hgd
        rcases hg with hg | ⟨g',want',x,hg,hlk,hden⟩
        · simp at hg
        · simp only [Option.some.injEq,Prod.mk.injEq] at hg
          obtain ⟨rfl,rfl⟩:=hg
          rw [wanted_ofV hsi hog hg1 hlk (hden E)]
          simp
    have hgno:gateNo io (Si i)→Region.wanted o (yielded ops a.tmps)=false:=by
      rintro ⟨g',want',x,hg,hlk,hden⟩
      cases hog:o.guard with
      | none =>
        rw [hog] at hgd
        simp only [Option.some.injEq] at hgd
        subst hgd
        simp at hg
      | some jw =>
        obtain ⟨j,want⟩:=jw
        rw [hog] at hgd
        simp only [Option.map_eq_some_iff] at hgd
        obtain ⟨g,hg1,rfl⟩:=hgd
        simp only [Option.some.injEq,Prod.mk.injEq] at hg
        obtain ⟨rfl,rfl⟩:=hg
        rw [wanted_ofV hsi hog hg1 hlk (hden E)]
        cases want <;> rfl
    have hiod:io.op=op∧io.dst=o.dst:=by
      cases hog:o.guard with
      | none =>
        rw [hog] at hgd
        simp only [Option.some.injEq] at hgd
        subst hgd
        exact ⟨rfl,rfl⟩
      | some jw =>
        obtain ⟨j,want⟩:=jw
        rw [hog] at hgd
        simp only [Option.map_eq_some_iff] at hgd
        obtain ⟨g,hg1,rfl⟩:=hgd
        exact ⟨rfl,rfl⟩
    rcases hst with ⟨hrok,⟨hg,So,hSo,hkn,hrun⟩ | ⟨hg,hr⟩ | ⟨g,want,g0,w0',e,ch,So,hgu,hSo,hkn,hch,hlce⟩⟩
    · rw [if_pos (hgyes hg hiod)]
      left
      have hrk:∀ k∈(rc i).ks,k<S.nid:=hrok.ksb
      have hlc:=hrun o (fun f xs hcall=>hTab.2 f (callsIn_get hcalls i io f xs hio1 hcall)) (by rw [hop,hiod.1]) hiod.2.symm
      exact hlc _ _ E a w hone (hsub i (Lf listed) So hSo hkn hi hcl hLi hanci) hsat hDno (fun k hk=>Or.inl (hrk k hk)) _ _ hdone
    · rw [if_neg (by rw [hgno hg];simp)]
      refine hdone E _ w hone ?_
      rw [hr,hiod.2]
      intro E2 hE2 ho2
      exact sat_skipR (hsat E2 (fun k hk=>hE2 k (Or.inl hk)) ho2) o.dst _ _
    · have hsubo:=hsub i (Lf listed) So hSo.weak (knOk.strong hSo hkn) hi hcl hLi hanci
      have hso:=sat_subW hsubo hsE
      have hw:Region.wanted o (yielded ops a.tmps)=e:=by
        cases hog:o.guard with
        | none =>
          rw [hog] at hgd
          simp only [Option.some.injEq] at hgd
          subst hgd
          cases hgu
        | some jw =>
          obtain ⟨j,want'⟩:=jw
          rw [hog] at hgd
          simp only [Option.map_eq_some_iff] at hgd
          obtain ⟨g',hg1,rfl⟩:=hgd
          simp only [Option.some.injEq,Prod.mk.injEq] at hgu
          obtain ⟨rfl,rfl⟩:=hgu
          exact wanted_chain hso hog hg1 hch
      obtain ⟨h1,h2⟩:=hlce o (fun f xs hcall=>hTab.2 f (callsIn_get hcalls i io f xs hio1 hcall)) (by rw [hop,hiod.1]) hiod.2.symm _ _ E a w hone hsubo hsat _ _ hdone
      rw [hw]
      cases e with
      | true =>
        rw [if_pos rfl]
        exact Or.inl (h1 rfl)
      | false =>
        rw [if_neg (by simp)]
        exact h2 rfl
  · -- the end
    rintro listed a w ⟨hsz,hcl,E,hone,hsat⟩ hnone
    refine ⟨rfl,?_⟩
    have hall : ∀ m i,i<m→i<ops.size→Lf listed i=true:=by
      intro m
      induction m with
      | zero=>intro i h;omega
      | succ m ih =>
        intro i him hi
        cases hLi:Lf listed i with
        | true=>rfl
        | false =>
          exfalso
          have:i∈Region.ready .any ops listed:=by
            rw [mem_ready]
            have h1:i<listed.size:=by omega
            simp only [Lf] at hLi
            rw [Array.getD_eq_getD_getElem?,Array.getElem?_eq_getElem h1] at hLi
            refine ⟨by rw [Array.getD_eq_getD_getElem?,Array.getElem?_eq_getElem h1];exact hLi,ops[i],by simp [hi],fun e he hb=>?_⟩
            have hlt1:e.on<i:=by
              simp only [aftersOk,List.all_eq_true,List.mem_range] at ha
              have:=ha i (by simpa using hi)
              simp only [Array.getElem?_toList,Array.getElem?_eq_getElem hi,List.all_eq_true,decide_eq_true_eq] at this
              exact this e.on (mem_afterOn.2 ⟨e,he,hb,rfl⟩)
            exact ih e.on (by omega) (by omega)
          rw [hnone] at this
          cases this
    refine ⟨E,foldN S recs,?_,hK⟩
    refine ⟨hone,fun E' hE' ho'=>?_⟩
    have hs1:=hsat E' (fun x hk=>by
      have hk' : x.1<(TS ops.size).nid:=by
        rcases hk with hk | ⟨j,hj,_,h1,h2⟩
        · have:=hmono ops.size 0 (by omega) (Nat.le_refl _);rw [hTS0] at this;omega
        · have h3:=hnid1 j hj
          have:=hmono ops.size (j+1) (by omega) (Nat.le_refl _);omega
      refine hE' x ?_
      have:TS ops.size=foldN S recs:=by simp only [TS];rw [List.take_of_length_le (by omega)]
      rw [← this];exact hk') ho'
    refine sat_sub ?_ hs1
    have efull:foldN S recs=TS ops.size:=by simp only [TS];rw [List.take_of_length_le (by omega)]
    rw [efull,hTS ops.size (Nat.le_refl _)]
    have hf:∀ {β:Type} (ev:Nat→Option β) (base:Option β),foldE ev (fun _=>true) base ops.size=foldE ev (Lf listed) base ops.size:=by
      intro β ev base
      exact foldE_congr (fun j hj=>Or.inl (hall (j+1) j (by omega) hj).symm)
    refine ⟨(show S'.nt=_ from (SL_nt (S:=S') _).symm),?_,?_,?_,?_⟩
    · intro t v h
      simp only [SL_tmps] at h ⊢
      rw [← hf];exact h
    · intro t v h
      simp only [SL_own] at h ⊢
      rw [← hf];exact h
    · intro t v h
      simp only [SL_arrs] at h ⊢
      rw [← hf];exact h
    · intro φ hφ
      rw [SL_facts]
      exact hφ
  · rw [Array.toList_replicate,cntF_replicate]
    exact Nat.le_refl _
  · refine ⟨by simp,?_,E,hs.sat.one,?_⟩
    · intro j o hj hL
      have hjl:j<ops.size:=by have:=(List.getElem?_eq_some_iff.1 hj).1;simpa using this
      simp [Lf,Array.getD_eq_getD_getElem?,hjl] at hL
    · intro E' hE' ho'
      have h1:=sat_drew (hs.2 E' (fun k hk=>hE' k (Or.inl hk)) ho')
      refine sat_sub ?_ h1
      have hf:∀ {β:Type} (ev:Nat→Option β) (base:Option β),foldE ev (Lf (Array.replicate ops.size false)) base ops.size=base:=by
        intro β ev base
        have:=foldE_more (ev:=ev) (L:=Lf (Array.replicate ops.size false)) (base:=base) (i:=0) (n:=ops.size) (by omega) (fun j _ hj hL=>by
          simp [Lf,Array.getD_eq_getD_getElem?,hj] at hL)
        rw [this];rfl
      refine ⟨SL_nt _,?_,?_,?_,?_⟩
      · intro t v h
        rw [SL_tmps,hf] at h
        exact h
      · intro t v h
        rw [SL_own,hf] at h
        exact h
      · intro t v h
        rw [SL_arrs,hf] at h
        exact h
      · intro φ hφ
        rw [SL_facts] at hφ
        exact hφ
theorem dr_nil (bs:Nat) (K:St→Prop) (done:List Rec) (S:St):drawX C bs K [] done S=K S:=rfl
theorem dr_cons (bs:Nat) (K:St→Prop) (o:IO1) (U H:List Nat) (r:List (IO1×List Nat×List Nat)) (done:List Rec) (S:St):drawX C bs K ((o,U,H) :: r) done S=gateD C bs (drawX C bs K r) o U (S.hid H (tchs done U) (keyss done U)) done S:=rfl
theorem draw_vc {l:List (IO1×List Nat×List Nat)} {S:St} {K:St→Prop} (hm:C.P.follows .mixedOrders=true) (hTab:C.tab.Ok C.P) (ho:ltAll (keysL S.own) S.nid=true) (hk:ltAll (keysL S.arrs) S.nid=true)
  (h:drawX C S.nid K l [] S):DrawVC C l S K:=by
 intro id ops hc
 simp only [compC,Option.bind_eq_some_iff] at hc
 obtain ⟨ios,hl,hc⟩:=hc
 split at hc
 ·next hok =>
  simp only [Bool.and_eq_true] at hok
  simp only [Option.some.injEq,IR.draw.injEq] at hc
  subst hc
  exact draw_sound hm hTab hl hok.1.1 hok.1.2 hok.2 ⟨fun id b hb=>ltAll_mem ho id (look_keysL hb),fun k A hA=>ltAll_mem hk k (look_keysL hA)⟩ h
 ·cases hc
theorem dcall_intro {bs:Nat} {f:Nat} {vs:List SV} {ks:List Nat} {dst:Option Nat} {U:List Nat} {Si S:St} {done:List Rec} {ex:List Rec→St→Prop} {tmpl:SV} {nx:Nat} {eff:Own} {arrs' : List (Nat×Fm ArrF)} (hrule:CR C f vs Si ks tmpl nx eff arrs') (hks:ltAll ks bs=true) (hk:newOk Si.nid nx (keysL arrs'))
  (hw:wrOk U done Si.nid nx eff) (hkn:∀ k∈keysL eff,k<Si.nid→(look Si.own k).isSome=true)
  (h:ex (done++[⟨dst,tmpl,eff,arrs',Si.nid,nx,keysL Si.own,ks,[]⟩]) (S.appN ⟨dst,tmpl,eff,arrs',Si.nid,nx,keysL Si.own,ks,[]⟩)):DCallVC C bs f vs dst U Si done S ex:=⟨ks,tmpl,nx,eff,arrs',hrule,hks,hk,hw,hkn,h⟩
end
end Go.Proofs.Ytcloeignccpljaa.Z
