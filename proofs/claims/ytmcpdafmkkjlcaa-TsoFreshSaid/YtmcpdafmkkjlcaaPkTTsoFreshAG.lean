/- TsoFreshSaid: what its proof is made of. No condition. -/
import Derived.Test.YtmcpdafmkkjlcaaPkTTsoFreshAF
set_option linter.unusedSimpArgs false
set_option linter.unusedVariables false
namespace Go.Proofs.Ytmcpdafmkkjlcaa.Z
open Go Go.RowKit
mutual
def SC.ren (σ:Nm→Nm):SC→SC
 | .v x=>.v x
 | .bo e=>.bo e
 | .xv x=>.xv (σ x)
 | .ptr x off=>.ptr (σ x) off
 | .sl x s o n c=>.sl (σ x) s o n c
 | .pe x s e j=>.pe (σ x) s e j
 | .xs x s o n c=>.xs (σ x) s o n c
 | .ep x s e j=>.ep (σ x) s e j
 | .mp x=>.mp (σ x)
 | .ifc t c=>.ifc t (SC.ren σ c)
 | .fn f l r=>.fn f (SC.renL σ l) (SC.renL σ r)
def SC.renL (σ:Nm→Nm):List SC→List SC
 | []=>[]
 | c :: r=>SC.ren σ c :: SC.renL σ r
end
def ren1 (σ:Nm→Nm):Bool×List SC→Bool×List SC
 | (b,l)=>(b,SC.renL σ l)
def ren1L (σ:Nm→Nm):List (Bool×List SC)→List (Bool×List SC)
 | []=>[]
 | p :: l=>ren1 σ p :: ren1L σ l
def SV.ren (σ:Nm→Nm):SV→SV
 | .c x=>.c (x.ren σ)
 | .agg l=>.agg (SC.renL σ l)
 | .tup l=>.tup (ren1L σ l)
 | .gd g w e v=>.gd g w e (v.ren σ)
mutual
def SC.okN (p:Nat→Prop):SC→Prop
 | .v _=>True
 | .bo _=>True
 | .xv x=>p x.1
 | .ptr x _=>p x.1
 | .sl x _ _ _ _=>p x.1
 | .pe x _ _ _=>p x.1
 | .xs x _ _ _ _=>p x.1
 | .ep x _ _ _=>p x.1
 | .mp x=>p x.1
 | .ifc _ c=>SC.okN p c
 | .fn _ l r=>SC.okL p l∧SC.okL p r
def SC.okL (p:Nat→Prop):List SC→Prop
 | []=>True
 | c :: r=>SC.okN p c∧SC.okL p r
end
def ok1L (p:Nat→Prop):List (Bool×List SC)→Prop
 | []=>True
 | q :: l=>SC.okL p q.2∧ok1L p l
def SV.okN (p:Nat→Prop):SV→Prop
 | .c x=>x.okN p
 | .agg l=>SC.okL p l
 | .tup l=>ok1L p l
 | .gd _ _ _ v=>v.okN p
theorem renL_eq (σ:Nm→Nm):∀ l,SC.renL σ l=l.map (SC.ren σ)
 | []=>by simp [SC.renL]
 | c :: r=>by simp [SC.renL,renL_eq σ r]
def SameR (σ:Nm→Nm) (E E2:Env) (x:Nm):Prop:=E2.ρ x=E.ρ (σ x)∧E2.κ x=E.κ (σ x)∧E2.ν x=E.ν (σ x)∧E2.χ x=E.χ (σ x)
section
variable {p:Nat→Prop} {σ:Nm→Nm} {E E2:Env}
mutual
theorem den_ren (h:∀ x:Nm,p x.1→SameR σ E E2 x):∀ (c:SC),c.okN p→c.den E2=(c.ren σ).den E
 | .v x,_=>by simp [SC.den,SC.ren]
 | .bo x,_=>by simp [SC.den,SC.ren]
 | .xv x,hc=>by simp only [SC.den,SC.ren];exact (h x hc).2.2.2
 | .ptr x off,hc=>by simp only [SC.den,SC.ren];rw [(h x hc).1]
 | .sl x s o n c,hc=>by simp only [SC.den,SC.ren];rw [(h x hc).1,(h x hc).2.1,(h x hc).2.2.1]
 | .pe x s e j,hc=>by simp only [SC.den,SC.ren];rw [(h x hc).1]
 | .xs x s o n c,hc=>by simp only [SC.den,SC.ren];rw [(h x hc).2.2.2]
 | .ep x s e j,hc=>by simp only [SC.den,SC.ren];rw [(h x hc).2.2.2]
 | .mp x,hc=>by simp only [SC.den,SC.ren];rw [(h x hc).1]
 | .ifc t c,hc=>by simp only [SC.den,SC.ren];rw [den_ren h c hc]
 | .fn f l r,hc=>by simp only [SC.den,SC.ren];rw [denL_ren h l hc.1,denL_ren h r hc.2]
theorem denL_ren (h:∀ x:Nm,p x.1→SameR σ E E2 x):∀ (l:List SC),SC.okL p l→SC.denL E2 l=SC.denL E (SC.renL σ l)
 | [],_=>by simp [SC.denL,SC.renL]
 | c :: r,hc=>by simp only [SC.denL,SC.renL];rw [den_ren h c hc.1,denL_ren h r hc.2]
end
theorem map_ren (h:∀ x:Nm,p x.1→SameR σ E E2 x) (l:List SC) (hl:SC.okL p l):l.map (SC.den E2)=(SC.renL σ l).map (SC.den E):=by
 rw [← denL_eq,← denL_eq];exact denL_ren h l hl
theorem den1_ren (h:∀ x:Nm,p x.1→SameR σ E E2 x) (q:Bool×List SC) (hq:SC.okL p q.2):den1 E2 q=den1 E (ren1 σ q):=by
 obtain ⟨b,l⟩:=q
 cases b with
 | true=>simp only [den1,ren1];rw [map_ren h l hq]
 | false =>
  cases l with
  | nil=>rfl
  | cons x r=>exact den_ren h x hq.1
theorem tup_ren (h:∀ x:Nm,p x.1→SameR σ E E2 x):∀ (l:List (Bool×List SC)),ok1L p l→l.map (den1 E2)=(ren1L σ l).map (den1 E)
 | [],_=>rfl
 | q :: l,hl=>by simp only [List.map_cons,ren1L];rw [den1_ren h q hl.1,tup_ren h l hl.2]
theorem sv_ren (h:∀ x:Nm,p x.1→SameR σ E E2 x):∀ (v:SV),v.okN p→v.den E2=(v.ren σ).den E
 | .c x,hv=>den_ren h x hv
 | .agg l,hv=>by simp only [SV.den,SV.ren];rw [map_ren h l hv]
 | .tup l,hv=>by simp only [SV.den,SV.ren];rw [tup_ren h l hv]
 | .gd g w e v,hv=>by simp only [SV.den,SV.ren];rw [sv_ren h v hv]
end
def BlkLe (p:Nat→Prop) (σ:Nm→Nm) (b b' : Blk):Prop:=match b',b with
 | .no,.no=>True
 | .bk cs' ty',.bk cs ty=>cs=SC.renL σ cs'∧ty=ty'∧SC.okL p cs'
 | .ar n' s' at' ty',.ar n s at_ ty=>n'≤n∧s=s'∧ty=ty'∧∀ e,e<n'→at_ e=SC.renL σ (at' e)∧SC.okL p (at' e)
 | .mp kk' kd' f',.mp kk kd f=>kk=kk'∧kd=kd'∧∀ a,f a=f' a
 | .pr φ',.pr φ=>∀ E E2,(∀ x:Nm,p x.1→SameR σ E E2 x)→∀ h,φ E h→φ' E2 h
 | _,_=>False
theorem mem_renL {σ:Nm→Nm} {l:List SC} {j:Nat} {u:SC} (h:l[j]? = some u):(SC.renL σ l)[j]? = some (u.ren σ):=by
 rw [renL_eq,List.getElem?_map,h];rfl
theorem okL_mem {p:Nat→Prop}:∀ {l:List SC} {j:Nat} {u:SC},SC.okL p l→l[j]? = some u→u.okN p
 | [],j,u,_,h=>by simp at h
 | c :: r,0,u,hl,h=>by
  simp only [List.getElem?_cons_zero,Option.some.injEq] at h
  subst h
  exact hl.1
 | c :: r,j+1,u,hl,h=>okL_mem hl.2 (by simpa using h)
theorem blk_le {p:Nat→Prop} {σ:Nm→Nm} {E E2:Env} (h:∀ x:Nm,p x.1→SameR σ E E2 x) {x:Nm} (hx:p x.1) {b b' : Blk} (hb:BlkLe p σ b b') {hp:PH} (hd:b.den E (σ x) hp):b'.den E2 x hp:=by
 have hs:=h x hx
 unfold BlkLe at hb
 split at hb
 ·exact hd
 ·obtain ⟨h1,rfl,h3⟩:=hb
  simp only [Blk.den] at hd ⊢
  rw [hd,hs.1,h1,map_ren h _ h3]
 ·obtain ⟨h1,rfl,rfl,h4⟩:=hb
  simp only [Blk.den] at hd ⊢
  rw [hs.1,hs.2.1,hs.2.2.1]
  rcases hd with ⟨g1,g2,g3,g4⟩ | ⟨g1,g2,g3,cells,g4,g5,g6⟩
  ·exact Or.inl ⟨g1,g2,by omega,g4⟩
  ·refine Or.inr ⟨g1,by omega,g3,cells,g4,g5,fun e he=>?_⟩
   obtain ⟨h5,h6⟩:=h4 e he
   obtain ⟨f1,f2⟩:=g6 e (by omega)
   rw [h5] at f1 f2
   refine ⟨by rw [renL_eq,List.length_map] at f1;exact f1,fun j u hu=>?_⟩
   have:=f2 j _ (mem_renL hu)
   rw [den_ren h u (okL_mem h6 hu)]
   exact this
 ·obtain ⟨rfl,rfl,h2⟩:=hb
  simp only [Blk.den] at hd ⊢
  rw [hs.1]
  obtain ⟨es,clock,g1,L,g2,g3,g4,g5⟩:=hd
  exact ⟨es,clock,g1,L,g2,g3,g4,fun a ha=>by rw [← h2];exact g5.1 a ha,g5.2⟩
 ·exact hb E E2 h hp hd
 ·exact hb.elim
def BlkLeO (p:Nat→Prop) (σ:Nm→Nm):Option Blk→Blk→Prop
 | some b,b'=>BlkLe p σ b b'
 | none,_=>False
def OwnLe (p:Nat→Prop) (σ:Nm→Nm) (own:Own):Own→Prop
 | []=>True
 | (i,F) :: r=>(p i∧match F with
  | .one b'=>BlkLeO p σ (atN own (σ (i,0,0))) b'
  | .fam n f=>∀ k,k<n→BlkLeO p σ (atN own (σ (i,k,0))) (f k)
  | .fam2 n m f=>∀ k l,k<n→l<m k→BlkLeO p σ (atN own (σ (i,k,l))) (f k l))∧OwnLe p σ own r
theorem ownLe_at {p:Nat→Prop} {σ:Nm→Nm} {own:Own}:∀ {own' : Own},OwnLe p σ own own'→∀ {x:Nm} {b' : Blk},atN own' x=some b'→p x.1∧∃ b,atN own (σ x)=some b∧BlkLe p σ b b'
 | [],_,x,b',h=>by simp [atN,look] at h
 | (i,F) :: r,hl,x,b',h=>by
  obtain ⟨⟨hp,hF⟩,hr⟩:=hl
  have get:∀ {o:Option Blk} {b' : Blk},BlkLeO p σ o b'→∃ b,o=some b∧BlkLe p σ b b':=by
   intro o b' h
   cases o with
   | none=>exact h.elim
   | some b=>exact ⟨b,rfl,h⟩
  obtain ⟨j,k,l⟩:=x
  simp only [atN,look_cons] at h
  by_cases e:i=j
  ·subst e
   rw [if_pos rfl] at h
   cases F with
   | one c =>
    simp only [Fm.get] at h
    split at h
    ·next e =>
     obtain ⟨rfl,rfl⟩:=e
     cases h
     exact ⟨hp,get hF⟩
    ·cases h
   | fam n f =>
    simp only [Fm.get] at h
    split at h
    ·next e =>
     obtain ⟨hk,rfl⟩:=e
     cases h
     exact ⟨hp,get (hF k hk)⟩
    ·cases h
   | fam2 n m f =>
    simp only [Fm.get] at h
    split at h
    ·next e =>
     cases h
     exact ⟨hp,get (hF k l e.1 e.2)⟩
    ·cases h
  ·rw [if_neg e] at h
   exact ownLe_at hr (x:=(j,k,l)) h
def ArrLe (p:Nat→Prop) (σ:Nm→Nm) (A A' : ArrF):Prop:=A.len=A'.len∧A.size=A'.size∧(∀ e,e<A'.len→A.at_ e=SC.renL σ (A'.at_ e)∧SC.okL p (A'.at_ e))∧A'.low≤A.low
def ArrLeO (p:Nat→Prop) (σ:Nm→Nm):Option ArrF→ArrF→Prop
 | some b,b'=>ArrLe p σ b b'
 | none,_=>False
def ArrsLe (p:Nat→Prop) (σ:Nm→Nm) (arrs:List (Nat×Fm ArrF)):List (Nat×Fm ArrF)→Prop
 | []=>True
 | (i,F) :: r=>(p i∧match F with
  | .one b'=>ArrLeO p σ (atN arrs (σ (i,0,0))) b'
  | .fam n f=>∀ k,k<n→ArrLeO p σ (atN arrs (σ (i,k,0))) (f k)
  | .fam2 n m f=>∀ k l,k<n→l<m k→ArrLeO p σ (atN arrs (σ (i,k,l))) (f k l))∧ArrsLe p σ arrs r
theorem arrsLe_at {p:Nat→Prop} {σ:Nm→Nm} {own:List (Nat×Fm ArrF)}:∀ {own' : List (Nat×Fm ArrF)},ArrsLe p σ own own'→∀ {x:Nm} {b' : ArrF},atN own' x=some b'→p x.1∧∃ b,atN own (σ x)=some b∧ArrLe p σ b b'
 | [],_,x,b',h=>by simp [atN,look] at h
 | (i,F) :: r,hl,x,b',h=>by
  obtain ⟨⟨hp,hF⟩,hr⟩:=hl
  have get:∀ {o:Option ArrF} {b' : ArrF},ArrLeO p σ o b'→∃ b,o=some b∧ArrLe p σ b b':=by
   intro o b' h
   cases o with
   | none=>exact h.elim
   | some b=>exact ⟨b,rfl,h⟩
  obtain ⟨j,k,l⟩:=x
  simp only [atN,look_cons] at h
  by_cases e:i=j
  ·subst e
   rw [if_pos rfl] at h
   cases F with
   | one c =>
    simp only [Fm.get] at h
    split at h
    ·next e =>
     obtain ⟨rfl,rfl⟩:=e
     cases h
     exact ⟨hp,get hF⟩
    ·cases h
   | fam n f =>
    simp only [Fm.get] at h
    split at h
    ·next e =>
     obtain ⟨hk,rfl⟩:=e
     cases h
     exact ⟨hp,get (hF k hk)⟩
    ·cases h
   | fam2 n m f =>
    simp only [Fm.get] at h
    split at h
    ·next e =>
     cases h
     exact ⟨hp,get (hF k l e.1 e.2)⟩
    ·cases h
  ·rw [if_neg e] at h
   exact arrsLe_at hr (x:=(j,k,l)) h
def TmpsLe (p:Nat→Prop) (σ:Nm→Nm) (tmps:List (Nat×SV)):List (Nat×SV)→Prop
 | []=>True
 | (t,v) :: r=>(look tmps t=some (v.ren σ)∧v.okN p)∧TmpsLe p σ tmps r
theorem tmpsLe_at {p:Nat→Prop} {σ:Nm→Nm} {tmps:List (Nat×SV)}:∀ {l:List (Nat×SV)},TmpsLe p σ tmps l→∀ {t:Nat} {v:SV},look l t=some v→look tmps t=some (v.ren σ)∧v.okN p
 | [],_,t,v,h=>by cases h
 | (k,u) :: r,hl,t,v,h=>by
  rw [look_cons] at h
  split at h
  ·next e=>subst e;cases h;exact hl.1
  ·exact tmpsLe_at hl.2 h
def idσ (τ:Nat→Nat) (x:Nm):Nm:=(τ x.1,x.2)
def injL (τ:Nat→Nat) (l:List Nat):Bool:=l.all fun a=>l.all fun b=>!(Nat.beq (τ a) (τ b)) || Nat.beq a b
theorem injL_ok {τ:Nat→Nat} {l:List Nat} (h:injL τ l=true) {a b:Nat} (ha:a∈l) (hb:b∈l) (e:τ a=τ b):a=b:=by
 have h1:=List.all_eq_true.1 (List.all_eq_true.1 h a ha) b hb
 simp only [Bool.or_eq_true,Bool.not_eq_true'] at h1
 rcases h1 with h1 | h1
 ·rw [e] at h1
  have:=Nat.beq_refl (τ b)
  rw [this] at h1
  cases h1
 ·exact Nat.eq_of_beq_eq_true h1
def InjN (σ:Nm→Nm) (own:Own):Prop:=∀ x y b c,atN own x=some b→atN own y=some c→σ x=σ y→x=y
theorem injN_id {τ:Nat→Nat} {own:Own} (h:injL τ (keysL own)=true):InjN (idσ τ) own:=by
 intro x y b c hx hy e
 obtain ⟨F,hF,_⟩:=atN_some hx
 obtain ⟨G,hG,_⟩:=atN_some hy
 unfold idσ at e
 simp only [Prod.mk.injEq] at e
 have:=injL_ok h (look_keysL hF) (look_keysL hG) e.1
 exact Prod.ext this e.2
structure Ren (σ:Nm→Nm) (S S' : St):Prop where
 nt:S'.nt=S.nt
 facts:S'.facts=[]
 tmps:TmpsLe (· < S'.nid) σ S.tmps S'.tmps
 own:OwnLe (· < S'.nid) σ S.own S'.own
 arrs:ArrsLe (· < S'.nid) σ S.arrs S'.arrs
 inj:InjN σ S'.own
def Env.via (E:Env) (σ:Nm→Nm):Env:=⟨fun x=>E.ρ (σ x),fun x=>E.κ (σ x),fun x=>E.ν (σ x),fun x=>E.χ (σ x)⟩
theorem le_nm {C:Ctx} {S S' : St} (σ:Nm→Nm) (h:Ren σ S S'):Le C S S':=by
 intro E a w hs
 refine ⟨E.via σ,fun x=>hs.1 _,fun E2 hE2 ho2=>?_⟩
 have hs:=hs.sat
 have hR:∀ x:Nm,x.1<S'.nid→SameR σ E E2 x:=fun x hx=>hE2 x hx
 obtain ⟨H,hH,hF⟩:=hs.mem
 have hat:∀ x b',atN S'.own x=some b'→x.1<S'.nid∧∃ b,atN S.own (σ x)=some b∧BlkLe (· < S'.nid) σ b b':=fun x b' hx=>ownLe_at h.own hx
 refine ⟨hs.size.trans h.nt.symm,hs.defers,ho2,?_,hs.frame,fun x=>H (σ x),⟨?_,?_,?_⟩,?_⟩
 ·intro t v ht
  obtain ⟨h1,h2⟩:=tmpsLe_at h.tmps ht
  obtain ⟨g1,g2⟩:=hs.tmps t _ h1
  exact ⟨by rw [h.nt];exact g1,by rw [g2,sv_ren hR v h2]⟩
 ·intro x b' hx
  obtain ⟨h1,b,h2,h3⟩:=hat x b' hx
  exact blk_le hR h1 h3 (hH.den _ _ h2)
 ·intro x y b' c' hx hy hne n
  obtain ⟨_,b,h2,_⟩:=hat x b' hx
  obtain ⟨_,c,g2,_⟩:=hat y c' hy
  exact hH.disj _ _ b c h2 g2 (fun e=>hne (h.inj x y b' c' hx hy e)) n
 ·intro x b' hx n o hn
  obtain ⟨_,b,h2,_⟩:=hat x b' hx
  exact hH.sub _ b h2 n o hn
 ·intro w' hw'
  have hold:=hF w' (fun n hn hfr=>hw' n hn (fun x b' hx=>let ⟨_,b,h2,_⟩:=hat x b' hx;hfr _ b h2))
  refine ⟨fun x A' hA=>?_,fun φ hφ=>by rw [h.facts] at hφ;cases hφ⟩
  obtain ⟨h1,A,h2,h3,h4,h5,h6⟩:=arrsLe_at h.arrs hA
  obtain ⟨ba,cap,g1,g2,g3,g4⟩:=hold.1 _ A h2
  refine ⟨ba,cap,by rw [(hR x h1).2.2.2,g1,h3],by omega,g3,?_⟩
  rcases g4 with g4 | ⟨b,off,rfl,gl,g4⟩
  ·exact Or.inl (by omega)
  ·refine Or.inr ⟨b,off,rfl,Nat.le_trans h6 gl,fun k hk=>?_⟩
   obtain ⟨f1,f2⟩:=g4 k (by omega)
   obtain ⟨e1,e2⟩:=h5 k hk
   rw [e1] at f1 f2
   refine ⟨by rw [renL_eq,List.length_map] at f1;omega,fun j u hu=>?_⟩
   have:=f2 j _ (mem_renL hu)
   rw [den_ren hR u (okL_mem e2 hu),← h4]
   exact this
theorem le_ren {C:Ctx} {S S' : St} (τ:Nat→Nat) (h1:S'.nt=S.nt) (h2:S'.facts=[]) (h3:TmpsLe (· < S'.nid) (idσ τ) S.tmps S'.tmps) (h4:OwnLe (· < S'.nid) (idσ τ) S.own S'.own) (h5:ArrsLe (· < S'.nid) (idσ τ) S.arrs S'.arrs) (h6:injL τ (keysL S'.own)=true):Le C S S' :=
 le_nm (idσ τ) ⟨h1,h2,h3,h4,h5,injN_id h6⟩
def mkC (P:Program) (A:List Nat) (w:World) (rs:List RS) (R:Ending→World→Prop):Ctx:=⟨P,mkTab P A,w.heap.size,fun _=>False,w,rs,R⟩
theorem mkC_rs (P:Program) (A:List Nat) (w:World) (rs:List RS) (R:Ending→World→Prop):(mkC P A w rs R).rs=rs:=rfl
theorem below_of {P:Program} {A:List Nat} {w w' : World} {rs:List RS} {R:Ending→World→Prop} {E:Env} {S:St} {a:Act} (hs:Sat (mkC P A w rs R).B (mkC P A w rs R).W (mkC P A w rs R).w0 E S a w'):Below w.heap.size w w' :=
 ⟨hs.frame.os,hs.frame.tape,hs.frame.output,hs.frame.size,fun n hn=>hs.frame.keep n hn (fun h=>h)⟩
theorem inOk_nil {P:Program} {A:List Nat} {w:World} {rs:List RS} {R:Ending→World→Prop} {E:Env}:InOk (mkC P A w rs R) E [] [] [] w :=
 ⟨fun _=>emp,fun x b h=>by simp [atN,look] at h,fun x y b c h=>by simp [atN,look] at h,fun x b h=>by simp [atN,look] at h,fun w' _=>⟨fun x A h=>by simp [atN,look] at h,fun φ h=>by cases h⟩⟩
def RetV (w:World) (v:Value) (e:Ending) (w' : World):Prop:=e = .returned v∧Below w.heap.size w w'
theorem retV {P:Program} {A:List Nat} {w:World} {rs:List RS} {u:Value} {v:SV} {S:St} (hv:∀ E,v.den E=u):RetVC (mkC P A w rs (RetV w u)) v S:=by
 intro E a w' hs
 exact ⟨by rw [hv],below_of hs.sat⟩
theorem cr_retV {C:Ctx} {S:St} {f:Nat} {vs:List SV} (tmpl:SV) (u:Value) (hv:∀ E,tmpl.den E=u) (h:∀ E a w,Sat C.B C.W C.w0 E S a w→Calls C.P f (vs.map (SV.den E)).toArray w (RetV w u)):CR C f vs S [] tmpl 0 [] [] :=
 cr_val tmpl u hv h
def RetN (w:World) (nx:Nat) (T:Nat→SV) (O:Nat→Own) (e:Ending) (w' : World):Prop :=
 ∃ v,e = .returned v∧Below w.heap.size w w'∧∀ b,∃ N:Env,OneC N∧∀ E2,AgreeD (NewIds b nx) N E2→v=(T b).den E2 ∧
  ∃ H:Nm→PH,(∀ x c,atN (O b) x=some c→c.den E2 x (H x))∧(∀ x y c d,atN (O b) x=some c→atN (O b) y=some d→x≠y→∀ n,H x n=none∨H y n=none) ∧
   ∀ x c,atN (O b) x=some c→∀ n o,H x n=some o→w'.heap[n]? = some o∧w.heap.size≤n
theorem cr_retN {C:Ctx} {S:St} {f:Nat} {vs:List SV} (nx:Nat) (T:Nat→SV) (O:Nat→Own) (h:∀ E a w,Sat C.B C.W C.w0 E S a w→Calls C.P f (vs.map (SV.den E)).toArray w (RetN w nx T O)):CR C f vs S [] (T S.nid) nx (O S.nid) []:=by
 intro E a w hs
 refine (h E a w hs).mono ?_
 rintro e w' ⟨v,rfl,hb,hN⟩
 obtain ⟨N,hN1,hN2⟩:=hN S.nid
 refine ⟨v,rfl,N,hN1,fun E2 _ _ hag=>?_⟩
 obtain ⟨h1,H,h2,h3,h4⟩:=hN2 E2 hag
 exact ⟨h1,Fits.G ⟨fun _ _=>⟨hb.os,hb.tape,hb.output,hb.size,fun n hn _=>hb.block n hn,H,h2,h3,fun x c hc n o hn=>⟨(h4 x c hc n o hn).1,Or.inl (h4 x c hc n o hn).2⟩⟩,fun _ _ x A hA=>by simp [atN,look] at hA⟩⟩
def fromσ (b:Nat) (σ:Nat→Nat) (x:Nm):Nm:=(σ (x.1 - b),x.2)
theorem retN {P:Program} {A:List Nat} {w:World} {rs:List RS} {nx:Nat} {T:Nat→SV} {O:Nat→Own} {v:SV} {S:St} (σ:Nat→Nat) (hv:∀ b,v=(T b).ren (fromσ b σ)∧(T b).okN (NewIds b nx))
  (ho:∀ b,OwnLe (NewIds b nx) (fromσ b σ) S.own (O b)) (hi:∀ b,InjN (fromσ b σ) (O b)):RetVC (mkC P A w rs (RetN w nx T O)) v S:=by
 intro E a w' hs
 have hs:=hs.sat
 refine ⟨_,rfl,below_of hs,fun b=>⟨E.via (fromσ b σ),fun x=>hs.one _,fun E2 hE2=>?_⟩⟩
 have hR:∀ x:Nm,NewIds b nx x.1→SameR (fromσ b σ) E E2 x:=fun x hx=>hE2 x hx
 obtain ⟨H,hH,_⟩:=hs.mem
 have hat:∀ x c,atN (O b) x=some c→NewIds b nx x.1∧∃ d,atN S.own (fromσ b σ x)=some d∧BlkLe (NewIds b nx) (fromσ b σ) d c:=fun x c hx=>ownLe_at (ho b) hx
 refine ⟨?_,fun x=>H (fromσ b σ x),?_,?_,?_⟩
 ·rw [sv_ren hR _ (hv b).2,← (hv b).1]
 ·intro x c hx
  obtain ⟨h1,d,h2,h3⟩:=hat x c hx
  exact blk_le hR h1 h3 (hH.den _ _ h2)
 ·intro x y c d hx hy hne n
  obtain ⟨_,c',h2,_⟩:=hat x c hx
  obtain ⟨_,d',g2,_⟩:=hat y d hy
  exact hH.disj _ _ c' d' h2 g2 (fun e=>hne (hi b x y c d hx hy e)) n
 ·intro x c hx n o hn
  obtain ⟨_,c',h2,_⟩:=hat x c hx
  obtain ⟨h3,h4⟩:=hH.sub _ c' h2 n o hn
  refine ⟨h3,?_⟩
  rcases h4 with h4 | h4
  ·exact h4
  ·exact h4.elim
theorem injN_from {b:Nat} {σ:Nat→Nat} {own:Own} (h:∀ i∈keysL own,∀ j∈keysL own,σ (i - b)=σ (j - b)→i=j):InjN (fromσ b σ) own:=by
 intro x y c d hx hy e
 obtain ⟨F,hF,_⟩:=atN_some hx
 obtain ⟨G,hG,_⟩:=atN_some hy
 unfold fromσ at e
 simp only [Prod.mk.injEq] at e
 exact Prod.ext (h _ (look_keysL hF) _ (look_keysL hG) e.1) e.2
theorem both {b:Bool} {A B:Prop} (hA:b=true→A) (hB:b=false→B):(b=true→A)∧(b=false→B):=⟨hA,hB⟩
theorem imp_ft (q:Prop):(false=true→q)=True:=by simp
theorem imp_tf (q:Prop):(true=false→q)=True:=by simp
theorem imp_tt (q:Prop):(true=true→q)=q:=by simp
theorem imp_ff (q:Prop):(false=false→q)=q:=by simp
end Go.Proofs.Ytmcpdafmkkjlcaa.Z
namespace Go.Proofs.Ytmcpdafmkkjlcaa.Z
open Go Go.RowKit
theorem bt_ite {p:Prop} [Decidable p] {a b:Bool}:((if p then a else b)=true)=((p∧a=true)∨(¬ p∧b=true)):=by by_cases h:p <;> simp [h]
theorem bf_ite {p:Prop} [Decidable p] {a b:Bool}:((if p then a else b)=false)=((p∧a=false)∨(¬ p∧b=false)):=by by_cases h:p <;> simp [h]
theorem bt_int {a b:Int}:((a == b)=true)=(a=b):=by simp
theorem bt_nint {a b:Int}:((a != b)=true)=(¬ a=b):=by simp
theorem b_decR {a:Bool} {p:Prop} [Decidable p]:(a=decide p)=(a=true↔p):=by cases a <;> simp
theorem b_decL {a:Bool} {p:Prop} [Decidable p]:(decide p=a)=(p↔a=true):=by cases a <;> simp
theorem le_refl {C:Ctx} (S:St):Le C S S:=fun E a w h=>⟨E,h⟩
theorem wr64 {n:Int} (h : -9223372036854775808≤n) (h' : n≤9223372036854775807):IntKind.i64.wrap n=n:=IntWalk.i64_in n ⟨h,h'⟩
theorem wr_lit {n:Nat} (h:n≤9223372036854775807):IntKind.i64.wrap (no_index (OfNat.ofNat n))=OfNat.ofNat n:=wr64 (by show (-9223372036854775808:Int)≤(n:Int);omega) (by show ((n:Nat):Int)≤9223372036854775807;omega)
theorem wrU {n:Int} (h:0≤n∧n≤18446744073709551615):IntKind.u64.wrap n=n:=by
 have:IntKind.u64.wrap n=n % 18446744073709551616:=by simp [IntKind.wrap,IntKind.bits,IntKind.signed]
 rw [this];omega
theorem wr_litu {n:Nat} (h:n≤18446744073709551615):IntKind.u64.wrap (no_index (OfNat.ofNat n))=OfNat.ofNat n:=wrU ⟨by show (0:Int)≤(n:Int);omega,by show ((n:Nat):Int)≤18446744073709551615;omega⟩
theorem wr_succ {n:Nat} (h:n<9223372036854775807):IntKind.i64.wrap ((n:Int)+1)=((n+1:Nat):Int):=by rw [wr64 (by omega) (by omega)];omega
theorem arrOf_len {α:Type} (enc:α→List Value) (s:Nat) (xs:List α) (d:α) (l:Nat):(arrOf enc s xs d l).len=xs.length:=rfl
theorem arrOf_size {α:Type} (enc:α→List Value) (s:Nat) (xs:List α) (d:α) (l:Nat):(arrOf enc s xs d l).size=s:=rfl
theorem arrOf_at {α:Type} (enc:α→List Value) (s:Nat) (xs:List α) (d:α) (l k:Nat):(arrOf enc s xs d l).at_ k=(enc (xs.getD k d)).map .v:=rfl
theorem loopI {C:Ctx} {c:IR} {k:List KI} {S:St} {ex:List KI→St→Prop} {ι:Type} (I:ι→St) (μ:ι→Nat) (i:ι) (h:Le C S (I i)) (h' : ∀ i,ex (.code c :: .back ι I μ i :: k) (I i)):LoopVC C c k S ex:=⟨ι,I,μ,i,h,h'⟩
theorem backI {C:Ctx} {ι:Type} {I:ι→St} {μ:ι→Nat} {i:ι} {S:St} (j:ι) (hj:μ j<μ i) (h:Le C S (I j)):BackVC C ι I μ i S:=⟨j,hj,h⟩
theorem inOk_arrs {P:Program} {A:List Nat} {w:World} {rs:List RS} {R:Ending→World→Prop} {E:Env} {arrs:List (Nat×Fm ArrF)} (h:∀ w' : World,(∀ n,n<w.heap.size→w'.heap[n]? = w.heap[n]?)→∀ x A,atN arrs x=some A→ArrAt E w' x A):InOk (mkC P A w rs R) E [] arrs [] w :=
 ⟨fun _=>emp,fun x b h=>by simp [atN,look] at h,fun x y b c h=>by simp [atN,look] at h,fun x b h=>by simp [atN,look] at h,fun w' hw'=>⟨h w' fun n hn=>hw' n hn fun x b hb=>rfl,fun φ h=>by cases h⟩⟩
theorem arr_keep {α:Type} {w w' : World} {enc:α→List Value} {s:Nat} {v:Value} {xs:List α} (h:Arr w enc s v xs) (hk:∀ n,n<w.heap.size→w'.heap[n]? = w.heap[n]?):Arr w' enc s v xs:=by
 refine h.keep fun a u hu=>?_
 have hb:a.block<w.heap.size:=by
  unfold World.cell? at hu
  cases he:w.heap[a.block]? with
  | none=>rw [he] at hu;simp at hu
  | some o=>exact (Array.getElem?_eq_some_iff.1 he).1
 unfold World.cell? at hu ⊢
 rw [hk _ hb]
 exact hu
def TmpsSub (tmps:List (Nat×SV)):List (Nat×SV)→Prop
 | []=>True
 | (t,v) :: r=>look tmps t=some v∧TmpsSub tmps r
theorem tmpsSub_at {tmps:List (Nat×SV)}:∀ {l:List (Nat×SV)},TmpsSub tmps l→∀ {t:Nat} {v:SV},look l t=some v→look tmps t=some v
 | [],_,t,v,h=>by cases h
 | (k,u) :: r,hl,t,v,h=>by
  rw [look_cons] at h
  split at h
  ·next e=>subst e;cases h;exact hl.1
  ·exact tmpsSub_at hl.2 h
theorem le_tmps {C:Ctx} {nt:Nat} {t t' : List (Nat×SV)} {own:Own} {arrs:List (Nat×Fm ArrF)} {facts:List (Env→World→Prop)} {nid:Nat} (h:TmpsSub t t'):Le C ⟨nt,t,own,arrs,facts,nid⟩ ⟨nt,t',own,arrs,facts,nid⟩:=by
 intro E a w hs
 refine ⟨E,hs.1,fun E' hE' ho'=>?_⟩
 have hs:=hs.2 E' hE' ho'
 exact sat_sub (S:=⟨nt,t,own,arrs,facts,nid⟩) (S':=⟨nt,t',own,arrs,facts,nid⟩) ⟨rfl,fun k v hk=>tmpsSub_at h hk,fun _ _ h=>h,fun _ _ h=>h,fun _ h=>h⟩ hs
theorem arr1 {α:Type} {w:World} {enc:α→List Value} {s:Nat} {xs:List α} {d:α} (T:EncT enc s) {i:Nat} {E:Env} {v:Value} (hv:E.χ (i,0,0)=v) (h:Arr w enc s v xs) {w' : World} (hk:∀ n,n<w.heap.size→w'.heap[n]? = w.heap[n]?):ArrAt E w' (i,0,0) (arrOf enc s xs d) :=
 arrAt_of T (by rw [hv];exact arr_keep h hk)
theorem atN_one {α:Type} {i:Nat} {F:α} {r:List (Nat×Fm α)} {x:Nm} {A:α} (h:atN ((i,.one F) :: r) x=some A):(x=(i,0,0)∧A=F)∨atN r x=some A:=by
 obtain ⟨a,b,c⟩:=x
 simp only [atN,look_cons] at h
 split at h
 ·next e =>
  split at e
  ·next e2 =>
   subst e2
   cases e
   simp only [Fm.get] at h
   split at h
   ·next e3=>left;obtain ⟨rfl,rfl⟩:=e3;cases h;exact ⟨rfl,rfl⟩
   ·cases h
  ·next e2 =>
   right
   simp only [atN,e]
   exact h
 ·cases h
theorem atN_nil {α:Type} {x:Nm} {A:α} (h:atN ([]:List (Nat×Fm α)) x=some A):False:=by simp [atN,look] at h
theorem arr_one {α:Type} {w:World} {enc:α→List Value} {s:Nat} {v:Value} {xs:List α} (h:Arr w enc s v xs):v.oneCell' = true:=by
 obtain ⟨ba,cap,rfl,_⟩:=h
 rfl
def E1 (v:Value):Env:=⟨fun _=>0,fun _=>0,fun _=>false,fun _=>v⟩
theorem E1_one {v:Value} (h:v.oneCell' = true):OneC (E1 v):=fun _=>h
def ats {α:Type} (enc:α→List Value) (xs:List α) (d:α) (e:Nat):List SC:=(enc (xs.getD e d)).map .v
theorem arrOf_ats {α:Type} (enc:α→List Value) (s:Nat) (xs:List α) (d:α) (l:Nat):(arrOf enc s xs d l).at_=ats enc xs d:=rfl
def lsT (s n b:Nat):SV:=.c (.sl (b,0,0) s 0 n none)
def lsO {α:Type} (ty s:Nat) (enc:α→List Value) (xs:List α) (d:α) (b:Nat):Own:=[(b,.one (.ar xs.length s (ats enc xs d) ty))]
theorem renL_v (σ:Nm→Nm):∀ l:List Value,SC.renL σ (l.map .v)=l.map .v
 | []=>rfl
 | x :: l=>by simp only [List.map_cons,SC.renL,SC.ren,renL_v σ l]
theorem okL_v (p:Nat→Prop):∀ l:List Value,SC.okL p (l.map .v)
 | []=>trivial
 | x :: l=>⟨trivial,okL_v p l⟩
theorem arrLe_of {α:Type} {p:Nat→Prop} {σ:Nm→Nm} {enc:α→List Value} {s:Nat} {xs:List α} {d:α} {l:Nat}:ArrLe p σ (arrOf enc s xs d l) (arrOf enc s xs d l) :=
 ⟨rfl,rfl,fun e _=>⟨(renL_v _ _).symm,okL_v _ _⟩,Nat.le_refl _⟩
theorem arLe_of {α:Type} {p:Nat→Prop} {σ:Nm→Nm} {enc:α→List Value} {m n s ty:Nat} {xs:List α} {d:α} {at_:Nat→List SC} (hn:n≤m) (h:∀ e,e<n→at_ e=ats enc xs d e):BlkLe p σ (.ar m s at_ ty) (.ar n s (ats enc xs d) ty) :=
 ⟨hn,rfl,rfl,fun e he=>by rw [h e he];exact ⟨(renL_v _ _).symm,okL_v _ _⟩⟩
theorem retList {P:Program} {A:List Nat} {w:World} {rs:List RS} {α:Type} {ty s n:Nat} {enc:α→List Value} {xs:List α} {d:α} {S:St} (i k:Nat) (at_:Nat→List SC)
  (hi:look S.own i=some (.one (.ar k s at_ ty))) (hk:xs.length≤k) (ha:∀ e,e<xs.length→at_ e=ats enc xs d e):RetVC (mkC P A w rs (RetN w 1 (lsT s n) (lsO ty s enc xs d))) (.c (.sl (i,0,0) s 0 n none)) S:=by
 refine retN (fun _=>i) (fun b=>?_) (fun b=>?_) (fun b=>?_)
 ·simp [lsT,SV.ren,SC.ren,fromσ,SV.okN,SC.okN,NewIds]
 ·refine ⟨⟨⟨Nat.le_refl _,by omega⟩,?_⟩,trivial⟩
  simp only [fromσ,atN,hi,Fm.get,and_self,if_true]
  refine ⟨hk,rfl,rfl,fun e he=>?_⟩
  rw [ha e he]
  exact ⟨(renL_v _ _).symm,okL_v _ _⟩
 ·exact injN_from fun i hi j hj _=>by simp [lsO,keysL] at hi hj;omega
theorem dcallV {C:Ctx} {bs f:Nat} {vs:List SV} {dst:Option Nat} {U:List Nat} {Si S:St} {done:List Rec} {ex:List Rec→St→Prop} (tmpl:SV) (u:Value) (hv:∀ E,tmpl.den E=u) (hc:∀ E a w,Sat C.B C.W C.w0 E Si a w→Calls C.P f (vs.map (SV.den E)).toArray w (RetV w u))
  (h:ex (done++[⟨dst,tmpl,[],[],Si.nid,0,keysL Si.own,[],[]⟩]) (S.appN ⟨dst,tmpl,[],[],Si.nid,0,keysL Si.own,[],[]⟩)):DCallVC C bs f vs dst U Si done S ex :=
 dcall_intro (cr_retV tmpl u hv hc) rfl trivial trivial (fun k hk=>by cases hk) h
theorem callV {C:Ctx} {f:Nat} {vs:List SV} {dst:Option Nat} {S:St} {K:St→Prop} (tmpl:SV) (u:Value) (hv:∀ E,tmpl.den E=u) (hc:∀ E a w,Sat C.B C.W C.w0 E S a w→Calls C.P f (vs.map (SV.den E)).toArray w (RetV w u)) (h:K (S.call dst tmpl 0 [] [])):CallVC C f vs dst S K :=
 call_intro (cr_retV tmpl u hv hc) (fun i hi=>by cases hi) h
theorem callN {C:Ctx} {f:Nat} {vs:List SV} {dst:Option Nat} {S:St} {K:St→Prop} (nx:Nat) (T:Nat→SV) (O:Nat→Own) (hc:∀ E a w,Sat C.B C.W C.w0 E S a w→Calls C.P f (vs.map (SV.den E)).toArray w (RetN w nx T O)) (h:K (S.call dst (T S.nid) nx (O S.nid) [])):CallVC C f vs dst S K :=
 call_intro (cr_retN nx T O hc) (fun i hi=>by cases hi) h
end Go.Proofs.Ytmcpdafmkkjlcaa.Z
namespace Go.Proofs.Ytmcpdafmkkjlcaa.Z
open Go Go.RowKit
def TmpsNil (s z:Nat) (tmps:List (Nat×SV)):List (Nat×SV)→Prop
 | []=>True
 | (t,v) :: r=>(look tmps t=some v∨(look tmps t=some (.c (.v (.slice none 0 0)))∧v = .c (.sl (z,0,0) s 0 0 none)))∧TmpsNil s z tmps r
theorem tmpsNil_at {s z:Nat} {tmps:List (Nat×SV)}:∀ {l:List (Nat×SV)},TmpsNil s z tmps l→∀ {t:Nat} {v:SV},look l t=some v→(look tmps t=some v∨(look tmps t=some (.c (.v (.slice none 0 0)))∧v = .c (.sl (z,0,0) s 0 0 none)))
 | [],_,t,v,h=>by cases h
 | (k,u) :: r,hl,t,v,h=>by
  rw [look_cons] at h
  split at h
  ·next e=>subst e;cases h;exact hl.1
  ·exact tmpsNil_at hl.2 h
theorem le_nilown {C:Ctx} {nt:Nat} {tmps tmps' : List (Nat×SV)} {own:Own} {arrs:List (Nat×Fm ArrF)} {facts:List (Env→World→Prop)} {nid:Nat} (s ty:Nat) (at_:Nat→List SC)
  (ht:TmpsNil s nid tmps tmps') (hn:look own nid=none):Le C ⟨nt,tmps,own,arrs,facts,nid⟩ ⟨nt,tmps',(nid,.one (.ar 0 s at_ ty)) :: own,arrs,facts,nid+1⟩:=by
 intro E a w hs
 refine ⟨⟨E.ρ,fun x=>if x.1=nid then 0 else E.κ x,fun x=>if x.1=nid then true else E.ν x,E.χ⟩,fun x=>hs.1 x,fun E2 hE2 ho2=>?_⟩
 have hs2:=hs.2 E2 (fun x hx=>by
  have h:=hE2 x (Nat.lt_succ_of_lt hx)
  have hne:x.1≠nid:=by have:x.1<nid:=hx;omega
  simp only [Same,hne,if_false] at h
  exact h) ho2
 have hsz:=hE2 (nid,0,0) (Nat.lt_succ_self nid)
 have hκ:E2.κ (nid,0,0)=0:=by have h:=hsz.2.1;simpa using h
 have hν:E2.ν (nid,0,0)=true:=by have h:=hsz.2.2.1;simpa using h
 obtain ⟨H,hH,hF⟩:=hs2.mem
 have hat:∀ x b,atN own x=some b→x.1≠nid:=fun x b h e=>by
  obtain ⟨F,hF,_⟩:=atN_some h
  rw [e,hn] at hF
  cases hF
 refine ⟨hs2.size,hs2.defers,ho2,fun t v h=>?_,hs2.frame,fun x=>if x.1=nid then emp else H x,⟨fun x b hb=>?_,fun x y b c hb hc hne n=>?_,fun x b hb n o hn=>?_⟩,fun w' hw'=>?_⟩
 ·rcases tmpsNil_at ht h with h1 | ⟨h1,rfl⟩
  ·exact hs2.tmps t v h1
  ·obtain ⟨g1,h2⟩:=hs2.tmps t _ h1
   refine ⟨g1,?_⟩
   rw [h2,den_c,den_c,den_v]
   simp [SC.den,hκ,hν]
 ·rcases atN_one hb with ⟨rfl,rfl⟩ | hb
  ·exact Or.inl ⟨trivial,hκ,rfl,by simp⟩
  ·simp only [hat x b hb,if_false]
   exact hH.den x b hb
 ·rcases atN_one hb with ⟨rfl,rfl⟩ | hb
  ·simp [emp]
  ·rcases atN_one hc with ⟨rfl,rfl⟩ | hc
   ·simp [emp]
   ·simp only [hat x b hb,hat y c hc,if_false]
    exact hH.disj x y b c hb hc hne n
 ·rcases atN_one hb with ⟨rfl,rfl⟩ | hb
  ·simp [emp] at hn
  ·simp only [hat x b hb,if_false] at hn
   exact hH.sub x b hb n o hn
 ·exact hF w' fun n hn hfr=>hw' n hn fun x b hb=>by
   rcases atN_one hb with ⟨rfl,rfl⟩ | hb
   ·simp [emp]
   ·simp only [hat x b hb,if_false]
    exact hfr x b hb
theorem holds_of {C:Ctx} {E:Env} {S:St} {a:Act} {w:World} (hs:Sat C.B C.W C.w0 E S a w):Holds E S w:=by
 obtain ⟨H,_,hF⟩:=hs.mem
 exact hF w fun _ _ _=>rfl
theorem inOk_arrsF {P:Program} {A:List Nat} {w:World} {rs:List RS} {R:Ending→World→Prop} {E:Env} {arrs:List (Nat×Fm ArrF)} {facts:List (Env→World→Prop)} (h:∀ w' : World,(∀ n,n<w.heap.size→w'.heap[n]? = w.heap[n]?)→∀ x A,atN arrs x=some A→ArrAt E w' x A)
  (hf:∀ w',∀ φ∈facts,φ E w'):InOk (mkC P A w rs R) E [] arrs facts w :=
 ⟨fun _=>emp,fun x b h=>by simp [atN,look] at h,fun x y b c h=>by simp [atN,look] at h,fun x b h=>by simp [atN,look] at h,fun w' hw'=>⟨h w' fun n hn=>hw' n hn fun x b hb=>rfl,hf w'⟩⟩
theorem arr_own {C:Ctx} {E:Env} {S:St} {a:Act} {w:World} (hs:Sat C.B C.W C.w0 E S a w) {α:Type} {ty s:Nat} {enc:α→List Value} {ys:List α} {d:α} (i k n:Nat) (at_:Nat→List SC) (hi:look S.own i=some (.one (.ar k s at_ ty))) (hn:n=ys.length) (hk:ys.length≤k)
  (ha:∀ e,e<ys.length→at_ e=ats enc ys d e):Arr w enc s ((SC.sl (i,0,0) s 0 n none).den E) ys:=by
 subst hn
 obtain ⟨H,hH,_⟩:=hs.mem
 have hat:atN S.own (i,0,0)=some (.ar k s at_ ty):=by simp [atN,hi,Fm.get]
 rcases ar_heap hH hat with ⟨h1,h2,h3,_⟩ | ⟨h1,h2,h3,cells,h4,h5,h6,h7⟩
 ·have h0:ys=[]:=List.eq_nil_of_length_eq_zero (by omega)
  subst h0
  exact ⟨if E.ν (i,0,0)=true then none else some ⟨E.ρ (i,0,0),0,none⟩,0,by simp [SC.den,h2],Nat.le_refl _,by simp [maxLen],Or.inl rfl⟩
 ·refine ⟨some ⟨E.ρ (i,0,0),0,none⟩,E.κ (i,0,0),by simp [SC.den,h1],by omega,h3,Or.inr ⟨_,_,rfl,fun e y hy j u hu=>?_⟩⟩
  rw [cell_of_row w _ _ _ ty (0,0) h5,Nat.zero_add]
  have he:e<ys.length:=(List.getElem?_eq_some_iff.1 hy).1
  have:=((h7 e (by omega)).2 j (.v u) (by
   rw [ha e he]
   have:ys.getD e d=y:=by rw [List.getD_eq_getElem?_getD,hy];rfl
   simp only [ats,this,List.getElem?_map,hu];rfl)).1
  rw [den_v] at this
  exact this
theorem crv_retV {C:Ctx} {f:Nat} {vs:List SV} {S:St} (tmpl:SV) (u:Value) (hv:∀ E,tmpl.den E=u) (h:∀ E a w,Sat C.B C.W C.w0 E S a w→Calls C.P f (vs.map (SV.den E)).toArray w (RetV w u)):CRv C f vs S tmpl:=by
 intro E a w hs
 refine (h E a w hs).mono ?_
 rintro e w' ⟨rfl,hb⟩
 exact ⟨u,rfl,E,hs.one,fun E2 _ _ _=>⟨(hv E2).symm,Fits.G ⟨fun H _=>effOk_below hb,fun _ _ x A h=>by simp [atN,look] at h⟩⟩⟩
def E2 (v0 v1:Value):Env:=⟨fun _=>0,fun _=>0,fun _=>false,fun x=>if x.1=1 then v1 else v0⟩
theorem enter0 {P:Program} {A:List Nat} {f nt:Nat} {fn:Func} {x:Code} {c:IR} {w:World} {rs:List RS} {R:Ending→World→Prop} (sc:List SV) (args:Array Value)
  (hf:P.funcs[f]? = some fn) (hb:fn.body=some x) (hc:compC (mkTab P A) x=some c.strip) (hr:compR (mkTab P A).T fn.results.toList=some rs) (hn:fn.ntmps=nt)
  (hargs:∀ E',(sc.map (SV.den E')).toArray=args) (hnt:sc.length≤nt)
  (hex:exec (mkC P A w rs R) 1000 [.code c] ⟨nt,enumT 0 sc,[],[],[],0⟩):Calls P f args w R :=
 calls_sym (c:=c) (C:=mkC P A w rs R) 1000 sc (E1 (.bool true)) [] [] [] 0 nt args (mkTab_ok _ _) hf hb hc hr hn rfl rfl (E1_one rfl) (fun E' _=>hargs E') hnt (fun E' _=>inOk_nil) hex
theorem enter2 {P:Program} {A:List Nat} {f nt:Nat} {fn:Func} {x:Code} {c:IR} {w:World} {rs:List RS} {R:Ending→World→Prop} {α β:Type} {enc:α→List Value} {s:Nat} {xs:List α} (d:α) {v:Value} (T:EncT enc s) (h:Arr w enc s v xs)
  {enc' : β→List Value} {s' : Nat} {ys:List β} (d' : β) {v' : Value} (T' : EncT enc' s') (h' : Arr w enc' s' v' ys) (sc:List SV) (args:Array Value)
  (hf:P.funcs[f]? = some fn) (hb:fn.body=some x) (hc:compC (mkTab P A) x=some c.strip) (hr:compR (mkTab P A).T fn.results.toList=some rs) (hn:fn.ntmps=nt)
  (hargs:∀ E',E'.χ (0,0,0)=v→E'.χ (1,0,0)=v'→(sc.map (SV.den E')).toArray=args) (hnt:sc.length≤nt)
  (hex:exec (mkC P A w rs R) 1000 [.code c] ⟨nt,enumT 0 sc,[],[(0,.one (arrOf enc s xs d)),(1,.one (arrOf enc' s' ys d'))],[],2⟩):Calls P f args w R:=by
 have hone:OneC (E2 v v'):=fun x=>by
  simp only [E2]
  split
  ·exact arr_one h'
  ·exact arr_one h
 have h0:∀ E' : Env,AgreeD (· < 2) (E2 v v') E'→E'.χ (0,0,0)=v:=fun E' hE'=>by
  have:=(hE' (0,0,0) Nat.zero_lt_two).2.2.2
  simpa [E2] using this
 have h1:∀ E' : Env,AgreeD (· < 2) (E2 v v') E'→E'.χ (1,0,0)=v':=fun E' hE'=>by
  have:=(hE' (1,0,0) Nat.one_lt_two).2.2.2
  simpa [E2] using this
 refine calls_sym (c:=c) (C:=mkC P A w rs R) 1000 sc (E2 v v') [] _ [] 2 nt args (mkTab_ok _ _) hf hb hc hr hn rfl rfl hone (fun E' hE'=>hargs E' (h0 E' hE') (h1 E' hE')) hnt (fun E' hE'=>inOk_arrs fun w' hw' x A hA=>?_) hex
 rcases atN_one hA with ⟨rfl,rfl⟩ | hA
 ·exact arr1 T (h0 E' hE') h hw'
 rcases atN_one hA with ⟨rfl,rfl⟩ | hA
 ·exact arr1 T' (h1 E' hE') h' hw'
 exact (atN_nil hA).elim
end Go.Proofs.Ytmcpdafmkkjlcaa.Z
namespace Go.Proofs.Ytmcpdafmkkjlcaa.Z
open Go Go.RowKit
theorem le_tr {C:Ctx} {S S' S'' : St} (h:Le C S S') (h' : Le C S' S''):Le C S S'':=fun E a w hs=>by
 obtain ⟨E',hs'⟩:=h E a w hs
 exact h' E' a w hs'
theorem ats_push {α:Type} {enc:α→List Value} {xs ys:List α} {d x:α} {n:Nat} {f g:Nat→List SC} (hy:ys=xs++[x]) (hn:n=xs.length) (hf:∀ e,e<xs.length→f e=ats enc xs d e) (hg:g 0=(enc x).map .v):∀ e,e<ys.length→appAt n f g e=ats enc ys d e:=fun e he=>by
 subst hy
 subst hn
 unfold appAt
 by_cases h:e<xs.length
 ·rw [if_pos h,hf e h]
  simp [ats,List.getD_eq_getElem?_getD,List.getElem?_append_left h]
 ·have:e=xs.length:=by simp at he;omega
  subst this
  rw [if_neg h,Nat.sub_self,hg]
  simp [ats]
theorem ats_app {α:Type} {enc:α→List Value} {xs ys zs:List α} {d:α} {n:Nat} {f g:Nat→List SC} (hz:zs=xs++ys) (hn:n=xs.length) (hf:∀ e,e<xs.length→f e=ats enc xs d e) (hg:∀ e,e<ys.length→g e=ats enc ys d e):∀ e,e<zs.length→appAt n f g e=ats enc zs d e:=fun e he=>by
 subst hz
 subst hn
 unfold appAt
 by_cases h:e<xs.length
 ·rw [if_pos h,hf e h]
  simp [ats,List.getD_eq_getElem?_getD,List.getElem?_append_left h]
 ·rw [if_neg h,hg _ (by simp at he;omega)]
  simp [ats,List.getD_eq_getElem?_getD,List.getElem?_append_right (show xs.length≤e by omega)]
theorem arr_at {C:Ctx} {E:Env} {S:St} {a:Act} {w:World} {α:Type} {enc:α→List Value} {s:Nat} {xs:List α} {d:α} {l:Nat} (hs:Sat C.B C.W C.w0 E S a w) (i:Nat) (h:atN S.arrs (i,0,0)=some (arrOf enc s xs d l)):Arr w enc s (E.χ (i,0,0)) xs:=arr_of (d:=d) ((holds_of hs).1 (i,0,0) _ h)
theorem own_at {C:Ctx} {E:Env} {S:St} {a:Act} {w:World} (hs:Sat C.B C.W C.w0 E S a w) {α:Type} {ty s:Nat} {enc:α→List Value} {ys:List α} {d:α} (i n:Nat) (hi:look S.own i=some (.one (.ar ys.length s (ats enc ys d) ty))) (hn:n=ys.length):Arr w enc s ((SC.sl (i,0,0) s 0 n none).den E) ys :=
 arr_own hs i _ n _ hi hn (Nat.le_refl _) fun _ _=>rfl
theorem guardW {C:Ctx} {ex:List KI→St→Prop} {f:Nat} {vs:List SV} {r:List IO1} {k:List KI} {S S' : St} {d:Option Nat} {g:Nat} {want e:Bool} {Z Z' : Prop} (tmpl:SV) (u:Value) (hv:∀ E,tmpl.den E=u) (hc:∀ E a w,Sat C.B C.W C.w0 E S' a w→Calls C.P f (vs.map (SV.den E)).toArray w (RetV w u))
  (hk:ex (.ops r :: k) ⟨S.nt,S.putT d (.gd g want e tmpl),S.own,S.arrs,S.facts,S.nid⟩):CallG C ex f vs r k S S' d g want e Z∨Z' :=
 Or.inl (Or.inl ⟨tmpl,fun _=>crv_retV tmpl u hv hc,hk⟩)
theorem dcallN {C:Ctx} {bs f:Nat} {vs:List SV} {dst:Option Nat} {U:List Nat} {Si S:St} {done:List Rec} {ex:List Rec→St→Prop} (nx:Nat) (T:Nat→SV) (O:Nat→Own) (hc:∀ E a w,Sat C.B C.W C.w0 E Si a w→Calls C.P f (vs.map (SV.den E)).toArray w (RetN w nx T O))
  (hkeys:newOk Si.nid nx (keysL (O Si.nid)))
  (h:ex (done++[⟨dst,T Si.nid,O Si.nid,[],Si.nid,nx,keysL Si.own,[],[]⟩]) (S.appN ⟨dst,T Si.nid,O Si.nid,[],Si.nid,nx,keysL Si.own,[],[]⟩)):DCallVC C bs f vs dst U Si done S ex :=
 dcall_intro (cr_retN nx T O hc) rfl trivial (by
  have:∀ l:Own,newOk Si.nid nx (keysL l)→wrOk U done Si.nid nx l:=by
   intro l
   induction l with
   | nil=>intro _;trivial
   | cons a l ih =>
    obtain ⟨k,b⟩:=a
    intro h;exact ⟨Or.inl h.1,ih h.2⟩
  exact this _ hkeys) (fun k hk hlt=>absurd (newOk_mem hkeys k hk).1 (by omega)) h
theorem wrI {n:Int} (h : -9223372036854775808≤n∧n≤9223372036854775807):IntKind.i64.wrap n=n:=wr64 h.1 h.2
def leT (s n:Nat) (e:Int) (b:Nat):SV:=.tup [(false,[.sl (b,0,0) s 0 n none]),(false,[.v (.int .i64 e)])]
theorem retList' {P:Program} {A:List Nat} {w:World} {rs:List RS} {α:Type} {ty s n:Nat} {enc:α→List Value} {xs:List α} {d:α} {S:St} (i k:Nat) (at_:Nat→List SC)
  (hi:look S.own i=some (.one (.ar k s at_ ty))) (hn:n=xs.length) (hk:xs.length≤k) (ha:∀ e,e<xs.length→at_ e=ats enc xs d e):RetVC (mkC P A w rs (RetN w 1 (lsT s xs.length) (lsO ty s enc xs d))) (.c (.sl (i,0,0) s 0 n none)) S:=by
 subst hn
 exact retList i k at_ hi hk ha
def Unr (C:Ctx) (c:IR) (k:List KI) (ex:List KI→St→Prop):Nat→St→Prop
 | 0,_=>False
 | n+1,S=>∀ (ι:Type) (I:ι→St) (μ:ι→Nat) (i:ι),(∀ S',Unr C c k ex n S'→BackVC C ι I μ i S')→ex (.code c :: .back ι I μ i :: k) S
theorem loop_unr {C:Ctx} {S:St} {c:IR} {k:List KI} {ex:List KI→St→Prop} (n:Nat) (h:Unr C c k ex n S):LoopVC C c k S ex:=by
 refine ⟨{ p:Nat×St // Unr C c k ex p.1 p.2 },fun p=>p.1.2,fun p=>p.1.1,⟨(n,S),h⟩,fun E a w hs=>⟨E,hs⟩,?_⟩
 rintro ⟨⟨m,S'⟩,h'⟩
 cases m with
 | zero=>exact h'.elim
 | succ m=>exact h' _ _ _ _ (fun S'' h''=>⟨⟨(m,S''),h''⟩,Nat.lt_succ_self m,fun E a w hs=>⟨E,hs⟩⟩)
def keepL' {α:Type} (l:List (Nat×α)):List Nat→List (Nat×α)
 | []=>[]
 | k :: ks=>match look l k with
  | some v=>(k,v) :: keepL' l ks
  | none=>keepL' l ks
def St.keep (S:St) (kt ko ka:List Nat):St:=⟨S.nt,keepL' S.tmps kt,keepL' S.own ko,keepL' S.arrs ka,S.facts,S.nid⟩
end Go.Proofs.Ytmcpdafmkkjlcaa.Z
namespace Go.Proofs.Ytmcpdafmkkjlcaa.Z
open Go Go.RowKit
theorem den_same {p:Nat→Prop} {E E2:Env} (h:∀ x:Nm,p x.1→Same E E2 x) {v:SV} (hv:v.okN p):v.den E2=v.den E:=by
 have h1:v.den E2=(v.ren id).den E:=sv_ren (σ:=id) (fun x hx=>h x hx) v hv
 have h2:v.den E=(v.ren id).den E:=sv_ren (σ:=id) (fun x _=>⟨rfl,rfl,rfl,rfl⟩) v hv
 rw [h1,h2]
def okVs (p:Nat→Prop):List SV→Prop
 | []=>True
 | v :: l=>v.okN p∧okVs p l
theorem dens_same {p:Nat→Prop} {E E2:Env} (h:∀ x:Nm,p x.1→Same E E2 x):∀ {l:List SV},okVs p l→l.map (SV.den E2)=l.map (SV.den E)
 | [],_=>rfl
 | v :: l,hl=>by rw [List.map_cons,List.map_cons,den_same h hl.1,dens_same h hl.2]
def AgF (n0:Nat) (E0:Env):Env→World→Prop:=fun E _=>AgreeD (· < n0) E0 E
structure TmpOk (E0:Env) (a:Act) (S:St):Prop where
 size:a.tmps.size=S.nt
 defers:a.defers=[]
 tmps:∀ E',AgreeD (· < S.nid) E0 E'→OneC E'→∀ t v,look S.tmps t=some v→t<S.nt∧a.tmps.getD t undef=v.den E'
def InlR (C:Ctx) (S:St) (dst:Option Nat) (K:St→Prop) (E0:Env) (a:Act) (e:Ending) (w' : World):Prop :=
 ∃ u,e = .returned u∧∃ E' S',SatA C.B C.W C.w0 E' S' (a.put dst u) w'∧K S'
def mkI (C:Ctx) (rs:List RS) (S:St) (dst:Option Nat) (K:St→Prop) (E0:Env) (a:Act):Ctx:=⟨C.P,C.tab,C.B,C.W,C.w0,rs,InlR C S dst K E0 a⟩
theorem mkI_rs (C:Ctx) (rs:List RS) (S:St) (dst:Option Nat) (K:St→Prop) (E0:Env) (a:Act):(mkI C rs S dst K E0 a).rs=rs:=rfl
theorem call_inline {C:Ctx} {f:Nat} {vs:List SV} {dst:Option Nat} {S:St} {K:St→Prop} {fn:Func} {x:Code} {c:IR} {rs:List RS} {nt:Nat} (n:Nat) (hT:C.tab.Ok C.P) (hf:C.P.funcs[f]? = some fn) (hb:fn.body=some x) (hc:compC C.tab x=some c.strip) (hr:compR C.tab.T fn.results.toList=some rs) (hn:fn.ntmps=nt)
  (hvs:okVs (· < S.nid) vs) (hnt:vs.length≤nt)
  (hex:∀ E0 a,TmpOk E0 a S→exec (mkI C rs S dst K E0 a) n [.code c] ⟨nt,enumT 0 vs,S.own,S.arrs,AgF S.nid E0 :: S.facts,S.nid⟩):CallVC C f vs dst S K:=by
 intro E a w hs
 subst hn
 have hok:TmpOk E a S:=⟨hs.sat.size,hs.sat.defers,fun E' h1 h2 t v ht=>(hs.2 E' h1 h2).tmps t v ht⟩
 refine calls_of_exec (C:=mkI C rs S dst K E a) (E:=E) n hT hf hb hc hr ⟨hs.1,fun E' h1 h2=>?_⟩ (hex E a hok)
 have hs':=hs.2 E' h1 h2
 have hvv:vs.map (SV.den E')=vs.map (SV.den E):=dens_same (p:=(· < S.nid)) (fun x hx=>h1 x hx) hvs
 refine ⟨by simp;omega,rfl,h2,fun t v ht=>?_,hs'.frame,?_⟩
 ·obtain ⟨j,rfl,hj⟩:=look_enumT vs 0 t v ht
  have hjl:j<vs.length:=(List.getElem?_eq_some_iff.1 hj).1
  refine ⟨by simp only;omega,?_⟩
  simp only [← hvv,Nat.zero_add,Array.getD_eq_getD_getElem?]
  rw [Array.getElem?_append_left (by simpa using hjl)]
  simp [hj]
 ·obtain ⟨H,hH,hF⟩:=hs'.mem
  refine ⟨H,hH,fun w' hw'=>⟨(hF w' hw').1,fun φ hφ=>?_⟩⟩
  cases hφ with
  | head=>exact h1
  | tail _ hφ=>exact (hF w' hw').2 φ hφ
theorem retI {C:Ctx} {rs:List RS} {S S2:St} {dst:Option Nat} {K:St→Prop} {E0:Env} {a:Act} {v:SV} (hok:TmpOk E0 a S) (fs:List (Env→World→Prop)) (hf:S2.facts=AgF S.nid E0 :: fs) (hle:S.nid≤S2.nid) (hv:v.okN (· < S2.nid))
  (hk:K ⟨S.nt,S.putT dst v,S2.own,S2.arrs,fs,S2.nid⟩):RetVC (mkI C rs S dst K E0 a) v S2:=by
 intro E a2 w hs
 refine ⟨_,rfl,E,⟨S.nt,S.putT dst v,S2.own,S2.arrs,fs,S2.nid⟩,⟨hs.1,fun E' h1 h2=>?_⟩,hk⟩
 have hs':=hs.2 E' h1 h2
 obtain ⟨H,hH,hF⟩:=hs'.mem
 have hag:AgreeD (· < S.nid) E0 E':=by
  have:=(hF w fun _ _ _=>rfl).2 (AgF S.nid E0) (by rw [hf];exact List.mem_cons_self)
  exact this
 have hvv:v.den E' = v.den E:=den_same (p:=(· < S2.nid)) (fun x hx=>h1 x hx) hv
 refine ⟨by rw [put_size'];exact hok.size,by rw [put_defers'];exact hok.defers,h2,fun t u ht=>?_,hs'.frame,H,hH,fun w' hw'=>⟨(hF w' hw').1,fun φ hφ=>(hF w' hw').2 φ (by rw [hf];exact List.mem_cons_of_mem _ hφ)⟩⟩
 rw [← hvv]
 cases dst with
 | none=>exact hok.tmps E' hag h2 t u ht
 | some d =>
  simp only [St.putT] at ht
  split at ht
  ·next hd =>
   rw [look_setL] at ht
   split at ht
   ·next e =>
    subst e
    simp only [Option.some.injEq] at ht
    subst ht
    exact ⟨hd,put_same' _ _ _ (by rw [hok.size];exact hd)⟩
   ·next e=>
    obtain ⟨g1,g2⟩:=hok.tmps E' hag h2 t u ht
    exact ⟨g1,by rw [put_other' _ _ _ _ e];exact g2⟩
  ·next hd =>
   obtain ⟨g1,g2⟩:=hok.tmps E' hag h2 t u ht
   exact ⟨g1,by rw [put_other' _ _ _ _ (fun e=>hd (by subst e;exact g1))];exact g2⟩
def FStab (σ:Nm→Nm) (n:Nat) (φ:Env→World→Prop):Prop:=∀ E E2 w,(∀ x:Nm,x.1<n→SameR σ E E2 x)→φ E w→φ E2 w
theorem agF_stab {σ:Nm→Nm} {n n0:Nat} {E0:Env} (hn:n0≤n) (hσ:∀ x:Nm,x.1<n0→σ x=x):FStab σ n (AgF n0 E0):=by
 intro E E2 w h hf x hx
 have h1:=h x (Nat.lt_of_lt_of_le hx hn)
 have h2:=hf x hx
 unfold SameR at h1
 rw [hσ x hx] at h1
 exact h2.trans h1
def FactLe (σ:Nm→Nm) (n:Nat) (fs:List (Env→World→Prop)) (φ:Env→World→Prop):Prop:=∃ φ0∈fs,∀ E E2 w,(∀ x:Nm,x.1<n→SameR σ E E2 x)→φ0 E w→φ E2 w
def FactsLe (σ:Nm→Nm) (n:Nat) (fs:List (Env→World→Prop)):List (Env→World→Prop)→Prop
 | []=>True
 | φ :: l=>FactLe σ n fs φ∧FactsLe σ n fs l
theorem factsLe_mem {σ:Nm→Nm} {n:Nat} {fs:List (Env→World→Prop)}:∀ {l:List (Env→World→Prop)},FactsLe σ n fs l→∀ φ∈l,FactLe σ n fs φ
 | [],_,φ,h=>by cases h
 | ψ :: l,hl,φ,h=>by
  cases h with
  | head=>exact hl.1
  | tail _ h=>exact factsLe_mem hl.2 φ h
theorem fact_stab {σ:Nm→Nm} {n:Nat} {fs:List (Env→World→Prop)} {φ:Env→World→Prop} (h:φ∈fs) (hs:FStab σ n φ):FactLe σ n fs φ:=⟨φ,h,hs⟩
structure RenF (σ:Nm→Nm) (S S' : St):Prop where
 nt:S'.nt=S.nt
 facts:FactsLe σ S'.nid S.facts S'.facts
 tmps:TmpsLe (· < S'.nid) σ S.tmps S'.tmps
 own:OwnLe (· < S'.nid) σ S.own S'.own
 arrs:ArrsLe (· < S'.nid) σ S.arrs S'.arrs
 inj:InjN σ S'.own
theorem le_nmF {C:Ctx} {S S' : St} (σ:Nm→Nm) (h:RenF σ S S'):Le C S S':=by
 intro E a w hs
 refine ⟨E.via σ,fun x=>hs.1 _,fun E2 hE2 ho2=>?_⟩
 have hs:=hs.sat
 have hR:∀ x:Nm,x.1<S'.nid→SameR σ E E2 x:=fun x hx=>hE2 x hx
 obtain ⟨H,hH,hF⟩:=hs.mem
 have hat:∀ x b',atN S'.own x=some b'→x.1<S'.nid∧∃ b,atN S.own (σ x)=some b∧BlkLe (· < S'.nid) σ b b':=fun x b' hx=>ownLe_at h.own hx
 refine ⟨hs.size.trans h.nt.symm,hs.defers,ho2,?_,hs.frame,fun x=>H (σ x),⟨?_,?_,?_⟩,?_⟩
 ·intro t v ht
  obtain ⟨h1,h2⟩:=tmpsLe_at h.tmps ht
  obtain ⟨g1,g2⟩:=hs.tmps t _ h1
  exact ⟨by rw [h.nt];exact g1,by rw [g2,sv_ren hR v h2]⟩
 ·intro x b' hx
  obtain ⟨h1,b,h2,h3⟩:=hat x b' hx
  exact blk_le hR h1 h3 (hH.den _ _ h2)
 ·intro x y b' c' hx hy hne n
  obtain ⟨_,b,h2,_⟩:=hat x b' hx
  obtain ⟨_,c,g2,_⟩:=hat y c' hy
  exact hH.disj _ _ b c h2 g2 (fun e=>hne (h.inj x y b' c' hx hy e)) n
 ·intro x b' hx n o hn
  obtain ⟨_,b,h2,_⟩:=hat x b' hx
  exact hH.sub _ b h2 n o hn
 ·intro w' hw'
  have hold:=hF w' (fun n hn hfr=>hw' n hn (fun x b' hx=>let ⟨_,b,h2,_⟩:=hat x b' hx;hfr _ b h2))
  refine ⟨fun x A' hA=>?_,fun φ hφ=>let ⟨φ0,h0,h1⟩:=factsLe_mem h.facts φ hφ;h1 E E2 w' hR (hold.2 φ0 h0)⟩
  obtain ⟨h1,A,h2,h3,h4,h5,h6⟩:=arrsLe_at h.arrs hA
  obtain ⟨ba,cap,g1,g2,g3,g4⟩:=hold.1 _ A h2
  refine ⟨ba,cap,by rw [(hR x h1).2.2.2,g1,h3],by omega,g3,?_⟩
  rcases g4 with g4 | ⟨b,off,rfl,gl,g4⟩
  ·exact Or.inl (by omega)
  ·refine Or.inr ⟨b,off,rfl,Nat.le_trans h6 gl,fun k hk=>?_⟩
   obtain ⟨f1,f2⟩:=g4 k (by omega)
   obtain ⟨e1,e2⟩:=h5 k hk
   rw [e1] at f1 f2
   refine ⟨by rw [renL_eq,List.length_map] at f1;omega,fun j u hu=>?_⟩
   have:=f2 j _ (mem_renL hu)
   rw [den_ren hR u (okL_mem e2 hu),← h4]
   exact this
theorem le_renF {C:Ctx} {S S' : St} (τ:Nat→Nat) (h1:S'.nt=S.nt) (h2:FactsLe (idσ τ) S'.nid S.facts S'.facts) (h3:TmpsLe (· < S'.nid) (idσ τ) S.tmps S'.tmps) (h4:OwnLe (· < S'.nid) (idσ τ) S.own S'.own) (h5:ArrsLe (· < S'.nid) (idσ τ) S.arrs S'.arrs) (h6:injL τ (keysL S'.own)=true):Le C S S' :=
 le_nmF (idσ τ) ⟨h1,h2,h3,h4,h5,injN_id h6⟩
theorem factA {τ:Nat→Nat} {n n0:Nat} {E0:Env} {fs:List (Env→World→Prop)} (h:AgF n0 E0∈fs) (hn:n0≤n) (hτ:∀ i,i<n0→τ i=i):FactLe (idσ τ) n fs (AgF n0 E0) :=
 fact_stab h (agF_stab hn fun x hx=>by unfold idσ;rw [hτ _ hx])
def RetB (w:World) (Pre:World→Prop) (nx:Nat) (T:Nat→SV) (A:Nat→List (Nat×Fm ArrF)) (e:Ending) (w' : World):Prop :=
 ∃ v,e = .returned v∧Below w.heap.size w w'∧∀ b,∃ N:Env,OneC N∧∀ E2,AgreeD (NewIds b nx) N E2→v=(T b).den E2 ∧
  ∀ w'' : World,Pre w''→(∀ n,w.heap.size≤n→n<w'.heap.size→w''.heap[n]? = w'.heap[n]?)→∀ x A',atN (A b) x=some A'→ArrAt E2 w'' x A'
def ArrF.lo (l:Nat) (A:ArrF):ArrF:=⟨A.len,A.size,A.at_,l⟩
def loFm (l:Nat):Fm ArrF→Fm ArrF
 | .one A=>.one (A.lo l)
 | .fam n f=>.fam n fun k=>(f k).lo l
 | .fam2 n m f=>.fam2 n m fun k j=>(f k j).lo l
def lowL (l:Nat):List (Nat×Fm ArrF)→List (Nat×Fm ArrF)
 | []=>[]
 | (i,F) :: r=>(i,loFm l F) :: lowL l r
theorem atN_lowL {l:Nat}:∀ {L:List (Nat×Fm ArrF)} {x:Nm} {A' : ArrF},atN (lowL l L) x=some A'→∃ A,atN L x=some A∧A' = A.lo l
 | [],x,A',h=>by simp [lowL,atN,look] at h
 | (i,F) :: r,(j,k,m),A',h=>by
  simp only [lowL,atN,look_cons] at h ⊢
  by_cases e:i=j
  ·subst e
   rw [if_pos rfl] at h
   rw [if_pos rfl]
   cases F with
   | one A =>
    simp only [loFm,Fm.get] at h ⊢
    split at h
    ·next e=>rw [if_pos e];cases h;exact ⟨_,rfl,rfl⟩
    ·cases h
   | fam n f =>
    simp only [loFm,Fm.get] at h ⊢
    split at h
    ·next e=>rw [if_pos e];cases h;exact ⟨_,rfl,rfl⟩
    ·cases h
   | fam2 n g f =>
    simp only [loFm,Fm.get] at h ⊢
    split at h
    ·next e=>rw [if_pos e];cases h;exact ⟨_,rfl,rfl⟩
    ·cases h
  ·rw [if_neg e] at h
   rw [if_neg e]
   exact atN_lowL (L:=r) (x:=(j,k,m)) h
theorem arrAt_low {E:Env} {w w' : World} {x:Nm} {A:ArrF} {B l:Nat} (hl:l≤B) (hs:0<A.size) (h:∀ w'' : World,(∀ n,B≤n→n<w'.heap.size→w''.heap[n]? = w'.heap[n]?)→ArrAt E w'' x A) :
  ∀ w'' : World,(∀ n,B≤n→n<w'.heap.size→w''.heap[n]? = w'.heap[n]?)→ArrAt E w'' x (A.lo l):=fun w'' hw''=>by
 obtain ⟨ba,cap,h1,h2,h3,h4⟩:=h w'' hw''
 refine ⟨ba,cap,h1,h2,h3,?_⟩
 rcases h4 with h4 | ⟨b,off,rfl,_,h4⟩
 ·exact Or.inl h4
 by_cases h0:A.len=0
 ·exact Or.inl h0
 refine Or.inr ⟨b,off,rfl,Nat.le_trans hl (Nat.le_of_not_lt fun hb=>?_),h4⟩
 have hw3:∀ n,(w'.heap.mapIdx fun i o=>if i<B then Obj.map #[] 0 else o)[n]? = (w'.heap[n]?).map fun o=>if n<B then Obj.map #[] 0 else o:=fun n=>by
  rw [Array.getElem?_mapIdx]
 obtain ⟨ba',cap',g1,g2,g3,g4⟩:=h { w' with heap:=w'.heap.mapIdx fun i o=>if i<B then Obj.map #[] 0 else o } fun n hn hlt=>by
  show (w'.heap.mapIdx fun i o=>if i<B then Obj.map #[] 0 else o)[n]? = _
  rw [hw3]
  simp [Nat.not_lt_of_le hn]
 rw [h1] at g1
 simp only [Value.slice.injEq] at g1
 obtain ⟨rfl,_,rfl⟩:=g1
 rcases g4 with g4 | ⟨b',off',e,_,g4⟩
 ·exact h0 g4
 simp only [Option.some.injEq,Addr.mk.injEq] at e
 obtain ⟨rfl,rfl,_⟩:=e
 obtain ⟨f1,f2⟩:=g4 0 (by omega)
 have hu:(A.at_ 0)[0]? = some ((A.at_ 0)[0]'(by omega)):=List.getElem?_eq_getElem (by omega)
 have h5:=(f2 0 _ hu).1
 unfold World.cell? at h5
 simp only [hw3,if_pos hb] at h5
 cases hh:w'.heap[b]? with
 | none=>rw [hh] at h5;simp at h5
 | some o=>rw [hh] at h5;simp at h5
theorem RetB.low {w w' : World} {nx:Nat} {T:Nat→SV} {A:Nat→List (Nat×Fm ArrF)} {e:Ending} {l:Nat} (hl:l≤w.heap.size) (hs:∀ b x A',atN (A b) x=some A'→0<A'.size) (h:RetB w (fun _=>True) nx T A e w'):RetB w (fun _=>True) nx T (fun b=>lowL l (A b)) e w':=by
 obtain ⟨v,rfl,hb,h⟩:=h
 refine ⟨v,rfl,hb,fun b=>?_⟩
 obtain ⟨N,h1,h2⟩:=h b
 refine ⟨N,h1,fun E2 hE=>?_⟩
 obtain ⟨h3,h4⟩:=h2 E2 hE
 refine ⟨h3,fun w'' _ hw'' x A' hx=>?_⟩
 obtain ⟨A0,h5,rfl⟩:=atN_lowL hx
 exact arrAt_low (w:=w') hl (hs b x A0 h5) (fun w3 hw3=>h4 w3 trivial hw3 x A0 h5) w'' hw''
end Go.Proofs.Ytmcpdafmkkjlcaa.Z
namespace Go.Proofs.Ytmcpdafmkkjlcaa
open Go.RowKit
structure ElemI (P:Program) (e:TypeId) (size bytes:Nat) (z:Value):Prop where
 ex:∃ i,P.info? e=some i∧i.zero=some z∧i.size=size∧i.bytes=bytes
 zs:z.cells.size=size
 z1:∀ u∈z.cells.toList,u.oneCell' = true
 pos:0<size
theorem ElemI.sizeOf {P:Program} {e:TypeId} {size bytes:Nat} {z:Value} (I:ElemI P e size bytes z) (w:World):(Go.sizeOf e).run P w = .ok size w:=by
 obtain ⟨i0,hi,_,hs,_⟩:=I.ex
 simp [Go.sizeOf,typeInfo,hi,hs]
theorem run_append_rowS {P:Program} (w:World) {t ty e:TypeId} {size bytes:Nat} {z:Value} (I:ElemI P e size bytes z) (ht:P.underlying t=some (.slice e))
  (g o n cap:Nat) (a:Addr) (m c:Nat) (cur:List Value) (tt:TypeId) (cs:List Value)
  (hg:w.heap[g]? = some (.cells cur.toArray tt (0,0))) (hn:cs.length=m * size) (hroom:n+m≤cap)
  (hsrc:∀ j v,cs[j]? = some v→w.cell? (a.add j)=some v) (hfit:o+n * size+cs.length≤cur.length) (h1:∀ v∈cs,v.oneCell' = true) :
  (Builtin.append_ #[t,t] ty #[.slice (some ⟨g,o,none⟩) n cap,.slice (some a) m c]).run P w =
   .ok (.slice (some ⟨g,o,none⟩) (n+m) cap) (w.setRow g (splice cur (o+n * size) cs).toArray):=by
 obtain ⟨i,hi,_,hs,_⟩:=I.ex
 subst hs
 have hfc:=run_firstCells_some (P:=P) w i.size m a m c cs hn hsrc
 have hst:=run_storeCells_at P g (o+n * i.size) tt cs 0 cur.toArray w hg (by simpa using hfit) h1
 simp only [Nat.add_zero] at hst
 simp [Builtin.append_,run_underlying ht,sizeOf,typeInfo,hi,Builtin.lenOf,hroom,hfc,Addr.add_lit,hst,splice]
theorem step_append_rowS {P:Program} {w:World} {ops:Array Oper} {o:Oper} {a:Act} {K:Act→World→Prop} {Q:Exit→Act→World→Prop} {F:Prop} (hgd:o.guard=none) (d s:Operand) (dT:TypeId)
  (ho:o.op = .call { callee:=.builtin .append,args:=#[d,s],argTypes:=#[dT,dT] }) {e:TypeId} {size bytes:Nat} {z:Value} (I:ElemI P e size bytes z) (hu:P.underlying dT=some (.slice e))
  {g off n cap:Nat} {ad:Addr} {m c:Nat} (hd:a.eval d = .slice (some ⟨g,off,none⟩) n cap) (hs:a.eval s = .slice (some ad) m c)
  {cur:List Value} {t:TypeId} (hg:w.heap[g]? = some (.cells cur.toArray t (0,0))) (cs:List Value) (hn:cs.length=m * size) (hroom:n+m≤cap)
  (hsrc:∀ j v,cs[j]? = some v→w.cell? (ad.add j)=some v) (hfit:off+n * size+cs.length≤cur.length) (h1:∀ v∈cs,v.oneCell' = true)
  (h:∀ w',w' = w.setRow g (splice cur (off+n * size) cs).toArray→K (a.put o.dst (.slice (some ⟨g,off,none⟩) (n+m) cap)) w') :
  if Region.wanted o (yielded ops a.tmps)=true then Oper.wp P o a w K Q else F:=by
 have hw:Region.wanted o (yielded ops a.tmps)=true:=by simp [Region.wanted,hgd]
 rw [if_pos hw]
 have hr:=run_append_rowS (P:=P) w (ty:=o.type) I hu g off n cap ad m c cur t cs hg hn hroom hsrc hfit h1
 unfold Oper.wp execOp
 simp only [ho,resolve,invoke,builtin,Sem.run_bind,Sem.run_pure,Result.andThen_ok,List.map_toArray,List.map_cons,List.map_nil,hs,hd,hr]
 exact h _ rfl
theorem mem_zeroCells {z:Array Value} {n:Nat} {u:Value} (h:u∈(Builtin.zeroCells z n).toList):u∈z.toList:=by
  simp only [Builtin.zeroCells] at h
  simp only [Array.toList_map,Array.toList_range,List.mem_map,List.mem_range] at h
  obtain ⟨a,ha,rfl⟩:=h
  have h0 : 0 < z.size := by rcases Nat.eq_zero_or_pos z.size with h | h;· rw [h] at ha;omega
                             · exact h
  have h1:a % z.size<z.size:=Nat.mod_lt _ h0
  simp [getElem!_pos,h1]
theorem run_clear_rowS {P:Program} (w:World) {t ty e:TypeId} {size bytes:Nat} {z:Value} (I:ElemI P e size bytes z) (ht:P.underlying t=some (.slice e))
  (g o n c:Nat) (cur:List Value) (tt:TypeId)
  (hg:w.heap[g]? = some (.cells cur.toArray tt (0,0))) (hn:n≠0) (hfit:o+n * size≤cur.length) :
  ∃ cs:List Value,cs.length=n * size∧(Builtin.clear_ #[t] ty #[.slice (some ⟨g,o,none⟩) n c]).run P w =
   .ok (.tuple #[]) (w.setRow g (splice cur o cs).toArray):=by
 obtain ⟨i,hi,hz,hs,_⟩:=I.ex
 subst hs
 refine ⟨(Builtin.zeroCells z.cells n).toList,by rw [Array.length_toList,size_zeroCells,I.zs],?_⟩
 have hst:=run_storeCells_at P g o tt (Builtin.zeroCells z.cells n).toList 0 cur.toArray w hg (by rw [Array.length_toList,size_zeroCells,I.zs];simpa using hfit) (by
  intro u hu
  exact I.z1 u (mem_zeroCells hu))
 have hv:(zeroValue e).run P w = .ok z w:=by simp [zeroValue,typeInfo,hi,hz]
 obtain ⟨k,rfl⟩:∃ k,n=k+1:=⟨n - 1,by omega⟩
 simp [Builtin.clear_,run_underlying ht,hv,hst,splice]
theorem wpList_clear_rowS {P:Program} {w:World} {ops:Array Oper} {rest:List Oper} {o:Oper} {a:Act} {Q:Exit→Act→World→Prop} (hgd:o.guard=none) (d:Operand) (dT:TypeId)
  (ho:o.op = .call { callee:=.builtin .clear,args:=#[d],argTypes:=#[dT] }) {e:TypeId} {size bytes:Nat} {z:Value} (I:ElemI P e size bytes z) (hu:P.underlying dT=some (.slice e))
  {g off n c:Nat} (hd:a.eval d = .slice (some ⟨g,off,none⟩) n c) {cur:List Value} {t:TypeId} (hg:w.heap[g]? = some (.cells cur.toArray t (0,0))) (hn:n≠0) (hfit:off+n * size≤cur.length)
  (h:∀ w' cs,cs.length=n * size→w' = w.setRow g (splice cur off cs).toArray→wpList P ops Q rest (a.put o.dst (.tuple #[])) w'):wpList P ops Q (o :: rest) a w:=by
 obtain ⟨cs,hcs,hr⟩:=run_clear_rowS (P:=P) w (ty:=o.type) I hu g off n c cur t hg hn hfit
 refine wpList_plain hgd fun K hK=>?_
 unfold Oper.wp execOp
 simp only [ho,resolve,invoke,builtin,Sem.run_bind,Sem.run_pure,Result.andThen_ok,List.map_toArray,List.map_cons,List.map_nil,hd,hr]
 exact hK _ _ (h _ cs hcs rfl)
end Go.Proofs.Ytmcpdafmkkjlcaa
namespace Go.Proofs.Ytmcpdafmkkjlcaa.Z
open Go Go.RowKit
section
variable {B:Nat} {W:Nat→Prop} {E:Env} {S:St} {w w1:World}
theorem fits_same {i:Nat} {b:Blk} (h:look S.own i=some (.one b)):Fits B W E S w w [(i,.one b)] []:=by
 have hat:∀ x c,atN [(i,Fm.one b)] x=some c→atN S.own x=some c:=by
  intro x c hx
  rcases atN_one hx with ⟨rfl,rfl⟩ | hx
  ·simp [atN,h,Fm.get]
  ·exact (atN_nil hx).elim
 refine ⟨fun H hH=>⟨rfl,rfl,rfl,Nat.le_refl _,fun _ _ _=>rfl,H,fun x c hx=>hH.den x c (hat x c hx),fun x y b c hx hy hne=>hH.disj x y b c (hat x b hx) (hat y c hy) hne,fun x c hx n o hn=>⟨(hH.sub x c (hat x c hx) n o hn).1,Or.inr ⟨x,c,?_,hat x c hx,by rw [hn];simp⟩⟩⟩,fun _ _ x A h=>by simp [atN,look] at h⟩
 rcases atN_one hx with ⟨rfl,rfl⟩ | hx
 ·simp [look]
 ·exact (atN_nil hx).elim
theorem fits_blk {o ob:Obj} {b b' : Blk} {i g:Nat} (h:look S.own i=some (.one b)) (hown:∀ H,HeapOk B W E S.own H w→H (i,0,0)=sing g ob) (hb:b'.den E (i,0,0) (sing g o)) (h0:w1.os=w.os∧w1.tape=w.tape∧w1.output=w.output) (hsz:w.heap.size≤w1.heap.size)
  (hw:∀ n,n<w.heap.size→w1.heap[n]? = if n=g then some o else w.heap[n]?):Fits B W E S w w1 [(i,.one b')] []:=by
 have hat:atN S.own (i,0,0)=some b:=by simp [atN,h,Fm.get]
 have hone:∀ x c,atN [(i,Fm.one b')] x=some c→x=(i,0,0)∧c=b':=by
  intro x c hx
  rcases atN_one hx with hx | hx
  ·exact hx
  ·exact (atN_nil hx).elim
 refine ⟨fun H hH=>⟨h0.1,h0.2.1,h0.2.2,hsz,fun n hn hk=>?_,fun _=>sing g o,?_,?_,?_⟩,fun _ _ x A h=>by simp [atN,look] at h⟩
 ·rw [hw n hn]
  split
  ·next e =>
   have:=hk (i,0,0) b (by simp [look]) hat
   rw [hown H hH,e] at this
   simp [sing] at this
  ·rfl
 ·intro x c hx
  obtain ⟨rfl,rfl⟩:=hone x c hx
  exact hb
 ·intro x y c d hx hy hne
  obtain ⟨rfl,_⟩:=hone x c hx
  obtain ⟨rfl,_⟩:=hone y d hy
  exact absurd rfl hne
 ·intro x c hx n o' hn
  obtain ⟨rfl,rfl⟩:=hone x c hx
  obtain ⟨rfl,rfl⟩:=sing_some hn
  have hs:(H (i,0,0)) n=some ob:=by rw [hown H hH];simp [sing]
  have hlt:=hH.lt hat hs
  refine ⟨by rw [hw _ hlt,if_pos rfl],Or.inr ⟨(i,0,0),b,by simp [look],hat,by rw [hs];simp⟩⟩
end
end Go.Proofs.Ytmcpdafmkkjlcaa.Z
namespace Go.Proofs.Ytmcpdafmkkjlcaa.Z
open Go Go.RowKit
theorem getD_att {α:Type} {ys:List α} {d:α} {j:Nat} (hj:j<ys.length) [Inhabited {x:α // x∈ys}]:(ys.attach.toArray[j]!).1=ys.getD j d:=by
 rw [getElem!_pos _ j (by simpa using hj)]
 simp [List.getD_eq_getElem?_getD,List.getElem?_eq_getElem hj]
theorem cr_sortK {C:Ctx} {S:St} {ρ:Go.Shelf.Ren} (L:SlLaysF0.n6 C.P ρ) {α:Type} {i ty g k:Nat} {cap:Option Nat} {cl:List SC} {ys zs:List α} (d:α) (es:α→List SC) (K:α→α→Int) (hk0:0<k)
  (aE:∀ w,(isAgg (ρ.t 24)).run C.P w = .ok true w) (zE:∀ w,(Go.sizeOf (ρ.t 24)).run C.P w = .ok k w)
  (hown:look S.own i=some (.one (.ar ys.length k (fun e=>es (ys.getD e d)) ty))) (hlen:ys.length<4611686018427387904)
  (eg:∀ args w,(callFunc g args).run C.P w = .ok (.enter g args) w)
  (hO:Go.Sort.SWO (ltOf fun x y:{x:α // x∈ys}=>K x.1 y.1))
  (hz:∀ l:List α,l.Perm ys→l.Pairwise (fun a b=>¬ K b a<0)→l=zs)
  (hc:∀ E a w,Sat C.B C.W C.w0 E S a w→∀ W:World,(∀ n,n<w.heap.size→n≠E.ρ (i,0,0)→W.heap[n]? = w.heap[n]?)→∀ x∈ys,∀ y∈ys,
   Calls C.P g (#[.agg ((es x).map (SC.den E)).toArray,.agg ((es y).map (SC.den E)).toArray]++(SC.denL E cl).toArray) W fun e w'=>e = .returned (.int .i64 (K x y))∧∃ q os,w' = Go.Sort.grow (W.drewN q) os) :
  CR C (ρ.f 6) [.c (.sl (i,0,0) k 0 ys.length cap),.c (.fn (.func g) [] cl)] S [i] (.tup []) 0 [(i,.one (.ar ys.length k (fun e=>es (zs.getD e d)) ty))] []:=by
 intro E a w hs
 obtain ⟨H,hH,_⟩:=hs.mem
 have hat:atN S.own (i,0,0)=some (.ar ys.length k (fun e=>es (ys.getD e d)) ty):=by simp [atN,hown,Fm.get]
 have hd:=hH.den _ _ hat
 by_cases hy:ys=[]
 ·subst hy
  obtain rfl:[]=zs:=hz [] (List.Perm.refl _) List.Pairwise.nil
  refine Calls.mono (AnyF.slices_SortFunc_none (ρ:=ρ) L _ _ _ w) ?_
  rintro e w' ⟨rfl,rfl⟩
  exact ⟨_,rfl,E,hs.one,fun E2 h2 hk _=>⟨rfl,(fits_same hown).G⟩⟩
 simp only [Blk.den] at hd
 rcases hd with ⟨_,_,h0,_⟩ | ⟨hν,hn,hκ,cells,hHx,hcs,hcells⟩
 ·exact absurd (List.eq_nil_of_length_eq_zero h0) hy
 have hlt0:0<ys.length:=List.length_pos_iff.2 hy
 obtain ⟨hw0,_⟩:=hH.sub _ _ hat (E.ρ (i,0,0)) (.cells cells ty (0,0)) (by rw [hHx];simp [sing])
 have hblk:E.ρ (i,0,0)<w.heap.size:=hH.lt hat (o:=.cells cells ty (0,0)) (by rw [hHx];simp [sing])
 letI:Inhabited {x:α // x∈ys}:=⟨⟨ys.head hy,List.head_mem hy⟩⟩
 have hsz:ys.attach.toArray.size=ys.length:=by simp
 have hget:∀ j,j<ys.length→(ys.attach.toArray[j]!).1=ys.getD j d:=fun j hj=>getD_att hj
 have hkl:∀ x:{x:α // x∈ys},((es x.1).map (SC.den E)).length=k:=fun x=>by
  obtain ⟨j,hj,e⟩:=List.getElem_of_mem x.2
  have:=(hcells j hj).1
  rw [List.getD_eq_getElem?_getD,List.getElem?_eq_getElem hj,Option.getD_some,e] at this
  rw [List.length_map,this]
 have h1:∀ x:{x:α // x∈ys},∀ v∈(es x.1).map (SC.den E),v.oneCell' = true:=fun x v hv=>by
  obtain ⟨j,hj,e⟩:=List.getElem_of_mem x.2
  obtain ⟨u,hu,rfl⟩:=List.mem_map.1 hv
  obtain ⟨q,hq,rfl⟩:=List.getElem_of_mem hu
  refine ((hcells j hj).2 q _ ?_).2
  rw [List.getD_eq_getElem?_getD,List.getElem?_eq_getElem hj,Option.getD_some,e]
  exact List.getElem?_eq_getElem hq
 have hcell:∀ t,t<ys.length * k→cells[t]? = some (((es (ys.getD (t / k) d)).map (SC.den E))[t % k]!):=fun t ht=>by
  have hq:t / k<ys.length:=Nat.div_lt_of_lt_mul (by rw [Nat.mul_comm];exact ht)
  obtain ⟨g1,g2⟩:=hcells (t / k) hq
  have hr:t % k<(es (ys.getD (t / k) d)).length:=by rw [g1];exact Nat.mod_lt _ hk0
  have:=(g2 (t % k) _ (List.getElem?_eq_getElem hr)).1
  rw [show t / k * k+t % k=t from Nat.div_add_mod' t k] at this
  rw [this,getElem!_pos _ _ (by rw [List.length_map];exact hr),List.getElem_map]
 have hHolds:Go.Sort.HoldsK (fun x:{x:α // x∈ys}=>(es x.1).map (SC.den E)) k w (E.ρ (i,0,0)) 0 ys.attach.toArray:=by
  intro t ht
  rw [Go.Sort.size_flatK,hsz] at ht
  have hq:t / k<ys.length:=Nat.div_lt_of_lt_mul (by rw [Nat.mul_comm];exact ht)
  refine ⟨?_,?_⟩
  ·rw [Go.Sort.get_flatK _ _ _ _ (by rw [hsz];exact ht)]
   unfold World.cell?
   simp only [hw0,Nat.zero_add]
   rw [hcell t ht,hget _ hq]
   simp
  ·unfold World.frozen?
   simp [hw0]
 have hcmp:CmpLays C.P g (SC.denL E cl).toArray (fun x:{x:α // x∈ys}=>(es x.1).map (SC.den E)) k (fun x y=>K x.1 y.1) (E.ρ (i,0,0)) 0 ys.attach.toArray.size w:=by
  intro m os dk hdk x y
  refine (hc E a w hs _ (fun n hn hne=>?_) x.1 x.2 y.1 y.2)
  show ((w.heap.modify _ _)++os)[n]? = _
  rw [Array.getElem?_append_left (by simpa using hn),Array.getElem?_modify,if_neg (Ne.symm hne)]
 have hcon:=AnyQ.slices_SortFunc L k aE zE (fun x:{x:α // x∈ys}=>(es x.1).map (SC.den E)) hkl h1 (fun x y=>K x.1 y.1) hO g (SC.denL E cl).toArray (E.ρ (i,0,0)) 0 (cap.getD (E.κ (i,0,0) - 0)) ys.attach.toArray w eg hcmp hHolds hblk (by rw [hsz];exact hlen)
 have hargs:([SV.c (.sl (i,0,0) k 0 ys.length cap),.c (.fn (.func g) [] cl)].map (SV.den E)).toArray = #[.slice (some ⟨E.ρ (i,0,0),0,none⟩) ys.attach.toArray.size (cap.getD (E.κ (i,0,0) - 0)),.func (.func g) #[] (SC.denL E cl).toArray]:=by
  simp [SV.den,SC.den,SC.denL,hν]
 rw [hargs]
 refine hcon.mono ?_
 rintro e w' ⟨rfl,d',m,os,hp,hso,rfl⟩
 obtain ⟨hp1,_,hp3⟩:=hp
 rw [hsz] at hp1
 have hl:d'.toList.map (·.1)=zs:=by
  refine hz _ ?_ ?_
  ·have e1:d'.extract 0 ys.attach.toArray.size=d':=by rw [hsz,← hp1];exact Array.extract_size
   rw [e1,Array.extract_size] at hp3
   have:=hp3.map (·.1)
   simpa using this
  ·rw [List.pairwise_map,List.pairwise_iff_getElem]
   intro a b ha hb hab
   simp only [Array.length_toList] at ha hb
   have:=hso a b (Nat.zero_le _) hab (by rw [hsz];omega)
   rw [getElem!_pos d' a ha,getElem!_pos d' b hb] at this
   simp only [ltOf,decide_eq_false_iff_not] at this
   simpa only [Array.getElem_toList] using this
 have hzl:zs.length=ys.length:=by rw [← hl];simp [hp1]
 have hdz:∀ j,j<ys.length→(d'[j]!).1=zs.getD j d:=fun j hj=>by
  have hj2:j<d'.size:=by omega
  rw [← hl,getElem!_pos d' j hj2]
  simp [List.getD_eq_getElem?_getD,hj2]
 refine ⟨_,rfl,E,hs.one,fun E2 h2 hk _=>⟨rfl,?_⟩⟩
 obtain ⟨k1,k2,k3,k4⟩:=hk (i,0,0) (by simp)
 obtain ⟨H3,hH3,_⟩:=h2.mem
 have hd3:=hH3.den _ _ hat
 simp only [Blk.den] at hd3
 rcases hd3 with ⟨_,_,h0,_⟩ | ⟨_,_,_,cells3,hHx3,_,hcells3⟩
 ·omega
 obtain ⟨hw3,_⟩:=hH3.sub _ _ hat (E2.ρ (i,0,0)) (.cells cells3 ty (0,0)) (by rw [hHx3];simp [sing])
 rw [k1,hw0] at hw3
 cases hw3
 have hsame:∀ x∈ys,∀ u∈es x,u.den E2=u.den E:=fun x hx u hu=>by
  obtain ⟨j,hj,e⟩:=List.getElem_of_mem hx
  obtain ⟨q,hq,rfl⟩:=List.getElem_of_mem hu
  have e' : ys.getD j d=x:=by rw [List.getD_eq_getElem?_getD,List.getElem?_eq_getElem hj,Option.getD_some,e]
  have g1:=((hcells j hj).2 q ((es x)[q]) (by rw [e'];exact List.getElem?_eq_getElem hq)).1
  have g2:=((hcells3 j hj).2 q ((es x)[q]) (by rw [e'];exact List.getElem?_eq_getElem hq)).1
  rw [g1] at g2
  exact (Option.some.inj g2).symm
 refine Fits.G (B:=C.B) (W:=C.W) (E:=E2) (S:=S) (w:=w) (fits_blk (g:=E.ρ (i,0,0)) (ob:=.cells cells ty (0,0)) (o:=.cells (Go.Sort.putCells id 0 (Go.Sort.flatK (fun x:{x:α // x∈ys}=>(es x.1).map (SC.den E)) k d') cells) ty (0,0)) hown (fun H2 hH2=>?_) ?_ ⟨rfl,rfl,rfl⟩ ?_ ?_)
 ·have hd2:=hH2.den _ _ hat
  simp only [Blk.den] at hd2
  rcases hd2 with ⟨_,_,h0,_⟩ | ⟨_,_,_,cells2,hHx2,_,_⟩
  ·omega
  ·obtain ⟨hw2,_⟩:=hH2.sub _ _ hat (E2.ρ (i,0,0)) (.cells cells2 ty (0,0)) (by rw [hHx2];simp [sing])
   rw [k1,hw0] at hw2
   cases hw2
   rw [hHx2,k1]
 ·simp only [Blk.den]
  refine Or.inr ⟨by rw [k3];exact hν,by rw [k2];exact hn,by rw [k2];exact hκ,_,by rw [k1],?_,fun e he=>?_⟩
  ·rw [k2]
   simpa [Go.Sort.putCells] using hcs
  ·have hm:zs.getD e d∈ys:=by rw [← hdz e he];exact (d'[e]!).2
   have hkl':=hkl ⟨_,hm⟩
   simp only [List.length_map] at hkl'
   refine ⟨hkl',fun j u hj=>?_⟩
   have hjl:=(List.getElem?_eq_some_iff.1 hj).1
   have hum:u∈es (zs.getD e d):=List.mem_of_getElem? hj
   rw [hsame _ hm u hum]
   have ht:e * k+j<ys.length * k:=by
    have:(e+1) * k≤ys.length * k:=Nat.mul_le_mul_right k (by omega)
    rw [Nat.add_mul] at this
    omega
   refine ⟨?_,h1 ⟨_,hm⟩ _ (List.mem_map_of_mem hum)⟩
   have hq1:(e * k+j) / k=e:=by rw [Nat.mul_comm,Nat.mul_add_div hk0,Nat.div_eq_of_lt (by omega)];rfl
   have hq2:(e * k+j) % k=j:=by rw [Nat.mul_comm,Nat.mul_add_mod,Nat.mod_eq_of_lt (by omega)]
   simp only [Go.Sort.putCells,Array.getElem?_mapIdx,hcell _ ht,Option.map_some,Nat.zero_le,true_and,Nat.zero_add,Go.Sort.size_flatK,hp1,if_pos ht,Nat.sub_zero,id]
   rw [Go.Sort.get_flatK _ _ _ _ (by rw [hp1];exact ht),hq1,hq2,hdz e he,getElem!_pos _ j (by rw [List.length_map];exact hjl),List.getElem_map]
   rw [List.getElem?_eq_getElem hjl] at hj
   rw [Option.some.inj hj]
 ·show _≤((w.heap.modify _ _)++os).size
  simp
 ·intro n hn
  show ((w.heap.modify _ _)++os)[n]? = _
  rw [Array.getElem?_append_left (by simpa using hn),Array.getElem?_modify]
  by_cases e:n=E.ρ (i,0,0)
  ·subst e
   simp [hw0,Go.Sort.onCells]
  ·rw [if_neg (Ne.symm e),if_neg e]
end Go.Proofs.Ytmcpdafmkkjlcaa.Z
namespace Go.Proofs.Ytmcpdafmkkjlcaa
open Go.RowKit
section
variable {H:Type} {enc:TypeId×Value→H} {P:Program} {w:World} {base:Nat} {spare:Nat→Bool} {held:Bool}
def leavesFields (L:TypeId→Option (List TypeId)) (P:Program):List Field→Nat→Option (List TypeId)
 | [],_=>some []
 | f :: r,off=>if f.offset=off then (L f.type).bind fun l=>if l.length=P.cellsOf f.type then (leavesFields L P r (off+l.length)).map (l++·) else none else none
def leavesIn (P:Program):Nat→TypeId→Option (List TypeId)
 | 0,_=>none
 | n+1,t=>match P.underlying t with
  | some (.struct fs)=>leavesFields (leavesIn P n) P fs.toList 0
  | some (.array k e)=>(leavesIn P n e).bind fun l=>if l.length=P.cellsOf e then some (List.replicate k l).flatten else none
  | some _=>some [t]
  | none=>none
theorem trod_one {t:TypeId} {fuel:Nat} {cs:List Value} {x:DataW H×List MemPlace} {d:TypeDesc} (hu:P.underlying t=some d) (hs:∀ fs,d≠.struct fs) (ha:∀ n e,d≠.array n e)
  (h:DataW.trod enc P w base spare held fuel t cs=some x):∃ c,cs=[c]:=by
 cases fuel with
 | zero=>simp [DataW.trod] at h
 | succ n =>
  rcases cs with _ | ⟨c,_ | ⟨c2,r⟩⟩
  ·exfalso
   cases d <;> first | exact hs _ rfl | exact ha _ _ rfl | simp [DataW.trod,hu] at h
  ·exact ⟨c,rfl⟩
  ·exfalso
   cases d <;> first | exact hs _ rfl | exact ha _ _ rfl | simp [DataW.trod,hu] at h
def LeafAt (enc:TypeId×Value→H) (P:Program) (w:World) (base:Nat) (spare:Nat→Bool) (held:Bool) (bound:Nat) (ws:List Nat) (u:TypeId) (c:Value):Prop :=
 ∃ m y,DataW.trod enc P w base spare held m u [c]=some y∧Rows.uptoBulk y.1≤bound∧∀ k∈y.1.weights P u,k∈ws
theorem bulk_mem {d:DataW H} {l:List (DataW H)} (h:d∈l):Rows.uptoBulk d≤Rows.uptoBulkAll l:=by
 induction l with
 | nil=>cases h
 | cons x r ih =>
  simp only [Rows.uptoBulkAll]
  cases List.mem_cons.1 h with
  | inl e=>subst e;omega
  | inr e=>have:=ih e;omega
theorem one_le_bulk (d:DataW H):1≤Rows.uptoBulk d:=by
 cases d with
 | lit l=>cases l <;> simp [Rows.uptoBulk]
 | nil=>simp [Rows.uptoBulk]
 | ptr d=>simp [Rows.uptoBulk]
 | slice elems spare=>simp [Rows.uptoBulk]
 | agg parts=>simp [Rows.uptoBulk]
 | iface t d=>simp [Rows.uptoBulk]
 | map entries=>simp [Rows.uptoBulk]
 | held h=>simp [Rows.uptoBulk]
theorem length_le_bulk (l:List (DataW H)):l.length≤Rows.uptoBulkAll l:=by
 induction l with
 | nil=>simp [Rows.uptoBulkAll]
 | cons x r ih=>have:=one_le_bulk x;simp only [Rows.uptoBulkAll,List.length_cons];omega
theorem weightsEach_mem {ts:List TypeId} {ds:List (DataW H)} {i:Nat} {t:TypeId} {d:DataW H} (ht:ts[i]? = some t) (hd:ds[i]? = some d):∀ k∈d.weights P t,k∈DataW.weightsEach P ts ds:=by
 intro k hk
 induction ts generalizing ds i with
 | nil=>simp at ht
 | cons t0 ts ih =>
  cases ds with
  | nil=>simp at hd
  | cons d0 ds =>
   simp only [DataW.weightsEach,List.mem_append]
   cases i with
   | zero=>simp at ht hd;subst ht;subst hd;exact Or.inl hk
   | succ i=>exact Or.inr (ih (by simpa using ht) (by simpa using hd))
theorem weightsAll_mem {e:TypeId} {ds:List (DataW H)} {d:DataW H} (hd:d∈ds):∀ k∈d.weights P e,k∈DataW.weightsAll P e ds:=by
 intro k hk
 induction ds with
 | nil=>cases hd
 | cons d0 ds ih =>
  simp only [DataW.weightsAll,List.mem_append]
  cases List.mem_cons.1 hd with
  | inl e=>subst e;exact Or.inl hk
  | inr e=>exact Or.inr (ih e)
theorem LeafAt.mono {b b' : Nat} {ws ws' : List Nat} {u:TypeId} {c:Value} (h:LeafAt enc P w base spare held b ws u c) (hb:b≤b') (hw:∀ k∈ws,k∈ws'):LeafAt enc P w base spare held b' ws' u c:=by
 obtain ⟨m,y,h1,h2,h3⟩:=h
 exact ⟨m,y,h1,by omega,fun k hk=>hw k (h3 k hk)⟩
theorem leavesFields_at {L:TypeId→Option (List TypeId)}:∀ (fs:List Field) (off:Nat) (l:List TypeId),leavesFields L P fs off=some l→∀ i u,l[i]? = some u →
  ∃ (k:Nat) (f:Field) (lf:List TypeId) (j:Nat),fs[k]? = some f∧L f.type=some lf∧lf.length=P.cellsOf f.type∧lf[j]? = some u∧off+i=f.offset+j:=by
 intro fs
 induction fs with
 | nil=>intro off l h i u hi;simp [leavesFields] at h;subst h;simp at hi
 | cons f r ih =>
  intro off l h i u hi
  simp only [leavesFields] at h
  split at h
  ·rename_i ho
   obtain ⟨lf,hlf,h⟩:=Option.bind_eq_some_iff.1 h
   split at h
   ·rename_i hlen
    obtain ⟨l',hl',rfl⟩:=Option.map_eq_some_iff.1 h
    by_cases hlt:i<lf.length
    ·rw [List.getElem?_append_left hlt] at hi
     exact ⟨0,f,lf,i,rfl,hlf,hlen,hi,by omega⟩
    ·rw [List.getElem?_append_right (by omega)] at hi
     obtain ⟨k,f',lf',j,h1,h2,h3,h4,h5⟩:=ih _ _ hl' _ _ hi
     exact ⟨k+1,f',lf',j,by simpa using h1,h2,h3,h4,by omega⟩
   ·cases h
  ·cases h
theorem flatten_rep_at {α:Type}:∀ (k:Nat) (l:List α) (i:Nat) (u:α),(List.replicate k l).flatten[i]? = some u→∃ a j,a<k∧l[j]? = some u∧i=a * l.length+j:=by
 intro k
 induction k with
 | zero=>intro l i u h;simp at h
 | succ k ih =>
  intro l i u h
  rw [List.replicate_succ,List.flatten_cons] at h
  by_cases hlt:i<l.length
  ·rw [List.getElem?_append_left hlt] at h
   exact ⟨0,i,by omega,h,by omega⟩
  ·rw [List.getElem?_append_right (by omega)] at h
   obtain ⟨a,j,h1,h2,h3⟩:=ih l _ u h
   refine ⟨a+1,j,by omega,h2,?_⟩
   rw [Nat.add_mul];omega
theorem leaf_of:∀ (n:Nat) (t:TypeId) (L:List TypeId),leavesIn P n t=some L→∀ (fuel:Nat) (cs:List Value) (x:DataW H×List MemPlace),DataW.trod enc P w base spare held fuel t cs=some x →
  ∀ (i:Nat) (u:TypeId) (c:Value),L[i]? = some u→cs[i]? = some c→LeafAt enc P w base spare held (Rows.uptoBulk x.1) (x.1.weights P t) u c:=by
 intro n
 induction n with
 | zero=>intro t L h;simp [leavesIn] at h
 | succ n ih =>
  intro t L hL fuel cs x hx i u c hi hc
  cases hu:P.underlying t with
  | none=>simp [leavesIn,hu] at hL
  | some d =>
   by_cases hs:∃ fs,d = .struct fs
   ·obtain ⟨fs,rfl⟩:=hs
    simp only [leavesIn,hu] at hL
    obtain ⟨k,f,lf,j,h1,h2,h3,h4,h5⟩:=leavesFields_at _ _ _ hL i u hi
    obtain ⟨xs,n',_,rfl,hlen,hxl,hg⟩:=DataW.trod_struct hu hx
    have h1' : fs[k]? = some f:=by simpa using h1
    have hk:=hg k f h1'
    have hkl:k<xs.length:=by rw [hxl];exact (Array.getElem?_eq_some_iff.1 h1').1
    rw [List.getElem?_eq_getElem hkl] at hk
    have hj:j<lf.length:=(List.getElem?_eq_some_iff.1 h4).1
    have hcj:((cs.drop f.offset).take (P.cellsOf f.type))[j]? = some c:=by
     rw [List.getElem?_take,if_pos (by omega),List.getElem?_drop,← h5,Nat.zero_add];exact hc
    have:=ih f.type lf h2 n' _ _ hk j u c h4 hcj
    have hm:xs[k].1∈xs.map (·.1):=List.mem_map.2 ⟨xs[k],List.getElem_mem hkl,rfl⟩
    refine this.mono ?_ ?_
    ·have:=bulk_mem hm
     simp only [Rows.uptoBulk];omega
    ·intro q hq
     simp only [DataW.weights,hu]
     exact weightsEach_mem (i:=k) (t:=f.type) (d:=xs[k].1) (by rw [List.getElem?_map];rw [h1];rfl) (by rw [List.getElem?_map,List.getElem?_eq_getElem hkl];rfl) q hq
   ·by_cases ha:∃ k e,d = .array k e
    ·obtain ⟨k,e,rfl⟩:=ha
     simp only [leavesIn,hu] at hL
     obtain ⟨l,hl,hL⟩:=Option.bind_eq_some_iff.1 hL
     split at hL
     ·rename_i hlen
      cases hL
      obtain ⟨a,j,h1,h2,h3⟩:=flatten_rep_at _ _ _ _ hi
      obtain ⟨xs,n',_,rfl,_,hxl,hg⟩:=DataW.trod_array hu hx
      have hk:=hg a h1
      have hkl:a<xs.length:=by omega
      rw [List.getElem?_eq_getElem hkl] at hk
      have hj:j<l.length:=(List.getElem?_eq_some_iff.1 h2).1
      have hcj:((cs.drop (a * P.cellsOf e)).take (P.cellsOf e))[j]? = some c:=by
       rw [List.getElem?_take,if_pos (by omega),List.getElem?_drop,← hlen,← h3];exact hc
      have:=ih e l hl n' _ _ hk j u c h2 hcj
      have hm:xs[a].1∈xs.map (·.1):=List.mem_map.2 ⟨xs[a],List.getElem_mem hkl,rfl⟩
      refine this.mono ?_ ?_
      ·have:=bulk_mem hm
       simp only [Rows.uptoBulk];omega
      ·intro q hq
       simp only [DataW.weights,hu]
       exact weightsAll_mem hm q hq
     ·cases hL
    ·have hL' : L=[t]:=by
      simp only [leavesIn,hu] at hL
      cases d <;> first | exact absurd ⟨_,rfl⟩ hs | exact absurd ⟨_,_,rfl⟩ ha | (simpa using hL.symm)
     subst hL'
     obtain ⟨c',rfl⟩:=trod_one hu (fun fs e=>hs ⟨fs,e⟩) (fun k e e'=>ha ⟨k,e,e'⟩) hx
     have hi0:i=0:=by have:=(List.getElem?_eq_some_iff.1 hi).1;simpa using this
     subst hi0
     simp at hi hc
     subst hi;subst hc
     exact ⟨fuel,x,hx,Nat.le_refl _,fun _ h=>h⟩
theorem LeafAt.int {b:Nat} {ws:List Nat} {u:TypeId} {c:Value} {k:IntKind} (hu:P.underlying u=some (.int k)) (h:LeafAt enc P w base spare held b ws u c):∃ n,c = .int k n∧(Lit.int k n).wf=true:=by
 obtain ⟨m,y,h1,_⟩:=h
 obtain ⟨n,hc,_,hw⟩:=DataW.trod_int hu h1
 exact ⟨n,by simpa using hc,hw⟩
theorem LeafAt.bool {b:Nat} {ws:List Nat} {u:TypeId} {c:Value} (hu:P.underlying u=some .bool) (h:LeafAt enc P w base spare held b ws u c):∃ n,c = .bool n:=by
 obtain ⟨m,y,h1,_⟩:=h
 obtain ⟨n,hc,_⟩:=DataW.trod_bool hu h1
 exact ⟨n,by simpa using hc⟩
theorem choose_list {α:Type} {R:Nat→α→Prop}:∀ n,(∀ i,i<n→∃ x,R i x)→∃ xs:List α,xs.length=n∧∀ i x,xs[i]? = some x→R i x:=by
 intro n
 induction n with
 | zero=>intro _;exact ⟨[],rfl,fun i x h=>by simp at h⟩
 | succ n ih =>
  intro h
  obtain ⟨xs,hl,hx⟩:=ih (fun i hi=>h i (by omega))
  obtain ⟨y,hy⟩:=h n (by omega)
  refine ⟨xs++[y],by simp [hl],fun i x hi=>?_⟩
  by_cases hlt:i<xs.length
  ·rw [List.getElem?_append_left hlt] at hi
   exact hx i x hi
  ·rw [List.getElem?_append_right (by omega)] at hi
   have h0:i - xs.length=0:=by have:=(List.getElem?_eq_some_iff.1 hi).1;simp at this;omega
   rw [h0] at hi
   simp at hi
   subst hi
   have:i=n:=by omega
   subst this
   exact hy
theorem LeafAt.slice {α:Type} {b:Nat} {ws:List Nat} {u e:TypeId} {c:Value} (hu:P.underlying u=some (.slice e)) {s:Nat} (hpos:0<s) (hc:P.cellsOf e=s) (encA:α→List Value) (Q:α→Prop)
  (helem:∀ (m:Nat) (cs:List Value) (y:DataW H×List MemPlace),cs.length=s→DataW.trod enc P w base spare held m e cs=some y→∃ x:α,cs=encA x∧Q x)
  (h:LeafAt enc P w base spare held b ws u c):∃ xs:List α,Arr w encA s c xs∧(∀ x∈xs,Q x)∧xs.length+1≤b∧(xs=[]∨∃ k∈ws,xs.length * P.bytesOf e≤k):=by
 obtain ⟨m,y,h1,hb,hw⟩:=h
 rcases DataW.trod_slice hu h1 with ⟨hcs,rfl⟩ | ⟨a,len,cap,elems,rest,n,_,hcs,rfl,hba,hl,hm,hlen,hel,hsp,hns⟩
 ·simp only [List.cons.injEq,and_true] at hcs
  subst hcs
  refine ⟨[],Arr.nil _ _ _,by simp,?_,Or.inl rfl⟩
  simp only [Rows.uptoBulk] at hb
  simpa using hb
 ·simp only [List.cons.injEq,and_true] at hcs
  subst hcs
  have each:∀ i,i<len→∃ x:α,(∃ cs,w.cells? base (a.add (i * s)) s=some cs∧cs=encA x)∧Q x:=by
   intro i hi
   have h2:=hel i hi
   rw [List.getElem?_eq_getElem (by omega),hc] at h2
   obtain ⟨cs,h3,h4⟩:=Option.bind_eq_some_iff.1 h2
   obtain ⟨x,h5,h6⟩:=helem n cs _ (World.cells?_some h3).2.1 h4
   exact ⟨x,⟨cs,h3,h5⟩,h6⟩
  obtain ⟨xs,hxl,hx⟩:=choose_list len each
  refine ⟨xs,?_,?_,?_,?_⟩
  ·refine ⟨some a,cap,by rw [hxl],by omega,hm,?_⟩
   by_cases h0:xs=[]
   ·exact Or.inl h0
   ·right
    by_cases hspot:a.spot=none
    ·obtain ⟨ab,ao,sp⟩:=a
     simp only at hspot
     subst hspot
     refine ⟨ab,ao,rfl,fun k x hk j u hj=>?_⟩
     obtain ⟨⟨cs,h3,rfl⟩,_⟩:=hx k x hk
     obtain ⟨_,hlc,hcell⟩:=World.cells?_some h3
     have hjs:j<s:=by rw [← hlc];exact (List.getElem?_eq_some_iff.1 hj).1
     have h4:=hcell j hjs
     rw [hj] at h4
     rw [← h4]
     congr 1
     unfold Addr.add
     split <;> split <;> simp_all
    ·exfalso
     obtain ⟨x0,hx0⟩:∃ x0,xs[0]? = some x0:=by cases xs with | nil=>exact absurd rfl h0 | cons y _=>exact ⟨y,rfl⟩
     obtain ⟨⟨cs,h3,_⟩,_⟩:=hx 0 x0 hx0
     obtain ⟨_,hlc,hcell⟩:=World.cells?_some h3
     have h4:=hcell 0 hpos
     rw [Nat.zero_mul] at h4
     have e:(a.add 0).add 0=a:=by simp [Addr.add]
     rw [e,List.getElem?_eq_getElem (by omega)] at h4
     unfold World.cell? at h4
     split at h4
     ·cases hs:a.spot with
      | none=>exact hspot hs
      | some q=>rw [hs] at h4;simp at h4
     ·cases h4
  ·intro x hx'
   obtain ⟨i,hi⟩:=List.getElem?_of_mem hx'
   exact (hx i x hi).2
  ·have h2:=length_le_bulk (elems.map (·.1))
   simp only [Rows.uptoBulk,List.length_map] at hb h2
   omega
  ·right
   refine ⟨_,hw (((elems.map (·.1)).length+(rest.map (·.1)).length) * P.bytesOf e) ?_,?_⟩
   ·simp only [DataW.weights,hu]
    exact List.mem_cons_self
   ·rw [hxl,List.length_map,hlen]
    exact Nat.mul_le_mul_right _ (by omega)
end
end Go.Proofs.Ytmcpdafmkkjlcaa
namespace Go.Proofs.Ytmcpdafmkkjlcaa.Z
open Go Go.RowKit
attribute [go_sem] ex_nil ex_skip ex_ops ex_draw ex_seq ex_cond ex_blk ex_loop ex_exit ex_ret ex_mark ex_kill ex_pop ex_onil ex_op ex_opg thenS stepOut St.ev look setL mergeL dropL memB atN pkN setN Fm.get Fm.pk Fm.set St.app St.putT St.skipT St.setB St.kill St.call St.setA St.resS specS specO specC chain chainP inCh resV rsvP resT slot1 slotL pureSlots St.evW resA1 resAP resA gB specD specDO recG pure1 pureO SV.cells SC.one allOne fillP put take' drop' len' nth binI eqCells SC.bool? SC.nil? neg? evs evC popTo resL resP resSV oneSV finS retS dr_nil thenD recOf skipR wrOk wrFree wkImp St.weak thenW recW fimp_mpe newOk outOk St.appN St.hid St.only keepK useO idX idC tchs keyss Rec.tch keysL ltAll enumT slSrc slB slM SV.int? segs keyOf intsOf Value.oneCell' and_self and_true true_and and_false false_and not_true_eq_false not_false_eq_true List.map_cons List.map_nil List.cons_append List.nil_append List.append_nil Option.bind_some Option.bind_none Bool.true_and Bool.and_true Bool.false_and Bool.and_false Bool.not_true Bool.not_false Bool.not_not Bool.true_beq Bool.false_beq Bool.bne_true Bool.bne_false Bool.true_bne Bool.false_bne Option.map_some Option.map_none beq_self_eq_true bne_self_eq_false Bool.false_eq_true Bool.true_eq_false Nat.zero_add Nat.add_zero forall_const implies_true true_implies false_implies Int.cast_ofNat_Int Int.natCast_nonneg Int.ofNat_lt Int.toNat_natCast mkC_rs decide_true decide_false List.length_cons List.length_nil Prod.mk.injEq Option.some.injEq arrOf_len arrOf_size arrOf_at wr_lit wr_litu Nat.sub_zero ex_back mkI_rs
end Go.Proofs.Ytmcpdafmkkjlcaa.Z
namespace Go.Proofs.Ytmcpdafmkkjlcaa.Z
open Go Go.RowKit
theorem ren_ats {α:Type} {σ:Nm→Nm} {enc:α→List Value} {xs:List α} {d:α} {e:Nat}:SC.renL σ (ats enc xs d e)=ats enc xs d e:=renL_v _ _
theorem ok_ats {α:Type} {p:Nat→Prop} {enc:α→List Value} {xs:List α} {d:α} {e:Nat}:SC.okL p (ats enc xs d e):=okL_v _ _
end Go.Proofs.Ytmcpdafmkkjlcaa.Z
namespace Go.Proofs.Ytmcpdafmkkjlcaa.Z
open Go Go.RowKit
structure Ins where
 kind:Int
 reg:Int
 addr:Int
 val:Int
 frm:Int
 old:Int
 cnt:Int
structure Pd where
 addr:Int
 val:Int
structure Tn where
 thr:Int
 out:Bool
 addr:Int
structure R4 where
 a:Int
 b:Int
 c:Int
 d:Int
def in0:Ins:=⟨0,0,0,0,0,0,0⟩
def pd0:Pd:=⟨0,0⟩
def tn0:Tn:=⟨0,false,0⟩
def r40:R4:=⟨0,0,0,0⟩
def Ins.enc (c:Ins):List Value:=[.int .i64 c.kind,.int .i64 c.reg,.int .i64 c.addr,.int .i64 c.val,.int .i64 c.frm,.int .i64 c.old,.int .i64 c.cnt]
def Pd.enc (c:Pd):List Value:=[.int .i64 c.addr,.int .i64 c.val]
def Tn.enc (c:Tn):List Value:=[.int .i64 c.thr,.bool c.out,.int .i64 c.addr]
def R4.enc (c:R4):List Value:=[.int .i64 c.a,.int .i64 c.b,.int .i64 c.c,.int .i64 c.d]
theorem in_ok:EncT Ins.enc 7:=⟨fun _=>rfl,fun x u hu=>by simp [Ins.enc] at hu;rcases hu with rfl | rfl | rfl | rfl | rfl | rfl | rfl <;> rfl⟩
theorem pd_ok:EncT Pd.enc 2:=⟨fun _=>rfl,fun x u hu=>by simp [Pd.enc] at hu;rcases hu with rfl | rfl <;> rfl⟩
theorem r4_ok:EncT R4.enc 4:=⟨fun _=>rfl,fun x u hu=>by simp [R4.enc] at hu;rcases hu with rfl | rfl | rfl | rfl <;> rfl⟩
def R4.get (r:R4) (i:Int):Int:=if i=0 then r.a else if i=1 then r.b else if i=2 then r.c else r.d
def R4.put (r:R4) (i v:Int):R4:=if i=0 then { r with a:=v } else if i=1 then { r with b:=v } else if i=2 then { r with c:=v } else { r with d:=v }
structure Lt where
 words:List Int
 thr:List (List Ins)
structure LS where
 words:List Int
 regs:List R4
 places:List Int
 bufs:List (List Pd)
def fitsB (c:Ins) (n:Nat):Bool:=decide (1≤c.kind∧c.kind≤7∧(c.kind≠2→c.kind≠4→0≤c.reg∧c.reg<4)∧(c.kind≤3→0≤c.addr∧c.addr<n)∧(c.kind=2→-1≤c.frm∧c.frm<4)∧(c.kind=7→0≤c.cnt∧c.cnt≤10))
def codeB (n:Nat) (code:List Ins):Bool:=decide (code.length≤10) && code.all fun c=>fitsB c n
def checkB (L:Lt):Bool:=decide (1≤L.thr.length∧L.thr.length≤4∧1≤L.words.length∧L.words.length≤6) && L.thr.all (codeB L.words.length)
def beginS (L:Lt):LS:=⟨L.words,List.replicate L.thr.length r40,List.replicate L.thr.length 0,List.replicate L.thr.length []⟩
def seeL (v addr:Int):List Pd→Int
 | []=>v
 | p :: l=>seeL (if p.addr=addr then p.val else v) addr l
theorem seeL_app (v addr:Int):∀ (l m:List Pd),seeL v addr (l++m)=seeL (seeL v addr l) addr m
 | [],m=>rfl
 | p :: l,m=>by simp [seeL,seeL_app _ addr l m]
def seeS (s:LS) (k:Nat) (addr:Int):Int:=seeL (s.words.getD addr.toNat 0) addr (s.bufs.getD k [])
def hitB (o addr:Int) (p:Pd):Bool:=o != 3 || decide (p.addr=addr)
def outS (o:Int) (s:LS) (k:Nat) (addr:Int):LS×Bool :=
 if o=1 then (s,false) else
 match (s.bufs.getD k []).findIdx? (hitB o addr) with
 | none=>(s,false)
 | some i=>({ s with words:=s.words.set ((s.bufs.getD k []).getD i pd0).addr.toNat ((s.bufs.getD k []).getD i pd0).val,bufs:=s.bufs.set k ((s.bufs.getD k []).eraseIdx i) },true)
def stepS (o:Int) (s:LS) (k:Nat) (c:Ins):Option (LS×Int) :=
 if c.kind=1 then some ({ s with regs:=s.regs.set k ((s.regs.getD k r40).put c.reg (seeS s k c.addr)) },1)
 else if c.kind=2 then
  (if o=1 then some ({ s with words:=s.words.set c.addr.toNat (if c.frm≥0 then (s.regs.getD k r40).get c.frm else c.val) },1)
  else some ({ s with bufs:=s.bufs.set k (s.bufs.getD k []++[⟨c.addr,if c.frm≥0 then (s.regs.getD k r40).get c.frm else c.val⟩]) },1))
 else if c.kind=3 then
  (if (s.bufs.getD k []).length>0 then none
  else if s.words.getD c.addr.toNat 0=c.old then some ({ s with words:=s.words.set c.addr.toNat c.val,regs:=s.regs.set k ((s.regs.getD k r40).put c.reg 1) },1)
  else some ({ s with regs:=s.regs.set k ((s.regs.getD k r40).put c.reg 0) },1))
 else if c.kind=4 then (if (s.bufs.getD k []).length>0 then none else some (s,1))
 else if c.kind=5 then some ({ s with regs:=s.regs.set k ((s.regs.getD k r40).put c.reg c.val) },1)
 else if c.kind=6 then some ({ s with regs:=s.regs.set k ((s.regs.getD k r40).put c.reg (IntKind.i64.wrap ((s.regs.getD k r40).get c.reg+c.val))) },1)
 else if (s.regs.getD k r40).get c.reg=c.val then some (s,1+c.cnt) else some (s,1)
def turnS (L:Lt) (o:Int) (s:LS) (t:Tn):LS×Bool :=
 if 0≤t.thr∧t.thr<L.thr.length then
  (if t.out=true then outS o s t.thr.toNat t.addr
  else if s.places.getD t.thr.toNat 0=(L.thr.getD t.thr.toNat []).length then (s,false)
  else match stepS o s t.thr.toNat ((L.thr.getD t.thr.toNat []).getD (s.places.getD t.thr.toNat 0).toNat in0) with
   | none=>(s,false)
   | some (s',f)=>({ s' with places:=s'.places.set t.thr.toNat (if ((L.thr.getD t.thr.toNat []).length:Int)<s'.places.getD t.thr.toNat 0+f then ((L.thr.getD t.thr.toNat []).length:Int) else s'.places.getD t.thr.toNat 0+f) },true))
 else (s,false)
end Go.Proofs.Ytmcpdafmkkjlcaa.Z
