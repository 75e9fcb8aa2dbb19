/- WitnessFreshSaid: what its proof is made of. No condition. -/
import Derived.Test.YtkjeedlkkpgopaaPkWitnessFreshAF
set_option linter.unusedSimpArgs false
set_option linter.unusedVariables false
namespace Go.Proofs.Ytkjeedlkkpgopaa.Z
open Go Go.RowKit
mutual
def SC.ren (σ:Nm→Nm):SC→SC
 | .v x=>.v x
 | .bo e=>.bo e
 | .xv x=>.xv (σ x)
 | .ptr x off=>.ptr (σ x) off
 | .sl x s o n c=>.sl (σ x) s o n c
 | .pe x s e j=>.pe (σ x) s e j
 | .xs x s o n c=>.xs (σ x) s o n c
 | .ep x s e j=>.ep (σ x) s e j
 | .mp x=>.mp (σ x)
 | .ifc t c=>.ifc t (SC.ren σ c)
 | .fn f l r=>.fn f (SC.renL σ l) (SC.renL σ r)
def SC.renL (σ:Nm→Nm):List SC→List SC
 | []=>[]
 | c :: r=>SC.ren σ c :: SC.renL σ r
end
def ren1 (σ:Nm→Nm):Bool×List SC→Bool×List SC
 | (b,l)=>(b,SC.renL σ l)
def ren1L (σ:Nm→Nm):List (Bool×List SC)→List (Bool×List SC)
 | []=>[]
 | p :: l=>ren1 σ p :: ren1L σ l
def SV.ren (σ:Nm→Nm):SV→SV
 | .c x=>.c (x.ren σ)
 | .agg l=>.agg (SC.renL σ l)
 | .tup l=>.tup (ren1L σ l)
 | .gd g w e v=>.gd g w e (v.ren σ)
mutual
def SC.okN (p:Nat→Prop):SC→Prop
 | .v _=>True
 | .bo _=>True
 | .xv x=>p x.1
 | .ptr x _=>p x.1
 | .sl x _ _ _ _=>p x.1
 | .pe x _ _ _=>p x.1
 | .xs x _ _ _ _=>p x.1
 | .ep x _ _ _=>p x.1
 | .mp x=>p x.1
 | .ifc _ c=>SC.okN p c
 | .fn _ l r=>SC.okL p l∧SC.okL p r
def SC.okL (p:Nat→Prop):List SC→Prop
 | []=>True
 | c :: r=>SC.okN p c∧SC.okL p r
end
def ok1L (p:Nat→Prop):List (Bool×List SC)→Prop
 | []=>True
 | q :: l=>SC.okL p q.2∧ok1L p l
def SV.okN (p:Nat→Prop):SV→Prop
 | .c x=>x.okN p
 | .agg l=>SC.okL p l
 | .tup l=>ok1L p l
 | .gd _ _ _ v=>v.okN p
theorem renL_eq (σ:Nm→Nm):∀ l,SC.renL σ l=l.map (SC.ren σ)
 | []=>by simp [SC.renL]
 | c :: r=>by simp [SC.renL,renL_eq σ r]
def SameR (σ:Nm→Nm) (E E2:Env) (x:Nm):Prop:=E2.ρ x=E.ρ (σ x)∧E2.κ x=E.κ (σ x)∧E2.ν x=E.ν (σ x)∧E2.χ x=E.χ (σ x)
section
variable {p:Nat→Prop} {σ:Nm→Nm} {E E2:Env}
mutual
theorem den_ren (h:∀ x:Nm,p x.1→SameR σ E E2 x):∀ (c:SC),c.okN p→c.den E2=(c.ren σ).den E
 | .v x,_=>by simp [SC.den,SC.ren]
 | .bo x,_=>by simp [SC.den,SC.ren]
 | .xv x,hc=>by simp only [SC.den,SC.ren];exact (h x hc).2.2.2
 | .ptr x off,hc=>by simp only [SC.den,SC.ren];rw [(h x hc).1]
 | .sl x s o n c,hc=>by simp only [SC.den,SC.ren];rw [(h x hc).1,(h x hc).2.1,(h x hc).2.2.1]
 | .pe x s e j,hc=>by simp only [SC.den,SC.ren];rw [(h x hc).1]
 | .xs x s o n c,hc=>by simp only [SC.den,SC.ren];rw [(h x hc).2.2.2]
 | .ep x s e j,hc=>by simp only [SC.den,SC.ren];rw [(h x hc).2.2.2]
 | .mp x,hc=>by simp only [SC.den,SC.ren];rw [(h x hc).1]
 | .ifc t c,hc=>by simp only [SC.den,SC.ren];rw [den_ren h c hc]
 | .fn f l r,hc=>by simp only [SC.den,SC.ren];rw [denL_ren h l hc.1,denL_ren h r hc.2]
theorem denL_ren (h:∀ x:Nm,p x.1→SameR σ E E2 x):∀ (l:List SC),SC.okL p l→SC.denL E2 l=SC.denL E (SC.renL σ l)
 | [],_=>by simp [SC.denL,SC.renL]
 | c :: r,hc=>by simp only [SC.denL,SC.renL];rw [den_ren h c hc.1,denL_ren h r hc.2]
end
theorem map_ren (h:∀ x:Nm,p x.1→SameR σ E E2 x) (l:List SC) (hl:SC.okL p l):l.map (SC.den E2)=(SC.renL σ l).map (SC.den E):=by
 rw [← denL_eq,← denL_eq];exact denL_ren h l hl
theorem den1_ren (h:∀ x:Nm,p x.1→SameR σ E E2 x) (q:Bool×List SC) (hq:SC.okL p q.2):den1 E2 q=den1 E (ren1 σ q):=by
 obtain ⟨b,l⟩:=q
 cases b with
 | true=>simp only [den1,ren1];rw [map_ren h l hq]
 | false =>
  cases l with
  | nil=>rfl
  | cons x r=>exact den_ren h x hq.1
theorem tup_ren (h:∀ x:Nm,p x.1→SameR σ E E2 x):∀ (l:List (Bool×List SC)),ok1L p l→l.map (den1 E2)=(ren1L σ l).map (den1 E)
 | [],_=>rfl
 | q :: l,hl=>by simp only [List.map_cons,ren1L];rw [den1_ren h q hl.1,tup_ren h l hl.2]
theorem sv_ren (h:∀ x:Nm,p x.1→SameR σ E E2 x):∀ (v:SV),v.okN p→v.den E2=(v.ren σ).den E
 | .c x,hv=>den_ren h x hv
 | .agg l,hv=>by simp only [SV.den,SV.ren];rw [map_ren h l hv]
 | .tup l,hv=>by simp only [SV.den,SV.ren];rw [tup_ren h l hv]
 | .gd g w e v,hv=>by simp only [SV.den,SV.ren];rw [sv_ren h v hv]
end
def BlkLe (p:Nat→Prop) (σ:Nm→Nm) (b b' : Blk):Prop:=match b',b with
 | .no,.no=>True
 | .bk cs' ty',.bk cs ty=>cs=SC.renL σ cs'∧ty=ty'∧SC.okL p cs'
 | .ar n' s' at' ty',.ar n s at_ ty=>n'≤n∧s=s'∧ty=ty'∧∀ e,e<n'→at_ e=SC.renL σ (at' e)∧SC.okL p (at' e)
 | .mp kk' kd' f',.mp kk kd f=>kk=kk'∧kd=kd'∧∀ a,f a=f' a
 | .pr φ',.pr φ=>∀ E E2,(∀ x:Nm,p x.1→SameR σ E E2 x)→∀ h,φ E h→φ' E2 h
 | _,_=>False
theorem mem_renL {σ:Nm→Nm} {l:List SC} {j:Nat} {u:SC} (h:l[j]? = some u):(SC.renL σ l)[j]? = some (u.ren σ):=by
 rw [renL_eq,List.getElem?_map,h];rfl
theorem okL_mem {p:Nat→Prop}:∀ {l:List SC} {j:Nat} {u:SC},SC.okL p l→l[j]? = some u→u.okN p
 | [],j,u,_,h=>by simp at h
 | c :: r,0,u,hl,h=>by
  simp only [List.getElem?_cons_zero,Option.some.injEq] at h
  subst h
  exact hl.1
 | c :: r,j+1,u,hl,h=>okL_mem hl.2 (by simpa using h)
theorem blk_le {p:Nat→Prop} {σ:Nm→Nm} {E E2:Env} (h:∀ x:Nm,p x.1→SameR σ E E2 x) {x:Nm} (hx:p x.1) {b b' : Blk} (hb:BlkLe p σ b b') {hp:PH} (hd:b.den E (σ x) hp):b'.den E2 x hp:=by
 have hs:=h x hx
 unfold BlkLe at hb
 split at hb
 ·exact hd
 ·obtain ⟨h1,rfl,h3⟩:=hb
  simp only [Blk.den] at hd ⊢
  rw [hd,hs.1,h1,map_ren h _ h3]
 ·obtain ⟨h1,rfl,rfl,h4⟩:=hb
  simp only [Blk.den] at hd ⊢
  rw [hs.1,hs.2.1,hs.2.2.1]
  rcases hd with ⟨g1,g2,g3,g4⟩ | ⟨g1,g2,g3,cells,g4,g5,g6⟩
  ·exact Or.inl ⟨g1,g2,by omega,g4⟩
  ·refine Or.inr ⟨g1,by omega,g3,cells,g4,g5,fun e he=>?_⟩
   obtain ⟨h5,h6⟩:=h4 e he
   obtain ⟨f1,f2⟩:=g6 e (by omega)
   rw [h5] at f1 f2
   refine ⟨by rw [renL_eq,List.length_map] at f1;exact f1,fun j u hu=>?_⟩
   have:=f2 j _ (mem_renL hu)
   rw [den_ren h u (okL_mem h6 hu)]
   exact this
 ·obtain ⟨rfl,rfl,h2⟩:=hb
  simp only [Blk.den] at hd ⊢
  rw [hs.1]
  obtain ⟨es,clock,g1,L,g2,g3,g4,g5⟩:=hd
  exact ⟨es,clock,g1,L,g2,g3,g4,fun a ha=>by rw [← h2];exact g5.1 a ha,g5.2⟩
 ·exact hb E E2 h hp hd
 ·exact hb.elim
def BlkLeO (p:Nat→Prop) (σ:Nm→Nm):Option Blk→Blk→Prop
 | some b,b'=>BlkLe p σ b b'
 | none,_=>False
def OwnLe (p:Nat→Prop) (σ:Nm→Nm) (own:Own):Own→Prop
 | []=>True
 | (i,F) :: r=>(p i∧match F with
  | .one b'=>BlkLeO p σ (atN own (σ (i,0,0))) b'
  | .fam n f=>∀ k,k<n→BlkLeO p σ (atN own (σ (i,k,0))) (f k)
  | .fam2 n m f=>∀ k l,k<n→l<m k→BlkLeO p σ (atN own (σ (i,k,l))) (f k l))∧OwnLe p σ own r
theorem ownLe_at {p:Nat→Prop} {σ:Nm→Nm} {own:Own}:∀ {own' : Own},OwnLe p σ own own'→∀ {x:Nm} {b' : Blk},atN own' x=some b'→p x.1∧∃ b,atN own (σ x)=some b∧BlkLe p σ b b'
 | [],_,x,b',h=>by simp [atN,look] at h
 | (i,F) :: r,hl,x,b',h=>by
  obtain ⟨⟨hp,hF⟩,hr⟩:=hl
  have get:∀ {o:Option Blk} {b' : Blk},BlkLeO p σ o b'→∃ b,o=some b∧BlkLe p σ b b':=by
   intro o b' h
   cases o with
   | none=>exact h.elim
   | some b=>exact ⟨b,rfl,h⟩
  obtain ⟨j,k,l⟩:=x
  simp only [atN,look_cons] at h
  by_cases e:i=j
  ·subst e
   rw [if_pos rfl] at h
   cases F with
   | one c =>
    simp only [Fm.get] at h
    split at h
    ·next e =>
     obtain ⟨rfl,rfl⟩:=e
     cases h
     exact ⟨hp,get hF⟩
    ·cases h
   | fam n f =>
    simp only [Fm.get] at h
    split at h
    ·next e =>
     obtain ⟨hk,rfl⟩:=e
     cases h
     exact ⟨hp,get (hF k hk)⟩
    ·cases h
   | fam2 n m f =>
    simp only [Fm.get] at h
    split at h
    ·next e =>
     cases h
     exact ⟨hp,get (hF k l e.1 e.2)⟩
    ·cases h
  ·rw [if_neg e] at h
   exact ownLe_at hr (x:=(j,k,l)) h
def ArrLe (p:Nat→Prop) (σ:Nm→Nm) (A A' : ArrF):Prop:=A.len=A'.len∧A.size=A'.size∧(∀ e,e<A'.len→A.at_ e=SC.renL σ (A'.at_ e)∧SC.okL p (A'.at_ e))∧A'.low≤A.low
def ArrLeO (p:Nat→Prop) (σ:Nm→Nm):Option ArrF→ArrF→Prop
 | some b,b'=>ArrLe p σ b b'
 | none,_=>False
def ArrsLe (p:Nat→Prop) (σ:Nm→Nm) (arrs:List (Nat×Fm ArrF)):List (Nat×Fm ArrF)→Prop
 | []=>True
 | (i,F) :: r=>(p i∧match F with
  | .one b'=>ArrLeO p σ (atN arrs (σ (i,0,0))) b'
  | .fam n f=>∀ k,k<n→ArrLeO p σ (atN arrs (σ (i,k,0))) (f k)
  | .fam2 n m f=>∀ k l,k<n→l<m k→ArrLeO p σ (atN arrs (σ (i,k,l))) (f k l))∧ArrsLe p σ arrs r
theorem arrsLe_at {p:Nat→Prop} {σ:Nm→Nm} {own:List (Nat×Fm ArrF)}:∀ {own' : List (Nat×Fm ArrF)},ArrsLe p σ own own'→∀ {x:Nm} {b' : ArrF},atN own' x=some b'→p x.1∧∃ b,atN own (σ x)=some b∧ArrLe p σ b b'
 | [],_,x,b',h=>by simp [atN,look] at h
 | (i,F) :: r,hl,x,b',h=>by
  obtain ⟨⟨hp,hF⟩,hr⟩:=hl
  have get:∀ {o:Option ArrF} {b' : ArrF},ArrLeO p σ o b'→∃ b,o=some b∧ArrLe p σ b b':=by
   intro o b' h
   cases o with
   | none=>exact h.elim
   | some b=>exact ⟨b,rfl,h⟩
  obtain ⟨j,k,l⟩:=x
  simp only [atN,look_cons] at h
  by_cases e:i=j
  ·subst e
   rw [if_pos rfl] at h
   cases F with
   | one c =>
    simp only [Fm.get] at h
    split at h
    ·next e =>
     obtain ⟨rfl,rfl⟩:=e
     cases h
     exact ⟨hp,get hF⟩
    ·cases h
   | fam n f =>
    simp only [Fm.get] at h
    split at h
    ·next e =>
     obtain ⟨hk,rfl⟩:=e
     cases h
     exact ⟨hp,get (hF k hk)⟩
    ·cases h
   | fam2 n m f =>
    simp only [Fm.get] at h
    split at h
    ·next e =>
     cases h
     exact ⟨hp,get (hF k l e.1 e.2)⟩
    ·cases h
  ·rw [if_neg e] at h
   exact arrsLe_at hr (x:=(j,k,l)) h
def TmpsLe (p:Nat→Prop) (σ:Nm→Nm) (tmps:List (Nat×SV)):List (Nat×SV)→Prop
 | []=>True
 | (t,v) :: r=>(look tmps t=some (v.ren σ)∧v.okN p)∧TmpsLe p σ tmps r
theorem tmpsLe_at {p:Nat→Prop} {σ:Nm→Nm} {tmps:List (Nat×SV)}:∀ {l:List (Nat×SV)},TmpsLe p σ tmps l→∀ {t:Nat} {v:SV},look l t=some v→look tmps t=some (v.ren σ)∧v.okN p
 | [],_,t,v,h=>by cases h
 | (k,u) :: r,hl,t,v,h=>by
  rw [look_cons] at h
  split at h
  ·next e=>subst e;cases h;exact hl.1
  ·exact tmpsLe_at hl.2 h
def idσ (τ:Nat→Nat) (x:Nm):Nm:=(τ x.1,x.2)
def injL (τ:Nat→Nat) (l:List Nat):Bool:=l.all fun a=>l.all fun b=>!(Nat.beq (τ a) (τ b)) || Nat.beq a b
theorem injL_ok {τ:Nat→Nat} {l:List Nat} (h:injL τ l=true) {a b:Nat} (ha:a∈l) (hb:b∈l) (e:τ a=τ b):a=b:=by
 have h1:=List.all_eq_true.1 (List.all_eq_true.1 h a ha) b hb
 simp only [Bool.or_eq_true,Bool.not_eq_true'] at h1
 rcases h1 with h1 | h1
 ·rw [e] at h1
  have:=Nat.beq_refl (τ b)
  rw [this] at h1
  cases h1
 ·exact Nat.eq_of_beq_eq_true h1
def InjN (σ:Nm→Nm) (own:Own):Prop:=∀ x y b c,atN own x=some b→atN own y=some c→σ x=σ y→x=y
theorem injN_id {τ:Nat→Nat} {own:Own} (h:injL τ (keysL own)=true):InjN (idσ τ) own:=by
 intro x y b c hx hy e
 obtain ⟨F,hF,_⟩:=atN_some hx
 obtain ⟨G,hG,_⟩:=atN_some hy
 unfold idσ at e
 simp only [Prod.mk.injEq] at e
 have:=injL_ok h (look_keysL hF) (look_keysL hG) e.1
 exact Prod.ext this e.2
structure Ren (σ:Nm→Nm) (S S' : St):Prop where
 nt:S'.nt=S.nt
 facts:S'.facts=[]
 tmps:TmpsLe (· < S'.nid) σ S.tmps S'.tmps
 own:OwnLe (· < S'.nid) σ S.own S'.own
 arrs:ArrsLe (· < S'.nid) σ S.arrs S'.arrs
 inj:InjN σ S'.own
def Env.via (E:Env) (σ:Nm→Nm):Env:=⟨fun x=>E.ρ (σ x),fun x=>E.κ (σ x),fun x=>E.ν (σ x),fun x=>E.χ (σ x)⟩
theorem le_nm {C:Ctx} {S S' : St} (σ:Nm→Nm) (h:Ren σ S S'):Le C S S':=by
 intro E a w hs
 refine ⟨E.via σ,fun x=>hs.1 _,fun E2 hE2 ho2=>?_⟩
 have hs:=hs.sat
 have hR:∀ x:Nm,x.1<S'.nid→SameR σ E E2 x:=fun x hx=>hE2 x hx
 obtain ⟨H,hH,hF⟩:=hs.mem
 have hat:∀ x b',atN S'.own x=some b'→x.1<S'.nid∧∃ b,atN S.own (σ x)=some b∧BlkLe (· < S'.nid) σ b b':=fun x b' hx=>ownLe_at h.own hx
 refine ⟨hs.size.trans h.nt.symm,hs.defers,ho2,?_,hs.frame,fun x=>H (σ x),⟨?_,?_,?_⟩,?_⟩
 ·intro t v ht
  obtain ⟨h1,h2⟩:=tmpsLe_at h.tmps ht
  obtain ⟨g1,g2⟩:=hs.tmps t _ h1
  exact ⟨by rw [h.nt];exact g1,by rw [g2,sv_ren hR v h2]⟩
 ·intro x b' hx
  obtain ⟨h1,b,h2,h3⟩:=hat x b' hx
  exact blk_le hR h1 h3 (hH.den _ _ h2)
 ·intro x y b' c' hx hy hne n
  obtain ⟨_,b,h2,_⟩:=hat x b' hx
  obtain ⟨_,c,g2,_⟩:=hat y c' hy
  exact hH.disj _ _ b c h2 g2 (fun e=>hne (h.inj x y b' c' hx hy e)) n
 ·intro x b' hx n o hn
  obtain ⟨_,b,h2,_⟩:=hat x b' hx
  exact hH.sub _ b h2 n o hn
 ·intro w' hw'
  have hold:=hF w' (fun n hn hfr=>hw' n hn (fun x b' hx=>let ⟨_,b,h2,_⟩:=hat x b' hx;hfr _ b h2))
  refine ⟨fun x A' hA=>?_,fun φ hφ=>by rw [h.facts] at hφ;cases hφ⟩
  obtain ⟨h1,A,h2,h3,h4,h5,h6⟩:=arrsLe_at h.arrs hA
  obtain ⟨ba,cap,g1,g2,g3,g4⟩:=hold.1 _ A h2
  refine ⟨ba,cap,by rw [(hR x h1).2.2.2,g1,h3],by omega,g3,?_⟩
  rcases g4 with g4 | ⟨b,off,rfl,gl,g4⟩
  ·exact Or.inl (by omega)
  ·refine Or.inr ⟨b,off,rfl,Nat.le_trans h6 gl,fun k hk=>?_⟩
   obtain ⟨f1,f2⟩:=g4 k (by omega)
   obtain ⟨e1,e2⟩:=h5 k hk
   rw [e1] at f1 f2
   refine ⟨by rw [renL_eq,List.length_map] at f1;omega,fun j u hu=>?_⟩
   have:=f2 j _ (mem_renL hu)
   rw [den_ren hR u (okL_mem e2 hu),← h4]
   exact this
theorem le_ren {C:Ctx} {S S' : St} (τ:Nat→Nat) (h1:S'.nt=S.nt) (h2:S'.facts=[]) (h3:TmpsLe (· < S'.nid) (idσ τ) S.tmps S'.tmps) (h4:OwnLe (· < S'.nid) (idσ τ) S.own S'.own) (h5:ArrsLe (· < S'.nid) (idσ τ) S.arrs S'.arrs) (h6:injL τ (keysL S'.own)=true):Le C S S' :=
 le_nm (idσ τ) ⟨h1,h2,h3,h4,h5,injN_id h6⟩
def mkC (P:Program) (A:List Nat) (w:World) (rs:List RS) (R:Ending→World→Prop):Ctx:=⟨P,mkTab P A,w.heap.size,fun _=>False,w,rs,R⟩
theorem mkC_rs (P:Program) (A:List Nat) (w:World) (rs:List RS) (R:Ending→World→Prop):(mkC P A w rs R).rs=rs:=rfl
theorem below_of {P:Program} {A:List Nat} {w w' : World} {rs:List RS} {R:Ending→World→Prop} {E:Env} {S:St} {a:Act} (hs:Sat (mkC P A w rs R).B (mkC P A w rs R).W (mkC P A w rs R).w0 E S a w'):Below w.heap.size w w' :=
 ⟨hs.frame.os,hs.frame.tape,hs.frame.output,hs.frame.size,fun n hn=>hs.frame.keep n hn (fun h=>h)⟩
theorem inOk_nil {P:Program} {A:List Nat} {w:World} {rs:List RS} {R:Ending→World→Prop} {E:Env}:InOk (mkC P A w rs R) E [] [] [] w :=
 ⟨fun _=>emp,fun x b h=>by simp [atN,look] at h,fun x y b c h=>by simp [atN,look] at h,fun x b h=>by simp [atN,look] at h,fun w' _=>⟨fun x A h=>by simp [atN,look] at h,fun φ h=>by cases h⟩⟩
def RetV (w:World) (v:Value) (e:Ending) (w' : World):Prop:=e = .returned v∧Below w.heap.size w w'
theorem retV {P:Program} {A:List Nat} {w:World} {rs:List RS} {u:Value} {v:SV} {S:St} (hv:∀ E,v.den E=u):RetVC (mkC P A w rs (RetV w u)) v S:=by
 intro E a w' hs
 exact ⟨by rw [hv],below_of hs.sat⟩
theorem cr_retV {C:Ctx} {S:St} {f:Nat} {vs:List SV} (tmpl:SV) (u:Value) (hv:∀ E,tmpl.den E=u) (h:∀ E a w,Sat C.B C.W C.w0 E S a w→Calls C.P f (vs.map (SV.den E)).toArray w (RetV w u)):CR C f vs S [] tmpl 0 [] [] :=
 cr_val tmpl u hv h
def RetN (w:World) (nx:Nat) (T:Nat→SV) (O:Nat→Own) (e:Ending) (w' : World):Prop :=
 ∃ v,e = .returned v∧Below w.heap.size w w'∧∀ b,∃ N:Env,OneC N∧∀ E2,AgreeD (NewIds b nx) N E2→v=(T b).den E2 ∧
  ∃ H:Nm→PH,(∀ x c,atN (O b) x=some c→c.den E2 x (H x))∧(∀ x y c d,atN (O b) x=some c→atN (O b) y=some d→x≠y→∀ n,H x n=none∨H y n=none) ∧
   ∀ x c,atN (O b) x=some c→∀ n o,H x n=some o→w'.heap[n]? = some o∧w.heap.size≤n
theorem cr_retN {C:Ctx} {S:St} {f:Nat} {vs:List SV} (nx:Nat) (T:Nat→SV) (O:Nat→Own) (h:∀ E a w,Sat C.B C.W C.w0 E S a w→Calls C.P f (vs.map (SV.den E)).toArray w (RetN w nx T O)):CR C f vs S [] (T S.nid) nx (O S.nid) []:=by
 intro E a w hs
 refine (h E a w hs).mono ?_
 rintro e w' ⟨v,rfl,hb,hN⟩
 obtain ⟨N,hN1,hN2⟩:=hN S.nid
 refine ⟨v,rfl,N,hN1,fun E2 _ _ hag=>?_⟩
 obtain ⟨h1,H,h2,h3,h4⟩:=hN2 E2 hag
 exact ⟨h1,Fits.G ⟨fun _ _=>⟨hb.os,hb.tape,hb.output,hb.size,fun n hn _=>hb.block n hn,H,h2,h3,fun x c hc n o hn=>⟨(h4 x c hc n o hn).1,Or.inl (h4 x c hc n o hn).2⟩⟩,fun _ _ x A hA=>by simp [atN,look] at hA⟩⟩
def fromσ (b:Nat) (σ:Nat→Nat) (x:Nm):Nm:=(σ (x.1 - b),x.2)
theorem retN {P:Program} {A:List Nat} {w:World} {rs:List RS} {nx:Nat} {T:Nat→SV} {O:Nat→Own} {v:SV} {S:St} (σ:Nat→Nat) (hv:∀ b,v=(T b).ren (fromσ b σ)∧(T b).okN (NewIds b nx))
  (ho:∀ b,OwnLe (NewIds b nx) (fromσ b σ) S.own (O b)) (hi:∀ b,InjN (fromσ b σ) (O b)):RetVC (mkC P A w rs (RetN w nx T O)) v S:=by
 intro E a w' hs
 have hs:=hs.sat
 refine ⟨_,rfl,below_of hs,fun b=>⟨E.via (fromσ b σ),fun x=>hs.one _,fun E2 hE2=>?_⟩⟩
 have hR:∀ x:Nm,NewIds b nx x.1→SameR (fromσ b σ) E E2 x:=fun x hx=>hE2 x hx
 obtain ⟨H,hH,_⟩:=hs.mem
 have hat:∀ x c,atN (O b) x=some c→NewIds b nx x.1∧∃ d,atN S.own (fromσ b σ x)=some d∧BlkLe (NewIds b nx) (fromσ b σ) d c:=fun x c hx=>ownLe_at (ho b) hx
 refine ⟨?_,fun x=>H (fromσ b σ x),?_,?_,?_⟩
 ·rw [sv_ren hR _ (hv b).2,← (hv b).1]
 ·intro x c hx
  obtain ⟨h1,d,h2,h3⟩:=hat x c hx
  exact blk_le hR h1 h3 (hH.den _ _ h2)
 ·intro x y c d hx hy hne n
  obtain ⟨_,c',h2,_⟩:=hat x c hx
  obtain ⟨_,d',g2,_⟩:=hat y d hy
  exact hH.disj _ _ c' d' h2 g2 (fun e=>hne (hi b x y c d hx hy e)) n
 ·intro x c hx n o hn
  obtain ⟨_,c',h2,_⟩:=hat x c hx
  obtain ⟨h3,h4⟩:=hH.sub _ c' h2 n o hn
  refine ⟨h3,?_⟩
  rcases h4 with h4 | h4
  ·exact h4
  ·exact h4.elim
theorem injN_from {b:Nat} {σ:Nat→Nat} {own:Own} (h:∀ i∈keysL own,∀ j∈keysL own,σ (i - b)=σ (j - b)→i=j):InjN (fromσ b σ) own:=by
 intro x y c d hx hy e
 obtain ⟨F,hF,_⟩:=atN_some hx
 obtain ⟨G,hG,_⟩:=atN_some hy
 unfold fromσ at e
 simp only [Prod.mk.injEq] at e
 exact Prod.ext (h _ (look_keysL hF) _ (look_keysL hG) e.1) e.2
theorem both {b:Bool} {A B:Prop} (hA:b=true→A) (hB:b=false→B):(b=true→A)∧(b=false→B):=⟨hA,hB⟩
theorem imp_ft (q:Prop):(false=true→q)=True:=by simp
theorem imp_tf (q:Prop):(true=false→q)=True:=by simp
theorem imp_tt (q:Prop):(true=true→q)=q:=by simp
theorem imp_ff (q:Prop):(false=false→q)=q:=by simp
theorem imp_fn (q:Prop):(false=(!false)→q)=True:=by simp
theorem imp_tn (q:Prop):(true=(!true)→q)=True:=by simp
theorem imp_fy (q:Prop):(true=(!false)→q)=q:=by simp
theorem imp_ty (q:Prop):(false=(!true)→q)=q:=by simp
end Go.Proofs.Ytkjeedlkkpgopaa.Z
namespace Go.Proofs.Ytkjeedlkkpgopaa.Z
open Go Go.RowKit
theorem bt_ite {p:Prop} [Decidable p] {a b:Bool}:((if p then a else b)=true)=((p∧a=true)∨(¬ p∧b=true)):=by by_cases h:p <;> simp [h]
theorem bf_ite {p:Prop} [Decidable p] {a b:Bool}:((if p then a else b)=false)=((p∧a=false)∨(¬ p∧b=false)):=by by_cases h:p <;> simp [h]
theorem bt_dec {p:Prop} [Decidable p]:(decide p=true)=p:=by simp
theorem bf_dec {p:Prop} [Decidable p]:(decide p=false) = ¬ p:=by simp
theorem bt_int {a b:Int}:((a == b)=true)=(a=b):=by simp
theorem bf_int {a b:Int}:((a == b)=false)=(¬ a=b):=by simp
theorem bt_nint {a b:Int}:((a != b)=true)=(¬ a=b):=by simp
theorem bf_nint {a b:Int}:((a != b)=false)=(a=b):=by simp
theorem bt_bool {a b:Bool}:((a == b)=true)=(a=true↔b=true):=by cases a <;> cases b <;> simp
theorem bf_bool {a b:Bool}:((a == b)=false)=(¬ (a=true↔b=true)):=by cases a <;> cases b <;> simp
theorem bt_nbool {a b:Bool}:((a != b)=true)=(¬ (a=true↔b=true)):=by cases a <;> cases b <;> simp
theorem bf_nbool {a b:Bool}:((a != b)=false)=(a=true↔b=true):=by cases a <;> cases b <;> simp
theorem bt_not {a:Bool}:((!a)=true)=(¬ a=true):=by cases a <;> simp
theorem bf_not {a:Bool}:((!a)=false)=(a=true):=by cases a <;> simp
theorem bt_and {a b:Bool}:((a && b)=true)=(a=true∧b=true):=by simp
theorem bf_and {a b:Bool}:((a && b)=false)=(¬ (a=true∧b=true)):=by cases a <;> cases b <;> simp
theorem bt_or {a b:Bool}:((a || b)=true)=(a=true∨b=true):=by simp
theorem bf_or {a b:Bool}:((a || b)=false)=(¬ (a=true∨b=true)):=by cases a <;> cases b <;> simp
theorem b_decR {a:Bool} {p:Prop} [Decidable p]:(a=decide p)=(a=true↔p):=by cases a <;> simp
theorem b_decL {a:Bool} {p:Prop} [Decidable p]:(decide p=a)=(p↔a=true):=by cases a <;> simp
theorem le_refl {C:Ctx} (S:St):Le C S S:=fun E a w h=>⟨E,h⟩
theorem wr64 {n:Int} (h : -9223372036854775808≤n) (h' : n≤9223372036854775807):IntKind.i64.wrap n=n:=IntWalk.i64_in n ⟨h,h'⟩
theorem wr_lit {n:Nat} (h:n≤9223372036854775807):IntKind.i64.wrap (no_index (OfNat.ofNat n))=OfNat.ofNat n:=wr64 (by show (-9223372036854775808:Int)≤(n:Int);omega) (by show ((n:Nat):Int)≤9223372036854775807;omega)
theorem wrU {n:Int} (h:0≤n∧n≤18446744073709551615):IntKind.u64.wrap n=n:=by
 have:IntKind.u64.wrap n=n % 18446744073709551616:=by simp [IntKind.wrap,IntKind.bits,IntKind.signed]
 rw [this];omega
theorem wr_litu {n:Nat} (h:n≤18446744073709551615):IntKind.u64.wrap (no_index (OfNat.ofNat n))=OfNat.ofNat n:=wrU ⟨by show (0:Int)≤(n:Int);omega,by show ((n:Nat):Int)≤18446744073709551615;omega⟩
theorem wr_succ {n:Nat} (h:n<9223372036854775807):IntKind.i64.wrap ((n:Int)+1)=((n+1:Nat):Int):=by rw [wr64 (by omega) (by omega)];omega
theorem arrOf_len {α:Type} (enc:α→List Value) (s:Nat) (xs:List α) (d:α) (l:Nat):(arrOf enc s xs d l).len=xs.length:=rfl
theorem arrOf_size {α:Type} (enc:α→List Value) (s:Nat) (xs:List α) (d:α) (l:Nat):(arrOf enc s xs d l).size=s:=rfl
theorem arrOf_at {α:Type} (enc:α→List Value) (s:Nat) (xs:List α) (d:α) (l k:Nat):(arrOf enc s xs d l).at_ k=(enc (xs.getD k d)).map .v:=rfl
theorem loopI {C:Ctx} {c:IR} {k:List KI} {S:St} {ex:List KI→St→Prop} {ι:Type} (I:ι→St) (μ:ι→Nat) (i:ι) (h:Le C S (I i)) (h' : ∀ i,ex (.code c :: .back ι I μ i :: k) (I i)):LoopVC C c k S ex:=⟨ι,I,μ,i,h,h'⟩
theorem backI {C:Ctx} {ι:Type} {I:ι→St} {μ:ι→Nat} {i:ι} {S:St} (j:ι) (hj:μ j<μ i) (h:Le C S (I j)):BackVC C ι I μ i S:=⟨j,hj,h⟩
theorem inOk_arrs {P:Program} {A:List Nat} {w:World} {rs:List RS} {R:Ending→World→Prop} {E:Env} {arrs:List (Nat×Fm ArrF)} (h:∀ w' : World,(∀ n,n<w.heap.size→w'.heap[n]? = w.heap[n]?)→∀ x A,atN arrs x=some A→ArrAt E w' x A):InOk (mkC P A w rs R) E [] arrs [] w :=
 ⟨fun _=>emp,fun x b h=>by simp [atN,look] at h,fun x y b c h=>by simp [atN,look] at h,fun x b h=>by simp [atN,look] at h,fun w' hw'=>⟨h w' fun n hn=>hw' n hn fun x b hb=>rfl,fun φ h=>by cases h⟩⟩
theorem arr_keep {α:Type} {w w' : World} {enc:α→List Value} {s:Nat} {v:Value} {xs:List α} (h:Arr w enc s v xs) (hk:∀ n,n<w.heap.size→w'.heap[n]? = w.heap[n]?):Arr w' enc s v xs:=by
 refine h.keep fun a u hu=>?_
 have hb:a.block<w.heap.size:=by
  unfold World.cell? at hu
  cases he:w.heap[a.block]? with
  | none=>rw [he] at hu;simp at hu
  | some o=>exact (Array.getElem?_eq_some_iff.1 he).1
 unfold World.cell? at hu ⊢
 rw [hk _ hb]
 exact hu
def TmpsSub (tmps:List (Nat×SV)):List (Nat×SV)→Prop
 | []=>True
 | (t,v) :: r=>look tmps t=some v∧TmpsSub tmps r
theorem tmpsSub_at {tmps:List (Nat×SV)}:∀ {l:List (Nat×SV)},TmpsSub tmps l→∀ {t:Nat} {v:SV},look l t=some v→look tmps t=some v
 | [],_,t,v,h=>by cases h
 | (k,u) :: r,hl,t,v,h=>by
  rw [look_cons] at h
  split at h
  ·next e=>subst e;cases h;exact hl.1
  ·exact tmpsSub_at hl.2 h
theorem le_tmps {C:Ctx} {nt:Nat} {t t' : List (Nat×SV)} {own:Own} {arrs:List (Nat×Fm ArrF)} {facts:List (Env→World→Prop)} {nid:Nat} (h:TmpsSub t t'):Le C ⟨nt,t,own,arrs,facts,nid⟩ ⟨nt,t',own,arrs,facts,nid⟩:=by
 intro E a w hs
 refine ⟨E,hs.1,fun E' hE' ho'=>?_⟩
 have hs:=hs.2 E' hE' ho'
 exact sat_sub (S:=⟨nt,t,own,arrs,facts,nid⟩) (S':=⟨nt,t',own,arrs,facts,nid⟩) ⟨rfl,fun k v hk=>tmpsSub_at h hk,fun _ _ h=>h,fun _ _ h=>h,fun _ h=>h⟩ hs
theorem arr1 {α:Type} {w:World} {enc:α→List Value} {s:Nat} {xs:List α} {d:α} (T:EncT enc s) {i:Nat} {E:Env} {v:Value} (hv:E.χ (i,0,0)=v) (h:Arr w enc s v xs) {w' : World} (hk:∀ n,n<w.heap.size→w'.heap[n]? = w.heap[n]?):ArrAt E w' (i,0,0) (arrOf enc s xs d) :=
 arrAt_of T (by rw [hv];exact arr_keep h hk)
theorem atN_one {α:Type} {i:Nat} {F:α} {r:List (Nat×Fm α)} {x:Nm} {A:α} (h:atN ((i,.one F) :: r) x=some A):(x=(i,0,0)∧A=F)∨atN r x=some A:=by
 obtain ⟨a,b,c⟩:=x
 simp only [atN,look_cons] at h
 split at h
 ·next e =>
  split at e
  ·next e2 =>
   subst e2
   cases e
   simp only [Fm.get] at h
   split at h
   ·next e3=>left;obtain ⟨rfl,rfl⟩:=e3;cases h;exact ⟨rfl,rfl⟩
   ·cases h
  ·next e2 =>
   right
   simp only [atN,e]
   exact h
 ·cases h
theorem atN_nil {α:Type} {x:Nm} {A:α} (h:atN ([]:List (Nat×Fm α)) x=some A):False:=by simp [atN,look] at h
theorem arr_one {α:Type} {w:World} {enc:α→List Value} {s:Nat} {v:Value} {xs:List α} (h:Arr w enc s v xs):v.oneCell' = true:=by
 obtain ⟨ba,cap,rfl,_⟩:=h
 rfl
def E1 (v:Value):Env:=⟨fun _=>0,fun _=>0,fun _=>false,fun _=>v⟩
theorem E1_one {v:Value} (h:v.oneCell' = true):OneC (E1 v):=fun _=>h
def ats {α:Type} (enc:α→List Value) (xs:List α) (d:α) (e:Nat):List SC:=(enc (xs.getD e d)).map .v
theorem arrOf_ats {α:Type} (enc:α→List Value) (s:Nat) (xs:List α) (d:α) (l:Nat):(arrOf enc s xs d l).at_=ats enc xs d:=rfl
def lsT (s n b:Nat):SV:=.c (.sl (b,0,0) s 0 n none)
def lsO {α:Type} (ty s:Nat) (enc:α→List Value) (xs:List α) (d:α) (b:Nat):Own:=[(b,.one (.ar xs.length s (ats enc xs d) ty))]
theorem renL_v (σ:Nm→Nm):∀ l:List Value,SC.renL σ (l.map .v)=l.map .v
 | []=>rfl
 | x :: l=>by simp only [List.map_cons,SC.renL,SC.ren,renL_v σ l]
theorem okL_v (p:Nat→Prop):∀ l:List Value,SC.okL p (l.map .v)
 | []=>trivial
 | x :: l=>⟨trivial,okL_v p l⟩
theorem arrLe_of {α:Type} {p:Nat→Prop} {σ:Nm→Nm} {enc:α→List Value} {s:Nat} {xs:List α} {d:α} {l:Nat}:ArrLe p σ (arrOf enc s xs d l) (arrOf enc s xs d l) :=
 ⟨rfl,rfl,fun e _=>⟨(renL_v _ _).symm,okL_v _ _⟩,Nat.le_refl _⟩
theorem arrLe_lo {α:Type} {p:Nat→Prop} {σ:Nm→Nm} {enc:α→List Value} {s:Nat} {xs:List α} {d:α} {l l' : Nat} (h:l'≤l):ArrLe p σ (arrOf enc s xs d l) (arrOf enc s xs d l') :=
 ⟨rfl,rfl,fun e _=>⟨(renL_v _ _).symm,okL_v _ _⟩,h⟩
theorem arrLe_0 {α:Type} {p:Nat→Prop} {σ:Nm→Nm} {enc:α→List Value} {s:Nat} {xs:List α} {d:α} {l:Nat}:ArrLe p σ (arrOf enc s xs d l) (arrOf enc s xs d):=arrLe_lo (Nat.zero_le _)
theorem arLe_of {α:Type} {p:Nat→Prop} {σ:Nm→Nm} {enc:α→List Value} {m n s ty:Nat} {xs:List α} {d:α} {at_:Nat→List SC} (hn:n≤m) (h:∀ e,e<n→at_ e=ats enc xs d e):BlkLe p σ (.ar m s at_ ty) (.ar n s (ats enc xs d) ty) :=
 ⟨hn,rfl,rfl,fun e he=>by rw [h e he];exact ⟨(renL_v _ _).symm,okL_v _ _⟩⟩
theorem retList {P:Program} {A:List Nat} {w:World} {rs:List RS} {α:Type} {ty s n:Nat} {enc:α→List Value} {xs:List α} {d:α} {S:St} (i k:Nat) (at_:Nat→List SC)
  (hi:look S.own i=some (.one (.ar k s at_ ty))) (hk:xs.length≤k) (ha:∀ e,e<xs.length→at_ e=ats enc xs d e):RetVC (mkC P A w rs (RetN w 1 (lsT s n) (lsO ty s enc xs d))) (.c (.sl (i,0,0) s 0 n none)) S:=by
 refine retN (fun _=>i) (fun b=>?_) (fun b=>?_) (fun b=>?_)
 ·simp [lsT,SV.ren,SC.ren,fromσ,SV.okN,SC.okN,NewIds]
 ·refine ⟨⟨⟨Nat.le_refl _,by omega⟩,?_⟩,trivial⟩
  simp only [fromσ,atN,hi,Fm.get,and_self,if_true]
  refine ⟨hk,rfl,rfl,fun e he=>?_⟩
  rw [ha e he]
  exact ⟨(renL_v _ _).symm,okL_v _ _⟩
 ·exact injN_from fun i hi j hj _=>by simp [lsO,keysL] at hi hj;omega
theorem dcallV {C:Ctx} {bs f:Nat} {vs:List SV} {dst:Option Nat} {U:List Nat} {Si S:St} {done:List Rec} {ex:List Rec→St→Prop} (tmpl:SV) (u:Value) (hv:∀ E,tmpl.den E=u) (hc:∀ E a w,Sat C.B C.W C.w0 E Si a w→Calls C.P f (vs.map (SV.den E)).toArray w (RetV w u))
  (h:ex (done++[⟨dst,tmpl,[],[],Si.nid,0,keysL Si.own,[],[]⟩]) (S.appN ⟨dst,tmpl,[],[],Si.nid,0,keysL Si.own,[],[]⟩)):DCallVC C bs f vs dst U Si done S ex :=
 dcall_intro (cr_retV tmpl u hv hc) rfl trivial trivial (fun k hk=>by cases hk) h
theorem callV {C:Ctx} {f:Nat} {vs:List SV} {dst:Option Nat} {S:St} {K:St→Prop} (tmpl:SV) (u:Value) (hv:∀ E,tmpl.den E=u) (hc:∀ E a w,Sat C.B C.W C.w0 E S a w→Calls C.P f (vs.map (SV.den E)).toArray w (RetV w u)) (h:K (S.call dst tmpl 0 [] [])):CallVC C f vs dst S K :=
 call_intro (cr_retV tmpl u hv hc) (fun i hi=>by cases hi) h
theorem callN {C:Ctx} {f:Nat} {vs:List SV} {dst:Option Nat} {S:St} {K:St→Prop} (nx:Nat) (T:Nat→SV) (O:Nat→Own) (hc:∀ E a w,Sat C.B C.W C.w0 E S a w→Calls C.P f (vs.map (SV.den E)).toArray w (RetN w nx T O)) (h:K (S.call dst (T S.nid) nx (O S.nid) [])):CallVC C f vs dst S K :=
 call_intro (cr_retN nx T O hc) (fun i hi=>by cases hi) h
end Go.Proofs.Ytkjeedlkkpgopaa.Z
namespace Go.Proofs.Ytkjeedlkkpgopaa.Z
open Go Go.RowKit
def TmpsNil (s z:Nat) (tmps:List (Nat×SV)):List (Nat×SV)→Prop
 | []=>True
 | (t,v) :: r=>(look tmps t=some v∨(look tmps t=some (.c (.v (.slice none 0 0)))∧v = .c (.sl (z,0,0) s 0 0 none)))∧TmpsNil s z tmps r
theorem tmpsNil_at {s z:Nat} {tmps:List (Nat×SV)}:∀ {l:List (Nat×SV)},TmpsNil s z tmps l→∀ {t:Nat} {v:SV},look l t=some v→(look tmps t=some v∨(look tmps t=some (.c (.v (.slice none 0 0)))∧v = .c (.sl (z,0,0) s 0 0 none)))
 | [],_,t,v,h=>by cases h
 | (k,u) :: r,hl,t,v,h=>by
  rw [look_cons] at h
  split at h
  ·next e=>subst e;cases h;exact hl.1
  ·exact tmpsNil_at hl.2 h
theorem le_nilown {C:Ctx} {nt:Nat} {tmps tmps' : List (Nat×SV)} {own:Own} {arrs:List (Nat×Fm ArrF)} {facts:List (Env→World→Prop)} {nid:Nat} (s ty:Nat) (at_:Nat→List SC)
  (ht:TmpsNil s nid tmps tmps') (hn:look own nid=none):Le C ⟨nt,tmps,own,arrs,facts,nid⟩ ⟨nt,tmps',(nid,.one (.ar 0 s at_ ty)) :: own,arrs,facts,nid+1⟩:=by
 intro E a w hs
 refine ⟨⟨E.ρ,fun x=>if x.1=nid then 0 else E.κ x,fun x=>if x.1=nid then true else E.ν x,E.χ⟩,fun x=>hs.1 x,fun E2 hE2 ho2=>?_⟩
 have hs2:=hs.2 E2 (fun x hx=>by
  have h:=hE2 x (Nat.lt_succ_of_lt hx)
  have hne:x.1≠nid:=by have:x.1<nid:=hx;omega
  simp only [Same,hne,if_false] at h
  exact h) ho2
 have hsz:=hE2 (nid,0,0) (Nat.lt_succ_self nid)
 have hκ:E2.κ (nid,0,0)=0:=by have h:=hsz.2.1;simpa using h
 have hν:E2.ν (nid,0,0)=true:=by have h:=hsz.2.2.1;simpa using h
 obtain ⟨H,hH,hF⟩:=hs2.mem
 have hat:∀ x b,atN own x=some b→x.1≠nid:=fun x b h e=>by
  obtain ⟨F,hF,_⟩:=atN_some h
  rw [e,hn] at hF
  cases hF
 refine ⟨hs2.size,hs2.defers,ho2,fun t v h=>?_,hs2.frame,fun x=>if x.1=nid then emp else H x,⟨fun x b hb=>?_,fun x y b c hb hc hne n=>?_,fun x b hb n o hn=>?_⟩,fun w' hw'=>?_⟩
 ·rcases tmpsNil_at ht h with h1 | ⟨h1,rfl⟩
  ·exact hs2.tmps t v h1
  ·obtain ⟨g1,h2⟩:=hs2.tmps t _ h1
   refine ⟨g1,?_⟩
   rw [h2,den_c,den_c,den_v]
   simp [SC.den,hκ,hν]
 ·rcases atN_one hb with ⟨rfl,rfl⟩ | hb
  ·exact Or.inl ⟨trivial,hκ,rfl,by simp⟩
  ·simp only [hat x b hb,if_false]
   exact hH.den x b hb
 ·rcases atN_one hb with ⟨rfl,rfl⟩ | hb
  ·simp [emp]
  ·rcases atN_one hc with ⟨rfl,rfl⟩ | hc
   ·simp [emp]
   ·simp only [hat x b hb,hat y c hc,if_false]
    exact hH.disj x y b c hb hc hne n
 ·rcases atN_one hb with ⟨rfl,rfl⟩ | hb
  ·simp [emp] at hn
  ·simp only [hat x b hb,if_false] at hn
   exact hH.sub x b hb n o hn
 ·exact hF w' fun n hn hfr=>hw' n hn fun x b hb=>by
   rcases atN_one hb with ⟨rfl,rfl⟩ | hb
   ·simp [emp]
   ·simp only [hat x b hb,if_false]
    exact hfr x b hb
theorem holds_of {C:Ctx} {E:Env} {S:St} {a:Act} {w:World} (hs:Sat C.B C.W C.w0 E S a w):Holds E S w:=by
 obtain ⟨H,_,hF⟩:=hs.mem
 exact hF w fun _ _ _=>rfl
def RetA (w:World) (Pre:World→Prop) {α:Type} (enc:α→List Value) (s:Nat) (ys:List α) (e:Ending) (w' : World):Prop :=
 ∃ v,e = .returned v∧Below w.heap.size w w'∧∀ w'' : World,Pre w''→(∀ n,w.heap.size≤n→n<w'.heap.size→w''.heap[n]? = w'.heap[n]?)→Arr w'' enc s v ys
theorem inOk_arrsF {P:Program} {A:List Nat} {w:World} {rs:List RS} {R:Ending→World→Prop} {E:Env} {arrs:List (Nat×Fm ArrF)} {facts:List (Env→World→Prop)} (h:∀ w' : World,(∀ n,n<w.heap.size→w'.heap[n]? = w.heap[n]?)→∀ x A,atN arrs x=some A→ArrAt E w' x A)
  (hf:∀ w',∀ φ∈facts,φ E w'):InOk (mkC P A w rs R) E [] arrs facts w :=
 ⟨fun _=>emp,fun x b h=>by simp [atN,look] at h,fun x y b c h=>by simp [atN,look] at h,fun x b h=>by simp [atN,look] at h,fun w' hw'=>⟨h w' fun n hn=>hw' n hn fun x b hb=>rfl,hf w'⟩⟩
theorem arr_own {C:Ctx} {E:Env} {S:St} {a:Act} {w:World} (hs:Sat C.B C.W C.w0 E S a w) {α:Type} {ty s:Nat} {enc:α→List Value} {ys:List α} {d:α} (i k n:Nat) (at_:Nat→List SC) (hi:look S.own i=some (.one (.ar k s at_ ty))) (hn:n=ys.length) (hk:ys.length≤k)
  (ha:∀ e,e<ys.length→at_ e=ats enc ys d e):Arr w enc s ((SC.sl (i,0,0) s 0 n none).den E) ys:=by
 subst hn
 obtain ⟨H,hH,_⟩:=hs.mem
 have hat:atN S.own (i,0,0)=some (.ar k s at_ ty):=by simp [atN,hi,Fm.get]
 rcases ar_heap hH hat with ⟨h1,h2,h3,_⟩ | ⟨h1,h2,h3,cells,h4,h5,h6,h7⟩
 ·have h0:ys=[]:=List.eq_nil_of_length_eq_zero (by omega)
  subst h0
  exact ⟨if E.ν (i,0,0)=true then none else some ⟨E.ρ (i,0,0),0,none⟩,0,by simp [SC.den,h2],Nat.le_refl _,by simp [maxLen],Or.inl rfl⟩
 ·refine ⟨some ⟨E.ρ (i,0,0),0,none⟩,E.κ (i,0,0),by simp [SC.den,h1],by omega,h3,Or.inr ⟨_,_,rfl,fun e y hy j u hu=>?_⟩⟩
  rw [cell_of_row w _ _ _ ty (0,0) h5,Nat.zero_add]
  have he:e<ys.length:=(List.getElem?_eq_some_iff.1 hy).1
  have:=((h7 e (by omega)).2 j (.v u) (by
   rw [ha e he]
   have:ys.getD e d=y:=by rw [List.getD_eq_getElem?_getD,hy];rfl
   simp only [ats,this,List.getElem?_map,hu];rfl)).1
  rw [den_v] at this
  exact this
theorem crv_retV {C:Ctx} {f:Nat} {vs:List SV} {S:St} (tmpl:SV) (u:Value) (hv:∀ E,tmpl.den E=u) (h:∀ E a w,Sat C.B C.W C.w0 E S a w→Calls C.P f (vs.map (SV.den E)).toArray w (RetV w u)):CRv C f vs S tmpl:=by
 intro E a w hs
 refine (h E a w hs).mono ?_
 rintro e w' ⟨rfl,hb⟩
 exact ⟨u,rfl,E,hs.one,fun E2 _ _ _=>⟨(hv E2).symm,Fits.G ⟨fun H _=>effOk_below hb,fun _ _ x A h=>by simp [atN,look] at h⟩⟩⟩
def E2 (v0 v1:Value):Env:=⟨fun _=>0,fun _=>0,fun _=>false,fun x=>if x.1=1 then v1 else v0⟩
theorem enter0 {P:Program} {A:List Nat} {f nt:Nat} {fn:Func} {x:Code} {c:IR} {w:World} {rs:List RS} {R:Ending→World→Prop} (sc:List SV) (args:Array Value)
  (hf:P.funcs[f]? = some fn) (hb:fn.body=some x) (hc:compC (mkTab P A) x=some c.strip) (hr:compR (mkTab P A).T fn.results.toList=some rs) (hn:fn.ntmps=nt)
  (hargs:∀ E',(sc.map (SV.den E')).toArray=args) (hnt:sc.length≤nt)
  (hex:exec (mkC P A w rs R) 1000 [.code c] ⟨nt,enumT 0 sc,[],[],[],0⟩):Calls P f args w R :=
 calls_sym (c:=c) (C:=mkC P A w rs R) 1000 sc (E1 (.bool true)) [] [] [] 0 nt args (mkTab_ok _ _) hf hb hc hr hn rfl rfl (E1_one rfl) (fun E' _=>hargs E') hnt (fun E' _=>inOk_nil) hex
theorem enter1 {P:Program} {A:List Nat} {f nt:Nat} {fn:Func} {x:Code} {c:IR} {w:World} {rs:List RS} {R:Ending→World→Prop} {α:Type} {enc:α→List Value} {s:Nat} {xs:List α} (d:α) {v:Value} (T:EncT enc s) (h:Arr w enc s v xs) (sc:List SV) (args:Array Value)
  (hf:P.funcs[f]? = some fn) (hb:fn.body=some x) (hc:compC (mkTab P A) x=some c.strip) (hr:compR (mkTab P A).T fn.results.toList=some rs) (hn:fn.ntmps=nt)
  (hargs:∀ E',E'.χ (0,0,0)=v→(sc.map (SV.den E')).toArray=args) (hnt:sc.length≤nt)
  (hex:exec (mkC P A w rs R) 1000 [.code c] ⟨nt,enumT 0 sc,[],[(0,.one (arrOf enc s xs d))],[],1⟩):Calls P f args w R:=by
 refine calls_sym (c:=c) (C:=mkC P A w rs R) 1000 sc (E1 v) [] [(0,.one (arrOf enc s xs d))] [] 1 nt args (mkTab_ok _ _) hf hb hc hr hn rfl rfl (E1_one (arr_one h)) (fun E' hE'=>hargs E' ?_) hnt (fun E' hE'=>inOk_arrs fun w' hw' x A hA=>?_) hex
 ·exact (hE' (0,0,0) Nat.zero_lt_one).2.2.2
 ·rcases atN_one hA with ⟨rfl,rfl⟩ | hA
  ·exact arr1 T (hE' (0,0,0) Nat.zero_lt_one).2.2.2 h hw'
  exact (atN_nil hA).elim
theorem enter2 {P:Program} {A:List Nat} {f nt:Nat} {fn:Func} {x:Code} {c:IR} {w:World} {rs:List RS} {R:Ending→World→Prop} {α β:Type} {enc:α→List Value} {s:Nat} {xs:List α} (d:α) {v:Value} (T:EncT enc s) (h:Arr w enc s v xs)
  {enc' : β→List Value} {s' : Nat} {ys:List β} (d' : β) {v' : Value} (T' : EncT enc' s') (h' : Arr w enc' s' v' ys) (sc:List SV) (args:Array Value)
  (hf:P.funcs[f]? = some fn) (hb:fn.body=some x) (hc:compC (mkTab P A) x=some c.strip) (hr:compR (mkTab P A).T fn.results.toList=some rs) (hn:fn.ntmps=nt)
  (hargs:∀ E',E'.χ (0,0,0)=v→E'.χ (1,0,0)=v'→(sc.map (SV.den E')).toArray=args) (hnt:sc.length≤nt)
  (hex:exec (mkC P A w rs R) 1000 [.code c] ⟨nt,enumT 0 sc,[],[(0,.one (arrOf enc s xs d)),(1,.one (arrOf enc' s' ys d'))],[],2⟩):Calls P f args w R:=by
 have hone:OneC (E2 v v'):=fun x=>by
  simp only [E2]
  split
  ·exact arr_one h'
  ·exact arr_one h
 have h0:∀ E' : Env,AgreeD (· < 2) (E2 v v') E'→E'.χ (0,0,0)=v:=fun E' hE'=>by
  have:=(hE' (0,0,0) Nat.zero_lt_two).2.2.2
  simpa [E2] using this
 have h1:∀ E' : Env,AgreeD (· < 2) (E2 v v') E'→E'.χ (1,0,0)=v':=fun E' hE'=>by
  have:=(hE' (1,0,0) Nat.one_lt_two).2.2.2
  simpa [E2] using this
 refine calls_sym (c:=c) (C:=mkC P A w rs R) 1000 sc (E2 v v') [] _ [] 2 nt args (mkTab_ok _ _) hf hb hc hr hn rfl rfl hone (fun E' hE'=>hargs E' (h0 E' hE') (h1 E' hE')) hnt (fun E' hE'=>inOk_arrs fun w' hw' x A hA=>?_) hex
 rcases atN_one hA with ⟨rfl,rfl⟩ | hA
 ·exact arr1 T (h0 E' hE') h hw'
 rcases atN_one hA with ⟨rfl,rfl⟩ | hA
 ·exact arr1 T' (h1 E' hE') h' hw'
 exact (atN_nil hA).elim
end Go.Proofs.Ytkjeedlkkpgopaa.Z
namespace Go.Proofs.Ytkjeedlkkpgopaa.Z
open Go Go.RowKit
theorem le_tr {C:Ctx} {S S' S'' : St} (h:Le C S S') (h' : Le C S' S''):Le C S S'':=fun E a w hs=>by
 obtain ⟨E',hs'⟩:=h E a w hs
 exact h' E' a w hs'
theorem ats_push {α:Type} {enc:α→List Value} {xs ys:List α} {d x:α} {n:Nat} {f g:Nat→List SC} (hy:ys=xs++[x]) (hn:n=xs.length) (hf:∀ e,e<xs.length→f e=ats enc xs d e) (hg:g 0=(enc x).map .v):∀ e,e<ys.length→appAt n f g e=ats enc ys d e:=fun e he=>by
 subst hy
 subst hn
 unfold appAt
 by_cases h:e<xs.length
 ·rw [if_pos h,hf e h]
  simp [ats,List.getD_eq_getElem?_getD,List.getElem?_append_left h]
 ·have:e=xs.length:=by simp at he;omega
  subst this
  rw [if_neg h,Nat.sub_self,hg]
  simp [ats]
theorem arr_at {C:Ctx} {E:Env} {S:St} {a:Act} {w:World} {α:Type} {enc:α→List Value} {s:Nat} {xs:List α} {d:α} {l:Nat} (hs:Sat C.B C.W C.w0 E S a w) (i:Nat) (h:atN S.arrs (i,0,0)=some (arrOf enc s xs d l)):Arr w enc s (E.χ (i,0,0)) xs:=arr_of (d:=d) ((holds_of hs).1 (i,0,0) _ h)
theorem own_at {C:Ctx} {E:Env} {S:St} {a:Act} {w:World} (hs:Sat C.B C.W C.w0 E S a w) {α:Type} {ty s:Nat} {enc:α→List Value} {ys:List α} {d:α} (i n:Nat) (hi:look S.own i=some (.one (.ar ys.length s (ats enc ys d) ty))) (hn:n=ys.length):Arr w enc s ((SC.sl (i,0,0) s 0 n none).den E) ys :=
 arr_own hs i _ n _ hi hn (Nat.le_refl _) fun _ _=>rfl
theorem guardW {C:Ctx} {ex:List KI→St→Prop} {f:Nat} {vs:List SV} {r:List IO1} {k:List KI} {S S' : St} {d:Option Nat} {g:Nat} {want e:Bool} {Z Z' : Prop} (tmpl:SV) (u:Value) (hv:∀ E,tmpl.den E=u) (hc:∀ E a w,Sat C.B C.W C.w0 E S' a w→Calls C.P f (vs.map (SV.den E)).toArray w (RetV w u))
  (hk:ex (.ops r :: k) ⟨S.nt,S.putT d (.gd g want e tmpl),S.own,S.arrs,S.facts,S.nid⟩):CallG C ex f vs r k S S' d g want e Z∨Z' :=
 Or.inl (Or.inl ⟨tmpl,fun _=>crv_retV tmpl u hv hc,hk⟩)
def leT (s n:Nat) (e:Int) (b:Nat):SV:=.tup [(false,[.sl (b,0,0) s 0 n none]),(false,[.v (.int .i64 e)])]
theorem retLE {P:Program} {A:List Nat} {w:World} {rs:List RS} {α:Type} {ty s n:Nat} {enc:α→List Value} {xs:List α} {d:α} {S:St} {q:Int} (i k:Nat) (at_:Nat→List SC)
  (hi:look S.own i=some (.one (.ar k s at_ ty))) (hn:n=xs.length) (hk:xs.length≤k) (ha:∀ e,e<xs.length→at_ e=ats enc xs d e):RetVC (mkC P A w rs (RetN w 1 (leT s xs.length q) (lsO ty s enc xs d))) (.tup [(false,[.sl (i,0,0) s 0 n none]),(false,[.v (.int .i64 q)])]) S:=by
 subst hn
 refine retN (fun _=>i) (fun b=>?_) (fun b=>?_) (fun b=>?_)
 ·simp [leT,SV.ren,ren1L,ren1,SC.renL,SC.ren,fromσ,SV.okN,ok1L,SC.okL,SC.okN,NewIds]
 ·refine ⟨⟨⟨Nat.le_refl _,by omega⟩,?_⟩,trivial⟩
  simp only [fromσ,atN,hi,Fm.get,and_self,if_true]
  refine ⟨hk,rfl,rfl,fun e he=>?_⟩
  rw [ha e he]
  exact ⟨(renL_v _ _).symm,okL_v _ _⟩
 ·exact injN_from fun i hi j hj _=>by simp [lsO,keysL] at hi hj;omega
theorem retNE {P:Program} {A:List Nat} {w:World} {rs:List RS} {α:Type} {ty s:Nat} {enc:α→List Value} {d:α} {S:St} {q:Int}:RetVC (mkC P A w rs (RetN w 1 (leT s 0 q) (lsO ty s enc [] d))) (.tup [(false,[.v (.slice none 0 0)]),(false,[.v (.int .i64 q)])]) S:=by
 intro E a w' hs
 refine ⟨_,rfl,below_of hs.sat,fun b=>⟨⟨fun _=>0,fun _=>0,fun _=>true,fun _=>.bool true⟩,fun _=>rfl,fun E2 hE2=>?_⟩⟩
 obtain ⟨h1,h2,h3,h4⟩:=hE2 (b,0,0) ⟨Nat.le_refl _,Nat.lt_succ_self _⟩
 refine ⟨?_,fun _=>emp,?_,fun _ _ _ _ _ _ _ n=>Or.inl rfl,fun x c _ n o hn=>by cases hn⟩
 ·simp [leT,SV.den,den1,SC.den,h2,h3]
 ·intro x c hx
  rcases atN_one hx with ⟨rfl,rfl⟩ | hx
  ·exact Or.inl ⟨trivial,h2,rfl,rfl⟩
  ·exact (atN_nil hx).elim
def Unr (C:Ctx) (c:IR) (k:List KI) (ex:List KI→St→Prop):Nat→St→Prop
 | 0,_=>False
 | n+1,S=>∀ (ι:Type) (I:ι→St) (μ:ι→Nat) (i:ι),(∀ S',Unr C c k ex n S'→BackVC C ι I μ i S')→ex (.code c :: .back ι I μ i :: k) S
theorem loop_unr {C:Ctx} {S:St} {c:IR} {k:List KI} {ex:List KI→St→Prop} (n:Nat) (h:Unr C c k ex n S):LoopVC C c k S ex:=by
 refine ⟨{ p:Nat×St // Unr C c k ex p.1 p.2 },fun p=>p.1.2,fun p=>p.1.1,⟨(n,S),h⟩,fun E a w hs=>⟨E,hs⟩,?_⟩
 rintro ⟨⟨m,S'⟩,h'⟩
 cases m with
 | zero=>exact h'.elim
 | succ m=>exact h' _ _ _ _ (fun S'' h''=>⟨⟨(m,S''),h''⟩,Nat.lt_succ_self m,fun E a w hs=>⟨E,hs⟩⟩)
def keepL' {α:Type} (l:List (Nat×α)):List Nat→List (Nat×α)
 | []=>[]
 | k :: ks=>match look l k with
  | some v=>(k,v) :: keepL' l ks
  | none=>keepL' l ks
def St.keep (S:St) (kt ko ka:List Nat):St:=⟨S.nt,keepL' S.tmps kt,keepL' S.own ko,keepL' S.arrs ka,S.facts,S.nid⟩
end Go.Proofs.Ytkjeedlkkpgopaa.Z
namespace Go.Proofs.Ytkjeedlkkpgopaa.Z
open Go Go.RowKit
theorem den_same {p:Nat→Prop} {E E2:Env} (h:∀ x:Nm,p x.1→Same E E2 x) {v:SV} (hv:v.okN p):v.den E2=v.den E:=by
 have h1:v.den E2=(v.ren id).den E:=sv_ren (σ:=id) (fun x hx=>h x hx) v hv
 have h2:v.den E=(v.ren id).den E:=sv_ren (σ:=id) (fun x _=>⟨rfl,rfl,rfl,rfl⟩) v hv
 rw [h1,h2]
def InlR (C:Ctx) (S:St) (dst:Option Nat) (K:St→Prop) (E0:Env) (a:Act) (e:Ending) (w' : World):Prop :=
 ∃ u,e = .returned u∧∃ E' S',SatA C.B C.W C.w0 E' S' (a.put dst u) w'∧K S'
def mkI (C:Ctx) (rs:List RS) (S:St) (dst:Option Nat) (K:St→Prop) (E0:Env) (a:Act):Ctx:=⟨C.P,C.tab,C.B,C.W,C.w0,rs,InlR C S dst K E0 a⟩
theorem mkI_rs (C:Ctx) (rs:List RS) (S:St) (dst:Option Nat) (K:St→Prop) (E0:Env) (a:Act):(mkI C rs S dst K E0 a).rs=rs:=rfl
def FactLe (σ:Nm→Nm) (n:Nat) (fs:List (Env→World→Prop)) (φ:Env→World→Prop):Prop:=∃ φ0∈fs,∀ E E2 w,(∀ x:Nm,x.1<n→SameR σ E E2 x)→φ0 E w→φ E2 w
def FactsLe (σ:Nm→Nm) (n:Nat) (fs:List (Env→World→Prop)):List (Env→World→Prop)→Prop
 | []=>True
 | φ :: l=>FactLe σ n fs φ∧FactsLe σ n fs l
theorem factsLe_mem {σ:Nm→Nm} {n:Nat} {fs:List (Env→World→Prop)}:∀ {l:List (Env→World→Prop)},FactsLe σ n fs l→∀ φ∈l,FactLe σ n fs φ
 | [],_,φ,h=>by cases h
 | ψ :: l,hl,φ,h=>by
  cases h with
  | head=>exact hl.1
  | tail _ h=>exact factsLe_mem hl.2 φ h
structure RenF (σ:Nm→Nm) (S S' : St):Prop where
 nt:S'.nt=S.nt
 facts:FactsLe σ S'.nid S.facts S'.facts
 tmps:TmpsLe (· < S'.nid) σ S.tmps S'.tmps
 own:OwnLe (· < S'.nid) σ S.own S'.own
 arrs:ArrsLe (· < S'.nid) σ S.arrs S'.arrs
 inj:InjN σ S'.own
theorem le_nmF {C:Ctx} {S S' : St} (σ:Nm→Nm) (h:RenF σ S S'):Le C S S':=by
 intro E a w hs
 refine ⟨E.via σ,fun x=>hs.1 _,fun E2 hE2 ho2=>?_⟩
 have hs:=hs.sat
 have hR:∀ x:Nm,x.1<S'.nid→SameR σ E E2 x:=fun x hx=>hE2 x hx
 obtain ⟨H,hH,hF⟩:=hs.mem
 have hat:∀ x b',atN S'.own x=some b'→x.1<S'.nid∧∃ b,atN S.own (σ x)=some b∧BlkLe (· < S'.nid) σ b b':=fun x b' hx=>ownLe_at h.own hx
 refine ⟨hs.size.trans h.nt.symm,hs.defers,ho2,?_,hs.frame,fun x=>H (σ x),⟨?_,?_,?_⟩,?_⟩
 ·intro t v ht
  obtain ⟨h1,h2⟩:=tmpsLe_at h.tmps ht
  obtain ⟨g1,g2⟩:=hs.tmps t _ h1
  exact ⟨by rw [h.nt];exact g1,by rw [g2,sv_ren hR v h2]⟩
 ·intro x b' hx
  obtain ⟨h1,b,h2,h3⟩:=hat x b' hx
  exact blk_le hR h1 h3 (hH.den _ _ h2)
 ·intro x y b' c' hx hy hne n
  obtain ⟨_,b,h2,_⟩:=hat x b' hx
  obtain ⟨_,c,g2,_⟩:=hat y c' hy
  exact hH.disj _ _ b c h2 g2 (fun e=>hne (h.inj x y b' c' hx hy e)) n
 ·intro x b' hx n o hn
  obtain ⟨_,b,h2,_⟩:=hat x b' hx
  exact hH.sub _ b h2 n o hn
 ·intro w' hw'
  have hold:=hF w' (fun n hn hfr=>hw' n hn (fun x b' hx=>let ⟨_,b,h2,_⟩:=hat x b' hx;hfr _ b h2))
  refine ⟨fun x A' hA=>?_,fun φ hφ=>let ⟨φ0,h0,h1⟩:=factsLe_mem h.facts φ hφ;h1 E E2 w' hR (hold.2 φ0 h0)⟩
  obtain ⟨h1,A,h2,h3,h4,h5,h6⟩:=arrsLe_at h.arrs hA
  obtain ⟨ba,cap,g1,g2,g3,g4⟩:=hold.1 _ A h2
  refine ⟨ba,cap,by rw [(hR x h1).2.2.2,g1,h3],by omega,g3,?_⟩
  rcases g4 with g4 | ⟨b,off,rfl,gl,g4⟩
  ·exact Or.inl (by omega)
  ·refine Or.inr ⟨b,off,rfl,Nat.le_trans h6 gl,fun k hk=>?_⟩
   obtain ⟨f1,f2⟩:=g4 k (by omega)
   obtain ⟨e1,e2⟩:=h5 k hk
   rw [e1] at f1 f2
   refine ⟨by rw [renL_eq,List.length_map] at f1;omega,fun j u hu=>?_⟩
   have:=f2 j _ (mem_renL hu)
   rw [den_ren hR u (okL_mem e2 hu),← h4]
   exact this
theorem le_renF {C:Ctx} {S S' : St} (τ:Nat→Nat) (h1:S'.nt=S.nt) (h2:FactsLe (idσ τ) S'.nid S.facts S'.facts) (h3:TmpsLe (· < S'.nid) (idσ τ) S.tmps S'.tmps) (h4:OwnLe (· < S'.nid) (idσ τ) S.own S'.own) (h5:ArrsLe (· < S'.nid) (idσ τ) S.arrs S'.arrs) (h6:injL τ (keysL S'.own)=true):Le C S S' :=
 le_nmF (idσ τ) ⟨h1,h2,h3,h4,h5,injN_id h6⟩
def RetB (w:World) (Pre:World→Prop) (nx:Nat) (T:Nat→SV) (A:Nat→List (Nat×Fm ArrF)) (e:Ending) (w' : World):Prop :=
 ∃ v,e = .returned v∧Below w.heap.size w w'∧∀ b,∃ N:Env,OneC N∧∀ E2,AgreeD (NewIds b nx) N E2→v=(T b).den E2 ∧
  ∀ w'' : World,Pre w''→(∀ n,w.heap.size≤n→n<w'.heap.size→w''.heap[n]? = w'.heap[n]?)→∀ x A',atN (A b) x=some A'→ArrAt E2 w'' x A'
theorem cr_retB {C:Ctx} {S:St} {f:Nat} {vs:List SV} (nx:Nat) (T:Nat→SV) (A:Nat→List (Nat×Fm ArrF)) (ks:List Nat) (Pre:Env→World→Prop)
  (hp:∀ E E2 w'',AgreeD (·∈ks) E E2→Holds E2 S w''→Pre E w'')
  (hc:∀ E a w,Sat C.B C.W C.w0 E S a w→Calls C.P f (vs.map (SV.den E)).toArray w (RetB w (Pre E) nx T A)):CR C f vs S ks (T S.nid) nx [] (A S.nid):=by
 intro E a w hs
 refine (hc E a w hs).mono ?_
 rintro e w' ⟨v,rfl,hb,hN⟩
 obtain ⟨N,hN1,hN2⟩:=hN S.nid
 refine ⟨v,rfl,N,hN1,fun E2 hs2 hk hag=>?_⟩
 obtain ⟨h1,h2⟩:=hN2 E2 hag
 refine ⟨h1,fun n=>w.heap.size≤n∧n<w'.heap.size,fun n h=>h,fun H hH=>⟨hb.os,hb.tape,hb.output,hb.size,fun n hn _=>hb.block n hn,fun _=>emp,fun x b h=>(atN_nil h).elim,fun x y b c h=>(atN_nil h).elim,fun x b h=>(atN_nil h).elim⟩,fun w'' hw'' hG x A' hA'=>?_⟩
 exact h2 w'' (hp E E2 w'' hk hw'') (fun n h1 h2=>hG n ⟨h1,h2⟩) x A' hA'
theorem callB {C:Ctx} {S:St} {f:Nat} {vs:List SV} {dst:Option Nat} {K:St→Prop} (nx:Nat) (T:Nat→SV) (A:Nat→List (Nat×Fm ArrF))
  (hc:∀ E a w,Sat C.B C.W C.w0 E S a w→Calls C.P f (vs.map (SV.den E)).toArray w (RetB w (fun _=>True) nx T A)) (h:K (S.call dst (T S.nid) nx [] (A S.nid))):CallVC C f vs dst S K :=
 call_intro (cr_retB nx T A [] (fun _ _=>True) (fun _ _ _ _ _=>trivial) hc) (fun i hi=>by cases hi) h
def NwL (B:Nat) (A:List (Nat×Fm ArrF)):Env→World→Prop:=fun E w=>∀ w'' : World,(∀ n,B≤n→n<w.heap.size→w''.heap[n]? = w.heap[n]?)→∀ x A',atN A x=some A'→ArrAt E w'' x A'
theorem callF {C:Ctx} {S:St} {f:Nat} {vs:List SV} {dst:Option Nat} {K:St→Prop} (nx:Nat) (T:Nat→SV) (A:Nat→List (Nat×Fm ArrF)) (hid:∀ x A',atN (A S.nid) x=some A'→NewIds S.nid nx x.1)
  (hc:∀ E a w,Sat C.B C.W C.w0 E S a w→Calls C.P f (vs.map (SV.den E)).toArray w (RetB w (fun _=>True) nx T A))
  (h:K ⟨S.nt,S.putT dst (T S.nid),S.own,mergeL (A S.nid) S.arrs,NwL C.B (A S.nid) :: S.facts,S.nid+nx⟩):CallVC C f vs dst S K:=by
 intro E a w hs
 refine (hc E a w hs.sat).mono ?_
 rintro e w' ⟨v,rfl,hb,hN⟩
 obtain ⟨N,hN1,hN2⟩:=hN S.nid
 refine ⟨v,rfl,E.mix N S.nid nx,_,⟨mix_one hs.1 hN1,fun E2 hE2 ho2=>?_⟩,h⟩
 have hold:AgreeD (· < S.nid) E E2:=fun x hx=>(mix_old (N:=N) (nx:=nx) (fun h=>absurd h.1 (Nat.not_le_of_lt hx))).trans (hE2 x (Nat.lt_of_lt_of_le hx (Nat.le_add_right _ _)))
 have hnew:AgreeD (NewIds S.nid nx) N E2:=fun x hx=>(mix_new hx).trans (hE2 x hx.2)
 have hs2:=hs.2 E2 hold ho2
 obtain ⟨hv,hA⟩:=hN2 E2 hnew
 obtain ⟨H,hH,hF⟩:=hs2.mem
 have hBw:C.B≤w.heap.size:=hs2.frame.size
 refine ⟨by rw [put_size'];exact hs2.size,by rw [put_defers'];exact hs2.defers,ho2,?_,?_,H,⟨hH.den,hH.disj,fun x b hx n o hn=>⟨?_,(hH.sub x b hx n o hn).2⟩⟩,fun w'' hw''=>?_⟩
 ·rw [hv]
  exact sat_put hs2 dst (T S.nid)
 ·exact ⟨hb.os.trans hs2.frame.os,hb.tape.trans hs2.frame.tape,hb.output.trans hs2.frame.output,Nat.le_trans hBw hb.size,fun n hn hw=>(hb.block n (Nat.lt_of_lt_of_le hn hBw)).trans (hs2.frame.keep n hn hw)⟩
 ·rw [hb.block n (hH.lt hx hn)]
  exact (hH.sub x b hx n o hn).1
 have hnw:∀ n,w.heap.size≤n→n<w'.heap.size→w''.heap[n]? = w'.heap[n]?:=fun n h1 h2=>hw'' n h2 fun x b hx=>by
  cases ho:H x n with
  | none=>rfl
  | some o=>exact absurd (hH.lt hx ho) (Nat.not_lt_of_le h1)
 have hold2:=hF w'' fun n hn hfr=>(hw'' n (Nat.lt_of_lt_of_le hn hb.size) hfr).trans (hb.block n hn)
 refine ⟨fun x A' hx=>?_,fun φ hφ=>?_⟩
 ·rw [atN_mergeL] at hx
  split at hx
  ·exact hA w'' trivial hnw x A' hx
  ·exact hold2.1 x A' hx
 ·cases hφ with
  | head =>
   intro w3 hw3 x A' hx
   refine hA w3 trivial (fun n h1 h2=>?_) x A' hx
   have hlt:n<w''.heap.size:=by
    have:=hnw n h1 h2
    rw [Array.getElem?_eq_getElem h2] at this
    exact (Array.getElem?_eq_some_iff.1 this).1
   rw [hw3 n (Nat.le_trans hBw h1) hlt]
   exact hnw n h1 h2
  | tail _ hφ=>exact hold2.2 φ hφ
def ArrF.lo (l:Nat) (A:ArrF):ArrF:=⟨A.len,A.size,A.at_,l⟩
def loFm (l:Nat):Fm ArrF→Fm ArrF
 | .one A=>.one (A.lo l)
 | .fam n f=>.fam n fun k=>(f k).lo l
 | .fam2 n m f=>.fam2 n m fun k j=>(f k j).lo l
def lowL (l:Nat):List (Nat×Fm ArrF)→List (Nat×Fm ArrF)
 | []=>[]
 | (i,F) :: r=>(i,loFm l F) :: lowL l r
theorem mkC_B (P:Program) (A:List Nat) (w:World) (rs:List RS) (R:Ending→World→Prop):(mkC P A w rs R).B=w.heap.size:=rfl
theorem atN_lowL {l:Nat}:∀ {L:List (Nat×Fm ArrF)} {x:Nm} {A' : ArrF},atN (lowL l L) x=some A'→∃ A,atN L x=some A∧A' = A.lo l
 | [],x,A',h=>by simp [lowL,atN,look] at h
 | (i,F) :: r,(j,k,m),A',h=>by
  simp only [lowL,atN,look_cons] at h ⊢
  by_cases e:i=j
  ·subst e
   rw [if_pos rfl] at h
   rw [if_pos rfl]
   cases F with
   | one A =>
    simp only [loFm,Fm.get] at h ⊢
    split at h
    ·next e=>rw [if_pos e];cases h;exact ⟨_,rfl,rfl⟩
    ·cases h
   | fam n f =>
    simp only [loFm,Fm.get] at h ⊢
    split at h
    ·next e=>rw [if_pos e];cases h;exact ⟨_,rfl,rfl⟩
    ·cases h
   | fam2 n g f =>
    simp only [loFm,Fm.get] at h ⊢
    split at h
    ·next e=>rw [if_pos e];cases h;exact ⟨_,rfl,rfl⟩
    ·cases h
  ·rw [if_neg e] at h
   rw [if_neg e]
   exact atN_lowL (L:=r) (x:=(j,k,m)) h
theorem arrAt_low {E:Env} {w w' : World} {x:Nm} {A:ArrF} {B l:Nat} (hl:l≤B) (hs:0<A.size) (h:∀ w'' : World,(∀ n,B≤n→n<w'.heap.size→w''.heap[n]? = w'.heap[n]?)→ArrAt E w'' x A) :
  ∀ w'' : World,(∀ n,B≤n→n<w'.heap.size→w''.heap[n]? = w'.heap[n]?)→ArrAt E w'' x (A.lo l):=fun w'' hw''=>by
 obtain ⟨ba,cap,h1,h2,h3,h4⟩:=h w'' hw''
 refine ⟨ba,cap,h1,h2,h3,?_⟩
 rcases h4 with h4 | ⟨b,off,rfl,_,h4⟩
 ·exact Or.inl h4
 by_cases h0:A.len=0
 ·exact Or.inl h0
 refine Or.inr ⟨b,off,rfl,Nat.le_trans hl (Nat.le_of_not_lt fun hb=>?_),h4⟩
 have hw3:∀ n,(w'.heap.mapIdx fun i o=>if i<B then Obj.map #[] 0 else o)[n]? = (w'.heap[n]?).map fun o=>if n<B then Obj.map #[] 0 else o:=fun n=>by
  rw [Array.getElem?_mapIdx]
 obtain ⟨ba',cap',g1,g2,g3,g4⟩:=h { w' with heap:=w'.heap.mapIdx fun i o=>if i<B then Obj.map #[] 0 else o } fun n hn hlt=>by
  show (w'.heap.mapIdx fun i o=>if i<B then Obj.map #[] 0 else o)[n]? = _
  rw [hw3]
  simp [Nat.not_lt_of_le hn]
 rw [h1] at g1
 simp only [Value.slice.injEq] at g1
 obtain ⟨rfl,_,rfl⟩:=g1
 rcases g4 with g4 | ⟨b',off',e,_,g4⟩
 ·exact h0 g4
 simp only [Option.some.injEq,Addr.mk.injEq] at e
 obtain ⟨rfl,rfl,_⟩:=e
 obtain ⟨f1,f2⟩:=g4 0 (by omega)
 have hu:(A.at_ 0)[0]? = some ((A.at_ 0)[0]'(by omega)):=List.getElem?_eq_getElem (by omega)
 have h5:=(f2 0 _ hu).1
 unfold World.cell? at h5
 simp only [hw3,if_pos hb] at h5
 cases hh:w'.heap[b]? with
 | none=>rw [hh] at h5;simp at h5
 | some o=>rw [hh] at h5;simp at h5
theorem RetB.low {w w' : World} {nx:Nat} {T:Nat→SV} {A:Nat→List (Nat×Fm ArrF)} {e:Ending} {l:Nat} (hl:l≤w.heap.size) (hs:∀ b x A',atN (A b) x=some A'→0<A'.size) (h:RetB w (fun _=>True) nx T A e w'):RetB w (fun _=>True) nx T (fun b=>lowL l (A b)) e w':=by
 obtain ⟨v,rfl,hb,h⟩:=h
 refine ⟨v,rfl,hb,fun b=>?_⟩
 obtain ⟨N,h1,h2⟩:=h b
 refine ⟨N,h1,fun E2 hE=>?_⟩
 obtain ⟨h3,h4⟩:=h2 E2 hE
 refine ⟨h3,fun w'' _ hw'' x A' hx=>?_⟩
 obtain ⟨A0,h5,rfl⟩:=atN_lowL hx
 exact arrAt_low (w:=w') hl (hs b x A0 h5) (fun w3 hw3=>h4 w3 trivial hw3 x A0 h5) w'' hw''
theorem callL {C:Ctx} {S:St} {f:Nat} {vs:List SV} {dst:Option Nat} {K:St→Prop} (nx:Nat) (T:Nat→SV) (A:Nat→List (Nat×Fm ArrF)) (hsz:∀ b x A',atN (A b) x=some A'→0<A'.size)
  (hc:∀ E a w,Sat C.B C.W C.w0 E S a w→Calls C.P f (vs.map (SV.den E)).toArray w (RetB w (fun _=>True) nx T A)) (h:K (S.call dst (T S.nid) nx [] (lowL C.B (A S.nid)))):CallVC C f vs dst S K :=
 callB nx T (fun b=>lowL C.B (A b)) (fun E a w hs=>(hc E a w hs).mono fun e w' h=>h.low hs.frame.size hsz) h
end Go.Proofs.Ytkjeedlkkpgopaa.Z
namespace Go.Proofs.Ytkjeedlkkpgopaa
open Go.RowKit
def objOf (n:Int):Int :=
 if n=22 then 1 else if n=23 then 1 else if n=30 then 2 else if n=31 then 2 else if n=40 then 3 else if n=41 then 3 else
 if n=50 then 4 else if n=51 then 4 else if n=52 then 4 else if n=60 then 5 else if n=61 then 5 else if n=62 then 5 else 0
set_option maxHeartbeats 400000 in
theorem mObject (n:Int) (w:World) :
  Calls Try.prog 59 #[.int .i64 n] w fun e w'=>e = .returned (.int .i64 (objOf n))∧w=w':=by
 go_enter Try.func59,Try.ntmps59
 go_wp2
 all_goals go_ret
 all_goals simp_all [objOf]
theorem own:ownKnob Try.prog.godebug=none:=by kernel_rfl
theorem laidOut:laidOutB Try.prog=true:=by kernel_rfl
namespace modelObjects
open Go.ChangeShapes Go.WideShapes Go.ChangeAt
end modelObjects
end Go.Proofs.Ytkjeedlkkpgopaa
namespace Go.Proofs.Ytkjeedlkkpgopaa.Z
open Go Go.RowKit
section
variable {B:Nat} {W:Nat→Prop} {E:Env} {S:St} {w w1:World}
theorem fits_same {i:Nat} {b:Blk} (h:look S.own i=some (.one b)):Fits B W E S w w [(i,.one b)] []:=by
 have hat:∀ x c,atN [(i,Fm.one b)] x=some c→atN S.own x=some c:=by
  intro x c hx
  rcases atN_one hx with ⟨rfl,rfl⟩ | hx
  ·simp [atN,h,Fm.get]
  ·exact (atN_nil hx).elim
 refine ⟨fun H hH=>⟨rfl,rfl,rfl,Nat.le_refl _,fun _ _ _=>rfl,H,fun x c hx=>hH.den x c (hat x c hx),fun x y b c hx hy hne=>hH.disj x y b c (hat x b hx) (hat y c hy) hne,fun x c hx n o hn=>⟨(hH.sub x c (hat x c hx) n o hn).1,Or.inr ⟨x,c,?_,hat x c hx,by rw [hn];simp⟩⟩⟩,fun _ _ x A h=>by simp [atN,look] at h⟩
 rcases atN_one hx with ⟨rfl,rfl⟩ | hx
 ·simp [look]
 ·exact (atN_nil hx).elim
theorem fits_blk {o ob:Obj} {b b' : Blk} {i g:Nat} (h:look S.own i=some (.one b)) (hown:∀ H,HeapOk B W E S.own H w→H (i,0,0)=sing g ob) (hb:b'.den E (i,0,0) (sing g o)) (h0:w1.os=w.os∧w1.tape=w.tape∧w1.output=w.output) (hsz:w.heap.size≤w1.heap.size)
  (hw:∀ n,n<w.heap.size→w1.heap[n]? = if n=g then some o else w.heap[n]?):Fits B W E S w w1 [(i,.one b')] []:=by
 have hat:atN S.own (i,0,0)=some b:=by simp [atN,h,Fm.get]
 have hone:∀ x c,atN [(i,Fm.one b')] x=some c→x=(i,0,0)∧c=b':=by
  intro x c hx
  rcases atN_one hx with hx | hx
  ·exact hx
  ·exact (atN_nil hx).elim
 refine ⟨fun H hH=>⟨h0.1,h0.2.1,h0.2.2,hsz,fun n hn hk=>?_,fun _=>sing g o,?_,?_,?_⟩,fun _ _ x A h=>by simp [atN,look] at h⟩
 ·rw [hw n hn]
  split
  ·next e =>
   have:=hk (i,0,0) b (by simp [look]) hat
   rw [hown H hH,e] at this
   simp [sing] at this
  ·rfl
 ·intro x c hx
  obtain ⟨rfl,rfl⟩:=hone x c hx
  exact hb
 ·intro x y c d hx hy hne
  obtain ⟨rfl,_⟩:=hone x c hx
  obtain ⟨rfl,_⟩:=hone y d hy
  exact absurd rfl hne
 ·intro x c hx n o' hn
  obtain ⟨rfl,rfl⟩:=hone x c hx
  obtain ⟨rfl,rfl⟩:=sing_some hn
  have hs:(H (i,0,0)) n=some ob:=by rw [hown H hH];simp [sing]
  have hlt:=hH.lt hat hs
  refine ⟨by rw [hw _ hlt,if_pos rfl],Or.inr ⟨(i,0,0),b,by simp [look],hat,by rw [hs];simp⟩⟩
end
theorem cr_sort {C:Ctx} {S:St} {ρ:Go.Shelf.Ren} (L:SlLaysF.n6 C.P ρ) {i ty g:Nat} {cap:Option Nat} {cl:List SC} {ys zs:List Int} (K:Int→Int)
  (hown:look S.own i=some (.one (.ar ys.length 1 (ats eI ys 0) ty))) (hlen:ys.length<4611686018427387904)
  (eg:∀ args w,(callFunc g args).run C.P w = .ok (.enter g args) w)
  (hz:∀ l:List Int,l.Perm ys→l.Pairwise (fun a b=>K a≤K b)→l=zs)
  (hc:∀ E a w,Sat C.B C.W C.w0 E S a w→∀ W:World,(∀ n,n<w.heap.size→n≠E.ρ (i,0,0)→W.heap[n]? = w.heap[n]?)→∀ x∈ys,∀ y∈ys,
   Calls C.P g (#[.int .i64 x,.int .i64 y]++(SC.denL E cl).toArray) W fun e w'=>e = .returned (.int .i64 (K x - K y))∧∃ q os,w' = Go.Sort.grow (W.drewN q) os) :
  CR C (ρ.f 6) [.c (.sl (i,0,0) 1 0 ys.length cap),.c (.fn (.func g) [] cl)] S [i] (.tup []) 0 [(i,.one (.ar ys.length 1 (ats eI zs 0) ty))] []:=by
 intro E a w hs
 obtain ⟨H,hH,_⟩:=hs.mem
 have hat:atN S.own (i,0,0)=some (.ar ys.length 1 (ats eI ys 0) ty):=by simp [atN,hown,Fm.get]
 have hd:=hH.den _ _ hat
 by_cases hy:ys=[]
 ·subst hy
  obtain rfl:[]=zs:=hz [] (List.Perm.refl _) List.Pairwise.nil
  refine Calls.mono (AnyF.slices_SortFunc_none (ρ:=ρ) { L with } _ _ _ w) ?_
  rintro e w' ⟨rfl,rfl⟩
  exact ⟨_,rfl,E,hs.one,fun E2 h2 hk _=>⟨rfl,(fits_same hown).G⟩⟩
 simp only [Blk.den] at hd
 rcases hd with ⟨_,_,h0,_⟩ | ⟨hν,hn,hκ,cells,hHx,hcs,hcells⟩
 ·exact absurd (List.eq_nil_of_length_eq_zero h0) hy
 have hlt0:0<ys.length:=List.length_pos_iff.2 hy
 obtain ⟨hw0,_⟩:=hH.sub _ _ hat (E.ρ (i,0,0)) (.cells cells ty (0,0)) (by rw [hHx];simp [sing])
 have hblk:E.ρ (i,0,0)<w.heap.size:=hH.lt hat (o:=.cells cells ty (0,0)) (by rw [hHx];simp [sing])
 have hcell:∀ e,e<ys.length→cells[e]? = some (.int .i64 (ys.getD e 0)):=fun e he=>by
  have:=(hcells e he).2 0 (.v (.int .i64 (ys.getD e 0))) (by simp [ats,eI])
  simpa [SC.den] using this.1
 letI:Inhabited {x:Int // x∈ys}:=⟨⟨ys.head hy,List.head_mem hy⟩⟩
 have hsz:ys.attach.toArray.size=ys.length:=by simp
 have hget:∀ j,j<ys.length→(ys.attach.toArray[j]!).1=ys.getD j 0:=fun j hj=>by
  rw [getElem!_pos _ j (by simpa using hj)]
  simp [List.getD_eq_getElem?_getD,List.getElem?_eq_getElem hj]
 have hO:Go.Sort.SWO (ltOf fun x y:{x:Int // x∈ys}=>K x.1 - K y.1):=by
  refine ⟨fun x=>?_,fun x y z=>?_,fun x y z=>?_⟩ <;> simp only [ltOf,decide_eq_true_eq,decide_eq_false_iff_not] <;> omega
 have hHolds:Go.Sort.Holds (fun x:{x:Int // x∈ys}=>Value.int .i64 x.1) w (E.ρ (i,0,0)) 0 ys.attach.toArray:=by
  intro j hj
  rw [hsz] at hj
  refine ⟨?_,?_⟩
  ·unfold World.cell?
   simp only [hw0,Nat.zero_add]
   rw [hcell j hj,hget j hj]
   simp
  ·unfold World.frozen?
   simp [hw0]
 have hcmp:CmpLays1 C.P g (SC.denL E cl).toArray (fun x:{x:Int // x∈ys}=>Value.int .i64 x.1) (fun x y=>K x.1 - K y.1) (E.ρ (i,0,0)) 0 ys.attach.toArray.size w:=by
  intro m os dk hdk x y
  refine (hc E a w hs _ (fun n hn hne=>?_) x.1 x.2 y.1 y.2)
  show ((w.heap.modify _ _)++os)[n]? = _
  rw [Array.getElem?_append_left (by simpa using hn),Array.getElem?_modify,if_neg (Ne.symm hne)]
 have hcon:=Any.slices_SortFunc L (fun x:{x:Int // x∈ys}=>Value.int .i64 x.1) (fun _=>rfl) (fun x y=>K x.1 - K y.1) hO g (SC.denL E cl).toArray (E.ρ (i,0,0)) 0 (cap.getD (E.κ (i,0,0) - 0)) ys.attach.toArray w eg hcmp hHolds hblk (by rw [hsz];exact hlen)
 have hargs:([SV.c (.sl (i,0,0) 1 0 ys.length cap),.c (.fn (.func g) [] cl)].map (SV.den E)).toArray = #[.slice (some ⟨E.ρ (i,0,0),0,none⟩) ys.attach.toArray.size (cap.getD (E.κ (i,0,0) - 0)),.func (.func g) #[] (SC.denL E cl).toArray]:=by
  simp [SV.den,SC.den,SC.denL,hν]
 rw [hargs]
 refine hcon.mono ?_
 rintro e w' ⟨rfl,d',m,os,hp,hso,rfl⟩
 obtain ⟨hp1,_,hp3⟩:=hp
 rw [hsz] at hp1
 have hl:d'.toList.map (·.1)=zs:=by
  refine hz _ ?_ ?_
  ·have e1:d'.extract 0 ys.attach.toArray.size=d':=by rw [hsz,← hp1];exact Array.extract_size
   rw [e1,Array.extract_size] at hp3
   have:=hp3.map (·.1)
   simpa using this
  ·rw [List.pairwise_map,List.pairwise_iff_getElem]
   intro a b ha hb hab
   simp only [Array.length_toList] at ha hb
   have:=hso a b (Nat.zero_le _) hab (by rw [hsz];omega)
   rw [getElem!_pos d' a ha,getElem!_pos d' b hb] at this
   simp only [ltOf,decide_eq_false_iff_not] at this
   simp only [Array.getElem_toList]
   omega
 refine ⟨_,rfl,E,hs.one,fun E2 h2 hk _=>⟨rfl,?_⟩⟩
 obtain ⟨k1,k2,k3,k4⟩:=hk (i,0,0) (by simp)
 refine Fits.G (B:=C.B) (W:=C.W) (E:=E2) (S:=S) (w:=w) (fits_blk (g:=E.ρ (i,0,0)) (ob:=.cells cells ty (0,0)) (o:=.cells (Go.Sort.putCells (fun x:{x:Int // x∈ys}=>Value.int .i64 x.1) 0 d' cells) ty (0,0)) hown (fun H2 hH2=>?_) ?_ ⟨rfl,rfl,rfl⟩ ?_ ?_)
 ·have hd2:=hH2.den _ _ hat
  simp only [Blk.den] at hd2
  rcases hd2 with ⟨_,_,h0,_⟩ | ⟨_,_,_,cells2,hHx2,_,_⟩
  ·omega
  ·obtain ⟨hw2,_⟩:=hH2.sub _ _ hat (E2.ρ (i,0,0)) (.cells cells2 ty (0,0)) (by rw [hHx2];simp [sing])
   rw [k1,hw0] at hw2
   cases hw2
   rw [hHx2,k1]
 ·simp only [Blk.den]
  refine Or.inr ⟨by rw [k3];exact hν,by rw [k2];exact hn,by rw [k2];exact hκ,_,by rw [k1],?_,fun e he=>⟨rfl,?_⟩⟩
  ·rw [k2]
   simpa [Go.Sort.putCells] using hcs
  ·intro j u hj
   simp only [ats,eI,List.map_cons,List.map_nil] at hj
   match j,hj with
   | 0,hj =>
    simp only [List.getElem?_cons_zero,Option.some.injEq] at hj
    subst hj
    refine ⟨?_,rfl⟩
    have he2:e<d'.size:=by omega
    simp only [Go.Sort.putCells,Nat.mul_one,Nat.add_zero,Array.getElem?_mapIdx,hcell e he,Option.map_some,Nat.zero_le,true_and,Nat.zero_add,if_pos he2,Nat.sub_zero,SC.den]
    rw [← hl,getElem!_pos d' e he2]
    simp [List.getD_eq_getElem?_getD,List.getElem?_eq_getElem,he2]
   | j+1,hj=>simp at hj
 ·show _≤((w.heap.modify _ _)++os).size
  simp
 ·intro n hn
  show ((w.heap.modify _ _)++os)[n]? = _
  rw [Array.getElem?_append_left (by simpa using hn),Array.getElem?_modify]
  by_cases e:n=E.ρ (i,0,0)
  ·subst e
   simp [hw0,Go.Sort.onCells]
  ·rw [if_neg (Ne.symm e),if_neg e]
end Go.Proofs.Ytkjeedlkkpgopaa.Z
namespace Go.Proofs.Ytkjeedlkkpgopaa
open Go.RowKit
structure MC where
 cell:List Int
 stack:List Int
 queue:List Int
 set:List Int
 table:List (Int×Int)
 deriving DecidableEq
def Cont (w:World) (v:Value) (m:MC):Prop :=
 ∃ a b c d e,v = .agg #[a,b,c,d,e]∧Arr w eI 1 a m.cell∧Arr w eI 1 b m.stack∧Arr w eI 1 c m.queue∧Arr w eI 1 d m.set∧Arr w eP 2 e m.table
def mayB (m:MC):Bool:=decide (m.cell.length≤1) && incB m.set && incB (m.table.map (·.1))
theorem Cont.keep {w w' : World} {v:Value} {m:MC} (h:Cont w v m) (hk:∀ a u,w.cell? a=some u→w'.cell? a=some u):Cont w' v m:=by
 obtain ⟨a,b,c,d,e,rfl,h1,h2,h3,h4,h5⟩:=h
 exact ⟨a,b,c,d,e,rfl,h1.keep hk,h2.keep hk,h3.keep hk,h4.keep hk,h5.keep hk⟩
theorem Cont.below {w w' : World} {v:Value} {m:MC} (h:Cont w v m) (hb:Below w.heap.size w w'):Cont w' v m:=h.keep (keeps_below hb)
set_option maxHeartbeats 1000000 in
theorem mMay_core (b c:Value) (ba be bd:Option Addr) (nd ne na ca cd ce:Nat) (ds:List Int) (es:List (Int×Int)) (w:World)
  (hnd:nd=ds.length) (hne:ne=es.length) (hnc:nd≤9223372036854775807) (hmc:ne≤9223372036854775807)
  (hd:∀ k x,ds[k]? = some x→∃ b off,bd=some ⟨b,off,none⟩∧b<w.heap.size∧w.cell? ⟨b,off+k,none⟩=some (.int .i64 x))
  (he:∀ k x,es[k]? = some x→∃ b off,be=some ⟨b,off,none⟩∧b<w.heap.size∧w.cell? ⟨b,off+k * 2,none⟩=some (.int .i64 x.1)∧w.cell? ⟨b,off+k * 2+1,none⟩=some (.int .i64 x.2)) :
  Calls Try.prog 90 #[.agg #[.slice ba na ca,b,c,.slice bd nd cd,.slice be ne ce]] w fun e w'=>e = .returned (.bool (decide (na≤1) && incB ds && incB (es.map (·.1))))∧Below w.heap.size w w':=by
 have HD:=Lib.hid hd;clear hd
 have HE:=Lib.hid he;clear he
 have HND:=Lib.hid hnd;clear hnd
 have HNE:=Lib.hid hne;clear hne
 have x0:=box_cell w #[.slice ba na ca,b,c,.slice bd nd cd,.slice be ne ce] 70 0 _ rfl
 have x3:=box_cell w #[.slice ba na ca,b,c,.slice bd nd cd,.slice be ne ce] 70 3 _ rfl
 have x4:=box_cell w #[.slice ba na ca,b,c,.slice bd nd cd,.slice be ne ce] 70 4 _ rfl
 have X0:=Lib.hid x0;clear x0
 have X3:=Lib.hid x3;clear x3
 have X4:=Lib.hid x4;clear x4
 by_cases h1:na≤1
 ·go_enter Try.func90,Try.ntmps90
  go_wp2
  have hW0:w.heap.size+1≤(w.alloc (.cells #[.slice ba na ca,b,c,.slice bd nd cd,.slice be ne ce] 70)).heap.size:=by simp
  have hW0' : Below w.heap.size w (w.alloc (.cells #[.slice ba na ca,b,c,.slice bd nd cd,.slice be ne ce] 70)):=below_box _ _
  generalize w.alloc (.cells #[.slice ba na ca,b,c,.slice bd nd cd,.slice be ne ce] 70)=W1 at *
  go_loopw [3] (fun i wr=>∃ k:Nat,1≤k∧(k≤nd∨k=1)∧i = .int .i64 k∧Hid (IncTo ds k)∧Below (w.heap.size+1) W1 wr) (fun i _=>nd - (intOf i).toNat)
  case atStart=>exact ⟨1,by omega,Or.inr rfl,rfl,fun i x y h=>by omega,Below.refl _ _⟩
  case round =>
   obtain ⟨k,hk1,hk,rfl,hkk,hb⟩:=hrel
   have y3:=(hb.cell (by show w.heap.size<w.heap.size+1;omega)).trans X3.out
   by_cases hlt:k<nd
   ·obtain ⟨x,hxk⟩:∃ x,ds[k - 1]? = some x:=⟨_,List.getElem?_eq_getElem (by rw [← HND.out];omega)⟩
    obtain ⟨y,hyk⟩:∃ x,ds[k]? = some x:=⟨_,List.getElem?_eq_getElem (by rw [← HND.out];exact hlt)⟩
    obtain ⟨b1,o1,rfl,hb1,c1⟩:=HD.out (k - 1) x hxk
    obtain ⟨b2,o2,hbo,hb2,c2⟩:=HD.out k y hyk
    simp only [Option.some.injEq,Addr.mk.injEq,and_true] at hbo
    obtain ⟨rfl,rfl⟩:=hbo
    have d1:=((hb.mono (Nat.le_succ _)).cell (by exact hb1)).trans ((hW0'.cell (by exact hb1)).trans c1)
    have d2:=((hb.mono (Nat.le_succ _)).cell (by exact hb1)).trans ((hW0'.cell (by exact hb1)).trans c2)
    clear c1 c2 hb1 hb2
    have HXK:=Lib.hid hxk;clear hxk
    have HYK:=Lib.hid hyk;clear hyk
    have hI:(k:Int)<(nd:Int):=by omega
    have hI1:(1:Int)≤(k:Int):=by omega
    go_wp2
    go_quiet (fail)
    go_wp2
    ·go_ret
     have hxy:y≤x:=by assumption
     exact ⟨by rw [incB_no' hk1 HXK.out HYK.out hxy];simp,below_drewN (hW0'.trans (hb.mono (by omega))) _⟩
    ·go_roundw
     case rel =>
      have hxy:x<y:=by assumption
      exact ⟨k+1,by omega,by omega,by go_num,hkk.out.step hk1 HXK.out HYK.out hxy,below_drewN hb _⟩
     case measure=>simp [intOf];omega
   ·have hset:incB ds=true:=hkk.out.all (by rw [← HND.out];omega)
    have HSET:=Lib.hid hset;clear hset hkk
    have hI:¬ (k:Int)<(nd:Int):=by omega
    have hb' : Below w.heap.size w wr:=hW0'.trans (hb.mono (by omega))
    have Y4:=Lib.hid ((hb.cell (by show w.heap.size<w.heap.size+1;omega)).trans X4.out)
    have hsz:w.heap.size+1≤wr.heap.size:=Nat.le_trans hW0 hb.size
    clear hb X0 X3 X4 hW0
    go_wp2
    clear y3 hI hk hk1 hlt
    obtain ⟨wo,rfl⟩:∃ wo:World,wo=wr:=⟨_,rfl⟩
    go_loopw [4] (fun i wr=>∃ k:Nat,1≤k∧(k≤ne∨k=1)∧i = .int .i64 k∧Hid (IncTo (es.map (·.1)) k)∧Below (w.heap.size+1) wo wr) (fun i _=>ne - (intOf i).toNat)
    case atStart=>exact ⟨1,by omega,Or.inr rfl,rfl,fun i x y h=>by omega,Below.refl _ _⟩
    case round =>
     obtain ⟨k,hk1,hk,rfl,hkk,hb⟩:=hrel
     have y4:=(hb.cell (by show w.heap.size<w.heap.size+1;omega)).trans Y4.out
     by_cases hlt:k<ne
     ·obtain ⟨x,hxk⟩:∃ x,es[k - 1]? = some x:=⟨_,List.getElem?_eq_getElem (by rw [← HNE.out];omega)⟩
      obtain ⟨y,hyk⟩:∃ x,es[k]? = some x:=⟨_,List.getElem?_eq_getElem (by rw [← HNE.out];exact hlt)⟩
      obtain ⟨b1,o1,rfl,hb1,c1,_⟩:=HE.out (k - 1) x hxk
      obtain ⟨b2,o2,hbo,hb2,c2,_⟩:=HE.out k y hyk
      simp only [Option.some.injEq,Addr.mk.injEq,and_true] at hbo
      obtain ⟨rfl,rfl⟩:=hbo
      have d1:=((hb.mono (Nat.le_succ _)).cell (by exact hb1)).trans ((hb'.cell (by exact hb1)).trans c1)
      have d2:=((hb.mono (Nat.le_succ _)).cell (by exact hb1)).trans ((hb'.cell (by exact hb1)).trans c2)
      clear c1 c2 hb1 hb2
      have HXK:Hid ((es.map (·.1))[k - 1]? = some x.1):=by show _=_;rw [List.getElem?_map,hxk];rfl
      have HYK:Hid ((es.map (·.1))[k]? = some y.1):=by show _=_;rw [List.getElem?_map,hyk];rfl
      clear hxk hyk
      obtain ⟨x,x2⟩:=x
      obtain ⟨y,y2⟩:=y
      have hI:(k:Int)<(ne:Int):=by omega
      have hI1:(1:Int)≤(k:Int):=by omega
      go_wp2
      go_quiet (fail)
      go_wp2
      ·go_ret
       have hxy:y≤x:=by assumption
       exact ⟨by rw [incB_no' hk1 HXK.out HYK.out hxy];simp,below_drewN (hb'.trans (hb.mono (by omega))) _⟩
      ·go_roundw
       case rel =>
        have hxy:x<y:=by assumption
        exact ⟨k+1,by omega,by omega,by go_num,hkk.out.step hk1 HXK.out HYK.out hxy,below_drewN hb _⟩
       case measure=>simp [intOf];omega
     ·have htab:incB (es.map (·.1))=true:=hkk.out.all (by rw [List.length_map,← HNE.out];omega)
      have HTAB:=Lib.hid htab;clear htab hkk
      have hI:¬ (k:Int)<(ne:Int):=by omega
      go_wp2
      go_ret
      exact ⟨by rw [HSET.out,HTAB.out];simp,hb'.trans (hb.mono (by omega))⟩
 ·have hI:(1:Int)<(na:Int):=by omega
  have E:(decide (na≤1) && incB ds && incB (es.map (·.1)))=false:=by simp [h1]
  have E':=Lib.hid E;clear E
  go_enter Try.func90,Try.ntmps90
  go_wp2
  go_ret
  exact ⟨by rw [E'.out];rfl,below_box _ _⟩
theorem mMay {v:Value} {m:MC} {w:World} (h:Cont w v m) :
  Calls Try.prog 90 #[v] w fun e w'=>e = .returned (.bool (mayB m))∧Below w.heap.size w w':=by
 obtain ⟨a,b,c,d,e,rfl,h1,_,_,h4,h5⟩:=h
 obtain ⟨ba,ca,rfl,_,_,_⟩:=h1.at1
 obtain ⟨bd,cd,rfl,_,_,g4⟩:=h4.at1
 obtain ⟨be,ce,rfl,_,_,g5⟩:=h5.at2
 exact mMay_core b c ba be bd _ _ _ ca cd ce m.set m.table w rfl rfl (by omega) (by omega) g4 g5
end Go.Proofs.Ytkjeedlkkpgopaa
namespace Go.Proofs.Ytkjeedlkkpgopaa
open Go.RowKit
theorem box5 {W wr:World} {n m:Nat} {a b c d e:Value} (hX:∀ j u,#[a,b,c,d,e][j]? = some u→W.cell? ⟨n,j,none⟩=some u) (hb:Below m W wr) (h:n<m) :
  wr.cell? ⟨n,0,none⟩=some a∧wr.cell? ⟨n,1,none⟩=some b∧wr.cell? ⟨n,2,none⟩=some c∧wr.cell? ⟨n,3,none⟩=some d∧wr.cell? ⟨n,4,none⟩=some e :=
 ⟨(hb.cell h).trans (hX 0 _ rfl),(hb.cell h).trans (hX 1 _ rfl),(hb.cell h).trans (hX 2 _ rfl),(hb.cell h).trans (hX 3 _ rfl),(hb.cell h).trans (hX 4 _ rfl)⟩
theorem below_call {B:Nat} {W wr w' : World} (hb:Below B W wr) (hB:B≤W.heap.size) (h:Below wr.heap.size wr w'):Below B W w' :=
 hb.trans (h.mono (Nat.le_trans hB hb.size))
end Go.Proofs.Ytkjeedlkkpgopaa
namespace Go.Proofs.Ytkjeedlkkpgopaa
open Go.RowKit
theorem run_append_fit {P:Program} {w:World} {t e:TypeId} {size bytes:Nat} (T:ElemT P t e size bytes) (ty:TypeId) {α:Type} {enc:α→List Value} (E:EncT enc size)
  {ba:Option Addr} {n:Nat} {ys xs:List α} (hd:Arr w enc size (.slice ba n n) ys) {v2:Value} (hx:Arr w enc size v2 xs)
  (hfit:Builtin.nextslicecap (n+xs.length) n * bytes≤281474976710656) (h63:n+xs.length≤maxLen) :
  ∃ v' w',(Builtin.append_ #[t,t] ty #[.slice ba n n,v2]).run P w = .ok v' w'∧Below w.heap.size w w' ∧
   ((xs=[]∧v' = .slice ba n n∧w' = w)∨(xs≠[]∧w'.ownsRow w.heap.size e size v' (n+xs.length) ((ys++xs).flatMap enc))):=by
 obtain ⟨i,z,hi,hz,hsz,hby,hzs⟩:=T.ex
 have ht:=T.ht
 subst hsz
 subst hby
 have hd0:=hd
 obtain ⟨ba',cap',hv,hl,hm,hc⟩:=hd
 simp only [Value.slice.injEq] at hv
 obtain ⟨rfl,hn,rfl⟩:=hv
 have hx0:=hx
 obtain ⟨bx,cx,rfl,hlx,hmx,hcx⟩:=hx
 by_cases he:xs=[]
 ·subst he
  refine ⟨.slice ba n n,w,?_,Below.refl _ _,Or.inl ⟨rfl,rfl,rfl⟩⟩
  rcases bx with _ | bx <;> rcases ba with _ | ba <;>
   simp [Builtin.append_,run_underlying ht,sizeOf,typeInfo,hi,Builtin.lenOf,Builtin.firstCells,loadCells,loadCellsFrom,storeCells]
 ·rcases hcx with h | ⟨b,off,rfl,hcx⟩
  ·exact absurd h he
  have hpos:0<xs.length:=by cases xs with | nil=>exact absurd rfl he | cons _ _=>simp
  have hnews:=Arr.cells E.len T.pos hx0
  have h1:∀ u∈xs.flatMap enc,u.oneCell' = true:=fun u hu=>by obtain ⟨x,_,h⟩:=List.mem_flatMap.1 hu;exact E.one x u h
  have hg63:n+xs.length≤9223372036854775807:=by unfold maxLen at h63;omega
  have hlen:((ys++xs).flatMap enc).length=(n+xs.length) * i.size:=by rw [flat_len E.len,List.length_append,hn]
  have fin:∀ (old:Nat),old<n+xs.length →
    (w.drew.alloc (.cells ((ys.flatMap enc).toArray++(xs.flatMap enc).toArray++Builtin.zeroCells z.cells (grownCap w (n+xs.length) old e - (n+xs.length))) e)).ownsRow w.heap.size e i.size
     (.slice (some ⟨w.heap.size,0,none⟩) (n+xs.length) (grownCap w (n+xs.length) old e)) (n+xs.length) ((ys++xs).flatMap enc) ∧
    Below w.heap.size w (w.drew.alloc (.cells ((ys.flatMap enc).toArray++(xs.flatMap enc).toArray++Builtin.zeroCells z.cells (grownCap w (n+xs.length) old e - (n+xs.length))) e)):=by
   intro old ho
   have hge:=grownCap_ge w (n+xs.length) old e
   have hcm:grownCap w (n+xs.length) old e≤maxLen:=grownCap_le_maxLen w (n+xs.length) old e h63
   refine ⟨⟨hlen,.inr ⟨w.heap.size,_,_,rfl,Nat.le_refl _,heap_alloc_new w.drew _,hge,hcm,?_,?_⟩⟩,((Below.refl _ _).drew).alloc (Nat.le_refl _) _⟩
   ·simp only [Array.size_append,List.size_toArray,size_zeroCells,hzs,flat_len E.len,← Nat.add_mul]
    rw [← hn]
    congr 1
    omega
   ·simp only [Array.toList_append]
    rw [← List.flatMap_append,← hlen]
    exact List.take_left
  rcases ba with _ | ⟨b0,o0,sp⟩
  ·have hys:ys=[]:=by
    rcases hc with h | ⟨_,_,h,_⟩
    ·exact h
    ·cases h
   subst hys
   simp only [List.length_nil] at hn
   subst hn
   have hr:=run_append_nil (P:=P) w t ty e i z ht hi hz ⟨b,off,none⟩ xs.length cx (xs.flatMap enc) (flat_len E.len xs) hnews hpos (by omega) (by rw [Nat.zero_add,nextslicecap_zero hpos] at hfit;exact hfit)
   have hf:=fin 0 (by omega)
   simp only [Nat.zero_add,List.nil_append,List.flatMap_nil,Array.empty_append] at hf hr ⊢
   exact ⟨_,_,hr,hf.2,Or.inr ⟨he,hf.1⟩⟩
  ·have holds:∀ j u,(ys.flatMap enc)[j]? = some u→w.cell? ((⟨b0,o0,sp⟩:Addr).add j)=some u:=by
    rcases hc with h | ⟨b',o',h,_⟩
    ·subst h;intro j u hu;simp at hu
    ·simp only [Option.some.injEq,Addr.mk.injEq] at h
     obtain ⟨rfl,rfl,rfl⟩:=h
     exact Arr.cells E.len T.pos hd0
   have hr:=run_append_grow (P:=P) w t ty e i z ht hi hz ⟨b0,o0,sp⟩ n n (ys.flatMap enc) (by rw [flat_len E.len,hn]) holds ⟨b,off,none⟩ xs.length cx (xs.flatMap enc) (flat_len E.len xs) hnews (by omega) (by omega) hfit
   have hf:=fin n (by omega)
   exact ⟨_,_,hr,hf.2,Or.inr ⟨he,hf.1⟩⟩
theorem cap0 (k:Nat):Builtin.nextslicecap k 0=k:=by
 rcases Nat.eq_zero_or_pos k with rfl | h
 ·rfl
 ·exact nextslicecap_zero h
theorem cap1 (k:Nat):Builtin.nextslicecap (1+k) 1≤2+k:=by
 unfold Builtin.nextslicecap
 split
 ·omega
 ·simp only [show (1:Nat)<256 from by decide,if_true]
  omega
theorem wp_append_zero {P:Program} {w:World} {o:Oper} {a:Act} {K:Act→World→Prop} {Q:Exit→Act→World→Prop} (s x:Operand) {t e:TypeId} {size bytes:Nat}
  (ho:o.op = .call { callee:=.builtin .append,args:=#[s,x],argTypes:=#[t,t] }) (T:ElemT P t e size bytes)
  {α:Type} {enc:α→List Value} (E:EncT enc size) {ba:Option Addr} {xs:List α} (hs:a.eval s = .slice ba 0 0) (hd:Arr w enc size (.slice ba 0 0) ([]:List α))
  {v2:Value} (hx:a.eval x=v2) (hxs:Arr w enc size v2 xs)
  (hbytes:(0+xs.length) * bytes≤281474976710656) (h63:0+xs.length≤maxLen)
  (h:∀ v' w',Below w.heap.size w w'→((xs=[]∧v' = .slice ba 0 0∧w' = w)∨(xs≠[]∧w'.ownsRow w.heap.size e size v' (0+xs.length) (([]++xs).flatMap enc)))→K (a.put o.dst v') w'):o.wp P a w K Q:=by
 obtain ⟨v',w',hr,h2,h3⟩:=run_append_fit (w:=w) T o.type E hd hxs (by rw [cap0];exact hbytes) h63
 unfold Oper.wp execOp
 simp only [ho,resolve,invoke,builtin,Sem.run_bind,Sem.run_pure,Result.andThen_ok,List.map_toArray,List.map_cons,List.map_nil,hs,hx,hr]
 exact h v' w' h2 h3
theorem wpList_append_one {P:Program} {w:World} {ops:Array Oper} {rest:List Oper} {o:Oper} {a:Act} {Q:Exit→Act→World→Prop} (hgd:o.guard=none) (s x:Operand) {t e:TypeId} {size bytes:Nat}
  (ho:o.op = .call { callee:=.builtin .append,args:=#[s,x],argTypes:=#[t,t] }) (T:ElemT P t e size bytes) (base:Nat)
  {α:Type} {enc:α→List Value} (E:EncT enc size) {ba:Option Addr} {ys:List α} (hs:a.eval s = .slice ba 1 1) (hown:OwnE w base e enc size (.slice ba 1 1) ys)
  {v2:Value} {xs:List α} (hx:a.eval x=v2) (hxs:Arr w enc size v2 xs)
  (hbytes:(2+xs.length) * bytes≤281474976710656) (hbase:base≤w.heap.size)
  (h:∀ v' w',OwnE w' base e enc size v' (ys++xs)→Below base w w'→wpList P ops Q rest (a.put o.dst v') w') (h63:1+xs.length≤maxLen):wpList P ops Q (o :: rest) a w:=by
 refine wpList_plain hgd fun K hK=>?_
 have hl:ys.length=1:=by
  obtain ⟨_,_,hv⟩:=hown.form
  simp only [Value.slice.injEq] at hv
  exact hv.2.1.symm
 obtain ⟨v',w',hr,h2,h3⟩:=run_append_fit (w:=w) T o.type E (hown.arr E) hxs (Nat.le_trans (Nat.mul_le_mul_right _ (cap1 _)) hbytes) h63
 unfold Oper.wp execOp
 simp only [ho,resolve,invoke,builtin,Sem.run_bind,Sem.run_pure,Result.andThen_ok,List.map_toArray,List.map_cons,List.map_nil,hs,hx,hr]
 refine hK _ _ (h v' w' ?_ (h2.mono hbase))
 rcases h3 with ⟨rfl,rfl,rfl⟩ | ⟨_,h3⟩
 ·rw [List.append_nil];exact hown
 ·have e1:1+xs.length=(ys++xs).length:=by rw [List.length_append,hl]
  rw [e1] at h3
  exact OwnE.base (Or.inr h3) hbase
end Go.Proofs.Ytkjeedlkkpgopaa
namespace Go.Proofs.Ytkjeedlkkpgopaa
open Go.RowKit
theorem tI:ElemT Try.prog 33 3 1 8:=by
 refine ⟨Try.underlying33,?_,by decide⟩
 obtain ⟨i0,hi,hz0,hz1,hz2⟩:=info_parts (show (Try.prog.info? 3).map (fun i=>(i.zero,i.size,i.bytes))=some (some (.int .i64 0),1,8) by kernel_rfl)
 exact ⟨i0,_,hi,hz0,hz1,hz2,rfl⟩
theorem tP:ElemT Try.prog 68 98 2 16:=by
 refine ⟨Try.underlying68,?_,by decide⟩
 obtain ⟨i0,hi,hz0,hz1,hz2⟩:=info_parts (show (Try.prog.info? 98).map (fun i=>(i.zero,i.size,i.bytes))=some (some (.agg #[.int .i64 0,.int .i64 0]),2,16) by kernel_rfl)
 exact ⟨i0,_,hi,hz0,hz1,hz2,rfl⟩
def MC.ok (k:Nat) (m:MC):Prop :=
 (m.cell.length+k) * 8≤140737488355328∧(m.stack.length+k) * 8≤281474976710648∧(m.queue.length+k) * 8≤140737488355328∧(m.set.length+k) * 8≤140737488355328∧(m.table.length+k) * 16≤140737488355328
def Apart (x y:Value):Prop:=y.ownBlock=none∨x.ownBlock≠y.ownBlock
def OwnC (w:World) (base:Nat) (v:Value) (m:MC):Prop :=
 ∃ a b c d e,v = .agg #[a,b,c,d,e]∧w.ownsRow base 3 1 a m.cell.length (m.cell.flatMap eI)∧w.ownsRow base 3 1 b m.stack.length (m.stack.flatMap eI) ∧
  w.ownsRow base 3 1 c m.queue.length (m.queue.flatMap eI)∧w.ownsRow base 3 1 d m.set.length (m.set.flatMap eI)∧w.ownsRow base 98 2 e m.table.length (m.table.flatMap eP) ∧
  Apart a c∧Apart b c∧Apart d c∧Apart e c
theorem blk5 {W:World} {n:Nat} {a b c d e:Value} {t:TypeId} (h:W.heap[n]? = some (.cells #[a,b,c,d,e] t)) :
  (W.cell? ⟨n,0,none⟩=some a∧W.cell? ⟨n,1,none⟩=some b∧W.cell? ⟨n,2,none⟩=some c∧W.cell? ⟨n,3,none⟩=some d∧W.cell? ⟨n,4,none⟩=some e) ∧
  (W.frozen? ⟨n,0,none⟩=false∧W.frozen? ⟨n,1,none⟩=false∧W.frozen? ⟨n,2,none⟩=false∧W.frozen? ⟨n,3,none⟩=false∧W.frozen? ⟨n,4,none⟩=false):=by
 refine ⟨⟨?_,?_,?_,?_,?_⟩,?_,?_,?_,?_,?_⟩ <;> first | (rw [cell_of_row W n _ _ t (0,0) h];rfl) | simp [World.frozen?,h]
end Go.Proofs.Ytkjeedlkkpgopaa
