/- DequeSwapsSaid: what its proof is made of. No condition. -/
import Derived.Test.YtcloeignccpljaaPkIDequeSwapsAF
set_option linter.unusedSimpArgs false
set_option linter.unusedVariables false
namespace Go.Proofs.Ytcloeignccpljaa.Z
open Go Go.RowKit
mutual
def SC.ren (σ:Nm→Nm):SC→SC
 | .v x=>.v x
 | .bo e=>.bo e
 | .xv x=>.xv (σ x)
 | .ptr x off=>.ptr (σ x) off
 | .sl x s o n c=>.sl (σ x) s o n c
 | .pe x s e j=>.pe (σ x) s e j
 | .xs x s o n c=>.xs (σ x) s o n c
 | .ep x s e j=>.ep (σ x) s e j
 | .mp x=>.mp (σ x)
 | .ifc t c=>.ifc t (SC.ren σ c)
 | .fn f l r=>.fn f (SC.renL σ l) (SC.renL σ r)
def SC.renL (σ:Nm→Nm):List SC→List SC
 | []=>[]
 | c :: r=>SC.ren σ c :: SC.renL σ r
end
def ren1 (σ:Nm→Nm):Bool×List SC→Bool×List SC
 | (b,l)=>(b,SC.renL σ l)
def ren1L (σ:Nm→Nm):List (Bool×List SC)→List (Bool×List SC)
 | []=>[]
 | p :: l=>ren1 σ p :: ren1L σ l
def SV.ren (σ:Nm→Nm):SV→SV
 | .c x=>.c (x.ren σ)
 | .agg l=>.agg (SC.renL σ l)
 | .tup l=>.tup (ren1L σ l)
 | .gd g w e v=>.gd g w e (v.ren σ)
mutual
def SC.okN (p:Nat→Prop):SC→Prop
 | .v _=>True
 | .bo _=>True
 | .xv x=>p x.1
 | .ptr x _=>p x.1
 | .sl x _ _ _ _=>p x.1
 | .pe x _ _ _=>p x.1
 | .xs x _ _ _ _=>p x.1
 | .ep x _ _ _=>p x.1
 | .mp x=>p x.1
 | .ifc _ c=>SC.okN p c
 | .fn _ l r=>SC.okL p l∧SC.okL p r
def SC.okL (p:Nat→Prop):List SC→Prop
 | []=>True
 | c :: r=>SC.okN p c∧SC.okL p r
end
def ok1L (p:Nat→Prop):List (Bool×List SC)→Prop
 | []=>True
 | q :: l=>SC.okL p q.2∧ok1L p l
def SV.okN (p:Nat→Prop):SV→Prop
 | .c x=>x.okN p
 | .agg l=>SC.okL p l
 | .tup l=>ok1L p l
 | .gd _ _ _ v=>v.okN p
theorem renL_eq (σ:Nm→Nm):∀ l,SC.renL σ l=l.map (SC.ren σ)
 | []=>by simp [SC.renL]
 | c :: r=>by simp [SC.renL,renL_eq σ r]
def SameR (σ:Nm→Nm) (E E2:Env) (x:Nm):Prop:=E2.ρ x=E.ρ (σ x)∧E2.κ x=E.κ (σ x)∧E2.ν x=E.ν (σ x)∧E2.χ x=E.χ (σ x)
section
variable {p:Nat→Prop} {σ:Nm→Nm} {E E2:Env}
mutual
theorem den_ren (h:∀ x:Nm,p x.1→SameR σ E E2 x):∀ (c:SC),c.okN p→c.den E2=(c.ren σ).den E
 | .v x,_=>by simp [SC.den,SC.ren]
 | .bo x,_=>by simp [SC.den,SC.ren]
 | .xv x,hc=>by simp only [SC.den,SC.ren];exact (h x hc).2.2.2
 | .ptr x off,hc=>by simp only [SC.den,SC.ren];rw [(h x hc).1]
 | .sl x s o n c,hc=>by simp only [SC.den,SC.ren];rw [(h x hc).1,(h x hc).2.1,(h x hc).2.2.1]
 | .pe x s e j,hc=>by simp only [SC.den,SC.ren];rw [(h x hc).1]
 | .xs x s o n c,hc=>by simp only [SC.den,SC.ren];rw [(h x hc).2.2.2]
 | .ep x s e j,hc=>by simp only [SC.den,SC.ren];rw [(h x hc).2.2.2]
 | .mp x,hc=>by simp only [SC.den,SC.ren];rw [(h x hc).1]
 | .ifc t c,hc=>by simp only [SC.den,SC.ren];rw [den_ren h c hc]
 | .fn f l r,hc=>by simp only [SC.den,SC.ren];rw [denL_ren h l hc.1,denL_ren h r hc.2]
theorem denL_ren (h:∀ x:Nm,p x.1→SameR σ E E2 x):∀ (l:List SC),SC.okL p l→SC.denL E2 l=SC.denL E (SC.renL σ l)
 | [],_=>by simp [SC.denL,SC.renL]
 | c :: r,hc=>by simp only [SC.denL,SC.renL];rw [den_ren h c hc.1,denL_ren h r hc.2]
end
theorem map_ren (h:∀ x:Nm,p x.1→SameR σ E E2 x) (l:List SC) (hl:SC.okL p l):l.map (SC.den E2)=(SC.renL σ l).map (SC.den E):=by
 rw [← denL_eq,← denL_eq];exact denL_ren h l hl
theorem den1_ren (h:∀ x:Nm,p x.1→SameR σ E E2 x) (q:Bool×List SC) (hq:SC.okL p q.2):den1 E2 q=den1 E (ren1 σ q):=by
 obtain ⟨b,l⟩:=q
 cases b with
 | true=>simp only [den1,ren1];rw [map_ren h l hq]
 | false =>
  cases l with
  | nil=>rfl
  | cons x r=>exact den_ren h x hq.1
theorem tup_ren (h:∀ x:Nm,p x.1→SameR σ E E2 x):∀ (l:List (Bool×List SC)),ok1L p l→l.map (den1 E2)=(ren1L σ l).map (den1 E)
 | [],_=>rfl
 | q :: l,hl=>by simp only [List.map_cons,ren1L];rw [den1_ren h q hl.1,tup_ren h l hl.2]
theorem sv_ren (h:∀ x:Nm,p x.1→SameR σ E E2 x):∀ (v:SV),v.okN p→v.den E2=(v.ren σ).den E
 | .c x,hv=>den_ren h x hv
 | .agg l,hv=>by simp only [SV.den,SV.ren];rw [map_ren h l hv]
 | .tup l,hv=>by simp only [SV.den,SV.ren];rw [tup_ren h l hv]
 | .gd g w e v,hv=>by simp only [SV.den,SV.ren];rw [sv_ren h v hv]
end
def BlkLe (p:Nat→Prop) (σ:Nm→Nm) (b b' : Blk):Prop:=match b',b with
 | .no,.no=>True
 | .bk cs' ty',.bk cs ty=>cs=SC.renL σ cs'∧ty=ty'∧SC.okL p cs'
 | .ar n' s' at' ty',.ar n s at_ ty=>n'≤n∧s=s'∧ty=ty'∧∀ e,e<n'→at_ e=SC.renL σ (at' e)∧SC.okL p (at' e)
 | .mp kk' kd' f',.mp kk kd f=>kk=kk'∧kd=kd'∧∀ a,f a=f' a
 | .pr φ',.pr φ=>∀ E E2,(∀ x:Nm,p x.1→SameR σ E E2 x)→∀ h,φ E h→φ' E2 h
 | _,_=>False
theorem mem_renL {σ:Nm→Nm} {l:List SC} {j:Nat} {u:SC} (h:l[j]? = some u):(SC.renL σ l)[j]? = some (u.ren σ):=by
 rw [renL_eq,List.getElem?_map,h];rfl
theorem okL_mem {p:Nat→Prop}:∀ {l:List SC} {j:Nat} {u:SC},SC.okL p l→l[j]? = some u→u.okN p
 | [],j,u,_,h=>by simp at h
 | c :: r,0,u,hl,h=>by
  simp only [List.getElem?_cons_zero,Option.some.injEq] at h
  subst h
  exact hl.1
 | c :: r,j+1,u,hl,h=>okL_mem hl.2 (by simpa using h)
theorem blk_le {p:Nat→Prop} {σ:Nm→Nm} {E E2:Env} (h:∀ x:Nm,p x.1→SameR σ E E2 x) {x:Nm} (hx:p x.1) {b b' : Blk} (hb:BlkLe p σ b b') {hp:PH} (hd:b.den E (σ x) hp):b'.den E2 x hp:=by
 have hs:=h x hx
 unfold BlkLe at hb
 split at hb
 ·exact hd
 ·obtain ⟨h1,rfl,h3⟩:=hb
  simp only [Blk.den] at hd ⊢
  rw [hd,hs.1,h1,map_ren h _ h3]
 ·obtain ⟨h1,rfl,rfl,h4⟩:=hb
  simp only [Blk.den] at hd ⊢
  rw [hs.1,hs.2.1,hs.2.2.1]
  rcases hd with ⟨g1,g2,g3,g4⟩ | ⟨g1,g2,g3,cells,g4,g5,g6⟩
  ·exact Or.inl ⟨g1,g2,by omega,g4⟩
  ·refine Or.inr ⟨g1,by omega,g3,cells,g4,g5,fun e he=>?_⟩
   obtain ⟨h5,h6⟩:=h4 e he
   obtain ⟨f1,f2⟩:=g6 e (by omega)
   rw [h5] at f1 f2
   refine ⟨by rw [renL_eq,List.length_map] at f1;exact f1,fun j u hu=>?_⟩
   have:=f2 j _ (mem_renL hu)
   rw [den_ren h u (okL_mem h6 hu)]
   exact this
 ·obtain ⟨rfl,rfl,h2⟩:=hb
  simp only [Blk.den] at hd ⊢
  rw [hs.1]
  obtain ⟨es,clock,g1,L,g2,g3,g4,g5⟩:=hd
  exact ⟨es,clock,g1,L,g2,g3,g4,fun a ha=>by rw [← h2];exact g5.1 a ha,g5.2⟩
 ·exact hb E E2 h hp hd
 ·exact hb.elim
def BlkLeO (p:Nat→Prop) (σ:Nm→Nm):Option Blk→Blk→Prop
 | some b,b'=>BlkLe p σ b b'
 | none,_=>False
def OwnLe (p:Nat→Prop) (σ:Nm→Nm) (own:Own):Own→Prop
 | []=>True
 | (i,F) :: r=>(p i∧match F with
  | .one b'=>BlkLeO p σ (atN own (σ (i,0,0))) b'
  | .fam n f=>∀ k,k<n→BlkLeO p σ (atN own (σ (i,k,0))) (f k)
  | .fam2 n m f=>∀ k l,k<n→l<m k→BlkLeO p σ (atN own (σ (i,k,l))) (f k l))∧OwnLe p σ own r
theorem ownLe_at {p:Nat→Prop} {σ:Nm→Nm} {own:Own}:∀ {own' : Own},OwnLe p σ own own'→∀ {x:Nm} {b' : Blk},atN own' x=some b'→p x.1∧∃ b,atN own (σ x)=some b∧BlkLe p σ b b'
 | [],_,x,b',h=>by simp [atN,look] at h
 | (i,F) :: r,hl,x,b',h=>by
  obtain ⟨⟨hp,hF⟩,hr⟩:=hl
  have get:∀ {o:Option Blk} {b' : Blk},BlkLeO p σ o b'→∃ b,o=some b∧BlkLe p σ b b':=by
   intro o b' h
   cases o with
   | none=>exact h.elim
   | some b=>exact ⟨b,rfl,h⟩
  obtain ⟨j,k,l⟩:=x
  simp only [atN,look_cons] at h
  by_cases e:i=j
  ·subst e
   rw [if_pos rfl] at h
   cases F with
   | one c =>
    simp only [Fm.get] at h
    split at h
    ·next e =>
     obtain ⟨rfl,rfl⟩:=e
     cases h
     exact ⟨hp,get hF⟩
    ·cases h
   | fam n f =>
    simp only [Fm.get] at h
    split at h
    ·next e =>
     obtain ⟨hk,rfl⟩:=e
     cases h
     exact ⟨hp,get (hF k hk)⟩
    ·cases h
   | fam2 n m f =>
    simp only [Fm.get] at h
    split at h
    ·next e =>
     cases h
     exact ⟨hp,get (hF k l e.1 e.2)⟩
    ·cases h
  ·rw [if_neg e] at h
   exact ownLe_at hr (x:=(j,k,l)) h
def ArrLe (p:Nat→Prop) (σ:Nm→Nm) (A A' : ArrF):Prop:=A.len=A'.len∧A.size=A'.size∧(∀ e,e<A'.len→A.at_ e=SC.renL σ (A'.at_ e)∧SC.okL p (A'.at_ e))∧A'.low≤A.low
def ArrLeO (p:Nat→Prop) (σ:Nm→Nm):Option ArrF→ArrF→Prop
 | some b,b'=>ArrLe p σ b b'
 | none,_=>False
def ArrsLe (p:Nat→Prop) (σ:Nm→Nm) (arrs:List (Nat×Fm ArrF)):List (Nat×Fm ArrF)→Prop
 | []=>True
 | (i,F) :: r=>(p i∧match F with
  | .one b'=>ArrLeO p σ (atN arrs (σ (i,0,0))) b'
  | .fam n f=>∀ k,k<n→ArrLeO p σ (atN arrs (σ (i,k,0))) (f k)
  | .fam2 n m f=>∀ k l,k<n→l<m k→ArrLeO p σ (atN arrs (σ (i,k,l))) (f k l))∧ArrsLe p σ arrs r
theorem arrsLe_at {p:Nat→Prop} {σ:Nm→Nm} {own:List (Nat×Fm ArrF)}:∀ {own' : List (Nat×Fm ArrF)},ArrsLe p σ own own'→∀ {x:Nm} {b' : ArrF},atN own' x=some b'→p x.1∧∃ b,atN own (σ x)=some b∧ArrLe p σ b b'
 | [],_,x,b',h=>by simp [atN,look] at h
 | (i,F) :: r,hl,x,b',h=>by
  obtain ⟨⟨hp,hF⟩,hr⟩:=hl
  have get:∀ {o:Option ArrF} {b' : ArrF},ArrLeO p σ o b'→∃ b,o=some b∧ArrLe p σ b b':=by
   intro o b' h
   cases o with
   | none=>exact h.elim
   | some b=>exact ⟨b,rfl,h⟩
  obtain ⟨j,k,l⟩:=x
  simp only [atN,look_cons] at h
  by_cases e:i=j
  ·subst e
   rw [if_pos rfl] at h
   cases F with
   | one c =>
    simp only [Fm.get] at h
    split at h
    ·next e =>
     obtain ⟨rfl,rfl⟩:=e
     cases h
     exact ⟨hp,get hF⟩
    ·cases h
   | fam n f =>
    simp only [Fm.get] at h
    split at h
    ·next e =>
     obtain ⟨hk,rfl⟩:=e
     cases h
     exact ⟨hp,get (hF k hk)⟩
    ·cases h
   | fam2 n m f =>
    simp only [Fm.get] at h
    split at h
    ·next e =>
     cases h
     exact ⟨hp,get (hF k l e.1 e.2)⟩
    ·cases h
  ·rw [if_neg e] at h
   exact arrsLe_at hr (x:=(j,k,l)) h
def TmpsLe (p:Nat→Prop) (σ:Nm→Nm) (tmps:List (Nat×SV)):List (Nat×SV)→Prop
 | []=>True
 | (t,v) :: r=>(look tmps t=some (v.ren σ)∧v.okN p)∧TmpsLe p σ tmps r
theorem tmpsLe_at {p:Nat→Prop} {σ:Nm→Nm} {tmps:List (Nat×SV)}:∀ {l:List (Nat×SV)},TmpsLe p σ tmps l→∀ {t:Nat} {v:SV},look l t=some v→look tmps t=some (v.ren σ)∧v.okN p
 | [],_,t,v,h=>by cases h
 | (k,u) :: r,hl,t,v,h=>by
  rw [look_cons] at h
  split at h
  ·next e=>subst e;cases h;exact hl.1
  ·exact tmpsLe_at hl.2 h
def idσ (τ:Nat→Nat) (x:Nm):Nm:=(τ x.1,x.2)
def injL (τ:Nat→Nat) (l:List Nat):Bool:=l.all fun a=>l.all fun b=>!(Nat.beq (τ a) (τ b)) || Nat.beq a b
theorem injL_ok {τ:Nat→Nat} {l:List Nat} (h:injL τ l=true) {a b:Nat} (ha:a∈l) (hb:b∈l) (e:τ a=τ b):a=b:=by
 have h1:=List.all_eq_true.1 (List.all_eq_true.1 h a ha) b hb
 simp only [Bool.or_eq_true,Bool.not_eq_true'] at h1
 rcases h1 with h1 | h1
 ·rw [e] at h1
  have:=Nat.beq_refl (τ b)
  rw [this] at h1
  cases h1
 ·exact Nat.eq_of_beq_eq_true h1
def InjN (σ:Nm→Nm) (own:Own):Prop:=∀ x y b c,atN own x=some b→atN own y=some c→σ x=σ y→x=y
theorem injN_id {τ:Nat→Nat} {own:Own} (h:injL τ (keysL own)=true):InjN (idσ τ) own:=by
 intro x y b c hx hy e
 obtain ⟨F,hF,_⟩:=atN_some hx
 obtain ⟨G,hG,_⟩:=atN_some hy
 unfold idσ at e
 simp only [Prod.mk.injEq] at e
 have:=injL_ok h (look_keysL hF) (look_keysL hG) e.1
 exact Prod.ext this e.2
structure Ren (σ:Nm→Nm) (S S' : St):Prop where
 nt:S'.nt=S.nt
 facts:S'.facts=[]
 tmps:TmpsLe (· < S'.nid) σ S.tmps S'.tmps
 own:OwnLe (· < S'.nid) σ S.own S'.own
 arrs:ArrsLe (· < S'.nid) σ S.arrs S'.arrs
 inj:InjN σ S'.own
def Env.via (E:Env) (σ:Nm→Nm):Env:=⟨fun x=>E.ρ (σ x),fun x=>E.κ (σ x),fun x=>E.ν (σ x),fun x=>E.χ (σ x)⟩
theorem le_nm {C:Ctx} {S S' : St} (σ:Nm→Nm) (h:Ren σ S S'):Le C S S':=by
 intro E a w hs
 refine ⟨E.via σ,fun x=>hs.1 _,fun E2 hE2 ho2=>?_⟩
 have hs:=hs.sat
 have hR:∀ x:Nm,x.1<S'.nid→SameR σ E E2 x:=fun x hx=>hE2 x hx
 obtain ⟨H,hH,hF⟩:=hs.mem
 have hat:∀ x b',atN S'.own x=some b'→x.1<S'.nid∧∃ b,atN S.own (σ x)=some b∧BlkLe (· < S'.nid) σ b b':=fun x b' hx=>ownLe_at h.own hx
 refine ⟨hs.size.trans h.nt.symm,hs.defers,ho2,?_,hs.frame,fun x=>H (σ x),⟨?_,?_,?_⟩,?_⟩
 ·intro t v ht
  obtain ⟨h1,h2⟩:=tmpsLe_at h.tmps ht
  obtain ⟨g1,g2⟩:=hs.tmps t _ h1
  exact ⟨by rw [h.nt];exact g1,by rw [g2,sv_ren hR v h2]⟩
 ·intro x b' hx
  obtain ⟨h1,b,h2,h3⟩:=hat x b' hx
  exact blk_le hR h1 h3 (hH.den _ _ h2)
 ·intro x y b' c' hx hy hne n
  obtain ⟨_,b,h2,_⟩:=hat x b' hx
  obtain ⟨_,c,g2,_⟩:=hat y c' hy
  exact hH.disj _ _ b c h2 g2 (fun e=>hne (h.inj x y b' c' hx hy e)) n
 ·intro x b' hx n o hn
  obtain ⟨_,b,h2,_⟩:=hat x b' hx
  exact hH.sub _ b h2 n o hn
 ·intro w' hw'
  have hold:=hF w' (fun n hn hfr=>hw' n hn (fun x b' hx=>let ⟨_,b,h2,_⟩:=hat x b' hx;hfr _ b h2))
  refine ⟨fun x A' hA=>?_,fun φ hφ=>by rw [h.facts] at hφ;cases hφ⟩
  obtain ⟨h1,A,h2,h3,h4,h5,h6⟩:=arrsLe_at h.arrs hA
  obtain ⟨ba,cap,g1,g2,g3,g4⟩:=hold.1 _ A h2
  refine ⟨ba,cap,by rw [(hR x h1).2.2.2,g1,h3],by omega,g3,?_⟩
  rcases g4 with g4 | ⟨b,off,rfl,gl,g4⟩
  ·exact Or.inl (by omega)
  ·refine Or.inr ⟨b,off,rfl,Nat.le_trans h6 gl,fun k hk=>?_⟩
   obtain ⟨f1,f2⟩:=g4 k (by omega)
   obtain ⟨e1,e2⟩:=h5 k hk
   rw [e1] at f1 f2
   refine ⟨by rw [renL_eq,List.length_map] at f1;omega,fun j u hu=>?_⟩
   have:=f2 j _ (mem_renL hu)
   rw [den_ren hR u (okL_mem e2 hu),← h4]
   exact this
theorem le_ren {C:Ctx} {S S' : St} (τ:Nat→Nat) (h1:S'.nt=S.nt) (h2:S'.facts=[]) (h3:TmpsLe (· < S'.nid) (idσ τ) S.tmps S'.tmps) (h4:OwnLe (· < S'.nid) (idσ τ) S.own S'.own) (h5:ArrsLe (· < S'.nid) (idσ τ) S.arrs S'.arrs) (h6:injL τ (keysL S'.own)=true):Le C S S' :=
 le_nm (idσ τ) ⟨h1,h2,h3,h4,h5,injN_id h6⟩
def mkC (P:Program) (A:List Nat) (w:World) (rs:List RS) (R:Ending→World→Prop):Ctx:=⟨P,mkTab P A,w.heap.size,fun _=>False,w,rs,R⟩
theorem mkC_rs (P:Program) (A:List Nat) (w:World) (rs:List RS) (R:Ending→World→Prop):(mkC P A w rs R).rs=rs:=rfl
theorem below_of {P:Program} {A:List Nat} {w w' : World} {rs:List RS} {R:Ending→World→Prop} {E:Env} {S:St} {a:Act} (hs:Sat (mkC P A w rs R).B (mkC P A w rs R).W (mkC P A w rs R).w0 E S a w'):Below w.heap.size w w' :=
 ⟨hs.frame.os,hs.frame.tape,hs.frame.output,hs.frame.size,fun n hn=>hs.frame.keep n hn (fun h=>h)⟩
theorem inOk_nil {P:Program} {A:List Nat} {w:World} {rs:List RS} {R:Ending→World→Prop} {E:Env}:InOk (mkC P A w rs R) E [] [] [] w :=
 ⟨fun _=>emp,fun x b h=>by simp [atN,look] at h,fun x y b c h=>by simp [atN,look] at h,fun x b h=>by simp [atN,look] at h,fun w' _=>⟨fun x A h=>by simp [atN,look] at h,fun φ h=>by cases h⟩⟩
def RetV (w:World) (v:Value) (e:Ending) (w' : World):Prop:=e = .returned v∧Below w.heap.size w w'
theorem retV {P:Program} {A:List Nat} {w:World} {rs:List RS} {u:Value} {v:SV} {S:St} (hv:∀ E,v.den E=u):RetVC (mkC P A w rs (RetV w u)) v S:=by
 intro E a w' hs
 exact ⟨by rw [hv],below_of hs.sat⟩
theorem cr_retV {C:Ctx} {S:St} {f:Nat} {vs:List SV} (tmpl:SV) (u:Value) (hv:∀ E,tmpl.den E=u) (h:∀ E a w,Sat C.B C.W C.w0 E S a w→Calls C.P f (vs.map (SV.den E)).toArray w (RetV w u)):CR C f vs S [] tmpl 0 [] [] :=
 cr_val tmpl u hv h
def RetN (w:World) (nx:Nat) (T:Nat→SV) (O:Nat→Own) (e:Ending) (w' : World):Prop :=
 ∃ v,e = .returned v∧Below w.heap.size w w'∧∀ b,∃ N:Env,OneC N∧∀ E2,AgreeD (NewIds b nx) N E2→v=(T b).den E2 ∧
  ∃ H:Nm→PH,(∀ x c,atN (O b) x=some c→c.den E2 x (H x))∧(∀ x y c d,atN (O b) x=some c→atN (O b) y=some d→x≠y→∀ n,H x n=none∨H y n=none) ∧
   ∀ x c,atN (O b) x=some c→∀ n o,H x n=some o→w'.heap[n]? = some o∧w.heap.size≤n
theorem cr_retN {C:Ctx} {S:St} {f:Nat} {vs:List SV} (nx:Nat) (T:Nat→SV) (O:Nat→Own) (h:∀ E a w,Sat C.B C.W C.w0 E S a w→Calls C.P f (vs.map (SV.den E)).toArray w (RetN w nx T O)):CR C f vs S [] (T S.nid) nx (O S.nid) []:=by
 intro E a w hs
 refine (h E a w hs).mono ?_
 rintro e w' ⟨v,rfl,hb,hN⟩
 obtain ⟨N,hN1,hN2⟩:=hN S.nid
 refine ⟨v,rfl,N,hN1,fun E2 _ _ hag=>?_⟩
 obtain ⟨h1,H,h2,h3,h4⟩:=hN2 E2 hag
 exact ⟨h1,Fits.G ⟨fun _ _=>⟨hb.os,hb.tape,hb.output,hb.size,fun n hn _=>hb.block n hn,H,h2,h3,fun x c hc n o hn=>⟨(h4 x c hc n o hn).1,Or.inl (h4 x c hc n o hn).2⟩⟩,fun _ _ x A hA=>by simp [atN,look] at hA⟩⟩
def fromσ (b:Nat) (σ:Nat→Nat) (x:Nm):Nm:=(σ (x.1 - b),x.2)
theorem retN {P:Program} {A:List Nat} {w:World} {rs:List RS} {nx:Nat} {T:Nat→SV} {O:Nat→Own} {v:SV} {S:St} (σ:Nat→Nat) (hv:∀ b,v=(T b).ren (fromσ b σ)∧(T b).okN (NewIds b nx))
  (ho:∀ b,OwnLe (NewIds b nx) (fromσ b σ) S.own (O b)) (hi:∀ b,InjN (fromσ b σ) (O b)):RetVC (mkC P A w rs (RetN w nx T O)) v S:=by
 intro E a w' hs
 have hs:=hs.sat
 refine ⟨_,rfl,below_of hs,fun b=>⟨E.via (fromσ b σ),fun x=>hs.one _,fun E2 hE2=>?_⟩⟩
 have hR:∀ x:Nm,NewIds b nx x.1→SameR (fromσ b σ) E E2 x:=fun x hx=>hE2 x hx
 obtain ⟨H,hH,_⟩:=hs.mem
 have hat:∀ x c,atN (O b) x=some c→NewIds b nx x.1∧∃ d,atN S.own (fromσ b σ x)=some d∧BlkLe (NewIds b nx) (fromσ b σ) d c:=fun x c hx=>ownLe_at (ho b) hx
 refine ⟨?_,fun x=>H (fromσ b σ x),?_,?_,?_⟩
 ·rw [sv_ren hR _ (hv b).2,← (hv b).1]
 ·intro x c hx
  obtain ⟨h1,d,h2,h3⟩:=hat x c hx
  exact blk_le hR h1 h3 (hH.den _ _ h2)
 ·intro x y c d hx hy hne n
  obtain ⟨_,c',h2,_⟩:=hat x c hx
  obtain ⟨_,d',g2,_⟩:=hat y d hy
  exact hH.disj _ _ c' d' h2 g2 (fun e=>hne (hi b x y c d hx hy e)) n
 ·intro x c hx n o hn
  obtain ⟨_,c',h2,_⟩:=hat x c hx
  obtain ⟨h3,h4⟩:=hH.sub _ c' h2 n o hn
  refine ⟨h3,?_⟩
  rcases h4 with h4 | h4
  ·exact h4
  ·exact h4.elim
theorem injN_from {b:Nat} {σ:Nat→Nat} {own:Own} (h:∀ i∈keysL own,∀ j∈keysL own,σ (i - b)=σ (j - b)→i=j):InjN (fromσ b σ) own:=by
 intro x y c d hx hy e
 obtain ⟨F,hF,_⟩:=atN_some hx
 obtain ⟨G,hG,_⟩:=atN_some hy
 unfold fromσ at e
 simp only [Prod.mk.injEq] at e
 exact Prod.ext (h _ (look_keysL hF) _ (look_keysL hG) e.1) e.2
theorem both {b:Bool} {A B:Prop} (hA:b=true→A) (hB:b=false→B):(b=true→A)∧(b=false→B):=⟨hA,hB⟩
theorem imp_ft (q:Prop):(false=true→q)=True:=by simp
theorem imp_tf (q:Prop):(true=false→q)=True:=by simp
theorem imp_tt (q:Prop):(true=true→q)=q:=by simp
theorem imp_ff (q:Prop):(false=false→q)=q:=by simp
theorem imp_fn (q:Prop):(false=(!false)→q)=True:=by simp
theorem imp_tn (q:Prop):(true=(!true)→q)=True:=by simp
theorem imp_fy (q:Prop):(true=(!false)→q)=q:=by simp
theorem imp_ty (q:Prop):(false=(!true)→q)=q:=by simp
end Go.Proofs.Ytcloeignccpljaa.Z
namespace Go.Proofs.Ytcloeignccpljaa.Z
open Go Go.RowKit
theorem bt_ite {p:Prop} [Decidable p] {a b:Bool}:((if p then a else b)=true)=((p∧a=true)∨(¬ p∧b=true)):=by by_cases h:p <;> simp [h]
theorem bf_ite {p:Prop} [Decidable p] {a b:Bool}:((if p then a else b)=false)=((p∧a=false)∨(¬ p∧b=false)):=by by_cases h:p <;> simp [h]
theorem bt_dec {p:Prop} [Decidable p]:(decide p=true)=p:=by simp
theorem bf_dec {p:Prop} [Decidable p]:(decide p=false) = ¬ p:=by simp
theorem bt_int {a b:Int}:((a == b)=true)=(a=b):=by simp
theorem bf_int {a b:Int}:((a == b)=false)=(¬ a=b):=by simp
theorem bt_nint {a b:Int}:((a != b)=true)=(¬ a=b):=by simp
theorem bf_nint {a b:Int}:((a != b)=false)=(a=b):=by simp
theorem bt_bool {a b:Bool}:((a == b)=true)=(a=true↔b=true):=by cases a <;> cases b <;> simp
theorem bf_bool {a b:Bool}:((a == b)=false)=(¬ (a=true↔b=true)):=by cases a <;> cases b <;> simp
theorem bt_nbool {a b:Bool}:((a != b)=true)=(¬ (a=true↔b=true)):=by cases a <;> cases b <;> simp
theorem bf_nbool {a b:Bool}:((a != b)=false)=(a=true↔b=true):=by cases a <;> cases b <;> simp
theorem bt_not {a:Bool}:((!a)=true)=(¬ a=true):=by cases a <;> simp
theorem bf_not {a:Bool}:((!a)=false)=(a=true):=by cases a <;> simp
theorem bt_and {a b:Bool}:((a && b)=true)=(a=true∧b=true):=by simp
theorem bf_and {a b:Bool}:((a && b)=false)=(¬ (a=true∧b=true)):=by cases a <;> cases b <;> simp
theorem bt_or {a b:Bool}:((a || b)=true)=(a=true∨b=true):=by simp
theorem bf_or {a b:Bool}:((a || b)=false)=(¬ (a=true∨b=true)):=by cases a <;> cases b <;> simp
theorem b_decR {a:Bool} {p:Prop} [Decidable p]:(a=decide p)=(a=true↔p):=by cases a <;> simp
theorem b_decL {a:Bool} {p:Prop} [Decidable p]:(decide p=a)=(p↔a=true):=by cases a <;> simp
theorem le_refl {C:Ctx} (S:St):Le C S S:=fun E a w h=>⟨E,h⟩
theorem wr64 {n:Int} (h : -9223372036854775808≤n) (h' : n≤9223372036854775807):IntKind.i64.wrap n=n:=IntWalk.i64_in n ⟨h,h'⟩
theorem wr_lit {n:Nat} (h:n≤9223372036854775807):IntKind.i64.wrap (no_index (OfNat.ofNat n))=OfNat.ofNat n:=wr64 (by show (-9223372036854775808:Int)≤(n:Int);omega) (by show ((n:Nat):Int)≤9223372036854775807;omega)
theorem wrU {n:Int} (h:0≤n∧n≤18446744073709551615):IntKind.u64.wrap n=n:=by
 have:IntKind.u64.wrap n=n % 18446744073709551616:=by simp [IntKind.wrap,IntKind.bits,IntKind.signed]
 rw [this];omega
theorem wr_litu {n:Nat} (h:n≤18446744073709551615):IntKind.u64.wrap (no_index (OfNat.ofNat n))=OfNat.ofNat n:=wrU ⟨by show (0:Int)≤(n:Int);omega,by show ((n:Nat):Int)≤18446744073709551615;omega⟩
theorem wr_succ {n:Nat} (h:n<9223372036854775807):IntKind.i64.wrap ((n:Int)+1)=((n+1:Nat):Int):=by rw [wr64 (by omega) (by omega)];omega
theorem arrOf_len {α:Type} (enc:α→List Value) (s:Nat) (xs:List α) (d:α) (l:Nat):(arrOf enc s xs d l).len=xs.length:=rfl
theorem arrOf_size {α:Type} (enc:α→List Value) (s:Nat) (xs:List α) (d:α) (l:Nat):(arrOf enc s xs d l).size=s:=rfl
theorem arrOf_at {α:Type} (enc:α→List Value) (s:Nat) (xs:List α) (d:α) (l k:Nat):(arrOf enc s xs d l).at_ k=(enc (xs.getD k d)).map .v:=rfl
theorem loopI {C:Ctx} {c:IR} {k:List KI} {S:St} {ex:List KI→St→Prop} {ι:Type} (I:ι→St) (μ:ι→Nat) (i:ι) (h:Le C S (I i)) (h' : ∀ i,ex (.code c :: .back ι I μ i :: k) (I i)):LoopVC C c k S ex:=⟨ι,I,μ,i,h,h'⟩
theorem backI {C:Ctx} {ι:Type} {I:ι→St} {μ:ι→Nat} {i:ι} {S:St} (j:ι) (hj:μ j<μ i) (h:Le C S (I j)):BackVC C ι I μ i S:=⟨j,hj,h⟩
theorem inOk_arrs {P:Program} {A:List Nat} {w:World} {rs:List RS} {R:Ending→World→Prop} {E:Env} {arrs:List (Nat×Fm ArrF)} (h:∀ w' : World,(∀ n,n<w.heap.size→w'.heap[n]? = w.heap[n]?)→∀ x A,atN arrs x=some A→ArrAt E w' x A):InOk (mkC P A w rs R) E [] arrs [] w :=
 ⟨fun _=>emp,fun x b h=>by simp [atN,look] at h,fun x y b c h=>by simp [atN,look] at h,fun x b h=>by simp [atN,look] at h,fun w' hw'=>⟨h w' fun n hn=>hw' n hn fun x b hb=>rfl,fun φ h=>by cases h⟩⟩
theorem arr_keep {α:Type} {w w' : World} {enc:α→List Value} {s:Nat} {v:Value} {xs:List α} (h:Arr w enc s v xs) (hk:∀ n,n<w.heap.size→w'.heap[n]? = w.heap[n]?):Arr w' enc s v xs:=by
 refine h.keep fun a u hu=>?_
 have hb:a.block<w.heap.size:=by
  unfold World.cell? at hu
  cases he:w.heap[a.block]? with
  | none=>rw [he] at hu;simp at hu
  | some o=>exact (Array.getElem?_eq_some_iff.1 he).1
 unfold World.cell? at hu ⊢
 rw [hk _ hb]
 exact hu
def TmpsSub (tmps:List (Nat×SV)):List (Nat×SV)→Prop
 | []=>True
 | (t,v) :: r=>look tmps t=some v∧TmpsSub tmps r
theorem tmpsSub_at {tmps:List (Nat×SV)}:∀ {l:List (Nat×SV)},TmpsSub tmps l→∀ {t:Nat} {v:SV},look l t=some v→look tmps t=some v
 | [],_,t,v,h=>by cases h
 | (k,u) :: r,hl,t,v,h=>by
  rw [look_cons] at h
  split at h
  ·next e=>subst e;cases h;exact hl.1
  ·exact tmpsSub_at hl.2 h
theorem le_tmps {C:Ctx} {nt:Nat} {t t' : List (Nat×SV)} {own:Own} {arrs:List (Nat×Fm ArrF)} {facts:List (Env→World→Prop)} {nid:Nat} (h:TmpsSub t t'):Le C ⟨nt,t,own,arrs,facts,nid⟩ ⟨nt,t',own,arrs,facts,nid⟩:=by
 intro E a w hs
 refine ⟨E,hs.1,fun E' hE' ho'=>?_⟩
 have hs:=hs.2 E' hE' ho'
 exact sat_sub (S:=⟨nt,t,own,arrs,facts,nid⟩) (S':=⟨nt,t',own,arrs,facts,nid⟩) ⟨rfl,fun k v hk=>tmpsSub_at h hk,fun _ _ h=>h,fun _ _ h=>h,fun _ h=>h⟩ hs
theorem arr1 {α:Type} {w:World} {enc:α→List Value} {s:Nat} {xs:List α} {d:α} (T:EncT enc s) {i:Nat} {E:Env} {v:Value} (hv:E.χ (i,0,0)=v) (h:Arr w enc s v xs) {w' : World} (hk:∀ n,n<w.heap.size→w'.heap[n]? = w.heap[n]?):ArrAt E w' (i,0,0) (arrOf enc s xs d) :=
 arrAt_of T (by rw [hv];exact arr_keep h hk)
theorem atN_one {α:Type} {i:Nat} {F:α} {r:List (Nat×Fm α)} {x:Nm} {A:α} (h:atN ((i,.one F) :: r) x=some A):(x=(i,0,0)∧A=F)∨atN r x=some A:=by
 obtain ⟨a,b,c⟩:=x
 simp only [atN,look_cons] at h
 split at h
 ·next e =>
  split at e
  ·next e2 =>
   subst e2
   cases e
   simp only [Fm.get] at h
   split at h
   ·next e3=>left;obtain ⟨rfl,rfl⟩:=e3;cases h;exact ⟨rfl,rfl⟩
   ·cases h
  ·next e2 =>
   right
   simp only [atN,e]
   exact h
 ·cases h
theorem atN_nil {α:Type} {x:Nm} {A:α} (h:atN ([]:List (Nat×Fm α)) x=some A):False:=by simp [atN,look] at h
theorem arr_one {α:Type} {w:World} {enc:α→List Value} {s:Nat} {v:Value} {xs:List α} (h:Arr w enc s v xs):v.oneCell' = true:=by
 obtain ⟨ba,cap,rfl,_⟩:=h
 rfl
def E1 (v:Value):Env:=⟨fun _=>0,fun _=>0,fun _=>false,fun _=>v⟩
theorem E1_one {v:Value} (h:v.oneCell' = true):OneC (E1 v):=fun _=>h
def ats {α:Type} (enc:α→List Value) (xs:List α) (d:α) (e:Nat):List SC:=(enc (xs.getD e d)).map .v
def lsT (s n b:Nat):SV:=.c (.sl (b,0,0) s 0 n none)
def lsO {α:Type} (ty s:Nat) (enc:α→List Value) (xs:List α) (d:α) (b:Nat):Own:=[(b,.one (.ar xs.length s (ats enc xs d) ty))]
theorem renL_v (σ:Nm→Nm):∀ l:List Value,SC.renL σ (l.map .v)=l.map .v
 | []=>rfl
 | x :: l=>by simp only [List.map_cons,SC.renL,SC.ren,renL_v σ l]
theorem okL_v (p:Nat→Prop):∀ l:List Value,SC.okL p (l.map .v)
 | []=>trivial
 | x :: l=>⟨trivial,okL_v p l⟩
theorem arrLe_of {α:Type} {p:Nat→Prop} {σ:Nm→Nm} {enc:α→List Value} {s:Nat} {xs:List α} {d:α} {l:Nat}:ArrLe p σ (arrOf enc s xs d l) (arrOf enc s xs d l) :=
 ⟨rfl,rfl,fun e _=>⟨(renL_v _ _).symm,okL_v _ _⟩,Nat.le_refl _⟩
theorem arrLe_lo {α:Type} {p:Nat→Prop} {σ:Nm→Nm} {enc:α→List Value} {s:Nat} {xs:List α} {d:α} {l l' : Nat} (h:l'≤l):ArrLe p σ (arrOf enc s xs d l) (arrOf enc s xs d l') :=
 ⟨rfl,rfl,fun e _=>⟨(renL_v _ _).symm,okL_v _ _⟩,h⟩
theorem arrLe_0 {α:Type} {p:Nat→Prop} {σ:Nm→Nm} {enc:α→List Value} {s:Nat} {xs:List α} {d:α} {l:Nat}:ArrLe p σ (arrOf enc s xs d l) (arrOf enc s xs d):=arrLe_lo (Nat.zero_le _)
theorem dcallV {C:Ctx} {bs f:Nat} {vs:List SV} {dst:Option Nat} {U:List Nat} {Si S:St} {done:List Rec} {ex:List Rec→St→Prop} (tmpl:SV) (u:Value) (hv:∀ E,tmpl.den E=u) (hc:∀ E a w,Sat C.B C.W C.w0 E Si a w→Calls C.P f (vs.map (SV.den E)).toArray w (RetV w u))
  (h:ex (done++[⟨dst,tmpl,[],[],Si.nid,0,keysL Si.own,[],[]⟩]) (S.appN ⟨dst,tmpl,[],[],Si.nid,0,keysL Si.own,[],[]⟩)):DCallVC C bs f vs dst U Si done S ex :=
 dcall_intro (cr_retV tmpl u hv hc) rfl trivial trivial (fun k hk=>by cases hk) h
theorem callV {C:Ctx} {f:Nat} {vs:List SV} {dst:Option Nat} {S:St} {K:St→Prop} (tmpl:SV) (u:Value) (hv:∀ E,tmpl.den E=u) (hc:∀ E a w,Sat C.B C.W C.w0 E S a w→Calls C.P f (vs.map (SV.den E)).toArray w (RetV w u)) (h:K (S.call dst tmpl 0 [] [])):CallVC C f vs dst S K :=
 call_intro (cr_retV tmpl u hv hc) (fun i hi=>by cases hi) h
theorem callN {C:Ctx} {f:Nat} {vs:List SV} {dst:Option Nat} {S:St} {K:St→Prop} (nx:Nat) (T:Nat→SV) (O:Nat→Own) (hc:∀ E a w,Sat C.B C.W C.w0 E S a w→Calls C.P f (vs.map (SV.den E)).toArray w (RetN w nx T O)) (h:K (S.call dst (T S.nid) nx (O S.nid) [])):CallVC C f vs dst S K :=
 call_intro (cr_retN nx T O hc) (fun i hi=>by cases hi) h
end Go.Proofs.Ytcloeignccpljaa.Z
namespace Go.Proofs.Ytcloeignccpljaa.Z
open Go Go.RowKit
theorem holds_of {C:Ctx} {E:Env} {S:St} {a:Act} {w:World} (hs:Sat C.B C.W C.w0 E S a w):Holds E S w:=by
 obtain ⟨H,_,hF⟩:=hs.mem
 exact hF w fun _ _ _=>rfl
theorem arr_own {C:Ctx} {E:Env} {S:St} {a:Act} {w:World} (hs:Sat C.B C.W C.w0 E S a w) {α:Type} {ty s:Nat} {enc:α→List Value} {ys:List α} {d:α} (i k n:Nat) (at_:Nat→List SC) (hi:look S.own i=some (.one (.ar k s at_ ty))) (hn:n=ys.length) (hk:ys.length≤k)
  (ha:∀ e,e<ys.length→at_ e=ats enc ys d e):Arr w enc s ((SC.sl (i,0,0) s 0 n none).den E) ys:=by
 subst hn
 obtain ⟨H,hH,_⟩:=hs.mem
 have hat:atN S.own (i,0,0)=some (.ar k s at_ ty):=by simp [atN,hi,Fm.get]
 rcases ar_heap hH hat with ⟨h1,h2,h3,_⟩ | ⟨h1,h2,h3,cells,h4,h5,h6,h7⟩
 ·have h0:ys=[]:=List.eq_nil_of_length_eq_zero (by omega)
  subst h0
  exact ⟨if E.ν (i,0,0)=true then none else some ⟨E.ρ (i,0,0),0,none⟩,0,by simp [SC.den,h2],Nat.le_refl _,by simp [maxLen],Or.inl rfl⟩
 ·refine ⟨some ⟨E.ρ (i,0,0),0,none⟩,E.κ (i,0,0),by simp [SC.den,h1],by omega,h3,Or.inr ⟨_,_,rfl,fun e y hy j u hu=>?_⟩⟩
  rw [cell_of_row w _ _ _ ty (0,0) h5,Nat.zero_add]
  have he:e<ys.length:=(List.getElem?_eq_some_iff.1 hy).1
  have:=((h7 e (by omega)).2 j (.v u) (by
   rw [ha e he]
   have:ys.getD e d=y:=by rw [List.getD_eq_getElem?_getD,hy];rfl
   simp only [ats,this,List.getElem?_map,hu];rfl)).1
  rw [den_v] at this
  exact this
theorem crv_retV {C:Ctx} {f:Nat} {vs:List SV} {S:St} (tmpl:SV) (u:Value) (hv:∀ E,tmpl.den E=u) (h:∀ E a w,Sat C.B C.W C.w0 E S a w→Calls C.P f (vs.map (SV.den E)).toArray w (RetV w u)):CRv C f vs S tmpl:=by
 intro E a w hs
 refine (h E a w hs).mono ?_
 rintro e w' ⟨rfl,hb⟩
 exact ⟨u,rfl,E,hs.one,fun E2 _ _ _=>⟨(hv E2).symm,Fits.G ⟨fun H _=>effOk_below hb,fun _ _ x A h=>by simp [atN,look] at h⟩⟩⟩
def E2 (v0 v1:Value):Env:=⟨fun _=>0,fun _=>0,fun _=>false,fun x=>if x.1=1 then v1 else v0⟩
theorem enter0 {P:Program} {A:List Nat} {f nt:Nat} {fn:Func} {x:Code} {c:IR} {w:World} {rs:List RS} {R:Ending→World→Prop} (sc:List SV) (args:Array Value)
  (hf:P.funcs[f]? = some fn) (hb:fn.body=some x) (hc:compC (mkTab P A) x=some c.strip) (hr:compR (mkTab P A).T fn.results.toList=some rs) (hn:fn.ntmps=nt)
  (hargs:∀ E',(sc.map (SV.den E')).toArray=args) (hnt:sc.length≤nt)
  (hex:exec (mkC P A w rs R) 1000 [.code c] ⟨nt,enumT 0 sc,[],[],[],0⟩):Calls P f args w R :=
 calls_sym (c:=c) (C:=mkC P A w rs R) 1000 sc (E1 (.bool true)) [] [] [] 0 nt args (mkTab_ok _ _) hf hb hc hr hn rfl rfl (E1_one rfl) (fun E' _=>hargs E') hnt (fun E' _=>inOk_nil) hex
theorem enter1 {P:Program} {A:List Nat} {f nt:Nat} {fn:Func} {x:Code} {c:IR} {w:World} {rs:List RS} {R:Ending→World→Prop} {α:Type} {enc:α→List Value} {s:Nat} {xs:List α} (d:α) {v:Value} (T:EncT enc s) (h:Arr w enc s v xs) (sc:List SV) (args:Array Value)
  (hf:P.funcs[f]? = some fn) (hb:fn.body=some x) (hc:compC (mkTab P A) x=some c.strip) (hr:compR (mkTab P A).T fn.results.toList=some rs) (hn:fn.ntmps=nt)
  (hargs:∀ E',E'.χ (0,0,0)=v→(sc.map (SV.den E')).toArray=args) (hnt:sc.length≤nt)
  (hex:exec (mkC P A w rs R) 1000 [.code c] ⟨nt,enumT 0 sc,[],[(0,.one (arrOf enc s xs d))],[],1⟩):Calls P f args w R:=by
 refine calls_sym (c:=c) (C:=mkC P A w rs R) 1000 sc (E1 v) [] [(0,.one (arrOf enc s xs d))] [] 1 nt args (mkTab_ok _ _) hf hb hc hr hn rfl rfl (E1_one (arr_one h)) (fun E' hE'=>hargs E' ?_) hnt (fun E' hE'=>inOk_arrs fun w' hw' x A hA=>?_) hex
 ·exact (hE' (0,0,0) Nat.zero_lt_one).2.2.2
 ·rcases atN_one hA with ⟨rfl,rfl⟩ | hA
  ·exact arr1 T (hE' (0,0,0) Nat.zero_lt_one).2.2.2 h hw'
  exact (atN_nil hA).elim
end Go.Proofs.Ytcloeignccpljaa.Z
namespace Go.Proofs.Ytcloeignccpljaa.Z
open Go Go.RowKit
theorem le_tr {C:Ctx} {S S' S'' : St} (h:Le C S S') (h' : Le C S' S''):Le C S S'':=fun E a w hs=>by
 obtain ⟨E',hs'⟩:=h E a w hs
 exact h' E' a w hs'
theorem ats_push {α:Type} {enc:α→List Value} {xs ys:List α} {d x:α} {n:Nat} {f g:Nat→List SC} (hy:ys=xs++[x]) (hn:n=xs.length) (hf:∀ e,e<xs.length→f e=ats enc xs d e) (hg:g 0=(enc x).map .v):∀ e,e<ys.length→appAt n f g e=ats enc ys d e:=fun e he=>by
 subst hy
 subst hn
 unfold appAt
 by_cases h:e<xs.length
 ·rw [if_pos h,hf e h]
  simp [ats,List.getD_eq_getElem?_getD,List.getElem?_append_left h]
 ·have:e=xs.length:=by simp at he;omega
  subst this
  rw [if_neg h,Nat.sub_self,hg]
  simp [ats]
theorem arr_at {C:Ctx} {E:Env} {S:St} {a:Act} {w:World} {α:Type} {enc:α→List Value} {s:Nat} {xs:List α} {d:α} {l:Nat} (hs:Sat C.B C.W C.w0 E S a w) (i:Nat) (h:atN S.arrs (i,0,0)=some (arrOf enc s xs d l)):Arr w enc s (E.χ (i,0,0)) xs:=arr_of (d:=d) ((holds_of hs).1 (i,0,0) _ h)
theorem own_at {C:Ctx} {E:Env} {S:St} {a:Act} {w:World} (hs:Sat C.B C.W C.w0 E S a w) {α:Type} {ty s:Nat} {enc:α→List Value} {ys:List α} {d:α} (i n:Nat) (hi:look S.own i=some (.one (.ar ys.length s (ats enc ys d) ty))) (hn:n=ys.length):Arr w enc s ((SC.sl (i,0,0) s 0 n none).den E) ys :=
 arr_own hs i _ n _ hi hn (Nat.le_refl _) fun _ _=>rfl
theorem dcallN {C:Ctx} {bs f:Nat} {vs:List SV} {dst:Option Nat} {U:List Nat} {Si S:St} {done:List Rec} {ex:List Rec→St→Prop} (nx:Nat) (T:Nat→SV) (O:Nat→Own) (hc:∀ E a w,Sat C.B C.W C.w0 E Si a w→Calls C.P f (vs.map (SV.den E)).toArray w (RetN w nx T O))
  (hkeys:newOk Si.nid nx (keysL (O Si.nid)))
  (h:ex (done++[⟨dst,T Si.nid,O Si.nid,[],Si.nid,nx,keysL Si.own,[],[]⟩]) (S.appN ⟨dst,T Si.nid,O Si.nid,[],Si.nid,nx,keysL Si.own,[],[]⟩)):DCallVC C bs f vs dst U Si done S ex :=
 dcall_intro (cr_retN nx T O hc) rfl trivial (by
  have:∀ l:Own,newOk Si.nid nx (keysL l)→wrOk U done Si.nid nx l:=by
   intro l
   induction l with
   | nil=>intro _;trivial
   | cons a l ih =>
    obtain ⟨k,b⟩:=a
    intro h;exact ⟨Or.inl h.1,ih h.2⟩
  exact this _ hkeys) (fun k hk hlt=>absurd (newOk_mem hkeys k hk).1 (by omega)) h
theorem wrI {n:Int} (h : -9223372036854775808≤n∧n≤9223372036854775807):IntKind.i64.wrap n=n:=wr64 h.1 h.2
def keepL' {α:Type} (l:List (Nat×α)):List Nat→List (Nat×α)
 | []=>[]
 | k :: ks=>match look l k with
  | some v=>(k,v) :: keepL' l ks
  | none=>keepL' l ks
def St.keep (S:St) (kt ko ka:List Nat):St:=⟨S.nt,keepL' S.tmps kt,keepL' S.own ko,keepL' S.arrs ka,S.facts,S.nid⟩
end Go.Proofs.Ytcloeignccpljaa.Z
namespace Go.Proofs.Ytcloeignccpljaa.Z
open Go Go.RowKit
theorem den_same {p:Nat→Prop} {E E2:Env} (h:∀ x:Nm,p x.1→Same E E2 x) {v:SV} (hv:v.okN p):v.den E2=v.den E:=by
 have h1:v.den E2=(v.ren id).den E:=sv_ren (σ:=id) (fun x hx=>h x hx) v hv
 have h2:v.den E=(v.ren id).den E:=sv_ren (σ:=id) (fun x _=>⟨rfl,rfl,rfl,rfl⟩) v hv
 rw [h1,h2]
def okVs (p:Nat→Prop):List SV→Prop
 | []=>True
 | v :: l=>v.okN p∧okVs p l
theorem dens_same {p:Nat→Prop} {E E2:Env} (h:∀ x:Nm,p x.1→Same E E2 x):∀ {l:List SV},okVs p l→l.map (SV.den E2)=l.map (SV.den E)
 | [],_=>rfl
 | v :: l,hl=>by rw [List.map_cons,List.map_cons,den_same h hl.1,dens_same h hl.2]
def AgF (n0:Nat) (E0:Env):Env→World→Prop:=fun E _=>AgreeD (· < n0) E0 E
structure TmpOk (E0:Env) (a:Act) (S:St):Prop where
 size:a.tmps.size=S.nt
 defers:a.defers=[]
 tmps:∀ E',AgreeD (· < S.nid) E0 E'→OneC E'→∀ t v,look S.tmps t=some v→t<S.nt∧a.tmps.getD t undef=v.den E'
def InlR (C:Ctx) (S:St) (dst:Option Nat) (K:St→Prop) (E0:Env) (a:Act) (e:Ending) (w' : World):Prop :=
 ∃ u,e = .returned u∧∃ E' S',SatA C.B C.W C.w0 E' S' (a.put dst u) w'∧K S'
def mkI (C:Ctx) (rs:List RS) (S:St) (dst:Option Nat) (K:St→Prop) (E0:Env) (a:Act):Ctx:=⟨C.P,C.tab,C.B,C.W,C.w0,rs,InlR C S dst K E0 a⟩
theorem mkI_rs (C:Ctx) (rs:List RS) (S:St) (dst:Option Nat) (K:St→Prop) (E0:Env) (a:Act):(mkI C rs S dst K E0 a).rs=rs:=rfl
theorem call_inline {C:Ctx} {f:Nat} {vs:List SV} {dst:Option Nat} {S:St} {K:St→Prop} {fn:Func} {x:Code} {c:IR} {rs:List RS} {nt:Nat} (n:Nat) (hT:C.tab.Ok C.P) (hf:C.P.funcs[f]? = some fn) (hb:fn.body=some x) (hc:compC C.tab x=some c.strip) (hr:compR C.tab.T fn.results.toList=some rs) (hn:fn.ntmps=nt)
  (hvs:okVs (· < S.nid) vs) (hnt:vs.length≤nt)
  (hex:∀ E0 a,TmpOk E0 a S→exec (mkI C rs S dst K E0 a) n [.code c] ⟨nt,enumT 0 vs,S.own,S.arrs,AgF S.nid E0 :: S.facts,S.nid⟩):CallVC C f vs dst S K:=by
 intro E a w hs
 subst hn
 have hok:TmpOk E a S:=⟨hs.sat.size,hs.sat.defers,fun E' h1 h2 t v ht=>(hs.2 E' h1 h2).tmps t v ht⟩
 refine calls_of_exec (C:=mkI C rs S dst K E a) (E:=E) n hT hf hb hc hr ⟨hs.1,fun E' h1 h2=>?_⟩ (hex E a hok)
 have hs':=hs.2 E' h1 h2
 have hvv:vs.map (SV.den E')=vs.map (SV.den E):=dens_same (p:=(· < S.nid)) (fun x hx=>h1 x hx) hvs
 refine ⟨by simp;omega,rfl,h2,fun t v ht=>?_,hs'.frame,?_⟩
 ·obtain ⟨j,rfl,hj⟩:=look_enumT vs 0 t v ht
  have hjl:j<vs.length:=(List.getElem?_eq_some_iff.1 hj).1
  refine ⟨by simp only;omega,?_⟩
  simp only [← hvv,Nat.zero_add,Array.getD_eq_getD_getElem?]
  rw [Array.getElem?_append_left (by simpa using hjl)]
  simp [hj]
 ·obtain ⟨H,hH,hF⟩:=hs'.mem
  refine ⟨H,hH,fun w' hw'=>⟨(hF w' hw').1,fun φ hφ=>?_⟩⟩
  cases hφ with
  | head=>exact h1
  | tail _ hφ=>exact (hF w' hw').2 φ hφ
theorem retI {C:Ctx} {rs:List RS} {S S2:St} {dst:Option Nat} {K:St→Prop} {E0:Env} {a:Act} {v:SV} (hok:TmpOk E0 a S) (fs:List (Env→World→Prop)) (hf:S2.facts=AgF S.nid E0 :: fs) (hle:S.nid≤S2.nid) (hv:v.okN (· < S2.nid))
  (hk:K ⟨S.nt,S.putT dst v,S2.own,S2.arrs,fs,S2.nid⟩):RetVC (mkI C rs S dst K E0 a) v S2:=by
 intro E a2 w hs
 refine ⟨_,rfl,E,⟨S.nt,S.putT dst v,S2.own,S2.arrs,fs,S2.nid⟩,⟨hs.1,fun E' h1 h2=>?_⟩,hk⟩
 have hs':=hs.2 E' h1 h2
 obtain ⟨H,hH,hF⟩:=hs'.mem
 have hag:AgreeD (· < S.nid) E0 E':=by
  have:=(hF w fun _ _ _=>rfl).2 (AgF S.nid E0) (by rw [hf];exact List.mem_cons_self)
  exact this
 have hvv:v.den E' = v.den E:=den_same (p:=(· < S2.nid)) (fun x hx=>h1 x hx) hv
 refine ⟨by rw [put_size'];exact hok.size,by rw [put_defers'];exact hok.defers,h2,fun t u ht=>?_,hs'.frame,H,hH,fun w' hw'=>⟨(hF w' hw').1,fun φ hφ=>(hF w' hw').2 φ (by rw [hf];exact List.mem_cons_of_mem _ hφ)⟩⟩
 rw [← hvv]
 cases dst with
 | none=>exact hok.tmps E' hag h2 t u ht
 | some d =>
  simp only [St.putT] at ht
  split at ht
  ·next hd =>
   rw [look_setL] at ht
   split at ht
   ·next e =>
    subst e
    simp only [Option.some.injEq] at ht
    subst ht
    exact ⟨hd,put_same' _ _ _ (by rw [hok.size];exact hd)⟩
   ·next e=>
    obtain ⟨g1,g2⟩:=hok.tmps E' hag h2 t u ht
    exact ⟨g1,by rw [put_other' _ _ _ _ e];exact g2⟩
  ·next hd =>
   obtain ⟨g1,g2⟩:=hok.tmps E' hag h2 t u ht
   exact ⟨g1,by rw [put_other' _ _ _ _ (fun e=>hd (by subst e;exact g1))];exact g2⟩
def FStab (σ:Nm→Nm) (n:Nat) (φ:Env→World→Prop):Prop:=∀ E E2 w,(∀ x:Nm,x.1<n→SameR σ E E2 x)→φ E w→φ E2 w
theorem agF_stab {σ:Nm→Nm} {n n0:Nat} {E0:Env} (hn:n0≤n) (hσ:∀ x:Nm,x.1<n0→σ x=x):FStab σ n (AgF n0 E0):=by
 intro E E2 w h hf x hx
 have h1:=h x (Nat.lt_of_lt_of_le hx hn)
 have h2:=hf x hx
 unfold SameR at h1
 rw [hσ x hx] at h1
 exact h2.trans h1
def FactLe (σ:Nm→Nm) (n:Nat) (fs:List (Env→World→Prop)) (φ:Env→World→Prop):Prop:=∃ φ0∈fs,∀ E E2 w,(∀ x:Nm,x.1<n→SameR σ E E2 x)→φ0 E w→φ E2 w
def FactsLe (σ:Nm→Nm) (n:Nat) (fs:List (Env→World→Prop)):List (Env→World→Prop)→Prop
 | []=>True
 | φ :: l=>FactLe σ n fs φ∧FactsLe σ n fs l
theorem factsLe_mem {σ:Nm→Nm} {n:Nat} {fs:List (Env→World→Prop)}:∀ {l:List (Env→World→Prop)},FactsLe σ n fs l→∀ φ∈l,FactLe σ n fs φ
 | [],_,φ,h=>by cases h
 | ψ :: l,hl,φ,h=>by
  cases h with
  | head=>exact hl.1
  | tail _ h=>exact factsLe_mem hl.2 φ h
theorem fact_stab {σ:Nm→Nm} {n:Nat} {fs:List (Env→World→Prop)} {φ:Env→World→Prop} (h:φ∈fs) (hs:FStab σ n φ):FactLe σ n fs φ:=⟨φ,h,hs⟩
structure RenF (σ:Nm→Nm) (S S' : St):Prop where
 nt:S'.nt=S.nt
 facts:FactsLe σ S'.nid S.facts S'.facts
 tmps:TmpsLe (· < S'.nid) σ S.tmps S'.tmps
 own:OwnLe (· < S'.nid) σ S.own S'.own
 arrs:ArrsLe (· < S'.nid) σ S.arrs S'.arrs
 inj:InjN σ S'.own
theorem le_nmF {C:Ctx} {S S' : St} (σ:Nm→Nm) (h:RenF σ S S'):Le C S S':=by
 intro E a w hs
 refine ⟨E.via σ,fun x=>hs.1 _,fun E2 hE2 ho2=>?_⟩
 have hs:=hs.sat
 have hR:∀ x:Nm,x.1<S'.nid→SameR σ E E2 x:=fun x hx=>hE2 x hx
 obtain ⟨H,hH,hF⟩:=hs.mem
 have hat:∀ x b',atN S'.own x=some b'→x.1<S'.nid∧∃ b,atN S.own (σ x)=some b∧BlkLe (· < S'.nid) σ b b':=fun x b' hx=>ownLe_at h.own hx
 refine ⟨hs.size.trans h.nt.symm,hs.defers,ho2,?_,hs.frame,fun x=>H (σ x),⟨?_,?_,?_⟩,?_⟩
 ·intro t v ht
  obtain ⟨h1,h2⟩:=tmpsLe_at h.tmps ht
  obtain ⟨g1,g2⟩:=hs.tmps t _ h1
  exact ⟨by rw [h.nt];exact g1,by rw [g2,sv_ren hR v h2]⟩
 ·intro x b' hx
  obtain ⟨h1,b,h2,h3⟩:=hat x b' hx
  exact blk_le hR h1 h3 (hH.den _ _ h2)
 ·intro x y b' c' hx hy hne n
  obtain ⟨_,b,h2,_⟩:=hat x b' hx
  obtain ⟨_,c,g2,_⟩:=hat y c' hy
  exact hH.disj _ _ b c h2 g2 (fun e=>hne (h.inj x y b' c' hx hy e)) n
 ·intro x b' hx n o hn
  obtain ⟨_,b,h2,_⟩:=hat x b' hx
  exact hH.sub _ b h2 n o hn
 ·intro w' hw'
  have hold:=hF w' (fun n hn hfr=>hw' n hn (fun x b' hx=>let ⟨_,b,h2,_⟩:=hat x b' hx;hfr _ b h2))
  refine ⟨fun x A' hA=>?_,fun φ hφ=>let ⟨φ0,h0,h1⟩:=factsLe_mem h.facts φ hφ;h1 E E2 w' hR (hold.2 φ0 h0)⟩
  obtain ⟨h1,A,h2,h3,h4,h5,h6⟩:=arrsLe_at h.arrs hA
  obtain ⟨ba,cap,g1,g2,g3,g4⟩:=hold.1 _ A h2
  refine ⟨ba,cap,by rw [(hR x h1).2.2.2,g1,h3],by omega,g3,?_⟩
  rcases g4 with g4 | ⟨b,off,rfl,gl,g4⟩
  ·exact Or.inl (by omega)
  ·refine Or.inr ⟨b,off,rfl,Nat.le_trans h6 gl,fun k hk=>?_⟩
   obtain ⟨f1,f2⟩:=g4 k (by omega)
   obtain ⟨e1,e2⟩:=h5 k hk
   rw [e1] at f1 f2
   refine ⟨by rw [renL_eq,List.length_map] at f1;omega,fun j u hu=>?_⟩
   have:=f2 j _ (mem_renL hu)
   rw [den_ren hR u (okL_mem e2 hu),← h4]
   exact this
theorem le_renF {C:Ctx} {S S' : St} (τ:Nat→Nat) (h1:S'.nt=S.nt) (h2:FactsLe (idσ τ) S'.nid S.facts S'.facts) (h3:TmpsLe (· < S'.nid) (idσ τ) S.tmps S'.tmps) (h4:OwnLe (· < S'.nid) (idσ τ) S.own S'.own) (h5:ArrsLe (· < S'.nid) (idσ τ) S.arrs S'.arrs) (h6:injL τ (keysL S'.own)=true):Le C S S' :=
 le_nmF (idσ τ) ⟨h1,h2,h3,h4,h5,injN_id h6⟩
theorem factA {τ:Nat→Nat} {n n0:Nat} {E0:Env} {fs:List (Env→World→Prop)} (h:AgF n0 E0∈fs) (hn:n0≤n) (hτ:∀ i,i<n0→τ i=i):FactLe (idσ τ) n fs (AgF n0 E0) :=
 fact_stab h (agF_stab hn fun x hx=>by unfold idσ;rw [hτ _ hx])
def RetB (w:World) (Pre:World→Prop) (nx:Nat) (T:Nat→SV) (A:Nat→List (Nat×Fm ArrF)) (e:Ending) (w' : World):Prop :=
 ∃ v,e = .returned v∧Below w.heap.size w w'∧∀ b,∃ N:Env,OneC N∧∀ E2,AgreeD (NewIds b nx) N E2→v=(T b).den E2 ∧
  ∀ w'' : World,Pre w''→(∀ n,w.heap.size≤n→n<w'.heap.size→w''.heap[n]? = w'.heap[n]?)→∀ x A',atN (A b) x=some A'→ArrAt E2 w'' x A'
def ArrF.lo (l:Nat) (A:ArrF):ArrF:=⟨A.len,A.size,A.at_,l⟩
def loFm (l:Nat):Fm ArrF→Fm ArrF
 | .one A=>.one (A.lo l)
 | .fam n f=>.fam n fun k=>(f k).lo l
 | .fam2 n m f=>.fam2 n m fun k j=>(f k j).lo l
def lowL (l:Nat):List (Nat×Fm ArrF)→List (Nat×Fm ArrF)
 | []=>[]
 | (i,F) :: r=>(i,loFm l F) :: lowL l r
theorem atN_lowL {l:Nat}:∀ {L:List (Nat×Fm ArrF)} {x:Nm} {A' : ArrF},atN (lowL l L) x=some A'→∃ A,atN L x=some A∧A' = A.lo l
 | [],x,A',h=>by simp [lowL,atN,look] at h
 | (i,F) :: r,(j,k,m),A',h=>by
  simp only [lowL,atN,look_cons] at h ⊢
  by_cases e:i=j
  ·subst e
   rw [if_pos rfl] at h
   rw [if_pos rfl]
   cases F with
   | one A =>
    simp only [loFm,Fm.get] at h ⊢
    split at h
    ·next e=>rw [if_pos e];cases h;exact ⟨_,rfl,rfl⟩
    ·cases h
   | fam n f =>
    simp only [loFm,Fm.get] at h ⊢
    split at h
    ·next e=>rw [if_pos e];cases h;exact ⟨_,rfl,rfl⟩
    ·cases h
   | fam2 n g f =>
    simp only [loFm,Fm.get] at h ⊢
    split at h
    ·next e=>rw [if_pos e];cases h;exact ⟨_,rfl,rfl⟩
    ·cases h
  ·rw [if_neg e] at h
   rw [if_neg e]
   exact atN_lowL (L:=r) (x:=(j,k,m)) h
theorem arrAt_low {E:Env} {w w' : World} {x:Nm} {A:ArrF} {B l:Nat} (hl:l≤B) (hs:0<A.size) (h:∀ w'' : World,(∀ n,B≤n→n<w'.heap.size→w''.heap[n]? = w'.heap[n]?)→ArrAt E w'' x A) :
  ∀ w'' : World,(∀ n,B≤n→n<w'.heap.size→w''.heap[n]? = w'.heap[n]?)→ArrAt E w'' x (A.lo l):=fun w'' hw''=>by
 obtain ⟨ba,cap,h1,h2,h3,h4⟩:=h w'' hw''
 refine ⟨ba,cap,h1,h2,h3,?_⟩
 rcases h4 with h4 | ⟨b,off,rfl,_,h4⟩
 ·exact Or.inl h4
 by_cases h0:A.len=0
 ·exact Or.inl h0
 refine Or.inr ⟨b,off,rfl,Nat.le_trans hl (Nat.le_of_not_lt fun hb=>?_),h4⟩
 have hw3:∀ n,(w'.heap.mapIdx fun i o=>if i<B then Obj.map #[] 0 else o)[n]? = (w'.heap[n]?).map fun o=>if n<B then Obj.map #[] 0 else o:=fun n=>by
  rw [Array.getElem?_mapIdx]
 obtain ⟨ba',cap',g1,g2,g3,g4⟩:=h { w' with heap:=w'.heap.mapIdx fun i o=>if i<B then Obj.map #[] 0 else o } fun n hn hlt=>by
  show (w'.heap.mapIdx fun i o=>if i<B then Obj.map #[] 0 else o)[n]? = _
  rw [hw3]
  simp [Nat.not_lt_of_le hn]
 rw [h1] at g1
 simp only [Value.slice.injEq] at g1
 obtain ⟨rfl,_,rfl⟩:=g1
 rcases g4 with g4 | ⟨b',off',e,_,g4⟩
 ·exact h0 g4
 simp only [Option.some.injEq,Addr.mk.injEq] at e
 obtain ⟨rfl,rfl,_⟩:=e
 obtain ⟨f1,f2⟩:=g4 0 (by omega)
 have hu:(A.at_ 0)[0]? = some ((A.at_ 0)[0]'(by omega)):=List.getElem?_eq_getElem (by omega)
 have h5:=(f2 0 _ hu).1
 unfold World.cell? at h5
 simp only [hw3,if_pos hb] at h5
 cases hh:w'.heap[b]? with
 | none=>rw [hh] at h5;simp at h5
 | some o=>rw [hh] at h5;simp at h5
theorem RetB.low {w w' : World} {nx:Nat} {T:Nat→SV} {A:Nat→List (Nat×Fm ArrF)} {e:Ending} {l:Nat} (hl:l≤w.heap.size) (hs:∀ b x A',atN (A b) x=some A'→0<A'.size) (h:RetB w (fun _=>True) nx T A e w'):RetB w (fun _=>True) nx T (fun b=>lowL l (A b)) e w':=by
 obtain ⟨v,rfl,hb,h⟩:=h
 refine ⟨v,rfl,hb,fun b=>?_⟩
 obtain ⟨N,h1,h2⟩:=h b
 refine ⟨N,h1,fun E2 hE=>?_⟩
 obtain ⟨h3,h4⟩:=h2 E2 hE
 refine ⟨h3,fun w'' _ hw'' x A' hx=>?_⟩
 obtain ⟨A0,h5,rfl⟩:=atN_lowL hx
 exact arrAt_low (w:=w') hl (hs b x A0 h5) (fun w3 hw3=>h4 w3 trivial hw3 x A0 h5) w'' hw''
end Go.Proofs.Ytcloeignccpljaa.Z
namespace Go.Proofs.Ytcloeignccpljaa.D
open Go
abbrev u64 (x:Int):Int:=IntKind.u64.wrap x
abbrev i64 (x:Int):Int:=IntKind.i64.wrap x
structure Ac where
 mv:Int
 th:Int
 kd:Int
 ad:Int
 old:Int
 new:Int
 saw:Int
 deriving DecidableEq
def Ac.enc (a:Ac):List Value:=[.int .i64 a.mv,.int .i64 a.th,.int .i64 a.kd,.int .i64 a.ad,.int .u64 a.old,.int .u64 a.new,.int .u64 a.saw]
def ac0:Ac:=⟨0,0,0,0,0,0,0⟩
structure Ca where
 th:Int
 op:Int
 arg:Int
 data:Int
 bg:Int
 en:Int
 pt:Int
 ak:Int
 av:Int
 deriving DecidableEq
def Ca.enc (c:Ca):List Value:=[.int .i64 c.th,.int .i64 c.op,.int .i64 c.arg,.int .i64 c.data,.int .i64 c.bg,.int .i64 c.en,.int .i64 c.pt,.int .i64 c.ak,.int .i64 c.av]
def ca0:Ca:=⟨0,0,0,0,0,0,0,0,0⟩
structure Mo where
 th:Int
 op:Int
 arg:Int
 data:Int
 deriving DecidableEq
structure Tk where
 kd:Nat
 ln:Nat
 b:Int
 t:Int
 v:Int
 got:Bool
 deriving DecidableEq
structure Se where
 tk:Option Tk
 rd:Bool
 la:Int
 ak:Int
 av:Int
 deriving DecidableEq
def se0:Se:=⟨none,false,-1,0,0⟩
structure Pm where
 room:Int
 W:List Int
 L:List Ac
 A:List Int
 mm:Int
 th:Int
 nw:Int
 us:Bool
 S:List Se
 mv:Int
 C:List Ca
 top:Int
 last:Bool
 rk:Int
 at_:Int
 deriving DecidableEq
def opn (m:Pm) (a:Int):Bool:=!m.us && decide (0≤a) && decide (a<m.W.length)
def wd (m:Pm) (a:Int):Int:=m.W.getD a.toNat 0
def load (m:Pm) (a:Int):Pm×Int :=
 if opn m a=true then ({ m with us:=true,L:=m.L++[⟨m.mm,m.th,1,a,0,0,wd m a⟩],A:=m.A++[wd m a] },wd m a) else (m,0)
def store (m:Pm) (a w:Int):Pm :=
 if opn m a=true then { m with us:=true,L:=m.L++[⟨m.mm,m.th,2,a,0,w,0⟩],A:=m.A++[wd m a],W:=m.W.set a.toNat w } else m
def swap (m:Pm) (a old w:Int):Pm×Bool :=
 if opn m a=true then
  if wd m a=old then ({ m with us:=true,L:=m.L++[⟨m.mm,m.th,3,a,old,w,wd m a⟩],A:=m.A++[wd m a],W:=m.W.set a.toNat w },true)
  else ({ m with us:=true,L:=m.L++[⟨m.mm,m.th,3,a,old,w,wd m a⟩],A:=m.A++[wd m a] },false)
 else (m,false)
def point (m:Pm) (i:Nat) (x:Int):Pm:={ m with C:=m.C.set (m.S.getD i se0).la.toNat { m.C.getD (m.S.getD i se0).la.toNat ca0 with pt:=x } }
def ans (m:Pm) (i:Nat) (k v:Int):Pm:={ m with S:=m.S.set i { m.S.getD i se0 with ak:=k,av:=v } }
def cellA (m:Pm) (x:Int):Int:=i64 (2+x.tmod m.room)
def pushT (m:Pm) (i:Nat) (k:Tk):Pm×Tk×Bool :=
 match k.ln with
 | 1=>((load m 1).1,{ k with b:=i64 (load m 1).2,ln:=2 },false)
 | 2 =>
  if i64 (k.b - i64 (load m 0).2)≥m.room then (ans (point (load m 0).1 i m.nw) i 4 0,k,true) else ((load m 0).1,{ k with ln:=3 },false)
 | 3=>(store m (cellA m k.b) (u64 k.v),{ k with ln:=4 },false)
 | 4=>(ans (point (store m 1 (u64 (i64 (k.b+1)))) i m.nw) i 1 0,k,true)
 | _=>(m,k,false)
def takeT (m:Pm) (i:Nat) (k:Tk):Pm×Tk×Bool :=
 match k.ln with
 | 1=>((load m 1).1,{ k with b:=i64 (i64 (load m 1).2 - 1),ln:=2 },false)
 | 2=>({ point (store m 1 (u64 k.b)) i m.nw with last:=decide (m.top=k.b),rk:=k.b,at_:=m.nw },{ k with ln:=3 },false)
 | 3 =>
  if k.b<i64 (load m 0).2 then (point (load m 0).1 i m.nw,{ k with t:=i64 (load m 0).2,ln:=4 },false) else ((load m 0).1,{ k with t:=i64 (load m 0).2,ln:=5 },false)
 | 4=>(ans { store m 1 (u64 k.t) with last:=false } i 3 0,k,true)
 | 5 =>
  if k.t<k.b then (ans { (load m (cellA m k.b)).1 with last:=false } i 2 (i64 (load m (cellA m k.b)).2),{ k with v:=i64 (load m (cellA m k.b)).2 },true) else ((load m (cellA m k.b)).1,{ k with v:=i64 (load m (cellA m k.b)).2,ln:=6 },false)
 | 6 =>
  if (swap m 0 (u64 k.t) (u64 (i64 (k.t+1)))).2=true then ({ (swap m 0 (u64 k.t) (u64 (i64 (k.t+1)))).1 with top:=i64 (k.t+1) },{ k with got:=true,ln:=7 },false) else (point (swap m 0 (u64 k.t) (u64 (i64 (k.t+1)))).1 i m.nw,{ k with got:=false,ln:=7 },false)
 | 7 =>
  if k.got=true then (ans ({ store m 1 (u64 (i64 (k.t+1))) with last:=false }:Pm) i 2 k.v,k,true) else (ans ({ store m 1 (u64 (i64 (k.t+1))) with last:=false }:Pm) i 3 0,k,true)
 | _=>(m,k,false)
def stealT (m:Pm) (i:Nat) (k:Tk):Pm×Tk×Bool :=
 match k.ln with
 | 1=>((load m 0).1,{ k with t:=i64 (load m 0).2,ln:=2 },false)
 | 2 =>
  if i64 (load m 1).2≤k.t then (ans (point (load m 1).1 i m.nw) i 3 0,k,true) else ((load m 1).1,{ k with ln:=3 },false)
 | 3=>((load m (cellA m k.t)).1,{ k with v:=i64 (load m (cellA m k.t)).2,ln:=4 },false)
 | 4 =>
  if (swap m 0 (u64 k.t) (u64 (i64 (k.t+1)))).2=true then (ans (point { (swap m 0 (u64 k.t) (u64 (i64 (k.t+1)))).1 with top:=i64 (k.t+1) } i (if m.last=true∧k.t=m.rk then m.at_ else m.nw)) i 2 k.v,k,true) else ((swap m 0 (u64 k.t) (u64 (i64 (k.t+1)))).1,{ k with ln:=1 },false)
 | _=>(m,k,false)
def taskT (m:Pm) (i:Nat) (k:Tk):Pm×Tk×Bool:=if k.kd=0 then pushT m i k else if k.kd=1 then takeT m i k else stealT m i k
def setTk (m:Pm) (i:Nat) (k:Option Tk):Pm:={ m with S:=m.S.set i { m.S.getD i se0 with tk:=k } }
def begS (m:Pm) (i:Nat) (now:Int):Pm:={ m with th:=i,nw:=now,us:=false,mm:=now,S:=m.S.set i { m.S.getD i se0 with rd:=true } }
def begK (m:Pm) (i:Nat) (k:Tk):Tk:=if (m.S.getD i se0).rd=true then k else { k with ln:=1 }
def endS (m:Pm) (i:Nat) (now:Int):Pm:={ m with C:=m.C.set (m.S.getD i se0).la.toNat { m.C.getD (m.S.getD i se0).la.toNat ca0 with en:=now,ak:=(m.S.getD i se0).ak,av:=(m.S.getD i se0).av },S:=m.S.set i { m.S.getD i se0 with tk:=none } }
def stepM (m:Pm) (i:Nat) (k:Tk) (now:Int):Pm :=
 if (taskT (begS m i now) i (begK m i k)).2.2=true then endS (taskT (begS m i now) i (begK m i k)).1 i now
 else setTk (taskT (begS m i now) i (begK m i k)).1 i (some (taskT (begS m i now) i (begK m i k)).2.1)
def make (th op arg:Int):Option Tk :=
 if op=90 then (if th=0 then some ⟨0,0,0,0,arg,false⟩ else none)
 else if op=91 then (if th=0 then some ⟨1,0,0,0,0,false⟩ else none)
 else if op=92 then some ⟨2,0,0,0,0,false⟩ else none
def begM (m:Pm) (x:Mo) (k:Tk):Pm :=
 { m with mv:=m.mv+1,S:=m.S.set x.th.toNat ⟨some k,false,m.C.length,1,0⟩,C:=m.C++[⟨x.th,x.op,x.arg,x.data,m.mv,-1,-1,0,0⟩] }
def moveM (m:Pm) (x:Mo):Pm×Bool :=
 if m.S.length=0∨m.mv≥65536 then (m,false)
 else if x.th<0∨x.th≥m.S.length then ({ m with mv:=m.mv+1 },false)
 else match (m.S.getD x.th.toNat se0).tk with
  | some k=>if x.op=0 then (stepM { m with mv:=m.mv+1 } x.th.toNat k m.mv,true) else ({ m with mv:=m.mv+1 },false)
  | none=>if x.op=0 then ({ m with mv:=m.mv+1 },false) else match make x.th x.op x.arg with
   | some k=>(begM m x k,true)
   | none=>({ m with mv:=m.mv+1 },false)
def newM (threads room:Int):Pm:=⟨room,List.replicate (2+room).toNat 0,[],[],0,0,0,false,List.replicate threads.toNat se0,0,[],0,false,0,0⟩
def runM (m:Pm):List Mo→Pm
 | []=>m
 | x :: l=>runM (moveM m x).1 l
end Go.Proofs.Ytcloeignccpljaa.D
namespace Go.Proofs.Ytcloeignccpljaa.D
open Go
theorem u64_eq (x:Int):u64 x=x % 18446744073709551616:=by
 simp [u64,IntKind.wrap,IntKind.bits,IntKind.signed]
theorem i64_eq (x:Int):i64 x=if 9223372036854775808≤x % 18446744073709551616 then x % 18446744073709551616 - 18446744073709551616 else x % 18446744073709551616:=by
 simp [i64,IntKind.wrap,IntKind.bits,IntKind.signed]
theorem u64_rg (x:Int):0≤u64 x∧u64 x<18446744073709551616:=by
 rw [u64_eq];omega
theorem i64_id {x:Int} (h0 : -9223372036854775808≤x) (h1:x<9223372036854775808):i64 x=x:=by
 rw [i64_eq];split <;> omega
theorem i64_u64 (x:Int):i64 (u64 x)=i64 x:=by
 rw [i64_eq,i64_eq,u64_eq];split <;> split <;> omega
section
variable (m:Pm) (a w o:Int) (i:Nat)
theorem load_S:(load m a).1.S=m.S:=by unfold load;split <;> rfl
theorem load_C:(load m a).1.C=m.C:=by unfold load;split <;> rfl
theorem load_W:(load m a).1.W=m.W:=by unfold load;split <;> rfl
theorem load_mv:(load m a).1.mv=m.mv:=by unfold load;split <;> rfl
theorem store_S:(store m a w).S=m.S:=by unfold store;split <;> rfl
theorem store_C:(store m a w).C=m.C:=by unfold store;split <;> rfl
theorem store_mv:(store m a w).mv=m.mv:=by unfold store;split <;> rfl
theorem store_Wl:(store m a w).W.length=m.W.length:=by unfold store;split <;> simp
theorem swap_S:(swap m a o w).1.S=m.S:=by unfold swap;split <;> (try split) <;> rfl
theorem swap_C:(swap m a o w).1.C=m.C:=by unfold swap;split <;> (try split) <;> rfl
theorem swap_mv:(swap m a o w).1.mv=m.mv:=by unfold swap;split <;> (try split) <;> rfl
theorem swap_Wl:(swap m a o w).1.W.length=m.W.length:=by unfold swap;split <;> (try split) <;> simp
end
def WOk (W:List Int):Prop:=∀ x∈W,0≤x∧x<18446744073709551616
theorem WOk.set {W:List Int} (h:WOk W) (n:Nat) (x:Int):WOk (W.set n (u64 x)):=fun y hy=>by
 rcases List.mem_or_eq_of_mem_set hy with h' | rfl
 ·exact h y h'
 ·exact u64_rg x
theorem WOk.wd {m:Pm} (h:WOk m.W) (a:Int):0≤wd m a∧wd m a<18446744073709551616:=by
 unfold D.wd
 rw [List.getD_eq_getElem?_getD]
 cases e:m.W[a.toNat]? with
 | none=>simp
 | some x=>exact h x (List.mem_of_getElem? e)
theorem store_ok {m:Pm} {a x:Int} (h:WOk m.W):WOk (store m a (u64 x)).W:=by unfold store;split <;> first | exact h.set _ _ | exact h
theorem swap_ok {m:Pm} {a o x:Int} (h:WOk m.W):WOk (swap m a o (u64 x)).1.W:=by unfold swap;split <;> (try split) <;> first | exact h.set _ _ | exact h
def LnOk (k:Tk):Prop:=k.kd≤2∧k.ln≤(if k.kd=1 then 7 else 4)
structure Inv (m:Pm):Prop where
 w:WOk m.W
 wl:2≤m.W.length
 t:∀ i k,(m.S.getD i se0).tk=some k→LnOk k∧((m.S.getD i se0).rd=true→1≤k.ln)
theorem task_S (m:Pm) (i:Nat) (k:Tk):(taskT m i k).1.S.length=m.S.length∧∀ j,((taskT m i k).1.S.getD j se0).rd=(m.S.getD j se0).rd∧((taskT m i k).1.S.getD j se0).tk=(m.S.getD j se0).tk∧((taskT m i k).1.S.getD j se0).la=(m.S.getD j se0).la:=by
 have hs:∀ (n:Pm) (a b:Int),n.S=m.S→(ans n i a b).S.length=m.S.length∧∀ j,((ans n i a b).S.getD j se0).rd=(m.S.getD j se0).rd∧((ans n i a b).S.getD j se0).tk=(m.S.getD j se0).tk∧((ans n i a b).S.getD j se0).la=(m.S.getD j se0).la:=by
  intro n a b e
  simp only [ans,e,List.length_set,true_and]
  intro j
  simp only [List.getD_eq_getElem?_getD,List.getElem?_set]
  by_cases q:i=j
  ·subst q
   by_cases hl:i<m.S.length
   ·simp [hl]
   ·simp [hl]
  ·simp [q]
 have h0:∀ n:Pm,n.S=m.S→n.S.length=m.S.length∧∀ j,(n.S.getD j se0).rd=(m.S.getD j se0).rd∧(n.S.getD j se0).tk=(m.S.getD j se0).tk∧(n.S.getD j se0).la=(m.S.getD j se0).la:=fun n e=>by rw [e];simp
 unfold taskT pushT takeT stealT
 repeat' split
 all_goals first
  | exact hs _ _ _ (by simp only [point,load_S,store_S,swap_S])
  | exact h0 _ (by simp only [point,load_S,store_S,swap_S])
theorem task_W (m:Pm) (i:Nat) (k:Tk) (h:WOk m.W):WOk (taskT m i k).1.W∧(taskT m i k).1.W.length=m.W.length:=by
 unfold taskT pushT takeT stealT
 repeat' split
 all_goals simp only [ans,point,load_W,store_Wl,swap_Wl,and_true]
 all_goals first | exact h | exact store_ok h | exact swap_ok h
theorem task_ln (m:Pm) (i:Nat) (k:Tk) (h:LnOk k) (h1:1≤k.ln) (ho:(taskT m i k).2.2=false):LnOk (taskT m i k).2.1∧1≤(taskT m i k).2.1.ln∧(taskT m i k).2.1.kd=k.kd:=by
 obtain ⟨kd,ln,b,t,v,got⟩:=k
 obtain ⟨hk,hl⟩:=h
 simp only at hk hl h1
 unfold taskT pushT takeT stealT at ho ⊢
 simp only at ho ⊢
 repeat' split at ho
 all_goals first
  | (exfalso;revert ho;simp;done)
  | (simp_all only [if_pos,if_false,LnOk];simp_all;try omega)
end Go.Proofs.Ytcloeignccpljaa.D
namespace Go.Proofs.Ytcloeignccpljaa.D
open Go
theorem set_getD {α:Type} (l:List α) (i j:Nat) (x d:α) (hi:i<l.length):(l.set i x).getD j d=if i=j then x else l.getD j d:=by
 simp only [List.getD_eq_getElem?_getD,List.getElem?_set]
 split
 ·next e=>subst e;simp [hi]
 ·rfl
theorem step_seat {m:Pm} {i:Nat} {k:Tk} {now:Int} (hi:i<m.S.length):(stepM m i k now).S.length=m.S.length∧(stepM m i k now).W=(taskT (begS m i now) i (begK m i k)).1.W ∧
  ((stepM m i k now).S.getD i se0).tk=(if (taskT (begS m i now) i (begK m i k)).2.2=true then none else some (taskT (begS m i now) i (begK m i k)).2.1)∧((stepM m i k now).S.getD i se0).rd=true ∧
  ∀ j,j≠i→((stepM m i k now).S.getD j se0).rd=(m.S.getD j se0).rd∧((stepM m i k now).S.getD j se0).tk=(m.S.getD j se0).tk:=by
 obtain ⟨h1,h2⟩:=task_S (begS m i now) i (begK m i k)
 have hl:(begS m i now).S.length=m.S.length:=by simp [begS]
 have h0:∀ j,(begS m i now).S.getD j se0=if i=j then { m.S.getD i se0 with rd:=true } else m.S.getD j se0:=fun j=>by unfold begS;exact set_getD _ _ _ _ _ hi
 unfold stepM
 generalize taskT (begS m i now) i (begK m i k)=r at h1 h2 ⊢
 have hi' : i<r.1.S.length:=by omega
 split
 ·next h =>
  refine ⟨by simp [endS,h1,hl],rfl,?_,?_,fun j hj=>?_⟩
  ·simp only [endS];rw [set_getD _ _ _ _ _ hi',if_pos rfl]
  ·simp only [endS];rw [set_getD _ _ _ _ _ hi',if_pos rfl];simp only;rw [(h2 i).1,h0,if_pos rfl]
  ·simp only [endS];rw [set_getD _ _ _ _ _ hi',if_neg (fun q=>hj q.symm),(h2 j).1,(h2 j).2.1,h0,if_neg (fun q=>hj q.symm)];exact ⟨rfl,rfl⟩
 ·next h =>
  refine ⟨by simp [setTk,h1,hl],rfl,?_,?_,fun j hj=>?_⟩
  ·simp only [setTk];rw [set_getD _ _ _ _ _ hi',if_pos rfl]
  ·simp only [setTk];rw [set_getD _ _ _ _ _ hi',if_pos rfl];simp only;rw [(h2 i).1,h0,if_pos rfl]
  ·simp only [setTk];rw [set_getD _ _ _ _ _ hi',if_neg (fun q=>hj q.symm),(h2 j).1,(h2 j).2.1,h0,if_neg (fun q=>hj q.symm)];exact ⟨rfl,rfl⟩
theorem begK_ok {m:Pm} {i:Nat} {k:Tk} (h:Inv m) (ht:(m.S.getD i se0).tk=some k):LnOk (begK m i k)∧1≤(begK m i k).ln:=by
 obtain ⟨h1,h2⟩:=h.t i k ht
 unfold begK
 split
 ·next q=>exact ⟨h1,h2 q⟩
 ·exact ⟨⟨h1.1,by simp only;split <;> omega⟩,Nat.le_refl _⟩
theorem step_inv {m:Pm} {i:Nat} {k:Tk} {now:Int} (h:Inv m) (hi:i<m.S.length) (ht:(m.S.getD i se0).tk=some k):Inv (stepM m i k now):=by
 obtain ⟨h1,h2,h3,h4,h5⟩:=step_seat (m:=m) (k:=k) (now:=now) hi
 obtain ⟨w1,w2⟩:=task_W (begS m i now) i (begK m i k) h.w
 obtain ⟨b1,b2⟩:=begK_ok h ht
 refine ⟨by rw [h2];exact w1,by rw [h2,w2];exact h.wl,fun j q hq=>?_⟩
 by_cases e:j=i
 ·subst e
  rw [h3] at hq
  split at hq
  ·cases hq
  ·next ho =>
   cases hq
   obtain ⟨t1,t2,_⟩:=task_ln (begS m j now) j (begK m j k) b1 b2 (by simpa using ho)
   exact ⟨t1,fun _=>t2⟩
 ·rw [(h5 j e).2] at hq
  rw [(h5 j e).1]
  exact h.t j q hq
theorem make_ok {th op arg:Int} {k:Tk} (h:make th op arg=some k):LnOk k∧k.ln=0:=by
 unfold make at h
 repeat' split at h
 all_goals first | (cases h;done) | (cases h;exact ⟨⟨by simp,by simp⟩,rfl⟩)
theorem move_inv {m:Pm} {x:Mo} (h:Inv m):Inv (moveM m x).1∧(moveM m x).1.S.length=m.S.length∧(moveM m x).1.W.length=m.W.length:=by
 have hsame:Inv { m with mv:=m.mv+1 }:=⟨h.w,h.wl,h.t⟩
 unfold moveM
 split
 ·exact ⟨h,rfl,rfl⟩
 split
 ·exact ⟨hsame,rfl,rfl⟩
 next hx =>
 have hi:x.th.toNat<m.S.length:=by omega
 split
 ·next k hk =>
  split
  ·obtain ⟨h1,h2,_⟩:=step_seat (m:={ m with mv:=m.mv+1 }) (i:=x.th.toNat) (k:=k) (now:=m.mv) hi
   exact ⟨step_inv hsame hi hk,h1,by simp only;rw [h2];exact (task_W (begS { m with mv:=m.mv+1 } x.th.toNat m.mv) x.th.toNat (begK { m with mv:=m.mv+1 } x.th.toNat k) h.w).2⟩
  ·exact ⟨hsame,rfl,rfl⟩
 ·split
  ·exact ⟨hsame,rfl,rfl⟩
  ·split
   ·next k hk =>
    obtain ⟨g1,g2⟩:=make_ok hk
    refine ⟨⟨h.w,h.wl,fun j q hq=>?_⟩,by simp [begM],rfl⟩
    simp only [begM] at hq ⊢
    rw [set_getD _ _ _ _ _ hi] at hq ⊢
    split at hq
    ·cases hq
     next e=>rw [if_pos e];exact ⟨g1,fun q=>by simp at q⟩
    ·next e=>rw [if_neg e];exact h.t j q hq
   ·exact ⟨hsame,rfl,rfl⟩
theorem move_mv {m:Pm} {x:Mo}:(moveM m x).1.mv≤m.mv+1∧m.mv≤(moveM m x).1.mv:=by
 have ht:∀ (n:Pm) (i:Nat) (k:Tk),(taskT n i k).1.mv=n.mv:=by
  intro n i k
  unfold taskT pushT takeT stealT
  repeat' split
  all_goals simp only [ans,point,load_mv,store_mv,swap_mv]
 unfold moveM
 repeat' split
 all_goals try (simp only [begM];omega)
 unfold stepM
 split <;> simp only [endS,setTk,ht,begS] <;> omega
def alone (m:Pm) (i:Nat):Nat→Pm
 | 0=>m
 | n+1=>alone (moveM m ⟨i,0,0,0⟩).1 i n
theorem run_inv:∀ (l:List Mo) {m:Pm},Inv m→Inv (runM m l)∧(runM m l).S.length=m.S.length∧(runM m l).mv≤m.mv+l.length
 | [],m,h=>⟨h,rfl,by simp [runM]⟩
 | x :: l,m,h=>by
  obtain ⟨h1,h2,_⟩:=move_inv (x:=x) h
  obtain ⟨g1,g2,g3⟩:=run_inv l h1
  have:=(move_mv (m:=m) (x:=x)).1
  exact ⟨g1,g2.trans h2,by simp only [runM,List.length_cons];omega⟩
theorem new_inv (t r:Int) (h:0≤r):Inv (newM t r):=by
 refine ⟨fun x hx=>?_,by simp [newM];omega,fun i k hk=>?_⟩
 ·simp only [newM,List.mem_replicate] at hx
  rw [hx.2];decide
 ·simp only [newM] at hk
  rw [List.getD_eq_getElem?_getD,List.getElem?_replicate] at hk
  split at hk <;> simp [se0] at hk
end Go.Proofs.Ytcloeignccpljaa.D
namespace Go.Proofs.Ytcloeignccpljaa.D
open Go
structure Th where
 call:Int
 line:Int
 b:Int
 t:Int
 v:Int
 deriving DecidableEq
def th0:Th:=⟨-1,0,0,0,0⟩
structure Rm where
 thr:Int
 room:Int
 W:List Int
 T:List Th
 C:List Ca
 L:List Ac
 mv:Int
 down:Int
 last:Int
 deriving DecidableEq
def rwd (m:Rm) (a:Int):Int:=m.W.getD a.toNat 0
def rload (m:Rm) (t a:Int):Rm:={ m with L:=m.L++[⟨m.mv,t,1,a,0,0,u64 (rwd m a)⟩] }
def rstore (m:Rm) (t a v:Int):Rm:={ m with W:=m.W.set a.toNat v,L:=m.L++[⟨m.mv,t,2,a,0,u64 v,0⟩] }
def rswap (m:Rm) (t o:Int):Rm:={ m with W:=if rwd m 0=o then m.W.set 0 (i64 (o+1)) else m.W,L:=m.L++[⟨m.mv,t,3,0,u64 o,u64 (i64 (o+1)),u64 (rwd m 0)⟩] }
def thr (m:Rm) (i:Nat):Th:=m.T.getD i th0
def setTh (m:Rm) (i:Nat) (x:Th):Rm:={ m with T:=m.T.set i x }
def rpoint (m:Rm) (i:Nat) (x:Int):Rm:={ m with C:=m.C.set (thr m i).call.toNat { m.C.getD (thr m i).call.toNat ca0 with pt:=x } }
def rend (m:Rm) (i:Nat) (k v:Int):Rm:={ m with C:=m.C.set (thr m i).call.toNat { m.C.getD (thr m i).call.toNat ca0 with en:=m.mv,ak:=k,av:=v },T:=m.T.set i { thr m i with call:=-1 } }
def rcell (m:Rm) (x:Int):Int:=i64 (2+x.tmod m.room)
def rpush (m:Rm) (i:Nat):Rm :=
 if (thr m i).line=1 then setTh (rload m i 1) i { thr m i with b:=rwd m 1,line:=2 }
 else if (thr m i).line=2 then
  if i64 ((thr m i).b - rwd m 0)≥m.room then rend (rpoint (setTh (rload m i 0) i { thr m i with t:=rwd m 0 }) i m.mv) i 4 0
  else setTh (rload m i 0) i { thr m i with t:=rwd m 0,line:=3 }
 else if (thr m i).line=3 then setTh (rstore m i (rcell m (thr m i).b) (m.C.getD (thr m i).call.toNat ca0).arg) i { thr m i with line:=4 }
 else if (thr m i).line=4 then rend (rpoint (rstore m i 1 (i64 ((thr m i).b+1))) i m.mv) i 1 0
 else setTh m i { thr m i with line:=i64 ((thr m i).line+1) }
def rlast (m:Rm) (i:Nat):Int:=i64 ((thr m i).b - 1)
def rtake (m:Rm) (i:Nat):Rm :=
 if (thr m i).line=1 then setTh (rload m i 1) i { thr m i with b:=rwd m 1,line:=2 }
 else if (thr m i).line=2 then setTh { rpoint (rstore m i 1 (rlast m i)) i m.mv with down:=m.mv,last:=rlast m i } i { thr m i with line:=3 }
 else if (thr m i).line=3 then
  if rlast m i<rwd m 0 then setTh (rpoint (rload m i 0) i m.mv) i { thr m i with t:=rwd m 0,line:=4 }
  else setTh (rload m i 0) i { thr m i with t:=rwd m 0,line:=5 }
 else if (thr m i).line=4 then rend { rstore m i 1 (thr m i).t with down:=-1 } i 3 0
 else if (thr m i).line=5 then
  if (thr m i).t<rlast m i then rend { setTh (rload m i (rcell m (rlast m i))) i { thr m i with v:=rwd m (rcell m (rlast m i)) } with down:=-1 } i 2 (rwd m (rcell m (rlast m i)))
  else setTh (rload m i (rcell m (rlast m i))) i { thr m i with v:=rwd m (rcell m (rlast m i)),line:=6 }
 else if (thr m i).line=6 then
  if rwd m 0=(thr m i).t then setTh (rswap m i (thr m i).t) i { thr m i with line:=7 }
  else setTh (rpoint (rswap m i (thr m i).t) i m.mv) i { thr m i with line:=8 }
 else if (thr m i).line=7 then rend { rstore m i 1 (i64 ((thr m i).t+1)) with down:=-1 } i 2 (thr m i).v
 else if (thr m i).line=8 then rend { rstore m i 1 (i64 ((thr m i).t+1)) with down:=-1 } i 3 0
 else setTh m i { thr m i with line:=i64 ((thr m i).line+1) }
def rsteal (m:Rm) (i:Nat):Rm :=
 if (thr m i).line=1 then setTh (rload m i 0) i { thr m i with t:=rwd m 0,line:=2 }
 else if (thr m i).line=2 then
  if i64 (rwd m 1 - (thr m i).t)≤0 then rend (rpoint (setTh (rload m i 1) i { thr m i with b:=rwd m 1 }) i m.mv) i 3 0
  else setTh (rload m i 1) i { thr m i with b:=rwd m 1,line:=3 }
 else if (thr m i).line=3 then setTh (rload m i (rcell m (thr m i).t)) i { thr m i with v:=rwd m (rcell m (thr m i).t),line:=4 }
 else if (thr m i).line=4 then
  if rwd m 0=(thr m i).t then rend (rpoint (rswap m i (thr m i).t) i (if m.down≥0∧m.last=(thr m i).t then m.down else m.mv)) i 2 (thr m i).v
  else setTh (rswap m i (thr m i).t) i { thr m i with line:=1 }
 else setTh m i { thr m i with line:=i64 ((thr m i).line+1) }
def rstep (m:Rm) (i:Nat):Rm :=
 if (m.C.getD (thr m i).call.toNat ca0).op=90 then rpush m i
 else if (m.C.getD (thr m i).call.toNat ca0).op=91 then rtake m i
 else if (m.C.getD (thr m i).call.toNat ca0).op=92 then rsteal m i else m
def rmove (m:Rm) (x:Mo):Rm×Bool :=
 if x.th<0∨x.th≥m.thr then (m,false)
 else if x.op=0 then (if (thr m x.th.toNat).call≥0 then (rstep m x.th.toNat,true) else (m,false))
 else if (thr m x.th.toNat).call≥0∨(x.op≠92∧((x.op≠90∧x.op≠91)∨x.th≠0)) then (m,false)
 else ({ m with T:=m.T.set x.th.toNat ⟨m.C.length,1,0,0,0⟩,C:=m.C++[⟨x.th,x.op,x.arg,x.data,m.mv,-1,-1,0,0⟩] },true)
def rMove (m:Rm) (x:Mo):Rm×Bool :=
 if m.mv≥65536 then (m,false) else ({ (rmove m x).1 with mv:=m.mv+1 },(rmove m x).2)
def newR (t r:Int):Rm:=⟨t,r,List.replicate (2+r).toNat 0,List.replicate t.toNat th0,[],[],0,-1,0⟩
end Go.Proofs.Ytcloeignccpljaa.D
namespace Go.Proofs.Ytcloeignccpljaa.D
open Go
structure V where
 bz:Bool
 op:Int
 ln:Int
 b:Int
 t:Int
def upd (f:Nat→V) (i:Nat) (v:V):Nat→V:=fun j=>if j=i then v else f j
theorem upd_i (f:Nat→V) (i:Nat) (v:V):upd f i v i=v:=if_pos rfl
theorem upd_o (f:Nat→V) {i j:Nat} (v:V) (h:j≠i):upd f i v j=f j:=if_neg h
def pastV (v:V):Bool:=v.bz && decide (v.op=91) && decide (3≤v.ln)
structure Thief (T B:Int) (o v:V):Prop where
 lo:2≤v.ln→0≤v.t∧v.t≤T
 hi:3≤v.ln→v.t=T→if pastV o=true then T≤o.b - 1 else T<B
 five:3≤v.ln→pastV o=true→o.ln=5→o.t<o.b - 1→v.t<o.b - 1
structure Owner (T B room down last:Int) (o:V):Prop where
 calm:pastV o=false→down = -1∧T≤B∧B≤T+room
 push:o.bz=true→o.op=90→(2≤o.ln→o.b=B)∧(3≤o.ln→B<T+room)
 take2:o.bz=true→o.op=91→o.ln=2→o.b=B
 take:pastV o=true→0≤down∧last=o.b - 1∧B=o.b - 1∧T≤o.b∧o.b≤T+room∧(o.ln=4→o.t=o.b∧T=o.b)∧(o.ln=5→o.t≤o.b - 1∧o.t≤T∧(o.t<o.b - 1→T≤o.b - 1)∧0≤o.t)∧(o.ln=6→o.t=o.b - 1∧o.t≤T)∧(7≤o.ln→o.t=o.b - 1∧T=o.b)
structure PrV (T B room down last:Int) (f:Nat→V):Prop where
 t0:0≤T
 rm:1≤room
 ops:∀ j,(f j).bz=true→((f j).op=90∨(f j).op=91∨(f j).op=92)∧((f j).op≠92→j=0)∧1≤(f j).ln∧(f j).ln≤(if (f j).op=91 then 8 else 4)
 own:Owner T B room down last (f 0)
 thief:∀ j,(f j).bz=true→(f j).op=92→Thief T B (f 0) (f j)
theorem own_step {T B room down last T' B' down' last' : Int} {f:Nat→V} {v:V} (h:PrV T B room down last f) (h0:0≤T')
  (hv:v.bz=true→(v.op=90∨v.op=91)∧1≤v.ln∧v.ln≤(if v.op=91 then 8 else 4)) (ho:Owner T' B' room down' last' v)
  (ht:∀ u:V,Thief T B (f 0) u→Thief T' B' v u):PrV T' B' room down' last' (upd f 0 v):=by
 refine ⟨h0,h.rm,fun j hj=>?_,by rw [upd_i];exact ho,fun j hj hop=>?_⟩
 ·by_cases e:j=0
  ·subst e
   rw [upd_i] at hj ⊢
   obtain ⟨h1,h2,h3⟩:=hv hj
   exact ⟨by omega,fun _=>rfl,h2,h3⟩
  ·rw [upd_o f v e] at hj ⊢
   exact h.ops j hj
 ·by_cases e:j=0
  ·subst e
   rw [upd_i] at hj hop
   have:=(hv hj).1
   omega
  ·rw [upd_o f v e] at hj hop ⊢
   rw [upd_i]
   exact ht _ (h.thief j hj hop)
theorem thief_step {T B room down last T' : Int} {f:Nat→V} {i:Nat} {v:V} (h:PrV T B room down last f) (hT:T' = T∨(T' = T+1∧(if pastV (f 0)=true then T≤(f 0).b - 1 else T<B)∧(pastV (f 0)=true→(f 0).ln=5→(f 0).t<(f 0).b - 1→T<(f 0).b - 1)))
  (hi:(f i).bz=true∧(f i).op=92) (hv:v.bz=true→v.op=92∧1≤v.ln∧v.ln≤4)
  (ht:v.bz=true→Thief T' B (f 0) v) (hw:v.bz=true→i=0→∀ u,Thief T B (f 0) u→Thief T B v u):PrV T' B room down last (upd f i v):=by
 have hp:pastV (upd f i v 0)=pastV (f 0)∧(pastV (f 0)=true→upd f i v 0=f 0):=by
  by_cases e:0=i
  ·subst e
   rw [upd_i]
   have h1:pastV (f 0)=false:=by simp [pastV,hi.2]
   refine ⟨?_,fun q=>by rw [h1] at q;cases q⟩
   rw [h1]
   cases hb:v.bz with
   | false=>simp [pastV,hb]
   | true=>have:=(hv hb).1;simp [pastV,this]
  ·rw [upd_o f v e];exact ⟨rfl,fun _=>rfl⟩
 have hthief:∀ u:V,Thief T B (f 0) u→Thief T' B (upd f i v 0) u:=by
  intro u hu
  refine ⟨fun q=>by have:=hu.lo q;omega,fun q1 q2=>?_,fun q1 q2 q3 q4=>?_⟩
  ·rcases hT with rfl | ⟨rfl,g1,g2⟩
   ·have:=hu.hi q1 q2
    rw [hp.1]
    split at this
    ·next q=>rw [if_pos q,hp.2 q];exact this
    ·next q=>rw [if_neg q];exact this
   ·have:=(hu.lo (by omega)).2
    omega
  ·rw [hp.1] at q2
   rw [hp.2 q2] at q3 q4 ⊢
   exact hu.five q1 q2 q3 q4
 refine ⟨by have:=h.t0;omega,h.rm,fun j hj=>?_,?_,fun j hj hop=>?_⟩
 ·by_cases e:j=i
  ·subst e
   rw [upd_i] at hj ⊢
   obtain ⟨h1,h2,h3⟩:=hv hj
   exact ⟨by omega,fun q=>absurd h1 q,h2,by rw [if_neg (by omega)];exact h3⟩
  ·rw [upd_o f v e] at hj ⊢
   exact h.ops j hj
 ·by_cases e:0=i
  ·subst e
   rw [upd_i]
   have h1:pastV (f 0)=false:=by simp [pastV,hi.2]
   have hc:=h.own.calm h1
   rw [h1] at hT
   simp only [Bool.false_eq_true,if_false,false_implies,and_true] at hT
   refine ⟨fun _=>by omega,fun q1 q2=>?_,fun q1 q2=>?_,fun q=>?_⟩
   ·have:=(hv q1).1;omega
   ·have:=(hv q1).1;omega
   ·cases hb:v.bz with
    | false=>simp [pastV,hb] at q
    | true=>have:=(hv hb).1;simp [pastV,this] at q
  ·rw [upd_o f v e]
   refine ⟨fun q=>?_,fun q1 q2=>?_,h.own.take2,fun q=>?_⟩
   ·have:=h.own.calm q
    rw [q] at hT
    simp only [Bool.false_eq_true,if_false,false_implies,and_true] at hT
    omega
   ·have:=h.own.push q1 q2
    refine ⟨this.1,fun q=>?_⟩
    have:=this.2 q
    omega
   ·obtain ⟨g1,g2,g3,g4,g5,g6,g7,g8,g9⟩:=h.own.take q
    rw [if_pos q] at hT
    simp only [q,true_implies] at hT
    refine ⟨g1,g2,g3,by omega,by omega,fun q'=>?_,fun q'=>?_,fun q'=>?_,fun q'=>?_⟩
    ·have:=g6 q';omega
    ·have:=g7 q'
     refine ⟨this.1,by omega,fun q''=>?_,this.2.2.2⟩
     have h1:=this.2.2.1 q''
     rcases hT with rfl | ⟨rfl,_,hh⟩
     ·exact h1
     ·have:=hh q' q'';omega
    ·have:=g8 q';omega
    ·have:=g9 q';omega
 ·by_cases e:j=i
  ·subst e
   rw [upd_i] at hj hop ⊢
   have:=ht hj
   refine ⟨this.lo,fun q1 q2=>?_,fun q1 q2 q3 q4=>?_⟩
   ·have:=this.hi q1 q2
    rw [hp.1]
    split at this
    ·next q=>rw [if_pos q,hp.2 q];exact this
    ·next q=>rw [if_neg q];exact this
   ·rw [hp.1] at q2
    rw [hp.2 q2] at q3 q4 ⊢
    exact this.five q1 q2 q3 q4
  ·rw [upd_o f v e] at hj hop ⊢
   exact hthief _ (h.thief j hj hop)
end Go.Proofs.Ytcloeignccpljaa.D
namespace Go.Proofs.Ytcloeignccpljaa.D
open Go
def idle:V:=⟨false,0,0,0,0⟩
section
variable {T B room down last b t:Int} {f:Nat→V}
theorem pvI:pastV idle=false:=rfl
theorem pv91 {ln:Int} (h:3≤ln):pastV ⟨true,91,ln,b,t⟩=true:=by simp [pastV,h]
theorem Thief.calm {o v u:V} (h1:pastV o=false) (h2:pastV v=false) {B' : Int} (hB:B≤B') (h:Thief T B o u):Thief T B' v u :=
 ⟨h.lo,fun q1 q2=>by have:=h.hi q1 q2;rw [h1] at this;rw [h2];simp only [Bool.false_eq_true,if_false] at this ⊢;omega,fun _ q=>by rw [h2] at q;cases q⟩
theorem Owner.ofCalm {o:V} (h1:pastV o=false) (h2:down = -1∧T≤B∧B≤T+room) (h3:o.bz=true→o.op=90→(2≤o.ln→o.b=B)∧(3≤o.ln→B<T+room)) (h4:o.bz=true→o.op=91→o.ln=2→o.b=B):Owner T B room down last o :=
 ⟨fun _=>h2,h3,h4,fun q=>by rw [h1] at q;cases q⟩
theorem Owner.ofPast {b t:Int} {ln:Int} (h1:3≤ln) (h:0≤down∧last=b - 1∧B=b - 1∧T≤b∧b≤T+room∧(ln=4→t=b∧T=b)∧(ln=5→t≤b - 1∧t≤T∧(t<b - 1→T≤b - 1)∧0≤t)∧(ln=6→t=b - 1∧t≤T)∧(7≤ln→t=b - 1∧T=b)):Owner T B room down last ⟨true,91,ln,b,t⟩ :=
 ⟨fun q=>(by rw [pv91 h1] at q;cases q),fun _ q=>absurd q (by simp),fun _ _ q=>by simp only at q;omega,fun _=>h⟩
theorem pr_begin (h:PrV T B room down last f) {i:Nat} (hi:(f i).bz=false) {op:Int} (ho:op=90∨op=91∨op=92) (h0:op≠92→i=0):PrV T B room down last (upd f i ⟨true,op,1,0,0⟩):=by
 have hp:pastV (upd f i ⟨true,op,1,0,0⟩ 0)=pastV (f 0)∧(0≠i→upd f i ⟨true,op,1,0,0⟩ 0=f 0):=by
  by_cases e:0=i
  ·subst e
   rw [upd_i]
   refine ⟨?_,fun q=>absurd rfl q⟩
   simp [pastV,hi]
  ·rw [upd_o f _ e];exact ⟨rfl,fun _=>rfl⟩
 refine ⟨h.t0,h.rm,fun j hj=>?_,?_,fun j hj hop=>?_⟩
 ·by_cases e:j=i
  ·subst e
   rw [upd_i]
   exact ⟨ho,h0,by simp,by simp only;split <;> omega⟩
  ·rw [upd_o f _ e] at hj ⊢;exact h.ops j hj
 ·by_cases e:0=i
  ·subst e
   rw [upd_i]
   have h1:pastV (f 0)=false:=by simp [pastV,hi]
   have h2:pastV ⟨true,op,1,0,0⟩=false:=by simp [pastV]
   exact Owner.ofCalm h2 (h.own.calm h1) (fun _ _=>⟨fun q=>by simp only at q;omega,fun q=>by simp only at q;omega⟩) (fun _ _ q=>by simp only at q;omega)
  ·rw [upd_o f _ e];exact h.own
 ·have key:∀ u,Thief T B (f 0) u→Thief T B (upd f i ⟨true,op,1,0,0⟩ 0) u:=by
   intro u hu
   by_cases e:0=i
   ·subst e
    have h1:pastV (f 0)=false:=by simp [pastV,hi]
    exact hu.calm h1 (hp.1.trans h1) (Int.le_refl _)
   ·rw [hp.2 e];exact hu
  by_cases e:j=i
  ·subst e
   rw [upd_i]
   exact key _ ⟨fun q=>by simp only at q;omega,fun q=>by simp only at q;omega,fun q=>by simp only at q;omega⟩
  ·rw [upd_o f _ e] at hj hop ⊢
   exact key _ (h.thief j hj hop)
theorem pr_push1 (h:PrV T B room down last f) (e:f 0=⟨true,90,1,b,t⟩):PrV T B room down last (upd f 0 ⟨true,90,2,B,t⟩) :=
 own_step h h.t0 (fun _=>⟨by simp,by simp,by simp⟩) (Owner.ofCalm rfl (h.own.calm (by rw [e];rfl)) (fun _ _=>⟨fun _=>rfl,fun q=>by simp only at q;omega⟩) (fun _ q=>absurd q (by simp))) fun u hu=>hu.calm (by rw [e];rfl) rfl (Int.le_refl _)
theorem pr_push2 (h:PrV T B room down last f) (e:f 0=⟨true,90,2,b,t⟩) (t' : Int):(b - T≥room→PrV T B room down last (upd f 0 idle))∧(¬ b - T≥room→PrV T B room down last (upd f 0 ⟨true,90,3,b,t'⟩)):=by
 have hc:=h.own.calm (by rw [e];rfl)
 have hb:=(h.own.push (by rw [e]) (by rw [e])).1 (by rw [e];simp)
 rw [e] at hb
 simp only at hb
 refine ⟨fun _=>own_step h h.t0 (fun q=>by cases q) (Owner.ofCalm rfl hc (fun q=>by cases q) (fun q=>by cases q)) fun u hu=>hu.calm (by rw [e];rfl) rfl (Int.le_refl _),fun hn=>?_⟩
 exact own_step h h.t0 (fun _=>⟨by simp,by simp,by simp⟩) (Owner.ofCalm rfl hc (fun _ _=>⟨fun _=>hb,fun q=>by omega⟩) (fun _ q=>absurd q (by simp))) fun u hu=>hu.calm (by rw [e];rfl) rfl (Int.le_refl _)
theorem pr_push3 (h:PrV T B room down last f) (e:f 0=⟨true,90,3,b,t⟩):PrV T B room down last (upd f 0 ⟨true,90,4,b,t⟩):=by
 have hc:=h.own.calm (by rw [e];rfl)
 have hb:=h.own.push (by rw [e]) (by rw [e])
 rw [e] at hb
 simp only at hb
 exact own_step h h.t0 (fun _=>⟨by simp,by simp,by simp⟩) (Owner.ofCalm rfl hc (fun _ _=>⟨fun _=>hb.1 (by omega),fun q=>hb.2 (by omega)⟩) (fun _ q=>absurd q (by simp))) fun u hu=>hu.calm (by rw [e];rfl) rfl (Int.le_refl _)
theorem pr_push4 (h:PrV T B room down last f) (e:f 0=⟨true,90,4,b,t⟩):b=B∧PrV T (b+1) room down last (upd f 0 idle):=by
 have hc:=h.own.calm (by rw [e];rfl)
 have hb:=h.own.push (by rw [e]) (by rw [e])
 rw [e] at hb
 simp only at hb
 have h1:=hb.1 (by omega)
 have h2:=hb.2 (by omega)
 exact ⟨h1,own_step h h.t0 (fun q=>by cases q) (Owner.ofCalm rfl (by omega) (fun q=>by cases q) (fun q=>by cases q)) fun u hu=>hu.calm (by rw [e];rfl) rfl (by omega)⟩
theorem pr_take1 (h:PrV T B room down last f) (e:f 0=⟨true,91,1,b,t⟩):PrV T B room down last (upd f 0 ⟨true,91,2,B,t⟩) :=
 own_step h h.t0 (fun _=>⟨by simp,by simp,by simp⟩) (Owner.ofCalm rfl (h.own.calm (by rw [e];rfl)) (fun _ q=>absurd q (by simp)) (fun _ _ _=>rfl)) fun u hu=>hu.calm (by rw [e];rfl) rfl (Int.le_refl _)
theorem pr_take2 (h:PrV T B room down last f) (e:f 0=⟨true,91,2,b,t⟩) {d:Int} (hd:0≤d):b=B∧PrV T (b - 1) room d (b - 1) (upd f 0 ⟨true,91,3,b,t⟩):=by
 have hc:=h.own.calm (by rw [e];rfl)
 have hb:=h.own.take2 (by rw [e]) (by rw [e]) (by rw [e])
 rw [e] at hb
 simp only at hb
 refine ⟨hb,own_step h h.t0 (fun _=>⟨by simp,by simp,by simp⟩) (Owner.ofPast (by omega) ⟨hd,rfl,rfl,by omega,by omega,fun q=>by omega,fun q=>by omega,fun q=>by omega,fun q=>by omega⟩) fun u hu=>?_⟩
 refine ⟨hu.lo,fun q1 q2=>?_,fun _ _ q=>by simp only at q;omega⟩
 have:=hu.hi q1 q2
 rw [e,show pastV ⟨true,91,2,b,t⟩=false from rfl] at this
 simp only [Bool.false_eq_true,if_false] at this
 rw [pv91 (by omega),if_pos rfl]
 simp only;omega
theorem Thief.past {ln ln' b t t' : Int} (h1:3≤ln) (h2:3≤ln') {u:V} (h:Thief T B ⟨true,91,ln,b,t⟩ u) (h5:3≤u.ln→ln' = 5→t' < b - 1→u.t<b - 1):Thief T B ⟨true,91,ln',b,t'⟩ u:=by
 refine ⟨h.lo,fun q1 q2=>?_,fun q1 _ q2 q3=>h5 q1 q2 q3⟩
 have:=h.hi q1 q2
 rw [pv91 h1,if_pos rfl] at this
 rw [pv91 h2,if_pos rfl]
 exact this
theorem pr_take3 (h:PrV T B room down last f) (e:f 0=⟨true,91,3,b,t⟩):(b - 1<T→PrV T B room down last (upd f 0 ⟨true,91,4,b,T⟩))∧(¬ b - 1<T→PrV T B room down last (upd f 0 ⟨true,91,5,b,T⟩)):=by
 have hb:=h.own.take (by rw [e];exact pv91 (by omega))
 rw [e] at hb
 simp only at hb
 have hT0:=h.t0
 refine ⟨fun hn=>own_step h h.t0 (fun _=>⟨by simp,by simp,by simp⟩) (Owner.ofPast (by omega) ⟨hb.1,hb.2.1,hb.2.2.1,hb.2.2.2.1,by omega,fun q=>by omega,fun q=>by omega,fun q=>by omega,fun q=>by omega⟩) fun u hu=>?_,
  fun hn=>own_step h h.t0 (fun _=>⟨by simp,by simp,by simp⟩) (Owner.ofPast (by omega) ⟨hb.1,hb.2.1,hb.2.2.1,hb.2.2.2.1,by omega,fun q=>by omega,fun q=>by omega,fun q=>by omega,fun q=>by omega⟩) fun u hu=>?_⟩
 ·rw [e] at hu;exact hu.past (by omega) (by omega) (fun _ q=>by omega)
 ·rw [e] at hu;exact hu.past (by omega) (by omega) (fun q _ q'=>by have:=(hu.lo (by omega)).2;omega)
theorem pr_take4 (h:PrV T B room down last f) (e:f 0=⟨true,91,4,b,t⟩):PrV T t room (-1) last (upd f 0 idle):=by
 have hb:=h.own.take (by rw [e];exact pv91 (by omega))
 rw [e] at hb
 simp only at hb
 have h4:=hb.2.2.2.2.2.1 trivial
 refine own_step h h.t0 (fun q=>by cases q) (Owner.ofCalm rfl (by omega) (fun q=>by cases q) (fun q=>by cases q)) fun u hu=>?_
 refine ⟨hu.lo,fun q1 q2=>?_,fun _ q=>by cases q⟩
 have:=hu.hi q1 q2
 rw [e,pv91 (by omega),if_pos rfl] at this
 simp only at this
 omega
theorem pr_take5 (h:PrV T B room down last f) (e:f 0=⟨true,91,5,b,t⟩):(t<b - 1→PrV T B room (-1) last (upd f 0 idle))∧(¬ t<b - 1→PrV T B room down last (upd f 0 ⟨true,91,6,b,t⟩)):=by
 have hb:=h.own.take (by rw [e];exact pv91 (by omega))
 rw [e] at hb
 simp only at hb
 have h5:=hb.2.2.2.2.2.2.1 trivial
 refine ⟨fun hn=>own_step h h.t0 (fun q=>by cases q) (Owner.ofCalm rfl (by have:=h5.2.2.1 hn;omega) (fun q=>by cases q) (fun q=>by cases q)) fun u hu=>?_,
  fun hn=>own_step h h.t0 (fun _=>⟨by simp,by simp,by simp⟩) (Owner.ofPast (by omega) ⟨hb.1,hb.2.1,hb.2.2.1,hb.2.2.2.1,by omega,fun q=>by omega,fun q=>by omega,fun q=>by omega,fun q=>by omega⟩) fun u hu=>by rw [e] at hu;exact hu.past (by omega) (by omega) (fun _ q=>by omega)⟩
 refine ⟨hu.lo,fun q1 q2=>?_,fun _ q=>by cases q⟩
 have:=hu.five q1 (by rw [e];exact pv91 (by omega)) (by rw [e]) (by rw [e];exact hn)
 rw [e] at this
 simp only at this
 rw [pvI]
 simp only [Bool.false_eq_true,if_false]
 omega
theorem pr_take6 (h:PrV T B room down last f) (e:f 0=⟨true,91,6,b,t⟩):(T=t→PrV (t+1) B room down last (upd f 0 ⟨true,91,7,b,t⟩))∧(¬ T=t→PrV T B room down last (upd f 0 ⟨true,91,8,b,t⟩)):=by
 have hb:=h.own.take (by rw [e];exact pv91 (by omega))
 rw [e] at hb
 simp only at hb
 have h6:=hb.2.2.2.2.2.2.2.1 trivial
 have h0:=h.t0
 refine ⟨fun hn=>own_step h (by omega) (fun _=>⟨by simp,by simp,by simp⟩) (Owner.ofPast (by omega) ⟨hb.1,hb.2.1,hb.2.2.1,by omega,by omega,fun q=>by omega,fun q=>by omega,fun q=>by omega,fun q=>by omega⟩) fun u hu=>?_,
  fun hn=>own_step h h.t0 (fun _=>⟨by simp,by simp,by simp⟩) (Owner.ofPast (by omega) ⟨hb.1,hb.2.1,hb.2.2.1,hb.2.2.2.1,by omega,fun q=>by omega,fun q=>by omega,fun q=>by omega,fun q=>by omega⟩) fun u hu=>by rw [e] at hu;exact hu.past (by omega) (by omega) (fun _ q=>by omega)⟩
 refine ⟨fun q=>by have:=hu.lo q;omega,fun q1 q2=>?_,fun _ _ q=>by simp only at q;omega⟩
 have:=(hu.lo (by omega)).2
 omega
theorem pr_take7 (h:PrV T B room down last f) {ln:Int} (hl:7≤ln) (e:f 0=⟨true,91,ln,b,t⟩):PrV T (t+1) room (-1) last (upd f 0 idle):=by
 have hb:=h.own.take (by rw [e];exact pv91 (by omega))
 rw [e] at hb
 simp only at hb
 have h7:=hb.2.2.2.2.2.2.2.2 hl
 refine own_step h h.t0 (fun q=>by cases q) (Owner.ofCalm rfl (by omega) (fun q=>by cases q) (fun q=>by cases q)) fun u hu=>?_
 refine ⟨hu.lo,fun q1 q2=>?_,fun _ q=>by cases q⟩
 have:=hu.hi q1 q2
 rw [e,pv91 (by omega),if_pos rfl] at this
 simp only at this
 omega
theorem pr_steal1 (h:PrV T B room down last f) {i:Nat} (e:f i=⟨true,92,1,b,t⟩):PrV T B room down last (upd f i ⟨true,92,2,b,T⟩) :=
 thief_step h (Or.inl rfl) (by rw [e];exact ⟨rfl,rfl⟩) (fun _=>⟨rfl,by simp,by simp⟩) (fun _=>⟨fun _=>⟨h.t0,Int.le_refl _⟩,fun q=>by simp only at q;omega,fun q=>by simp only at q;omega⟩)
  fun _ q u hu=>by subst q;exact hu.calm (by rw [e];rfl) rfl (Int.le_refl _)
theorem pr_steal2 (h:PrV T B room down last f) {i:Nat} (e:f i=⟨true,92,2,b,t⟩) (b' : Int):(B - t≤0→PrV T B room down last (upd f i idle))∧(¬ B - t≤0→PrV T B room down last (upd f i ⟨true,92,3,b',t⟩)):=by
 have ht:=h.thief i (by rw [e]) (by rw [e])
 rw [e] at ht
 have hlo:=ht.lo (by simp)
 simp only at hlo
 refine ⟨fun _=>thief_step h (Or.inl rfl) (by rw [e];exact ⟨rfl,rfl⟩) (fun q=>by cases q) (fun q=>by cases q) (fun q=>by cases q),fun hn=>?_⟩
 refine thief_step h (Or.inl rfl) (by rw [e];exact ⟨rfl,rfl⟩) (fun _=>⟨rfl,by simp,by simp⟩) (fun _=>⟨fun _=>hlo,fun _ q2=>?_,fun _ q2 q3 q4=>?_⟩) fun _ q u hu=>by subst q;exact hu.calm (by rw [e];rfl) rfl (Int.le_refl _)
 ·simp only at q2
  split
  ·next q=>have:=h.own.take q;omega
  ·omega
 ·have:=h.own.take q2
  simp only
  omega
theorem pr_steal3 (h:PrV T B room down last f) {i:Nat} (e:f i=⟨true,92,3,b,t⟩):PrV T B room down last (upd f i ⟨true,92,4,b,t⟩):=by
 have ht:=h.thief i (by rw [e]) (by rw [e])
 rw [e] at ht
 exact thief_step h (Or.inl rfl) (by rw [e];exact ⟨rfl,rfl⟩) (fun _=>⟨rfl,by simp,by simp⟩) (fun _=>⟨fun _=>ht.lo (by simp),fun _ q=>ht.hi (by simp) q,fun _ q2 q3 q4=>ht.five (by simp) q2 q3 q4⟩) fun _ q u hu=>by subst q;exact hu.calm (by rw [e];rfl) rfl (Int.le_refl _)
theorem pr_steal4 (h:PrV T B room down last f) {i:Nat} (e:f i=⟨true,92,4,b,t⟩):(T=t→PrV (t+1) B room down last (upd f i idle))∧(¬ T=t→PrV T B room down last (upd f i ⟨true,92,1,b,t⟩)):=by
 have ht:=h.thief i (by rw [e]) (by rw [e])
 rw [e] at ht
 refine ⟨fun hn=>?_,fun hn=>thief_step h (Or.inl rfl) (by rw [e];exact ⟨rfl,rfl⟩) (fun _=>⟨rfl,by simp,by simp⟩) (fun _=>⟨fun q=>by simp only at q;omega,fun q=>by simp only at q;omega,fun q=>by simp only at q;omega⟩) fun _ q u hu=>by subst q;exact hu.calm (by rw [e];rfl) rfl (Int.le_refl _)⟩
 have h1:=ht.hi (by simp) hn.symm
 refine thief_step h (Or.inr ⟨by omega,h1,fun q1 q2 q3=>?_⟩) (by rw [e];exact ⟨rfl,rfl⟩) (fun q=>by cases q) (fun q=>by cases q) (fun q=>by cases q)
 have:=ht.five (by simp) q1 q2 q3
 simp only at this
 omega
end
end Go.Proofs.Ytcloeignccpljaa.D
namespace Go.Proofs.Ytcloeignccpljaa.D
open Go
def vO (C:List Ca) (y:Th):V:=if 0≤y.call then ⟨true,(C.getD y.call.toNat ca0).op,y.line,y.b,y.t⟩ else idle
def vw (x:Rm) (j:Nat):V:=vO x.C (thr x j)
structure PrR (n:Int) (x:Rm):Prop where
 v:PrV (rwd x 0) (rwd x 1) x.room x.down x.last (vw x)
 wl:x.W.length=(2+x.room).toNat
 rm:x.room≤256
 tl:x.T.length=x.thr.toNat
 cl:∀ j,0≤(thr x j).call→(thr x j).call.toNat<x.C.length
 tn:rwd x 0≤n
 n0:0≤n
 nM:n≤65536
theorem set_getD' {α:Type} (l:List α) (i j:Nat) (x d:α):(l.set i x).getD j d=if i=j∧i<l.length then x else l.getD j d:=by
 by_cases h:i<l.length
 ·rw [set_getD l i j x d h]
  simp only [h,and_true]
 ·rw [List.set_eq_of_length_le (by omega)]
  simp [h]
def SameOps (C C' : List Ca):Prop:=C'.length=C.length∧∀ n,(C'.getD n ca0).op=(C.getD n ca0).op∧(C'.getD n ca0).arg=(C.getD n ca0).arg
theorem SameOps.refl (C:List Ca):SameOps C C:=⟨rfl,fun _=>⟨rfl,rfl⟩⟩
theorem SameOps.set {C C' : List Ca} (h:SameOps C C') (k:Nat) (c:Ca) (h1:c.op=(C'.getD k ca0).op) (h2:c.arg=(C'.getD k ca0).arg):SameOps C (C'.set k c):=by
 refine ⟨by rw [List.length_set];exact h.1,fun n=>?_⟩
 rw [set_getD']
 split
 ·next q=>obtain ⟨rfl,_⟩:=q;rw [h1,h2];exact h.2 k
 ·exact h.2 n
theorem vw_of {x x' : Rm} {i:Nat} {y:Th} (hT:x'.T=x.T.set i y) (hi:i<x.T.length) (hC:SameOps x.C x'.C):vw x' = upd (vw x) i (vO x.C y):=by
 funext j
 have hO:∀ z:Th,vO x'.C z=vO x.C z:=fun z=>by unfold vO;split <;> first | rw [(hC.2 _).1] | rfl
 unfold vw
 rw [hO]
 unfold upd thr
 rw [hT,set_getD _ _ _ _ _ hi]
 by_cases e:j=i
 ·subst e;rw [if_pos rfl,if_pos rfl]
 ·rw [if_neg (fun q=>e q.symm),if_neg e]
theorem pr_of {n:Int} {x x' : Rm} {i:Nat} {y:Th} (h:PrR n x) (hi:i<x.T.length) (hT:x'.T=x.T.set i y) (hC:SameOps x.C x'.C) (hW:x'.W.length=x.W.length) (hr:x'.room=x.room) (ht:x'.thr=x.thr) (hy:0≤y.call→y.call=(thr x i).call) {n' : Int} (hn:n≤n') (hn' : n'≤65536) (h0:rwd x' 0≤n')
  {v:V} (hvo:vO x.C y=v) (hv:PrV (rwd x' 0) (rwd x' 1) x.room x'.down x'.last (upd (vw x) i v)):PrR n' x':=by
 subst hvo
 refine ⟨by rw [vw_of hT hi hC,hr];exact hv,by rw [hW,hr];exact h.wl,by rw [hr];exact h.rm,by rw [hT,List.length_set,ht];exact h.tl,fun j hj=>?_,h0,by have:=h.n0;omega,hn'⟩
 unfold thr at hj ⊢
 rw [hT,set_getD _ _ _ _ _ hi] at hj ⊢
 rw [hC.1]
 split at hj
 ·next e=>rw [if_pos e];have e2:=hy hj;rw [e2] at hj;rw [e2];exact h.cl i hj
 ·next e=>rw [if_neg e];exact h.cl j hj
theorem rwd_set {x:Rm} {a v b:Int} (h:0≤a) (ha:a<x.W.length) (hb:0≤b):(x.W.set a.toNat v).getD b.toNat 0=if a=b then v else rwd x b:=by
 rw [set_getD _ _ _ _ _ (by omega)]
 by_cases e:a=b
 ·subst e;simp
 ·rw [if_neg e,if_neg (by omega)];rfl
theorem PrR.wlen {n:Int} {x:Rm} (h:PrR n x):(x.W.length:Int)=2+x.room:=by
 have:=h.wl;have:=h.v.rm;omega
theorem rcell_rg {n:Int} {x:Rm} (h:PrR n x) {a:Int} (ha:0≤a):2≤rcell x a∧rcell x a<x.W.length:=by
 have h1:=h.v.rm
 have h2:=h.rm
 have h3:=h.wlen
 have h4:0≤a.tmod x.room:=Int.tmod_nonneg _ ha
 have h5:a.tmod x.room<x.room:=Int.tmod_lt_of_pos _ (by omega)
 unfold rcell
 rw [i64_id (by omega) (by omega)]
 omega
theorem ext_busy {x:Rm} {i:Nat} (hb:0≤(thr x i).call):vw x i=⟨true,(x.C.getD (thr x i).call.toNat ca0).op,(thr x i).line,(thr x i).b,(thr x i).t⟩:=by
 unfold vw vO;rw [if_pos hb]
theorem vO_busy {C:List Ca} {y:Th} {op:Int} (hb:0≤y.call) (ho:(C.getD y.call.toNat ca0).op=op):vO C y=⟨true,op,y.line,y.b,y.t⟩:=by
 unfold vO;rw [if_pos hb,ho]
theorem vO_idle {C:List Ca} {y:Th}:vO C { y with call:=-1 }=idle:=by
 unfold vO;rw [if_neg (by simp)]
end Go.Proofs.Ytcloeignccpljaa.D
