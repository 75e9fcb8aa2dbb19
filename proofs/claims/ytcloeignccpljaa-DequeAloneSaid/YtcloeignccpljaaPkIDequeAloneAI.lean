/- DequeAloneSaid: what its proof is made of. No condition. -/
import Derived.Test.YtcloeignccpljaaPkIDequeAloneAH
set_option linter.unusedSimpArgs false
set_option linter.unusedVariables false
namespace Go.Proofs.Ytcloeignccpljaa.Z
open Go Go.RowKit
section
variable {P:Program} {T:TT} {B:Nat} {W:Nat→Prop} {w0:World} {E:Env} {S:St} {a:Act} {w w1:World}
theorem fits_put {b b' : Blk} {y:Nm} {p:Prop} (hy:pkN S.own y=some (p,b)) (hp:p) (h0:w1.os=w.os∧w1.tape=w.tape∧w1.output=w.output) (hsz:w.heap.size≤w1.heap.size)
  (h:∀ H,HeapOk B W E S.own H w→∃ h',b'.den E y h'∧(∀ n,n<w.heap.size→H y n=none→w1.heap[n]? = w.heap[n]?)∧∀ n o,h' n=some o→w1.heap[n]? = some o∧(w.heap.size≤n∨H y n≠none)):Fits B W E S w w1 (setN S.own y b') []:=by
 refine ⟨fun H hH=>?_,fun _ _ x A h=>by simp [atN,look] at h⟩
 have hat:=pkN_at hy hp
 obtain ⟨h',hb,hk,hs⟩:=h H hH
 have hother:∀ x c,x≠y→atN S.own x=some c→∀ n o,H x n=some o→w1.heap[n]? = some o∧H y n=none∧n<w.heap.size:=by
  intro x c hne hx n o hn
  have h1:=(hH.sub x c hx n o hn).1
  have hlt:=hH.lt hx hn
  have hyn:H y n=none:=by
   rcases hH.disj y x b c hat hx (Ne.symm hne) n with h | h
   ·exact h
   ·rw [h] at hn;cases hn
  exact ⟨by rw [hk n hlt hyn];exact h1,hyn,hlt⟩
 have hget:∀ x c,atN (setN S.own y b') x=some c→(x=y∧c=b')∨(x≠y∧x.1=y.1∧atN S.own x=some c):=by
  intro x c hc
  rw [atN_setN hy hp] at hc
  split at hc
  ·next e1 =>
   split at hc
   ·next e2=>cases hc;exact Or.inl ⟨e2,rfl⟩
   ·next e2=>exact Or.inr ⟨e2,e1,hc⟩
  ·cases hc
 have key:∀ z d,z≠y→atN S.own z=some d→∀ n,h' n=none∨H z n=none:=by
  intro z d hz hd n
  cases e1:h' n with
  | none=>exact Or.inl rfl
  | some o =>
   right
   cases e2:H z n with
   | none=>rfl
   | some o' =>
    obtain ⟨_,h3,h4⟩:=hother z d hz hd n o' e2
    rcases (hs n o e1).2 with h5 | h5
    ·omega
    ·exact absurd h3 h5
 refine ⟨h0.1,h0.2.1,h0.2.2,hsz,fun n hn h=>hk n hn (h y b ((setN_look hy b' y.1).2 rfl) hat),fun x=>if x=y then h' else H x,?_,?_,?_⟩
 ·intro x c hc
  rcases hget x c hc with ⟨rfl,rfl⟩ | ⟨e1,e2,h⟩
  ·simpa using hb
  ·simp only [e1,if_false];exact hH.den x c h
 ·intro x z c d hc hd hne n
  rcases hget x c hc with ⟨rfl,rfl⟩ | ⟨e1,e2,h⟩
  ·rcases hget z d hd with ⟨rfl,rfl⟩ | ⟨f1,f2,h2⟩
   ·exact absurd rfl hne
   ·simp only [f1,if_true,if_false];exact key z d f1 h2 n
  ·rcases hget z d hd with ⟨rfl,rfl⟩ | ⟨f1,f2,h2⟩
   ·simp only [e1,if_true,if_false];exact (key x c e1 ‹_› n).symm
   ·simp only [e1,f1,if_false];exact hH.disj x z c d h h2 hne n
 ·intro x c hc n o hn
  rcases hget x c hc with ⟨rfl,rfl⟩ | ⟨e1,e2,h⟩
  ·simp only [if_true] at hn
   obtain ⟨g1,g2⟩:=hs n o hn
   exact ⟨g1,g2.imp id fun h=>⟨x,b,(setN_look hy c x.1).2 rfl,hat,h⟩⟩
  ·simp only [e1,if_false] at hn
   obtain ⟨g1,g2,g3⟩:=hother x c e1 h n o hn
   exact ⟨g1,Or.inr ⟨x,c,(setN_look hy b' x.1).2 e2,h,by rw [hn];simp⟩⟩
end
section
variable {C:Ctx} {S:St}
end
end Go.Proofs.Ytcloeignccpljaa.Z
namespace Go.Proofs.Ytcloeignccpljaa.Z
open Go Go.RowKit
theorem le_nilcell {C:Ctx} {nt:Nat} {tmps:List (Nat×SV)} {own:Own} {arrs:List (Nat×Fm ArrF)} {facts:List (Env→World→Prop)} {nid:Nat} (j s ty ty' : Nat) (cs cs' : List SC) (at_:Nat→List SC)
  (hj:look own j=some (.one (.bk cs ty'))) (hn:look own nid=none) (hc:∀ E:Env,E.ν (nid,0,0)=true→E.κ (nid,0,0)=0→cs'.map (SC.den E)=cs.map (SC.den E)) :
  Le C ⟨nt,tmps,own,arrs,facts,nid⟩ ⟨nt,tmps,(nid,.one (.ar 0 s at_ ty)) :: setL own j (.one (.bk cs' ty')),arrs,facts,nid+1⟩:=by
 intro E a w hs
 refine ⟨⟨E.ρ,fun x=>if x.1=nid then 0 else E.κ x,fun x=>if x.1=nid then true else E.ν x,E.χ⟩,fun x=>hs.1 x,fun E2 hE2 ho2=>?_⟩
 have hs2:=hs.2 E2 (fun x hx=>by
  have h:=hE2 x (Nat.lt_succ_of_lt hx)
  have hne:x.1≠nid:=by have:x.1<nid:=hx;omega
  simp only [Same,hne,if_false] at h
  exact h) ho2
 have hsz:=hE2 (nid,0,0) (Nat.lt_succ_self nid)
 have hκ:E2.κ (nid,0,0)=0:=by have h:=hsz.2.1;simpa using h
 have hν:E2.ν (nid,0,0)=true:=by have h:=hsz.2.2.1;simpa using h
 obtain ⟨H,hH,hF⟩:=hs2.mem
 have hat:∀ x b,atN own x=some b→x.1≠nid:=fun x b h e=>by
  obtain ⟨F,hF,_⟩:=atN_some h
  rw [e,hn] at hF
  cases hF
 have hatj:atN own (j,0,0)=some (.bk cs ty'):=by simp [atN,hj,Fm.get]
 have hold:∀ x b,atN (setL own j (.one (.bk cs' ty'))) x=some b→(x=(j,0,0)∧b = .bk cs' ty')∨(x.1≠j∧atN own x=some b):=by
  rintro ⟨k,p,q⟩ b hx
  simp only [atN,look_setL] at hx
  by_cases e:j=k
  ·subst e
   rw [if_pos rfl] at hx
   simp only [Fm.get] at hx
   split at hx
   ·next e=>obtain ⟨rfl,rfl⟩:=e;cases hx;exact Or.inl ⟨rfl,rfl⟩
   ·cases hx
  ·rw [if_neg e] at hx
   exact Or.inr ⟨fun e2=>e e2.symm,hx⟩
 have hwas:∀ x b,atN (setL own j (.one (.bk cs' ty'))) x=some b→∃ c,atN own x=some c:=fun x b hx=>by
  rcases hold x b hx with ⟨rfl,rfl⟩ | ⟨_,hx⟩
  ·exact ⟨_,hatj⟩
  ·exact ⟨_,hx⟩
 refine ⟨hs2.size,hs2.defers,ho2,hs2.tmps,hs2.frame,fun x=>if x.1=nid then emp else H x,⟨fun x b hb=>?_,fun x y b c hb hc hne n=>?_,fun x b hb n o hn=>?_⟩,fun w' hw'=>?_⟩
 ·rcases atN_one hb with ⟨rfl,rfl⟩ | hb
  ·exact Or.inl ⟨trivial,hκ,rfl,by simp⟩
  ·obtain ⟨c,hc'⟩:=hwas x b hb
   simp only [hat x c hc',if_false]
   rcases hold x b hb with ⟨rfl,rfl⟩ | ⟨_,hx⟩
   ·have:=hH.den _ _ hatj
    simp only [Blk.den] at this ⊢
    rw [this,hc E2 hν hκ]
   ·exact hH.den x b hx
 ·rcases atN_one hb with ⟨rfl,rfl⟩ | hb
  ·simp [emp]
  ·rcases atN_one hc with ⟨rfl,rfl⟩ | hc
   ·simp [emp]
   ·obtain ⟨b',hb'⟩:=hwas x b hb
    obtain ⟨c',hc'⟩:=hwas y c hc
    simp only [hat x b' hb',hat y c' hc',if_false]
    exact hH.disj x y b' c' hb' hc' hne n
 ·rcases atN_one hb with ⟨rfl,rfl⟩ | hb
  ·simp [emp] at hn
  ·obtain ⟨b',hb'⟩:=hwas x b hb
   simp only [hat x b' hb',if_false] at hn
   exact hH.sub x b' hb' n o hn
 ·exact hF w' fun n hn hfr=>hw' n hn fun x b hb=>by
   rcases atN_one hb with ⟨rfl,rfl⟩ | hb
   ·simp [emp]
   ·obtain ⟨b',hb'⟩:=hwas x b hb
    simp only [hat x b' hb',if_false]
    exact hfr x b' hb'
theorem own_bk {p:Nat→Prop} {τ:Nat→Nat} {own r:Own} {i ty:Nat} {cs ds:List SC} (hp:p i) (h:look own (τ i)=some (.one (.bk ds ty))) (hr:ds=SC.renL (idσ τ) cs) (hk:SC.okL p cs) (hr' : OwnLe p (idσ τ) own r):OwnLe p (idσ τ) own ((i,.one (.bk cs ty)) :: r):=by
 refine ⟨⟨hp,?_⟩,hr'⟩
 simp only [idσ,atN,h,Fm.get,and_self,if_true]
 exact ⟨hr,rfl,hk⟩
theorem own_ar {p:Nat→Prop} {τ:Nat→Nat} {own r:Own} {i ty n m k:Nat} {f g:Nat→List SC} (hp:p i) (h:look own (τ i)=some (.one (.ar m k g ty))) (hm:n≤m) (hf:∀ e,e<n→g e=SC.renL (idσ τ) (f e)∧SC.okL p (f e)) (hr' : OwnLe p (idσ τ) own r):OwnLe p (idσ τ) own ((i,.one (.ar n k f ty)) :: r):=by
 refine ⟨⟨hp,?_⟩,hr'⟩
 simp only [idσ,atN,h,Fm.get,and_self,if_true]
 exact ⟨hm,rfl,rfl,hf⟩
theorem ats_rn {α:Type} {enc:α→List Value} {xs:List α} {d:α} (e:Nat) (p:Nat→Prop) (σ:Nm→Nm):ats enc xs d e=SC.renL σ (ats enc xs d e)∧SC.okL p (ats enc xs d e):=by
 unfold ats;exact ⟨(renL_v _ _).symm,okL_v _ _⟩
theorem own_av {p:Nat→Prop} {τ:Nat→Nat} {own r:Own} {α:Type} {enc:α→List Value} {xs:List α} {d:α} {i ty n m k:Nat} {g:Nat→List SC} (hp:p i) (h:look own (τ i)=some (.one (.ar m k g ty))) (hm:n≤m) (hf:∀ e,e<n→g e=ats enc xs d e) (hr' : OwnLe p (idσ τ) own r):OwnLe p (idσ τ) own ((i,.one (.ar n k (ats enc xs d) ty)) :: r) :=
 own_ar hp h hm (fun e he=>(hf e he).symm ▸ ats_rn e _ _) hr'
end Go.Proofs.Ytcloeignccpljaa.Z
namespace Go.Proofs.Ytcloeignccpljaa.Z
open Go Go.RowKit
def PlainB:Blk→Prop
 | .no=>True
 | .bk _ _=>True
 | .ar _ _ _ _=>True
 | _=>False
def takes (E:Env) (x:Nm):Blk→Nat→Prop
 | .bk _ _,n=>n=E.ρ x
 | .ar _ _ _ _,n=>0<E.κ x∧n=E.ρ x
 | _,_=>False
theorem takes_iff {E:Env} {x:Nm} {b:Blk} {h:PH} (hp:PlainB b) (hd:b.den E x h) {n:Nat}:h n≠none↔takes E x b n:=by
 cases b with
 | no=>simp only [Blk.den] at hd;subst hd;simp [takes,emp]
 | bk cs ty=>simp only [Blk.den] at hd;subst hd;simp only [takes,sing];by_cases e:n=E.ρ x <;> simp [e]
 | ar m s at_ ty =>
  simp only [Blk.den] at hd
  rcases hd with ⟨_,h1,_,h4⟩ | ⟨_,⟨_,h1⟩,_,cells,h4,_⟩
  ·subst h4;simp [takes,emp,h1]
  ·subst h4;simp only [takes,sing,h1,true_and];by_cases e:n=E.ρ x <;> simp [e]
 | mp _ _ _=>exact hp.elim
 | mpe _ _ _ _ _=>exact hp.elim
 | wm _ _ _=>exact hp.elim
 | pr _=>exact hp.elim
def takesO (E:Env) (own:Own) (n:Nat):Prop:=∃ x b,atN own x=some b∧takes E x b n
def PlainO (own:Own):Prop:=∀ x b,atN own x=some b→PlainB b
def mkO (P:Program) (w:World) (W:Nat→Prop) (rs:List RS) (R:Ending→World→Prop):Ctx:=⟨P,mkTab P [],w.heap.size,W,w,rs,R⟩
theorem mkO_rs (P:Program) (w:World) (W:Nat→Prop) (rs:List RS) (R:Ending→World→Prop):(mkO P w W rs R).rs=rs:=rfl
def Handed (w:World) (E:Env) (n0:Nat) (own:Own) (arrs:List (Nat×Fm ArrF)):Prop :=
 OneC E∧∀ E',AgreeD (· < n0) E E'→OneC E'→InOk (mkO default w (takesO E own) [] fun _ _=>True) E' own arrs [AgF n0 E] w
theorem enterO {P:Program} {f nt:Nat} {fn:Func} {x:Code} {c:IR} {w:World} {E:Env} {n0:Nat} {own:Own} {arrs:List (Nat×Fm ArrF)} {rs:List RS} {R:Ending→World→Prop} (h:Handed w E n0 own arrs) (sc:List SV)
  (hf:P.funcs[f]? = some fn) (hb:fn.body=some x) (hc:compC (mkTab P []) x=some c.strip) (hr:compR (mkTab P []).T fn.results.toList=some rs) (hn:fn.ntmps=nt)
  (hsc:okVs (· < n0) sc) (hnt:sc.length≤nt)
  (hex:exec (mkO P w (takesO E own) rs R) 1000 [.code c] ⟨nt,enumT 0 sc,own,arrs,[AgF n0 E],n0⟩):Calls P f (sc.map (SV.den E)).toArray w R:=by
 have hone:=h.1
 subst hn
 refine calls_of_exec (C:=mkO P w (takesO E own) rs R) (E:=E) 1000 (mkTab_ok _ _) hf hb hc hr ⟨hone,fun E' hE' ho'=>?_⟩ hex
 obtain ⟨H,h1,h2,h3,h4⟩:=h.2 E' hE' ho'
 have hvv:sc.map (SV.den E')=sc.map (SV.den E):=dens_same (p:=(· < n0)) (fun x hx=>hE' x hx) hsc
 refine ⟨by simp;omega,rfl,ho',fun t v ht=>?_,⟨rfl,rfl,rfl,Nat.le_refl _,fun _ _ _=>rfl⟩,H,⟨h1,h2,fun x b hb n o hn=>⟨(h3 x b hb n o hn).1,Or.inr (h3 x b hb n o hn).2⟩⟩,h4⟩
 obtain ⟨j,rfl,hj⟩:=look_enumT sc 0 t v ht
 have hjl:j<sc.length:=(List.getElem?_eq_some_iff.1 hj).1
 refine ⟨by simp only;omega,?_⟩
 simp only [← hvv,Nat.zero_add,Array.getD_eq_getD_getElem?]
 rw [Array.getElem?_append_left (by simpa using hjl)]
 simp [hj]
def EffR (w:World) (E:Env) (n0:Nat) (W:Nat→Prop) (u:SV) (nx:Nat) (eff:Nat→Own) (e:Ending) (w' : World):Prop :=
 ∃ v,e = .returned v∧Frame0 w.heap.size W w w'∧∀ b,n0≤b→∃ N:Env,OneC N∧∀ E2,AgreeD (· < n0) E E2→AgreeD (NewIds b nx) N E2→v=u.den E2 ∧
  ∃ H:Nm→PH,(∀ x c,atN (eff b) x=some c→c.den E2 x (H x))∧(∀ x y c d,atN (eff b) x=some c→atN (eff b) y=some d→x≠y→∀ n,H x n=none∨H y n=none) ∧
   ∀ x c,atN (eff b) x=some c→∀ n o,H x n=some o→w'.heap[n]? = some o∧(w.heap.size≤n∨W n)
def killO (ks:List Nat):Own:=ks.map fun i=>(i,.one .no)
theorem look_app {α:Type}:∀ (l r:List (Nat×α)) (t:Nat),look (l++r) t=match look l t with | some v=>some v | none=>look r t
 | [],r,t=>rfl
 | (k,v) :: l,r,t=>by
  simp only [List.cons_append,look_cons]
  split
  ·rfl
  ·exact look_app l r t
theorem look_kill:∀ (ks:List Nat) (t:Nat),look (killO ks) t=if t∈ks then some (.one .no) else none
 | [],t=>rfl
 | k :: ks,t=>by
  simp only [killO,List.map_cons,look_cons,List.mem_cons]
  by_cases e:k=t
  ·subst e;simp
  ·have:=look_kill ks t
   simp only [killO] at this
   rw [if_neg e,this]
   by_cases h:t∈ks
   ·simp [h]
   ·have e' : ¬ t=k:=fun q=>e q.symm
    simp [h,e']
theorem atN_kill {ks:List Nat} {own:Own} {x:Nm} {c:Blk} (h:atN (killO ks++own) x=some c):(x.1∈ks∧c = .no)∨(x.1 ∉ ks∧atN own x=some c):=by
 obtain ⟨a,k⟩:=x
 simp only [atN,look_app,look_kill] at h ⊢
 by_cases e:a∈ks
 ·left
  simp only [e,if_true] at h
  simp only [Fm.get] at h
  split at h
  ·cases h;exact ⟨e,rfl⟩
  ·cases h
 ·right
  simp only [e,if_false] at h
  exact ⟨e,h⟩
theorem retEff {P:Program} {w:World} {E:Env} {n0:Nat} {W:Nat→Prop} {rs:List RS} {u v:SV} {nx:Nat} {S2:St} (σ:Nat→Nm→Nm) (ks:List Nat) (eff1:Nat→Own)
  (hf:AgF n0 E∈S2.facts) (hu:∀ E E',v.den E=u.den E') (hσ0:∀ b,n0≤b→∀ x:Nm,x.1<n0→σ b x=x)
  (ho:∀ b,n0≤b→OwnLe (fun i=>i<n0∨NewIds b nx i) (σ b) S2.own (eff1 b)) (hi:∀ b,n0≤b→InjN (σ b) (eff1 b)):RetVC (mkO P w W rs (EffR w E n0 W u nx fun b=>killO ks++eff1 b)) v S2:=by
 intro E1 a w' hs
 have hs:=hs.sat
 obtain ⟨H,hH,hF⟩:=hs.mem
 have hag:AgreeD (· < n0) E E1:=(hF w' fun _ _ _=>rfl).2 (AgF n0 E) hf
 refine ⟨_,rfl,hs.frame,fun b hb=>⟨E1.via (σ b),fun x=>hs.one _,fun E2 hE2 hN2=>⟨hu _ _,?_⟩⟩⟩
 have hR:∀ x:Nm,(x.1<n0∨NewIds b nx x.1)→SameR (σ b) E1 E2 x:=fun x hx=>by
  rcases hx with hx | hx
  ·have h1:=hag x hx
   have h2:=hE2 x hx
   unfold SameR
   rw [hσ0 b hb x hx]
   exact ⟨h2.1.trans h1.1.symm,h2.2.1.trans h1.2.1.symm,h2.2.2.1.trans h1.2.2.1.symm,h2.2.2.2.trans h1.2.2.2.symm⟩
  ·exact hN2 x hx
 have hat:∀ x c,atN (eff1 b) x=some c→(x.1<n0∨NewIds b nx x.1)∧∃ d,atN S2.own (σ b x)=some d∧BlkLe (fun i=>i<n0∨NewIds b nx i) (σ b) d c:=fun x c hx=>ownLe_at (ho b hb) hx
 refine ⟨fun x=>if x.1∈ks then emp else H (σ b x),fun x c hx=>?_,fun x y c d hx hy hne n=>?_,fun x c hx n o hn=>?_⟩
 ·rcases atN_kill hx with ⟨h1,rfl⟩ | ⟨h1,hx⟩
  ·simp only [h1,if_true];rfl
  ·simp only [h1,if_false]
   obtain ⟨h1,d,h2,h3⟩:=hat x c hx
   exact blk_le hR h1 h3 (hH.den _ _ h2)
 ·rcases atN_kill hx with ⟨h1,rfl⟩ | ⟨h1,hx⟩
  ·simp [h1,emp]
  ·rcases atN_kill hy with ⟨h2,rfl⟩ | ⟨h2,hy⟩
   ·simp [h2,emp]
   ·simp only [h1,h2,if_false]
    obtain ⟨_,d1,g2,_⟩:=hat x c hx
    obtain ⟨_,d2,k2,_⟩:=hat y d hy
    exact hH.disj _ _ d1 d2 g2 k2 (fun e=>hne (hi b hb x y c d hx hy e)) n
 ·rcases atN_kill hx with ⟨h1,rfl⟩ | ⟨h1,hx⟩
  ·simp [h1,emp] at hn
  ·simp only [h1,if_false] at hn
   obtain ⟨_,d1,g2,_⟩:=hat x c hx
   exact hH.sub _ d1 g2 n o hn
theorem takes_same {E E2:Env} {x:Nm} (h:Same E E2 x) {b:Blk} {n:Nat}:takes E2 x b n↔takes E x b n:=by
 cases b <;> simp [takes,h.1,h.2.1]
theorem blkLe_plain {p:Nat→Prop} {σ:Nm→Nm} {b b' : Blk} (h:BlkLe p σ b b') (hp:PlainB b'):PlainB b∧∀ E x n,takes E x b n↔takes E x b' n:=by
 cases b' <;> cases b <;> simp [BlkLe,PlainB] at * <;> simp [takes]
theorem cr_own {C:Ctx} {S:St} {f:Nat} {vs:List SV} {u:SV} {nx:Nat} {eff:Nat→Own} (n0:Nat) (own0:Own) (arrs0:List (Nat×Fm ArrF)) (hn0:n0≤S.nid) (hp:PlainO own0)
  (hown:OwnLe (· < n0) (idσ id) S.own own0) (harr:ArrsLe (· < n0) (idσ id) S.arrs arrs0) (hk:∀ x b,atN own0 x=some b→(look (eff S.nid) x.1).isSome=true)
  (hc:∀ E w,Handed w E n0 own0 arrs0→Calls C.P f (vs.map (SV.den E)).toArray w (EffR w E n0 (takesO E own0) u nx eff)):CR C f vs S (List.range n0) u nx (eff S.nid) []:=by
 intro E a w hs
 obtain ⟨H,hH,hF⟩:=hs.mem
 have hat:∀ x c,atN own0 x=some c→x.1<n0∧∃ d,atN S.own x=some d∧BlkLe (· < n0) (idσ id) d c:=fun x c hx=>ownLe_at hown hx
 have hand:Handed w E n0 own0 arrs0:=by
  refine ⟨hs.one,fun E' hE' ho'=>⟨H,fun x c hx=>?_,fun x y c d hx hy hne n=>?_,fun x c hx n o hn=>?_,fun w' hw'=>⟨fun x A hA=>?_,fun φ hφ=>?_⟩⟩⟩
  ·obtain ⟨h1,d,h2,h3⟩:=hat x c hx
   exact blk_le (σ:=idσ id) (fun y hy=>hE' y hy) h1 h3 (hH.den _ _ h2)
  ·obtain ⟨_,d1,g1,_⟩:=hat x c hx
   obtain ⟨_,d2,g2,_⟩:=hat y d hy
   exact hH.disj x y d1 d2 g1 g2 hne n
  ·obtain ⟨_,d1,g1,g3⟩:=hat x c hx
   refine ⟨(hH.sub x d1 g1 n o hn).1,x,c,hx,?_⟩
   obtain ⟨k1,k2⟩:=blkLe_plain g3 (hp x c hx)
   exact (k2 E x n).1 ((takes_iff k1 (hH.den x d1 g1)).1 (by rw [hn];simp))
  ·obtain ⟨h1,A0,h2,h3,h4,h5,h6⟩:=arrsLe_at harr hA
   have hold:=hF w' fun n hn hfr=>hw' n hn fun x c hx=>by
    obtain ⟨_,d1,g1,_⟩:=hat x c hx
    exact hfr x d1 g1
   obtain ⟨ba,cap,g1,g2,g3,g4⟩:=hold.1 x A0 h2
   have hR:∀ y:Nm,y.1<n0→SameR (idσ id) E E' y:=fun y hy=>hE' y hy
   refine ⟨ba,cap,by rw [(hR x h1).2.2.2];exact g1.trans (by rw [h3]),by omega,g3,?_⟩
   rcases g4 with g4 | ⟨b,off,rfl,gl,g4⟩
   ·exact Or.inl (by omega)
   ·refine Or.inr ⟨b,off,rfl,Nat.le_trans h6 gl,fun k hk=>?_⟩
    obtain ⟨f1,f2⟩:=g4 k (by omega)
    obtain ⟨e1,e2⟩:=h5 k hk
    rw [e1] at f1 f2
    refine ⟨by rw [renL_eq,List.length_map] at f1;omega,fun j q hq=>?_⟩
    have:=f2 j _ (mem_renL hq)
    rw [den_ren hR q (okL_mem e2 hq),← h4]
    exact this
  ·simp only [List.mem_singleton] at hφ
   subst hφ
   exact hE'
 refine (hc E w hand).mono ?_
 rintro e w' ⟨v,rfl,hfr,hN⟩
 obtain ⟨N,hN1,hN2⟩:=hN S.nid hn0
 refine ⟨v,rfl,N,hN1,fun E2 hs2 hks hag=>?_⟩
 have hE2:AgreeD (· < n0) E E2:=fun x hx=>hks x (List.mem_range.2 hx)
 obtain ⟨h1,H',h2,h3,h4⟩:=hN2 E2 hE2 hag
 refine ⟨h1,Fits.G ⟨fun H2 hH2=>?_,fun _ _ x A hA=>by simp [atN,look] at hA⟩⟩
 have htk:∀ x c,atN own0 x=some c→∃ d,atN S.own x=some d∧∀ n,H2 x n≠none↔takes E x c n:=fun x c hx=>by
  obtain ⟨k0,d,g1,g3⟩:=hat x c hx
  obtain ⟨k1,k2⟩:=blkLe_plain g3 (hp x c hx)
  refine ⟨d,g1,fun n=>?_⟩
  rw [takes_iff k1 (hH2.den x d g1),k2 E2 x n,takes_same (hE2 x k0)]
 refine ⟨hfr.os,hfr.tape,hfr.output,hfr.size,fun n hn hfree=>hfr.keep n hn ?_,H',h2,h3,fun x c hx n o hn=>⟨(h4 x c hx n o hn).1,(h4 x c hx n o hn).2.imp id ?_⟩⟩
 ·rintro ⟨x,c,hx,ht⟩
  obtain ⟨d,g1,g2⟩:=htk x c hx
  exact (g2 n).2 ht (hfree x d (hk x c hx) g1)
 ·rintro ⟨y,c,hy,ht⟩
  obtain ⟨d,g1,g2⟩:=htk y c hy
  exact ⟨y,d,hk y c hy,g1,(g2 n).2 ht⟩
def PlainL:Own→Prop
 | []=>True
 | (_,.one b) :: r=>PlainB b∧PlainL r
 | (_,.fam _ f) :: r=>(∀ k,PlainB (f k))∧PlainL r
 | (_,.fam2 _ _ f) :: r=>(∀ k e,PlainB (f k e))∧PlainL r
theorem plain_of:∀ {own:Own},PlainL own→PlainO own
 | [],_,x,b,hx=>(atN_nil hx).elim
 | (i,F) :: r,h,(a,k,e),b,hx=>by
  simp only [atN,look_cons] at hx
  by_cases q:i=a
  ·rw [if_pos q] at hx
   cases F with
   | one c =>
    simp only [Fm.get] at hx
    split at hx
    ·cases hx;exact h.1
    ·cases hx
   | fam n f =>
    simp only [Fm.get] at hx
    split at hx
    ·cases hx;exact h.1 _
    ·cases hx
   | fam2 n m f =>
    simp only [Fm.get] at hx
    split at hx
    ·cases hx;exact h.1 _ _
    ·cases hx
  ·rw [if_neg q] at hx
   have hr:PlainL r:=by cases F <;> exact h.2
   exact plain_of hr (a,k,e) b hx
end Go.Proofs.Ytcloeignccpljaa.Z
namespace Go.Proofs.Ytcloeignccpljaa.Z
open Go Go.RowKit
theorem cr_ownS {C:Ctx} {S:St} {f:Nat} {vs:List SV} {u:SV} {nx:Nat} {eff:Nat→Own} (n0:Nat) (own0:Own) (arrs0:List (Nat×Fm ArrF)) (hn0:n0≤S.nid) (hp:PlainO own0)
  (hown:OwnLe (· < n0) (idσ id) S.own own0) (harr:ArrsLe (· < n0) (idσ id) S.arrs arrs0) (hk:∀ x b,atN own0 x=some b→(look (eff S.nid) x.1).isSome=true)
  (hc:∀ E a w,Sat C.B C.W C.w0 E S a w→Handed w E n0 own0 arrs0→Calls C.P f (vs.map (SV.den E)).toArray w (EffR w E n0 (takesO E own0) u nx eff)):CR C f vs S (List.range n0) u nx (eff S.nid) []:=by
 intro E a w hs
 obtain ⟨H,hH,hF⟩:=hs.mem
 have hat:∀ x c,atN own0 x=some c→x.1<n0∧∃ d,atN S.own x=some d∧BlkLe (· < n0) (idσ id) d c:=fun x c hx=>ownLe_at hown hx
 have hand:Handed w E n0 own0 arrs0:=by
  refine ⟨hs.one,fun E' hE' ho'=>⟨H,fun x c hx=>?_,fun x y c d hx hy hne n=>?_,fun x c hx n o hn=>?_,fun w' hw'=>⟨fun x A hA=>?_,fun φ hφ=>?_⟩⟩⟩
  ·obtain ⟨h1,d,h2,h3⟩:=hat x c hx
   exact blk_le (σ:=idσ id) (fun y hy=>hE' y hy) h1 h3 (hH.den _ _ h2)
  ·obtain ⟨_,d1,g1,_⟩:=hat x c hx
   obtain ⟨_,d2,g2,_⟩:=hat y d hy
   exact hH.disj x y d1 d2 g1 g2 hne n
  ·obtain ⟨_,d1,g1,g3⟩:=hat x c hx
   refine ⟨(hH.sub x d1 g1 n o hn).1,x,c,hx,?_⟩
   obtain ⟨k1,k2⟩:=blkLe_plain g3 (hp x c hx)
   exact (k2 E x n).1 ((takes_iff k1 (hH.den x d1 g1)).1 (by rw [hn];simp))
  ·obtain ⟨h1,A0,h2,h3,h4,h5,h6⟩:=arrsLe_at harr hA
   have hold:=hF w' fun n hn hfr=>hw' n hn fun x c hx=>by
    obtain ⟨_,d1,g1,_⟩:=hat x c hx
    exact hfr x d1 g1
   obtain ⟨ba,cap,g1,g2,g3,g4⟩:=hold.1 x A0 h2
   have hR:∀ y:Nm,y.1<n0→SameR (idσ id) E E' y:=fun y hy=>hE' y hy
   refine ⟨ba,cap,by rw [(hR x h1).2.2.2];exact g1.trans (by rw [h3]),by omega,g3,?_⟩
   rcases g4 with g4 | ⟨b,off,rfl,gl,g4⟩
   ·exact Or.inl (by omega)
   ·refine Or.inr ⟨b,off,rfl,Nat.le_trans h6 gl,fun k hk=>?_⟩
    obtain ⟨f1,f2⟩:=g4 k (by omega)
    obtain ⟨e1,e2⟩:=h5 k hk
    rw [e1] at f1 f2
    refine ⟨by rw [renL_eq,List.length_map] at f1;omega,fun j q hq=>?_⟩
    have:=f2 j _ (mem_renL hq)
    rw [den_ren hR q (okL_mem e2 hq),← h4]
    exact this
  ·simp only [List.mem_singleton] at hφ
   subst hφ
   exact hE'
 refine (hc E a w hs hand).mono ?_
 rintro e w' ⟨v,rfl,hfr,hN⟩
 obtain ⟨N,hN1,hN2⟩:=hN S.nid hn0
 refine ⟨v,rfl,N,hN1,fun E2 hs2 hks hag=>?_⟩
 have hE2:AgreeD (· < n0) E E2:=fun x hx=>hks x (List.mem_range.2 hx)
 obtain ⟨h1,H',h2,h3,h4⟩:=hN2 E2 hE2 hag
 refine ⟨h1,Fits.G ⟨fun H2 hH2=>?_,fun _ _ x A hA=>by simp [atN,look] at hA⟩⟩
 have htk:∀ x c,atN own0 x=some c→∃ d,atN S.own x=some d∧∀ n,H2 x n≠none↔takes E x c n:=fun x c hx=>by
  obtain ⟨k0,d,g1,g3⟩:=hat x c hx
  obtain ⟨k1,k2⟩:=blkLe_plain g3 (hp x c hx)
  refine ⟨d,g1,fun n=>?_⟩
  rw [takes_iff k1 (hH2.den x d g1),k2 E2 x n,takes_same (hE2 x k0)]
 refine ⟨hfr.os,hfr.tape,hfr.output,hfr.size,fun n hn hfree=>hfr.keep n hn ?_,H',h2,h3,fun x c hx n o hn=>⟨(h4 x c hx n o hn).1,(h4 x c hx n o hn).2.imp id ?_⟩⟩
 ·rintro ⟨x,c,hx,ht⟩
  obtain ⟨d,g1,g2⟩:=htk x c hx
  exact (g2 n).2 ht (hfree x d (hk x c hx) g1)
 ·rintro ⟨y,c,hy,ht⟩
  obtain ⟨d,g1,g2⟩:=htk y c hy
  exact ⟨y,d,hk y c hy,g1,(g2 n).2 ht⟩
end Go.Proofs.Ytcloeignccpljaa.Z
namespace Go.Proofs.Ytcloeignccpljaa.Z
open Go Go.RowKit
abbrev VEnt:=Int×SC×Nat
def VEnt.den (kd:IntKind) (E:Env) (e:VEnt):MapEntry:=⟨.int kd e.1,e.2.1.den E,e.2.2⟩
def fndV (E:Env) (n:Int):List VEnt→Nat→Option (Nat×Value)
 | [],_=>none
 | e :: r,i=>if e.1=n then some (i,e.2.1.den E) else fndV E n r (i+1)
def getV:List (Int×SC)→Int→SC
 | [],_=>.v .nilFunc
 | e :: r,n=>if e.1=n then e.2 else getV r n
def hasV:List (Int×SC)→Int→Bool
 | [],_=>false
 | e :: r,n=>if e.1=n then true else hasV r n
def MapV (x:Nm) (kd:IntKind) (G:List (Int×SC)):Env→PH→Prop:=fun E h =>
 ∃ (L:List VEnt) (clock:Nat),h=sing (E.ρ x) (.map (L.map (VEnt.den kd E)).toArray clock)∧L.map (fun e=>(e.1,e.2.1))=G
def mapFn (T:TT) (t:Nat) (kd:IntKind):Bool:=match look T t with
 | some ti=>match ti.desc with
  | .map k e=>match look T k,look T e with
   | some tk,some te=>(match tk.desc with | .int kd'=>decide (kd' = kd) | _=>false) && zEq te.zero .nilFunc
   | _,_=>false
  | _=>false
 | none=>false
variable {P:Program} {w:World}
theorem mapFn_ok {T:TT} (hT:TOk P T) {t:Nat} {kd:IntKind} (h:mapFn T t kd=true):∃ kt et,P.underlying t=some (.map kt et)∧P.underlying kt=some (.int kd)∧∀ w:World,(zeroValue et).run P w = .ok .nilFunc w:=by
 unfold mapFn at h
 split at h
 ·next ti hti =>
  split at h
  ·next k e hd =>
   split at h
   ·next tk te htk hte =>
    simp only [Bool.and_eq_true] at h
    obtain ⟨h1,h2⟩:=h
    obtain ⟨hu,_⟩:=ti_parts hT hti
    obtain ⟨huk,_⟩:=ti_parts hT htk
    obtain ⟨_,ie,hie,hze,_⟩:=ti_parts hT hte
    refine ⟨k,e,by rw [hu,hd],?_,fun w=>by rw [run_zeroValue hie hze,zEq_eq h2]⟩
    split at h1
    ·next kd' hkd =>
     have:=of_decide_eq_true h1
     rw [huk,hkd,this]
    ·cases h1
   ·cases h
  ·cases h
 ·cases h
theorem run_findKeyV {kt:TypeId} {kd:IntKind} (hk:P.underlying kt=some (.int kd)) (E:Env) (n:Int) (L:List VEnt) :
  (Instr.findKey kt (.int kd n) (L.map (VEnt.den kd E))).run P w = .ok (fndV E n L 0) w:=by
 have key:∀ (L:List VEnt) (i:Nat),Instr.findNow (.int kd) (.int kd n) (L.map (VEnt.den kd E)) i=some (fndV E n L i):=by
  intro L
  induction L with
  | nil=>intro i;rfl
  | cons e r ih =>
   intro i
   simp only [List.map_cons,Instr.findNow,VEnt.den,Instr.sameNow,if_true,fndV]
   by_cases hnm:e.1=n
   ·rw [if_pos hnm,hnm];simp
   ·have h1:(n == e.1)=false:=by simp;exact fun h=>hnm h.symm
    rw [h1,if_neg hnm]
    exact ih (i+1)
 unfold Instr.findKey
 simp only [Sem.run_bind,run_underlying hk,Result.andThen_ok,key L 0,Sem.run_pure]
theorem fndV_get {E:Env} {n:Int}:∀ {L:List VEnt} {G:List (Int×SC)} (i:Nat),L.map (fun e=>(e.1,e.2.1))=G→((fndV E n L i).map (·.2)).getD .nilFunc=(getV G n).den E
 | [],G,i,h=>by subst h;simp [fndV,getV,SC.den]
 | e :: r,G,i,h=>by
  subst h
  simp only [fndV,List.map_cons,getV]
  split
  ·rfl
  ·exact fndV_get (i+1) rfl
theorem fndV_none {E:Env} {n:Int}:∀ {L:List VEnt} {G:List (Int×SC)} (i:Nat),L.map (fun e=>(e.1,e.2.1))=G→hasV G n=false→fndV E n L i=none
 | [],G,i,h,_=>rfl
 | e :: r,G,i,h,hn=>by
  subst h
  simp only [List.map_cons,hasV] at hn
  simp only [fndV]
  split at hn
  ·cases hn
  ·next q=>rw [if_neg q];exact fndV_none (i+1) rfl hn
theorem compOp_xmk {T:TT} {op:Op} {t:Nat} (hc:compOp T op=some (.xmk t)):op = .makeMap t none:=by
 cases op
 case makeMap t' r =>
  cases r with
  | some _=>cases hc
  | none =>
   simp only [compOp] at hc
   split at hc <;> cases hc
   rfl
 all_goals
  exfalso
  simp only [compOp,reduceCtorEq] at hc
  try (repeat' (first | (split at hc) | (simp only [Option.bind_eq_some_iff,Option.map_eq_some_iff] at hc) | (obtain ⟨_,_,hc⟩:=hc)))
  all_goals first | (cases hc;done) | (simp only [Option.some.injEq,reduceCtorEq] at hc;done)
theorem compOp_xlk {T:TT} {op:Op} {t:Nat} {ok:Bool} {im ik:IX} (hc:compOp T op=some (.xlk t ok im ik)):∃ m k,op = .lookup t m k ok∧opd m=some im∧opd k=some ik:=by
 cases op
 case lookup t' m k ok' =>
  simp only [compOp,Option.bind_eq_some_iff,Option.map_eq_some_iff] at hc
  obtain ⟨im',hm,ik',hk,hc⟩:=hc
  split at hc <;> cases hc
  exact ⟨m,k,rfl,hm,hk⟩
 case makeMap t' r =>
  exfalso
  cases r with
  | some _=>cases hc
  | none =>
   simp only [compOp] at hc
   split at hc <;> cases hc
 all_goals
  exfalso
  simp only [compOp,reduceCtorEq] at hc
  try (repeat' (first | (split at hc) | (simp only [Option.bind_eq_some_iff,Option.map_eq_some_iff] at hc) | (obtain ⟨_,_,hc⟩:=hc)))
  all_goals first | (cases hc;done) | (simp only [Option.some.injEq,reduceCtorEq] at hc;done)
theorem compOp_xup {T:TT} {op:Op} {t:Nat} {im ik iv:IX} (hc:compOp T op=some (.xup t im ik iv)):∃ m k v,(op = .mapUpdate t m k v∨op = .insert t m k v)∧opd m=some im∧opd k=some ik∧opd v=some iv:=by
 cases op
 case mapUpdate t' m k v | insert t' m k v =>
  simp only [compOp,Option.bind_eq_some_iff,Option.map_eq_some_iff] at hc
  obtain ⟨im',hm,ik',hk,iv',hv,hc⟩:=hc
  split at hc <;> cases hc
  exact ⟨m,k,v,by simp,hm,hk,hv⟩
 case makeMap t' r =>
  exfalso
  cases r with
  | some _=>cases hc
  | none =>
   simp only [compOp] at hc
   split at hc <;> cases hc
 all_goals
  exfalso
  simp only [compOp,reduceCtorEq] at hc
  try (repeat' (first | (split at hc) | (simp only [Option.bind_eq_some_iff,Option.map_eq_some_iff] at hc) | (obtain ⟨_,_,hc⟩:=hc)))
  all_goals first | (cases hc;done) | (simp only [Option.some.injEq,reduceCtorEq] at hc;done)
section
variable {C:Ctx} {S:St}
theorem xmk_vc {t:Nat} {kd:IntKind} {d:Option Nat} {K:St→Prop} (hK:K ⟨S.nt,S.putT d (.c (.mp (S.nid,0,0))),mergeL [(S.nid,.one (.pr (MapV (S.nid,0,0) kd [])))] S.own,S.arrs,S.facts,S.nid+1⟩):OpVC C (.xmk t) d S K:=by
 intro o hop hd E a w hs K' Q hKK
 have hop:=compOp_xmk hop
 have hr:(Instr.makeMap t none).run C.P w = .ok (.map (some w.heap.size)) (w.alloc (.map #[] 0)):=by simp [Instr.makeMap]
 have haft:∃ v w',RunsTo ((execOp a.eval o).run C.P w) v w'∧After C.B C.W C.w0 E [] S a w (.c (.mp (S.nid,0,0))) 1 [(S.nid,.one (.pr (MapV (S.nid,0,0) kd [])))] [] v w':=by
  have e:(execOp a.eval o).run C.P w=(do pure (Next.value (← Instr.makeMap t none)):Sem Next).run C.P w:=by unfold execOp;rw [hop];rfl
  rw [e]
  refine det_after (one1 w.heap.size 0 false) (one1_one _ _ _) ⟨_,_,Or.inl (run_val hr)⟩ fun E2 hs2 hag=>?_
  have hE:=one1_at hag
  refine ⟨w.alloc (.map #[] 0),Or.inl ?_,fits_alloc (o:=.map #[] 0) ?_ _ (Or.inl rfl)⟩
  ·rw [run_val hr,den_c]
   simp only [SC.den,hE.1]
  ·simp only [Blk.den,MapV,hE.1]
   exact ⟨[],0,rfl,rfl⟩
 obtain ⟨v,w',hr2,haft⟩:=haft
 obtain ⟨E',h'⟩:=satA_after hs (fun i hi=>by cases hi) haft o.dst
 unfold Oper.wp
 subst hd
 rcases hr2 with hr2 | ⟨hr2,rfl⟩
 ·rw [hr2];exact hKK E' _ _ _ h' hK
 ·rw [hr2];exact hKK E' _ _ _ h' hK
theorem xlk_op {t:Nat} {kd:IntKind} {im ik:IX} {x:Nm} {n:Int} {G:List (Int×SC)} (hT:TOk C.P C.tab.T) (hv:mapFn C.tab.T t kd=true) (hm:S.ev im=some (.c (.mp x))) (hk:S.ev ik=some (.c (.v (.int kd n))))
  (hw:∀ E a w,Sat C.B C.W C.w0 E S a w→∃ (L:List VEnt) (clock:Nat),w.heap[E.ρ x]? = some (.map (L.map (VEnt.den kd E)).toArray clock)∧L.map (fun e=>(e.1,e.2.1))=G):OpR C (.xlk t false im ik) S (.c (getV G n)) 0 [] []:=by
 intro o hop E a w hs
 obtain ⟨m,k,hop,hom,hok⟩:=compOp_xlk hop
 obtain ⟨kt,et,hu,hkt,hz⟩:=mapFn_ok hT hv
 refine pure_after hs fun E2 hs2=>?_
 have e:(execOp a.eval o).run C.P w=(do pure (Next.value (← Instr.lookup t (a.eval m) (a.eval k) false)):Sem Next).run C.P w:=by unfold execOp;rw [hop]
 obtain ⟨L,clock,hb,hL⟩:=hw E2 a w hs2
 have hr:(Instr.lookup t (a.eval m) (a.eval k) false).run C.P w = .ok ((getV G n).den E2) w:=by
  have hfk:=run_findKeyV (w:=w) hkt E2 n L
  rw [opd_den hs2 hom hm,opd_den hs2 hok hk,den_c,den_c,den_v]
  have hck:∀ em,(Instr.checkKey em 10000 kt (.int kd n)).run C.P w = .ok () w:=fun em=>by
   have:=run_checkKey (w:=w) (kk:=.int kd) (a:=[n]) (P:=C.P) (kt:=kt) hkt rfl em
   exact this
  rw [← fndV_get (E:=E2) 0 hL]
  simp only [SC.den,Instr.lookup,Sem.run_bind,run_underlying hu,Result.andThen_ok,run_getObj hb,Sem.run_pure,hck,hfk]
  cases fndV E2 n L 0 with
  | none=>simp;exact hz w
  | some q=>simp
 rw [e,run_val hr,den_c]
theorem xlk_dvc {t:Nat} {kd:IntKind} {d:Option Nat} {U:List Nat} {done:List Rec} {S' : St} {ex:List Rec→St→Prop} {im ik:IX} {x:Nm} {n:Int} {G:List (Int×SC)} (hT:TOk C.P C.tab.T) (hv:mapFn C.tab.T t kd=true) (hm:S.ev im=some (.c (.mp x))) (hk:S.ev ik=some (.c (.v (.int kd n))))
  (hw:∀ E a w,Sat C.B C.W C.w0 E S a w→∃ (L:List VEnt) (clock:Nat),w.heap[E.ρ x]? = some (.map (L.map (VEnt.den kd E)).toArray clock)∧L.map (fun e=>(e.1,e.2.1))=G)
  (hK:ex (done++[⟨d,.c (getV G n),[],[],S.nid,0,keysL S.own,[],[]⟩]) (S'.appN ⟨d,.c (getV G n),[],[],S.nid,0,keysL S.own,[],[]⟩)):DOpVC C (.xlk t false im ik) d U S done S' ex :=
 ⟨.c (getV G n),0,[],[],xlk_op hT hv hm hk hw,trivial,trivial,fun k hk=>(by cases hk),hK⟩
theorem xup_vc {t:Nat} {kd:IntKind} {d:Option Nat} {K:St→Prop} {im ik iv:IX} {x:Nm} {n:Int} {c:SC} {G:List (Int×SC)} {p:Prop} (hT:TOk C.P C.tab.T) (hv:mapFn C.tab.T t kd=true) (hm:S.ev im=some (.c (.mp x))) (hk:S.ev ik=some (.c (.v (.int kd n)))) (hvv:S.ev iv=some (.c c))
  (hx:pkN S.own x=some (p,.pr (MapV x kd G))) (hp:p) (hn:hasV G n=false)
  (hK:K ⟨S.nt,S.putT d (.c (.v undef)),mergeL (setN S.own x (.pr (MapV x kd (G++[(n,c)])))) S.own,S.arrs,S.facts,S.nid⟩):OpVC C (.xup t im ik iv) d S K:=by
 intro o hop hd E a w hs K' Q hKK
 obtain ⟨m,k,v,hop,hom,hok,hov⟩:=compOp_xup hop
 obtain ⟨kt,et,hu,hkt,hz⟩:=mapFn_ok hT hv
 have haft:∃ v w',RunsTo ((execOp a.eval o).run C.P w) v w'∧After C.B C.W C.w0 E [] S a w (.c (.v undef)) 0 (setN S.own x (.pr (MapV x kd (G++[(n,c)])))) [] v w':=by
  have e:(execOp a.eval o).run C.P w=(do Instr.mapUpdate t (a.eval m) (a.eval k) (a.eval v);pure Next.skip:Sem Next).run C.P w:=by
   unfold execOp
   rcases hop with hop | hop <;> rw [hop]
  have key:∀ E2,Sat C.B C.W C.w0 E2 S a w→∃ w2,(Instr.mapUpdate t (a.eval m) (a.eval k) (a.eval v)).run C.P w = .ok () w2∧Fits C.B C.W E2 S w w2 (setN S.own x (.pr (MapV x kd (G++[(n,c)])))) []:=by
   intro E2 hs2
   have hmem:=hs2.mem
   obtain ⟨H,hH,_⟩:=hmem
   have h1:=hH.den x _ (pkN_at hx hp)
   simp only [Blk.den,MapV] at h1
   obtain ⟨L,clock,h2,h3⟩:=h1
   have hb:=(hH.sub x _ (pkN_at hx hp) (E2.ρ x) (.map (L.map (VEnt.den kd E2)).toArray clock) (by rw [h2];simp [sing])).1
   have hlt:E2.ρ x<w.heap.size:=(Array.getElem?_eq_some_iff.1 hb).1
   have hfk:=run_findKeyV (w:=w) hkt E2 n L
   rw [fndV_none 0 h3 hn] at hfk
   have hck:∀ em,(Instr.checkKey em 10000 kt (.int kd n)).run C.P w = .ok () w:=fun em=>by
    have:=run_checkKey (w:=w) (kk:=.int kd) (a:=[n]) (P:=C.P) (kt:=kt) hkt rfl em
    exact this
   have hset:∀ es' clock',(setObj (E2.ρ x) (.map es' clock')).run C.P w = .ok () { w with heap:=w.heap.setIfInBounds (E2.ρ x) (.map es' clock') }:=by
    intro es' clock'
    simp [setObj,Sem.run,hb]
   refine ⟨{ w with heap:=w.heap.setIfInBounds (E2.ρ x) (.map ((L.map (VEnt.den kd E2)).toArray.push ⟨.int kd n,c.den E2,clock⟩) (clock+1)) },?_,?_⟩
   ·rw [opd_den hs2 hom hm,opd_den hs2 hok hk,opd_den hs2 hov hvv,den_c,den_c,den_c,den_v]
    simp only [SC.den,Instr.mapUpdate,Sem.run_bind,run_underlying hu,Result.andThen_ok,run_getObj hb,hck,hfk]
    exact hset _ _
   ·refine fits_write (g:=E2.ρ x) (o:=.map ((L.map (VEnt.den kd E2)).toArray.push ⟨.int kd n,c.den E2,clock⟩) (clock+1)) hx hp hlt (fun H hH=>?_) ?_ _ ⟨rfl,rfl,rfl⟩ (fun j=>?_)
    ·have g1:=hH.den x _ (pkN_at hx hp)
     simp only [Blk.den,MapV] at g1
     obtain ⟨L2,c2,g2,_⟩:=g1
     have g3:=(hH.sub x _ (pkN_at hx hp) (E2.ρ x) (.map (L2.map (VEnt.den kd E2)).toArray c2) (by rw [g2];simp [sing])).1
     rw [g2,g3];rfl
    ·simp only [Blk.den,MapV]
     exact ⟨L++[(n,c,clock)],clock+1,by simp [VEnt.den],by simp [h3]⟩
    ·simp only [Array.getElem?_setIfInBounds]
     by_cases e:j=E2.ρ x
     ·subst e;simp [hlt]
     ·simp [e,Ne.symm e]
  rw [e]
  obtain ⟨w',hr,_⟩:=key E hs.sat
  refine det_after E hs.1 ⟨undef,w',Or.inr ⟨run_unit hr,rfl⟩⟩ fun E2 hs2 _=>?_
  obtain ⟨w2,hr2,hf⟩:=key E2 hs2
  exact ⟨w2,Or.inr ⟨run_unit hr2,rfl⟩,hf⟩
 obtain ⟨v,w',hr2,haft⟩:=haft
 obtain ⟨E',h'⟩:=satA_after hs (fun i hi=>by cases hi) haft o.dst
 unfold Oper.wp
 subst hd
 rcases hr2 with hr2 | ⟨hr2,rfl⟩
 ·rw [hr2];exact hKK E' _ _ _ h' hK
 ·rw [hr2];exact hKK E' _ _ _ h' hK
end
end Go.Proofs.Ytcloeignccpljaa.Z
namespace Go.Proofs.Ytcloeignccpljaa.Z
open Go Go.RowKit
def iI (x:Int):SC:=.v (.int .i64 x)
def eU (x:Int):List Value:=[.int .u64 x]
def nextC (p:SC):Nat→Nat→SC
 | 0,1=>.fn (.func 90) [p] []
 | 0,2=>.fn (.func 92) [p] []
 | 0,3=>.fn (.func 98) [p] []
 | 0,4=>.fn (.func 105) [p] []
 | 1,1=>.fn (.func 108) [p] []
 | 1,2=>.fn (.func 109) [p] []
 | 1,3=>.fn (.func 110) [p] []
 | 1,4=>.fn (.func 112) [p] []
 | 1,5=>.fn (.func 111) [p] []
 | 1,6=>.fn (.func 113) [p] []
 | 1,7=>.fn (.func 115) [p] []
 | 2,1=>.fn (.func 119) [p] []
 | 2,2=>.fn (.func 120) [p] []
 | 2,3=>.fn (.func 121) [p] []
 | 2,4=>.fn (.func 122) [p] []
 | _,_=>.v .nilFunc
def tkC (p:SC) (x:D.Tk):List SC:=match x.kd with
 | 0=>[.ptr (9,0,0) 0,nextC p 0 x.ln,iI x.b,iI x.t,iI x.v]
 | 1=>[.ptr (9,0,0) 0,nextC p 1 x.ln,iI x.b,iI x.t,iI x.v,.v (.bool x.got)]
 | _=>[.ptr (9,0,0) 0,nextC p 2 x.ln,iI x.b,iI x.t,iI x.v]
def tkTy:Nat→Nat
 | 0=>96
 | 1=>100
 | _=>102
def tkIf:Nat→Nat
 | 0=>91
 | 1=>98
 | _=>101
def tkB (p:SC):Option D.Tk→Blk
 | none=>.no
 | some x=>.bk (tkC p x) (tkTy x.kd)
def taskI (p:SC):Option D.Tk→SC
 | none=>.v .nilIface
 | some x=>.ifc (tkIf x.kd) p
def seC (t:Nat) (S:List D.Se) (k:Nat):List SC:=[taskI (.ptr (t,k,0) 0) (S.getD k D.se0).tk,.v (.bool (S.getD k D.se0).rd),iI (S.getD k D.se0).la,iI (S.getD k D.se0).ak,iI (S.getD k D.se0).av]
def tkF (t:Nat) (S:List D.Se) (k:Nat):Blk:=tkB (.ptr (t,k,0) 0) (S.getD k D.se0).tk
structure Nz where
 l:Nat
 a:Nat
 c:Nat
 t:Nat
def nz0:Nz:=⟨3,4,6,7⟩
def bkM (z:Nz) (cp tp:SC) (m:D.Pm):List SC:=[.ptr (1,0,0) 0,iI m.th,iI m.nw,cp,tp,.v (.bool m.us),.v (.slice none 0 0),.mp (8,0,0),.sl (5,0,0) 5 0 m.S.length none,iI m.mv,.sl (z.c,0,0) 9 0 m.C.length none]
def bkY (z:Nz) (m:D.Pm):List SC:=[.sl (2,0,0) 1 0 m.W.length none,.sl (z.l,0,0) 7 0 m.L.length none,.sl (z.a,0,0) 1 0 m.A.length none,iI m.mm]
def hubC (m:D.Pm):List SC:=[iI m.room,iI m.top,.v (.bool m.last),iI m.rk,iI m.at_]
def mO (z:Nz) (cp tp:SC) (m:D.Pm):Own :=
  [(0,.one (.bk (bkM z cp tp m) 113)),(1,.one (.bk (bkY z m) 140)),(2,.one (.ar m.W.length 1 (ats eU m.W 0) 44)),
   (z.l,.one (.ar m.L.length 7 (ats D.Ac.enc m.L D.ac0) 47)),(z.a,.one (.ar m.A.length 1 (ats eU m.A 0) 44)),
   (5,.one (.ar m.S.length 5 (seC z.t m.S) 116)),(z.c,.one (.ar m.C.length 9 (ats D.Ca.enc m.C D.ca0) 77)),
   (z.t,.fam m.S.length (tkF z.t m.S)),(9,.one (.bk (hubC m) 88))]
def dO (z:Nz) (i c:Nat) (m:D.Pm):Own:=mO z (.pe (z.c,0,0) 9 c 0) (.pe (5,0,0) 5 i 3) m++[(10,.one (.bk [.ptr (0,0,0) 0] 137))]
def aO (z:Nz) (i c:Nat) (m:D.Pm):Own :=
  [(0,.one (.bk (bkM z (.pe (z.c,0,0) 9 c 0) (.pe (5,0,0) 5 i 3) m) 113)),(1,.one (.bk (bkY z m) 140)),(2,.one (.ar m.W.length 1 (ats eU m.W 0) 44)),
   (z.l,.one (.ar m.L.length 7 (ats D.Ac.enc m.L D.ac0) 47)),(z.a,.one (.ar m.A.length 1 (ats eU m.A 0) 44)),(10,.one (.bk [.ptr (0,0,0) 0] 137))]
def logd (m:D.Pm) (x:D.Ac) (v:Int):D.Pm:={ m with L:=m.L++[x],A:=m.A++[v] }
theorem ats_U (xs:List Int) (d:Int) (e:Nat):ats eU xs d e=[.v (.int .u64 (xs.getD e d))]:=rfl
def tau2 (b p q:Nat) (i:Nat):Nat:=if i=b then p else if i=b+1 then q else i
def pqOk (p q:Nat):Bool:=(p != q) && [p,q].all fun x=>x == 3 || x == 4 || Nat.ble 11 x
theorem tau2_lt {b p q i:Nat} (h:i<b):tau2 b p q i=i:=by unfold tau2;rw [if_neg (by omega),if_neg (by omega)]
theorem tau2_b {b p q:Nat}:tau2 b p q b=p:=if_pos rfl
theorem tau2_b1 {b p q:Nat}:tau2 b p q (b+1)=q:=by unfold tau2;rw [if_neg (by omega),if_pos rfl]
theorem ids_nm (τ:Nat→Nat) (i k e:Nat):idσ τ (i,k,e)=(τ i,k,e):=rfl
theorem nextC_ren (σ:Nm→Nm) (c:SC) (kd ln:Nat):nextC (c.ren σ) kd ln=(nextC c kd ln).ren σ:=by
 unfold nextC;split <;> simp [SC.ren,SC.renL]
theorem nextC_ok {p:Nat→Prop} {c:SC} (h:c.okN p) (kd ln:Nat):(nextC c kd ln).okN p:=by
 unfold nextC;split <;> simp [SC.okN,SC.okL,h]
theorem tkC_ren (σ:Nm→Nm) (h9:σ (9,0,0)=(9,0,0)) (c:SC) (x:D.Tk):tkC (c.ren σ) x=SC.renL σ (tkC c x):=by
 unfold tkC;split <;> simp [SC.ren,SC.renL,nextC_ren,h9,iI]
theorem tkC_ok {p:Nat→Prop} (h9:p 9) {c:SC} (h:c.okN p) (x:D.Tk):SC.okL p (tkC c x):=by
 unfold tkC;split <;> simp [SC.okN,SC.okL,nextC_ok h,h9,iI]
theorem taskI_ren (σ:Nm→Nm) (c:SC) (x:Option D.Tk):taskI (c.ren σ) x=(taskI c x).ren σ:=by
 cases x <;> simp [taskI,SC.ren]
theorem taskI_ok {p:Nat→Prop} {c:SC} (h:c.okN p) (x:Option D.Tk):(taskI c x).okN p:=by
 cases x <;> simp [taskI,SC.okN,h]
theorem seC_ren {σ:Nm→Nm} {t t' : Nat} {S:List D.Se} {k:Nat} (h:σ (t,k,0)=(t',k,0)):seC t' S k=SC.renL σ (seC t S k):=by
 have e:(SC.ptr (t',k,0) 0)=(SC.ptr (t,k,0) 0).ren σ:=by simp [SC.ren,h]
 unfold seC
 rw [e,taskI_ren]
 simp [SC.renL,SC.ren,iI]
theorem seC_ok {p:Nat→Prop} {t:Nat} (h:p t) (S:List D.Se) (k:Nat):SC.okL p (seC t S k):=by
 unfold seC
 simp [SC.okL,SC.okN,taskI_ok (show (SC.ptr (t,k,0) 0).okN p from h),iI]
theorem tkF_le {p:Nat→Prop} {σ:Nm→Nm} {t t' : Nat} {S:List D.Se} {k:Nat} (h9:σ (9,0,0)=(9,0,0)) (p9:p 9) (pt:p t) (h:σ (t,k,0)=(t',k,0)):BlkLe p σ (tkF t' S k) (tkF t S k):=by
 unfold tkF tkB
 cases (S.getD k D.se0).tk with
 | none=>exact trivial
 | some x =>
  have e:(SC.ptr (t',k,0) 0)=(SC.ptr (t,k,0) 0).ren σ:=by simp [SC.ren,h]
  simp only
  rw [e]
  exact ⟨tkC_ren σ h9 _ x,rfl,tkC_ok p9 (show (SC.ptr (t,k,0) 0).okN p from pt) x⟩
structure MIn (own:Own) (z:Nz) (i c:Nat) (m:D.Pm):Prop where
 h0:look own 0=some (.one (.bk (bkM z (.pe (z.c,0,0) 9 c 0) (.pe (5,0,0) 5 i 3) m) 113))
 h1:look own 1=some (.one (.bk (bkY z m) 140))
 h2:∃ n g,look own 2=some (.one (.ar n 1 g 44))∧m.W.length≤n∧∀ e,e<m.W.length→g e=ats eU m.W 0 e
 hl:∃ n g,look own z.l=some (.one (.ar n 7 g 47))∧m.L.length≤n∧∀ e,e<m.L.length→g e=ats D.Ac.enc m.L D.ac0 e
 ha:∃ n g,look own z.a=some (.one (.ar n 1 g 44))∧m.A.length≤n∧∀ e,e<m.A.length→g e=ats eU m.A 0 e
 h5:∃ n g,look own 5=some (.one (.ar n 5 g 116))∧m.S.length≤n∧∀ e,e<m.S.length→g e=seC z.t m.S e
 hc:∃ n g,look own z.c=some (.one (.ar n 9 g 77))∧m.C.length≤n∧∀ e,e<m.C.length→g e=ats D.Ca.enc m.C D.ca0 e
 ht:∃ n g,look own z.t=some (.fam n g)∧m.S.length≤n∧∀ k,k<m.S.length→g k=tkF z.t m.S k
 h9:look own 9=some (.one (.bk (hubC m) 88))
 h10:look own 10=some (.one (.bk [.ptr (0,0,0) 0] 137))
theorem blk_av {α:Type} {p:Nat→Prop} {σ:Nm→Nm} {enc:α→List Value} {xs:List α} {d:α} {n k ty:Nat} {g:Nat→List SC} (hn:xs.length≤n) (hg:∀ e,e<xs.length→g e=ats enc xs d e):BlkLe p σ (.ar n k g ty) (.ar xs.length k (ats enc xs d) ty) :=
 ⟨hn,rfl,rfl,fun e he=>(hg e he).symm ▸ ats_rn e _ _⟩
theorem dO_le {own:Own} {b p q i c:Nat} {m:D.Pm} (hb:11≤b) (h:MIn own ⟨p,q,6,7⟩ i c m):OwnLe (fun j=>j<11∨NewIds b 2 j) (idσ (tau2 b p q)) own (dO ⟨b,b+1,6,7⟩ i c m):=by
 have e:∀ j k e,j<b→idσ (tau2 b p q) (j,k,e)=(j,k,e):=fun j k e hj=>by rw [ids_nm,tau2_lt hj]
 have at1:∀ j B,look own j=some (.one B)→atN own (j,0,0)=some B:=fun j B hB=>by simp [atN,hB,Fm.get]
 obtain ⟨n2,g2,a2,b2,c2⟩:=h.h2
 obtain ⟨n3,g3,a3,b3,c3⟩:=h.hl
 obtain ⟨n4,g4,a4,b4,c4⟩:=h.ha
 obtain ⟨n5,g5,a5,b5,c5⟩:=h.h5
 obtain ⟨n6,g6,a6,b6,c6⟩:=h.hc
 obtain ⟨n7,g7,a7,b7,c7⟩:=h.ht
 have l:∀ j,j<11→(j<11∨NewIds b 2 j):=fun j hj=>Or.inl hj
 have lb:(b<11∨NewIds b 2 b):=Or.inr ⟨Nat.le_refl _,by omega⟩
 have lb1:(b+1<11∨NewIds b 2 (b+1)):=Or.inr ⟨by omega,by omega⟩
 unfold dO mO
 refine ⟨⟨l 0 (by omega),?_⟩,⟨l 1 (by omega),?_⟩,⟨l 2 (by omega),?_⟩,⟨lb,?_⟩,⟨lb1,?_⟩,⟨l 5 (by omega),?_⟩,⟨l 6 (by omega),?_⟩,⟨l 7 (by omega),fun k hk=>?_⟩,⟨l 9 (by omega),?_⟩,⟨l 10 (by omega),?_⟩,trivial⟩
 ·show BlkLeO _ _ (atN own (idσ (tau2 b p q) (0,0,0))) _
  rw [e 0 0 0 (by omega),at1 _ _ h.h0]
  refine ⟨?_,rfl,?_⟩
  ·simp [bkM,SC.renL,SC.ren,iI,e 1 0 0 (by omega),e 5 0 0 (by omega),e 6 0 0 (by omega),e 8 0 0 (by omega)]
  ·simp [bkM,SC.okL,SC.okN,iI]
 ·show BlkLeO _ _ (atN own (idσ (tau2 b p q) (1,0,0))) _
  rw [e 1 0 0 (by omega),at1 _ _ h.h1]
  refine ⟨?_,rfl,?_⟩
  ·simp [bkY,SC.renL,SC.ren,iI,e 2 0 0 (by omega),ids_nm,tau2_b,tau2_b1]
  ·simp only [bkY,SC.okL,SC.okN,iI,and_true]
   exact ⟨l 2 (by omega),lb,lb1⟩
 ·show BlkLeO _ _ (atN own (idσ (tau2 b p q) (2,0,0))) _
  rw [e 2 0 0 (by omega),at1 _ _ a2]
  exact blk_av b2 c2
 ·show BlkLeO _ _ (atN own (idσ (tau2 b p q) (b,0,0))) _
  rw [ids_nm,tau2_b,at1 _ _ a3]
  exact blk_av b3 c3
 ·show BlkLeO _ _ (atN own (idσ (tau2 b p q) (b+1,0,0))) _
  rw [ids_nm,tau2_b1,at1 _ _ a4]
  exact blk_av b4 c4
 ·show BlkLeO _ _ (atN own (idσ (tau2 b p q) (5,0,0))) _
  rw [e 5 0 0 (by omega),at1 _ _ a5]
  exact ⟨b5,rfl,rfl,fun k hk=>⟨by rw [c5 k hk];exact seC_ren (e 7 k 0 (by omega)),seC_ok (l 7 (by omega)) _ _⟩⟩
 ·show BlkLeO _ _ (atN own (idσ (tau2 b p q) (6,0,0))) _
  rw [e 6 0 0 (by omega),at1 _ _ a6]
  exact blk_av b6 c6
 ·show BlkLeO _ _ (atN own (idσ (tau2 b p q) (7,k,0))) _
  rw [e 7 k 0 (by omega),show atN own (7,k,0)=some (g7 k) by simp only [atN,a7,Fm.get];rw [if_pos ⟨by omega,trivial⟩],c7 k hk]
  exact tkF_le (e 9 0 0 (by omega)) (l 9 (by omega)) (l 7 (by omega)) (e 7 k 0 (by omega))
 ·show BlkLeO _ _ (atN own (idσ (tau2 b p q) (9,0,0))) _
  rw [e 9 0 0 (by omega),at1 _ _ h.h9]
  exact ⟨by simp [hubC,SC.renL,SC.ren,iI],rfl,by simp [hubC,SC.okL,SC.okN,iI]⟩
 ·show BlkLeO _ _ (atN own (idσ (tau2 b p q) (10,0,0))) _
  rw [e 10 0 0 (by omega),at1 _ _ h.h10]
  exact ⟨by simp [SC.renL,SC.ren,e 0 0 0 (by omega)],rfl,by simp [SC.okL,SC.okN]⟩
theorem retD {P:Program} {w:World} {E:Env} {W:Nat→Prop} {rs:List RS} {u v:SV} {S2:St} {i c p q:Nat} {m:D.Pm} (hpq:pqOk p q=true) (hf:AgF 11 E∈S2.facts) (hu:∀ E E',v.den E=u.den E') (h:MIn S2.own ⟨p,q,6,7⟩ i c m) :
  RetVC (mkO P w W rs (EffR w E 11 W u 2 fun b=>killO [3,4]++dO ⟨b,b+1,6,7⟩ i c m)) v S2:=by
 refine retEff (fun b=>idσ (tau2 b p q)) [3,4] (fun b=>dO ⟨b,b+1,6,7⟩ i c m) hf hu (fun b hb x hx=>?_) (fun b hb=>dO_le hb h) (fun b hb x y B B' hx hy e=>?_)
 ·obtain ⟨a,k,l⟩:=x
  rw [ids_nm,tau2_lt (show a<b from Nat.lt_of_lt_of_le hx hb)]
 ·obtain ⟨F,hF,_⟩:=atN_some hx
  obtain ⟨F',hF',_⟩:=atN_some hy
  have hx2:=look_keysL hF
  have hy2:=look_keysL hF'
  obtain ⟨a,k,l⟩:=x
  obtain ⟨a',k',l'⟩:=y
  simp only [ids_nm,Prod.mk.injEq] at e
  simp only [dO,mO,keysL,List.cons_append,List.nil_append,List.mem_cons,List.not_mem_nil,or_false] at hx2 hy2
  simp only [pqOk,List.all_cons,List.all_nil,Bool.and_true,Bool.and_eq_true,bne_iff_ne,ne_eq,Bool.or_eq_true,beq_iff_eq,Nat.ble_eq] at hpq
  have ea:a=a':=by
   have e1:=e.1
   unfold tau2 at e1
   split at e1 <;> split at e1 <;> (try split at e1) <;> (try split at e1) <;> omega
  subst ea
  rw [e.2.1,e.2.2]
structure AIn (own:Own) (z:Nz) (i c:Nat) (m:D.Pm):Prop where
 h0:look own 0=some (.one (.bk (bkM z (.pe (z.c,0,0) 9 c 0) (.pe (5,0,0) 5 i 3) m) 113))
 h1:look own 1=some (.one (.bk (bkY z m) 140))
 h2:∃ n g,look own 2=some (.one (.ar n 1 g 44))∧m.W.length≤n∧∀ e,e<m.W.length→g e=ats eU m.W 0 e
 hl:∃ n g,look own z.l=some (.one (.ar n 7 g 47))∧m.L.length≤n∧∀ e,e<m.L.length→g e=ats D.Ac.enc m.L D.ac0 e
 ha:∃ n g,look own z.a=some (.one (.ar n 1 g 44))∧m.A.length≤n∧∀ e,e<m.A.length→g e=ats eU m.A 0 e
 h10:look own 10=some (.one (.bk [.ptr (0,0,0) 0] 137))
theorem aO_le {own:Own} {b p q i c:Nat} {m:D.Pm} (hb:11≤b) (h:AIn own ⟨p,q,6,7⟩ i c m):OwnLe (fun j=>j<11∨NewIds b 2 j) (idσ (tau2 b p q)) own (aO ⟨b,b+1,6,7⟩ i c m):=by
 have e:∀ j k e,j<b→idσ (tau2 b p q) (j,k,e)=(j,k,e):=fun j k e hj=>by rw [ids_nm,tau2_lt hj]
 have at1:∀ j B,look own j=some (.one B)→atN own (j,0,0)=some B:=fun j B hB=>by simp [atN,hB,Fm.get]
 obtain ⟨n2,g2,a2,b2,c2⟩:=h.h2
 obtain ⟨n3,g3,a3,b3,c3⟩:=h.hl
 obtain ⟨n4,g4,a4,b4,c4⟩:=h.ha
 have l:∀ j,j<11→(j<11∨NewIds b 2 j):=fun j hj=>Or.inl hj
 have lb:(b<11∨NewIds b 2 b):=Or.inr ⟨Nat.le_refl _,by omega⟩
 have lb1:(b+1<11∨NewIds b 2 (b+1)):=Or.inr ⟨by omega,by omega⟩
 unfold aO
 refine ⟨⟨l 0 (by omega),?_⟩,⟨l 1 (by omega),?_⟩,⟨l 2 (by omega),?_⟩,⟨lb,?_⟩,⟨lb1,?_⟩,⟨l 10 (by omega),?_⟩,trivial⟩
 ·show BlkLeO _ _ (atN own (idσ (tau2 b p q) (0,0,0))) _
  rw [e 0 0 0 (by omega),at1 _ _ h.h0]
  refine ⟨?_,rfl,?_⟩
  ·simp [bkM,SC.renL,SC.ren,iI,e 1 0 0 (by omega),e 5 0 0 (by omega),e 6 0 0 (by omega),e 8 0 0 (by omega)]
  ·simp [bkM,SC.okL,SC.okN,iI]
 ·show BlkLeO _ _ (atN own (idσ (tau2 b p q) (1,0,0))) _
  rw [e 1 0 0 (by omega),at1 _ _ h.h1]
  refine ⟨?_,rfl,?_⟩
  ·simp [bkY,SC.renL,SC.ren,iI,e 2 0 0 (by omega),ids_nm,tau2_b,tau2_b1]
  ·simp only [bkY,SC.okL,SC.okN,iI,and_true]
   exact ⟨l 2 (by omega),lb,lb1⟩
 ·show BlkLeO _ _ (atN own (idσ (tau2 b p q) (2,0,0))) _
  rw [e 2 0 0 (by omega),at1 _ _ a2]
  exact blk_av b2 c2
 ·show BlkLeO _ _ (atN own (idσ (tau2 b p q) (b,0,0))) _
  rw [ids_nm,tau2_b,at1 _ _ a3]
  exact blk_av b3 c3
 ·show BlkLeO _ _ (atN own (idσ (tau2 b p q) (b+1,0,0))) _
  rw [ids_nm,tau2_b1,at1 _ _ a4]
  exact blk_av b4 c4
 ·show BlkLeO _ _ (atN own (idσ (tau2 b p q) (10,0,0))) _
  rw [e 10 0 0 (by omega),at1 _ _ h.h10]
  exact ⟨by simp [SC.renL,SC.ren,e 0 0 0 (by omega)],rfl,by simp [SC.okL,SC.okN]⟩
theorem retA {P:Program} {w:World} {E:Env} {W:Nat→Prop} {rs:List RS} {u v:SV} {S2:St} {i c p q:Nat} {m:D.Pm} (hpq:pqOk p q=true) (hf:AgF 11 E∈S2.facts) (hu:∀ E E',v.den E=u.den E') (h:AIn S2.own ⟨p,q,6,7⟩ i c m) :
  RetVC (mkO P w W rs (EffR w E 11 W u 2 fun b=>killO [3,4]++aO ⟨b,b+1,6,7⟩ i c m)) v S2:=by
 refine retEff (fun b=>idσ (tau2 b p q)) [3,4] (fun b=>aO ⟨b,b+1,6,7⟩ i c m) hf hu (fun b hb x hx=>?_) (fun b hb=>aO_le hb h) (fun b hb x y B B' hx hy e=>?_)
 ·obtain ⟨a,k,l⟩:=x
  rw [ids_nm,tau2_lt (show a<b from Nat.lt_of_lt_of_le hx hb)]
 ·obtain ⟨F,hF,_⟩:=atN_some hx
  obtain ⟨F',hF',_⟩:=atN_some hy
  have hx2:=look_keysL hF
  have hy2:=look_keysL hF'
  obtain ⟨a,k,l⟩:=x
  obtain ⟨a',k',l'⟩:=y
  simp only [ids_nm,Prod.mk.injEq] at e
  simp only [aO,keysL,List.mem_cons,List.not_mem_nil,or_false] at hx2 hy2
  simp only [pqOk,List.all_cons,List.all_nil,Bool.and_true,Bool.and_eq_true,bne_iff_ne,ne_eq,Bool.or_eq_true,beq_iff_eq,Nat.ble_eq] at hpq
  have ea:a=a':=by
   have e1:=e.1
   unfold tau2 at e1
   split at e1 <;> split at e1 <;> (try split at e1) <;> (try split at e1) <;> omega
  subst ea
  rw [e.2.1,e.2.2]
theorem fork_in {C:Ctx} {ex:List KI→St→Prop} {o:IO1} {r:List IO1} {k:List KI} {S:St} {g:Nat} {want b:Bool} {Z:Prop} (hb:b=want) (h1:resAP g b want S.tmps) (h2:runOp C ex o r k (S.setA g b want)):Z∨forkS C ex o r k S g want b :=
 Or.inr ⟨fun _=>⟨h1,h2⟩,fun q=>by subst hb;cases b <;> cases q⟩
def ir94:IR:=(.seq (.ops [⟨(some 6),(.mv (.k (.c (.v (.int .u64 0))))),none⟩,⟨(some 7),(.mv (.k (.c (.v (.int .i64 0))))),none⟩]) (.kill [3,4,5,6,7,8,9,10,11] (.seq (.seq (.ops [⟨(some 9),(.mv (.t 0)),none⟩,⟨(some 10),(.mv (.t 2)),none⟩,⟨(some 11),(.call 100 [(.t 9),(.t 10)]),none⟩,⟨(some 12),(.un .not (.t 11)),none⟩]) (.kill [9,10,11] (.cond (.t 12) (.seq (.ops [⟨(some 6),(.mv (.k (.c (.v (.int .u64 0))))),none⟩,⟨(some 7),(.mv (.k (.c (.v (.int .i64 20))))),none⟩]) (.kill [0,1,2,12] .ret)) .skip))) (.kill [6,7,12] (.seq (.ops [⟨(some 13),(.mv (.t 0)),none⟩,⟨(some 14),(.nilck (.t 13)),none⟩,⟨(some 15),(.fa 0 (.t 14)),none⟩,⟨(some 16),(.ld false 1 (.t 15)),none⟩,⟨(some 17),(.mv (.t 2)),none⟩,⟨(some 18),(.ia 1 (.t 16) (.t 17)),none⟩,⟨(some 19),(.ld false 1 (.t 18)),none⟩,⟨(some 8),(.mv (.t 19)),none⟩]) (.kill [13,14,15,16,17,18,19] (.seq (.ops [⟨(some 20),(.mv (.t 0)),none⟩,⟨(some 21),(.mv (.t 1)),none⟩,⟨(some 22),(.mv (.t 2)),none⟩,⟨(some 23),(.mv (.t 8)),none⟩,⟨(some 24),(.build [(.v (.int .i64 0)),(.v (.int .i64 0)),(.v (.int .i64 0)),(.v (.int .i64 0)),(.v (.int .u64 0)),(.v (.int .u64 0)),(.v (.int .u64 0))] [(1,(1,(.t 21))),(2,(1,(.k (.c (.v (.int .i64 1)))))),(3,(1,(.t 22))),(6,(1,(.t 23)))]),none⟩,⟨(some 25),(.mv (.t 8)),none⟩,⟨(some 26),(.call 101 [(.t 20),(.t 24),(.t 25)]),none⟩]) (.kill [0,1,2,20,21,22,23,24,25,26] (.seq (.ops [⟨(some 27),(.mv (.t 8)),none⟩,⟨(some 6),(.mv (.t 27)),none⟩,⟨(some 7),(.mv (.k (.c (.v (.int .i64 0))))),none⟩]) (.kill [8,27] .ret))))))))))
def rs94:List RS:=[(.t 6),(.t 7)]
def nt94:Nat:=28
def ir100:IR:=(.seq (.ops [⟨(some 4),(.mv (.k (.c (.v (.bool false))))),none⟩]) (.kill [2,3,4,5,6,7,8,9,10,11] (.seq (.ops [⟨(some 5),(.mv (.t 1)),none⟩,⟨(some 6),(.bin .geq (.t 5) (.k (.c (.v (.int .i64 0))))),none⟩,⟨(some 7),(.mv (.t 6)),none⟩,⟨(some 8),(.mv (.t 1)),(some (7,true))⟩,⟨(some 9),(.mv (.t 0)),(some (7,true))⟩,⟨(some 10),(.call 99 [(.t 9)]),(some (7,true))⟩,⟨(some 11),(.bin .lss (.t 8) (.t 10)),(some (7,true))⟩,⟨(some 12),(.pick (.t 7) (.t 11) (.k (.c (.v (.bool false))))),none⟩,⟨(some 4),(.mv (.t 12)),none⟩]) (.kill [0,1,5,6,7,8,9,10,11,12] .ret))))
def rs100:List RS:=[(.t 4)]
def nt100:Nat:=13
def ir99:IR:=(.seq (.ops [⟨(some 2),(.mv (.k (.c (.v (.int .i64 0))))),none⟩]) (.kill [1,2,3,4,5,6,7,8,9,10,11] (.seq (.seq (.ops [⟨(some 3),(.mv (.t 0)),none⟩,⟨(some 4),(.eqn 0 false (.t 3) (.k (.c (.v (.pointer none))))),none⟩]) (.kill [3] (.cond (.t 4) (.seq (.ops [⟨(some 2),(.mv (.k (.c (.v (.int .i64 0))))),none⟩]) (.kill [0,4] .ret)) .skip))) (.kill [2,4] (.seq (.ops [⟨(some 5),(.mv (.t 0)),none⟩,⟨(some 6),(.nilck (.t 5)),none⟩,⟨(some 7),(.fa 0 (.t 6)),none⟩,⟨(some 8),(.ld false 1 (.t 7)),none⟩,⟨(some 9),(.len (.t 8)),none⟩,⟨(some 2),(.mv (.t 9)),none⟩]) (.kill [0,5,6,7,8,9] .ret))))))
def rs99:List RS:=[(.t 2)]
def nt99:Nat:=10
def ir101:IR:=(.seq (.ops [⟨(some 4),(.box 47 (.t 1)),none⟩]) (.kill [1,3,5,6,7,8,9,10,11] (.seq (.ops [⟨(some 6),(.mv (.t 0)),none⟩,⟨(some 7),(.nilck (.t 6)),none⟩,⟨(some 8),(.fa 3 (.t 7)),none⟩,⟨(some 9),(.ld false 1 (.t 8)),none⟩,⟨(some 10),(.fa 0 (.t 4)),none⟩,⟨none,(.st 1 (.t 10) (.t 9)),none⟩]) (.kill [6,7,8,9,10] (.seq (.draw [(⟨(some 11),(.mv (.t 0)),none⟩,([],[12,13,14,15,16,17,18])),(⟨(some 12),(.mv (.t 0)),none⟩,([0],[11,16,17])),(⟨(some 13),(.nilck (.t 12)),none⟩,([0],[11,16,17])),(⟨(some 14),(.fa 1 (.t 13)),none⟩,([0],[11,16,17])),(⟨(some 15),(.ld false 1 (.t 14)),none⟩,([0],[11,16,17])),(⟨(some 16),(.ld true 7 (.t 4)),none⟩,([0,1,2,3,4],[11,12,13,14,15])),(⟨(some 17),(.mkSl 47 1 7 [(.v (.int .i64 0)),(.v (.int .i64 0)),(.v (.int .i64 0)),(.v (.int .i64 0)),(.v (.int .u64 0)),(.v (.int .u64 0)),(.v (.int .u64 0))] [(0,(7,(.t 16)))]),none⟩,([0,1,2,3,4],[11,12,13,14,15])),(⟨(some 18),(.app 47 7 56 [(.v (.int .i64 0)),(.v (.int .i64 0)),(.v (.int .i64 0)),(.v (.int .i64 0)),(.v (.int .u64 0)),(.v (.int .u64 0)),(.v (.int .u64 0))] (.t 15) (.t 17)),none⟩,([0],[11])),(⟨(some 19),(.nilck (.t 11)),none⟩,([],[])),(⟨(some 20),(.fa 1 (.t 19)),none⟩,([],[])),(⟨none,(.st 1 (.t 20) (.t 18)),none⟩,([],[]))]) (.kill [4,11,12,13,14,15,16,17,18,19,20] (.ops [⟨(some 21),(.mv (.t 0)),none⟩,⟨(some 22),(.mv (.t 0)),none⟩,⟨(some 23),(.nilck (.t 22)),none⟩,⟨(some 24),(.fa 2 (.t 23)),none⟩,⟨(some 25),(.ld false 1 (.t 24)),none⟩,⟨(some 26),(.mv (.t 2)),none⟩,⟨(some 27),(.mkSl 44 1 1 [(.v (.int .u64 0))] [(0,(1,(.t 26)))]),none⟩,⟨(some 28),(.app 44 1 8 [(.v (.int .u64 0))] (.t 25) (.t 27)),none⟩,⟨(some 29),(.nilck (.t 21)),none⟩,⟨(some 30),(.fa 2 (.t 29)),none⟩,⟨none,(.st 1 (.t 30) (.t 28)),none⟩])))))))
def rs101:List RS:=[]
def nt101:Nat:=31
set_option maxRecDepth 100000 in
set_option maxHeartbeats 1000000 in
theorem mload_own (w:World) (E:Env) (m:D.Pm) (i c:Nat) (th a:Int) (h0:0≤a) (h1:a<m.W.length) (hL:m.L.length≤65536) (hA:m.A.length≤65536) (h:Handed w E 11 (aO nz0 i c m) []) :
  Calls Try.prog 94 (([.c (.ptr (1,0,0) 0),.c (iI th),.c (iI a)]:List SV).map (SV.den E)).toArray w (EffR w E 11 (takesO E (aO nz0 i c m)) (.tup [(false,[.v (.int .u64 (D.wd m a))]),(false,[.v (.int .i64 0)])]) 2 fun b=>killO [3,4]++aO ⟨b,b+1,6,7⟩ i c (logd m ⟨m.mm,th,1,a,0,0,D.wd m a⟩ (D.wd m a))):=by
 refine enterO (c:=ir94) (rs:=rs94) (nt:=nt94) h _ Try.func94 rfl (by kernel_rfl) (by kernel_rfl) rfl (by simp [okVs,SV.okN,SC.okN,iI]) (of_decide_eq_true rfl) ?_
 generalize hR:EffR w E 11 (takesO E (aO nz0 i c m)) _ 2 _=R
 generalize hW:takesO E (aO nz0 i c m)=W
 have hge:decide (a≥0)=true:=decide_eq_true h0
 have hlt:decide (a<(m.W.length:Int))=true:=decide_eq_true h1
 simp (maxSteps:=2000000) only [ir94,nt94,rs94,go_sem,↓runOp,↓reduceIte,Nat.reduceLT,Nat.reduceAdd,Nat.reduceEqDiff,reduceCtorEq,aO,nz0,bkM,bkY,iI]
 refine call_inline (c:=ir100) (rs:=rs100) (nt:=nt100) 1000 (mkTab_ok _ _) Try.func100 rfl (by kernel_rfl) (by kernel_rfl) rfl (by simp [okVs,SV.okN,SC.okN]) (of_decide_eq_true rfl) (fun E0 a0 ht0=>?_)
 simp (maxSteps:=2000000) only [ir100,nt100,rs100,go_sem,↓gateS,↓runOp,↓imp_tt,↓reduceIte,Nat.reduceLT,Nat.reduceEqDiff,reduceCtorEq,hge]
 refine fork_in rfl (by simp [resAP,resA1,gB]) ?_
 simp (maxSteps:=2000000) only [go_sem,↓runOp,↓reduceIte,Nat.reduceEqDiff,reduceCtorEq]
 refine call_inline (c:=ir99) (rs:=rs99) (nt:=nt99) 1000 (mkTab_ok _ _) Try.func99 rfl (by kernel_rfl) (by kernel_rfl) rfl (by simp [okVs,SV.okN,SC.okN]) (of_decide_eq_true rfl) (fun E1 a1 ht1=>?_)
 simp (maxSteps:=2000000) only [ir99,nt99,rs99,go_sem,↓condS,↓runOp,↓reduceIte,Nat.reduceLT,Nat.reduceEqDiff,reduceCtorEq]
 refine retI ht1 _ rfl (of_decide_eq_true rfl) (by simp [SV.okN,SC.okN]) ?_
 simp (maxSteps:=2000000) only [go_sem,↓gateS,↓runOp,↓reduceIte,Nat.reduceLT,Nat.reduceEqDiff,reduceCtorEq,hlt]
 refine retI ht0 _ rfl (of_decide_eq_true rfl) (by simp [SV.okN,SC.okN]) ?_
 simp (maxSteps:=2000000) only [go_sem,↓condS,↓runOp,↓imp_ft,↓imp_ff,↓reduceIte,Nat.reduceLT,Nat.reduceLeDiff,Nat.reduceAdd,Nat.reduceEqDiff,reduceCtorEq,ats_U]
 refine And.intro ⟨h0,h1,Nat.le_refl _⟩ (And.intro (by omega) ?_)
 refine call_inline (c:=ir101) (rs:=rs101) (nt:=nt101) 1000 (mkTab_ok _ _) Try.func101 rfl (by kernel_rfl) (by kernel_rfl) rfl (by simp [okVs,SV.okN,SC.okL,SC.okN]) (of_decide_eq_true rfl) (fun E0 a0 ht0=>?_)
 simp (maxSteps:=2000000) only [ir101,nt101,rs101,go_sem,↓runOp,↓reduceIte,Nat.reduceLT,Nat.reduceLeDiff,Nat.reduceAdd,Nat.reduceEqDiff,reduceCtorEq]
 refine draw_vc (by kernel_rfl) (mkTab_ok _ _) (of_decide_eq_true rfl) (of_decide_eq_true rfl) ?_
 repeat (first | simp (maxSteps:=2000000) only [go_sem,↓runOp,↓gateD,↓runD,↓reduceIte,Nat.reduceLT,Nat.reduceLeDiff,Nat.reduceAdd,Nat.reduceMul,Nat.reduceEqDiff,reduceCtorEq] | rw [dr_cons])
 repeat (with_reducible refine And.intro (by first | decide | (simp only [maxLen];omega) | exact ⟨Nat.le_refl _,by omega,by simp only [maxLen];omega⟩) ?_)
 refine retI ht0 _ rfl (of_decide_eq_true rfl) (by simp [SV.okN,ok1L]) ?_
 simp (maxSteps:=2000000) only [go_sem,↓runOp,↓reduceIte,Nat.reduceLT,Nat.reduceEqDiff,reduceCtorEq,mkO_rs]
 rw [← hR,← hW]
 exact retA (p:=13) (q:=15) (m:=logd m ⟨m.mm,th,1,a,0,0,D.wd m a⟩ (D.wd m a)) rfl (by simp) (fun E E'=>by simp [SV.den,SC.den,den1,D.wd]) ⟨by simp [look,bkM,iI,logd],by simp [look,bkY,iI,logd],⟨_,_,rfl,Nat.le_refl _,fun _ _=>rfl⟩,⟨_,_,rfl,by simp [logd],ats_push (d:=D.ac0) rfl rfl (fun _ _=>rfl) rfl⟩,⟨_,_,rfl,by simp [logd],ats_push (d:=0) rfl rfl (fun _ _=>rfl) rfl⟩,rfl⟩
end Go.Proofs.Ytcloeignccpljaa.Z
namespace Go.Proofs.Ytcloeignccpljaa.Z
open Go Go.RowKit
theorem set_U {xs:List Int} {k:Nat} {y:Int} (hk:k<xs.length):∀ e,e<(xs.set k y).length→setAt k (ats eU xs 0) [.v (.int .u64 y)] e=ats eU (xs.set k y) 0 e:=by
 intro e he
 unfold setAt
 rw [ats_U,ats_U,D.set_getD _ _ _ _ _ hk]
 by_cases h:e=k
 ·rw [if_pos h,if_pos h.symm]
 ·rw [if_neg h,if_neg (fun q=>h q.symm)]
def ir106:IR:=(.seq (.ops [⟨(some 8),(.mv (.k (.c (.v (.int .i64 0))))),none⟩]) (.kill [4,5,6,7,8,9,10,11] (.seq (.seq (.ops [⟨(some 9),(.mv (.t 0)),none⟩,⟨(some 10),(.mv (.t 2)),none⟩,⟨(some 11),(.call 100 [(.t 9),(.t 10)]),none⟩,⟨(some 12),(.un .not (.t 11)),none⟩]) (.kill [9,10,11] (.cond (.t 12) (.seq (.ops [⟨(some 8),(.mv (.k (.c (.v (.int .i64 20))))),none⟩]) (.kill [0,1,2,3,12] .ret)) .skip))) (.kill [8,12] (.seq (.ops [⟨(some 13),(.mv (.t 0)),none⟩,⟨(some 14),(.mv (.t 1)),none⟩,⟨(some 15),(.mv (.t 2)),none⟩,⟨(some 16),(.mv (.t 3)),none⟩,⟨(some 17),(.build [(.v (.int .i64 0)),(.v (.int .i64 0)),(.v (.int .i64 0)),(.v (.int .i64 0)),(.v (.int .u64 0)),(.v (.int .u64 0)),(.v (.int .u64 0))] [(1,(1,(.t 14))),(2,(1,(.k (.c (.v (.int .i64 2)))))),(3,(1,(.t 15))),(5,(1,(.t 16)))]),none⟩,⟨(some 18),(.mv (.t 0)),none⟩,⟨(some 19),(.nilck (.t 18)),none⟩,⟨(some 20),(.fa 0 (.t 19)),none⟩,⟨(some 21),(.ld false 1 (.t 20)),none⟩,⟨(some 22),(.mv (.t 2)),none⟩,⟨(some 23),(.ia 1 (.t 21) (.t 22)),none⟩,⟨(some 24),(.ld false 1 (.t 23)),none⟩,⟨(some 25),(.call 101 [(.t 13),(.t 17),(.t 24)]),none⟩]) (.kill [1,13,14,15,16,17,18,19,20,21,22,23,24,25] (.seq (.ops [⟨(some 26),(.mv (.t 0)),none⟩,⟨(some 27),(.nilck (.t 26)),none⟩,⟨(some 28),(.fa 0 (.t 27)),none⟩,⟨(some 29),(.ld false 1 (.t 28)),none⟩,⟨(some 30),(.mv (.t 2)),none⟩,⟨(some 31),(.mv (.t 3)),none⟩,⟨(some 32),(.ia 1 (.t 29) (.t 30)),none⟩,⟨none,(.st 1 (.t 32) (.t 31)),none⟩]) (.kill [0,2,3,26,27,28,29,30,31,32] (.seq (.ops [⟨(some 8),(.mv (.k (.c (.v (.int .i64 0))))),none⟩]) .ret)))))))))
def rs106:List RS:=[(.t 8)]
def nt106:Nat:=33
set_option maxRecDepth 100000 in
set_option maxHeartbeats 1000000 in
theorem mstore_own (w:World) (E:Env) (m:D.Pm) (i c:Nat) (th a v:Int) (h0:0≤a) (h1:a<m.W.length) (hL:m.L.length≤65536) (hA:m.A.length≤65536) (h:Handed w E 11 (aO nz0 i c m) []) :
  Calls Try.prog 106 (([.c (.ptr (1,0,0) 0),.c (iI th),.c (iI a),.c (.v (.int .u64 v))]:List SV).map (SV.den E)).toArray w (EffR w E 11 (takesO E (aO nz0 i c m)) (.c (.v (.int .i64 0))) 2 fun b=>killO [3,4]++aO ⟨b,b+1,6,7⟩ i c { logd m ⟨m.mm,th,2,a,0,v,0⟩ (D.wd m a) with W:=m.W.set a.toNat v }):=by
 refine enterO (c:=ir106) (rs:=rs106) (nt:=nt106) h _ Try.func106 rfl (by kernel_rfl) (by kernel_rfl) rfl (by simp [okVs,SV.okN,SC.okN,iI]) (of_decide_eq_true rfl) ?_
 generalize hR:EffR w E 11 (takesO E (aO nz0 i c m)) _ 2 _=R
 generalize hW:takesO E (aO nz0 i c m)=W
 have hge:decide (a≥0)=true:=decide_eq_true h0
 have hlt:decide (a<(m.W.length:Int))=true:=decide_eq_true h1
 simp (maxSteps:=2000000) only [ir106,nt106,rs106,go_sem,↓runOp,↓reduceIte,Nat.reduceLT,Nat.reduceAdd,Nat.reduceEqDiff,reduceCtorEq,aO,nz0,bkM,bkY,iI]
 refine call_inline (c:=ir100) (rs:=rs100) (nt:=nt100) 1000 (mkTab_ok _ _) Try.func100 rfl (by kernel_rfl) (by kernel_rfl) rfl (by simp [okVs,SV.okN,SC.okN]) (of_decide_eq_true rfl) (fun E0 a0 ht0=>?_)
 simp (maxSteps:=2000000) only [ir100,nt100,rs100,go_sem,↓gateS,↓runOp,↓imp_tt,↓reduceIte,Nat.reduceLT,Nat.reduceEqDiff,reduceCtorEq,hge]
 refine fork_in rfl (by simp [resAP,resA1,gB]) ?_
 simp (maxSteps:=2000000) only [go_sem,↓runOp,↓reduceIte,Nat.reduceEqDiff,reduceCtorEq]
 refine call_inline (c:=ir99) (rs:=rs99) (nt:=nt99) 1000 (mkTab_ok _ _) Try.func99 rfl (by kernel_rfl) (by kernel_rfl) rfl (by simp [okVs,SV.okN,SC.okN]) (of_decide_eq_true rfl) (fun E1 a1 ht1=>?_)
 simp (maxSteps:=2000000) only [ir99,nt99,rs99,go_sem,↓condS,↓runOp,↓reduceIte,Nat.reduceLT,Nat.reduceEqDiff,reduceCtorEq]
 refine retI ht1 _ rfl (of_decide_eq_true rfl) (by simp [SV.okN,SC.okN]) ?_
 simp (maxSteps:=2000000) only [go_sem,↓gateS,↓runOp,↓reduceIte,Nat.reduceLT,Nat.reduceEqDiff,reduceCtorEq,hlt]
 refine retI ht0 _ rfl (of_decide_eq_true rfl) (by simp [SV.okN,SC.okN]) ?_
 simp (maxSteps:=2000000) only [go_sem,↓condS,↓runOp,↓imp_ft,↓imp_ff,↓reduceIte,Nat.reduceLT,Nat.reduceLeDiff,Nat.reduceAdd,Nat.reduceEqDiff,reduceCtorEq,ats_U]
 refine And.intro ⟨h0,h1,Nat.le_refl _⟩ (And.intro (by omega) ?_)
 refine call_inline (c:=ir101) (rs:=rs101) (nt:=nt101) 1000 (mkTab_ok _ _) Try.func101 rfl (by kernel_rfl) (by kernel_rfl) rfl (by simp [okVs,SV.okN,SC.okL,SC.okN]) (of_decide_eq_true rfl) (fun E0 a0 ht0=>?_)
 simp (maxSteps:=2000000) only [ir101,nt101,rs101,go_sem,↓runOp,↓reduceIte,Nat.reduceLT,Nat.reduceLeDiff,Nat.reduceAdd,Nat.reduceEqDiff,reduceCtorEq]
 refine draw_vc (by kernel_rfl) (mkTab_ok _ _) (of_decide_eq_true rfl) (of_decide_eq_true rfl) ?_
 repeat (first | simp (maxSteps:=2000000) only [go_sem,↓runOp,↓gateD,↓runD,↓reduceIte,Nat.reduceLT,Nat.reduceLeDiff,Nat.reduceAdd,Nat.reduceMul,Nat.reduceEqDiff,reduceCtorEq] | rw [dr_cons])
 repeat (with_reducible refine And.intro (by first | decide | (simp only [maxLen];omega) | exact ⟨Nat.le_refl _,by omega,by simp only [maxLen];omega⟩) ?_)
 refine retI ht0 _ rfl (of_decide_eq_true rfl) (by simp [SV.okN,ok1L]) ?_
 simp (maxSteps:=2000000) only [go_sem,↓runOp,↓reduceIte,Nat.reduceLT,Nat.reduceLeDiff,Nat.reduceEqDiff,reduceCtorEq,mkO_rs,ats_U]
 refine And.intro ⟨h0,h1,Nat.le_refl _⟩ (And.intro (by omega) ?_)
 rw [← hR,← hW]
 exact retA (p:=13) (q:=15) (m:={ logd m ⟨m.mm,th,2,a,0,v,0⟩ (D.wd m a) with W:=m.W.set a.toNat v }) rfl (by simp) (fun E E'=>by simp [SV.den,SC.den]) ⟨by simp [look,bkM,iI,logd],by simp [look,bkY,iI,logd],⟨_,_,rfl,by simp [logd],set_U (by omega)⟩,⟨_,_,rfl,by simp [logd],ats_push (d:=D.ac0) rfl rfl (fun _ _=>rfl) rfl⟩,⟨_,_,rfl,by simp [logd],ats_push (d:=0) rfl rfl (fun _ _=>rfl) rfl⟩,rfl⟩
def ir117:IR:=(.seq (.ops [⟨(some 10),(.mv (.k (.c (.v (.int .u64 0))))),none⟩,⟨(some 11),(.mv (.k (.c (.v (.bool false))))),none⟩,⟨(some 12),(.mv (.k (.c (.v (.int .i64 0))))),none⟩]) (.kill [5,6,7,8,9,10,11,12] (.seq (.seq (.ops [⟨(some 14),(.mv (.t 0)),none⟩,⟨(some 15),(.mv (.t 2)),none⟩,⟨(some 16),(.call 100 [(.t 14),(.t 15)]),none⟩,⟨(some 17),(.un .not (.t 16)),none⟩]) (.kill [14,15,16] (.cond (.t 17) (.seq (.ops [⟨(some 10),(.mv (.k (.c (.v (.int .u64 0))))),none⟩,⟨(some 11),(.mv (.k (.c (.v (.bool false))))),none⟩,⟨(some 12),(.mv (.k (.c (.v (.int .i64 20))))),none⟩]) (.kill [0,1,2,3,4,17] .ret)) .skip))) (.kill [10,11,12,17] (.seq (.ops [⟨(some 18),(.mv (.t 0)),none⟩,⟨(some 19),(.nilck (.t 18)),none⟩,⟨(some 20),(.fa 0 (.t 19)),none⟩,⟨(some 21),(.ld false 1 (.t 20)),none⟩,⟨(some 22),(.mv (.t 2)),none⟩,⟨(some 23),(.ia 1 (.t 21) (.t 22)),none⟩,⟨(some 24),(.ld false 1 (.t 23)),none⟩,⟨(some 13),(.mv (.t 24)),none⟩]) (.kill [18,19,20,21,22,23,24] (.seq (.ops [⟨(some 25),(.mv (.t 0)),none⟩,⟨(some 26),(.mv (.t 1)),none⟩,⟨(some 27),(.mv (.t 2)),none⟩,⟨(some 28),(.mv (.t 3)),none⟩,⟨(some 29),(.mv (.t 4)),none⟩,⟨(some 30),(.mv (.t 13)),none⟩,⟨(some 31),(.build [(.v (.int .i64 0)),(.v (.int .i64 0)),(.v (.int .i64 0)),(.v (.int .i64 0)),(.v (.int .u64 0)),(.v (.int .u64 0)),(.v (.int .u64 0))] [(1,(1,(.t 26))),(2,(1,(.k (.c (.v (.int .i64 3)))))),(3,(1,(.t 27))),(4,(1,(.t 28))),(5,(1,(.t 29))),(6,(1,(.t 30)))]),none⟩,⟨(some 32),(.mv (.t 13)),none⟩,⟨(some 33),(.call 101 [(.t 25),(.t 31),(.t 32)]),none⟩]) (.kill [1,25,26,27,28,29,30,31,32,33] (.seq (.seq (.ops [⟨(some 34),(.mv (.t 13)),none⟩,⟨(some 35),(.mv (.t 3)),none⟩,⟨(some 36),(.bin .neq (.t 34) (.t 35)),none⟩]) (.kill [3,34,35] (.cond (.t 36) (.seq (.ops [⟨(some 37),(.mv (.t 13)),none⟩,⟨(some 10),(.mv (.t 37)),none⟩,⟨(some 11),(.mv (.k (.c (.v (.bool false))))),none⟩,⟨(some 12),(.mv (.k (.c (.v (.int .i64 0))))),none⟩]) (.kill [0,2,4,13,36,37] .ret)) .skip))) (.kill [10,11,12,36] (.seq (.ops [⟨(some 38),(.mv (.t 0)),none⟩,⟨(some 39),(.nilck (.t 38)),none⟩,⟨(some 40),(.fa 0 (.t 39)),none⟩,⟨(some 41),(.ld false 1 (.t 40)),none⟩,⟨(some 42),(.mv (.t 2)),none⟩,⟨(some 43),(.mv (.t 4)),none⟩,⟨(some 44),(.ia 1 (.t 41) (.t 42)),none⟩,⟨none,(.st 1 (.t 44) (.t 43)),none⟩]) (.kill [0,2,4,38,39,40,41,42,43,44] (.seq (.ops [⟨(some 45),(.mv (.t 13)),none⟩,⟨(some 10),(.mv (.t 45)),none⟩,⟨(some 11),(.mv (.k (.c (.v (.bool true))))),none⟩,⟨(some 12),(.mv (.k (.c (.v (.int .i64 0))))),none⟩]) (.kill [13,45] .ret))))))))))))))
def rs117:List RS:=[(.t 10),(.t 11),(.t 12)]
def nt117:Nat:=46
set_option maxRecDepth 100000 in
set_option maxHeartbeats 1000000 in
theorem mswap_yes (w:World) (E:Env) (m:D.Pm) (i c:Nat) (th a o v:Int) (ho:D.wd m a=o) (h0:0≤a) (h1:a<m.W.length) (hL:m.L.length≤65536) (hA:m.A.length≤65536) (h:Handed w E 11 (aO nz0 i c m) []) :
  Calls Try.prog 117 (([.c (.ptr (1,0,0) 0),.c (iI th),.c (iI a),.c (.v (.int .u64 o)),.c (.v (.int .u64 v))]:List SV).map (SV.den E)).toArray w (EffR w E 11 (takesO E (aO nz0 i c m)) (.tup [(false,[.v (.int .u64 (D.wd m a))]),(false,[.v (.bool true)]),(false,[.v (.int .i64 0)])]) 2 fun b=>killO [3,4]++aO ⟨b,b+1,6,7⟩ i c { logd m ⟨m.mm,th,3,a,o,v,D.wd m a⟩ (D.wd m a) with W:=m.W.set a.toNat v }):=by
 refine enterO (c:=ir117) (rs:=rs117) (nt:=nt117) h _ Try.func117 rfl (by kernel_rfl) (by kernel_rfl) rfl (by simp [okVs,SV.okN,SC.okN,iI]) (of_decide_eq_true rfl) ?_
 generalize hR:EffR w E 11 (takesO E (aO nz0 i c m)) _ 2 _=R
 generalize hW:takesO E (aO nz0 i c m)=W
 have hge:decide (a≥0)=true:=decide_eq_true h0
 have hlt:decide (a<(m.W.length:Int))=true:=decide_eq_true h1
 simp (maxSteps:=2000000) only [ir117,nt117,rs117,go_sem,↓runOp,↓reduceIte,Nat.reduceLT,Nat.reduceAdd,Nat.reduceEqDiff,reduceCtorEq,aO,nz0,bkM,bkY,iI]
 refine call_inline (c:=ir100) (rs:=rs100) (nt:=nt100) 1000 (mkTab_ok _ _) Try.func100 rfl (by kernel_rfl) (by kernel_rfl) rfl (by simp [okVs,SV.okN,SC.okN]) (of_decide_eq_true rfl) (fun E0 a0 ht0=>?_)
 simp (maxSteps:=2000000) only [ir100,nt100,rs100,go_sem,↓gateS,↓runOp,↓imp_tt,↓reduceIte,Nat.reduceLT,Nat.reduceEqDiff,reduceCtorEq,hge]
 refine fork_in rfl (by simp [resAP,resA1,gB]) ?_
 simp (maxSteps:=2000000) only [go_sem,↓runOp,↓reduceIte,Nat.reduceEqDiff,reduceCtorEq]
 refine call_inline (c:=ir99) (rs:=rs99) (nt:=nt99) 1000 (mkTab_ok _ _) Try.func99 rfl (by kernel_rfl) (by kernel_rfl) rfl (by simp [okVs,SV.okN,SC.okN]) (of_decide_eq_true rfl) (fun E1 a1 ht1=>?_)
 simp (maxSteps:=2000000) only [ir99,nt99,rs99,go_sem,↓condS,↓runOp,↓reduceIte,Nat.reduceLT,Nat.reduceEqDiff,reduceCtorEq]
 refine retI ht1 _ rfl (of_decide_eq_true rfl) (by simp [SV.okN,SC.okN]) ?_
 simp (maxSteps:=2000000) only [go_sem,↓gateS,↓runOp,↓reduceIte,Nat.reduceLT,Nat.reduceEqDiff,reduceCtorEq,hlt]
 refine retI ht0 _ rfl (of_decide_eq_true rfl) (by simp [SV.okN,SC.okN]) ?_
 simp (maxSteps:=2000000) only [go_sem,↓condS,↓runOp,↓imp_ft,↓imp_ff,↓reduceIte,Nat.reduceLT,Nat.reduceLeDiff,Nat.reduceAdd,Nat.reduceEqDiff,reduceCtorEq,ats_U]
 refine And.intro ⟨h0,h1,Nat.le_refl _⟩ (And.intro (by omega) ?_)
 refine call_inline (c:=ir101) (rs:=rs101) (nt:=nt101) 1000 (mkTab_ok _ _) Try.func101 rfl (by kernel_rfl) (by kernel_rfl) rfl (by simp [okVs,SV.okN,SC.okL,SC.okN]) (of_decide_eq_true rfl) (fun E0 a0 ht0=>?_)
 simp (maxSteps:=2000000) only [ir101,nt101,rs101,go_sem,↓runOp,↓reduceIte,Nat.reduceLT,Nat.reduceLeDiff,Nat.reduceAdd,Nat.reduceEqDiff,reduceCtorEq]
 refine draw_vc (by kernel_rfl) (mkTab_ok _ _) (of_decide_eq_true rfl) (of_decide_eq_true rfl) ?_
 repeat (first | simp (maxSteps:=2000000) only [go_sem,↓runOp,↓gateD,↓runD,↓reduceIte,Nat.reduceLT,Nat.reduceLeDiff,Nat.reduceAdd,Nat.reduceMul,Nat.reduceEqDiff,reduceCtorEq] | rw [dr_cons])
 repeat (with_reducible refine And.intro (by first | decide | (simp only [maxLen];omega) | exact ⟨Nat.le_refl _,by omega,by simp only [maxLen];omega⟩) ?_)
 refine retI ht0 _ rfl (of_decide_eq_true rfl) (by simp [SV.okN,ok1L]) ?_
 have hne:(m.W.getD a.toNat 0 != o)=false:=bne_eq_false_iff_eq.2 ho
 simp (maxSteps:=2000000) only [go_sem,↓condS,↓runOp,↓imp_ft,↓imp_ff,↓reduceIte,Nat.reduceLT,Nat.reduceLeDiff,Nat.reduceEqDiff,reduceCtorEq,mkO_rs,ats_U,hne]
 refine And.intro ⟨h0,h1,Nat.le_refl _⟩ (And.intro (by omega) ?_)
 rw [← hR,← hW]
 exact retA (p:=13) (q:=15) (m:={ logd m ⟨m.mm,th,3,a,o,v,D.wd m a⟩ (D.wd m a) with W:=m.W.set a.toNat v }) rfl (by simp) (fun E E'=>by simp [SV.den,SC.den,den1,D.wd]) ⟨by simp [look,bkM,iI,logd],by simp [look,bkY,iI,logd],⟨_,_,rfl,by simp [logd],set_U (by omega)⟩,⟨_,_,rfl,by simp [logd],ats_push (d:=D.ac0) rfl rfl (fun _ _=>rfl) rfl⟩,⟨_,_,rfl,by simp [logd],ats_push (d:=0) rfl rfl (fun _ _=>rfl) rfl⟩,rfl⟩
set_option maxRecDepth 100000 in
set_option maxHeartbeats 1000000 in
theorem mswap_no (w:World) (E:Env) (m:D.Pm) (i c:Nat) (th a o v:Int) (ho:D.wd m a≠o) (h0:0≤a) (h1:a<m.W.length) (hL:m.L.length≤65536) (hA:m.A.length≤65536) (h:Handed w E 11 (aO nz0 i c m) []) :
  Calls Try.prog 117 (([.c (.ptr (1,0,0) 0),.c (iI th),.c (iI a),.c (.v (.int .u64 o)),.c (.v (.int .u64 v))]:List SV).map (SV.den E)).toArray w (EffR w E 11 (takesO E (aO nz0 i c m)) (.tup [(false,[.v (.int .u64 (D.wd m a))]),(false,[.v (.bool false)]),(false,[.v (.int .i64 0)])]) 2 fun b=>killO [3,4]++aO ⟨b,b+1,6,7⟩ i c (logd m ⟨m.mm,th,3,a,o,v,D.wd m a⟩ (D.wd m a))):=by
 refine enterO (c:=ir117) (rs:=rs117) (nt:=nt117) h _ Try.func117 rfl (by kernel_rfl) (by kernel_rfl) rfl (by simp [okVs,SV.okN,SC.okN,iI]) (of_decide_eq_true rfl) ?_
 generalize hR:EffR w E 11 (takesO E (aO nz0 i c m)) _ 2 _=R
 generalize hW:takesO E (aO nz0 i c m)=W
 have hge:decide (a≥0)=true:=decide_eq_true h0
 have hlt:decide (a<(m.W.length:Int))=true:=decide_eq_true h1
 simp (maxSteps:=2000000) only [ir117,nt117,rs117,go_sem,↓runOp,↓reduceIte,Nat.reduceLT,Nat.reduceAdd,Nat.reduceEqDiff,reduceCtorEq,aO,nz0,bkM,bkY,iI]
 refine call_inline (c:=ir100) (rs:=rs100) (nt:=nt100) 1000 (mkTab_ok _ _) Try.func100 rfl (by kernel_rfl) (by kernel_rfl) rfl (by simp [okVs,SV.okN,SC.okN]) (of_decide_eq_true rfl) (fun E0 a0 ht0=>?_)
 simp (maxSteps:=2000000) only [ir100,nt100,rs100,go_sem,↓gateS,↓runOp,↓imp_tt,↓reduceIte,Nat.reduceLT,Nat.reduceEqDiff,reduceCtorEq,hge]
 refine fork_in rfl (by simp [resAP,resA1,gB]) ?_
 simp (maxSteps:=2000000) only [go_sem,↓runOp,↓reduceIte,Nat.reduceEqDiff,reduceCtorEq]
 refine call_inline (c:=ir99) (rs:=rs99) (nt:=nt99) 1000 (mkTab_ok _ _) Try.func99 rfl (by kernel_rfl) (by kernel_rfl) rfl (by simp [okVs,SV.okN,SC.okN]) (of_decide_eq_true rfl) (fun E1 a1 ht1=>?_)
 simp (maxSteps:=2000000) only [ir99,nt99,rs99,go_sem,↓condS,↓runOp,↓reduceIte,Nat.reduceLT,Nat.reduceEqDiff,reduceCtorEq]
 refine retI ht1 _ rfl (of_decide_eq_true rfl) (by simp [SV.okN,SC.okN]) ?_
 simp (maxSteps:=2000000) only [go_sem,↓gateS,↓runOp,↓reduceIte,Nat.reduceLT,Nat.reduceEqDiff,reduceCtorEq,hlt]
 refine retI ht0 _ rfl (of_decide_eq_true rfl) (by simp [SV.okN,SC.okN]) ?_
 simp (maxSteps:=2000000) only [go_sem,↓condS,↓runOp,↓imp_ft,↓imp_ff,↓reduceIte,Nat.reduceLT,Nat.reduceLeDiff,Nat.reduceAdd,Nat.reduceEqDiff,reduceCtorEq,ats_U]
 refine And.intro ⟨h0,h1,Nat.le_refl _⟩ (And.intro (by omega) ?_)
 refine call_inline (c:=ir101) (rs:=rs101) (nt:=nt101) 1000 (mkTab_ok _ _) Try.func101 rfl (by kernel_rfl) (by kernel_rfl) rfl (by simp [okVs,SV.okN,SC.okL,SC.okN]) (of_decide_eq_true rfl) (fun E0 a0 ht0=>?_)
 simp (maxSteps:=2000000) only [ir101,nt101,rs101,go_sem,↓runOp,↓reduceIte,Nat.reduceLT,Nat.reduceLeDiff,Nat.reduceAdd,Nat.reduceEqDiff,reduceCtorEq]
 refine draw_vc (by kernel_rfl) (mkTab_ok _ _) (of_decide_eq_true rfl) (of_decide_eq_true rfl) ?_
 repeat (first | simp (maxSteps:=2000000) only [go_sem,↓runOp,↓gateD,↓runD,↓reduceIte,Nat.reduceLT,Nat.reduceLeDiff,Nat.reduceAdd,Nat.reduceMul,Nat.reduceEqDiff,reduceCtorEq] | rw [dr_cons])
 repeat (with_reducible refine And.intro (by first | decide | (simp only [maxLen];omega) | exact ⟨Nat.le_refl _,by omega,by simp only [maxLen];omega⟩) ?_)
 refine retI ht0 _ rfl (of_decide_eq_true rfl) (by simp [SV.okN,ok1L]) ?_
 have hne:(m.W.getD a.toNat 0 != o)=true:=bne_iff_ne.2 ho
 simp (maxSteps:=2000000) only [go_sem,↓condS,↓runOp,↓imp_tf,↓imp_tt,↓reduceIte,Nat.reduceLT,Nat.reduceEqDiff,reduceCtorEq,mkO_rs,hne]
 rw [← hR,← hW]
 exact retA (p:=13) (q:=15) (m:=(logd m ⟨m.mm,th,3,a,o,v,D.wd m a⟩ (D.wd m a))) rfl (by simp) (fun E E'=>by simp [SV.den,SC.den,den1,D.wd]) ⟨by simp [look,bkM,iI,logd],by simp [look,bkY,iI,logd],⟨_,_,rfl,Nat.le_refl _,fun _ _=>rfl⟩,⟨_,_,rfl,by simp [logd],ats_push (d:=D.ac0) rfl rfl (fun _ _=>rfl) rfl⟩,⟨_,_,rfl,by simp [logd],ats_push (d:=0) rfl rfl (fun _ _=>rfl) rfl⟩,rfl⟩
end Go.Proofs.Ytcloeignccpljaa.Z
namespace Go.Proofs.Ytcloeignccpljaa.Z
open Go Go.RowKit
theorem plain_tk (t:Nat) (S:List D.Se) (k:Nat):PlainB (tkF t S k):=by
 unfold tkF tkB
 split <;> exact trivial
theorem aO_plain (z:Nz) (i c:Nat) (m:D.Pm):PlainO (aO z i c m) :=
 plain_of ⟨trivial,trivial,trivial,trivial,trivial,trivial,trivial⟩
theorem aO_id {own:Own} {i c:Nat} {m:D.Pm} (h:AIn own nz0 i c m):OwnLe (· < 11) (idσ id) own (aO nz0 i c m):=by
 have e:∀ j k e,idσ id (j,k,e)=(j,k,e):=fun j k e=>rfl
 have at1:∀ j B,look own j=some (.one B)→atN own (j,0,0)=some B:=fun j B hB=>by simp [atN,hB,Fm.get]
 obtain ⟨n2,g2,a2,b2,c2⟩:=h.h2
 obtain ⟨n3,g3,a3,b3,c3⟩:=h.hl
 obtain ⟨n4,g4,a4,b4,c4⟩:=h.ha
 simp only [nz0] at a3 a4
 have l:∀ j,j<11→j<11:=fun j hj=>hj
 unfold aO
 refine ⟨⟨l 0 (by omega),?_⟩,⟨l 1 (by omega),?_⟩,⟨l 2 (by omega),?_⟩,⟨l 3 (by omega),?_⟩,⟨l 4 (by omega),?_⟩,⟨l 10 (by omega),?_⟩,trivial⟩
 ·show BlkLeO _ _ (atN own (0,0,0)) _
  rw [at1 _ _ h.h0]
  exact ⟨by simp [bkM,SC.renL,SC.ren,iI,e],rfl,by simp [bkM,SC.okL,SC.okN,iI,nz0]⟩
 ·show BlkLeO _ _ (atN own (1,0,0)) _
  rw [at1 _ _ h.h1]
  exact ⟨by simp [bkY,SC.renL,SC.ren,iI,e],rfl,by simp [bkY,SC.okL,SC.okN,iI,nz0]⟩
 ·show BlkLeO _ _ (atN own (2,0,0)) _
  rw [at1 _ _ a2];exact blk_av b2 c2
 ·show BlkLeO _ _ (atN own (3,0,0)) _
  rw [at1 _ _ a3];exact blk_av b3 c3
 ·show BlkLeO _ _ (atN own (4,0,0)) _
  rw [at1 _ _ a4];exact blk_av b4 c4
 ·show BlkLeO _ _ (atN own (10,0,0)) _
  rw [at1 _ _ h.h10]
  exact ⟨by simp [SC.renL,SC.ren,e 0 0 0],rfl,by simp [SC.okL,SC.okN]⟩
theorem aO_key {i c i' c' b:Nat} {m m' : D.Pm}:∀ x B,atN (aO nz0 i c m) x=some B→(look (killO [3,4]++aO ⟨b,b+1,6,7⟩ i' c' m') x.1).isSome=true:=by
 intro x B hx
 obtain ⟨F,hF,_⟩:=atN_some hx
 have hk:=look_keysL hF
 simp only [aO,nz0,keysL,List.mem_cons,List.not_mem_nil,or_false] at hk
 rw [look_app,look_kill]
 have hl:∀ j B r,look ((j,(B:Fm Blk)) :: r) j=some B:=fun j B r=>by simp [look]
 rcases hk with e | e | e | e | e | e <;> rw [e]
 ·rfl
 ·rfl
 ·rfl
 ·rfl
 ·rfl
 all_goals
  simp only [List.mem_cons,List.not_mem_nil,Nat.reduceEqDiff,or_self,if_false,aO,look]
  repeat' split
  all_goals first | rfl | (exfalso;exact ‹¬True› trivial)
theorem crA {C:Ctx} {S:St} {f:Nat} {vs:List SV} {u:SV} {i c:Nat} {m m' : D.Pm} (hn:11≤S.nid) (h:AIn S.own nz0 i c m)
  (hc:∀ E w,Handed w E 11 (aO nz0 i c m) []→Calls C.P f (vs.map (SV.den E)).toArray w (EffR w E 11 (takesO E (aO nz0 i c m)) u 2 fun b=>killO [3,4]++aO ⟨b,b+1,6,7⟩ i c m')) :
  CR C f vs S (List.range 11) u 2 (killO [3,4]++aO ⟨S.nid,S.nid+1,6,7⟩ i c m') [] :=
 cr_own (eff:=fun b=>killO [3,4]++aO ⟨b,b+1,6,7⟩ i c m') 11 (aO nz0 i c m) [] hn (aO_plain _ _ _ _) (aO_id h) trivial aO_key hc
def ir91:IR:=(.seq (.ops [⟨(some 4),(.mv (.k (.c (.v (.int .u64 0))))),none⟩]) (.kill [2,3,4,5,6,7,8,9,10,11] (.seq (.seq (.ops [⟨(some 7),(.mv (.t 0)),none⟩,⟨(some 8),(.mv (.t 1)),none⟩,⟨(some 9),(.call 93 [(.t 7),(.t 8)]),none⟩,⟨(some 10),(.un .not (.t 9)),none⟩]) (.kill [7,8,9] (.cond (.t 10) (.seq (.ops [⟨(some 4),(.mv (.k (.c (.v (.int .u64 0))))),none⟩]) (.kill [0,1,10] .ret)) .skip))) (.kill [4,10] (.seq (.draw [(⟨(some 12),(.mv (.t 0)),none⟩,([],[19,20,21,22,23,24,25,26])),(⟨(some 13),(.nilck (.t 12)),none⟩,([],[19,20,21,22,23,24,25,26])),(⟨(some 14),(.fa 0 (.t 13)),none⟩,([],[19,20,21,22,23,24,25,26])),(⟨(some 15),(.ld false 1 (.t 14)),none⟩,([],[19,20,21,22,23,24,25,26])),(⟨(some 16),(.nilck (.t 15)),none⟩,([],[19,20,21,22,23,24,25,26])),(⟨(some 17),(.fa 0 (.t 16)),none⟩,([],[19,20,21,22,23,24,25,26])),(⟨(some 18),(.ld false 1 (.t 17)),none⟩,([],[19,20,21,22,23,24,25,26])),(⟨(some 19),(.mv (.t 0)),none⟩,([0,1,2,3,4,5,6],[12,13,14,15,16,17,18,26])),(⟨(some 20),(.nilck (.t 19)),none⟩,([0,1,2,3,4,5,6],[12,13,14,15,16,17,18,26])),(⟨(some 21),(.fa 0 (.t 20)),none⟩,([0,1,2,3,4,5,6],[12,13,14,15,16,17,18,26])),(⟨(some 22),(.ld false 1 (.t 21)),none⟩,([0,1,2,3,4,5,6],[12,13,14,15,16,17,18,26])),(⟨(some 23),(.nilck (.t 22)),none⟩,([0,1,2,3,4,5,6],[12,13,14,15,16,17,18,26])),(⟨(some 24),(.fa 1 (.t 23)),none⟩,([0,1,2,3,4,5,6],[12,13,14,15,16,17,18,26])),(⟨(some 25),(.ld false 1 (.t 24)),none⟩,([0,1,2,3,4,5,6],[12,13,14,15,16,17,18,26])),(⟨(some 26),(.mv (.t 1)),none⟩,([0,1,2,3,4,5,6,7,8,9,10,11,12,13],[12,13,14,15,16,17,18,19,20,21,22,23,24,25])),(⟨(some 27),(.call 94 [(.t 18),(.t 25),(.t 26)]),none⟩,([],[])),(⟨(some 11),(.mv (.t 27)),none⟩,([],[])),(⟨(some 28),(.ext 0 (.t 11)),none⟩,([],[29])),(⟨(some 29),(.ext 1 (.t 11)),none⟩,([17],[28,5])),(⟨(some 5),(.mv (.t 28)),none⟩,([18],[29])),(⟨(some 6),(.mv (.t 29)),none⟩,([],[]))]) (.kill [0,1,6,11,12,13,14,15,16,17,18,19,20,21,22,23,24,25,26,27,28,29] (.seq (.ops [⟨(some 30),(.mv (.t 5)),none⟩,⟨(some 4),(.mv (.t 30)),none⟩]) (.kill [5,30] .ret))))))))
def rs91:List RS:=[(.t 4)]
def nt91:Nat:=31
def ir93:IR:=(.seq (.ops [⟨(some 4),(.mv (.k (.c (.v (.bool false))))),none⟩]) (.kill [2,3,4,5,6,7,8,9,10,11] (.seq (.seq (.ops [⟨(some 5),(.mv (.t 0)),none⟩,⟨(some 6),(.eqn 0 false (.t 5) (.k (.c (.v (.pointer none))))),none⟩,⟨(some 7),(.mv (.t 6)),none⟩,⟨(some 8),(.mv (.t 0)),(some (7,false))⟩,⟨(some 9),(.nilck (.t 8)),(some (7,false))⟩,⟨(some 10),(.fa 0 (.t 9)),(some (7,false))⟩,⟨(some 11),(.ld false 1 (.t 10)),(some (7,false))⟩,⟨(some 12),(.eqn 0 false (.t 11) (.k (.c (.v (.pointer none))))),(some (7,false))⟩,⟨(some 13),(.pick (.t 7) (.k (.c (.v (.bool true)))) (.t 12)),none⟩,⟨(some 14),(.mv (.t 13)),none⟩,⟨(some 15),(.mv (.t 0)),(some (14,false))⟩,⟨(some 16),(.nilck (.t 15)),(some (14,false))⟩,⟨(some 17),(.fa 0 (.t 16)),(some (14,false))⟩,⟨(some 18),(.ld false 1 (.t 17)),(some (14,false))⟩,⟨(some 19),(.nilck (.t 18)),(some (14,false))⟩,⟨(some 20),(.fa 5 (.t 19)),(some (14,false))⟩,⟨(some 21),(.ld false 1 (.t 20)),(some (14,false))⟩,⟨(some 22),(.pick (.t 14) (.k (.c (.v (.bool true)))) (.t 21)),none⟩,⟨(some 23),(.mv (.t 22)),none⟩,⟨(some 24),(.mv (.t 1)),(some (23,false))⟩,⟨(some 25),(.bin .lss (.t 24) (.k (.c (.v (.int .i64 0))))),(some (23,false))⟩,⟨(some 26),(.pick (.t 23) (.k (.c (.v (.bool true)))) (.t 25)),none⟩,⟨(some 27),(.mv (.t 26)),none⟩,⟨(some 28),(.mv (.t 1)),(some (27,false))⟩,⟨(some 29),(.mv (.t 0)),(some (27,false))⟩,⟨(some 30),(.nilck (.t 29)),(some (27,false))⟩,⟨(some 31),(.fa 0 (.t 30)),(some (27,false))⟩,⟨(some 32),(.ld false 1 (.t 31)),(some (27,false))⟩,⟨(some 33),(.nilck (.t 32)),(some (27,false))⟩,⟨(some 34),(.fa 0 (.t 33)),(some (27,false))⟩,⟨(some 35),(.ld false 1 (.t 34)),(some (27,false))⟩,⟨(some 36),(.call 99 [(.t 35)]),(some (27,false))⟩,⟨(some 37),(.bin .geq (.t 28) (.t 36)),(some (27,false))⟩,⟨(some 38),(.pick (.t 27) (.k (.c (.v (.bool true)))) (.t 37)),none⟩]) (.kill [1,5,6,7,8,9,10,11,12,13,14,15,16,17,18,19,20,21,22,23,24,25,26,27,28,29,30,31,32,33,34,35,36,37] (.cond (.t 38) (.seq (.ops [⟨(some 4),(.mv (.k (.c (.v (.bool false))))),none⟩]) (.kill [0,38] .ret)) .skip))) (.kill [4,38] (.seq (.ops [⟨(some 39),(.mv (.t 0)),none⟩,⟨(some 40),(.nilck (.t 39)),none⟩,⟨(some 41),(.fa 0 (.t 40)),none⟩,⟨(some 42),(.ld false 1 (.t 41)),none⟩,⟨(some 43),(.nilck (.t 42)),none⟩,⟨(some 44),(.fa 5 (.t 43)),none⟩,⟨none,(.st 1 (.t 44) (.k (.c (.v (.bool true))))),none⟩]) (.kill [0,39,40,41,42,43,44] (.seq (.ops [⟨(some 4),(.mv (.k (.c (.v (.bool true))))),none⟩]) .ret)))))))
def rs93:List RS:=[(.t 4)]
def nt93:Nat:=45
set_option maxRecDepth 100000 in
set_option maxHeartbeats 1000000 in
theorem dload_own (w:World) (E:Env) (m:D.Pm) (i c:Nat) (a:Int) (hu:m.us=false) (h0:0≤a) (h1:a<m.W.length) (hL:m.L.length≤65536) (hA:m.A.length≤65536) (h:Handed w E 11 (aO nz0 i c m) []) :
  Calls Try.prog 91 (([.c (.ptr (10,0,0) 0),.c (iI a)]:List SV).map (SV.den E)).toArray w (EffR w E 11 (takesO E (aO nz0 i c m)) (.c (.v (.int .u64 (D.load m a).2))) 2 fun b=>killO [3,4]++aO ⟨b,b+1,6,7⟩ i c (D.load m a).1):=by
 refine enterO (c:=ir91) (rs:=rs91) (nt:=nt91) h _ Try.func91 rfl (by kernel_rfl) (by kernel_rfl) rfl (by simp [okVs,SV.okN,SC.okN,iI]) (of_decide_eq_true rfl) ?_
 rw [D.ld_ok hu h0 h1]
 generalize hR:EffR w E 11 (takesO E (aO nz0 i c m)) _ 2 _=R
 generalize hW:takesO E (aO nz0 i c m)=W
 have hlt0:decide (a<0)=false:=decide_eq_false (by omega)
 have hge:decide (a≥(m.W.length:Int))=false:=decide_eq_false (by omega)
 simp (maxSteps:=2000000) only [ir91,nt91,rs91,go_sem,↓runOp,↓reduceIte,Nat.reduceLT,Nat.reduceEqDiff,reduceCtorEq,aO,nz0,bkM,bkY,iI,hu]
 refine call_inline (c:=ir93) (rs:=rs93) (nt:=nt93) 1000 (mkTab_ok _ _) Try.func93 rfl (by kernel_rfl) (by kernel_rfl) rfl (by simp [okVs,SV.okN,SC.okN]) (of_decide_eq_true rfl) (fun E0 a0 ht0=>?_)
 simp (maxSteps:=2000000) only [ir93,nt93,rs93,go_sem,↓gateS,↓runOp,↓imp_tt,↓reduceIte,Nat.reduceLT,Nat.reduceEqDiff,reduceCtorEq,hlt0]
 refine fork_in rfl (by simp [resAP,resA1,gB]) ?_
 simp (maxSteps:=2000000) only [go_sem,↓runOp,↓reduceIte,Nat.reduceEqDiff,reduceCtorEq]
 refine call_inline (c:=ir99) (rs:=rs99) (nt:=nt99) 1000 (mkTab_ok _ _) Try.func99 rfl (by kernel_rfl) (by kernel_rfl) rfl (by simp [okVs,SV.okN,SC.okN]) (of_decide_eq_true rfl) (fun E1 a1 ht1=>?_)
 simp (maxSteps:=2000000) only [ir99,nt99,rs99,go_sem,↓condS,↓runOp,↓reduceIte,Nat.reduceLT,Nat.reduceEqDiff,reduceCtorEq]
 refine retI ht1 _ rfl (of_decide_eq_true rfl) (by simp [SV.okN,SC.okN]) ?_
 simp (maxSteps:=2000000) only [go_sem,↓condS,↓gateS,↓runOp,↓imp_ft,↓imp_ff,↓reduceIte,Nat.reduceLT,Nat.reduceLeDiff,Nat.reduceAdd,Nat.reduceEqDiff,reduceCtorEq,hge]
 refine retI ht0 _ rfl (of_decide_eq_true rfl) (by simp [SV.okN,SC.okN]) ?_
 simp (maxSteps:=2000000) only [go_sem,↓condS,↓runOp,↓reduceIte,Nat.reduceLT,Nat.reduceEqDiff,reduceCtorEq]
 refine draw_vc (by kernel_rfl) (mkTab_ok _ _) (of_decide_eq_true rfl) (of_decide_eq_true rfl) ?_
 repeat (first | simp (maxSteps:=2000000) only [go_sem,↓gateD,↓runD,↓reduceIte,Nat.reduceLT,Nat.reduceEqDiff,reduceCtorEq] | rw [dr_cons])
 refine dcall_intro (crA (i:=i) (c:=c) (m:={ m with us:=true }) (m':=logd { m with us:=true } ⟨m.mm,m.th,1,a,0,0,D.wd m a⟩ (D.wd m a)) (Nat.le_refl _) ⟨rfl,rfl,⟨_,_,rfl,Nat.le_refl _,fun _ _=>rfl⟩,⟨_,_,rfl,Nat.le_refl _,fun _ _=>rfl⟩,⟨_,_,rfl,Nat.le_refl _,fun _ _=>rfl⟩,rfl⟩ (fun E w h=>mload_own w E { m with us:=true } i c m.th a h0 h1 hL hA h)) rfl trivial ?_ ?_ ?_
 ·simp [wrOk,killO,aO,wrFree,wkImp]
 ·intro k hk hlt
  simp only [killO,aO,keysL,List.map_cons,List.map_nil,List.cons_append,List.nil_append,List.mem_cons,List.not_mem_nil,or_false] at hk
  have hlt:k<11:=hlt
  rcases hk with rfl | rfl | rfl | rfl | rfl | rfl | rfl | rfl <;> first | rfl | omega
 repeat (first | simp (maxSteps:=2000000) only [go_sem,↓runOp,↓gateD,↓runD,↓reduceIte,Nat.reduceLT,Nat.reduceAdd,Nat.reduceEqDiff,reduceCtorEq,killO,aO,bkM,bkY,iI,logd,mkO_rs] | rw [dr_cons])
 rw [← hR,← hW]
 exact retA (p:=11) (q:=12) (m:=logd { m with us:=true } ⟨m.mm,m.th,1,a,0,0,D.wd m a⟩ (D.wd m a)) rfl (by simp) (fun E E'=>by simp [SV.den,SC.den,D.wd]) ⟨rfl,rfl,⟨_,_,rfl,Nat.le_refl _,fun _ _=>rfl⟩,⟨_,_,rfl,Nat.le_refl _,fun _ _=>rfl⟩,⟨_,_,rfl,Nat.le_refl _,fun _ _=>rfl⟩,rfl⟩
end Go.Proofs.Ytcloeignccpljaa.Z
