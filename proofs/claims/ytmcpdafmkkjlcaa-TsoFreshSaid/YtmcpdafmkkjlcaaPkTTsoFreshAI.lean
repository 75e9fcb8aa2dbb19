/- TsoFreshSaid: what its proof is made of. No condition. -/
import Derived.Test.YtmcpdafmkkjlcaaPkTTsoFreshAH
set_option linter.unusedSimpArgs false
set_option linter.unusedVariables false
namespace Go.Proofs.Ytmcpdafmkkjlcaa.Z
open Go Go.RowKit
def PlainB:Blk→Prop
 | .no=>True
 | .bk _ _=>True
 | .ar _ _ _ _=>True
 | _=>False
def takes (E:Env) (x:Nm):Blk→Nat→Prop
 | .bk _ _,n=>n=E.ρ x
 | .ar _ _ _ _,n=>0<E.κ x∧n=E.ρ x
 | _,_=>False
theorem takes_iff {E:Env} {x:Nm} {b:Blk} {h:PH} (hp:PlainB b) (hd:b.den E x h) {n:Nat}:h n≠none↔takes E x b n:=by
 cases b with
 | no=>simp only [Blk.den] at hd;subst hd;simp [takes,emp]
 | bk cs ty=>simp only [Blk.den] at hd;subst hd;simp only [takes,sing];by_cases e:n=E.ρ x <;> simp [e]
 | ar m s at_ ty =>
  simp only [Blk.den] at hd
  rcases hd with ⟨_,h1,_,h4⟩ | ⟨_,⟨_,h1⟩,_,cells,h4,_⟩
  ·subst h4;simp [takes,emp,h1]
  ·subst h4;simp only [takes,sing,h1,true_and];by_cases e:n=E.ρ x <;> simp [e]
 | mp _ _ _=>exact hp.elim
 | mpe _ _ _ _ _=>exact hp.elim
 | wm _ _ _=>exact hp.elim
 | pr _=>exact hp.elim
def takesO (E:Env) (own:Own) (n:Nat):Prop:=∃ x b,atN own x=some b∧takes E x b n
def PlainO (own:Own):Prop:=∀ x b,atN own x=some b→PlainB b
def mkO (P:Program) (w:World) (W:Nat→Prop) (rs:List RS) (R:Ending→World→Prop):Ctx:=⟨P,mkTab P [],w.heap.size,W,w,rs,R⟩
theorem mkO_rs (P:Program) (w:World) (W:Nat→Prop) (rs:List RS) (R:Ending→World→Prop):(mkO P w W rs R).rs=rs:=rfl
def Handed (w:World) (E:Env) (n0:Nat) (own:Own) (arrs:List (Nat×Fm ArrF)):Prop :=
 OneC E∧∀ E',AgreeD (· < n0) E E'→OneC E'→InOk (mkO default w (takesO E own) [] fun _ _=>True) E' own arrs [AgF n0 E] w
theorem enterO {P:Program} {f nt:Nat} {fn:Func} {x:Code} {c:IR} {w:World} {E:Env} {n0:Nat} {own:Own} {arrs:List (Nat×Fm ArrF)} {rs:List RS} {R:Ending→World→Prop} (h:Handed w E n0 own arrs) (sc:List SV)
  (hf:P.funcs[f]? = some fn) (hb:fn.body=some x) (hc:compC (mkTab P []) x=some c.strip) (hr:compR (mkTab P []).T fn.results.toList=some rs) (hn:fn.ntmps=nt)
  (hsc:okVs (· < n0) sc) (hnt:sc.length≤nt)
  (hex:exec (mkO P w (takesO E own) rs R) 1000 [.code c] ⟨nt,enumT 0 sc,own,arrs,[AgF n0 E],n0⟩):Calls P f (sc.map (SV.den E)).toArray w R:=by
 have hone:=h.1
 subst hn
 refine calls_of_exec (C:=mkO P w (takesO E own) rs R) (E:=E) 1000 (mkTab_ok _ _) hf hb hc hr ⟨hone,fun E' hE' ho'=>?_⟩ hex
 obtain ⟨H,h1,h2,h3,h4⟩:=h.2 E' hE' ho'
 have hvv:sc.map (SV.den E')=sc.map (SV.den E):=dens_same (p:=(· < n0)) (fun x hx=>hE' x hx) hsc
 refine ⟨by simp;omega,rfl,ho',fun t v ht=>?_,⟨rfl,rfl,rfl,Nat.le_refl _,fun _ _ _=>rfl⟩,H,⟨h1,h2,fun x b hb n o hn=>⟨(h3 x b hb n o hn).1,Or.inr (h3 x b hb n o hn).2⟩⟩,h4⟩
 obtain ⟨j,rfl,hj⟩:=look_enumT sc 0 t v ht
 have hjl:j<sc.length:=(List.getElem?_eq_some_iff.1 hj).1
 refine ⟨by simp only;omega,?_⟩
 simp only [← hvv,Nat.zero_add,Array.getD_eq_getD_getElem?]
 rw [Array.getElem?_append_left (by simpa using hjl)]
 simp [hj]
def EffR (w:World) (E:Env) (n0:Nat) (W:Nat→Prop) (u:SV) (nx:Nat) (eff:Nat→Own) (e:Ending) (w' : World):Prop :=
 ∃ v,e = .returned v∧Frame0 w.heap.size W w w'∧∀ b,n0≤b→∃ N:Env,OneC N∧∀ E2,AgreeD (· < n0) E E2→AgreeD (NewIds b nx) N E2→v=u.den E2 ∧
  ∃ H:Nm→PH,(∀ x c,atN (eff b) x=some c→c.den E2 x (H x))∧(∀ x y c d,atN (eff b) x=some c→atN (eff b) y=some d→x≠y→∀ n,H x n=none∨H y n=none) ∧
   ∀ x c,atN (eff b) x=some c→∀ n o,H x n=some o→w'.heap[n]? = some o∧(w.heap.size≤n∨W n)
def killO (ks:List Nat):Own:=ks.map fun i=>(i,.one .no)
theorem look_app {α:Type}:∀ (l r:List (Nat×α)) (t:Nat),look (l++r) t=match look l t with | some v=>some v | none=>look r t
 | [],r,t=>rfl
 | (k,v) :: l,r,t=>by
  simp only [List.cons_append,look_cons]
  split
  ·rfl
  ·exact look_app l r t
theorem look_kill:∀ (ks:List Nat) (t:Nat),look (killO ks) t=if t∈ks then some (.one .no) else none
 | [],t=>rfl
 | k :: ks,t=>by
  simp only [killO,List.map_cons,look_cons,List.mem_cons]
  by_cases e:k=t
  ·subst e;simp
  ·have:=look_kill ks t
   simp only [killO] at this
   rw [if_neg e,this]
   by_cases h:t∈ks
   ·simp [h]
   ·have e' : ¬ t=k:=fun q=>e q.symm
    simp [h,e']
theorem atN_kill {ks:List Nat} {own:Own} {x:Nm} {c:Blk} (h:atN (killO ks++own) x=some c):(x.1∈ks∧c = .no)∨(x.1 ∉ ks∧atN own x=some c):=by
 obtain ⟨a,k⟩:=x
 simp only [atN,look_app,look_kill] at h ⊢
 by_cases e:a∈ks
 ·left
  simp only [e,if_true] at h
  simp only [Fm.get] at h
  split at h
  ·cases h;exact ⟨e,rfl⟩
  ·cases h
 ·right
  simp only [e,if_false] at h
  exact ⟨e,h⟩
theorem retEff {P:Program} {w:World} {E:Env} {n0:Nat} {W:Nat→Prop} {rs:List RS} {u v:SV} {nx:Nat} {S2:St} (σ:Nat→Nm→Nm) (ks:List Nat) (eff1:Nat→Own)
  (hf:AgF n0 E∈S2.facts) (hu:∀ E E',v.den E=u.den E') (hσ0:∀ b,n0≤b→∀ x:Nm,x.1<n0→σ b x=x)
  (ho:∀ b,n0≤b→OwnLe (fun i=>i<n0∨NewIds b nx i) (σ b) S2.own (eff1 b)) (hi:∀ b,n0≤b→InjN (σ b) (eff1 b)):RetVC (mkO P w W rs (EffR w E n0 W u nx fun b=>killO ks++eff1 b)) v S2:=by
 intro E1 a w' hs
 have hs:=hs.sat
 obtain ⟨H,hH,hF⟩:=hs.mem
 have hag:AgreeD (· < n0) E E1:=(hF w' fun _ _ _=>rfl).2 (AgF n0 E) hf
 refine ⟨_,rfl,hs.frame,fun b hb=>⟨E1.via (σ b),fun x=>hs.one _,fun E2 hE2 hN2=>⟨hu _ _,?_⟩⟩⟩
 have hR:∀ x:Nm,(x.1<n0∨NewIds b nx x.1)→SameR (σ b) E1 E2 x:=fun x hx=>by
  rcases hx with hx | hx
  ·have h1:=hag x hx
   have h2:=hE2 x hx
   unfold SameR
   rw [hσ0 b hb x hx]
   exact ⟨h2.1.trans h1.1.symm,h2.2.1.trans h1.2.1.symm,h2.2.2.1.trans h1.2.2.1.symm,h2.2.2.2.trans h1.2.2.2.symm⟩
  ·exact hN2 x hx
 have hat:∀ x c,atN (eff1 b) x=some c→(x.1<n0∨NewIds b nx x.1)∧∃ d,atN S2.own (σ b x)=some d∧BlkLe (fun i=>i<n0∨NewIds b nx i) (σ b) d c:=fun x c hx=>ownLe_at (ho b hb) hx
 refine ⟨fun x=>if x.1∈ks then emp else H (σ b x),fun x c hx=>?_,fun x y c d hx hy hne n=>?_,fun x c hx n o hn=>?_⟩
 ·rcases atN_kill hx with ⟨h1,rfl⟩ | ⟨h1,hx⟩
  ·simp only [h1,if_true];rfl
  ·simp only [h1,if_false]
   obtain ⟨h1,d,h2,h3⟩:=hat x c hx
   exact blk_le hR h1 h3 (hH.den _ _ h2)
 ·rcases atN_kill hx with ⟨h1,rfl⟩ | ⟨h1,hx⟩
  ·simp [h1,emp]
  ·rcases atN_kill hy with ⟨h2,rfl⟩ | ⟨h2,hy⟩
   ·simp [h2,emp]
   ·simp only [h1,h2,if_false]
    obtain ⟨_,d1,g2,_⟩:=hat x c hx
    obtain ⟨_,d2,k2,_⟩:=hat y d hy
    exact hH.disj _ _ d1 d2 g2 k2 (fun e=>hne (hi b hb x y c d hx hy e)) n
 ·rcases atN_kill hx with ⟨h1,rfl⟩ | ⟨h1,hx⟩
  ·simp [h1,emp] at hn
  ·simp only [h1,if_false] at hn
   obtain ⟨_,d1,g2,_⟩:=hat x c hx
   exact hH.sub _ d1 g2 n o hn
theorem takes_same {E E2:Env} {x:Nm} (h:Same E E2 x) {b:Blk} {n:Nat}:takes E2 x b n↔takes E x b n:=by
 cases b <;> simp [takes,h.1,h.2.1]
theorem blkLe_plain {p:Nat→Prop} {σ:Nm→Nm} {b b' : Blk} (h:BlkLe p σ b b') (hp:PlainB b'):PlainB b∧∀ E x n,takes E x b n↔takes E x b' n:=by
 cases b' <;> cases b <;> simp [BlkLe,PlainB] at * <;> simp [takes]
theorem cr_own {C:Ctx} {S:St} {f:Nat} {vs:List SV} {u:SV} {nx:Nat} {eff:Nat→Own} (n0:Nat) (own0:Own) (arrs0:List (Nat×Fm ArrF)) (hn0:n0≤S.nid) (hp:PlainO own0)
  (hown:OwnLe (· < n0) (idσ id) S.own own0) (harr:ArrsLe (· < n0) (idσ id) S.arrs arrs0) (hk:∀ x b,atN own0 x=some b→(look (eff S.nid) x.1).isSome=true)
  (hc:∀ E w,Handed w E n0 own0 arrs0→Calls C.P f (vs.map (SV.den E)).toArray w (EffR w E n0 (takesO E own0) u nx eff)):CR C f vs S (List.range n0) u nx (eff S.nid) []:=by
 intro E a w hs
 obtain ⟨H,hH,hF⟩:=hs.mem
 have hat:∀ x c,atN own0 x=some c→x.1<n0∧∃ d,atN S.own x=some d∧BlkLe (· < n0) (idσ id) d c:=fun x c hx=>ownLe_at hown hx
 have hand:Handed w E n0 own0 arrs0:=by
  refine ⟨hs.one,fun E' hE' ho'=>⟨H,fun x c hx=>?_,fun x y c d hx hy hne n=>?_,fun x c hx n o hn=>?_,fun w' hw'=>⟨fun x A hA=>?_,fun φ hφ=>?_⟩⟩⟩
  ·obtain ⟨h1,d,h2,h3⟩:=hat x c hx
   exact blk_le (σ:=idσ id) (fun y hy=>hE' y hy) h1 h3 (hH.den _ _ h2)
  ·obtain ⟨_,d1,g1,_⟩:=hat x c hx
   obtain ⟨_,d2,g2,_⟩:=hat y d hy
   exact hH.disj x y d1 d2 g1 g2 hne n
  ·obtain ⟨_,d1,g1,g3⟩:=hat x c hx
   refine ⟨(hH.sub x d1 g1 n o hn).1,x,c,hx,?_⟩
   obtain ⟨k1,k2⟩:=blkLe_plain g3 (hp x c hx)
   exact (k2 E x n).1 ((takes_iff k1 (hH.den x d1 g1)).1 (by rw [hn];simp))
  ·obtain ⟨h1,A0,h2,h3,h4,h5,h6⟩:=arrsLe_at harr hA
   have hold:=hF w' fun n hn hfr=>hw' n hn fun x c hx=>by
    obtain ⟨_,d1,g1,_⟩:=hat x c hx
    exact hfr x d1 g1
   obtain ⟨ba,cap,g1,g2,g3,g4⟩:=hold.1 x A0 h2
   have hR:∀ y:Nm,y.1<n0→SameR (idσ id) E E' y:=fun y hy=>hE' y hy
   refine ⟨ba,cap,by rw [(hR x h1).2.2.2];exact g1.trans (by rw [h3]),by omega,g3,?_⟩
   rcases g4 with g4 | ⟨b,off,rfl,gl,g4⟩
   ·exact Or.inl (by omega)
   ·refine Or.inr ⟨b,off,rfl,Nat.le_trans h6 gl,fun k hk=>?_⟩
    obtain ⟨f1,f2⟩:=g4 k (by omega)
    obtain ⟨e1,e2⟩:=h5 k hk
    rw [e1] at f1 f2
    refine ⟨by rw [renL_eq,List.length_map] at f1;omega,fun j q hq=>?_⟩
    have:=f2 j _ (mem_renL hq)
    rw [den_ren hR q (okL_mem e2 hq),← h4]
    exact this
  ·simp only [List.mem_singleton] at hφ
   subst hφ
   exact hE'
 refine (hc E w hand).mono ?_
 rintro e w' ⟨v,rfl,hfr,hN⟩
 obtain ⟨N,hN1,hN2⟩:=hN S.nid hn0
 refine ⟨v,rfl,N,hN1,fun E2 hs2 hks hag=>?_⟩
 have hE2:AgreeD (· < n0) E E2:=fun x hx=>hks x (List.mem_range.2 hx)
 obtain ⟨h1,H',h2,h3,h4⟩:=hN2 E2 hE2 hag
 refine ⟨h1,Fits.G ⟨fun H2 hH2=>?_,fun _ _ x A hA=>by simp [atN,look] at hA⟩⟩
 have htk:∀ x c,atN own0 x=some c→∃ d,atN S.own x=some d∧∀ n,H2 x n≠none↔takes E x c n:=fun x c hx=>by
  obtain ⟨k0,d,g1,g3⟩:=hat x c hx
  obtain ⟨k1,k2⟩:=blkLe_plain g3 (hp x c hx)
  refine ⟨d,g1,fun n=>?_⟩
  rw [takes_iff k1 (hH2.den x d g1),k2 E2 x n,takes_same (hE2 x k0)]
 refine ⟨hfr.os,hfr.tape,hfr.output,hfr.size,fun n hn hfree=>hfr.keep n hn ?_,H',h2,h3,fun x c hx n o hn=>⟨(h4 x c hx n o hn).1,(h4 x c hx n o hn).2.imp id ?_⟩⟩
 ·rintro ⟨x,c,hx,ht⟩
  obtain ⟨d,g1,g2⟩:=htk x c hx
  exact (g2 n).2 ht (hfree x d (hk x c hx) g1)
 ·rintro ⟨y,c,hy,ht⟩
  obtain ⟨d,g1,g2⟩:=htk y c hy
  exact ⟨y,d,hk y c hy,g1,(g2 n).2 ht⟩
end Go.Proofs.Ytmcpdafmkkjlcaa.Z
namespace Go.Proofs.Ytmcpdafmkkjlcaa.Z
open Go Go.RowKit
def stP (s:LS):Own:=(5,.one (.bk (stC 6 s) 32)) :: stO 6 s
theorem stP_plain (s:LS):PlainO (stP s):=by
 intro x b hx
 simp only [stP,stO] at hx
 rcases atN_one hx with ⟨rfl,rfl⟩ | hx
 ·trivial
 rcases atN_one hx with ⟨rfl,rfl⟩ | hx
 ·trivial
 rcases atN_one hx with ⟨rfl,rfl⟩ | hx
 ·trivial
 rcases atN_one hx with ⟨rfl,rfl⟩ | hx
 ·trivial
 rcases atN_one hx with ⟨rfl,rfl⟩ | hx
 ·trivial
 rcases atN_fam hx with ⟨k,hk,rfl,rfl⟩ | hx
 ·trivial
 ·exact (atN_nil hx).elim
theorem arLe_same {α:Type} {p:Nat→Prop} {σ:Nm→Nm} {enc:α→List Value} {n s ty:Nat} {xs:List α} {d:α}:BlkLe p σ (.ar n s (ats enc xs d) ty) (.ar n s (ats enc xs d) ty):=arLe_of (Nat.le_refl _) fun _ _=>rfl
theorem stP_le {p:Nat→Prop} {τ:Nat→Nat} {own:Own} {s:LS} (hp:∀ i,i<11→p i) (hτ:∀ i,i<11→τ i=i) (h5:look own 5=some (.one (.bk (stC 6 s) 32))) (h6:look own 6=some (.one (.ar s.words.length 1 (ats eI s.words 0) 3))) (h7:look own 7=some (.one (.ar s.regs.length 4 (ats R4.enc s.regs r40) 68)))
  (h8:look own 8=some (.one (.ar s.places.length 1 (ats eI s.places 0) 3))) (h9:look own 9=some (.one (.ar s.bufs.length 1 (bfC 10 s) 86))) (h10:look own 10=some (.fam s.bufs.length (bfO s))):OwnLe p (idσ τ) own (stP s):=by
 have t5:=hτ 5 (by decide);have t6:=hτ 6 (by decide);have t7:=hτ 7 (by decide);have t8:=hτ 8 (by decide);have t9:=hτ 9 (by decide);have t10:=hτ 10 (by decide)
 have p5:=hp 5 (by decide);have p6:=hp 6 (by decide);have p7:=hp 7 (by decide);have p8:=hp 8 (by decide);have p9:=hp 9 (by decide);have p10:=hp 10 (by decide)
 refine ⟨⟨p5,?_⟩,⟨p6,?_⟩,⟨p7,?_⟩,⟨p8,?_⟩,⟨p9,?_⟩,⟨p10,fun k hk=>?_⟩,trivial⟩
 ·simp only [idσ,t5,atN,h5,Fm.get,and_self,if_true]
  exact ⟨by simp [stC,SC.renL,SC.ren,idσ,t6,t7,t8,t9],rfl,by simp [stC,SC.okL,SC.okN,p6,p7,p8,p9]⟩
 ·simp only [idσ,t6,atN,h6,Fm.get,and_self,if_true];exact arLe_same
 ·simp only [idσ,Nat.reduceAdd,t7,atN,h7,Fm.get,and_self,if_true];exact arLe_same
 ·simp only [idσ,Nat.reduceAdd,t8,atN,h8,Fm.get,and_self,if_true];exact arLe_same
 ·simp only [idσ,Nat.reduceAdd,t9,atN,h9,Fm.get,and_self,if_true]
  exact ⟨Nat.le_refl _,rfl,rfl,fun e he=>⟨by simp [bfC,SC.renL,SC.ren,idσ,t10],by simp [bfC,SC.okL,SC.okN,p10]⟩⟩
 ·simp only [idσ,Nat.reduceAdd,t10,atN,h10,Fm.get,hk,and_self,if_true];exact arLe_same
theorem facts_id {n n0:Nat} {E0:Env} {fs:List (Env→World→Prop)} {τ:Nat→Nat} (h:AgF n0 E0∈fs) (hn:n0≤n) (hτ:∀ i,i<n0→τ i=i):FactsLe (idσ τ) n fs [AgF n0 E0]:=⟨factA h hn hτ,trivial⟩
def SeeR (w:World) (v:Value) (words:List Int) (bufs:List (List Pd)):Prop :=
 ∃ b off vw x1 x2 vb,v = .pointer (some ⟨b,off,none⟩)∧(∀ j u,([vw,x1,x2,vb]:List Value)[j]? = some u→w.cell? ⟨b,off+j,none⟩=some u∧u.oneCell' = true)∧Arr w eI 1 vw words∧Nest w Pd.enc 2 vb bufs
def seF:ArrF:=⟨1,4,fun _=>[.xv (1,0,0),.xv (2,0,0),.xv (3,0,0),.xv (4,0,0)],0⟩
theorem seF_len:seF.len=1:=rfl
theorem seF_size:seF.size=4:=rfl
theorem seF_at (k:Nat):seF.at_ k=[.xv (1,0,0),.xv (2,0,0),.xv (3,0,0),.xv (4,0,0)]:=rfl
theorem seF_le {p:Nat→Prop} {τ:Nat→Nat} (h:∀ i,i<5→p i∧τ i=i):ArrLe p (idσ τ) seF seF:=by
 obtain ⟨p1,t1⟩:=h 1 (by decide);obtain ⟨p2,t2⟩:=h 2 (by decide);obtain ⟨p3,t3⟩:=h 3 (by decide);obtain ⟨p4,t4⟩:=h 4 (by decide)
 exact ⟨rfl,rfl,fun e _=>⟨by simp [seF,SC.renL,SC.ren,idσ,t1,t2,t3,t4],by simp [seF,SC.okL,SC.okN,p1,p2,p3,p4]⟩,Nat.le_refl _⟩
def seA (s:LS):List (Nat×Fm ArrF):=[(0,.one seF),(1,.one (arrOf eI 1 s.words 0)),(4,.one (nestF 5 s.bufs.length)),(5,.fam s.bufs.length fun k=>arrOf Pd.enc 2 (s.bufs.getD k []) pd0)]
theorem seA_le (s:LS):ArrsLe (· < 6) (idσ id) (seA s) (seA s):=by
 refine ⟨⟨by decide,seF_le fun i hi=>⟨by omega,rfl⟩⟩,⟨by decide,arrLe_of⟩,⟨by decide,arrLe_nest (by decide) rfl⟩,⟨by decide,fun k hk=>?_⟩,trivial⟩
 simp only [seA,atN,look,idσ,id,Fm.get,Nat.reduceEqDiff,if_true,if_false,hk,and_self]
 exact arrLe_of
theorem sl_one {E:Env} (x:Nm) (s o n:Nat) (c:Option Nat):((SC.sl x s o n c).den E).oneCell' = true:=rfl
def ir48:IR:=(.seq (.ops [⟨(some 6),(.mv (.k (.c (.v (.int .i64 0))))),none⟩]) (.kill [3,4,5,6,7,8,9,10,11] (.seq (.ops [⟨(some 9),(.mv (.t 0)),none⟩,⟨(some 10),(.nilck (.t 9)),none⟩,⟨(some 11),(.fa 0 (.t 10)),none⟩,⟨(some 12),(.ld false 1 (.t 11)),none⟩,⟨(some 13),(.mv (.t 2)),none⟩,⟨(some 14),(.ia 1 (.t 12) (.t 13)),none⟩,⟨(some 15),(.ld false 1 (.t 14)),none⟩,⟨(some 7),(.mv (.t 15)),none⟩]) (.kill [9,10,11,12,13,14,15] (.seq (.seq (.ops [⟨(some 8),(.mv (.k (.c (.v (.int .i64 0))))),none⟩]) (.blk 0 (.loop (.seq (.seq (.ops [⟨(some 16),(.mv (.t 8)),none⟩,⟨(some 17),(.mv (.t 0)),none⟩,⟨(some 18),(.nilck (.t 17)),none⟩,⟨(some 19),(.fa 3 (.t 18)),none⟩,⟨(some 20),(.ld false 1 (.t 19)),none⟩,⟨(some 21),(.mv (.t 1)),none⟩,⟨(some 22),(.ia 1 (.t 20) (.t 21)),none⟩,⟨(some 23),(.ld false 1 (.t 22)),none⟩,⟨(some 24),(.len (.t 23)),none⟩,⟨(some 25),(.bin .lss (.t 16) (.t 24)),none⟩]) (.kill [16,17,18,19,20,21,22,23,24,26,27,28,29,30,31,32,33,34,35,36,37,38,39,40,41,42,43,44,45,46,47,48,49,50,51] (.cond (.t 25) .skip (.exit 0)))) (.kill [25] (.seq (.blk 1 (.seq (.ops [⟨(some 28),(.mv (.t 0)),none⟩,⟨(some 29),(.nilck (.t 28)),none⟩,⟨(some 30),(.fa 3 (.t 29)),none⟩,⟨(some 31),(.ld false 1 (.t 30)),none⟩,⟨(some 32),(.mv (.t 1)),none⟩,⟨(some 33),(.ia 1 (.t 31) (.t 32)),none⟩,⟨(some 34),(.ld false 1 (.t 33)),none⟩,⟨(some 35),(.mv (.t 8)),none⟩,⟨(some 36),(.ia 2 (.t 34) (.t 35)),none⟩,⟨(some 37),(.fa 0 (.t 36)),none⟩,⟨(some 38),(.ld false 1 (.t 37)),none⟩,⟨(some 39),(.mv (.t 2)),none⟩,⟨(some 40),(.bin .eql (.t 38) (.t 39)),none⟩]) (.kill [28,29,30,31,32,33,34,35,36,37,38,39] (.cond (.t 40) (.ops [⟨(some 41),(.mv (.t 0)),none⟩,⟨(some 42),(.nilck (.t 41)),none⟩,⟨(some 43),(.fa 3 (.t 42)),none⟩,⟨(some 44),(.ld false 1 (.t 43)),none⟩,⟨(some 45),(.mv (.t 1)),none⟩,⟨(some 46),(.ia 1 (.t 44) (.t 45)),none⟩,⟨(some 47),(.ld false 1 (.t 46)),none⟩,⟨(some 48),(.mv (.t 8)),none⟩,⟨(some 49),(.ia 2 (.t 47) (.t 48)),none⟩,⟨(some 50),(.fa 1 (.t 49)),none⟩,⟨(some 51),(.ld false 1 (.t 50)),none⟩,⟨(some 7),(.mv (.t 51)),none⟩]) .skip)))) (.kill [28,29,30,31,32,33,34,35,36,37,38,39,40,41,42,43,44,45,46,47,48,49,50,51] (.ops [⟨(some 26),(.mv (.t 8)),none⟩,⟨(some 27),(.bin .add (.t 26) (.k (.c (.v (.int .i64 1))))),none⟩,⟨(some 8),(.mv (.t 27)),none⟩])))))))) (.kill [0,1,2,8,16,17,18,19,20,21,22,23,24,25,26,27,28,29,30,31,32,33,34,35,36,37,38,39,40,41,42,43,44,45,46,47,48,49,50,51] (.seq (.ops [⟨(some 52),(.mv (.t 7)),none⟩,⟨(some 6),(.mv (.t 52)),none⟩]) (.kill [7,52] .ret))))))))
def rs48:List RS:=[(.t 6)]
def nt48:Nat:=53
set_option maxRecDepth 100000 in
set_option maxHeartbeats 400000 in
theorem see_calls (w:World) (v:Value) (s:LS) (k:Nat) (addr:Int) (hk:k<s.bufs.length) (ha:0≤addr∧addr<s.words.length) (hb:(s.bufs.getD k []).length≤1000000) (h:SeeR w v s.words s.bufs) :
  Calls Try.prog 48 #[v,.int .i64 k,.int .i64 addr] w (RetV w (.int .i64 (seeS s k addr))):=by
 obtain ⟨b,off,vw,x1,x2,vb,rfl,hc,h1,vs,h2,h3,h4⟩:=h
 have o1:(vw.oneCell' = true∧x1.oneCell' = true)∧x2.oneCell' = true∧vb.oneCell' = true:=⟨⟨(hc 0 vw rfl).2,(hc 1 x1 rfl).2⟩,(hc 2 x2 rfl).2,(hc 3 vb rfl).2⟩
 refine enterL (c:=ir48) (rs:=rs48) (nt:=nt48) (A:=[]) [fun _=>.slice (some ⟨b,off,none⟩) 1 1,fun _=>vw,fun _=>x1,fun _=>x2,fun _=>vb,fun k=>vs.getD k nest0] ⟨fun _=>rfl,fun _=>o1.1.1,fun _=>o1.1.2,fun _=>o1.2.1,fun _=>o1.2.2,fun k=>?_,trivial⟩
  (arrs:=[(0,.one seF),(1,.one (arrOf eI 1 s.words 0)),(4,.one (nestF 5 s.bufs.length)),(5,.fam s.bufs.length fun k=>arrOf Pd.enc 2 (s.bufs.getD k []) pd0)]) ?_
  [.c (.ep (0,0,0) 4 0 0),.c (.v (.int .i64 k)),.c (.v (.int .i64 addr))] #[.pointer (some ⟨b,off,none⟩),.int .i64 k,.int .i64 addr] Try.func48 rfl (by kernel_rfl) (by kernel_rfl) rfl (fun E' hE'=>?_) (of_decide_eq_true rfl) ?_
 ·by_cases hk:k<s.bufs.length
  ·exact arr_one (h4 k hk)
  ·show (vs.getD k nest0).oneCell' = true
   rw [List.getD_eq_getElem?_getD,List.getElem?_eq_none (by omega)];rfl
 ·have hr:Reads w [fun _=>.slice (some ⟨b,off,none⟩) 1 1,fun _=>vw,fun _=>x1,fun _=>x2,fun _=>vb,fun k=>vs.getD k nest0] [(1,.one (arrOf eI 1 s.words 0)),(4,.one (nestF 5 s.bufs.length)),(5,.fam s.bufs.length fun k=>arrOf Pd.enc 2 (s.bufs.getD k []) pd0)] :=
   rd_one 1 0 eI_ok h1 (by simp) rfl (rd_nest 4 5 pd0 pd_ok h2 h3 h4 (by simp) (by simp) rfl (fun _=>rfl) rd_nil)
  intro E hE x A hA
  rcases atN_one hA with ⟨rfl,rfl⟩ | hA
  ·refine ⟨some ⟨b,off,none⟩,1,hE 0 0 0 (by simp),Nat.le_refl _,by simp [maxLen],Or.inr ⟨b,off,rfl,Nat.zero_le _,fun k hk=>⟨rfl,fun j u hu=>?_⟩⟩⟩
   have hk:k=0:=by have:k<1:=hk;omega
   subst hk
   have e1:=hE 1 0 0 (by simp);have e2:=hE 2 0 0 (by simp);have e3:=hE 3 0 0 (by simp);have e4:=hE 4 0 0 (by simp)
   have hd:([vw,x1,x2,vb]:List Value)[j]? = some (u.den E):=by
    have:([vw,x1,x2,vb]:List Value)=(seF.at_ 0).map (SC.den E):=by
     simp only [seF,List.map_cons,List.map_nil,SC.den,e1,e2,e3,e4];rfl
    rw [this,List.getElem?_map,hu];rfl
   have:=hc j _ hd
   rw [show off+0 * seF.size+j=off+j by omega]
   exact this
  ·exact hr E hE x A hA
 ·have e0:=hE' 0 0 0 (by simp)
  simp only [List.map_cons,List.map_nil,SV.den,SC.den,e0]
  simp
 simp (maxSteps:=2000000) only [ir48,nt48,rs48,go_sem,↓runOp,↓reduceIte,Nat.reduceLT,Nat.reduceAdd,Nat.reduceEqDiff,reduceCtorEq,seF_len,seF_size,seF_at,eI]
 refine And.intro ⟨ha.1,ha.2⟩ (And.intro (by omega) ?_)
 refine loopI (ι:={ i:Nat // i≤(s.bufs.getD k []).length }) (fun i=>⟨53,[(0,.c (.ep (0,0,0) 4 0 0)),(1,.c (.v (.int .i64 k))),(2,.c (.v (.int .i64 addr))),(7,.c (.v (.int .i64 (seeL (s.words.getD addr.toNat 0) addr ((s.bufs.getD k []).take i.1))))),(8,.c (.v (.int .i64 (i.1:Nat))))],[],seA s,[],6⟩)
  (fun i=>(s.bufs.getD k []).length - i.1) ⟨0,by omega⟩ (le_ren id rfl rfl (by simp [TmpsLe,look,SV.ren,SC.ren,idσ,SV.okN,SC.okN,seeL]) trivial (seA_le s) rfl) ?_
 rintro ⟨i,hi⟩
 simp (maxSteps:=2000000) only [go_sem,↓condS,↓exitS,↓runOp,↓reduceIte,Nat.reduceLT,Nat.reduceEqDiff,reduceCtorEq,seA,seF_len,seF_size,seF_at,Pd.enc]
 have htk:i<(s.bufs.getD k []).length→(s.bufs.getD k []).take (i+1)=(s.bufs.getD k []).take i++[(s.bufs.getD k []).getD i pd0]:=fun h=>by
  rw [List.take_succ_eq_append_getElem h,List.getD_eq_getElem?_getD (l:=s.bufs.getD k []),List.getElem?_eq_getElem h];rfl
 refine And.intro hk (And.intro hk (And.intro hk (both (fun hlt=>?_) (fun hge=>?_))))
 ·rw [decide_eq_true_eq] at hlt
  have hlt:i<(s.bufs.getD k []).length:=by omega
  have hst:=htk hlt
  have hki:k<s.bufs.length∧i<(s.bufs.getD k []).length:=⟨hk,hlt⟩
  refine And.intro hk (And.intro hk (And.intro hki (And.intro hki (And.intro hki (both (fun he=>?_) (fun he=>?_))))))
  ·have he:((s.bufs.getD k []).getD i pd0).addr=addr:=by simpa using he
   refine And.intro hk (And.intro hk (And.intro hki (And.intro hki (And.intro hki ?_))))
   rw [wr_succ (by omega)]
   exact backI ⟨i+1,hlt⟩ (by simp only;omega) (le_ren id rfl rfl (by simp only [TmpsLe,look,SV.ren,SC.ren,idσ,SV.okN,SC.okN,hst,seeL_app,seeL,if_pos he];simp) trivial (seA_le s) rfl)
  ·have he:¬ ((s.bufs.getD k []).getD i pd0).addr=addr:=by simpa using he
   rw [wr_succ (by omega)]
   exact backI ⟨i+1,hlt⟩ (by simp only;omega) (le_ren id rfl rfl (by simp only [TmpsLe,look,SV.ren,SC.ren,idσ,SV.okN,SC.okN,hst,seeL_app,seeL,if_neg he];simp) trivial (seA_le s) rfl)
 ·rw [decide_eq_false_iff_not] at hge
  have hin:i=(s.bufs.getD k []).length:=by omega
  subst hin
  exact retV fun E=>by simp [SV.den,SC.den,seeS]
theorem see_at {C:Ctx} {E:Env} {S:St} {a:Act} {w:World} (hs:Sat C.B C.W C.w0 E S a w) {s:LS} {c2 c3:SC} {ty t1 t2:Nat} (h5:look S.own 5=some (.one (.bk [.sl (6,0,0) 1 0 s.words.length none,c2,c3,.sl (9,0,0) 1 0 s.bufs.length none] ty))) (h6:look S.own 6=some (.one (.ar s.words.length 1 (ats eI s.words 0) t1)))
  (h9:look S.own 9=some (.one (.ar s.bufs.length 1 (bfC 10 s) t2))) (h10:look S.own 10=some (.fam s.bufs.length (bfO s))) (hc2:∀ E,(c2.den E).oneCell' = true) (hc3:∀ E,(c3.den E).oneCell' = true):SeeR w ((SC.ptr (5,0,0) 0).den E) s.words s.bufs:=by
 obtain ⟨H,hH,_⟩:=hs.mem
 have hat:atN S.own (5,0,0)=some (.bk [.sl (6,0,0) 1 0 s.words.length none,c2,c3,.sl (9,0,0) 1 0 s.bufs.length none] ty):=by simp [atN,h5,Fm.get]
 have hd:=hH.den _ _ hat
 simp only [Blk.den] at hd
 have hb:=(hH.sub _ _ hat (E.ρ (5,0,0)) _ (by rw [hd];simp [sing];rfl)).1
 refine ⟨E.ρ (5,0,0),0,(SC.sl (6,0,0) 1 0 s.words.length none).den E,c2.den E,c3.den E,(SC.sl (9,0,0) 1 0 s.bufs.length none).den E,rfl,fun j u hu=>?_,own_at (d:=0) hs 6 _ h6 rfl,nest_own (d:=pd0) hs (9,0,0) 10 _ rfl (bfC 10 s) (by simp [atN,h9,Fm.get];rfl) (fun _ _=>rfl) (fun k hk=>by simp [atN,h10,Fm.get,hk,bfO];rfl)⟩
 refine ⟨?_,?_⟩
 ·rw [cell_of_row w _ _ _ ty (0,0) hb,Nat.zero_add]
  simpa using hu
 ·match j,hu with
  | 0,hu=>cases hu;exact sl_one _ _ _ _ _
  | 1,hu=>cases hu;exact hc2 E
  | 2,hu=>cases hu;exact hc3 E
  | 3,hu=>cases hu;exact sl_one _ _ _ _ _
end Go.Proofs.Ytmcpdafmkkjlcaa.Z
namespace Go.Proofs.Ytmcpdafmkkjlcaa.Z
open Go Go.RowKit
def stE (b:Nat) (s:LS):Own:=[(5,.one (.bk (stC 6 s) 32)),(6,.one (.ar s.words.length 1 (ats eI s.words 0) 3)),(7,.one (.ar s.regs.length 4 (ats R4.enc s.regs r40) 68)),(8,.one (.ar s.places.length 1 (ats eI s.places 0) 3)),(9,.one (.ar s.bufs.length 1 (bfC b s) 86)),(b,.fam s.bufs.length (bfO s))]
def tnσ (τ:Nat→Nm) (b:Nat) (x:Nm):Nm:=if x.1=b then τ x.2.1 else x
theorem retTurn {P:Program} {w:World} {E:Env} {W:Nat→Prop} {rs:List RS} {u v:SV} {s:LS} {S2:St} (τ:Nat→Nm) {aw ar ap ab:Nat→List SC} (hf:AgF 11 E∈S2.facts) (hu:∀ E E',v.den E=u.den E')
  (h5:look S2.own 5=some (.one (.bk (stC 6 s) 32))) (h6:look S2.own 6=some (.one (.ar s.words.length 1 aw 3))) (e6:∀ e,e<s.words.length→aw e=ats eI s.words 0 e)
  (h7:look S2.own 7=some (.one (.ar s.regs.length 4 ar 68))) (e7:∀ e,e<s.regs.length→ar e=ats R4.enc s.regs r40 e) (h8:look S2.own 8=some (.one (.ar s.places.length 1 ap 3))) (e8:∀ e,e<s.places.length→ap e=ats eI s.places 0 e)
  (h9:look S2.own 9=some (.one (.ar s.bufs.length 1 ab 86))) (e9:∀ e,e<s.bufs.length→ab e=[.sl (τ e) 2 0 (s.bufs.getD e []).length none])
  (h10:∀ e,e<s.bufs.length→∃ m at_,atN S2.own (τ e)=some (.ar m 2 at_ 88)∧(s.bufs.getD e []).length≤m∧∀ i,i<(s.bufs.getD e []).length→at_ i=ats Pd.enc (s.bufs.getD e []) pd0 i)
  (hτ:∀ e e',e<s.bufs.length→e' < s.bufs.length→τ e=τ e'→e=e') (hτ2:∀ e,e<s.bufs.length→10≤(τ e).1) :
  RetVC (mkO P w W rs (EffR w E 11 W u 1 fun b=>killO [10]++stE b s)) v S2:=by
 have n5:∀ b i,11≤b→i<10→tnσ τ b (i,0,0)=(i,0,0):=fun b i hb hi=>by
  unfold tnσ;rw [if_neg (by simp only;omega)]
 refine retEff (tnσ τ) [10] (fun b=>stE b s) hf hu (fun b hb x hx=>?_) (fun b hb=>?_) (fun b hb=>?_)
 ·unfold tnσ;rw [if_neg (by omega)]
 ·have q:∀ i,i<10→(i<11∨NewIds b 1 i):=fun i hi=>Or.inl (by omega)
  have qb:(b<11∨NewIds b 1 b):=Or.inr ⟨Nat.le_refl _,Nat.lt_succ_self _⟩
  refine ⟨⟨q 5 (by decide),?_⟩,⟨q 6 (by decide),?_⟩,⟨q 7 (by decide),?_⟩,⟨q 8 (by decide),?_⟩,⟨q 9 (by decide),?_⟩,⟨qb,fun k hk=>?_⟩,trivial⟩
  ·simp only [n5 b 5 hb (by decide),atN,h5,Fm.get,and_self,if_true]
   refine ⟨?_,rfl,?_⟩
   ·simp only [stC,SC.renL,SC.ren,Nat.reduceAdd,n5 b 6 hb (by decide),n5 b 7 hb (by decide),n5 b 8 hb (by decide),n5 b 9 hb (by decide)]
   ·simp only [stC,SC.okL,SC.okN,Nat.reduceAdd,and_true]
    exact ⟨q 6 (by decide),q 7 (by decide),q 8 (by decide),q 9 (by decide)⟩
  ·simp only [n5 b 6 hb (by decide),atN,h6,Fm.get,and_self,if_true];exact arLe_of (Nat.le_refl _) e6
  ·simp only [n5 b 7 hb (by decide),atN,h7,Fm.get,and_self,if_true];exact arLe_of (Nat.le_refl _) e7
  ·simp only [n5 b 8 hb (by decide),atN,h8,Fm.get,and_self,if_true];exact arLe_of (Nat.le_refl _) e8
  ·simp only [n5 b 9 hb (by decide),atN,h9,Fm.get,and_self,if_true]
   refine ⟨Nat.le_refl _,rfl,rfl,fun e he=>⟨?_,?_⟩⟩
   ·rw [e9 e he];simp [bfC,SC.renL,SC.ren,tnσ]
   ·simp only [bfC,SC.okL,SC.okN,and_true];exact qb
  ·have e1:tnσ τ b (b,k,0)=τ k:=by simp [tnσ]
   obtain ⟨m,at_,g1,g2,g3⟩:=h10 k hk
   rw [e1,g1]
   exact arLe_of g2 g3
 ·intro x y c d hx hy e
  have hx2:∀ z c,atN (stE b s) z=some c→(z.1<10∧z.1≠b)∨∃ k,k<s.bufs.length∧z=(b,k,0):=fun z c hz=>by
   simp only [stE] at hz
   rcases atN_one hz with ⟨rfl,rfl⟩ | hz
   ·left;simp only;omega
   rcases atN_one hz with ⟨rfl,rfl⟩ | hz
   ·left;simp only;omega
   rcases atN_one hz with ⟨rfl,rfl⟩ | hz
   ·left;simp only;omega
   rcases atN_one hz with ⟨rfl,rfl⟩ | hz
   ·left;simp only;omega
   rcases atN_one hz with ⟨rfl,rfl⟩ | hz
   ·left;simp only;omega
   rcases atN_fam hz with ⟨k,hk,rfl,rfl⟩ | hz
   ·exact Or.inr ⟨k,hk,rfl⟩
   ·exact (atN_nil hz).elim
  rcases hx2 x c hx with ⟨a1,a2⟩ | ⟨k,hk,rfl⟩
  ·rcases hx2 y d hy with ⟨b1,b2⟩ | ⟨k',hk',rfl⟩
   ·unfold tnσ at e;rw [if_neg a2,if_neg b2] at e;exact e
   ·unfold tnσ at e;rw [if_neg a2,if_pos rfl] at e
    have:=hτ2 k' hk'
    rw [← e] at this;omega
  ·rcases hx2 y d hy with ⟨b1,b2⟩ | ⟨k',hk',rfl⟩
   ·unfold tnσ at e;rw [if_neg b2,if_pos rfl] at e
    have:=hτ2 k hk
    rw [e] at this;omega
   ·unfold tnσ at e;rw [if_pos rfl,if_pos rfl] at e
    rw [hτ k k' hk hk' e]
theorem set_atsT {α:Type} {enc:α→List Value} {xs:List α} {d:α} {k:Nat} {c:α} (hk:k<xs.length):setAt k (ats enc xs d) ((enc c).map .v)=ats enc (xs.set k c) d:=by
 funext e
 simp only [setAt,ats]
 rw [List.getD_eq_getElem?_getD,List.getD_eq_getElem?_getD,List.getElem?_set]
 by_cases h:e=k
 ·subst h;rw [if_pos rfl,if_pos rfl,if_pos hk];rfl
 ·rw [if_neg h,if_neg (fun q=>h q.symm)]
theorem retTurnL {P:Program} {w:World} {E:Env} {W:Nat→Prop} {rs:List RS} {u v:SV} {s s0:LS} {S2:St} (τ:Nat→Nm) {aw ar ap ab:Nat→List SC} (hf:AgF 11 E∈S2.facts) (hu:∀ E E',v.den E=u.den E')
  (lw:s.words.length=s0.words.length) (lr:s.regs.length=s0.regs.length) (lp:s.places.length=s0.places.length) (lb:s.bufs.length=s0.bufs.length)
  (h5:look S2.own 5=some (.one (.bk (stC 6 s0) 32))) (h6:look S2.own 6=some (.one (.ar s0.words.length 1 aw 3))) (e6:∀ e,e<s0.words.length→aw e=ats eI s.words 0 e)
  (h7:look S2.own 7=some (.one (.ar s0.regs.length 4 ar 68))) (e7:∀ e,e<s0.regs.length→ar e=ats R4.enc s.regs r40 e) (h8:look S2.own 8=some (.one (.ar s0.places.length 1 ap 3))) (e8:∀ e,e<s0.places.length→ap e=ats eI s.places 0 e)
  (h9:look S2.own 9=some (.one (.ar s0.bufs.length 1 ab 86))) (e9:∀ e,e<s0.bufs.length→ab e=[.sl (τ e) 2 0 (s.bufs.getD e []).length none])
  (h10:∀ e,e<s0.bufs.length→∃ m at_,atN S2.own (τ e)=some (.ar m 2 at_ 88)∧(s.bufs.getD e []).length≤m∧∀ i,i<(s.bufs.getD e []).length→at_ i=ats Pd.enc (s.bufs.getD e []) pd0 i)
  (hτ:∀ e e',e<s0.bufs.length→e' < s0.bufs.length→τ e=τ e'→e=e') (hτ2:∀ e,e<s0.bufs.length→10≤(τ e).1) :
  RetVC (mkO P w W rs (EffR w E 11 W u 1 fun b=>killO [10]++stE b s)) v S2:=by
 rw [← lw] at h6 e6;rw [← lr] at h7 e7;rw [← lp] at h8 e8;rw [← lb] at h9 e9 h10 hτ hτ2
 refine retTurn τ hf hu ?_ h6 e6 h7 e7 h8 e8 h9 e9 h10 hτ hτ2
 rw [h5]
 simp only [stC,lw,lr,lp,lb]
def tau1 (k j:Nat) (e:Nat):Nm:=if e=k then (j,0,0) else (10,e,0)
theorem tau1_inj {k j:Nat} (hj:j≠10) {e e' : Nat} (h:tau1 k j e=tau1 k j e'):e=e':=by
 unfold tau1 at h
 split at h <;> split at h <;> simp at h <;> omega
theorem tau1_ge {k j:Nat} (hj:10≤j) (e:Nat):10≤(tau1 k j e).1:=by
 unfold tau1;split <;> simp <;> omega
theorem one_h10 {own:Own} {s:LS} {k j:Nat} {L' : List Pd} {F:Nat→Blk} (hk:k<s.bufs.length) (hfam:look own 10=some (.fam s.bufs.length F)) (hF:∀ e,e≠k→F e=bfO s e) {m:Nat} {at_:Nat→List SC} (hat:look own j=some (.one (.ar m 2 at_ 88))) (hl:L'.length≤m) (ha:∀ i,i<L'.length→at_ i=ats Pd.enc L' pd0 i) :
  ∀ e,e<s.bufs.length→∃ m at_,atN own (tau1 k j e)=some (.ar m 2 at_ 88)∧((s.bufs.set k L').getD e []).length≤m∧∀ i,i<((s.bufs.set k L').getD e []).length→at_ i=ats Pd.enc ((s.bufs.set k L').getD e []) pd0 i:=by
 intro e he
 rw [getD_setE]
 unfold tau1
 by_cases h:e=k
 ·subst h
  rw [if_pos rfl,if_pos ⟨rfl,he⟩]
  exact ⟨m,at_,by simp [atN,hat,Fm.get],hl,ha⟩
 ·rw [if_neg h,if_neg (fun q=>h q.1.symm)]
  exact ⟨_,_,by simp [atN,hfam,Fm.get,he,hF e h,bfO],Nat.le_refl _,fun _ _=>rfl⟩
theorem one_e9 {s:LS} {k j n:Nat} {L' : List Pd} (hk:k<s.bufs.length) (hn:n=L'.length):∀ e,e<s.bufs.length→setAt k (bfC 10 s) [.sl (j,0,0) 2 0 n none] e=[.sl (tau1 k j e) 2 0 ((s.bufs.set k L').getD e []).length none]:=by
 intro e he
 subst hn
 rw [getD_setE]
 unfold tau1 setAt
 by_cases h:e=k
 ·subst h
  rw [if_pos rfl,if_pos rfl,if_pos ⟨rfl,he⟩]
 ·rw [if_neg h,if_neg h,if_neg (fun q=>h q.1.symm)]
  rfl
theorem erase_at {l:List Pd} {i j:Nat}:(l.eraseIdx i).getD j pd0=if j<i then l.getD j pd0 else l.getD (j+1) pd0:=by
 rw [List.getD_eq_getElem?_getD,List.getElem?_eraseIdx]
 split
 ·rw [List.getD_eq_getElem?_getD]
 ·rw [List.getD_eq_getElem?_getD]
theorem retTurnA {P:Program} {w:World} {E:Env} {W:Nat→Prop} {rs:List RS} {u v:SV} {s:LS} {S2:St} {k j:Nat} {x:Pd} {pl:List Int} {F:Nat→Blk} {g:Nat→List SC} {ap:Nat→List SC} (hk:k<s.bufs.length) (hj:10<j) (hf:AgF 11 E∈S2.facts) (hu:∀ E E',v.den E=u.den E') (hpl:pl.length=s.places.length)
  (h5:look S2.own 5=some (.one (.bk (stC 6 s) 32))) (h6:look S2.own 6=some (.one (.ar s.words.length 1 (ats eI s.words 0) 3))) (h7:look S2.own 7=some (.one (.ar s.regs.length 4 (ats R4.enc s.regs r40) 68)))
  (h8:look S2.own 8=some (.one (.ar s.places.length 1 ap 3))) (e8:ap=ats eI pl 0)
  (h9:look S2.own 9=some (.one (.ar s.bufs.length 1 (setAt k (bfC 10 s) [.sl (j,0,0) 2 0 ((s.bufs.getD k []).length+1) none]) 86))) (h10:look S2.own 10=some (.fam s.bufs.length F)) (hF:∀ e,e≠k→F e=bfO s e)
  (h11:look S2.own j=some (.one (.ar ((s.bufs.getD k []).length+1) 2 (appAt (s.bufs.getD k []).length (ats Pd.enc (s.bufs.getD k []) pd0) g) 88))) (hg:g 0=x.enc.map .v) :
  RetVC (mkO P w W rs (EffR w E 11 W u 1 fun b=>killO [10]++stE b ⟨s.words,s.regs,pl,s.bufs.set k (s.bufs.getD k []++[x])⟩)) v S2:=by
 refine retTurnL (s:=⟨s.words,s.regs,pl,s.bufs.set k (s.bufs.getD k []++[x])⟩) (s0:=s) (tau1 k j) hf hu rfl rfl hpl (by simp) h5 h6 (fun _ _=>rfl) h7 (fun _ _=>rfl) h8 (fun e _=>by rw [e8]) h9 (one_e9 hk (by simp)) (one_h10 hk h10 hF h11 (by simp) fun i hi=>?_) (fun _ _ _ _ h=>tau1_inj (by omega) h) (fun e _=>tau1_ge (by omega) e)
 exact ats_push (d:=pd0) rfl rfl (fun _ _=>rfl) hg i hi
theorem retTurn0 {P:Program} {w:World} {E:Env} {W:Nat→Prop} {rs:List RS} {u v:SV} {s:LS} {S2:St} (hf:AgF 11 E∈S2.facts) (hu:∀ E E',v.den E=u.den E') (h5:look S2.own 5=some (.one (.bk (stC 6 s) 32))) (h6:look S2.own 6=some (.one (.ar s.words.length 1 (ats eI s.words 0) 3))) (h7:look S2.own 7=some (.one (.ar s.regs.length 4 (ats R4.enc s.regs r40) 68)))
  (h8:look S2.own 8=some (.one (.ar s.places.length 1 (ats eI s.places 0) 3))) (h9:look S2.own 9=some (.one (.ar s.bufs.length 1 (bfC 10 s) 86))) (h10:look S2.own 10=some (.fam s.bufs.length (bfO s))):RetVC (mkO P w W rs (EffR w E 11 W u 1 fun b=>killO [10]++stE b s)) v S2 :=
 retTurn (fun e=>(10,e,0)) hf hu h5 h6 (fun _ _=>rfl) h7 (fun _ _=>rfl) h8 (fun _ _=>rfl) h9 (fun _ _=>rfl) (fun e he=>⟨_,_,by simp [atN,h10,Fm.get,he,bfO],Nat.le_refl _,fun _ _=>rfl⟩) (fun e e' _ _ h=>by simpa using h) (fun e _=>Nat.le_refl _)
theorem retTurnP {P:Program} {w:World} {E:Env} {W:Nat→Prop} {rs:List RS} {u v:SV} {s s0:LS} {S2:St} {aw ar ap:Nat→List SC} (hf:AgF 11 E∈S2.facts) (hu:∀ E E',v.den E=u.den E')
  (lw:s.words.length=s0.words.length) (lr:s.regs.length=s0.regs.length) (lp:s.places.length=s0.places.length) (lb:s.bufs=s0.bufs)
  (h5:look S2.own 5=some (.one (.bk (stC 6 s0) 32))) (h6:look S2.own 6=some (.one (.ar s0.words.length 1 aw 3))) (e6:aw=ats eI s.words 0)
  (h7:look S2.own 7=some (.one (.ar s0.regs.length 4 ar 68))) (e7:ar=ats R4.enc s.regs r40) (h8:look S2.own 8=some (.one (.ar s0.places.length 1 ap 3))) (e8:ap=ats eI s.places 0)
  (h9:look S2.own 9=some (.one (.ar s0.bufs.length 1 (bfC 10 s0) 86))) (h10:look S2.own 10=some (.fam s0.bufs.length (bfO s0))) :
  RetVC (mkO P w W rs (EffR w E 11 W u 1 fun b=>killO [10]++stE b s)) v S2 :=
 retTurnL (s0:=s0) (fun e=>(10,e,0)) hf hu lw lr lp (by rw [lb]) h5 h6 (fun e _=>by rw [e6]) h7 (fun e _=>by rw [e7]) h8 (fun e _=>by rw [e8]) h9 (fun e _=>by rw [lb];rfl) (fun e he=>⟨(s0.bufs.getD e []).length,ats Pd.enc (s0.bufs.getD e []) pd0,by simp [atN,h10,Fm.get,he,bfO],by rw [lb];exact Nat.le_refl _,fun _ _=>by rw [lb]⟩) (fun e e' _ _ h=>by simpa using h) (fun e _=>Nat.le_refl _)
theorem fI_some {o addr:Int} {l:List Pd} {i:Nat} (hi:i<l.length) (h:hitB o addr (l.getD i pd0)=true) (hn:∀ j,j<i→hitB o addr (l.getD j pd0)=false):l.findIdx? (hitB o addr)=some i:=by
 rw [List.findIdx?_eq_some_iff_getElem]
 refine ⟨hi,by rw [List.getD_eq_getElem?_getD,List.getElem?_eq_getElem hi] at h;exact h,fun j hj=>?_⟩
 have:=hn j hj
 rw [List.getD_eq_getElem?_getD,List.getElem?_eq_getElem (by omega)] at this
 simpa using this
theorem fI_none {o addr:Int} {l:List Pd} (hn:∀ j,j<l.length→hitB o addr (l.getD j pd0)=false):l.findIdx? (hitB o addr)=none:=by
 rw [List.findIdx?_eq_none_iff]
 intro x hx
 obtain ⟨j,hj,rfl⟩:=List.getElem_of_mem hx
 have:=hn j hj
 rw [List.getD_eq_getElem?_getD,List.getElem?_eq_getElem hj] at this
 exact this
def ir47:IR:=(.seq (.ops [⟨(some 8),(.mv (.k (.c (.v (.bool false))))),none⟩]) (.kill [4,5,6,7,8,9,10,11] (.seq (.seq (.ops [⟨(some 9),(.mv (.k (.c (.v (.int .i64 0))))),none⟩]) (.blk 0 (.loop (.seq (.seq (.ops [⟨(some 12),(.mv (.t 9)),none⟩,⟨(some 13),(.mv (.t 1)),none⟩,⟨(some 14),(.nilck (.t 13)),none⟩,⟨(some 15),(.fa 3 (.t 14)),none⟩,⟨(some 16),(.ld false 1 (.t 15)),none⟩,⟨(some 17),(.mv (.t 2)),none⟩,⟨(some 18),(.ia 1 (.t 16) (.t 17)),none⟩,⟨(some 19),(.ld false 1 (.t 18)),none⟩,⟨(some 20),(.len (.t 19)),none⟩,⟨(some 21),(.bin .lss (.t 12) (.t 20)),none⟩,⟨(some 22),(.mv (.t 21)),none⟩,⟨(some 23),(.mv (.t 0)),(some (22,true))⟩,⟨(some 24),(.bin .neq (.t 23) (.k (.c (.v (.int .i64 1))))),(some (22,true))⟩,⟨(some 25),(.pick (.t 22) (.t 24) (.k (.c (.v (.bool false))))),none⟩]) (.kill [8,10,11,12,13,14,15,16,17,18,19,20,21,22,23,24,26,27,28,29,30,31,32,33,34,35,36,37,38,39,40,41,42,43,44,45,46,47,48,49,50,51,52,53,54,55,56,57,58,59,60,61,62,63,64,65,66,67,68,69,70,71,72,73,74,75,76,77,78,79,80,81,82,83] (.cond (.t 25) .skip (.exit 0)))) (.kill [25] (.seq (.blk 1 (.seq (.ops [⟨(some 28),(.mv (.t 1)),none⟩,⟨(some 29),(.nilck (.t 28)),none⟩,⟨(some 30),(.fa 3 (.t 29)),none⟩,⟨(some 31),(.ld false 1 (.t 30)),none⟩,⟨(some 32),(.mv (.t 2)),none⟩,⟨(some 33),(.ia 1 (.t 31) (.t 32)),none⟩,⟨(some 34),(.ld false 1 (.t 33)),none⟩,⟨(some 35),(.mv (.t 9)),none⟩,⟨(some 36),(.ia 2 (.t 34) (.t 35)),none⟩,⟨(some 37),(.ld true 2 (.t 36)),none⟩,⟨(some 10),(.new 88 [(.v (.int .i64 0)),(.v (.int .i64 0))]),none⟩,⟨none,(.st 2 (.t 10) (.t 37)),none⟩]) (.kill [28,29,30,31,32,33,34,35,36,37] (.seq (.seq (.ops [⟨(some 38),(.mv (.t 0)),none⟩,⟨(some 39),(.bin .eql (.t 38) (.k (.c (.v (.int .i64 3))))),none⟩,⟨(some 40),(.mv (.t 39)),none⟩,⟨(some 41),(.fa 0 (.t 10)),(some (40,true))⟩,⟨(some 42),(.ld false 1 (.t 41)),(some (40,true))⟩,⟨(some 43),(.mv (.t 3)),(some (40,true))⟩,⟨(some 44),(.bin .neq (.t 42) (.t 43)),(some (40,true))⟩,⟨(some 45),(.pick (.t 40) (.t 44) (.k (.c (.v (.bool false))))),none⟩]) (.kill [38,39,40,41,42,43,44] (.cond (.t 45) (.exit 1) .skip))) (.kill [0,3,45] (.seq (.draw [(⟨(some 46),(.mv (.t 1)),none⟩,([],[50,51,52,53])),(⟨(some 47),(.nilck (.t 46)),none⟩,([],[50,51,52,53])),(⟨(some 48),(.fa 0 (.t 47)),none⟩,([],[50,51,52,53])),(⟨(some 49),(.ld false 1 (.t 48)),none⟩,([],[50,51,52,53])),(⟨(some 50),(.fa 0 (.t 10)),none⟩,([0,1,2,3],[46,47,48,49,52,53])),(⟨(some 51),(.ld false 1 (.t 50)),none⟩,([0,1,2,3],[46,47,48,49,52,53])),(⟨(some 52),(.fa 1 (.t 10)),none⟩,([0,1,2,3,4,5],[46,47,48,49,50,51])),(⟨(some 53),(.ld false 1 (.t 52)),none⟩,([0,1,2,3,4,5],[46,47,48,49,50,51])),(⟨(some 54),(.ia 1 (.t 49) (.t 51)),none⟩,([],[])),(⟨none,(.st 1 (.t 54) (.t 53)),none⟩,([],[]))]) (.kill [10,46,47,48,49,50,51,52,53,54] (.seq (.ops [⟨(some 11),(.mv (.k (.c (.v (.slice none 0 0))))),none⟩]) (.seq (.ops [⟨(some 55),(.mv (.t 11)),none⟩,⟨(some 56),(.mv (.t 1)),none⟩,⟨(some 57),(.nilck (.t 56)),none⟩,⟨(some 58),(.fa 3 (.t 57)),none⟩,⟨(some 59),(.ld false 1 (.t 58)),none⟩,⟨(some 60),(.mv (.t 2)),none⟩,⟨(some 61),(.ia 1 (.t 59) (.t 60)),none⟩,⟨(some 62),(.ld false 1 (.t 61)),none⟩,⟨(some 63),(.mv (.t 9)),none⟩,⟨(some 64),(.slc 2 (.t 62) none (some (.t 63)) none),none⟩,⟨(some 65),(.app 88 2 16 [(.v (.int .i64 0)),(.v (.int .i64 0))] (.t 55) (.t 64)),none⟩,⟨(some 11),(.mv (.t 65)),none⟩]) (.kill [55,56,57,58,59,60,61,62,63,64,65] (.seq (.draw [(⟨(some 66),(.mv (.t 1)),none⟩,([],[70,71,72,73,74,75,76,77,78,79,80,81,82])),(⟨(some 67),(.nilck (.t 66)),none⟩,([],[70,71,72,73,74,75,76,77,78,79,80,81,82])),(⟨(some 68),(.fa 3 (.t 67)),none⟩,([],[70,71,72,73,74,75,76,77,78,79,80,81,82])),(⟨(some 69),(.ld false 1 (.t 68)),none⟩,([],[70,71,72,73,74,75,76,77,78,79,80,81,82])),(⟨(some 70),(.mv (.t 2)),none⟩,([0,1,2,3],[66,67,68,69,71,72,73,74,75,76,77,78,79,80,81,82])),(⟨(some 71),(.mv (.t 11)),none⟩,([0,1,2,3,4],[66,67,68,69,70,72,73,74,75,76,77,78,79,80,81])),(⟨(some 72),(.mv (.t 1)),none⟩,([0,1,2,3,4,5],[66,67,68,69,70,71,76,79,80])),(⟨(some 73),(.nilck (.t 72)),none⟩,([0,1,2,3,4,5],[66,67,68,69,70,71,76,79,80])),(⟨(some 74),(.fa 3 (.t 73)),none⟩,([0,1,2,3,4,5],[66,67,68,69,70,71,76,79,80])),(⟨(some 75),(.ld false 1 (.t 74)),none⟩,([0,1,2,3,4,5],[66,67,68,69,70,71,76,79,80])),(⟨(some 76),(.mv (.t 2)),none⟩,([0,1,2,3,4,5,6,7,8,9],[66,67,68,69,70,71,72,73,74,75,79,80])),(⟨(some 77),(.ia 1 (.t 75) (.t 76)),none⟩,([0,1,2,3,4,5],[66,67,68,69,70,71,79,80])),(⟨(some 78),(.ld false 1 (.t 77)),none⟩,([0,1,2,3,4,5],[66,67,68,69,70,71,79,80])),(⟨(some 79),(.mv (.t 9)),none⟩,([0,1,2,3,4,5,6,7,8,9,10,11,12],[66,67,68,69,70,71,72,73,74,75,76,77,78])),(⟨(some 80),(.bin .add (.t 79) (.k (.c (.v (.int .i64 1))))),none⟩,([0,1,2,3,4,5,6,7,8,9,10,11,12],[66,67,68,69,70,71,72,73,74,75,76,77,78])),(⟨(some 81),(.slc 2 (.t 78) (some (.t 80)) none none),none⟩,([0,1,2,3,4,5],[66,67,68,69,70,71])),(⟨(some 82),(.app 88 2 16 [(.v (.int .i64 0)),(.v (.int .i64 0))] (.t 71) (.t 81)),none⟩,([0,1,2,3,4],[66,67,68,69,70])),(⟨(some 83),(.ia 1 (.t 69) (.t 70)),none⟩,([],[])),(⟨none,(.st 1 (.t 83) (.t 82)),none⟩,([],[]))]) (.kill [1,2,9,11,66,67,68,69,70,71,72,73,74,75,76,77,78,79,80,81,82,83] (.seq (.ops [⟨(some 8),(.mv (.k (.c (.v (.bool true))))),none⟩]) .ret))))))))))))) (.kill [8,10,11,28,29,30,31,32,33,34,35,36,37,38,39,40,41,42,43,44,45,46,47,48,49,50,51,52,53,54,55,56,57,58,59,60,61,62,63,64,65,66,67,68,69,70,71,72,73,74,75,76,77,78,79,80,81,82,83] (.ops [⟨(some 26),(.mv (.t 9)),none⟩,⟨(some 27),(.bin .add (.t 26) (.k (.c (.v (.int .i64 1))))),none⟩,⟨(some 9),(.mv (.t 27)),none⟩])))))))) (.kill [0,1,2,3,8,9,10,11,12,13,14,15,16,17,18,19,20,21,22,23,24,25,26,27,28,29,30,31,32,33,34,35,36,37,38,39,40,41,42,43,44,45,46,47,48,49,50,51,52,53,54,55,56,57,58,59,60,61,62,63,64,65,66,67,68,69,70,71,72,73,74,75,76,77,78,79,80,81,82,83] (.seq (.ops [⟨(some 8),(.mv (.k (.c (.v (.bool false))))),none⟩]) .ret)))))
def rs47:List RS:=[(.t 8)]
def nt47:Nat:=84
set_option maxRecDepth 100000 in
set_option maxHeartbeats 400000 in
theorem rout_own (w:World) (E:Env) (o:Int) (s:LS) (k:Nat) (addr:Int) (hk:k<s.bufs.length) (hpd:∀ p∈s.bufs.getD k [],0≤p.addr∧p.addr<s.words.length) (hb:(s.bufs.getD k []).length≤1000000) (h:Handed w E 11 (stP s) []) :
  Calls Try.prog 47 (([.c (.v (.int .i64 o)),.c (.ptr (5,0,0) 0),.c (.v (.int .i64 k)),.c (.v (.int .i64 addr))]:List SV).map (SV.den E)).toArray w (EffR w E 11 (takesO E (stP s)) (.c (.bo (outS o s k addr).2)) 1 fun b=>killO [10]++stE b (outS o s k addr).1):=by
 refine enterO (c:=ir47) (rs:=rs47) (nt:=nt47) h _ Try.func47 rfl (by kernel_rfl) (by kernel_rfl) rfl (by simp [okVs,SV.okN,SC.okN]) (of_decide_eq_true rfl) ?_
 generalize hR:EffR w E 11 (takesO E (stP s)) (.c (.bo (outS o s k addr).2)) 1 (fun b=>killO [10]++stE b (outS o s k addr).1)=R
 generalize hW:takesO E (stP s)=W
 simp (maxSteps:=2000000) only [ir47,nt47,rs47,go_sem,↓runOp,↓reduceIte,Nat.reduceLT,Nat.reduceAdd,Nat.reduceEqDiff,reduceCtorEq]
 refine loopI (ι:={ i:Nat // i≤(s.bufs.getD k []).length∧∀ j,j<i→o≠1∧hitB o addr ((s.bufs.getD k []).getD j pd0)=false }) (fun i=>⟨84,[(0,.c (.v (.int .i64 o))),(1,.c (.ptr (5,0,0) 0)),(2,.c (.v (.int .i64 k))),(3,.c (.v (.int .i64 addr))),(9,.c (.v (.int .i64 (i.1:Nat))))],stP s,[],[AgF 11 E],11⟩)
  (fun i=>(s.bufs.getD k []).length - i.1) ⟨0,by omega,fun j h=>by omega⟩ ?_ ?_
 ·exact le_renF id rfl (facts_id List.mem_cons_self (Nat.le_refl _) fun _ _=>rfl) (by simp [TmpsLe,look,SV.ren,SC.ren,idσ,SV.okN,SC.okN]) (stP_le (fun i h=>h) (fun _ _=>rfl) rfl rfl rfl rfl rfl rfl) trivial (of_decide_eq_true rfl)
 rintro ⟨i,hi,hij⟩
 simp (maxSteps:=2000000) only [go_sem,↓condS,↓exitS,↓gateS,↓runOp,↓reduceIte,Nat.reduceLT,Nat.reduceLeDiff,Nat.reduceAdd,Nat.reduceEqDiff,reduceCtorEq,stP,stO,stC,bfC,bfO,ats,Pd.enc]
 refine And.intro ⟨hk,Nat.le_refl _⟩ (And.intro hk (both (fun hc=>?_) (fun hc=>?_)))
 ·have hc:i<(s.bufs.getD k []).length∧o≠1:=by
   by_cases h:i<(s.bufs.getD k []).length
   ·rw [decide_eq_true h] at hc;exact ⟨h,by simpa using hc⟩
   ·rw [decide_eq_false h] at hc;simp at hc
  obtain ⟨hlt,ho⟩:=hc
  have hp:=hpd _ (getD_memE (d:=pd0) hlt)
  have hht:∀ q:Pd,(if (o == 3)=true then (q.addr != addr) else false) = !(hitB o addr q):=fun q=>by
   unfold hitB
   by_cases e1:o=3 <;> by_cases e2:q.addr=addr <;> simp [e1,e2]
  rw [hht]
  generalize hpi:(s.bufs.getD k []).getD i pd0=pi at hp
  refine And.intro ⟨hk,Nat.le_refl _⟩ (And.intro hk (And.intro ⟨hk,hlt,Nat.le_refl _⟩ (And.intro ⟨hk,hlt⟩ (both (fun hh=>?_) (fun hh=>?_)))))
  ·have hh:hitB o addr pi=false:=by simpa using hh
   rw [wr_succ (by omega)]
   refine backI ⟨i+1,hlt,fun j hj=>?_⟩ (by simp only;omega) (le_renF id rfl (facts_id List.mem_cons_self (Nat.le_refl _) fun _ _=>rfl) (by simp [TmpsLe,look,SV.ren,SC.ren,idσ,SV.okN,SC.okN]) (stP_le (fun i h=>h) (fun _ _=>rfl) rfl rfl rfl rfl rfl rfl) trivial (of_decide_eq_true rfl))
   by_cases e:j=i
   ·subst e;exact ⟨ho,by rw [hpi];exact hh⟩
   ·exact hij j (by omega)
  ·have hh:hitB o addr pi=true:=by simpa using hh
   have hfi:=fI_some hlt (by rw [hpi];exact hh) (fun j hj=>(hij j hj).2)
   have hout:outS o s k addr=({ s with words:=s.words.set pi.addr.toNat pi.val,bufs:=s.bufs.set k ((s.bufs.getD k []).eraseIdx i) },true):=by
    unfold outS;rw [if_neg ho,hfi];simp only [hpi]
   refine draw_vc (by kernel_rfl) (mkTab_ok _ _) (of_decide_eq_true rfl) (of_decide_eq_true rfl) ?_
   repeat (first | simp (maxSteps:=2000000) only [go_sem,↓runOp,↓gateD,↓runD,↓reduceIte,Nat.reduceLT,Nat.reduceLeDiff,Nat.reduceAdd,Nat.reduceMul,Nat.reduceEqDiff,reduceCtorEq,Int.reduceToNat,Int.reduceLT,Int.reduceLE,endO,eI,ats,bfC,bfO,Pd.enc] | rw [dr_cons])
   have hbi:i≤1000000:=by omega
   refine And.intro ⟨hp.1,hp.2,Nat.le_refl _⟩ (And.intro (by omega) (And.intro (by simp) (And.intro ⟨hk,Nat.le_refl _⟩ (And.intro hk (And.intro ⟨hk,by omega,Or.inr trivial⟩ (And.intro ⟨⟨hk,by omega⟩,by omega,by simp only [maxLen];omega⟩ ?_))))))
   have hwr:IntKind.i64.wrap ((i:Int)+1)=((i+1:Nat):Int):=wr_succ (by omega)
   refine draw_vc (by kernel_rfl) (mkTab_ok _ _) (of_decide_eq_true rfl) (of_decide_eq_true rfl) ?_
   repeat (first | simp (maxSteps:=2000000) only [go_sem,↓runOp,↓gateD,↓runD,↓reduceIte,Nat.reduceLT,Nat.reduceLeDiff,Nat.reduceAdd,Nat.reduceEqDiff,reduceCtorEq,endO,ats,bfC,bfO,Pd.enc,mkO_rs,hwr] | rw [dr_cons])
   refine And.intro ⟨hk,Nat.le_refl _⟩ (And.intro hk ?_)
   have hel:((s.bufs.getD k []).eraseIdx i).length=(s.bufs.getD k []).length - 1:=by rw [List.length_eraseIdx,if_pos hlt]
   have e6:∀ e,e<s.words.length→setAt pi.addr.toNat (ats eI s.words 0) [.v (.int .i64 pi.val)] e=ats eI (s.words.set pi.addr.toNat pi.val) 0 e:=fun e _=>congrFun (set_atsT (enc:=eI) (c:=pi.val) (show pi.addr.toNat<s.words.length by omega)) e
   refine ⟨fun hfull=>?_,fun hnf=>?_⟩
   ·refine And.intro ⟨hk,Nat.le_refl _⟩ (And.intro ⟨Nat.le_refl _,by omega,by simp only [maxLen];omega⟩ (And.intro (by simp) (And.intro ⟨hk,Nat.le_refl _⟩ (And.intro hk (And.intro (by simp) ?_)))))
    have hfl:i+1=(s.bufs.getD k []).length:=by have:=hfull.1;omega
    rw [← hR,← hW,hout]
    refine retTurnL (s0:=s) (tau1 k 14) List.mem_cons_self (fun E E'=>by simp [SV.den,SC.den]) (by simp) rfl rfl (by simp) rfl rfl e6 rfl (fun _ _=>rfl) rfl (fun _ _=>rfl) rfl (one_e9 hk (by rw [hel];omega)) (one_h10 hk rfl (fun _ _=>rfl) rfl (by rw [hel];omega) fun e he=>?_) (fun _ _ _ _ h=>tau1_inj (by decide) h) (fun e _=>tau1_ge (by decide) e)
    rw [hel] at he
    simp only [appAt,ats,erase_at]
    rw [if_pos (by omega),if_pos (by omega)]
    rfl
   ·refine And.intro ⟨hk,by omega,by omega,Or.inl (by omega),fun _=>Nat.le_refl _⟩ (And.intro ⟨⟨hk,by omega⟩,Nat.le_refl _,by omega,by simp only [maxLen];omega⟩ (And.intro (by simp) (And.intro ⟨hk,Nat.le_refl _⟩ (And.intro hk (And.intro (by simp) ?_)))))
    rw [← hR,← hW,hout]
    refine retTurnL (s0:=s) (tau1 k 13) List.mem_cons_self (fun E E'=>by simp [SV.den,SC.den]) (by simp) rfl rfl (by simp) rfl rfl e6 rfl (fun _ _=>rfl) rfl (fun _ _=>rfl) rfl (one_e9 hk (by rw [hel];omega)) (one_h10 hk rfl (fun _ _=>rfl) rfl (by rw [hel];omega) fun e he=>?_) (fun _ _ _ _ h=>tau1_inj (by decide) h) (fun e _=>tau1_ge (by decide) e)
    rw [hel] at he
    simp only [appAt,ats,erase_at]
    by_cases h:e<i
    ·rw [if_pos h,if_pos h];rfl
    ·rw [if_neg h,if_neg h,show i+1+(e - i)=e+1 by omega];rfl
 ·have hout:outS o s k addr=(s,false):=by
   unfold outS
   by_cases ho:o=1
   ·rw [if_pos ho]
   ·rw [if_neg ho,fI_none fun j hj=>?_]
    have:i=(s.bufs.getD k []).length:=by
     by_cases h:i<(s.bufs.getD k []).length
     ·rw [decide_eq_true h] at hc;simp [ho] at hc
     ·omega
    exact (hij j (by omega)).2
  rw [← hR,← hW,hout]
  exact retTurn0 List.mem_cons_self (fun E E'=>by simp [SV.den,SC.den]) rfl rfl rfl rfl rfl rfl
end Go.Proofs.Ytmcpdafmkkjlcaa.Z
namespace Go.Proofs.Ytmcpdafmkkjlcaa.Z
open Go Go.RowKit
theorem ats_eI (xs:List Int) (d:Int) (e:Nat):ats eI xs d e=[.v (.int .i64 (xs.getD e d))]:=rfl
theorem nth_r4 {xs:List R4} {k:Nat} {r:Int} (hr:0≤r∧r<4):nth (ats R4.enc xs r40 k) r.toNat=some (.v (.int .i64 ((xs.getD k r40).get r))):=by
 have:r=0∨r=1∨r=2∨r=3:=by omega
 rcases this with rfl | rfl | rfl | rfl <;> rfl
theorem put_r4 {xs:List R4} {k:Nat} {r v:Int} (hk:k<xs.length) (hr:0≤r∧r<4):setAt k (ats R4.enc xs r40) (take' r.toNat (ats R4.enc xs r40 k)++[.v (.int .i64 v)]++drop' (r.toNat+1) (ats R4.enc xs r40 k))=ats R4.enc (xs.set k ((xs.getD k r40).put r v)) r40:=by
 rw [← set_atsT hk]
 congr 1
 have:r=0∨r=1∨r=2∨r=3:=by omega
 rcases this with rfl | rfl | rfl | rfl <;> rfl
theorem put_twice {xs:List R4} {k:Nat} {r u v:Int} (hk:k<xs.length) (hr:0≤r∧r<4):(xs.set k ((xs.getD k r40).put r u)).set k (((xs.set k ((xs.getD k r40).put r u)).getD k r40).put r v)=xs.set k ((xs.getD k r40).put r v):=by
 rw [getD_setE,if_pos ⟨rfl,hk⟩,List.set_set]
 congr 1
 have:r=0∨r=1∨r=2∨r=3:=by omega
 rcases this with rfl | rfl | rfl | rfl <;> rfl
theorem st2 (o:Int) (s:LS) (k:Nat) (reg ad val frm old cnt:Int):stepS o s k ⟨2,reg,ad,val,frm,old,cnt⟩=if o=1 then some ({ s with words:=s.words.set ad.toNat (if frm≥0 then (s.regs.getD k r40).get frm else val) },1) else some ({ s with bufs:=s.bufs.set k (s.bufs.getD k []++[⟨ad,if frm≥0 then (s.regs.getD k r40).get frm else val⟩]) },1):=by
 unfold stepS;rfl
theorem st3 (o:Int) (s:LS) (k:Nat) (reg ad val frm old cnt:Int):stepS o s k ⟨3,reg,ad,val,frm,old,cnt⟩=if (s.bufs.getD k []).length>0 then none else if s.words.getD ad.toNat 0=old then some ({ s with words:=s.words.set ad.toNat val,regs:=s.regs.set k ((s.regs.getD k r40).put reg 1) },1) else some ({ s with regs:=s.regs.set k ((s.regs.getD k r40).put reg 0) },1):=by
 unfold stepS;rfl
theorem st4 (o:Int) (s:LS) (k:Nat) (reg ad val frm old cnt:Int):stepS o s k ⟨4,reg,ad,val,frm,old,cnt⟩=if (s.bufs.getD k []).length>0 then none else some (s,1):=by
 unfold stepS;rfl
theorem st7 (o:Int) (s:LS) (k:Nat) (reg ad val frm old cnt:Int):stepS o s k ⟨7,reg,ad,val,frm,old,cnt⟩=if (s.regs.getD k r40).get reg=val then some (s,1+cnt) else some (s,1):=by
 unfold stepS;rfl
attribute [go_sem] mkO_rs ats_eI
theorem stE_key {s s' : LS} {b:Nat}:∀ x c,atN (stP s) x=some c→(look (killO [10]++stE b s') x.1).isSome=true:=by
 intro x c hx
 simp only [stP,stO] at hx
 rcases atN_one hx with ⟨rfl,rfl⟩ | hx
 ·rfl
 rcases atN_one hx with ⟨rfl,rfl⟩ | hx
 ·rfl
 rcases atN_one hx with ⟨rfl,rfl⟩ | hx
 ·rfl
 rcases atN_one hx with ⟨rfl,rfl⟩ | hx
 ·rfl
 rcases atN_one hx with ⟨rfl,rfl⟩ | hx
 ·rfl
 rcases atN_fam hx with ⟨k,hk,rfl,rfl⟩ | hx
 ·rfl
 ·exact (atN_nil hx).elim
theorem lt11 {n:Nat} (h:11≤n):∀ i∈List.range 11,i<n:=fun i hi=>Nat.lt_of_lt_of_le (List.mem_range.1 hi) h
theorem retTurnN {P:Program} {w:World} {E:Env} {W:Nat→Prop} {rs:List RS} {u v:SV} {s:LS} {S2:St} (n:Nat) (hn:10≤n) (hf:AgF 11 E∈S2.facts) (hu:∀ E E',v.den E=u.den E') (h5:look S2.own 5=some (.one (.bk (stC 6 s) 32))) (h6:look S2.own 6=some (.one (.ar s.words.length 1 (ats eI s.words 0) 3))) (h7:look S2.own 7=some (.one (.ar s.regs.length 4 (ats R4.enc s.regs r40) 68)))
  (h8:look S2.own 8=some (.one (.ar s.places.length 1 (ats eI s.places 0) 3))) (h9:look S2.own 9=some (.one (.ar s.bufs.length 1 (bfC n s) 86))) (h10:look S2.own n=some (.fam s.bufs.length (bfO s))):RetVC (mkO P w W rs (EffR w E 11 W u 1 fun b=>killO [10]++stE b s)) v S2 :=
 retTurn (fun e=>(n,e,0)) hf hu h5 h6 (fun _ _=>rfl) h7 (fun _ _=>rfl) h8 (fun _ _=>rfl) h9 (fun _ _=>rfl) (fun e he=>⟨_,_,by simp [atN,h10,Fm.get,he,bfO],Nat.le_refl _,fun _ _=>rfl⟩) (fun e e' _ _ h=>by simpa using h) (fun e _=>hn)
end Go.Proofs.Ytmcpdafmkkjlcaa.Z
namespace Go.Proofs.Ytmcpdafmkkjlcaa.Z
open Go Go.RowKit
def ir14:IR:=(.seq (.ops [⟨(some 2),(.mv (.k (.c (.v (.int .i64 0))))),none⟩]) (.kill [1,2,3,4,5,6,7,8,9,10,11] (.seq (.ops [⟨(some 3),(.mv (.t 0)),none⟩,⟨(some 2),(.mv (.t 3)),none⟩]) (.kill [0,3] .ret))))
def rs14:List RS:=[(.t 2)]
def nt14:Nat:=4
def ir41:IR:=(.seq (.ops [⟨(some 4),(.mv (.k (.c (.v (.bool false))))),none⟩]) (.kill [2,3,4,5,6,7,8,9,10,11] (.seq (.seq (.ops [⟨(some 6),(.mv (.t 0)),none⟩,⟨(some 7),(.len (.t 6)),none⟩,⟨(some 8),(.mv (.t 1)),none⟩,⟨(some 9),(.len (.t 8)),none⟩,⟨(some 10),(.bin .neq (.t 7) (.t 9)),none⟩]) (.kill [6,7,8,9] (.cond (.t 10) (.seq (.ops [⟨(some 4),(.mv (.k (.c (.v (.bool false))))),none⟩]) (.kill [0,1,10] .ret)) .skip))) (.kill [4,10] (.seq (.seq (.ops [⟨(some 5),(.mv (.k (.c (.v (.int .i64 0))))),none⟩]) (.blk 0 (.loop (.seq (.seq (.ops [⟨(some 11),(.mv (.t 5)),none⟩,⟨(some 12),(.mv (.t 0)),none⟩,⟨(some 13),(.len (.t 12)),none⟩,⟨(some 14),(.bin .lss (.t 11) (.t 13)),none⟩]) (.kill [4,11,12,13,15,16,17,18,19,20,21,22,23,24,25] (.cond (.t 14) .skip (.exit 0)))) (.kill [14] (.seq (.blk 1 (.seq (.draw [(⟨(some 17),(.mv (.t 0)),none⟩,([],[18,21,22,23,24])),(⟨(some 18),(.mv (.t 5)),none⟩,([0],[17,21,22,23,24])),(⟨(some 19),(.ia 1 (.t 17) (.t 18)),none⟩,([],[21,22,23,24])),(⟨(some 20),(.ld false 1 (.t 19)),none⟩,([],[21,22,23,24])),(⟨(some 21),(.mv (.t 1)),none⟩,([0,1,2,3],[17,18,19,20,22])),(⟨(some 22),(.mv (.t 5)),none⟩,([0,1,2,3,4],[17,18,19,20,21])),(⟨(some 23),(.ia 1 (.t 21) (.t 22)),none⟩,([0,1,2,3],[17,18,19,20])),(⟨(some 24),(.ld false 1 (.t 23)),none⟩,([0,1,2,3],[17,18,19,20])),(⟨(some 25),(.bin .neq (.t 20) (.t 24)),none⟩,([],[]))]) (.kill [17,18,19,20,21,22,23,24] (.cond (.t 25) (.seq (.ops [⟨(some 4),(.mv (.k (.c (.v (.bool false))))),none⟩]) (.kill [0,1,5,25] .ret)) .skip)))) (.kill [4,17,18,19,20,21,22,23,24,25] (.ops [⟨(some 15),(.mv (.t 5)),none⟩,⟨(some 16),(.bin .add (.t 15) (.k (.c (.v (.int .i64 1))))),none⟩,⟨(some 5),(.mv (.t 16)),none⟩])))))))) (.kill [0,1,4,5,11,12,13,14,15,16,17,18,19,20,21,22,23,24,25] (.seq (.ops [⟨(some 4),(.mv (.k (.c (.v (.bool true))))),none⟩]) .ret)))))))
def rs41:List RS:=[(.t 4)]
def nt41:Nat:=26
def ir13:IR:=(.seq (.ops [⟨(some 2),(.box 32 (.t 0)),none⟩,⟨(some 3),(.box 32 (.t 1)),none⟩,⟨(some 4),(.mv (.k (.c (.v (.bool false))))),none⟩]) (.kill [0,1,4,5,6,7,8,9,10,11] (.seq (.seq (.ops [⟨(some 8),(.fa 0 (.t 2)),none⟩,⟨(some 9),(.ld false 1 (.t 8)),none⟩,⟨(some 10),(.fa 0 (.t 3)),none⟩,⟨(some 11),(.ld false 1 (.t 10)),none⟩,⟨(some 12),(.call 41 [(.t 9),(.t 11)]),none⟩,⟨(some 13),(.un .not (.t 12)),none⟩,⟨(some 14),(.mv (.t 13)),none⟩,⟨(some 15),(.fa 1 (.t 2)),(some (14,false))⟩,⟨(some 16),(.ld false 1 (.t 15)),(some (14,false))⟩,⟨(some 17),(.len (.t 16)),(some (14,false))⟩,⟨(some 18),(.fa 1 (.t 3)),(some (14,false))⟩,⟨(some 19),(.ld false 1 (.t 18)),(some (14,false))⟩,⟨(some 20),(.len (.t 19)),(some (14,false))⟩,⟨(some 21),(.bin .neq (.t 17) (.t 20)),(some (14,false))⟩,⟨(some 22),(.pick (.t 14) (.k (.c (.v (.bool true)))) (.t 21)),none⟩,⟨(some 23),(.mv (.t 22)),none⟩,⟨(some 24),(.fa 2 (.t 2)),(some (23,false))⟩,⟨(some 25),(.ld false 1 (.t 24)),(some (23,false))⟩,⟨(some 26),(.fa 2 (.t 3)),(some (23,false))⟩,⟨(some 27),(.ld false 1 (.t 26)),(some (23,false))⟩,⟨(some 28),(.call 41 [(.t 25),(.t 27)]),(some (23,false))⟩,⟨(some 29),(.un .not (.t 28)),(some (23,false))⟩,⟨(some 30),(.pick (.t 23) (.k (.c (.v (.bool true)))) (.t 29)),none⟩,⟨(some 31),(.mv (.t 30)),none⟩,⟨(some 32),(.fa 3 (.t 2)),(some (31,false))⟩,⟨(some 33),(.ld false 1 (.t 32)),(some (31,false))⟩,⟨(some 34),(.len (.t 33)),(some (31,false))⟩,⟨(some 35),(.fa 3 (.t 3)),(some (31,false))⟩,⟨(some 36),(.ld false 1 (.t 35)),(some (31,false))⟩,⟨(some 37),(.len (.t 36)),(some (31,false))⟩,⟨(some 38),(.bin .neq (.t 34) (.t 37)),(some (31,false))⟩,⟨(some 39),(.pick (.t 31) (.k (.c (.v (.bool true)))) (.t 38)),none⟩]) (.kill [8,9,10,11,12,13,14,15,16,17,18,19,20,21,22,23,24,25,26,27,28,29,30,31,32,33,34,35,36,37,38] (.cond (.t 39) (.seq (.ops [⟨(some 4),(.mv (.k (.c (.v (.bool false))))),none⟩]) (.kill [2,3,39] .ret)) .skip))) (.kill [4,39] (.seq (.seq (.ops [⟨(some 5),(.mv (.k (.c (.v (.int .i64 0))))),none⟩]) (.blk 0 (.loop (.seq (.seq (.ops [⟨(some 40),(.mv (.t 5)),none⟩,⟨(some 41),(.fa 1 (.t 2)),none⟩,⟨(some 42),(.ld false 1 (.t 41)),none⟩,⟨(some 43),(.len (.t 42)),none⟩,⟨(some 44),(.bin .lss (.t 40) (.t 43)),none⟩]) (.kill [4,40,41,42,43,45,46,47,48,49,50,51,52,53,54,55,56,57] (.cond (.t 44) .skip (.exit 0)))) (.kill [44] (.seq (.blk 1 (.seq (.draw [(⟨(some 47),(.fa 1 (.t 2)),none⟩,([],[49,52,53,54,55,56])),(⟨(some 48),(.ld false 1 (.t 47)),none⟩,([],[49,52,53,54,55,56])),(⟨(some 49),(.mv (.t 5)),none⟩,([0,1],[47,48,52,53,54,55,56])),(⟨(some 50),(.ia 4 (.t 48) (.t 49)),none⟩,([],[52,53,54,55,56])),(⟨(some 51),(.ld true 4 (.t 50)),none⟩,([],[52,53,54,55,56])),(⟨(some 52),(.fa 1 (.t 3)),none⟩,([0,1,2,3,4],[47,48,49,50,51,54])),(⟨(some 53),(.ld false 1 (.t 52)),none⟩,([0,1,2,3,4],[47,48,49,50,51,54])),(⟨(some 54),(.mv (.t 5)),none⟩,([0,1,2,3,4,5,6],[47,48,49,50,51,52,53])),(⟨(some 55),(.ia 4 (.t 53) (.t 54)),none⟩,([0,1,2,3,4],[47,48,49,50,51])),(⟨(some 56),(.ld true 4 (.t 55)),none⟩,([0,1,2,3,4],[47,48,49,50,51])),(⟨(some 57),(.eqa true [true,true,true,true] (.t 51) (.t 56)),none⟩,([],[]))]) (.kill [47,48,49,50,51,52,53,54,55,56] (.cond (.t 57) (.seq (.ops [⟨(some 4),(.mv (.k (.c (.v (.bool false))))),none⟩]) (.kill [2,3,5,57] .ret)) .skip)))) (.kill [4,47,48,49,50,51,52,53,54,55,56,57] (.ops [⟨(some 45),(.mv (.t 5)),none⟩,⟨(some 46),(.bin .add (.t 45) (.k (.c (.v (.int .i64 1))))),none⟩,⟨(some 5),(.mv (.t 46)),none⟩])))))))) (.kill [4,5,40,41,42,43,44,45,46,47,48,49,50,51,52,53,54,55,56,57] (.seq (.seq (.ops [⟨(some 6),(.mv (.k (.c (.v (.int .i64 0))))),none⟩]) (.blk 2 (.loop (.seq (.seq (.ops [⟨(some 58),(.mv (.t 6)),none⟩,⟨(some 59),(.fa 3 (.t 2)),none⟩,⟨(some 60),(.ld false 1 (.t 59)),none⟩,⟨(some 61),(.len (.t 60)),none⟩,⟨(some 62),(.bin .lss (.t 58) (.t 61)),none⟩]) (.kill [4,7,58,59,60,61,63,64,65,66,67,68,69,70,71,72,73,74,75,76,77,78,79,80,81,82,83,84,85,86,87,88,89,90,91,92,93,94,95,96,97,98,99,100,101,102,103,104] (.cond (.t 62) .skip (.exit 2)))) (.kill [62] (.seq (.blk 3 (.seq (.seq (.draw [(⟨(some 65),(.fa 3 (.t 2)),none⟩,([],[67,71,72,73,74,75,76])),(⟨(some 66),(.ld false 1 (.t 65)),none⟩,([],[67,71,72,73,74,75,76])),(⟨(some 67),(.mv (.t 6)),none⟩,([0,1],[65,66,71,72,73,74,75,76])),(⟨(some 68),(.ia 1 (.t 66) (.t 67)),none⟩,([],[71,72,73,74,75,76])),(⟨(some 69),(.ld false 1 (.t 68)),none⟩,([],[71,72,73,74,75,76])),(⟨(some 70),(.len (.t 69)),none⟩,([],[71,72,73,74,75,76])),(⟨(some 71),(.fa 3 (.t 3)),none⟩,([0,1,2,3,4,5],[65,66,67,68,69,70,73])),(⟨(some 72),(.ld false 1 (.t 71)),none⟩,([0,1,2,3,4,5],[65,66,67,68,69,70,73])),(⟨(some 73),(.mv (.t 6)),none⟩,([0,1,2,3,4,5,6,7],[65,66,67,68,69,70,71,72])),(⟨(some 74),(.ia 1 (.t 72) (.t 73)),none⟩,([0,1,2,3,4,5],[65,66,67,68,69,70])),(⟨(some 75),(.ld false 1 (.t 74)),none⟩,([0,1,2,3,4,5],[65,66,67,68,69,70])),(⟨(some 76),(.len (.t 75)),none⟩,([0,1,2,3,4,5],[65,66,67,68,69,70])),(⟨(some 77),(.bin .neq (.t 70) (.t 76)),none⟩,([],[]))]) (.kill [65,66,67,68,69,70,71,72,73,74,75,76] (.cond (.t 77) (.seq (.ops [⟨(some 4),(.mv (.k (.c (.v (.bool false))))),none⟩]) (.kill [2,3,6,77] .ret)) .skip))) (.kill [4,77] (.seq (.ops [⟨(some 7),(.mv (.k (.c (.v (.int .i64 0))))),none⟩]) (.blk 4 (.loop (.seq (.seq (.ops [⟨(some 78),(.mv (.t 7)),none⟩,⟨(some 79),(.fa 3 (.t 2)),none⟩,⟨(some 80),(.ld false 1 (.t 79)),none⟩,⟨(some 81),(.mv (.t 6)),none⟩,⟨(some 82),(.ia 1 (.t 80) (.t 81)),none⟩,⟨(some 83),(.ld false 1 (.t 82)),none⟩,⟨(some 84),(.len (.t 83)),none⟩,⟨(some 85),(.bin .lss (.t 78) (.t 84)),none⟩]) (.kill [4,78,79,80,81,82,83,84,86,87,88,89,90,91,92,93,94,95,96,97,98,99,100,101,102,103,104] (.cond (.t 85) .skip (.exit 4)))) (.kill [85] (.seq (.blk 5 (.seq (.draw [(⟨(some 88),(.fa 3 (.t 2)),none⟩,([],[90,93,96,97,98,99,100,101,102,103])),(⟨(some 89),(.ld false 1 (.t 88)),none⟩,([],[90,93,96,97,98,99,100,101,102,103])),(⟨(some 90),(.mv (.t 6)),none⟩,([0,1],[88,89,93,96,97,98,99,100,101,102,103])),(⟨(some 91),(.ia 1 (.t 89) (.t 90)),none⟩,([],[93,96,97,98,99,100,101,102,103])),(⟨(some 92),(.ld false 1 (.t 91)),none⟩,([],[93,96,97,98,99,100,101,102,103])),(⟨(some 93),(.mv (.t 7)),none⟩,([0,1,2,3,4],[88,89,90,91,92,96,97,98,99,100,101,102,103])),(⟨(some 94),(.ia 2 (.t 92) (.t 93)),none⟩,([],[96,97,98,99,100,101,102,103])),(⟨(some 95),(.ld true 2 (.t 94)),none⟩,([],[96,97,98,99,100,101,102,103])),(⟨(some 96),(.fa 3 (.t 3)),none⟩,([0,1,2,3,4,5,6,7],[88,89,90,91,92,93,94,95,98,101])),(⟨(some 97),(.ld false 1 (.t 96)),none⟩,([0,1,2,3,4,5,6,7],[88,89,90,91,92,93,94,95,98,101])),(⟨(some 98),(.mv (.t 6)),none⟩,([0,1,2,3,4,5,6,7,8,9],[88,89,90,91,92,93,94,95,96,97,101])),(⟨(some 99),(.ia 1 (.t 97) (.t 98)),none⟩,([0,1,2,3,4,5,6,7],[88,89,90,91,92,93,94,95,101])),(⟨(some 100),(.ld false 1 (.t 99)),none⟩,([0,1,2,3,4,5,6,7],[88,89,90,91,92,93,94,95,101])),(⟨(some 101),(.mv (.t 7)),none⟩,([0,1,2,3,4,5,6,7,8,9,10,11,12],[88,89,90,91,92,93,94,95,96,97,98,99,100])),(⟨(some 102),(.ia 2 (.t 100) (.t 101)),none⟩,([0,1,2,3,4,5,6,7],[88,89,90,91,92,93,94,95])),(⟨(some 103),(.ld true 2 (.t 102)),none⟩,([0,1,2,3,4,5,6,7],[88,89,90,91,92,93,94,95])),(⟨(some 104),(.eqa true [true,true] (.t 95) (.t 103)),none⟩,([],[]))]) (.kill [88,89,90,91,92,93,94,95,96,97,98,99,100,101,102,103] (.cond (.t 104) (.seq (.ops [⟨(some 4),(.mv (.k (.c (.v (.bool false))))),none⟩]) (.kill [2,3,6,7,104] .ret)) .skip)))) (.kill [4,88,89,90,91,92,93,94,95,96,97,98,99,100,101,102,103,104] (.ops [⟨(some 86),(.mv (.t 7)),none⟩,⟨(some 87),(.bin .add (.t 86) (.k (.c (.v (.int .i64 1))))),none⟩,⟨(some 7),(.mv (.t 87)),none⟩]))))))))))) (.kill [4,7,65,66,67,68,69,70,71,72,73,74,75,76,77,78,79,80,81,82,83,84,85,86,87,88,89,90,91,92,93,94,95,96,97,98,99,100,101,102,103,104] (.ops [⟨(some 63),(.mv (.t 6)),none⟩,⟨(some 64),(.bin .add (.t 63) (.k (.c (.v (.int .i64 1))))),none⟩,⟨(some 6),(.mv (.t 64)),none⟩])))))))) (.kill [2,3,4,6,7,58,59,60,61,62,63,64,65,66,67,68,69,70,71,72,73,74,75,76,77,78,79,80,81,82,83,84,85,86,87,88,89,90,91,92,93,94,95,96,97,98,99,100,101,102,103,104] (.seq (.ops [⟨(some 4),(.mv (.k (.c (.v (.bool true))))),none⟩]) .ret)))))))))
def rs13:List RS:=[(.t 4)]
def nt13:Nat:=105
set_option maxRecDepth 100000 in
set_option maxHeartbeats 400000 in
theorem num_calls (w:World) (e:Int):Calls Try.prog 14 #[.int .i64 e] w (RetV w (.int .i64 e)):=by
 refine enter0 (A:=[]) (c:=ir14) (rs:=rs14) (nt:=nt14) [.c (.v (.int .i64 e))] #[.int .i64 e] Try.func14 rfl (by kernel_rfl) (by kernel_rfl) rfl (fun E'=>by simp [SV.den,SC.den]) (of_decide_eq_true rfl) ?_
 simp (maxSteps:=2000000) only [ir14,nt14,rs14,go_sem,↓runOp,↓reduceIte,Nat.reduceLT,Nat.reduceEqDiff,reduceCtorEq]
 exact retV fun E=>by simp [SV.den,SC.den]
set_option maxRecDepth 100000 in
set_option maxHeartbeats 400000 in
theorem sints_calls (w:World) (v v' : Value) (xs:List Int) (h:Arr w eI 1 v xs) (h' : Arr w eI 1 v' xs):Calls Try.prog 41 #[v,v'] w (RetV w (.bool true)):=by
 refine enter2 (A:=[]) (c:=ir41) (rs:=rs41) (nt:=nt41) 0 eI_ok h 0 eI_ok h' [.c (.xv (0,0,0)),.c (.xv (1,0,0))] _ Try.func41 rfl (by kernel_rfl) (by kernel_rfl) rfl (fun E' h0 h1=>by simp [SV.den,SC.den,h0,h1]) (of_decide_eq_true rfl) ?_
 simp (maxSteps:=2000000) only [ir41,nt41,rs41,go_sem,↓condS,↓runOp,↓imp_ft,↓imp_ff,↓reduceIte,Nat.reduceLT,Nat.reduceEqDiff,reduceCtorEq]
 refine loopI (ι:={ i:Nat // i≤xs.length }) (fun i=>⟨26,[(0,.c (.xv (0,0,0))),(1,.c (.xv (1,0,0))),(5,.c (.v (.int .i64 (i.1:Nat))))],[],[(0,.one (arrOf eI 1 xs 0)),(1,.one (arrOf eI 1 xs 0))],[],2⟩)
  (fun i=>xs.length - i.1) ⟨0,by omega⟩ (le_ren id rfl rfl (by simp [TmpsLe,look,SV.ren,SC.ren,idσ,SV.okN,SC.okN]) trivial (by simp [ArrsLe,ArrLeO,atN,look,Fm.get,idσ,arrLe_of]) rfl) ?_
 rintro ⟨i,hi⟩
 have hml:=Z.Arr.lenM h
 simp only [maxLen] at hml
 simp (maxSteps:=2000000) only [go_sem,↓condS,↓exitS,↓runOp,↓reduceIte,Nat.reduceLT,Nat.reduceEqDiff,reduceCtorEq]
 refine both (fun hlt=>?_) (fun hge=>?_)
 ·rw [decide_eq_true_eq] at hlt
  have hlt:i<xs.length:=by omega
  refine draw_vc (by kernel_rfl) (mkTab_ok _ _) (of_decide_eq_true rfl) (of_decide_eq_true rfl) ?_
  repeat (first | simp (maxSteps:=2000000) only [go_sem,↓condS,↓runOp,↓gateD,↓runD,↓imp_ft,↓imp_ff,↓reduceIte,Nat.reduceLT,Nat.reduceEqDiff,reduceCtorEq,eI] | rw [dr_cons])
  refine And.intro hlt (And.intro hlt (And.intro hlt (And.intro hlt ?_)))
  rw [wr_succ (by omega)]
  exact backI ⟨i+1,by omega⟩ (by simp only;omega) (le_ren id rfl rfl (by simp [TmpsLe,look,SV.ren,SC.ren,idσ,SV.okN,SC.okN]) trivial (by simp [ArrsLe,ArrLeO,atN,look,Fm.get,idσ,arrLe_of]) rfl)
 ·exact retV fun E=>by simp [SV.den,SC.den]
def StR (w:World) (v:Value) (s:LS):Prop:=∃ vw vr vp vb,v = .agg #[vw,vr,vp,vb]∧Arr w eI 1 vw s.words∧Arr w R4.enc 4 vr s.regs∧Arr w eI 1 vp s.places∧Nest w Pd.enc 2 vb s.bufs
def stA (i:Nat) (s:LS):List (Nat×Fm ArrF):=[(i,.one (arrOf eI 1 s.words 0)),(i+1,.one (arrOf R4.enc 4 s.regs r40)),(i+2,.one (arrOf eI 1 s.places 0)),(i+3,.one (nestF (i+4) s.bufs.length)),(i+4,.fam s.bufs.length fun k=>arrOf Pd.enc 2 (s.bufs.getD k []) pd0)]
def stS (i:Nat):List SC:=[.xv (i,0,0),.xv (i+1,0,0),.xv (i+2,0,0),.xv (i+3,0,0)]
theorem nest_one {α:Type} {w:World} {enc:α→List Value} {s:Nat} {ls:List (List α)} {vs:List Value} (h3:vs.length=ls.length) (h4:∀ k,k<ls.length→Arr w enc s (vs.getD k nest0) (ls.getD k [])) (k:Nat):(vs.getD k nest0).oneCell' = true:=by
 by_cases hk:k<ls.length
 ·exact arr_one (h4 k hk)
 ·rw [List.getD_eq_getElem?_getD,List.getElem?_eq_none (by omega)];rfl
theorem enterSt2 {P:Program} {A:List Nat} {f nt:Nat} {fn:Func} {x:Code} {c:IR} {w:World} {rs:List RS} {R:Ending→World→Prop} {v v' : Value} {s:LS} (h:StR w v s) (h' : StR w v' s)
  (hf:P.funcs[f]? = some fn) (hb:fn.body=some x) (hc:compC (mkTab P A) x=some c.strip) (hrs:compR (mkTab P A).T fn.results.toList=some rs) (hn:fn.ntmps=nt) (hnt:2≤nt)
  (hex:exec (mkC P A w rs R) 1000 [.code c] ⟨nt,enumT 0 [.agg (stS 0),.agg (stS 5)],[],stA 0 s++stA 5 s,[],10⟩):Calls P f #[v,v'] w R:=by
 obtain ⟨vw,vr,vp,vb,rfl,h1,h2,h3,us,h4,h5,h6⟩:=h
 obtain ⟨vw',vr',vp',vb',rfl,h1',h2',h3',us',h4',h5',h6'⟩:=h'
 refine enterL [fun _=>vw,fun _=>vr,fun _=>vp,fun _=>vb,fun k=>us.getD k nest0,fun _=>vw',fun _=>vr',fun _=>vp',fun _=>vb',fun k=>us'.getD k nest0] ⟨fun _=>arr_one h1,fun _=>arr_one h2,fun _=>arr_one h3,fun _=>arr_one h4,nest_one h5 h6,fun _=>arr_one h1',fun _=>arr_one h2',fun _=>arr_one h3',fun _=>arr_one h4',nest_one h5' h6',trivial⟩
  (rd_one 0 0 eI_ok h1 (by simp) rfl (rd_one 1 r40 r4_ok h2 (by simp) rfl (rd_one 2 0 eI_ok h3 (by simp) rfl (rd_nest 3 4 pd0 pd_ok h4 h5 h6 (by simp) (by simp) rfl (fun _=>rfl) (rd_one 5 0 eI_ok h1' (by simp) rfl (rd_one 6 r40 r4_ok h2' (by simp) rfl (rd_one 7 0 eI_ok h3' (by simp) rfl (rd_nest 8 9 pd0 pd_ok h4' h5' h6' (by simp) (by simp) rfl (fun _=>rfl) rd_nil))))))))
  [.agg (stS 0),.agg (stS 5)] _ hf hb hc hrs hn (fun E' hE'=>?_) hnt hex
 have e:=fun i hi=>hE' i 0 0 hi
 simp only [List.map_cons,List.map_nil,SV.den,stS,SC.den,e 0 (by simp),e 1 (by simp),e 2 (by simp),e 3 (by simp),Nat.reduceAdd,e 5 (by simp),e 6 (by simp),e 7 (by simp),e 8 (by simp)]
 rfl
set_option maxRecDepth 100000 in
set_option maxHeartbeats 400000 in
theorem sstate_calls (w:World) (v v' : Value) (s:LS) (h:StR w v s) (h' : StR w v' s):Calls Try.prog 13 #[v,v'] w (RetV w (.bool true)):=by
 have hm1:s.regs.length≤9223372036854775807:=by obtain ⟨_,_,_,_,_,_,h2,_⟩:=h;have:=Z.Arr.lenM h2;simp only [maxLen] at this;exact this
 have hm2:s.bufs.length≤9223372036854775807:=by obtain ⟨_,_,_,_,_,_,_,_,us,h4,h5,_⟩:=h;have:=Z.Arr.lenM h4;simp only [maxLen] at this;omega
 have hm3:∀ k,k<s.bufs.length→(s.bufs.getD k []).length≤9223372036854775807:=fun k hk=>by obtain ⟨_,_,_,_,_,_,_,_,us,h4,h5,h6⟩:=h;have:=Z.Arr.lenM (h6 k hk);simp only [maxLen] at this;exact this
 refine enterSt2 (A:=[]) (c:=ir13) (rs:=rs13) (nt:=nt13) h h' Try.func13 rfl (by kernel_rfl) (by kernel_rfl) rfl (of_decide_eq_true rfl) ?_
 simp (maxSteps:=2000000) only [ir13,nt13,rs13,go_sem,↓runOp,↓reduceIte,Nat.reduceLT,Nat.reduceAdd,Nat.reduceEqDiff,reduceCtorEq,stA,stS]
 refine callV (.c (.v (.bool true))) _ (fun E=>rfl) (fun E a w' hs=>sints_calls w' _ _ s.words (arr_at (d:=0) hs 0 rfl) (arr_at (d:=0) hs 5 rfl)) ?_
 simp (maxSteps:=2000000) only [go_sem,↓gateS,↓runOp,↓imp_tt,↓reduceIte,Nat.reduceLT,Nat.reduceEqDiff,reduceCtorEq]
 refine guardW (.c (.v (.bool true))) _ (fun E=>rfl) (fun E a w' hs=>sints_calls w' _ _ s.places (arr_at (d:=0) hs 2 rfl) (arr_at (d:=0) hs 7 rfl)) ?_
 simp (maxSteps:=2000000) only [go_sem,↓condS,↓gateS,↓runOp,↓imp_ft,↓imp_tt,↓imp_ff,↓reduceIte,Nat.reduceLT,Nat.reduceEqDiff,reduceCtorEq]
 refine loopI (ι:={ i:Nat // i≤s.regs.length }) (fun i=>⟨105,[(2,.c (.ptr (10,0,0) 0)),(3,.c (.ptr (11,0,0) 0)),(5,.c (.v (.int .i64 (i.1:Nat))))],[(10,.one (.bk [.xv (0,0,0),.xv (1,0,0),.xv (2,0,0),.xv (3,0,0)] 32)),(11,.one (.bk [.xv (5,0,0),.xv (6,0,0),.xv (7,0,0),.xv (8,0,0)] 32))],stA 0 s++stA 5 s,[],12⟩)
  (fun i=>s.regs.length - i.1) ⟨0,by omega⟩ (le_ren id rfl rfl (by simp [TmpsLe,look,SV.ren,SC.ren,idσ,SV.okN,SC.okN]) (by simp [OwnLe,BlkLeO,BlkLe,atN,look,Fm.get,idσ,SC.renL,SC.ren,SC.okL,SC.okN]) (by simp +contextual [stA,ArrsLe,ArrLeO,atN,look,Fm.get,idσ,arrLe_of,arrLe_nest]) rfl) ?_
 rintro ⟨i,hi⟩
 simp (maxSteps:=2000000) only [go_sem,↓condS,↓exitS,↓runOp,↓reduceIte,Nat.reduceLT,Nat.reduceAdd,Nat.reduceEqDiff,reduceCtorEq,stA]
 refine both (fun hlt=>?_) (fun hge=>?_)
 ·rw [decide_eq_true_eq] at hlt
  have hlt:i<s.regs.length:=by omega
  refine draw_vc (by kernel_rfl) (mkTab_ok _ _) (of_decide_eq_true rfl) (of_decide_eq_true rfl) ?_
  repeat (first | simp (maxSteps:=2000000) only [go_sem,↓condS,↓runOp,↓gateD,↓runD,↓imp_ft,↓imp_ff,↓reduceIte,Nat.reduceLT,Nat.reduceLeDiff,Nat.reduceEqDiff,reduceCtorEq,R4.enc] | rw [dr_cons])
  refine And.intro hlt (And.intro hlt (And.intro hlt (And.intro hlt ?_)))
  rw [wr_succ (by omega)]
  exact backI ⟨i+1,by omega⟩ (by simp only;omega) (le_ren id rfl rfl (by simp [TmpsLe,look,SV.ren,SC.ren,idσ,SV.okN,SC.okN]) (by simp [OwnLe,BlkLeO,BlkLe,atN,look,Fm.get,idσ,SC.renL,SC.ren,SC.okL,SC.okN]) (by simp +contextual [ArrsLe,ArrLeO,atN,look,Fm.get,idσ,arrLe_of,arrLe_nest]) rfl)
 refine loopI (ι:={ j:Nat // j≤s.bufs.length }) (fun j=>⟨105,[(2,.c (.ptr (10,0,0) 0)),(3,.c (.ptr (11,0,0) 0)),(6,.c (.v (.int .i64 (j.1:Nat))))],[(10,.one (.bk [.xv (0,0,0),.xv (1,0,0),.xv (2,0,0),.xv (3,0,0)] 32)),(11,.one (.bk [.xv (5,0,0),.xv (6,0,0),.xv (7,0,0),.xv (8,0,0)] 32))],stA 0 s++stA 5 s,[],12⟩)
  (fun j=>s.bufs.length - j.1) ⟨0,by omega⟩ (le_ren id rfl rfl (by simp [TmpsLe,look,SV.ren,SC.ren,idσ,SV.okN,SC.okN]) (by simp [OwnLe,BlkLeO,BlkLe,atN,look,Fm.get,idσ,SC.renL,SC.ren,SC.okL,SC.okN]) (by simp +contextual [stA,ArrsLe,ArrLeO,atN,look,Fm.get,idσ,arrLe_of,arrLe_nest]) rfl) ?_
 rintro ⟨j,hj⟩
 simp (maxSteps:=2000000) only [go_sem,↓condS,↓exitS,↓runOp,↓reduceIte,Nat.reduceLT,Nat.reduceAdd,Nat.reduceEqDiff,reduceCtorEq,stA]
 refine both (fun hlt=>?_) (fun hge=>?_)
 ·rw [decide_eq_true_eq] at hlt
  have hlt:j<s.bufs.length:=by omega
  have hm3:=hm3 j hlt
  refine draw_vc (by kernel_rfl) (mkTab_ok _ _) (of_decide_eq_true rfl) (of_decide_eq_true rfl) ?_
  repeat (first | simp (maxSteps:=2000000) only [go_sem,↓condS,↓runOp,↓gateD,↓runD,↓imp_ft,↓imp_ff,↓reduceIte,Nat.reduceLT,Nat.reduceEqDiff,reduceCtorEq] | rw [dr_cons])
  refine And.intro hlt (And.intro hlt (And.intro hlt (And.intro hlt (And.intro hlt (And.intro hlt ?_)))))
  refine loopI (ι:={ i:Nat // i≤(s.bufs.getD j []).length }) (fun i=>⟨105,[(2,.c (.ptr (10,0,0) 0)),(3,.c (.ptr (11,0,0) 0)),(6,.c (.v (.int .i64 j))),(7,.c (.v (.int .i64 (i.1:Nat))))],[(10,.one (.bk [.xv (0,0,0),.xv (1,0,0),.xv (2,0,0),.xv (3,0,0)] 32)),(11,.one (.bk [.xv (5,0,0),.xv (6,0,0),.xv (7,0,0),.xv (8,0,0)] 32))],stA 0 s++stA 5 s,[],12⟩)
   (fun i=>(s.bufs.getD j []).length - i.1) ⟨0,by omega⟩ (le_ren id rfl rfl (by simp [TmpsLe,look,SV.ren,SC.ren,idσ,SV.okN,SC.okN]) (by simp [OwnLe,BlkLeO,BlkLe,atN,look,Fm.get,idσ,SC.renL,SC.ren,SC.okL,SC.okN]) (by simp +contextual [stA,ArrsLe,ArrLeO,atN,look,Fm.get,idσ,arrLe_of,arrLe_nest]) rfl) ?_
  rintro ⟨i,hi⟩
  simp (maxSteps:=2000000) only [go_sem,↓condS,↓exitS,↓runOp,↓reduceIte,Nat.reduceLT,Nat.reduceAdd,Nat.reduceEqDiff,reduceCtorEq,stA]
  refine And.intro hlt (And.intro hlt (And.intro hlt (both (fun hlti=>?_) (fun hgei=>?_))))
  ·rw [decide_eq_true_eq] at hlti
   have hlti:i<(s.bufs.getD j []).length:=by omega
   refine draw_vc (by kernel_rfl) (mkTab_ok _ _) (of_decide_eq_true rfl) (of_decide_eq_true rfl) ?_
   repeat (first | simp (maxSteps:=2000000) only [go_sem,↓condS,↓runOp,↓gateD,↓runD,↓imp_ft,↓imp_ff,↓reduceIte,Nat.reduceLT,Nat.reduceLeDiff,Nat.reduceEqDiff,reduceCtorEq,Pd.enc] | rw [dr_cons])
   repeat (with_reducible refine And.intro (by first | omega | exact ⟨hlt,hlti⟩) ?_)
   rw [wr_succ (by omega)]
   exact backI ⟨i+1,by omega⟩ (by simp only;omega) (le_ren id rfl rfl (by simp [TmpsLe,look,SV.ren,SC.ren,idσ,SV.okN,SC.okN]) (by simp [OwnLe,BlkLeO,BlkLe,atN,look,Fm.get,idσ,SC.renL,SC.ren,SC.okL,SC.okN]) (by simp +contextual [ArrsLe,ArrLeO,atN,look,Fm.get,idσ,arrLe_of,arrLe_nest]) rfl)
  ·rw [wr_succ (by omega)]
   exact backI ⟨j+1,by omega⟩ (by simp only;omega) (le_ren id rfl rfl (by simp [TmpsLe,look,SV.ren,SC.ren,idσ,SV.okN,SC.okN]) (by simp [OwnLe,BlkLeO,BlkLe,atN,look,Fm.get,idσ,SC.renL,SC.ren,SC.okL,SC.okN]) (by simp +contextual [ArrsLe,ArrLeO,atN,look,Fm.get,idσ,arrLe_of,arrLe_nest]) rfl)
 ·exact retV fun E=>by simp [SV.den,SC.den]
end Go.Proofs.Ytmcpdafmkkjlcaa.Z
namespace Go.Proofs.Ytmcpdafmkkjlcaa.Z
open Go Go.RowKit
theorem le_nilcell {C:Ctx} {nt:Nat} {tmps:List (Nat×SV)} {own:Own} {arrs:List (Nat×Fm ArrF)} {facts:List (Env→World→Prop)} {nid:Nat} (j s ty ty' : Nat) (cs cs' : List SC) (at_:Nat→List SC)
  (hj:look own j=some (.one (.bk cs ty'))) (hn:look own nid=none) (hc:∀ E:Env,E.ν (nid,0,0)=true→E.κ (nid,0,0)=0→cs'.map (SC.den E)=cs.map (SC.den E)) :
  Le C ⟨nt,tmps,own,arrs,facts,nid⟩ ⟨nt,tmps,(nid,.one (.ar 0 s at_ ty)) :: setL own j (.one (.bk cs' ty')),arrs,facts,nid+1⟩:=by
 intro E a w hs
 refine ⟨⟨E.ρ,fun x=>if x.1=nid then 0 else E.κ x,fun x=>if x.1=nid then true else E.ν x,E.χ⟩,fun x=>hs.1 x,fun E2 hE2 ho2=>?_⟩
 have hs2:=hs.2 E2 (fun x hx=>by
  have h:=hE2 x (Nat.lt_succ_of_lt hx)
  have hne:x.1≠nid:=by have:x.1<nid:=hx;omega
  simp only [Same,hne,if_false] at h
  exact h) ho2
 have hsz:=hE2 (nid,0,0) (Nat.lt_succ_self nid)
 have hκ:E2.κ (nid,0,0)=0:=by have h:=hsz.2.1;simpa using h
 have hν:E2.ν (nid,0,0)=true:=by have h:=hsz.2.2.1;simpa using h
 obtain ⟨H,hH,hF⟩:=hs2.mem
 have hat:∀ x b,atN own x=some b→x.1≠nid:=fun x b h e=>by
  obtain ⟨F,hF,_⟩:=atN_some h
  rw [e,hn] at hF
  cases hF
 have hatj:atN own (j,0,0)=some (.bk cs ty'):=by simp [atN,hj,Fm.get]
 have hold:∀ x b,atN (setL own j (.one (.bk cs' ty'))) x=some b→(x=(j,0,0)∧b = .bk cs' ty')∨(x.1≠j∧atN own x=some b):=by
  rintro ⟨k,p,q⟩ b hx
  simp only [atN,look_setL] at hx
  by_cases e:j=k
  ·subst e
   rw [if_pos rfl] at hx
   simp only [Fm.get] at hx
   split at hx
   ·next e=>obtain ⟨rfl,rfl⟩:=e;cases hx;exact Or.inl ⟨rfl,rfl⟩
   ·cases hx
  ·rw [if_neg e] at hx
   exact Or.inr ⟨fun e2=>e e2.symm,hx⟩
 have hwas:∀ x b,atN (setL own j (.one (.bk cs' ty'))) x=some b→∃ c,atN own x=some c:=fun x b hx=>by
  rcases hold x b hx with ⟨rfl,rfl⟩ | ⟨_,hx⟩
  ·exact ⟨_,hatj⟩
  ·exact ⟨_,hx⟩
 refine ⟨hs2.size,hs2.defers,ho2,hs2.tmps,hs2.frame,fun x=>if x.1=nid then emp else H x,⟨fun x b hb=>?_,fun x y b c hb hc hne n=>?_,fun x b hb n o hn=>?_⟩,fun w' hw'=>?_⟩
 ·rcases atN_one hb with ⟨rfl,rfl⟩ | hb
  ·exact Or.inl ⟨trivial,hκ,rfl,by simp⟩
  ·obtain ⟨c,hc'⟩:=hwas x b hb
   simp only [hat x c hc',if_false]
   rcases hold x b hb with ⟨rfl,rfl⟩ | ⟨_,hx⟩
   ·have:=hH.den _ _ hatj
    simp only [Blk.den] at this ⊢
    rw [this,hc E2 hν hκ]
   ·exact hH.den x b hx
 ·rcases atN_one hb with ⟨rfl,rfl⟩ | hb
  ·simp [emp]
  ·rcases atN_one hc with ⟨rfl,rfl⟩ | hc
   ·simp [emp]
   ·obtain ⟨b',hb'⟩:=hwas x b hb
    obtain ⟨c',hc'⟩:=hwas y c hc
    simp only [hat x b' hb',hat y c' hc',if_false]
    exact hH.disj x y b' c' hb' hc' hne n
 ·rcases atN_one hb with ⟨rfl,rfl⟩ | hb
  ·simp [emp] at hn
  ·obtain ⟨b',hb'⟩:=hwas x b hb
   simp only [hat x b' hb',if_false] at hn
   exact hH.sub x b' hb' n o hn
 ·exact hF w' fun n hn hfr=>hw' n hn fun x b hb=>by
   rcases atN_one hb with ⟨rfl,rfl⟩ | hb
   ·simp [emp]
   ·obtain ⟨b',hb'⟩:=hwas x b hb
    simp only [hat x b' hb',if_false]
    exact hfr x b' hb'
theorem fit24 (n:Nat) (h:n * 24≤140737488355328):(n+n / 4+192) * 24≤281474976710656:=by omega
def LtSz (L:Lt):Prop:=L.words.length * 8≤140737488351232∧L.thr.length * 24≤140737488351232∧∀ k,k<L.thr.length→(L.thr.getD k []).length * 56≤140737488351232
end Go.Proofs.Ytmcpdafmkkjlcaa.Z
