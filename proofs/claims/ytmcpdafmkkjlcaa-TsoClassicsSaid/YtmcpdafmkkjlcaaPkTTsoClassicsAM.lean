/- TsoClassicsSaid: what its proof is made of. No condition. -/
import Derived.Test.YtmcpdafmkkjlcaaPkTTsoClassicsAL
set_option linter.unusedSimpArgs false
set_option linter.unusedVariables false
namespace Go.Proofs.Ytmcpdafmkkjlcaa.Z
open Go Go.RowKit
def wlC (b:Nat) (l:List Sp) (i:Nat):List SC:=[.sl (b+1,i,0) 1 0 (l.getD i sp0).s.words.length none,.sl (b+2,i,0) 4 0 (l.getD i sp0).s.regs.length none,.sl (b+3,i,0) 1 0 (l.getD i sp0).s.places.length none,.sl (b+4,i,0) 1 0 (l.getD i sp0).s.bufs.length none,.v (.int .i64 (l.getD i sp0).frm),.v (.int .i64 (l.getD i sp0).tn.thr),.v (.bool (l.getD i sp0).tn.out),.v (.int .i64 (l.getD i sp0).tn.addr)]
def wlW (l:List Sp) (k:Nat):Blk:=.ar (l.getD k sp0).s.words.length 1 (ats eI (l.getD k sp0).s.words 0) 3
def wlR (l:List Sp) (k:Nat):Blk:=.ar (l.getD k sp0).s.regs.length 4 (ats R4.enc (l.getD k sp0).s.regs r40) 68
def wlP (l:List Sp) (k:Nat):Blk:=.ar (l.getD k sp0).s.places.length 1 (ats eI (l.getD k sp0).s.places 0) 3
def wlB (b:Nat) (l:List Sp) (k:Nat):Blk:=.ar (l.getD k sp0).s.bufs.length 1 (fun e=>[.sl (b,k,e) 2 0 ((l.getD k sp0).s.bufs.getD e []).length none]) 86
def wlF (l:List Sp) (k e:Nat):Blk:=.ar ((l.getD k sp0).s.bufs.getD e []).length 2 (ats Pd.enc ((l.getD k sp0).s.bufs.getD e []) pd0) 88
def wlN (l:List Sp) (k:Nat):Nat:=(l.getD k sp0).s.bufs.length
def wlO (b:Nat) (l:List Sp):Own:=[(b,.one (.ar l.length 8 (wlC b l) 98)),(b+1,.fam l.length (wlW l)),(b+2,.fam l.length (wlR l)),(b+3,.fam l.length (wlP l)),(b+4,.fam l.length (wlB (b+5) l)),(b+5,.fam2 l.length (wlN l) (wlF l))]
def wlS (l:List Sp) (ts:List Tn):Own:=(3,.one (.bk [.xv (0,0,0),.xv (1,0,0)] 25)) :: wlO 11 l++[(17,.one (.mp (.arr 110 .i64) .i64 (seenF l))),(18,.one (.ar ts.length 3 (ats Tn.enc ts tn0) 44))]
def wlσ (n a w r p b f m t:Nat) (x:Nm):Nm :=
 if x.1=11 then (a,x.2) else if x.1=17 then (m,x.2) else if x.1=18 then (t,x.2)
 else if x.2.1=n then (if x.1=12 then (w,0,0) else if x.1=13 then (r,0,0) else if x.1=14 then (p,0,0) else if x.1=15 then (b,0,0) else if x.1=16 then (f,x.2.2,0) else x) else x
theorem st_ownG {C:Ctx} {E:Env} {S:St} {a:Act} {w:World} (hs:Sat C.B C.W C.w0 E S a w) {s:LS} (b n:Nat) (h6:look S.own b=some (.one (.ar s.words.length 1 (ats eI s.words 0) 3))) (h7:look S.own (b+1)=some (.one (.ar s.regs.length 4 (ats R4.enc s.regs r40) 68))) (h8:look S.own (b+2)=some (.one (.ar s.places.length 1 (ats eI s.places 0) 3)))
  (h9:look S.own (b+3)=some (.one (.ar s.bufs.length 1 (bfC n s) 86))) (h10:look S.own n=some (.fam s.bufs.length (bfO s))):StR w ((SV.agg (stC b s)).den E) s :=
 ⟨_,_,_,_,by simp [stC,SV.den],own_at (d:=0) hs b _ h6 rfl,own_at (d:=r40) hs (b+1) _ h7 rfl,own_at (d:=0) hs (b+2) _ h8 rfl,nest_own (d:=pd0) hs (b+3,0,0) n _ rfl (bfC n s) (by simp [atN,h9,Fm.get];rfl) (fun _ _=>rfl) (fun k hk=>by simp [atN,h10,Fm.get,hk,bfO];rfl)⟩
theorem nest_ownG {C:Ctx} {E:Env} {S:St} {a:Act} {w:World} (hs:Sat C.B C.W C.w0 E S a w) {α:Type} {enc:α→List Value} {s ty ty2:Nat} {ls:List (List α)} {d:α} (j:Nm) (ν:Nat→Nm) (n:Nat) (hn:n=ls.length) (at_:Nat→List SC) (hj:atN S.own j=some (.ar n 1 at_ ty)) (ha:∀ k,k<n→at_ k=[.sl (ν k) s 0 (ls.getD k []).length none])
  (hi:∀ k,k<ls.length→atN S.own (ν k)=some (.ar (ls.getD k []).length s (ats enc (ls.getD k []) d) ty2)):Nest w enc s ((SC.sl j 1 0 n none).den E) ls:=by
 subst hn
 refine ⟨(List.range ls.length).map fun k=>(SC.sl (ν k) s 0 (ls.getD k []).length none).den E,?_,by simp,fun k hk=>?_⟩
 ·obtain ⟨H,hH,_⟩:=hs.mem
  rcases ar_heap hH hj with ⟨h1,h2,h3,_⟩ | ⟨h1,h2,h3,cells,h4,h5,h6,h7⟩
  ·have h0:ls=[]:=List.eq_nil_of_length_eq_zero h3
   subst h0
   exact ⟨if E.ν j=true then none else some ⟨E.ρ j,0,none⟩,0,by simp [SC.den,h2],Nat.le_refl _,by simp [maxLen],Or.inl rfl⟩
  ·refine ⟨some ⟨E.ρ j,0,none⟩,E.κ j,by simp [SC.den,h1],by simpa using h2.1,h3,Or.inr ⟨_,_,rfl,fun e y hy q u hu=>?_⟩⟩
   rw [cell_of_row w _ _ _ ty (0,0) h5,Nat.zero_add]
   have he:e<ls.length:=by
    have:=(List.getElem?_eq_some_iff.1 hy).1
    simpa using this
   simp [he] at hy
   subst hy
   cases q with
   | zero =>
    simp only [one1',List.getElem?_cons_zero,Option.some.injEq] at hu
    subst hu
    exact ((h7 e he).2 0 _ (by rw [ha e he];simp [he])).1
   | succ q=>simp [one1'] at hu
 ·have:((List.range ls.length).map fun k=>(SC.sl (ν k) s 0 (ls.getD k []).length none).den E).getD k nest0=(SC.sl (ν k) s 0 (ls.getD k []).length none).den E:=by rw [List.getD_eq_getElem?_getD,List.getElem?_map,List.getElem?_range hk];rfl
  rw [this]
  exact arr_ownX (d:=d) hs (ν k) _ _ _ (hi k hk) rfl (Nat.le_refl _) fun _ _=>rfl
theorem st_ownL {C:Ctx} {E:Env} {S:St} {a:Act} {w:World} (hs:Sat C.B C.W C.w0 E S a w) {l:List Sp} (b i:Nat) (hi:i<l.length) (h1:look S.own (b+1)=some (.fam l.length (wlW l))) (h2:look S.own (b+2)=some (.fam l.length (wlR l))) (h3:look S.own (b+3)=some (.fam l.length (wlP l))) (h4:look S.own (b+4)=some (.fam l.length (wlB (b+5) l))) (h5:look S.own (b+5)=some (.fam2 l.length (wlN l) (wlF l))) :
  StR w ((SV.agg [.sl (b+1,i,0) 1 0 (l.getD i sp0).s.words.length none,.sl (b+2,i,0) 4 0 (l.getD i sp0).s.regs.length none,.sl (b+3,i,0) 1 0 (l.getD i sp0).s.places.length none,.sl (b+4,i,0) 1 0 (l.getD i sp0).s.bufs.length none]).den E) (l.getD i sp0).s :=
 ⟨_,_,_,_,by simp [SV.den],arr_ownX (d:=0) hs (b+1,i,0) _ _ _ (by simp only [atN,h1,Fm.get,hi,and_self,if_true];rfl) rfl (Nat.le_refl _) (fun _ _=>rfl),arr_ownX (d:=r40) hs (b+2,i,0) _ _ _ (by simp only [atN,h2,Fm.get,hi,and_self,if_true];rfl) rfl (Nat.le_refl _) (fun _ _=>rfl),arr_ownX (d:=0) hs (b+3,i,0) _ _ _ (by simp only [atN,h3,Fm.get,hi,and_self,if_true];rfl) rfl (Nat.le_refl _) (fun _ _=>rfl),
  nest_ownG (d:=pd0) hs (b+4,i,0) (fun e=>(b+5,i,e)) _ rfl _ (by simp only [atN,h4,Fm.get,hi,and_self,if_true];rfl) (fun _ _=>rfl) (fun k hk=>by simp only [atN,h5,Fm.get];rw [if_pos ⟨hi,hk⟩];rfl)⟩
theorem getD_app1 {α:Type} {l:List α} {x d:α} {k:Nat} (h:k<l.length):(l++[x]).getD k d=l.getD k d:=by
 rw [List.getD_eq_getElem?_getD,List.getElem?_append_left h,List.getD_eq_getElem?_getD]
theorem getD_app2 {α:Type} {l:List α} {x d:α} {k:Nat} (h:k=l.length):(l++[x]).getD k d=x:=by
 subst h;rw [List.getD_eq_getElem?_getD,List.getElem?_append_right (Nat.le_refl _)];simp
theorem atN_fam2 {α:Type} {i n:Nat} {m:Nat→Nat} {f:Nat→Nat→α} {r:List (Nat×Fm α)} {x:Nm} {A:α} (h:atN ((i,.fam2 n m f) :: r) x=some A):(∃ k e,k<n∧x=(i,k,e))∨atN r x=some A:=by
 obtain ⟨a,b,c⟩:=x
 simp only [atN,look_cons] at h ⊢
 by_cases e:i=a
 ·subst e
  rw [if_pos rfl] at h
  simp only [Fm.get] at h
  split at h
  ·next e=>exact Or.inl ⟨b,c,e.1,rfl⟩
  ·cases h
 ·rw [if_neg e] at h
  exact Or.inr h
theorem wl_push {l:List Sp} {x:Sp} {ts:List Tn} {O:Own} {n a w r p b f m t:Nat} {at_:Nat→List SC} {g:List Int→Option Int} (hn:n=l.length) (h3:look O 3=some (.one (.bk [.xv (0,0,0),.xv (1,0,0)] 25)))
  (ha:look O a=some (.one (.ar (n+1) 8 at_ 98))) (hat:∀ e,e<n→at_ e=wlC 11 l e) (hat2:at_ n=[.sl (w,0,0) 1 0 x.s.words.length none,.sl (r,0,0) 4 0 x.s.regs.length none,.sl (p,0,0) 1 0 x.s.places.length none,.sl (b,0,0) 1 0 x.s.bufs.length none,.v (.int .i64 x.frm),.v (.int .i64 x.tn.thr),.v (.bool x.tn.out),.v (.int .i64 x.tn.addr)])
  (hw:look O w=some (.one (.ar x.s.words.length 1 (ats eI x.s.words 0) 3))) (hr:look O r=some (.one (.ar x.s.regs.length 4 (ats R4.enc x.s.regs r40) 68))) (hp:look O p=some (.one (.ar x.s.places.length 1 (ats eI x.s.places 0) 3)))
  (hb:look O b=some (.one (.ar x.s.bufs.length 1 (bfC f x.s) 86))) (hf:look O f=some (.fam x.s.bufs.length (bfO x.s))) (hm:look O m=some (.one (.mp (.arr 110 .i64) .i64 g))) (hg:∀ q,g q=seenF (l++[x]) q) (ht:look O t=some (.one (.ar ts.length 3 (ats Tn.enc ts tn0) 44)))
  (hfam:0<n→look O 12=some (.fam n (wlW l))∧look O 13=some (.fam n (wlR l))∧look O 14=some (.fam n (wlP l))∧look O 15=some (.fam n (wlB 16 l))∧look O 16=some (.fam2 n (wlN l) (wlF l))) :
  OwnLe (· < 19) (wlσ n a w r p b f m t) O (wlS (l++[x]) ts):=by
 have hle:(l++[x]).length=n+1:=by simp [hn]
 have g2:∀ k,k=n→(l++[x]).getD k sp0=x:=fun k hk=>getD_app2 (by omega)
 have g1:∀ k,k<n→(l++[x]).getD k sp0=l.getD k sp0:=fun k hk=>getD_app1 (by omega)
 have hcase:∀ k,k<(l++[x]).length→(k=n)∨(k<n∧¬ k=n):=fun k hk=>by omega
 refine ⟨⟨of_decide_eq_true rfl,?_⟩,⟨of_decide_eq_true rfl,?_⟩,⟨of_decide_eq_true rfl,fun k hk=>?_⟩,⟨of_decide_eq_true rfl,fun k hk=>?_⟩,⟨of_decide_eq_true rfl,fun k hk=>?_⟩,⟨of_decide_eq_true rfl,fun k hk=>?_⟩,⟨of_decide_eq_true rfl,fun k e hk he=>?_⟩,⟨of_decide_eq_true rfl,?_⟩,⟨of_decide_eq_true rfl,?_⟩,trivial⟩
 ·have e3:wlσ n a w r p b f m t (3,0,0)=(3,0,0):=by simp [wlσ]
  have e0:wlσ n a w r p b f m t (0,0,0)=(0,0,0):=by simp [wlσ]
  have e1:wlσ n a w r p b f m t (1,0,0)=(1,0,0):=by simp [wlσ]
  simp [BlkLeO,BlkLe,atN,e3,e0,e1,h3,Fm.get,SC.renL,SC.ren,SC.okL,SC.okN]
 ·simp only [wlσ,reduceIte,atN,ha,Fm.get,and_self]
  refine ⟨by omega,rfl,rfl,fun e he=>⟨?_,by simp [wlC,SC.okL,SC.okN]⟩⟩
  rcases hcase e he with rfl | ⟨h,hne⟩
  ·rw [hat2];simp only [wlC,g2 e rfl,SC.renL,SC.ren,wlσ,Nat.reduceAdd,Nat.reduceEqDiff,reduceIte]
  ·rw [hat e h];simp only [wlC,g1 e h,SC.renL,SC.ren,wlσ,Nat.reduceAdd,Nat.reduceEqDiff,reduceIte,hne]
 ·rcases hcase k hk with rfl | ⟨h,hne⟩
  ·simp only [wlσ,Nat.reduceEqDiff,reduceIte,atN,hw,Fm.get,and_self,wlW,g2 k rfl];exact arLe_same
  ·simp only [wlσ,Nat.reduceEqDiff,reduceIte,hne,atN,(hfam (by omega)).1,Fm.get,h,and_self,wlW,g1 k h];exact arLe_same
 ·rcases hcase k hk with rfl | ⟨h,hne⟩
  ·simp only [wlσ,Nat.reduceEqDiff,reduceIte,atN,hr,Fm.get,and_self,wlR,g2 k rfl];exact arLe_same
  ·simp only [wlσ,Nat.reduceEqDiff,reduceIte,hne,atN,(hfam (by omega)).2.1,Fm.get,h,and_self,wlR,g1 k h];exact arLe_same
 ·rcases hcase k hk with rfl | ⟨h,hne⟩
  ·simp only [wlσ,Nat.reduceEqDiff,reduceIte,atN,hp,Fm.get,and_self,wlP,g2 k rfl];exact arLe_same
  ·simp only [wlσ,Nat.reduceEqDiff,reduceIte,hne,atN,(hfam (by omega)).2.2.1,Fm.get,h,and_self,wlP,g1 k h];exact arLe_same
 ·rcases hcase k hk with rfl | ⟨h,hne⟩
  ·simp only [wlσ,Nat.reduceEqDiff,reduceIte,atN,hb,Fm.get,and_self,wlB,g2 k rfl]
   exact ⟨Nat.le_refl _,rfl,rfl,fun e he=>⟨by simp [bfC,SC.renL,SC.ren,wlσ],by simp [SC.okL,SC.okN]⟩⟩
  ·simp only [wlσ,Nat.reduceEqDiff,reduceIte,hne,atN,(hfam (by omega)).2.2.2.1,Fm.get,h,and_self,wlB,g1 k h]
   exact ⟨Nat.le_refl _,rfl,rfl,fun e he=>⟨by simp [SC.renL,SC.ren,wlσ,hne],by simp [SC.okL,SC.okN]⟩⟩
 ·rcases hcase k hk with rfl | ⟨h,hne⟩
  ·simp only [wlN,g2 k rfl] at he
   simp only [wlσ,Nat.reduceEqDiff,reduceIte,atN,hf,Fm.get,he,and_self,wlF,g2 k rfl,bfO];exact arLe_same
  ·simp only [wlN,g1 k h] at he
   simp only [wlσ,Nat.reduceEqDiff,reduceIte,hne,atN,(hfam (by omega)).2.2.2.2,Fm.get,h,wlN,he,and_self,wlF,g1 k h];exact arLe_same
 ·simp only [wlσ,Nat.reduceEqDiff,reduceIte,atN,hm,Fm.get,and_self]
  exact ⟨rfl,rfl,hg⟩
 ·simp only [wlσ,Nat.reduceEqDiff,reduceIte,atN,ht,Fm.get,and_self]
  exact arLe_same
def wlρ (n a w r p b f m t:Nat) (y:Nm):Nm:=if y.1=3 then y else if y.1=a then (11,y.2) else if y.1=w then (12,n,0) else if y.1=r then (13,n,0) else if y.1=p then (14,n,0) else if y.1=b then (15,n,0) else if y.1=f then (16,n,y.2.1) else if y.1=m then (17,y.2) else if y.1=t then (18,y.2) else y
theorem wl_inj {l:List Sp} {ts:List Tn} {n a w r p b f m t:Nat} (hn:l.length=n+1) (hd:[3,a,w,r,p,b,f,m,t].Nodup) (hno:n=0∨∀ z∈[a,w,r,p,b,f,m,t],z<12∨16<z):InjN (wlσ n a w r p b f m t) (wlS l ts):=by
 have key:∀ x c,atN (wlS l ts) x=some c→wlρ n a w r p b f m t (wlσ n a w r p b f m t x)=x:=by
  intro x c hx
  simp only [List.nodup_cons,List.mem_cons,List.not_mem_nil,or_false,not_or,not_false_eq_true,List.nodup_nil,and_true,and_self] at hd
  obtain ⟨⟨a1,a2,a3,a4,a5,a6,a7,a8⟩,⟨b1,b2,b3,b4,b5,b6,b7⟩,⟨c1,c2,c3,c4,c5,c6⟩,⟨d1,d2,d3,d4,d5⟩,⟨e1,e2,e3,e4⟩,⟨f1,f2,f3⟩,⟨i1,i2⟩,j1⟩:=hd
  have hno2:∀ k,k<n+1→¬ k=n→∀ q,12≤q→q≤16→¬ q=a∧¬ q=w∧¬ q=r∧¬ q=p∧¬ q=b∧¬ q=f∧¬ q=m∧¬ q=t:=fun k hk hne q h1 h2=>by
   rcases hno with h | h
   ·omega
   ·have z:=fun y hy=>h y hy
    simp only [List.mem_cons,List.not_mem_nil,or_false,forall_eq_or_imp,forall_eq] at z
    omega
  simp only [wlS,wlO,List.cons_append,List.nil_append] at hx
  rcases atN_one hx with ⟨rfl,_⟩ | hx
  ·simp [wlσ,wlρ]
  rcases atN_one hx with ⟨rfl,_⟩ | hx
  ·simp [wlσ,wlρ,Ne.symm a1]
  rcases atN_fam hx with ⟨k,hk,rfl,_⟩ | hx
  ·by_cases hkn:k=n
   ·subst hkn;simp [wlσ,wlρ,Ne.symm a2,Ne.symm b1]
   ·obtain ⟨y1,y2,y3,y4,y5,y6,y7,y8⟩:=hno2 k (by omega) hkn 12 (by omega) (by omega)
    simp [wlσ,wlρ,hkn,y1,y2,y3,y4,y5,y6,y7,y8]
  rcases atN_fam hx with ⟨k,hk,rfl,_⟩ | hx
  ·by_cases hkn:k=n
   ·subst hkn;simp [wlσ,wlρ,Ne.symm a3,Ne.symm b2,Ne.symm c1]
   ·obtain ⟨y1,y2,y3,y4,y5,y6,y7,y8⟩:=hno2 k (by omega) hkn 13 (by omega) (by omega)
    simp [wlσ,wlρ,hkn,y1,y2,y3,y4,y5,y6,y7,y8]
  rcases atN_fam hx with ⟨k,hk,rfl,_⟩ | hx
  ·by_cases hkn:k=n
   ·subst hkn;simp [wlσ,wlρ,Ne.symm a4,Ne.symm b3,Ne.symm c2,Ne.symm d1]
   ·obtain ⟨y1,y2,y3,y4,y5,y6,y7,y8⟩:=hno2 k (by omega) hkn 14 (by omega) (by omega)
    simp [wlσ,wlρ,hkn,y1,y2,y3,y4,y5,y6,y7,y8]
  rcases atN_fam hx with ⟨k,hk,rfl,_⟩ | hx
  ·by_cases hkn:k=n
   ·subst hkn;simp [wlσ,wlρ,Ne.symm a5,Ne.symm b4,Ne.symm c3,Ne.symm d2,Ne.symm e1]
   ·obtain ⟨y1,y2,y3,y4,y5,y6,y7,y8⟩:=hno2 k (by omega) hkn 15 (by omega) (by omega)
    simp [wlσ,wlρ,hkn,y1,y2,y3,y4,y5,y6,y7,y8]
  rcases atN_fam2 hx with ⟨k,e,hk,rfl⟩ | hx
  ·by_cases hkn:k=n
   ·subst hkn;simp [wlσ,wlρ,Ne.symm a6,Ne.symm b5,Ne.symm c4,Ne.symm d3,Ne.symm e2,Ne.symm f1]
   ·obtain ⟨y1,y2,y3,y4,y5,y6,y7,y8⟩:=hno2 k (by omega) hkn 16 (by omega) (by omega)
    simp [wlσ,wlρ,hkn,y1,y2,y3,y4,y5,y6,y7,y8]
  rcases atN_one hx with ⟨rfl,_⟩ | hx
  ·simp [wlσ,wlρ,Ne.symm a7,Ne.symm b6,Ne.symm c5,Ne.symm d4,Ne.symm e3,Ne.symm f2,Ne.symm i1]
  rcases atN_one hx with ⟨rfl,_⟩ | hx
  ·simp [wlσ,wlρ,Ne.symm a8,Ne.symm b7,Ne.symm c6,Ne.symm d5,Ne.symm e4,Ne.symm f3,Ne.symm i2,Ne.symm j1]
  ·exact (atN_nil hx).elim
 intro x y c d hx hy e
 have h1:=key x c hx
 have h2:=key y d hy
 rw [← h1,← h2,e]
theorem wlσ_lo {n a w r p b f m t:Nat} {x:Nm} (h:x.1<11):wlσ n a w r p b f m t x=x:=by
 unfold wlσ
 rw [if_neg (by omega),if_neg (by omega),if_neg (by omega)]
 split
 ·rw [if_neg (by omega),if_neg (by omega),if_neg (by omega),if_neg (by omega),if_neg (by omega)]
 ·rfl
theorem wl_arrs {L:Lt} {n a w r p b f m t:Nat} {arrs:List (Nat×Fm ArrF)} (h0:look arrs 0=some (.one (arrOf eI 1 L.words 0))) (h1:look arrs 1=some (.one (nestF 2 L.thr.length))) (h2:look arrs 2=some (.fam L.thr.length fun k=>arrOf Ins.enc 7 (L.thr.getD k []) in0)):ArrsLe (· < 19) (wlσ n a w r p b f m t) arrs (ltA 0 L):=by
 refine ⟨⟨of_decide_eq_true rfl,?_⟩,⟨of_decide_eq_true rfl,?_⟩,⟨of_decide_eq_true rfl,fun k hk=>?_⟩,trivial⟩
 ·rw [wlσ_lo (by decide)];simp only [atN,h0,Fm.get,and_self,if_true];exact arrLe_of
 ·rw [wlσ_lo (by decide)];simp only [atN,Nat.zero_add,h1,Fm.get,and_self,if_true]
  exact ⟨rfl,rfl,fun e _=>⟨by simp only [nestF,SC.renL,SC.ren];rw [wlσ_lo (show (2,e,0).1<11 from (by decide:2<11))],by simp [nestF,SC.okL,SC.okN]⟩,Nat.le_refl _⟩
 ·rw [wlσ_lo (by simp)];simp only [atN,Nat.zero_add,h2,Fm.get,hk,and_self,if_true];exact arrLe_of
theorem wl_same {p:Nat→Prop} {τ:Nat→Nat} {own:Own} {l:List Sp} {ts:List Tn} (hp:∀ i,i<19→p i) (hτ:∀ i,i=0∨i=1∨i=3∨11≤i∧i≤18→τ i=i) (h3:look own 3=some (.one (.bk [.xv (0,0,0),.xv (1,0,0)] 25))) (h11:look own 11=some (.one (.ar l.length 8 (wlC 11 l) 98))) (h12:look own 12=some (.fam l.length (wlW l))) (h13:look own 13=some (.fam l.length (wlR l))) (h14:look own 14=some (.fam l.length (wlP l))) (h15:look own 15=some (.fam l.length (wlB 16 l))) (h16:look own 16=some (.fam2 l.length (wlN l) (wlF l)))
  (h17:look own 17=some (.one (.mp (.arr 110 .i64) .i64 (seenF l)))) (h18:look own 18=some (.one (.ar ts.length 3 (ats Tn.enc ts tn0) 44))):OwnLe p (idσ τ) own (wlS l ts):=by
 have q0:=hτ 0 (by decide);have q1:=hτ 1 (by decide);have q3:=hτ 3 (by decide)
 have q11:=hτ 11 (by decide);have q12:=hτ 12 (by decide);have q13:=hτ 13 (by decide);have q14:=hτ 14 (by decide);have q15:=hτ 15 (by decide);have q16:=hτ 16 (by decide);have q17:=hτ 17 (by decide);have q18:=hτ 18 (by decide)
 have p':=fun i h=>hp i h
 refine ⟨⟨p' 3 (by decide),?_⟩,⟨p' 11 (by decide),?_⟩,⟨p' 12 (by decide),fun k hk=>?_⟩,⟨p' 13 (by decide),fun k hk=>?_⟩,⟨p' 14 (by decide),fun k hk=>?_⟩,⟨p' 15 (by decide),fun k hk=>?_⟩,⟨p' 16 (by decide),fun k e hk he=>?_⟩,⟨p' 17 (by decide),?_⟩,⟨p' 18 (by decide),?_⟩,trivial⟩
 ·simp only [idσ,q3,atN,h3,Fm.get,and_self,if_true]
  exact ⟨by simp [SC.renL,SC.ren,idσ,q0,q1],rfl,by simp [SC.okL,SC.okN,p' 0,p' 1]⟩
 ·simp only [idσ,q11,atN,h11,Fm.get,and_self,if_true]
  exact ⟨Nat.le_refl _,rfl,rfl,fun e _=>⟨by simp only [wlC,SC.renL,SC.ren,idσ,Nat.reduceAdd,q12,q13,q14,q15],by simp [wlC,SC.okL,SC.okN,p' 12,p' 13,p' 14,p' 15]⟩⟩
 ·simp only [idσ,Nat.reduceAdd,q12,atN,h12,Fm.get,hk,and_self,if_true];exact arLe_same
 ·simp only [idσ,Nat.reduceAdd,q13,atN,h13,Fm.get,hk,and_self,if_true];exact arLe_same
 ·simp only [idσ,Nat.reduceAdd,q14,atN,h14,Fm.get,hk,and_self,if_true];exact arLe_same
 ·simp only [idσ,Nat.reduceAdd,q15,atN,h15,Fm.get,hk,and_self,if_true]
  exact ⟨Nat.le_refl _,rfl,rfl,fun e _=>⟨by simp only [SC.renL,SC.ren,idσ,Nat.reduceAdd,q16],by simp [SC.okL,SC.okN,p' 16]⟩⟩
 ·simp only [idσ,Nat.reduceAdd,q16,atN,h16,Fm.get,hk,he,and_self,if_true];exact arLe_same
 ·simp only [idσ,q17,atN,h17,Fm.get,and_self,if_true];exact ⟨rfl,rfl,fun _=>rfl⟩
 ·simp only [idσ,q18,atN,h18,Fm.get,and_self,if_true];exact arLe_same
theorem wfT_sz {L:Lt} {o:Int} {s:LS} (hL:checkB L=true) (h:WfT L o s):LsSz s:=by
 have z:=sz_at hL
 have h1:=h.wf.w;have h2:=h.wf.r;have h3:=h.wf.p;have h4:=h.wf.b
 exact ⟨by omega,by omega,by omega,by omega,fun k hk=>by have:=(h.wf.thr k (by omega)).b;omega⟩
def wlTm (o:Int) (n m i:Nat):List (Nat×SV):=[(1,.c (.v (.int .i64 o))),(2,.c (.ptr (3,0,0) 0)),(9,.c (.mp (17,0,0))),(10,.c (.sl (11,0,0) 8 0 n none)),(11,.c (.sl (18,0,0) 3 0 m none)),(12,.c (.v (.int .i64 i)))]
def ir49:IR:=(.seq (.ops [⟨(some 2),(.box 25 (.t 0)),none⟩,⟨(some 4),(.mv (.k (.c (.v (.slice none 0 0))))),none⟩,⟨(some 5),(.mv (.k (.c (.v (.int .i64 0))))),none⟩]) (.kill [0,3,4,5,6,7,8,9,10,11] (.seq (.seq (.ops [⟨(some 17),(.ld true 2 (.t 2)),none⟩,⟨(some 18),(.mv (.t 1)),none⟩,⟨(some 19),(.call 39 [(.t 17),(.t 18)]),none⟩,⟨(some 6),(.mv (.t 19)),none⟩]) (.kill [17,18,19] (.seq (.ops [⟨(some 20),(.mv (.t 6)),none⟩,⟨(some 21),(.bin .neq (.t 20) (.k (.c (.v (.int .i64 0))))),none⟩]) (.kill [20] (.cond (.t 21) (.seq (.ops [⟨(some 22),(.mv (.t 6)),none⟩,⟨(some 4),(.mv (.k (.c (.v (.slice none 0 0))))),none⟩,⟨(some 5),(.mv (.t 22)),none⟩]) (.kill [1,2,6,21,22] .ret)) .skip))))) (.kill [4,5,6,21] (.seq (.ops [⟨(some 24),(.ld true 2 (.t 2)),none⟩,⟨(some 25),(.call 19 [(.t 24)]),none⟩,⟨(some 23),(.mv (.t 25)),none⟩,⟨(some 26),(.ext 0 (.t 23)),none⟩,⟨(some 27),(.ext 1 (.t 23)),none⟩,⟨(some 7),(.new 32 [(.v (.slice none 0 0)),(.v (.slice none 0 0)),(.v (.slice none 0 0)),(.v (.slice none 0 0))]),none⟩,⟨none,(.st 4 (.t 7) (.t 26)),none⟩,⟨(some 8),(.mv (.t 27)),none⟩]) (.kill [8,23,24,25,26,27] (.seq (.ops [⟨(some 28),(.mkm (.arr 110 .i64) .i64),none⟩,⟨(some 29),(.ld true 4 (.t 7)),none⟩,⟨(some 30),(.call 83 [(.t 29)]),none⟩,⟨none,(.mup (.arr 110 .i64) .i64 (.t 28) (.t 30) (.k (.c (.v (.int .i64 1))))),none⟩,⟨(some 31),(.mv (.t 28)),none⟩,⟨(some 9),(.mv (.t 31)),none⟩]) (.kill [28,29,30,31] (.seq (.ops [⟨(some 32),(.ld true 4 (.t 7)),none⟩,⟨(some 33),(.build [(.v (.slice none 0 0)),(.v (.slice none 0 0)),(.v (.slice none 0 0)),(.v (.slice none 0 0)),(.v (.int .i64 0)),(.v (.int .i64 0)),(.v (.bool false)),(.v (.int .i64 0))] [(0,(4,(.t 32))),(4,(1,(.k (.c (.v (.int .i64 (-1)))))))]),none⟩,⟨(some 34),(.mkSl 98 1 8 [(.v (.slice none 0 0)),(.v (.slice none 0 0)),(.v (.slice none 0 0)),(.v (.slice none 0 0)),(.v (.int .i64 0)),(.v (.int .i64 0)),(.v (.bool false)),(.v (.int .i64 0))] [(0,(8,(.t 33)))]),none⟩,⟨(some 10),(.mv (.t 34)),none⟩]) (.kill [7,32,33,34] (.seq (.ops [⟨(some 35),(.ld true 2 (.t 2)),none⟩,⟨(some 36),(.mv (.t 1)),none⟩,⟨(some 37),(.call 84 [(.t 35),(.t 36)]),none⟩,⟨(some 11),(.mv (.t 37)),none⟩]) (.kill [35,36,37] (.seq (.seq (.ops [⟨(some 12),(.mv (.k (.c (.v (.int .i64 0))))),none⟩]) (.blk 0 (.loop (.seq (.seq (.ops [⟨(some 38),(.mv (.t 12)),none⟩,⟨(some 39),(.mv (.t 10)),none⟩,⟨(some 40),(.len (.t 39)),none⟩,⟨(some 41),(.bin .lss (.t 38) (.t 40)),none⟩]) (.kill [4,5,14,15,16,38,39,40,42,43,44,45,46,47,48,49,50,51,52,53,54,55,56,57,58,59,60,61,62,63,64,65,66,67,68,69,70,71,72,73,74,75,76,77,78,79] (.cond (.t 41) .skip (.exit 0)))) (.kill [41] (.seq (.blk 1 (.seq (.ops [⟨(some 44),(.mv (.t 11)),none⟩,⟨(some 45),(.len (.t 44)),none⟩,⟨(some 46),(.mv (.k (.c (.v (.int .i64 0))))),none⟩]) (.blk 2 (.loop (.seq (.ops [⟨(some 47),(.bin .lss (.t 46) (.t 45)),none⟩]) (.kill [4,5,14,15,16,48,49,50,51,52,53,54,55,56,57,58,59,60,61,62,63,64,65,66,67,68,69,70,71,72,73,74,75,76,77,78,79] (.seq (.cond (.t 47) .skip (.exit 2)) (.kill [47] (.seq (.blk 3 (.seq (.ops [⟨(some 48),(.ia 3 (.t 44) (.t 46)),none⟩,⟨(some 49),(.ld true 3 (.t 48)),none⟩,⟨(some 14),(.new 44 [(.v (.int .i64 0)),(.v (.bool false)),(.v (.int .i64 0))]),none⟩,⟨none,(.st 3 (.t 14) (.t 49)),none⟩]) (.kill [48,49] (.seq (.ops [⟨(some 50),(.mv (.t 10)),none⟩,⟨(some 51),(.mv (.t 12)),none⟩,⟨(some 52),(.ia 8 (.t 50) (.t 51)),none⟩,⟨(some 53),(.fa 0 (.t 52)),none⟩,⟨(some 54),(.ld true 4 (.t 53)),none⟩,⟨(some 55),(.call 46 [(.t 54)]),none⟩,⟨(some 15),(.new 32 [(.v (.slice none 0 0)),(.v (.slice none 0 0)),(.v (.slice none 0 0)),(.v (.slice none 0 0))]),none⟩,⟨none,(.st 4 (.t 15) (.t 55)),none⟩]) (.kill [50,51,52,53,54,55] (.seq (.seq (.ops [⟨(some 56),(.ld true 2 (.t 2)),none⟩,⟨(some 57),(.mv (.t 1)),none⟩,⟨(some 58),(.ld true 3 (.t 14)),none⟩,⟨(some 59),(.call 40 [(.t 56),(.t 57),(.t 15),(.t 58)]),none⟩,⟨(some 60),(.un .not (.t 59)),none⟩]) (.kill [56,57,58,59] (.cond (.t 60) (.exit 3) .skip))) (.kill [60] (.seq (.ops [⟨(some 61),(.ld true 4 (.t 15)),none⟩,⟨(some 62),(.call 83 [(.t 61)]),none⟩,⟨(some 16),(.new 132 [(.v (.int .i64 0)),(.v (.int .i64 0)),(.v (.int .i64 0)),(.v (.int .i64 0)),(.v (.int .i64 0)),(.v (.int .i64 0)),(.v (.int .i64 0)),(.v (.int .i64 0)),(.v (.int .i64 0)),(.v (.int .i64 0)),(.v (.int .i64 0)),(.v (.int .i64 0)),(.v (.int .i64 0)),(.v (.int .i64 0)),(.v (.int .i64 0)),(.v (.int .i64 0)),(.v (.int .i64 0)),(.v (.int .i64 0)),(.v (.int .i64 0)),(.v (.int .i64 0)),(.v (.int .i64 0)),(.v (.int .i64 0)),(.v (.int .i64 0)),(.v (.int .i64 0)),(.v (.int .i64 0)),(.v (.int .i64 0)),(.v (.int .i64 0)),(.v (.int .i64 0)),(.v (.int .i64 0)),(.v (.int .i64 0)),(.v (.int .i64 0)),(.v (.int .i64 0)),(.v (.int .i64 0)),(.v (.int .i64 0)),(.v (.int .i64 0)),(.v (.int .i64 0)),(.v (.int .i64 0)),(.v (.int .i64 0)),(.v (.int .i64 0)),(.v (.int .i64 0)),(.v (.int .i64 0)),(.v (.int .i64 0)),(.v (.int .i64 0)),(.v (.int .i64 0)),(.v (.int .i64 0)),(.v (.int .i64 0)),(.v (.int .i64 0)),(.v (.int .i64 0)),(.v (.int .i64 0)),(.v (.int .i64 0)),(.v (.int .i64 0)),(.v (.int .i64 0)),(.v (.int .i64 0)),(.v (.int .i64 0)),(.v (.int .i64 0)),(.v (.int .i64 0)),(.v (.int .i64 0)),(.v (.int .i64 0)),(.v (.int .i64 0)),(.v (.int .i64 0)),(.v (.int .i64 0)),(.v (.int .i64 0)),(.v (.int .i64 0)),(.v (.int .i64 0)),(.v (.int .i64 0)),(.v (.int .i64 0)),(.v (.int .i64 0)),(.v (.int .i64 0)),(.v (.int .i64 0)),(.v (.int .i64 0)),(.v (.int .i64 0)),(.v (.int .i64 0)),(.v (.int .i64 0)),(.v (.int .i64 0)),(.v (.int .i64 0)),(.v (.int .i64 0)),(.v (.int .i64 0)),(.v (.int .i64 0)),(.v (.int .i64 0)),(.v (.int .i64 0)),(.v (.int .i64 0)),(.v (.int .i64 0)),(.v (.int .i64 0)),(.v (.int .i64 0)),(.v (.int .i64 0)),(.v (.int .i64 0)),(.v (.int .i64 0)),(.v (.int .i64 0)),(.v (.int .i64 0)),(.v (.int .i64 0)),(.v (.int .i64 0)),(.v (.int .i64 0)),(.v (.int .i64 0)),(.v (.int .i64 0)),(.v (.int .i64 0)),(.v (.int .i64 0)),(.v (.int .i64 0)),(.v (.int .i64 0)),(.v (.int .i64 0)),(.v (.int .i64 0)),(.v (.int .i64 0)),(.v (.int .i64 0)),(.v (.int .i64 0)),(.v (.int .i64 0)),(.v (.int .i64 0)),(.v (.int .i64 0)),(.v (.int .i64 0)),(.v (.int .i64 0)),(.v (.int .i64 0)),(.v (.int .i64 0))]),none⟩,⟨none,(.st 110 (.t 16) (.t 62)),none⟩]) (.kill [61,62] (.seq (.seq (.ops [⟨(some 63),(.mv (.t 9)),none⟩,⟨(some 64),(.ld true 110 (.t 16)),none⟩,⟨(some 65),(.lkp (.arr 110 .i64) .i64 false (.t 63) (.t 64)),none⟩,⟨(some 66),(.bin .gtr (.t 65) (.k (.c (.v (.int .i64 0))))),none⟩]) (.kill [63,64,65] (.cond (.t 66) (.exit 3) .skip))) (.kill [66] (.seq (.ops [⟨(some 67),(.mv (.t 9)),none⟩,⟨(some 68),(.ld true 110 (.t 16)),none⟩,⟨none,(.mup (.arr 110 .i64) .i64 (.t 67) (.t 68) (.k (.c (.v (.int .i64 1))))),none⟩]) (.kill [16,67,68] (.seq (.seq (.ops [⟨(some 69),(.mv (.t 10)),none⟩,⟨(some 70),(.len (.t 69)),none⟩,⟨(some 71),(.bin .eql (.t 70) (.k (.c (.v (.int .i64 30000))))),none⟩]) (.kill [69,70] (.cond (.t 71) (.seq (.ops [⟨(some 4),(.mv (.k (.c (.v (.slice none 0 0))))),none⟩,⟨(some 5),(.mv (.k (.c (.v (.int .i64 192))))),none⟩]) (.kill [1,2,9,10,11,12,14,15,44,45,46,71] .ret)) .skip))) (.kill [4,5,71] (.ops [⟨(some 72),(.mv (.t 10)),none⟩,⟨(some 73),(.ld true 4 (.t 15)),none⟩,⟨(some 74),(.mv (.t 12)),none⟩,⟨(some 75),(.ld true 3 (.t 14)),none⟩,⟨(some 76),(.build [(.v (.slice none 0 0)),(.v (.slice none 0 0)),(.v (.slice none 0 0)),(.v (.slice none 0 0)),(.v (.int .i64 0)),(.v (.int .i64 0)),(.v (.bool false)),(.v (.int .i64 0))] [(0,(4,(.t 73))),(4,(1,(.t 74))),(5,(3,(.t 75)))]),none⟩,⟨(some 77),(.mkSl 98 1 8 [(.v (.slice none 0 0)),(.v (.slice none 0 0)),(.v (.slice none 0 0)),(.v (.slice none 0 0)),(.v (.int .i64 0)),(.v (.int .i64 0)),(.v (.bool false)),(.v (.int .i64 0))] [(0,(8,(.t 76)))]),none⟩,⟨(some 78),(.app 98 8 128 [(.v (.slice none 0 0)),(.v (.slice none 0 0)),(.v (.slice none 0 0)),(.v (.slice none 0 0)),(.v (.int .i64 0)),(.v (.int .i64 0)),(.v (.bool false)),(.v (.int .i64 0))] (.t 72) (.t 77)),none⟩,⟨(some 10),(.mv (.t 78)),none⟩])))))))))))))))) (.kill [4,5,14,15,16,48,49,50,51,52,53,54,55,56,57,58,59,60,61,62,63,64,65,66,67,68,69,70,71,72,73,74,75,76,77,78] (.ops [⟨(some 79),(.bin .add (.t 46) (.k (.c (.v (.int .i64 1))))),none⟩,⟨(some 46),(.mv (.t 79)),none⟩]))))))))))) (.kill [4,5,14,15,16,44,45,46,47,48,49,50,51,52,53,54,55,56,57,58,59,60,61,62,63,64,65,66,67,68,69,70,71,72,73,74,75,76,77,78,79] (.ops [⟨(some 42),(.mv (.t 12)),none⟩,⟨(some 43),(.bin .add (.t 42) (.k (.c (.v (.int .i64 1))))),none⟩,⟨(some 12),(.mv (.t 43)),none⟩])))))))) (.kill [1,2,4,5,9,11,12,14,15,16,38,39,40,41,42,43,44,45,46,47,48,49,50,51,52,53,54,55,56,57,58,59,60,61,62,63,64,65,66,67,68,69,70,71,72,73,74,75,76,77,78,79] (.seq (.ops [⟨(some 80),(.mv (.t 10)),none⟩,⟨(some 4),(.mv (.t 80)),none⟩,⟨(some 5),(.mv (.k (.c (.v (.int .i64 0))))),none⟩]) (.kill [10,80] .ret))))))))))))))))
def rs49:List RS:=[(.t 4),(.t 5)]
def nt49:Nat:=81
def wlT (l:List Sp) (b:Nat):SV:=.tup [(false,[.sl (b,0,0) 8 0 l.length none]),(false,[.v (.int .i64 0)])]
def WalkR (L:Lt) (o:Int) (w:World) (e:Ending) (w' : World):Prop:=match bfs L o with
 | some l=>RetN w 6 (wlT l) (fun b=>wlO b l) e w'
 | none=>RetV w (.tuple #[.slice none 0 0,.int .i64 192]) e w'
theorem ints_of (l:List Int):intsOf .i64 (l.map fun x=>SC.v (.int .i64 x))=some l:=by
 induction l with
 | nil=>rfl
 | cons x l ih=>simp only [List.map_cons,intsOf,ih,reduceIte,Option.map_some]
def picV (s:LS):SV:=.agg ((picS s).map fun x=>.v (.int .i64 x))
theorem picV_den (s:LS) (E:Env):(picV s).den E = .agg ((picS s).map (Value.int .i64)).toArray:=by simp [picV,SV.den,SC.den,Function.comp_def]
theorem pic_len {L:Lt} {o:Int} {s:LS} (hL:checkB L=true) (h:WfT L o s):(picS s).length=110:=padN_len (by
 have h1:=flat_le hL h (Nat.le_refl _)
 have h2:=(sz_at hL).2.1
 unfold flatS
 rw [h.wf.r]
 omega)
set_option maxRecDepth 100000 in
set_option maxHeartbeats 2000000 in
theorem walk_calls (w:World) (v:Value) (L:Lt) (o:Int) (hL:checkB L=true) (ho:1≤o∧o≤3) (hok:LtOk L) (h:LtR w v L):Calls Try.prog 49 #[v,.int .i64 o] w (WalkR L o w):=by
 refine enterLt (A:=[]) (c:=ir49) (rs:=rs49) (nt:=nt49) h [.agg (ltS 0),.c (.v (.int .i64 o))] _ Try.func49 rfl (by kernel_rfl) (by kernel_rfl) rfl (fun E' h0=>by simp only [List.map_cons,List.map_nil,h0];rfl) (of_decide_eq_true rfl) ?_
 generalize hR:WalkR L o w=R
 simp (maxSteps:=2000000) only [ir49,nt49,rs49,go_sem,↓reduceIte,Nat.reduceLT,Nat.reduceLeDiff,Nat.reduceAdd,Nat.reduceSub,Nat.reduceMul,Nat.reduceEqDiff,reduceCtorEq,Int.reduceToNat,Int.reduceEq,Int.reduceBEq,Int.reduceBNe,Int.reduceLT,Int.reduceLE,Int.reduceNeg,Int.reduceAdd,Int.reduceSub,Int.reduceMul,Int.reduceGE,Int.reduceGT,endO,ltA,ltS]
 refine callV (.c (.v (.int .i64 0))) _ (fun E=>rfl) (fun E a w' hs=>by
  have:=look_calls w' _ L o hok (ltL_at hs rfl rfl rfl)
  rw [if_pos hL,if_pos ho] at this
  exact this) ?_
 simp (maxSteps:=2000000) only [go_sem,↓reduceIte,Nat.reduceLT,Nat.reduceLeDiff,Nat.reduceAdd,Nat.reduceSub,Nat.reduceMul,Nat.reduceEqDiff,reduceCtorEq,Int.reduceToNat,Int.reduceEq,Int.reduceBEq,Int.reduceBNe,Int.reduceLT,Int.reduceLE,Int.reduceNeg,Int.reduceAdd,Int.reduceSub,Int.reduceMul,Int.reduceGE,Int.reduceGT,endO]
 refine callN 5 (bgT L) (fun b=>stO b (beginS L)) (fun E a w' hs=>begin_calls w' _ L hL hok (ltL_at hs rfl rfl rfl)) ?_
 simp (maxSteps:=2000000) only [go_sem,↓reduceIte,Nat.reduceLT,Nat.reduceLeDiff,Nat.reduceAdd,Nat.reduceSub,Nat.reduceMul,Nat.reduceEqDiff,reduceCtorEq,Int.reduceToNat,Int.reduceEq,Int.reduceBEq,Int.reduceBNe,Int.reduceLT,Int.reduceLE,Int.reduceNeg,Int.reduceAdd,Int.reduceSub,Int.reduceMul,Int.reduceGE,Int.reduceGT,endO,bgT,stO,stC]
 refine callV (picV (beginS L)) _ (picV_den _) (fun E a w' hs=>pic_calls w' _ L o (beginS L) hL (begin_wfT o) (st_ownG hs 4 8 rfl rfl rfl rfl rfl)) ?_
 have hpl:=pic_len hL (begin_wfT (L:=L) o)
 simp (maxSteps:=2000000) only [go_sem,↓reduceIte,Nat.reduceLT,Nat.reduceLeDiff,Nat.reduceAdd,Nat.reduceSub,Nat.reduceMul,Nat.reduceEqDiff,reduceCtorEq,Int.reduceToNat,Int.reduceEq,Int.reduceBEq,Int.reduceBNe,Int.reduceLT,Int.reduceLE,Int.reduceNeg,Int.reduceAdd,Int.reduceSub,Int.reduceMul,Int.reduceGE,Int.reduceGT,endO,picV,ints_of]
 refine And.intro hpl (And.intro (by decide) ?_)
 refine callN 1 (lsT 3 (turnsL L o).length) (lsO 44 3 Tn.enc (turnsL L o) tn0) (fun E a w' hs=>turns_calls w' _ L o hL (ltL_at hs rfl rfl rfl)) ?_
 simp (maxSteps:=2000000) only [go_sem,↓reduceIte,Nat.reduceLT,Nat.reduceLeDiff,Nat.reduceAdd,Nat.reduceSub,Nat.reduceMul,Nat.reduceEqDiff,reduceCtorEq,Int.reduceToNat,Int.reduceEq,Int.reduceBEq,Int.reduceBNe,Int.reduceLT,Int.reduceLE,Int.reduceNeg,Int.reduceAdd,Int.reduceSub,Int.reduceMul,Int.reduceGE,Int.reduceGT,endO,lsT,lsO]
 have htl:(turnsL L o).length≤28:=by have:=turnsT_len (o:=o) hL L.thr.length;have:=(sz_at hL).2.1;unfold turnsL;omega
 refine loopI (ι:={ p:Nat×List Sp // WkOk L o p.2∧p.1≤p.2.length∧bfsO L o (30001 - p.1) p.1 p.2=bfs L o }) (fun p=>⟨81,wlTm o p.1.2.length (turnsL L o).length p.1.1,wlS p.1.2 (turnsL L o),ltA 0 L,[],19⟩)
  (fun p=>30001 - p.1.1) ⟨(0,[sp1 L]),wkOk_begin,by simp,rfl⟩ (le_nm (wlσ 0 11 4 5 6 7 8 10 12) ⟨rfl,rfl,by simp [wlTm,TmpsLe,look,SV.ren,SC.ren,wlσ,SV.okN,SC.okN],?_,wl_arrs rfl rfl rfl,wl_inj (by simp) (by decide) (Or.inl rfl)⟩) ?_
 ·exact wl_push (l:=[]) (x:=sp1 L) rfl rfl rfl (fun e he=>by omega) rfl rfl rfl rfl rfl rfl rfl (fun q=>by rw [seen_push];rfl) rfl (fun h=>by omega)
 rintro ⟨⟨i,l⟩,hw,hi,hbf⟩
 simp only at hw hi hbf
 simp (maxSteps:=2000000) only [go_sem,↓reduceIte,Nat.reduceLT,Nat.reduceLeDiff,Nat.reduceAdd,Nat.reduceSub,Nat.reduceMul,Nat.reduceEqDiff,reduceCtorEq,Int.reduceToNat,Int.reduceEq,Int.reduceBEq,Int.reduceBNe,Int.reduceLT,Int.reduceLE,Int.reduceNeg,Int.reduceAdd,Int.reduceSub,Int.reduceMul,Int.reduceGE,Int.reduceGT,endO,wlTm,wlS,wlO,ltA]
 refine both (fun hlt=>?_) (fun hge=>?_)
 ·rw [decide_eq_true_eq] at hlt
  have hlt:i<l.length:=by omega
  have hln:=hw.len
  have hbf:(bfsI L o i (turnsL L o) l).bind (bfsO L o (30000 - i) (i+1))=bfs L o:=by
   rw [← hbf,show 30001 - i=(30000 - i)+1 by omega]
   simp only [bfsO,if_pos hlt]
  refine loopI (ι:={ p:Nat×List Sp // WkOk L o p.2∧p.1≤(turnsL L o).length∧i<p.2.length∧(bfsI L o i ((turnsL L o).drop p.1) p.2).bind (bfsO L o (30000 - i) (i+1))=bfs L o }) (fun p=>⟨81,wlTm o p.1.2.length (turnsL L o).length i++[(44,.c (.sl (18,0,0) 3 0 (turnsL L o).length none)),(45,.c (.v (.int .i64 (turnsL L o).length))),(46,.c (.v (.int .i64 (p.1.1:Nat))))],wlS p.1.2 (turnsL L o),ltA 0 L,[],19⟩)
   (fun p=>(turnsL L o).length - p.1.1) ⟨(0,l),hw,Nat.zero_le _,hlt,by rw [List.drop_zero];exact hbf⟩ ?_ ?_
  ·exact le_ren id rfl rfl (by simp [wlTm,TmpsLe,look,SV.ren,SC.ren,idσ,SV.okN,SC.okN]) (wl_same (p:=(· < 19)) (fun i h=>h) (fun _ _=>rfl) rfl rfl rfl rfl rfl rfl rfl rfl rfl) (arr_ltA (p:=(· < 19)) (fun i h=>Nat.lt_of_lt_of_le h (show 3≤19 by decide)) (fun _ _=>rfl) rfl rfl rfl) rfl
  rintro ⟨⟨j,l⟩,hw,hj,hlt,hbf⟩
  simp only at hw hj hlt hbf
  simp (maxSteps:=2000000) only [go_sem,↓reduceIte,Nat.reduceLT,Nat.reduceLeDiff,Nat.reduceAdd,Nat.reduceSub,Nat.reduceMul,Nat.reduceEqDiff,reduceCtorEq,Int.reduceToNat,Int.reduceEq,Int.reduceBEq,Int.reduceBNe,Int.reduceLT,Int.reduceLE,Int.reduceNeg,Int.reduceAdd,Int.reduceSub,Int.reduceMul,Int.reduceGE,Int.reduceGT,endO,wlTm,wlS,wlO,wlC,ltA,ats,Tn.enc]
  refine both (fun hltj=>?_) (fun hge=>?_)
  ·rw [decide_eq_true_eq] at hltj
   have hltj:j<(turnsL L o).length:=by omega
   have hwi:=hw.at hlt
   have hdr:(turnsL L o).drop j=(turnsL L o).getD j tn0 :: (turnsL L o).drop (j+1):=by rw [List.drop_eq_getElem_cons hltj,List.getD_eq_getElem?_getD,List.getElem?_eq_getElem hltj];rfl
   rw [hdr] at hbf
   simp only [bfsI] at hbf
   generalize htj:(turnsL L o).getD j tn0=tj at hbf ⊢
   refine And.intro ⟨hltj,Nat.le_refl _⟩ (And.intro hltj (And.intro ⟨hlt,Nat.le_refl _⟩ (And.intro hlt ?_)))
   refine callN 5 (fun b=>.agg (stC b (l.getD i sp0).s)) (fun b=>stO b (l.getD i sp0).s) (fun E a w' hs=>icopy_calls w' _ (l.getD i sp0).s (wfT_sz hL hwi) (st_ownL hs 11 i hlt rfl rfl rfl rfl rfl)) ?_
   simp (maxSteps:=2000000) only [go_sem,↓reduceIte,Nat.reduceLT,Nat.reduceLeDiff,Nat.reduceAdd,Nat.reduceSub,Nat.reduceMul,Nat.reduceEqDiff,reduceCtorEq,Int.reduceToNat,Int.reduceEq,Int.reduceBEq,Int.reduceBNe,Int.reduceLT,Int.reduceLE,Int.reduceNeg,Int.reduceAdd,Int.reduceSub,Int.reduceMul,Int.reduceGE,Int.reduceGT,endO,stO,stC]
   have hwq:=turn_wfT hL hwi tj
   generalize hsi:(l.getD i sp0).s=si at hwi hwq hbf ⊢
   refine call_leT (S':=⟨81,wlTm o l.length (turnsL L o).length i++[(44,.c (.sl (18,0,0) 3 0 (turnsL L o).length none)),(45,.c (.v (.int .i64 (turnsL L o).length))),(46,.c (.v (.int .i64 j))),(14,.c (.ptr (19,0,0) 0)),(15,.c (.ptr (5,0,0) 0)),(56,.agg (ltS 0)),(57,.c (.v (.int .i64 o))),(58,.agg (tj.enc.map .v))],
     stP si++(wlS l (turnsL L o)++[(19,.one (.bk [.v (.int .i64 tj.thr),.v (.bool tj.out),.v (.int .i64 tj.addr)] 44))]),ltA 0 L,[],26⟩) (vs':=[.agg (ltS 0),.c (.v (.int .i64 o)),.c (.ptr (5,0,0) 0),.agg (tj.enc.map .v)]) [56,57,15,58]
    ?_ ⟨rfl,rfl,rfl,rfl,trivial⟩ ⟨rfl,rfl,rfl,rfl,trivial⟩ ?_
   ·refine le_ren (fun i=>if i=5 then 25 else if 6≤i then (if i≤10 then i+14 else i) else i) rfl rfl (by simp [wlTm,TmpsLe,look,SV.ren,SC.ren,SC.renL,idσ,SV.okN,SC.okN,SC.okL,ltS,Tn.enc]) (ownLe_app ?_ (ownLe_app (wl_same (fun i h=>Nat.lt_of_lt_of_le h (show 19≤26 by decide)) (fun i h=>by rw [if_neg (by omega)];split;rw [if_neg (by omega)];rfl) rfl rfl rfl rfl rfl rfl rfl rfl rfl) ?_)) (arr_ltA (p:=(· < 26)) (fun i h=>Nat.lt_of_lt_of_le h (show 3≤26 by decide)) (fun i h=>by rw [if_neg (by omega),if_neg (by omega)]) rfl rfl rfl) rfl
    ·simp +contextual [stP,stO,stC,OwnLe,BlkLeO,BlkLe,atN,look,Fm.get,idσ,SC.renL,SC.ren,SC.okL,SC.okN,renL_v,okL_v,ren_ats,ok_ats,bfC,bfO]
    ·simp [OwnLe,BlkLeO,BlkLe,atN,look,Fm.get,idσ,SC.renL,SC.ren,SC.okL,SC.okN]
   refine call_intro (cr_own 11 (stP si) (ltA 0 L) (show 11≤26 by decide) (stP_plain _) (stP_le (fun i h=>h) (fun _ _=>rfl) rfl rfl rfl rfl rfl rfl) (by simp +contextual [ltA,ArrsLe,ArrLeO,atN,look,Fm.get,idσ,arrLe_of,arrLe_0,arrLe_nest]) stE_key (fun E w h=>iturn_own w E L o _ tj 10 hL hwi.wf (by omega) h)) (lt11 (show 11≤26 by decide)) ?_
   generalize turnS L o si tj=q at hwq hbf ⊢
   simp (maxSteps:=2000000) only [go_sem,↓reduceIte,Nat.reduceLT,Nat.reduceLeDiff,Nat.reduceAdd,Nat.reduceSub,Nat.reduceMul,Nat.reduceEqDiff,reduceCtorEq,Int.reduceToNat,Int.reduceEq,Int.reduceBEq,Int.reduceBNe,Int.reduceLT,Int.reduceLE,Int.reduceNeg,Int.reduceAdd,Int.reduceSub,Int.reduceMul,Int.reduceGE,Int.reduceGT,endO,killO,stE,stC,stP,stO,ltA,ltS,wlTm,wlS,wlO,Tn.enc]
   have hwr:=wr_succ (n:=j) (by omega)
   rw [hwr]
   refine both (fun hd=>?_) (fun hd=>?_)
   ·rw [if_neg (by simp at hd;simp [hd])] at hbf
    exact backI ⟨(j+1,l),hw,hltj,hlt,hbf⟩ (by simp only;omega) (le_ren id rfl rfl (by simp [wlTm,TmpsLe,look,SV.ren,SC.ren,idσ,SV.okN,SC.okN]) (wl_same (p:=(· < 19)) (fun i h=>h) (fun _ _=>rfl) rfl rfl rfl rfl rfl rfl rfl rfl rfl) (arr_ltA (p:=(· < 19)) (fun i h=>Nat.lt_of_lt_of_le h (show 3≤19 by decide)) (fun _ _=>rfl) rfl rfl rfl) rfl)
   have hd:q.2=true:=by simpa using hd
   refine callV (picV q.1) _ (picV_den _) (fun E a w' hs=>pic_calls w' _ L o q.1 hL hwq (st_ownG hs 6 26 rfl rfl rfl rfl rfl)) ?_
   have hql:=pic_len hL hwq
   have hM1:len' ((picS q.1).map fun x=>SC.v (.int .i64 x))=110:=by rw [len'_eq,List.length_map,hql]
   have hM2:=ints_of (picS q.1)
   have hM3:take' 110 ((picS q.1).map fun x=>SC.v (.int .i64 x))=(picS q.1).map fun x=>SC.v (.int .i64 x):=by rw [take'_eq,List.take_of_length_le (by rw [List.length_map,hql];exact Nat.le_refl _)]
   have hM4:=allOne_ints (picS q.1)
   simp only [picV]
   generalize (picS q.1).map (fun x=>SC.v (.int .i64 x))=M at hM1 hM2 hM3 hM4 ⊢
   simp (maxSteps:=2000000) only [go_sem,↓reduceIte,Nat.reduceLT,Nat.reduceLeDiff,Nat.reduceAdd,Nat.reduceSub,Nat.reduceMul,Nat.reduceEqDiff,reduceCtorEq,Int.reduceToNat,Int.reduceEq,Int.reduceBEq,Int.reduceBNe,Int.reduceLT,Int.reduceLE,Int.reduceNeg,Int.reduceAdd,Int.reduceSub,Int.reduceMul,Int.reduceGE,Int.reduceGT,endO,hM1,hM2,hM3,hM4]
   rw [hwr]
   have hsi':=seen_iff hw hwq
   refine And.intro hql (both (fun hsn=>?_) (fun hsn=>And.intro hql (both (fun hfull=>?_) (fun hfull=>?_))))
   ·have hmem:q.1∈l.map (·.s):=by
     refine hsi'.1 ?_
     unfold seenF at hsn
     split at hsn
     ·next hm=>exact hm
     ·simp at hsn
    rw [if_neg (fun h=>h.2 hmem)] at hbf
    exact backI ⟨(j+1,l),hw,hltj,hlt,hbf⟩ (by simp only;omega) (le_ren id rfl rfl (by simp [wlTm,TmpsLe,look,SV.ren,SC.ren,idσ,SV.okN,SC.okN]) (wl_same (p:=(· < 19)) (fun i h=>h) (fun _ _=>rfl) rfl rfl rfl rfl rfl rfl rfl rfl rfl) (arr_ltA (p:=(· < 19)) (fun i h=>Nat.lt_of_lt_of_le h (show 3≤19 by decide)) (fun _ _=>rfl) rfl rfl rfl) rfl)
   ·have hnm:q.1 ∉ l.map (·.s):=fun hmem=>by
     unfold seenF at hsn
     rw [if_pos (hsi'.2 hmem)] at hsn
     simp at hsn
    rw [if_pos ⟨hd,hnm⟩,if_pos (by simp at hfull;omega)] at hbf
    have hbf:bfs L o=none:=hbf.symm
    rw [← hR]
    unfold WalkR
    rw [hbf]
    exact retV fun E=>by simp [SV.den,SC.den,den1]
   ·have hnm:q.1 ∉ l.map (·.s):=fun hmem=>by
     unfold seenF at hsn
     rw [if_pos (hsi'.2 hmem)] at hsn
     simp at hsn
    have hlf:l.length≠30000:=by simp at hfull;omega
    rw [if_pos ⟨hd,hnm⟩,if_neg hlf] at hbf
    have hln:=hw.len
    refine And.intro (by decide) (And.intro ⟨Nat.le_refl _,by omega,by simp only [maxLen];omega⟩ ?_)
    refine backI ⟨(j+1,l++[⟨q.1,i,tj⟩]),wkOk_push hw hlf hwq,hltj,by simp only [List.length_append];omega,hbf⟩ (by simp only;omega) (le_nm (wlσ l.length 29 6 7 8 9 26 17 18) ⟨rfl,rfl,by simp [wlTm,TmpsLe,look,SV.ren,SC.ren,wlσ,SV.okN,SC.okN],?_,wl_arrs rfl rfl rfl,wl_inj (by simp) (by decide) (Or.inr (by decide))⟩)
    exact wl_push (l:=l) (x:=⟨q.1,i,tj⟩) rfl rfl rfl (fun e he=>by simp [appAt,he]) (by simp [appAt,take',drop']) rfl rfl rfl rfl rfl rfl (fun a=>by rw [seen_push]) rfl (fun _=>⟨rfl,rfl,rfl,rfl,rfl⟩)
  ·rw [decide_eq_false_iff_not] at hge
   have hjn:j=(turnsL L o).length:=by omega
   subst hjn
   rw [List.drop_length] at hbf
   have hln:=hw.len
   rw [wr_succ (by omega)]
   exact backI ⟨(i+1,l),hw,hlt,by rw [show 30001 - (i+1)=30000 - i by omega];exact hbf⟩ (by simp only;omega) (le_ren id rfl rfl (by simp [wlTm,TmpsLe,look,SV.ren,SC.ren,idσ,SV.okN,SC.okN]) (wl_same (p:=(· < 19)) (fun i h=>h) (fun _ _=>rfl) rfl rfl rfl rfl rfl rfl rfl rfl rfl) (arr_ltA (p:=(· < 19)) (fun i h=>Nat.lt_of_lt_of_le h (show 3≤19 by decide)) (fun _ _=>rfl) rfl rfl rfl) rfl)
 ·rw [decide_eq_false_iff_not] at hge
  have hin:i=l.length:=by omega
  subst hin
  have hln:=hw.len
  have hbf:bfs L o=some l:=by
   rw [← hbf,show 30001 - l.length=(30000 - l.length)+1 by omega]
   simp only [bfsO,Nat.lt_irrefl,if_false]
  rw [← hR]
  unfold WalkR
  rw [hbf]
  refine retN (fun j=>j+11) (fun b=>⟨by simp [wlT,SV.ren,SC.renL,SC.ren,ren1L,ren1,fromσ],by simp [wlT,SV.okN,SC.okL,SC.okN,ok1L,NewIds]⟩) (fun b=>?_) (fun b=>?_)
  ·refine ⟨⟨⟨by omega,by omega⟩,?_⟩,⟨⟨by omega,by omega⟩,fun k hk=>?_⟩,⟨⟨by omega,by omega⟩,fun k hk=>?_⟩,⟨⟨by omega,by omega⟩,fun k hk=>?_⟩,⟨⟨by omega,by omega⟩,fun k hk=>?_⟩,⟨⟨by omega,by omega⟩,fun k e hk he=>?_⟩,trivial⟩
   ·simp only [fromσ,Nat.sub_self,Nat.zero_add,atN,look,Nat.reduceEqDiff,reduceIte,Fm.get,and_self]
    exact ⟨Nat.le_refl _,rfl,rfl,fun e he=>⟨by simp [wlC,SC.renL,SC.ren,fromσ],by simp [wlC,SC.okL,SC.okN,NewIds]⟩⟩
   ·simp only [fromσ,Nat.add_sub_cancel_left,Nat.reduceAdd,atN,look,Nat.reduceEqDiff,reduceIte,Fm.get,hk,and_self];exact arLe_same
   ·simp only [fromσ,Nat.add_sub_cancel_left,Nat.reduceAdd,atN,look,Nat.reduceEqDiff,reduceIte,Fm.get,hk,and_self];exact arLe_same
   ·simp only [fromσ,Nat.add_sub_cancel_left,Nat.reduceAdd,atN,look,Nat.reduceEqDiff,reduceIte,Fm.get,hk,and_self];exact arLe_same
   ·simp only [fromσ,Nat.add_sub_cancel_left,Nat.reduceAdd,atN,look,Nat.reduceEqDiff,reduceIte,Fm.get,hk,and_self]
    exact ⟨Nat.le_refl _,rfl,rfl,fun e he=>⟨by simp [SC.renL,SC.ren,fromσ],by simp [SC.okL,SC.okN,NewIds]⟩⟩
   ·simp only [fromσ,Nat.add_sub_cancel_left,Nat.reduceAdd,atN,look,Nat.reduceEqDiff,reduceIte,Fm.get,hk,he,and_self];exact arLe_same
  ·exact injN_from fun x hx y hy e=>by
    simp [wlO,keysL] at hx hy
    omega
end Go.Proofs.Ytmcpdafmkkjlcaa.Z
namespace Go.Proofs.Ytmcpdafmkkjlcaa.Z
open Go Go.RowKit
def lessL:List Int→List Int→Bool
 | [],[]=>false
 | [],_ :: _=>true
 | _ :: _,[]=>false
 | a :: l,b :: m=>if a≠b then decide (a<b) else lessL l m
def cmpL:List Int→List Int→Int
 | [],[]=>0
 | [],_ :: _=>-1
 | _ :: _,[]=>1
 | a :: l,b :: m=>if a<b then -1 else if b<a then 1 else cmpL l m
theorem drop_at {l:List Int} {i:Nat} (h:i<l.length):l.drop i=l.getD i 0 :: l.drop (i+1):=by
 rw [List.drop_eq_getElem_cons h,List.getD_eq_getElem?_getD,List.getElem?_eq_getElem h];rfl
def cmp1 (x y:Int):Int:=if x<y then -1 else if y<x then 1 else 0
end Go.Proofs.Ytmcpdafmkkjlcaa.Z
namespace Go.Proofs.Ytmcpdafmkkjlcaa.Z
open Go Go.RowKit
theorem less_irr:∀ l,lessL l l=false
 | []=>rfl
 | a :: l=>by simp [lessL,less_irr l]
theorem less_eq:∀ {l m:List Int},lessL l m=false→lessL m l=false→l=m
 | [],[],_,_=>rfl
 | [],_ :: _,h,_=>by simp [lessL] at h
 | _ :: _,[],_,h=>by simp [lessL] at h
 | a :: l,b :: m,h1,h2=>by
  by_cases e:a=b
  ·subst e
   simp [lessL] at h1 h2
   rw [less_eq h1 h2]
  ·simp only [lessL] at h1 h2
   rw [if_pos e] at h1
   rw [if_pos (fun q=>e q.symm)] at h2
   simp only [decide_eq_false_iff_not] at h1 h2
   omega
end Go.Proofs.Ytmcpdafmkkjlcaa.Z
namespace Go.Proofs.Ytmcpdafmkkjlcaa.Z
open Go Go.RowKit
def toN (tl:List Nat) (i:Nat):Nat:=match nth tl i with | some j=>j | none=>i
theorem takes_via {E:Env} {σ:Nm→Nm} {x:Nm} {b:Blk} {n:Nat}:takes (E.via σ) x b n↔takes E (σ x) b n:=by
 cases b <;> simp [takes,Env.via]
end Go.Proofs.Ytmcpdafmkkjlcaa.Z
namespace Go.Proofs.Ytmcpdafmkkjlcaa.Z
open Go Go.RowKit
structure Fn where
 words:List Int
 regs:List R4
def finB (L:Lt) (s:LS):Bool:=(List.range L.thr.length).all fun t=>decide (s.places.getD t 0=(L.thr.getD t []).length∧(s.bufs.getD t []).length=0)
theorem finB_iff {L:Lt} {s:LS}:finB L s=true↔∀ t,t<L.thr.length→s.places.getD t 0=(L.thr.getD t []).length∧(s.bufs.getD t []).length=0:=by
 simp [finB]
theorem finB_no {L:Lt} {s:LS} {t:Nat} (ht:t<L.thr.length) (h:¬ (s.places.getD t 0=(L.thr.getD t []).length∧(s.bufs.getD t []).length=0)):finB L s=false:=by
 cases e:finB L s
 ·rfl
 ·exact absurd (finB_iff.1 e t ht) h
def ir50:IR:=(.seq (.ops [⟨(some 2),(.box 25 (.t 0)),none⟩,⟨(some 3),(.box 32 (.t 1)),none⟩,⟨(some 4),(.mv (.k (.c (.v (.bool false))))),none⟩]) (.kill [0,1,4,5,6,7,8,9,10,11] (.seq (.seq (.ops [⟨(some 7),(.fa 1 (.t 2)),none⟩,⟨(some 8),(.ld false 1 (.t 7)),none⟩,⟨(some 9),(.len (.t 8)),none⟩,⟨(some 10),(.mv (.k (.c (.v (.int .i64 0))))),none⟩]) (.kill [2,7] (.blk 0 (.loop (.seq (.ops [⟨(some 11),(.bin .lss (.t 10) (.t 9)),none⟩]) (.kill [4,5,6,12,13,14,15,16,17,18,19,20,21,22,23,24,25,26,27,28,29,30,31,32] (.seq (.cond (.t 11) .skip (.exit 0)) (.kill [11] (.seq (.blk 1 (.seq (.ops [⟨(some 12),(.mv (.t 10)),none⟩,⟨(some 13),(.ia 1 (.t 8) (.t 10)),none⟩,⟨(some 14),(.ld false 1 (.t 13)),none⟩,⟨(some 5),(.mv (.t 12)),none⟩,⟨(some 6),(.mv (.t 14)),none⟩]) (.kill [12,13,14] (.seq (.ops [⟨(some 15),(.fa 2 (.t 3)),none⟩,⟨(some 16),(.ld false 1 (.t 15)),none⟩,⟨(some 17),(.mv (.t 5)),none⟩,⟨(some 18),(.ia 1 (.t 16) (.t 17)),none⟩,⟨(some 19),(.ld false 1 (.t 18)),none⟩,⟨(some 20),(.mv (.t 6)),none⟩,⟨(some 21),(.len (.t 20)),none⟩,⟨(some 22),(.bin .lss (.t 19) (.t 21)),none⟩,⟨(some 23),(.mv (.t 22)),none⟩,⟨(some 24),(.fa 3 (.t 3)),(some (23,false))⟩,⟨(some 25),(.ld false 1 (.t 24)),(some (23,false))⟩,⟨(some 26),(.mv (.t 5)),(some (23,false))⟩,⟨(some 27),(.ia 1 (.t 25) (.t 26)),(some (23,false))⟩,⟨(some 28),(.ld false 1 (.t 27)),(some (23,false))⟩,⟨(some 29),(.len (.t 28)),(some (23,false))⟩,⟨(some 30),(.bin .gtr (.t 29) (.k (.c (.v (.int .i64 0))))),(some (23,false))⟩,⟨(some 31),(.pick (.t 23) (.k (.c (.v (.bool true)))) (.t 30)),none⟩]) (.kill [5,6,15,16,17,18,19,20,21,22,23,24,25,26,27,28,29,30] (.cond (.t 31) (.seq (.ops [⟨(some 4),(.mv (.k (.c (.v (.bool false))))),none⟩]) (.kill [3,8,9,10,31] .ret)) .skip)))))) (.kill [4,5,6,12,13,14,15,16,17,18,19,20,21,22,23,24,25,26,27,28,29,30,31] (.ops [⟨(some 32),(.bin .add (.t 10) (.k (.c (.v (.int .i64 1))))),none⟩,⟨(some 10),(.mv (.t 32)),none⟩]))))))))))) (.kill [3,4,5,6,8,9,10,11,12,13,14,15,16,17,18,19,20,21,22,23,24,25,26,27,28,29,30,31,32] (.seq (.ops [⟨(some 4),(.mv (.k (.c (.v (.bool true))))),none⟩]) .ret)))))
def rs50:List RS:=[(.t 4)]
def nt50:Nat:=33
set_option maxRecDepth 100000 in
set_option maxHeartbeats 1000000 in
theorem final_calls (w:World) (v v' : Value) (L:Lt) (o:Int) (s:LS) (hL:checkB L=true) (hwf:WfT L o s) (h:LtR w v L) (h' : StR w v' s):Calls Try.prog 50 #[v,v'] w (RetV w (.bool (finB L s))):=by
 refine enterLtSt (A:=[]) (c:=ir50) (rs:=rs50) (nt:=nt50) h h' [.agg (ltS 0),.agg (stS 3)] _ Try.func50 rfl (by kernel_rfl) (by kernel_rfl) rfl (fun E' h0 h1=>by simp only [List.map_cons,List.map_nil,h0,h1]) (of_decide_eq_true rfl) ?_
 obtain ⟨z1,z2,z3,z4⟩:=sz_at hL
 have hp:=hwf.wf.p
 have hb:=hwf.wf.b
 simp (maxSteps:=2000000) only [ir50,nt50,rs50,go_sem,↓reduceIte,Nat.reduceLT,Nat.reduceLeDiff,Nat.reduceAdd,Nat.reduceSub,Nat.reduceMul,Nat.reduceEqDiff,reduceCtorEq,Int.reduceToNat,Int.reduceEq,Int.reduceBEq,Int.reduceBNe,Int.reduceLT,Int.reduceLE,Int.reduceNeg,Int.reduceAdd,Int.reduceSub,Int.reduceMul,Int.reduceGE,Int.reduceGT,endO,ltA,ltS,stA,stS]
 refine loopI (ι:={ i:Nat // i≤L.thr.length∧∀ t,t<i→s.places.getD t 0=(L.thr.getD t []).length∧(s.bufs.getD t []).length=0 }) (fun i=>⟨33,[(3,.c (.ptr (9,0,0) 0)),(8,.c (.xv (1,0,0))),(9,.c (.v (.int .i64 L.thr.length))),(10,.c (.v (.int .i64 (i.1:Nat))))],
  [(8,.one (.bk [.xv (0,0,0),.xv (1,0,0)] 25)),(9,.one (.bk [.xv (3,0,0),.xv (4,0,0),.xv (5,0,0),.xv (6,0,0)] 32))],ltA 0 L++stA 3 s,[],10⟩)
  (fun i=>L.thr.length - i.1) ⟨0,by omega,fun t ht=>by omega⟩ (le_ren id rfl rfl (by simp [TmpsLe,look,SV.ren,SC.ren,SC.renL,ren1L,ren1,idσ,SV.okN,SC.okN,SC.okL,ok1L]) (by simp [OwnLe,BlkLeO,BlkLe,atN,look,Fm.get,idσ,SC.renL,SC.ren,SC.okL,SC.okN,renL_v,okL_v]) (by simp +contextual [ltA,stA,ArrsLe,ArrLeO,atN,look,Fm.get,idσ,arrLe_of,arrLe_0,arrLe_nest]) rfl) ?_
 rintro ⟨i,hi,hg⟩
 simp (maxSteps:=2000000) only [go_sem,↓reduceIte,Nat.reduceLT,Nat.reduceLeDiff,Nat.reduceAdd,Nat.reduceSub,Nat.reduceMul,Nat.reduceEqDiff,reduceCtorEq,Int.reduceToNat,Int.reduceEq,Int.reduceBEq,Int.reduceBNe,Int.reduceLT,Int.reduceLE,Int.reduceNeg,Int.reduceAdd,Int.reduceSub,Int.reduceMul,Int.reduceGE,Int.reduceGT,endO,ltA,stA,eI]
 refine both (fun hlt=>?_) (fun hge=>?_)
 ·rw [decide_eq_true_eq] at hlt
  have hlt:i<L.thr.length:=by omega
  have hlp:i<s.places.length:=by omega
  have hlb:i<s.bufs.length:=by omega
  have g:=hwf.wf.thr i hlt
  have g1:=g.p1
  repeat (with_reducible refine And.intro (by first | exact hlt | exact hlp | exact hlb | exact fun _=>hlb) ?_)
  refine both (fun hc=>?_) (fun hc=>?_)
  ·simp only [b_decR,b_decL,bt_ite,bf_ite,bt_dec,bf_dec,bt_int,bf_int,bt_nint,bf_nint,bt_bool,bf_bool,bt_nbool,bf_nbool,bt_not,bf_not,bt_and,bf_and,bt_or,bf_or,Bool.false_eq_true,Bool.true_eq_false,Bool.not_eq_true,Bool.not_eq_false,reduceCtorEq,false_iff,true_iff,iff_false,iff_true,and_true,true_and,and_false,false_and,or_true,true_or,or_false,false_or,not_true_eq_false,not_false_eq_true,ne_eq] at hc
   have hf:finB L s=false:=finB_no hlt (by omega)
   exact retV fun E=>by simp [SV.den,SC.den,hf]
  ·simp only [b_decR,b_decL,bt_ite,bf_ite,bt_dec,bf_dec,bt_int,bf_int,bt_nint,bf_nint,bt_bool,bf_bool,bt_nbool,bf_nbool,bt_not,bf_not,bt_and,bf_and,bt_or,bf_or,Bool.false_eq_true,Bool.true_eq_false,Bool.not_eq_true,Bool.not_eq_false,reduceCtorEq,false_iff,true_iff,iff_false,iff_true,and_true,true_and,and_false,false_and,or_true,true_or,or_false,false_or,not_true_eq_false,not_false_eq_true,ne_eq] at hc
   rw [wr_succ (by omega)]
   refine backI ⟨i+1,by omega,fun t ht=>?_⟩ (by simp only;omega) (le_ren id rfl rfl (by simp [TmpsLe,look,SV.ren,SC.ren,SC.renL,ren1L,ren1,idσ,SV.okN,SC.okN,SC.okL,ok1L]) (by simp [OwnLe,BlkLeO,BlkLe,atN,look,Fm.get,idσ,SC.renL,SC.ren,SC.okL,SC.okN,renL_v,okL_v]) (by simp +contextual [ltA,stA,ArrsLe,ArrLeO,atN,look,Fm.get,idσ,arrLe_of,arrLe_0,arrLe_nest]) rfl)
   by_cases e:t=i
   ·subst e;omega
   ·exact hg t (by omega)
 ·rw [decide_eq_false_iff_not] at hge
  have hf:finB L s=true:=finB_iff.2 fun t ht=>hg t (by omega)
  exact retV fun E=>by simp [SV.den,SC.den,hf]
def r4L (r:R4):List Int:=[r.a,r.b,r.c,r.d]
def numT (f:Fn):Nat→List Int
 | 0=>f.words
 | n+1=>numT f n++r4L (f.regs.getD n r40)
def numF (f:Fn):List Int:=numT f f.regs.length
end Go.Proofs.Ytmcpdafmkkjlcaa.Z
namespace Go.Proofs.Ytmcpdafmkkjlcaa.Z
open Go Go.RowKit
def ordR:List R4→List R4→Int
 | x :: l,y :: m=>if cmpL (r4L x) (r4L y)≠0 then cmpL (r4L x) (r4L y) else ordR l m
 | _,_=>0
def ordF (a b:Fn):Int:=if cmpL a.words b.words≠0 then cmpL a.words b.words else ordR a.regs b.regs
theorem drop_r4 {l:List R4} {i:Nat} (h:i<l.length):l.drop i=l.getD i r40 :: l.drop (i+1):=by
 rw [List.drop_eq_getElem_cons h,List.getD_eq_getElem?_getD,List.getElem?_eq_getElem h];rfl
end Go.Proofs.Ytmcpdafmkkjlcaa.Z
namespace Go.Proofs.Ytmcpdafmkkjlcaa.Z
open Go Go.RowKit
def sameF (a b:Fn):Bool:=decide (a.words.length=b.words.length∧a.regs.length=b.regs.length) && !lessL (numF a) (numF b) && !lessL (numF b) (numF a)
end Go.Proofs.Ytmcpdafmkkjlcaa.Z
namespace Go.Proofs.Ytmcpdafmkkjlcaa.Z
open Go Go.RowKit
def endF (s:LS):Fn:=⟨s.words,s.regs⟩
end Go.Proofs.Ytmcpdafmkkjlcaa.Z
namespace Go.Proofs.Ytmcpdafmkkjlcaa.Z
open Go Go.RowKit
theorem cmp_less:∀ (a b:List Int),cmpL a b<0↔lessL a b=true
 | [],[]=>by simp [cmpL,lessL]
 | [],_ :: _=>by simp [cmpL,lessL]
 | _ :: _,[]=>by simp [cmpL,lessL]
 | x :: a,y :: b=>by
  simp only [cmpL,lessL]
  by_cases h1:x<y
  ·rw [if_pos h1,if_pos (by omega)];simp [h1]
  ·rw [if_neg h1]
   by_cases h2:y<x
   ·rw [if_pos h2,if_pos (by omega)];simp [h1]
   ·rw [if_neg h2,if_neg (by omega)];exact cmp_less a b
theorem cmp_zero:∀ (a b:List Int),cmpL a b=0↔a=b
 | [],[]=>by simp [cmpL]
 | [],_ :: _=>by simp [cmpL]
 | _ :: _,[]=>by simp [cmpL]
 | x :: a,y :: b=>by
  simp only [cmpL]
  by_cases h1:x<y
  ·rw [if_pos h1];simp;omega
  ·rw [if_neg h1]
   by_cases h2:y<x
   ·rw [if_pos h2];simp;omega
   ·rw [if_neg h2,cmp_zero a b];simp;omega
theorem cmp_anti:∀ (a b:List Int),cmpL b a = - cmpL a b
 | [],[]=>rfl
 | [],_ :: _=>rfl
 | _ :: _,[]=>rfl
 | x :: a,y :: b=>by
  simp only [cmpL]
  by_cases h1:x<y
  ·rw [if_neg (by omega),if_pos h1,if_pos h1];rfl
  ·by_cases h2:y<x
   ·rw [if_pos h2,if_neg h1,if_pos h2]
   ·rw [if_neg h2,if_neg h1,if_neg h1,if_neg h2];exact cmp_anti a b
theorem cmp_app:∀ {a b c d:List Int},a.length=b.length→cmpL (a++c) (b++d)=if cmpL a b≠0 then cmpL a b else cmpL c d
 | [],[],c,d,_=>by simp [cmpL]
 | [],_ :: _,c,d,h=>by simp at h
 | _ :: _,[],c,d,h=>by simp at h
 | x :: a,y :: b,c,d,h=>by
  simp only [List.cons_append,cmpL]
  by_cases h1:x<y
  ·simp [h1]
  ·by_cases h2:y<x
   ·simp [h1,h2]
   ·simp only [if_neg h1,if_neg h2];exact cmp_app (by simpa using h)
theorem less_trans:∀ {a b c:List Int},lessL a b=true→lessL b c=true→lessL a c=true
 | [],[],_,h,_=>by simp [lessL] at h
 | [],_ :: _,[],_,h=>by simp [lessL] at h
 | [],_ :: _,_ :: _,_,_=>rfl
 | _ :: _,[],_,h,_=>by simp [lessL] at h
 | _ :: _,_ :: _,[],_,h=>by simp [lessL] at h
 | x :: a,y :: b,z :: c,h1,h2=>by
  simp only [lessL] at h1 h2 ⊢
  by_cases e1:x=y
  ·subst e1
   rw [if_neg (by simp)] at h1
   by_cases e2:x=z
   ·subst e2
    rw [if_neg (by simp)] at h2 ⊢
    exact less_trans h1 h2
   ·rw [if_pos e2] at h2 ⊢;exact h2
  ·rw [if_pos e1] at h1
   by_cases e2:y=z
   ·subst e2;rw [if_pos e1];exact h1
   ·rw [if_pos e2] at h2
    simp only [decide_eq_true_eq] at h1 h2
    rw [if_pos (by omega)];simp;omega
def insF (x:Fn):List Fn→List Fn
 | []=>[x]
 | y :: l=>if lessL (numF y) (numF x)=true then y :: insF x l else if sameF y x=true then y :: l else x :: y :: l
def finsL (L:Lt) (l:List LS):List Fn:=(l.filter (finB L)).foldl (fun out s=>insF (endF s) out) []
end Go.Proofs.Ytmcpdafmkkjlcaa.Z
namespace Go.Proofs.Ytmcpdafmkkjlcaa.Z
open Go Go.RowKit
structure WkNd (L:Lt) (o:Int) (l:List Sp):Prop extends WkOk L o l where
 nd:(l.map (·.s)).Nodup
theorem bfsI_ok {L:Lt} {o:Int} (hL:checkB L=true) {i:Nat}:∀ {ts:List Tn} {l l' : List Sp},WkNd L o l→i<l.length→bfsI L o i ts l=some l'→WkNd L o l'∧i<l'.length
 | [],l,l',h,hi,e=>by
  simp only [bfsI,Option.some.injEq] at e
  subst e;exact ⟨h,hi⟩
 | t :: ts,l,l',h,hi,e=>by
  simp only [bfsI] at e
  split at e
  ·next hc =>
   split at e
   ·cases e
   ·next hl =>
    refine bfsI_ok hL ⟨wkOk_push h.toWkOk hl (turn_wfT hL (h.toWkOk.at hi) t),?_⟩ (by simp;omega) e
    rw [List.map_append,List.map_cons,List.map_nil,List.nodup_append]
    exact ⟨h.nd,by simp,fun a ha b hb q=>by
     rw [List.mem_singleton] at hb
     subst hb
     subst q
     exact hc.2 ha⟩
  ·exact bfsI_ok hL h hi e
theorem bfsO_ok {L:Lt} {o:Int} (hL:checkB L=true):∀ {n i:Nat} {l l' : List Sp},WkNd L o l→bfsO L o n i l=some l'→WkNd L o l'
 | 0,i,l,l',h,e=>by
  simp only [bfsO,Option.some.injEq] at e
  subst e;exact h
 | n+1,i,l,l',h,e=>by
  simp only [bfsO] at e
  split at e
  ·next hi =>
   cases hb:bfsI L o i (turnsL L o) l with
   | none=>rw [hb] at e;cases e
   | some l2 =>
    rw [hb] at e
    exact bfsO_ok hL (bfsI_ok hL h hi hb).1 e
  ·simp only [Option.some.injEq] at e
   subst e;exact h
theorem bfs_ok {L:Lt} {o:Int} (hL:checkB L=true) {l:List Sp} (h:bfs L o=some l):WkNd L o l :=
 bfsO_ok hL ⟨wkOk_begin,by simp⟩ h
theorem fin_inj {L:Lt} {o:Int} {s s' : LS} (h:WfT L o s) (h' : WfT L o s') (hf:finB L s=true) (hf' : finB L s' = true) (e:endF s=endF s'):s=s':=by
 have g:=finB_iff.1 hf
 have g':=finB_iff.1 hf'
 have hw:=h.wf;have hw':=h'.wf
 cases s with | mk w r p b =>
 cases s' with | mk w' r' p' b' =>
 simp only [endF,Fn.mk.injEq] at e
 obtain ⟨rfl,rfl⟩:=e
 have ep:p=p':=by
  refine List.ext_getElem (by have:=hw.p;have:=hw'.p;simp only at *;omega) fun i h1 h2=>?_
  have hi:i<L.thr.length:=by have:=hw.p;simp only at this;omega
  have k1:=(g i hi).1;have k2:=(g' i hi).1
  simp only [List.getD_eq_getElem?_getD,List.getElem?_eq_getElem h1,List.getElem?_eq_getElem h2,Option.getD_some] at k1 k2
  rw [k1,k2]
 have eb:b=b':=by
  refine List.ext_getElem (by have:=hw.b;have:=hw'.b;simp only at *;omega) fun i h1 h2=>?_
  have hi:i<L.thr.length:=by have:=hw.b;simp only at this;omega
  have k1:=(g i hi).2;have k2:=(g' i hi).2
  simp only [List.getD_eq_getElem?_getD,List.getElem?_eq_getElem h1,List.getElem?_eq_getElem h2,Option.getD_some] at k1 k2
  rw [List.eq_nil_of_length_eq_zero k1,List.eq_nil_of_length_eq_zero k2]
 rw [ep,eb]
def catR:List R4→List Int
 | []=>[]
 | r :: l=>r4L r++catR l
theorem catR_app:∀ l m:List R4,catR (l++m)=catR l++catR m
 | [],m=>rfl
 | r :: l,m=>by simp [catR,catR_app l m]
theorem numT_take (f:Fn):∀ n,n≤f.regs.length→numT f n=f.words++catR (f.regs.take n)
 | 0,_=>by simp [numT,catR]
 | n+1,h=>by
  rw [numT,numT_take f n (by omega),List.take_succ_eq_append_getElem (by omega),catR_app,List.append_assoc]
  simp [catR,List.getD_eq_getElem?_getD,List.getElem?_eq_getElem (show n<f.regs.length by omega)]
theorem numF_eq (f:Fn):numF f=f.words++catR f.regs:=by rw [numF,numT_take f _ (Nat.le_refl _),List.take_length]
theorem ordR_eq:∀ {l m:List R4},l.length=m.length→ordR l m=cmpL (catR l) (catR m)
 | [],[],_=>by simp [ordR,catR,cmpL]
 | [],_ :: _,h=>by simp at h
 | _ :: _,[],h=>by simp at h
 | x :: l,y :: m,h=>by
  simp only [ordR,catR]
  rw [cmp_app (by simp [r4L]),ordR_eq (by simpa using h)]
theorem ordF_eq {a b:Fn} (h1:a.words.length=b.words.length) (h2:a.regs.length=b.regs.length):ordF a b=cmpL (numF a) (numF b):=by
 rw [ordF,numF_eq,numF_eq,cmp_app h1,ordR_eq h2]
theorem r4L_inj {x y:R4} (h:r4L x=r4L y):x=y:=by
 cases x;cases y;simp [r4L] at h;obtain ⟨rfl,rfl,rfl,rfl⟩:=h;rfl
theorem catR_inj:∀ {l m:List R4},l.length=m.length→catR l=catR m→l=m
 | [],[],_,_=>rfl
 | [],_ :: _,h,_=>by simp at h
 | _ :: _,[],h,_=>by simp at h
 | x :: l,y :: m,h,e=>by
  simp only [catR] at e
  obtain ⟨e1,e2⟩:=List.append_inj e (by simp [r4L])
  rw [r4L_inj e1,catR_inj (by simpa using h) e2]
theorem numF_inj {a b:Fn} (h1:a.words.length=b.words.length) (h2:a.regs.length=b.regs.length) (e:numF a=numF b):a=b:=by
 rw [numF_eq,numF_eq] at e
 obtain ⟨e1,e2⟩:=List.append_inj e h1
 cases a;cases b
 simp only at *
 rw [e1,catR_inj h2 e2]
def SameSh (l:List Fn):Prop:=∀ a∈l,∀ b∈l,a.words.length=b.words.length∧a.regs.length=b.regs.length
def SrtF (l:List Fn):Prop:=l.Pairwise fun a b=>lessL (numF a) (numF b)=true
theorem same_iff {a b:Fn} (h:a.words.length=b.words.length∧a.regs.length=b.regs.length):sameF a b=true↔a=b:=by
 unfold sameF
 rw [decide_eq_true h,Bool.true_and]
 constructor
 ·intro e
  simp only [Bool.and_eq_true,Bool.not_eq_true'] at e
  exact numF_inj h.1 h.2 (less_eq e.1 e.2)
 ·rintro rfl
  simp [less_irr]
theorem insF_perm {x:Fn}:∀ {l:List Fn},x ∉ l→(∀ y∈l,y.words.length=x.words.length∧y.regs.length=x.regs.length)→(insF x l).Perm (x :: l)
 | [],_,_=>List.Perm.refl _
 | y :: l,h,hs=>by
  simp only [insF]
  split
  ·exact ((insF_perm (fun q=>h (List.mem_cons_of_mem _ q)) fun z hz=>hs z (List.mem_cons_of_mem _ hz)).cons y).trans (List.Perm.swap x y l)
  ·split
   ·next e =>
    rw [same_iff (hs y List.mem_cons_self)] at e
    subst e
    exact absurd List.mem_cons_self h
   ·exact List.Perm.refl _
theorem insF_srt {x:Fn}:∀ {l:List Fn},x ∉ l→(∀ y∈l,y.words.length=x.words.length∧y.regs.length=x.regs.length)→SrtF l→SrtF (insF x l)
 | [],_,_,_=>List.pairwise_singleton _ _
 | y :: l,h,hs,hl=>by
  have hl2:=List.pairwise_cons.1 hl
  simp only [insF]
  split
  ·next h1 =>
   refine List.pairwise_cons.2 ⟨fun z hz=>?_,insF_srt (fun q=>h (List.mem_cons_of_mem _ q)) (fun z hz=>hs z (List.mem_cons_of_mem _ hz)) hl2.2⟩
   have hp:=(insF_perm (fun q=>h (List.mem_cons_of_mem _ q)) fun z hz=>hs z (List.mem_cons_of_mem _ hz)).mem_iff.1 hz
   rcases List.mem_cons.1 hp with rfl | hz
   ·exact h1
   ·exact hl2.1 z hz
  ·next h1 =>
   split
   ·exact hl
   ·next h2 =>
    have hxy:lessL (numF x) (numF y)=true:=by
     cases e:lessL (numF x) (numF y) with
     | true=>rfl
     | false =>
      have hh:=hs y List.mem_cons_self
      have:=numF_inj hh.1.symm hh.2.symm (less_eq e (by simpa using h1))
      subst this
      exact absurd List.mem_cons_self h
    refine List.pairwise_cons.2 ⟨fun z hz=>?_,hl⟩
    rcases List.mem_cons.1 hz with rfl | hz
    ·exact hxy
    ·exact less_trans hxy (hl2.1 z hz)
theorem insF_fold:∀ {ys acc:List Fn},(ys++acc).Nodup→SameSh (ys++acc)→SrtF acc→(ys.foldl (fun out x=>insF x out) acc).Perm (ys++acc)∧SrtF (ys.foldl (fun out x=>insF x out) acc)
 | [],acc,_,_,h=>⟨List.Perm.refl _,h⟩
 | y :: ys,acc,hn,hs,h=>by
  simp only [List.foldl_cons]
  have hn2:=hn
  rw [List.cons_append,List.nodup_cons] at hn2
  have hy:y ∉ acc:=fun q=>hn2.1 (List.mem_append_right _ q)
  have hs1:∀ z∈acc,z.words.length=y.words.length∧z.regs.length=y.regs.length:=fun z hz=>hs z (List.mem_append_right _ hz) y (List.mem_append_left _ List.mem_cons_self)
  have hp:=insF_perm hy hs1
  have hpp:(ys++insF y acc).Perm (y :: ys++acc):=(List.Perm.append_left ys hp).trans List.perm_middle
  obtain ⟨h1,h2⟩:=insF_fold (hpp.nodup_iff.2 hn) (fun a ha b hb=>hs a (hpp.mem_iff.1 ha) b (hpp.mem_iff.1 hb)) (insF_srt hy hs1 h)
  exact ⟨h1.trans hpp,h2⟩
theorem srt_unique {l m:List Fn} (hp:l.Perm m) (hl:SrtF l) (hm:SrtF m):l=m :=
 List.Perm.eq_of_pairwise (le:=fun a b=>lessL (numF a) (numF b)=true) (fun a b _ _ h1 h2=>by
  have:=less_trans h1 h2
  rw [less_irr] at this
  cases this) hl hm hp
theorem finsL_eq (L:Lt) (l:List LS):finsL L l=((l.filter (finB L)).map endF).foldl (fun out x=>insF x out) []:=by
 rw [List.foldl_map];rfl
theorem ends_ok {L:Lt} {o:Int} {l:List LS} (hw:∀ s∈l,WfT L o s) (hn:l.Nodup):((l.filter (finB L)).map endF).Nodup∧SameSh ((l.filter (finB L)).map endF):=by
 refine ⟨?_,fun a ha b hb=>?_⟩
 ·rw [List.nodup_iff_pairwise_ne,List.pairwise_map]
  refine List.Pairwise.imp_of_mem ?_ (hn.filter (finB L))
  intro a b ha hb hne e
  rw [List.mem_filter] at ha hb
  exact hne (fin_inj (hw a ha.1) (hw b hb.1) ha.2 hb.2 e)
 ·rw [List.mem_map] at ha hb
  obtain ⟨s,hs,rfl⟩:=ha
  obtain ⟨t,ht,rfl⟩:=hb
  rw [List.mem_filter] at hs ht
  have h1:=(hw s hs.1).wf;have h2:=(hw t ht.1).wf
  exact ⟨h1.w.trans h2.w.symm,h1.r.trans h2.r.symm⟩
theorem finsL_ok {L:Lt} {o:Int} {l:List LS} (hw:∀ s∈l,WfT L o s) (hn:l.Nodup):(finsL L l).Perm ((l.filter (finB L)).map endF)∧SrtF (finsL L l):=by
 rw [finsL_eq]
 obtain ⟨h1,h2⟩:=ends_ok hw hn
 obtain ⟨h3,h4⟩:=insF_fold (ys:=(l.filter (finB L)).map endF) (acc:=[]) (by rw [List.append_nil];exact h1) (by rw [List.append_nil];exact h2) List.Pairwise.nil
 rw [List.append_nil] at h3
 exact ⟨h3,h4⟩
def idxL (L:Lt) (l:List Sp):List Nat:=(List.range l.length).filter fun k=>finB L (l.getD k sp0).s
def ordI (l:List Sp) (a b:Nat):Int:=ordF (endF (l.getD a sp0).s) (endF (l.getD b sp0).s)
theorem idx_map (L:Lt) (l:List Sp):(idxL L l).map (fun k=>endF (l.getD k sp0).s)=((l.map (·.s)).filter (finB L)).map endF:=by
 have e:l.map (·.s)=(List.range l.length).map fun k=>(l.getD k sp0).s:=by
  refine List.ext_getElem (by simp) fun i h1 h2=>?_
  simp at h1
  simp [List.getD_eq_getElem?_getD,h1]
 rw [e,List.filter_map,List.map_map]
 rfl
theorem idx_lt {L:Lt} {l:List Sp} {k:Nat} (h:k∈idxL L l):k<l.length∧finB L (l.getD k sp0).s=true:=by
 rw [idxL,List.mem_filter,List.mem_range] at h;exact h
theorem idx_inj {L:Lt} {o:Int} {l:List Sp} (h:WkNd L o l) {a b:Nat} (ha:a∈idxL L l) (hb:b∈idxL L l) (e:endF (l.getD a sp0).s=endF (l.getD b sp0).s):a=b:=by
 obtain ⟨h1,h2⟩:=idx_lt ha
 obtain ⟨g1,g2⟩:=idx_lt hb
 have:=fin_inj (h.toWkOk.at h1) (h.toWkOk.at g1) h2 g2 e
 have hn:=h.nd
 rw [List.nodup_iff_pairwise_ne,List.pairwise_iff_getElem] at hn
 have key:∀ i j (hi:i<l.length) (hj:j<l.length),(l.getD i sp0).s=(l.getD j sp0).s→¬ i<j:=fun i j hi hj q hij=>by
  refine hn i j (by simpa using hi) (by simpa using hj) hij ?_
  simp only [List.getElem_map]
  simpa only [List.getD_eq_getElem?_getD,List.getElem?_eq_getElem hi,List.getElem?_eq_getElem hj,Option.getD_some] using q
 rcases Nat.lt_trichotomy a b with q | q | q
 ·exact absurd q (key a b h1 g1 this)
 ·exact q
 ·exact absurd q (key b a g1 h1 this.symm)
theorem shp_idx {L:Lt} {o:Int} {l:List Sp} (h:WkNd L o l) {a b:Nat} (ha:a<l.length) (hb:b<l.length):(endF (l.getD a sp0).s).words.length=(endF (l.getD b sp0).s).words.length∧(endF (l.getD a sp0).s).regs.length=(endF (l.getD b sp0).s).regs.length:=by
 have h1:=(h.toWkOk.at ha).wf;have h2:=(h.toWkOk.at hb).wf
 exact ⟨h1.w.trans h2.w.symm,h1.r.trans h2.r.symm⟩
theorem ordI_eq {L:Lt} {o:Int} {l:List Sp} (h:WkNd L o l) {a b:Nat} (ha:a<l.length) (hb:b<l.length):ordI l a b=cmpL (numF (endF (l.getD a sp0).s)) (numF (endF (l.getD b sp0).s)):=by
 obtain ⟨h1,h2⟩:=shp_idx h ha hb
 exact ordF_eq h1 h2
theorem srt_idx {L:Lt} {o:Int} {l:List Sp} (h:WkNd L o l) {m:List Nat} (hp:m.Perm (idxL L l)) (hs:m.Pairwise fun a b=>ordI l a b≤0):m.map (fun k=>endF (l.getD k sp0).s)=finsL L (l.map (·.s)):=by
 have hw:∀ s∈l.map (·.s),WfT L o s:=fun s hs=>by
  rw [List.mem_map] at hs
  obtain ⟨x,hx,rfl⟩:=hs
  exact h.wf x hx
 obtain ⟨h1,h2⟩:=finsL_ok hw h.nd
 refine srt_unique ?_ ?_ h2
 ·refine (hp.map _).trans ?_
  rw [idx_map]
  exact h1.symm
 ·unfold SrtF
  rw [List.pairwise_map]
  have hnd:m.Nodup:=hp.nodup_iff.2 (List.nodup_range.filter _)
  refine List.Pairwise.imp_of_mem ?_ (hs.and hnd)
  intro a b ha hb hab
  obtain ⟨hab,hne⟩:=hab
  have ha':=hp.mem_iff.1 ha;have hb':=hp.mem_iff.1 hb
  rw [ordI_eq h (idx_lt ha').1 (idx_lt hb').1] at hab
  rw [← cmp_less]
  have:cmpL (numF (endF (l.getD a sp0).s)) (numF (endF (l.getD b sp0).s))≠0:=fun q=>by
   rw [cmp_zero] at q
   obtain ⟨k1,k2⟩:=shp_idx h (idx_lt ha').1 (idx_lt hb').1
   exact hne (idx_inj h ha' hb' (numF_inj k1 k2 q))
  omega
end Go.Proofs.Ytmcpdafmkkjlcaa.Z
namespace Go.Proofs.Ytmcpdafmkkjlcaa.Z
open Go Go.RowKit
structure FsOk (L:Lt) (n:Nat) (out:List Fn):Prop where
 len:out.length≤n
 sh:∀ f∈out,f.words.length=L.words.length∧f.regs.length=L.thr.length
theorem FsOk.at {L:Lt} {n:Nat} {out:List Fn} (h:FsOk L n out) {k:Nat} (hk:k<out.length):(out.getD k ⟨[],[]⟩).words.length=L.words.length∧(out.getD k ⟨[],[]⟩).regs.length=L.thr.length :=
 h.sh _ (by rw [List.getD_eq_getElem?_getD,List.getElem?_eq_getElem hk];exact List.getElem_mem hk)
theorem FsOk.mono {L:Lt} {n m:Nat} {out:List Fn} (h:FsOk L n out) (hm:n≤m):FsOk L m out:=⟨Nat.le_trans h.len hm,h.sh⟩
def fn0:Fn:=⟨[],[]⟩
def foC (b:Nat) (l:List Fn) (k:Nat):List SC:=[.sl (b+1,k,0) 1 0 (l.getD k fn0).words.length none,.sl (b+2,k,0) 4 0 (l.getD k fn0).regs.length none]
def foW (l:List Fn) (k:Nat):Blk:=.ar (l.getD k fn0).words.length 1 (ats eI (l.getD k fn0).words 0) 3
def foR (l:List Fn) (k:Nat):Blk:=.ar (l.getD k fn0).regs.length 4 (ats R4.enc (l.getD k fn0).regs r40) 68
def foO (b:Nat) (l:List Fn):Own:=[(b,.one (.ar l.length 2 (foC b l) 67)),(b+1,.fam l.length (foW l)),(b+2,.fam l.length (foR l))]
theorem fo_keys {b:Nat} {l:List Fn} {x:Nm} {c:Blk} (h:atN (foO b l) x=some c):x=(b,0,0)∨(∃ k,k<l.length∧x=(b+1,k,0))∨∃ k,k<l.length∧x=(b+2,k,0):=by
 rcases atN_one h with ⟨rfl,_⟩ | h
 ·exact Or.inl rfl
 rcases atN_fam h with ⟨k,hk,rfl,_⟩ | h
 ·exact Or.inr (Or.inl ⟨k,hk,rfl⟩)
 rcases atN_fam h with ⟨k,hk,rfl,_⟩ | h
 ·exact Or.inr (Or.inr ⟨k,hk,rfl⟩)
 exact (atN_nil h).elim
end Go.Proofs.Ytmcpdafmkkjlcaa.Z
namespace Go.Proofs.Ytmcpdafmkkjlcaa.Z
open Go Go.RowKit
def prE (p:Value×Value):List Value:=[p.1,p.2]
def pr0:Value×Value:=(nest0,nest0)
def FnsR (w:World) (v:Value) (l:List Fn):Prop :=
 ∃ ws:List (Value×Value),Arr w prE 2 v ws∧ws.length=l.length∧∀ k,k<l.length→Arr w eI 1 (ws.getD k pr0).1 (l.getD k fn0).words∧Arr w R4.enc 4 (ws.getD k pr0).2 (l.getD k fn0).regs
def fsF (i n:Nat) (low:Nat:=0):ArrF:=⟨n,2,fun k=>[.xv (i,k,0),.xv (i+1,k,0)],low⟩
theorem fsF_len (i n low:Nat):(fsF i n low).len=n:=rfl
theorem fsF_size (i n low:Nat):(fsF i n low).size=2:=rfl
theorem fsF_at (i n low k:Nat):(fsF i n low).at_ k=[.xv (i,k,0),.xv (i+1,k,0)]:=rfl
def fsA (i:Nat) (l:List Fn):List (Nat×Fm ArrF):=[(i,.one (fsF (i+1) l.length)),(i+1,.fam l.length fun k=>arrOf eI 1 (l.getD k fn0).words 0),(i+2,.fam l.length fun k=>arrOf R4.enc 4 (l.getD k fn0).regs r40)]
theorem arrLe_fs {q:Nat→Prop} {τ:Nat→Nat} {i n lw:Nat} (hp:q i) (hp1:q (i+1)) (hτ:τ i=i) (hτ1:τ (i+1)=i+1):ArrLe q (idσ τ) (fsF i n lw) (fsF i n lw) :=
 ⟨rfl,rfl,fun e _=>⟨by simp [fsF,SC.renL,SC.ren,idσ,hτ,hτ1],by simp [fsF,SC.okL,SC.okN,hp,hp1]⟩,Nat.le_refl _⟩
theorem rd_fns {w:World} {vals:List (Nat→Value)} {r:List (Nat×Fm ArrF)} {l:List Fn} {v:Value} {ws:List (Value×Value)} (j:Nat) (h:Arr w prE 2 v ws) (hl:ws.length=l.length) (hk:∀ k,k<l.length→Arr w eI 1 (ws.getD k pr0).1 (l.getD k fn0).words∧Arr w R4.enc 4 (ws.getD k pr0).2 (l.getD k fn0).regs)
  (hj:j+2<vals.length) (hv:(vals.getD j fun _=>nest0) 0=v) (hv1:∀ k,(vals.getD (j+1) fun _=>nest0) k=(ws.getD k pr0).1) (hv2:∀ k,(vals.getD (j+2) fun _=>nest0) k=(ws.getD k pr0).2) (hr:Reads w vals r):Reads w vals (fsA j l++r):=by
 intro E hE x A hA
 simp only [fsA,List.cons_append,List.nil_append] at hA
 rcases atN_one hA with ⟨rfl,rfl⟩ | hA
 ·obtain ⟨ba,cap,h1,h2,h3,h4⟩:=h
  refine ⟨ba,cap,by rw [hE j 0 0 (by omega),hv,h1,hl];rfl,by rw [← hl] at *;exact h2,h3,?_⟩
  rcases h4 with h4 | ⟨b,off,g1,g2⟩
  ·left;rw [h4] at hl;exact hl.symm
  ·right
   refine ⟨b,off,g1,Nat.zero_le _,fun k hk'=>⟨rfl,fun q u hu=>?_⟩⟩
   have hk' : k<l.length:=hk'
   have e1:(SC.xv (j+1,k,0)).den E=(ws.getD k pr0).1:=by simp only [SC.den];rw [hE (j+1) k 0 (by omega),hv1]
   have e2:(SC.xv (j+2,k,0)).den E=(ws.getD k pr0).2:=by simp only [SC.den];rw [hE (j+2) k 0 (by omega),hv2]
   have hwk:ws[k]? = some (ws.getD k pr0):=by rw [List.getD_eq_getElem?_getD,List.getElem?_eq_getElem (by omega)];rfl
   match q,hu with
   | 0,hu =>
    simp only [fsF,List.getElem?_cons_zero,Option.some.injEq] at hu
    subst hu
    rw [e1]
    exact ⟨g2 k _ hwk 0 _ rfl,arr_one (hk k hk').1⟩
   | 1,hu =>
    simp only [fsF,List.getElem?_cons_succ,List.getElem?_cons_zero,Option.some.injEq] at hu
    subst hu
    rw [e2]
    exact ⟨g2 k _ hwk 1 _ rfl,arr_one (hk k hk').2⟩
   | q+2,hu=>simp [fsF] at hu
 rcases atN_fam hA with ⟨k,hkn,rfl,rfl⟩ | hA
 ·exact arrAt_of eI_ok (by rw [hE (j+1) k 0 (by omega),hv1];exact (hk k hkn).1)
 rcases atN_fam hA with ⟨k,hkn,rfl,rfl⟩ | hA
 ·exact arrAt_of r4_ok (by rw [hE (j+2) k 0 (by omega),hv2];exact (hk k hkn).2)
 ·exact hr E hE x A hA
theorem prE_ones {w:World} {l:List Fn} {ws:List (Value×Value)} (hl:ws.length=l.length) (hk:∀ k,k<l.length→Arr w eI 1 (ws.getD k pr0).1 (l.getD k fn0).words∧Arr w R4.enc 4 (ws.getD k pr0).2 (l.getD k fn0).regs) (k:Nat):(ws.getD k pr0).1.oneCell' = true∧(ws.getD k pr0).2.oneCell' = true:=by
 by_cases h:k<l.length
 ·exact ⟨arr_one (hk k h).1,arr_one (hk k h).2⟩
 ·rw [List.getD_eq_getElem?_getD,List.getElem?_eq_none (by omega)]
  exact ⟨rfl,rfl⟩
theorem prE_one {w:World} {v:Value} {ws:List (Value×Value)} (h:Arr w prE 2 v ws):v.oneCell' = true:=by
 obtain ⟨ba,cap,rfl,_⟩:=h;rfl
theorem fns_len {w:World} {v:Value} {l:List Fn} (h:FnsR w v l):l.length≤9223372036854775807:=by
 obtain ⟨ws,⟨ba,cap,_,h2,h3,_⟩,hl,_⟩:=h
 simp only [maxLen] at h3
 omega
theorem fns_own {C:Ctx} {E:Env} {S:St} {a:Act} {w:World} (hs:Sat C.B C.W C.w0 E S a w) {l:List Fn} (b:Nat) (h0:look S.own b=some (.one (.ar l.length 2 (foC b l) 67))) (h1:look S.own (b+1)=some (.fam l.length (foW l))) (h2:look S.own (b+2)=some (.fam l.length (foR l))):FnsR w ((SC.sl (b,0,0) 2 0 l.length none).den E) l:=by
 have hm:∀ k,k<l.length→((List.range l.length).map fun k=>((SC.sl (b+1,k,0) 1 0 (l.getD k fn0).words.length none).den E,(SC.sl (b+2,k,0) 4 0 (l.getD k fn0).regs.length none).den E)).getD k pr0=((SC.sl (b+1,k,0) 1 0 (l.getD k fn0).words.length none).den E,(SC.sl (b+2,k,0) 4 0 (l.getD k fn0).regs.length none).den E):=fun k hk=>by
  rw [List.getD_eq_getElem?_getD,List.getElem?_map,List.getElem?_range hk];rfl
 refine ⟨(List.range l.length).map fun k=>((SC.sl (b+1,k,0) 1 0 (l.getD k fn0).words.length none).den E,(SC.sl (b+2,k,0) 4 0 (l.getD k fn0).regs.length none).den E),?_,by simp,fun k hk=>?_⟩
 ·obtain ⟨H,hH,_⟩:=hs.mem
  rcases ar_heap hH (show atN S.own (b,0,0)=some (.ar l.length 2 (foC b l) 67) by simp [atN,h0,Fm.get]) with ⟨g1,g2,g3,_⟩ | ⟨g1,g2,g3,cells,g4,g5,g6,g7⟩
  ·have h0:l=[]:=List.eq_nil_of_length_eq_zero g3
   subst h0
   exact ⟨if E.ν (b,0,0)=true then none else some ⟨E.ρ (b,0,0),0,none⟩,0,by simp [SC.den,g2],Nat.le_refl _,by simp [maxLen],Or.inl rfl⟩
  ·refine ⟨some ⟨E.ρ (b,0,0),0,none⟩,E.κ (b,0,0),by simp [SC.den,g1],by simpa using g2.1,g3,Or.inr ⟨_,_,rfl,fun e y hy q u hu=>?_⟩⟩
   rw [cell_of_row w _ _ _ _ (0,0) g5,Nat.zero_add]
   have he:e<l.length:=by
    have:=(List.getElem?_eq_some_iff.1 hy).1
    simpa using this
   have hy2:y=((SC.sl (b+1,e,0) 1 0 (l.getD e fn0).words.length none).den E,(SC.sl (b+2,e,0) 4 0 (l.getD e fn0).regs.length none).den E):=by
    rw [List.getElem?_map,List.getElem?_range he] at hy
    exact (Option.some.inj hy).symm
   subst hy2
   match q,hu with
   | 0,hu =>
    simp only [prE,List.getElem?_cons_zero,Option.some.injEq] at hu
    subst hu
    exact ((g7 e he).2 0 _ rfl).1
   | 1,hu =>
    simp only [prE,List.getElem?_cons_succ,List.getElem?_cons_zero,Option.some.injEq] at hu
    subst hu
    exact ((g7 e he).2 1 _ rfl).1
   | q+2,hu=>simp [prE] at hu
 ·rw [hm k hk]
  exact ⟨arr_ownX (d:=0) hs (b+1,k,0) _ _ _ (by simp only [atN,h1,Fm.get,hk,and_self,if_true];rfl) rfl (Nat.le_refl _) (fun _ _=>rfl),arr_ownX (d:=r40) hs (b+2,k,0) _ _ _ (by simp only [atN,h2,Fm.get,hk,and_self,if_true];rfl) rfl (Nat.le_refl _) (fun _ _=>rfl)⟩
end Go.Proofs.Ytmcpdafmkkjlcaa.Z
namespace Go.Proofs.Ytmcpdafmkkjlcaa.Z
open Go Go.RowKit
def cLd (r a:Int):Ins:=⟨1,r,a,0,0,0,0⟩
def cSt (a v:Int):Ins:=⟨2,0,a,v,-1,0,0⟩
def cSk (r v:Int):Ins:=⟨7,r,0,v,0,0,1⟩
def cFe:Ins:=⟨4,0,0,0,0,0,0⟩
def cSw:Ins:=⟨3,0,0,0,0,1,0⟩
def clT:Nat→List (List Ins)
 | 0=>[[cSt 0 1,cLd 0 1],[cSt 1 1,cLd 0 0]]
 | 1=>[[cSt 0 1,cSt 1 1],[cLd 0 1,cLd 1 0]]
 | 2=>[[cLd 0 0,cSt 1 1],[cLd 0 1,cSt 0 1]]
 | 3=>[[cSt 0 1],[cSt 1 1],[cLd 0 0,cLd 1 1],[cLd 0 1,cLd 1 0]]
 | 4=>[[cSt 0 1,cSt 1 1],[cSt 1 2,cLd 0 0]]
 | 5=>[[cSt 0 2,cSt 1 1],[cLd 0 1,cSt 0 1]]
 | 6=>[[cSt 0 1,cSt 1 2],[cSt 1 1,cSt 0 2]]
 | 7=>[[cSt 0 1,cFe,cLd 0 1],[cSt 1 1,cFe,cLd 0 0]]
 | 8=>[[cSt 1 1,cLd 0 0,cSk 0 0,cLd 1 2],[cSw,cLd 1 1,cSk 1 1,cSt 2 (-1)]]
 | _=>[[cSt 1 1,cFe,cLd 0 0,cSk 0 0,cLd 1 2],[cSw,cLd 1 1,cSk 1 1,cSt 2 (-1)]]
def clL (i:Nat):Lt:=⟨if i<8 then [0,0] else [1,0,7],clT i⟩
structure Sn where
 frm:Nat
 want:List Int
 under:Int
def snT:Nat→Sn
 | 0=>⟨0,[0,-9,0,-9,-9,-9],2⟩
 | 1=>⟨0,[-9,-9,1,0,-9,-9],3⟩
 | 2=>⟨0,[1,-9,1,-9,-9,-9],4⟩
 | 3=>⟨2,[1,0,1,0,-9,-9],4⟩
 | 4=>⟨0,[-9,-9,0,-9,-9,2],2⟩
 | 5=>⟨0,[-9,-9,1,-9,2,-9],3⟩
 | 6=>⟨0,[-9,-9,-9,-9,1,1],3⟩
 | 7=>⟨0,[0,-9,0,-9,-9,-9],4⟩
 | 8=>⟨0,[-9,-1,-9,-9,-9,-9],2⟩
 | _=>⟨0,[-9,-1,-9,-9,-9,-9],4⟩
def isF (x:Sn) (f:Fn):List Int:=[(f.regs.getD x.frm r40).a,(f.regs.getD x.frm r40).b,(f.regs.getD (x.frm+1) r40).a,(f.regs.getD (x.frm+1) r40).b,f.words.getD 0 0,f.words.getD 1 0]
def hitF (x:Sn) (f:Fn):Bool:=(List.range 6).all fun k=>x.want.getD k 0 == -9 || x.want.getD k 0 == (isF x f).getD k 0
def seenF' (x:Sn) (l:List Fn):Bool:=l.any (hitF x)
def clB (i:Nat) (o:Int):Bool:=match bfs (clL i) o with
 | none=>false
 | some l=>(seenF' (snT i) (finsL (clL i) (l.map (·.s))) == decide (o≥(snT i).under))
set_option maxRecDepth 100000
theorem cl_ok:∀ i,i<10→checkB (clL i)=true:=by decide +kernel
theorem cl_lo:∀ i,i<3→clB i 1=true∧clB i 2=true∧clB i 3=true:=by decide +kernel
theorem cl_3:clB 3 1=true∧clB 3 2=true∧clB 3 3=true:=by decide +kernel
theorem cl_hi:∀ i,i<6→clB (i+4) 1=true∧clB (i+4) 2=true∧clB (i+4) 3=true:=by decide +kernel
theorem cl_all {i:Nat} (hi:i<10) {o:Int} (ho:1≤o∧o≤3):clB i o=true:=by
 have h:clB i 1=true∧clB i 2=true∧clB i 3=true:=by
  rcases Nat.lt_or_ge i 3 with h | h
  ·exact cl_lo i h
  ·rcases Nat.lt_or_ge i 4 with h' | h'
   ·obtain rfl:i=3:=by omega
    exact cl_3
   ·have:=cl_hi (i - 4) (by omega)
    rwa [show i - 4+4=i by omega] at this
 rcases (show o=1∨o=2∨o=3 by omega) with rfl | rfl | rfl
 ·exact h.1
 ·exact h.2.1
 ·exact h.2.2
end Go.Proofs.Ytmcpdafmkkjlcaa.Z
