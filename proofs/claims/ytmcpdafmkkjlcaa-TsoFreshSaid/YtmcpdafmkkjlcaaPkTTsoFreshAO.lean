/- TsoFreshSaid: what its proof is made of. No condition. -/
import Derived.Test.YtmcpdafmkkjlcaaPkTTsoFreshAN
set_option linter.unusedSimpArgs false
set_option linter.unusedVariables false
namespace Go.Proofs.Ytmcpdafmkkjlcaa.Z
open Go Go.RowKit
def wlC (b:Nat) (l:List Sp) (i:Nat):List SC:=[.sl (b+1,i,0) 1 0 (l.getD i sp0).s.words.length none,.sl (b+2,i,0) 4 0 (l.getD i sp0).s.regs.length none,.sl (b+3,i,0) 1 0 (l.getD i sp0).s.places.length none,.sl (b+4,i,0) 1 0 (l.getD i sp0).s.bufs.length none,.v (.int .i64 (l.getD i sp0).frm),.v (.int .i64 (l.getD i sp0).tn.thr),.v (.bool (l.getD i sp0).tn.out),.v (.int .i64 (l.getD i sp0).tn.addr)]
def wlW (l:List Sp) (k:Nat):Blk:=.ar (l.getD k sp0).s.words.length 1 (ats eI (l.getD k sp0).s.words 0) 3
def wlR (l:List Sp) (k:Nat):Blk:=.ar (l.getD k sp0).s.regs.length 4 (ats R4.enc (l.getD k sp0).s.regs r40) 68
def wlP (l:List Sp) (k:Nat):Blk:=.ar (l.getD k sp0).s.places.length 1 (ats eI (l.getD k sp0).s.places 0) 3
def wlB (b:Nat) (l:List Sp) (k:Nat):Blk:=.ar (l.getD k sp0).s.bufs.length 1 (fun e=>[.sl (b,k,e) 2 0 ((l.getD k sp0).s.bufs.getD e []).length none]) 86
def wlF (l:List Sp) (k e:Nat):Blk:=.ar ((l.getD k sp0).s.bufs.getD e []).length 2 (ats Pd.enc ((l.getD k sp0).s.bufs.getD e []) pd0) 88
def wlN (l:List Sp) (k:Nat):Nat:=(l.getD k sp0).s.bufs.length
def wlO (b:Nat) (l:List Sp):Own:=[(b,.one (.ar l.length 8 (wlC b l) 98)),(b+1,.fam l.length (wlW l)),(b+2,.fam l.length (wlR l)),(b+3,.fam l.length (wlP l)),(b+4,.fam l.length (wlB (b+5) l)),(b+5,.fam2 l.length (wlN l) (wlF l))]
def wlS (l:List Sp) (ts:List Tn):Own:=(3,.one (.bk [.xv (0,0,0),.xv (1,0,0)] 25)) :: wlO 11 l++[(17,.one (.mp (.arr 110 .i64) .i64 (seenF l))),(18,.one (.ar ts.length 3 (ats Tn.enc ts tn0) 44))]
def wlσ (n a w r p b f m t:Nat) (x:Nm):Nm :=
 if x.1=11 then (a,x.2) else if x.1=17 then (m,x.2) else if x.1=18 then (t,x.2)
 else if x.2.1=n then (if x.1=12 then (w,0,0) else if x.1=13 then (r,0,0) else if x.1=14 then (p,0,0) else if x.1=15 then (b,0,0) else if x.1=16 then (f,x.2.2,0) else x) else x
theorem st_ownG {C:Ctx} {E:Env} {S:St} {a:Act} {w:World} (hs:Sat C.B C.W C.w0 E S a w) {s:LS} (b n:Nat) (h6:look S.own b=some (.one (.ar s.words.length 1 (ats eI s.words 0) 3))) (h7:look S.own (b+1)=some (.one (.ar s.regs.length 4 (ats R4.enc s.regs r40) 68))) (h8:look S.own (b+2)=some (.one (.ar s.places.length 1 (ats eI s.places 0) 3)))
  (h9:look S.own (b+3)=some (.one (.ar s.bufs.length 1 (bfC n s) 86))) (h10:look S.own n=some (.fam s.bufs.length (bfO s))):StR w ((SV.agg (stC b s)).den E) s :=
 ⟨_,_,_,_,by simp [stC,SV.den],own_at (d:=0) hs b _ h6 rfl,own_at (d:=r40) hs (b+1) _ h7 rfl,own_at (d:=0) hs (b+2) _ h8 rfl,nest_own (d:=pd0) hs (b+3,0,0) n _ rfl (bfC n s) (by simp [atN,h9,Fm.get];rfl) (fun _ _=>rfl) (fun k hk=>by simp [atN,h10,Fm.get,hk,bfO];rfl)⟩
theorem nest_ownG {C:Ctx} {E:Env} {S:St} {a:Act} {w:World} (hs:Sat C.B C.W C.w0 E S a w) {α:Type} {enc:α→List Value} {s ty ty2:Nat} {ls:List (List α)} {d:α} (j:Nm) (ν:Nat→Nm) (n:Nat) (hn:n=ls.length) (at_:Nat→List SC) (hj:atN S.own j=some (.ar n 1 at_ ty)) (ha:∀ k,k<n→at_ k=[.sl (ν k) s 0 (ls.getD k []).length none])
  (hi:∀ k,k<ls.length→atN S.own (ν k)=some (.ar (ls.getD k []).length s (ats enc (ls.getD k []) d) ty2)):Nest w enc s ((SC.sl j 1 0 n none).den E) ls:=by
 subst hn
 refine ⟨(List.range ls.length).map fun k=>(SC.sl (ν k) s 0 (ls.getD k []).length none).den E,?_,by simp,fun k hk=>?_⟩
 ·obtain ⟨H,hH,_⟩:=hs.mem
  rcases ar_heap hH hj with ⟨h1,h2,h3,_⟩ | ⟨h1,h2,h3,cells,h4,h5,h6,h7⟩
  ·have h0:ls=[]:=List.eq_nil_of_length_eq_zero h3
   subst h0
   exact ⟨if E.ν j=true then none else some ⟨E.ρ j,0,none⟩,0,by simp [SC.den,h2],Nat.le_refl _,by simp [maxLen],Or.inl rfl⟩
  ·refine ⟨some ⟨E.ρ j,0,none⟩,E.κ j,by simp [SC.den,h1],by simpa using h2.1,h3,Or.inr ⟨_,_,rfl,fun e y hy q u hu=>?_⟩⟩
   rw [cell_of_row w _ _ _ ty (0,0) h5,Nat.zero_add]
   have he:e<ls.length:=by
    have:=(List.getElem?_eq_some_iff.1 hy).1
    simpa using this
   simp [he] at hy
   subst hy
   cases q with
   | zero =>
    simp only [one1',List.getElem?_cons_zero,Option.some.injEq] at hu
    subst hu
    exact ((h7 e he).2 0 _ (by rw [ha e he];simp [he])).1
   | succ q=>simp [one1'] at hu
 ·have:((List.range ls.length).map fun k=>(SC.sl (ν k) s 0 (ls.getD k []).length none).den E).getD k nest0=(SC.sl (ν k) s 0 (ls.getD k []).length none).den E:=by rw [List.getD_eq_getElem?_getD,List.getElem?_map,List.getElem?_range hk];rfl
  rw [this]
  exact arr_ownX (d:=d) hs (ν k) _ _ _ (hi k hk) rfl (Nat.le_refl _) fun _ _=>rfl
theorem st_ownL {C:Ctx} {E:Env} {S:St} {a:Act} {w:World} (hs:Sat C.B C.W C.w0 E S a w) {l:List Sp} (b i:Nat) (hi:i<l.length) (h1:look S.own (b+1)=some (.fam l.length (wlW l))) (h2:look S.own (b+2)=some (.fam l.length (wlR l))) (h3:look S.own (b+3)=some (.fam l.length (wlP l))) (h4:look S.own (b+4)=some (.fam l.length (wlB (b+5) l))) (h5:look S.own (b+5)=some (.fam2 l.length (wlN l) (wlF l))) :
  StR w ((SV.agg [.sl (b+1,i,0) 1 0 (l.getD i sp0).s.words.length none,.sl (b+2,i,0) 4 0 (l.getD i sp0).s.regs.length none,.sl (b+3,i,0) 1 0 (l.getD i sp0).s.places.length none,.sl (b+4,i,0) 1 0 (l.getD i sp0).s.bufs.length none]).den E) (l.getD i sp0).s :=
 ⟨_,_,_,_,by simp [SV.den],arr_ownX (d:=0) hs (b+1,i,0) _ _ _ (by simp only [atN,h1,Fm.get,hi,and_self,if_true];rfl) rfl (Nat.le_refl _) (fun _ _=>rfl),arr_ownX (d:=r40) hs (b+2,i,0) _ _ _ (by simp only [atN,h2,Fm.get,hi,and_self,if_true];rfl) rfl (Nat.le_refl _) (fun _ _=>rfl),arr_ownX (d:=0) hs (b+3,i,0) _ _ _ (by simp only [atN,h3,Fm.get,hi,and_self,if_true];rfl) rfl (Nat.le_refl _) (fun _ _=>rfl),
  nest_ownG (d:=pd0) hs (b+4,i,0) (fun e=>(b+5,i,e)) _ rfl _ (by simp only [atN,h4,Fm.get,hi,and_self,if_true];rfl) (fun _ _=>rfl) (fun k hk=>by simp only [atN,h5,Fm.get];rw [if_pos ⟨hi,hk⟩];rfl)⟩
theorem getD_app1 {α:Type} {l:List α} {x d:α} {k:Nat} (h:k<l.length):(l++[x]).getD k d=l.getD k d:=by
 rw [List.getD_eq_getElem?_getD,List.getElem?_append_left h,List.getD_eq_getElem?_getD]
theorem getD_app2 {α:Type} {l:List α} {x d:α} {k:Nat} (h:k=l.length):(l++[x]).getD k d=x:=by
 subst h;rw [List.getD_eq_getElem?_getD,List.getElem?_append_right (Nat.le_refl _)];simp
theorem atN_fam2 {α:Type} {i n:Nat} {m:Nat→Nat} {f:Nat→Nat→α} {r:List (Nat×Fm α)} {x:Nm} {A:α} (h:atN ((i,.fam2 n m f) :: r) x=some A):(∃ k e,k<n∧x=(i,k,e))∨atN r x=some A:=by
 obtain ⟨a,b,c⟩:=x
 simp only [atN,look_cons] at h ⊢
 by_cases e:i=a
 ·subst e
  rw [if_pos rfl] at h
  simp only [Fm.get] at h
  split at h
  ·next e=>exact Or.inl ⟨b,c,e.1,rfl⟩
  ·cases h
 ·rw [if_neg e] at h
  exact Or.inr h
theorem wl_push {l:List Sp} {x:Sp} {ts:List Tn} {O:Own} {n a w r p b f m t:Nat} {at_:Nat→List SC} {g:List Int→Option Int} (hn:n=l.length) (h3:look O 3=some (.one (.bk [.xv (0,0,0),.xv (1,0,0)] 25)))
  (ha:look O a=some (.one (.ar (n+1) 8 at_ 98))) (hat:∀ e,e<n→at_ e=wlC 11 l e) (hat2:at_ n=[.sl (w,0,0) 1 0 x.s.words.length none,.sl (r,0,0) 4 0 x.s.regs.length none,.sl (p,0,0) 1 0 x.s.places.length none,.sl (b,0,0) 1 0 x.s.bufs.length none,.v (.int .i64 x.frm),.v (.int .i64 x.tn.thr),.v (.bool x.tn.out),.v (.int .i64 x.tn.addr)])
  (hw:look O w=some (.one (.ar x.s.words.length 1 (ats eI x.s.words 0) 3))) (hr:look O r=some (.one (.ar x.s.regs.length 4 (ats R4.enc x.s.regs r40) 68))) (hp:look O p=some (.one (.ar x.s.places.length 1 (ats eI x.s.places 0) 3)))
  (hb:look O b=some (.one (.ar x.s.bufs.length 1 (bfC f x.s) 86))) (hf:look O f=some (.fam x.s.bufs.length (bfO x.s))) (hm:look O m=some (.one (.mp (.arr 110 .i64) .i64 g))) (hg:∀ q,g q=seenF (l++[x]) q) (ht:look O t=some (.one (.ar ts.length 3 (ats Tn.enc ts tn0) 44)))
  (hfam:0<n→look O 12=some (.fam n (wlW l))∧look O 13=some (.fam n (wlR l))∧look O 14=some (.fam n (wlP l))∧look O 15=some (.fam n (wlB 16 l))∧look O 16=some (.fam2 n (wlN l) (wlF l))) :
  OwnLe (· < 19) (wlσ n a w r p b f m t) O (wlS (l++[x]) ts):=by
 have hle:(l++[x]).length=n+1:=by simp [hn]
 have g2:∀ k,k=n→(l++[x]).getD k sp0=x:=fun k hk=>getD_app2 (by omega)
 have g1:∀ k,k<n→(l++[x]).getD k sp0=l.getD k sp0:=fun k hk=>getD_app1 (by omega)
 have hcase:∀ k,k<(l++[x]).length→(k=n)∨(k<n∧¬ k=n):=fun k hk=>by omega
 refine ⟨⟨of_decide_eq_true rfl,?_⟩,⟨of_decide_eq_true rfl,?_⟩,⟨of_decide_eq_true rfl,fun k hk=>?_⟩,⟨of_decide_eq_true rfl,fun k hk=>?_⟩,⟨of_decide_eq_true rfl,fun k hk=>?_⟩,⟨of_decide_eq_true rfl,fun k hk=>?_⟩,⟨of_decide_eq_true rfl,fun k e hk he=>?_⟩,⟨of_decide_eq_true rfl,?_⟩,⟨of_decide_eq_true rfl,?_⟩,trivial⟩
 ·have e3:wlσ n a w r p b f m t (3,0,0)=(3,0,0):=by simp [wlσ]
  have e0:wlσ n a w r p b f m t (0,0,0)=(0,0,0):=by simp [wlσ]
  have e1:wlσ n a w r p b f m t (1,0,0)=(1,0,0):=by simp [wlσ]
  simp [BlkLeO,BlkLe,atN,e3,e0,e1,h3,Fm.get,SC.renL,SC.ren,SC.okL,SC.okN]
 ·simp only [wlσ,reduceIte,atN,ha,Fm.get,and_self]
  refine ⟨by omega,rfl,rfl,fun e he=>⟨?_,by simp [wlC,SC.okL,SC.okN]⟩⟩
  rcases hcase e he with rfl | ⟨h,hne⟩
  ·rw [hat2];simp only [wlC,g2 e rfl,SC.renL,SC.ren,wlσ,Nat.reduceAdd,Nat.reduceEqDiff,reduceIte]
  ·rw [hat e h];simp only [wlC,g1 e h,SC.renL,SC.ren,wlσ,Nat.reduceAdd,Nat.reduceEqDiff,reduceIte,hne]
 ·rcases hcase k hk with rfl | ⟨h,hne⟩
  ·simp only [wlσ,Nat.reduceEqDiff,reduceIte,atN,hw,Fm.get,and_self,wlW,g2 k rfl];exact arLe_same
  ·simp only [wlσ,Nat.reduceEqDiff,reduceIte,hne,atN,(hfam (by omega)).1,Fm.get,h,and_self,wlW,g1 k h];exact arLe_same
 ·rcases hcase k hk with rfl | ⟨h,hne⟩
  ·simp only [wlσ,Nat.reduceEqDiff,reduceIte,atN,hr,Fm.get,and_self,wlR,g2 k rfl];exact arLe_same
  ·simp only [wlσ,Nat.reduceEqDiff,reduceIte,hne,atN,(hfam (by omega)).2.1,Fm.get,h,and_self,wlR,g1 k h];exact arLe_same
 ·rcases hcase k hk with rfl | ⟨h,hne⟩
  ·simp only [wlσ,Nat.reduceEqDiff,reduceIte,atN,hp,Fm.get,and_self,wlP,g2 k rfl];exact arLe_same
  ·simp only [wlσ,Nat.reduceEqDiff,reduceIte,hne,atN,(hfam (by omega)).2.2.1,Fm.get,h,and_self,wlP,g1 k h];exact arLe_same
 ·rcases hcase k hk with rfl | ⟨h,hne⟩
  ·simp only [wlσ,Nat.reduceEqDiff,reduceIte,atN,hb,Fm.get,and_self,wlB,g2 k rfl]
   exact ⟨Nat.le_refl _,rfl,rfl,fun e he=>⟨by simp [bfC,SC.renL,SC.ren,wlσ],by simp [SC.okL,SC.okN]⟩⟩
  ·simp only [wlσ,Nat.reduceEqDiff,reduceIte,hne,atN,(hfam (by omega)).2.2.2.1,Fm.get,h,and_self,wlB,g1 k h]
   exact ⟨Nat.le_refl _,rfl,rfl,fun e he=>⟨by simp [SC.renL,SC.ren,wlσ,hne],by simp [SC.okL,SC.okN]⟩⟩
 ·rcases hcase k hk with rfl | ⟨h,hne⟩
  ·simp only [wlN,g2 k rfl] at he
   simp only [wlσ,Nat.reduceEqDiff,reduceIte,atN,hf,Fm.get,he,and_self,wlF,g2 k rfl,bfO];exact arLe_same
  ·simp only [wlN,g1 k h] at he
   simp only [wlσ,Nat.reduceEqDiff,reduceIte,hne,atN,(hfam (by omega)).2.2.2.2,Fm.get,h,wlN,he,and_self,wlF,g1 k h];exact arLe_same
 ·simp only [wlσ,Nat.reduceEqDiff,reduceIte,atN,hm,Fm.get,and_self]
  exact ⟨rfl,rfl,hg⟩
 ·simp only [wlσ,Nat.reduceEqDiff,reduceIte,atN,ht,Fm.get,and_self]
  exact arLe_same
def wlρ (n a w r p b f m t:Nat) (y:Nm):Nm:=if y.1=3 then y else if y.1=a then (11,y.2) else if y.1=w then (12,n,0) else if y.1=r then (13,n,0) else if y.1=p then (14,n,0) else if y.1=b then (15,n,0) else if y.1=f then (16,n,y.2.1) else if y.1=m then (17,y.2) else if y.1=t then (18,y.2) else y
theorem wl_inj {l:List Sp} {ts:List Tn} {n a w r p b f m t:Nat} (hn:l.length=n+1) (hd:[3,a,w,r,p,b,f,m,t].Nodup) (hno:n=0∨∀ z∈[a,w,r,p,b,f,m,t],z<12∨16<z):InjN (wlσ n a w r p b f m t) (wlS l ts):=by
 have key:∀ x c,atN (wlS l ts) x=some c→wlρ n a w r p b f m t (wlσ n a w r p b f m t x)=x:=by
  intro x c hx
  simp only [List.nodup_cons,List.mem_cons,List.not_mem_nil,or_false,not_or,not_false_eq_true,List.nodup_nil,and_true,and_self] at hd
  obtain ⟨⟨a1,a2,a3,a4,a5,a6,a7,a8⟩,⟨b1,b2,b3,b4,b5,b6,b7⟩,⟨c1,c2,c3,c4,c5,c6⟩,⟨d1,d2,d3,d4,d5⟩,⟨e1,e2,e3,e4⟩,⟨f1,f2,f3⟩,⟨i1,i2⟩,j1⟩:=hd
  have hno2:∀ k,k<n+1→¬ k=n→∀ q,12≤q→q≤16→¬ q=a∧¬ q=w∧¬ q=r∧¬ q=p∧¬ q=b∧¬ q=f∧¬ q=m∧¬ q=t:=fun k hk hne q h1 h2=>by
   rcases hno with h | h
   ·omega
   ·have z:=fun y hy=>h y hy
    simp only [List.mem_cons,List.not_mem_nil,or_false,forall_eq_or_imp,forall_eq] at z
    omega
  simp only [wlS,wlO,List.cons_append,List.nil_append] at hx
  rcases atN_one hx with ⟨rfl,_⟩ | hx
  ·simp [wlσ,wlρ]
  rcases atN_one hx with ⟨rfl,_⟩ | hx
  ·simp [wlσ,wlρ,Ne.symm a1]
  rcases atN_fam hx with ⟨k,hk,rfl,_⟩ | hx
  ·by_cases hkn:k=n
   ·subst hkn;simp [wlσ,wlρ,Ne.symm a2,Ne.symm b1]
   ·obtain ⟨y1,y2,y3,y4,y5,y6,y7,y8⟩:=hno2 k (by omega) hkn 12 (by omega) (by omega)
    simp [wlσ,wlρ,hkn,y1,y2,y3,y4,y5,y6,y7,y8]
  rcases atN_fam hx with ⟨k,hk,rfl,_⟩ | hx
  ·by_cases hkn:k=n
   ·subst hkn;simp [wlσ,wlρ,Ne.symm a3,Ne.symm b2,Ne.symm c1]
   ·obtain ⟨y1,y2,y3,y4,y5,y6,y7,y8⟩:=hno2 k (by omega) hkn 13 (by omega) (by omega)
    simp [wlσ,wlρ,hkn,y1,y2,y3,y4,y5,y6,y7,y8]
  rcases atN_fam hx with ⟨k,hk,rfl,_⟩ | hx
  ·by_cases hkn:k=n
   ·subst hkn;simp [wlσ,wlρ,Ne.symm a4,Ne.symm b3,Ne.symm c2,Ne.symm d1]
   ·obtain ⟨y1,y2,y3,y4,y5,y6,y7,y8⟩:=hno2 k (by omega) hkn 14 (by omega) (by omega)
    simp [wlσ,wlρ,hkn,y1,y2,y3,y4,y5,y6,y7,y8]
  rcases atN_fam hx with ⟨k,hk,rfl,_⟩ | hx
  ·by_cases hkn:k=n
   ·subst hkn;simp [wlσ,wlρ,Ne.symm a5,Ne.symm b4,Ne.symm c3,Ne.symm d2,Ne.symm e1]
   ·obtain ⟨y1,y2,y3,y4,y5,y6,y7,y8⟩:=hno2 k (by omega) hkn 15 (by omega) (by omega)
    simp [wlσ,wlρ,hkn,y1,y2,y3,y4,y5,y6,y7,y8]
  rcases atN_fam2 hx with ⟨k,e,hk,rfl⟩ | hx
  ·by_cases hkn:k=n
   ·subst hkn;simp [wlσ,wlρ,Ne.symm a6,Ne.symm b5,Ne.symm c4,Ne.symm d3,Ne.symm e2,Ne.symm f1]
   ·obtain ⟨y1,y2,y3,y4,y5,y6,y7,y8⟩:=hno2 k (by omega) hkn 16 (by omega) (by omega)
    simp [wlσ,wlρ,hkn,y1,y2,y3,y4,y5,y6,y7,y8]
  rcases atN_one hx with ⟨rfl,_⟩ | hx
  ·simp [wlσ,wlρ,Ne.symm a7,Ne.symm b6,Ne.symm c5,Ne.symm d4,Ne.symm e3,Ne.symm f2,Ne.symm i1]
  rcases atN_one hx with ⟨rfl,_⟩ | hx
  ·simp [wlσ,wlρ,Ne.symm a8,Ne.symm b7,Ne.symm c6,Ne.symm d5,Ne.symm e4,Ne.symm f3,Ne.symm i2,Ne.symm j1]
  ·exact (atN_nil hx).elim
 intro x y c d hx hy e
 have h1:=key x c hx
 have h2:=key y d hy
 rw [← h1,← h2,e]
theorem wlσ_lo {n a w r p b f m t:Nat} {x:Nm} (h:x.1<11):wlσ n a w r p b f m t x=x:=by
 unfold wlσ
 rw [if_neg (by omega),if_neg (by omega),if_neg (by omega)]
 split
 ·rw [if_neg (by omega),if_neg (by omega),if_neg (by omega),if_neg (by omega),if_neg (by omega)]
 ·rfl
theorem wl_arrs {L:Lt} {n a w r p b f m t:Nat} {arrs:List (Nat×Fm ArrF)} (h0:look arrs 0=some (.one (arrOf eI 1 L.words 0))) (h1:look arrs 1=some (.one (nestF 2 L.thr.length))) (h2:look arrs 2=some (.fam L.thr.length fun k=>arrOf Ins.enc 7 (L.thr.getD k []) in0)):ArrsLe (· < 19) (wlσ n a w r p b f m t) arrs (ltA 0 L):=by
 refine ⟨⟨of_decide_eq_true rfl,?_⟩,⟨of_decide_eq_true rfl,?_⟩,⟨of_decide_eq_true rfl,fun k hk=>?_⟩,trivial⟩
 ·rw [wlσ_lo (by decide)];simp only [atN,h0,Fm.get,and_self,if_true];exact arrLe_of
 ·rw [wlσ_lo (by decide)];simp only [atN,Nat.zero_add,h1,Fm.get,and_self,if_true]
  exact ⟨rfl,rfl,fun e _=>⟨by simp only [nestF,SC.renL,SC.ren];rw [wlσ_lo (show (2,e,0).1<11 from (by decide:2<11))],by simp [nestF,SC.okL,SC.okN]⟩,Nat.le_refl _⟩
 ·rw [wlσ_lo (by simp)];simp only [atN,Nat.zero_add,h2,Fm.get,hk,and_self,if_true];exact arrLe_of
theorem wl_same {p:Nat→Prop} {τ:Nat→Nat} {own:Own} {l:List Sp} {ts:List Tn} (hp:∀ i,i<19→p i) (hτ:∀ i,i=0∨i=1∨i=3∨11≤i∧i≤18→τ i=i) (h3:look own 3=some (.one (.bk [.xv (0,0,0),.xv (1,0,0)] 25))) (h11:look own 11=some (.one (.ar l.length 8 (wlC 11 l) 98))) (h12:look own 12=some (.fam l.length (wlW l))) (h13:look own 13=some (.fam l.length (wlR l))) (h14:look own 14=some (.fam l.length (wlP l))) (h15:look own 15=some (.fam l.length (wlB 16 l))) (h16:look own 16=some (.fam2 l.length (wlN l) (wlF l)))
  (h17:look own 17=some (.one (.mp (.arr 110 .i64) .i64 (seenF l)))) (h18:look own 18=some (.one (.ar ts.length 3 (ats Tn.enc ts tn0) 44))):OwnLe p (idσ τ) own (wlS l ts):=by
 have q0:=hτ 0 (by decide);have q1:=hτ 1 (by decide);have q3:=hτ 3 (by decide)
 have q11:=hτ 11 (by decide);have q12:=hτ 12 (by decide);have q13:=hτ 13 (by decide);have q14:=hτ 14 (by decide);have q15:=hτ 15 (by decide);have q16:=hτ 16 (by decide);have q17:=hτ 17 (by decide);have q18:=hτ 18 (by decide)
 have p':=fun i h=>hp i h
 refine ⟨⟨p' 3 (by decide),?_⟩,⟨p' 11 (by decide),?_⟩,⟨p' 12 (by decide),fun k hk=>?_⟩,⟨p' 13 (by decide),fun k hk=>?_⟩,⟨p' 14 (by decide),fun k hk=>?_⟩,⟨p' 15 (by decide),fun k hk=>?_⟩,⟨p' 16 (by decide),fun k e hk he=>?_⟩,⟨p' 17 (by decide),?_⟩,⟨p' 18 (by decide),?_⟩,trivial⟩
 ·simp only [idσ,q3,atN,h3,Fm.get,and_self,if_true]
  exact ⟨by simp [SC.renL,SC.ren,idσ,q0,q1],rfl,by simp [SC.okL,SC.okN,p' 0,p' 1]⟩
 ·simp only [idσ,q11,atN,h11,Fm.get,and_self,if_true]
  exact ⟨Nat.le_refl _,rfl,rfl,fun e _=>⟨by simp only [wlC,SC.renL,SC.ren,idσ,Nat.reduceAdd,q12,q13,q14,q15],by simp [wlC,SC.okL,SC.okN,p' 12,p' 13,p' 14,p' 15]⟩⟩
 ·simp only [idσ,Nat.reduceAdd,q12,atN,h12,Fm.get,hk,and_self,if_true];exact arLe_same
 ·simp only [idσ,Nat.reduceAdd,q13,atN,h13,Fm.get,hk,and_self,if_true];exact arLe_same
 ·simp only [idσ,Nat.reduceAdd,q14,atN,h14,Fm.get,hk,and_self,if_true];exact arLe_same
 ·simp only [idσ,Nat.reduceAdd,q15,atN,h15,Fm.get,hk,and_self,if_true]
  exact ⟨Nat.le_refl _,rfl,rfl,fun e _=>⟨by simp only [SC.renL,SC.ren,idσ,q16],by simp [SC.okL,SC.okN,p' 16]⟩⟩
 ·simp only [idσ,Nat.reduceAdd,q16,atN,h16,Fm.get,hk,he,and_self,if_true];exact arLe_same
 ·simp only [idσ,q17,atN,h17,Fm.get,and_self,if_true];exact ⟨rfl,rfl,fun _=>rfl⟩
 ·simp only [idσ,q18,atN,h18,Fm.get,and_self,if_true];exact arLe_same
theorem wfT_sz {L:Lt} {o:Int} {s:LS} (hL:checkB L=true) (h:WfT L o s):LsSz s:=by
 have z:=sz_at hL
 have h1:=h.wf.w;have h2:=h.wf.r;have h3:=h.wf.p;have h4:=h.wf.b
 exact ⟨by omega,by omega,by omega,by omega,fun k hk=>by have:=(h.wf.thr k (by omega)).b;omega⟩
def wlTm (o:Int) (n m i:Nat):List (Nat×SV):=[(1,.c (.v (.int .i64 o))),(2,.c (.ptr (3,0,0) 0)),(9,.c (.mp (17,0,0))),(10,.c (.sl (11,0,0) 8 0 n none)),(11,.c (.sl (18,0,0) 3 0 m none)),(12,.c (.v (.int .i64 i)))]
def ir49:IR:=(.seq (.ops [⟨(some 2),(.box 25 (.t 0)),none⟩,⟨(some 4),(.mv (.k (.c (.v (.slice none 0 0))))),none⟩,⟨(some 5),(.mv (.k (.c (.v (.int .i64 0))))),none⟩]) (.kill [0,3,4,5,6,7,8,9,10,11] (.seq (.seq (.ops [⟨(some 17),(.ld true 2 (.t 2)),none⟩,⟨(some 18),(.mv (.t 1)),none⟩,⟨(some 19),(.call 39 [(.t 17),(.t 18)]),none⟩,⟨(some 6),(.mv (.t 19)),none⟩]) (.kill [17,18,19] (.seq (.ops [⟨(some 20),(.mv (.t 6)),none⟩,⟨(some 21),(.bin .neq (.t 20) (.k (.c (.v (.int .i64 0))))),none⟩]) (.kill [20] (.cond (.t 21) (.seq (.ops [⟨(some 22),(.mv (.t 6)),none⟩,⟨(some 4),(.mv (.k (.c (.v (.slice none 0 0))))),none⟩,⟨(some 5),(.mv (.t 22)),none⟩]) (.kill [1,2,6,21,22] .ret)) .skip))))) (.kill [4,5,6,21] (.seq (.ops [⟨(some 24),(.ld true 2 (.t 2)),none⟩,⟨(some 25),(.call 19 [(.t 24)]),none⟩,⟨(some 23),(.mv (.t 25)),none⟩,⟨(some 26),(.ext 0 (.t 23)),none⟩,⟨(some 27),(.ext 1 (.t 23)),none⟩,⟨(some 7),(.new 32 [(.v (.slice none 0 0)),(.v (.slice none 0 0)),(.v (.slice none 0 0)),(.v (.slice none 0 0))]),none⟩,⟨none,(.st 4 (.t 7) (.t 26)),none⟩,⟨(some 8),(.mv (.t 27)),none⟩]) (.kill [8,23,24,25,26,27] (.seq (.ops [⟨(some 28),(.mkm (.arr 110 .i64) .i64),none⟩,⟨(some 29),(.ld true 4 (.t 7)),none⟩,⟨(some 30),(.call 83 [(.t 29)]),none⟩,⟨none,(.mup (.arr 110 .i64) .i64 (.t 28) (.t 30) (.k (.c (.v (.int .i64 1))))),none⟩,⟨(some 31),(.mv (.t 28)),none⟩,⟨(some 9),(.mv (.t 31)),none⟩]) (.kill [28,29,30,31] (.seq (.ops [⟨(some 32),(.ld true 4 (.t 7)),none⟩,⟨(some 33),(.build [(.v (.slice none 0 0)),(.v (.slice none 0 0)),(.v (.slice none 0 0)),(.v (.slice none 0 0)),(.v (.int .i64 0)),(.v (.int .i64 0)),(.v (.bool false)),(.v (.int .i64 0))] [(0,(4,(.t 32))),(4,(1,(.k (.c (.v (.int .i64 (-1)))))))]),none⟩,⟨(some 34),(.mkSl 98 1 8 [(.v (.slice none 0 0)),(.v (.slice none 0 0)),(.v (.slice none 0 0)),(.v (.slice none 0 0)),(.v (.int .i64 0)),(.v (.int .i64 0)),(.v (.bool false)),(.v (.int .i64 0))] [(0,(8,(.t 33)))]),none⟩,⟨(some 10),(.mv (.t 34)),none⟩]) (.kill [7,32,33,34] (.seq (.ops [⟨(some 35),(.ld true 2 (.t 2)),none⟩,⟨(some 36),(.mv (.t 1)),none⟩,⟨(some 37),(.call 84 [(.t 35),(.t 36)]),none⟩,⟨(some 11),(.mv (.t 37)),none⟩]) (.kill [35,36,37] (.seq (.seq (.ops [⟨(some 12),(.mv (.k (.c (.v (.int .i64 0))))),none⟩]) (.blk 0 (.loop (.seq (.seq (.ops [⟨(some 38),(.mv (.t 12)),none⟩,⟨(some 39),(.mv (.t 10)),none⟩,⟨(some 40),(.len (.t 39)),none⟩,⟨(some 41),(.bin .lss (.t 38) (.t 40)),none⟩]) (.kill [4,5,14,15,16,38,39,40,42,43,44,45,46,47,48,49,50,51,52,53,54,55,56,57,58,59,60,61,62,63,64,65,66,67,68,69,70,71,72,73,74,75,76,77,78,79] (.cond (.t 41) .skip (.exit 0)))) (.kill [41] (.seq (.blk 1 (.seq (.ops [⟨(some 44),(.mv (.t 11)),none⟩,⟨(some 45),(.len (.t 44)),none⟩,⟨(some 46),(.mv (.k (.c (.v (.int .i64 0))))),none⟩]) (.blk 2 (.loop (.seq (.ops [⟨(some 47),(.bin .lss (.t 46) (.t 45)),none⟩]) (.kill [4,5,14,15,16,48,49,50,51,52,53,54,55,56,57,58,59,60,61,62,63,64,65,66,67,68,69,70,71,72,73,74,75,76,77,78,79] (.seq (.cond (.t 47) .skip (.exit 2)) (.kill [47] (.seq (.blk 3 (.seq (.ops [⟨(some 48),(.ia 3 (.t 44) (.t 46)),none⟩,⟨(some 49),(.ld true 3 (.t 48)),none⟩,⟨(some 14),(.new 44 [(.v (.int .i64 0)),(.v (.bool false)),(.v (.int .i64 0))]),none⟩,⟨none,(.st 3 (.t 14) (.t 49)),none⟩]) (.kill [48,49] (.seq (.ops [⟨(some 50),(.mv (.t 10)),none⟩,⟨(some 51),(.mv (.t 12)),none⟩,⟨(some 52),(.ia 8 (.t 50) (.t 51)),none⟩,⟨(some 53),(.fa 0 (.t 52)),none⟩,⟨(some 54),(.ld true 4 (.t 53)),none⟩,⟨(some 55),(.call 46 [(.t 54)]),none⟩,⟨(some 15),(.new 32 [(.v (.slice none 0 0)),(.v (.slice none 0 0)),(.v (.slice none 0 0)),(.v (.slice none 0 0))]),none⟩,⟨none,(.st 4 (.t 15) (.t 55)),none⟩]) (.kill [50,51,52,53,54,55] (.seq (.seq (.ops [⟨(some 56),(.ld true 2 (.t 2)),none⟩,⟨(some 57),(.mv (.t 1)),none⟩,⟨(some 58),(.ld true 3 (.t 14)),none⟩,⟨(some 59),(.call 40 [(.t 56),(.t 57),(.t 15),(.t 58)]),none⟩,⟨(some 60),(.un .not (.t 59)),none⟩]) (.kill [56,57,58,59] (.cond (.t 60) (.exit 3) .skip))) (.kill [60] (.seq (.ops [⟨(some 61),(.ld true 4 (.t 15)),none⟩,⟨(some 62),(.call 83 [(.t 61)]),none⟩,⟨(some 16),(.new 132 [(.v (.int .i64 0)),(.v (.int .i64 0)),(.v (.int .i64 0)),(.v (.int .i64 0)),(.v (.int .i64 0)),(.v (.int .i64 0)),(.v (.int .i64 0)),(.v (.int .i64 0)),(.v (.int .i64 0)),(.v (.int .i64 0)),(.v (.int .i64 0)),(.v (.int .i64 0)),(.v (.int .i64 0)),(.v (.int .i64 0)),(.v (.int .i64 0)),(.v (.int .i64 0)),(.v (.int .i64 0)),(.v (.int .i64 0)),(.v (.int .i64 0)),(.v (.int .i64 0)),(.v (.int .i64 0)),(.v (.int .i64 0)),(.v (.int .i64 0)),(.v (.int .i64 0)),(.v (.int .i64 0)),(.v (.int .i64 0)),(.v (.int .i64 0)),(.v (.int .i64 0)),(.v (.int .i64 0)),(.v (.int .i64 0)),(.v (.int .i64 0)),(.v (.int .i64 0)),(.v (.int .i64 0)),(.v (.int .i64 0)),(.v (.int .i64 0)),(.v (.int .i64 0)),(.v (.int .i64 0)),(.v (.int .i64 0)),(.v (.int .i64 0)),(.v (.int .i64 0)),(.v (.int .i64 0)),(.v (.int .i64 0)),(.v (.int .i64 0)),(.v (.int .i64 0)),(.v (.int .i64 0)),(.v (.int .i64 0)),(.v (.int .i64 0)),(.v (.int .i64 0)),(.v (.int .i64 0)),(.v (.int .i64 0)),(.v (.int .i64 0)),(.v (.int .i64 0)),(.v (.int .i64 0)),(.v (.int .i64 0)),(.v (.int .i64 0)),(.v (.int .i64 0)),(.v (.int .i64 0)),(.v (.int .i64 0)),(.v (.int .i64 0)),(.v (.int .i64 0)),(.v (.int .i64 0)),(.v (.int .i64 0)),(.v (.int .i64 0)),(.v (.int .i64 0)),(.v (.int .i64 0)),(.v (.int .i64 0)),(.v (.int .i64 0)),(.v (.int .i64 0)),(.v (.int .i64 0)),(.v (.int .i64 0)),(.v (.int .i64 0)),(.v (.int .i64 0)),(.v (.int .i64 0)),(.v (.int .i64 0)),(.v (.int .i64 0)),(.v (.int .i64 0)),(.v (.int .i64 0)),(.v (.int .i64 0)),(.v (.int .i64 0)),(.v (.int .i64 0)),(.v (.int .i64 0)),(.v (.int .i64 0)),(.v (.int .i64 0)),(.v (.int .i64 0)),(.v (.int .i64 0)),(.v (.int .i64 0)),(.v (.int .i64 0)),(.v (.int .i64 0)),(.v (.int .i64 0)),(.v (.int .i64 0)),(.v (.int .i64 0)),(.v (.int .i64 0)),(.v (.int .i64 0)),(.v (.int .i64 0)),(.v (.int .i64 0)),(.v (.int .i64 0)),(.v (.int .i64 0)),(.v (.int .i64 0)),(.v (.int .i64 0)),(.v (.int .i64 0)),(.v (.int .i64 0)),(.v (.int .i64 0)),(.v (.int .i64 0)),(.v (.int .i64 0)),(.v (.int .i64 0)),(.v (.int .i64 0)),(.v (.int .i64 0)),(.v (.int .i64 0)),(.v (.int .i64 0)),(.v (.int .i64 0))]),none⟩,⟨none,(.st 110 (.t 16) (.t 62)),none⟩]) (.kill [61,62] (.seq (.seq (.ops [⟨(some 63),(.mv (.t 9)),none⟩,⟨(some 64),(.ld true 110 (.t 16)),none⟩,⟨(some 65),(.lkp (.arr 110 .i64) .i64 false (.t 63) (.t 64)),none⟩,⟨(some 66),(.bin .gtr (.t 65) (.k (.c (.v (.int .i64 0))))),none⟩]) (.kill [63,64,65] (.cond (.t 66) (.exit 3) .skip))) (.kill [66] (.seq (.ops [⟨(some 67),(.mv (.t 9)),none⟩,⟨(some 68),(.ld true 110 (.t 16)),none⟩,⟨none,(.mup (.arr 110 .i64) .i64 (.t 67) (.t 68) (.k (.c (.v (.int .i64 1))))),none⟩]) (.kill [16,67,68] (.seq (.seq (.ops [⟨(some 69),(.mv (.t 10)),none⟩,⟨(some 70),(.len (.t 69)),none⟩,⟨(some 71),(.bin .eql (.t 70) (.k (.c (.v (.int .i64 30000))))),none⟩]) (.kill [69,70] (.cond (.t 71) (.seq (.ops [⟨(some 4),(.mv (.k (.c (.v (.slice none 0 0))))),none⟩,⟨(some 5),(.mv (.k (.c (.v (.int .i64 192))))),none⟩]) (.kill [1,2,9,10,11,12,14,15,44,45,46,71] .ret)) .skip))) (.kill [4,5,71] (.ops [⟨(some 72),(.mv (.t 10)),none⟩,⟨(some 73),(.ld true 4 (.t 15)),none⟩,⟨(some 74),(.mv (.t 12)),none⟩,⟨(some 75),(.ld true 3 (.t 14)),none⟩,⟨(some 76),(.build [(.v (.slice none 0 0)),(.v (.slice none 0 0)),(.v (.slice none 0 0)),(.v (.slice none 0 0)),(.v (.int .i64 0)),(.v (.int .i64 0)),(.v (.bool false)),(.v (.int .i64 0))] [(0,(4,(.t 73))),(4,(1,(.t 74))),(5,(3,(.t 75)))]),none⟩,⟨(some 77),(.mkSl 98 1 8 [(.v (.slice none 0 0)),(.v (.slice none 0 0)),(.v (.slice none 0 0)),(.v (.slice none 0 0)),(.v (.int .i64 0)),(.v (.int .i64 0)),(.v (.bool false)),(.v (.int .i64 0))] [(0,(8,(.t 76)))]),none⟩,⟨(some 78),(.app 98 8 128 [(.v (.slice none 0 0)),(.v (.slice none 0 0)),(.v (.slice none 0 0)),(.v (.slice none 0 0)),(.v (.int .i64 0)),(.v (.int .i64 0)),(.v (.bool false)),(.v (.int .i64 0))] (.t 72) (.t 77)),none⟩,⟨(some 10),(.mv (.t 78)),none⟩])))))))))))))))) (.kill [4,5,14,15,16,48,49,50,51,52,53,54,55,56,57,58,59,60,61,62,63,64,65,66,67,68,69,70,71,72,73,74,75,76,77,78] (.ops [⟨(some 79),(.bin .add (.t 46) (.k (.c (.v (.int .i64 1))))),none⟩,⟨(some 46),(.mv (.t 79)),none⟩]))))))))))) (.kill [4,5,14,15,16,44,45,46,47,48,49,50,51,52,53,54,55,56,57,58,59,60,61,62,63,64,65,66,67,68,69,70,71,72,73,74,75,76,77,78,79] (.ops [⟨(some 42),(.mv (.t 12)),none⟩,⟨(some 43),(.bin .add (.t 42) (.k (.c (.v (.int .i64 1))))),none⟩,⟨(some 12),(.mv (.t 43)),none⟩])))))))) (.kill [1,2,4,5,9,11,12,14,15,16,38,39,40,41,42,43,44,45,46,47,48,49,50,51,52,53,54,55,56,57,58,59,60,61,62,63,64,65,66,67,68,69,70,71,72,73,74,75,76,77,78,79] (.seq (.ops [⟨(some 80),(.mv (.t 10)),none⟩,⟨(some 4),(.mv (.t 80)),none⟩,⟨(some 5),(.mv (.k (.c (.v (.int .i64 0))))),none⟩]) (.kill [10,80] .ret))))))))))))))))
def rs49:List RS:=[(.t 4),(.t 5)]
def nt49:Nat:=81
def wlT (l:List Sp) (b:Nat):SV:=.tup [(false,[.sl (b,0,0) 8 0 l.length none]),(false,[.v (.int .i64 0)])]
def WalkR (L:Lt) (o:Int) (w:World) (e:Ending) (w' : World):Prop:=match bfs L o with
 | some l=>RetN w 6 (wlT l) (fun b=>wlO b l) e w'
 | none=>RetV w (.tuple #[.slice none 0 0,.int .i64 192]) e w'
theorem ints_of (l:List Int):intsOf .i64 (l.map fun x=>SC.v (.int .i64 x))=some l:=by
 induction l with
 | nil=>rfl
 | cons x l ih=>simp only [List.map_cons,intsOf,ih,reduceIte,Option.map_some]
def picV (s:LS):SV:=.agg ((picS s).map fun x=>.v (.int .i64 x))
theorem picV_den (s:LS) (E:Env):(picV s).den E = .agg ((picS s).map (Value.int .i64)).toArray:=by simp [picV,SV.den,SC.den,Function.comp_def]
theorem pic_len {L:Lt} {o:Int} {s:LS} (hL:checkB L=true) (h:WfT L o s):(picS s).length=110:=padN_len (by
 have h1:=flat_le hL h (Nat.le_refl _)
 have h2:=(sz_at hL).2.1
 unfold flatS
 rw [h.wf.r]
 omega)
set_option maxRecDepth 100000 in
set_option maxHeartbeats 2000000 in
theorem walk_calls (w:World) (v:Value) (L:Lt) (o:Int) (hL:checkB L=true) (ho:1≤o∧o≤3) (hok:LtOk L) (h:LtR w v L):Calls Try.prog 49 #[v,.int .i64 o] w (WalkR L o w):=by
 refine enterLt (A:=[]) (c:=ir49) (rs:=rs49) (nt:=nt49) h [.agg (ltS 0),.c (.v (.int .i64 o))] _ Try.func49 rfl (by kernel_rfl) (by kernel_rfl) rfl (fun E' h0=>by simp only [List.map_cons,List.map_nil,h0];rfl) (of_decide_eq_true rfl) ?_
 generalize hR:WalkR L o w=R
 simp (maxSteps:=2000000) only [ir49,nt49,rs49,go_sem,↓runOp,↓reduceIte,Nat.reduceLT,Nat.reduceLeDiff,Nat.reduceAdd,Nat.reduceEqDiff,reduceCtorEq,Int.reduceNeg,ltA,ltS]
 refine callV (.c (.v (.int .i64 0))) _ (fun E=>rfl) (fun E a w' hs=>by
  have:=look_calls w' _ L o hok (ltL_at hs rfl rfl rfl)
  rw [if_pos hL,if_pos ho] at this
  exact this) ?_
 simp (maxSteps:=2000000) only [go_sem,↓condS,↓runOp,↓imp_ft,↓imp_ff,↓reduceIte,Nat.reduceLT,Nat.reduceLeDiff,Nat.reduceAdd,Nat.reduceEqDiff,Int.reduceNeg]
 refine callN 5 (bgT L) (fun b=>stO b (beginS L)) (fun E a w' hs=>begin_calls w' _ L hL hok (ltL_at hs rfl rfl rfl)) ?_
 simp (maxSteps:=2000000) only [go_sem,↓runOp,↓reduceIte,Nat.reduceLT,Nat.reduceLeDiff,Nat.reduceAdd,Nat.reduceEqDiff,Int.reduceNeg,bgT,stO,stC]
 refine callV (picV (beginS L)) _ (picV_den _) (fun E a w' hs=>pic_calls w' _ L o (beginS L) hL (begin_wfT o) (st_ownG hs 4 8 rfl rfl rfl rfl rfl)) ?_
 have hpl:=pic_len hL (begin_wfT (L:=L) o)
 simp (maxSteps:=2000000) only [go_sem,↓runOp,↓reduceIte,Nat.reduceLT,Nat.reduceLeDiff,Nat.reduceAdd,Nat.reduceMul,Nat.reduceEqDiff,Int.reduceNeg,picV,ints_of]
 refine And.intro hpl (And.intro (by decide) ?_)
 refine callN 1 (lsT 3 (turnsL L o).length) (lsO 44 3 Tn.enc (turnsL L o) tn0) (fun E a w' hs=>turns_calls w' _ L o hL (ltL_at hs rfl rfl rfl)) ?_
 simp (maxSteps:=2000000) only [go_sem,↓runOp,↓reduceIte,Nat.reduceLT,Nat.reduceAdd,Nat.reduceEqDiff,Int.reduceNeg,lsT,lsO]
 have htl:(turnsL L o).length≤28:=by have:=turnsT_len (o:=o) hL L.thr.length;have:=(sz_at hL).2.1;unfold turnsL;omega
 refine loopI (ι:={ p:Nat×List Sp // WkOk L o p.2∧p.1≤p.2.length∧bfsO L o (30001 - p.1) p.1 p.2=bfs L o }) (fun p=>⟨81,wlTm o p.1.2.length (turnsL L o).length p.1.1,wlS p.1.2 (turnsL L o),ltA 0 L,[],19⟩)
  (fun p=>30001 - p.1.1) ⟨(0,[sp1 L]),wkOk_begin,by simp,rfl⟩ (le_nm (wlσ 0 11 4 5 6 7 8 10 12) ⟨rfl,rfl,by simp [wlTm,TmpsLe,look,SV.ren,SC.ren,wlσ,SV.okN,SC.okN],?_,wl_arrs rfl rfl rfl,wl_inj (by simp) (by decide) (Or.inl rfl)⟩) ?_
 ·exact wl_push (l:=[]) (x:=sp1 L) rfl rfl rfl (fun e he=>by omega) rfl rfl rfl rfl rfl rfl rfl (fun q=>by rw [seen_push];rfl) rfl (fun h=>by omega)
 rintro ⟨⟨i,l⟩,hw,hi,hbf⟩
 simp only at hw hi hbf
 simp (maxSteps:=2000000) only [go_sem,↓condS,↓exitS,↓runOp,↓reduceIte,Nat.reduceLT,Nat.reduceAdd,Nat.reduceEqDiff,wlTm,wlS,wlO,ltA]
 refine both (fun hlt=>?_) (fun hge=>?_)
 ·rw [decide_eq_true_eq] at hlt
  have hlt:i<l.length:=by omega
  have hln:=hw.len
  have hbf:(bfsI L o i (turnsL L o) l).bind (bfsO L o (30000 - i) (i+1))=bfs L o:=by
   rw [← hbf,show 30001 - i=(30000 - i)+1 by omega]
   simp only [bfsO,if_pos hlt]
  refine loopI (ι:={ p:Nat×List Sp // WkOk L o p.2∧p.1≤(turnsL L o).length∧i<p.2.length∧(bfsI L o i ((turnsL L o).drop p.1) p.2).bind (bfsO L o (30000 - i) (i+1))=bfs L o }) (fun p=>⟨81,wlTm o p.1.2.length (turnsL L o).length i++[(44,.c (.sl (18,0,0) 3 0 (turnsL L o).length none)),(45,.c (.v (.int .i64 (turnsL L o).length))),(46,.c (.v (.int .i64 (p.1.1:Nat))))],wlS p.1.2 (turnsL L o),ltA 0 L,[],19⟩)
   (fun p=>(turnsL L o).length - p.1.1) ⟨(0,l),hw,Nat.zero_le _,hlt,by rw [List.drop_zero];exact hbf⟩ ?_ ?_
  ·exact le_ren id rfl rfl (by simp [wlTm,TmpsLe,look,SV.ren,SC.ren,idσ,SV.okN,SC.okN]) (wl_same (p:=(· < 19)) (fun i h=>h) (fun _ _=>rfl) rfl rfl rfl rfl rfl rfl rfl rfl rfl) (arr_ltA (p:=(· < 19)) (fun i h=>Nat.lt_of_lt_of_le h (show 3≤19 by decide)) (fun _ _=>rfl) rfl rfl rfl) rfl
  rintro ⟨⟨j,l⟩,hw,hj,hlt,hbf⟩
  simp only at hw hj hlt hbf
  simp (maxSteps:=2000000) only [go_sem,↓condS,↓exitS,↓runOp,↓reduceIte,Nat.reduceLT,Nat.reduceLeDiff,Nat.reduceAdd,Nat.reduceEqDiff,wlTm,wlS,wlO,wlC,ltA,ats,Tn.enc]
  refine both (fun hltj=>?_) (fun hge=>?_)
  ·rw [decide_eq_true_eq] at hltj
   have hltj:j<(turnsL L o).length:=by omega
   have hwi:=hw.at hlt
   have hdr:(turnsL L o).drop j=(turnsL L o).getD j tn0 :: (turnsL L o).drop (j+1):=by rw [List.drop_eq_getElem_cons hltj,List.getD_eq_getElem?_getD,List.getElem?_eq_getElem hltj];rfl
   rw [hdr] at hbf
   simp only [bfsI] at hbf
   generalize htj:(turnsL L o).getD j tn0=tj at hbf ⊢
   refine And.intro ⟨hltj,Nat.le_refl _⟩ (And.intro hltj (And.intro ⟨hlt,Nat.le_refl _⟩ (And.intro hlt ?_)))
   refine callN 5 (fun b=>.agg (stC b (l.getD i sp0).s)) (fun b=>stO b (l.getD i sp0).s) (fun E a w' hs=>icopy_calls w' _ (l.getD i sp0).s (wfT_sz hL hwi) (st_ownL hs 11 i hlt rfl rfl rfl rfl rfl)) ?_
   simp (maxSteps:=2000000) only [go_sem,↓runOp,↓reduceIte,Nat.reduceLT,Nat.reduceLeDiff,Nat.reduceAdd,Nat.reduceEqDiff,stO,stC]
   have hwq:=turn_wfT hL hwi tj
   generalize hsi:(l.getD i sp0).s=si at hwi hwq hbf ⊢
   refine call_leT (S':=⟨81,wlTm o l.length (turnsL L o).length i++[(44,.c (.sl (18,0,0) 3 0 (turnsL L o).length none)),(45,.c (.v (.int .i64 (turnsL L o).length))),(46,.c (.v (.int .i64 j))),(14,.c (.ptr (19,0,0) 0)),(15,.c (.ptr (5,0,0) 0)),(56,.agg (ltS 0)),(57,.c (.v (.int .i64 o))),(58,.agg (tj.enc.map .v))],
     stP si++(wlS l (turnsL L o)++[(19,.one (.bk [.v (.int .i64 tj.thr),.v (.bool tj.out),.v (.int .i64 tj.addr)] 44))]),ltA 0 L,[],26⟩) (vs':=[.agg (ltS 0),.c (.v (.int .i64 o)),.c (.ptr (5,0,0) 0),.agg (tj.enc.map .v)]) [56,57,15,58]
    ?_ ⟨rfl,rfl,rfl,rfl,trivial⟩ ⟨rfl,rfl,rfl,rfl,trivial⟩ ?_
   ·refine le_ren (fun i=>if i=5 then 25 else if 6≤i then (if i≤10 then i+14 else i) else i) rfl rfl (by simp [wlTm,TmpsLe,look,SV.ren,SC.ren,SC.renL,idσ,SV.okN,SC.okN,SC.okL,ltS,Tn.enc]) (ownLe_app ?_ (ownLe_app (wl_same (fun i h=>Nat.lt_of_lt_of_le h (show 19≤26 by decide)) (fun i h=>by rw [if_neg (by omega)];split;rw [if_neg (by omega)];rfl) rfl rfl rfl rfl rfl rfl rfl rfl rfl) ?_)) (arr_ltA (p:=(· < 26)) (fun i h=>Nat.lt_of_lt_of_le h (show 3≤26 by decide)) (fun i h=>by rw [if_neg (by omega),if_neg (by omega)]) rfl rfl rfl) rfl
    ·simp +contextual [stP,stO,stC,OwnLe,BlkLeO,BlkLe,atN,look,Fm.get,idσ,SC.renL,SC.ren,SC.okL,SC.okN,ren_ats,ok_ats,bfC,bfO]
    ·simp [OwnLe,BlkLeO,BlkLe,atN,look,Fm.get,idσ,SC.renL,SC.ren,SC.okL,SC.okN]
   refine call_intro (cr_own 11 (stP si) (ltA 0 L) (show 11≤26 by decide) (stP_plain _) (stP_le (fun i h=>h) (fun _ _=>rfl) rfl rfl rfl rfl rfl rfl) (by simp +contextual [ltA,ArrsLe,ArrLeO,atN,look,Fm.get,idσ,arrLe_of,arrLe_nest]) stE_key (fun E w h=>iturn_own w E L o _ tj 10 hL hwi.wf (by omega) h)) (lt11 (show 11≤26 by decide)) ?_
   generalize turnS L o si tj=q at hwq hbf ⊢
   simp (maxSteps:=2000000) only [go_sem,↓condS,↓exitS,↓runOp,↓reduceIte,Nat.reduceLT,Nat.reduceLeDiff,Nat.reduceAdd,Nat.reduceEqDiff,killO,stE,stC,stP,stO,ltA,ltS,wlTm,wlS,wlO,Tn.enc]
   have hwr:=wr_succ (n:=j) (by omega)
   rw [hwr]
   refine both (fun hd=>?_) (fun hd=>?_)
   ·rw [if_neg (by simp at hd;simp [hd])] at hbf
    exact backI ⟨(j+1,l),hw,hltj,hlt,hbf⟩ (by simp only;omega) (le_ren id rfl rfl (by simp [TmpsLe,look,SV.ren,SC.ren,idσ,SV.okN,SC.okN]) (wl_same (p:=(· < 19)) (fun i h=>h) (fun _ _=>rfl) rfl rfl rfl rfl rfl rfl rfl rfl rfl) (arr_ltA (p:=(· < 19)) (fun i h=>Nat.lt_of_lt_of_le h (show 3≤19 by decide)) (fun _ _=>rfl) rfl rfl rfl) rfl)
   have hd:q.2=true:=by simpa using hd
   refine callV (picV q.1) _ (picV_den _) (fun E a w' hs=>pic_calls w' _ L o q.1 hL hwq (st_ownG hs 6 26 rfl rfl rfl rfl rfl)) ?_
   have hql:=pic_len hL hwq
   have hM1:len' ((picS q.1).map fun x=>SC.v (.int .i64 x))=110:=by rw [len'_eq,List.length_map,hql]
   have hM2:=ints_of (picS q.1)
   have hM3:take' 110 ((picS q.1).map fun x=>SC.v (.int .i64 x))=(picS q.1).map fun x=>SC.v (.int .i64 x):=by rw [take'_eq,List.take_of_length_le (by rw [List.length_map,hql];exact Nat.le_refl _)]
   have hM4:=allOne_ints (picS q.1)
   simp only [picV]
   generalize (picS q.1).map (fun x=>SC.v (.int .i64 x))=M at hM1 hM2 hM3 hM4 ⊢
   simp (maxSteps:=2000000) only [go_sem,↓condS,↓exitS,↓runOp,↓reduceIte,Nat.reduceLT,Nat.reduceLeDiff,Nat.reduceAdd,Nat.reduceMul,Nat.reduceEqDiff,hM1,hM2,hM3,hM4]
   rw [hwr]
   have hsi':=seen_iff hw hwq
   refine And.intro hql (both (fun hsn=>?_) (fun hsn=>And.intro hql (both (fun hfull=>?_) (fun hfull=>?_))))
   ·have hmem:q.1∈l.map (·.s):=by
     refine hsi'.1 ?_
     unfold seenF at hsn
     split at hsn
     ·next hm=>exact hm
     ·simp at hsn
    rw [if_neg (fun h=>h.2 hmem)] at hbf
    exact backI ⟨(j+1,l),hw,hltj,hlt,hbf⟩ (by simp only;omega) (le_ren id rfl rfl (by simp [TmpsLe,look,SV.ren,SC.ren,idσ,SV.okN,SC.okN]) (wl_same (p:=(· < 19)) (fun i h=>h) (fun _ _=>rfl) rfl rfl rfl rfl rfl rfl rfl rfl rfl) (arr_ltA (p:=(· < 19)) (fun i h=>Nat.lt_of_lt_of_le h (show 3≤19 by decide)) (fun _ _=>rfl) rfl rfl rfl) rfl)
   ·have hnm:q.1 ∉ l.map (·.s):=fun hmem=>by
     unfold seenF at hsn
     rw [if_pos (hsi'.2 hmem)] at hsn
     simp at hsn
    rw [if_pos ⟨hd,hnm⟩,if_pos (by simp at hfull;omega)] at hbf
    have hbf:bfs L o=none:=hbf.symm
    rw [← hR]
    unfold WalkR
    rw [hbf]
    exact retV fun E=>by simp [SV.den,SC.den,den1]
   ·have hnm:q.1 ∉ l.map (·.s):=fun hmem=>by
     unfold seenF at hsn
     rw [if_pos (hsi'.2 hmem)] at hsn
     simp at hsn
    have hlf:l.length≠30000:=by simp at hfull;omega
    rw [if_pos ⟨hd,hnm⟩,if_neg hlf] at hbf
    have hln:=hw.len
    refine And.intro (by decide) (And.intro ⟨Nat.le_refl _,by omega,by simp only [maxLen];omega⟩ ?_)
    refine backI ⟨(j+1,l++[⟨q.1,i,tj⟩]),wkOk_push hw hlf hwq,hltj,by simp only [List.length_append];omega,hbf⟩ (by simp only;omega) (le_nm (wlσ l.length 29 6 7 8 9 26 17 18) ⟨rfl,rfl,by simp [TmpsLe,look,SV.ren,SC.ren,wlσ,SV.okN,SC.okN],?_,wl_arrs rfl rfl rfl,wl_inj (by simp) (by decide) (Or.inr (by decide))⟩)
    exact wl_push (l:=l) (x:=⟨q.1,i,tj⟩) rfl rfl rfl (fun e he=>by simp [appAt,he]) (by simp [appAt,take',drop']) rfl rfl rfl rfl rfl rfl (fun a=>by rw [seen_push]) rfl (fun _=>⟨rfl,rfl,rfl,rfl,rfl⟩)
  ·rw [decide_eq_false_iff_not] at hge
   have hjn:j=(turnsL L o).length:=by omega
   subst hjn
   rw [List.drop_length] at hbf
   have hln:=hw.len
   rw [wr_succ (by omega)]
   exact backI ⟨(i+1,l),hw,hlt,by rw [show 30001 - (i+1)=30000 - i by omega];exact hbf⟩ (by simp only;omega) (le_ren id rfl rfl (by simp [TmpsLe,look,SV.ren,SC.ren,idσ,SV.okN,SC.okN]) (wl_same (p:=(· < 19)) (fun i h=>h) (fun _ _=>rfl) rfl rfl rfl rfl rfl rfl rfl rfl rfl) (arr_ltA (p:=(· < 19)) (fun i h=>Nat.lt_of_lt_of_le h (show 3≤19 by decide)) (fun _ _=>rfl) rfl rfl rfl) rfl)
 ·rw [decide_eq_false_iff_not] at hge
  have hin:i=l.length:=by omega
  subst hin
  have hln:=hw.len
  have hbf:bfs L o=some l:=by
   rw [← hbf,show 30001 - l.length=(30000 - l.length)+1 by omega]
   simp only [bfsO,Nat.lt_irrefl,if_false]
  rw [← hR]
  unfold WalkR
  rw [hbf]
  refine retN (fun j=>j+11) (fun b=>⟨by simp [wlT,SV.ren,SC.renL,SC.ren,ren1L,ren1,fromσ],by simp [wlT,SV.okN,SC.okL,SC.okN,ok1L,NewIds]⟩) (fun b=>?_) (fun b=>?_)
  ·refine ⟨⟨⟨by omega,by omega⟩,?_⟩,⟨⟨by omega,by omega⟩,fun k hk=>?_⟩,⟨⟨by omega,by omega⟩,fun k hk=>?_⟩,⟨⟨by omega,by omega⟩,fun k hk=>?_⟩,⟨⟨by omega,by omega⟩,fun k hk=>?_⟩,⟨⟨by omega,by omega⟩,fun k e hk he=>?_⟩,trivial⟩
   ·simp only [fromσ,Nat.sub_self,Nat.zero_add,atN,look,Nat.reduceEqDiff,reduceIte,Fm.get,and_self]
    exact ⟨Nat.le_refl _,rfl,rfl,fun e he=>⟨by simp [wlC,SC.renL,SC.ren,fromσ],by simp [wlC,SC.okL,SC.okN,NewIds]⟩⟩
   ·simp only [fromσ,Nat.add_sub_cancel_left,Nat.reduceAdd,atN,look,Nat.reduceEqDiff,reduceIte,Fm.get,hk,and_self];exact arLe_same
   ·simp only [fromσ,Nat.add_sub_cancel_left,Nat.reduceAdd,atN,look,Nat.reduceEqDiff,reduceIte,Fm.get,hk,and_self];exact arLe_same
   ·simp only [fromσ,Nat.add_sub_cancel_left,Nat.reduceAdd,atN,look,Nat.reduceEqDiff,reduceIte,Fm.get,hk,and_self];exact arLe_same
   ·simp only [fromσ,Nat.add_sub_cancel_left,Nat.reduceAdd,atN,look,Nat.reduceEqDiff,reduceIte,Fm.get,hk,and_self]
    exact ⟨Nat.le_refl _,rfl,rfl,fun e he=>⟨by simp [SC.renL,SC.ren,fromσ],by simp [SC.okL,SC.okN,NewIds]⟩⟩
   ·simp only [fromσ,Nat.add_sub_cancel_left,Nat.reduceAdd,atN,look,Nat.reduceEqDiff,reduceIte,Fm.get,hk,he,and_self];exact arLe_same
  ·exact injN_from fun x hx y hy e=>by
    simp [wlO,keysL] at hx hy
    omega
end Go.Proofs.Ytmcpdafmkkjlcaa.Z
namespace Go.Proofs.Ytmcpdafmkkjlcaa.Z
open Go Go.RowKit
def lessL:List Int→List Int→Bool
 | [],[]=>false
 | [],_ :: _=>true
 | _ :: _,[]=>false
 | a :: l,b :: m=>if a≠b then decide (a<b) else lessL l m
def cmpL:List Int→List Int→Int
 | [],[]=>0
 | [],_ :: _=>-1
 | _ :: _,[]=>1
 | a :: l,b :: m=>if a<b then -1 else if b<a then 1 else cmpL l m
theorem drop_at {l:List Int} {i:Nat} (h:i<l.length):l.drop i=l.getD i 0 :: l.drop (i+1):=by
 rw [List.drop_eq_getElem_cons h,List.getD_eq_getElem?_getD,List.getElem?_eq_getElem h];rfl
def ir57:IR:=(.seq (.ops [⟨(some 4),(.mv (.k (.c (.v (.bool false))))),none⟩]) (.kill [2,3,4,5,6,7,8,9,10,11] (.seq (.seq (.ops [⟨(some 5),(.mv (.k (.c (.v (.int .i64 0))))),none⟩]) (.blk 0 (.loop (.seq (.seq (.ops [⟨(some 6),(.mv (.t 5)),none⟩,⟨(some 7),(.mv (.t 0)),none⟩,⟨(some 8),(.len (.t 7)),none⟩,⟨(some 9),(.bin .lss (.t 6) (.t 8)),none⟩,⟨(some 10),(.mv (.t 9)),none⟩,⟨(some 11),(.mv (.t 5)),(some (10,true))⟩,⟨(some 12),(.mv (.t 1)),(some (10,true))⟩,⟨(some 13),(.len (.t 12)),(some (10,true))⟩,⟨(some 14),(.bin .lss (.t 11) (.t 13)),(some (10,true))⟩,⟨(some 15),(.pick (.t 10) (.t 14) (.k (.c (.v (.bool false))))),none⟩]) (.kill [4,6,7,8,9,10,11,12,13,14,16,17,18,19,20,21,22,23,24,25,26,27,28,29,30,31,32,33,34,35] (.cond (.t 15) .skip (.exit 0)))) (.kill [15] (.seq (.blk 1 (.seq (.draw [(⟨(some 18),(.mv (.t 0)),none⟩,([],[19,22,23,24,25])),(⟨(some 19),(.mv (.t 5)),none⟩,([0],[18,22,23,24,25])),(⟨(some 20),(.ia 1 (.t 18) (.t 19)),none⟩,([],[22,23,24,25])),(⟨(some 21),(.ld false 1 (.t 20)),none⟩,([],[22,23,24,25])),(⟨(some 22),(.mv (.t 1)),none⟩,([0,1,2,3],[18,19,20,21,23])),(⟨(some 23),(.mv (.t 5)),none⟩,([0,1,2,3,4],[18,19,20,21,22])),(⟨(some 24),(.ia 1 (.t 22) (.t 23)),none⟩,([0,1,2,3],[18,19,20,21])),(⟨(some 25),(.ld false 1 (.t 24)),none⟩,([0,1,2,3],[18,19,20,21])),(⟨(some 26),(.bin .neq (.t 21) (.t 25)),none⟩,([],[]))]) (.kill [18,19,20,21,22,23,24,25] (.cond (.t 26) (.seq (.draw [(⟨(some 27),(.mv (.t 0)),none⟩,([],[28,31,32,33,34])),(⟨(some 28),(.mv (.t 5)),none⟩,([0],[27,31,32,33,34])),(⟨(some 29),(.ia 1 (.t 27) (.t 28)),none⟩,([],[31,32,33,34])),(⟨(some 30),(.ld false 1 (.t 29)),none⟩,([],[31,32,33,34])),(⟨(some 31),(.mv (.t 1)),none⟩,([0,1,2,3],[27,28,29,30,32])),(⟨(some 32),(.mv (.t 5)),none⟩,([0,1,2,3,4],[27,28,29,30,31])),(⟨(some 33),(.ia 1 (.t 31) (.t 32)),none⟩,([0,1,2,3],[27,28,29,30])),(⟨(some 34),(.ld false 1 (.t 33)),none⟩,([0,1,2,3],[27,28,29,30])),(⟨(some 35),(.bin .lss (.t 30) (.t 34)),none⟩,([],[])),(⟨(some 4),(.mv (.t 35)),none⟩,([],[]))]) (.kill [0,1,5,26,27,28,29,30,31,32,33,34,35] .ret)) .skip)))) (.kill [4,18,19,20,21,22,23,24,25,26,27,28,29,30,31,32,33,34,35] (.ops [⟨(some 16),(.mv (.t 5)),none⟩,⟨(some 17),(.bin .add (.t 16) (.k (.c (.v (.int .i64 1))))),none⟩,⟨(some 5),(.mv (.t 17)),none⟩])))))))) (.kill [4,5,6,7,8,9,10,11,12,13,14,15,16,17,18,19,20,21,22,23,24,25,26,27,28,29,30,31,32,33,34,35] (.seq (.ops [⟨(some 36),(.mv (.t 0)),none⟩,⟨(some 37),(.len (.t 36)),none⟩,⟨(some 38),(.mv (.t 1)),none⟩,⟨(some 39),(.len (.t 38)),none⟩,⟨(some 40),(.bin .lss (.t 37) (.t 39)),none⟩,⟨(some 4),(.mv (.t 40)),none⟩]) (.kill [0,1,36,37,38,39,40] .ret))))))
def rs57:List RS:=[(.t 4)]
def nt57:Nat:=41
set_option maxRecDepth 100000 in
set_option maxHeartbeats 400000 in
theorem less_calls (w:World) (v v' : Value) (xs ys:List Int) (h:Arr w eI 1 v xs) (h' : Arr w eI 1 v' ys):Calls Try.prog 57 #[v,v'] w (RetV w (.bool (lessL xs ys))):=by
 refine enter2 (A:=[]) (c:=ir57) (rs:=rs57) (nt:=nt57) 0 eI_ok h 0 eI_ok h' [.c (.xv (0,0,0)),.c (.xv (1,0,0))] _ Try.func57 rfl (by kernel_rfl) (by kernel_rfl) rfl (fun E' h0 h1=>by simp [SV.den,SC.den,h0,h1]) (of_decide_eq_true rfl) ?_
 have hml:=Z.Arr.lenM h
 simp only [maxLen] at hml
 simp (maxSteps:=2000000) only [ir57,nt57,rs57,go_sem,↓runOp,↓reduceIte,Nat.reduceLT,Nat.reduceEqDiff,reduceCtorEq]
 refine loopI (ι:={ i:Nat // i≤xs.length∧lessL xs ys=lessL (xs.drop i) (ys.drop i)∧i≤ys.length }) (fun i=>⟨41,[(0,.c (.xv (0,0,0))),(1,.c (.xv (1,0,0))),(5,.c (.v (.int .i64 (i.1:Nat))))],[],[(0,.one (arrOf eI 1 xs 0)),(1,.one (arrOf eI 1 ys 0))],[],2⟩)
  (fun i=>xs.length - i.1) ⟨0,by omega,rfl,by omega⟩ (le_ren id rfl rfl (by simp [TmpsLe,look,SV.ren,SC.ren,idσ,SV.okN,SC.okN]) trivial (by simp [ArrsLe,ArrLeO,atN,look,Fm.get,idσ,arrLe_of]) rfl) ?_
 rintro ⟨i,hi,hl,hj⟩
 simp (maxSteps:=2000000) only [go_sem,↓condS,↓exitS,↓gateS,↓runOp,↓reduceIte,Nat.reduceLT,Nat.reduceEqDiff,reduceCtorEq]
 refine both (fun hb=>?_) (fun hb=>?_)
 ·simp only [b_decL,bt_ite,Bool.false_eq_true,iff_true,and_false,or_false] at hb
  have h1:i<xs.length:=by omega
  have h2:i<ys.length:=by omega
  rw [drop_at h1,drop_at h2] at hl
  simp only [lessL] at hl
  refine draw_vc (by kernel_rfl) (mkTab_ok _ _) (of_decide_eq_true rfl) (of_decide_eq_true rfl) ?_
  repeat (first | simp (maxSteps:=2000000) only [go_sem,↓condS,↓runOp,↓gateD,↓runD,↓reduceIte,Nat.reduceLT,Nat.reduceEqDiff,reduceCtorEq,eI] | rw [dr_cons])
  refine And.intro h1 (And.intro h1 (And.intro h2 (And.intro h2 (both (fun hc=>?_) (fun hc=>?_)))))
  ·skip
   refine draw_vc (by kernel_rfl) (mkTab_ok _ _) (of_decide_eq_true rfl) (of_decide_eq_true rfl) ?_
   repeat (first | simp (maxSteps:=2000000) only [go_sem,↓gateD,↓runD,↓reduceIte,Nat.reduceLT,Nat.reduceEqDiff,reduceCtorEq,eI] | rw [dr_cons])
   refine And.intro h1 (And.intro h1 (And.intro h2 (And.intro h2 ?_)))
   exact retV fun E=>by
    rw [hl,if_pos (by simpa using hc)]
    simp [SV.den,SC.den]
  ·rw [wr_succ (by omega)]
   exact backI ⟨i+1,by omega,by rw [hl,if_neg (by simpa using hc)],by omega⟩ (by simp only;omega) (le_ren id rfl rfl (by simp [TmpsLe,look,SV.ren,SC.ren,idσ,SV.okN,SC.okN]) trivial (by simp [ArrsLe,ArrLeO,atN,look,Fm.get,idσ,arrLe_of]) rfl)
 ·simp only [b_decL,bf_ite,Bool.false_eq_true,iff_false,iff_true,and_true] at hb
  exact retV fun E=>by
   rw [hl]
   simp only [SV.den,SC.den,Value.bool.injEq]
   by_cases h1:i=xs.length
   ·by_cases h2:i=ys.length
    ·rw [List.drop_eq_nil_of_le (by omega),List.drop_eq_nil_of_le (by omega)]
     simp only [lessL,decide_eq_false_iff_not];omega
    ·rw [List.drop_eq_nil_of_le (by omega),drop_at (show i<ys.length by omega)]
     simp only [lessL,decide_eq_true_eq];omega
   ·rw [show ys.drop i=[] from List.drop_eq_nil_of_le (by omega),drop_at (show i<xs.length by omega)]
    simp only [lessL,decide_eq_false_iff_not];omega
def cmp1 (x y:Int):Int:=if x<y then -1 else if y<x then 1 else 0
end Go.Proofs.Ytmcpdafmkkjlcaa.Z
namespace Go.Proofs.Ytmcpdafmkkjlcaa.Z
open Go Go.RowKit
theorem less_irr:∀ l,lessL l l=false
 | []=>rfl
 | a :: l=>by simp [lessL,less_irr l]
theorem less_eq:∀ {l m:List Int},lessL l m=false→lessL m l=false→l=m
 | [],[],_,_=>rfl
 | [],_ :: _,h,_=>by simp [lessL] at h
 | _ :: _,[],_,h=>by simp [lessL] at h
 | a :: l,b :: m,h1,h2=>by
  by_cases e:a=b
  ·subst e
   simp [lessL] at h1 h2
   rw [less_eq h1 h2]
  ·simp only [lessL] at h1 h2
   rw [if_pos e] at h1
   rw [if_pos (fun q=>e q.symm)] at h2
   simp only [decide_eq_false_iff_not] at h1 h2
   omega
structure Tr where
 keys:List (List Int)
 left:List Int
 right:List Int
def tsr (T:Tr) (k:List Int):Nat→Nat→Option (Nat ⊕ Nat×Bool)
 | 0,_=>none
 | f+1,i =>
  if lessL k (T.keys.getD i [])=true then (if T.left.getD i 0<0 then some (.inr (i,false)) else tsr T k f (T.left.getD i 0).toNat)
  else if lessL (T.keys.getD i []) k=true then (if T.right.getD i 0<0 then some (.inr (i,true)) else tsr T k f (T.right.getD i 0).toNat)
  else some (.inl i)
structure TrOk (T:Tr):Prop where
 l:T.left.length=T.keys.length
 r:T.right.length=T.keys.length
 lc:∀ i,i<T.keys.length→T.left.getD i 0 = -1∨((i:Int)<T.left.getD i 0∧T.left.getD i 0<T.keys.length)
 rc:∀ i,i<T.keys.length→T.right.getD i 0 = -1∨((i:Int)<T.right.getD i 0∧T.right.getD i 0<T.keys.length)
 at_:∀ j,j<T.keys.length→tsr T (T.keys.getD j []) T.keys.length 0=some (.inl j)
theorem tsr_mono {T:Tr} {k:List Int}:∀ {f i:Nat} {r:Nat ⊕ Nat×Bool},tsr T k f i=some r→tsr T k (f+1) i=some r
 | 0,i,r,h=>by cases h
 | f+1,i,r,h=>by
  rw [tsr] at h ⊢
  split
  ·next h1 =>
   rw [if_pos h1] at h
   split
   ·next h2=>rw [if_pos h2] at h;exact h
   ·next h2=>rw [if_neg h2] at h;exact tsr_mono h
  ·next h1 =>
   rw [if_neg h1] at h
   split
   ·next h3 =>
    rw [if_pos h3] at h
    split
    ·next h2=>rw [if_pos h2] at h;exact h
    ·next h2=>rw [if_neg h2] at h;exact tsr_mono h
   ·next h3=>rw [if_neg h3] at h;exact h
theorem tsr_some {T:Tr} (h:TrOk T) (k:List Int):∀ (f i:Nat),i<T.keys.length→T.keys.length - i≤f→∃ r,tsr T k f i=some r
 | 0,i,h1,h2=>by omega
 | f + 1,i,h1,h2=>by
  rw [tsr]
  split
  ·split
   ·exact ⟨_,rfl⟩
   ·next hl =>
    rcases h.lc i h1 with e | ⟨e1,e2⟩
    ·omega
    ·exact tsr_some h k f _ (by omega) (by omega)
  ·split
   ·split
    ·exact ⟨_,rfl⟩
    ·next hl =>
     rcases h.rc i h1 with e | ⟨e1,e2⟩
     ·omega
     ·exact tsr_some h k f _ (by omega) (by omega)
   ·exact ⟨_,rfl⟩
theorem tsr_found {T:Tr} (h:TrOk T) {k:List Int}:∀ {f i j:Nat},i<T.keys.length→tsr T k f i=some (.inl j)→j<T.keys.length∧T.keys.getD j []=k
 | 0,i,j,_,hr=>by cases hr
 | f + 1,i,j,hi,hr=>by
  rw [tsr] at hr
  split at hr
  ·split at hr
   ·cases hr
   ·rcases h.lc i hi with e | ⟨e1,e2⟩
    ·omega
    ·exact tsr_found h (by omega) hr
  ·next h1 =>
   split at hr
   ·split at hr
    ·cases hr
    ·rcases h.rc i hi with e | ⟨e1,e2⟩
     ·omega
     ·exact tsr_found h (by omega) hr
   ·next h2 =>
    cases hr
    exact ⟨hi,less_eq (by simpa using h2) (by simpa using h1)⟩
theorem tsr_room {T:Tr} (h:TrOk T) {k:List Int}:∀ {f i a:Nat} {b:Bool},i<T.keys.length→tsr T k f i=some (.inr (a,b))→a<T.keys.length∧(if b=true then T.right.getD a 0 = -1 else T.left.getD a 0 = -1)
 | 0,i,a,b,_,hr=>by cases hr
 | f + 1,i,a,b,hi,hr=>by
  rw [tsr] at hr
  split at hr
  ·split at hr
   ·next hl =>
    cases hr
    rcases h.lc i hi with e | ⟨e1,e2⟩
    ·exact ⟨hi,by simpa using e⟩
    ·omega
   ·rcases h.lc i hi with e | ⟨e1,e2⟩
    ·omega
    ·exact tsr_room h (by omega) hr
  ·split at hr
   ·split at hr
    ·next hl =>
     cases hr
     rcases h.rc i hi with e | ⟨e1,e2⟩
     ·exact ⟨hi,by simpa using e⟩
     ·omega
    ·rcases h.rc i hi with e | ⟨e1,e2⟩
     ·omega
     ·exact tsr_room h (by omega) hr
   ·cases hr
def trPut (T:Tr) (k:List Int) (a:Nat) (b:Bool):Tr:=⟨T.keys++[k],if b=true then T.left++[-1] else (T.left++[-1]).set a T.keys.length,if b=true then (T.right++[-1]).set a T.keys.length else T.right++[-1]⟩
theorem put_keys {T:Tr} {k:List Int} {a:Nat} {b:Bool} {i:Nat} (hi:i<T.keys.length):(trPut T k a b).keys.getD i []=T.keys.getD i []:=by
 simp only [trPut];rw [List.getD_eq_getElem?_getD,List.getElem?_append_left hi,List.getD_eq_getElem?_getD]
theorem put_left {T:Tr} (h:TrOk T) {k:List Int} {a:Nat} {b:Bool} {i:Nat} (hi:i<T.keys.length):(trPut T k a b).left.getD i 0=if b=false∧i=a then (T.keys.length:Int) else T.left.getD i 0:=by
 have hl:=h.l
 have e1:(T.left++[(-1:Int)]).getD i 0=T.left.getD i 0:=by rw [List.getD_eq_getElem?_getD,List.getElem?_append_left (by omega),List.getD_eq_getElem?_getD]
 simp only [trPut]
 cases b with
 | true=>simp only [reduceIte,Bool.true_eq_false,false_and];exact e1
 | false =>
  simp only [Bool.false_eq_true,reduceIte,true_and]
  rw [List.getD_eq_getElem?_getD,List.getElem?_set]
  by_cases e:a=i
  ·subst e;rw [if_pos rfl,if_pos rfl,if_pos (by simp;omega)];rfl
  ·rw [if_neg e,if_neg (fun q=>e q.symm),← List.getD_eq_getElem?_getD];exact e1
theorem put_right {T:Tr} (h:TrOk T) {k:List Int} {a:Nat} {b:Bool} {i:Nat} (hi:i<T.keys.length):(trPut T k a b).right.getD i 0=if b=true∧i=a then (T.keys.length:Int) else T.right.getD i 0:=by
 have hl:=h.r
 have e1:(T.right++[(-1:Int)]).getD i 0=T.right.getD i 0:=by rw [List.getD_eq_getElem?_getD,List.getElem?_append_left (by omega),List.getD_eq_getElem?_getD]
 simp only [trPut]
 cases b with
 | false=>simp only [Bool.false_eq_true,reduceIte,false_and];exact e1
 | true =>
  simp only [reduceIte,true_and]
  rw [List.getD_eq_getElem?_getD,List.getElem?_set]
  by_cases e:a=i
  ·subst e;rw [if_pos rfl,if_pos rfl,if_pos (by simp;omega)];rfl
  ·rw [if_neg e,if_neg (fun q=>e q.symm),← List.getD_eq_getElem?_getD];exact e1
theorem put_keep {T:Tr} (h:TrOk T) {k:List Int} {a:Nat} {b:Bool} (hroom:if b=true then T.right.getD a 0 = -1 else T.left.getD a 0 = -1) {q:List Int}:∀ {f i j:Nat},i<T.keys.length→tsr T q f i=some (.inl j)→tsr (trPut T k a b) q f i=some (.inl j)
 | 0,i,j,_,hr=>by cases hr
 | f + 1,i,j,hi,hr=>by
  rw [tsr] at hr ⊢
  rw [put_keys hi,put_left h hi,put_right h hi]
  split
  ·next h1 =>
   rw [if_pos h1] at hr
   split at hr
   ·cases hr
   ·next h2 =>
    have hne:¬ (b=false∧i=a):=by
     rintro ⟨rfl,rfl⟩
     simp only [Bool.false_eq_true,if_false] at hroom
     omega
    rw [if_neg hne,if_neg h2]
    rcases h.lc i hi with e | ⟨e1,e2⟩
    ·omega
    ·exact put_keep h hroom (by omega) hr
  ·next h1 =>
   rw [if_neg h1] at hr
   split
   ·next h3 =>
    rw [if_pos h3] at hr
    split at hr
    ·cases hr
    ·next h2 =>
     have hne:¬ (b=true∧i=a):=by
      rintro ⟨rfl,rfl⟩
      simp only [if_true] at hroom
      omega
     rw [if_neg hne,if_neg h2]
     rcases h.rc i hi with e | ⟨e1,e2⟩
     ·omega
     ·exact put_keep h hroom (by omega) hr
   ·next h3=>rw [if_neg h3] at hr;exact hr
theorem put_new {T:Tr} (h:TrOk T) {k:List Int} {a:Nat} {b:Bool}:∀ {f i:Nat},i<T.keys.length→tsr T k f i=some (.inr (a,b))→tsr (trPut T k a b) k (f+1) i=some (.inl T.keys.length)
 | 0,i,_,hr=>by cases hr
 | f + 1,i,hi,hr=>by
  have hend:∀ g,tsr (trPut T k a b) k (g+1) T.keys.length=some (.inl T.keys.length):=fun g=>by
   have e:(trPut T k a b).keys.getD T.keys.length []=k:=by simp [trPut,List.getD_eq_getElem?_getD]
   rw [tsr,e,if_neg (by simp [less_irr]),if_neg (by simp [less_irr])]
  rw [tsr] at hr ⊢
  rw [put_keys hi,put_left h hi,put_right h hi]
  split
  ·next h1 =>
   rw [if_pos h1] at hr
   split at hr
   ·next h2 =>
    cases hr
    rw [show (if false=false∧a=a then (T.keys.length:Int) else T.left.getD a 0)=T.keys.length from if_pos ⟨rfl,rfl⟩,if_neg (by omega),Int.toNat_natCast]
    exact hend f
   ·next h2 =>
    rcases h.lc i hi with e | ⟨e1,e2⟩
    ·omega
    ·have hroom:=tsr_room h (show (T.left.getD i 0).toNat<T.keys.length by omega) hr
     have hne:¬ (b=false∧i=a):=by
      rintro ⟨rfl,rfl⟩
      have:=hroom.2
      simp only [Bool.false_eq_true,if_false] at this
      omega
     rw [if_neg hne,if_neg h2]
     exact put_new h (by omega) hr
  ·next h1 =>
   rw [if_neg h1] at hr
   split
   ·next h3 =>
    rw [if_pos h3] at hr
    split at hr
    ·next h2 =>
     cases hr
     rw [show (if true=true∧a=a then (T.keys.length:Int) else T.right.getD a 0)=T.keys.length from if_pos ⟨rfl,rfl⟩,if_neg (by omega),Int.toNat_natCast]
     exact hend f
    ·next h2 =>
     rcases h.rc i hi with e | ⟨e1,e2⟩
     ·omega
     ·have hroom:=tsr_room h (show (T.right.getD i 0).toNat<T.keys.length by omega) hr
      have hne:¬ (b=true∧i=a):=by
       rintro ⟨rfl,rfl⟩
       have:=hroom.2
       simp only [if_true] at this
       omega
      rw [if_neg hne,if_neg h2]
      exact put_new h (by omega) hr
   ·next h3=>rw [if_neg h3] at hr;cases hr
theorem put_ok {T:Tr} (h:TrOk T) {k:List Int} {a:Nat} {b:Bool} (hn:0<T.keys.length) (hr:tsr T k T.keys.length 0=some (.inr (a,b))):TrOk (trPut T k a b):=by
 have hkl:(trPut T k a b).keys.length=T.keys.length+1:=by simp [trPut]
 have hroom:=tsr_room h hn hr
 have hl:=h.l
 have hrr:=h.r
 refine ⟨?_,?_,fun i hi=>?_,fun i hi=>?_,fun j hj=>?_⟩
 ·rw [hkl];simp only [trPut];split <;> simp [hl]
 ·rw [hkl];simp only [trPut];split <;> simp [hrr]
 ·rw [hkl] at hi ⊢
  by_cases e:i<T.keys.length
  ·rw [put_left h e]
   split
   ·right;omega
   ·rcases h.lc i e with e1 | ⟨e1,e2⟩
    ·exact Or.inl e1
    ·right;omega
  ·left
   have:i=T.left.length:=by omega
   subst this
   simp only [trPut]
   split
   ·simp [List.getD_eq_getElem?_getD]
   ·rw [List.getD_eq_getElem?_getD,List.getElem?_set_ne (by omega)];simp
 ·rw [hkl] at hi ⊢
  by_cases e:i<T.keys.length
  ·rw [put_right h e]
   split
   ·right;omega
   ·rcases h.rc i e with e1 | ⟨e1,e2⟩
    ·exact Or.inl e1
    ·right;omega
  ·left
   have:i=T.right.length:=by omega
   subst this
   simp only [trPut]
   split
   ·rw [List.getD_eq_getElem?_getD,List.getElem?_set_ne (by omega)];simp
   ·simp [List.getD_eq_getElem?_getD]
 ·rw [hkl] at hj ⊢
  by_cases e:j<T.keys.length
  ·rw [put_keys e]
   exact tsr_mono (put_keep h hroom.2 hn (h.at_ j e))
  ·have:j=T.keys.length:=by omega
   subst this
   have ek:(trPut T k a b).keys.getD T.keys.length []=k:=by simp [trPut,List.getD_eq_getElem?_getD]
   rw [ek]
   exact put_new h hn hr
theorem one_ok (k:List Int):TrOk ⟨[k],[-1],[-1]⟩:=by
 refine ⟨rfl,rfl,fun i hi=>?_,fun i hi=>?_,fun j hj=>?_⟩
 ·have:i=0:=by simp at hi;omega
  subst this;exact Or.inl rfl
 ·have:i=0:=by simp at hi;omega
  subst this;exact Or.inl rfl
 ·have:j=0:=by simp at hj;omega
  subst this
  simp [tsr,List.getD_eq_getElem?_getD,less_irr]
theorem tsr_iff {T:Tr} (h:TrOk T) (hn:0<T.keys.length) (k:List Int):(∃ j,tsr T k T.keys.length 0=some (.inl j))↔k∈T.keys:=by
 constructor
 ·rintro ⟨j,hj⟩
  obtain ⟨h1,h2⟩:=tsr_found h hn hj
  rw [← h2,List.getD_eq_getElem?_getD,List.getElem?_eq_getElem h1]
  exact List.getElem_mem h1
 ·intro hk
  obtain ⟨j,hj,rfl⟩:=List.getElem_of_mem hk
  have:=h.at_ j hj
  rw [List.getD_eq_getElem?_getD,List.getElem?_eq_getElem hj] at this
  exact ⟨j,this⟩
end Go.Proofs.Ytmcpdafmkkjlcaa.Z
namespace Go.Proofs.Ytmcpdafmkkjlcaa.Z
open Go Go.RowKit
def trC (i:Nat) (K:List (List Int)) (k:Nat):List SC:=[.sl (i,k,0) 1 0 (K.getD k []).length none]
def trK (K:List (List Int)) (k:Nat):Blk:=.ar (K.getD k []).length 1 (ats eI (K.getD k []) 0) 3
def trO (b:Nat) (T:Tr):Own:=[(b,.one (.ar T.keys.length 1 (trC (b+3) T.keys) 22)),(b+1,.one (.ar T.left.length 1 (ats eI T.left 0) 3)),(b+2,.one (.ar T.right.length 1 (ats eI T.right 0) 3)),(b+3,.fam T.keys.length (trK T.keys))]
def trS (b:Nat) (T:Tr):Blk:=.bk [.sl (b,0,0) 1 0 T.keys.length none,.sl (b+1,0,0) 1 0 T.left.length none,.sl (b+2,0,0) 1 0 T.right.length none] 143
def tr0 (T:Tr) (k:List Int):Own:=(0,.one (trS 1 T)) :: trO 1 T++[(5,.one (.ar k.length 1 (ats eI k 0) 3))]
def trσ (p q r:Nat) (τ:Nat→Nm) (b:Nat) (x:Nm):Nm:=if x.1=b then (p,0,0) else if x.1=b+1 then (q,0,0) else if x.1=b+2 then (r,0,0) else if x.1=b+3 then τ x.2.1 else x
def trE (T:Tr) (b:Nat):Own:=(0,.one (trS b T)) :: trO b T
theorem retPut {P:Program} {w:World} {E:Env} {W:Nat→Prop} {rs:List RS} {u v:SV} {T:Tr} {S2:St} (ks:List Nat) (p q r:Nat) (τ:Nat→Nm) {m1 m2 m3:Nat} {at1 at2 at3:Nat→List SC} (hf:AgF 6 E∈S2.facts) (hu:∀ E E',v.den E=u.den E')
  (h0:look S2.own 0=some (.one (.bk [.sl (p,0,0) 1 0 T.keys.length none,.sl (q,0,0) 1 0 T.left.length none,.sl (r,0,0) 1 0 T.right.length none] 143)))
  (hp:look S2.own p=some (.one (.ar m1 1 at1 22))) (mp:T.keys.length≤m1) (ep:∀ e,e<T.keys.length→at1 e=[.sl (τ e) 1 0 (T.keys.getD e []).length none])
  (hq:look S2.own q=some (.one (.ar m2 1 at2 3))) (mq:T.left.length≤m2) (eq:∀ e,e<T.left.length→at2 e=ats eI T.left 0 e)
  (hr:look S2.own r=some (.one (.ar m3 1 at3 3))) (mr:T.right.length≤m3) (er:∀ e,e<T.right.length→at3 e=ats eI T.right 0 e)
  (hτ:∀ e,e<T.keys.length→∃ m at_,atN S2.own (τ e)=some (.ar m 1 at_ 3)∧(T.keys.getD e []).length≤m∧∀ i,i<(T.keys.getD e []).length→at_ i=ats eI (T.keys.getD e []) 0 i)
  (hinj:∀ e e',e<T.keys.length→e' < T.keys.length→τ e=τ e'→e=e') (hne:∀ e,(τ e).1≠0∧(τ e).1≠p∧(τ e).1≠q∧(τ e).1≠r) (hd:p≠0∧q≠0∧r≠0∧p≠q∧p≠r∧q≠r) :
  RetVC (mkO P w W rs (EffR w E 6 W u 4 fun b=>killO ks++trE T b)) v S2:=by
 have s0:∀ b,6≤b→trσ p q r τ b (0,0,0)=(0,0,0):=fun b hb=>by unfold trσ;rw [if_neg (by simp;omega),if_neg (by simp),if_neg (by simp),if_neg (by simp)]
 have s1:∀ b k l,trσ p q r τ b (b,k,l)=(p,0,0):=fun b k l=>by unfold trσ;rw [if_pos rfl]
 have s2:∀ b k l,trσ p q r τ b (b+1,k,l)=(q,0,0):=fun b k l=>by unfold trσ;rw [if_neg (by simp),if_pos rfl]
 have s3:∀ b k l,trσ p q r τ b (b+2,k,l)=(r,0,0):=fun b k l=>by unfold trσ;rw [if_neg (by simp),if_neg (by simp),if_pos rfl]
 have s4:∀ b k l,trσ p q r τ b (b+3,k,l)=τ k:=fun b k l=>by unfold trσ;rw [if_neg (by simp),if_neg (by simp),if_neg (by simp),if_pos rfl]
 refine retEff (trσ p q r τ) ks (trE T) hf hu (fun b hb x hx=>?_) (fun b hb=>?_) (fun b hb=>?_)
 ·unfold trσ;rw [if_neg (by omega),if_neg (by omega),if_neg (by omega),if_neg (by omega)]
 ·refine ⟨⟨Or.inl (by omega),?_⟩,⟨Or.inr ⟨by omega,by omega⟩,?_⟩,⟨Or.inr ⟨by omega,by omega⟩,?_⟩,⟨Or.inr ⟨by omega,by omega⟩,?_⟩,⟨Or.inr ⟨by omega,by omega⟩,fun k hk=>?_⟩,trivial⟩
  ·rw [s0 b hb];simp only [atN,h0,Fm.get,and_self,if_true]
   exact ⟨by simp only [SC.renL,SC.ren,s1,s2,s3],rfl,by simp [SC.okL,SC.okN,NewIds]⟩
  ·rw [s1];simp only [atN,hp,Fm.get,and_self,if_true]
   exact ⟨mp,rfl,rfl,fun e he=>⟨by rw [ep e he];simp only [trC,SC.renL,SC.ren,s4],by simp [trC,SC.okL,SC.okN,NewIds]⟩⟩
  ·rw [s2];simp only [atN,hq,Fm.get,and_self,if_true];exact arLe_of mq eq
  ·rw [s3];simp only [atN,hr,Fm.get,and_self,if_true];exact arLe_of mr er
  ·obtain ⟨m,at_,g1,g2,g3⟩:=hτ k hk
   rw [s4,g1]
   exact arLe_of g2 g3
 ·have hx2:∀ x c,atN (trE T b) x=some c→x=(0,0,0)∨x=(b,0,0)∨x=(b+1,0,0)∨x=(b+2,0,0)∨∃ k,k<T.keys.length∧x=(b+3,k,0):=fun x c hx=>by
   simp only [trE,trO] at hx
   rcases atN_one hx with ⟨rfl,_⟩ | hx
   ·simp
   rcases atN_one hx with ⟨rfl,_⟩ | hx
   ·simp
   rcases atN_one hx with ⟨rfl,_⟩ | hx
   ·simp
   rcases atN_one hx with ⟨rfl,_⟩ | hx
   ·simp
   rcases atN_fam hx with ⟨k,hk,rfl,_⟩ | hx
   ·exact Or.inr (Or.inr (Or.inr (Or.inr ⟨k,hk,rfl⟩)))
   ·exact (atN_nil hx).elim
  obtain ⟨d1,d2,d3,d4,d5,d6⟩:=hd
  intro x y c d hx hy e
  rcases hx2 x c hx with rfl | rfl | rfl | rfl | ⟨k,hk,rfl⟩ <;> rcases hx2 y d hy with rfl | rfl | rfl | rfl | ⟨k',hk',rfl⟩ <;> simp only [s0 b hb,s1,s2,s3,s4] at e <;> first
   | rfl
   | (rw [hinj k k' hk hk' e])
   | (exfalso;have:=congrArg Prod.fst e;simp only at this;first | omega | (have g:=hne k;rw [e] at g;simp at g) | (have g:=hne k';rw [← e] at g;simp at g))
theorem push_int {xs:List Int} {y:Int} {g:Nat→List SC} (hg:g 0=[.v (.int .i64 y)]):∀ e,e<(xs++[y]).length→appAt xs.length (ats eI xs 0) g e=ats eI (xs++[y]) 0 e:=ats_push (d:=0) rfl rfl (fun _ _=>rfl) hg
theorem set_push {xs:List Int} {y z:Int} {i:Nat} {g:Nat→List SC} (hg:g 0=[.v (.int .i64 y)]) (hi:i<xs.length):∀ e,e<((xs++[y]).set i z).length→setAt i (appAt xs.length (ats eI xs 0) g) (.v (.int .i64 z) :: drop' 1 (appAt xs.length (ats eI xs 0) g i)) e=ats eI ((xs++[y]).set i z) 0 e:=fun e he=>by
 have hcs:drop' 1 (appAt xs.length (ats eI xs 0) g i)=[]:=by unfold appAt;rw [if_pos hi];rfl
 rw [hcs]
 rw [List.length_set] at he
 unfold setAt
 split
 ·next h =>
  subst h
  simp only [ats,eI,List.map_cons,List.map_nil]
  rw [List.getD_eq_getElem?_getD,List.getElem?_set,if_pos rfl,if_pos he];rfl
 ·next h =>
  rw [push_int hg e he]
  simp only [ats,eI,List.map_cons,List.map_nil]
  rw [List.getD_eq_getElem?_getD,List.getD_eq_getElem?_getD,List.getElem?_set_ne (fun q=>h q.symm)]
def prR (T:Tr) (k:List Int):Nat ⊕ Nat×Bool→Nat×Bool×Tr
 | .inl j=>(j,false,T)
 | .inr (a,b)=>(T.keys.length,true,trPut T k a b)
def tauP (n:Nat) (e:Nat):Nm:=if e=n then (5,0,0) else (4,e,0)
theorem tauP_inj {n e e' : Nat} (h:tauP n e=tauP n e'):e=e':=by
 unfold tauP at h
 split at h <;> split at h <;> simp at h <;> omega
theorem tauP_h {own:Own} {T:Tr} {k:List Int} {a:Nat} {b:Bool} (h4:look own 4=some (.fam T.keys.length (trK T.keys))) (h5:look own 5=some (.one (.ar k.length 1 (ats eI k 0) 3))) :
  ∀ e,e<(trPut T k a b).keys.length→∃ m at_,atN own (tauP T.keys.length e)=some (.ar m 1 at_ 3)∧((trPut T k a b).keys.getD e []).length≤m∧∀ i,i<((trPut T k a b).keys.getD e []).length→at_ i=ats eI ((trPut T k a b).keys.getD e []) 0 i:=by
 intro e he
 have hkl:(trPut T k a b).keys.length=T.keys.length+1:=by simp [trPut]
 unfold tauP
 by_cases h:e=T.keys.length
 ·subst h
  have ek:(trPut T k a b).keys.getD T.keys.length []=k:=by simp [trPut,List.getD_eq_getElem?_getD]
  rw [if_pos rfl,ek]
  exact ⟨_,_,by simp [atN,h5,Fm.get],Nat.le_refl _,fun _ _=>rfl⟩
 ·rw [if_neg h,put_keys (by omega)]
  exact ⟨_,_,by simp only [atN,h4,Fm.get];rw [if_pos (by constructor <;> first | omega | trivial)];rfl,Nat.le_refl _,fun _ _=>rfl⟩
theorem tauP_k {T:Tr} {k:List Int} {a:Nat} {b:Bool} {g:Nat→List SC} (hg:g 0=[.sl (5,0,0) 1 0 k.length none]):∀ e,e<(trPut T k a b).keys.length→appAt T.keys.length (trC 4 T.keys) g e=[.sl (tauP T.keys.length e) 1 0 ((trPut T k a b).keys.getD e []).length none]:=by
 intro e he
 have hkl:(trPut T k a b).keys.length=T.keys.length+1:=by simp [trPut]
 unfold tauP appAt
 by_cases h:e=T.keys.length
 ·subst h
  have ek:(trPut T k a b).keys.getD T.keys.length []=k:=by simp [trPut,List.getD_eq_getElem?_getD]
  rw [if_neg (Nat.lt_irrefl _),if_pos rfl,ek,Nat.sub_self,hg]
 ·rw [if_pos (by omega),if_neg h,put_keys (by omega)];rfl
def ir88:IR:=(.seq (.ops [⟨(some 4),(.mv (.k (.c (.v (.int .i64 0))))),none⟩,⟨(some 5),(.mv (.k (.c (.v (.bool false))))),none⟩]) (.kill [2,3,4,5,6,7,8,9,10,11] (.seq (.ops [⟨(some 6),(.mv (.k (.c (.v (.int .i64 (-1)))))),none⟩]) (.seq (.ops [⟨(some 7),(.mv (.k (.c (.v (.bool false))))),none⟩]) (.seq (.seq (.ops [⟨(some 8),(.mv (.k (.c (.v (.int .i64 0))))),none⟩]) (.blk 0 (.loop (.seq (.seq (.ops [⟨(some 10),(.mv (.t 8)),none⟩,⟨(some 11),(.mv (.t 0)),none⟩,⟨(some 12),(.nilck (.t 11)),none⟩,⟨(some 13),(.fa 0 (.t 12)),none⟩,⟨(some 14),(.ld false 1 (.t 13)),none⟩,⟨(some 15),(.len (.t 14)),none⟩,⟨(some 16),(.bin .lss (.t 10) (.t 15)),none⟩]) (.kill [4,5,10,11,12,13,14,15,17,18,19,20,21,22,23,24,25,26,27,28,29,30,31,32,33,34,35,36,37,38,39,40,41,42,43,44,45,46,47,48,49,50,51,52] (.cond (.t 16) .skip (.exit 0)))) (.kill [6,7,16] (.blk 1 (.seq (.ops [⟨(some 17),(.mv (.t 8)),none⟩,⟨(some 6),(.mv (.t 17)),none⟩]) (.kill [17] (.seq (.seq (.ops [⟨(some 18),(.mv (.t 1)),none⟩,⟨(some 19),(.mv (.t 0)),none⟩,⟨(some 20),(.nilck (.t 19)),none⟩,⟨(some 21),(.fa 0 (.t 20)),none⟩,⟨(some 22),(.ld false 1 (.t 21)),none⟩,⟨(some 23),(.mv (.t 8)),none⟩,⟨(some 24),(.ia 1 (.t 22) (.t 23)),none⟩,⟨(some 25),(.ld false 1 (.t 24)),none⟩,⟨(some 26),(.call 57 [(.t 18),(.t 25)]),none⟩]) (.kill [18,19,20,21,22,23,24,25] (.cond (.t 26) (.seq (.ops [⟨(some 7),(.mv (.k (.c (.v (.bool false))))),none⟩]) (.kill [26] (.ops [⟨(some 27),(.mv (.t 0)),none⟩,⟨(some 28),(.nilck (.t 27)),none⟩,⟨(some 29),(.fa 1 (.t 28)),none⟩,⟨(some 30),(.ld false 1 (.t 29)),none⟩,⟨(some 31),(.mv (.t 8)),none⟩,⟨(some 32),(.ia 1 (.t 30) (.t 31)),none⟩,⟨(some 33),(.ld false 1 (.t 32)),none⟩,⟨(some 8),(.mv (.t 33)),none⟩]))) (.seq (.ops [⟨(some 34),(.mv (.t 0)),none⟩,⟨(some 35),(.nilck (.t 34)),none⟩,⟨(some 36),(.fa 0 (.t 35)),none⟩,⟨(some 37),(.ld false 1 (.t 36)),none⟩,⟨(some 38),(.mv (.t 8)),none⟩,⟨(some 39),(.ia 1 (.t 37) (.t 38)),none⟩,⟨(some 40),(.ld false 1 (.t 39)),none⟩,⟨(some 41),(.mv (.t 1)),none⟩,⟨(some 42),(.call 57 [(.t 40),(.t 41)]),none⟩]) (.kill [26,34,35,36,37,38,39,40,41] (.cond (.t 42) (.seq (.ops [⟨(some 7),(.mv (.k (.c (.v (.bool true))))),none⟩]) (.kill [42] (.ops [⟨(some 43),(.mv (.t 0)),none⟩,⟨(some 44),(.nilck (.t 43)),none⟩,⟨(some 45),(.fa 2 (.t 44)),none⟩,⟨(some 46),(.ld false 1 (.t 45)),none⟩,⟨(some 47),(.mv (.t 8)),none⟩,⟨(some 48),(.ia 1 (.t 46) (.t 47)),none⟩,⟨(some 49),(.ld false 1 (.t 48)),none⟩,⟨(some 8),(.mv (.t 49)),none⟩]))) (.seq (.ops [⟨(some 50),(.mv (.t 8)),none⟩,⟨(some 4),(.mv (.t 50)),none⟩,⟨(some 5),(.mv (.k (.c (.v (.bool false))))),none⟩]) (.kill [0,1,6,8,42,50] .ret)))))))) (.kill [4,5,27,28,29,30,31,32,33,43,44,45,46,47,48,49] (.seq (.ops [⟨(some 51),(.mv (.t 8)),none⟩,⟨(some 52),(.bin .lss (.t 51) (.k (.c (.v (.int .i64 0))))),none⟩]) (.kill [51] (.cond (.t 52) (.exit 0) .skip))))))))))))) (.kill [4,5,8,10,11,12,13,14,15,16,17,18,19,20,21,22,23,24,25,26,27,28,29,30,31,32,33,34,35,36,37,38,39,40,41,42,43,44,45,46,47,48,49,50,51,52] (.seq (.ops [⟨(some 53),(.mv (.t 0)),none⟩,⟨(some 54),(.nilck (.t 53)),none⟩,⟨(some 55),(.fa 0 (.t 54)),none⟩,⟨(some 56),(.ld false 1 (.t 55)),none⟩,⟨(some 57),(.len (.t 56)),none⟩,⟨(some 9),(.mv (.t 57)),none⟩]) (.kill [53,54,55,56,57] (.seq (.ops [⟨(some 58),(.mv (.t 0)),none⟩,⟨(some 59),(.mv (.t 0)),none⟩,⟨(some 60),(.nilck (.t 59)),none⟩,⟨(some 61),(.fa 0 (.t 60)),none⟩,⟨(some 62),(.ld false 1 (.t 61)),none⟩,⟨(some 63),(.mv (.t 1)),none⟩,⟨(some 64),(.mkSl 22 1 1 [(.v (.slice none 0 0))] [(0,(1,(.t 63)))]),none⟩,⟨(some 65),(.app 22 1 24 [(.v (.slice none 0 0))] (.t 62) (.t 64)),none⟩,⟨(some 66),(.nilck (.t 58)),none⟩,⟨(some 67),(.fa 0 (.t 66)),none⟩,⟨none,(.st 1 (.t 67) (.t 65)),none⟩]) (.kill [1,58,59,60,61,62,63,64,65,66,67] (.seq (.ops [⟨(some 68),(.mv (.t 0)),none⟩,⟨(some 69),(.mv (.t 0)),none⟩,⟨(some 70),(.nilck (.t 69)),none⟩,⟨(some 71),(.fa 1 (.t 70)),none⟩,⟨(some 72),(.ld false 1 (.t 71)),none⟩,⟨(some 73),(.mkSl 3 1 1 [(.v (.int .i64 0))] [(0,(1,(.k (.c (.v (.int .i64 (-1)))))))]),none⟩,⟨(some 74),(.app 3 1 8 [(.v (.int .i64 0))] (.t 72) (.t 73)),none⟩,⟨(some 75),(.nilck (.t 68)),none⟩,⟨(some 76),(.fa 1 (.t 75)),none⟩,⟨none,(.st 1 (.t 76) (.t 74)),none⟩]) (.kill [68,69,70,71,72,73,74,75,76] (.seq (.ops [⟨(some 77),(.mv (.t 0)),none⟩,⟨(some 78),(.mv (.t 0)),none⟩,⟨(some 79),(.nilck (.t 78)),none⟩,⟨(some 80),(.fa 2 (.t 79)),none⟩,⟨(some 81),(.ld false 1 (.t 80)),none⟩,⟨(some 82),(.mkSl 3 1 1 [(.v (.int .i64 0))] [(0,(1,(.k (.c (.v (.int .i64 (-1)))))))]),none⟩,⟨(some 83),(.app 3 1 8 [(.v (.int .i64 0))] (.t 81) (.t 82)),none⟩,⟨(some 84),(.nilck (.t 77)),none⟩,⟨(some 85),(.fa 2 (.t 84)),none⟩,⟨none,(.st 1 (.t 85) (.t 83)),none⟩]) (.kill [77,78,79,80,81,82,83,84,85] (.seq (.seq (.ops [⟨(some 86),(.mv (.t 6)),none⟩,⟨(some 87),(.bin .geq (.t 86) (.k (.c (.v (.int .i64 0))))),none⟩,⟨(some 88),(.mv (.t 87)),none⟩,⟨(some 89),(.mv (.t 7)),(some (88,true))⟩,⟨(some 90),(.pick (.t 88) (.t 89) (.k (.c (.v (.bool false))))),none⟩]) (.kill [7,86,87,88,89] (.cond (.t 90) (.ops [⟨(some 91),(.mv (.t 0)),none⟩,⟨(some 92),(.nilck (.t 91)),none⟩,⟨(some 93),(.fa 2 (.t 92)),none⟩,⟨(some 94),(.ld false 1 (.t 93)),none⟩,⟨(some 95),(.mv (.t 6)),none⟩,⟨(some 96),(.mv (.t 9)),none⟩,⟨(some 97),(.ia 1 (.t 94) (.t 95)),none⟩,⟨none,(.st 1 (.t 97) (.t 96)),none⟩]) (.seq (.ops [⟨(some 98),(.mv (.t 6)),none⟩,⟨(some 99),(.bin .geq (.t 98) (.k (.c (.v (.int .i64 0))))),none⟩]) (.kill [90,98] (.cond (.t 99) (.ops [⟨(some 100),(.mv (.t 0)),none⟩,⟨(some 101),(.nilck (.t 100)),none⟩,⟨(some 102),(.fa 1 (.t 101)),none⟩,⟨(some 103),(.ld false 1 (.t 102)),none⟩,⟨(some 104),(.mv (.t 6)),none⟩,⟨(some 105),(.mv (.t 9)),none⟩,⟨(some 106),(.ia 1 (.t 103) (.t 104)),none⟩,⟨none,(.st 1 (.t 106) (.t 105)),none⟩]) .skip)))))) (.kill [0,6,90,91,92,93,94,95,96,97,99,100,101,102,103,104,105,106] (.seq (.ops [⟨(some 107),(.mv (.t 9)),none⟩,⟨(some 4),(.mv (.t 107)),none⟩,⟨(some 5),(.mv (.k (.c (.v (.bool true))))),none⟩]) (.kill [9,107] .ret))))))))))))))))))
def rs88:List RS:=[(.t 4),(.t 5)]
def nt88:Nat:=108
set_option maxRecDepth 100000 in
set_option maxHeartbeats 1000000 in
theorem put_own (w:World) (E:Env) (T:Tr) (k:List Int) (hT:TrOk T) (hn:0<T.keys.length) (hn2:T.keys.length≤30000) (res:Nat ⊕ Nat×Bool) (hres:tsr T k T.keys.length 0=some res) (h:Handed w E 6 (tr0 T k) []) :
  Calls Try.prog 88 (([.c (.ptr (0,0,0) 0),.c (.sl (5,0,0) 1 0 k.length none)]:List SV).map (SV.den E)).toArray w (EffR w E 6 (takesO E (tr0 T k)) (.tup [(false,[.v (.int .i64 (prR T k res).1)]),(false,[.bo (prR T k res).2.1])]) 4 fun b=>killO [1,2,3,4,5]++trE (prR T k res).2.2 b):=by
 refine enterO (c:=ir88) (rs:=rs88) (nt:=nt88) h _ Try.func88 rfl (by kernel_rfl) (by kernel_rfl) rfl (by simp [okVs,SV.okN,SC.okN]) (of_decide_eq_true rfl) ?_
 generalize hR:EffR w E 6 (takesO E (tr0 T k)) (.tup [(false,[.v (.int .i64 (prR T k res).1)]),(false,[.bo (prR T k res).2.1])]) 4 (fun b=>killO [1,2,3,4,5]++trE (prR T k res).2.2 b)=R
 generalize hW:takesO E (tr0 T k)=W
 simp (maxSteps:=2000000) only [ir88,nt88,rs88,go_sem,↓runOp,↓reduceIte,Nat.reduceLT,Nat.reduceEqDiff,reduceCtorEq,Int.reduceNeg]
 have hlb:∀ {C:Ctx} {E:Env} {S:St} {a:Act} {w' : World} {i:Nat},Sat C.B C.W C.w0 E S a w'→i<T.keys.length→look S.own 4=some (.fam T.keys.length (trK T.keys))→Arr w' eI 1 ((SC.sl (4,i,0) 1 0 (T.keys.getD i []).length none).den E) (T.keys.getD i []):=fun hs hi h4=>arr_ownX (d:=0) hs (4,_,0) _ _ _ (by simp only [atN,h4,Fm.get,hi,and_self,if_true];rfl) rfl (Nat.le_refl _) fun _ _=>rfl
 have hll:=hT.l
 have hrl:=hT.r
 refine loopI (ι:={ p:Int×Bool×Nat // p.2.2<T.keys.length∧∃ f,tsr T k f p.2.2=some res }) (fun p=>⟨108,[(0,.c (.ptr (0,0,0) 0)),(1,.c (.sl (5,0,0) 1 0 k.length none)),(8,.c (.v (.int .i64 (p.1.2.2:Nat))))],tr0 T k,[],[AgF 6 E],6⟩)
  (fun p=>T.keys.length - p.1.2.2) ⟨(-1,false,0),hn,_,hres⟩ ?_ ?_
 ·exact le_renF id rfl ⟨factA List.mem_cons_self (Nat.le_refl _) (fun _ _=>rfl),trivial⟩ (by simp [TmpsLe,look,SV.ren,SC.ren,idσ,SV.okN,SC.okN]) (by simp +contextual [tr0,trO,trS,trC,trK,OwnLe,BlkLeO,BlkLe,atN,look,Fm.get,idσ,SC.renL,SC.ren,SC.okL,SC.okN,ren_ats,ok_ats]) trivial rfl
 rintro ⟨⟨_,_,i⟩,hi,f,hf⟩
 simp only at hi hf
 simp (maxSteps:=2000000) only [go_sem,↓condS,↓exitS,↓runOp,↓reduceIte,Nat.reduceLT,Nat.reduceLeDiff,Nat.reduceAdd,Nat.reduceMul,Nat.reduceEqDiff,reduceCtorEq,Int.reduceNeg,tr0,trO,trS,trC]
 refine both (fun hlt=>?_) (fun hge=>?_)
 ·rw [decide_eq_true_eq] at hlt
  cases f with
  | zero=>cases hf
  | succ f =>
  rw [tsr] at hf
  refine And.intro ⟨hi,Nat.le_refl _⟩ (And.intro hi ?_)
  refine callV (.c (.bo (lessL k (T.keys.getD i [])))) _ (fun E=>rfl) (fun E a w' hs=>less_calls w' _ _ k (T.keys.getD i []) (own_at (d:=0) hs 5 _ rfl rfl) (hlb hs hi rfl)) ?_
  simp (maxSteps:=2000000) only [go_sem,↓condS,↓exitS,↓gateS,↓runOp,↓imp_ft,↓imp_tf,↓imp_tt,↓imp_ff,↓reduceIte,Nat.reduceLT,Nat.reduceLeDiff,Nat.reduceAdd,Nat.reduceMul,Nat.reduceEqDiff,reduceCtorEq,Int.reduceNeg,eI,ats]
  refine both (fun h1=>And.intro ⟨by omega,Nat.le_refl _⟩ (And.intro (by omega) ?_)) (fun h1=>?_)
  ·rw [if_pos h1] at hf
   refine both (fun h2=>?_) (fun h2=>?_)
   ·have h2:T.left.getD i 0<0:=by simpa using h2
    rw [if_pos h2] at hf
    simp only [Option.some.injEq] at hf
    subst hf
    repeat (with_reducible refine And.intro (by first | decide | exact ⟨Nat.le_refl _,by omega,by simp only [maxLen];omega⟩ | exact ⟨by omega,Nat.le_refl _⟩ | omega) ?_)
    rw [← hR,← hW]
    exact retPut (T:=trPut T k i false) [1,2,3,4,5] 7 9 11 (tauP T.keys.length) List.mem_cons_self (fun E E'=>by simp [SV.den,SC.den,den1,prR]) (by simp [trPut,look]) rfl (by simp [trPut]) (tauP_k rfl) rfl (by simp [trPut]) (set_push (y:=-1) rfl (by omega)) rfl (by simp [trPut]) (push_int rfl) (tauP_h rfl rfl) (fun _ _ _ _ h=>tauP_inj h) (fun e=>by unfold tauP;split <;> simp) (by decide)
   ·have h2:¬ T.left.getD i 0<0:=by simpa using h2
    rw [if_neg h2] at hf
    rcases hT.lc i hi with e | ⟨e1,e2⟩
    ·omega
    obtain ⟨i',hi'⟩:∃ i' : Nat,T.left.getD i 0=i':=⟨(T.left.getD i 0).toNat,by omega⟩
    rw [hi'] at hf e1 e2 ⊢
    rw [Int.toNat_natCast] at hf
    exact backI ⟨(0,false,i'),by show i' < _;omega,f,hf⟩ (by simp only;omega) (le_renF id rfl ⟨factA List.mem_cons_self (Nat.le_refl _) (fun _ _=>rfl),trivial⟩ (by simp [TmpsLe,look,SV.ren,SC.ren,idσ,SV.okN,SC.okN]) (by simp +contextual [trC,trK,OwnLe,BlkLeO,BlkLe,atN,look,Fm.get,idσ,SC.renL,SC.ren,SC.okL,SC.okN,ren_ats,ok_ats]) trivial rfl)
  ·rw [if_neg (by rw [h1];exact Bool.false_ne_true)] at hf
   refine And.intro ⟨hi,Nat.le_refl _⟩ (And.intro hi ?_)
   refine callV (.c (.bo (lessL (T.keys.getD i []) k))) _ (fun E=>rfl) (fun E a w' hs=>less_calls w' _ _ (T.keys.getD i []) k (hlb hs hi rfl) (own_at (d:=0) hs 5 _ rfl rfl)) ?_
   simp (maxSteps:=2000000) only [go_sem,↓condS,↓exitS,↓gateS,↓runOp,↓imp_tf,↓imp_tt,↓reduceIte,Nat.reduceLT,Nat.reduceLeDiff,Nat.reduceAdd,Nat.reduceMul,Nat.reduceEqDiff,reduceCtorEq,Int.reduceNeg,eI,ats]
   refine both (fun h3=>And.intro ⟨by omega,Nat.le_refl _⟩ (And.intro (by omega) ?_)) (fun h3=>?_)
   ·rw [if_pos h3] at hf
    refine both (fun h2=>?_) (fun h2=>?_)
    ·have h2:T.right.getD i 0<0:=by simpa using h2
     rw [if_pos h2] at hf
     simp only [Option.some.injEq] at hf
     subst hf
     repeat (with_reducible refine And.intro (by first | decide | exact ⟨Nat.le_refl _,by omega,by simp only [maxLen];omega⟩ | exact ⟨by omega,Nat.le_refl _⟩ | omega) ?_)
     rw [← hR,← hW]
     exact retPut (T:=trPut T k i true) [1,2,3,4,5] 7 9 11 (tauP T.keys.length) List.mem_cons_self (fun E E'=>by simp [SV.den,SC.den,den1,prR]) (by simp [trPut,look]) rfl (by simp [trPut]) (tauP_k rfl) rfl (by simp [trPut]) (push_int rfl) rfl (by simp [trPut]) (set_push (y:=-1) rfl (by omega)) (tauP_h rfl rfl) (fun _ _ _ _ h=>tauP_inj h) (fun e=>by unfold tauP;split <;> simp) (by decide)
    ·have h2:¬ T.right.getD i 0<0:=by simpa using h2
     rw [if_neg h2] at hf
     rcases hT.rc i hi with e | ⟨e1,e2⟩
     ·omega
     obtain ⟨i',hi'⟩:∃ i' : Nat,T.right.getD i 0=i':=⟨(T.right.getD i 0).toNat,by omega⟩
     rw [hi'] at hf e1 e2 ⊢
     rw [Int.toNat_natCast] at hf
     exact backI ⟨(0,false,i'),by show i' < _;omega,f,hf⟩ (by simp only;omega) (le_renF id rfl ⟨factA List.mem_cons_self (Nat.le_refl _) (fun _ _=>rfl),trivial⟩ (by simp [TmpsLe,look,SV.ren,SC.ren,idσ,SV.okN,SC.okN]) (by simp +contextual [trC,trK,OwnLe,BlkLeO,BlkLe,atN,look,Fm.get,idσ,SC.renL,SC.ren,SC.okL,SC.okN,ren_ats,ok_ats]) trivial rfl)
   ·rw [if_neg (by rw [h3];exact Bool.false_ne_true)] at hf
    simp only [Option.some.injEq] at hf
    subst hf
    rw [← hR,← hW]
    exact retPut (T:=T) [1,2,3,4,5] 1 2 3 (fun e=>(4,e,0)) List.mem_cons_self (fun E E'=>by simp [SV.den,SC.den,den1,prR]) rfl rfl (Nat.le_refl _) (fun _ _=>rfl) rfl (Nat.le_refl _) (fun _ _=>rfl) rfl (Nat.le_refl _) (fun _ _=>rfl) (fun e he=>⟨_,_,by simp only [atN,look,Nat.reduceEqDiff,reduceIte,Fm.get];rw [if_pos (by constructor <;> first | exact he | trivial)];rfl,Nat.le_refl _,fun _ _=>rfl⟩) (fun _ _ _ _ h=>by simpa using h) (fun e=>by simp) (by decide)
 ·rw [decide_eq_false_iff_not] at hge;omega
def trN (k:List Int):Own:=[(0,.one (.bk [.v (.slice none 0 0),.v (.slice none 0 0),.v (.slice none 0 0)] 143)),(5,.one (.ar k.length 1 (ats eI k 0) 3))]
set_option maxRecDepth 100000 in
set_option maxHeartbeats 1000000 in
theorem put_first (w:World) (E:Env) (k:List Int) (h:Handed w E 6 (trN k) []) :
  Calls Try.prog 88 (([.c (.ptr (0,0,0) 0),.c (.sl (5,0,0) 1 0 k.length none)]:List SV).map (SV.den E)).toArray w (EffR w E 6 (takesO E (trN k)) (.tup [(false,[.v (.int .i64 0)]),(false,[.bo true])]) 4 fun b=>killO [5]++trE ⟨[k],[-1],[-1]⟩ b):=by
 refine enterO (c:=ir88) (rs:=rs88) (nt:=nt88) h _ Try.func88 rfl (by kernel_rfl) (by kernel_rfl) rfl (by simp [okVs,SV.okN,SC.okN]) (of_decide_eq_true rfl) ?_
 generalize hR:EffR w E 6 (takesO E (trN k)) (.tup [(false,[.v (.int .i64 0)]),(false,[.bo true])]) 4 (fun b=>killO [5]++trE ⟨[k],[-1],[-1]⟩ b)=R
 generalize hW:takesO E (trN k)=W
 simp (maxSteps:=2000000) only [ir88,nt88,rs88,go_sem,↓runOp,↓reduceIte,Nat.reduceLT,Nat.reduceEqDiff,reduceCtorEq,Int.reduceNeg,trN]
 refine loop_unr 1 ?_
 intro ι I μ i hb
 simp (maxSteps:=2000000) only [go_sem,↓condS,↓exitS,↓gateS,↓runOp,↓imp_ft,↓imp_ff,↓reduceIte,Nat.reduceLT,Nat.reduceLeDiff,Nat.reduceAdd,Nat.reduceMul,Nat.reduceEqDiff,reduceCtorEq,Int.reduceLT,Int.reduceNeg,Int.reduceGE,mkO_rs]
 repeat (with_reducible refine And.intro (by decide) ?_)
 rw [← hR,← hW]
 have h0:∀ e:Nat,e<1→e=0:=fun e he=>by omega
 exact retPut (T:=⟨[k],[-1],[-1]⟩) [5] 7 9 11 (fun _=>(5,0,0)) List.mem_cons_self (fun E E'=>by simp [SV.den,SC.den,den1]) rfl rfl (Nat.le_refl _) (fun e he=>by rw [h0 e he];rfl) rfl (Nat.le_refl _) (fun e he=>by rw [h0 e he];rfl) rfl (Nat.le_refl _) (fun e he=>by rw [h0 e he];rfl)
  (fun e he=>by rw [h0 e he];exact ⟨_,_,rfl,Nat.le_refl _,fun _ _=>rfl⟩) (fun e e' h h' _=>by rw [h0 e h,h0 e' h']) (fun e=>by simp) (by decide)
end Go.Proofs.Ytmcpdafmkkjlcaa.Z
