/- DequeSwapsSaid: what its proof is made of. No condition. -/
import Derived.Test.YtcloeignccpljaaPkIDequeSwapsAI
set_option linter.unusedSimpArgs false
set_option linter.unusedVariables false
namespace Go.Proofs.Ytcloeignccpljaa.Z
open Go Go.RowKit
def iI (x:Int):SC:=.v (.int .i64 x)
def eU (x:Int):List Value:=[.int .u64 x]
def nextC (p:SC):Nat→Nat→SC
 | 0,1=>.fn (.func 90) [p] []
 | 0,2=>.fn (.func 92) [p] []
 | 0,3=>.fn (.func 98) [p] []
 | 0,4=>.fn (.func 105) [p] []
 | 1,1=>.fn (.func 108) [p] []
 | 1,2=>.fn (.func 109) [p] []
 | 1,3=>.fn (.func 110) [p] []
 | 1,4=>.fn (.func 112) [p] []
 | 1,5=>.fn (.func 111) [p] []
 | 1,6=>.fn (.func 113) [p] []
 | 1,7=>.fn (.func 115) [p] []
 | 2,1=>.fn (.func 119) [p] []
 | 2,2=>.fn (.func 120) [p] []
 | 2,3=>.fn (.func 121) [p] []
 | 2,4=>.fn (.func 122) [p] []
 | _,_=>.v .nilFunc
def tkC (p:SC) (x:D.Tk):List SC:=match x.kd with
 | 0=>[.ptr (9,0,0) 0,nextC p 0 x.ln,iI x.b,iI x.t,iI x.v]
 | 1=>[.ptr (9,0,0) 0,nextC p 1 x.ln,iI x.b,iI x.t,iI x.v,.v (.bool x.got)]
 | _=>[.ptr (9,0,0) 0,nextC p 2 x.ln,iI x.b,iI x.t,iI x.v]
def tkTy:Nat→Nat
 | 0=>96
 | 1=>100
 | _=>102
def tkIf:Nat→Nat
 | 0=>91
 | 1=>98
 | _=>101
def tkB (p:SC):Option D.Tk→Blk
 | none=>.no
 | some x=>.bk (tkC p x) (tkTy x.kd)
def taskI (p:SC):Option D.Tk→SC
 | none=>.v .nilIface
 | some x=>.ifc (tkIf x.kd) p
def seC (t:Nat) (S:List D.Se) (k:Nat):List SC:=[taskI (.ptr (t,k,0) 0) (S.getD k D.se0).tk,.v (.bool (S.getD k D.se0).rd),iI (S.getD k D.se0).la,iI (S.getD k D.se0).ak,iI (S.getD k D.se0).av]
def tkF (t:Nat) (S:List D.Se) (k:Nat):Blk:=tkB (.ptr (t,k,0) 0) (S.getD k D.se0).tk
structure Nz where
 l:Nat
 a:Nat
 c:Nat
 t:Nat
def nz0:Nz:=⟨3,4,6,7⟩
def bkM (z:Nz) (cp tp:SC) (m:D.Pm):List SC:=[.ptr (1,0,0) 0,iI m.th,iI m.nw,cp,tp,.v (.bool m.us),.v (.slice none 0 0),.mp (8,0,0),.sl (5,0,0) 5 0 m.S.length none,iI m.mv,.sl (z.c,0,0) 9 0 m.C.length none]
def bkY (z:Nz) (m:D.Pm):List SC:=[.sl (2,0,0) 1 0 m.W.length none,.sl (z.l,0,0) 7 0 m.L.length none,.sl (z.a,0,0) 1 0 m.A.length none,iI m.mm]
def hubC (m:D.Pm):List SC:=[iI m.room,iI m.top,.v (.bool m.last),iI m.rk,iI m.at_]
def mO (z:Nz) (cp tp:SC) (m:D.Pm):Own :=
  [(0,.one (.bk (bkM z cp tp m) 113)),(1,.one (.bk (bkY z m) 140)),(2,.one (.ar m.W.length 1 (ats eU m.W 0) 44)),
   (z.l,.one (.ar m.L.length 7 (ats D.Ac.enc m.L D.ac0) 47)),(z.a,.one (.ar m.A.length 1 (ats eU m.A 0) 44)),
   (5,.one (.ar m.S.length 5 (seC z.t m.S) 116)),(z.c,.one (.ar m.C.length 9 (ats D.Ca.enc m.C D.ca0) 77)),
   (z.t,.fam m.S.length (tkF z.t m.S)),(9,.one (.bk (hubC m) 88))]
def dO (z:Nz) (i c:Nat) (m:D.Pm):Own:=mO z (.pe (z.c,0,0) 9 c 0) (.pe (5,0,0) 5 i 3) m++[(10,.one (.bk [.ptr (0,0,0) 0] 137))]
def aO (z:Nz) (i c:Nat) (m:D.Pm):Own :=
  [(0,.one (.bk (bkM z (.pe (z.c,0,0) 9 c 0) (.pe (5,0,0) 5 i 3) m) 113)),(1,.one (.bk (bkY z m) 140)),(2,.one (.ar m.W.length 1 (ats eU m.W 0) 44)),
   (z.l,.one (.ar m.L.length 7 (ats D.Ac.enc m.L D.ac0) 47)),(z.a,.one (.ar m.A.length 1 (ats eU m.A 0) 44)),(10,.one (.bk [.ptr (0,0,0) 0] 137))]
def logd (m:D.Pm) (x:D.Ac) (v:Int):D.Pm:={ m with L:=m.L++[x],A:=m.A++[v] }
theorem ats_U (xs:List Int) (d:Int) (e:Nat):ats eU xs d e=[.v (.int .u64 (xs.getD e d))]:=rfl
def tau2 (b p q:Nat) (i:Nat):Nat:=if i=b then p else if i=b+1 then q else i
def pqOk (p q:Nat):Bool:=(p != q) && [p,q].all fun x=>x == 3 || x == 4 || Nat.ble 11 x
theorem tau2_lt {b p q i:Nat} (h:i<b):tau2 b p q i=i:=by unfold tau2;rw [if_neg (by omega),if_neg (by omega)]
theorem tau2_b {b p q:Nat}:tau2 b p q b=p:=if_pos rfl
theorem tau2_b1 {b p q:Nat}:tau2 b p q (b+1)=q:=by unfold tau2;rw [if_neg (by omega),if_pos rfl]
theorem ids_nm (τ:Nat→Nat) (i k e:Nat):idσ τ (i,k,e)=(τ i,k,e):=rfl
theorem nextC_ren (σ:Nm→Nm) (c:SC) (kd ln:Nat):nextC (c.ren σ) kd ln=(nextC c kd ln).ren σ:=by
 unfold nextC;split <;> simp [SC.ren,SC.renL]
theorem nextC_ok {p:Nat→Prop} {c:SC} (h:c.okN p) (kd ln:Nat):(nextC c kd ln).okN p:=by
 unfold nextC;split <;> simp [SC.okN,SC.okL,h]
theorem tkC_ren (σ:Nm→Nm) (h9:σ (9,0,0)=(9,0,0)) (c:SC) (x:D.Tk):tkC (c.ren σ) x=SC.renL σ (tkC c x):=by
 unfold tkC;split <;> simp [SC.ren,SC.renL,nextC_ren,h9,iI]
theorem tkC_ok {p:Nat→Prop} (h9:p 9) {c:SC} (h:c.okN p) (x:D.Tk):SC.okL p (tkC c x):=by
 unfold tkC;split <;> simp [SC.okN,SC.okL,nextC_ok h,h9,iI]
theorem taskI_ren (σ:Nm→Nm) (c:SC) (x:Option D.Tk):taskI (c.ren σ) x=(taskI c x).ren σ:=by
 cases x <;> simp [taskI,SC.ren]
theorem taskI_ok {p:Nat→Prop} {c:SC} (h:c.okN p) (x:Option D.Tk):(taskI c x).okN p:=by
 cases x <;> simp [taskI,SC.okN,h]
theorem seC_ren {σ:Nm→Nm} {t t' : Nat} {S:List D.Se} {k:Nat} (h:σ (t,k,0)=(t',k,0)):seC t' S k=SC.renL σ (seC t S k):=by
 have e:(SC.ptr (t',k,0) 0)=(SC.ptr (t,k,0) 0).ren σ:=by simp [SC.ren,h]
 unfold seC
 rw [e,taskI_ren]
 simp [SC.renL,SC.ren,iI]
theorem seC_ok {p:Nat→Prop} {t:Nat} (h:p t) (S:List D.Se) (k:Nat):SC.okL p (seC t S k):=by
 unfold seC
 simp [SC.okL,SC.okN,taskI_ok (show (SC.ptr (t,k,0) 0).okN p from h),iI]
theorem tkF_le {p:Nat→Prop} {σ:Nm→Nm} {t t' : Nat} {S:List D.Se} {k:Nat} (h9:σ (9,0,0)=(9,0,0)) (p9:p 9) (pt:p t) (h:σ (t,k,0)=(t',k,0)):BlkLe p σ (tkF t' S k) (tkF t S k):=by
 unfold tkF tkB
 cases (S.getD k D.se0).tk with
 | none=>exact trivial
 | some x =>
  have e:(SC.ptr (t',k,0) 0)=(SC.ptr (t,k,0) 0).ren σ:=by simp [SC.ren,h]
  simp only
  rw [e]
  exact ⟨tkC_ren σ h9 _ x,rfl,tkC_ok p9 (show (SC.ptr (t,k,0) 0).okN p from pt) x⟩
structure MIn (own:Own) (z:Nz) (i c:Nat) (m:D.Pm):Prop where
 h0:look own 0=some (.one (.bk (bkM z (.pe (z.c,0,0) 9 c 0) (.pe (5,0,0) 5 i 3) m) 113))
 h1:look own 1=some (.one (.bk (bkY z m) 140))
 h2:∃ n g,look own 2=some (.one (.ar n 1 g 44))∧m.W.length≤n∧∀ e,e<m.W.length→g e=ats eU m.W 0 e
 hl:∃ n g,look own z.l=some (.one (.ar n 7 g 47))∧m.L.length≤n∧∀ e,e<m.L.length→g e=ats D.Ac.enc m.L D.ac0 e
 ha:∃ n g,look own z.a=some (.one (.ar n 1 g 44))∧m.A.length≤n∧∀ e,e<m.A.length→g e=ats eU m.A 0 e
 h5:∃ n g,look own 5=some (.one (.ar n 5 g 116))∧m.S.length≤n∧∀ e,e<m.S.length→g e=seC z.t m.S e
 hc:∃ n g,look own z.c=some (.one (.ar n 9 g 77))∧m.C.length≤n∧∀ e,e<m.C.length→g e=ats D.Ca.enc m.C D.ca0 e
 ht:∃ n g,look own z.t=some (.fam n g)∧m.S.length≤n∧∀ k,k<m.S.length→g k=tkF z.t m.S k
 h9:look own 9=some (.one (.bk (hubC m) 88))
 h10:look own 10=some (.one (.bk [.ptr (0,0,0) 0] 137))
theorem blk_av {α:Type} {p:Nat→Prop} {σ:Nm→Nm} {enc:α→List Value} {xs:List α} {d:α} {n k ty:Nat} {g:Nat→List SC} (hn:xs.length≤n) (hg:∀ e,e<xs.length→g e=ats enc xs d e):BlkLe p σ (.ar n k g ty) (.ar xs.length k (ats enc xs d) ty) :=
 ⟨hn,rfl,rfl,fun e he=>(hg e he).symm ▸ ats_rn e _ _⟩
theorem dO_le {own:Own} {b p q i c:Nat} {m:D.Pm} (hb:11≤b) (h:MIn own ⟨p,q,6,7⟩ i c m):OwnLe (fun j=>j<11∨NewIds b 2 j) (idσ (tau2 b p q)) own (dO ⟨b,b+1,6,7⟩ i c m):=by
 have e:∀ j k e,j<b→idσ (tau2 b p q) (j,k,e)=(j,k,e):=fun j k e hj=>by rw [ids_nm,tau2_lt hj]
 have at1:∀ j B,look own j=some (.one B)→atN own (j,0,0)=some B:=fun j B hB=>by simp [atN,hB,Fm.get]
 obtain ⟨n2,g2,a2,b2,c2⟩:=h.h2
 obtain ⟨n3,g3,a3,b3,c3⟩:=h.hl
 obtain ⟨n4,g4,a4,b4,c4⟩:=h.ha
 obtain ⟨n5,g5,a5,b5,c5⟩:=h.h5
 obtain ⟨n6,g6,a6,b6,c6⟩:=h.hc
 obtain ⟨n7,g7,a7,b7,c7⟩:=h.ht
 have l:∀ j,j<11→(j<11∨NewIds b 2 j):=fun j hj=>Or.inl hj
 have lb:(b<11∨NewIds b 2 b):=Or.inr ⟨Nat.le_refl _,by omega⟩
 have lb1:(b+1<11∨NewIds b 2 (b+1)):=Or.inr ⟨by omega,by omega⟩
 unfold dO mO
 refine ⟨⟨l 0 (by omega),?_⟩,⟨l 1 (by omega),?_⟩,⟨l 2 (by omega),?_⟩,⟨lb,?_⟩,⟨lb1,?_⟩,⟨l 5 (by omega),?_⟩,⟨l 6 (by omega),?_⟩,⟨l 7 (by omega),fun k hk=>?_⟩,⟨l 9 (by omega),?_⟩,⟨l 10 (by omega),?_⟩,trivial⟩
 ·show BlkLeO _ _ (atN own (idσ (tau2 b p q) (0,0,0))) _
  rw [e 0 0 0 (by omega),at1 _ _ h.h0]
  refine ⟨?_,rfl,?_⟩
  ·simp [bkM,SC.renL,SC.ren,iI,e 1 0 0 (by omega),e 5 0 0 (by omega),e 6 0 0 (by omega),e 8 0 0 (by omega)]
  ·simp [bkM,SC.okL,SC.okN,iI]
 ·show BlkLeO _ _ (atN own (idσ (tau2 b p q) (1,0,0))) _
  rw [e 1 0 0 (by omega),at1 _ _ h.h1]
  refine ⟨?_,rfl,?_⟩
  ·simp [bkY,SC.renL,SC.ren,iI,e 2 0 0 (by omega),ids_nm,tau2_b,tau2_b1]
  ·simp only [bkY,SC.okL,SC.okN,iI,and_true]
   exact ⟨l 2 (by omega),lb,lb1⟩
 ·show BlkLeO _ _ (atN own (idσ (tau2 b p q) (2,0,0))) _
  rw [e 2 0 0 (by omega),at1 _ _ a2]
  exact blk_av b2 c2
 ·show BlkLeO _ _ (atN own (idσ (tau2 b p q) (b,0,0))) _
  rw [ids_nm,tau2_b,at1 _ _ a3]
  exact blk_av b3 c3
 ·show BlkLeO _ _ (atN own (idσ (tau2 b p q) (b+1,0,0))) _
  rw [ids_nm,tau2_b1,at1 _ _ a4]
  exact blk_av b4 c4
 ·show BlkLeO _ _ (atN own (idσ (tau2 b p q) (5,0,0))) _
  rw [e 5 0 0 (by omega),at1 _ _ a5]
  exact ⟨b5,rfl,rfl,fun k hk=>⟨by rw [c5 k hk];exact seC_ren (e 7 k 0 (by omega)),seC_ok (l 7 (by omega)) _ _⟩⟩
 ·show BlkLeO _ _ (atN own (idσ (tau2 b p q) (6,0,0))) _
  rw [e 6 0 0 (by omega),at1 _ _ a6]
  exact blk_av b6 c6
 ·show BlkLeO _ _ (atN own (idσ (tau2 b p q) (7,k,0))) _
  rw [e 7 k 0 (by omega),show atN own (7,k,0)=some (g7 k) by simp only [atN,a7,Fm.get];rw [if_pos ⟨by omega,trivial⟩],c7 k hk]
  exact tkF_le (e 9 0 0 (by omega)) (l 9 (by omega)) (l 7 (by omega)) (e 7 k 0 (by omega))
 ·show BlkLeO _ _ (atN own (idσ (tau2 b p q) (9,0,0))) _
  rw [e 9 0 0 (by omega),at1 _ _ h.h9]
  exact ⟨by simp [hubC,SC.renL,SC.ren,iI],rfl,by simp [hubC,SC.okL,SC.okN,iI]⟩
 ·show BlkLeO _ _ (atN own (idσ (tau2 b p q) (10,0,0))) _
  rw [e 10 0 0 (by omega),at1 _ _ h.h10]
  exact ⟨by simp [SC.renL,SC.ren,e 0 0 0 (by omega)],rfl,by simp [SC.okL,SC.okN]⟩
theorem retD {P:Program} {w:World} {E:Env} {W:Nat→Prop} {rs:List RS} {u v:SV} {S2:St} {i c p q:Nat} {m:D.Pm} (hpq:pqOk p q=true) (hf:AgF 11 E∈S2.facts) (hu:∀ E E',v.den E=u.den E') (h:MIn S2.own ⟨p,q,6,7⟩ i c m) :
  RetVC (mkO P w W rs (EffR w E 11 W u 2 fun b=>killO [3,4]++dO ⟨b,b+1,6,7⟩ i c m)) v S2:=by
 refine retEff (fun b=>idσ (tau2 b p q)) [3,4] (fun b=>dO ⟨b,b+1,6,7⟩ i c m) hf hu (fun b hb x hx=>?_) (fun b hb=>dO_le hb h) (fun b hb x y B B' hx hy e=>?_)
 ·obtain ⟨a,k,l⟩:=x
  rw [ids_nm,tau2_lt (show a<b from Nat.lt_of_lt_of_le hx hb)]
 ·obtain ⟨F,hF,_⟩:=atN_some hx
  obtain ⟨F',hF',_⟩:=atN_some hy
  have hx2:=look_keysL hF
  have hy2:=look_keysL hF'
  obtain ⟨a,k,l⟩:=x
  obtain ⟨a',k',l'⟩:=y
  simp only [ids_nm,Prod.mk.injEq] at e
  simp only [dO,mO,keysL,List.cons_append,List.nil_append,List.mem_cons,List.not_mem_nil,or_false] at hx2 hy2
  simp only [pqOk,List.all_cons,List.all_nil,Bool.and_true,Bool.and_eq_true,bne_iff_ne,ne_eq,Bool.or_eq_true,beq_iff_eq,Nat.ble_eq] at hpq
  have ea:a=a':=by
   have e1:=e.1
   unfold tau2 at e1
   split at e1 <;> split at e1 <;> (try split at e1) <;> (try split at e1) <;> omega
  subst ea
  rw [e.2.1,e.2.2]
structure AIn (own:Own) (z:Nz) (i c:Nat) (m:D.Pm):Prop where
 h0:look own 0=some (.one (.bk (bkM z (.pe (z.c,0,0) 9 c 0) (.pe (5,0,0) 5 i 3) m) 113))
 h1:look own 1=some (.one (.bk (bkY z m) 140))
 h2:∃ n g,look own 2=some (.one (.ar n 1 g 44))∧m.W.length≤n∧∀ e,e<m.W.length→g e=ats eU m.W 0 e
 hl:∃ n g,look own z.l=some (.one (.ar n 7 g 47))∧m.L.length≤n∧∀ e,e<m.L.length→g e=ats D.Ac.enc m.L D.ac0 e
 ha:∃ n g,look own z.a=some (.one (.ar n 1 g 44))∧m.A.length≤n∧∀ e,e<m.A.length→g e=ats eU m.A 0 e
 h10:look own 10=some (.one (.bk [.ptr (0,0,0) 0] 137))
theorem aO_le {own:Own} {b p q i c:Nat} {m:D.Pm} (hb:11≤b) (h:AIn own ⟨p,q,6,7⟩ i c m):OwnLe (fun j=>j<11∨NewIds b 2 j) (idσ (tau2 b p q)) own (aO ⟨b,b+1,6,7⟩ i c m):=by
 have e:∀ j k e,j<b→idσ (tau2 b p q) (j,k,e)=(j,k,e):=fun j k e hj=>by rw [ids_nm,tau2_lt hj]
 have at1:∀ j B,look own j=some (.one B)→atN own (j,0,0)=some B:=fun j B hB=>by simp [atN,hB,Fm.get]
 obtain ⟨n2,g2,a2,b2,c2⟩:=h.h2
 obtain ⟨n3,g3,a3,b3,c3⟩:=h.hl
 obtain ⟨n4,g4,a4,b4,c4⟩:=h.ha
 have l:∀ j,j<11→(j<11∨NewIds b 2 j):=fun j hj=>Or.inl hj
 have lb:(b<11∨NewIds b 2 b):=Or.inr ⟨Nat.le_refl _,by omega⟩
 have lb1:(b+1<11∨NewIds b 2 (b+1)):=Or.inr ⟨by omega,by omega⟩
 unfold aO
 refine ⟨⟨l 0 (by omega),?_⟩,⟨l 1 (by omega),?_⟩,⟨l 2 (by omega),?_⟩,⟨lb,?_⟩,⟨lb1,?_⟩,⟨l 10 (by omega),?_⟩,trivial⟩
 ·show BlkLeO _ _ (atN own (idσ (tau2 b p q) (0,0,0))) _
  rw [e 0 0 0 (by omega),at1 _ _ h.h0]
  refine ⟨?_,rfl,?_⟩
  ·simp [bkM,SC.renL,SC.ren,iI,e 1 0 0 (by omega),e 5 0 0 (by omega),e 6 0 0 (by omega),e 8 0 0 (by omega)]
  ·simp [bkM,SC.okL,SC.okN,iI]
 ·show BlkLeO _ _ (atN own (idσ (tau2 b p q) (1,0,0))) _
  rw [e 1 0 0 (by omega),at1 _ _ h.h1]
  refine ⟨?_,rfl,?_⟩
  ·simp [bkY,SC.renL,SC.ren,iI,e 2 0 0 (by omega),ids_nm,tau2_b,tau2_b1]
  ·simp only [bkY,SC.okL,SC.okN,iI,and_true]
   exact ⟨l 2 (by omega),lb,lb1⟩
 ·show BlkLeO _ _ (atN own (idσ (tau2 b p q) (2,0,0))) _
  rw [e 2 0 0 (by omega),at1 _ _ a2]
  exact blk_av b2 c2
 ·show BlkLeO _ _ (atN own (idσ (tau2 b p q) (b,0,0))) _
  rw [ids_nm,tau2_b,at1 _ _ a3]
  exact blk_av b3 c3
 ·show BlkLeO _ _ (atN own (idσ (tau2 b p q) (b+1,0,0))) _
  rw [ids_nm,tau2_b1,at1 _ _ a4]
  exact blk_av b4 c4
 ·show BlkLeO _ _ (atN own (idσ (tau2 b p q) (10,0,0))) _
  rw [e 10 0 0 (by omega),at1 _ _ h.h10]
  exact ⟨by simp [SC.renL,SC.ren,e 0 0 0 (by omega)],rfl,by simp [SC.okL,SC.okN]⟩
theorem retA {P:Program} {w:World} {E:Env} {W:Nat→Prop} {rs:List RS} {u v:SV} {S2:St} {i c p q:Nat} {m:D.Pm} (hpq:pqOk p q=true) (hf:AgF 11 E∈S2.facts) (hu:∀ E E',v.den E=u.den E') (h:AIn S2.own ⟨p,q,6,7⟩ i c m) :
  RetVC (mkO P w W rs (EffR w E 11 W u 2 fun b=>killO [3,4]++aO ⟨b,b+1,6,7⟩ i c m)) v S2:=by
 refine retEff (fun b=>idσ (tau2 b p q)) [3,4] (fun b=>aO ⟨b,b+1,6,7⟩ i c m) hf hu (fun b hb x hx=>?_) (fun b hb=>aO_le hb h) (fun b hb x y B B' hx hy e=>?_)
 ·obtain ⟨a,k,l⟩:=x
  rw [ids_nm,tau2_lt (show a<b from Nat.lt_of_lt_of_le hx hb)]
 ·obtain ⟨F,hF,_⟩:=atN_some hx
  obtain ⟨F',hF',_⟩:=atN_some hy
  have hx2:=look_keysL hF
  have hy2:=look_keysL hF'
  obtain ⟨a,k,l⟩:=x
  obtain ⟨a',k',l'⟩:=y
  simp only [ids_nm,Prod.mk.injEq] at e
  simp only [aO,keysL,List.mem_cons,List.not_mem_nil,or_false] at hx2 hy2
  simp only [pqOk,List.all_cons,List.all_nil,Bool.and_true,Bool.and_eq_true,bne_iff_ne,ne_eq,Bool.or_eq_true,beq_iff_eq,Nat.ble_eq] at hpq
  have ea:a=a':=by
   have e1:=e.1
   unfold tau2 at e1
   split at e1 <;> split at e1 <;> (try split at e1) <;> (try split at e1) <;> omega
  subst ea
  rw [e.2.1,e.2.2]
theorem fork_in {C:Ctx} {ex:List KI→St→Prop} {o:IO1} {r:List IO1} {k:List KI} {S:St} {g:Nat} {want b:Bool} {Z:Prop} (hb:b=want) (h1:resAP g b want S.tmps) (h2:runOp C ex o r k (S.setA g b want)):Z∨forkS C ex o r k S g want b :=
 Or.inr ⟨fun _=>⟨h1,h2⟩,fun q=>by subst hb;cases b <;> cases q⟩
def ir94:IR:=(.seq (.ops [⟨(some 6),(.mv (.k (.c (.v (.int .u64 0))))),none⟩,⟨(some 7),(.mv (.k (.c (.v (.int .i64 0))))),none⟩]) (.kill [3,4,5,6,7,8,9,10,11] (.seq (.seq (.ops [⟨(some 9),(.mv (.t 0)),none⟩,⟨(some 10),(.mv (.t 2)),none⟩,⟨(some 11),(.call 100 [(.t 9),(.t 10)]),none⟩,⟨(some 12),(.un .not (.t 11)),none⟩]) (.kill [9,10,11] (.cond (.t 12) (.seq (.ops [⟨(some 6),(.mv (.k (.c (.v (.int .u64 0))))),none⟩,⟨(some 7),(.mv (.k (.c (.v (.int .i64 20))))),none⟩]) (.kill [0,1,2,12] .ret)) .skip))) (.kill [6,7,12] (.seq (.ops [⟨(some 13),(.mv (.t 0)),none⟩,⟨(some 14),(.nilck (.t 13)),none⟩,⟨(some 15),(.fa 0 (.t 14)),none⟩,⟨(some 16),(.ld false 1 (.t 15)),none⟩,⟨(some 17),(.mv (.t 2)),none⟩,⟨(some 18),(.ia 1 (.t 16) (.t 17)),none⟩,⟨(some 19),(.ld false 1 (.t 18)),none⟩,⟨(some 8),(.mv (.t 19)),none⟩]) (.kill [13,14,15,16,17,18,19] (.seq (.ops [⟨(some 20),(.mv (.t 0)),none⟩,⟨(some 21),(.mv (.t 1)),none⟩,⟨(some 22),(.mv (.t 2)),none⟩,⟨(some 23),(.mv (.t 8)),none⟩,⟨(some 24),(.build [(.v (.int .i64 0)),(.v (.int .i64 0)),(.v (.int .i64 0)),(.v (.int .i64 0)),(.v (.int .u64 0)),(.v (.int .u64 0)),(.v (.int .u64 0))] [(1,(1,(.t 21))),(2,(1,(.k (.c (.v (.int .i64 1)))))),(3,(1,(.t 22))),(6,(1,(.t 23)))]),none⟩,⟨(some 25),(.mv (.t 8)),none⟩,⟨(some 26),(.call 101 [(.t 20),(.t 24),(.t 25)]),none⟩]) (.kill [0,1,2,20,21,22,23,24,25,26] (.seq (.ops [⟨(some 27),(.mv (.t 8)),none⟩,⟨(some 6),(.mv (.t 27)),none⟩,⟨(some 7),(.mv (.k (.c (.v (.int .i64 0))))),none⟩]) (.kill [8,27] .ret))))))))))
def rs94:List RS:=[(.t 6),(.t 7)]
def nt94:Nat:=28
def ir100:IR:=(.seq (.ops [⟨(some 4),(.mv (.k (.c (.v (.bool false))))),none⟩]) (.kill [2,3,4,5,6,7,8,9,10,11] (.seq (.ops [⟨(some 5),(.mv (.t 1)),none⟩,⟨(some 6),(.bin .geq (.t 5) (.k (.c (.v (.int .i64 0))))),none⟩,⟨(some 7),(.mv (.t 6)),none⟩,⟨(some 8),(.mv (.t 1)),(some (7,true))⟩,⟨(some 9),(.mv (.t 0)),(some (7,true))⟩,⟨(some 10),(.call 99 [(.t 9)]),(some (7,true))⟩,⟨(some 11),(.bin .lss (.t 8) (.t 10)),(some (7,true))⟩,⟨(some 12),(.pick (.t 7) (.t 11) (.k (.c (.v (.bool false))))),none⟩,⟨(some 4),(.mv (.t 12)),none⟩]) (.kill [0,1,5,6,7,8,9,10,11,12] .ret))))
def rs100:List RS:=[(.t 4)]
def nt100:Nat:=13
def ir99:IR:=(.seq (.ops [⟨(some 2),(.mv (.k (.c (.v (.int .i64 0))))),none⟩]) (.kill [1,2,3,4,5,6,7,8,9,10,11] (.seq (.seq (.ops [⟨(some 3),(.mv (.t 0)),none⟩,⟨(some 4),(.eqn 0 false (.t 3) (.k (.c (.v (.pointer none))))),none⟩]) (.kill [3] (.cond (.t 4) (.seq (.ops [⟨(some 2),(.mv (.k (.c (.v (.int .i64 0))))),none⟩]) (.kill [0,4] .ret)) .skip))) (.kill [2,4] (.seq (.ops [⟨(some 5),(.mv (.t 0)),none⟩,⟨(some 6),(.nilck (.t 5)),none⟩,⟨(some 7),(.fa 0 (.t 6)),none⟩,⟨(some 8),(.ld false 1 (.t 7)),none⟩,⟨(some 9),(.len (.t 8)),none⟩,⟨(some 2),(.mv (.t 9)),none⟩]) (.kill [0,5,6,7,8,9] .ret))))))
def rs99:List RS:=[(.t 2)]
def nt99:Nat:=10
def ir101:IR:=(.seq (.ops [⟨(some 4),(.box 47 (.t 1)),none⟩]) (.kill [1,3,5,6,7,8,9,10,11] (.seq (.ops [⟨(some 6),(.mv (.t 0)),none⟩,⟨(some 7),(.nilck (.t 6)),none⟩,⟨(some 8),(.fa 3 (.t 7)),none⟩,⟨(some 9),(.ld false 1 (.t 8)),none⟩,⟨(some 10),(.fa 0 (.t 4)),none⟩,⟨none,(.st 1 (.t 10) (.t 9)),none⟩]) (.kill [6,7,8,9,10] (.seq (.draw [(⟨(some 11),(.mv (.t 0)),none⟩,([],[12,13,14,15,16,17,18])),(⟨(some 12),(.mv (.t 0)),none⟩,([0],[11,16,17])),(⟨(some 13),(.nilck (.t 12)),none⟩,([0],[11,16,17])),(⟨(some 14),(.fa 1 (.t 13)),none⟩,([0],[11,16,17])),(⟨(some 15),(.ld false 1 (.t 14)),none⟩,([0],[11,16,17])),(⟨(some 16),(.ld true 7 (.t 4)),none⟩,([0,1,2,3,4],[11,12,13,14,15])),(⟨(some 17),(.mkSl 47 1 7 [(.v (.int .i64 0)),(.v (.int .i64 0)),(.v (.int .i64 0)),(.v (.int .i64 0)),(.v (.int .u64 0)),(.v (.int .u64 0)),(.v (.int .u64 0))] [(0,(7,(.t 16)))]),none⟩,([0,1,2,3,4],[11,12,13,14,15])),(⟨(some 18),(.app 47 7 56 [(.v (.int .i64 0)),(.v (.int .i64 0)),(.v (.int .i64 0)),(.v (.int .i64 0)),(.v (.int .u64 0)),(.v (.int .u64 0)),(.v (.int .u64 0))] (.t 15) (.t 17)),none⟩,([0],[11])),(⟨(some 19),(.nilck (.t 11)),none⟩,([],[])),(⟨(some 20),(.fa 1 (.t 19)),none⟩,([],[])),(⟨none,(.st 1 (.t 20) (.t 18)),none⟩,([],[]))]) (.kill [4,11,12,13,14,15,16,17,18,19,20] (.ops [⟨(some 21),(.mv (.t 0)),none⟩,⟨(some 22),(.mv (.t 0)),none⟩,⟨(some 23),(.nilck (.t 22)),none⟩,⟨(some 24),(.fa 2 (.t 23)),none⟩,⟨(some 25),(.ld false 1 (.t 24)),none⟩,⟨(some 26),(.mv (.t 2)),none⟩,⟨(some 27),(.mkSl 44 1 1 [(.v (.int .u64 0))] [(0,(1,(.t 26)))]),none⟩,⟨(some 28),(.app 44 1 8 [(.v (.int .u64 0))] (.t 25) (.t 27)),none⟩,⟨(some 29),(.nilck (.t 21)),none⟩,⟨(some 30),(.fa 2 (.t 29)),none⟩,⟨none,(.st 1 (.t 30) (.t 28)),none⟩])))))))
def rs101:List RS:=[]
def nt101:Nat:=31
set_option maxRecDepth 100000 in
set_option maxHeartbeats 1000000 in
theorem mload_own (w:World) (E:Env) (m:D.Pm) (i c:Nat) (th a:Int) (h0:0≤a) (h1:a<m.W.length) (hL:m.L.length≤65536) (hA:m.A.length≤65536) (h:Handed w E 11 (aO nz0 i c m) []) :
  Calls Try.prog 94 (([.c (.ptr (1,0,0) 0),.c (iI th),.c (iI a)]:List SV).map (SV.den E)).toArray w (EffR w E 11 (takesO E (aO nz0 i c m)) (.tup [(false,[.v (.int .u64 (D.wd m a))]),(false,[.v (.int .i64 0)])]) 2 fun b=>killO [3,4]++aO ⟨b,b+1,6,7⟩ i c (logd m ⟨m.mm,th,1,a,0,0,D.wd m a⟩ (D.wd m a))):=by
 refine enterO (c:=ir94) (rs:=rs94) (nt:=nt94) h _ Try.func94 rfl (by kernel_rfl) (by kernel_rfl) rfl (by simp [okVs,SV.okN,SC.okN,iI]) (of_decide_eq_true rfl) ?_
 generalize hR:EffR w E 11 (takesO E (aO nz0 i c m)) _ 2 _=R
 generalize hW:takesO E (aO nz0 i c m)=W
 have hge:decide (a≥0)=true:=decide_eq_true h0
 have hlt:decide (a<(m.W.length:Int))=true:=decide_eq_true h1
 simp (maxSteps:=2000000) only [ir94,nt94,rs94,go_sem,↓runOp,↓reduceIte,Nat.reduceLT,Nat.reduceAdd,Nat.reduceEqDiff,reduceCtorEq,aO,nz0,bkM,bkY,iI]
 refine call_inline (c:=ir100) (rs:=rs100) (nt:=nt100) 1000 (mkTab_ok _ _) Try.func100 rfl (by kernel_rfl) (by kernel_rfl) rfl (by simp [okVs,SV.okN,SC.okN]) (of_decide_eq_true rfl) (fun E0 a0 ht0=>?_)
 simp (maxSteps:=2000000) only [ir100,nt100,rs100,go_sem,↓gateS,↓runOp,↓imp_tt,↓reduceIte,Nat.reduceLT,Nat.reduceEqDiff,reduceCtorEq,hge]
 refine fork_in rfl (by simp [resAP,resA1,gB]) ?_
 simp (maxSteps:=2000000) only [go_sem,↓runOp,↓reduceIte,Nat.reduceEqDiff,reduceCtorEq]
 refine call_inline (c:=ir99) (rs:=rs99) (nt:=nt99) 1000 (mkTab_ok _ _) Try.func99 rfl (by kernel_rfl) (by kernel_rfl) rfl (by simp [okVs,SV.okN,SC.okN]) (of_decide_eq_true rfl) (fun E1 a1 ht1=>?_)
 simp (maxSteps:=2000000) only [ir99,nt99,rs99,go_sem,↓condS,↓runOp,↓reduceIte,Nat.reduceLT,Nat.reduceEqDiff,reduceCtorEq]
 refine retI ht1 _ rfl (of_decide_eq_true rfl) (by simp [SV.okN,SC.okN]) ?_
 simp (maxSteps:=2000000) only [go_sem,↓gateS,↓runOp,↓reduceIte,Nat.reduceLT,Nat.reduceEqDiff,reduceCtorEq,hlt]
 refine retI ht0 _ rfl (of_decide_eq_true rfl) (by simp [SV.okN,SC.okN]) ?_
 simp (maxSteps:=2000000) only [go_sem,↓condS,↓runOp,↓imp_ft,↓imp_ff,↓reduceIte,Nat.reduceLT,Nat.reduceLeDiff,Nat.reduceAdd,Nat.reduceEqDiff,reduceCtorEq,ats_U]
 refine And.intro ⟨h0,h1,Nat.le_refl _⟩ (And.intro (by omega) ?_)
 refine call_inline (c:=ir101) (rs:=rs101) (nt:=nt101) 1000 (mkTab_ok _ _) Try.func101 rfl (by kernel_rfl) (by kernel_rfl) rfl (by simp [okVs,SV.okN,SC.okL,SC.okN]) (of_decide_eq_true rfl) (fun E0 a0 ht0=>?_)
 simp (maxSteps:=2000000) only [ir101,nt101,rs101,go_sem,↓runOp,↓reduceIte,Nat.reduceLT,Nat.reduceLeDiff,Nat.reduceAdd,Nat.reduceEqDiff,reduceCtorEq]
 refine draw_vc (by kernel_rfl) (mkTab_ok _ _) (of_decide_eq_true rfl) (of_decide_eq_true rfl) ?_
 repeat (first | simp (maxSteps:=2000000) only [go_sem,↓runOp,↓gateD,↓runD,↓reduceIte,Nat.reduceLT,Nat.reduceLeDiff,Nat.reduceAdd,Nat.reduceMul,Nat.reduceEqDiff,reduceCtorEq] | rw [dr_cons])
 repeat (with_reducible refine And.intro (by first | decide | (simp only [maxLen];omega) | exact ⟨Nat.le_refl _,by omega,by simp only [maxLen];omega⟩) ?_)
 refine retI ht0 _ rfl (of_decide_eq_true rfl) (by simp [SV.okN,ok1L]) ?_
 simp (maxSteps:=2000000) only [go_sem,↓runOp,↓reduceIte,Nat.reduceLT,Nat.reduceEqDiff,reduceCtorEq,mkO_rs]
 rw [← hR,← hW]
 exact retA (p:=13) (q:=15) (m:=logd m ⟨m.mm,th,1,a,0,0,D.wd m a⟩ (D.wd m a)) rfl (by simp) (fun E E'=>by simp [SV.den,SC.den,den1,D.wd]) ⟨by simp [look,bkM,iI,logd],by simp [look,bkY,iI,logd],⟨_,_,rfl,Nat.le_refl _,fun _ _=>rfl⟩,⟨_,_,rfl,by simp [logd],ats_push (d:=D.ac0) rfl rfl (fun _ _=>rfl) rfl⟩,⟨_,_,rfl,by simp [logd],ats_push (d:=0) rfl rfl (fun _ _=>rfl) rfl⟩,rfl⟩
end Go.Proofs.Ytcloeignccpljaa.Z
namespace Go.Proofs.Ytcloeignccpljaa.Z
open Go Go.RowKit
theorem set_U {xs:List Int} {k:Nat} {y:Int} (hk:k<xs.length):∀ e,e<(xs.set k y).length→setAt k (ats eU xs 0) [.v (.int .u64 y)] e=ats eU (xs.set k y) 0 e:=by
 intro e he
 unfold setAt
 rw [ats_U,ats_U,D.set_getD _ _ _ _ _ hk]
 by_cases h:e=k
 ·rw [if_pos h,if_pos h.symm]
 ·rw [if_neg h,if_neg (fun q=>h q.symm)]
def ir106:IR:=(.seq (.ops [⟨(some 8),(.mv (.k (.c (.v (.int .i64 0))))),none⟩]) (.kill [4,5,6,7,8,9,10,11] (.seq (.seq (.ops [⟨(some 9),(.mv (.t 0)),none⟩,⟨(some 10),(.mv (.t 2)),none⟩,⟨(some 11),(.call 100 [(.t 9),(.t 10)]),none⟩,⟨(some 12),(.un .not (.t 11)),none⟩]) (.kill [9,10,11] (.cond (.t 12) (.seq (.ops [⟨(some 8),(.mv (.k (.c (.v (.int .i64 20))))),none⟩]) (.kill [0,1,2,3,12] .ret)) .skip))) (.kill [8,12] (.seq (.ops [⟨(some 13),(.mv (.t 0)),none⟩,⟨(some 14),(.mv (.t 1)),none⟩,⟨(some 15),(.mv (.t 2)),none⟩,⟨(some 16),(.mv (.t 3)),none⟩,⟨(some 17),(.build [(.v (.int .i64 0)),(.v (.int .i64 0)),(.v (.int .i64 0)),(.v (.int .i64 0)),(.v (.int .u64 0)),(.v (.int .u64 0)),(.v (.int .u64 0))] [(1,(1,(.t 14))),(2,(1,(.k (.c (.v (.int .i64 2)))))),(3,(1,(.t 15))),(5,(1,(.t 16)))]),none⟩,⟨(some 18),(.mv (.t 0)),none⟩,⟨(some 19),(.nilck (.t 18)),none⟩,⟨(some 20),(.fa 0 (.t 19)),none⟩,⟨(some 21),(.ld false 1 (.t 20)),none⟩,⟨(some 22),(.mv (.t 2)),none⟩,⟨(some 23),(.ia 1 (.t 21) (.t 22)),none⟩,⟨(some 24),(.ld false 1 (.t 23)),none⟩,⟨(some 25),(.call 101 [(.t 13),(.t 17),(.t 24)]),none⟩]) (.kill [1,13,14,15,16,17,18,19,20,21,22,23,24,25] (.seq (.ops [⟨(some 26),(.mv (.t 0)),none⟩,⟨(some 27),(.nilck (.t 26)),none⟩,⟨(some 28),(.fa 0 (.t 27)),none⟩,⟨(some 29),(.ld false 1 (.t 28)),none⟩,⟨(some 30),(.mv (.t 2)),none⟩,⟨(some 31),(.mv (.t 3)),none⟩,⟨(some 32),(.ia 1 (.t 29) (.t 30)),none⟩,⟨none,(.st 1 (.t 32) (.t 31)),none⟩]) (.kill [0,2,3,26,27,28,29,30,31,32] (.seq (.ops [⟨(some 8),(.mv (.k (.c (.v (.int .i64 0))))),none⟩]) .ret)))))))))
def rs106:List RS:=[(.t 8)]
def nt106:Nat:=33
set_option maxRecDepth 100000 in
set_option maxHeartbeats 1000000 in
theorem mstore_own (w:World) (E:Env) (m:D.Pm) (i c:Nat) (th a v:Int) (h0:0≤a) (h1:a<m.W.length) (hL:m.L.length≤65536) (hA:m.A.length≤65536) (h:Handed w E 11 (aO nz0 i c m) []) :
  Calls Try.prog 106 (([.c (.ptr (1,0,0) 0),.c (iI th),.c (iI a),.c (.v (.int .u64 v))]:List SV).map (SV.den E)).toArray w (EffR w E 11 (takesO E (aO nz0 i c m)) (.c (.v (.int .i64 0))) 2 fun b=>killO [3,4]++aO ⟨b,b+1,6,7⟩ i c { logd m ⟨m.mm,th,2,a,0,v,0⟩ (D.wd m a) with W:=m.W.set a.toNat v }):=by
 refine enterO (c:=ir106) (rs:=rs106) (nt:=nt106) h _ Try.func106 rfl (by kernel_rfl) (by kernel_rfl) rfl (by simp [okVs,SV.okN,SC.okN,iI]) (of_decide_eq_true rfl) ?_
 generalize hR:EffR w E 11 (takesO E (aO nz0 i c m)) _ 2 _=R
 generalize hW:takesO E (aO nz0 i c m)=W
 have hge:decide (a≥0)=true:=decide_eq_true h0
 have hlt:decide (a<(m.W.length:Int))=true:=decide_eq_true h1
 simp (maxSteps:=2000000) only [ir106,nt106,rs106,go_sem,↓runOp,↓reduceIte,Nat.reduceLT,Nat.reduceAdd,Nat.reduceEqDiff,reduceCtorEq,aO,nz0,bkM,bkY,iI]
 refine call_inline (c:=ir100) (rs:=rs100) (nt:=nt100) 1000 (mkTab_ok _ _) Try.func100 rfl (by kernel_rfl) (by kernel_rfl) rfl (by simp [okVs,SV.okN,SC.okN]) (of_decide_eq_true rfl) (fun E0 a0 ht0=>?_)
 simp (maxSteps:=2000000) only [ir100,nt100,rs100,go_sem,↓gateS,↓runOp,↓imp_tt,↓reduceIte,Nat.reduceLT,Nat.reduceEqDiff,reduceCtorEq,hge]
 refine fork_in rfl (by simp [resAP,resA1,gB]) ?_
 simp (maxSteps:=2000000) only [go_sem,↓runOp,↓reduceIte,Nat.reduceEqDiff,reduceCtorEq]
 refine call_inline (c:=ir99) (rs:=rs99) (nt:=nt99) 1000 (mkTab_ok _ _) Try.func99 rfl (by kernel_rfl) (by kernel_rfl) rfl (by simp [okVs,SV.okN,SC.okN]) (of_decide_eq_true rfl) (fun E1 a1 ht1=>?_)
 simp (maxSteps:=2000000) only [ir99,nt99,rs99,go_sem,↓condS,↓runOp,↓reduceIte,Nat.reduceLT,Nat.reduceEqDiff,reduceCtorEq]
 refine retI ht1 _ rfl (of_decide_eq_true rfl) (by simp [SV.okN,SC.okN]) ?_
 simp (maxSteps:=2000000) only [go_sem,↓gateS,↓runOp,↓reduceIte,Nat.reduceLT,Nat.reduceEqDiff,reduceCtorEq,hlt]
 refine retI ht0 _ rfl (of_decide_eq_true rfl) (by simp [SV.okN,SC.okN]) ?_
 simp (maxSteps:=2000000) only [go_sem,↓condS,↓runOp,↓imp_ft,↓imp_ff,↓reduceIte,Nat.reduceLT,Nat.reduceLeDiff,Nat.reduceAdd,Nat.reduceEqDiff,reduceCtorEq,ats_U]
 refine And.intro ⟨h0,h1,Nat.le_refl _⟩ (And.intro (by omega) ?_)
 refine call_inline (c:=ir101) (rs:=rs101) (nt:=nt101) 1000 (mkTab_ok _ _) Try.func101 rfl (by kernel_rfl) (by kernel_rfl) rfl (by simp [okVs,SV.okN,SC.okL,SC.okN]) (of_decide_eq_true rfl) (fun E0 a0 ht0=>?_)
 simp (maxSteps:=2000000) only [ir101,nt101,rs101,go_sem,↓runOp,↓reduceIte,Nat.reduceLT,Nat.reduceLeDiff,Nat.reduceAdd,Nat.reduceEqDiff,reduceCtorEq]
 refine draw_vc (by kernel_rfl) (mkTab_ok _ _) (of_decide_eq_true rfl) (of_decide_eq_true rfl) ?_
 repeat (first | simp (maxSteps:=2000000) only [go_sem,↓runOp,↓gateD,↓runD,↓reduceIte,Nat.reduceLT,Nat.reduceLeDiff,Nat.reduceAdd,Nat.reduceMul,Nat.reduceEqDiff,reduceCtorEq] | rw [dr_cons])
 repeat (with_reducible refine And.intro (by first | decide | (simp only [maxLen];omega) | exact ⟨Nat.le_refl _,by omega,by simp only [maxLen];omega⟩) ?_)
 refine retI ht0 _ rfl (of_decide_eq_true rfl) (by simp [SV.okN,ok1L]) ?_
 simp (maxSteps:=2000000) only [go_sem,↓runOp,↓reduceIte,Nat.reduceLT,Nat.reduceLeDiff,Nat.reduceEqDiff,reduceCtorEq,mkO_rs,ats_U]
 refine And.intro ⟨h0,h1,Nat.le_refl _⟩ (And.intro (by omega) ?_)
 rw [← hR,← hW]
 exact retA (p:=13) (q:=15) (m:={ logd m ⟨m.mm,th,2,a,0,v,0⟩ (D.wd m a) with W:=m.W.set a.toNat v }) rfl (by simp) (fun E E'=>by simp [SV.den,SC.den]) ⟨by simp [look,bkM,iI,logd],by simp [look,bkY,iI,logd],⟨_,_,rfl,by simp [logd],set_U (by omega)⟩,⟨_,_,rfl,by simp [logd],ats_push (d:=D.ac0) rfl rfl (fun _ _=>rfl) rfl⟩,⟨_,_,rfl,by simp [logd],ats_push (d:=0) rfl rfl (fun _ _=>rfl) rfl⟩,rfl⟩
def ir117:IR:=(.seq (.ops [⟨(some 10),(.mv (.k (.c (.v (.int .u64 0))))),none⟩,⟨(some 11),(.mv (.k (.c (.v (.bool false))))),none⟩,⟨(some 12),(.mv (.k (.c (.v (.int .i64 0))))),none⟩]) (.kill [5,6,7,8,9,10,11,12] (.seq (.seq (.ops [⟨(some 14),(.mv (.t 0)),none⟩,⟨(some 15),(.mv (.t 2)),none⟩,⟨(some 16),(.call 100 [(.t 14),(.t 15)]),none⟩,⟨(some 17),(.un .not (.t 16)),none⟩]) (.kill [14,15,16] (.cond (.t 17) (.seq (.ops [⟨(some 10),(.mv (.k (.c (.v (.int .u64 0))))),none⟩,⟨(some 11),(.mv (.k (.c (.v (.bool false))))),none⟩,⟨(some 12),(.mv (.k (.c (.v (.int .i64 20))))),none⟩]) (.kill [0,1,2,3,4,17] .ret)) .skip))) (.kill [10,11,12,17] (.seq (.ops [⟨(some 18),(.mv (.t 0)),none⟩,⟨(some 19),(.nilck (.t 18)),none⟩,⟨(some 20),(.fa 0 (.t 19)),none⟩,⟨(some 21),(.ld false 1 (.t 20)),none⟩,⟨(some 22),(.mv (.t 2)),none⟩,⟨(some 23),(.ia 1 (.t 21) (.t 22)),none⟩,⟨(some 24),(.ld false 1 (.t 23)),none⟩,⟨(some 13),(.mv (.t 24)),none⟩]) (.kill [18,19,20,21,22,23,24] (.seq (.ops [⟨(some 25),(.mv (.t 0)),none⟩,⟨(some 26),(.mv (.t 1)),none⟩,⟨(some 27),(.mv (.t 2)),none⟩,⟨(some 28),(.mv (.t 3)),none⟩,⟨(some 29),(.mv (.t 4)),none⟩,⟨(some 30),(.mv (.t 13)),none⟩,⟨(some 31),(.build [(.v (.int .i64 0)),(.v (.int .i64 0)),(.v (.int .i64 0)),(.v (.int .i64 0)),(.v (.int .u64 0)),(.v (.int .u64 0)),(.v (.int .u64 0))] [(1,(1,(.t 26))),(2,(1,(.k (.c (.v (.int .i64 3)))))),(3,(1,(.t 27))),(4,(1,(.t 28))),(5,(1,(.t 29))),(6,(1,(.t 30)))]),none⟩,⟨(some 32),(.mv (.t 13)),none⟩,⟨(some 33),(.call 101 [(.t 25),(.t 31),(.t 32)]),none⟩]) (.kill [1,25,26,27,28,29,30,31,32,33] (.seq (.seq (.ops [⟨(some 34),(.mv (.t 13)),none⟩,⟨(some 35),(.mv (.t 3)),none⟩,⟨(some 36),(.bin .neq (.t 34) (.t 35)),none⟩]) (.kill [3,34,35] (.cond (.t 36) (.seq (.ops [⟨(some 37),(.mv (.t 13)),none⟩,⟨(some 10),(.mv (.t 37)),none⟩,⟨(some 11),(.mv (.k (.c (.v (.bool false))))),none⟩,⟨(some 12),(.mv (.k (.c (.v (.int .i64 0))))),none⟩]) (.kill [0,2,4,13,36,37] .ret)) .skip))) (.kill [10,11,12,36] (.seq (.ops [⟨(some 38),(.mv (.t 0)),none⟩,⟨(some 39),(.nilck (.t 38)),none⟩,⟨(some 40),(.fa 0 (.t 39)),none⟩,⟨(some 41),(.ld false 1 (.t 40)),none⟩,⟨(some 42),(.mv (.t 2)),none⟩,⟨(some 43),(.mv (.t 4)),none⟩,⟨(some 44),(.ia 1 (.t 41) (.t 42)),none⟩,⟨none,(.st 1 (.t 44) (.t 43)),none⟩]) (.kill [0,2,4,38,39,40,41,42,43,44] (.seq (.ops [⟨(some 45),(.mv (.t 13)),none⟩,⟨(some 10),(.mv (.t 45)),none⟩,⟨(some 11),(.mv (.k (.c (.v (.bool true))))),none⟩,⟨(some 12),(.mv (.k (.c (.v (.int .i64 0))))),none⟩]) (.kill [13,45] .ret))))))))))))))
def rs117:List RS:=[(.t 10),(.t 11),(.t 12)]
def nt117:Nat:=46
set_option maxRecDepth 100000 in
set_option maxHeartbeats 1000000 in
theorem mswap_yes (w:World) (E:Env) (m:D.Pm) (i c:Nat) (th a o v:Int) (ho:D.wd m a=o) (h0:0≤a) (h1:a<m.W.length) (hL:m.L.length≤65536) (hA:m.A.length≤65536) (h:Handed w E 11 (aO nz0 i c m) []) :
  Calls Try.prog 117 (([.c (.ptr (1,0,0) 0),.c (iI th),.c (iI a),.c (.v (.int .u64 o)),.c (.v (.int .u64 v))]:List SV).map (SV.den E)).toArray w (EffR w E 11 (takesO E (aO nz0 i c m)) (.tup [(false,[.v (.int .u64 (D.wd m a))]),(false,[.v (.bool true)]),(false,[.v (.int .i64 0)])]) 2 fun b=>killO [3,4]++aO ⟨b,b+1,6,7⟩ i c { logd m ⟨m.mm,th,3,a,o,v,D.wd m a⟩ (D.wd m a) with W:=m.W.set a.toNat v }):=by
 refine enterO (c:=ir117) (rs:=rs117) (nt:=nt117) h _ Try.func117 rfl (by kernel_rfl) (by kernel_rfl) rfl (by simp [okVs,SV.okN,SC.okN,iI]) (of_decide_eq_true rfl) ?_
 generalize hR:EffR w E 11 (takesO E (aO nz0 i c m)) _ 2 _=R
 generalize hW:takesO E (aO nz0 i c m)=W
 have hge:decide (a≥0)=true:=decide_eq_true h0
 have hlt:decide (a<(m.W.length:Int))=true:=decide_eq_true h1
 simp (maxSteps:=2000000) only [ir117,nt117,rs117,go_sem,↓runOp,↓reduceIte,Nat.reduceLT,Nat.reduceAdd,Nat.reduceEqDiff,reduceCtorEq,aO,nz0,bkM,bkY,iI]
 refine call_inline (c:=ir100) (rs:=rs100) (nt:=nt100) 1000 (mkTab_ok _ _) Try.func100 rfl (by kernel_rfl) (by kernel_rfl) rfl (by simp [okVs,SV.okN,SC.okN]) (of_decide_eq_true rfl) (fun E0 a0 ht0=>?_)
 simp (maxSteps:=2000000) only [ir100,nt100,rs100,go_sem,↓gateS,↓runOp,↓imp_tt,↓reduceIte,Nat.reduceLT,Nat.reduceEqDiff,reduceCtorEq,hge]
 refine fork_in rfl (by simp [resAP,resA1,gB]) ?_
 simp (maxSteps:=2000000) only [go_sem,↓runOp,↓reduceIte,Nat.reduceEqDiff,reduceCtorEq]
 refine call_inline (c:=ir99) (rs:=rs99) (nt:=nt99) 1000 (mkTab_ok _ _) Try.func99 rfl (by kernel_rfl) (by kernel_rfl) rfl (by simp [okVs,SV.okN,SC.okN]) (of_decide_eq_true rfl) (fun E1 a1 ht1=>?_)
 simp (maxSteps:=2000000) only [ir99,nt99,rs99,go_sem,↓condS,↓runOp,↓reduceIte,Nat.reduceLT,Nat.reduceEqDiff,reduceCtorEq]
 refine retI ht1 _ rfl (of_decide_eq_true rfl) (by simp [SV.okN,SC.okN]) ?_
 simp (maxSteps:=2000000) only [go_sem,↓gateS,↓runOp,↓reduceIte,Nat.reduceLT,Nat.reduceEqDiff,reduceCtorEq,hlt]
 refine retI ht0 _ rfl (of_decide_eq_true rfl) (by simp [SV.okN,SC.okN]) ?_
 simp (maxSteps:=2000000) only [go_sem,↓condS,↓runOp,↓imp_ft,↓imp_ff,↓reduceIte,Nat.reduceLT,Nat.reduceLeDiff,Nat.reduceAdd,Nat.reduceEqDiff,reduceCtorEq,ats_U]
 refine And.intro ⟨h0,h1,Nat.le_refl _⟩ (And.intro (by omega) ?_)
 refine call_inline (c:=ir101) (rs:=rs101) (nt:=nt101) 1000 (mkTab_ok _ _) Try.func101 rfl (by kernel_rfl) (by kernel_rfl) rfl (by simp [okVs,SV.okN,SC.okL,SC.okN]) (of_decide_eq_true rfl) (fun E0 a0 ht0=>?_)
 simp (maxSteps:=2000000) only [ir101,nt101,rs101,go_sem,↓runOp,↓reduceIte,Nat.reduceLT,Nat.reduceLeDiff,Nat.reduceAdd,Nat.reduceEqDiff,reduceCtorEq]
 refine draw_vc (by kernel_rfl) (mkTab_ok _ _) (of_decide_eq_true rfl) (of_decide_eq_true rfl) ?_
 repeat (first | simp (maxSteps:=2000000) only [go_sem,↓runOp,↓gateD,↓runD,↓reduceIte,Nat.reduceLT,Nat.reduceLeDiff,Nat.reduceAdd,Nat.reduceMul,Nat.reduceEqDiff,reduceCtorEq] | rw [dr_cons])
 repeat (with_reducible refine And.intro (by first | decide | (simp only [maxLen];omega) | exact ⟨Nat.le_refl _,by omega,by simp only [maxLen];omega⟩) ?_)
 refine retI ht0 _ rfl (of_decide_eq_true rfl) (by simp [SV.okN,ok1L]) ?_
 have hne:(m.W.getD a.toNat 0 != o)=false:=bne_eq_false_iff_eq.2 ho
 simp (maxSteps:=2000000) only [go_sem,↓condS,↓runOp,↓imp_ft,↓imp_ff,↓reduceIte,Nat.reduceLT,Nat.reduceLeDiff,Nat.reduceEqDiff,reduceCtorEq,mkO_rs,ats_U,hne]
 refine And.intro ⟨h0,h1,Nat.le_refl _⟩ (And.intro (by omega) ?_)
 rw [← hR,← hW]
 exact retA (p:=13) (q:=15) (m:={ logd m ⟨m.mm,th,3,a,o,v,D.wd m a⟩ (D.wd m a) with W:=m.W.set a.toNat v }) rfl (by simp) (fun E E'=>by simp [SV.den,SC.den,den1,D.wd]) ⟨by simp [look,bkM,iI,logd],by simp [look,bkY,iI,logd],⟨_,_,rfl,by simp [logd],set_U (by omega)⟩,⟨_,_,rfl,by simp [logd],ats_push (d:=D.ac0) rfl rfl (fun _ _=>rfl) rfl⟩,⟨_,_,rfl,by simp [logd],ats_push (d:=0) rfl rfl (fun _ _=>rfl) rfl⟩,rfl⟩
set_option maxRecDepth 100000 in
set_option maxHeartbeats 1000000 in
theorem mswap_no (w:World) (E:Env) (m:D.Pm) (i c:Nat) (th a o v:Int) (ho:D.wd m a≠o) (h0:0≤a) (h1:a<m.W.length) (hL:m.L.length≤65536) (hA:m.A.length≤65536) (h:Handed w E 11 (aO nz0 i c m) []) :
  Calls Try.prog 117 (([.c (.ptr (1,0,0) 0),.c (iI th),.c (iI a),.c (.v (.int .u64 o)),.c (.v (.int .u64 v))]:List SV).map (SV.den E)).toArray w (EffR w E 11 (takesO E (aO nz0 i c m)) (.tup [(false,[.v (.int .u64 (D.wd m a))]),(false,[.v (.bool false)]),(false,[.v (.int .i64 0)])]) 2 fun b=>killO [3,4]++aO ⟨b,b+1,6,7⟩ i c (logd m ⟨m.mm,th,3,a,o,v,D.wd m a⟩ (D.wd m a))):=by
 refine enterO (c:=ir117) (rs:=rs117) (nt:=nt117) h _ Try.func117 rfl (by kernel_rfl) (by kernel_rfl) rfl (by simp [okVs,SV.okN,SC.okN,iI]) (of_decide_eq_true rfl) ?_
 generalize hR:EffR w E 11 (takesO E (aO nz0 i c m)) _ 2 _=R
 generalize hW:takesO E (aO nz0 i c m)=W
 have hge:decide (a≥0)=true:=decide_eq_true h0
 have hlt:decide (a<(m.W.length:Int))=true:=decide_eq_true h1
 simp (maxSteps:=2000000) only [ir117,nt117,rs117,go_sem,↓runOp,↓reduceIte,Nat.reduceLT,Nat.reduceAdd,Nat.reduceEqDiff,reduceCtorEq,aO,nz0,bkM,bkY,iI]
 refine call_inline (c:=ir100) (rs:=rs100) (nt:=nt100) 1000 (mkTab_ok _ _) Try.func100 rfl (by kernel_rfl) (by kernel_rfl) rfl (by simp [okVs,SV.okN,SC.okN]) (of_decide_eq_true rfl) (fun E0 a0 ht0=>?_)
 simp (maxSteps:=2000000) only [ir100,nt100,rs100,go_sem,↓gateS,↓runOp,↓imp_tt,↓reduceIte,Nat.reduceLT,Nat.reduceEqDiff,reduceCtorEq,hge]
 refine fork_in rfl (by simp [resAP,resA1,gB]) ?_
 simp (maxSteps:=2000000) only [go_sem,↓runOp,↓reduceIte,Nat.reduceEqDiff,reduceCtorEq]
 refine call_inline (c:=ir99) (rs:=rs99) (nt:=nt99) 1000 (mkTab_ok _ _) Try.func99 rfl (by kernel_rfl) (by kernel_rfl) rfl (by simp [okVs,SV.okN,SC.okN]) (of_decide_eq_true rfl) (fun E1 a1 ht1=>?_)
 simp (maxSteps:=2000000) only [ir99,nt99,rs99,go_sem,↓condS,↓runOp,↓reduceIte,Nat.reduceLT,Nat.reduceEqDiff,reduceCtorEq]
 refine retI ht1 _ rfl (of_decide_eq_true rfl) (by simp [SV.okN,SC.okN]) ?_
 simp (maxSteps:=2000000) only [go_sem,↓gateS,↓runOp,↓reduceIte,Nat.reduceLT,Nat.reduceEqDiff,reduceCtorEq,hlt]
 refine retI ht0 _ rfl (of_decide_eq_true rfl) (by simp [SV.okN,SC.okN]) ?_
 simp (maxSteps:=2000000) only [go_sem,↓condS,↓runOp,↓imp_ft,↓imp_ff,↓reduceIte,Nat.reduceLT,Nat.reduceLeDiff,Nat.reduceAdd,Nat.reduceEqDiff,reduceCtorEq,ats_U]
 refine And.intro ⟨h0,h1,Nat.le_refl _⟩ (And.intro (by omega) ?_)
 refine call_inline (c:=ir101) (rs:=rs101) (nt:=nt101) 1000 (mkTab_ok _ _) Try.func101 rfl (by kernel_rfl) (by kernel_rfl) rfl (by simp [okVs,SV.okN,SC.okL,SC.okN]) (of_decide_eq_true rfl) (fun E0 a0 ht0=>?_)
 simp (maxSteps:=2000000) only [ir101,nt101,rs101,go_sem,↓runOp,↓reduceIte,Nat.reduceLT,Nat.reduceLeDiff,Nat.reduceAdd,Nat.reduceEqDiff,reduceCtorEq]
 refine draw_vc (by kernel_rfl) (mkTab_ok _ _) (of_decide_eq_true rfl) (of_decide_eq_true rfl) ?_
 repeat (first | simp (maxSteps:=2000000) only [go_sem,↓runOp,↓gateD,↓runD,↓reduceIte,Nat.reduceLT,Nat.reduceLeDiff,Nat.reduceAdd,Nat.reduceMul,Nat.reduceEqDiff,reduceCtorEq] | rw [dr_cons])
 repeat (with_reducible refine And.intro (by first | decide | (simp only [maxLen];omega) | exact ⟨Nat.le_refl _,by omega,by simp only [maxLen];omega⟩) ?_)
 refine retI ht0 _ rfl (of_decide_eq_true rfl) (by simp [SV.okN,ok1L]) ?_
 have hne:(m.W.getD a.toNat 0 != o)=true:=bne_iff_ne.2 ho
 simp (maxSteps:=2000000) only [go_sem,↓condS,↓runOp,↓imp_tf,↓imp_tt,↓reduceIte,Nat.reduceLT,Nat.reduceEqDiff,reduceCtorEq,mkO_rs,hne]
 rw [← hR,← hW]
 exact retA (p:=13) (q:=15) (m:=(logd m ⟨m.mm,th,3,a,o,v,D.wd m a⟩ (D.wd m a))) rfl (by simp) (fun E E'=>by simp [SV.den,SC.den,den1,D.wd]) ⟨by simp [look,bkM,iI,logd],by simp [look,bkY,iI,logd],⟨_,_,rfl,Nat.le_refl _,fun _ _=>rfl⟩,⟨_,_,rfl,by simp [logd],ats_push (d:=D.ac0) rfl rfl (fun _ _=>rfl) rfl⟩,⟨_,_,rfl,by simp [logd],ats_push (d:=0) rfl rfl (fun _ _=>rfl) rfl⟩,rfl⟩
end Go.Proofs.Ytcloeignccpljaa.Z
namespace Go.Proofs.Ytcloeignccpljaa.Z
open Go Go.RowKit
theorem plain_tk (t:Nat) (S:List D.Se) (k:Nat):PlainB (tkF t S k):=by
 unfold tkF tkB
 split <;> exact trivial
theorem aO_plain (z:Nz) (i c:Nat) (m:D.Pm):PlainO (aO z i c m) :=
 plain_of ⟨trivial,trivial,trivial,trivial,trivial,trivial,trivial⟩
theorem aO_id {own:Own} {i c:Nat} {m:D.Pm} (h:AIn own nz0 i c m):OwnLe (· < 11) (idσ id) own (aO nz0 i c m):=by
 have e:∀ j k e,idσ id (j,k,e)=(j,k,e):=fun j k e=>rfl
 have at1:∀ j B,look own j=some (.one B)→atN own (j,0,0)=some B:=fun j B hB=>by simp [atN,hB,Fm.get]
 obtain ⟨n2,g2,a2,b2,c2⟩:=h.h2
 obtain ⟨n3,g3,a3,b3,c3⟩:=h.hl
 obtain ⟨n4,g4,a4,b4,c4⟩:=h.ha
 simp only [nz0] at a3 a4
 have l:∀ j,j<11→j<11:=fun j hj=>hj
 unfold aO
 refine ⟨⟨l 0 (by omega),?_⟩,⟨l 1 (by omega),?_⟩,⟨l 2 (by omega),?_⟩,⟨l 3 (by omega),?_⟩,⟨l 4 (by omega),?_⟩,⟨l 10 (by omega),?_⟩,trivial⟩
 ·show BlkLeO _ _ (atN own (0,0,0)) _
  rw [at1 _ _ h.h0]
  exact ⟨by simp [bkM,SC.renL,SC.ren,iI,e],rfl,by simp [bkM,SC.okL,SC.okN,iI,nz0]⟩
 ·show BlkLeO _ _ (atN own (1,0,0)) _
  rw [at1 _ _ h.h1]
  exact ⟨by simp [bkY,SC.renL,SC.ren,iI,e],rfl,by simp [bkY,SC.okL,SC.okN,iI,nz0]⟩
 ·show BlkLeO _ _ (atN own (2,0,0)) _
  rw [at1 _ _ a2];exact blk_av b2 c2
 ·show BlkLeO _ _ (atN own (3,0,0)) _
  rw [at1 _ _ a3];exact blk_av b3 c3
 ·show BlkLeO _ _ (atN own (4,0,0)) _
  rw [at1 _ _ a4];exact blk_av b4 c4
 ·show BlkLeO _ _ (atN own (10,0,0)) _
  rw [at1 _ _ h.h10]
  exact ⟨by simp [SC.renL,SC.ren,e 0 0 0],rfl,by simp [SC.okL,SC.okN]⟩
theorem aO_key {i c i' c' b:Nat} {m m' : D.Pm}:∀ x B,atN (aO nz0 i c m) x=some B→(look (killO [3,4]++aO ⟨b,b+1,6,7⟩ i' c' m') x.1).isSome=true:=by
 intro x B hx
 obtain ⟨F,hF,_⟩:=atN_some hx
 have hk:=look_keysL hF
 simp only [aO,nz0,keysL,List.mem_cons,List.not_mem_nil,or_false] at hk
 rw [look_app,look_kill]
 have hl:∀ j B r,look ((j,(B:Fm Blk)) :: r) j=some B:=fun j B r=>by simp [look]
 rcases hk with e | e | e | e | e | e <;> rw [e]
 ·rfl
 ·rfl
 ·rfl
 ·rfl
 ·rfl
 all_goals
  simp only [List.mem_cons,List.not_mem_nil,Nat.reduceEqDiff,or_self,if_false,aO,look]
  repeat' split
  all_goals first | rfl | (exfalso;exact ‹¬True› trivial)
theorem crA {C:Ctx} {S:St} {f:Nat} {vs:List SV} {u:SV} {i c:Nat} {m m' : D.Pm} (hn:11≤S.nid) (h:AIn S.own nz0 i c m)
  (hc:∀ E w,Handed w E 11 (aO nz0 i c m) []→Calls C.P f (vs.map (SV.den E)).toArray w (EffR w E 11 (takesO E (aO nz0 i c m)) u 2 fun b=>killO [3,4]++aO ⟨b,b+1,6,7⟩ i c m')) :
  CR C f vs S (List.range 11) u 2 (killO [3,4]++aO ⟨S.nid,S.nid+1,6,7⟩ i c m') [] :=
 cr_own (eff:=fun b=>killO [3,4]++aO ⟨b,b+1,6,7⟩ i c m') 11 (aO nz0 i c m) [] hn (aO_plain _ _ _ _) (aO_id h) trivial aO_key hc
def ir91:IR:=(.seq (.ops [⟨(some 4),(.mv (.k (.c (.v (.int .u64 0))))),none⟩]) (.kill [2,3,4,5,6,7,8,9,10,11] (.seq (.seq (.ops [⟨(some 7),(.mv (.t 0)),none⟩,⟨(some 8),(.mv (.t 1)),none⟩,⟨(some 9),(.call 93 [(.t 7),(.t 8)]),none⟩,⟨(some 10),(.un .not (.t 9)),none⟩]) (.kill [7,8,9] (.cond (.t 10) (.seq (.ops [⟨(some 4),(.mv (.k (.c (.v (.int .u64 0))))),none⟩]) (.kill [0,1,10] .ret)) .skip))) (.kill [4,10] (.seq (.draw [(⟨(some 12),(.mv (.t 0)),none⟩,([],[19,20,21,22,23,24,25,26])),(⟨(some 13),(.nilck (.t 12)),none⟩,([],[19,20,21,22,23,24,25,26])),(⟨(some 14),(.fa 0 (.t 13)),none⟩,([],[19,20,21,22,23,24,25,26])),(⟨(some 15),(.ld false 1 (.t 14)),none⟩,([],[19,20,21,22,23,24,25,26])),(⟨(some 16),(.nilck (.t 15)),none⟩,([],[19,20,21,22,23,24,25,26])),(⟨(some 17),(.fa 0 (.t 16)),none⟩,([],[19,20,21,22,23,24,25,26])),(⟨(some 18),(.ld false 1 (.t 17)),none⟩,([],[19,20,21,22,23,24,25,26])),(⟨(some 19),(.mv (.t 0)),none⟩,([0,1,2,3,4,5,6],[12,13,14,15,16,17,18,26])),(⟨(some 20),(.nilck (.t 19)),none⟩,([0,1,2,3,4,5,6],[12,13,14,15,16,17,18,26])),(⟨(some 21),(.fa 0 (.t 20)),none⟩,([0,1,2,3,4,5,6],[12,13,14,15,16,17,18,26])),(⟨(some 22),(.ld false 1 (.t 21)),none⟩,([0,1,2,3,4,5,6],[12,13,14,15,16,17,18,26])),(⟨(some 23),(.nilck (.t 22)),none⟩,([0,1,2,3,4,5,6],[12,13,14,15,16,17,18,26])),(⟨(some 24),(.fa 1 (.t 23)),none⟩,([0,1,2,3,4,5,6],[12,13,14,15,16,17,18,26])),(⟨(some 25),(.ld false 1 (.t 24)),none⟩,([0,1,2,3,4,5,6],[12,13,14,15,16,17,18,26])),(⟨(some 26),(.mv (.t 1)),none⟩,([0,1,2,3,4,5,6,7,8,9,10,11,12,13],[12,13,14,15,16,17,18,19,20,21,22,23,24,25])),(⟨(some 27),(.call 94 [(.t 18),(.t 25),(.t 26)]),none⟩,([],[])),(⟨(some 11),(.mv (.t 27)),none⟩,([],[])),(⟨(some 28),(.ext 0 (.t 11)),none⟩,([],[29])),(⟨(some 29),(.ext 1 (.t 11)),none⟩,([17],[28,5])),(⟨(some 5),(.mv (.t 28)),none⟩,([18],[29])),(⟨(some 6),(.mv (.t 29)),none⟩,([],[]))]) (.kill [0,1,6,11,12,13,14,15,16,17,18,19,20,21,22,23,24,25,26,27,28,29] (.seq (.ops [⟨(some 30),(.mv (.t 5)),none⟩,⟨(some 4),(.mv (.t 30)),none⟩]) (.kill [5,30] .ret))))))))
def rs91:List RS:=[(.t 4)]
def nt91:Nat:=31
def ir93:IR:=(.seq (.ops [⟨(some 4),(.mv (.k (.c (.v (.bool false))))),none⟩]) (.kill [2,3,4,5,6,7,8,9,10,11] (.seq (.seq (.ops [⟨(some 5),(.mv (.t 0)),none⟩,⟨(some 6),(.eqn 0 false (.t 5) (.k (.c (.v (.pointer none))))),none⟩,⟨(some 7),(.mv (.t 6)),none⟩,⟨(some 8),(.mv (.t 0)),(some (7,false))⟩,⟨(some 9),(.nilck (.t 8)),(some (7,false))⟩,⟨(some 10),(.fa 0 (.t 9)),(some (7,false))⟩,⟨(some 11),(.ld false 1 (.t 10)),(some (7,false))⟩,⟨(some 12),(.eqn 0 false (.t 11) (.k (.c (.v (.pointer none))))),(some (7,false))⟩,⟨(some 13),(.pick (.t 7) (.k (.c (.v (.bool true)))) (.t 12)),none⟩,⟨(some 14),(.mv (.t 13)),none⟩,⟨(some 15),(.mv (.t 0)),(some (14,false))⟩,⟨(some 16),(.nilck (.t 15)),(some (14,false))⟩,⟨(some 17),(.fa 0 (.t 16)),(some (14,false))⟩,⟨(some 18),(.ld false 1 (.t 17)),(some (14,false))⟩,⟨(some 19),(.nilck (.t 18)),(some (14,false))⟩,⟨(some 20),(.fa 5 (.t 19)),(some (14,false))⟩,⟨(some 21),(.ld false 1 (.t 20)),(some (14,false))⟩,⟨(some 22),(.pick (.t 14) (.k (.c (.v (.bool true)))) (.t 21)),none⟩,⟨(some 23),(.mv (.t 22)),none⟩,⟨(some 24),(.mv (.t 1)),(some (23,false))⟩,⟨(some 25),(.bin .lss (.t 24) (.k (.c (.v (.int .i64 0))))),(some (23,false))⟩,⟨(some 26),(.pick (.t 23) (.k (.c (.v (.bool true)))) (.t 25)),none⟩,⟨(some 27),(.mv (.t 26)),none⟩,⟨(some 28),(.mv (.t 1)),(some (27,false))⟩,⟨(some 29),(.mv (.t 0)),(some (27,false))⟩,⟨(some 30),(.nilck (.t 29)),(some (27,false))⟩,⟨(some 31),(.fa 0 (.t 30)),(some (27,false))⟩,⟨(some 32),(.ld false 1 (.t 31)),(some (27,false))⟩,⟨(some 33),(.nilck (.t 32)),(some (27,false))⟩,⟨(some 34),(.fa 0 (.t 33)),(some (27,false))⟩,⟨(some 35),(.ld false 1 (.t 34)),(some (27,false))⟩,⟨(some 36),(.call 99 [(.t 35)]),(some (27,false))⟩,⟨(some 37),(.bin .geq (.t 28) (.t 36)),(some (27,false))⟩,⟨(some 38),(.pick (.t 27) (.k (.c (.v (.bool true)))) (.t 37)),none⟩]) (.kill [1,5,6,7,8,9,10,11,12,13,14,15,16,17,18,19,20,21,22,23,24,25,26,27,28,29,30,31,32,33,34,35,36,37] (.cond (.t 38) (.seq (.ops [⟨(some 4),(.mv (.k (.c (.v (.bool false))))),none⟩]) (.kill [0,38] .ret)) .skip))) (.kill [4,38] (.seq (.ops [⟨(some 39),(.mv (.t 0)),none⟩,⟨(some 40),(.nilck (.t 39)),none⟩,⟨(some 41),(.fa 0 (.t 40)),none⟩,⟨(some 42),(.ld false 1 (.t 41)),none⟩,⟨(some 43),(.nilck (.t 42)),none⟩,⟨(some 44),(.fa 5 (.t 43)),none⟩,⟨none,(.st 1 (.t 44) (.k (.c (.v (.bool true))))),none⟩]) (.kill [0,39,40,41,42,43,44] (.seq (.ops [⟨(some 4),(.mv (.k (.c (.v (.bool true))))),none⟩]) .ret)))))))
def rs93:List RS:=[(.t 4)]
def nt93:Nat:=45
set_option maxRecDepth 100000 in
set_option maxHeartbeats 1000000 in
theorem dload_own (w:World) (E:Env) (m:D.Pm) (i c:Nat) (a:Int) (hu:m.us=false) (h0:0≤a) (h1:a<m.W.length) (hL:m.L.length≤65536) (hA:m.A.length≤65536) (h:Handed w E 11 (aO nz0 i c m) []) :
  Calls Try.prog 91 (([.c (.ptr (10,0,0) 0),.c (iI a)]:List SV).map (SV.den E)).toArray w (EffR w E 11 (takesO E (aO nz0 i c m)) (.c (.v (.int .u64 (D.load m a).2))) 2 fun b=>killO [3,4]++aO ⟨b,b+1,6,7⟩ i c (D.load m a).1):=by
 refine enterO (c:=ir91) (rs:=rs91) (nt:=nt91) h _ Try.func91 rfl (by kernel_rfl) (by kernel_rfl) rfl (by simp [okVs,SV.okN,SC.okN,iI]) (of_decide_eq_true rfl) ?_
 rw [D.ld_ok hu h0 h1]
 generalize hR:EffR w E 11 (takesO E (aO nz0 i c m)) _ 2 _=R
 generalize hW:takesO E (aO nz0 i c m)=W
 have hlt0:decide (a<0)=false:=decide_eq_false (by omega)
 have hge:decide (a≥(m.W.length:Int))=false:=decide_eq_false (by omega)
 simp (maxSteps:=2000000) only [ir91,nt91,rs91,go_sem,↓runOp,↓reduceIte,Nat.reduceLT,Nat.reduceEqDiff,reduceCtorEq,aO,nz0,bkM,bkY,iI,hu]
 refine call_inline (c:=ir93) (rs:=rs93) (nt:=nt93) 1000 (mkTab_ok _ _) Try.func93 rfl (by kernel_rfl) (by kernel_rfl) rfl (by simp [okVs,SV.okN,SC.okN]) (of_decide_eq_true rfl) (fun E0 a0 ht0=>?_)
 simp (maxSteps:=2000000) only [ir93,nt93,rs93,go_sem,↓gateS,↓runOp,↓imp_tt,↓reduceIte,Nat.reduceLT,Nat.reduceEqDiff,reduceCtorEq,hlt0]
 refine fork_in rfl (by simp [resAP,resA1,gB]) ?_
 simp (maxSteps:=2000000) only [go_sem,↓runOp,↓reduceIte,Nat.reduceEqDiff,reduceCtorEq]
 refine call_inline (c:=ir99) (rs:=rs99) (nt:=nt99) 1000 (mkTab_ok _ _) Try.func99 rfl (by kernel_rfl) (by kernel_rfl) rfl (by simp [okVs,SV.okN,SC.okN]) (of_decide_eq_true rfl) (fun E1 a1 ht1=>?_)
 simp (maxSteps:=2000000) only [ir99,nt99,rs99,go_sem,↓condS,↓runOp,↓reduceIte,Nat.reduceLT,Nat.reduceEqDiff,reduceCtorEq]
 refine retI ht1 _ rfl (of_decide_eq_true rfl) (by simp [SV.okN,SC.okN]) ?_
 simp (maxSteps:=2000000) only [go_sem,↓condS,↓gateS,↓runOp,↓imp_ft,↓imp_ff,↓reduceIte,Nat.reduceLT,Nat.reduceLeDiff,Nat.reduceAdd,Nat.reduceEqDiff,reduceCtorEq,hge]
 refine retI ht0 _ rfl (of_decide_eq_true rfl) (by simp [SV.okN,SC.okN]) ?_
 simp (maxSteps:=2000000) only [go_sem,↓condS,↓runOp,↓reduceIte,Nat.reduceLT,Nat.reduceEqDiff,reduceCtorEq]
 refine draw_vc (by kernel_rfl) (mkTab_ok _ _) (of_decide_eq_true rfl) (of_decide_eq_true rfl) ?_
 repeat (first | simp (maxSteps:=2000000) only [go_sem,↓gateD,↓runD,↓reduceIte,Nat.reduceLT,Nat.reduceEqDiff,reduceCtorEq] | rw [dr_cons])
 refine dcall_intro (crA (i:=i) (c:=c) (m:={ m with us:=true }) (m':=logd { m with us:=true } ⟨m.mm,m.th,1,a,0,0,D.wd m a⟩ (D.wd m a)) (Nat.le_refl _) ⟨rfl,rfl,⟨_,_,rfl,Nat.le_refl _,fun _ _=>rfl⟩,⟨_,_,rfl,Nat.le_refl _,fun _ _=>rfl⟩,⟨_,_,rfl,Nat.le_refl _,fun _ _=>rfl⟩,rfl⟩ (fun E w h=>mload_own w E { m with us:=true } i c m.th a h0 h1 hL hA h)) rfl trivial ?_ ?_ ?_
 ·simp [wrOk,killO,aO,wrFree,wkImp]
 ·intro k hk hlt
  simp only [killO,aO,keysL,List.map_cons,List.map_nil,List.cons_append,List.nil_append,List.mem_cons,List.not_mem_nil,or_false] at hk
  have hlt:k<11:=hlt
  rcases hk with rfl | rfl | rfl | rfl | rfl | rfl | rfl | rfl <;> first | rfl | omega
 repeat (first | simp (maxSteps:=2000000) only [go_sem,↓runOp,↓gateD,↓runD,↓reduceIte,Nat.reduceLT,Nat.reduceAdd,Nat.reduceEqDiff,reduceCtorEq,killO,aO,bkM,bkY,iI,logd,mkO_rs] | rw [dr_cons])
 rw [← hR,← hW]
 exact retA (p:=11) (q:=12) (m:=logd { m with us:=true } ⟨m.mm,m.th,1,a,0,0,D.wd m a⟩ (D.wd m a)) rfl (by simp) (fun E E'=>by simp [SV.den,SC.den,D.wd]) ⟨rfl,rfl,⟨_,_,rfl,Nat.le_refl _,fun _ _=>rfl⟩,⟨_,_,rfl,Nat.le_refl _,fun _ _=>rfl⟩,⟨_,_,rfl,Nat.le_refl _,fun _ _=>rfl⟩,rfl⟩
end Go.Proofs.Ytcloeignccpljaa.Z
namespace Go.Proofs.Ytcloeignccpljaa.Z
open Go Go.RowKit
def ir103:IR:=(.seq (.ops [⟨(some 6),(.mv (.t 0)),none⟩,⟨(some 7),(.mv (.t 1)),none⟩,⟨(some 8),(.call 93 [(.t 6),(.t 7)]),none⟩]) (.kill [3,4,5,6,7,9,10,11] (.cond (.t 8) (.draw [(⟨(some 9),(.mv (.t 0)),none⟩,([],[16,17,18,19,20,21,22,23,24])),(⟨(some 10),(.nilck (.t 9)),none⟩,([],[16,17,18,19,20,21,22,23,24])),(⟨(some 11),(.fa 0 (.t 10)),none⟩,([],[16,17,18,19,20,21,22,23,24])),(⟨(some 12),(.ld false 1 (.t 11)),none⟩,([],[16,17,18,19,20,21,22,23,24])),(⟨(some 13),(.nilck (.t 12)),none⟩,([],[16,17,18,19,20,21,22,23,24])),(⟨(some 14),(.fa 0 (.t 13)),none⟩,([],[16,17,18,19,20,21,22,23,24])),(⟨(some 15),(.ld false 1 (.t 14)),none⟩,([],[16,17,18,19,20,21,22,23,24])),(⟨(some 16),(.mv (.t 0)),none⟩,([0,1,2,3,4,5,6],[9,10,11,12,13,14,15,23,24])),(⟨(some 17),(.nilck (.t 16)),none⟩,([0,1,2,3,4,5,6],[9,10,11,12,13,14,15,23,24])),(⟨(some 18),(.fa 0 (.t 17)),none⟩,([0,1,2,3,4,5,6],[9,10,11,12,13,14,15,23,24])),(⟨(some 19),(.ld false 1 (.t 18)),none⟩,([0,1,2,3,4,5,6],[9,10,11,12,13,14,15,23,24])),(⟨(some 20),(.nilck (.t 19)),none⟩,([0,1,2,3,4,5,6],[9,10,11,12,13,14,15,23,24])),(⟨(some 21),(.fa 1 (.t 20)),none⟩,([0,1,2,3,4,5,6],[9,10,11,12,13,14,15,23,24])),(⟨(some 22),(.ld false 1 (.t 21)),none⟩,([0,1,2,3,4,5,6],[9,10,11,12,13,14,15,23,24])),(⟨(some 23),(.mv (.t 1)),none⟩,([0,1,2,3,4,5,6,7,8,9,10,11,12,13],[9,10,11,12,13,14,15,16,17,18,19,20,21,22,24])),(⟨(some 24),(.mv (.t 2)),none⟩,([0,1,2,3,4,5,6,7,8,9,10,11,12,13,14],[9,10,11,12,13,14,15,16,17,18,19,20,21,22,23])),(⟨(some 25),(.call 106 [(.t 15),(.t 22),(.t 23),(.t 24)]),none⟩,([],[]))]) .skip)))
def rs103:List RS:=[]
def nt103:Nat:=26
set_option maxRecDepth 100000 in
set_option maxHeartbeats 1000000 in
theorem dstore_own (w:World) (E:Env) (m:D.Pm) (i c:Nat) (a v:Int) (hu:m.us=false) (h0:0≤a) (h1:a<m.W.length) (hL:m.L.length≤65536) (hA:m.A.length≤65536) (h:Handed w E 11 (aO nz0 i c m) []) :
  Calls Try.prog 103 (([.c (.ptr (10,0,0) 0),.c (iI a),.c (.v (.int .u64 v))]:List SV).map (SV.den E)).toArray w (EffR w E 11 (takesO E (aO nz0 i c m)) (.tup []) 2 fun b=>killO [3,4]++aO ⟨b,b+1,6,7⟩ i c (D.store m a v)):=by
 refine enterO (c:=ir103) (rs:=rs103) (nt:=nt103) h _ Try.func103 rfl (by kernel_rfl) (by kernel_rfl) rfl (by simp [okVs,SV.okN,SC.okN,iI]) (of_decide_eq_true rfl) ?_
 rw [D.st_ok hu h0 h1]
 generalize hR:EffR w E 11 (takesO E (aO nz0 i c m)) _ 2 _=R
 generalize hW:takesO E (aO nz0 i c m)=W
 have hlt0:decide (a<0)=false:=decide_eq_false (by omega)
 have hge:decide (a≥(m.W.length:Int))=false:=decide_eq_false (by omega)
 simp (maxSteps:=2000000) only [ir103,nt103,rs103,go_sem,↓runOp,↓reduceIte,Nat.reduceLT,Nat.reduceAdd,Nat.reduceEqDiff,reduceCtorEq,aO,nz0,bkM,bkY,iI,hu]
 refine call_inline (c:=ir93) (rs:=rs93) (nt:=nt93) 1000 (mkTab_ok _ _) Try.func93 rfl (by kernel_rfl) (by kernel_rfl) rfl (by simp [okVs,SV.okN,SC.okN]) (of_decide_eq_true rfl) (fun E0 a0 ht0=>?_)
 simp (maxSteps:=2000000) only [ir93,nt93,rs93,go_sem,↓gateS,↓runOp,↓imp_tt,↓reduceIte,Nat.reduceLT,Nat.reduceEqDiff,reduceCtorEq,hlt0]
 refine fork_in rfl (by simp [resAP,resA1,gB]) ?_
 simp (maxSteps:=2000000) only [go_sem,↓runOp,↓reduceIte,Nat.reduceEqDiff,reduceCtorEq]
 refine call_inline (c:=ir99) (rs:=rs99) (nt:=nt99) 1000 (mkTab_ok _ _) Try.func99 rfl (by kernel_rfl) (by kernel_rfl) rfl (by simp [okVs,SV.okN,SC.okN]) (of_decide_eq_true rfl) (fun E1 a1 ht1=>?_)
 simp (maxSteps:=2000000) only [ir99,nt99,rs99,go_sem,↓condS,↓runOp,↓reduceIte,Nat.reduceLT,Nat.reduceEqDiff,reduceCtorEq]
 refine retI ht1 _ rfl (of_decide_eq_true rfl) (by simp [SV.okN,SC.okN]) ?_
 simp (maxSteps:=2000000) only [go_sem,↓condS,↓gateS,↓runOp,↓imp_ft,↓imp_ff,↓reduceIte,Nat.reduceLT,Nat.reduceLeDiff,Nat.reduceAdd,Nat.reduceEqDiff,reduceCtorEq,hge]
 refine retI ht0 _ rfl (of_decide_eq_true rfl) (by simp [SV.okN,SC.okN]) ?_
 simp (maxSteps:=2000000) only [go_sem,↓condS,↓reduceIte,Nat.reduceLT,Nat.reduceEqDiff,reduceCtorEq]
 refine draw_vc (by kernel_rfl) (mkTab_ok _ _) (of_decide_eq_true rfl) (of_decide_eq_true rfl) ?_
 repeat (first | simp (maxSteps:=2000000) only [go_sem,↓gateD,↓runD,↓reduceIte,Nat.reduceLT,Nat.reduceEqDiff,reduceCtorEq] | rw [dr_cons])
 refine dcall_intro (crA (i:=i) (c:=c) (m:={ m with us:=true }) (m':={ logd { m with us:=true } ⟨m.mm,m.th,2,a,0,v,0⟩ (D.wd m a) with W:=m.W.set a.toNat v }) (Nat.le_refl _) ⟨rfl,rfl,⟨_,_,rfl,Nat.le_refl _,fun _ _=>rfl⟩,⟨_,_,rfl,Nat.le_refl _,fun _ _=>rfl⟩,⟨_,_,rfl,Nat.le_refl _,fun _ _=>rfl⟩,rfl⟩ (fun E w h=>mstore_own w E { m with us:=true } i c m.th a v h0 h1 hL hA h)) rfl trivial ?_ ?_ ?_
 ·simp [wrOk,killO,aO,wrFree,wkImp]
 ·intro k hk hlt
  simp only [killO,aO,keysL,List.map_cons,List.map_nil,List.cons_append,List.nil_append,List.mem_cons,List.not_mem_nil,or_false] at hk
  have hlt:k<11:=hlt
  rcases hk with rfl | rfl | rfl | rfl | rfl | rfl | rfl | rfl <;> first | rfl | omega
 repeat (first | simp (maxSteps:=2000000) only [go_sem,↓reduceIte,Nat.reduceLT,Nat.reduceAdd,Nat.reduceEqDiff,reduceCtorEq,killO,aO,bkM,bkY,iI,logd,mkO_rs] | rw [dr_cons])
 rw [← hR,← hW]
 exact retA (p:=11) (q:=12) (m:={ logd { m with us:=true } ⟨m.mm,m.th,2,a,0,v,0⟩ (D.wd m a) with W:=m.W.set a.toNat v }) rfl (by simp) (fun E E'=>by simp [SV.den]) ⟨rfl,rfl,⟨_,_,rfl,Nat.le_refl _,fun _ _=>rfl⟩,⟨_,_,rfl,Nat.le_refl _,fun _ _=>rfl⟩,⟨_,_,rfl,Nat.le_refl _,fun _ _=>rfl⟩,rfl⟩
def ir116:IR:=(.seq (.ops [⟨(some 8),(.mv (.k (.c (.v (.bool false))))),none⟩]) (.kill [4,5,6,7,8,9,10,11] (.seq (.seq (.ops [⟨(some 12),(.mv (.t 0)),none⟩,⟨(some 13),(.mv (.t 1)),none⟩,⟨(some 14),(.call 93 [(.t 12),(.t 13)]),none⟩,⟨(some 15),(.un .not (.t 14)),none⟩]) (.kill [12,13,14] (.cond (.t 15) (.seq (.ops [⟨(some 8),(.mv (.k (.c (.v (.bool false))))),none⟩]) (.kill [0,1,2,3,15] .ret)) .skip))) (.kill [8,15] (.seq (.draw [(⟨(some 17),(.mv (.t 0)),none⟩,([],[24,25,26,27,28,29,30,31,32,33])),(⟨(some 18),(.nilck (.t 17)),none⟩,([],[24,25,26,27,28,29,30,31,32,33])),(⟨(some 19),(.fa 0 (.t 18)),none⟩,([],[24,25,26,27,28,29,30,31,32,33])),(⟨(some 20),(.ld false 1 (.t 19)),none⟩,([],[24,25,26,27,28,29,30,31,32,33])),(⟨(some 21),(.nilck (.t 20)),none⟩,([],[24,25,26,27,28,29,30,31,32,33])),(⟨(some 22),(.fa 0 (.t 21)),none⟩,([],[24,25,26,27,28,29,30,31,32,33])),(⟨(some 23),(.ld false 1 (.t 22)),none⟩,([],[24,25,26,27,28,29,30,31,32,33])),(⟨(some 24),(.mv (.t 0)),none⟩,([0,1,2,3,4,5,6],[17,18,19,20,21,22,23,31,32,33])),(⟨(some 25),(.nilck (.t 24)),none⟩,([0,1,2,3,4,5,6],[17,18,19,20,21,22,23,31,32,33])),(⟨(some 26),(.fa 0 (.t 25)),none⟩,([0,1,2,3,4,5,6],[17,18,19,20,21,22,23,31,32,33])),(⟨(some 27),(.ld false 1 (.t 26)),none⟩,([0,1,2,3,4,5,6],[17,18,19,20,21,22,23,31,32,33])),(⟨(some 28),(.nilck (.t 27)),none⟩,([0,1,2,3,4,5,6],[17,18,19,20,21,22,23,31,32,33])),(⟨(some 29),(.fa 1 (.t 28)),none⟩,([0,1,2,3,4,5,6],[17,18,19,20,21,22,23,31,32,33])),(⟨(some 30),(.ld false 1 (.t 29)),none⟩,([0,1,2,3,4,5,6],[17,18,19,20,21,22,23,31,32,33])),(⟨(some 31),(.mv (.t 1)),none⟩,([0,1,2,3,4,5,6,7,8,9,10,11,12,13],[17,18,19,20,21,22,23,24,25,26,27,28,29,30,32,33])),(⟨(some 32),(.mv (.t 2)),none⟩,([0,1,2,3,4,5,6,7,8,9,10,11,12,13,14],[17,18,19,20,21,22,23,24,25,26,27,28,29,30,31,33])),(⟨(some 33),(.mv (.t 3)),none⟩,([0,1,2,3,4,5,6,7,8,9,10,11,12,13,14,15],[17,18,19,20,21,22,23,24,25,26,27,28,29,30,31,32])),(⟨(some 34),(.call 117 [(.t 23),(.t 30),(.t 31),(.t 32),(.t 33)]),none⟩,([],[])),(⟨(some 16),(.mv (.t 34)),none⟩,([],[])),(⟨(some 35),(.ext 0 (.t 16)),none⟩,([],[36,37])),(⟨(some 36),(.ext 1 (.t 16)),none⟩,([19],[35,37,9])),(⟨(some 37),(.ext 2 (.t 16)),none⟩,([19,20],[35,36,9,10])),(⟨(some 9),(.mv (.t 35)),none⟩,([20,21],[36,37])),(⟨(some 10),(.mv (.t 36)),none⟩,([21],[37])),(⟨(some 11),(.mv (.t 37)),none⟩,([],[]))]) (.kill [0,1,2,3,9,11,16,17,18,19,20,21,22,23,24,25,26,27,28,29,30,31,32,33,34,35,36,37] (.seq (.ops [⟨(some 38),(.mv (.t 10)),none⟩,⟨(some 8),(.mv (.t 38)),none⟩]) (.kill [10,38] .ret))))))))
def rs116:List RS:=[(.t 8)]
def nt116:Nat:=39
set_option maxRecDepth 100000 in
set_option maxHeartbeats 1000000 in
theorem dswap_yes (w:World) (E:Env) (m:D.Pm) (i c:Nat) (a o v:Int) (ho:D.wd m a=o) (hu:m.us=false) (h0:0≤a) (h1:a<m.W.length) (hL:m.L.length≤65536) (hA:m.A.length≤65536) (h:Handed w E 11 (aO nz0 i c m) []) :
  Calls Try.prog 116 (([.c (.ptr (10,0,0) 0),.c (iI a),.c (.v (.int .u64 o)),.c (.v (.int .u64 v))]:List SV).map (SV.den E)).toArray w (EffR w E 11 (takesO E (aO nz0 i c m)) (.c (.v (.bool (D.swap m a o v).2))) 2 fun b=>killO [3,4]++aO ⟨b,b+1,6,7⟩ i c (D.swap m a o v).1):=by
 refine enterO (c:=ir116) (rs:=rs116) (nt:=nt116) h _ Try.func116 rfl (by kernel_rfl) (by kernel_rfl) rfl (by simp [okVs,SV.okN,SC.okN,iI]) (of_decide_eq_true rfl) ?_
 rw [D.sw_ok hu h0 h1,if_pos ho]
 generalize hR:EffR w E 11 (takesO E (aO nz0 i c m)) _ 2 _=R
 generalize hW:takesO E (aO nz0 i c m)=W
 have hlt0:decide (a<0)=false:=decide_eq_false (by omega)
 have hge:decide (a≥(m.W.length:Int))=false:=decide_eq_false (by omega)
 simp (maxSteps:=2000000) only [ir116,nt116,rs116,go_sem,↓runOp,↓reduceIte,Nat.reduceLT,Nat.reduceAdd,Nat.reduceEqDiff,reduceCtorEq,aO,nz0,bkM,bkY,iI,hu]
 refine call_inline (c:=ir93) (rs:=rs93) (nt:=nt93) 1000 (mkTab_ok _ _) Try.func93 rfl (by kernel_rfl) (by kernel_rfl) rfl (by simp [okVs,SV.okN,SC.okN]) (of_decide_eq_true rfl) (fun E0 a0 ht0=>?_)
 simp (maxSteps:=2000000) only [ir93,nt93,rs93,go_sem,↓gateS,↓runOp,↓imp_tt,↓reduceIte,Nat.reduceLT,Nat.reduceEqDiff,reduceCtorEq,hlt0]
 refine fork_in rfl (by simp [resAP,resA1,gB]) ?_
 simp (maxSteps:=2000000) only [go_sem,↓runOp,↓reduceIte,Nat.reduceEqDiff,reduceCtorEq]
 refine call_inline (c:=ir99) (rs:=rs99) (nt:=nt99) 1000 (mkTab_ok _ _) Try.func99 rfl (by kernel_rfl) (by kernel_rfl) rfl (by simp [okVs,SV.okN,SC.okN]) (of_decide_eq_true rfl) (fun E1 a1 ht1=>?_)
 simp (maxSteps:=2000000) only [ir99,nt99,rs99,go_sem,↓condS,↓runOp,↓reduceIte,Nat.reduceLT,Nat.reduceEqDiff,reduceCtorEq]
 refine retI ht1 _ rfl (of_decide_eq_true rfl) (by simp [SV.okN,SC.okN]) ?_
 simp (maxSteps:=2000000) only [go_sem,↓condS,↓gateS,↓runOp,↓imp_ft,↓imp_ff,↓reduceIte,Nat.reduceLT,Nat.reduceLeDiff,Nat.reduceAdd,Nat.reduceEqDiff,reduceCtorEq,hge]
 refine retI ht0 _ rfl (of_decide_eq_true rfl) (by simp [SV.okN,SC.okN]) ?_
 simp (maxSteps:=2000000) only [go_sem,↓condS,↓runOp,↓reduceIte,Nat.reduceLT,Nat.reduceEqDiff,reduceCtorEq]
 refine draw_vc (by kernel_rfl) (mkTab_ok _ _) (of_decide_eq_true rfl) (of_decide_eq_true rfl) ?_
 repeat (first | simp (maxSteps:=2000000) only [go_sem,↓gateD,↓runD,↓reduceIte,Nat.reduceLT,Nat.reduceEqDiff,reduceCtorEq] | rw [dr_cons])
 refine dcall_intro (crA (i:=i) (c:=c) (m:={ m with us:=true }) (m':={ logd { m with us:=true } ⟨m.mm,m.th,3,a,o,v,D.wd m a⟩ (D.wd m a) with W:=m.W.set a.toNat v }) (Nat.le_refl _) ⟨rfl,rfl,⟨_,_,rfl,Nat.le_refl _,fun _ _=>rfl⟩,⟨_,_,rfl,Nat.le_refl _,fun _ _=>rfl⟩,⟨_,_,rfl,Nat.le_refl _,fun _ _=>rfl⟩,rfl⟩ (fun E w h=>mswap_yes w E { m with us:=true } i c m.th a o v ho h0 h1 hL hA h)) rfl trivial ?_ ?_ ?_
 ·simp [wrOk,killO,aO,wrFree,wkImp]
 ·intro k hk hlt
  simp only [killO,aO,keysL,List.map_cons,List.map_nil,List.cons_append,List.nil_append,List.mem_cons,List.not_mem_nil,or_false] at hk
  have hlt:k<11:=hlt
  rcases hk with rfl | rfl | rfl | rfl | rfl | rfl | rfl | rfl <;> first | rfl | omega
 repeat (first | simp (maxSteps:=2000000) only [go_sem,↓runOp,↓gateD,↓runD,↓reduceIte,Nat.reduceLT,Nat.reduceAdd,Nat.reduceEqDiff,reduceCtorEq,killO,aO,bkM,bkY,iI,logd,mkO_rs] | rw [dr_cons])
 rw [← hR,← hW]
 exact retA (p:=11) (q:=12) (m:={ logd { m with us:=true } ⟨m.mm,m.th,3,a,o,v,D.wd m a⟩ (D.wd m a) with W:=m.W.set a.toNat v }) rfl (by simp) (fun E E'=>by simp [SV.den,SC.den]) ⟨rfl,rfl,⟨_,_,rfl,Nat.le_refl _,fun _ _=>rfl⟩,⟨_,_,rfl,Nat.le_refl _,fun _ _=>rfl⟩,⟨_,_,rfl,Nat.le_refl _,fun _ _=>rfl⟩,rfl⟩
set_option maxRecDepth 100000 in
set_option maxHeartbeats 1000000 in
theorem dswap_no (w:World) (E:Env) (m:D.Pm) (i c:Nat) (a o v:Int) (ho:D.wd m a≠o) (hu:m.us=false) (h0:0≤a) (h1:a<m.W.length) (hL:m.L.length≤65536) (hA:m.A.length≤65536) (h:Handed w E 11 (aO nz0 i c m) []) :
  Calls Try.prog 116 (([.c (.ptr (10,0,0) 0),.c (iI a),.c (.v (.int .u64 o)),.c (.v (.int .u64 v))]:List SV).map (SV.den E)).toArray w (EffR w E 11 (takesO E (aO nz0 i c m)) (.c (.v (.bool (D.swap m a o v).2))) 2 fun b=>killO [3,4]++aO ⟨b,b+1,6,7⟩ i c (D.swap m a o v).1):=by
 refine enterO (c:=ir116) (rs:=rs116) (nt:=nt116) h _ Try.func116 rfl (by kernel_rfl) (by kernel_rfl) rfl (by simp [okVs,SV.okN,SC.okN,iI]) (of_decide_eq_true rfl) ?_
 rw [D.sw_ok hu h0 h1,if_neg ho]
 generalize hR:EffR w E 11 (takesO E (aO nz0 i c m)) _ 2 _=R
 generalize hW:takesO E (aO nz0 i c m)=W
 have hlt0:decide (a<0)=false:=decide_eq_false (by omega)
 have hge:decide (a≥(m.W.length:Int))=false:=decide_eq_false (by omega)
 simp (maxSteps:=2000000) only [ir116,nt116,rs116,go_sem,↓runOp,↓reduceIte,Nat.reduceLT,Nat.reduceAdd,Nat.reduceEqDiff,reduceCtorEq,aO,nz0,bkM,bkY,iI,hu]
 refine call_inline (c:=ir93) (rs:=rs93) (nt:=nt93) 1000 (mkTab_ok _ _) Try.func93 rfl (by kernel_rfl) (by kernel_rfl) rfl (by simp [okVs,SV.okN,SC.okN]) (of_decide_eq_true rfl) (fun E0 a0 ht0=>?_)
 simp (maxSteps:=2000000) only [ir93,nt93,rs93,go_sem,↓gateS,↓runOp,↓imp_tt,↓reduceIte,Nat.reduceLT,Nat.reduceEqDiff,reduceCtorEq,hlt0]
 refine fork_in rfl (by simp [resAP,resA1,gB]) ?_
 simp (maxSteps:=2000000) only [go_sem,↓runOp,↓reduceIte,Nat.reduceEqDiff,reduceCtorEq]
 refine call_inline (c:=ir99) (rs:=rs99) (nt:=nt99) 1000 (mkTab_ok _ _) Try.func99 rfl (by kernel_rfl) (by kernel_rfl) rfl (by simp [okVs,SV.okN,SC.okN]) (of_decide_eq_true rfl) (fun E1 a1 ht1=>?_)
 simp (maxSteps:=2000000) only [ir99,nt99,rs99,go_sem,↓condS,↓runOp,↓reduceIte,Nat.reduceLT,Nat.reduceEqDiff,reduceCtorEq]
 refine retI ht1 _ rfl (of_decide_eq_true rfl) (by simp [SV.okN,SC.okN]) ?_
 simp (maxSteps:=2000000) only [go_sem,↓condS,↓gateS,↓runOp,↓imp_ft,↓imp_ff,↓reduceIte,Nat.reduceLT,Nat.reduceLeDiff,Nat.reduceAdd,Nat.reduceEqDiff,reduceCtorEq,hge]
 refine retI ht0 _ rfl (of_decide_eq_true rfl) (by simp [SV.okN,SC.okN]) ?_
 simp (maxSteps:=2000000) only [go_sem,↓condS,↓runOp,↓reduceIte,Nat.reduceLT,Nat.reduceEqDiff,reduceCtorEq]
 refine draw_vc (by kernel_rfl) (mkTab_ok _ _) (of_decide_eq_true rfl) (of_decide_eq_true rfl) ?_
 repeat (first | simp (maxSteps:=2000000) only [go_sem,↓gateD,↓runD,↓reduceIte,Nat.reduceLT,Nat.reduceEqDiff,reduceCtorEq] | rw [dr_cons])
 refine dcall_intro (crA (i:=i) (c:=c) (m:={ m with us:=true }) (m':=logd { m with us:=true } ⟨m.mm,m.th,3,a,o,v,D.wd m a⟩ (D.wd m a)) (Nat.le_refl _) ⟨rfl,rfl,⟨_,_,rfl,Nat.le_refl _,fun _ _=>rfl⟩,⟨_,_,rfl,Nat.le_refl _,fun _ _=>rfl⟩,⟨_,_,rfl,Nat.le_refl _,fun _ _=>rfl⟩,rfl⟩ (fun E w h=>mswap_no w E { m with us:=true } i c m.th a o v ho h0 h1 hL hA h)) rfl trivial ?_ ?_ ?_
 ·simp [wrOk,killO,aO,wrFree,wkImp]
 ·intro k hk hlt
  simp only [killO,aO,keysL,List.map_cons,List.map_nil,List.cons_append,List.nil_append,List.mem_cons,List.not_mem_nil,or_false] at hk
  have hlt:k<11:=hlt
  rcases hk with rfl | rfl | rfl | rfl | rfl | rfl | rfl | rfl <;> first | rfl | omega
 repeat (first | simp (maxSteps:=2000000) only [go_sem,↓runOp,↓gateD,↓runD,↓reduceIte,Nat.reduceLT,Nat.reduceAdd,Nat.reduceEqDiff,reduceCtorEq,killO,aO,bkM,bkY,iI,logd,mkO_rs] | rw [dr_cons])
 rw [← hR,← hW]
 exact retA (p:=11) (q:=12) (m:=logd { m with us:=true } ⟨m.mm,m.th,3,a,o,v,D.wd m a⟩ (D.wd m a)) rfl (by simp) (fun E E'=>by simp [SV.den,SC.den]) ⟨rfl,rfl,⟨_,_,rfl,Nat.le_refl _,fun _ _=>rfl⟩,⟨_,_,rfl,Nat.le_refl _,fun _ _=>rfl⟩,⟨_,_,rfl,Nat.le_refl _,fun _ _=>rfl⟩,rfl⟩
end Go.Proofs.Ytcloeignccpljaa.Z
namespace Go.Proofs.Ytcloeignccpljaa.Z
open Go Go.RowKit
def tskM (m:D.Pm) (i:Nat) (r:D.Pm×D.Tk×Bool):D.Pm:=D.setTk r.1 i (some r.2.1)
structure AtT (m:D.Pm) (i c:Nat) (k:D.Tk):Prop where
 us:m.us=false
 hi:i<m.S.length
 tk:(m.S.getD i D.se0).tk=some k
 la:(m.S.getD i D.se0).la=c
 hc:c<m.C.length
 wl:2≤m.W.length
 hL:m.L.length≤65536
 hA:m.A.length≤65536
theorem AtT.f {m:D.Pm} {i c:Nat} {k:D.Tk} (h:AtT m i c k):tkF 7 m.S i = .bk (tkC (.ptr (7,i,0) 0) k) (tkTy k.kd):=by
 unfold tkF;rw [h.tk];rfl
theorem seC_tk {t i:Nat} {S:List D.Se} {k k' : D.Tk} (hi:i<S.length) (hk:(S.getD i D.se0).tk=some k) (hkd:k'.kd=k.kd) (e:Nat):seC t S e=seC t (S.set i { S.getD i D.se0 with tk:=some k' }) e:=by
 unfold seC
 rw [D.set_getD _ _ _ _ _ hi]
 by_cases q:i=e
 ·subst q
  rw [if_pos rfl,hk]
  simp only [taskI,hkd]
 ·rw [if_neg q]
theorem tkF_tk {t i:Nat} {S:List D.Se} {k' : D.Tk} (hi:i<S.length) (e:Nat):(if e=i then .bk (tkC (.ptr (t,i,0) 0) k') (tkTy k'.kd) else tkF t S e)=tkF t (S.set i { S.getD i D.se0 with tk:=some k' }) e:=by
 unfold tkF
 rw [D.set_getD _ _ _ _ _ hi]
 by_cases q:i=e
 ·subst q
  rw [if_pos rfl,if_pos rfl];rfl
 ·rw [if_neg q,if_neg (fun h=>q h.symm)]
theorem lt11 {n:Nat} (h:11≤n):∀ i∈List.range 11,i<n:=fun i hi=>Nat.lt_of_lt_of_le (List.mem_range.1 hi) h
theorem dload_at {w:World} {E:Env} {m:D.Pm} {i c:Nat} {k:D.Tk} (ht:AtT m i c k) {a:Int} (h0:0≤a) (h1:a<m.W.length) (h:Handed w E 11 (aO nz0 i c m) []) :
  Calls Try.prog 91 (([.c (.ptr (10,0,0) 0),.c (iI a)]:List SV).map (SV.den E)).toArray w (EffR w E 11 (takesO E (aO nz0 i c m)) (.c (.v (.int .u64 (D.wd m a)))) 2 fun b=>killO [3,4]++aO ⟨b,b+1,6,7⟩ i c (logd { m with us:=true } ⟨m.mm,m.th,1,a,0,0,D.wd m a⟩ (D.wd m a))):=by
 have:=dload_own w E m i c a ht.us h0 h1 ht.hL ht.hA h
 rw [D.ld_ok ht.us h0 h1] at this
 exact this
theorem ain0 {own:Own} {i c:Nat} {m:D.Pm} (h0:look own 0=some (.one (.bk (bkM nz0 (.pe (6,0,0) 9 c 0) (.pe (5,0,0) 5 i 3) m) 113))) (h1:look own 1=some (.one (.bk (bkY nz0 m) 140))) (h2:look own 2=some (.one (.ar m.W.length 1 (ats eU m.W 0) 44))) (h3:look own 3=some (.one (.ar m.L.length 7 (ats D.Ac.enc m.L D.ac0) 47))) (h4:look own 4=some (.one (.ar m.A.length 1 (ats eU m.A 0) 44)))
  (h10:look own 10=some (.one (.bk [.ptr (0,0,0) 0] 137))):AIn own nz0 i c m :=
 ⟨h0,h1,⟨_,_,h2,Nat.le_refl _,fun _ _=>rfl⟩,⟨_,_,h3,Nat.le_refl _,fun _ _=>rfl⟩,⟨_,_,h4,Nat.le_refl _,fun _ _=>rfl⟩,h10⟩
theorem retT {P:Program} {w:World} {E:Env} {W:Nat→Prop} {rs:List RS} {v:SV} {S2:St} {i c p q:Nat} {m r:D.Pm} {k k' : D.Tk} {over:Bool} (ht:AtT m i c k) (hkd:k'.kd=k.kd) (hS:r.S=m.S) (hpq:pqOk p q=true) (hf:AgF 11 E∈S2.facts) (hu:∀ E,v.den E = .bool over)
  (h0:look S2.own 0=some (.one (.bk (bkM ⟨p,q,6,7⟩ (.pe (6,0,0) 9 c 0) (.pe (5,0,0) 5 i 3) r) 113))) (h1:look S2.own 1=some (.one (.bk (bkY ⟨p,q,6,7⟩ r) 140)))
  (h2:∃ n g,look S2.own 2=some (.one (.ar n 1 g 44))∧r.W.length≤n∧∀ e,e<r.W.length→g e=ats eU r.W 0 e) (h3:look S2.own p=some (.one (.ar r.L.length 7 (ats D.Ac.enc r.L D.ac0) 47))) (h4:look S2.own q=some (.one (.ar r.A.length 1 (ats eU r.A 0) 44)))
  (h5:look S2.own 5=some (.one (.ar m.S.length 5 (seC 7 m.S) 116))) (h6:∃ n g,look S2.own 6=some (.one (.ar n 9 g 77))∧r.C.length≤n∧∀ e,e<r.C.length→g e=ats D.Ca.enc r.C D.ca0 e)
  (h7:∃ g,look S2.own 7=some (.fam m.S.length g)∧∀ x,g x=if x=i then .bk (tkC (.ptr (7,i,0) 0) k') (tkTy k'.kd) else tkF 7 m.S x) (h9:look S2.own 9=some (.one (.bk (hubC r) 88))) (h10:look S2.own 10=some (.one (.bk [.ptr (0,0,0) 0] 137))) :
  RetVC (mkO P w W rs (EffR w E 11 W (.c (.v (.bool over))) 2 fun b=>killO [3,4]++dO ⟨b,b+1,6,7⟩ i c (tskM m i (r,k',over)))) v S2:=by
 have eS:(tskM m i (r,k',over)).S=m.S.set i { m.S.getD i D.se0 with tk:=some k' }:=by simp only [tskM,D.setTk,hS]
 have eL:(tskM m i (r,k',over)).S.length=r.S.length:=by rw [eS,List.length_set,hS]
 obtain ⟨g,g1,g2⟩:=h7
 refine retD hpq hf (fun E E'=>(hu E).trans rfl) ⟨?_,h1,h2,⟨_,_,h3,Nat.le_refl _,fun _ _=>rfl⟩,⟨_,_,h4,Nat.le_refl _,fun _ _=>rfl⟩,⟨_,_,h5,?_,fun e _=>?_⟩,h6,⟨_,_,g1,?_,fun x _=>?_⟩,h9,h10⟩
 ·rw [h0]
  simp only [bkM,eL]
  rfl
 ·rw [eS,List.length_set];exact Nat.le_refl _
 ·rw [eS];exact seC_tk ht.hi ht.tk hkd e
 ·rw [eS,List.length_set];exact Nat.le_refl _
 ·rw [g2,eS];exact tkF_tk ht.hi x
def ir88:IR:=(.seq (.ops [⟨(some 4),(.mv (.k (.c (.v (.bool false))))),none⟩]) (.kill [2,3,4,5,6,7,8,9,10,11] (.seq (.ops [⟨(some 5),(.mv (.t 0)),none⟩,⟨(some 6),(.nilck (.t 5)),none⟩,⟨(some 7),(.fa 1 (.t 6)),none⟩,⟨(some 8),(.ld false 1 (.t 7)),none⟩,⟨(some 9),(.mv (.t 1)),none⟩,⟨(some 10),(.callv (.t 8) [(.t 9)]),none⟩,⟨(some 4),(.mv (.t 10)),none⟩]) (.kill [0,1,5,6,7,8,9,10] .ret))))
def rs88:List RS:=[(.t 4)]
def nt88:Nat:=11
def ir90:IR:=(.seq (.ops [⟨(some 4),(.mv (.k (.c (.v (.bool false))))),none⟩]) (.kill [2,3,4,5,6,7,8,9,10,11] (.seq (.ops [⟨(some 5),(.mv (.t 0)),none⟩,⟨(some 6),(.mv (.t 1)),none⟩,⟨(some 7),(.call 91 [(.t 6),(.k (.c (.v (.int .i64 1))))]),none⟩,⟨(some 8),(.call 32 [(.t 7)]),none⟩,⟨(some 9),(.nilck (.t 5)),none⟩,⟨(some 10),(.fa 0 (.t 9)),none⟩,⟨(some 11),(.fa 2 (.t 10)),none⟩,⟨none,(.st 1 (.t 11) (.t 8)),none⟩]) (.kill [1,5,6,7,8,9,10,11] (.seq (.ops [⟨(some 12),(.mv (.t 0)),none⟩,⟨(some 13),(.mv (.t 0)),none⟩,⟨(some 14),(.mfn (.func 92) [(.t 13)] []),none⟩,⟨(some 15),(.nilck (.t 12)),none⟩,⟨(some 16),(.fa 0 (.t 15)),none⟩,⟨(some 17),(.fa 1 (.t 16)),none⟩,⟨none,(.st 1 (.t 17) (.t 14)),none⟩]) (.kill [0,12,13,14,15,16,17] (.seq (.ops [⟨(some 4),(.mv (.k (.c (.v (.bool false))))),none⟩]) .ret)))))))
def rs90:List RS:=[(.t 4)]
def nt90:Nat:=18
def ir32:IR:=(.seq (.ops [⟨(some 2),(.mv (.k (.c (.v (.int .i64 0))))),none⟩]) (.kill [1,2,3,4,5,6,7,8,9,10,11] (.seq (.ops [⟨(some 3),(.mv (.t 0)),none⟩,⟨(some 4),(.conv .i64 (.t 3)),none⟩,⟨(some 2),(.mv (.t 4)),none⟩]) (.kill [0,3,4] .ret))))
def rs32:List RS:=[(.t 2)]
def nt32:Nat:=5
set_option maxRecDepth 100000 in
set_option maxHeartbeats 1000000 in
theorem push1_own (w:World) (E:Env) (m:D.Pm) (i c:Nat) (b t v:Int) (got:Bool) (ht:AtT m i c ⟨0,1,b,t,v,got⟩) (h:Handed w E 11 (dO nz0 i c m) []) :
  Calls Try.prog 88 (([.c (.ptr (7,i,0) 0),.c (.ptr (10,0,0) 0)]:List SV).map (SV.den E)).toArray w (EffR w E 11 (takesO E (dO nz0 i c m)) (.c (.v (.bool (D.taskT m i ⟨0,1,b,t,v,got⟩).2.2))) 2 fun b'=>killO [3,4]++dO ⟨b',b' + 1,6,7⟩ i c (tskM m i (D.taskT m i ⟨0,1,b,t,v,got⟩))):=by
 refine enterO (c:=ir88) (rs:=rs88) (nt:=nt88) h _ Try.func88 rfl (by kernel_rfl) (by kernel_rfl) rfl (by simp [okVs,SV.okN,SC.okN]) (of_decide_eq_true rfl) ?_
 have heq:D.taskT m i ⟨0,1,b,t,v,got⟩=(logd { m with us:=true } ⟨m.mm,m.th,1,1,0,0,D.wd m 1⟩ (D.wd m 1),⟨0,2,D.i64 (D.wd m 1),t,v,got⟩,false):=by
  have:=ht.wl
  simp only [D.taskT,D.pushT,if_true]
  rw [D.ld_ok ht.us (by decide) (by omega)];rfl
 rw [heq]
 generalize hR:EffR w E 11 (takesO E (dO nz0 i c m)) _ 2 _=R
 generalize hW:takesO E (dO nz0 i c m)=W
 have hf:=ht.f
 simp only [tkC,nextC,tkTy] at hf
 have hi:=ht.hi
 simp (maxSteps:=2000000) only [ir88,nt88,rs88,go_sem,↓runOp,↓reduceIte,Nat.reduceLT,Nat.reduceEqDiff,reduceCtorEq,dO,mO,nz0,bkM,bkY,hubC,iI,hf]
 refine And.intro hi (And.intro ⟨_,Try.func90,by kernel_rfl,by kernel_rfl⟩ ?_)
 refine call_inline (c:=ir90) (rs:=rs90) (nt:=nt90) 1000 (mkTab_ok _ _) Try.func90 rfl (by kernel_rfl) (by kernel_rfl) rfl (by simp [okVs,SV.okN,SC.okN]) (of_decide_eq_true rfl) (fun E0 a0 ht0=>?_)
 simp (maxSteps:=2000000) only [ir90,nt90,rs90,go_sem,↓runOp,↓reduceIte,Nat.reduceLT,Nat.reduceEqDiff,reduceCtorEq]
 refine call_intro (crA (i:=i) (c:=c) (m:=m) (m':=logd { m with us:=true } ⟨m.mm,m.th,1,1,0,0,D.wd m 1⟩ (D.wd m 1)) (Nat.le_refl _) (ain0 rfl rfl rfl rfl rfl rfl) (fun E w h=>dload_at ht (by decide) (by have:=ht.wl;omega) h)) (lt11 (Nat.le_refl _)) ?_
 simp (maxSteps:=2000000) only [go_sem,↓runOp,↓reduceIte,Nat.reduceLT,Nat.reduceAdd,Nat.reduceEqDiff,reduceCtorEq,killO,aO,bkM,bkY,iI,logd]
 refine call_inline (c:=ir32) (rs:=rs32) (nt:=nt32) 1000 (mkTab_ok _ _) Try.func32 rfl (by kernel_rfl) (by kernel_rfl) rfl (by simp [okVs,SV.okN,SC.okN]) (of_decide_eq_true rfl) (fun E1 a1 ht1=>?_)
 simp (maxSteps:=2000000) only [ir32,nt32,rs32,go_sem,↓runOp,↓reduceIte,Nat.reduceLT,Nat.reduceEqDiff,reduceCtorEq]
 refine retI ht1 _ rfl (of_decide_eq_true rfl) (by simp [SV.okN,SC.okN]) ?_
 simp (maxSteps:=2000000) only [go_sem,↓runOp,↓reduceIte,Nat.reduceLT,Nat.reduceLeDiff,Nat.reduceAdd,Nat.reduceEqDiff,reduceCtorEq,hf]
 refine And.intro hi (And.intro hi ?_)
 refine retI ht0 _ rfl (of_decide_eq_true rfl) (by simp [SV.okN,SC.okN]) ?_
 simp (maxSteps:=2000000) only [go_sem,↓runOp,↓reduceIte,Nat.reduceLT,Nat.reduceEqDiff,reduceCtorEq,mkO_rs]
 rw [← hR,← hW]
 exact retT (p:=11) (q:=12) ht rfl rfl rfl (by simp) (fun E=>rfl) rfl rfl ⟨_,_,rfl,Nat.le_refl _,fun _ _=>rfl⟩ rfl rfl rfl ⟨_,_,rfl,Nat.le_refl _,fun _ _=>rfl⟩ ⟨_,rfl,fun x=>by by_cases q:x=i <;> simp [q,tkC,nextC,tkTy,iI,D.i64]⟩ rfl rfl
end Go.Proofs.Ytcloeignccpljaa.Z
namespace Go.Proofs.Ytcloeignccpljaa.Z
open Go Go.RowKit
def ir89:IR:=(.seq (.ops [⟨(some 4),(.mv (.k (.c (.v (.int .i64 0))))),none⟩]) (.kill [2,3,4,5,6,7,8,9,10,11] (.seq (.ops [⟨(some 5),(.mv (.t 1)),none⟩,⟨(some 6),(.mv (.t 0)),none⟩,⟨(some 7),(.nilck (.t 6)),none⟩,⟨(some 8),(.fa 0 (.t 7)),none⟩,⟨(some 9),(.ld false 1 (.t 8)),none⟩,⟨(some 10),(.nilck (.t 9)),none⟩,⟨(some 11),(.fa 0 (.t 10)),none⟩,⟨(some 12),(.ld false 1 (.t 11)),none⟩,⟨(some 13),(.bin .rem (.t 5) (.t 12)),none⟩,⟨(some 14),(.bin .add (.k (.c (.v (.int .i64 2)))) (.t 13)),none⟩,⟨(some 4),(.mv (.t 14)),none⟩]) (.kill [0,1,5,6,7,8,9,10,11,12,13,14] .ret))))
def rs89:List RS:=[(.t 4)]
def nt89:Nat:=15
def ir104:IR:=(.seq (.ops [⟨(some 2),(.mv (.k (.c (.v (.int .u64 0))))),none⟩]) (.kill [1,2,3,4,5,6,7,8,9,10,11] (.seq (.ops [⟨(some 3),(.mv (.t 0)),none⟩,⟨(some 4),(.conv .u64 (.t 3)),none⟩,⟨(some 2),(.mv (.t 4)),none⟩]) (.kill [0,3,4] .ret))))
def rs104:List RS:=[(.t 2)]
def nt104:Nat:=5
set_option maxRecDepth 100000 in
theorem value_calls (w:World) (x:Int):Calls Try.prog 32 #[.int .u64 x] w (RetV w (.int .i64 (D.i64 x))):=by
 refine enter0 (A:=[]) (c:=ir32) (rs:=rs32) (nt:=nt32) [.c (.v (.int .u64 x))] _ Try.func32 rfl (by kernel_rfl) (by kernel_rfl) rfl (fun E=>by simp [SV.den,SC.den]) (of_decide_eq_true rfl) ?_
 simp (maxSteps:=2000000) only [ir32,nt32,rs32,go_sem,↓runOp,↓reduceIte,Nat.reduceLT,Nat.reduceEqDiff,reduceCtorEq]
 exact retV fun E=>rfl
set_option maxRecDepth 100000 in
theorem number_calls (w:World) (x:Int):Calls Try.prog 104 #[.int .i64 x] w (RetV w (.int .u64 (D.u64 x))):=by
 refine enter0 (A:=[]) (c:=ir104) (rs:=rs104) (nt:=nt104) [.c (.v (.int .i64 x))] _ Try.func104 rfl (by kernel_rfl) (by kernel_rfl) rfl (fun E=>by simp [SV.den,SC.den]) (of_decide_eq_true rfl) ?_
 simp (maxSteps:=2000000) only [ir104,nt104,rs104,go_sem,↓runOp,↓reduceIte,Nat.reduceLT,Nat.reduceEqDiff,reduceCtorEq]
 exact retV fun E=>rfl
def E2P (p q:Nat):Env:=⟨fun _=>0,fun _=>0,fun _=>false,fun x=>if x.1=0 then .slice (some ⟨p,0,none⟩) 1 1 else if x.1=1 then .slice (some ⟨q,0,none⟩) 1 1 else .bool true⟩
theorem arr_cellsB {w:World} {E:Env} {x:Nm} {p n ty:Nat} {cs:List SC} (hχ:E.χ x = .slice (some ⟨p,0,none⟩) 1 1) (hp:w.heap[p]? = some (.cells (cs.map (SC.den E)).toArray ty (0,0))) (hn:cs.length=n) (h1:∀ u∈cs,(u.den E).oneCell' = true):ArrAt E w x ⟨1,n,fun _=>cs,0⟩:=by
 refine ⟨_,1,hχ,Nat.le_refl _,by simp [maxLen],Or.inr ⟨p,0,rfl,Nat.zero_le _,fun k hk=>⟨hn,fun j u hu=>?_⟩⟩⟩
 have hk0:k=0:=by simp only at hk;omega
 subst hk0
 have hu:cs[j]? = some u:=hu
 refine ⟨?_,h1 _ (List.mem_of_getElem? hu)⟩
 unfold World.cell?
 simp [hp,hu]
set_option maxRecDepth 100000 in
set_option maxHeartbeats 1000000 in
theorem cell_calls (w:World) (p q:Nat) (rest hs:List Value) (room i:Int) (ty1 ty2:Nat) (hp:w.heap[p]? = some (.cells (.pointer (some ⟨q,0,none⟩) :: rest).toArray ty1 (0,0))) (hq:w.heap[q]? = some (.cells (.int .i64 room :: hs).toArray ty2 (0,0)))
  (hr:room≠0) (h1:∀ u∈rest,u.oneCell' = true) (h2:∀ u∈hs,u.oneCell' = true):Calls Try.prog 89 #[.pointer (some ⟨p,0,none⟩),.int .i64 i] w (RetV w (.int .i64 (D.i64 (2+i.tmod room)))):=by
 have hk:∀ E' : Env,AgreeD (· < 2) (E2P p q) E'→E'.χ (0,0,0) = .slice (some ⟨p,0,none⟩) 1 1∧E'.χ (1,0,0) = .slice (some ⟨q,0,none⟩) 1 1:=fun E' hE'=>by
  refine ⟨?_,?_⟩
  ·have:=(hE' (0,0,0) (show 0<2 by decide)).2.2.2;simpa [E2P] using this
  ·have:=(hE' (1,0,0) (show 1<2 by decide)).2.2.2;simpa [E2P] using this
 refine calls_sym (c:=ir89) (C:=mkC Try.prog [] w rs89 (RetV w (.int .i64 (D.i64 (2+i.tmod room))))) 1000 [.c (.ep (0,0,0) (rest.length+1) 0 0),.c (iI i)] (E2P p q) [] [(0,.one ⟨1,rest.length+1,fun _=>.ep (1,0,0) (hs.length+1) 0 0 :: rest.map .v,0⟩),(1,.one ⟨1,hs.length+1,fun _=>iI room :: hs.map .v,0⟩)] [] 2 nt89 _ (mkTab_ok _ _) Try.func89 rfl (by kernel_rfl) (by kernel_rfl) rfl rfl rfl (fun x=>?_) (fun E' hE'=>?_) (of_decide_eq_true rfl) (fun E' hE'=>inOk_arrs fun w' hw' x A' hA'=>?_) ?_
 ·simp only [E2P]
  split
  ·rfl
  ·split <;> rfl
 ·obtain ⟨k0,k1⟩:=hk E' hE'
  simp [SV.den,SC.den,iI,k0]
 ·obtain ⟨k0,k1⟩:=hk E' hE'
  rcases atN_one hA' with ⟨rfl,rfl⟩ | hA'
  ·refine arr_cellsB k0 (ty:=ty1) ?_ (by simp) ?_
   ·rw [hw' p (Array.getElem?_eq_some_iff.1 hp).1,hp]
    simp [SC.den,k1,List.map_map,Function.comp_def]
   ·intro u hu
    rcases List.mem_cons.1 hu with rfl | hu
    ·simp [SC.den,k1,Value.oneCell']
    ·obtain ⟨v,hv,rfl⟩:=List.mem_map.1 hu
     rw [den_v];exact h1 v hv
  rcases atN_one hA' with ⟨rfl,rfl⟩ | hA'
  ·refine arr_cellsB k1 (ty:=ty2) ?_ (by simp) ?_
   ·rw [hw' q (Array.getElem?_eq_some_iff.1 hq).1,hq]
    simp [SC.den,iI,List.map_map,Function.comp_def]
   ·intro u hu
    rcases List.mem_cons.1 hu with rfl | hu
    ·simp [SC.den,iI,Value.oneCell']
    ·obtain ⟨v,hv,rfl⟩:=List.mem_map.1 hu
     rw [den_v];exact h2 v hv
  exact (atN_nil hA').elim
 simp (maxSteps:=2000000) only [ir89,nt89,rs89,go_sem,↓runOp,↓reduceIte,Nat.reduceLT,Nat.reduceEqDiff,reduceCtorEq,iI]
 exact And.intro hr (retV fun E=>by simp [SV.den,SC.den,D.i64])
theorem heap_bk {C:Ctx} {E:Env} {S:St} {a:Act} {w:World} (hs:Sat C.B C.W C.w0 E S a w) {x:Nm} {cs:List SC} {ty:Nat} {p:Prop} (h:pkN S.own x=some (p,.bk cs ty)) (hp:p):w.heap[E.ρ x]? = some (.cells (cs.map (SC.den E)).toArray ty (0,0)):=by
 obtain ⟨H,hH,_⟩:=hs.mem
 have h1:=hH.den x _ (pkN_at h hp)
 simp only [Blk.den] at h1
 exact (hH.sub x _ (pkN_at h hp) (E.ρ x) _ (by rw [h1];simp [sing])).1
theorem cell_at {C:Ctx} {E:Env} {S:St} {a:Act} {w:World} (hs:Sat C.B C.W C.w0 E S a w) {x:Nm} {cs:List SC} {ty:Nat} {p:Prop} {room:Int} {l1 l2 l3 l4:SC} (h:pkN S.own x=some (p,.bk (.ptr (9,0,0) 0 :: cs) ty)) (hp:p) (h9:look S.own 9=some (.one (.bk [iI room,l1,l2,l3,l4] 88))) (hr:room≠0) (b:Int)
  (ho:∀ E:Env,∀ u∈cs,(u.den E).oneCell' = true) (ho2:∀ E:Env,∀ u∈[l1,l2,l3,l4],(u.den E).oneCell' = true):Calls Try.prog 89 (([.c (.ptr x 0),.c (iI b)]:List SV).map (SV.den E)).toArray w (RetV w (.int .i64 (D.i64 (2+b.tmod room)))):=by
 have h1:=heap_bk hs h hp
 have h2:=heap_bk hs (x:=(9,0,0)) (p:=True∧True) (by simp [pkN,h9,Fm.pk];exact ⟨rfl,rfl⟩) ⟨trivial,trivial⟩
 refine cell_calls w (E.ρ x) (E.ρ (9,0,0)) (cs.map (SC.den E)) ([l1,l2,l3,l4].map (SC.den E)) room b ty 88 ?_ ?_ hr ?_ ?_
 ·rw [h1];simp [SC.den]
 ·rw [h2];simp [SC.den,iI]
 ·intro u hu
  obtain ⟨v,hv,rfl⟩:=List.mem_map.1 hu
  exact ho E v hv
 ·intro u hu
  obtain ⟨v,hv,rfl⟩:=List.mem_map.1 hu
  exact ho2 E v hv
theorem ats_set {α:Type} {enc:α→List Value} {xs:List α} {d y:α} {k:Nat} {cs:List SC} (hk:k<xs.length) (hc:cs=(enc y).map .v):∀ e,e<(xs.set k y).length→setAt k (ats enc xs d) cs e=ats enc (xs.set k y) d e:=by
 intro e he
 unfold setAt ats
 rw [D.set_getD _ _ _ _ _ hk]
 by_cases h:e=k
 ·rw [if_pos h,if_pos h.symm,hc]
 ·rw [if_neg h,if_neg (fun q=>h q.symm)]
theorem ats_C (xs:List D.Ca) (d:D.Ca) (e:Nat):ats D.Ca.enc xs d e=[iI (xs.getD e d).th,iI (xs.getD e d).op,iI (xs.getD e d).arg,iI (xs.getD e d).data,iI (xs.getD e d).bg,iI (xs.getD e d).en,iI (xs.getD e d).pt,iI (xs.getD e d).ak,iI (xs.getD e d).av]:=rfl
theorem seC_ans {t i:Nat} {S:List D.Se} {k k' : D.Tk} {a v:Int} {cs:List SC} (hi:i<S.length) (hk:(S.getD i D.se0).tk=some k) (hkd:k'.kd=k.kd) (hc:cs=[taskI (.ptr (t,i,0) 0) (S.getD i D.se0).tk,.v (.bool (S.getD i D.se0).rd),iI (S.getD i D.se0).la,iI a,iI v]) (e:Nat) :
  setAt i (seC t S) cs e=seC t (S.set i { S.getD i D.se0 with tk:=some k',ak:=a,av:=v }) e:=by
 unfold setAt seC
 rw [D.set_getD _ _ _ _ _ hi]
 by_cases q:e=i
 ·subst q
  rw [if_pos rfl,if_pos rfl,hc,hk]
  simp only [taskI,hkd]
 ·rw [if_neg q,if_neg (fun h=>q h.symm)]
theorem tkF_ans {t i:Nat} {S:List D.Se} {k k' : D.Tk} {a v:Int} (hi:i<S.length) (hk:(S.getD i D.se0).tk=some k) (e:Nat):(if e=i then .bk (tkC (.ptr (t,i,0) 0) k') (tkTy k'.kd) else tkF t S e)=tkF t (S.set i { S.getD i D.se0 with tk:=some k',ak:=a,av:=v }) e:=by
 unfold tkF
 rw [D.set_getD _ _ _ _ _ hi]
 by_cases q:i=e
 ·subst q
  rw [if_pos rfl,if_pos rfl];rfl
 ·rw [if_neg q,if_neg (fun h=>q h.symm)]
theorem retTA {P:Program} {w:World} {E:Env} {W:Nat→Prop} {rs:List RS} {v:SV} {S2:St} {i c p q:Nat} {m r:D.Pm} {k k' : D.Tk} {ka va:Int} (ht:AtT m i c k) (hkd:k'.kd=k.kd) (hS:r.S=m.S) (hpq:pqOk p q=true) (hf:AgF 11 E∈S2.facts) (hu:∀ E,v.den E = .bool true)
  (h0:look S2.own 0=some (.one (.bk (bkM ⟨p,q,6,7⟩ (.pe (6,0,0) 9 c 0) (.pe (5,0,0) 5 i 3) r) 113))) (h1:look S2.own 1=some (.one (.bk (bkY ⟨p,q,6,7⟩ r) 140)))
  (h2:∃ n g,look S2.own 2=some (.one (.ar n 1 g 44))∧r.W.length≤n∧∀ e,e<r.W.length→g e=ats eU r.W 0 e) (h3:look S2.own p=some (.one (.ar r.L.length 7 (ats D.Ac.enc r.L D.ac0) 47))) (h4:look S2.own q=some (.one (.ar r.A.length 1 (ats eU r.A 0) 44)))
  (h5:∃ g,look S2.own 5=some (.one (.ar m.S.length 5 g 116))∧∃ cs,g=setAt i (seC 7 m.S) cs∧cs=[taskI (.ptr (7,i,0) 0) (m.S.getD i D.se0).tk,.v (.bool (m.S.getD i D.se0).rd),iI (m.S.getD i D.se0).la,iI ka,iI va]) (h6:∃ n g,look S2.own 6=some (.one (.ar n 9 g 77))∧r.C.length≤n∧∀ e,e<r.C.length→g e=ats D.Ca.enc r.C D.ca0 e)
  (h7:∃ g,look S2.own 7=some (.fam m.S.length g)∧∀ x,g x=if x=i then .bk (tkC (.ptr (7,i,0) 0) k') (tkTy k'.kd) else tkF 7 m.S x) (h9:look S2.own 9=some (.one (.bk (hubC r) 88))) (h10:look S2.own 10=some (.one (.bk [.ptr (0,0,0) 0] 137))) :
  RetVC (mkO P w W rs (EffR w E 11 W (.c (.v (.bool true))) 2 fun b=>killO [3,4]++dO ⟨b,b+1,6,7⟩ i c (tskM m i (D.ans r i ka va,k',true)))) v S2:=by
 have hi:=ht.hi
 have eS:(tskM m i (D.ans r i ka va,k',true)).S=m.S.set i { m.S.getD i D.se0 with tk:=some k',ak:=ka,av:=va }:=by
  simp only [tskM,D.setTk,D.ans,hS,D.set_getD _ _ _ _ _ hi,if_true,List.set_set]
 have eL:(tskM m i (D.ans r i ka va,k',true)).S.length=r.S.length:=by rw [eS,List.length_set,hS]
 obtain ⟨g,g1,g2⟩:=h7
 obtain ⟨g5,k5,cs,rfl,hcs⟩:=h5
 refine retD hpq hf (fun E E'=>(hu E).trans rfl) ⟨?_,h1,h2,⟨_,_,h3,Nat.le_refl _,fun _ _=>rfl⟩,⟨_,_,h4,Nat.le_refl _,fun _ _=>rfl⟩,⟨_,_,k5,?_,fun e _=>?_⟩,h6,⟨_,_,g1,?_,fun x _=>?_⟩,h9,h10⟩
 ·rw [h0]
  simp only [bkM,eL]
  rfl
 ·rw [eS,List.length_set];exact Nat.le_refl _
 ·rw [eS];exact seC_ans hi ht.tk hkd hcs e
 ·rw [eS,List.length_set];exact Nat.le_refl _
 ·rw [g2,eS];exact tkF_ans hi ht.tk x
end Go.Proofs.Ytcloeignccpljaa.Z
