/- TsoFencedSaid: what its proof is made of. No condition. -/
import Derived.Test.YtmcpdafmkkjlcaaPkTTsoFencedAH
set_option linter.unusedSimpArgs false
set_option linter.unusedVariables false
namespace Go.Proofs.Ytmcpdafmkkjlcaa.Z
open Go Go.RowKit
def stE (b:Nat) (s:LS):Own:=[(5,.one (.bk (stC 6 s) 32)),(6,.one (.ar s.words.length 1 (ats eI s.words 0) 3)),(7,.one (.ar s.regs.length 4 (ats R4.enc s.regs r40) 68)),(8,.one (.ar s.places.length 1 (ats eI s.places 0) 3)),(9,.one (.ar s.bufs.length 1 (bfC b s) 86)),(b,.fam s.bufs.length (bfO s))]
def tnσ (τ:Nat→Nm) (b:Nat) (x:Nm):Nm:=if x.1=b then τ x.2.1 else x
theorem retTurn {P:Program} {w:World} {E:Env} {W:Nat→Prop} {rs:List RS} {u v:SV} {s:LS} {S2:St} (τ:Nat→Nm) {aw ar ap ab:Nat→List SC} (hf:AgF 11 E∈S2.facts) (hu:∀ E E',v.den E=u.den E')
  (h5:look S2.own 5=some (.one (.bk (stC 6 s) 32))) (h6:look S2.own 6=some (.one (.ar s.words.length 1 aw 3))) (e6:∀ e,e<s.words.length→aw e=ats eI s.words 0 e)
  (h7:look S2.own 7=some (.one (.ar s.regs.length 4 ar 68))) (e7:∀ e,e<s.regs.length→ar e=ats R4.enc s.regs r40 e) (h8:look S2.own 8=some (.one (.ar s.places.length 1 ap 3))) (e8:∀ e,e<s.places.length→ap e=ats eI s.places 0 e)
  (h9:look S2.own 9=some (.one (.ar s.bufs.length 1 ab 86))) (e9:∀ e,e<s.bufs.length→ab e=[.sl (τ e) 2 0 (s.bufs.getD e []).length none])
  (h10:∀ e,e<s.bufs.length→∃ m at_,atN S2.own (τ e)=some (.ar m 2 at_ 88)∧(s.bufs.getD e []).length≤m∧∀ i,i<(s.bufs.getD e []).length→at_ i=ats Pd.enc (s.bufs.getD e []) pd0 i)
  (hτ:∀ e e',e<s.bufs.length→e' < s.bufs.length→τ e=τ e'→e=e') (hτ2:∀ e,e<s.bufs.length→10≤(τ e).1) :
  RetVC (mkO P w W rs (EffR w E 11 W u 1 fun b=>killO [10]++stE b s)) v S2:=by
 have n5:∀ b i,11≤b→i<10→tnσ τ b (i,0,0)=(i,0,0):=fun b i hb hi=>by
  unfold tnσ;rw [if_neg (by simp only;omega)]
 refine retEff (tnσ τ) [10] (fun b=>stE b s) hf hu (fun b hb x hx=>?_) (fun b hb=>?_) (fun b hb=>?_)
 ·unfold tnσ;rw [if_neg (by omega)]
 ·have q:∀ i,i<10→(i<11∨NewIds b 1 i):=fun i hi=>Or.inl (by omega)
  have qb:(b<11∨NewIds b 1 b):=Or.inr ⟨Nat.le_refl _,Nat.lt_succ_self _⟩
  refine ⟨⟨q 5 (by decide),?_⟩,⟨q 6 (by decide),?_⟩,⟨q 7 (by decide),?_⟩,⟨q 8 (by decide),?_⟩,⟨q 9 (by decide),?_⟩,⟨qb,fun k hk=>?_⟩,trivial⟩
  ·simp only [n5 b 5 hb (by decide),atN,h5,Fm.get,and_self,if_true]
   refine ⟨?_,rfl,?_⟩
   ·simp only [stC,SC.renL,SC.ren,Nat.reduceAdd,n5 b 6 hb (by decide),n5 b 7 hb (by decide),n5 b 8 hb (by decide),n5 b 9 hb (by decide)]
   ·simp only [stC,SC.okL,SC.okN,Nat.reduceAdd,and_true]
    exact ⟨q 6 (by decide),q 7 (by decide),q 8 (by decide),q 9 (by decide)⟩
  ·simp only [n5 b 6 hb (by decide),atN,h6,Fm.get,and_self,if_true];exact arLe_of (Nat.le_refl _) e6
  ·simp only [n5 b 7 hb (by decide),atN,h7,Fm.get,and_self,if_true];exact arLe_of (Nat.le_refl _) e7
  ·simp only [n5 b 8 hb (by decide),atN,h8,Fm.get,and_self,if_true];exact arLe_of (Nat.le_refl _) e8
  ·simp only [n5 b 9 hb (by decide),atN,h9,Fm.get,and_self,if_true]
   refine ⟨Nat.le_refl _,rfl,rfl,fun e he=>⟨?_,?_⟩⟩
   ·rw [e9 e he];simp [bfC,SC.renL,SC.ren,tnσ]
   ·simp only [bfC,SC.okL,SC.okN,and_true];exact qb
  ·have e1:tnσ τ b (b,k,0)=τ k:=by simp [tnσ]
   obtain ⟨m,at_,g1,g2,g3⟩:=h10 k hk
   rw [e1,g1]
   exact arLe_of g2 g3
 ·intro x y c d hx hy e
  have hx2:∀ z c,atN (stE b s) z=some c→(z.1<10∧z.1≠b)∨∃ k,k<s.bufs.length∧z=(b,k,0):=fun z c hz=>by
   simp only [stE] at hz
   rcases atN_one hz with ⟨rfl,rfl⟩ | hz
   ·left;simp only;omega
   rcases atN_one hz with ⟨rfl,rfl⟩ | hz
   ·left;simp only;omega
   rcases atN_one hz with ⟨rfl,rfl⟩ | hz
   ·left;simp only;omega
   rcases atN_one hz with ⟨rfl,rfl⟩ | hz
   ·left;simp only;omega
   rcases atN_one hz with ⟨rfl,rfl⟩ | hz
   ·left;simp only;omega
   rcases atN_fam hz with ⟨k,hk,rfl,rfl⟩ | hz
   ·exact Or.inr ⟨k,hk,rfl⟩
   ·exact (atN_nil hz).elim
  rcases hx2 x c hx with ⟨a1,a2⟩ | ⟨k,hk,rfl⟩
  ·rcases hx2 y d hy with ⟨b1,b2⟩ | ⟨k',hk',rfl⟩
   ·unfold tnσ at e;rw [if_neg a2,if_neg b2] at e;exact e
   ·unfold tnσ at e;rw [if_neg a2,if_pos rfl] at e
    have:=hτ2 k' hk'
    rw [← e] at this;omega
  ·rcases hx2 y d hy with ⟨b1,b2⟩ | ⟨k',hk',rfl⟩
   ·unfold tnσ at e;rw [if_neg b2,if_pos rfl] at e
    have:=hτ2 k hk
    rw [e] at this;omega
   ·unfold tnσ at e;rw [if_pos rfl,if_pos rfl] at e
    rw [hτ k k' hk hk' e]
theorem set_atsT {α:Type} {enc:α→List Value} {xs:List α} {d:α} {k:Nat} {c:α} (hk:k<xs.length):setAt k (ats enc xs d) ((enc c).map .v)=ats enc (xs.set k c) d:=by
 funext e
 simp only [setAt,ats]
 rw [List.getD_eq_getElem?_getD,List.getD_eq_getElem?_getD,List.getElem?_set]
 by_cases h:e=k
 ·subst h;rw [if_pos rfl,if_pos rfl,if_pos hk];rfl
 ·rw [if_neg h,if_neg (fun q=>h q.symm)]
theorem retTurnL {P:Program} {w:World} {E:Env} {W:Nat→Prop} {rs:List RS} {u v:SV} {s s0:LS} {S2:St} (τ:Nat→Nm) {aw ar ap ab:Nat→List SC} (hf:AgF 11 E∈S2.facts) (hu:∀ E E',v.den E=u.den E')
  (lw:s.words.length=s0.words.length) (lr:s.regs.length=s0.regs.length) (lp:s.places.length=s0.places.length) (lb:s.bufs.length=s0.bufs.length)
  (h5:look S2.own 5=some (.one (.bk (stC 6 s0) 32))) (h6:look S2.own 6=some (.one (.ar s0.words.length 1 aw 3))) (e6:∀ e,e<s0.words.length→aw e=ats eI s.words 0 e)
  (h7:look S2.own 7=some (.one (.ar s0.regs.length 4 ar 68))) (e7:∀ e,e<s0.regs.length→ar e=ats R4.enc s.regs r40 e) (h8:look S2.own 8=some (.one (.ar s0.places.length 1 ap 3))) (e8:∀ e,e<s0.places.length→ap e=ats eI s.places 0 e)
  (h9:look S2.own 9=some (.one (.ar s0.bufs.length 1 ab 86))) (e9:∀ e,e<s0.bufs.length→ab e=[.sl (τ e) 2 0 (s.bufs.getD e []).length none])
  (h10:∀ e,e<s0.bufs.length→∃ m at_,atN S2.own (τ e)=some (.ar m 2 at_ 88)∧(s.bufs.getD e []).length≤m∧∀ i,i<(s.bufs.getD e []).length→at_ i=ats Pd.enc (s.bufs.getD e []) pd0 i)
  (hτ:∀ e e',e<s0.bufs.length→e' < s0.bufs.length→τ e=τ e'→e=e') (hτ2:∀ e,e<s0.bufs.length→10≤(τ e).1) :
  RetVC (mkO P w W rs (EffR w E 11 W u 1 fun b=>killO [10]++stE b s)) v S2:=by
 rw [← lw] at h6 e6;rw [← lr] at h7 e7;rw [← lp] at h8 e8;rw [← lb] at h9 e9 h10 hτ hτ2
 refine retTurn τ hf hu ?_ h6 e6 h7 e7 h8 e8 h9 e9 h10 hτ hτ2
 rw [h5]
 simp only [stC,lw,lr,lp,lb]
def tau1 (k j:Nat) (e:Nat):Nm:=if e=k then (j,0,0) else (10,e,0)
theorem tau1_inj {k j:Nat} (hj:j≠10) {e e' : Nat} (h:tau1 k j e=tau1 k j e'):e=e':=by
 unfold tau1 at h
 split at h <;> split at h <;> simp at h <;> omega
theorem tau1_ge {k j:Nat} (hj:10≤j) (e:Nat):10≤(tau1 k j e).1:=by
 unfold tau1;split <;> simp <;> omega
theorem one_h10 {own:Own} {s:LS} {k j:Nat} {L' : List Pd} {F:Nat→Blk} (hk:k<s.bufs.length) (hfam:look own 10=some (.fam s.bufs.length F)) (hF:∀ e,e≠k→F e=bfO s e) {m:Nat} {at_:Nat→List SC} (hat:look own j=some (.one (.ar m 2 at_ 88))) (hl:L'.length≤m) (ha:∀ i,i<L'.length→at_ i=ats Pd.enc L' pd0 i) :
  ∀ e,e<s.bufs.length→∃ m at_,atN own (tau1 k j e)=some (.ar m 2 at_ 88)∧((s.bufs.set k L').getD e []).length≤m∧∀ i,i<((s.bufs.set k L').getD e []).length→at_ i=ats Pd.enc ((s.bufs.set k L').getD e []) pd0 i:=by
 intro e he
 rw [getD_setE]
 unfold tau1
 by_cases h:e=k
 ·subst h
  rw [if_pos rfl,if_pos ⟨rfl,he⟩]
  exact ⟨m,at_,by simp [atN,hat,Fm.get],hl,ha⟩
 ·rw [if_neg h,if_neg (fun q=>h q.1.symm)]
  exact ⟨_,_,by simp [atN,hfam,Fm.get,he,hF e h,bfO],Nat.le_refl _,fun _ _=>rfl⟩
theorem one_e9 {s:LS} {k j n:Nat} {L' : List Pd} (hk:k<s.bufs.length) (hn:n=L'.length):∀ e,e<s.bufs.length→setAt k (bfC 10 s) [.sl (j,0,0) 2 0 n none] e=[.sl (tau1 k j e) 2 0 ((s.bufs.set k L').getD e []).length none]:=by
 intro e he
 subst hn
 rw [getD_setE]
 unfold tau1 setAt
 by_cases h:e=k
 ·subst h
  rw [if_pos rfl,if_pos rfl,if_pos ⟨rfl,he⟩]
 ·rw [if_neg h,if_neg h,if_neg (fun q=>h q.1.symm)]
  rfl
theorem retTurnA {P:Program} {w:World} {E:Env} {W:Nat→Prop} {rs:List RS} {u v:SV} {s:LS} {S2:St} {k j:Nat} {x:Pd} {pl:List Int} {F:Nat→Blk} {g:Nat→List SC} {ap:Nat→List SC} (hk:k<s.bufs.length) (hj:10<j) (hf:AgF 11 E∈S2.facts) (hu:∀ E E',v.den E=u.den E') (hpl:pl.length=s.places.length)
  (h5:look S2.own 5=some (.one (.bk (stC 6 s) 32))) (h6:look S2.own 6=some (.one (.ar s.words.length 1 (ats eI s.words 0) 3))) (h7:look S2.own 7=some (.one (.ar s.regs.length 4 (ats R4.enc s.regs r40) 68)))
  (h8:look S2.own 8=some (.one (.ar s.places.length 1 ap 3))) (e8:ap=ats eI pl 0)
  (h9:look S2.own 9=some (.one (.ar s.bufs.length 1 (setAt k (bfC 10 s) [.sl (j,0,0) 2 0 ((s.bufs.getD k []).length+1) none]) 86))) (h10:look S2.own 10=some (.fam s.bufs.length F)) (hF:∀ e,e≠k→F e=bfO s e)
  (h11:look S2.own j=some (.one (.ar ((s.bufs.getD k []).length+1) 2 (appAt (s.bufs.getD k []).length (ats Pd.enc (s.bufs.getD k []) pd0) g) 88))) (hg:g 0=x.enc.map .v) :
  RetVC (mkO P w W rs (EffR w E 11 W u 1 fun b=>killO [10]++stE b ⟨s.words,s.regs,pl,s.bufs.set k (s.bufs.getD k []++[x])⟩)) v S2:=by
 refine retTurnL (s:=⟨s.words,s.regs,pl,s.bufs.set k (s.bufs.getD k []++[x])⟩) (s0:=s) (tau1 k j) hf hu rfl rfl hpl (by simp) h5 h6 (fun _ _=>rfl) h7 (fun _ _=>rfl) h8 (fun e _=>by rw [e8]) h9 (one_e9 hk (by simp)) (one_h10 hk h10 hF h11 (by simp) fun i hi=>?_) (fun _ _ _ _ h=>tau1_inj (by omega) h) (fun e _=>tau1_ge (by omega) e)
 exact ats_push (d:=pd0) rfl rfl (fun _ _=>rfl) hg i hi
theorem retTurn0 {P:Program} {w:World} {E:Env} {W:Nat→Prop} {rs:List RS} {u v:SV} {s:LS} {S2:St} (hf:AgF 11 E∈S2.facts) (hu:∀ E E',v.den E=u.den E') (h5:look S2.own 5=some (.one (.bk (stC 6 s) 32))) (h6:look S2.own 6=some (.one (.ar s.words.length 1 (ats eI s.words 0) 3))) (h7:look S2.own 7=some (.one (.ar s.regs.length 4 (ats R4.enc s.regs r40) 68)))
  (h8:look S2.own 8=some (.one (.ar s.places.length 1 (ats eI s.places 0) 3))) (h9:look S2.own 9=some (.one (.ar s.bufs.length 1 (bfC 10 s) 86))) (h10:look S2.own 10=some (.fam s.bufs.length (bfO s))):RetVC (mkO P w W rs (EffR w E 11 W u 1 fun b=>killO [10]++stE b s)) v S2 :=
 retTurn (fun e=>(10,e,0)) hf hu h5 h6 (fun _ _=>rfl) h7 (fun _ _=>rfl) h8 (fun _ _=>rfl) h9 (fun _ _=>rfl) (fun e he=>⟨_,_,by simp [atN,h10,Fm.get,he,bfO],Nat.le_refl _,fun _ _=>rfl⟩) (fun e e' _ _ h=>by simpa using h) (fun e _=>Nat.le_refl _)
theorem retTurnP {P:Program} {w:World} {E:Env} {W:Nat→Prop} {rs:List RS} {u v:SV} {s s0:LS} {S2:St} {aw ar ap:Nat→List SC} (hf:AgF 11 E∈S2.facts) (hu:∀ E E',v.den E=u.den E')
  (lw:s.words.length=s0.words.length) (lr:s.regs.length=s0.regs.length) (lp:s.places.length=s0.places.length) (lb:s.bufs=s0.bufs)
  (h5:look S2.own 5=some (.one (.bk (stC 6 s0) 32))) (h6:look S2.own 6=some (.one (.ar s0.words.length 1 aw 3))) (e6:aw=ats eI s.words 0)
  (h7:look S2.own 7=some (.one (.ar s0.regs.length 4 ar 68))) (e7:ar=ats R4.enc s.regs r40) (h8:look S2.own 8=some (.one (.ar s0.places.length 1 ap 3))) (e8:ap=ats eI s.places 0)
  (h9:look S2.own 9=some (.one (.ar s0.bufs.length 1 (bfC 10 s0) 86))) (h10:look S2.own 10=some (.fam s0.bufs.length (bfO s0))) :
  RetVC (mkO P w W rs (EffR w E 11 W u 1 fun b=>killO [10]++stE b s)) v S2 :=
 retTurnL (s0:=s0) (fun e=>(10,e,0)) hf hu lw lr lp (by rw [lb]) h5 h6 (fun e _=>by rw [e6]) h7 (fun e _=>by rw [e7]) h8 (fun e _=>by rw [e8]) h9 (fun e _=>by rw [lb];rfl) (fun e he=>⟨(s0.bufs.getD e []).length,ats Pd.enc (s0.bufs.getD e []) pd0,by simp [atN,h10,Fm.get,he,bfO],by rw [lb];exact Nat.le_refl _,fun _ _=>by rw [lb]⟩) (fun e e' _ _ h=>by simpa using h) (fun e _=>Nat.le_refl _)
theorem fI_some {o addr:Int} {l:List Pd} {i:Nat} (hi:i<l.length) (h:hitB o addr (l.getD i pd0)=true) (hn:∀ j,j<i→hitB o addr (l.getD j pd0)=false):l.findIdx? (hitB o addr)=some i:=by
 rw [List.findIdx?_eq_some_iff_getElem]
 refine ⟨hi,by rw [List.getD_eq_getElem?_getD,List.getElem?_eq_getElem hi] at h;exact h,fun j hj=>?_⟩
 have:=hn j hj
 rw [List.getD_eq_getElem?_getD,List.getElem?_eq_getElem (by omega)] at this
 simpa using this
theorem fI_none {o addr:Int} {l:List Pd} (hn:∀ j,j<l.length→hitB o addr (l.getD j pd0)=false):l.findIdx? (hitB o addr)=none:=by
 rw [List.findIdx?_eq_none_iff]
 intro x hx
 obtain ⟨j,hj,rfl⟩:=List.getElem_of_mem hx
 have:=hn j hj
 rw [List.getD_eq_getElem?_getD,List.getElem?_eq_getElem hj] at this
 exact this
end Go.Proofs.Ytmcpdafmkkjlcaa.Z
namespace Go.Proofs.Ytmcpdafmkkjlcaa.Z
open Go Go.RowKit
theorem ats_eI (xs:List Int) (d:Int) (e:Nat):ats eI xs d e=[.v (.int .i64 (xs.getD e d))]:=rfl
theorem nth_r4 {xs:List R4} {k:Nat} {r:Int} (hr:0≤r∧r<4):nth (ats R4.enc xs r40 k) r.toNat=some (.v (.int .i64 ((xs.getD k r40).get r))):=by
 have:r=0∨r=1∨r=2∨r=3:=by omega
 rcases this with rfl | rfl | rfl | rfl <;> rfl
theorem put_r4 {xs:List R4} {k:Nat} {r v:Int} (hk:k<xs.length) (hr:0≤r∧r<4):setAt k (ats R4.enc xs r40) (take' r.toNat (ats R4.enc xs r40 k)++[.v (.int .i64 v)]++drop' (r.toNat+1) (ats R4.enc xs r40 k))=ats R4.enc (xs.set k ((xs.getD k r40).put r v)) r40:=by
 rw [← set_atsT hk]
 congr 1
 have:r=0∨r=1∨r=2∨r=3:=by omega
 rcases this with rfl | rfl | rfl | rfl <;> rfl
theorem put_twice {xs:List R4} {k:Nat} {r u v:Int} (hk:k<xs.length) (hr:0≤r∧r<4):(xs.set k ((xs.getD k r40).put r u)).set k (((xs.set k ((xs.getD k r40).put r u)).getD k r40).put r v)=xs.set k ((xs.getD k r40).put r v):=by
 rw [getD_setE,if_pos ⟨rfl,hk⟩,List.set_set]
 congr 1
 have:r=0∨r=1∨r=2∨r=3:=by omega
 rcases this with rfl | rfl | rfl | rfl <;> rfl
theorem st2 (o:Int) (s:LS) (k:Nat) (reg ad val frm old cnt:Int):stepS o s k ⟨2,reg,ad,val,frm,old,cnt⟩=if o=1 then some ({ s with words:=s.words.set ad.toNat (if frm≥0 then (s.regs.getD k r40).get frm else val) },1) else some ({ s with bufs:=s.bufs.set k (s.bufs.getD k []++[⟨ad,if frm≥0 then (s.regs.getD k r40).get frm else val⟩]) },1):=by
 unfold stepS;rfl
theorem st3 (o:Int) (s:LS) (k:Nat) (reg ad val frm old cnt:Int):stepS o s k ⟨3,reg,ad,val,frm,old,cnt⟩=if (s.bufs.getD k []).length>0 then none else if s.words.getD ad.toNat 0=old then some ({ s with words:=s.words.set ad.toNat val,regs:=s.regs.set k ((s.regs.getD k r40).put reg 1) },1) else some ({ s with regs:=s.regs.set k ((s.regs.getD k r40).put reg 0) },1):=by
 unfold stepS;rfl
theorem st4 (o:Int) (s:LS) (k:Nat) (reg ad val frm old cnt:Int):stepS o s k ⟨4,reg,ad,val,frm,old,cnt⟩=if (s.bufs.getD k []).length>0 then none else some (s,1):=by
 unfold stepS;rfl
theorem st7 (o:Int) (s:LS) (k:Nat) (reg ad val frm old cnt:Int):stepS o s k ⟨7,reg,ad,val,frm,old,cnt⟩=if (s.regs.getD k r40).get reg=val then some (s,1+cnt) else some (s,1):=by
 unfold stepS;rfl
attribute [go_sem] mkO_rs ats_eI
theorem stE_key {s s' : LS} {b:Nat}:∀ x c,atN (stP s) x=some c→(look (killO [10]++stE b s') x.1).isSome=true:=by
 intro x c hx
 simp only [stP,stO] at hx
 rcases atN_one hx with ⟨rfl,rfl⟩ | hx
 ·rfl
 rcases atN_one hx with ⟨rfl,rfl⟩ | hx
 ·rfl
 rcases atN_one hx with ⟨rfl,rfl⟩ | hx
 ·rfl
 rcases atN_one hx with ⟨rfl,rfl⟩ | hx
 ·rfl
 rcases atN_one hx with ⟨rfl,rfl⟩ | hx
 ·rfl
 rcases atN_fam hx with ⟨k,hk,rfl,rfl⟩ | hx
 ·rfl
 ·exact (atN_nil hx).elim
theorem lt11 {n:Nat} (h:11≤n):∀ i∈List.range 11,i<n:=fun i hi=>Nat.lt_of_lt_of_le (List.mem_range.1 hi) h
theorem retTurnN {P:Program} {w:World} {E:Env} {W:Nat→Prop} {rs:List RS} {u v:SV} {s:LS} {S2:St} (n:Nat) (hn:10≤n) (hf:AgF 11 E∈S2.facts) (hu:∀ E E',v.den E=u.den E') (h5:look S2.own 5=some (.one (.bk (stC 6 s) 32))) (h6:look S2.own 6=some (.one (.ar s.words.length 1 (ats eI s.words 0) 3))) (h7:look S2.own 7=some (.one (.ar s.regs.length 4 (ats R4.enc s.regs r40) 68)))
  (h8:look S2.own 8=some (.one (.ar s.places.length 1 (ats eI s.places 0) 3))) (h9:look S2.own 9=some (.one (.ar s.bufs.length 1 (bfC n s) 86))) (h10:look S2.own n=some (.fam s.bufs.length (bfO s))):RetVC (mkO P w W rs (EffR w E 11 W u 1 fun b=>killO [10]++stE b s)) v S2 :=
 retTurn (fun e=>(n,e,0)) hf hu h5 h6 (fun _ _=>rfl) h7 (fun _ _=>rfl) h8 (fun _ _=>rfl) h9 (fun _ _=>rfl) (fun e he=>⟨_,_,by simp [atN,h10,Fm.get,he,bfO],Nat.le_refl _,fun _ _=>rfl⟩) (fun e e' _ _ h=>by simpa using h) (fun e _=>hn)
end Go.Proofs.Ytmcpdafmkkjlcaa.Z
namespace Go.Proofs.Ytmcpdafmkkjlcaa.Z
open Go Go.RowKit
def ir14:IR:=(.seq (.ops [⟨(some 2),(.mv (.k (.c (.v (.int .i64 0))))),none⟩]) (.kill [1,2,3,4,5,6,7,8,9,10,11] (.seq (.ops [⟨(some 3),(.mv (.t 0)),none⟩,⟨(some 2),(.mv (.t 3)),none⟩]) (.kill [0,3] .ret))))
def rs14:List RS:=[(.t 2)]
def nt14:Nat:=4
def ir41:IR:=(.seq (.ops [⟨(some 4),(.mv (.k (.c (.v (.bool false))))),none⟩]) (.kill [2,3,4,5,6,7,8,9,10,11] (.seq (.seq (.ops [⟨(some 6),(.mv (.t 0)),none⟩,⟨(some 7),(.len (.t 6)),none⟩,⟨(some 8),(.mv (.t 1)),none⟩,⟨(some 9),(.len (.t 8)),none⟩,⟨(some 10),(.bin .neq (.t 7) (.t 9)),none⟩]) (.kill [6,7,8,9] (.cond (.t 10) (.seq (.ops [⟨(some 4),(.mv (.k (.c (.v (.bool false))))),none⟩]) (.kill [0,1,10] .ret)) .skip))) (.kill [4,10] (.seq (.seq (.ops [⟨(some 5),(.mv (.k (.c (.v (.int .i64 0))))),none⟩]) (.blk 0 (.loop (.seq (.seq (.ops [⟨(some 11),(.mv (.t 5)),none⟩,⟨(some 12),(.mv (.t 0)),none⟩,⟨(some 13),(.len (.t 12)),none⟩,⟨(some 14),(.bin .lss (.t 11) (.t 13)),none⟩]) (.kill [4,11,12,13,15,16,17,18,19,20,21,22,23,24,25] (.cond (.t 14) .skip (.exit 0)))) (.kill [14] (.seq (.blk 1 (.seq (.draw [(⟨(some 17),(.mv (.t 0)),none⟩,([],[18,21,22,23,24])),(⟨(some 18),(.mv (.t 5)),none⟩,([0],[17,21,22,23,24])),(⟨(some 19),(.ia 1 (.t 17) (.t 18)),none⟩,([],[21,22,23,24])),(⟨(some 20),(.ld false 1 (.t 19)),none⟩,([],[21,22,23,24])),(⟨(some 21),(.mv (.t 1)),none⟩,([0,1,2,3],[17,18,19,20,22])),(⟨(some 22),(.mv (.t 5)),none⟩,([0,1,2,3,4],[17,18,19,20,21])),(⟨(some 23),(.ia 1 (.t 21) (.t 22)),none⟩,([0,1,2,3],[17,18,19,20])),(⟨(some 24),(.ld false 1 (.t 23)),none⟩,([0,1,2,3],[17,18,19,20])),(⟨(some 25),(.bin .neq (.t 20) (.t 24)),none⟩,([],[]))]) (.kill [17,18,19,20,21,22,23,24] (.cond (.t 25) (.seq (.ops [⟨(some 4),(.mv (.k (.c (.v (.bool false))))),none⟩]) (.kill [0,1,5,25] .ret)) .skip)))) (.kill [4,17,18,19,20,21,22,23,24,25] (.ops [⟨(some 15),(.mv (.t 5)),none⟩,⟨(some 16),(.bin .add (.t 15) (.k (.c (.v (.int .i64 1))))),none⟩,⟨(some 5),(.mv (.t 16)),none⟩])))))))) (.kill [0,1,4,5,11,12,13,14,15,16,17,18,19,20,21,22,23,24,25] (.seq (.ops [⟨(some 4),(.mv (.k (.c (.v (.bool true))))),none⟩]) .ret)))))))
def rs41:List RS:=[(.t 4)]
def nt41:Nat:=26
def ir15:IR:=(.seq (.ops [⟨(some 2),(.box 25 (.t 0)),none⟩,⟨(some 3),(.box 25 (.t 1)),none⟩,⟨(some 4),(.mv (.k (.c (.v (.bool false))))),none⟩]) (.kill [0,1,4,5,6,7,8,9,10,11] (.seq (.seq (.ops [⟨(some 7),(.fa 0 (.t 2)),none⟩,⟨(some 8),(.ld false 1 (.t 7)),none⟩,⟨(some 9),(.fa 0 (.t 3)),none⟩,⟨(some 10),(.ld false 1 (.t 9)),none⟩,⟨(some 11),(.call 41 [(.t 8),(.t 10)]),none⟩,⟨(some 12),(.un .not (.t 11)),none⟩,⟨(some 13),(.mv (.t 12)),none⟩,⟨(some 14),(.fa 1 (.t 2)),(some (13,false))⟩,⟨(some 15),(.ld false 1 (.t 14)),(some (13,false))⟩,⟨(some 16),(.len (.t 15)),(some (13,false))⟩,⟨(some 17),(.fa 1 (.t 3)),(some (13,false))⟩,⟨(some 18),(.ld false 1 (.t 17)),(some (13,false))⟩,⟨(some 19),(.len (.t 18)),(some (13,false))⟩,⟨(some 20),(.bin .neq (.t 16) (.t 19)),(some (13,false))⟩,⟨(some 21),(.pick (.t 13) (.k (.c (.v (.bool true)))) (.t 20)),none⟩]) (.kill [7,8,9,10,11,12,13,14,15,16,17,18,19,20] (.cond (.t 21) (.seq (.ops [⟨(some 4),(.mv (.k (.c (.v (.bool false))))),none⟩]) (.kill [2,3,21] .ret)) .skip))) (.kill [4,21] (.seq (.seq (.ops [⟨(some 5),(.mv (.k (.c (.v (.int .i64 0))))),none⟩]) (.blk 0 (.loop (.seq (.seq (.ops [⟨(some 22),(.mv (.t 5)),none⟩,⟨(some 23),(.fa 1 (.t 2)),none⟩,⟨(some 24),(.ld false 1 (.t 23)),none⟩,⟨(some 25),(.len (.t 24)),none⟩,⟨(some 26),(.bin .lss (.t 22) (.t 25)),none⟩]) (.kill [4,6,22,23,24,25,27,28,29,30,31,32,33,34,35,36,37,38,39,40,41,42,43,44,45,46,47,48,49,50,51,52,53,54,55,56,57,58,59,60,61,62,63,64,65,66,67,68] (.cond (.t 26) .skip (.exit 0)))) (.kill [26] (.seq (.blk 1 (.seq (.seq (.draw [(⟨(some 29),(.fa 1 (.t 2)),none⟩,([],[31,35,36,37,38,39,40])),(⟨(some 30),(.ld false 1 (.t 29)),none⟩,([],[31,35,36,37,38,39,40])),(⟨(some 31),(.mv (.t 5)),none⟩,([0,1],[29,30,35,36,37,38,39,40])),(⟨(some 32),(.ia 1 (.t 30) (.t 31)),none⟩,([],[35,36,37,38,39,40])),(⟨(some 33),(.ld false 1 (.t 32)),none⟩,([],[35,36,37,38,39,40])),(⟨(some 34),(.len (.t 33)),none⟩,([],[35,36,37,38,39,40])),(⟨(some 35),(.fa 1 (.t 3)),none⟩,([0,1,2,3,4,5],[29,30,31,32,33,34,37])),(⟨(some 36),(.ld false 1 (.t 35)),none⟩,([0,1,2,3,4,5],[29,30,31,32,33,34,37])),(⟨(some 37),(.mv (.t 5)),none⟩,([0,1,2,3,4,5,6,7],[29,30,31,32,33,34,35,36])),(⟨(some 38),(.ia 1 (.t 36) (.t 37)),none⟩,([0,1,2,3,4,5],[29,30,31,32,33,34])),(⟨(some 39),(.ld false 1 (.t 38)),none⟩,([0,1,2,3,4,5],[29,30,31,32,33,34])),(⟨(some 40),(.len (.t 39)),none⟩,([0,1,2,3,4,5],[29,30,31,32,33,34])),(⟨(some 41),(.bin .neq (.t 34) (.t 40)),none⟩,([],[]))]) (.kill [29,30,31,32,33,34,35,36,37,38,39,40] (.cond (.t 41) (.seq (.ops [⟨(some 4),(.mv (.k (.c (.v (.bool false))))),none⟩]) (.kill [2,3,5,41] .ret)) .skip))) (.kill [4,41] (.seq (.ops [⟨(some 6),(.mv (.k (.c (.v (.int .i64 0))))),none⟩]) (.blk 2 (.loop (.seq (.seq (.ops [⟨(some 42),(.mv (.t 6)),none⟩,⟨(some 43),(.fa 1 (.t 2)),none⟩,⟨(some 44),(.ld false 1 (.t 43)),none⟩,⟨(some 45),(.mv (.t 5)),none⟩,⟨(some 46),(.ia 1 (.t 44) (.t 45)),none⟩,⟨(some 47),(.ld false 1 (.t 46)),none⟩,⟨(some 48),(.len (.t 47)),none⟩,⟨(some 49),(.bin .lss (.t 42) (.t 48)),none⟩]) (.kill [4,42,43,44,45,46,47,48,50,51,52,53,54,55,56,57,58,59,60,61,62,63,64,65,66,67,68] (.cond (.t 49) .skip (.exit 2)))) (.kill [49] (.seq (.blk 3 (.seq (.draw [(⟨(some 52),(.fa 1 (.t 2)),none⟩,([],[54,57,60,61,62,63,64,65,66,67])),(⟨(some 53),(.ld false 1 (.t 52)),none⟩,([],[54,57,60,61,62,63,64,65,66,67])),(⟨(some 54),(.mv (.t 5)),none⟩,([0,1],[52,53,57,60,61,62,63,64,65,66,67])),(⟨(some 55),(.ia 1 (.t 53) (.t 54)),none⟩,([],[57,60,61,62,63,64,65,66,67])),(⟨(some 56),(.ld false 1 (.t 55)),none⟩,([],[57,60,61,62,63,64,65,66,67])),(⟨(some 57),(.mv (.t 6)),none⟩,([0,1,2,3,4],[52,53,54,55,56,60,61,62,63,64,65,66,67])),(⟨(some 58),(.ia 7 (.t 56) (.t 57)),none⟩,([],[60,61,62,63,64,65,66,67])),(⟨(some 59),(.ld true 7 (.t 58)),none⟩,([],[60,61,62,63,64,65,66,67])),(⟨(some 60),(.fa 1 (.t 3)),none⟩,([0,1,2,3,4,5,6,7],[52,53,54,55,56,57,58,59,62,65])),(⟨(some 61),(.ld false 1 (.t 60)),none⟩,([0,1,2,3,4,5,6,7],[52,53,54,55,56,57,58,59,62,65])),(⟨(some 62),(.mv (.t 5)),none⟩,([0,1,2,3,4,5,6,7,8,9],[52,53,54,55,56,57,58,59,60,61,65])),(⟨(some 63),(.ia 1 (.t 61) (.t 62)),none⟩,([0,1,2,3,4,5,6,7],[52,53,54,55,56,57,58,59,65])),(⟨(some 64),(.ld false 1 (.t 63)),none⟩,([0,1,2,3,4,5,6,7],[52,53,54,55,56,57,58,59,65])),(⟨(some 65),(.mv (.t 6)),none⟩,([0,1,2,3,4,5,6,7,8,9,10,11,12],[52,53,54,55,56,57,58,59,60,61,62,63,64])),(⟨(some 66),(.ia 7 (.t 64) (.t 65)),none⟩,([0,1,2,3,4,5,6,7],[52,53,54,55,56,57,58,59])),(⟨(some 67),(.ld true 7 (.t 66)),none⟩,([0,1,2,3,4,5,6,7],[52,53,54,55,56,57,58,59])),(⟨(some 68),(.eqa true [true,true,true,true,true,true,true] (.t 59) (.t 67)),none⟩,([],[]))]) (.kill [52,53,54,55,56,57,58,59,60,61,62,63,64,65,66,67] (.cond (.t 68) (.seq (.ops [⟨(some 4),(.mv (.k (.c (.v (.bool false))))),none⟩]) (.kill [2,3,5,6,68] .ret)) .skip)))) (.kill [4,52,53,54,55,56,57,58,59,60,61,62,63,64,65,66,67,68] (.ops [⟨(some 50),(.mv (.t 6)),none⟩,⟨(some 51),(.bin .add (.t 50) (.k (.c (.v (.int .i64 1))))),none⟩,⟨(some 6),(.mv (.t 51)),none⟩]))))))))))) (.kill [4,6,29,30,31,32,33,34,35,36,37,38,39,40,41,42,43,44,45,46,47,48,49,50,51,52,53,54,55,56,57,58,59,60,61,62,63,64,65,66,67,68] (.ops [⟨(some 27),(.mv (.t 5)),none⟩,⟨(some 28),(.bin .add (.t 27) (.k (.c (.v (.int .i64 1))))),none⟩,⟨(some 5),(.mv (.t 28)),none⟩])))))))) (.kill [2,3,4,5,6,22,23,24,25,26,27,28,29,30,31,32,33,34,35,36,37,38,39,40,41,42,43,44,45,46,47,48,49,50,51,52,53,54,55,56,57,58,59,60,61,62,63,64,65,66,67,68] (.seq (.ops [⟨(some 4),(.mv (.k (.c (.v (.bool true))))),none⟩]) .ret)))))))
def rs15:List RS:=[(.t 4)]
def nt15:Nat:=69
set_option maxRecDepth 100000 in
set_option maxHeartbeats 400000 in
theorem num_calls (w:World) (e:Int):Calls Try.prog 14 #[.int .i64 e] w (RetV w (.int .i64 e)):=by
 refine enter0 (A:=[]) (c:=ir14) (rs:=rs14) (nt:=nt14) [.c (.v (.int .i64 e))] #[.int .i64 e] Try.func14 rfl (by kernel_rfl) (by kernel_rfl) rfl (fun E'=>by simp [SV.den,SC.den]) (of_decide_eq_true rfl) ?_
 simp (maxSteps:=2000000) only [ir14,nt14,rs14,go_sem,↓reduceIte,Nat.reduceLT,Nat.reduceLeDiff,Nat.reduceAdd,Nat.reduceSub,Nat.reduceMul,Nat.reduceEqDiff,reduceCtorEq,Int.reduceToNat,Int.reduceEq,Int.reduceBEq,Int.reduceBNe,Int.reduceLT,Int.reduceLE,Int.reduceNeg,Int.reduceAdd,Int.reduceSub,Int.reduceMul,Int.reduceGE,Int.reduceGT,endO]
 exact retV fun E=>by simp [SV.den,SC.den]
set_option maxRecDepth 100000 in
set_option maxHeartbeats 400000 in
theorem sints_calls (w:World) (v v' : Value) (xs:List Int) (h:Arr w eI 1 v xs) (h' : Arr w eI 1 v' xs):Calls Try.prog 41 #[v,v'] w (RetV w (.bool true)):=by
 refine enter2 (A:=[]) (c:=ir41) (rs:=rs41) (nt:=nt41) 0 eI_ok h 0 eI_ok h' [.c (.xv (0,0,0)),.c (.xv (1,0,0))] _ Try.func41 rfl (by kernel_rfl) (by kernel_rfl) rfl (fun E' h0 h1=>by simp [SV.den,SC.den,h0,h1]) (of_decide_eq_true rfl) ?_
 simp (maxSteps:=2000000) only [ir41,nt41,rs41,go_sem,↓reduceIte,Nat.reduceLT,Nat.reduceLeDiff,Nat.reduceAdd,Nat.reduceSub,Nat.reduceMul,Nat.reduceEqDiff,reduceCtorEq,Int.reduceToNat,Int.reduceEq,Int.reduceBEq,Int.reduceBNe,Int.reduceLT,Int.reduceLE,Int.reduceNeg,Int.reduceAdd,Int.reduceSub,Int.reduceMul,Int.reduceGE,Int.reduceGT,endO]
 refine loopI (ι:={ i:Nat // i≤xs.length }) (fun i=>⟨26,[(0,.c (.xv (0,0,0))),(1,.c (.xv (1,0,0))),(5,.c (.v (.int .i64 (i.1:Nat))))],[],[(0,.one (arrOf eI 1 xs 0)),(1,.one (arrOf eI 1 xs 0))],[],2⟩)
  (fun i=>xs.length - i.1) ⟨0,by omega⟩ (le_ren id rfl rfl (by simp [TmpsLe,look,SV.ren,SC.ren,SC.renL,ren1L,ren1,idσ,SV.okN,SC.okN,SC.okL,ok1L]) trivial (by simp [ArrsLe,ArrLeO,atN,look,Fm.get,idσ,arrLe_of,arrLe_0]) rfl) ?_
 rintro ⟨i,hi⟩
 have hml:=Z.Arr.lenM h
 simp only [maxLen] at hml
 simp (maxSteps:=2000000) only [go_sem,↓reduceIte,Nat.reduceLT,Nat.reduceLeDiff,Nat.reduceAdd,Nat.reduceSub,Nat.reduceMul,Nat.reduceEqDiff,reduceCtorEq,Int.reduceToNat,Int.reduceEq,Int.reduceBEq,Int.reduceBNe,Int.reduceLT,Int.reduceLE,Int.reduceNeg,Int.reduceAdd,Int.reduceSub,Int.reduceMul,Int.reduceGE,Int.reduceGT,endO]
 refine both (fun hlt=>?_) (fun hge=>?_)
 ·rw [decide_eq_true_eq] at hlt
  have hlt:i<xs.length:=by omega
  refine draw_vc (by kernel_rfl) (mkTab_ok _ _) (of_decide_eq_true rfl) (of_decide_eq_true rfl) ?_
  repeat (first | simp (maxSteps:=2000000) only [go_sem,↓reduceIte,Nat.reduceLT,Nat.reduceLeDiff,Nat.reduceAdd,Nat.reduceSub,Nat.reduceMul,Nat.reduceEqDiff,reduceCtorEq,Int.reduceToNat,Int.reduceEq,Int.reduceBEq,Int.reduceBNe,Int.reduceLT,Int.reduceLE,Int.reduceNeg,Int.reduceAdd,Int.reduceSub,Int.reduceMul,Int.reduceGE,Int.reduceGT,endO,eI] | rw [dr_cons])
  refine And.intro hlt (And.intro hlt (And.intro hlt (And.intro hlt ?_)))
  rw [wr_succ (by omega)]
  exact backI ⟨i+1,by omega⟩ (by simp only;omega) (le_ren id rfl rfl (by simp [TmpsLe,look,SV.ren,SC.ren,SC.renL,ren1L,ren1,idσ,SV.okN,SC.okN,SC.okL,ok1L]) trivial (by simp [ArrsLe,ArrLeO,atN,look,Fm.get,idσ,arrLe_of,arrLe_0]) rfl)
 ·exact retV fun E=>by simp [SV.den,SC.den]
def StR (w:World) (v:Value) (s:LS):Prop:=∃ vw vr vp vb,v = .agg #[vw,vr,vp,vb]∧Arr w eI 1 vw s.words∧Arr w R4.enc 4 vr s.regs∧Arr w eI 1 vp s.places∧Nest w Pd.enc 2 vb s.bufs
def stA (i:Nat) (s:LS):List (Nat×Fm ArrF):=[(i,.one (arrOf eI 1 s.words 0)),(i+1,.one (arrOf R4.enc 4 s.regs r40)),(i+2,.one (arrOf eI 1 s.places 0)),(i+3,.one (nestF (i+4) s.bufs.length)),(i+4,.fam s.bufs.length fun k=>arrOf Pd.enc 2 (s.bufs.getD k []) pd0)]
def stS (i:Nat):List SC:=[.xv (i,0,0),.xv (i+1,0,0),.xv (i+2,0,0),.xv (i+3,0,0)]
theorem nest_one {α:Type} {w:World} {enc:α→List Value} {s:Nat} {ls:List (List α)} {vs:List Value} (h3:vs.length=ls.length) (h4:∀ k,k<ls.length→Arr w enc s (vs.getD k nest0) (ls.getD k [])) (k:Nat):(vs.getD k nest0).oneCell' = true:=by
 by_cases hk:k<ls.length
 ·exact arr_one (h4 k hk)
 ·rw [List.getD_eq_getElem?_getD,List.getElem?_eq_none (by omega)];rfl
theorem enterLt2 {P:Program} {A:List Nat} {f nt:Nat} {fn:Func} {x:Code} {c:IR} {w:World} {rs:List RS} {R:Ending→World→Prop} {v v' : Value} {L:Lt} (h:LtR w v L) (h' : LtR w v' L)
  (hf:P.funcs[f]? = some fn) (hb:fn.body=some x) (hc:compC (mkTab P A) x=some c.strip) (hrs:compR (mkTab P A).T fn.results.toList=some rs) (hn:fn.ntmps=nt) (hnt:2≤nt)
  (hex:exec (mkC P A w rs R) 1000 [.code c] ⟨nt,enumT 0 [.agg (ltS 0),.agg (ltS 3)],[],ltA 0 L++ltA 3 L,[],6⟩):Calls P f #[v,v'] w R:=by
 obtain ⟨vw,vt,rfl,h1,us,h4,h5,h6⟩:=h
 obtain ⟨vw',vt',rfl,h1',us',h4',h5',h6'⟩:=h'
 refine enterL [fun _=>vw,fun _=>vt,fun k=>us.getD k nest0,fun _=>vw',fun _=>vt',fun k=>us'.getD k nest0] ⟨fun _=>arr_one h1,fun _=>arr_one h4,nest_one h5 h6,fun _=>arr_one h1',fun _=>arr_one h4',nest_one h5' h6',trivial⟩
  (rd_one 0 0 eI_ok h1 (by simp) rfl (rd_nest 1 2 in0 in_ok h4 h5 h6 (by simp) (by simp) rfl (fun _=>rfl) (rd_one 3 0 eI_ok h1' (by simp) rfl (rd_nest 4 5 in0 in_ok h4' h5' h6' (by simp) (by simp) rfl (fun _=>rfl) rd_nil))))
  [.agg (ltS 0),.agg (ltS 3)] _ hf hb hc hrs hn (fun E' hE'=>?_) hnt hex
 have e:=fun i hi=>hE' i 0 0 hi
 simp only [List.map_cons,List.map_nil,SV.den,ltS,SC.den,Nat.reduceAdd,e 0 (by simp),e 1 (by simp),e 3 (by simp),e 4 (by simp)]
 rfl
set_option maxRecDepth 100000 in
set_option maxHeartbeats 400000 in
theorem slitmus_calls (w:World) (v v' : Value) (L:Lt) (h:LtR w v L) (h' : LtR w v' L):Calls Try.prog 15 #[v,v'] w (RetV w (.bool true)):=by
 have hm2:L.thr.length≤9223372036854775807:=by obtain ⟨_,_,_,_,us,h4,h5,_⟩:=h;have:=Z.Arr.lenM h4;simp only [maxLen] at this;omega
 have hm3:∀ k,k<L.thr.length→(L.thr.getD k []).length≤9223372036854775807:=fun k hk=>by obtain ⟨_,_,_,_,us,h4,h5,h6⟩:=h;have:=Z.Arr.lenM (h6 k hk);simp only [maxLen] at this;exact this
 refine enterLt2 (A:=[]) (c:=ir15) (rs:=rs15) (nt:=nt15) h h' Try.func15 rfl (by kernel_rfl) (by kernel_rfl) rfl (of_decide_eq_true rfl) ?_
 simp (maxSteps:=2000000) only [ir15,nt15,rs15,go_sem,↓reduceIte,Nat.reduceLT,Nat.reduceLeDiff,Nat.reduceAdd,Nat.reduceSub,Nat.reduceMul,Nat.reduceEqDiff,reduceCtorEq,Int.reduceToNat,Int.reduceEq,Int.reduceBEq,Int.reduceBNe,Int.reduceLT,Int.reduceLE,Int.reduceNeg,Int.reduceAdd,Int.reduceSub,Int.reduceMul,Int.reduceGE,Int.reduceGT,endO,ltA,ltS]
 refine callV (.c (.v (.bool true))) _ (fun E=>rfl) (fun E a w' hs=>sints_calls w' _ _ L.words (arr_at (d:=0) hs 0 rfl) (arr_at (d:=0) hs 3 rfl)) ?_
 simp (maxSteps:=2000000) only [go_sem,↓reduceIte,Nat.reduceLT,Nat.reduceLeDiff,Nat.reduceAdd,Nat.reduceSub,Nat.reduceMul,Nat.reduceEqDiff,reduceCtorEq,Int.reduceToNat,Int.reduceEq,Int.reduceBEq,Int.reduceBNe,Int.reduceLT,Int.reduceLE,Int.reduceNeg,Int.reduceAdd,Int.reduceSub,Int.reduceMul,Int.reduceGE,Int.reduceGT,endO]
 refine loopI (ι:={ j:Nat // j≤L.thr.length }) (fun j=>⟨69,[(2,.c (.ptr (6,0,0) 0)),(3,.c (.ptr (7,0,0) 0)),(5,.c (.v (.int .i64 (j.1:Nat))))],[(6,.one (.bk [.xv (0,0,0),.xv (1,0,0)] 25)),(7,.one (.bk [.xv (3,0,0),.xv (4,0,0)] 25))],ltA 0 L++ltA 3 L,[],8⟩)
  (fun j=>L.thr.length - j.1) ⟨0,by omega⟩ (le_ren id rfl rfl (by simp [TmpsLe,look,SV.ren,SC.ren,SC.renL,ren1L,ren1,idσ,SV.okN,SC.okN,SC.okL,ok1L]) (by simp [OwnLe,BlkLeO,BlkLe,atN,look,Fm.get,idσ,SC.renL,SC.ren,SC.okL,SC.okN,renL_v,okL_v]) (by simp +contextual [ltA,ArrsLe,ArrLeO,atN,look,Fm.get,idσ,arrLe_of,arrLe_0,arrLe_nest]) rfl) ?_
 rintro ⟨j,hj⟩
 simp (maxSteps:=2000000) only [go_sem,↓reduceIte,Nat.reduceLT,Nat.reduceLeDiff,Nat.reduceAdd,Nat.reduceSub,Nat.reduceMul,Nat.reduceEqDiff,reduceCtorEq,Int.reduceToNat,Int.reduceEq,Int.reduceBEq,Int.reduceBNe,Int.reduceLT,Int.reduceLE,Int.reduceNeg,Int.reduceAdd,Int.reduceSub,Int.reduceMul,Int.reduceGE,Int.reduceGT,endO,ltA]
 refine both (fun hlt=>?_) (fun hge=>?_)
 ·rw [decide_eq_true_eq] at hlt
  have hlt:j<L.thr.length:=by omega
  have hm3:=hm3 j hlt
  refine draw_vc (by kernel_rfl) (mkTab_ok _ _) (of_decide_eq_true rfl) (of_decide_eq_true rfl) ?_
  repeat (first | simp (maxSteps:=2000000) only [go_sem,↓reduceIte,Nat.reduceLT,Nat.reduceLeDiff,Nat.reduceAdd,Nat.reduceSub,Nat.reduceMul,Nat.reduceEqDiff,reduceCtorEq,Int.reduceToNat,Int.reduceEq,Int.reduceBEq,Int.reduceBNe,Int.reduceLT,Int.reduceLE,Int.reduceNeg,Int.reduceAdd,Int.reduceSub,Int.reduceMul,Int.reduceGE,Int.reduceGT,endO] | rw [dr_cons])
  repeat (with_reducible refine And.intro hlt ?_)
  refine loopI (ι:={ i:Nat // i≤(L.thr.getD j []).length }) (fun i=>⟨69,[(2,.c (.ptr (6,0,0) 0)),(3,.c (.ptr (7,0,0) 0)),(5,.c (.v (.int .i64 j))),(6,.c (.v (.int .i64 (i.1:Nat))))],[(6,.one (.bk [.xv (0,0,0),.xv (1,0,0)] 25)),(7,.one (.bk [.xv (3,0,0),.xv (4,0,0)] 25))],ltA 0 L++ltA 3 L,[],8⟩)
   (fun i=>(L.thr.getD j []).length - i.1) ⟨0,by omega⟩ (le_ren id rfl rfl (by simp [TmpsLe,look,SV.ren,SC.ren,SC.renL,ren1L,ren1,idσ,SV.okN,SC.okN,SC.okL,ok1L]) (by simp [OwnLe,BlkLeO,BlkLe,atN,look,Fm.get,idσ,SC.renL,SC.ren,SC.okL,SC.okN,renL_v,okL_v]) (by simp +contextual [ltA,ArrsLe,ArrLeO,atN,look,Fm.get,idσ,arrLe_of,arrLe_0,arrLe_nest]) rfl) ?_
  rintro ⟨i,hi⟩
  simp (maxSteps:=2000000) only [go_sem,↓reduceIte,Nat.reduceLT,Nat.reduceLeDiff,Nat.reduceAdd,Nat.reduceSub,Nat.reduceMul,Nat.reduceEqDiff,reduceCtorEq,Int.reduceToNat,Int.reduceEq,Int.reduceBEq,Int.reduceBNe,Int.reduceLT,Int.reduceLE,Int.reduceNeg,Int.reduceAdd,Int.reduceSub,Int.reduceMul,Int.reduceGE,Int.reduceGT,endO,ltA]
  repeat (with_reducible refine And.intro hlt ?_)
  refine both (fun hlti=>?_) (fun hgei=>?_)
  ·rw [decide_eq_true_eq] at hlti
   have hlti:i<(L.thr.getD j []).length:=by omega
   refine draw_vc (by kernel_rfl) (mkTab_ok _ _) (of_decide_eq_true rfl) (of_decide_eq_true rfl) ?_
   repeat (first | simp (maxSteps:=2000000) only [go_sem,↓reduceIte,Nat.reduceLT,Nat.reduceLeDiff,Nat.reduceAdd,Nat.reduceSub,Nat.reduceMul,Nat.reduceEqDiff,reduceCtorEq,Int.reduceToNat,Int.reduceEq,Int.reduceBEq,Int.reduceBNe,Int.reduceLT,Int.reduceLE,Int.reduceNeg,Int.reduceAdd,Int.reduceSub,Int.reduceMul,Int.reduceGE,Int.reduceGT,endO,Ins.enc] | rw [dr_cons])
   repeat (with_reducible refine And.intro (by first | omega | exact ⟨hlt,hlti⟩) ?_)
   rw [wr_succ (by omega)]
   exact backI ⟨i+1,by omega⟩ (by simp only;omega) (le_ren id rfl rfl (by simp [TmpsLe,look,SV.ren,SC.ren,SC.renL,ren1L,ren1,idσ,SV.okN,SC.okN,SC.okL,ok1L]) (by simp [OwnLe,BlkLeO,BlkLe,atN,look,Fm.get,idσ,SC.renL,SC.ren,SC.okL,SC.okN,renL_v,okL_v]) (by simp +contextual [ltA,ArrsLe,ArrLeO,atN,look,Fm.get,idσ,arrLe_of,arrLe_0,arrLe_nest]) rfl)
  ·rw [wr_succ (by omega)]
   exact backI ⟨j+1,by omega⟩ (by simp only;omega) (le_ren id rfl rfl (by simp [TmpsLe,look,SV.ren,SC.ren,SC.renL,ren1L,ren1,idσ,SV.okN,SC.okN,SC.okL,ok1L]) (by simp [OwnLe,BlkLeO,BlkLe,atN,look,Fm.get,idσ,SC.renL,SC.ren,SC.okL,SC.okN,renL_v,okL_v]) (by simp +contextual [ltA,ArrsLe,ArrLeO,atN,look,Fm.get,idσ,arrLe_of,arrLe_0,arrLe_nest]) rfl)
 ·exact retV fun E=>by simp [SV.den,SC.den]
end Go.Proofs.Ytmcpdafmkkjlcaa.Z
namespace Go.Proofs.Ytmcpdafmkkjlcaa.Z
open Go Go.RowKit
def lessL:List Int→List Int→Bool
 | [],[]=>false
 | [],_ :: _=>true
 | _ :: _,[]=>false
 | a :: l,b :: m=>if a≠b then decide (a<b) else lessL l m
def cmpL:List Int→List Int→Int
 | [],[]=>0
 | [],_ :: _=>-1
 | _ :: _,[]=>1
 | a :: l,b :: m=>if a<b then -1 else if b<a then 1 else cmpL l m
theorem drop_at {l:List Int} {i:Nat} (h:i<l.length):l.drop i=l.getD i 0 :: l.drop (i+1):=by
 rw [List.drop_eq_getElem_cons h,List.getD_eq_getElem?_getD,List.getElem?_eq_getElem h];rfl
def cmp1 (x y:Int):Int:=if x<y then -1 else if y<x then 1 else 0
end Go.Proofs.Ytmcpdafmkkjlcaa.Z
namespace Go.Proofs.Ytmcpdafmkkjlcaa.Z
open Go Go.RowKit
def pdL:List Pd→List Int
 | []=>[]
 | p :: l=>p.addr :: p.val :: pdL l
theorem pdL_app:∀ (l m:List Pd),pdL (l++m)=pdL l++pdL m
 | [],m=>rfl
 | p :: l,m=>by simp [pdL,pdL_app l m]
theorem pdL_len:∀ (l:List Pd),(pdL l).length=2 * l.length
 | []=>rfl
 | p :: l=>by simp only [pdL,List.length_cons,pdL_len l];omega
def thF (s:LS) (t:Nat):List Int :=
 [(s.regs.getD t r40).a,(s.regs.getD t r40).b,(s.regs.getD t r40).c,(s.regs.getD t r40).d,s.places.getD t 0,((s.bufs.getD t []).length:Int)]++pdL (s.bufs.getD t [])
def flatT (s:LS):Nat→List Int
 | 0=>s.words
 | n+1=>flatT s n++thF s n
def flatS (s:LS):List Int:=flatT s s.regs.length
def padN (N:Nat) (l:List Int):List Int:=l++List.replicate (N - l.length) 0
theorem padN_len {N:Nat} {l:List Int} (h:l.length≤N):(padN N l).length=N:=by simp [padN];omega
theorem padN_set {N:Nat} {l:List Int} (h:l.length<N) (x:Int):(padN N l).set l.length x=padN N (l++[x]):=by
 simp only [padN,List.length_append,List.length_cons,List.length_nil]
 rw [List.set_append_right _ _ (Nat.le_refl _),Nat.sub_self,show N - l.length=(N - (l.length+1))+1 by omega,List.replicate_succ,List.set_cons_zero]
 simp
def picS (s:LS):List Int:=padN 110 (flatS s)
theorem take_split {α:Type} {a b c d:List α} (hl:a.length=c.length) (h:a++b=c++d):a=c∧b=d:=List.append_inj h hl
theorem pdL_inj:∀ {l m:List Pd},l.length=m.length→pdL l=pdL m→l=m
 | [],[],_,_=>rfl
 | [],_ :: _,h,_=>by cases h
 | _ :: _,[],h,_=>by cases h
 | p :: l,q :: m,h,e=>by
  simp only [pdL,List.cons.injEq] at e
  obtain ⟨e1,e2,e3⟩:=e
  obtain ⟨pa,pv⟩:=p
  obtain ⟨qa,qv⟩:=q
  simp only at e1 e2
  subst e1;subst e2
  rw [pdL_inj (by simpa using h) e3]
theorem thF_inj {s s' : LS} {t:Nat} {r r' : List Int} (h:thF s t++r=thF s' t++r'):s.regs.getD t r40=s'.regs.getD t r40∧s.places.getD t 0=s'.places.getD t 0∧s.bufs.getD t []=s'.bufs.getD t []∧r=r':=by
 simp only [thF,List.cons_append,List.nil_append,List.cons.injEq,List.append_assoc] at h
 obtain ⟨h1,h2,h3,h4,h5,h6,h7⟩:=h
 have hl:(s.bufs.getD t []).length=(s'.bufs.getD t []).length:=by omega
 obtain ⟨h8,h9⟩:=take_split (by rw [pdL_len,pdL_len,hl]) h7
 refine ⟨?_,h5,pdL_inj hl h8,h9⟩
 cases e:s.regs.getD t r40
 cases e' : s'.regs.getD t r40
 rw [e,e'] at h1 h2 h3 h4
 simp only at h1 h2 h3 h4
 subst h1;subst h2;subst h3;subst h4
 rfl
def flatFrom (s:LS):Nat→Nat→List Int
 | 0,_=>[]
 | n+1,t=>thF s t++flatFrom s n (t+1)
theorem flatT_from (s:LS) (k:Nat):∀ n,flatT s (k+n)=flatT s k++flatFrom s n k:=by
 have snoc:∀ n t,flatFrom s (n+1) t=flatFrom s n t++thF s (t+n):=by
  intro n
  induction n with
  | zero=>intro t;simp [flatFrom]
  | succ n ih =>
   intro t
   rw [flatFrom,ih (t+1),show t+1+n=t+(n+1) by omega]
   simp only [flatFrom,List.append_assoc]
 intro n
 induction n with
 | zero=>simp [flatFrom]
 | succ n ih=>rw [show k+(n+1)=(k+n)+1 by omega,flatT,ih,snoc];simp
theorem flatFrom_inj {s s' : LS}:∀ {n t:Nat} {r r' : List Int},flatFrom s n t++r=flatFrom s' n t++r'→∀ k,t≤k→k<t+n→s.regs.getD k r40=s'.regs.getD k r40∧s.places.getD k 0=s'.places.getD k 0∧s.bufs.getD k []=s'.bufs.getD k []
 | 0,t,r,r',_,k,h1,h2=>by omega
 | n+1,t,r,r',h,k,h1,h2=>by
  simp only [flatFrom,List.append_assoc] at h
  obtain ⟨g1,g2,g3,g4⟩:=thF_inj h
  by_cases e:k=t
  ·subst e;exact ⟨g1,g2,g3⟩
  ·exact flatFrom_inj g4 k (by omega) (by omega)
theorem ext_getD {α:Type} {l m:List α} {d:α} (hl:l.length=m.length) (h:∀ k,k<l.length→l.getD k d=m.getD k d):l=m:=by
 refine List.ext_getElem hl fun k h1 h2=>?_
 have:=h k h1
 rwa [List.getD_eq_getElem?_getD,List.getElem?_eq_getElem h1,List.getD_eq_getElem?_getD,List.getElem?_eq_getElem h2] at this
structure Shp (n m:Nat) (s:LS):Prop where
 w:s.words.length=n
 r:s.regs.length=m
 p:s.places.length=m
 b:s.bufs.length=m
theorem flat_inj {n m:Nat} {s s' : LS} {r r' : List Int} (hs:Shp n m s) (hs' : Shp n m s') (h:flatS s++r=flatS s'++r'):s=s':=by
 unfold flatS at h
 rw [hs.r,hs'.r] at h
 have e:=fun x:LS=>flatT_from x 0 m
 simp only [Nat.zero_add] at e
 rw [e s,e s',List.append_assoc,List.append_assoc] at h
 obtain ⟨hw,h⟩:=take_split (show (flatT s 0).length=(flatT s' 0).length by simp only [flatT,hs.w,hs'.w]) h
 have hk:=fun k hk=>flatFrom_inj h k (Nat.zero_le _) (by omega)
 obtain ⟨w,rg,p,b⟩:=s
 obtain ⟨w',rg',p',b'⟩:=s'
 simp only [flatT] at hw
 have h1:=hs.r;have h2:=hs.p;have h3:=hs.b
 have g1:=hs'.r;have g2:=hs'.p;have g3:=hs'.b
 simp only at h1 h2 h3 g1 g2 g3 hk
 rw [hw,ext_getD (l:=rg) (m:=rg') (d:=r40) (by omega) (fun k hk'=>(hk k (by omega)).1),ext_getD (l:=p) (m:=p') (d:=0) (by omega) (fun k hk'=>(hk k (by omega)).2.1),ext_getD (l:=b) (m:=b') (d:=[]) (by omega) (fun k hk'=>(hk k (by omega)).2.2)]
theorem pic_inj {n m:Nat} {s s' : LS} (hs:Shp n m s) (hs' : Shp n m s') (h:picS s=picS s'):s=s':=flat_inj hs hs' h
structure WfT (L:Lt) (o:Int) (s:LS):Prop where
 wf:WfS L o 10 s
 bp:∀ t,t<L.thr.length→((s.bufs.getD t []).length:Int)≤s.places.getD t 0
theorem WfT.shp {L:Lt} {o:Int} {s:LS} (h:WfT L o s):Shp L.words.length L.thr.length s:=⟨h.wf.w,h.wf.r,h.wf.p,h.wf.b⟩
theorem begin_wfT {L:Lt} (o:Int):WfT L o (beginS L):=by
 refine ⟨(begin_wf o).mono (Nat.zero_le _),fun t ht=>?_⟩
 have:=(begin_wf (L:=L) o).thr t ht
 have h1:=this.b
 have h2:=this.p0
 omega
theorem turn_wfT {L:Lt} {o:Int} {s:LS} (hL:checkB L=true) (h:WfT L o s) (t:Tn):WfT L o (turnS L o s t).1:=by
  have hwf:=turn_wf hL h.wf t
  have key:∀ k,k<L.thr.length→(((turnS L o s t).1.bufs.getD k []).length:Int)≤(turnS L o s t).1.places.getD k 0:=by
    intro k hk
    have hb:=h.bp k hk
    unfold turnS
    split
    · next ht =>
      have hk2:t.thr.toNat<L.thr.length:=by omega
      split
      · unfold outS
        split
        · exact hb
        · split
          · exact hb
          · simp only
            rw [getD_setE]
            split
            · next e =>
              rw [← e.1] at hb ⊢
              have:=List.length_eraseIdx_le (s.bufs.getD t.thr.toNat []) ‹Nat›
              omega
            · exact hb
      · split
        · exact hb
        · next hp =>
          split
          · exact hb
          · next s' f hs =>
            have g:=h.wf.thr _ hk2
            have hpl:(s.places.getD t.thr.toNat 0).toNat<(L.thr.getD t.thr.toNat []).length:=by have:=g.p0;have:=g.p1;omega
            have hc:=(fits_at hL hk2).2 _ (show (L.thr.getD t.thr.toNat []).getD (s.places.getD t.thr.toNat 0).toNat in0∈_ by rw [List.getD_eq_getElem?_getD (l:=L.thr.getD t.thr.toNat []),List.getElem?_eq_getElem hpl];exact List.getElem_mem hpl)
            obtain ⟨e1,f1,f2,hw⟩:=step_wf h.wf hk2 hc hs
            have hbk : (s'.bufs.getD k []).length≤(s.bufs.getD k []).length+(if k=t.thr.toNat then 1 else 0):=by
              unfold stepS at hs
              repeat' split at hs
              all_goals first
                | (cases hs;exact Nat.le_add_right _ _)
                | (cases hs;simp only;rw [getD_setE];by_cases e:k=t.thr.toNat
                   · rw [if_pos e];split
                     · next e2=>rw [e2.1,List.length_append];simp
                     · omega
                   · rw [if_neg (fun q=>e q.1.symm)];omega)
                | cases hs
            simp only
            rw [getD_setE,e1]
            have hlp:=h.wf.p
            split
            · next e =>
              obtain ⟨e,_⟩:=e
              rw [if_pos e.symm] at hbk
              rw [← e] at hb hbk ⊢
              have:=g.p1
              split <;> omega
            · next e =>
              have e:¬ k=t.thr.toNat:=fun q=>e ⟨q.symm,by omega⟩
              rw [if_neg e] at hbk
              omega
    · exact hb
  refine ⟨⟨hwf.w,hwf.r,hwf.p,hwf.b,fun k hk=>?_⟩,key⟩
  have g:=hwf.thr k hk
  refine ⟨g.p0,g.p1,?_,g.sc,g.pend⟩
  have h1:=key k hk
  have h2:=g.p1
  have h3:=(fits_at hL hk).1
  omega
theorem flat_le {L:Lt} {o:Int} {s:LS} (hL:checkB L=true) (h:WfT L o s) {n:Nat} (hn:n≤L.thr.length):(flatT s n).length≤6+26 * n:=by
 induction n with
 | zero=>have:=(sz_at hL).2.2.2;simp only [flatT,h.wf.w];omega
 | succ n ih =>
  have:=ih (by omega)
  have hb:=(h.wf.thr n (by omega)).b
  simp only [flatT,thF,List.length_append,List.length_cons,List.length_nil,pdL_len]
  omega
end Go.Proofs.Ytmcpdafmkkjlcaa.Z
namespace Go.Proofs.Ytmcpdafmkkjlcaa.Z
open Go Go.RowKit
theorem enterLtSt {P:Program} {A:List Nat} {f nt:Nat} {fn:Func} {x:Code} {c:IR} {w:World} {rs:List RS} {R:Ending→World→Prop} {v v' : Value} {L:Lt} {s:LS} (h:LtR w v L) (h' : StR w v' s) (sc:List SV) (args:Array Value)
  (hf:P.funcs[f]? = some fn) (hb:fn.body=some x) (hc:compC (mkTab P A) x=some c.strip) (hrs:compR (mkTab P A).T fn.results.toList=some rs) (hn:fn.ntmps=nt)
  (hargs:∀ E',(SV.agg (ltS 0)).den E' = v→(SV.agg (stS 3)).den E' = v'→(sc.map (SV.den E')).toArray=args) (hnt:sc.length≤nt)
  (hex:exec (mkC P A w rs R) 1000 [.code c] ⟨nt,enumT 0 sc,[],ltA 0 L++stA 3 s,[],8⟩):Calls P f args w R:=by
 obtain ⟨vw,vt,rfl,h1,us,h4,h5,h6⟩:=h
 obtain ⟨vw',vr',vp',vb',rfl,h1',h2',h3',us',h4',h5',h6'⟩:=h'
 refine enterL [fun _=>vw,fun _=>vt,fun k=>us.getD k nest0,fun _=>vw',fun _=>vr',fun _=>vp',fun _=>vb',fun k=>us'.getD k nest0] ⟨fun _=>arr_one h1,fun _=>arr_one h4,nest_one h5 h6,fun _=>arr_one h1',fun _=>arr_one h2',fun _=>arr_one h3',fun _=>arr_one h4',nest_one h5' h6',trivial⟩
  (rd_one 0 0 eI_ok h1 (by simp) rfl (rd_nest 1 2 in0 in_ok h4 h5 h6 (by simp) (by simp) rfl (fun _=>rfl) (rd_one 3 0 eI_ok h1' (by simp) rfl (rd_one 4 r40 r4_ok h2' (by simp) rfl (rd_one 5 0 eI_ok h3' (by simp) rfl (rd_nest 6 7 pd0 pd_ok h4' h5' h6' (by simp) (by simp) rfl (fun _=>rfl) rd_nil))))))
  sc args hf hb hc hrs hn (fun E' hE'=>hargs E' ?_ ?_) hnt hex
 ·have e:=fun i hi=>hE' i 0 0 hi
  simp only [SV.den,ltS,List.map_cons,List.map_nil,SC.den,Nat.reduceAdd,e 0 (by simp),e 1 (by simp)]
  rfl
 ·have e:=fun i hi=>hE' i 0 0 hi
  simp only [SV.den,stS,List.map_cons,List.map_nil,SC.den,Nat.reduceAdd,e 3 (by simp),e 4 (by simp),e 5 (by simp),e 6 (by simp)]
  rfl
end Go.Proofs.Ytmcpdafmkkjlcaa.Z
namespace Go.Proofs.Ytmcpdafmkkjlcaa.Z
open Go Go.RowKit
theorem le_nilcell {C:Ctx} {nt:Nat} {tmps:List (Nat×SV)} {own:Own} {arrs:List (Nat×Fm ArrF)} {facts:List (Env→World→Prop)} {nid:Nat} (j s ty ty' : Nat) (cs cs' : List SC) (at_:Nat→List SC)
  (hj:look own j=some (.one (.bk cs ty'))) (hn:look own nid=none) (hc:∀ E:Env,E.ν (nid,0,0)=true→E.κ (nid,0,0)=0→cs'.map (SC.den E)=cs.map (SC.den E)) :
  Le C ⟨nt,tmps,own,arrs,facts,nid⟩ ⟨nt,tmps,(nid,.one (.ar 0 s at_ ty)) :: setL own j (.one (.bk cs' ty')),arrs,facts,nid+1⟩:=by
 intro E a w hs
 refine ⟨⟨E.ρ,fun x=>if x.1=nid then 0 else E.κ x,fun x=>if x.1=nid then true else E.ν x,E.χ⟩,fun x=>hs.1 x,fun E2 hE2 ho2=>?_⟩
 have hs2:=hs.2 E2 (fun x hx=>by
  have h:=hE2 x (Nat.lt_succ_of_lt hx)
  have hne:x.1≠nid:=by have:x.1<nid:=hx;omega
  simp only [Same,hne,if_false] at h
  exact h) ho2
 have hsz:=hE2 (nid,0,0) (Nat.lt_succ_self nid)
 have hκ:E2.κ (nid,0,0)=0:=by have h:=hsz.2.1;simpa using h
 have hν:E2.ν (nid,0,0)=true:=by have h:=hsz.2.2.1;simpa using h
 obtain ⟨H,hH,hF⟩:=hs2.mem
 have hat:∀ x b,atN own x=some b→x.1≠nid:=fun x b h e=>by
  obtain ⟨F,hF,_⟩:=atN_some h
  rw [e,hn] at hF
  cases hF
 have hatj:atN own (j,0,0)=some (.bk cs ty'):=by simp [atN,hj,Fm.get]
 have hold:∀ x b,atN (setL own j (.one (.bk cs' ty'))) x=some b→(x=(j,0,0)∧b = .bk cs' ty')∨(x.1≠j∧atN own x=some b):=by
  rintro ⟨k,p,q⟩ b hx
  simp only [atN,look_setL] at hx
  by_cases e:j=k
  ·subst e
   rw [if_pos rfl] at hx
   simp only [Fm.get] at hx
   split at hx
   ·next e=>obtain ⟨rfl,rfl⟩:=e;cases hx;exact Or.inl ⟨rfl,rfl⟩
   ·cases hx
  ·rw [if_neg e] at hx
   exact Or.inr ⟨fun e2=>e e2.symm,hx⟩
 have hwas:∀ x b,atN (setL own j (.one (.bk cs' ty'))) x=some b→∃ c,atN own x=some c:=fun x b hx=>by
  rcases hold x b hx with ⟨rfl,rfl⟩ | ⟨_,hx⟩
  ·exact ⟨_,hatj⟩
  ·exact ⟨_,hx⟩
 refine ⟨hs2.size,hs2.defers,ho2,hs2.tmps,hs2.frame,fun x=>if x.1=nid then emp else H x,⟨fun x b hb=>?_,fun x y b c hb hc hne n=>?_,fun x b hb n o hn=>?_⟩,fun w' hw'=>?_⟩
 ·rcases atN_one hb with ⟨rfl,rfl⟩ | hb
  ·exact Or.inl ⟨trivial,hκ,rfl,by simp⟩
  ·obtain ⟨c,hc'⟩:=hwas x b hb
   simp only [hat x c hc',if_false]
   rcases hold x b hb with ⟨rfl,rfl⟩ | ⟨_,hx⟩
   ·have:=hH.den _ _ hatj
    simp only [Blk.den] at this ⊢
    rw [this,hc E2 hν hκ]
   ·exact hH.den x b hx
 ·rcases atN_one hb with ⟨rfl,rfl⟩ | hb
  ·simp [emp]
  ·rcases atN_one hc with ⟨rfl,rfl⟩ | hc
   ·simp [emp]
   ·obtain ⟨b',hb'⟩:=hwas x b hb
    obtain ⟨c',hc'⟩:=hwas y c hc
    simp only [hat x b' hb',hat y c' hc',if_false]
    exact hH.disj x y b' c' hb' hc' hne n
 ·rcases atN_one hb with ⟨rfl,rfl⟩ | hb
  ·simp [emp] at hn
  ·obtain ⟨b',hb'⟩:=hwas x b hb
   simp only [hat x b' hb',if_false] at hn
   exact hH.sub x b' hb' n o hn
 ·exact hF w' fun n hn hfr=>hw' n hn fun x b hb=>by
   rcases atN_one hb with ⟨rfl,rfl⟩ | hb
   ·simp [emp]
   ·obtain ⟨b',hb'⟩:=hwas x b hb
    simp only [hat x b' hb',if_false]
    exact hfr x b' hb'
def thC (i:Nat) (L:Lt) (k:Nat):List SC:=[.sl (i,k,0) 7 0 (L.thr.getD k []).length none]
def thO (L:Lt) (k:Nat):Blk:=.ar (L.thr.getD k []).length 7 (ats Ins.enc (L.thr.getD k []) in0) 83
def twO (b:Nat) (L:Lt):Own:=[(b,.one (.ar L.words.length 1 (ats eI L.words 0) 3)),(b+1,.one (.ar L.thr.length 1 (thC (b+2) L) 80)),(b+2,.fam L.thr.length (thO L))]
def twS (b:Nat) (L:Lt):List SC:=[.sl (b,0,0) 1 0 L.words.length none,.sl (b+1,0,0) 1 0 L.thr.length none]
theorem fit24 (n:Nat) (h:n * 24≤140737488355328):(n+n / 4+192) * 24≤281474976710656:=by omega
theorem fit56 (n:Nat) (h:n * 56≤140737488351232):(n+n / 4+192) * 56≤281474976710656∧n≤9223372036854775807:=by omega
def LtSz (L:Lt):Prop:=L.words.length * 8≤140737488351232∧L.thr.length * 24≤140737488351232∧∀ k,k<L.thr.length→(L.thr.getD k []).length * 56≤140737488351232
def twσ (i:Nat) (x:Nm):Nm:=if x.1=7 then (12,x.2) else if x.1=8 then (if x.2.1=i then (10,0,0) else x) else x
theorem twσ_inj {i:Nat} {a3 a4 a5 a6 a7:Blk} {f:Nat→Blk}:InjN (twσ i) [(3,.one a3),(4,.one a4),(5,.one a5),(6,.one a6),(7,.one a7),(8,.fam (i+1) f)]:=by
 have hx2:∀ z c,atN ([(3,.one a3),(4,.one a4),(5,.one a5),(6,.one a6),(7,.one a7),(8,.fam (i+1) f)]:Own) z=some c→z=(3,0,0)∨z=(4,0,0)∨z=(5,0,0)∨z=(6,0,0)∨z=(7,0,0)∨∃ k,z=(8,k,0):=fun z c hz=>by
  rcases atN_one hz with ⟨rfl,_⟩ | hz
  ·simp
  rcases atN_one hz with ⟨rfl,_⟩ | hz
  ·simp
  rcases atN_one hz with ⟨rfl,_⟩ | hz
  ·simp
  rcases atN_one hz with ⟨rfl,_⟩ | hz
  ·simp
  rcases atN_one hz with ⟨rfl,_⟩ | hz
  ·simp
  rcases atN_fam hz with ⟨k,_,rfl,_⟩ | hz
  ·simp
  ·exact (atN_nil hz).elim
 have t8:∀ k,twσ i (8,k,0)=if k=i then (10,0,0) else (8,k,0):=fun k=>rfl
 have ne8:∀ k (a:Nm),a.1≠10→a.1≠8→twσ i (8,k,0)≠a:=fun k a h1 h2 e=>by
  rw [t8] at e
  split at e <;> subst e
  ·exact h1 rfl
  ·exact h2 rfl
 intro x y b c hx hy e
 rcases hx2 _ _ hx with rfl | rfl | rfl | rfl | rfl | ⟨k,rfl⟩ <;> rcases hx2 _ _ hy with rfl | rfl | rfl | rfl | rfl | ⟨k',rfl⟩ <;> first
  | rfl
  | (rw [t8,t8] at e;by_cases h1:k=i <;> by_cases h2:k' = i <;> simp [h1,h2] at e ⊢;first | done | exact e)
  | exact absurd e.symm (ne8 k' _ (by simp [twσ]) (by simp [twσ]))
  | exact absurd e (ne8 k _ (by simp [twσ]) (by simp [twσ]))
  | (simp [twσ] at e;done)
def ir10:IR:=(.seq (.ops [⟨(some 1),(.box 25 (.t 0)),none⟩,⟨(some 2),(.new 25 [(.v (.slice none 0 0)),(.v (.slice none 0 0))]),none⟩]) (.kill [0,3,4,5,6,7,8,9,10,11] (.seq (.ops [⟨(some 5),(.mkSl 3 0 1 [] []),none⟩,⟨(some 6),(.fa 0 (.t 1)),none⟩,⟨(some 7),(.ld false 1 (.t 6)),none⟩,⟨(some 8),(.app 3 1 8 [(.v (.int .i64 0))] (.t 5) (.t 7)),none⟩,⟨(some 9),(.build [(.v (.slice none 0 0)),(.v (.slice none 0 0))] [(0,(1,(.t 8)))]),none⟩,⟨(some 3),(.new 25 [(.v (.slice none 0 0)),(.v (.slice none 0 0))]),none⟩,⟨none,(.st 2 (.t 3) (.t 9)),none⟩]) (.kill [5,6,7,8,9] (.seq (.seq (.ops [⟨(some 4),(.mv (.k (.c (.v (.int .i64 0))))),none⟩]) (.blk 0 (.loop (.seq (.seq (.ops [⟨(some 10),(.mv (.t 4)),none⟩,⟨(some 11),(.fa 1 (.t 1)),none⟩,⟨(some 12),(.ld false 1 (.t 11)),none⟩,⟨(some 13),(.len (.t 12)),none⟩,⟨(some 14),(.bin .lss (.t 10) (.t 13)),none⟩]) (.kill [10,11,12,13,15,16,17,18,19,20,21,22,23,24,25,26,27,28] (.cond (.t 14) .skip (.exit 0)))) (.kill [14] (.seq (.blk 1 (.draw [(⟨(some 17),(.fa 1 (.t 3)),none⟩,([],[19,20,21,22,23,24,25,26])),(⟨(some 18),(.ld false 1 (.t 17)),none⟩,([],[19,20,21,22,23,24,25,26])),(⟨(some 19),(.mkSl 83 0 7 [] []),none⟩,([0,1],[17,18,20,21,22,23,24])),(⟨(some 20),(.fa 1 (.t 1)),none⟩,([0,1,2],[17,18,19,22])),(⟨(some 21),(.ld false 1 (.t 20)),none⟩,([0,1,2],[17,18,19,22])),(⟨(some 22),(.mv (.t 4)),none⟩,([0,1,2,3,4],[17,18,19,20,21])),(⟨(some 23),(.ia 1 (.t 21) (.t 22)),none⟩,([0,1,2],[17,18,19])),(⟨(some 24),(.ld false 1 (.t 23)),none⟩,([0,1,2],[17,18,19])),(⟨(some 25),(.app 83 7 56 [(.v (.int .i64 0)),(.v (.int .i64 0)),(.v (.int .i64 0)),(.v (.int .i64 0)),(.v (.int .i64 0)),(.v (.int .i64 0)),(.v (.int .i64 0))] (.t 19) (.t 24)),none⟩,([0,1],[17,18])),(⟨(some 26),(.mkSl 80 1 1 [(.v (.slice none 0 0))] [(0,(1,(.t 25)))]),none⟩,([0,1],[17,18])),(⟨(some 27),(.app 80 1 24 [(.v (.slice none 0 0))] (.t 18) (.t 26)),none⟩,([],[])),(⟨(some 28),(.fa 1 (.t 3)),none⟩,([],[])),(⟨none,(.st 1 (.t 28) (.t 27)),none⟩,([],[]))])) (.kill [17,18,19,20,21,22,23,24,25,26,27,28] (.ops [⟨(some 15),(.mv (.t 4)),none⟩,⟨(some 16),(.bin .add (.t 15) (.k (.c (.v (.int .i64 1))))),none⟩,⟨(some 4),(.mv (.t 16)),none⟩])))))))) (.kill [1,4,10,11,12,13,14,15,16,17,18,19,20,21,22,23,24,25,26,27,28] (.seq (.ops [⟨(some 29),(.ld true 2 (.t 3)),none⟩,⟨none,(.st 2 (.t 2) (.t 29)),none⟩]) (.kill [3,29] .ret))))))))
def rs10:List RS:=[(.cell 2 true 2)]
def nt10:Nat:=30
set_option maxRecDepth 100000 in
set_option maxHeartbeats 1000000 in
theorem twin_calls (w:World) (v:Value) (L:Lt) (hsz:LtSz L) (h:LtR w v L):Calls Try.prog 10 #[v] w (RetN w 3 (fun b=>.agg (twS b L)) (fun b=>twO b L)):=by
 refine enterLt (A:=[]) (c:=ir10) (rs:=rs10) (nt:=nt10) h [.agg (ltS 0)] _ Try.func10 rfl (by kernel_rfl) (by kernel_rfl) rfl (fun E' h0=>by simp only [List.map_cons,List.map_nil,h0]) (of_decide_eq_true rfl) ?_
 obtain ⟨z1,z2,z3⟩:=hsz
 have y1:(L.words.length+L.words.length / 4+192) * 8≤281474976710656:=by omega
 simp (maxSteps:=2000000) only [ir10,nt10,rs10,go_sem,↓reduceIte,Nat.reduceLT,Nat.reduceLeDiff,Nat.reduceAdd,Nat.reduceSub,Nat.reduceMul,Nat.reduceEqDiff,reduceCtorEq,Int.reduceToNat,Int.reduceEq,Int.reduceBEq,Int.reduceBNe,Int.reduceLT,Int.reduceLE,Int.reduceNeg,Int.reduceAdd,Int.reduceSub,Int.reduceMul,Int.reduceGE,Int.reduceGT,endO,ltA,ltS]
 refine And.intro (by decide) (And.intro ⟨y1,by simp only [maxLen];omega⟩ ?_)
 refine loopI (ι:={ i:Nat // i≤L.thr.length }) (fun i=>⟨30,[(1,.c (.ptr (3,0,0) 0)),(2,.c (.ptr (4,0,0) 0)),(3,.c (.ptr (5,0,0) 0)),(4,.c (.v (.int .i64 (i.1:Nat))))],
  [(3,.one (.bk [.xv (0,0,0),.xv (1,0,0)] 25)),(4,.one (.bk [.v (.slice none 0 0),.v (.slice none 0 0)] 25)),(5,.one (.bk [.sl (6,0,0) 1 0 L.words.length none,.sl (7,0,0) 1 0 i.1 none] 25)),(6,.one (.ar L.words.length 1 (ats eI L.words 0) 3)),(7,.one (.ar i.1 1 (thC 8 L) 80)),(8,.fam i.1 (thO L))],[(0,.one (arrOf eI 1 L.words 0)),(1,.one (nestF 2 L.thr.length)),(2,.fam L.thr.length fun k=>arrOf Ins.enc 7 (L.thr.getD k []) in0)],[],9⟩)
  (fun i=>L.thr.length - i.1) ⟨0,by omega⟩ ?_ ?_
 ·refine le_tr (le_nilcell 7 1 80 25 _ [.sl (6,0,0) 1 0 L.words.length none,.sl (8,0,0) 1 0 0 none] (thC 8 L) rfl rfl (fun E h1 h2=>by simp [SC.den,h1,h2])) ?_
  refine le_ren (fun i=>if i=5 then 7 else if i=7 then 8 else if i=8 then 9 else i) rfl rfl (by simp [TmpsLe,look,SV.ren,SC.ren,SC.renL,ren1L,ren1,idσ,SV.okN,SC.okN,SC.okL,ok1L]) ?_ (by simp +contextual [ArrsLe,ArrLeO,atN,look,Fm.get,idσ,arrLe_of,arrLe_0,arrLe_nest]) rfl
  simp [OwnLe,BlkLeO,BlkLe,atN,look,setL,Fm.get,idσ,SC.renL,SC.ren,SC.okL,SC.okN,renL_v,okL_v,ren_ats,ok_ats,appAt,arrOf_ats]
 rintro ⟨i,hi⟩
 simp (maxSteps:=2000000) only [go_sem,↓reduceIte,Nat.reduceLT,Nat.reduceLeDiff,Nat.reduceAdd,Nat.reduceSub,Nat.reduceMul,Nat.reduceEqDiff,reduceCtorEq,Int.reduceToNat,Int.reduceEq,Int.reduceBEq,Int.reduceBNe,Int.reduceLT,Int.reduceLE,Int.reduceNeg,Int.reduceAdd,Int.reduceSub,Int.reduceMul,Int.reduceGE,Int.reduceGT,endO,thC,thO]
 refine both (fun hlt=>?_) (fun hge=>?_)
 ·rw [decide_eq_true_eq] at hlt
  have hlt:i<L.thr.length:=by omega
  refine draw_vc (by kernel_rfl) (mkTab_ok _ _) (of_decide_eq_true rfl) (of_decide_eq_true rfl) ?_
  repeat (first | simp (maxSteps:=2000000) only [go_sem,↓reduceIte,Nat.reduceLT,Nat.reduceLeDiff,Nat.reduceAdd,Nat.reduceSub,Nat.reduceMul,Nat.reduceEqDiff,reduceCtorEq,Int.reduceToNat,Int.reduceEq,Int.reduceBEq,Int.reduceBNe,Int.reduceLT,Int.reduceLE,Int.reduceNeg,Int.reduceAdd,Int.reduceSub,Int.reduceMul,Int.reduceGE,Int.reduceGT,endO,thC,thO] | rw [dr_cons])
  have y2:=fit56 _ (z3 i hlt)
  have y3:(i+1+(i+1) / 4+192) * 24≤281474976710656:=fit24 (i+1) (Nat.le_trans (Nat.mul_le_mul_right 24 hlt) (Nat.le_trans z2 (by decide)))
  have y5:i+1≤maxLen:=Nat.le_trans hlt (by simp only [maxLen];omega)
  refine And.intro (by decide) (And.intro (Or.inl trivial) (And.intro hlt (And.intro hlt (And.intro ⟨hlt,y2.1,y2.2⟩ (And.intro ⟨Or.inl trivial,Or.inr trivial⟩ (And.intro (by decide) (And.intro (Or.inl trivial) (And.intro ⟨Nat.le_refl _,y3,y5⟩ (And.intro ⟨Or.inl trivial,Or.inr trivial⟩ (And.intro (Or.inr trivial) ?_))))))))))
  rw [wr_succ (by omega)]
  refine backI ⟨i+1,by omega⟩ (by simp only;omega) (le_nm (twσ i) ⟨rfl,rfl,by simp [TmpsLe,look,SV.ren,SC.ren,twσ,SV.okN,SC.okN],?_,?_,?_⟩)
  ·refine ⟨⟨of_decide_eq_true rfl,by simp [BlkLeO,BlkLe,atN,look,Fm.get,twσ,SC.renL,SC.ren,SC.okL,SC.okN]⟩,⟨of_decide_eq_true rfl,by simp [BlkLeO,BlkLe,atN,look,Fm.get,twσ,SC.renL,SC.ren,SC.okL,SC.okN]⟩,⟨of_decide_eq_true rfl,by simp [BlkLeO,BlkLe,atN,look,Fm.get,twσ,SC.renL,SC.ren,SC.okL,SC.okN]⟩,⟨of_decide_eq_true rfl,arLe_same⟩,⟨of_decide_eq_true rfl,?_⟩,⟨of_decide_eq_true rfl,fun k hk=>?_⟩,trivial⟩
   ·refine ⟨Nat.le_refl _,rfl,rfl,fun e he=>⟨?_,by simp [thC,SC.okL,SC.okN]⟩⟩
    by_cases h:e=i
    ·subst h;simp [appAt,thC,SC.renL,SC.ren,twσ,take',drop',segs]
    ·have:e<i:=by have he' : e<i+1:=he;omega
     simp [appAt,this,thC,SC.renL,SC.ren,twσ,h]
   ·by_cases h:k=i
    ·subst h
     simp only [twσ,atN,look,Nat.reduceEqDiff,reduceIte,Fm.get,and_self,thO]
     exact arLe_of (Nat.le_refl _) fun e he=>by simp [appAt,arrOf_ats]
    ·have:k<i:=by have hk' : k<i+1:=hk;omega
     simp only [twσ,atN,look,Nat.reduceEqDiff,reduceIte,Fm.get,h,this,and_self,thO]
     exact arLe_same
  ·refine ⟨⟨of_decide_eq_true rfl,arrLe_of⟩,⟨of_decide_eq_true rfl,⟨rfl,rfl,fun e _=>⟨by simp [nestF,SC.renL,SC.ren,twσ],by simp [nestF,SC.okL,SC.okN]⟩,Nat.le_refl _⟩⟩,⟨of_decide_eq_true rfl,fun k hk=>?_⟩,trivial⟩
   simp only [twσ,atN,look,Nat.reduceEqDiff,reduceIte,Fm.get,hk,and_self]
   exact arrLe_of
  ·exact twσ_inj
 ·rw [decide_eq_false_iff_not] at hge
  have hin:i=L.thr.length:=by omega
  subst hin
  refine retN (fun j=>j+6) (fun b=>⟨?_,?_⟩) (fun b=>?_) (fun b=>?_)
  ·simp [twS,SV.ren,SC.renL,SC.ren,fromσ]
  ·simp [twS,SV.okN,SC.okL,SC.okN,NewIds]
  ·refine ⟨⟨⟨by omega,by omega⟩,?_⟩,⟨⟨by omega,by omega⟩,?_⟩,⟨⟨by omega,by omega⟩,fun k hk=>?_⟩,trivial⟩
   ·simp only [fromσ,Nat.sub_self,Nat.zero_add,atN,look,Nat.reduceEqDiff,reduceIte,Fm.get,and_self];exact arLe_same
   ·simp only [fromσ,Nat.add_sub_cancel_left,Nat.reduceAdd,atN,look,Nat.reduceEqDiff,reduceIte,Fm.get,and_self]
    exact ⟨Nat.le_refl _,rfl,rfl,fun e he=>⟨by simp [thC,SC.renL,SC.ren,fromσ],by simp [thC,SC.okL,SC.okN,NewIds]⟩⟩
   ·simp only [fromσ,Nat.add_sub_cancel_left,Nat.reduceAdd,atN,look,Nat.reduceEqDiff,reduceIte,Fm.get,hk,and_self,thO];exact arLe_same
  ·exact injN_from fun x hx y hy e=>by
    simp [twO,keysL] at hx hy
    omega
end Go.Proofs.Ytmcpdafmkkjlcaa.Z
namespace Go.Proofs.Ytmcpdafmkkjlcaa.Z
open Go Go.RowKit
theorem enterSt {P:Program} {A:List Nat} {f nt:Nat} {fn:Func} {x:Code} {c:IR} {w:World} {rs:List RS} {R:Ending→World→Prop} {v:Value} {s:LS} (h:StR w v s)
  (hf:P.funcs[f]? = some fn) (hb:fn.body=some x) (hc:compC (mkTab P A) x=some c.strip) (hrs:compR (mkTab P A).T fn.results.toList=some rs) (hn:fn.ntmps=nt) (hnt:1≤nt)
  (hex:exec (mkC P A w rs R) 1000 [.code c] ⟨nt,enumT 0 [.agg (stS 0)],[],stA 0 s,[],5⟩):Calls P f #[v] w R:=by
 obtain ⟨vw,vr,vp,vb,rfl,h1,h2,h3,us,h4,h5,h6⟩:=h
 refine enterL [fun _=>vw,fun _=>vr,fun _=>vp,fun _=>vb,fun k=>us.getD k nest0] ⟨fun _=>arr_one h1,fun _=>arr_one h2,fun _=>arr_one h3,fun _=>arr_one h4,nest_one h5 h6,trivial⟩
  (rd_one 0 0 eI_ok h1 (by simp) rfl (rd_one 1 r40 r4_ok h2 (by simp) rfl (rd_one 2 0 eI_ok h3 (by simp) rfl (rd_nest 3 4 pd0 pd_ok h4 h5 h6 (by simp) (by simp) rfl (fun _=>rfl) rd_nil))))
  [.agg (stS 0)] _ hf hb hc hrs hn (fun E' hE'=>?_) hnt hex
 have e:=fun i hi=>hE' i 0 0 hi
 simp only [List.map_cons,List.map_nil,SV.den,stS,SC.den,e 0 (by simp),e 1 (by simp),e 2 (by simp),e 3 (by simp),Nat.reduceAdd]
 rfl
def cpσ (l f i a b:Nat) (x:Nm):Nm:=if x.1=l then (a,x.2) else if x.1=f then (if x.2.1=i then (b,0,0) else x) else x
theorem cpσ_inj {l f i a b n:Nat} {F:Nat→Blk} {own:Own} (hk:∀ k∈keysL own,k≤f) (hf:look own f=some (.fam n F)) (hlf:l<f) (ha:f<a) (hb:f<b) (hab:a≠b):InjN (cpσ l f i a b) own:=by
 have hx2:∀ z c,atN own z=some c→z.1≤f∧(z.1=f→z.2.2=0):=fun z c hz=>by
  obtain ⟨G,hG,hg⟩:=atN_some hz
  refine ⟨hk _ (look_keysL hG),fun e=>?_⟩
  rw [e,hf] at hG
  cases hG
  simp only [Fm.get] at hg
  split at hg
  ·next h=>exact h.2
  ·cases hg
 intro x y c d hx hy e
 obtain ⟨hx1,hx2'⟩:=hx2 x c hx
 obtain ⟨hy1,hy2'⟩:=hx2 y d hy
 obtain ⟨x1,x2,x3⟩:=x
 obtain ⟨y1,y2,y3⟩:=y
 simp only at hx1 hx2' hy1 hy2'
 have key:∀ z1 z2 z3:Nat,z1≤f→(z1=f→z3=0)→(cpσ l f i a b (z1,z2,z3)=(a,z2,z3)∧z1=l)∨(cpσ l f i a b (z1,z2,z3)=(b,0,0)∧z1=f∧z2=i∧z3=0)∨(cpσ l f i a b (z1,z2,z3)=(z1,z2,z3)∧z1≠l∧¬ (z1=f∧z2=i)):=fun z1 z2 z3 h1 h2=>by
  unfold cpσ
  simp only
  by_cases g1:z1=l
  ·rw [if_pos g1];exact Or.inl ⟨rfl,g1⟩
  ·rw [if_neg g1]
   by_cases g2:z1=f
   ·rw [if_pos g2]
    by_cases g3:z2=i
    ·rw [if_pos g3];exact Or.inr (Or.inl ⟨rfl,g2,g3,h2 g2⟩)
    ·rw [if_neg g3];exact Or.inr (Or.inr ⟨rfl,g1,fun h=>g3 h.2⟩)
   ·rw [if_neg g2];exact Or.inr (Or.inr ⟨rfl,g1,fun h=>g2 h.1⟩)
 clear hk hf hx hy
 have k1:=key x1 x2 x3 hx1 hx2'
 have k2:=key y1 y2 y3 hy1 hy2'
 rw [e] at k1
 generalize cpσ l f i a b (y1,y2,y3)=q at k1 k2
 obtain ⟨q1,q2,q3⟩:=q
 simp only [Prod.mk.injEq] at k1 k2 ⊢
 omega
theorem fit16 (n:Nat) (h:n * 16≤140737488351232):(n+n / 4+192) * 16≤281474976710656∧n≤9223372036854775807:=by omega
def LsSz (s:LS):Prop:=s.words.length * 8≤140737488351232∧s.regs.length * 32≤140737488351232∧s.places.length * 8≤140737488351232∧s.bufs.length * 24≤140737488351232∧∀ k,k<s.bufs.length→(s.bufs.getD k []).length * 16≤140737488351232
def ir46:IR:=(.seq (.ops [⟨(some 1),(.box 32 (.t 0)),none⟩,⟨(some 2),(.new 32 [(.v (.slice none 0 0)),(.v (.slice none 0 0)),(.v (.slice none 0 0)),(.v (.slice none 0 0))]),none⟩]) (.kill [0,3,4,5,6,7,8,9,10,11] (.seq (.draw [(⟨(some 6),(.fa 0 (.t 1)),none⟩,([],[9,10,12,13,3])),(⟨(some 7),(.ld false 1 (.t 6)),none⟩,([],[9,10,12,13,3])),(⟨(some 8),(.call 44 [(.t 7)]),none⟩,([],[9,10,12,13,3])),(⟨(some 9),(.fa 1 (.t 1)),none⟩,([0,1,2],[6,7,8,12,13,3])),(⟨(some 10),(.ld false 1 (.t 9)),none⟩,([0,1,2],[6,7,8,12,13,3])),(⟨(some 11),(.call 81 [(.t 10)]),none⟩,([],[12,13,3])),(⟨(some 12),(.fa 2 (.t 1)),none⟩,([0,1,2,3,4,5],[6,7,8,9,10,11,3])),(⟨(some 13),(.ld false 1 (.t 12)),none⟩,([0,1,2,3,4,5],[6,7,8,9,10,11,3])),(⟨(some 14),(.call 44 [(.t 13)]),none⟩,([],[3])),(⟨(some 15),(.build [(.v (.slice none 0 0)),(.v (.slice none 0 0)),(.v (.slice none 0 0)),(.v (.slice none 0 0))] [(0,(1,(.t 8))),(1,(1,(.t 11))),(2,(1,(.t 14)))]),none⟩,([],[3])),(⟨(some 3),(.new 32 [(.v (.slice none 0 0)),(.v (.slice none 0 0)),(.v (.slice none 0 0)),(.v (.slice none 0 0))]),none⟩,([0,1,2,3,4,5,6,7,8,9],[6,7,8,9,10,11,12,13,14,15])),(⟨none,(.st 4 (.t 3) (.t 15)),none⟩,([],[]))]) (.kill [6,7,8,9,10,11,12,13,14,15] (.seq (.seq (.ops [⟨(some 16),(.fa 3 (.t 1)),none⟩,⟨(some 17),(.ld false 1 (.t 16)),none⟩,⟨(some 18),(.len (.t 17)),none⟩,⟨(some 19),(.mv (.k (.c (.v (.int .i64 0))))),none⟩]) (.kill [1,16] (.blk 0 (.loop (.seq (.ops [⟨(some 20),(.bin .lss (.t 19) (.t 18)),none⟩]) (.kill [5,21,22,23,24,25,26,27,28,29,30] (.seq (.cond (.t 20) .skip (.exit 0)) (.kill [20] (.seq (.blk 1 (.seq (.ops [⟨(some 21),(.ia 1 (.t 17) (.t 19)),none⟩,⟨(some 22),(.ld false 1 (.t 21)),none⟩,⟨(some 5),(.mv (.t 22)),none⟩]) (.kill [21,22] (.draw [(⟨(some 23),(.fa 3 (.t 3)),none⟩,([],[25,26,27])),(⟨(some 24),(.ld false 1 (.t 23)),none⟩,([],[25,26,27])),(⟨(some 25),(.mv (.t 5)),none⟩,([0,1],[23,24])),(⟨(some 26),(.call 82 [(.t 25)]),none⟩,([0,1],[23,24])),(⟨(some 27),(.mkSl 86 1 1 [(.v (.slice none 0 0))] [(0,(1,(.t 26)))]),none⟩,([0,1],[23,24])),(⟨(some 28),(.app 86 1 24 [(.v (.slice none 0 0))] (.t 24) (.t 27)),none⟩,([],[])),(⟨(some 29),(.fa 3 (.t 3)),none⟩,([],[])),(⟨none,(.st 1 (.t 29) (.t 28)),none⟩,([],[]))])))) (.kill [5,21,22,23,24,25,26,27,28,29] (.ops [⟨(some 30),(.bin .add (.t 19) (.k (.c (.v (.int .i64 1))))),none⟩,⟨(some 19),(.mv (.t 30)),none⟩]))))))))))) (.kill [5,17,18,19,20,21,22,23,24,25,26,27,28,29,30] (.seq (.ops [⟨(some 31),(.ld true 4 (.t 3)),none⟩,⟨none,(.st 4 (.t 2) (.t 31)),none⟩]) (.kill [3,31] .ret))))))))
def rs46:List RS:=[(.cell 2 true 4)]
def nt46:Nat:=32
set_option maxRecDepth 100000 in
set_option maxHeartbeats 1000000 in
theorem icopy_calls (w:World) (v:Value) (s:LS) (hsz:LsSz s) (h:StR w v s):Calls Try.prog 46 #[v] w (RetN w 5 (fun b=>.agg (stC b s)) (fun b=>stO b s)):=by
 refine enterSt (A:=[]) (c:=ir46) (rs:=rs46) (nt:=nt46) h Try.func46 rfl (by kernel_rfl) (by kernel_rfl) rfl (of_decide_eq_true rfl) ?_
 obtain ⟨z1,z2,z3,z4,z5⟩:=hsz
 simp (maxSteps:=2000000) only [ir46,nt46,rs46,go_sem,↓reduceIte,Nat.reduceLT,Nat.reduceLeDiff,Nat.reduceAdd,Nat.reduceSub,Nat.reduceMul,Nat.reduceEqDiff,reduceCtorEq,Int.reduceToNat,Int.reduceEq,Int.reduceBEq,Int.reduceBNe,Int.reduceLT,Int.reduceLE,Int.reduceNeg,Int.reduceAdd,Int.reduceSub,Int.reduceMul,Int.reduceGE,Int.reduceGT,endO,stA,stS]
 refine draw_vc (by kernel_rfl) (mkTab_ok _ _) (of_decide_eq_true rfl) (of_decide_eq_true rfl) ?_
 repeat (first | simp (maxSteps:=2000000) only [go_sem,↓reduceIte,Nat.reduceLT,Nat.reduceLeDiff,Nat.reduceAdd,Nat.reduceSub,Nat.reduceMul,Nat.reduceEqDiff,reduceCtorEq,Int.reduceToNat,Int.reduceEq,Int.reduceBEq,Int.reduceBNe,Int.reduceLT,Int.reduceLE,Int.reduceNeg,Int.reduceAdd,Int.reduceSub,Int.reduceMul,Int.reduceGE,Int.reduceGT,endO] | rw [dr_cons])
 refine dcallN 1 (lsT 1 s.words.length) (lsO 3 1 eI s.words 0) (fun E a w' hs=>(clone_ints (arr_at (d:=0) hs 0 rfl) (Nat.le_trans z1 (by decide))).mono fun e w2 he=>retN_of (d:=0) eI_ok he) ?_ ?_
 ·simp [newOk,keysL,lsO]
 repeat (first | simp (maxSteps:=2000000) only [go_sem,↓reduceIte,Nat.reduceLT,Nat.reduceLeDiff,Nat.reduceAdd,Nat.reduceSub,Nat.reduceMul,Nat.reduceEqDiff,reduceCtorEq,Int.reduceToNat,Int.reduceEq,Int.reduceBEq,Int.reduceBNe,Int.reduceLT,Int.reduceLE,Int.reduceNeg,Int.reduceAdd,Int.reduceSub,Int.reduceMul,Int.reduceGE,Int.reduceGT,endO,lsT,lsO] | rw [dr_cons])
 refine dcallN 1 (lsT 4 s.regs.length) (lsO 68 4 R4.enc s.regs r40) (fun E a w' hs=>(clone_regs (arr_at (d:=r40) hs 1 rfl) (Nat.le_trans z2 (by decide))).mono fun e w2 he=>retN_of (d:=r40) r4_ok he) ?_ ?_
 ·simp [newOk,keysL,lsO]
 repeat (first | simp (maxSteps:=2000000) only [go_sem,↓reduceIte,Nat.reduceLT,Nat.reduceLeDiff,Nat.reduceAdd,Nat.reduceSub,Nat.reduceMul,Nat.reduceEqDiff,reduceCtorEq,Int.reduceToNat,Int.reduceEq,Int.reduceBEq,Int.reduceBNe,Int.reduceLT,Int.reduceLE,Int.reduceNeg,Int.reduceAdd,Int.reduceSub,Int.reduceMul,Int.reduceGE,Int.reduceGT,endO,lsT,lsO] | rw [dr_cons])
 refine dcallN 1 (lsT 1 s.places.length) (lsO 3 1 eI s.places 0) (fun E a w' hs=>(clone_ints (arr_at (d:=0) hs 2 rfl) (Nat.le_trans z3 (by decide))).mono fun e w2 he=>retN_of (d:=0) eI_ok he) ?_ ?_
 ·simp [newOk,keysL,lsO]
 repeat (first | simp (maxSteps:=2000000) only [go_sem,↓reduceIte,Nat.reduceLT,Nat.reduceLeDiff,Nat.reduceAdd,Nat.reduceSub,Nat.reduceMul,Nat.reduceEqDiff,reduceCtorEq,Int.reduceToNat,Int.reduceEq,Int.reduceBEq,Int.reduceBNe,Int.reduceLT,Int.reduceLE,Int.reduceNeg,Int.reduceAdd,Int.reduceSub,Int.reduceMul,Int.reduceGE,Int.reduceGT,endO,lsT,lsO] | rw [dr_cons])
 refine And.intro (Or.inl trivial) (And.intro (Or.inr trivial) ?_)
 refine loopI (ι:={ i:Nat // i≤s.bufs.length }) (fun i=>⟨32,[(2,.c (.ptr (6,0,0) 0)),(3,.c (.ptr (10,0,0) 0)),(17,.c (.xv (3,0,0))),(18,.c (.v (.int .i64 s.bufs.length))),(19,.c (.v (.int .i64 (i.1:Nat))))],
  [(5,.one (.bk [.xv (0,0,0),.xv (1,0,0),.xv (2,0,0),.xv (3,0,0)] 32)),(6,.one (.bk [.v (.slice none 0 0),.v (.slice none 0 0),.v (.slice none 0 0),.v (.slice none 0 0)] 32)),(7,.one (.ar s.words.length 1 (ats eI s.words 0) 3)),(8,.one (.ar s.regs.length 4 (ats R4.enc s.regs r40) 68)),(9,.one (.ar s.places.length 1 (ats eI s.places 0) 3)),(10,.one (.bk [.sl (7,0,0) 1 0 s.words.length none,.sl (8,0,0) 4 0 s.regs.length none,.sl (9,0,0) 1 0 s.places.length none,.sl (11,0,0) 1 0 i.1 none] 32)),(11,.one (.ar i.1 1 (bfC 12 s) 86)),(12,.fam i.1 (bfO s))],stA 0 s,[],13⟩)
  (fun i=>s.bufs.length - i.1) ⟨0,by omega⟩ ?_ ?_
 ·refine le_tr (le_nilcell 10 1 86 32 _ [.sl (7,0,0) 1 0 s.words.length none,.sl (8,0,0) 4 0 s.regs.length none,.sl (9,0,0) 1 0 s.places.length none,.sl (11,0,0) 1 0 0 none] (bfC 12 s) rfl rfl (fun E h1 h2=>by simp [SC.den,h1,h2])) ?_
  refine le_ren id rfl rfl (by simp [TmpsLe,look,SV.ren,SC.ren,SC.renL,ren1L,ren1,idσ,SV.okN,SC.okN,SC.okL,ok1L]) ?_ (by simp +contextual [stA,ArrsLe,ArrLeO,atN,look,Fm.get,idσ,arrLe_of,arrLe_0,arrLe_nest]) rfl
  simp [OwnLe,BlkLeO,BlkLe,atN,look,setL,Fm.get,idσ,SC.renL,SC.ren,SC.okL,SC.okN,renL_v,okL_v,ren_ats,ok_ats,appAt,arrOf_ats]
 rintro ⟨i,hi⟩
 simp (maxSteps:=2000000) only [go_sem,↓reduceIte,Nat.reduceLT,Nat.reduceLeDiff,Nat.reduceAdd,Nat.reduceSub,Nat.reduceMul,Nat.reduceEqDiff,reduceCtorEq,Int.reduceToNat,Int.reduceEq,Int.reduceBEq,Int.reduceBNe,Int.reduceLT,Int.reduceLE,Int.reduceNeg,Int.reduceAdd,Int.reduceSub,Int.reduceMul,Int.reduceGE,Int.reduceGT,endO,bfC,bfO,stA]
 refine both (fun hlt=>?_) (fun hge=>?_)
 ·rw [decide_eq_true_eq] at hlt
  have hlt:i<s.bufs.length:=by omega
  have y4:=fit16 _ (z5 i hlt)
  have y5:(i+1+(i+1) / 4+192) * 24≤281474976710656:=fit24 (i+1) (Nat.le_trans (Nat.mul_le_mul_right 24 hlt) (Nat.le_trans z4 (by decide)))
  have y6:i+1≤maxLen:=Nat.le_trans hlt (by simp only [maxLen];omega)
  have z6:=z5 i hlt
  refine And.intro hlt (And.intro hlt ?_)
  refine draw_vc (by kernel_rfl) (mkTab_ok _ _) (of_decide_eq_true rfl) (of_decide_eq_true rfl) ?_
  repeat (first | simp (maxSteps:=2000000) only [go_sem,↓reduceIte,Nat.reduceLT,Nat.reduceLeDiff,Nat.reduceAdd,Nat.reduceSub,Nat.reduceMul,Nat.reduceEqDiff,reduceCtorEq,Int.reduceToNat,Int.reduceEq,Int.reduceBEq,Int.reduceBNe,Int.reduceLT,Int.reduceLE,Int.reduceNeg,Int.reduceAdd,Int.reduceSub,Int.reduceMul,Int.reduceGE,Int.reduceGT,endO,bfC,bfO] | rw [dr_cons])
  refine dcallN 1 (lsT 2 (s.bufs.getD i []).length) (lsO 88 2 Pd.enc (s.bufs.getD i []) pd0) (fun E a w' hs=>(clone_pend (arr_of (d:=pd0) ((holds_of hs).1 (4,i,0) _ (by simp [atN,look,Fm.get,hlt];rfl))) (Nat.le_trans z6 (by decide))).mono fun e w2 he=>retN_of (d:=pd0) pd_ok he) ?_ ?_
  ·simp [newOk,keysL,lsO]
  repeat (first | simp (maxSteps:=2000000) only [go_sem,↓reduceIte,Nat.reduceLT,Nat.reduceLeDiff,Nat.reduceAdd,Nat.reduceSub,Nat.reduceMul,Nat.reduceEqDiff,reduceCtorEq,Int.reduceToNat,Int.reduceEq,Int.reduceBEq,Int.reduceBNe,Int.reduceLT,Int.reduceLE,Int.reduceNeg,Int.reduceAdd,Int.reduceSub,Int.reduceMul,Int.reduceGE,Int.reduceGT,endO,lsT,lsO,bfC,bfO] | rw [dr_cons])
  refine And.intro (by decide) (And.intro (Or.inl trivial) (And.intro ⟨Nat.le_refl _,y5,y6⟩ (And.intro ⟨Or.inl trivial,Or.inr trivial⟩ (And.intro (Or.inr trivial) ?_))))
  rw [wr_succ (by omega)]
  refine backI ⟨i+1,by omega⟩ (by simp only;omega) (le_nm (cpσ 11 12 i 15 13) ⟨rfl,rfl,by simp [TmpsLe,look,SV.ren,SC.ren,cpσ,SV.okN,SC.okN],?_,?_,?_⟩)
  ·refine ⟨⟨of_decide_eq_true rfl,by simp [BlkLeO,BlkLe,atN,look,Fm.get,cpσ,SC.renL,SC.ren,SC.okL,SC.okN]⟩,⟨of_decide_eq_true rfl,by simp [BlkLeO,BlkLe,atN,look,Fm.get,cpσ,SC.renL,SC.ren,SC.okL,SC.okN]⟩,⟨of_decide_eq_true rfl,arLe_same⟩,⟨of_decide_eq_true rfl,arLe_same⟩,⟨of_decide_eq_true rfl,arLe_same⟩,⟨of_decide_eq_true rfl,by simp [BlkLeO,BlkLe,atN,look,Fm.get,cpσ,SC.renL,SC.ren,SC.okL,SC.okN]⟩,⟨of_decide_eq_true rfl,?_⟩,⟨of_decide_eq_true rfl,fun k hk=>?_⟩,trivial⟩
   ·refine ⟨Nat.le_refl _,rfl,rfl,fun e he=>⟨?_,by simp [bfC,SC.okL,SC.okN]⟩⟩
    by_cases h:e=i
    ·subst h;simp [appAt,bfC,SC.renL,SC.ren,cpσ,take',drop',segs]
    ·have:e<i:=by have he' : e<i+1:=he;omega
     simp [appAt,this,bfC,SC.renL,SC.ren,cpσ,h]
   ·by_cases h:k=i
    ·subst h
     simp only [cpσ,atN,look,Nat.reduceEqDiff,reduceIte,Fm.get,and_self,bfO]
     exact arLe_of (Nat.le_refl _) fun e he=>by simp [appAt,arrOf_ats]
    ·have:k<i:=by have hk' : k<i+1:=hk;omega
     simp only [cpσ,atN,look,Nat.reduceEqDiff,reduceIte,Fm.get,h,this,and_self,bfO]
     exact arLe_same
  ·refine ⟨⟨of_decide_eq_true rfl,arrLe_of⟩,⟨of_decide_eq_true rfl,arrLe_of⟩,⟨of_decide_eq_true rfl,arrLe_of⟩,⟨of_decide_eq_true rfl,⟨rfl,rfl,fun e _=>⟨by simp [nestF,SC.renL,SC.ren,cpσ],by simp [nestF,SC.okL,SC.okN]⟩,Nat.le_refl _⟩⟩,⟨of_decide_eq_true rfl,fun k hk=>?_⟩,trivial⟩
   simp only [cpσ,atN,look,Nat.reduceEqDiff,reduceIte,Fm.get,hk,and_self]
   exact arrLe_of
  ·exact cpσ_inj (fun k hk=>by simp [keysL] at hk;omega) rfl (by decide) (by decide) (by decide) (by decide)
 ·rw [decide_eq_false_iff_not] at hge
  have hin:i=s.bufs.length:=by omega
  subst hin
  refine retN (fun j=>if j<3 then j+7 else j+8) (fun b=>⟨?_,?_⟩) (fun b=>?_) (fun b=>?_)
  ·simp [stC,SV.ren,SC.renL,SC.ren,fromσ]
  ·simp [stC,SV.okN,SC.okL,SC.okN,NewIds]
  ·refine ⟨⟨⟨by omega,by omega⟩,?_⟩,⟨⟨by omega,by omega⟩,?_⟩,⟨⟨by omega,by omega⟩,?_⟩,⟨⟨by omega,by omega⟩,?_⟩,⟨⟨by omega,by omega⟩,fun k hk=>?_⟩,trivial⟩
   ·simp only [fromσ,Nat.sub_self,Nat.zero_add,atN,look,Nat.reduceEqDiff,reduceIte,Fm.get,and_self,Nat.reduceLT,Nat.reduceAdd];exact arLe_same
   ·simp only [fromσ,Nat.add_sub_cancel_left,Nat.reduceAdd,atN,look,Nat.reduceEqDiff,reduceIte,Fm.get,and_self,Nat.reduceLT];exact arLe_same
   ·simp only [fromσ,Nat.add_sub_cancel_left,Nat.reduceAdd,atN,look,Nat.reduceEqDiff,reduceIte,Fm.get,and_self,Nat.reduceLT];exact arLe_same
   ·simp only [fromσ,Nat.add_sub_cancel_left,Nat.reduceAdd,atN,look,Nat.reduceEqDiff,reduceIte,Fm.get,and_self,Nat.reduceLT]
    exact ⟨Nat.le_refl _,rfl,rfl,fun e he=>⟨by simp [bfC,SC.renL,SC.ren,fromσ],by simp [bfC,SC.okL,SC.okN,NewIds]⟩⟩
   ·simp only [fromσ,Nat.add_sub_cancel_left,Nat.reduceAdd,atN,look,Nat.reduceEqDiff,reduceIte,Fm.get,hk,and_self,bfO,Nat.reduceLT];exact arLe_same
  ·exact injN_from fun x hx y hy e=>by
    simp [stO,keysL] at hx hy
    (try simp only at e);(try split at e <;> try split at e);all_goals omega
end Go.Proofs.Ytmcpdafmkkjlcaa.Z
namespace Go.Proofs.Ytmcpdafmkkjlcaa.Z
open Go Go.RowKit
structure Fn where
 words:List Int
 regs:List R4
def FnR (w:World) (v:Value) (f:Fn):Prop:=∃ vw vr,v = .agg #[vw,vr]∧Arr w eI 1 vw f.words∧Arr w R4.enc 4 vr f.regs
def finB (L:Lt) (s:LS):Bool:=(List.range L.thr.length).all fun t=>decide (s.places.getD t 0=(L.thr.getD t []).length∧(s.bufs.getD t []).length=0)
theorem finB_iff {L:Lt} {s:LS}:finB L s=true↔∀ t,t<L.thr.length→s.places.getD t 0=(L.thr.getD t []).length∧(s.bufs.getD t []).length=0:=by
 simp [finB]
theorem finB_no {L:Lt} {s:LS} {t:Nat} (ht:t<L.thr.length) (h:¬ (s.places.getD t 0=(L.thr.getD t []).length∧(s.bufs.getD t []).length=0)):finB L s=false:=by
 cases e:finB L s
 ·rfl
 ·exact absurd (finB_iff.1 e t ht) h
def ir50:IR:=(.seq (.ops [⟨(some 2),(.box 25 (.t 0)),none⟩,⟨(some 3),(.box 32 (.t 1)),none⟩,⟨(some 4),(.mv (.k (.c (.v (.bool false))))),none⟩]) (.kill [0,1,4,5,6,7,8,9,10,11] (.seq (.seq (.ops [⟨(some 7),(.fa 1 (.t 2)),none⟩,⟨(some 8),(.ld false 1 (.t 7)),none⟩,⟨(some 9),(.len (.t 8)),none⟩,⟨(some 10),(.mv (.k (.c (.v (.int .i64 0))))),none⟩]) (.kill [2,7] (.blk 0 (.loop (.seq (.ops [⟨(some 11),(.bin .lss (.t 10) (.t 9)),none⟩]) (.kill [4,5,6,12,13,14,15,16,17,18,19,20,21,22,23,24,25,26,27,28,29,30,31,32] (.seq (.cond (.t 11) .skip (.exit 0)) (.kill [11] (.seq (.blk 1 (.seq (.ops [⟨(some 12),(.mv (.t 10)),none⟩,⟨(some 13),(.ia 1 (.t 8) (.t 10)),none⟩,⟨(some 14),(.ld false 1 (.t 13)),none⟩,⟨(some 5),(.mv (.t 12)),none⟩,⟨(some 6),(.mv (.t 14)),none⟩]) (.kill [12,13,14] (.seq (.ops [⟨(some 15),(.fa 2 (.t 3)),none⟩,⟨(some 16),(.ld false 1 (.t 15)),none⟩,⟨(some 17),(.mv (.t 5)),none⟩,⟨(some 18),(.ia 1 (.t 16) (.t 17)),none⟩,⟨(some 19),(.ld false 1 (.t 18)),none⟩,⟨(some 20),(.mv (.t 6)),none⟩,⟨(some 21),(.len (.t 20)),none⟩,⟨(some 22),(.bin .lss (.t 19) (.t 21)),none⟩,⟨(some 23),(.mv (.t 22)),none⟩,⟨(some 24),(.fa 3 (.t 3)),(some (23,false))⟩,⟨(some 25),(.ld false 1 (.t 24)),(some (23,false))⟩,⟨(some 26),(.mv (.t 5)),(some (23,false))⟩,⟨(some 27),(.ia 1 (.t 25) (.t 26)),(some (23,false))⟩,⟨(some 28),(.ld false 1 (.t 27)),(some (23,false))⟩,⟨(some 29),(.len (.t 28)),(some (23,false))⟩,⟨(some 30),(.bin .gtr (.t 29) (.k (.c (.v (.int .i64 0))))),(some (23,false))⟩,⟨(some 31),(.pick (.t 23) (.k (.c (.v (.bool true)))) (.t 30)),none⟩]) (.kill [5,6,15,16,17,18,19,20,21,22,23,24,25,26,27,28,29,30] (.cond (.t 31) (.seq (.ops [⟨(some 4),(.mv (.k (.c (.v (.bool false))))),none⟩]) (.kill [3,8,9,10,31] .ret)) .skip)))))) (.kill [4,5,6,12,13,14,15,16,17,18,19,20,21,22,23,24,25,26,27,28,29,30,31] (.ops [⟨(some 32),(.bin .add (.t 10) (.k (.c (.v (.int .i64 1))))),none⟩,⟨(some 10),(.mv (.t 32)),none⟩]))))))))))) (.kill [3,4,5,6,8,9,10,11,12,13,14,15,16,17,18,19,20,21,22,23,24,25,26,27,28,29,30,31,32] (.seq (.ops [⟨(some 4),(.mv (.k (.c (.v (.bool true))))),none⟩]) .ret)))))
def rs50:List RS:=[(.t 4)]
def nt50:Nat:=33
set_option maxRecDepth 100000 in
set_option maxHeartbeats 1000000 in
theorem final_calls (w:World) (v v' : Value) (L:Lt) (o:Int) (s:LS) (hL:checkB L=true) (hwf:WfT L o s) (h:LtR w v L) (h' : StR w v' s):Calls Try.prog 50 #[v,v'] w (RetV w (.bool (finB L s))):=by
 refine enterLtSt (A:=[]) (c:=ir50) (rs:=rs50) (nt:=nt50) h h' [.agg (ltS 0),.agg (stS 3)] _ Try.func50 rfl (by kernel_rfl) (by kernel_rfl) rfl (fun E' h0 h1=>by simp only [List.map_cons,List.map_nil,h0,h1]) (of_decide_eq_true rfl) ?_
 obtain ⟨z1,z2,z3,z4⟩:=sz_at hL
 have hp:=hwf.wf.p
 have hb:=hwf.wf.b
 simp (maxSteps:=2000000) only [ir50,nt50,rs50,go_sem,↓reduceIte,Nat.reduceLT,Nat.reduceLeDiff,Nat.reduceAdd,Nat.reduceSub,Nat.reduceMul,Nat.reduceEqDiff,reduceCtorEq,Int.reduceToNat,Int.reduceEq,Int.reduceBEq,Int.reduceBNe,Int.reduceLT,Int.reduceLE,Int.reduceNeg,Int.reduceAdd,Int.reduceSub,Int.reduceMul,Int.reduceGE,Int.reduceGT,endO,ltA,ltS,stA,stS]
 refine loopI (ι:={ i:Nat // i≤L.thr.length∧∀ t,t<i→s.places.getD t 0=(L.thr.getD t []).length∧(s.bufs.getD t []).length=0 }) (fun i=>⟨33,[(3,.c (.ptr (9,0,0) 0)),(8,.c (.xv (1,0,0))),(9,.c (.v (.int .i64 L.thr.length))),(10,.c (.v (.int .i64 (i.1:Nat))))],
  [(8,.one (.bk [.xv (0,0,0),.xv (1,0,0)] 25)),(9,.one (.bk [.xv (3,0,0),.xv (4,0,0),.xv (5,0,0),.xv (6,0,0)] 32))],ltA 0 L++stA 3 s,[],10⟩)
  (fun i=>L.thr.length - i.1) ⟨0,by omega,fun t ht=>by omega⟩ (le_ren id rfl rfl (by simp [TmpsLe,look,SV.ren,SC.ren,SC.renL,ren1L,ren1,idσ,SV.okN,SC.okN,SC.okL,ok1L]) (by simp [OwnLe,BlkLeO,BlkLe,atN,look,Fm.get,idσ,SC.renL,SC.ren,SC.okL,SC.okN,renL_v,okL_v]) (by simp +contextual [ltA,stA,ArrsLe,ArrLeO,atN,look,Fm.get,idσ,arrLe_of,arrLe_0,arrLe_nest]) rfl) ?_
 rintro ⟨i,hi,hg⟩
 simp (maxSteps:=2000000) only [go_sem,↓reduceIte,Nat.reduceLT,Nat.reduceLeDiff,Nat.reduceAdd,Nat.reduceSub,Nat.reduceMul,Nat.reduceEqDiff,reduceCtorEq,Int.reduceToNat,Int.reduceEq,Int.reduceBEq,Int.reduceBNe,Int.reduceLT,Int.reduceLE,Int.reduceNeg,Int.reduceAdd,Int.reduceSub,Int.reduceMul,Int.reduceGE,Int.reduceGT,endO,ltA,stA,eI]
 refine both (fun hlt=>?_) (fun hge=>?_)
 ·rw [decide_eq_true_eq] at hlt
  have hlt:i<L.thr.length:=by omega
  have hlp:i<s.places.length:=by omega
  have hlb:i<s.bufs.length:=by omega
  have g:=hwf.wf.thr i hlt
  have g1:=g.p1
  repeat (with_reducible refine And.intro (by first | exact hlt | exact hlp | exact hlb | exact fun _=>hlb) ?_)
  refine both (fun hc=>?_) (fun hc=>?_)
  ·simp only [b_decR,b_decL,bt_ite,bf_ite,bt_dec,bf_dec,bt_int,bf_int,bt_nint,bf_nint,bt_bool,bf_bool,bt_nbool,bf_nbool,bt_not,bf_not,bt_and,bf_and,bt_or,bf_or,Bool.false_eq_true,Bool.true_eq_false,Bool.not_eq_true,Bool.not_eq_false,reduceCtorEq,false_iff,true_iff,iff_false,iff_true,and_true,true_and,and_false,false_and,or_true,true_or,or_false,false_or,not_true_eq_false,not_false_eq_true,ne_eq] at hc
   have hf:finB L s=false:=finB_no hlt (by omega)
   exact retV fun E=>by simp [SV.den,SC.den,hf]
  ·simp only [b_decR,b_decL,bt_ite,bf_ite,bt_dec,bf_dec,bt_int,bf_int,bt_nint,bf_nint,bt_bool,bf_bool,bt_nbool,bf_nbool,bt_not,bf_not,bt_and,bf_and,bt_or,bf_or,Bool.false_eq_true,Bool.true_eq_false,Bool.not_eq_true,Bool.not_eq_false,reduceCtorEq,false_iff,true_iff,iff_false,iff_true,and_true,true_and,and_false,false_and,or_true,true_or,or_false,false_or,not_true_eq_false,not_false_eq_true,ne_eq] at hc
   rw [wr_succ (by omega)]
   refine backI ⟨i+1,by omega,fun t ht=>?_⟩ (by simp only;omega) (le_ren id rfl rfl (by simp [TmpsLe,look,SV.ren,SC.ren,SC.renL,ren1L,ren1,idσ,SV.okN,SC.okN,SC.okL,ok1L]) (by simp [OwnLe,BlkLeO,BlkLe,atN,look,Fm.get,idσ,SC.renL,SC.ren,SC.okL,SC.okN,renL_v,okL_v]) (by simp +contextual [ltA,stA,ArrsLe,ArrLeO,atN,look,Fm.get,idσ,arrLe_of,arrLe_0,arrLe_nest]) rfl)
   by_cases e:t=i
   ·subst e;omega
   ·exact hg t (by omega)
 ·rw [decide_eq_false_iff_not] at hge
  have hf:finB L s=true:=finB_iff.2 fun t ht=>hg t (by omega)
  exact retV fun E=>by simp [SV.den,SC.den,hf]
def r4L (r:R4):List Int:=[r.a,r.b,r.c,r.d]
def numT (f:Fn):Nat→List Int
 | 0=>f.words
 | n+1=>numT f n++r4L (f.regs.getD n r40)
def numF (f:Fn):List Int:=numT f f.regs.length
end Go.Proofs.Ytmcpdafmkkjlcaa.Z
namespace Go.Proofs.Ytmcpdafmkkjlcaa.Z
open Go Go.RowKit
def ordR:List R4→List R4→Int
 | x :: l,y :: m=>if cmpL (r4L x) (r4L y)≠0 then cmpL (r4L x) (r4L y) else ordR l m
 | _,_=>0
def ordF (a b:Fn):Int:=if cmpL a.words b.words≠0 then cmpL a.words b.words else ordR a.regs b.regs
theorem drop_r4 {l:List R4} {i:Nat} (h:i<l.length):l.drop i=l.getD i r40 :: l.drop (i+1):=by
 rw [List.drop_eq_getElem_cons h,List.getD_eq_getElem?_getD,List.getElem?_eq_getElem h];rfl
theorem enterFn2 {P:Program} {A:List Nat} {f nt:Nat} {fn:Func} {x:Code} {c:IR} {w:World} {rs:List RS} {R:Ending→World→Prop} {v v' : Value} {a b:Fn} (h:FnR w v a) (h' : FnR w v' b)
  (hf:P.funcs[f]? = some fn) (hb:fn.body=some x) (hc:compC (mkTab P A) x=some c.strip) (hrs:compR (mkTab P A).T fn.results.toList=some rs) (hn:fn.ntmps=nt) (hnt:2≤nt)
  (hex:exec (mkC P A w rs R) 1000 [.code c] ⟨nt,enumT 0 [.agg [.xv (0,0,0),.xv (1,0,0)],.agg [.xv (2,0,0),.xv (3,0,0)]],[],[(0,.one (arrOf eI 1 a.words 0)),(1,.one (arrOf R4.enc 4 a.regs r40)),(2,.one (arrOf eI 1 b.words 0)),(3,.one (arrOf R4.enc 4 b.regs r40))],[],4⟩):Calls P f #[v,v'] w R:=by
 obtain ⟨vw,vr,rfl,h1,h2⟩:=h
 obtain ⟨vw',vr',rfl,h1',h2'⟩:=h'
 refine enterL [fun _=>vw,fun _=>vr,fun _=>vw',fun _=>vr'] ⟨fun _=>arr_one h1,fun _=>arr_one h2,fun _=>arr_one h1',fun _=>arr_one h2',trivial⟩
  (rd_one 0 0 eI_ok h1 (by simp) rfl (rd_one 1 r40 r4_ok h2 (by simp) rfl (rd_one 2 0 eI_ok h1' (by simp) rfl (rd_one 3 r40 r4_ok h2' (by simp) rfl rd_nil))))
  [.agg [.xv (0,0,0),.xv (1,0,0)],.agg [.xv (2,0,0),.xv (3,0,0)]] _ hf hb hc hrs hn (fun E' hE'=>?_) hnt hex
 have e:=fun i hi=>hE' i 0 0 hi
 simp only [List.map_cons,List.map_nil,SV.den,SC.den,e 0 (by simp),e 1 (by simp),e 2 (by simp),e 3 (by simp)]
 rfl
end Go.Proofs.Ytmcpdafmkkjlcaa.Z
namespace Go.Proofs.Ytmcpdafmkkjlcaa.Z
open Go Go.RowKit
def sameF (a b:Fn):Bool:=decide (a.words.length=b.words.length∧a.regs.length=b.regs.length) && !lessL (numF a) (numF b) && !lessL (numF b) (numF a)
end Go.Proofs.Ytmcpdafmkkjlcaa.Z
namespace Go.Proofs.Ytmcpdafmkkjlcaa.Z
open Go Go.RowKit
def endF (s:LS):Fn:=⟨s.words,s.regs⟩
end Go.Proofs.Ytmcpdafmkkjlcaa.Z
namespace Go.Proofs.Ytmcpdafmkkjlcaa.Z
open Go Go.RowKit
theorem cmp_less:∀ (a b:List Int),cmpL a b<0↔lessL a b=true
 | [],[]=>by simp [cmpL,lessL]
 | [],_ :: _=>by simp [cmpL,lessL]
 | _ :: _,[]=>by simp [cmpL,lessL]
 | x :: a,y :: b=>by
  simp only [cmpL,lessL]
  by_cases h1:x<y
  ·rw [if_pos h1,if_pos (by omega)];simp [h1]
  ·rw [if_neg h1]
   by_cases h2:y<x
   ·rw [if_pos h2,if_pos (by omega)];simp [h1]
   ·rw [if_neg h2,if_neg (by omega)];exact cmp_less a b
theorem cmp_zero:∀ (a b:List Int),cmpL a b=0↔a=b
 | [],[]=>by simp [cmpL]
 | [],_ :: _=>by simp [cmpL]
 | _ :: _,[]=>by simp [cmpL]
 | x :: a,y :: b=>by
  simp only [cmpL]
  by_cases h1:x<y
  ·rw [if_pos h1];simp;omega
  ·rw [if_neg h1]
   by_cases h2:y<x
   ·rw [if_pos h2];simp;omega
   ·rw [if_neg h2,cmp_zero a b];simp;omega
theorem cmp_anti:∀ (a b:List Int),cmpL b a = - cmpL a b
 | [],[]=>rfl
 | [],_ :: _=>rfl
 | _ :: _,[]=>rfl
 | x :: a,y :: b=>by
  simp only [cmpL]
  by_cases h1:x<y
  ·rw [if_neg (by omega),if_pos h1,if_pos h1];rfl
  ·by_cases h2:y<x
   ·rw [if_pos h2,if_neg h1,if_pos h2]
   ·rw [if_neg h2,if_neg h1,if_neg h1,if_neg h2];exact cmp_anti a b
theorem cmp_app:∀ {a b c d:List Int},a.length=b.length→cmpL (a++c) (b++d)=if cmpL a b≠0 then cmpL a b else cmpL c d
 | [],[],c,d,_=>by simp [cmpL]
 | [],_ :: _,c,d,h=>by simp at h
 | _ :: _,[],c,d,h=>by simp at h
 | x :: a,y :: b,c,d,h=>by
  simp only [List.cons_append,cmpL]
  by_cases h1:x<y
  ·simp [h1]
  ·by_cases h2:y<x
   ·simp [h1,h2]
   ·simp only [if_neg h1,if_neg h2];exact cmp_app (by simpa using h)
theorem less_trans:∀ {a b c:List Int},lessL a b=true→lessL b c=true→lessL a c=true
 | [],[],_,h,_=>by simp [lessL] at h
 | [],_ :: _,[],_,h=>by simp [lessL] at h
 | [],_ :: _,_ :: _,_,_=>rfl
 | _ :: _,[],_,h,_=>by simp [lessL] at h
 | _ :: _,_ :: _,[],_,h=>by simp [lessL] at h
 | x :: a,y :: b,z :: c,h1,h2=>by
  simp only [lessL] at h1 h2 ⊢
  by_cases e1:x=y
  ·subst e1
   rw [if_neg (by simp)] at h1
   by_cases e2:x=z
   ·subst e2
    rw [if_neg (by simp)] at h2 ⊢
    exact less_trans h1 h2
   ·rw [if_pos e2] at h2 ⊢;exact h2
  ·rw [if_pos e1] at h1
   by_cases e2:y=z
   ·subst e2;rw [if_pos e1];exact h1
   ·rw [if_pos e2] at h2
    simp only [decide_eq_true_eq] at h1 h2
    rw [if_pos (by omega)];simp;omega
def insF (x:Fn):List Fn→List Fn
 | []=>[x]
 | y :: l=>if lessL (numF y) (numF x)=true then y :: insF x l else if sameF y x=true then y :: l else x :: y :: l
def finsL (L:Lt) (l:List LS):List Fn:=(l.filter (finB L)).foldl (fun out s=>insF (endF s) out) []
end Go.Proofs.Ytmcpdafmkkjlcaa.Z
