/- TsoFreshSaid: what its proof is made of. No condition. -/
import Derived.Test.YtmcpdafmkkjlcaaPkTTsoFreshAO
set_option linter.unusedSimpArgs false
set_option linter.unusedVariables false
namespace Go.Proofs.Ytmcpdafmkkjlcaa.Z
open Go Go.RowKit
def toN (tl:List Nat) (i:Nat):Nat:=match nth tl i with | some j=>j | none=>i
def backN:List Nat→Nat→Nat→Nat
 | [],_,i=>i
 | j :: tl,k,i=>if Nat.beq i j then k else backN tl (k+1) i
def noDup:List Nat→Bool
 | []=>true
 | j :: tl=>!(memB tl j) && noDup tl
theorem nth_lt:∀ (tl:List Nat) (i:Nat),i<tl.length→∃ j,nth tl i=some j∧j∈tl
 | [],i,h=>by simp at h
 | j :: tl,0,h=>⟨j,rfl,List.mem_cons_self⟩
 | j :: tl,i+1,h=>by
  obtain ⟨q,h1,h2⟩:=nth_lt tl i (by simpa using h)
  exact ⟨q,h1,List.mem_cons_of_mem _ h2⟩
theorem toN_mem {tl:List Nat} {i:Nat} (h:i<tl.length):toN tl i∈tl:=by
 obtain ⟨j,h1,h2⟩:=nth_lt tl i h
 unfold toN;rw [h1];exact h2
theorem back_mem:∀ {tl:List Nat} {k i:Nat},i∈tl→k≤backN tl k i∧backN tl k i<k+tl.length∧nth tl (backN tl k i - k)=some i
 | [],k,i,h=>by cases h
 | j :: tl,k,i,h=>by
  unfold backN
  by_cases e:Nat.beq i j=true
  ·rw [if_pos e]
   have:=Nat.eq_of_beq_eq_true e
   subst this
   exact ⟨Nat.le_refl _,by simp,by simp [nth]⟩
  ·rw [if_neg e]
   have hne:i≠j:=fun q=>e (by rw [q];exact Nat.beq_refl _)
   rcases List.mem_cons.1 h with h | h
   ·exact absurd h hne
   obtain ⟨h1,h2,h3⟩:=back_mem (k:=k+1) h
   refine ⟨by omega,by simp only [List.length_cons];omega,?_⟩
   rw [show backN tl (k+1) i - k=(backN tl (k+1) i - (k+1))+1 by omega]
   exact h3
theorem back_out:∀ {tl:List Nat} {k i:Nat},i ∉ tl→backN tl k i=i
 | [],k,i,h=>rfl
 | j :: tl,k,i,h=>by
  unfold backN
  rw [if_neg (fun e=>h (by rw [Nat.eq_of_beq_eq_true e];exact List.mem_cons_self))]
  exact back_out fun q=>h (List.mem_cons_of_mem _ q)
theorem to_back {tl:List Nat} {i:Nat} (h:i∈tl):backN tl 0 i<tl.length∧toN tl (backN tl 0 i)=i:=by
 obtain ⟨h1,h2,h3⟩:=back_mem (k:=0) h
 refine ⟨by omega,?_⟩
 unfold toN
 rw [Nat.sub_zero] at h3
 rw [h3]
theorem noDup_inj:∀ {tl:List Nat},noDup tl=true→∀ {a b:Nat},a<tl.length→b<tl.length→toN tl a=toN tl b→a=b
 | [],_,a,b,h,_,_=>by simp at h
 | j :: tl,hd,a,b,ha,hb,e=>by
  simp only [noDup,Bool.and_eq_true,Bool.not_eq_true'] at hd
  have hj:j ∉ tl:=fun q=>by rw [(memB_iff).2 q] at hd;exact absurd hd.1 (by simp)
  have ts:∀ a,a<tl.length→toN (j :: tl) (a+1)=toN tl a:=fun a ha=>by
   obtain ⟨q,h1,_⟩:=nth_lt tl a ha
   simp [toN,nth,h1]
  cases a with
  | zero =>
   cases b with
   | zero=>rfl
   | succ b =>
    rw [ts b (by simpa using hb)] at e
    have:=toN_mem (tl:=tl) (i:=b) (by simpa using hb)
    rw [← e] at this
    exact absurd this hj
  | succ a =>
   cases b with
   | zero =>
    rw [ts a (by simpa using ha)] at e
    have:=toN_mem (tl:=tl) (i:=a) (by simpa using ha)
    rw [e] at this
    exact absurd this hj
   | succ b =>
    rw [ts a (by simpa using ha),ts b (by simpa using hb)] at e
    rw [noDup_inj hd.2 (by simpa using ha) (by simpa using hb) e]
theorem takes_via {E:Env} {σ:Nm→Nm} {x:Nm} {b:Blk} {n:Nat}:takes (E.via σ) x b n↔takes E (σ x) b n:=by
 cases b <;> simp [takes,Env.via]
def PlainL:Own→Prop
 | []=>True
 | (_,.one b) :: r=>PlainB b∧PlainL r
 | (_,.fam _ f) :: r=>(∀ k,PlainB (f k))∧PlainL r
 | (_,.fam2 _ _ f) :: r=>(∀ k e,PlainB (f k e))∧PlainL r
theorem plain_of:∀ {own:Own},PlainL own→PlainO own
 | [],_,x,b,hx=>(atN_nil hx).elim
 | (i,F) :: r,h,(a,k,e),b,hx=>by
  simp only [atN,look_cons] at hx
  by_cases q:i=a
  ·rw [if_pos q] at hx
   cases F with
   | one c =>
    simp only [Fm.get] at hx
    split at hx
    ·cases hx;exact h.1
    ·cases hx
   | fam n f =>
    simp only [Fm.get] at hx
    split at hx
    ·cases hx;exact h.1 _
    ·cases hx
   | fam2 n m f =>
    simp only [Fm.get] at hx
    split at hx
    ·cases hx;exact h.1 _ _
    ·cases hx
  ·rw [if_neg q] at hx
   have hr:PlainL r:=by cases F <;> exact h.2
   exact plain_of hr (a,k,e) b hx
theorem cr_ownT {C:Ctx} {S:St} {f:Nat} {vs vs0:List SV} {u u' : SV} {nx:Nat} {eff:Nat→Own} {eff' : Own} (tl:List Nat) (own0:Own) (arrs0:List (Nat×Fm ArrF)) (hnd:noDup tl=true) (hid:ltAll tl S.nid=true) (hn0:tl.length≤S.nid) (hp:PlainO own0)
  (hvs:vs=vs0.map (SV.ren (idσ (toN tl)))∧okVs (· < tl.length) vs0)
  (hown:OwnLe (· < tl.length) (idσ (toN tl)) S.own own0) (harr:ArrsLe (· < tl.length) (idσ (toN tl)) S.arrs arrs0) (hk:∀ i∈keysL own0,(look eff' (toN tl i)).isSome=true)
  (hu:u=u'.ren (idσ (backN tl 0))∧u'.okN fun i=>i∈tl∨NewIds S.nid nx i)
  (heff:OwnLe (fun i=>i∈tl∨NewIds S.nid nx i) (idσ (backN tl 0)) (eff S.nid) eff')
  (hc:∀ E w,Handed w E tl.length own0 arrs0→Calls C.P f (vs0.map (SV.den E)).toArray w (EffR w E tl.length (takesO E own0) u nx eff)):CR C f vs S tl u' nx eff' []:=by
 have hlt:∀ i∈tl,i<S.nid:=fun i hi=>ltAll_mem hid i hi
 intro E a w hs
 obtain ⟨H,hH,hF⟩:=hs.mem
 have hat:∀ x c,atN own0 x=some c→x.1<tl.length∧∃ d,atN S.own (idσ (toN tl) x)=some d∧BlkLe (· < tl.length) (idσ (toN tl)) d c:=fun x c hx=>ownLe_at hown hx
 have hinj:InjN (idσ (toN tl)) own0:=by
  intro x y b c hx hy e
  have h1:=(hat x b hx).1
  have h2:=(hat y c hy).1
  unfold idσ at e
  simp only [Prod.mk.injEq] at e
  exact Prod.ext (noDup_inj hnd h1 h2 e.1) e.2
 have hand:Handed w (E.via (idσ (toN tl))) tl.length own0 arrs0:=by
  refine ⟨fun x=>hs.one _,fun E' hE' ho'=>⟨fun x=>H (idσ (toN tl) x),fun x c hx=>?_,fun x y c d hx hy hne n=>?_,fun x c hx n o hn=>?_,fun w' hw'=>⟨fun x A hA=>?_,fun φ hφ=>?_⟩⟩⟩
  ·obtain ⟨h1,d,h2,h3⟩:=hat x c hx
   exact blk_le (σ:=idσ (toN tl)) (fun y hy=>hE' y hy) h1 h3 (hH.den _ _ h2)
  ·obtain ⟨_,d1,g1,_⟩:=hat x c hx
   obtain ⟨_,d2,g2,_⟩:=hat y d hy
   exact hH.disj _ _ d1 d2 g1 g2 (fun e=>hne (hinj x y c d hx hy e)) n
  ·obtain ⟨_,d1,g1,g3⟩:=hat x c hx
   refine ⟨(hH.sub _ d1 g1 n o hn).1,x,c,hx,takes_via.2 ?_⟩
   obtain ⟨k1,k2⟩:=blkLe_plain g3 (hp x c hx)
   exact (k2 E _ n).1 ((takes_iff k1 (hH.den _ d1 g1)).1 (by show H _ n≠none;rw [show H (idσ (toN tl) x) n=some o from hn];simp))
  ·obtain ⟨h1,A0,h2,h3,h4,h5,h6⟩:=arrsLe_at harr hA
   have hold:=hF w' fun n hn hfr=>hw' n hn fun x c hx=>by
    obtain ⟨_,d1,g1,_⟩:=hat x c hx
    exact hfr _ d1 g1
   obtain ⟨ba,cap,g1,g2,g3,g4⟩:=hold.1 _ A0 h2
   have hR:∀ y:Nm,y.1<tl.length→SameR (idσ (toN tl)) E E' y:=fun y hy=>hE' y hy
   refine ⟨ba,cap,by rw [(hR x h1).2.2.2];exact g1.trans (by rw [h3]),by omega,g3,?_⟩
   rcases g4 with g4 | ⟨b,off,rfl,gl,g4⟩
   ·exact Or.inl (by omega)
   ·refine Or.inr ⟨b,off,rfl,Nat.le_trans h6 gl,fun k hk=>?_⟩
    obtain ⟨f1,f2⟩:=g4 k (by omega)
    obtain ⟨e1,e2⟩:=h5 k hk
    rw [e1] at f1 f2
    refine ⟨by rw [renL_eq,List.length_map] at f1;omega,fun j q hq=>?_⟩
    have:=f2 j _ (mem_renL hq)
    rw [den_ren hR q (okL_mem e2 hq),← h4]
    exact this
  ·simp only [List.mem_singleton] at hφ
   subst hφ
   exact hE'
 have hargs:vs.map (SV.den E)=vs0.map (SV.den (E.via (idσ (toN tl)))):=by
  obtain ⟨rfl,hok⟩:=hvs
  have:∀ l:List SV,okVs (· < tl.length) l→(l.map (SV.ren (idσ (toN tl)))).map (SV.den E)=l.map (SV.den (E.via (idσ (toN tl)))):=by
   intro l
   induction l with
   | nil=>intro _;rfl
   | cons v l ih=>intro h;simp only [List.map_cons];rw [ih h.2,sv_ren (σ:=idσ (toN tl)) (E:=E) (E2:=E.via (idσ (toN tl))) (fun x _=>⟨rfl,rfl,rfl,rfl⟩) v h.1]
  exact this vs0 hok
 rw [hargs]
 refine (hc _ w hand).mono ?_
 rintro e w' ⟨v,rfl,hfr,hN⟩
 obtain ⟨N,hN1,hN2⟩:=hN S.nid hn0
 refine ⟨v,rfl,N,hN1,fun E2 hs2 hks hag=>?_⟩
 obtain ⟨h1,H',h2,h3,h4⟩:=hN2 (E2.via fun x=>if x.1<tl.length then idσ (toN tl) x else x) (fun x hx=>by
  have:=hks (idσ (toN tl) x) (toN_mem hx)
  simp only [Env.via,Same,if_pos hx]
  exact this) (fun x hx=>by
  have:=hag x hx
  have hx2:¬ x.1<tl.length:=Nat.not_lt_of_le (Nat.le_trans hn0 hx.1)
  simp only [Env.via,Same,if_neg hx2]
  exact this)
 have hR:∀ x:Nm,(x.1∈tl∨NewIds S.nid nx x.1)→SameR (idσ (backN tl 0)) (E2.via fun x=>if x.1<tl.length then idσ (toN tl) x else x) E2 x:=by
  intro x hx
  rcases hx with hx | hx
  ·obtain ⟨g1,g2⟩:=to_back hx
   have e:idσ (toN tl) (idσ (backN tl 0) x)=x:=Prod.ext g2 rfl
   simp only [SameR,Env.via,if_pos (show (idσ (backN tl 0) x).1<tl.length from g1),e,and_self]
  ·have e:idσ (backN tl 0) x=x:=Prod.ext (back_out fun q=>absurd (hlt _ q) (Nat.not_lt_of_le hx.1)) rfl
   rw [SameR,e]
   have hx2:¬ x.1<tl.length:=Nat.not_lt_of_le (Nat.le_trans hn0 hx.1)
   simp only [Env.via,if_neg hx2,and_self]
 have hat' : ∀ x c,atN eff' x=some c→(x.1∈tl∨NewIds S.nid nx x.1)∧∃ d,atN (eff S.nid) (idσ (backN tl 0) x)=some d∧BlkLe (fun i=>i∈tl∨NewIds S.nid nx i) (idσ (backN tl 0)) d c:=fun x c hx=>ownLe_at heff hx
 have hinj' : ∀ x y:Nm,(x.1∈tl∨NewIds S.nid nx x.1)→(y.1∈tl∨NewIds S.nid nx y.1)→idσ (backN tl 0) x=idσ (backN tl 0) y→x=y:=by
  intro x y hx hy e
  unfold idσ at e
  simp only [Prod.mk.injEq] at e
  have hb:∀ z:Nm,NewIds S.nid nx z.1→backN tl 0 z.1=z.1:=fun z hz=>back_out fun q=>absurd (hlt _ q) (Nat.not_lt_of_le hz.1)
  rcases hx with hx | hx <;> rcases hy with hy | hy
  ·have g1:=(to_back hx).2
   have g2:=(to_back hy).2
   rw [e.1,g2] at g1
   exact Prod.ext g1.symm e.2
  ·have g1:=(to_back hx).1
   rw [e.1,hb y hy] at g1
   exact absurd g1 (Nat.not_lt_of_le (Nat.le_trans hn0 hy.1))
  ·have g1:=(to_back hy).1
   rw [← e.1,hb x hx] at g1
   exact absurd g1 (Nat.not_lt_of_le (Nat.le_trans hn0 hx.1))
  ·rw [hb x hx,hb y hy] at e
   exact Prod.ext e.1 e.2
 refine ⟨by rw [h1,sv_ren hR u' hu.2,← hu.1],Fits.G ⟨fun H2 hH2=>?_,fun _ _ x A hA=>by simp [atN,look] at hA⟩⟩
 have hkey:∀ x c,atN own0 x=some c→(look eff' (idσ (toN tl) x).1).isSome=true:=fun x c hx=>by
  obtain ⟨F,hF,_⟩:=atN_some hx
  exact hk x.1 (look_keysL hF)
 have htk:∀ x c,atN own0 x=some c→∃ d,atN S.own (idσ (toN tl) x)=some d∧∀ n,H2 (idσ (toN tl) x) n≠none↔takes (E.via (idσ (toN tl))) x c n:=fun x c hx=>by
  obtain ⟨k0,d,g1,g3⟩:=hat x c hx
  obtain ⟨k1,k2⟩:=blkLe_plain g3 (hp x c hx)
  refine ⟨d,g1,fun n=>?_⟩
  rw [takes_iff k1 (hH2.den _ d g1),k2 E2 _ n,takes_via,takes_same (hks (idσ (toN tl) x) (toN_mem k0))]
 refine ⟨hfr.os,hfr.tape,hfr.output,hfr.size,fun n hn hfree=>hfr.keep n hn ?_,fun x=>H' (idσ (backN tl 0) x),fun x c hx=>?_,fun x y c d hx hy hne n=>?_,fun x c hx n o hn=>?_⟩
 ·rintro ⟨x,c,hx,ht⟩
  obtain ⟨d,g1,g2⟩:=htk x c hx
  exact (g2 n).2 ht (hfree _ d (hkey x c hx) g1)
 ·obtain ⟨g0,d,g1,g2⟩:=hat' x c hx
  exact blk_le hR g0 g2 (h2 _ d g1)
 ·obtain ⟨g0,d1,g1,_⟩:=hat' x c hx
  obtain ⟨k0,d2,k1,_⟩:=hat' y d hy
  exact h3 _ _ d1 d2 g1 k1 (fun e=>hne (hinj' x y g0 k0 e)) n
 ·obtain ⟨g0,d1,g1,_⟩:=hat' x c hx
  refine ⟨(h4 _ d1 g1 n o hn).1,(h4 _ d1 g1 n o hn).2.imp id ?_⟩
  rintro ⟨y,c,hy,ht⟩
  obtain ⟨d,g1,g2⟩:=htk y c hy
  exact ⟨_,d,hkey y c hy,g1,(g2 n).2 ht⟩
end Go.Proofs.Ytmcpdafmkkjlcaa.Z
namespace Go.Proofs.Ytmcpdafmkkjlcaa.Z
open Go Go.RowKit
def alC (b:Nat) (l:List Sp) (i:Nat):List SC:=[.sl (b+1,i,0) 1 0 (l.getD i sp0).s.words.length none,.sl (b+2,i,0) 4 0 (l.getD i sp0).s.regs.length none,.sl (b+3,i,0) 1 0 (l.getD i sp0).s.places.length none,.sl (b+4,i,0) 1 0 (l.getD i sp0).s.bufs.length none]
def alO (b:Nat) (l:List Sp):Own:=[(b,.one (.ar l.length 4 (alC b l) 32)),(b+1,.fam l.length (wlW l)),(b+2,.fam l.length (wlR l)),(b+3,.fam l.length (wlP l)),(b+4,.fam l.length (wlB (b+5) l)),(b+5,.fam2 l.length (wlN l) (wlF l))]
def fdC (a p t n:Nat):List SC:=[.sl (a,0,0) 4 0 n none,.sl (p,0,0) 1 0 n none,.sl (t,0,0) 3 0 n none]
def alA (l:List Sp) (ts:List Tn):Own:=[(3,.one (.bk [.xv (0,0,0),.xv (1,0,0)] 25)),(4,.one (.bk [.v (.slice none 0 0),.v (.slice none 0 0),.v (.slice none 0 0)] 105)),(5,.one (.bk (fdC 11 17 18 l.length) 105)),
 (17,.one (.ar l.length 1 (ats eI (l.map (·.frm)) 0) 3)),(18,.one (.ar l.length 3 (ats Tn.enc (l.map (·.tn)) tn0) 44)),(24,.one (.ar ts.length 3 (ats Tn.enc ts tn0) 44))]
def alT (T:Tr):Own:=(6,.one (trS 20 T)) :: trO 20 T
def alS (l:List Sp) (ts:List Tn) (T:Tr):Own:=alO 11 l++(alA l ts++alT T)
def alσ (n a w r p b f:Nat) (τ:Nat→Nat) (x:Nm):Nm :=
 if x.1=11 then (a,x.2) else if 12≤x.1∧x.1≤16 then
  (if x.2.1=n then (if x.1=12 then (w,0,0) else if x.1=13 then (r,0,0) else if x.1=14 then (p,0,0) else if x.1=15 then (b,0,0) else (f,x.2.2,0)) else x)
 else (τ x.1,x.2)
theorem trS_le {q:Nat→Prop} {σ:Nm→Nm} {own:Own} {T:Tr} (c d s s' : Nat) (hσs:σ (s',0,0)=(s,0,0)) (h0:σ (d,0,0)=(c,0,0)) (h1:σ (d+1,0,0)=(c+1,0,0)) (h2:σ (d+2,0,0)=(c+2,0,0)) (h3:∀ k,σ (d+3,k,0)=(c+3,k,0))
  (p0:q s') (p1:q d) (p2:q (d+1)) (p3:q (d+2)) (p4:q (d+3)) (hs:look own s=some (.one (trS c T))) (g0:look own c=some (.one (.ar T.keys.length 1 (trC (c+3) T.keys) 22))) (g1:look own (c+1)=some (.one (.ar T.left.length 1 (ats eI T.left 0) 3)))
  (g2:look own (c+2)=some (.one (.ar T.right.length 1 (ats eI T.right 0) 3))) (g3:look own (c+3)=some (.fam T.keys.length (trK T.keys))):OwnLe q σ own ((s',.one (trS d T)) :: trO d T):=by
 refine ⟨⟨p0,?_⟩,⟨p1,?_⟩,⟨p2,?_⟩,⟨p3,?_⟩,⟨p4,fun k hk=>?_⟩,trivial⟩
 ·rw [hσs];simp only [atN,hs,Fm.get,and_self,if_true]
  exact ⟨by simp only [SC.renL,SC.ren,h0,h1,h2],rfl,by simp [SC.okL,SC.okN,p1,p2,p3]⟩
 ·rw [h0];simp only [atN,g0,Fm.get,and_self,if_true]
  exact ⟨Nat.le_refl _,rfl,rfl,fun e he=>⟨by simp only [trC,SC.renL,SC.ren,h3],by simp [trC,SC.okL,SC.okN,p4]⟩⟩
 ·rw [h1];simp only [atN,g1,Fm.get,and_self,if_true];exact arLe_same
 ·rw [h2];simp only [atN,g2,Fm.get,and_self,if_true];exact arLe_same
 ·rw [h3];simp only [atN,g3,Fm.get,hk,and_self,if_true];exact arLe_same
theorem alO_same {q:Nat→Prop} {τ:Nat→Nat} {own:Own} {l:List Sp} (hp:∀ i,11≤i→i≤16→q i) (hτ:∀ i,11≤i→i≤16→τ i=i) (h11:look own 11=some (.one (.ar l.length 4 (alC 11 l) 32))) (h12:look own 12=some (.fam l.length (wlW l))) (h13:look own 13=some (.fam l.length (wlR l))) (h14:look own 14=some (.fam l.length (wlP l))) (h15:look own 15=some (.fam l.length (wlB 16 l))) (h16:look own 16=some (.fam2 l.length (wlN l) (wlF l))):OwnLe q (idσ τ) own (alO 11 l):=by
 have q11:=hτ 11 (by decide) (by decide);have q12:=hτ 12 (by decide) (by decide);have q13:=hτ 13 (by decide) (by decide);have q14:=hτ 14 (by decide) (by decide);have q15:=hτ 15 (by decide) (by decide);have q16:=hτ 16 (by decide) (by decide)
 have p11:=hp 11 (by decide) (by decide);have p12:=hp 12 (by decide) (by decide);have p13:=hp 13 (by decide) (by decide);have p14:=hp 14 (by decide) (by decide);have p15:=hp 15 (by decide) (by decide);have p16:=hp 16 (by decide) (by decide)
 refine ⟨⟨p11,?_⟩,⟨p12,fun k hk=>?_⟩,⟨p13,fun k hk=>?_⟩,⟨p14,fun k hk=>?_⟩,⟨p15,fun k hk=>?_⟩,⟨p16,fun k e hk he=>?_⟩,trivial⟩
 ·simp only [idσ,q11,atN,h11,Fm.get,and_self,if_true]
  exact ⟨Nat.le_refl _,rfl,rfl,fun e _=>⟨by simp only [alC,SC.renL,SC.ren,idσ,Nat.reduceAdd,q12,q13,q14,q15],by simp [alC,SC.okL,SC.okN,p12,p13,p14,p15]⟩⟩
 ·simp only [idσ,Nat.reduceAdd,q12,atN,h12,Fm.get,hk,and_self,if_true];exact arLe_same
 ·simp only [idσ,Nat.reduceAdd,q13,atN,h13,Fm.get,hk,and_self,if_true];exact arLe_same
 ·simp only [idσ,Nat.reduceAdd,q14,atN,h14,Fm.get,hk,and_self,if_true];exact arLe_same
 ·simp only [idσ,Nat.reduceAdd,q15,atN,h15,Fm.get,hk,and_self,if_true]
  exact ⟨Nat.le_refl _,rfl,rfl,fun e _=>⟨by simp only [SC.renL,SC.ren,idσ,q16],by simp [SC.okL,SC.okN,p16]⟩⟩
 ·simp only [idσ,Nat.reduceAdd,q16,atN,h16,Fm.get,hk,he,and_self,if_true];exact arLe_same
theorem al_push {q:Nat→Prop} {l:List Sp} {x:Sp} {O:Own} {n a w r p b f:Nat} {τ:Nat→Nat} {at_:Nat→List SC} (hp:∀ i,11≤i→i≤16→q i) (hn:n=l.length)
  (ha:look O a=some (.one (.ar (n+1) 4 at_ 32))) (hat:∀ e,e<n→at_ e=alC 11 l e) (hat2:at_ n=[.sl (w,0,0) 1 0 x.s.words.length none,.sl (r,0,0) 4 0 x.s.regs.length none,.sl (p,0,0) 1 0 x.s.places.length none,.sl (b,0,0) 1 0 x.s.bufs.length none])
  (hw:look O w=some (.one (.ar x.s.words.length 1 (ats eI x.s.words 0) 3))) (hr:look O r=some (.one (.ar x.s.regs.length 4 (ats R4.enc x.s.regs r40) 68))) (hpl:look O p=some (.one (.ar x.s.places.length 1 (ats eI x.s.places 0) 3)))
  (hb:look O b=some (.one (.ar x.s.bufs.length 1 (bfC f x.s) 86))) (hf:look O f=some (.fam x.s.bufs.length (bfO x.s)))
  (hfam:0<n→look O 12=some (.fam n (wlW l))∧look O 13=some (.fam n (wlR l))∧look O 14=some (.fam n (wlP l))∧look O 15=some (.fam n (wlB 16 l))∧look O 16=some (.fam2 n (wlN l) (wlF l))) :
  OwnLe q (alσ n a w r p b f τ) O (alO 11 (l++[x])):=by
 have hle:(l++[x]).length=n+1:=by simp [hn]
 have g2:∀ k,k=n→(l++[x]).getD k sp0=x:=fun k hk=>getD_app2 (by omega)
 have g1:∀ k,k<n→(l++[x]).getD k sp0=l.getD k sp0:=fun k hk=>getD_app1 (by omega)
 have hcase:∀ k,k<(l++[x]).length→(k=n)∨(k<n∧¬ k=n):=fun k hk=>by omega
 have p11:=hp 11 (by decide) (by decide);have p12:=hp 12 (by decide) (by decide);have p13:=hp 13 (by decide) (by decide);have p14:=hp 14 (by decide) (by decide);have p15:=hp 15 (by decide) (by decide);have p16:=hp 16 (by decide) (by decide)
 have le12:(12≤12∧12≤16)∧(12≤13∧13≤16)∧(12≤14∧14≤16)∧(12≤15∧15≤16)∧(12≤16∧16≤16):=by decide
 have s11:∀ y,alσ n a w r p b f τ (11,y)=(a,y):=fun y=>rfl
 have t12:∀ e,alσ n a w r p b f τ (12,n,e)=(w,0,0):=fun e=>by simp [alσ]
 have t13:∀ e,alσ n a w r p b f τ (13,n,e)=(r,0,0):=fun e=>by simp [alσ]
 have t14:∀ e,alσ n a w r p b f τ (14,n,e)=(p,0,0):=fun e=>by simp [alσ]
 have t15:∀ e,alσ n a w r p b f τ (15,n,e)=(b,0,0):=fun e=>by simp [alσ]
 have t16:∀ e,alσ n a w r p b f τ (16,n,e)=(f,e,0):=fun e=>by simp [alσ]
 have u:∀ i k e,12≤i→i≤16→¬ k=n→alσ n a w r p b f τ (i,k,e)=(i,k,e):=fun i k e h1 h2 h3=>by
  have:¬ i=11:=by omega
  simp [alσ,this,h1,h2,h3]
 refine ⟨⟨p11,?_⟩,⟨p12,fun k hk=>?_⟩,⟨p13,fun k hk=>?_⟩,⟨p14,fun k hk=>?_⟩,⟨p15,fun k hk=>?_⟩,⟨p16,fun k e hk he=>?_⟩,trivial⟩
 ·rw [s11]
  simp only [atN,ha,Fm.get,and_self,if_true]
  refine ⟨by omega,rfl,rfl,fun e he=>⟨?_,by simp [alC,SC.okL,SC.okN,p12,p13,p14,p15]⟩⟩
  rcases hcase e he with rfl | ⟨h,hne⟩
  ·rw [hat2];simp only [alC,g2 e rfl,SC.renL,SC.ren,Nat.reduceAdd,t12,t13,t14,t15]
  ·rw [hat e h];simp only [alC,g1 e h,SC.renL,SC.ren,Nat.reduceAdd]
   rw [u 12 e 0 (by decide) (by decide) hne,u 13 e 0 (by decide) (by decide) hne,u 14 e 0 (by decide) (by decide) hne,u 15 e 0 (by decide) (by decide) hne]
 ·rcases hcase k hk with rfl | ⟨h,hne⟩
  ·simp only [Nat.reduceAdd,t12,atN,hw,Fm.get,and_self,if_true,wlW,g2 k rfl];exact arLe_same
  ·rw [u _ _ _ (by decide) (by decide) hne];simp only [Nat.reduceAdd,atN,(hfam (by omega)).1,Fm.get,h,and_self,if_true,wlW,g1 k h];exact arLe_same
 ·rcases hcase k hk with rfl | ⟨h,hne⟩
  ·simp only [Nat.reduceAdd,t13,atN,hr,Fm.get,and_self,if_true,wlR,g2 k rfl];exact arLe_same
  ·rw [u _ _ _ (by decide) (by decide) hne];simp only [Nat.reduceAdd,atN,(hfam (by omega)).2.1,Fm.get,h,and_self,if_true,wlR,g1 k h];exact arLe_same
 ·rcases hcase k hk with rfl | ⟨h,hne⟩
  ·simp only [Nat.reduceAdd,t14,atN,hpl,Fm.get,and_self,if_true,wlP,g2 k rfl];exact arLe_same
  ·rw [u _ _ _ (by decide) (by decide) hne];simp only [Nat.reduceAdd,atN,(hfam (by omega)).2.2.1,Fm.get,h,and_self,if_true,wlP,g1 k h];exact arLe_same
 ·rcases hcase k hk with rfl | ⟨h,hne⟩
  ·simp only [Nat.reduceAdd,t15,atN,hb,Fm.get,and_self,if_true,wlB,g2 k rfl]
   exact ⟨Nat.le_refl _,rfl,rfl,fun e he=>⟨by simp only [bfC,SC.renL,SC.ren,t16],by simp [SC.okL,SC.okN,p16]⟩⟩
  ·rw [u _ _ _ (by decide) (by decide) hne];simp only [Nat.reduceAdd,atN,(hfam (by omega)).2.2.2.1,Fm.get,h,and_self,if_true,wlB,g1 k h]
   exact ⟨Nat.le_refl _,rfl,rfl,fun e he=>⟨by simp only [SC.renL,SC.ren];rw [u 16 k e (by decide) (by decide) hne],by simp [SC.okL,SC.okN,p16]⟩⟩
 ·rcases hcase k hk with rfl | ⟨h,hne⟩
  ·simp only [wlN,g2 k rfl] at he
   simp only [Nat.reduceAdd,t16,atN,hf,Fm.get,he,and_self,if_true,wlF,g2 k rfl,bfO];exact arLe_same
  ·simp only [wlN,g1 k h] at he
   rw [u _ _ _ (by decide) (by decide) hne];simp only [Nat.reduceAdd,atN,(hfam (by omega)).2.2.2.2,Fm.get,h,wlN,he,and_self,if_true,wlF,g1 k h];exact arLe_same
theorem alA_le {q:Nat→Prop} {σ:Nm→Nm} {own:Own} {l:List Sp} {ts:List Tn} (a c d:Nat) {m1 m2:Nat} {at1 at2:Nat→List SC} (hq:∀ i∈[0,1,3,4,5,11,17,18,24],q i) (s0:σ (0,0,0)=(0,0,0)) (s1:σ (1,0,0)=(1,0,0)) (s3:σ (3,0,0)=(3,0,0)) (s4:σ (4,0,0)=(4,0,0)) (s5:σ (5,0,0)=(5,0,0))
  (s11:σ (11,0,0)=(a,0,0)) (s17:σ (17,0,0)=(c,0,0)) (s18:σ (18,0,0)=(d,0,0)) (s24:σ (24,0,0)=(24,0,0)) (h3:look own 3=some (.one (.bk [.xv (0,0,0),.xv (1,0,0)] 25))) (h4:look own 4=some (.one (.bk [.v (.slice none 0 0),.v (.slice none 0 0),.v (.slice none 0 0)] 105)))
  (h5:look own 5=some (.one (.bk (fdC a c d l.length) 105))) (hc:look own c=some (.one (.ar m1 1 at1 3))) (hm1:l.length≤m1) (e1:∀ e,e<l.length→at1 e=ats eI (l.map (·.frm)) 0 e) (hd:look own d=some (.one (.ar m2 3 at2 44))) (hm2:l.length≤m2) (e2:∀ e,e<l.length→at2 e=ats Tn.enc (l.map (·.tn)) tn0 e)
  (h24:look own 24=some (.one (.ar ts.length 3 (ats Tn.enc ts tn0) 44))):OwnLe q σ own (alA l ts):=by
 have q0:=hq 0 (by simp);have q1:=hq 1 (by simp);have q3:=hq 3 (by simp);have q4:=hq 4 (by simp);have q5:=hq 5 (by simp);have q11:=hq 11 (by simp);have q17:=hq 17 (by simp);have q18:=hq 18 (by simp);have q24:=hq 24 (by simp)
 refine ⟨⟨q3,?_⟩,⟨q4,?_⟩,⟨q5,?_⟩,⟨q17,?_⟩,⟨q18,?_⟩,⟨q24,?_⟩,trivial⟩
 ·rw [s3];simp only [atN,h3,Fm.get,and_self,if_true];exact ⟨by simp only [SC.renL,SC.ren,s0,s1],rfl,by simp [SC.okL,SC.okN,q0,q1]⟩
 ·rw [s4];simp only [atN,h4,Fm.get,and_self,if_true];exact ⟨by simp only [SC.renL,SC.ren],rfl,by simp [SC.okL,SC.okN]⟩
 ·rw [s5];simp only [atN,h5,Fm.get,and_self,if_true];exact ⟨by simp only [fdC,SC.renL,SC.ren,s11,s17,s18],rfl,by simp [fdC,SC.okL,SC.okN,q11,q17,q18]⟩
 ·rw [s17];simp only [atN,hc,Fm.get,and_self,if_true];exact arLe_of hm1 e1
 ·rw [s18];simp only [atN,hd,Fm.get,and_self,if_true];exact arLe_of hm2 e2
 ·rw [s24];simp only [atN,h24,Fm.get,and_self,if_true];exact arLe_same
theorem injN_app {σ:Nm→Nm} {A B:Own} (hA:InjN σ A) (hB:InjN σ B) (hd:∀ x y c d,atN A x=some c→atN B y=some d→σ x≠σ y):InjN σ (A++B):=by
 have hs:∀ x c,atN (A++B) x=some c→atN A x=some c∨atN B x=some c:=fun x c h=>by
  obtain ⟨a,k⟩:=x
  simp only [atN,look_app] at h ⊢
  cases e:look A a with
  | some v=>rw [e] at h;exact Or.inl h
  | none=>rw [e] at h;exact Or.inr h
 intro x y c d hx hy e
 rcases hs x c hx with hx | hx <;> rcases hs y d hy with hy | hy
 ·exact hA x y c d hx hy e
 ·exact absurd e (hd x y c d hx hy)
 ·exact absurd e.symm (hd y x d c hy hx)
 ·exact hB x y c d hx hy e
theorem al_key {b:Nat} {l:List Sp} {x:Nm} {c:Blk} (h:atN (alO b l) x=some c):∃ c',atN (wlO b l) x=some c':=by
 obtain ⟨i,k,e⟩:=x
 simp only [atN,alO,wlO,look_cons] at h ⊢
 by_cases e0:b=i
 ·rw [if_pos e0] at h ⊢
  simp only [Fm.get] at h ⊢
  split at h
  ·next g=>rw [if_pos g];exact ⟨_,rfl⟩
  ·cases h
 ·rw [if_neg e0] at h ⊢;exact ⟨c,h⟩
theorem al_keys {b:Nat} {l:List Sp} {x:Nm} {c:Blk} (h:atN (alO b l) x=some c):b≤x.1∧x.1≤b+5:=by
 obtain ⟨F,hF,_⟩:=atN_some h
 have:=look_keysL hF
 simp [keysL,alO] at this
 omega
def fsh (l:List Nat) (i:Nat):Bool:=!(memB l i)
theorem al_inj {l:List Sp} {n a w r p b f:Nat} {τ:Nat→Nat} {B:Own} (hn:l.length=n+1) (hd:noDup [a,w,r,p,b,f]=true) (hno:n=0∨([a,w,r,p,b,f].all fun z=>Nat.blt z 12 || Nat.blt 16 z)=true) (hB:injL τ (keysL B)=true)
  (hk:((keysL B).all fun i=>(Nat.blt i 11 || Nat.blt 16 i) && (n == 0 || Nat.blt (τ i) 12 || Nat.blt 16 (τ i)) && fsh [a,w,r,p,b,f] (τ i))=true) (hm:([a,w,r,p,b,f].all fun z=>Nat.blt z 1000 && (Nat.blt z 3 || Nat.blt 3 z))=true):InjN (alσ n a w r p b f τ) (alO 11 l++B):=by
 have hmm:∀ z∈[a,w,r,p,b,f],z<1000∧z≠3:=fun z hz=>by
  have:=List.all_eq_true.1 hm z hz
  simp only [Bool.and_eq_true,Bool.or_eq_true,Nat.blt_eq] at this
  omega
 have hnn:n=0∨∀ z∈[a,w,r,p,b,f],z<12∨16<z:=hno.imp id fun h z hz=>by
  have:=List.all_eq_true.1 h z hz
  simpa only [Bool.or_eq_true,Nat.blt_eq] using this
 have hdd:[a,w,r,p,b,f].Nodup:=by
  have:∀ t:List Nat,noDup t=true→t.Nodup:=by
   intro t
   induction t with
   | nil=>intro _;exact List.nodup_nil
   | cons j t ih =>
    intro h
    simp only [noDup,Bool.and_eq_true,Bool.not_eq_true'] at h
    exact List.nodup_cons.2 ⟨fun q=>by rw [memB_iff.2 q] at h;exact absurd h.1 (by simp),ih h.2⟩
  exact this _ hd
 have hBk:∀ y d,atN B y=some d→(y.1<11∨16<y.1)∧(n=0∨τ y.1<12∨16<τ y.1)∧τ y.1 ∉ [a,w,r,p,b,f]:=fun y d hy=>by
  obtain ⟨F,hF,_⟩:=atN_some hy
  have:=List.all_eq_true.1 hk y.1 (look_keysL hF)
  simp only [Bool.and_eq_true,Bool.or_eq_true,Nat.blt_eq,fsh,Bool.not_eq_true',beq_iff_eq] at this
  refine ⟨this.1.1,?_,fun q=>by rw [memB_iff.2 q] at this;exact absurd this.2 (by simp)⟩
  rcases this.1.2 with (h | h) | h
  ·exact Or.inl h
  ·exact Or.inr (Or.inl h)
  ·exact Or.inr (Or.inr h)
 have hBσ:∀ y d,atN B y=some d→alσ n a w r p b f τ y=(τ y.1,y.2):=fun y d hy=>by
  have:=(hBk y d hy).1
  unfold alσ
  rw [if_neg (by omega),if_neg (by omega)]
 have hAσ:∀ x c,atN (alO 11 l) x=some c→alσ n a w r p b f τ x=wlσ n a w r p b f 1000 1001 x:=fun x c hx=>by
  have:=al_keys hx
  unfold alσ wlσ
  by_cases e:x.1=11
  ·rw [if_pos e,if_pos e]
  ·rw [if_neg e,if_neg e,if_pos (show 12≤x.1∧x.1≤16 by omega),if_neg (show ¬ x.1=17 by omega),if_neg (show ¬ x.1=18 by omega)]
   split
   ·split <;> try rfl
    split <;> try rfl
    split <;> try rfl
    split <;> try rfl
    rw [if_pos (by omega)]
   ·rfl
 refine injN_app ?_ ?_ ?_
 ·have hw:=wl_inj (l:=l) (ts:=[]) (n:=n) (a:=a) (w:=w) (r:=r) (p:=p) (b:=b) (f:=f) (m:=1000) (t:=1001) hn (List.nodup_cons.2 ⟨fun q=>by
   rcases List.mem_append.1 (show 3∈[a,w,r,p,b,f]++[1000,1001] from q) with q | q
   ·exact (hmm 3 q).2 rfl
   ·simp at q,(List.nodup_append.2 ⟨hdd,by decide,fun z hz y hy e=>by
   have:=(hmm z hz).1
   simp only [List.mem_cons,List.not_mem_nil,or_false] at hy
   omega⟩:([a,w,r,p,b,f]++[1000,1001]).Nodup)⟩) (hnn.imp id fun h z hz=>by
   rcases List.mem_append.1 (show z∈[a,w,r,p,b,f]++[1000,1001] from hz) with hz | hz
   ·exact h z hz
   ·simp only [List.mem_cons,List.not_mem_nil,or_false] at hz
    omega)
  intro x y c d hx hy e
  rw [hAσ x c hx,hAσ y d hy] at e
  obtain ⟨c',h1⟩:=al_key hx
  obtain ⟨d',h2⟩:=al_key hy
  have sub:∀ z c,atN (wlO 11 l) z=some c→∃ c',atN (wlS l []) z=some c':=fun z c hz=>by
   obtain ⟨i,k⟩:=z
   obtain ⟨F,hF,hg⟩:=atN_some hz
   have hkz:=look_keysL hF
   simp [keysL,wlO] at hkz
   refine ⟨c,?_⟩
   simp only [wlS,List.cons_append,atN,look_cons] at hz ⊢
   rw [if_neg (show ¬ 3=i by omega),look_app]
   have hF' : look (wlO 11 l) i=some F:=hF
   rw [hF']
   exact hg
  obtain ⟨c2,k1⟩:=sub x c' h1
  obtain ⟨d2,k2⟩:=sub y d' h2
  exact hw x y c2 d2 k1 k2 e
 ·intro x y c d hx hy e
  rw [hBσ x c hx,hBσ y d hy] at e
  obtain ⟨F,hF,_⟩:=atN_some hx
  obtain ⟨G,hG,_⟩:=atN_some hy
  simp only [Prod.mk.injEq] at e
  exact Prod.ext (injL_ok hB (look_keysL hF) (look_keysL hG) e.1) e.2
 ·intro x y c d hx hy e
  rw [hBσ y d hy] at e
  obtain ⟨h1,h2,h3⟩:=hBk y d hy
  have hkx:=al_keys hx
  have e1:(alσ n a w r p b f τ x).1=τ y.1:=congrArg Prod.fst e
  simp only [List.mem_cons,List.not_mem_nil,or_false,not_or] at h3
  unfold alσ at e1
  split at e1
  ·simp only at e1;omega
  ·next h11 =>
   rw [if_pos (by omega)] at e1
   split at e1
   ·split at e1
    ·simp only at e1;omega
    ·split at e1
     ·simp only at e1;omega
     ·split at e1
      ·simp only at e1;omega
      ·split at e1 <;> (simp only at e1;omega)
   ·next hne =>
    rcases h2 with h2 | h2
    ·obtain ⟨i,k,q⟩:=x
     have:k<l.length:=by
      obtain ⟨c',hx'⟩:=al_key hx
      simp only [atN,wlO,look_cons] at hx'
      simp only at h11 hkx
      rw [if_neg (by omega)] at hx'
      have hcs:i=12∨i=13∨i=14∨i=15∨i=16:=by omega
      rcases hcs with rfl | rfl | rfl | rfl | rfl <;> simp [Fm.get] at hx' <;> omega
     simp only at hne
     omega
    ·omega
theorem alS_le {q:Nat→Prop} {τ:Nat→Nat} {own:Own} {l:List Sp} {ts:List Tn} {T:Tr} (c:Nat) (hq:∀ i,i<25→q i) (hτ:∀ i,i<25→(i<20∨i=24)→τ i=i) (t0:τ 20=c) (t1:τ 21=c+1) (t2:τ 22=c+2) (t3:τ 23=c+3)
  (h3:look own 3=some (.one (.bk [.xv (0,0,0),.xv (1,0,0)] 25))) (h4:look own 4=some (.one (.bk [.v (.slice none 0 0),.v (.slice none 0 0),.v (.slice none 0 0)] 105))) (h5:look own 5=some (.one (.bk (fdC 11 17 18 l.length) 105)))
  (h11:look own 11=some (.one (.ar l.length 4 (alC 11 l) 32))) (h12:look own 12=some (.fam l.length (wlW l))) (h13:look own 13=some (.fam l.length (wlR l))) (h14:look own 14=some (.fam l.length (wlP l))) (h15:look own 15=some (.fam l.length (wlB 16 l))) (h16:look own 16=some (.fam2 l.length (wlN l) (wlF l)))
  (h17:look own 17=some (.one (.ar l.length 1 (ats eI (l.map (·.frm)) 0) 3))) (h18:look own 18=some (.one (.ar l.length 3 (ats Tn.enc (l.map (·.tn)) tn0) 44))) (h24:look own 24=some (.one (.ar ts.length 3 (ats Tn.enc ts tn0) 44)))
  (h6:look own 6=some (.one (trS c T))) (g0:look own c=some (.one (.ar T.keys.length 1 (trC (c+3) T.keys) 22))) (g1:look own (c+1)=some (.one (.ar T.left.length 1 (ats eI T.left 0) 3))) (g2:look own (c+2)=some (.one (.ar T.right.length 1 (ats eI T.right 0) 3))) (g3:look own (c+3)=some (.fam T.keys.length (trK T.keys))):OwnLe q (idσ τ) own (alS l ts T):=by
 have e:∀ i k,i<25→(i<20∨i=24)→idσ τ (i,k)=(i,k):=fun i k h1 h2=>by unfold idσ;rw [hτ i h1 h2]
 refine ownLe_app (alO_same (fun i _ h=>hq i (by omega)) (fun i _ h=>hτ i (by omega) (Or.inl (by omega))) h11 h12 h13 h14 h15 h16) (ownLe_app (alA_le 11 17 18 (fun i hi=>hq i (by simp at hi;omega)) (e _ _ (by decide) (by decide)) (e _ _ (by decide) (by decide)) (e _ _ (by decide) (by decide)) (e _ _ (by decide) (by decide)) (e _ _ (by decide) (by decide)) (e _ _ (by decide) (by decide)) (e _ _ (by decide) (by decide)) (e _ _ (by decide) (by decide)) (e _ _ (by decide) (by decide)) h3 h4 h5 h17 (Nat.le_refl _) (fun _ _=>rfl) h18 (Nat.le_refl _) (fun _ _=>rfl) h24) (trS_le c 20 6 6 (e _ _ (by decide) (by decide)) ?_ ?_ ?_ (fun k=>?_) (hq _ (by decide)) (hq _ (by decide)) (hq _ (by decide)) (hq _ (by decide)) (hq _ (by decide)) h6 g0 g1 g2 g3))
 ·unfold idσ;rw [t0]
 ·unfold idσ;rw [t1]
 ·unfold idσ;rw [t2]
 ·unfold idσ;rw [t3]
def fdT (l:List Sp) (b:Nat):SV:=.tup [(true,[.sl (b,0,0) 4 0 l.length none,.sl (b+6,0,0) 1 0 l.length none,.sl (b+7,0,0) 3 0 l.length none]),(false,[.v (.bool true)])]
def fdO (b:Nat) (l:List Sp):Own:=alO b l++[(b+6,.one (.ar l.length 1 (ats eI (l.map (·.frm)) 0) 3)),(b+7,.one (.ar l.length 3 (ats Tn.enc (l.map (·.tn)) tn0) 44))]
def AllR (L:Lt) (o:Int) (w:World) (e:Ending) (w' : World):Prop:=match bfs L o with
 | some l=>RetN w 8 (fdT l) (fun b=>fdO b l) e w'
 | none=>RetV w (.tuple #[.agg #[.slice none 0 0,.slice none 0 0,.slice none 0 0],.bool false]) e w'
def alTm (o:Int) (m i:Nat):List (Nat×SV):=[(1,.c (.v (.int .i64 o))),(2,.c (.ptr (3,0,0) 0)),(4,.c (.ptr (4,0,0) 0)),(6,.c (.ptr (5,0,0) 0)),(7,.c (.ptr (6,0,0) 0)),(9,.c (.sl (24,0,0) 3 0 m none)),(10,.c (.v (.int .i64 i)))]
theorem al_arrs {L:Lt} {n a w r p b f:Nat} {τ:Nat→Nat} {arrs:List (Nat×Fm ArrF)} (hτ:∀ i,i<3→τ i=i) (h0:look arrs 0=some (.one (arrOf eI 1 L.words 0))) (h1:look arrs 1=some (.one (nestF 2 L.thr.length))) (h2:look arrs 2=some (.fam L.thr.length fun k=>arrOf Ins.enc 7 (L.thr.getD k []) in0)):ArrsLe (· < 25) (alσ n a w r p b f τ) arrs (ltA 0 L):=by
 have lo:∀ x:Nm,x.1<3→alσ n a w r p b f τ x=x:=fun x hx=>by
  unfold alσ
  rw [if_neg (by omega),if_neg (by omega),hτ _ hx]
 refine ⟨⟨of_decide_eq_true rfl,?_⟩,⟨of_decide_eq_true rfl,?_⟩,⟨of_decide_eq_true rfl,fun k hk=>?_⟩,trivial⟩
 ·rw [lo _ (by decide)];simp only [atN,h0,Fm.get,and_self,if_true];exact arrLe_of
 ·rw [lo _ (by decide)];simp only [atN,Nat.zero_add,h1,Fm.get,and_self,if_true]
  exact ⟨rfl,rfl,fun e _=>⟨by simp only [nestF,SC.renL,SC.ren];rw [lo (2,e,0) (show (2:Nat)<3 by decide)],by simp [nestF,SC.okL,SC.okN]⟩,Nat.le_refl _⟩
 ·rw [lo _ (show (2:Nat)<3 by decide)];simp only [atN,Nat.zero_add,h2,Fm.get,hk,and_self,if_true];exact arrLe_of
end Go.Proofs.Ytmcpdafmkkjlcaa.Z
namespace Go.Proofs.Ytmcpdafmkkjlcaa.Z
open Go Go.RowKit
structure Fn where
 words:List Int
 regs:List R4
def FnR (w:World) (v:Value) (f:Fn):Prop:=∃ vw vr,v = .agg #[vw,vr]∧Arr w eI 1 vw f.words∧Arr w R4.enc 4 vr f.regs
def finB (L:Lt) (s:LS):Bool:=(List.range L.thr.length).all fun t=>decide (s.places.getD t 0=(L.thr.getD t []).length∧(s.bufs.getD t []).length=0)
theorem finB_iff {L:Lt} {s:LS}:finB L s=true↔∀ t,t<L.thr.length→s.places.getD t 0=(L.thr.getD t []).length∧(s.bufs.getD t []).length=0:=by
 simp [finB]
theorem finB_no {L:Lt} {s:LS} {t:Nat} (ht:t<L.thr.length) (h:¬ (s.places.getD t 0=(L.thr.getD t []).length∧(s.bufs.getD t []).length=0)):finB L s=false:=by
 cases e:finB L s
 ·rfl
 ·exact absurd (finB_iff.1 e t ht) h
def ir50:IR:=(.seq (.ops [⟨(some 2),(.box 25 (.t 0)),none⟩,⟨(some 3),(.box 32 (.t 1)),none⟩,⟨(some 4),(.mv (.k (.c (.v (.bool false))))),none⟩]) (.kill [0,1,4,5,6,7,8,9,10,11] (.seq (.seq (.ops [⟨(some 7),(.fa 1 (.t 2)),none⟩,⟨(some 8),(.ld false 1 (.t 7)),none⟩,⟨(some 9),(.len (.t 8)),none⟩,⟨(some 10),(.mv (.k (.c (.v (.int .i64 0))))),none⟩]) (.kill [2,7] (.blk 0 (.loop (.seq (.ops [⟨(some 11),(.bin .lss (.t 10) (.t 9)),none⟩]) (.kill [4,5,6,12,13,14,15,16,17,18,19,20,21,22,23,24,25,26,27,28,29,30,31,32] (.seq (.cond (.t 11) .skip (.exit 0)) (.kill [11] (.seq (.blk 1 (.seq (.ops [⟨(some 12),(.mv (.t 10)),none⟩,⟨(some 13),(.ia 1 (.t 8) (.t 10)),none⟩,⟨(some 14),(.ld false 1 (.t 13)),none⟩,⟨(some 5),(.mv (.t 12)),none⟩,⟨(some 6),(.mv (.t 14)),none⟩]) (.kill [12,13,14] (.seq (.ops [⟨(some 15),(.fa 2 (.t 3)),none⟩,⟨(some 16),(.ld false 1 (.t 15)),none⟩,⟨(some 17),(.mv (.t 5)),none⟩,⟨(some 18),(.ia 1 (.t 16) (.t 17)),none⟩,⟨(some 19),(.ld false 1 (.t 18)),none⟩,⟨(some 20),(.mv (.t 6)),none⟩,⟨(some 21),(.len (.t 20)),none⟩,⟨(some 22),(.bin .lss (.t 19) (.t 21)),none⟩,⟨(some 23),(.mv (.t 22)),none⟩,⟨(some 24),(.fa 3 (.t 3)),(some (23,false))⟩,⟨(some 25),(.ld false 1 (.t 24)),(some (23,false))⟩,⟨(some 26),(.mv (.t 5)),(some (23,false))⟩,⟨(some 27),(.ia 1 (.t 25) (.t 26)),(some (23,false))⟩,⟨(some 28),(.ld false 1 (.t 27)),(some (23,false))⟩,⟨(some 29),(.len (.t 28)),(some (23,false))⟩,⟨(some 30),(.bin .gtr (.t 29) (.k (.c (.v (.int .i64 0))))),(some (23,false))⟩,⟨(some 31),(.pick (.t 23) (.k (.c (.v (.bool true)))) (.t 30)),none⟩]) (.kill [5,6,15,16,17,18,19,20,21,22,23,24,25,26,27,28,29,30] (.cond (.t 31) (.seq (.ops [⟨(some 4),(.mv (.k (.c (.v (.bool false))))),none⟩]) (.kill [3,8,9,10,31] .ret)) .skip)))))) (.kill [4,5,6,12,13,14,15,16,17,18,19,20,21,22,23,24,25,26,27,28,29,30,31] (.ops [⟨(some 32),(.bin .add (.t 10) (.k (.c (.v (.int .i64 1))))),none⟩,⟨(some 10),(.mv (.t 32)),none⟩]))))))))))) (.kill [3,4,5,6,8,9,10,11,12,13,14,15,16,17,18,19,20,21,22,23,24,25,26,27,28,29,30,31,32] (.seq (.ops [⟨(some 4),(.mv (.k (.c (.v (.bool true))))),none⟩]) .ret)))))
def rs50:List RS:=[(.t 4)]
def nt50:Nat:=33
def ir55:IR:=(.seq (.ops [⟨(some 2),(.box 25 (.t 0)),none⟩,⟨(some 3),(.box 32 (.t 1)),none⟩,⟨(some 4),(.mv (.k (.c (.v (.bool false))))),none⟩]) (.kill [0,1,4,5,6,7,8,9,10,11] (.seq (.seq (.ops [⟨(some 5),(.mv (.k (.c (.v (.int .i64 0))))),none⟩]) (.blk 0 (.loop (.seq (.seq (.ops [⟨(some 6),(.mv (.t 5)),none⟩,⟨(some 7),(.fa 1 (.t 2)),none⟩,⟨(some 8),(.ld false 1 (.t 7)),none⟩,⟨(some 9),(.len (.t 8)),none⟩,⟨(some 10),(.bin .lss (.t 6) (.t 9)),none⟩]) (.kill [4,6,7,8,9,11,12,13,14,15,16,17,18,19,20,21,22,23,24,25,26,27,28,29,30,31,32,33] (.cond (.t 10) .skip (.exit 0)))) (.kill [10] (.seq (.blk 1 (.seq (.draw [(⟨(some 13),(.fa 2 (.t 3)),none⟩,([],[15,18,19,20,21,22,23])),(⟨(some 14),(.ld false 1 (.t 13)),none⟩,([],[15,18,19,20,21,22,23])),(⟨(some 15),(.mv (.t 5)),none⟩,([0,1],[13,14,18,19,20,21,22,23])),(⟨(some 16),(.ia 1 (.t 14) (.t 15)),none⟩,([],[18,19,20,21,22,23])),(⟨(some 17),(.ld false 1 (.t 16)),none⟩,([],[18,19,20,21,22,23])),(⟨(some 18),(.fa 1 (.t 2)),none⟩,([0,1,2,3,4],[13,14,15,16,17,20])),(⟨(some 19),(.ld false 1 (.t 18)),none⟩,([0,1,2,3,4],[13,14,15,16,17,20])),(⟨(some 20),(.mv (.t 5)),none⟩,([0,1,2,3,4,5,6],[13,14,15,16,17,18,19])),(⟨(some 21),(.ia 1 (.t 19) (.t 20)),none⟩,([0,1,2,3,4],[13,14,15,16,17])),(⟨(some 22),(.ld false 1 (.t 21)),none⟩,([0,1,2,3,4],[13,14,15,16,17])),(⟨(some 23),(.len (.t 22)),none⟩,([0,1,2,3,4],[13,14,15,16,17])),(⟨(some 24),(.bin .neq (.t 17) (.t 23)),none⟩,([],[])),(⟨(some 25),(.mv (.t 24)),none⟩,([],[])),(⟨(some 26),(.fa 3 (.t 3)),(some (25,false))⟩,([],[28])),(⟨(some 27),(.ld false 1 (.t 26)),(some (25,false))⟩,([],[28])),(⟨(some 28),(.mv (.t 5)),(some (25,false))⟩,([13,14],[26,27])),(⟨(some 29),(.ia 1 (.t 27) (.t 28)),(some (25,false))⟩,([],[])),(⟨(some 30),(.ld false 1 (.t 29)),(some (25,false))⟩,([],[])),(⟨(some 31),(.len (.t 30)),(some (25,false))⟩,([],[])),(⟨(some 32),(.bin .gtr (.t 31) (.k (.c (.v (.int .i64 0))))),(some (25,false))⟩,([],[])),(⟨(some 33),(.pick (.t 25) (.k (.c (.v (.bool true)))) (.t 32)),none⟩,([],[]))]) (.kill [13,14,15,16,17,18,19,20,21,22,23,24,25,26,27,28,29,30,31,32] (.cond (.t 33) (.seq (.ops [⟨(some 4),(.mv (.k (.c (.v (.bool false))))),none⟩]) (.kill [2,3,5,33] .ret)) .skip)))) (.kill [4,13,14,15,16,17,18,19,20,21,22,23,24,25,26,27,28,29,30,31,32,33] (.ops [⟨(some 11),(.mv (.t 5)),none⟩,⟨(some 12),(.bin .add (.t 11) (.k (.c (.v (.int .i64 1))))),none⟩,⟨(some 5),(.mv (.t 12)),none⟩])))))))) (.kill [2,3,4,5,6,7,8,9,10,11,12,13,14,15,16,17,18,19,20,21,22,23,24,25,26,27,28,29,30,31,32,33] (.seq (.ops [⟨(some 4),(.mv (.k (.c (.v (.bool true))))),none⟩]) .ret)))))
def rs55:List RS:=[(.t 4)]
def nt55:Nat:=34
def ir58:IR:=(.seq (.ops [⟨(some 1),(.box 67 (.t 0)),none⟩,⟨(some 2),(.mv (.k (.c (.v (.slice none 0 0))))),none⟩]) (.kill [0,2,3,4,5,6,7,8,9,10,11] (.seq (.ops [⟨(some 3),(.mv (.k (.c (.v (.slice none 0 0))))),none⟩]) (.seq (.ops [⟨(some 5),(.mv (.t 3)),none⟩,⟨(some 6),(.fa 0 (.t 1)),none⟩,⟨(some 7),(.ld false 1 (.t 6)),none⟩,⟨(some 8),(.app 3 1 8 [(.v (.int .i64 0))] (.t 5) (.t 7)),none⟩,⟨(some 3),(.mv (.t 8)),none⟩]) (.kill [5,6,7,8] (.seq (.seq (.ops [⟨(some 4),(.mv (.k (.c (.v (.int .i64 0))))),none⟩]) (.blk 0 (.loop (.seq (.seq (.ops [⟨(some 9),(.mv (.t 4)),none⟩,⟨(some 10),(.fa 1 (.t 1)),none⟩,⟨(some 11),(.ld false 1 (.t 10)),none⟩,⟨(some 12),(.len (.t 11)),none⟩,⟨(some 13),(.bin .lss (.t 9) (.t 12)),none⟩]) (.kill [9,10,11,12,14,15,16,17,18,19,20,21,22,23,24,25,26,27,28,29,30,31,32,33,34,35,36,37,38,39,40,41,42] (.cond (.t 13) .skip (.exit 0)))) (.kill [13] (.seq (.blk 1 (.draw [(⟨(some 16),(.mv (.t 3)),none⟩,([],[17,18,19,20,21,22,23,24,25,26,27,28,29,30,31,32,33,34,35,36,37,38,39,40,41])),(⟨(some 17),(.fa 1 (.t 1)),none⟩,([0],[16,19,23,24,25,26,27,28,29,30,31,32,33,34,35,36,37,38,39,40])),(⟨(some 18),(.ld false 1 (.t 17)),none⟩,([0],[16,19,23,24,25,26,27,28,29,30,31,32,33,34,35,36,37,38,39,40])),(⟨(some 19),(.mv (.t 4)),none⟩,([0,1,2],[16,17,18,23,24,25,26,27,28,29,30,31,32,33,34,35,36,37,38,39,40])),(⟨(some 20),(.ia 4 (.t 18) (.t 19)),none⟩,([0],[16,23,24,25,26,27,28,29,30,31,32,33,34,35,36,37,38,39,40])),(⟨(some 21),(.iar 4 1 (.t 20) (.k (.c (.v (.int .i64 0))))),none⟩,([0],[16,23,24,25,26,27,28,29,30,31,32,33,34,35,36,37,38,39,40])),(⟨(some 22),(.ld false 1 (.t 21)),none⟩,([0],[16,23,24,25,26,27,28,29,30,31,32,33,34,35,36,37,38,39,40])),(⟨(some 23),(.fa 1 (.t 1)),none⟩,([0,1,2,3,4,5,6],[16,17,18,19,20,21,22,25,29,30,31,32,33,34,35,36,37,38,39,40])),(⟨(some 24),(.ld false 1 (.t 23)),none⟩,([0,1,2,3,4,5,6],[16,17,18,19,20,21,22,25,29,30,31,32,33,34,35,36,37,38,39,40])),(⟨(some 25),(.mv (.t 4)),none⟩,([0,1,2,3,4,5,6,7,8],[16,17,18,19,20,21,22,23,24,29,30,31,32,33,34,35,36,37,38,39,40])),(⟨(some 26),(.ia 4 (.t 24) (.t 25)),none⟩,([0,1,2,3,4,5,6],[16,17,18,19,20,21,22,29,30,31,32,33,34,35,36,37,38,39,40])),(⟨(some 27),(.iar 4 1 (.t 26) (.k (.c (.v (.int .i64 1))))),none⟩,([0,1,2,3,4,5,6],[16,17,18,19,20,21,22,29,30,31,32,33,34,35,36,37,38,39,40])),(⟨(some 28),(.ld false 1 (.t 27)),none⟩,([0,1,2,3,4,5,6],[16,17,18,19,20,21,22,29,30,31,32,33,34,35,36,37,38,39,40])),(⟨(some 29),(.fa 1 (.t 1)),none⟩,([0,1,2,3,4,5,6,7,8,9,10,11,12],[16,17,18,19,20,21,22,23,24,25,26,27,28,31,35,36,37,38,39,40])),(⟨(some 30),(.ld false 1 (.t 29)),none⟩,([0,1,2,3,4,5,6,7,8,9,10,11,12],[16,17,18,19,20,21,22,23,24,25,26,27,28,31,35,36,37,38,39,40])),(⟨(some 31),(.mv (.t 4)),none⟩,([0,1,2,3,4,5,6,7,8,9,10,11,12,13,14],[16,17,18,19,20,21,22,23,24,25,26,27,28,29,30,35,36,37,38,39,40])),(⟨(some 32),(.ia 4 (.t 30) (.t 31)),none⟩,([0,1,2,3,4,5,6,7,8,9,10,11,12],[16,17,18,19,20,21,22,23,24,25,26,27,28,35,36,37,38,39,40])),(⟨(some 33),(.iar 4 1 (.t 32) (.k (.c (.v (.int .i64 2))))),none⟩,([0,1,2,3,4,5,6,7,8,9,10,11,12],[16,17,18,19,20,21,22,23,24,25,26,27,28,35,36,37,38,39,40])),(⟨(some 34),(.ld false 1 (.t 33)),none⟩,([0,1,2,3,4,5,6,7,8,9,10,11,12],[16,17,18,19,20,21,22,23,24,25,26,27,28,35,36,37,38,39,40])),(⟨(some 35),(.fa 1 (.t 1)),none⟩,([0,1,2,3,4,5,6,7,8,9,10,11,12,13,14,15,16,17,18],[16,17,18,19,20,21,22,23,24,25,26,27,28,29,30,31,32,33,34,37])),(⟨(some 36),(.ld false 1 (.t 35)),none⟩,([0,1,2,3,4,5,6,7,8,9,10,11,12,13,14,15,16,17,18],[16,17,18,19,20,21,22,23,24,25,26,27,28,29,30,31,32,33,34,37])),(⟨(some 37),(.mv (.t 4)),none⟩,([0,1,2,3,4,5,6,7,8,9,10,11,12,13,14,15,16,17,18,19,20],[16,17,18,19,20,21,22,23,24,25,26,27,28,29,30,31,32,33,34,35,36])),(⟨(some 38),(.ia 4 (.t 36) (.t 37)),none⟩,([0,1,2,3,4,5,6,7,8,9,10,11,12,13,14,15,16,17,18],[16,17,18,19,20,21,22,23,24,25,26,27,28,29,30,31,32,33,34])),(⟨(some 39),(.iar 4 1 (.t 38) (.k (.c (.v (.int .i64 3))))),none⟩,([0,1,2,3,4,5,6,7,8,9,10,11,12,13,14,15,16,17,18],[16,17,18,19,20,21,22,23,24,25,26,27,28,29,30,31,32,33,34])),(⟨(some 40),(.ld false 1 (.t 39)),none⟩,([0,1,2,3,4,5,6,7,8,9,10,11,12,13,14,15,16,17,18],[16,17,18,19,20,21,22,23,24,25,26,27,28,29,30,31,32,33,34])),(⟨(some 41),(.mkSl 3 4 1 [(.v (.int .i64 0)),(.v (.int .i64 0)),(.v (.int .i64 0)),(.v (.int .i64 0))] [(0,(1,(.t 22))),(1,(1,(.t 28))),(2,(1,(.t 34))),(3,(1,(.t 40)))]),none⟩,([0],[16])),(⟨(some 42),(.app 3 1 8 [(.v (.int .i64 0))] (.t 16) (.t 41)),none⟩,([],[])),(⟨(some 3),(.mv (.t 42)),none⟩,([],[]))])) (.kill [16,17,18,19,20,21,22,23,24,25,26,27,28,29,30,31,32,33,34,35,36,37,38,39,40,41,42] (.ops [⟨(some 14),(.mv (.t 4)),none⟩,⟨(some 15),(.bin .add (.t 14) (.k (.c (.v (.int .i64 1))))),none⟩,⟨(some 4),(.mv (.t 15)),none⟩])))))))) (.kill [1,4,9,10,11,12,13,14,15,16,17,18,19,20,21,22,23,24,25,26,27,28,29,30,31,32,33,34,35,36,37,38,39,40,41,42] (.seq (.ops [⟨(some 43),(.mv (.t 3)),none⟩,⟨(some 2),(.mv (.t 43)),none⟩]) (.kill [3,43] .ret)))))))))
def rs58:List RS:=[(.t 2)]
def nt58:Nat:=44
def ir59:IR:=(.seq (.ops [⟨(some 2),(.box 67 (.t 0)),none⟩,⟨(some 3),(.box 67 (.t 1)),none⟩,⟨(some 4),(.mv (.k (.c (.v (.bool false))))),none⟩]) (.kill [0,1,4,5,6,7,8,9,10,11] (.seq (.ops [⟨(some 7),(.ld true 2 (.t 2)),none⟩,⟨(some 8),(.call 58 [(.t 7)]),none⟩,⟨(some 5),(.mv (.t 8)),none⟩]) (.kill [7,8] (.seq (.ops [⟨(some 9),(.ld true 2 (.t 3)),none⟩,⟨(some 10),(.call 58 [(.t 9)]),none⟩,⟨(some 6),(.mv (.t 10)),none⟩]) (.kill [9,10] (.seq (.ops [⟨(some 11),(.fa 0 (.t 2)),none⟩,⟨(some 12),(.ld false 1 (.t 11)),none⟩,⟨(some 13),(.len (.t 12)),none⟩,⟨(some 14),(.fa 0 (.t 3)),none⟩,⟨(some 15),(.ld false 1 (.t 14)),none⟩,⟨(some 16),(.len (.t 15)),none⟩,⟨(some 17),(.bin .eql (.t 13) (.t 16)),none⟩,⟨(some 18),(.mv (.t 17)),none⟩,⟨(some 19),(.fa 1 (.t 2)),(some (18,true))⟩,⟨(some 20),(.ld false 1 (.t 19)),(some (18,true))⟩,⟨(some 21),(.len (.t 20)),(some (18,true))⟩,⟨(some 22),(.fa 1 (.t 3)),(some (18,true))⟩,⟨(some 23),(.ld false 1 (.t 22)),(some (18,true))⟩,⟨(some 24),(.len (.t 23)),(some (18,true))⟩,⟨(some 25),(.bin .eql (.t 21) (.t 24)),(some (18,true))⟩,⟨(some 26),(.pick (.t 18) (.t 25) (.k (.c (.v (.bool false))))),none⟩,⟨(some 27),(.mv (.t 26)),none⟩,⟨(some 28),(.mv (.t 5)),(some (27,true))⟩,⟨(some 29),(.mv (.t 6)),(some (27,true))⟩,⟨(some 30),(.call 57 [(.t 28),(.t 29)]),(some (27,true))⟩,⟨(some 31),(.un .not (.t 30)),(some (27,true))⟩,⟨(some 32),(.pick (.t 27) (.t 31) (.k (.c (.v (.bool false))))),none⟩,⟨(some 33),(.mv (.t 32)),none⟩,⟨(some 34),(.mv (.t 6)),(some (33,true))⟩,⟨(some 35),(.mv (.t 5)),(some (33,true))⟩,⟨(some 36),(.call 57 [(.t 34),(.t 35)]),(some (33,true))⟩,⟨(some 37),(.un .not (.t 36)),(some (33,true))⟩,⟨(some 38),(.pick (.t 33) (.t 37) (.k (.c (.v (.bool false))))),none⟩,⟨(some 4),(.mv (.t 38)),none⟩]) (.kill [2,3,5,6,11,12,13,14,15,16,17,18,19,20,21,22,23,24,25,26,27,28,29,30,31,32,33,34,35,36,37,38] .ret))))))))
def rs59:List RS:=[(.t 4)]
def nt59:Nat:=39
set_option maxRecDepth 100000 in
set_option maxHeartbeats 1000000 in
theorem final_calls (w:World) (v v' : Value) (L:Lt) (o:Int) (s:LS) (hL:checkB L=true) (hwf:WfT L o s) (h:LtR w v L) (h' : StR w v' s):Calls Try.prog 50 #[v,v'] w (RetV w (.bool (finB L s))):=by
 refine enterLtSt (A:=[]) (c:=ir50) (rs:=rs50) (nt:=nt50) h h' [.agg (ltS 0),.agg (stS 3)] _ Try.func50 rfl (by kernel_rfl) (by kernel_rfl) rfl (fun E' h0 h1=>by simp only [List.map_cons,List.map_nil,h0,h1]) (of_decide_eq_true rfl) ?_
 obtain ⟨z1,z2,z3,z4⟩:=sz_at hL
 have hp:=hwf.wf.p
 have hb:=hwf.wf.b
 simp (maxSteps:=2000000) only [ir50,nt50,rs50,go_sem,↓runOp,↓reduceIte,Nat.reduceLT,Nat.reduceAdd,Nat.reduceEqDiff,reduceCtorEq,ltA,ltS,stA,stS]
 refine loopI (ι:={ i:Nat // i≤L.thr.length∧∀ t,t<i→s.places.getD t 0=(L.thr.getD t []).length∧(s.bufs.getD t []).length=0 }) (fun i=>⟨33,[(3,.c (.ptr (9,0,0) 0)),(8,.c (.xv (1,0,0))),(9,.c (.v (.int .i64 L.thr.length))),(10,.c (.v (.int .i64 (i.1:Nat))))],
  [(8,.one (.bk [.xv (0,0,0),.xv (1,0,0)] 25)),(9,.one (.bk [.xv (3,0,0),.xv (4,0,0),.xv (5,0,0),.xv (6,0,0)] 32))],ltA 0 L++stA 3 s,[],10⟩)
  (fun i=>L.thr.length - i.1) ⟨0,by omega,fun t ht=>by omega⟩ (le_ren id rfl rfl (by simp [TmpsLe,look,SV.ren,SC.ren,idσ,SV.okN,SC.okN]) (by simp [OwnLe,BlkLeO,BlkLe,atN,look,Fm.get,idσ,SC.renL,SC.ren,SC.okL,SC.okN]) (by simp +contextual [ltA,stA,ArrsLe,ArrLeO,atN,look,Fm.get,idσ,arrLe_of,arrLe_nest]) rfl) ?_
 rintro ⟨i,hi,hg⟩
 simp (maxSteps:=2000000) only [go_sem,↓condS,↓exitS,↓gateS,↓runOp,↓reduceIte,Nat.reduceLT,Nat.reduceAdd,Nat.reduceEqDiff,reduceCtorEq,ltA,stA,eI]
 refine both (fun hlt=>?_) (fun hge=>?_)
 ·rw [decide_eq_true_eq] at hlt
  have hlt:i<L.thr.length:=by omega
  have hlp:i<s.places.length:=by omega
  have hlb:i<s.bufs.length:=by omega
  have g:=hwf.wf.thr i hlt
  have g1:=g.p1
  repeat (with_reducible refine And.intro (by first | exact hlt | exact hlp | exact hlb | exact fun _=>hlb) ?_)
  refine both (fun hc=>?_) (fun hc=>?_)
  ·simp only [b_decL,bt_ite,iff_true,and_true] at hc
   have hf:finB L s=false:=finB_no hlt (by omega)
   exact retV fun E=>by simp [SV.den,SC.den,hf]
  ·simp only [b_decL,bf_ite,Bool.false_eq_true,Bool.true_eq_false,iff_false,iff_true,and_false,false_or] at hc
   rw [wr_succ (by omega)]
   refine backI ⟨i+1,by omega,fun t ht=>?_⟩ (by simp only;omega) (le_ren id rfl rfl (by simp [TmpsLe,look,SV.ren,SC.ren,idσ,SV.okN,SC.okN]) (by simp [OwnLe,BlkLeO,BlkLe,atN,look,Fm.get,idσ,SC.renL,SC.ren,SC.okL,SC.okN]) (by simp +contextual [ArrsLe,ArrLeO,atN,look,Fm.get,idσ,arrLe_of,arrLe_nest]) rfl)
   by_cases e:t=i
   ·subst e;omega
   ·exact hg t (by omega)
 ·rw [decide_eq_false_iff_not] at hge
  have hf:finB L s=true:=finB_iff.2 fun t ht=>hg t (by omega)
  exact retV fun E=>by simp [SV.den,SC.den,hf]
set_option maxRecDepth 100000 in
set_option maxHeartbeats 1000000 in
theorem rfinal_calls (w:World) (v v' : Value) (L:Lt) (o:Int) (s:LS) (hL:checkB L=true) (hwf:WfT L o s) (h:LtR w v L) (h' : StR w v' s):Calls Try.prog 55 #[v,v'] w (RetV w (.bool (finB L s))):=by
 refine enterLtSt (A:=[]) (c:=ir55) (rs:=rs55) (nt:=nt55) h h' [.agg (ltS 0),.agg (stS 3)] _ Try.func55 rfl (by kernel_rfl) (by kernel_rfl) rfl (fun E' h0 h1=>by simp only [List.map_cons,List.map_nil,h0,h1]) (of_decide_eq_true rfl) ?_
 obtain ⟨z1,z2,z3,z4⟩:=sz_at hL
 have hp:=hwf.wf.p
 have hb:=hwf.wf.b
 simp (maxSteps:=2000000) only [ir55,nt55,rs55,go_sem,↓runOp,↓reduceIte,Nat.reduceLT,Nat.reduceAdd,Nat.reduceEqDiff,reduceCtorEq,ltA,ltS,stA,stS]
 refine loopI (ι:={ i:Nat // i≤L.thr.length∧∀ t,t<i→s.places.getD t 0=(L.thr.getD t []).length∧(s.bufs.getD t []).length=0 }) (fun i=>⟨34,[(2,.c (.ptr (8,0,0) 0)),(3,.c (.ptr (9,0,0) 0)),(5,.c (.v (.int .i64 (i.1:Nat))))],
  [(8,.one (.bk [.xv (0,0,0),.xv (1,0,0)] 25)),(9,.one (.bk [.xv (3,0,0),.xv (4,0,0),.xv (5,0,0),.xv (6,0,0)] 32))],ltA 0 L++stA 3 s,[],10⟩)
  (fun i=>L.thr.length - i.1) ⟨0,by omega,fun t ht=>by omega⟩ (le_ren id rfl rfl (by simp [TmpsLe,look,SV.ren,SC.ren,idσ,SV.okN,SC.okN]) (by simp [OwnLe,BlkLeO,BlkLe,atN,look,Fm.get,idσ,SC.renL,SC.ren,SC.okL,SC.okN]) (by simp +contextual [ltA,stA,ArrsLe,ArrLeO,atN,look,Fm.get,idσ,arrLe_of,arrLe_nest]) rfl) ?_
 rintro ⟨i,hi,hg⟩
 simp (maxSteps:=2000000) only [go_sem,↓condS,↓exitS,↓runOp,↓reduceIte,Nat.reduceLT,Nat.reduceAdd,Nat.reduceEqDiff,reduceCtorEq,ltA,stA]
 refine both (fun hlt=>?_) (fun hge=>?_)
 ·rw [decide_eq_true_eq] at hlt
  have hlt:i<L.thr.length:=by omega
  have hlp:i<s.places.length:=by omega
  have hlb:i<s.bufs.length:=by omega
  refine draw_vc (by kernel_rfl) (mkTab_ok _ _) (of_decide_eq_true rfl) (of_decide_eq_true rfl) ?_
  repeat (first | simp (maxSteps:=2000000) only [go_sem,↓condS,↓runOp,↓gateD,altC,↓runD,↓reduceIte,Nat.reduceLT,Nat.reduceEqDiff,reduceCtorEq,eI] | rw [dr_cons])
  repeat (with_reducible refine And.intro (by first | exact hlt | exact hlp | exact hlb | exact fun _=>hlb) ?_)
  refine both (fun hc=>?_) (fun hc=>?_)
  ·simp only [b_decL,bt_ite,bt_nint,iff_true,and_true] at hc
   have hf:finB L s=false:=finB_no hlt (by omega)
   exact retV fun E=>by simp [SV.den,SC.den,hf]
  ·simp only [b_decL,bf_ite,bt_nint,Bool.false_eq_true,Bool.true_eq_false,iff_false,and_false,false_or] at hc
   rw [wr_succ (by omega)]
   refine backI ⟨i+1,by omega,fun t ht=>?_⟩ (by simp only;omega) (le_ren id rfl rfl (by simp [TmpsLe,look,SV.ren,SC.ren,idσ,SV.okN,SC.okN]) (by simp [OwnLe,BlkLeO,BlkLe,atN,look,Fm.get,idσ,SC.renL,SC.ren,SC.okL,SC.okN]) (by simp +contextual [ArrsLe,ArrLeO,atN,look,Fm.get,idσ,arrLe_of,arrLe_nest]) rfl)
   by_cases e:t=i
   ·subst e;omega
   ·exact hg t (by omega)
 ·rw [decide_eq_false_iff_not] at hge
  have hf:finB L s=true:=finB_iff.2 fun t ht=>hg t (by omega)
  exact retV fun E=>by simp [SV.den,SC.den,hf]
theorem seg_ints:∀ (l:List Int) (e:Nat),e<l.length→take' 1 (drop' (e * 1) (l.map fun x=>SC.v (.int .i64 x)))=ats eI l 0 e:=fun l e he=>by
 rw [take'_eq,drop'_eq,Nat.mul_one,List.drop_eq_getElem_cons (by simpa using he)]
 simp [ats,eI,List.getD_eq_getElem?_getD,he]
def r4L (r:R4):List Int:=[r.a,r.b,r.c,r.d]
def numT (f:Fn):Nat→List Int
 | 0=>f.words
 | n+1=>numT f n++r4L (f.regs.getD n r40)
def numF (f:Fn):List Int:=numT f f.regs.length
theorem numT_len (f:Fn):∀ n,(numT f n).length=f.words.length+4 * n
 | 0=>rfl
 | n+1=>by simp [numT,r4L,numT_len f n];omega
theorem enterFn {P:Program} {A:List Nat} {f nt:Nat} {fn:Func} {x:Code} {c:IR} {w:World} {rs:List RS} {R:Ending→World→Prop} {v:Value} {a:Fn} (h:FnR w v a)
  (hf:P.funcs[f]? = some fn) (hb:fn.body=some x) (hc:compC (mkTab P A) x=some c.strip) (hrs:compR (mkTab P A).T fn.results.toList=some rs) (hn:fn.ntmps=nt) (hnt:1≤nt)
  (hex:exec (mkC P A w rs R) 1000 [.code c] ⟨nt,enumT 0 [.agg [.xv (0,0,0),.xv (1,0,0)]],[],[(0,.one (arrOf eI 1 a.words 0)),(1,.one (arrOf R4.enc 4 a.regs r40))],[],2⟩):Calls P f #[v] w R:=by
 obtain ⟨vw,vr,rfl,h1,h2⟩:=h
 refine enterL [fun _=>vw,fun _=>vr] ⟨fun _=>arr_one h1,fun _=>arr_one h2,trivial⟩
  (rd_one 0 0 eI_ok h1 (by simp) rfl (rd_one 1 r40 r4_ok h2 (by simp) rfl rd_nil))
  [.agg [.xv (0,0,0),.xv (1,0,0)]] _ hf hb hc hrs hn (fun E' hE'=>?_) hnt hex
 have e:=fun i hi=>hE' i 0 0 hi
 simp only [List.map_cons,List.map_nil,SV.den,SC.den,e 0 (by simp),e 1 (by simp)]
 rfl
set_option maxRecDepth 100000 in
set_option maxHeartbeats 1000000 in
theorem num_calls19 (w:World) (v:Value) (f:Fn) (h1:f.words.length≤6) (h2:f.regs.length≤4) (h:FnR w v f):Calls Try.prog 58 #[v] w (RetN w 1 (lsT 1 (numF f).length) (lsO 3 1 eI (numF f) 0)):=by
 refine enterFn (A:=[]) (c:=ir58) (rs:=rs58) (nt:=nt58) h Try.func58 rfl (by kernel_rfl) (by kernel_rfl) rfl (of_decide_eq_true rfl) ?_
 simp (maxSteps:=2000000) only [ir58,nt58,rs58,go_sem,↓runOp,↓reduceIte,Nat.reduceLT,Nat.reduceAdd,Nat.reduceEqDiff,reduceCtorEq]
 refine And.intro ⟨by omega,by simp only [maxLen];omega⟩ ?_
 refine loopI (ι:={ i:Nat // i≤f.regs.length }) (fun i=>⟨44,[(1,.c (.ptr (2,0,0) 0)),(3,.c (.sl (3,0,0) 1 0 (numT f i.1).length none)),(4,.c (.v (.int .i64 (i.1:Nat))))],[(2,.one (.bk [.xv (0,0,0),.xv (1,0,0)] 67)),(3,.one (.ar (numT f i.1).length 1 (ats eI (numT f i.1) 0) 3))],[(0,.one (arrOf eI 1 f.words 0)),(1,.one (arrOf R4.enc 4 f.regs r40))],[],4⟩)
  (fun i=>f.regs.length - i.1) ⟨0,by omega⟩ (le_ren id rfl rfl (by simp [TmpsLe,look,SV.ren,SC.ren,idσ,SV.okN,SC.okN,numT]) (by simp [numT,OwnLe,BlkLeO,BlkLe,atN,look,Fm.get,idσ,SC.renL,SC.ren,SC.okL,SC.okN,ren_ats,ok_ats,arrOf_ats]) (by simp [ArrsLe,ArrLeO,atN,look,Fm.get,idσ,arrLe_of]) rfl) ?_
 rintro ⟨i,hi⟩
 simp (maxSteps:=2000000) only [go_sem,↓condS,↓exitS,↓runOp,↓reduceIte,Nat.reduceLT,Nat.reduceEqDiff,reduceCtorEq]
 refine both (fun hlt=>?_) (fun hge=>?_)
 ·rw [decide_eq_true_eq] at hlt
  have hlt:i<f.regs.length:=by omega
  have hnl:=numT_len f i
  refine draw_vc (by kernel_rfl) (mkTab_ok _ _) (of_decide_eq_true rfl) (of_decide_eq_true rfl) ?_
  repeat (first | simp (maxSteps:=2000000) only [go_sem,↓runOp,↓gateD,↓runD,↓reduceIte,Nat.reduceLT,Nat.reduceLeDiff,Nat.reduceAdd,Nat.reduceMul,Nat.reduceEqDiff,reduceCtorEq,Int.reduceToNat,Int.reduceLT,Int.reduceLE,R4.enc] | rw [dr_cons])
  generalize hX:numT f i=X at hnl ⊢
  have hX2:numT f (i+1)=X++r4L (f.regs.getD i r40):=by rw [← hX];rfl
  repeat (with_reducible refine And.intro (by first | exact hlt | decide | exact ⟨Nat.le_refl _,by omega,by simp only [maxLen];omega⟩ | exact Or.inl trivial | exact Or.inr trivial | exact ⟨Or.inl trivial,Or.inr trivial⟩) ?_)
  rw [wr_succ (by omega)]
  refine backI ⟨i+1,by omega⟩ (by simp only;omega) (le_ren (fun j=>if j=3 then 5 else j) rfl rfl ?_ ?_ (by simp [ArrsLe,ArrLeO,atN,look,Fm.get,idσ,arrLe_of]) rfl)
  ·simp [TmpsLe,look,SV.ren,SC.ren,idσ,SV.okN,SC.okN,hX2,r4L]
  ·refine ⟨⟨of_decide_eq_true rfl,?_⟩,⟨of_decide_eq_true rfl,?_⟩,trivial⟩
   ·simp [BlkLeO,BlkLe,atN,look,idσ,Fm.get,SC.renL,SC.ren,SC.okL,SC.okN]
   ·simp only [idσ,reduceIte,atN,look,Nat.reduceEqDiff,Fm.get,and_self]
    rw [hX2,List.length_append]
    refine arLe_of (by simp [r4L]) fun e he=>?_
    exact ats_app (d:=0) (xs:=X) (ys:=r4L (f.regs.getD i r40)) rfl rfl (fun _ _=>rfl) (fun e he=>seg_ints (r4L (f.regs.getD i r40)) e he) e (by rw [List.length_append];exact he)
 ·rw [decide_eq_false_iff_not] at hge
  have hin:i=f.regs.length:=by omega
  subst hin
  exact retList' 3 _ _ rfl rfl (Nat.le_refl _) fun _ _=>rfl
end Go.Proofs.Ytmcpdafmkkjlcaa.Z
namespace Go.Proofs.Ytmcpdafmkkjlcaa.Z
open Go Go.RowKit
def ordR:List R4→List R4→Int
 | x :: l,y :: m=>if cmpL (r4L x) (r4L y)≠0 then cmpL (r4L x) (r4L y) else ordR l m
 | _,_=>0
def ordF (a b:Fn):Int:=if cmpL a.words b.words≠0 then cmpL a.words b.words else ordR a.regs b.regs
theorem drop_r4 {l:List R4} {i:Nat} (h:i<l.length):l.drop i=l.getD i r40 :: l.drop (i+1):=by
 rw [List.drop_eq_getElem_cons h,List.getD_eq_getElem?_getD,List.getElem?_eq_getElem h];rfl
theorem enterFn2 {P:Program} {A:List Nat} {f nt:Nat} {fn:Func} {x:Code} {c:IR} {w:World} {rs:List RS} {R:Ending→World→Prop} {v v' : Value} {a b:Fn} (h:FnR w v a) (h' : FnR w v' b)
  (hf:P.funcs[f]? = some fn) (hb:fn.body=some x) (hc:compC (mkTab P A) x=some c.strip) (hrs:compR (mkTab P A).T fn.results.toList=some rs) (hn:fn.ntmps=nt) (hnt:2≤nt)
  (hex:exec (mkC P A w rs R) 1000 [.code c] ⟨nt,enumT 0 [.agg [.xv (0,0,0),.xv (1,0,0)],.agg [.xv (2,0,0),.xv (3,0,0)]],[],[(0,.one (arrOf eI 1 a.words 0)),(1,.one (arrOf R4.enc 4 a.regs r40)),(2,.one (arrOf eI 1 b.words 0)),(3,.one (arrOf R4.enc 4 b.regs r40))],[],4⟩):Calls P f #[v,v'] w R:=by
 obtain ⟨vw,vr,rfl,h1,h2⟩:=h
 obtain ⟨vw',vr',rfl,h1',h2'⟩:=h'
 refine enterL [fun _=>vw,fun _=>vr,fun _=>vw',fun _=>vr'] ⟨fun _=>arr_one h1,fun _=>arr_one h2,fun _=>arr_one h1',fun _=>arr_one h2',trivial⟩
  (rd_one 0 0 eI_ok h1 (by simp) rfl (rd_one 1 r40 r4_ok h2 (by simp) rfl (rd_one 2 0 eI_ok h1' (by simp) rfl (rd_one 3 r40 r4_ok h2' (by simp) rfl rd_nil))))
  [.agg [.xv (0,0,0),.xv (1,0,0)],.agg [.xv (2,0,0),.xv (3,0,0)]] _ hf hb hc hrs hn (fun E' hE'=>?_) hnt hex
 have e:=fun i hi=>hE' i 0 0 hi
 simp only [List.map_cons,List.map_nil,SV.den,SC.den,e 0 (by simp),e 1 (by simp),e 2 (by simp),e 3 (by simp)]
 rfl
end Go.Proofs.Ytmcpdafmkkjlcaa.Z
namespace Go.Proofs.Ytmcpdafmkkjlcaa.Z
open Go Go.RowKit
theorem fn_at {C:Ctx} {E:Env} {S:St} {a:Act} {w:World} (hs:Sat C.B C.W C.w0 E S a w) {f:Fn} (i:Nat) (h0:look S.arrs i=some (.one (arrOf eI 1 f.words 0))) (h1:look S.arrs (i+1)=some (.one (arrOf R4.enc 4 f.regs r40))):FnR w ((SV.agg [.xv (i,0,0),.xv (i+1,0,0)]).den E) f :=
 ⟨_,_,by simp [SV.den,SC.den],arr_at (d:=0) hs i (by simp [atN,h0,Fm.get];rfl),arr_at (d:=r40) hs (i+1) (by simp [atN,h1,Fm.get];rfl)⟩
def sameF (a b:Fn):Bool:=decide (a.words.length=b.words.length∧a.regs.length=b.regs.length) && !lessL (numF a) (numF b) && !lessL (numF b) (numF a)
set_option maxRecDepth 100000 in
set_option maxHeartbeats 1000000 in
theorem same_calls (w:World) (v v' : Value) (a b:Fn) (ha1:a.words.length≤6) (ha2:a.regs.length≤4) (hb1:b.words.length≤6) (hb2:b.regs.length≤4) (h:FnR w v a) (h' : FnR w v' b):Calls Try.prog 59 #[v,v'] w (RetV w (.bool (sameF a b))):=by
 refine enterFn2 (A:=[]) (c:=ir59) (rs:=rs59) (nt:=nt59) h h' Try.func59 rfl (by kernel_rfl) (by kernel_rfl) rfl (of_decide_eq_true rfl) ?_
 simp (maxSteps:=2000000) only [ir59,nt59,rs59,go_sem,↓runOp,↓reduceIte,Nat.reduceLT,Nat.reduceLeDiff,Nat.reduceAdd,Nat.reduceEqDiff,reduceCtorEq]
 refine callN 1 (lsT 1 (numF a).length) (lsO 3 1 eI (numF a) 0) (fun E a' w' hs=>num_calls19 w' _ a ha1 ha2 (fn_at hs 0 rfl rfl)) ?_
 simp (maxSteps:=2000000) only [go_sem,↓runOp,↓reduceIte,Nat.reduceLT,Nat.reduceLeDiff,Nat.reduceAdd,Nat.reduceEqDiff,lsT,lsO]
 refine callN 1 (lsT 1 (numF b).length) (lsO 3 1 eI (numF b) 0) (fun E a' w' hs=>num_calls19 w' _ b hb1 hb2 (fn_at hs 2 rfl rfl)) ?_
 simp (maxSteps:=2000000) only [go_sem,↓gateS,↓runOp,↓reduceIte,Nat.reduceLT,Nat.reduceAdd,Nat.reduceEqDiff,reduceCtorEq,lsT,lsO]
 refine guardW (.c (.bo (lessL (numF a) (numF b)))) _ (fun E=>rfl) (fun E a' w' hs=>less_calls w' _ _ (numF a) (numF b) (own_at (d:=0) hs 6 _ rfl rfl) (own_at (d:=0) hs 7 _ rfl rfl)) ?_
 simp (maxSteps:=2000000) only [go_sem,↓gateS,↓runOp,↓reduceIte,Nat.reduceLT,Nat.reduceEqDiff]
 refine guardW (.c (.bo (lessL (numF b) (numF a)))) _ (fun E=>rfl) (fun E a' w' hs=>less_calls w' _ _ (numF b) (numF a) (own_at (d:=0) hs 7 _ rfl rfl) (own_at (d:=0) hs 6 _ rfl rfl)) ?_
 simp (maxSteps:=2000000) only [go_sem,↓gateS,↓runOp,↓reduceIte,Nat.reduceLT,Nat.reduceEqDiff]
 exact retV fun E=>by
  simp only [SV.den,SC.den,Value.bool.injEq,sameF]
  by_cases e1:a.words.length=b.words.length <;> by_cases e2:a.regs.length=b.regs.length <;> cases lessL (numF a) (numF b) <;> cases lessL (numF b) (numF a) <;> simp [e1,e2,Int.natCast_inj]
end Go.Proofs.Ytmcpdafmkkjlcaa.Z
namespace Go.Proofs.Ytmcpdafmkkjlcaa.Z
open Go Go.RowKit
def ir53:IR:=(.seq (.ops [⟨(some 2),(.box 25 (.t 0)),none⟩,⟨(some 4),(.mv (.k (.c (.v (.int .i64 0))))),none⟩]) (.kill [0,3,4,5,6,7,8,9,10,11] (.seq (.seq (.ops [⟨(some 5),(.ld true 2 (.t 2)),none⟩,⟨(some 6),(.call 18 [(.t 5)]),none⟩,⟨(some 7),(.un .not (.t 6)),none⟩]) (.kill [2,5,6] (.cond (.t 7) (.seq (.ops [⟨(some 4),(.mv (.k (.c (.v (.int .i64 190))))),none⟩]) (.kill [1,7] .ret)) .skip))) (.kill [4,7] (.seq (.seq (.ops [⟨(some 8),(.mv (.t 1)),none⟩,⟨(some 9),(.call 23 [(.t 8)]),none⟩,⟨(some 10),(.un .not (.t 9)),none⟩]) (.kill [1,8,9] (.cond (.t 10) (.seq (.ops [⟨(some 4),(.mv (.k (.c (.v (.int .i64 191))))),none⟩]) (.kill [10] .ret)) .skip))) (.kill [4,10] (.seq (.ops [⟨(some 4),(.mv (.k (.c (.v (.int .i64 0))))),none⟩]) .ret)))))))
def rs53:List RS:=[(.t 4)]
def nt53:Nat:=11
def ir56:IR:=(.seq (.ops [⟨(some 1),(.box 32 (.t 0)),none⟩,⟨(some 2),(.new 67 [(.v (.slice none 0 0)),(.v (.slice none 0 0))]),none⟩]) (.kill [0,3,4,5,6,7,8,9,10,11] (.seq (.ops [⟨(some 3),(.new 67 [(.v (.slice none 0 0)),(.v (.slice none 0 0))]),none⟩]) (.seq (.ops [⟨(some 4),(.fa 0 (.t 3)),none⟩,⟨(some 5),(.ld false 1 (.t 4)),none⟩,⟨(some 6),(.fa 0 (.t 1)),none⟩,⟨(some 7),(.ld false 1 (.t 6)),none⟩,⟨(some 8),(.app 3 1 8 [(.v (.int .i64 0))] (.t 5) (.t 7)),none⟩,⟨(some 9),(.fa 0 (.t 3)),none⟩,⟨none,(.st 1 (.t 9) (.t 8)),none⟩]) (.kill [4,5,6,7,8,9] (.seq (.ops [⟨(some 10),(.fa 1 (.t 3)),none⟩,⟨(some 11),(.ld false 1 (.t 10)),none⟩,⟨(some 12),(.fa 1 (.t 1)),none⟩,⟨(some 13),(.ld false 1 (.t 12)),none⟩,⟨(some 14),(.app 68 4 32 [(.v (.int .i64 0)),(.v (.int .i64 0)),(.v (.int .i64 0)),(.v (.int .i64 0))] (.t 11) (.t 13)),none⟩,⟨(some 15),(.fa 1 (.t 3)),none⟩,⟨none,(.st 1 (.t 15) (.t 14)),none⟩]) (.kill [1,10,11,12,13,14,15] (.seq (.ops [⟨(some 16),(.ld true 2 (.t 3)),none⟩,⟨none,(.st 2 (.t 2) (.t 16)),none⟩]) (.kill [3,16] .ret)))))))))
def rs56:List RS:=[(.cell 2 true 2)]
def nt56:Nat:=17
def ir89:IR:=(.seq (.ops [⟨(some 1),(.box 32 (.t 0)),none⟩,⟨(some 2),(.mv (.k (.c (.v (.slice none 0 0))))),none⟩]) (.kill [0,2,3,4,5,6,7,8,9,10,11] (.seq (.ops [⟨(some 3),(.mv (.k (.c (.v (.slice none 0 0))))),none⟩]) (.seq (.ops [⟨(some 6),(.mv (.t 3)),none⟩,⟨(some 7),(.fa 0 (.t 1)),none⟩,⟨(some 8),(.ld false 1 (.t 7)),none⟩,⟨(some 9),(.app 3 1 8 [(.v (.int .i64 0))] (.t 6) (.t 8)),none⟩,⟨(some 3),(.mv (.t 9)),none⟩]) (.kill [6,7,8,9] (.seq (.seq (.ops [⟨(some 4),(.mv (.k (.c (.v (.int .i64 0))))),none⟩]) (.blk 0 (.loop (.seq (.seq (.ops [⟨(some 10),(.mv (.t 4)),none⟩,⟨(some 11),(.fa 1 (.t 1)),none⟩,⟨(some 12),(.ld false 1 (.t 11)),none⟩,⟨(some 13),(.len (.t 12)),none⟩,⟨(some 14),(.bin .lss (.t 10) (.t 13)),none⟩]) (.kill [5,10,11,12,13,15,16,17,18,19,20,21,22,23,24,25,26,27,28,29,30,31,32,33,34,35,36,37,38,39,40,41,42,43,44,45,46,47,48,49,50,51,52,53,54,55,56,57,58,59,60,61,62,63,64,65,66,67,68,69,70,71,72,73,74,75,76,77,78,79,80,81,82,83,84,85] (.cond (.t 14) .skip (.exit 0)))) (.kill [14] (.seq (.blk 1 (.seq (.draw [(⟨(some 17),(.mv (.t 3)),none⟩,([],[18,19,20,21,22,23,24,25,26,27,28,29,30,31,32,33,34,35,36,37,38,39,40,41,42,43,44,45,46,47,48,49,50,51,52,53])),(⟨(some 18),(.fa 1 (.t 1)),none⟩,([0],[17,20,24,25,26,27,28,29,30,31,32,33,34,35,36,37,38,39,40,41,42,43,44,45,46,47,48,49,50,51,52])),(⟨(some 19),(.ld false 1 (.t 18)),none⟩,([0],[17,20,24,25,26,27,28,29,30,31,32,33,34,35,36,37,38,39,40,41,42,43,44,45,46,47,48,49,50,51,52])),(⟨(some 20),(.mv (.t 4)),none⟩,([0,1,2],[17,18,19,24,25,26,27,28,29,30,31,32,33,34,35,36,37,38,39,40,41,42,43,44,45,46,47,48,49,50,51,52])),(⟨(some 21),(.ia 4 (.t 19) (.t 20)),none⟩,([0],[17,24,25,26,27,28,29,30,31,32,33,34,35,36,37,38,39,40,41,42,43,44,45,46,47,48,49,50,51,52])),(⟨(some 22),(.iar 4 1 (.t 21) (.k (.c (.v (.int .i64 0))))),none⟩,([0],[17,24,25,26,27,28,29,30,31,32,33,34,35,36,37,38,39,40,41,42,43,44,45,46,47,48,49,50,51,52])),(⟨(some 23),(.ld false 1 (.t 22)),none⟩,([0],[17,24,25,26,27,28,29,30,31,32,33,34,35,36,37,38,39,40,41,42,43,44,45,46,47,48,49,50,51,52])),(⟨(some 24),(.fa 1 (.t 1)),none⟩,([0,1,2,3,4,5,6],[17,18,19,20,21,22,23,26,30,31,32,33,34,35,36,37,38,39,40,41,42,43,44,45,46,47,48,49,50,51,52])),(⟨(some 25),(.ld false 1 (.t 24)),none⟩,([0,1,2,3,4,5,6],[17,18,19,20,21,22,23,26,30,31,32,33,34,35,36,37,38,39,40,41,42,43,44,45,46,47,48,49,50,51,52])),(⟨(some 26),(.mv (.t 4)),none⟩,([0,1,2,3,4,5,6,7,8],[17,18,19,20,21,22,23,24,25,30,31,32,33,34,35,36,37,38,39,40,41,42,43,44,45,46,47,48,49,50,51,52])),(⟨(some 27),(.ia 4 (.t 25) (.t 26)),none⟩,([0,1,2,3,4,5,6],[17,18,19,20,21,22,23,30,31,32,33,34,35,36,37,38,39,40,41,42,43,44,45,46,47,48,49,50,51,52])),(⟨(some 28),(.iar 4 1 (.t 27) (.k (.c (.v (.int .i64 1))))),none⟩,([0,1,2,3,4,5,6],[17,18,19,20,21,22,23,30,31,32,33,34,35,36,37,38,39,40,41,42,43,44,45,46,47,48,49,50,51,52])),(⟨(some 29),(.ld false 1 (.t 28)),none⟩,([0,1,2,3,4,5,6],[17,18,19,20,21,22,23,30,31,32,33,34,35,36,37,38,39,40,41,42,43,44,45,46,47,48,49,50,51,52])),(⟨(some 30),(.fa 1 (.t 1)),none⟩,([0,1,2,3,4,5,6,7,8,9,10,11,12],[17,18,19,20,21,22,23,24,25,26,27,28,29,32,36,37,38,39,40,41,42,43,44,45,46,47,48,49,50,51,52])),(⟨(some 31),(.ld false 1 (.t 30)),none⟩,([0,1,2,3,4,5,6,7,8,9,10,11,12],[17,18,19,20,21,22,23,24,25,26,27,28,29,32,36,37,38,39,40,41,42,43,44,45,46,47,48,49,50,51,52])),(⟨(some 32),(.mv (.t 4)),none⟩,([0,1,2,3,4,5,6,7,8,9,10,11,12,13,14],[17,18,19,20,21,22,23,24,25,26,27,28,29,30,31,36,37,38,39,40,41,42,43,44,45,46,47,48,49,50,51,52])),(⟨(some 33),(.ia 4 (.t 31) (.t 32)),none⟩,([0,1,2,3,4,5,6,7,8,9,10,11,12],[17,18,19,20,21,22,23,24,25,26,27,28,29,36,37,38,39,40,41,42,43,44,45,46,47,48,49,50,51,52])),(⟨(some 34),(.iar 4 1 (.t 33) (.k (.c (.v (.int .i64 2))))),none⟩,([0,1,2,3,4,5,6,7,8,9,10,11,12],[17,18,19,20,21,22,23,24,25,26,27,28,29,36,37,38,39,40,41,42,43,44,45,46,47,48,49,50,51,52])),(⟨(some 35),(.ld false 1 (.t 34)),none⟩,([0,1,2,3,4,5,6,7,8,9,10,11,12],[17,18,19,20,21,22,23,24,25,26,27,28,29,36,37,38,39,40,41,42,43,44,45,46,47,48,49,50,51,52])),(⟨(some 36),(.fa 1 (.t 1)),none⟩,([0,1,2,3,4,5,6,7,8,9,10,11,12,13,14,15,16,17,18],[17,18,19,20,21,22,23,24,25,26,27,28,29,30,31,32,33,34,35,38,42,43,44,45,46,47,48,49,50,51,52])),(⟨(some 37),(.ld false 1 (.t 36)),none⟩,([0,1,2,3,4,5,6,7,8,9,10,11,12,13,14,15,16,17,18],[17,18,19,20,21,22,23,24,25,26,27,28,29,30,31,32,33,34,35,38,42,43,44,45,46,47,48,49,50,51,52])),(⟨(some 38),(.mv (.t 4)),none⟩,([0,1,2,3,4,5,6,7,8,9,10,11,12,13,14,15,16,17,18,19,20],[17,18,19,20,21,22,23,24,25,26,27,28,29,30,31,32,33,34,35,36,37,42,43,44,45,46,47,48,49,50,51,52])),(⟨(some 39),(.ia 4 (.t 37) (.t 38)),none⟩,([0,1,2,3,4,5,6,7,8,9,10,11,12,13,14,15,16,17,18],[17,18,19,20,21,22,23,24,25,26,27,28,29,30,31,32,33,34,35,42,43,44,45,46,47,48,49,50,51,52])),(⟨(some 40),(.iar 4 1 (.t 39) (.k (.c (.v (.int .i64 3))))),none⟩,([0,1,2,3,4,5,6,7,8,9,10,11,12,13,14,15,16,17,18],[17,18,19,20,21,22,23,24,25,26,27,28,29,30,31,32,33,34,35,42,43,44,45,46,47,48,49,50,51,52])),(⟨(some 41),(.ld false 1 (.t 40)),none⟩,([0,1,2,3,4,5,6,7,8,9,10,11,12,13,14,15,16,17,18],[17,18,19,20,21,22,23,24,25,26,27,28,29,30,31,32,33,34,35,42,43,44,45,46,47,48,49,50,51,52])),(⟨(some 42),(.fa 2 (.t 1)),none⟩,([0,1,2,3,4,5,6,7,8,9,10,11,12,13,14,15,16,17,18,19,20,21,22,23,24],[17,18,19,20,21,22,23,24,25,26,27,28,29,30,31,32,33,34,35,36,37,38,39,40,41,44,47,48,49,50,51,52])),(⟨(some 43),(.ld false 1 (.t 42)),none⟩,([0,1,2,3,4,5,6,7,8,9,10,11,12,13,14,15,16,17,18,19,20,21,22,23,24],[17,18,19,20,21,22,23,24,25,26,27,28,29,30,31,32,33,34,35,36,37,38,39,40,41,44,47,48,49,50,51,52])),(⟨(some 44),(.mv (.t 4)),none⟩,([0,1,2,3,4,5,6,7,8,9,10,11,12,13,14,15,16,17,18,19,20,21,22,23,24,25,26],[17,18,19,20,21,22,23,24,25,26,27,28,29,30,31,32,33,34,35,36,37,38,39,40,41,42,43,47,48,49,50,51,52])),(⟨(some 45),(.ia 1 (.t 43) (.t 44)),none⟩,([0,1,2,3,4,5,6,7,8,9,10,11,12,13,14,15,16,17,18,19,20,21,22,23,24],[17,18,19,20,21,22,23,24,25,26,27,28,29,30,31,32,33,34,35,36,37,38,39,40,41,47,48,49,50,51,52])),(⟨(some 46),(.ld false 1 (.t 45)),none⟩,([0,1,2,3,4,5,6,7,8,9,10,11,12,13,14,15,16,17,18,19,20,21,22,23,24],[17,18,19,20,21,22,23,24,25,26,27,28,29,30,31,32,33,34,35,36,37,38,39,40,41,47,48,49,50,51,52])),(⟨(some 47),(.fa 3 (.t 1)),none⟩,([0,1,2,3,4,5,6,7,8,9,10,11,12,13,14,15,16,17,18,19,20,21,22,23,24,25,26,27,28,29],[17,18,19,20,21,22,23,24,25,26,27,28,29,30,31,32,33,34,35,36,37,38,39,40,41,42,43,44,45,46,49])),(⟨(some 48),(.ld false 1 (.t 47)),none⟩,([0,1,2,3,4,5,6,7,8,9,10,11,12,13,14,15,16,17,18,19,20,21,22,23,24,25,26,27,28,29],[17,18,19,20,21,22,23,24,25,26,27,28,29,30,31,32,33,34,35,36,37,38,39,40,41,42,43,44,45,46,49])),(⟨(some 49),(.mv (.t 4)),none⟩,([0,1,2,3,4,5,6,7,8,9,10,11,12,13,14,15,16,17,18,19,20,21,22,23,24,25,26,27,28,29,30,31],[17,18,19,20,21,22,23,24,25,26,27,28,29,30,31,32,33,34,35,36,37,38,39,40,41,42,43,44,45,46,47,48])),(⟨(some 50),(.ia 1 (.t 48) (.t 49)),none⟩,([0,1,2,3,4,5,6,7,8,9,10,11,12,13,14,15,16,17,18,19,20,21,22,23,24,25,26,27,28,29],[17,18,19,20,21,22,23,24,25,26,27,28,29,30,31,32,33,34,35,36,37,38,39,40,41,42,43,44,45,46])),(⟨(some 51),(.ld false 1 (.t 50)),none⟩,([0,1,2,3,4,5,6,7,8,9,10,11,12,13,14,15,16,17,18,19,20,21,22,23,24,25,26,27,28,29],[17,18,19,20,21,22,23,24,25,26,27,28,29,30,31,32,33,34,35,36,37,38,39,40,41,42,43,44,45,46])),(⟨(some 52),(.len (.t 51)),none⟩,([0,1,2,3,4,5,6,7,8,9,10,11,12,13,14,15,16,17,18,19,20,21,22,23,24,25,26,27,28,29],[17,18,19,20,21,22,23,24,25,26,27,28,29,30,31,32,33,34,35,36,37,38,39,40,41,42,43,44,45,46])),(⟨(some 53),(.mkSl 3 6 1 [(.v (.int .i64 0)),(.v (.int .i64 0)),(.v (.int .i64 0)),(.v (.int .i64 0)),(.v (.int .i64 0)),(.v (.int .i64 0))] [(0,(1,(.t 23))),(1,(1,(.t 29))),(2,(1,(.t 35))),(3,(1,(.t 41))),(4,(1,(.t 46))),(5,(1,(.t 52)))]),none⟩,([0],[17])),(⟨(some 54),(.app 3 1 8 [(.v (.int .i64 0))] (.t 17) (.t 53)),none⟩,([],[])),(⟨(some 3),(.mv (.t 54)),none⟩,([],[]))]) (.kill [17,18,19,20,21,22,23,24,25,26,27,28,29,30,31,32,33,34,35,36,37,38,39,40,41,42,43,44,45,46,47,48,49,50,51,52,53,54] (.seq (.ops [⟨(some 5),(.mv (.k (.c (.v (.int .i64 0))))),none⟩]) (.blk 2 (.loop (.seq (.seq (.ops [⟨(some 55),(.mv (.t 5)),none⟩,⟨(some 56),(.fa 3 (.t 1)),none⟩,⟨(some 57),(.ld false 1 (.t 56)),none⟩,⟨(some 58),(.mv (.t 4)),none⟩,⟨(some 59),(.ia 1 (.t 57) (.t 58)),none⟩,⟨(some 60),(.ld false 1 (.t 59)),none⟩,⟨(some 61),(.len (.t 60)),none⟩,⟨(some 62),(.bin .lss (.t 55) (.t 61)),none⟩]) (.kill [55,56,57,58,59,60,61,63,64,65,66,67,68,69,70,71,72,73,74,75,76,77,78,79,80,81,82,83,84,85] (.cond (.t 62) .skip (.exit 2)))) (.kill [62] (.seq (.blk 3 (.draw [(⟨(some 65),(.mv (.t 3)),none⟩,([],[66,67,68,69,70,71,72,73,74,75,76,77,78,79,80,81,82,83,84])),(⟨(some 66),(.fa 3 (.t 1)),none⟩,([0],[65,68,71,75,76,77,78,79,80,81,82,83])),(⟨(some 67),(.ld false 1 (.t 66)),none⟩,([0],[65,68,71,75,76,77,78,79,80,81,82,83])),(⟨(some 68),(.mv (.t 4)),none⟩,([0,1,2],[65,66,67,71,75,76,77,78,79,80,81,82,83])),(⟨(some 69),(.ia 1 (.t 67) (.t 68)),none⟩,([0],[65,71,75,76,77,78,79,80,81,82,83])),(⟨(some 70),(.ld false 1 (.t 69)),none⟩,([0],[65,71,75,76,77,78,79,80,81,82,83])),(⟨(some 71),(.mv (.t 5)),none⟩,([0,1,2,3,4,5],[65,66,67,68,69,70,75,76,77,78,79,80,81,82,83])),(⟨(some 72),(.ia 2 (.t 70) (.t 71)),none⟩,([0],[65,75,76,77,78,79,80,81,82,83])),(⟨(some 73),(.fa 0 (.t 72)),none⟩,([0],[65,75,76,77,78,79,80,81,82,83])),(⟨(some 74),(.ld false 1 (.t 73)),none⟩,([0],[65,75,76,77,78,79,80,81,82,83])),(⟨(some 75),(.fa 3 (.t 1)),none⟩,([0,1,2,3,4,5,6,7,8,9],[65,66,67,68,69,70,71,72,73,74,77,80])),(⟨(some 76),(.ld false 1 (.t 75)),none⟩,([0,1,2,3,4,5,6,7,8,9],[65,66,67,68,69,70,71,72,73,74,77,80])),(⟨(some 77),(.mv (.t 4)),none⟩,([0,1,2,3,4,5,6,7,8,9,10,11],[65,66,67,68,69,70,71,72,73,74,75,76,80])),(⟨(some 78),(.ia 1 (.t 76) (.t 77)),none⟩,([0,1,2,3,4,5,6,7,8,9],[65,66,67,68,69,70,71,72,73,74,80])),(⟨(some 79),(.ld false 1 (.t 78)),none⟩,([0,1,2,3,4,5,6,7,8,9],[65,66,67,68,69,70,71,72,73,74,80])),(⟨(some 80),(.mv (.t 5)),none⟩,([0,1,2,3,4,5,6,7,8,9,10,11,12,13,14],[65,66,67,68,69,70,71,72,73,74,75,76,77,78,79])),(⟨(some 81),(.ia 2 (.t 79) (.t 80)),none⟩,([0,1,2,3,4,5,6,7,8,9],[65,66,67,68,69,70,71,72,73,74])),(⟨(some 82),(.fa 1 (.t 81)),none⟩,([0,1,2,3,4,5,6,7,8,9],[65,66,67,68,69,70,71,72,73,74])),(⟨(some 83),(.ld false 1 (.t 82)),none⟩,([0,1,2,3,4,5,6,7,8,9],[65,66,67,68,69,70,71,72,73,74])),(⟨(some 84),(.mkSl 3 2 1 [(.v (.int .i64 0)),(.v (.int .i64 0))] [(0,(1,(.t 74))),(1,(1,(.t 83)))]),none⟩,([0],[65])),(⟨(some 85),(.app 3 1 8 [(.v (.int .i64 0))] (.t 65) (.t 84)),none⟩,([],[])),(⟨(some 3),(.mv (.t 85)),none⟩,([],[]))])) (.kill [65,66,67,68,69,70,71,72,73,74,75,76,77,78,79,80,81,82,83,84,85] (.ops [⟨(some 63),(.mv (.t 5)),none⟩,⟨(some 64),(.bin .add (.t 63) (.k (.c (.v (.int .i64 1))))),none⟩,⟨(some 5),(.mv (.t 64)),none⟩]))))))))))) (.kill [5,17,18,19,20,21,22,23,24,25,26,27,28,29,30,31,32,33,34,35,36,37,38,39,40,41,42,43,44,45,46,47,48,49,50,51,52,53,54,55,56,57,58,59,60,61,62,63,64,65,66,67,68,69,70,71,72,73,74,75,76,77,78,79,80,81,82,83,84,85] (.ops [⟨(some 15),(.mv (.t 4)),none⟩,⟨(some 16),(.bin .add (.t 15) (.k (.c (.v (.int .i64 1))))),none⟩,⟨(some 4),(.mv (.t 16)),none⟩])))))))) (.kill [1,4,5,10,11,12,13,14,15,16,17,18,19,20,21,22,23,24,25,26,27,28,29,30,31,32,33,34,35,36,37,38,39,40,41,42,43,44,45,46,47,48,49,50,51,52,53,54,55,56,57,58,59,60,61,62,63,64,65,66,67,68,69,70,71,72,73,74,75,76,77,78,79,80,81,82,83,84,85] (.seq (.ops [⟨(some 86),(.mv (.t 3)),none⟩,⟨(some 2),(.mv (.t 86)),none⟩]) (.kill [3,86] .ret)))))))))
def rs89:List RS:=[(.t 2)]
def nt89:Nat:=87
def refE (L:Lt) (o:Int):Int:=if checkB L=true then (if 1≤o∧o≤3 then 0 else 191) else 190
set_option maxRecDepth 100000 in
set_option maxHeartbeats 400000 in
theorem refused_calls (w:World) (v:Value) (L:Lt) (o:Int) (h:LtR w v L):Calls Try.prog 53 #[v,.int .i64 o] w (RetV w (.int .i64 (refE L o))):=by
 refine enterLt (A:=[]) (c:=ir53) (rs:=rs53) (nt:=nt53) h [.agg (ltS 0),.c (.v (.int .i64 o))] _ Try.func53 rfl (by kernel_rfl) (by kernel_rfl) rfl (fun E' h0=>by simp only [List.map_cons,List.map_nil,h0];rfl) (of_decide_eq_true rfl) ?_
 simp (maxSteps:=2000000) only [ir53,nt53,rs53,go_sem,↓runOp,↓reduceIte,Nat.reduceLT,Nat.reduceLeDiff,Nat.reduceAdd,Nat.reduceEqDiff,reduceCtorEq,ltA,ltS]
 refine callV (.c (.bo (checkB L))) _ (fun E=>rfl) (fun E a w' hs=>rcheck_calls w' _ L (ltL_at hs rfl rfl rfl)) ?_
 unfold refE
 by_cases hL:checkB L=true
 ·rw [hL]
  simp (maxSteps:=2000000) only [go_sem,↓condS,↓runOp,↓imp_ft,↓imp_ff,↓reduceIte,Nat.reduceLT,Nat.reduceEqDiff]
  refine callV (.c (.bo (decide (1≤o∧o≤3)))) _ (fun E=>rfl) (fun E a w' hs=>isorder_calls w' o) ?_
  simp (maxSteps:=2000000) only [go_sem,↓condS,↓runOp,↓reduceIte,Nat.reduceLT,Nat.reduceEqDiff]
  refine both (fun hb=>?_) (fun hb=>?_)
  ·exact retV fun E=>by
    simp at hb
    rw [if_neg (by omega)]
    simp [SV.den,SC.den]
  ·exact retV fun E=>by
    simp at hb
    rw [if_pos (by omega)]
    simp [SV.den,SC.den]
 ·have hL:checkB L=false:=by simpa using hL
  rw [hL]
  simp (maxSteps:=2000000) only [go_sem,↓condS,↓runOp,↓imp_tf,↓imp_tt,↓reduceIte,Nat.reduceLT,Nat.reduceEqDiff]
  exact retV fun E=>by simp [SV.den,SC.den]
def flS (l:List Int):Own:=[(5,.one (.bk [.xv (0,0,0),.xv (1,0,0),.xv (2,0,0),.xv (3,0,0)] 32)),(6,.one (.ar l.length 1 (ats eI l 0) 3))]
theorem fl_grow {own:Own} {l' : List Int} {m j:Nat} {at_:Nat→List SC} (hj:6≤j) (hm:m=l'.length) (h5:look own 5=some (.one (.bk [.xv (0,0,0),.xv (1,0,0),.xv (2,0,0),.xv (3,0,0)] 32))) (h6:look own j=some (.one (.ar m 1 at_ 3))) (ha:∀ e,e<l'.length→at_ e=ats eI l' 0 e) :
  OwnLe (· < 7) (idσ fun i=>if i=6 then j else i) own (flS l'):=by
 subst hm
 refine ⟨⟨of_decide_eq_true rfl,?_⟩,⟨of_decide_eq_true rfl,?_⟩,trivial⟩
 ·simp [BlkLeO,BlkLe,atN,idσ,h5,Fm.get,SC.renL,SC.ren,SC.okL,SC.okN]
 ·simp only [idσ,reduceIte,atN,h6,Fm.get,and_self]
  exact arLe_of (Nat.le_refl _) ha
theorem take_pd3 {l:List Pd} {i:Nat} (h:i<l.length):l.take (i+1)=l.take i++[l.getD i pd0]:=by
 rw [List.take_succ_eq_append_getElem h,List.getD_eq_getElem?_getD,List.getElem?_eq_getElem h];rfl
def six (s:LS) (t:Nat):List Int:=[(s.regs.getD t r40).a,(s.regs.getD t r40).b,(s.regs.getD t r40).c,(s.regs.getD t r40).d,s.places.getD t 0,((s.bufs.getD t []).length:Int)]
theorem app_ints {xs ys:List Int} {g:Nat→List SC} (hg:∀ e,e<ys.length→g e=ats eI ys 0 e):∀ e,e<(xs++ys).length→appAt xs.length (ats eI xs 0) g e=ats eI (xs++ys) 0 e:=ats_app (d:=0) rfl rfl (fun _ _=>rfl) hg
set_option maxRecDepth 100000 in
set_option maxHeartbeats 1000000 in
theorem flat_calls (w:World) (v:Value) (L:Lt) (o:Int) (s:LS) (hL:checkB L=true) (hwf:WfT L o s) (h:StR w v s):Calls Try.prog 89 #[v] w (RetN w 1 (lsT 1 (flatS s).length) (lsO 3 1 eI (flatS s) 0)):=by
 refine enterSt (A:=[]) (c:=ir89) (rs:=rs89) (nt:=nt89) h Try.func89 rfl (by kernel_rfl) (by kernel_rfl) rfl (of_decide_eq_true rfl) ?_
 have hz:=sz_at hL
 have hw6:s.words.length≤6:=by rw [hwf.wf.w];exact hz.2.2.2
 have hrb:=hwf.wf.r
 have hpb:=hwf.wf.p
 have hbb:=hwf.wf.b
 have hfl:∀ n,n≤L.thr.length→(flatT s n).length≤6+26 * n:=fun n hn=>flat_le hL hwf hn
 have hb10:∀ n,n<L.thr.length→(s.bufs.getD n []).length≤10:=fun n hn=>(hwf.wf.thr n hn).b
 simp (maxSteps:=2000000) only [ir89,nt89,rs89,go_sem,↓runOp,↓reduceIte,Nat.reduceLT,Nat.reduceAdd,Nat.reduceEqDiff,reduceCtorEq,stA,stS]
 refine And.intro ⟨by omega,by simp only [maxLen];omega⟩ ?_
 refine loopI (ι:={ t:Nat // t≤s.regs.length }) (fun t=>⟨87,[(1,.c (.ptr (5,0,0) 0)),(3,.c (.sl (6,0,0) 1 0 (flatT s t.1).length none)),(4,.c (.v (.int .i64 (t.1:Nat))))],flS (flatT s t.1),stA 0 s,[],7⟩)
  (fun t=>s.regs.length - t.1) ⟨0,by omega⟩ (le_ren id rfl rfl (by simp [TmpsLe,look,SV.ren,SC.ren,idσ,SV.okN,SC.okN,flatT]) (by simp [flS,flatT,OwnLe,BlkLeO,BlkLe,atN,look,Fm.get,idσ,SC.renL,SC.ren,SC.okL,SC.okN,ren_ats,ok_ats,arrOf_ats]) (by simp +contextual [stA,ArrsLe,ArrLeO,atN,look,Fm.get,idσ,arrLe_of,arrLe_nest]) rfl) ?_
 rintro ⟨t,ht⟩
 simp (maxSteps:=2000000) only [go_sem,↓condS,↓exitS,↓runOp,↓reduceIte,Nat.reduceLT,Nat.reduceEqDiff,reduceCtorEq,stA,flS]
 refine both (fun hlt=>?_) (fun hge=>?_)
 ·rw [decide_eq_true_eq] at hlt
  have hlt:t<s.regs.length:=by omega
  have hltp:t<s.places.length:=by omega
  have hltb:t<s.bufs.length:=by omega
  have hf:=hfl t (by omega)
  have hb:=hb10 t (by omega)
  refine draw_vc (by kernel_rfl) (mkTab_ok _ _) (of_decide_eq_true rfl) (of_decide_eq_true rfl) ?_
  repeat (first | simp (maxSteps:=2000000) only [go_sem,↓runOp,↓gateD,↓runD,↓reduceIte,Nat.reduceLT,Nat.reduceLeDiff,Nat.reduceAdd,Nat.reduceMul,Nat.reduceEqDiff,reduceCtorEq,Int.reduceToNat,Int.reduceLT,Int.reduceLE,R4.enc,eI] | rw [dr_cons])
  generalize hX:flatT s t=X at hf ⊢
  repeat (with_reducible refine And.intro (by first | exact hlt | exact hltp | exact hltb | decide | exact ⟨Nat.le_refl _,by omega,by simp only [maxLen];omega⟩ | exact Or.inl trivial | exact Or.inr trivial | exact ⟨Or.inl trivial,Or.inr trivial⟩) ?_)
  have hsx:(six s t).length=6:=rfl
  have hlb:∀ i,i≤(s.bufs.getD t []).length→(X++six s t++pdL ((s.bufs.getD t []).take i)).length=X.length+6+2 * i:=fun i hi=>by rw [List.length_append,List.length_append,pdL_len,List.length_take,hsx];omega
  refine loopI (ι:={ i:Nat // i≤(s.bufs.getD t []).length }) (fun i=>⟨87,[(1,.c (.ptr (5,0,0) 0)),(3,.c (.sl (6,0,0) 1 0 (X++six s t++pdL ((s.bufs.getD t []).take i.1)).length none)),(4,.c (.v (.int .i64 t))),(5,.c (.v (.int .i64 (i.1:Nat))))],flS (X++six s t++pdL ((s.bufs.getD t []).take i.1)),stA 0 s,[],7⟩)
   (fun i=>(s.bufs.getD t []).length - i.1) ⟨0,by omega⟩ (le_ren (fun j=>if j=6 then 8 else j) rfl rfl ?_ ?_ (by simp +contextual [stA,ArrsLe,ArrLeO,atN,look,Fm.get,idσ,arrLe_of,arrLe_nest]) rfl) ?_
  ·simp [TmpsLe,look,SV.ren,SC.ren,idσ,SV.okN,SC.okN,pdL,six]
  ·simp only [List.take_zero,pdL,List.append_nil]
   exact fl_grow (j:=8) (by decide) (by rw [List.length_append];rfl) rfl rfl (app_ints fun e he=>seg_ints (six s t) e he)
  rintro ⟨i,hi⟩
  have hli:=hlb i hi
  simp (maxSteps:=2000000) only [go_sem,↓condS,↓exitS,↓runOp,↓reduceIte,Nat.reduceLT,Nat.reduceEqDiff,reduceCtorEq,stA,flS]
  refine And.intro hltb (And.intro hltb (And.intro hltb (both (fun hlti=>?_) (fun hgei=>?_))))
  ·rw [decide_eq_true_eq] at hlti
   have hlti:i<(s.bufs.getD t []).length:=by omega
   have htk:X++six s t++pdL ((s.bufs.getD t []).take (i+1))=(X++six s t++pdL ((s.bufs.getD t []).take i))++[((s.bufs.getD t []).getD i pd0).addr,((s.bufs.getD t []).getD i pd0).val]:=by
    rw [take_pd3 hlti,pdL_app,← List.append_assoc]
    rfl
   refine draw_vc (by kernel_rfl) (mkTab_ok _ _) (of_decide_eq_true rfl) (of_decide_eq_true rfl) ?_
   repeat (first | simp (maxSteps:=2000000) only [go_sem,↓runOp,↓gateD,↓runD,↓reduceIte,Nat.reduceLT,Nat.reduceLeDiff,Nat.reduceAdd,Nat.reduceMul,Nat.reduceEqDiff,reduceCtorEq,Pd.enc] | rw [dr_cons])
   generalize hY:X++six s t++pdL ((s.bufs.getD t []).take i)=Y at hli htk ⊢
   repeat (with_reducible refine And.intro (by first | exact hltb | exact ⟨hltb,hlti⟩ | decide | exact ⟨Nat.le_refl _,by omega,by simp only [maxLen];omega⟩ | exact Or.inl trivial | exact Or.inr trivial | exact ⟨Or.inl trivial,Or.inr trivial⟩) ?_)
   rw [wr_succ (by omega)]
   refine backI ⟨i+1,by omega⟩ (by simp only;omega) (le_ren (fun j=>if j=6 then 8 else j) rfl rfl ?_ ?_ (by simp +contextual [ArrsLe,ArrLeO,atN,look,Fm.get,idσ,arrLe_of,arrLe_nest]) rfl)
   ·have h3:=congrArg List.length htk
    simp at h3
    simp [TmpsLe,look,SV.ren,SC.ren,idσ,SV.okN,SC.okN]
    omega
   ·show OwnLe _ _ _ (flS (X++six s t++pdL ((s.bufs.getD t []).take (i+1))))
    rw [htk]
    exact fl_grow (j:=8) (by decide) (by rw [List.length_append];rfl) rfl rfl (app_ints fun e he=>seg_ints [((s.bufs.getD t []).getD i pd0).addr,((s.bufs.getD t []).getD i pd0).val] e he)
  ·rw [decide_eq_false_iff_not] at hgei
   have hin:i=(s.bufs.getD t []).length:=by omega
   subst hin
   have hfin:X++six s t++pdL ((s.bufs.getD t []).take (s.bufs.getD t []).length)=flatT s (t+1):=by rw [List.take_length,← hX];simp [flatT,thF,six]
   rw [hfin,wr_succ (by omega)]
   exact backI ⟨t+1,hlt⟩ (by simp only;omega) (le_ren id rfl rfl (by simp [TmpsLe,look,SV.ren,SC.ren,idσ,SV.okN,SC.okN]) (by simp [OwnLe,BlkLeO,BlkLe,atN,look,Fm.get,idσ,SC.renL,SC.ren,SC.okL,SC.okN,ren_ats,ok_ats]) (by simp +contextual [ArrsLe,ArrLeO,atN,look,Fm.get,idσ,arrLe_of,arrLe_nest]) rfl)
 ·rw [decide_eq_false_iff_not] at hge
  have hin:t=s.regs.length:=by omega
  subst hin
  exact retList' 6 _ _ rfl rfl (Nat.le_refl _) fun _ _=>rfl
end Go.Proofs.Ytmcpdafmkkjlcaa.Z
namespace Go.Proofs.Ytmcpdafmkkjlcaa.Z
open Go Go.RowKit
def endF (s:LS):Fn:=⟨s.words,s.regs⟩
def fnS (b:Nat) (f:Fn):List SC:=[.sl (b,0,0) 1 0 f.words.length none,.sl (b+1,0,0) 4 0 f.regs.length none]
def fnO (b:Nat) (f:Fn):Own:=[(b,.one (.ar f.words.length 1 (ats eI f.words 0) 3)),(b+1,.one (.ar f.regs.length 4 (ats R4.enc f.regs r40) 68))]
set_option maxRecDepth 100000 in
set_option maxHeartbeats 1000000 in
theorem end_calls (w:World) (v:Value) (s:LS) (hsz:LsSz s) (h:StR w v s):Calls Try.prog 56 #[v] w (RetN w 2 (fun b=>.agg (fnS b (endF s))) (fun b=>fnO b (endF s))):=by
 refine enterSt (A:=[]) (c:=ir56) (rs:=rs56) (nt:=nt56) h Try.func56 rfl (by kernel_rfl) (by kernel_rfl) rfl (of_decide_eq_true rfl) ?_
 obtain ⟨z1,z2,z3,z4,z5⟩:=hsz
 have y1:=fit8 _ z1
 have y2:=fit32 _ z2
 simp (maxSteps:=2000000) only [ir56,nt56,rs56,go_sem,↓runOp,↓reduceIte,Nat.reduceLT,Nat.reduceLeDiff,Nat.reduceAdd,Nat.reduceEqDiff,reduceCtorEq,stA,stS]
 refine And.intro ⟨by omega,y1.2⟩ (And.intro ⟨by omega,y2.2⟩ ?_)
 refine retN (fun j=>j+8) (fun b=>⟨?_,?_⟩) (fun b=>?_) (fun b=>?_)
 ·simp [fnS,endF,SV.ren,SC.renL,SC.ren,fromσ]
 ·simp [fnS,SV.okN,SC.okL,SC.okN,NewIds]
 ·refine ⟨⟨⟨by omega,by omega⟩,?_⟩,⟨⟨by omega,by omega⟩,?_⟩,trivial⟩
  ·simp only [fromσ,Nat.sub_self,Nat.zero_add,atN,look,Nat.reduceEqDiff,reduceIte,Fm.get,and_self]
   exact arLe_of (Nat.le_refl _) fun _ _=>rfl
  ·simp only [fromσ,Nat.add_sub_cancel_left,Nat.reduceAdd,atN,look,Nat.reduceEqDiff,reduceIte,Fm.get,and_self]
   exact arLe_of (Nat.le_refl _) fun _ _=>rfl
 ·exact injN_from fun x hx y hy e=>by
   simp [fnO,keysL] at hx hy
   omega
end Go.Proofs.Ytmcpdafmkkjlcaa.Z
namespace Go.Proofs.Ytmcpdafmkkjlcaa.Z
open Go Go.RowKit
theorem cmp_less:∀ (a b:List Int),cmpL a b<0↔lessL a b=true
 | [],[]=>by simp [cmpL,lessL]
 | [],_ :: _=>by simp [cmpL,lessL]
 | _ :: _,[]=>by simp [cmpL,lessL]
 | x :: a,y :: b=>by
  simp only [cmpL,lessL]
  by_cases h1:x<y
  ·rw [if_pos h1,if_pos (by omega)];simp [h1]
  ·rw [if_neg h1]
   by_cases h2:y<x
   ·rw [if_pos h2,if_pos (by omega)];simp [h1]
   ·rw [if_neg h2,if_neg (by omega)];exact cmp_less a b
theorem cmp_zero:∀ (a b:List Int),cmpL a b=0↔a=b
 | [],[]=>by simp [cmpL]
 | [],_ :: _=>by simp [cmpL]
 | _ :: _,[]=>by simp [cmpL]
 | x :: a,y :: b=>by
  simp only [cmpL]
  by_cases h1:x<y
  ·rw [if_pos h1];simp;omega
  ·rw [if_neg h1]
   by_cases h2:y<x
   ·rw [if_pos h2];simp;omega
   ·rw [if_neg h2,cmp_zero a b];simp;omega
theorem cmp_anti:∀ (a b:List Int),cmpL b a = - cmpL a b
 | [],[]=>rfl
 | [],_ :: _=>rfl
 | _ :: _,[]=>rfl
 | x :: a,y :: b=>by
  simp only [cmpL]
  by_cases h1:x<y
  ·rw [if_neg (by omega),if_pos h1,if_pos h1];rfl
  ·by_cases h2:y<x
   ·rw [if_pos h2,if_neg h1,if_pos h2]
   ·rw [if_neg h2,if_neg h1,if_neg h1,if_neg h2];exact cmp_anti a b
theorem cmp_app:∀ {a b c d:List Int},a.length=b.length→cmpL (a++c) (b++d)=if cmpL a b≠0 then cmpL a b else cmpL c d
 | [],[],c,d,_=>by simp [cmpL]
 | [],_ :: _,c,d,h=>by simp at h
 | _ :: _,[],c,d,h=>by simp at h
 | x :: a,y :: b,c,d,h=>by
  simp only [List.cons_append,cmpL]
  by_cases h1:x<y
  ·simp [h1]
  ·by_cases h2:y<x
   ·simp [h1,h2]
   ·simp only [if_neg h1,if_neg h2];exact cmp_app (by simpa using h)
theorem less_trans:∀ {a b c:List Int},lessL a b=true→lessL b c=true→lessL a c=true
 | [],[],_,h,_=>by simp [lessL] at h
 | [],_ :: _,[],_,h=>by simp [lessL] at h
 | [],_ :: _,_ :: _,_,_=>rfl
 | _ :: _,[],_,h,_=>by simp [lessL] at h
 | _ :: _,_ :: _,[],_,h=>by simp [lessL] at h
 | x :: a,y :: b,z :: c,h1,h2=>by
  simp only [lessL] at h1 h2 ⊢
  by_cases e1:x=y
  ·subst e1
   rw [if_neg (by simp)] at h1
   by_cases e2:x=z
   ·subst e2
    rw [if_neg (by simp)] at h2 ⊢
    exact less_trans h1 h2
   ·rw [if_pos e2] at h2 ⊢;exact h2
  ·rw [if_pos e1] at h1
   by_cases e2:y=z
   ·subst e2;rw [if_pos e1];exact h1
   ·rw [if_pos e2] at h2
    simp only [decide_eq_true_eq] at h1 h2
    rw [if_pos (by omega)];simp;omega
def insF (x:Fn):List Fn→List Fn
 | []=>[x]
 | y :: l=>if lessL (numF y) (numF x)=true then y :: insF x l else if sameF y x=true then y :: l else x :: y :: l
def finsL (L:Lt) (l:List LS):List Fn:=(l.filter (finB L)).foldl (fun out s=>insF (endF s) out) []
end Go.Proofs.Ytmcpdafmkkjlcaa.Z
