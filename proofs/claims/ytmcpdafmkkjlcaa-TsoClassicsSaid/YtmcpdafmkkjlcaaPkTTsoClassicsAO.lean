/- TsoClassicsSaid: what its proof is made of. No condition. -/
import Derived.Test.YtmcpdafmkkjlcaaPkTTsoClassicsAN
set_option linter.unusedSimpArgs false
set_option linter.unusedVariables false
namespace Go.Proofs.Ytmcpdafmkkjlcaa.Z
open Go Go.RowKit
def EffN (w:World) (W:Nat→Prop) (nx:Nat) (T:Nat→SV) (O:Nat→Own) (e:Ending) (w' : World):Prop :=
 ∃ v,e = .returned v∧Frame0 w.heap.size W w w'∧∀ b,∃ N:Env,OneC N∧∀ E2,AgreeD (NewIds b nx) N E2→v=(T b).den E2 ∧
  ∃ H:Nm→PH,(∀ x c,atN (O b) x=some c→c.den E2 x (H x))∧(∀ x y c d,atN (O b) x=some c→atN (O b) y=some d→x≠y→∀ n,H x n=none∨H y n=none) ∧
   ∀ x c,atN (O b) x=some c→∀ n o,H x n=some o→w'.heap[n]? = some o∧(w.heap.size≤n∨W n)
theorem retEffN {P:Program} {w:World} {W:Nat→Prop} {rs:List RS} {nx:Nat} {T:Nat→SV} {O:Nat→Own} {v:SV} {S:St} (σ:Nat→Nm→Nm) (hv:∀ b,v=(T b).ren (σ b)∧(T b).okN (NewIds b nx))
  (ho:∀ b,OwnLe (NewIds b nx) (σ b) S.own (O b)) (hi:∀ b,InjN (σ b) (O b)):RetVC (mkO P w W rs (EffN w W nx T O)) v S:=by
 intro E a w' hs
 have hs:=hs.sat
 refine ⟨_,rfl,hs.frame,fun b=>⟨E.via (σ b),fun x=>hs.one _,fun E2 hE2=>?_⟩⟩
 have hR:∀ x:Nm,NewIds b nx x.1→SameR (σ b) E E2 x:=fun x hx=>hE2 x hx
 obtain ⟨H,hH,_⟩:=hs.mem
 have hat:∀ x c,atN (O b) x=some c→NewIds b nx x.1∧∃ d,atN S.own (σ b x)=some d∧BlkLe (NewIds b nx) (σ b) d c:=fun x c hx=>ownLe_at (ho b) hx
 refine ⟨?_,fun x=>H (σ b x),?_,?_,?_⟩
 ·rw [sv_ren hR _ (hv b).2,← (hv b).1]
 ·intro x c hx
  obtain ⟨h1,d,h2,h3⟩:=hat x c hx
  exact blk_le hR h1 h3 (hH.den _ _ h2)
 ·intro x y c d hx hy hne n
  obtain ⟨_,c',h2,_⟩:=hat x c hx
  obtain ⟨_,d',g2,_⟩:=hat y d hy
  exact hH.disj _ _ c' d' h2 g2 (fun e=>hne (hi b x y c d hx hy e)) n
 ·intro x c hx n o hn
  obtain ⟨_,c',h2,_⟩:=hat x c hx
  exact hH.sub _ c' h2 n o hn
theorem sat_handed {C:Ctx} {E:Env} {S:St} {a:Act} {w:World} (hs:Sat C.B C.W C.w0 E S a w) {y n s ty:Nat} {at_ at' : Nat→List SC} (hy:look S.own y=some (.one (.ar n s at_ ty))) (hok:∀ e,e<n→at_ e=SC.renL (idσ (toN [y])) (at' e)∧SC.okL (· < 1) (at' e)) :
  Handed w (E.via (idσ (toN [y]))) 1 [(0,.one (.ar n s at' ty))] []:=by
 obtain ⟨H,hH,hF⟩:=hs.mem
 have hat:∀ x c,atN [((0:Nat),Fm.one (Blk.ar n s at' ty))] x=some c→x=(0,0,0)∧c = .ar n s at' ty:=fun x c hx=>by
  rcases atN_one hx with ⟨rfl,rfl⟩ | hx
  ·exact ⟨rfl,rfl⟩
  ·exact (atN_nil hx).elim
 have hy' : atN S.own (idσ (toN [y]) (0,0,0))=some (.ar n s at_ ty):=by
  show atN S.own (y,0,0)=_
  simp [atN,hy,Fm.get]
 refine ⟨fun x=>hs.one _,fun E' hE' ho'=>⟨fun x=>H (idσ (toN [y]) x),fun x c hx=>?_,fun x z c d hx hz hne n=>?_,fun x c hx m o hm=>?_,fun w' hw'=>⟨fun x A hA=>(atN_nil hA).elim,fun φ hφ=>?_⟩⟩⟩
 ·obtain ⟨rfl,rfl⟩:=hat x c hx
  exact blk_le (σ:=idσ (toN [y])) (p:=(· < 1)) (fun y hy=>hE' y hy) Nat.zero_lt_one (b:=.ar n s at_ ty) (b':=.ar n s at' ty) ⟨Nat.le_refl _,rfl,rfl,hok⟩ (hH.den _ _ hy')
 ·obtain ⟨rfl,_⟩:=hat x c hx
  obtain ⟨rfl,_⟩:=hat z d hz
  exact absurd rfl hne
 ·obtain ⟨rfl,rfl⟩:=hat x c hx
  refine ⟨(hH.sub _ _ hy' m o hm).1,(0,0,0),_,hx,takes_via.2 ?_⟩
  exact (takes_iff (b:=.ar n s at_ ty) trivial (hH.den _ _ hy')).1 (by rw [show H (idσ (toN [y]) (0,0,0)) m=some o from hm];simp)
 ·simp only [List.mem_singleton] at hφ
  subst hφ
  exact hE'
theorem cr_EffN {C:Ctx} {S:St} {f t y n s ty:Nat} {at_:Nat→List SC} {vs:List SV} (nx:Nat) (T:Nat→SV) (O:Nat→Own) (hy:look S.own y=some (.one (.ar n s at_ ty))) (ht:look S.tmps t=some (.c (.sl (y,0,0) s 0 n none)))
  (hlt:y<S.nid) (hO:∀ b i,(look (O b) i).isSome=true→b≤i)
  (h:∀ E a w,Sat C.B C.W C.w0 E S a w→Calls C.P f (vs.map (SV.den E)).toArray w (EffN w (takes E (y,0,0) (.ar n s at_ ty)) nx T O)):CR C f vs S [] (T S.nid) nx ((y,.one .no) :: O S.nid) []:=by
 intro E a w hs
 refine (h E a w hs).mono ?_
 rintro e w' ⟨v,rfl,hfr,hN⟩
 obtain ⟨N,hN1,hN2⟩:=hN S.nid
 refine ⟨v,rfl,N,hN1,fun E2 hs2 _ hag=>?_⟩
 obtain ⟨h1,H,h2,h3,h4⟩:=hN2 E2 hag
 have hat:atN S.own (y,0,0)=some (.ar n s at_ ty):=by simp [atN,hy,Fm.get]
 obtain ⟨q1,q2,q3⟩:=sl_parts (((hs.tmps t _ ht).2.symm.trans (hs2.tmps t _ ht).2:(SV.c (.sl (y,0,0) s 0 n none)).den E=(SV.c (.sl (y,0,0) s 0 n none)).den E2))
 have htk:∀ H2,HeapOk C.B C.W E2 S.own H2 w→∀ m,takes E (y,0,0) (.ar n s at_ ty) m→H2 (y,0,0) m≠none:=by
  intro H2 hH2 m hm
  rw [takes_iff (b:=.ar n s at_ ty) trivial (hH2.den _ _ hat)]
  have hν:E.ν (y,0,0)=false:=by
   obtain ⟨H1,hH1,_⟩:=hs.mem
   rcases ar_heap hH1 hat with ⟨_,g2,_⟩ | ⟨g2,_⟩
   ·exact absurd hm.1 (by rw [g2];exact Nat.lt_irrefl _)
   ·exact g2
  exact ⟨by rw [q1];exact hm.1,by rw [q3 hν];exact hm.2⟩
 have hkey:∀ x c,atN ((y,Fm.one Blk.no) :: O S.nid) x=some c→(x=(y,0,0)∧c = .no)∨(S.nid≤x.1∧atN (O S.nid) x=some c):=fun x c hx=>by
  rcases atN_one hx with ⟨rfl,rfl⟩ | hx
  ·exact Or.inl ⟨rfl,rfl⟩
  ·obtain ⟨F,hF,_⟩:=atN_some hx
   exact Or.inr ⟨hO _ _ (by rw [hF];rfl),hx⟩
 have hyk:(look ((y,Fm.one Blk.no) :: O S.nid) y).isSome=true:=by simp [look]
 refine ⟨h1,Fits.G ⟨fun H2 hH2=>⟨hfr.os,hfr.tape,hfr.output,hfr.size,fun m hm hfree=>hfr.keep m hm fun hW=>htk H2 hH2 m hW (hfree _ _ hyk hat),fun x=>if x.1=y then emp else H x,fun x c hx=>?_,fun x z c d hx hz hne m=>?_,fun x c hx m o hm=>?_⟩,fun _ _ x A hA=>(atN_nil hA).elim⟩⟩
 ·rcases hkey x c hx with ⟨rfl,rfl⟩ | ⟨g1,g2⟩
  ·simp only [if_true];rfl
  ·simp only;rw [if_neg (by omega)];exact h2 x c g2
 ·rcases hkey x c hx with ⟨rfl,rfl⟩ | ⟨g1,g2⟩
  ·left;simp only [if_true];rfl
  ·rcases hkey z d hz with ⟨rfl,rfl⟩ | ⟨k1,k2⟩
   ·right;simp only [if_true];rfl
   ·simp only;rw [if_neg (by omega),if_neg (by omega)];exact h3 x z c d g2 k2 hne m
 ·rcases hkey x c hx with ⟨rfl,rfl⟩ | ⟨g1,g2⟩
  ·simp only [if_true] at hm;exact (emp_some hm).elim
  ·simp only at hm
   rw [if_neg (by omega)] at hm
   obtain ⟨k1,k2⟩:=h4 x c g2 m o hm
   exact ⟨k1,k2.imp id fun hW=>⟨(y,0,0),_,hyk,hat,htk H2 hH2 m hW⟩⟩
def ir61:IR:=(.seq (.ops [⟨(some 2),(.new 25 [(.v (.slice none 0 0)),(.v (.slice none 0 0))]),none⟩]) (.kill [1,3,4,5,6,7,8,9,10,11] (.seq (.ops [⟨(some 3),(.mkSl 3 2 1 [(.v (.int .i64 0)),(.v (.int .i64 0))] [(0,(1,(.k (.c (.v (.int .i64 0)))))),(1,(1,(.k (.c (.v (.int .i64 0))))))]),none⟩,⟨(some 4),(.mv (.t 0)),none⟩,⟨(some 5),(.build [(.v (.slice none 0 0)),(.v (.slice none 0 0))] [(0,(1,(.t 3))),(1,(1,(.t 4)))]),none⟩,⟨none,(.st 2 (.t 2) (.t 5)),none⟩]) (.kill [0,3,4,5] .ret))))
def rs61:List RS:=[(.cell 2 true 2)]
def nt61:Nat:=6
def ir62:IR:=(.seq (.ops [⟨(some 2),(.new 25 [(.v (.slice none 0 0)),(.v (.slice none 0 0))]),none⟩]) (.kill [1,3,4,5,6,7,8,9,10,11] (.seq (.ops [⟨(some 4),(.mv (.t 0)),none⟩,⟨(some 5),(.call 63 [(.k (.c (.v (.int .i64 0)))),(.k (.c (.v (.int .i64 0))))]),none⟩,⟨(some 6),(.call 64 [(.k (.c (.v (.int .i64 0)))),(.k (.c (.v (.int .i64 0))))]),none⟩,⟨(some 7),(.call 63 [(.k (.c (.v (.int .i64 1)))),(.k (.c (.v (.int .i64 2))))]),none⟩,⟨(some 8),(.mkSl 83 3 7 [(.v (.int .i64 0)),(.v (.int .i64 0)),(.v (.int .i64 0)),(.v (.int .i64 0)),(.v (.int .i64 0)),(.v (.int .i64 0)),(.v (.int .i64 0)),(.v (.int .i64 0)),(.v (.int .i64 0)),(.v (.int .i64 0)),(.v (.int .i64 0)),(.v (.int .i64 0)),(.v (.int .i64 0)),(.v (.int .i64 0)),(.v (.int .i64 0)),(.v (.int .i64 0)),(.v (.int .i64 0)),(.v (.int .i64 0)),(.v (.int .i64 0)),(.v (.int .i64 0)),(.v (.int .i64 0))] [(0,(7,(.t 5))),(7,(7,(.t 6))),(14,(7,(.t 7)))]),none⟩,⟨(some 9),(.app 83 7 56 [(.v (.int .i64 0)),(.v (.int .i64 0)),(.v (.int .i64 0)),(.v (.int .i64 0)),(.v (.int .i64 0)),(.v (.int .i64 0)),(.v (.int .i64 0))] (.t 4) (.t 8)),none⟩,⟨(some 0),(.mv (.t 9)),none⟩]) (.kill [4,5,6,7,8,9] (.seq (.ops [⟨(some 10),(.build [(.v (.int .i64 0)),(.v (.int .i64 0)),(.v (.int .i64 0)),(.v (.int .i64 0)),(.v (.int .i64 0)),(.v (.int .i64 0)),(.v (.int .i64 0))] [(0,(1,(.k (.c (.v (.int .i64 3)))))),(5,(1,(.k (.c (.v (.int .i64 1))))))]),none⟩,⟨(some 11),(.call 63 [(.k (.c (.v (.int .i64 1)))),(.k (.c (.v (.int .i64 1))))]),none⟩,⟨(some 12),(.call 64 [(.k (.c (.v (.int .i64 1)))),(.k (.c (.v (.int .i64 1))))]),none⟩,⟨(some 13),(.call 65 [(.k (.c (.v (.int .i64 2)))),(.k (.c (.v (.int .i64 (-1)))))]),none⟩,⟨(some 14),(.mkSl 83 4 7 [(.v (.int .i64 0)),(.v (.int .i64 0)),(.v (.int .i64 0)),(.v (.int .i64 0)),(.v (.int .i64 0)),(.v (.int .i64 0)),(.v (.int .i64 0)),(.v (.int .i64 0)),(.v (.int .i64 0)),(.v (.int .i64 0)),(.v (.int .i64 0)),(.v (.int .i64 0)),(.v (.int .i64 0)),(.v (.int .i64 0)),(.v (.int .i64 0)),(.v (.int .i64 0)),(.v (.int .i64 0)),(.v (.int .i64 0)),(.v (.int .i64 0)),(.v (.int .i64 0)),(.v (.int .i64 0)),(.v (.int .i64 0)),(.v (.int .i64 0)),(.v (.int .i64 0)),(.v (.int .i64 0)),(.v (.int .i64 0)),(.v (.int .i64 0)),(.v (.int .i64 0))] [(0,(7,(.t 10))),(7,(7,(.t 11))),(14,(7,(.t 12))),(21,(7,(.t 13)))]),none⟩,⟨(some 3),(.mv (.t 14)),none⟩]) (.kill [10,11,12,13,14] (.seq (.ops [⟨(some 15),(.mkSl 3 3 1 [(.v (.int .i64 0)),(.v (.int .i64 0)),(.v (.int .i64 0))] [(0,(1,(.k (.c (.v (.int .i64 1)))))),(1,(1,(.k (.c (.v (.int .i64 0)))))),(2,(1,(.k (.c (.v (.int .i64 7))))))]),none⟩,⟨(some 16),(.mv (.t 0)),none⟩,⟨(some 17),(.mv (.t 3)),none⟩,⟨(some 18),(.mkSl 80 2 1 [(.v (.slice none 0 0)),(.v (.slice none 0 0))] [(0,(1,(.t 16))),(1,(1,(.t 17)))]),none⟩,⟨(some 19),(.build [(.v (.slice none 0 0)),(.v (.slice none 0 0))] [(0,(1,(.t 15))),(1,(1,(.t 18)))]),none⟩,⟨none,(.st 2 (.t 2) (.t 19)),none⟩]) (.kill [0,3,15,16,17,18,19] .ret))))))))
def rs62:List RS:=[(.cell 2 true 2)]
def nt62:Nat:=20
def ofO (b:Nat):Own:=[(b,.one (.ar 2 1 (ats eI [0,0] 0) 3))]
set_option maxRecDepth 100000 in
set_option maxHeartbeats 400000 in
theorem of_calls (w:World) (ba:Option Addr) (n cap:Nat):Calls Try.prog 61 #[.slice ba n cap] w (RetN w 1 (fun b=>.agg [.sl (b,0,0) 1 0 2 none,.v (.slice ba n cap)]) ofO):=by
 refine enter0 (A:=[]) (c:=ir61) (rs:=rs61) (nt:=nt61) [.c (.v (.slice ba n cap))] #[.slice ba n cap] Try.func61 rfl (by kernel_rfl) (by kernel_rfl) rfl (fun E'=>by simp [SV.den,SC.den]) (of_decide_eq_true rfl) ?_
 simp (maxSteps:=2000000) only [ir61,nt61,rs61,go_sem,↓reduceIte,Nat.reduceLT,Nat.reduceLeDiff,Nat.reduceAdd,Nat.reduceSub,Nat.reduceMul,Nat.reduceEqDiff,reduceCtorEq,Int.reduceToNat,Int.reduceEq,Int.reduceBEq,Int.reduceBNe,Int.reduceLT,Int.reduceLE,Int.reduceNeg,Int.reduceAdd,Int.reduceSub,Int.reduceMul,Int.reduceGE,Int.reduceGT,endO]
 refine And.intro (by decide) ?_
 refine retN (fun j=>j+1) (fun b=>⟨by simp [SV.ren,SC.renL,SC.ren,fromσ],by simp [SV.okN,SC.okL,SC.okN,NewIds]⟩) (fun b=>?_) (fun b=>?_)
 ·refine ⟨⟨⟨by omega,by omega⟩,?_⟩,trivial⟩
  simp only [fromσ,Nat.sub_self,Nat.zero_add,atN,look,Nat.reduceEqDiff,reduceIte,Fm.get,and_self]
  exact arLe_of (Nat.le_refl _) (lt2 rfl rfl)
 ·exact injN_from fun x hx y hy e=>by
   simp [ofO,keysL] at hx hy
   omega
theorem of_cr {w:World} {A:List Nat} {rs:List RS} {R:Ending→World→Prop} {S:St} {t n:Nat} {x:Nm} (ht:look S.tmps t=some (.c (.sl x 1 0 n none))) :
  CR (mkC Try.prog A w rs R) 61 [.c (.sl x 1 0 n none)] S [] (.agg [.sl (S.nid,0,0) 1 0 2 none,.sl x 1 0 n none]) 1 (ofO S.nid) []:=by
 intro E a w' hs
 have hsl:(SC.sl x 1 0 n none).den E = .slice (if E.ν x=true then none else some ⟨E.ρ x,0 * 1,none⟩) n ((none:Option Nat).getD (E.κ x - 0)):=den_sl (E:=E) x 1 0 n none
 have h0:=of_calls w' (if E.ν x=true then none else some ⟨E.ρ x,0 * 1,none⟩) n ((none:Option Nat).getD (E.κ x - 0))
 rw [← hsl] at h0
 refine Calls.mono h0 ?_
 rintro e w2 ⟨v,rfl,hb,hN⟩
 obtain ⟨N,hN1,hN2⟩:=hN S.nid
 refine ⟨v,rfl,N,hN1,fun E2 hs2 _ hag=>?_⟩
 obtain ⟨h1,H,h2,h3,h4⟩:=hN2 E2 hag
 have e:(SC.sl x 1 0 n none).den E=(SC.sl x 1 0 n none).den E2:=(hs.tmps t _ ht).2.symm.trans (hs2.tmps t _ ht).2
 refine ⟨by rw [h1];simp only [SV.den,List.map_cons,List.map_nil,e];simp only [SC.den],Fits.G ⟨fun _ _=>⟨hb.os,hb.tape,hb.output,hb.size,fun n hn _=>hb.block n hn,H,h2,h3,fun x c hc n o hn=>⟨(h4 x c hc n o hn).1,Or.inl (h4 x c hc n o hn).2⟩⟩,fun _ _ x A hA=>by simp [atN,look] at hA⟩⟩
theorem ret_ltN {P:Program} {W:Nat→Prop} {w:World} {rs:List RS} {F:Lt} {T:Nat→SV} {v:SV} {S:St} (wd th:Nat) (ids:List Nat) {mw mt:Nat} {atw att:Nat→List SC}
  (hv:∀ b,v=(T b).ren (ltσ wd th ids b)∧(T b).okN (NewIds b 3))
  (h0:look S.own wd=some (.one (.ar mw 1 atw 3))) (hw:F.words.length≤mw∧∀ e,e<F.words.length→atw e=ats eI F.words 0 e)
  (h1:look S.own th=some (.one (.ar mt 1 att 80))) (ht:F.thr.length≤mt∧∀ e,e<F.thr.length→att e=[.sl (ids.getD e 0,0,0) 7 0 (F.thr.getD e []).length none])
  (hi:∀ k,k<F.thr.length→∃ m at_,look S.own (ids.getD k 0)=some (.one (.ar m 7 at_ 83))∧(F.thr.getD k []).length≤m∧∀ e,e<(F.thr.getD k []).length→at_ e=ats Ins.enc (F.thr.getD k []) in0 e)
  (hn:wd≠th∧∀ k,k<F.thr.length→ids.getD k 0≠wd∧ids.getD k 0≠th∧∀ j,j<F.thr.length→ids.getD k 0=ids.getD j 0→k=j):RetVC (mkO P w W rs (EffN w W 3 T (fun b=>twO b F))) v S:=by
 have s0:∀ b,ltσ wd th ids b (b,0,0)=(wd,0,0):=fun b=>by simp [ltσ]
 have s1:∀ b,ltσ wd th ids b (b+1,0,0)=(th,0,0):=fun b=>by simp [ltσ]
 have s2:∀ b k,ltσ wd th ids b (b+2,k,0)=(ids.getD k 0,0,0):=fun b k=>by simp [ltσ]
 refine retEffN (ltσ wd th ids) hv (fun b=>?_) (fun b=>?_)
 ·refine ⟨⟨⟨by omega,by omega⟩,?_⟩,⟨⟨by omega,by omega⟩,?_⟩,⟨⟨by omega,by omega⟩,fun k hk=>?_⟩,trivial⟩
  ·rw [s0];simp only [atN,h0,Fm.get,and_self,if_true];exact arLe_of hw.1 hw.2
  ·rw [s1];simp only [atN,h1,Fm.get,and_self,if_true]
   exact ⟨ht.1,rfl,rfl,fun e he=>⟨by rw [ht.2 e he];simp only [thC,SC.renL,SC.ren,s2],by simp [thC,SC.okL,SC.okN,NewIds]⟩⟩
  ·obtain ⟨m,at_,g1,g2,g3⟩:=hi k hk
   rw [s2];simp only [atN,g1,Fm.get,and_self,if_true];exact arLe_of g2 g3
 ·intro x y c d hx hy e
  rcases tw_at hx with rfl | rfl | ⟨k,hk,rfl⟩ <;> rcases tw_at hy with rfl | rfl | ⟨j,hj,rfl⟩ <;> simp only [s0,s1,s2,Prod.mk.injEq,and_true] at e
  ·rfl
  ·exact absurd e hn.1
  ·exact absurd e.symm (hn.2 j hj).1
  ·exact absurd e.symm hn.1
  ·rfl
  ·exact absurd e.symm (hn.2 j hj).2.1
  ·exact absurd e (hn.2 k hk).1
  ·exact absurd e (hn.2 k hk).2.1
  ·rw [(hn.2 k hk).2.2 j hj e]
def prO (n:Nat) (l:List Ins):Own:=[(0,.one (.ar n 7 (ats Ins.enc l in0) 83))]
set_option maxRecDepth 100000 in
set_option maxHeartbeats 1000000 in
theorem protect_own (w:World) (E:Env) (h:Handed w E 1 (prO 2 [cSt 1 1,cFe]) []):Calls Try.prog 62 #[(SC.sl (0,0,0) 7 0 2 none).den E] w (EffN w (takesO E (prO 2 [cSt 1 1,cFe])) 3 (fun b=>.agg (twS b (clL 9))) (fun b=>twO b (clL 9))):=by
 refine enterO (c:=ir62) (rs:=rs62) (nt:=nt62) h [.c (.sl (0,0,0) 7 0 2 none)] Try.func62 rfl (by kernel_rfl) (by kernel_rfl) rfl (by simp [okVs,SV.okN,SC.okN]) (of_decide_eq_true rfl) ?_
 generalize hR:EffN w (takesO E (prO 2 [cSt 1 1,cFe])) 3 (fun b=>.agg (twS b (clL 9))) (fun b=>twO b (clL 9))=R
 generalize hW:takesO E (prO 2 [cSt 1 1,cFe])=W
 simp (maxSteps:=2000000) only [ir62,nt62,rs62,go_sem,↓reduceIte,Nat.reduceLT,Nat.reduceLeDiff,Nat.reduceAdd,Nat.reduceSub,Nat.reduceMul,Nat.reduceEqDiff,reduceCtorEq,Int.reduceToNat,Int.reduceEq,Int.reduceBEq,Int.reduceBNe,Int.reduceLT,Int.reduceLE,Int.reduceNeg,Int.reduceAdd,Int.reduceSub,Int.reduceMul,Int.reduceGE,Int.reduceGT,endO,prO,mkO_rs]
 refine callV (.agg ((cLd 0 0).enc.map .v)) _ (fun E=>rfl) (fun E a w' hs=>pload_calls w' 0 0) ?_
 simp (maxSteps:=2000000) only [go_sem,↓reduceIte,Nat.reduceLT,Nat.reduceLeDiff,Nat.reduceAdd,Nat.reduceSub,Nat.reduceMul,Nat.reduceEqDiff,reduceCtorEq,Int.reduceToNat,Int.reduceEq,Int.reduceBEq,Int.reduceBNe,Int.reduceLT,Int.reduceLE,Int.reduceNeg,Int.reduceAdd,Int.reduceSub,Int.reduceMul,Int.reduceGE,Int.reduceGT,endO,mkO_rs,cLd,Ins.enc]
 refine callV (.agg ((cSk 0 0).enc.map .v)) _ (fun E=>rfl) (fun E a w' hs=>pskip_calls w' 0 0) ?_
 simp (maxSteps:=2000000) only [go_sem,↓reduceIte,Nat.reduceLT,Nat.reduceLeDiff,Nat.reduceAdd,Nat.reduceSub,Nat.reduceMul,Nat.reduceEqDiff,reduceCtorEq,Int.reduceToNat,Int.reduceEq,Int.reduceBEq,Int.reduceBNe,Int.reduceLT,Int.reduceLE,Int.reduceNeg,Int.reduceAdd,Int.reduceSub,Int.reduceMul,Int.reduceGE,Int.reduceGT,endO,mkO_rs,cSk,Ins.enc]
 refine callV (.agg ((cLd 1 2).enc.map .v)) _ (fun E=>rfl) (fun E a w' hs=>pload_calls w' 1 2) ?_
 simp (maxSteps:=2000000) only [go_sem,↓reduceIte,Nat.reduceLT,Nat.reduceLeDiff,Nat.reduceAdd,Nat.reduceSub,Nat.reduceMul,Nat.reduceEqDiff,reduceCtorEq,Int.reduceToNat,Int.reduceEq,Int.reduceBEq,Int.reduceBNe,Int.reduceLT,Int.reduceLE,Int.reduceNeg,Int.reduceAdd,Int.reduceSub,Int.reduceMul,Int.reduceGE,Int.reduceGT,endO,mkO_rs,cLd,Ins.enc]
 refine And.intro (by decide) (And.intro (by decide) ?_)
 refine callV (.agg ((cLd 1 1).enc.map .v)) _ (fun E=>rfl) (fun E a w' hs=>pload_calls w' 1 1) ?_
 simp (maxSteps:=2000000) only [go_sem,↓reduceIte,Nat.reduceLT,Nat.reduceLeDiff,Nat.reduceAdd,Nat.reduceSub,Nat.reduceMul,Nat.reduceEqDiff,reduceCtorEq,Int.reduceToNat,Int.reduceEq,Int.reduceBEq,Int.reduceBNe,Int.reduceLT,Int.reduceLE,Int.reduceNeg,Int.reduceAdd,Int.reduceSub,Int.reduceMul,Int.reduceGE,Int.reduceGT,endO,mkO_rs,cLd,Ins.enc]
 refine callV (.agg ((cSk 1 1).enc.map .v)) _ (fun E=>rfl) (fun E a w' hs=>pskip_calls w' 1 1) ?_
 simp (maxSteps:=2000000) only [go_sem,↓reduceIte,Nat.reduceLT,Nat.reduceLeDiff,Nat.reduceAdd,Nat.reduceSub,Nat.reduceMul,Nat.reduceEqDiff,reduceCtorEq,Int.reduceToNat,Int.reduceEq,Int.reduceBEq,Int.reduceBNe,Int.reduceLT,Int.reduceLE,Int.reduceNeg,Int.reduceAdd,Int.reduceSub,Int.reduceMul,Int.reduceGE,Int.reduceGT,endO,mkO_rs,cSk,Ins.enc]
 refine callV (.agg ((cSt 2 (-1)).enc.map .v)) _ (fun E=>rfl) (fun E a w' hs=>pstore_calls w' 2 (-1)) ?_
 simp (maxSteps:=2000000) only [go_sem,↓reduceIte,Nat.reduceLT,Nat.reduceLeDiff,Nat.reduceAdd,Nat.reduceSub,Nat.reduceMul,Nat.reduceEqDiff,reduceCtorEq,Int.reduceToNat,Int.reduceEq,Int.reduceBEq,Int.reduceBNe,Int.reduceLT,Int.reduceLE,Int.reduceNeg,Int.reduceAdd,Int.reduceSub,Int.reduceMul,Int.reduceGE,Int.reduceGT,endO,mkO_rs,cSt,Ins.enc]
 refine And.intro (by decide) (And.intro (by decide) (And.intro (by decide) ?_))
 rw [← hR,hW]
 exact ret_ltN 5 6 [3,4] (fun b=>⟨by simp [twS,clL,clT,SV.ren,SC.renL,SC.ren,ltσ],by simp [twS,SV.okN,SC.okL,SC.okN,NewIds]⟩) rfl ⟨by decide,lt3 rfl rfl rfl⟩ rfl ⟨by decide,lt2 rfl rfl⟩
  (lt2 ⟨5,_,rfl,by decide,lt5 rfl rfl rfl rfl rfl⟩ ⟨4,_,rfl,by decide,lt4 rfl rfl rfl rfl⟩) ⟨by decide,by decide⟩
theorem protect_cr {w:World} {rs:List RS} {R:Ending→World→Prop} {S:St} {t y:Nat} {at_:Nat→List SC} (ht:look S.tmps t=some (.c (.sl (y,0,0) 7 0 2 none))) (hy:look S.own y=some (.one (.ar 2 7 at_ 83))) (ha:∀ e,e<2→at_ e=ats Ins.enc [cSt 1 1,cFe] in0 e) (hlt:y<S.nid) :
  CR (mkC Try.prog [] w rs R) 62 [.c (.sl (y,0,0) 7 0 2 none)] S [] (.agg (twS S.nid (clL 9))) 3 ((y,.one .no) :: twO S.nid (clL 9)) []:=by
 refine cr_EffN 3 (fun b=>.agg (twS b (clL 9))) (fun b=>twO b (clL 9)) hy ht hlt (fun b i h=>?_) (fun E a w' hs=>?_)
 ·simp only [twO,look_cons,look] at h
  by_cases h1:b=i
  ·omega
  ·rw [if_neg h1] at h
   by_cases h2:b+1=i
   ·omega
   ·rw [if_neg h2] at h
    by_cases h3:b+2=i
    ·omega
    ·rw [if_neg h3] at h;cases h
 ·have:=protect_own w' _ (sat_handed hs hy (at':=ats Ins.enc [cSt 1 1,cFe] in0) (fun e he=>⟨by rw [ha e he];exact (lt2 (p:=fun e=>ats Ins.enc [cSt 1 1,cFe] in0 e=SC.renL (idσ (toN [y])) (ats Ins.enc [cSt 1 1,cFe] in0 e)) rfl rfl) e he,lt2 (p:=fun e=>SC.okL (· < 1) (ats Ins.enc [cSt 1 1,cFe] in0 e)) (by simp [ats,cSt,Ins.enc,SC.okL,SC.okN]) (by simp [ats,cFe,Ins.enc,SC.okL,SC.okN]) e he⟩))
  have e1:takesO (E.via (idσ (toN [y]))) (prO 2 [cSt 1 1,cFe])=takes E (y,0,0) (.ar 2 7 at_ 83):=by
   funext n
   refine propext ⟨?_,fun h=>⟨(0,0,0),.ar 2 7 (ats Ins.enc [cSt 1 1,cFe] in0) 83,by simp [prO,atN,look,Fm.get],takes_via.2 h⟩⟩
   rintro ⟨x,c,hx,h⟩
   rcases atN_one hx with ⟨rfl,rfl⟩ | hx
   ·exact takes_via.1 h
   ·exact (atN_nil hx).elim
  rw [e1] at this
  exact this
end Go.Proofs.Ytmcpdafmkkjlcaa.Z
namespace Go.Proofs.Ytmcpdafmkkjlcaa.Z
open Go Go.RowKit
def clsTp (F:Lt) (b:Nat):SV:=.tup [(true,twS b F),(false,[.v (.bool true)])]
theorem fnok_of:FnOk Try.prog 61:=⟨_,Try.func61,by kernel_rfl,by kernel_rfl⟩
theorem fnok_pr:FnOk Try.prog 62:=⟨_,Try.func62,by kernel_rfl,by kernel_rfl⟩
def ir34:IR:=(.seq (.ops [⟨(some 2),(.new 25 [(.v (.slice none 0 0)),(.v (.slice none 0 0))]),none⟩,⟨(some 3),(.mv (.k (.c (.v (.bool false))))),none⟩]) (.kill [1,3,4,5,6,7,8,9,10,11] (.seq (.ops [⟨(some 7),(.build [(.v (.int .i64 0)),(.v (.int .i64 0)),(.v (.int .i64 0)),(.v (.int .i64 0)),(.v (.int .i64 0)),(.v (.int .i64 0)),(.v (.int .i64 0))] [(0,(1,(.k (.c (.v (.int .i64 4))))))]),none⟩,⟨(some 4),(.new 83 [(.v (.int .i64 0)),(.v (.int .i64 0)),(.v (.int .i64 0)),(.v (.int .i64 0)),(.v (.int .i64 0)),(.v (.int .i64 0)),(.v (.int .i64 0))]),none⟩,⟨none,(.st 7 (.t 4) (.t 7)),none⟩]) (.kill [7] (.seq (.ops [⟨(some 5),(.mv (.k (.c (.fn (.func 61) [] [])))),none⟩]) (.seq (.ops [⟨(some 6),(.mv (.k (.c (.fn (.func 62) [] [])))),none⟩]) (.seq (.seq (.ops [⟨(some 8),(.mv (.t 0)),none⟩]) (.kill [0] (.blk 0 (.seq (.ops [⟨(some 10),(.eqs false (.t 8) (.k (.c (.v (.string ⟨#[83,66]⟩))))),none⟩,⟨(some 9),(.mv (.t 10)),none⟩]) (.kill [10] (.cond (.t 9) (.seq (.ops [⟨(some 11),(.mv (.t 5)),none⟩,⟨(some 12),(.call 65 [(.k (.c (.v (.int .i64 0)))),(.k (.c (.v (.int .i64 1))))]),none⟩,⟨(some 13),(.call 63 [(.k (.c (.v (.int .i64 0)))),(.k (.c (.v (.int .i64 1))))]),none⟩,⟨(some 14),(.mkSl 83 2 7 [(.v (.int .i64 0)),(.v (.int .i64 0)),(.v (.int .i64 0)),(.v (.int .i64 0)),(.v (.int .i64 0)),(.v (.int .i64 0)),(.v (.int .i64 0)),(.v (.int .i64 0)),(.v (.int .i64 0)),(.v (.int .i64 0)),(.v (.int .i64 0)),(.v (.int .i64 0)),(.v (.int .i64 0)),(.v (.int .i64 0))] [(0,(7,(.t 12))),(7,(7,(.t 13)))]),none⟩,⟨(some 15),(.call 65 [(.k (.c (.v (.int .i64 1)))),(.k (.c (.v (.int .i64 1))))]),none⟩,⟨(some 16),(.call 63 [(.k (.c (.v (.int .i64 0)))),(.k (.c (.v (.int .i64 0))))]),none⟩,⟨(some 17),(.mkSl 83 2 7 [(.v (.int .i64 0)),(.v (.int .i64 0)),(.v (.int .i64 0)),(.v (.int .i64 0)),(.v (.int .i64 0)),(.v (.int .i64 0)),(.v (.int .i64 0)),(.v (.int .i64 0)),(.v (.int .i64 0)),(.v (.int .i64 0)),(.v (.int .i64 0)),(.v (.int .i64 0)),(.v (.int .i64 0)),(.v (.int .i64 0))] [(0,(7,(.t 15))),(7,(7,(.t 16)))]),none⟩,⟨(some 18),(.mkSl 80 2 1 [(.v (.slice none 0 0)),(.v (.slice none 0 0))] [(0,(1,(.t 14))),(1,(1,(.t 17)))]),none⟩,⟨(some 19),(.callv (.t 11) [(.t 18)]),none⟩,⟨none,(.st 2 (.t 2) (.t 19)),none⟩,⟨(some 3),(.mv (.k (.c (.v (.bool true))))),none⟩]) (.kill [4,5,6,8,9,11,12,13,14,15,16,17,18,19] .ret)) (.seq (.ops [⟨(some 21),(.eqs false (.t 8) (.k (.c (.v (.string ⟨#[77,80]⟩))))),none⟩,⟨(some 20),(.mv (.t 21)),none⟩]) (.kill [9,21] (.cond (.t 20) (.seq (.ops [⟨(some 22),(.mv (.t 5)),none⟩,⟨(some 23),(.call 65 [(.k (.c (.v (.int .i64 0)))),(.k (.c (.v (.int .i64 1))))]),none⟩,⟨(some 24),(.call 65 [(.k (.c (.v (.int .i64 1)))),(.k (.c (.v (.int .i64 1))))]),none⟩,⟨(some 25),(.mkSl 83 2 7 [(.v (.int .i64 0)),(.v (.int .i64 0)),(.v (.int .i64 0)),(.v (.int .i64 0)),(.v (.int .i64 0)),(.v (.int .i64 0)),(.v (.int .i64 0)),(.v (.int .i64 0)),(.v (.int .i64 0)),(.v (.int .i64 0)),(.v (.int .i64 0)),(.v (.int .i64 0)),(.v (.int .i64 0)),(.v (.int .i64 0))] [(0,(7,(.t 23))),(7,(7,(.t 24)))]),none⟩,⟨(some 26),(.call 63 [(.k (.c (.v (.int .i64 0)))),(.k (.c (.v (.int .i64 1))))]),none⟩,⟨(some 27),(.call 63 [(.k (.c (.v (.int .i64 1)))),(.k (.c (.v (.int .i64 0))))]),none⟩,⟨(some 28),(.mkSl 83 2 7 [(.v (.int .i64 0)),(.v (.int .i64 0)),(.v (.int .i64 0)),(.v (.int .i64 0)),(.v (.int .i64 0)),(.v (.int .i64 0)),(.v (.int .i64 0)),(.v (.int .i64 0)),(.v (.int .i64 0)),(.v (.int .i64 0)),(.v (.int .i64 0)),(.v (.int .i64 0)),(.v (.int .i64 0)),(.v (.int .i64 0))] [(0,(7,(.t 26))),(7,(7,(.t 27)))]),none⟩,⟨(some 29),(.mkSl 80 2 1 [(.v (.slice none 0 0)),(.v (.slice none 0 0))] [(0,(1,(.t 25))),(1,(1,(.t 28)))]),none⟩,⟨(some 30),(.callv (.t 22) [(.t 29)]),none⟩,⟨none,(.st 2 (.t 2) (.t 30)),none⟩,⟨(some 3),(.mv (.k (.c (.v (.bool true))))),none⟩]) (.kill [4,5,6,8,20,22,23,24,25,26,27,28,29,30] .ret)) (.seq (.ops [⟨(some 32),(.eqs false (.t 8) (.k (.c (.v (.string ⟨#[76,66]⟩))))),none⟩,⟨(some 31),(.mv (.t 32)),none⟩]) (.kill [20,32] (.cond (.t 31) (.seq (.ops [⟨(some 33),(.mv (.t 5)),none⟩,⟨(some 34),(.call 63 [(.k (.c (.v (.int .i64 0)))),(.k (.c (.v (.int .i64 0))))]),none⟩,⟨(some 35),(.call 65 [(.k (.c (.v (.int .i64 1)))),(.k (.c (.v (.int .i64 1))))]),none⟩,⟨(some 36),(.mkSl 83 2 7 [(.v (.int .i64 0)),(.v (.int .i64 0)),(.v (.int .i64 0)),(.v (.int .i64 0)),(.v (.int .i64 0)),(.v (.int .i64 0)),(.v (.int .i64 0)),(.v (.int .i64 0)),(.v (.int .i64 0)),(.v (.int .i64 0)),(.v (.int .i64 0)),(.v (.int .i64 0)),(.v (.int .i64 0)),(.v (.int .i64 0))] [(0,(7,(.t 34))),(7,(7,(.t 35)))]),none⟩,⟨(some 37),(.call 63 [(.k (.c (.v (.int .i64 0)))),(.k (.c (.v (.int .i64 1))))]),none⟩,⟨(some 38),(.call 65 [(.k (.c (.v (.int .i64 0)))),(.k (.c (.v (.int .i64 1))))]),none⟩,⟨(some 39),(.mkSl 83 2 7 [(.v (.int .i64 0)),(.v (.int .i64 0)),(.v (.int .i64 0)),(.v (.int .i64 0)),(.v (.int .i64 0)),(.v (.int .i64 0)),(.v (.int .i64 0)),(.v (.int .i64 0)),(.v (.int .i64 0)),(.v (.int .i64 0)),(.v (.int .i64 0)),(.v (.int .i64 0)),(.v (.int .i64 0)),(.v (.int .i64 0))] [(0,(7,(.t 37))),(7,(7,(.t 38)))]),none⟩,⟨(some 40),(.mkSl 80 2 1 [(.v (.slice none 0 0)),(.v (.slice none 0 0))] [(0,(1,(.t 36))),(1,(1,(.t 39)))]),none⟩,⟨(some 41),(.callv (.t 33) [(.t 40)]),none⟩,⟨none,(.st 2 (.t 2) (.t 41)),none⟩,⟨(some 3),(.mv (.k (.c (.v (.bool true))))),none⟩]) (.kill [4,5,6,8,31,33,34,35,36,37,38,39,40,41] .ret)) (.seq (.ops [⟨(some 43),(.eqs false (.t 8) (.k (.c (.v (.string ⟨#[73,82,73,87]⟩))))),none⟩,⟨(some 42),(.mv (.t 43)),none⟩]) (.kill [31,43] (.cond (.t 42) (.seq (.ops [⟨(some 44),(.mv (.t 5)),none⟩,⟨(some 45),(.call 65 [(.k (.c (.v (.int .i64 0)))),(.k (.c (.v (.int .i64 1))))]),none⟩,⟨(some 46),(.mkSl 83 1 7 [(.v (.int .i64 0)),(.v (.int .i64 0)),(.v (.int .i64 0)),(.v (.int .i64 0)),(.v (.int .i64 0)),(.v (.int .i64 0)),(.v (.int .i64 0))] [(0,(7,(.t 45)))]),none⟩,⟨(some 47),(.call 65 [(.k (.c (.v (.int .i64 1)))),(.k (.c (.v (.int .i64 1))))]),none⟩,⟨(some 48),(.mkSl 83 1 7 [(.v (.int .i64 0)),(.v (.int .i64 0)),(.v (.int .i64 0)),(.v (.int .i64 0)),(.v (.int .i64 0)),(.v (.int .i64 0)),(.v (.int .i64 0))] [(0,(7,(.t 47)))]),none⟩,⟨(some 49),(.call 63 [(.k (.c (.v (.int .i64 0)))),(.k (.c (.v (.int .i64 0))))]),none⟩,⟨(some 50),(.call 63 [(.k (.c (.v (.int .i64 1)))),(.k (.c (.v (.int .i64 1))))]),none⟩,⟨(some 51),(.mkSl 83 2 7 [(.v (.int .i64 0)),(.v (.int .i64 0)),(.v (.int .i64 0)),(.v (.int .i64 0)),(.v (.int .i64 0)),(.v (.int .i64 0)),(.v (.int .i64 0)),(.v (.int .i64 0)),(.v (.int .i64 0)),(.v (.int .i64 0)),(.v (.int .i64 0)),(.v (.int .i64 0)),(.v (.int .i64 0)),(.v (.int .i64 0))] [(0,(7,(.t 49))),(7,(7,(.t 50)))]),none⟩,⟨(some 52),(.call 63 [(.k (.c (.v (.int .i64 0)))),(.k (.c (.v (.int .i64 1))))]),none⟩,⟨(some 53),(.call 63 [(.k (.c (.v (.int .i64 1)))),(.k (.c (.v (.int .i64 0))))]),none⟩,⟨(some 54),(.mkSl 83 2 7 [(.v (.int .i64 0)),(.v (.int .i64 0)),(.v (.int .i64 0)),(.v (.int .i64 0)),(.v (.int .i64 0)),(.v (.int .i64 0)),(.v (.int .i64 0)),(.v (.int .i64 0)),(.v (.int .i64 0)),(.v (.int .i64 0)),(.v (.int .i64 0)),(.v (.int .i64 0)),(.v (.int .i64 0)),(.v (.int .i64 0))] [(0,(7,(.t 52))),(7,(7,(.t 53)))]),none⟩,⟨(some 55),(.mkSl 80 4 1 [(.v (.slice none 0 0)),(.v (.slice none 0 0)),(.v (.slice none 0 0)),(.v (.slice none 0 0))] [(0,(1,(.t 46))),(1,(1,(.t 48))),(2,(1,(.t 51))),(3,(1,(.t 54)))]),none⟩,⟨(some 56),(.callv (.t 44) [(.t 55)]),none⟩,⟨none,(.st 2 (.t 2) (.t 56)),none⟩,⟨(some 3),(.mv (.k (.c (.v (.bool true))))),none⟩]) (.kill [4,5,6,8,42,44,45,46,47,48,49,50,51,52,53,54,55,56] .ret)) (.seq (.ops [⟨(some 58),(.eqs false (.t 8) (.k (.c (.v (.string ⟨#[82]⟩))))),none⟩,⟨(some 57),(.mv (.t 58)),none⟩]) (.kill [42,58] (.cond (.t 57) (.seq (.ops [⟨(some 59),(.mv (.t 5)),none⟩,⟨(some 60),(.call 65 [(.k (.c (.v (.int .i64 0)))),(.k (.c (.v (.int .i64 1))))]),none⟩,⟨(some 61),(.call 65 [(.k (.c (.v (.int .i64 1)))),(.k (.c (.v (.int .i64 1))))]),none⟩,⟨(some 62),(.mkSl 83 2 7 [(.v (.int .i64 0)),(.v (.int .i64 0)),(.v (.int .i64 0)),(.v (.int .i64 0)),(.v (.int .i64 0)),(.v (.int .i64 0)),(.v (.int .i64 0)),(.v (.int .i64 0)),(.v (.int .i64 0)),(.v (.int .i64 0)),(.v (.int .i64 0)),(.v (.int .i64 0)),(.v (.int .i64 0)),(.v (.int .i64 0))] [(0,(7,(.t 60))),(7,(7,(.t 61)))]),none⟩,⟨(some 63),(.call 65 [(.k (.c (.v (.int .i64 1)))),(.k (.c (.v (.int .i64 2))))]),none⟩,⟨(some 64),(.call 63 [(.k (.c (.v (.int .i64 0)))),(.k (.c (.v (.int .i64 0))))]),none⟩,⟨(some 65),(.mkSl 83 2 7 [(.v (.int .i64 0)),(.v (.int .i64 0)),(.v (.int .i64 0)),(.v (.int .i64 0)),(.v (.int .i64 0)),(.v (.int .i64 0)),(.v (.int .i64 0)),(.v (.int .i64 0)),(.v (.int .i64 0)),(.v (.int .i64 0)),(.v (.int .i64 0)),(.v (.int .i64 0)),(.v (.int .i64 0)),(.v (.int .i64 0))] [(0,(7,(.t 63))),(7,(7,(.t 64)))]),none⟩,⟨(some 66),(.mkSl 80 2 1 [(.v (.slice none 0 0)),(.v (.slice none 0 0))] [(0,(1,(.t 62))),(1,(1,(.t 65)))]),none⟩,⟨(some 67),(.callv (.t 59) [(.t 66)]),none⟩,⟨none,(.st 2 (.t 2) (.t 67)),none⟩,⟨(some 3),(.mv (.k (.c (.v (.bool true))))),none⟩]) (.kill [4,5,6,8,57,59,60,61,62,63,64,65,66,67] .ret)) (.seq (.ops [⟨(some 69),(.eqs false (.t 8) (.k (.c (.v (.string ⟨#[83]⟩))))),none⟩,⟨(some 68),(.mv (.t 69)),none⟩]) (.kill [57,69] (.cond (.t 68) (.seq (.ops [⟨(some 70),(.mv (.t 5)),none⟩,⟨(some 71),(.call 65 [(.k (.c (.v (.int .i64 0)))),(.k (.c (.v (.int .i64 2))))]),none⟩,⟨(some 72),(.call 65 [(.k (.c (.v (.int .i64 1)))),(.k (.c (.v (.int .i64 1))))]),none⟩,⟨(some 73),(.mkSl 83 2 7 [(.v (.int .i64 0)),(.v (.int .i64 0)),(.v (.int .i64 0)),(.v (.int .i64 0)),(.v (.int .i64 0)),(.v (.int .i64 0)),(.v (.int .i64 0)),(.v (.int .i64 0)),(.v (.int .i64 0)),(.v (.int .i64 0)),(.v (.int .i64 0)),(.v (.int .i64 0)),(.v (.int .i64 0)),(.v (.int .i64 0))] [(0,(7,(.t 71))),(7,(7,(.t 72)))]),none⟩,⟨(some 74),(.call 63 [(.k (.c (.v (.int .i64 0)))),(.k (.c (.v (.int .i64 1))))]),none⟩,⟨(some 75),(.call 65 [(.k (.c (.v (.int .i64 0)))),(.k (.c (.v (.int .i64 1))))]),none⟩,⟨(some 76),(.mkSl 83 2 7 [(.v (.int .i64 0)),(.v (.int .i64 0)),(.v (.int .i64 0)),(.v (.int .i64 0)),(.v (.int .i64 0)),(.v (.int .i64 0)),(.v (.int .i64 0)),(.v (.int .i64 0)),(.v (.int .i64 0)),(.v (.int .i64 0)),(.v (.int .i64 0)),(.v (.int .i64 0)),(.v (.int .i64 0)),(.v (.int .i64 0))] [(0,(7,(.t 74))),(7,(7,(.t 75)))]),none⟩,⟨(some 77),(.mkSl 80 2 1 [(.v (.slice none 0 0)),(.v (.slice none 0 0))] [(0,(1,(.t 73))),(1,(1,(.t 76)))]),none⟩,⟨(some 78),(.callv (.t 70) [(.t 77)]),none⟩,⟨none,(.st 2 (.t 2) (.t 78)),none⟩,⟨(some 3),(.mv (.k (.c (.v (.bool true))))),none⟩]) (.kill [4,5,6,8,68,70,71,72,73,74,75,76,77,78] .ret)) (.seq (.ops [⟨(some 80),(.eqs false (.t 8) (.k (.c (.v (.string ⟨#[50,43,50,87]⟩))))),none⟩,⟨(some 79),(.mv (.t 80)),none⟩]) (.kill [68,80] (.cond (.t 79) (.seq (.ops [⟨(some 81),(.mv (.t 5)),none⟩,⟨(some 82),(.call 65 [(.k (.c (.v (.int .i64 0)))),(.k (.c (.v (.int .i64 1))))]),none⟩,⟨(some 83),(.call 65 [(.k (.c (.v (.int .i64 1)))),(.k (.c (.v (.int .i64 2))))]),none⟩,⟨(some 84),(.mkSl 83 2 7 [(.v (.int .i64 0)),(.v (.int .i64 0)),(.v (.int .i64 0)),(.v (.int .i64 0)),(.v (.int .i64 0)),(.v (.int .i64 0)),(.v (.int .i64 0)),(.v (.int .i64 0)),(.v (.int .i64 0)),(.v (.int .i64 0)),(.v (.int .i64 0)),(.v (.int .i64 0)),(.v (.int .i64 0)),(.v (.int .i64 0))] [(0,(7,(.t 82))),(7,(7,(.t 83)))]),none⟩,⟨(some 85),(.call 65 [(.k (.c (.v (.int .i64 1)))),(.k (.c (.v (.int .i64 1))))]),none⟩,⟨(some 86),(.call 65 [(.k (.c (.v (.int .i64 0)))),(.k (.c (.v (.int .i64 2))))]),none⟩,⟨(some 87),(.mkSl 83 2 7 [(.v (.int .i64 0)),(.v (.int .i64 0)),(.v (.int .i64 0)),(.v (.int .i64 0)),(.v (.int .i64 0)),(.v (.int .i64 0)),(.v (.int .i64 0)),(.v (.int .i64 0)),(.v (.int .i64 0)),(.v (.int .i64 0)),(.v (.int .i64 0)),(.v (.int .i64 0)),(.v (.int .i64 0)),(.v (.int .i64 0))] [(0,(7,(.t 85))),(7,(7,(.t 86)))]),none⟩,⟨(some 88),(.mkSl 80 2 1 [(.v (.slice none 0 0)),(.v (.slice none 0 0))] [(0,(1,(.t 84))),(1,(1,(.t 87)))]),none⟩,⟨(some 89),(.callv (.t 81) [(.t 88)]),none⟩,⟨none,(.st 2 (.t 2) (.t 89)),none⟩,⟨(some 3),(.mv (.k (.c (.v (.bool true))))),none⟩]) (.kill [4,5,6,8,79,81,82,83,84,85,86,87,88,89] .ret)) (.seq (.ops [⟨(some 91),(.eqs false (.t 8) (.k (.c (.v (.string ⟨#[83,66,43,102,101,110,99,101]⟩))))),none⟩,⟨(some 90),(.mv (.t 91)),none⟩]) (.kill [79,91] (.cond (.t 90) (.seq (.draw [(⟨(some 92),(.mv (.t 5)),none⟩,([],[93,94,95,96,97,98,99,100,101])),(⟨(some 93),(.call 65 [(.k (.c (.v (.int .i64 0)))),(.k (.c (.v (.int .i64 1))))]),none⟩,([0],[92,94,98])),(⟨(some 94),(.ld true 7 (.t 4)),none⟩,([0,1],[92,93,95,97,98,99,100])),(⟨(some 95),(.call 63 [(.k (.c (.v (.int .i64 0)))),(.k (.c (.v (.int .i64 1))))]),none⟩,([0,2],[92,94,98])),(⟨(some 96),(.mkSl 83 3 7 [(.v (.int .i64 0)),(.v (.int .i64 0)),(.v (.int .i64 0)),(.v (.int .i64 0)),(.v (.int .i64 0)),(.v (.int .i64 0)),(.v (.int .i64 0)),(.v (.int .i64 0)),(.v (.int .i64 0)),(.v (.int .i64 0)),(.v (.int .i64 0)),(.v (.int .i64 0)),(.v (.int .i64 0)),(.v (.int .i64 0)),(.v (.int .i64 0)),(.v (.int .i64 0)),(.v (.int .i64 0)),(.v (.int .i64 0)),(.v (.int .i64 0)),(.v (.int .i64 0)),(.v (.int .i64 0))] [(0,(7,(.t 93))),(7,(7,(.t 94))),(14,(7,(.t 95)))]),none⟩,([0],[92,97,98,99,100])),(⟨(some 97),(.call 65 [(.k (.c (.v (.int .i64 1)))),(.k (.c (.v (.int .i64 1))))]),none⟩,([0,2,4],[92,94,96,98])),(⟨(some 98),(.ld true 7 (.t 4)),none⟩,([0,1,2,3,4,5],[92,93,94,95,96,97,99])),(⟨(some 99),(.call 63 [(.k (.c (.v (.int .i64 0)))),(.k (.c (.v (.int .i64 0))))]),none⟩,([0,2,4,6],[92,94,96,98])),(⟨(some 100),(.mkSl 83 3 7 [(.v (.int .i64 0)),(.v (.int .i64 0)),(.v (.int .i64 0)),(.v (.int .i64 0)),(.v (.int .i64 0)),(.v (.int .i64 0)),(.v (.int .i64 0)),(.v (.int .i64 0)),(.v (.int .i64 0)),(.v (.int .i64 0)),(.v (.int .i64 0)),(.v (.int .i64 0)),(.v (.int .i64 0)),(.v (.int .i64 0)),(.v (.int .i64 0)),(.v (.int .i64 0)),(.v (.int .i64 0)),(.v (.int .i64 0)),(.v (.int .i64 0)),(.v (.int .i64 0)),(.v (.int .i64 0))] [(0,(7,(.t 97))),(7,(7,(.t 98))),(14,(7,(.t 99)))]),none⟩,([0,2,4],[92,94,96])),(⟨(some 101),(.mkSl 80 2 1 [(.v (.slice none 0 0)),(.v (.slice none 0 0))] [(0,(1,(.t 96))),(1,(1,(.t 100)))]),none⟩,([0],[92])),(⟨(some 102),(.callv (.t 92) [(.t 101)]),none⟩,([],[])),(⟨none,(.st 2 (.t 2) (.t 102)),none⟩,([],[])),(⟨(some 3),(.mv (.k (.c (.v (.bool true))))),none⟩,([],[]))]) (.kill [4,5,6,8,90,92,93,94,95,96,97,98,99,100,101,102] .ret)) (.seq (.ops [⟨(some 104),(.eqs false (.t 8) (.k (.c (.v (.string ⟨#[112,114,111,116,101,99,116]⟩))))),none⟩,⟨(some 103),(.mv (.t 104)),none⟩]) (.kill [5,90,104] (.cond (.t 103) (.seq (.ops [⟨(some 105),(.mv (.t 6)),none⟩,⟨(some 106),(.call 65 [(.k (.c (.v (.int .i64 1)))),(.k (.c (.v (.int .i64 1))))]),none⟩,⟨(some 107),(.mkSl 83 1 7 [(.v (.int .i64 0)),(.v (.int .i64 0)),(.v (.int .i64 0)),(.v (.int .i64 0)),(.v (.int .i64 0)),(.v (.int .i64 0)),(.v (.int .i64 0))] [(0,(7,(.t 106)))]),none⟩,⟨(some 108),(.callv (.t 105) [(.t 107)]),none⟩,⟨none,(.st 2 (.t 2) (.t 108)),none⟩,⟨(some 3),(.mv (.k (.c (.v (.bool true))))),none⟩]) (.kill [4,6,8,103,105,106,107,108] .ret)) (.seq (.ops [⟨(some 110),(.eqs false (.t 8) (.k (.c (.v (.string ⟨#[112,114,111,116,101,99,116,43,102,101,110,99,101]⟩))))),none⟩,⟨(some 109),(.mv (.t 110)),none⟩]) (.kill [8,103,110] (.cond (.t 109) (.seq (.draw [(⟨(some 111),(.mv (.t 6)),none⟩,([],[112,113,114])),(⟨(some 112),(.call 65 [(.k (.c (.v (.int .i64 1)))),(.k (.c (.v (.int .i64 1))))]),none⟩,([0],[111,113])),(⟨(some 113),(.ld true 7 (.t 4)),none⟩,([0,1],[111,112])),(⟨(some 114),(.mkSl 83 2 7 [(.v (.int .i64 0)),(.v (.int .i64 0)),(.v (.int .i64 0)),(.v (.int .i64 0)),(.v (.int .i64 0)),(.v (.int .i64 0)),(.v (.int .i64 0)),(.v (.int .i64 0)),(.v (.int .i64 0)),(.v (.int .i64 0)),(.v (.int .i64 0)),(.v (.int .i64 0)),(.v (.int .i64 0)),(.v (.int .i64 0))] [(0,(7,(.t 112))),(7,(7,(.t 113)))]),none⟩,([0],[111])),(⟨(some 115),(.callv (.t 111) [(.t 114)]),none⟩,([],[])),(⟨none,(.st 2 (.t 2) (.t 115)),none⟩,([],[])),(⟨(some 3),(.mv (.k (.c (.v (.bool true))))),none⟩,([],[]))]) (.kill [4,6,109,111,112,113,114,115] .ret)) .skip))))))))))))))))))))))))))))))))) (.kill [3,4,5,6,8,9,10,11,12,13,14,15,16,17,18,19,20,21,22,23,24,25,26,27,28,29,30,31,32,33,34,35,36,37,38,39,40,41,42,43,44,45,46,47,48,49,50,51,52,53,54,55,56,57,58,59,60,61,62,63,64,65,66,67,68,69,70,71,72,73,74,75,76,77,78,79,80,81,82,83,84,85,86,87,88,89,90,91,92,93,94,95,96,97,98,99,100,101,102,103,104,105,106,107,108,109,110,111,112,113,114,115] (.seq (.ops [⟨(some 116),(.build [(.v (.slice none 0 0)),(.v (.slice none 0 0))] []),none⟩,⟨none,(.st 2 (.t 2) (.t 116)),none⟩,⟨(some 3),(.mv (.k (.c (.v (.bool false))))),none⟩]) (.kill [116] .ret))))))))))
def rs34:List RS:=[(.cell 2 true 2),(.t 3)]
def nt34:Nat:=117
set_option maxRecDepth 100000 in
set_option maxHeartbeats 1000000 in
theorem pclassic_0 (w:World) (a:ByteArray) (h0:(a.toList == (⟨#[83,66]⟩:ByteArray).toList)=true):Calls Try.prog 34 #[.string a] w (RetN w 3 (clsTp (clL 0)) (fun b=>twO b (clL 0))):=by
 refine enter0 (A:=[]) (c:=ir34) (rs:=rs34) (nt:=nt34) [.c (.v (.string a))] #[.string a] Try.func34 rfl (by kernel_rfl) (by kernel_rfl) rfl (fun E'=>by simp [SV.den,SC.den]) (of_decide_eq_true rfl) ?_
 simp (maxSteps:=2000000) only [ir34,nt34,rs34,go_sem,↓reduceIte,Nat.reduceLT,Nat.reduceLeDiff,Nat.reduceAdd,Nat.reduceSub,Nat.reduceMul,Nat.reduceEqDiff,reduceCtorEq,Int.reduceToNat,Int.reduceEq,Int.reduceBEq,Int.reduceBNe,Int.reduceLT,Int.reduceLE,Int.reduceNeg,Int.reduceAdd,Int.reduceSub,Int.reduceMul,Int.reduceGE,Int.reduceGT,endO,h0]
 refine callV (.agg ((cSt 0 1).enc.map .v)) _ (fun E=>rfl) (fun E a w' hs=>pstore_calls w' 0 1) ?_
 simp (maxSteps:=2000000) only [go_sem,↓reduceIte,Nat.reduceLT,Nat.reduceLeDiff,Nat.reduceAdd,Nat.reduceSub,Nat.reduceMul,Nat.reduceEqDiff,reduceCtorEq,Int.reduceToNat,Int.reduceEq,Int.reduceBEq,Int.reduceBNe,Int.reduceLT,Int.reduceLE,Int.reduceNeg,Int.reduceAdd,Int.reduceSub,Int.reduceMul,Int.reduceGE,Int.reduceGT,endO,cSt,Ins.enc]
 refine callV (.agg ((cLd 0 1).enc.map .v)) _ (fun E=>rfl) (fun E a w' hs=>pload_calls w' 0 1) ?_
 simp (maxSteps:=2000000) only [go_sem,↓reduceIte,Nat.reduceLT,Nat.reduceLeDiff,Nat.reduceAdd,Nat.reduceSub,Nat.reduceMul,Nat.reduceEqDiff,reduceCtorEq,Int.reduceToNat,Int.reduceEq,Int.reduceBEq,Int.reduceBNe,Int.reduceLT,Int.reduceLE,Int.reduceNeg,Int.reduceAdd,Int.reduceSub,Int.reduceMul,Int.reduceGE,Int.reduceGT,endO,cLd,Ins.enc]
 refine And.intro (by decide) ?_
 refine callV (.agg ((cSt 1 1).enc.map .v)) _ (fun E=>rfl) (fun E a w' hs=>pstore_calls w' 1 1) ?_
 simp (maxSteps:=2000000) only [go_sem,↓reduceIte,Nat.reduceLT,Nat.reduceLeDiff,Nat.reduceAdd,Nat.reduceSub,Nat.reduceMul,Nat.reduceEqDiff,reduceCtorEq,Int.reduceToNat,Int.reduceEq,Int.reduceBEq,Int.reduceBNe,Int.reduceLT,Int.reduceLE,Int.reduceNeg,Int.reduceAdd,Int.reduceSub,Int.reduceMul,Int.reduceGE,Int.reduceGT,endO,cSt,Ins.enc]
 refine callV (.agg ((cLd 0 0).enc.map .v)) _ (fun E=>rfl) (fun E a w' hs=>pload_calls w' 0 0) ?_
 simp (maxSteps:=2000000) only [go_sem,↓reduceIte,Nat.reduceLT,Nat.reduceLeDiff,Nat.reduceAdd,Nat.reduceSub,Nat.reduceMul,Nat.reduceEqDiff,reduceCtorEq,Int.reduceToNat,Int.reduceEq,Int.reduceBEq,Int.reduceBNe,Int.reduceLT,Int.reduceLE,Int.reduceNeg,Int.reduceAdd,Int.reduceSub,Int.reduceMul,Int.reduceGE,Int.reduceGT,endO,cLd,Ins.enc]
 refine And.intro (by decide) ?_
 refine And.intro (by decide) ?_
 refine And.intro fnok_of ?_
 refine call_inline (c:=ir61) (rs:=rs61) (nt:=nt61) 1000 (mkTab_ok _ _) Try.func61 rfl (by kernel_rfl) (by kernel_rfl) rfl (by simp [okVs,SV.okN,SC.okL,SC.okN]) (of_decide_eq_true rfl) (fun E0 a0 ht0=>?_)
 simp (maxSteps:=2000000) only [ir61,nt61,rs61,go_sem,↓reduceIte,Nat.reduceLT,Nat.reduceLeDiff,Nat.reduceAdd,Nat.reduceSub,Nat.reduceMul,Nat.reduceEqDiff,reduceCtorEq,Int.reduceToNat,Int.reduceEq,Int.reduceBEq,Int.reduceBNe,Int.reduceLT,Int.reduceLE,Int.reduceNeg,Int.reduceAdd,Int.reduceSub,Int.reduceMul,Int.reduceGE,Int.reduceGT,endO]
 refine And.intro (by decide) ?_
 refine retI ht0 _ rfl (of_decide_eq_true rfl) (by simp [SV.okN,SC.okL,SC.okN,ok1L]) ?_
 simp (maxSteps:=2000000) only [go_sem,↓reduceIte,Nat.reduceLT,Nat.reduceLeDiff,Nat.reduceAdd,Nat.reduceSub,Nat.reduceMul,Nat.reduceEqDiff,reduceCtorEq,Int.reduceToNat,Int.reduceEq,Int.reduceBEq,Int.reduceBNe,Int.reduceLT,Int.reduceLE,Int.reduceNeg,Int.reduceAdd,Int.reduceSub,Int.reduceMul,Int.reduceGE,Int.reduceGT,endO]
 exact ret_lt 6 4 [2,3] (fun b=>⟨by simp [clsTp,twS,clL,clT,SV.ren,ren1L,ren1,SC.renL,SC.ren,ltσ],by simp [clsTp,twS,SV.okN,ok1L,SC.okL,SC.okN,NewIds]⟩) rfl ⟨by decide,lt2 rfl rfl⟩ rfl ⟨by decide,lt2 rfl rfl⟩
  (lt2 ⟨2,_,rfl,by decide,lt2 rfl rfl⟩ ⟨2,_,rfl,by decide,lt2 rfl rfl⟩) ⟨by decide,by decide⟩
set_option maxRecDepth 100000 in
set_option maxHeartbeats 1000000 in
theorem pclassic_1 (w:World) (a:ByteArray) (h0:(a.toList == (⟨#[83,66]⟩:ByteArray).toList)=false) (h1:(a.toList == (⟨#[77,80]⟩:ByteArray).toList)=true):Calls Try.prog 34 #[.string a] w (RetN w 3 (clsTp (clL 1)) (fun b=>twO b (clL 1))):=by
 refine enter0 (A:=[]) (c:=ir34) (rs:=rs34) (nt:=nt34) [.c (.v (.string a))] #[.string a] Try.func34 rfl (by kernel_rfl) (by kernel_rfl) rfl (fun E'=>by simp [SV.den,SC.den]) (of_decide_eq_true rfl) ?_
 simp (maxSteps:=2000000) only [ir34,nt34,rs34,go_sem,↓reduceIte,Nat.reduceLT,Nat.reduceLeDiff,Nat.reduceAdd,Nat.reduceSub,Nat.reduceMul,Nat.reduceEqDiff,reduceCtorEq,Int.reduceToNat,Int.reduceEq,Int.reduceBEq,Int.reduceBNe,Int.reduceLT,Int.reduceLE,Int.reduceNeg,Int.reduceAdd,Int.reduceSub,Int.reduceMul,Int.reduceGE,Int.reduceGT,endO,h0,h1]
 refine callV (.agg ((cSt 0 1).enc.map .v)) _ (fun E=>rfl) (fun E a w' hs=>pstore_calls w' 0 1) ?_
 simp (maxSteps:=2000000) only [go_sem,↓reduceIte,Nat.reduceLT,Nat.reduceLeDiff,Nat.reduceAdd,Nat.reduceSub,Nat.reduceMul,Nat.reduceEqDiff,reduceCtorEq,Int.reduceToNat,Int.reduceEq,Int.reduceBEq,Int.reduceBNe,Int.reduceLT,Int.reduceLE,Int.reduceNeg,Int.reduceAdd,Int.reduceSub,Int.reduceMul,Int.reduceGE,Int.reduceGT,endO,cSt,Ins.enc]
 refine callV (.agg ((cSt 1 1).enc.map .v)) _ (fun E=>rfl) (fun E a w' hs=>pstore_calls w' 1 1) ?_
 simp (maxSteps:=2000000) only [go_sem,↓reduceIte,Nat.reduceLT,Nat.reduceLeDiff,Nat.reduceAdd,Nat.reduceSub,Nat.reduceMul,Nat.reduceEqDiff,reduceCtorEq,Int.reduceToNat,Int.reduceEq,Int.reduceBEq,Int.reduceBNe,Int.reduceLT,Int.reduceLE,Int.reduceNeg,Int.reduceAdd,Int.reduceSub,Int.reduceMul,Int.reduceGE,Int.reduceGT,endO,cSt,Ins.enc]
 refine And.intro (by decide) ?_
 refine callV (.agg ((cLd 0 1).enc.map .v)) _ (fun E=>rfl) (fun E a w' hs=>pload_calls w' 0 1) ?_
 simp (maxSteps:=2000000) only [go_sem,↓reduceIte,Nat.reduceLT,Nat.reduceLeDiff,Nat.reduceAdd,Nat.reduceSub,Nat.reduceMul,Nat.reduceEqDiff,reduceCtorEq,Int.reduceToNat,Int.reduceEq,Int.reduceBEq,Int.reduceBNe,Int.reduceLT,Int.reduceLE,Int.reduceNeg,Int.reduceAdd,Int.reduceSub,Int.reduceMul,Int.reduceGE,Int.reduceGT,endO,cLd,Ins.enc]
 refine callV (.agg ((cLd 1 0).enc.map .v)) _ (fun E=>rfl) (fun E a w' hs=>pload_calls w' 1 0) ?_
 simp (maxSteps:=2000000) only [go_sem,↓reduceIte,Nat.reduceLT,Nat.reduceLeDiff,Nat.reduceAdd,Nat.reduceSub,Nat.reduceMul,Nat.reduceEqDiff,reduceCtorEq,Int.reduceToNat,Int.reduceEq,Int.reduceBEq,Int.reduceBNe,Int.reduceLT,Int.reduceLE,Int.reduceNeg,Int.reduceAdd,Int.reduceSub,Int.reduceMul,Int.reduceGE,Int.reduceGT,endO,cLd,Ins.enc]
 refine And.intro (by decide) ?_
 refine And.intro (by decide) ?_
 refine And.intro fnok_of ?_
 refine call_inline (c:=ir61) (rs:=rs61) (nt:=nt61) 1000 (mkTab_ok _ _) Try.func61 rfl (by kernel_rfl) (by kernel_rfl) rfl (by simp [okVs,SV.okN,SC.okL,SC.okN]) (of_decide_eq_true rfl) (fun E0 a0 ht0=>?_)
 simp (maxSteps:=2000000) only [ir61,nt61,rs61,go_sem,↓reduceIte,Nat.reduceLT,Nat.reduceLeDiff,Nat.reduceAdd,Nat.reduceSub,Nat.reduceMul,Nat.reduceEqDiff,reduceCtorEq,Int.reduceToNat,Int.reduceEq,Int.reduceBEq,Int.reduceBNe,Int.reduceLT,Int.reduceLE,Int.reduceNeg,Int.reduceAdd,Int.reduceSub,Int.reduceMul,Int.reduceGE,Int.reduceGT,endO]
 refine And.intro (by decide) ?_
 refine retI ht0 _ rfl (of_decide_eq_true rfl) (by simp [SV.okN,SC.okL,SC.okN,ok1L]) ?_
 simp (maxSteps:=2000000) only [go_sem,↓reduceIte,Nat.reduceLT,Nat.reduceLeDiff,Nat.reduceAdd,Nat.reduceSub,Nat.reduceMul,Nat.reduceEqDiff,reduceCtorEq,Int.reduceToNat,Int.reduceEq,Int.reduceBEq,Int.reduceBNe,Int.reduceLT,Int.reduceLE,Int.reduceNeg,Int.reduceAdd,Int.reduceSub,Int.reduceMul,Int.reduceGE,Int.reduceGT,endO]
 exact ret_lt 6 4 [2,3] (fun b=>⟨by simp [clsTp,twS,clL,clT,SV.ren,ren1L,ren1,SC.renL,SC.ren,ltσ],by simp [clsTp,twS,SV.okN,ok1L,SC.okL,SC.okN,NewIds]⟩) rfl ⟨by decide,lt2 rfl rfl⟩ rfl ⟨by decide,lt2 rfl rfl⟩
  (lt2 ⟨2,_,rfl,by decide,lt2 rfl rfl⟩ ⟨2,_,rfl,by decide,lt2 rfl rfl⟩) ⟨by decide,by decide⟩
set_option maxRecDepth 100000 in
set_option maxHeartbeats 1000000 in
theorem pclassic_2 (w:World) (a:ByteArray) (h0:(a.toList == (⟨#[83,66]⟩:ByteArray).toList)=false) (h1:(a.toList == (⟨#[77,80]⟩:ByteArray).toList)=false) (h2:(a.toList == (⟨#[76,66]⟩:ByteArray).toList)=true):Calls Try.prog 34 #[.string a] w (RetN w 3 (clsTp (clL 2)) (fun b=>twO b (clL 2))):=by
 refine enter0 (A:=[]) (c:=ir34) (rs:=rs34) (nt:=nt34) [.c (.v (.string a))] #[.string a] Try.func34 rfl (by kernel_rfl) (by kernel_rfl) rfl (fun E'=>by simp [SV.den,SC.den]) (of_decide_eq_true rfl) ?_
 simp (maxSteps:=2000000) only [ir34,nt34,rs34,go_sem,↓reduceIte,Nat.reduceLT,Nat.reduceLeDiff,Nat.reduceAdd,Nat.reduceSub,Nat.reduceMul,Nat.reduceEqDiff,reduceCtorEq,Int.reduceToNat,Int.reduceEq,Int.reduceBEq,Int.reduceBNe,Int.reduceLT,Int.reduceLE,Int.reduceNeg,Int.reduceAdd,Int.reduceSub,Int.reduceMul,Int.reduceGE,Int.reduceGT,endO,h0,h1,h2]
 refine callV (.agg ((cLd 0 0).enc.map .v)) _ (fun E=>rfl) (fun E a w' hs=>pload_calls w' 0 0) ?_
 simp (maxSteps:=2000000) only [go_sem,↓reduceIte,Nat.reduceLT,Nat.reduceLeDiff,Nat.reduceAdd,Nat.reduceSub,Nat.reduceMul,Nat.reduceEqDiff,reduceCtorEq,Int.reduceToNat,Int.reduceEq,Int.reduceBEq,Int.reduceBNe,Int.reduceLT,Int.reduceLE,Int.reduceNeg,Int.reduceAdd,Int.reduceSub,Int.reduceMul,Int.reduceGE,Int.reduceGT,endO,cLd,Ins.enc]
 refine callV (.agg ((cSt 1 1).enc.map .v)) _ (fun E=>rfl) (fun E a w' hs=>pstore_calls w' 1 1) ?_
 simp (maxSteps:=2000000) only [go_sem,↓reduceIte,Nat.reduceLT,Nat.reduceLeDiff,Nat.reduceAdd,Nat.reduceSub,Nat.reduceMul,Nat.reduceEqDiff,reduceCtorEq,Int.reduceToNat,Int.reduceEq,Int.reduceBEq,Int.reduceBNe,Int.reduceLT,Int.reduceLE,Int.reduceNeg,Int.reduceAdd,Int.reduceSub,Int.reduceMul,Int.reduceGE,Int.reduceGT,endO,cSt,Ins.enc]
 refine And.intro (by decide) ?_
 refine callV (.agg ((cLd 0 1).enc.map .v)) _ (fun E=>rfl) (fun E a w' hs=>pload_calls w' 0 1) ?_
 simp (maxSteps:=2000000) only [go_sem,↓reduceIte,Nat.reduceLT,Nat.reduceLeDiff,Nat.reduceAdd,Nat.reduceSub,Nat.reduceMul,Nat.reduceEqDiff,reduceCtorEq,Int.reduceToNat,Int.reduceEq,Int.reduceBEq,Int.reduceBNe,Int.reduceLT,Int.reduceLE,Int.reduceNeg,Int.reduceAdd,Int.reduceSub,Int.reduceMul,Int.reduceGE,Int.reduceGT,endO,cLd,Ins.enc]
 refine callV (.agg ((cSt 0 1).enc.map .v)) _ (fun E=>rfl) (fun E a w' hs=>pstore_calls w' 0 1) ?_
 simp (maxSteps:=2000000) only [go_sem,↓reduceIte,Nat.reduceLT,Nat.reduceLeDiff,Nat.reduceAdd,Nat.reduceSub,Nat.reduceMul,Nat.reduceEqDiff,reduceCtorEq,Int.reduceToNat,Int.reduceEq,Int.reduceBEq,Int.reduceBNe,Int.reduceLT,Int.reduceLE,Int.reduceNeg,Int.reduceAdd,Int.reduceSub,Int.reduceMul,Int.reduceGE,Int.reduceGT,endO,cSt,Ins.enc]
 refine And.intro (by decide) ?_
 refine And.intro (by decide) ?_
 refine And.intro fnok_of ?_
 refine call_inline (c:=ir61) (rs:=rs61) (nt:=nt61) 1000 (mkTab_ok _ _) Try.func61 rfl (by kernel_rfl) (by kernel_rfl) rfl (by simp [okVs,SV.okN,SC.okL,SC.okN]) (of_decide_eq_true rfl) (fun E0 a0 ht0=>?_)
 simp (maxSteps:=2000000) only [ir61,nt61,rs61,go_sem,↓reduceIte,Nat.reduceLT,Nat.reduceLeDiff,Nat.reduceAdd,Nat.reduceSub,Nat.reduceMul,Nat.reduceEqDiff,reduceCtorEq,Int.reduceToNat,Int.reduceEq,Int.reduceBEq,Int.reduceBNe,Int.reduceLT,Int.reduceLE,Int.reduceNeg,Int.reduceAdd,Int.reduceSub,Int.reduceMul,Int.reduceGE,Int.reduceGT,endO]
 refine And.intro (by decide) ?_
 refine retI ht0 _ rfl (of_decide_eq_true rfl) (by simp [SV.okN,SC.okL,SC.okN,ok1L]) ?_
 simp (maxSteps:=2000000) only [go_sem,↓reduceIte,Nat.reduceLT,Nat.reduceLeDiff,Nat.reduceAdd,Nat.reduceSub,Nat.reduceMul,Nat.reduceEqDiff,reduceCtorEq,Int.reduceToNat,Int.reduceEq,Int.reduceBEq,Int.reduceBNe,Int.reduceLT,Int.reduceLE,Int.reduceNeg,Int.reduceAdd,Int.reduceSub,Int.reduceMul,Int.reduceGE,Int.reduceGT,endO]
 exact ret_lt 6 4 [2,3] (fun b=>⟨by simp [clsTp,twS,clL,clT,SV.ren,ren1L,ren1,SC.renL,SC.ren,ltσ],by simp [clsTp,twS,SV.okN,ok1L,SC.okL,SC.okN,NewIds]⟩) rfl ⟨by decide,lt2 rfl rfl⟩ rfl ⟨by decide,lt2 rfl rfl⟩
  (lt2 ⟨2,_,rfl,by decide,lt2 rfl rfl⟩ ⟨2,_,rfl,by decide,lt2 rfl rfl⟩) ⟨by decide,by decide⟩
set_option maxRecDepth 100000 in
set_option maxHeartbeats 1000000 in
theorem pclassic_3 (w:World) (a:ByteArray) (h0:(a.toList == (⟨#[83,66]⟩:ByteArray).toList)=false) (h1:(a.toList == (⟨#[77,80]⟩:ByteArray).toList)=false) (h2:(a.toList == (⟨#[76,66]⟩:ByteArray).toList)=false) (h3:(a.toList == (⟨#[73,82,73,87]⟩:ByteArray).toList)=true):Calls Try.prog 34 #[.string a] w (RetN w 3 (clsTp (clL 3)) (fun b=>twO b (clL 3))):=by
 refine enter0 (A:=[]) (c:=ir34) (rs:=rs34) (nt:=nt34) [.c (.v (.string a))] #[.string a] Try.func34 rfl (by kernel_rfl) (by kernel_rfl) rfl (fun E'=>by simp [SV.den,SC.den]) (of_decide_eq_true rfl) ?_
 simp (maxSteps:=2000000) only [ir34,nt34,rs34,go_sem,↓reduceIte,Nat.reduceLT,Nat.reduceLeDiff,Nat.reduceAdd,Nat.reduceSub,Nat.reduceMul,Nat.reduceEqDiff,reduceCtorEq,Int.reduceToNat,Int.reduceEq,Int.reduceBEq,Int.reduceBNe,Int.reduceLT,Int.reduceLE,Int.reduceNeg,Int.reduceAdd,Int.reduceSub,Int.reduceMul,Int.reduceGE,Int.reduceGT,endO,h0,h1,h2,h3]
 refine callV (.agg ((cSt 0 1).enc.map .v)) _ (fun E=>rfl) (fun E a w' hs=>pstore_calls w' 0 1) ?_
 simp (maxSteps:=2000000) only [go_sem,↓reduceIte,Nat.reduceLT,Nat.reduceLeDiff,Nat.reduceAdd,Nat.reduceSub,Nat.reduceMul,Nat.reduceEqDiff,reduceCtorEq,Int.reduceToNat,Int.reduceEq,Int.reduceBEq,Int.reduceBNe,Int.reduceLT,Int.reduceLE,Int.reduceNeg,Int.reduceAdd,Int.reduceSub,Int.reduceMul,Int.reduceGE,Int.reduceGT,endO,cSt,Ins.enc]
 refine And.intro (by decide) ?_
 refine callV (.agg ((cSt 1 1).enc.map .v)) _ (fun E=>rfl) (fun E a w' hs=>pstore_calls w' 1 1) ?_
 simp (maxSteps:=2000000) only [go_sem,↓reduceIte,Nat.reduceLT,Nat.reduceLeDiff,Nat.reduceAdd,Nat.reduceSub,Nat.reduceMul,Nat.reduceEqDiff,reduceCtorEq,Int.reduceToNat,Int.reduceEq,Int.reduceBEq,Int.reduceBNe,Int.reduceLT,Int.reduceLE,Int.reduceNeg,Int.reduceAdd,Int.reduceSub,Int.reduceMul,Int.reduceGE,Int.reduceGT,endO,cSt,Ins.enc]
 refine And.intro (by decide) ?_
 refine callV (.agg ((cLd 0 0).enc.map .v)) _ (fun E=>rfl) (fun E a w' hs=>pload_calls w' 0 0) ?_
 simp (maxSteps:=2000000) only [go_sem,↓reduceIte,Nat.reduceLT,Nat.reduceLeDiff,Nat.reduceAdd,Nat.reduceSub,Nat.reduceMul,Nat.reduceEqDiff,reduceCtorEq,Int.reduceToNat,Int.reduceEq,Int.reduceBEq,Int.reduceBNe,Int.reduceLT,Int.reduceLE,Int.reduceNeg,Int.reduceAdd,Int.reduceSub,Int.reduceMul,Int.reduceGE,Int.reduceGT,endO,cLd,Ins.enc]
 refine callV (.agg ((cLd 1 1).enc.map .v)) _ (fun E=>rfl) (fun E a w' hs=>pload_calls w' 1 1) ?_
 simp (maxSteps:=2000000) only [go_sem,↓reduceIte,Nat.reduceLT,Nat.reduceLeDiff,Nat.reduceAdd,Nat.reduceSub,Nat.reduceMul,Nat.reduceEqDiff,reduceCtorEq,Int.reduceToNat,Int.reduceEq,Int.reduceBEq,Int.reduceBNe,Int.reduceLT,Int.reduceLE,Int.reduceNeg,Int.reduceAdd,Int.reduceSub,Int.reduceMul,Int.reduceGE,Int.reduceGT,endO,cLd,Ins.enc]
 refine And.intro (by decide) ?_
 refine callV (.agg ((cLd 0 1).enc.map .v)) _ (fun E=>rfl) (fun E a w' hs=>pload_calls w' 0 1) ?_
 simp (maxSteps:=2000000) only [go_sem,↓reduceIte,Nat.reduceLT,Nat.reduceLeDiff,Nat.reduceAdd,Nat.reduceSub,Nat.reduceMul,Nat.reduceEqDiff,reduceCtorEq,Int.reduceToNat,Int.reduceEq,Int.reduceBEq,Int.reduceBNe,Int.reduceLT,Int.reduceLE,Int.reduceNeg,Int.reduceAdd,Int.reduceSub,Int.reduceMul,Int.reduceGE,Int.reduceGT,endO,cLd,Ins.enc]
 refine callV (.agg ((cLd 1 0).enc.map .v)) _ (fun E=>rfl) (fun E a w' hs=>pload_calls w' 1 0) ?_
 simp (maxSteps:=2000000) only [go_sem,↓reduceIte,Nat.reduceLT,Nat.reduceLeDiff,Nat.reduceAdd,Nat.reduceSub,Nat.reduceMul,Nat.reduceEqDiff,reduceCtorEq,Int.reduceToNat,Int.reduceEq,Int.reduceBEq,Int.reduceBNe,Int.reduceLT,Int.reduceLE,Int.reduceNeg,Int.reduceAdd,Int.reduceSub,Int.reduceMul,Int.reduceGE,Int.reduceGT,endO,cLd,Ins.enc]
 refine And.intro (by decide) ?_
 refine And.intro (by decide) ?_
 refine And.intro fnok_of ?_
 refine call_inline (c:=ir61) (rs:=rs61) (nt:=nt61) 1000 (mkTab_ok _ _) Try.func61 rfl (by kernel_rfl) (by kernel_rfl) rfl (by simp [okVs,SV.okN,SC.okL,SC.okN]) (of_decide_eq_true rfl) (fun E0 a0 ht0=>?_)
 simp (maxSteps:=2000000) only [ir61,nt61,rs61,go_sem,↓reduceIte,Nat.reduceLT,Nat.reduceLeDiff,Nat.reduceAdd,Nat.reduceSub,Nat.reduceMul,Nat.reduceEqDiff,reduceCtorEq,Int.reduceToNat,Int.reduceEq,Int.reduceBEq,Int.reduceBNe,Int.reduceLT,Int.reduceLE,Int.reduceNeg,Int.reduceAdd,Int.reduceSub,Int.reduceMul,Int.reduceGE,Int.reduceGT,endO]
 refine And.intro (by decide) ?_
 refine retI ht0 _ rfl (of_decide_eq_true rfl) (by simp [SV.okN,SC.okL,SC.okN,ok1L]) ?_
 simp (maxSteps:=2000000) only [go_sem,↓reduceIte,Nat.reduceLT,Nat.reduceLeDiff,Nat.reduceAdd,Nat.reduceSub,Nat.reduceMul,Nat.reduceEqDiff,reduceCtorEq,Int.reduceToNat,Int.reduceEq,Int.reduceBEq,Int.reduceBNe,Int.reduceLT,Int.reduceLE,Int.reduceNeg,Int.reduceAdd,Int.reduceSub,Int.reduceMul,Int.reduceGE,Int.reduceGT,endO]
 exact ret_lt 8 6 [2,3,4,5] (fun b=>⟨by simp [clsTp,twS,clL,clT,SV.ren,ren1L,ren1,SC.renL,SC.ren,ltσ],by simp [clsTp,twS,SV.okN,ok1L,SC.okL,SC.okN,NewIds]⟩) rfl ⟨by decide,lt2 rfl rfl⟩ rfl ⟨by decide,lt4 rfl rfl rfl rfl⟩
  (lt4 ⟨1,_,rfl,by decide,lt1 rfl⟩ ⟨1,_,rfl,by decide,lt1 rfl⟩ ⟨2,_,rfl,by decide,lt2 rfl rfl⟩ ⟨2,_,rfl,by decide,lt2 rfl rfl⟩) ⟨by decide,by decide⟩
set_option maxRecDepth 100000 in
set_option maxHeartbeats 1000000 in
theorem pclassic_4 (w:World) (a:ByteArray) (h0:(a.toList == (⟨#[83,66]⟩:ByteArray).toList)=false) (h1:(a.toList == (⟨#[77,80]⟩:ByteArray).toList)=false) (h2:(a.toList == (⟨#[76,66]⟩:ByteArray).toList)=false) (h3:(a.toList == (⟨#[73,82,73,87]⟩:ByteArray).toList)=false) (h4:(a.toList == (⟨#[82]⟩:ByteArray).toList)=true):Calls Try.prog 34 #[.string a] w (RetN w 3 (clsTp (clL 4)) (fun b=>twO b (clL 4))):=by
 refine enter0 (A:=[]) (c:=ir34) (rs:=rs34) (nt:=nt34) [.c (.v (.string a))] #[.string a] Try.func34 rfl (by kernel_rfl) (by kernel_rfl) rfl (fun E'=>by simp [SV.den,SC.den]) (of_decide_eq_true rfl) ?_
 simp (maxSteps:=2000000) only [ir34,nt34,rs34,go_sem,↓reduceIte,Nat.reduceLT,Nat.reduceLeDiff,Nat.reduceAdd,Nat.reduceSub,Nat.reduceMul,Nat.reduceEqDiff,reduceCtorEq,Int.reduceToNat,Int.reduceEq,Int.reduceBEq,Int.reduceBNe,Int.reduceLT,Int.reduceLE,Int.reduceNeg,Int.reduceAdd,Int.reduceSub,Int.reduceMul,Int.reduceGE,Int.reduceGT,endO,h0,h1,h2,h3,h4]
 refine callV (.agg ((cSt 0 1).enc.map .v)) _ (fun E=>rfl) (fun E a w' hs=>pstore_calls w' 0 1) ?_
 simp (maxSteps:=2000000) only [go_sem,↓reduceIte,Nat.reduceLT,Nat.reduceLeDiff,Nat.reduceAdd,Nat.reduceSub,Nat.reduceMul,Nat.reduceEqDiff,reduceCtorEq,Int.reduceToNat,Int.reduceEq,Int.reduceBEq,Int.reduceBNe,Int.reduceLT,Int.reduceLE,Int.reduceNeg,Int.reduceAdd,Int.reduceSub,Int.reduceMul,Int.reduceGE,Int.reduceGT,endO,cSt,Ins.enc]
 refine callV (.agg ((cSt 1 1).enc.map .v)) _ (fun E=>rfl) (fun E a w' hs=>pstore_calls w' 1 1) ?_
 simp (maxSteps:=2000000) only [go_sem,↓reduceIte,Nat.reduceLT,Nat.reduceLeDiff,Nat.reduceAdd,Nat.reduceSub,Nat.reduceMul,Nat.reduceEqDiff,reduceCtorEq,Int.reduceToNat,Int.reduceEq,Int.reduceBEq,Int.reduceBNe,Int.reduceLT,Int.reduceLE,Int.reduceNeg,Int.reduceAdd,Int.reduceSub,Int.reduceMul,Int.reduceGE,Int.reduceGT,endO,cSt,Ins.enc]
 refine And.intro (by decide) ?_
 refine callV (.agg ((cSt 1 2).enc.map .v)) _ (fun E=>rfl) (fun E a w' hs=>pstore_calls w' 1 2) ?_
 simp (maxSteps:=2000000) only [go_sem,↓reduceIte,Nat.reduceLT,Nat.reduceLeDiff,Nat.reduceAdd,Nat.reduceSub,Nat.reduceMul,Nat.reduceEqDiff,reduceCtorEq,Int.reduceToNat,Int.reduceEq,Int.reduceBEq,Int.reduceBNe,Int.reduceLT,Int.reduceLE,Int.reduceNeg,Int.reduceAdd,Int.reduceSub,Int.reduceMul,Int.reduceGE,Int.reduceGT,endO,cSt,Ins.enc]
 refine callV (.agg ((cLd 0 0).enc.map .v)) _ (fun E=>rfl) (fun E a w' hs=>pload_calls w' 0 0) ?_
 simp (maxSteps:=2000000) only [go_sem,↓reduceIte,Nat.reduceLT,Nat.reduceLeDiff,Nat.reduceAdd,Nat.reduceSub,Nat.reduceMul,Nat.reduceEqDiff,reduceCtorEq,Int.reduceToNat,Int.reduceEq,Int.reduceBEq,Int.reduceBNe,Int.reduceLT,Int.reduceLE,Int.reduceNeg,Int.reduceAdd,Int.reduceSub,Int.reduceMul,Int.reduceGE,Int.reduceGT,endO,cLd,Ins.enc]
 refine And.intro (by decide) ?_
 refine And.intro (by decide) ?_
 refine And.intro fnok_of ?_
 refine call_inline (c:=ir61) (rs:=rs61) (nt:=nt61) 1000 (mkTab_ok _ _) Try.func61 rfl (by kernel_rfl) (by kernel_rfl) rfl (by simp [okVs,SV.okN,SC.okL,SC.okN]) (of_decide_eq_true rfl) (fun E0 a0 ht0=>?_)
 simp (maxSteps:=2000000) only [ir61,nt61,rs61,go_sem,↓reduceIte,Nat.reduceLT,Nat.reduceLeDiff,Nat.reduceAdd,Nat.reduceSub,Nat.reduceMul,Nat.reduceEqDiff,reduceCtorEq,Int.reduceToNat,Int.reduceEq,Int.reduceBEq,Int.reduceBNe,Int.reduceLT,Int.reduceLE,Int.reduceNeg,Int.reduceAdd,Int.reduceSub,Int.reduceMul,Int.reduceGE,Int.reduceGT,endO]
 refine And.intro (by decide) ?_
 refine retI ht0 _ rfl (of_decide_eq_true rfl) (by simp [SV.okN,SC.okL,SC.okN,ok1L]) ?_
 simp (maxSteps:=2000000) only [go_sem,↓reduceIte,Nat.reduceLT,Nat.reduceLeDiff,Nat.reduceAdd,Nat.reduceSub,Nat.reduceMul,Nat.reduceEqDiff,reduceCtorEq,Int.reduceToNat,Int.reduceEq,Int.reduceBEq,Int.reduceBNe,Int.reduceLT,Int.reduceLE,Int.reduceNeg,Int.reduceAdd,Int.reduceSub,Int.reduceMul,Int.reduceGE,Int.reduceGT,endO]
 exact ret_lt 6 4 [2,3] (fun b=>⟨by simp [clsTp,twS,clL,clT,SV.ren,ren1L,ren1,SC.renL,SC.ren,ltσ],by simp [clsTp,twS,SV.okN,ok1L,SC.okL,SC.okN,NewIds]⟩) rfl ⟨by decide,lt2 rfl rfl⟩ rfl ⟨by decide,lt2 rfl rfl⟩
  (lt2 ⟨2,_,rfl,by decide,lt2 rfl rfl⟩ ⟨2,_,rfl,by decide,lt2 rfl rfl⟩) ⟨by decide,by decide⟩
set_option maxRecDepth 100000 in
set_option maxHeartbeats 1000000 in
theorem pclassic_5 (w:World) (a:ByteArray) (h0:(a.toList == (⟨#[83,66]⟩:ByteArray).toList)=false) (h1:(a.toList == (⟨#[77,80]⟩:ByteArray).toList)=false) (h2:(a.toList == (⟨#[76,66]⟩:ByteArray).toList)=false) (h3:(a.toList == (⟨#[73,82,73,87]⟩:ByteArray).toList)=false) (h4:(a.toList == (⟨#[82]⟩:ByteArray).toList)=false) (h5:(a.toList == (⟨#[83]⟩:ByteArray).toList)=true):Calls Try.prog 34 #[.string a] w (RetN w 3 (clsTp (clL 5)) (fun b=>twO b (clL 5))):=by
 refine enter0 (A:=[]) (c:=ir34) (rs:=rs34) (nt:=nt34) [.c (.v (.string a))] #[.string a] Try.func34 rfl (by kernel_rfl) (by kernel_rfl) rfl (fun E'=>by simp [SV.den,SC.den]) (of_decide_eq_true rfl) ?_
 simp (maxSteps:=2000000) only [ir34,nt34,rs34,go_sem,↓reduceIte,Nat.reduceLT,Nat.reduceLeDiff,Nat.reduceAdd,Nat.reduceSub,Nat.reduceMul,Nat.reduceEqDiff,reduceCtorEq,Int.reduceToNat,Int.reduceEq,Int.reduceBEq,Int.reduceBNe,Int.reduceLT,Int.reduceLE,Int.reduceNeg,Int.reduceAdd,Int.reduceSub,Int.reduceMul,Int.reduceGE,Int.reduceGT,endO,h0,h1,h2,h3,h4,h5]
 refine callV (.agg ((cSt 0 2).enc.map .v)) _ (fun E=>rfl) (fun E a w' hs=>pstore_calls w' 0 2) ?_
 simp (maxSteps:=2000000) only [go_sem,↓reduceIte,Nat.reduceLT,Nat.reduceLeDiff,Nat.reduceAdd,Nat.reduceSub,Nat.reduceMul,Nat.reduceEqDiff,reduceCtorEq,Int.reduceToNat,Int.reduceEq,Int.reduceBEq,Int.reduceBNe,Int.reduceLT,Int.reduceLE,Int.reduceNeg,Int.reduceAdd,Int.reduceSub,Int.reduceMul,Int.reduceGE,Int.reduceGT,endO,cSt,Ins.enc]
 refine callV (.agg ((cSt 1 1).enc.map .v)) _ (fun E=>rfl) (fun E a w' hs=>pstore_calls w' 1 1) ?_
 simp (maxSteps:=2000000) only [go_sem,↓reduceIte,Nat.reduceLT,Nat.reduceLeDiff,Nat.reduceAdd,Nat.reduceSub,Nat.reduceMul,Nat.reduceEqDiff,reduceCtorEq,Int.reduceToNat,Int.reduceEq,Int.reduceBEq,Int.reduceBNe,Int.reduceLT,Int.reduceLE,Int.reduceNeg,Int.reduceAdd,Int.reduceSub,Int.reduceMul,Int.reduceGE,Int.reduceGT,endO,cSt,Ins.enc]
 refine And.intro (by decide) ?_
 refine callV (.agg ((cLd 0 1).enc.map .v)) _ (fun E=>rfl) (fun E a w' hs=>pload_calls w' 0 1) ?_
 simp (maxSteps:=2000000) only [go_sem,↓reduceIte,Nat.reduceLT,Nat.reduceLeDiff,Nat.reduceAdd,Nat.reduceSub,Nat.reduceMul,Nat.reduceEqDiff,reduceCtorEq,Int.reduceToNat,Int.reduceEq,Int.reduceBEq,Int.reduceBNe,Int.reduceLT,Int.reduceLE,Int.reduceNeg,Int.reduceAdd,Int.reduceSub,Int.reduceMul,Int.reduceGE,Int.reduceGT,endO,cLd,Ins.enc]
 refine callV (.agg ((cSt 0 1).enc.map .v)) _ (fun E=>rfl) (fun E a w' hs=>pstore_calls w' 0 1) ?_
 simp (maxSteps:=2000000) only [go_sem,↓reduceIte,Nat.reduceLT,Nat.reduceLeDiff,Nat.reduceAdd,Nat.reduceSub,Nat.reduceMul,Nat.reduceEqDiff,reduceCtorEq,Int.reduceToNat,Int.reduceEq,Int.reduceBEq,Int.reduceBNe,Int.reduceLT,Int.reduceLE,Int.reduceNeg,Int.reduceAdd,Int.reduceSub,Int.reduceMul,Int.reduceGE,Int.reduceGT,endO,cSt,Ins.enc]
 refine And.intro (by decide) ?_
 refine And.intro (by decide) ?_
 refine And.intro fnok_of ?_
 refine call_inline (c:=ir61) (rs:=rs61) (nt:=nt61) 1000 (mkTab_ok _ _) Try.func61 rfl (by kernel_rfl) (by kernel_rfl) rfl (by simp [okVs,SV.okN,SC.okL,SC.okN]) (of_decide_eq_true rfl) (fun E0 a0 ht0=>?_)
 simp (maxSteps:=2000000) only [ir61,nt61,rs61,go_sem,↓reduceIte,Nat.reduceLT,Nat.reduceLeDiff,Nat.reduceAdd,Nat.reduceSub,Nat.reduceMul,Nat.reduceEqDiff,reduceCtorEq,Int.reduceToNat,Int.reduceEq,Int.reduceBEq,Int.reduceBNe,Int.reduceLT,Int.reduceLE,Int.reduceNeg,Int.reduceAdd,Int.reduceSub,Int.reduceMul,Int.reduceGE,Int.reduceGT,endO]
 refine And.intro (by decide) ?_
 refine retI ht0 _ rfl (of_decide_eq_true rfl) (by simp [SV.okN,SC.okL,SC.okN,ok1L]) ?_
 simp (maxSteps:=2000000) only [go_sem,↓reduceIte,Nat.reduceLT,Nat.reduceLeDiff,Nat.reduceAdd,Nat.reduceSub,Nat.reduceMul,Nat.reduceEqDiff,reduceCtorEq,Int.reduceToNat,Int.reduceEq,Int.reduceBEq,Int.reduceBNe,Int.reduceLT,Int.reduceLE,Int.reduceNeg,Int.reduceAdd,Int.reduceSub,Int.reduceMul,Int.reduceGE,Int.reduceGT,endO]
 exact ret_lt 6 4 [2,3] (fun b=>⟨by simp [clsTp,twS,clL,clT,SV.ren,ren1L,ren1,SC.renL,SC.ren,ltσ],by simp [clsTp,twS,SV.okN,ok1L,SC.okL,SC.okN,NewIds]⟩) rfl ⟨by decide,lt2 rfl rfl⟩ rfl ⟨by decide,lt2 rfl rfl⟩
  (lt2 ⟨2,_,rfl,by decide,lt2 rfl rfl⟩ ⟨2,_,rfl,by decide,lt2 rfl rfl⟩) ⟨by decide,by decide⟩
set_option maxRecDepth 100000 in
set_option maxHeartbeats 1000000 in
theorem pclassic_6 (w:World) (a:ByteArray) (h0:(a.toList == (⟨#[83,66]⟩:ByteArray).toList)=false) (h1:(a.toList == (⟨#[77,80]⟩:ByteArray).toList)=false) (h2:(a.toList == (⟨#[76,66]⟩:ByteArray).toList)=false) (h3:(a.toList == (⟨#[73,82,73,87]⟩:ByteArray).toList)=false) (h4:(a.toList == (⟨#[82]⟩:ByteArray).toList)=false) (h5:(a.toList == (⟨#[83]⟩:ByteArray).toList)=false) (h6:(a.toList == (⟨#[50,43,50,87]⟩:ByteArray).toList)=true):Calls Try.prog 34 #[.string a] w (RetN w 3 (clsTp (clL 6)) (fun b=>twO b (clL 6))):=by
 refine enter0 (A:=[]) (c:=ir34) (rs:=rs34) (nt:=nt34) [.c (.v (.string a))] #[.string a] Try.func34 rfl (by kernel_rfl) (by kernel_rfl) rfl (fun E'=>by simp [SV.den,SC.den]) (of_decide_eq_true rfl) ?_
 simp (maxSteps:=2000000) only [ir34,nt34,rs34,go_sem,↓reduceIte,Nat.reduceLT,Nat.reduceLeDiff,Nat.reduceAdd,Nat.reduceSub,Nat.reduceMul,Nat.reduceEqDiff,reduceCtorEq,Int.reduceToNat,Int.reduceEq,Int.reduceBEq,Int.reduceBNe,Int.reduceLT,Int.reduceLE,Int.reduceNeg,Int.reduceAdd,Int.reduceSub,Int.reduceMul,Int.reduceGE,Int.reduceGT,endO,h0,h1,h2,h3,h4,h5,h6]
 refine callV (.agg ((cSt 0 1).enc.map .v)) _ (fun E=>rfl) (fun E a w' hs=>pstore_calls w' 0 1) ?_
 simp (maxSteps:=2000000) only [go_sem,↓reduceIte,Nat.reduceLT,Nat.reduceLeDiff,Nat.reduceAdd,Nat.reduceSub,Nat.reduceMul,Nat.reduceEqDiff,reduceCtorEq,Int.reduceToNat,Int.reduceEq,Int.reduceBEq,Int.reduceBNe,Int.reduceLT,Int.reduceLE,Int.reduceNeg,Int.reduceAdd,Int.reduceSub,Int.reduceMul,Int.reduceGE,Int.reduceGT,endO,cSt,Ins.enc]
 refine callV (.agg ((cSt 1 2).enc.map .v)) _ (fun E=>rfl) (fun E a w' hs=>pstore_calls w' 1 2) ?_
 simp (maxSteps:=2000000) only [go_sem,↓reduceIte,Nat.reduceLT,Nat.reduceLeDiff,Nat.reduceAdd,Nat.reduceSub,Nat.reduceMul,Nat.reduceEqDiff,reduceCtorEq,Int.reduceToNat,Int.reduceEq,Int.reduceBEq,Int.reduceBNe,Int.reduceLT,Int.reduceLE,Int.reduceNeg,Int.reduceAdd,Int.reduceSub,Int.reduceMul,Int.reduceGE,Int.reduceGT,endO,cSt,Ins.enc]
 refine And.intro (by decide) ?_
 refine callV (.agg ((cSt 1 1).enc.map .v)) _ (fun E=>rfl) (fun E a w' hs=>pstore_calls w' 1 1) ?_
 simp (maxSteps:=2000000) only [go_sem,↓reduceIte,Nat.reduceLT,Nat.reduceLeDiff,Nat.reduceAdd,Nat.reduceSub,Nat.reduceMul,Nat.reduceEqDiff,reduceCtorEq,Int.reduceToNat,Int.reduceEq,Int.reduceBEq,Int.reduceBNe,Int.reduceLT,Int.reduceLE,Int.reduceNeg,Int.reduceAdd,Int.reduceSub,Int.reduceMul,Int.reduceGE,Int.reduceGT,endO,cSt,Ins.enc]
 refine callV (.agg ((cSt 0 2).enc.map .v)) _ (fun E=>rfl) (fun E a w' hs=>pstore_calls w' 0 2) ?_
 simp (maxSteps:=2000000) only [go_sem,↓reduceIte,Nat.reduceLT,Nat.reduceLeDiff,Nat.reduceAdd,Nat.reduceSub,Nat.reduceMul,Nat.reduceEqDiff,reduceCtorEq,Int.reduceToNat,Int.reduceEq,Int.reduceBEq,Int.reduceBNe,Int.reduceLT,Int.reduceLE,Int.reduceNeg,Int.reduceAdd,Int.reduceSub,Int.reduceMul,Int.reduceGE,Int.reduceGT,endO,cSt,Ins.enc]
 refine And.intro (by decide) ?_
 refine And.intro (by decide) ?_
 refine And.intro fnok_of ?_
 refine call_inline (c:=ir61) (rs:=rs61) (nt:=nt61) 1000 (mkTab_ok _ _) Try.func61 rfl (by kernel_rfl) (by kernel_rfl) rfl (by simp [okVs,SV.okN,SC.okL,SC.okN]) (of_decide_eq_true rfl) (fun E0 a0 ht0=>?_)
 simp (maxSteps:=2000000) only [ir61,nt61,rs61,go_sem,↓reduceIte,Nat.reduceLT,Nat.reduceLeDiff,Nat.reduceAdd,Nat.reduceSub,Nat.reduceMul,Nat.reduceEqDiff,reduceCtorEq,Int.reduceToNat,Int.reduceEq,Int.reduceBEq,Int.reduceBNe,Int.reduceLT,Int.reduceLE,Int.reduceNeg,Int.reduceAdd,Int.reduceSub,Int.reduceMul,Int.reduceGE,Int.reduceGT,endO]
 refine And.intro (by decide) ?_
 refine retI ht0 _ rfl (of_decide_eq_true rfl) (by simp [SV.okN,SC.okL,SC.okN,ok1L]) ?_
 simp (maxSteps:=2000000) only [go_sem,↓reduceIte,Nat.reduceLT,Nat.reduceLeDiff,Nat.reduceAdd,Nat.reduceSub,Nat.reduceMul,Nat.reduceEqDiff,reduceCtorEq,Int.reduceToNat,Int.reduceEq,Int.reduceBEq,Int.reduceBNe,Int.reduceLT,Int.reduceLE,Int.reduceNeg,Int.reduceAdd,Int.reduceSub,Int.reduceMul,Int.reduceGE,Int.reduceGT,endO]
 exact ret_lt 6 4 [2,3] (fun b=>⟨by simp [clsTp,twS,clL,clT,SV.ren,ren1L,ren1,SC.renL,SC.ren,ltσ],by simp [clsTp,twS,SV.okN,ok1L,SC.okL,SC.okN,NewIds]⟩) rfl ⟨by decide,lt2 rfl rfl⟩ rfl ⟨by decide,lt2 rfl rfl⟩
  (lt2 ⟨2,_,rfl,by decide,lt2 rfl rfl⟩ ⟨2,_,rfl,by decide,lt2 rfl rfl⟩) ⟨by decide,by decide⟩
set_option maxRecDepth 100000 in
set_option maxHeartbeats 1000000 in
theorem pclassic_7 (w:World) (a:ByteArray) (h0:(a.toList == (⟨#[83,66]⟩:ByteArray).toList)=false) (h1:(a.toList == (⟨#[77,80]⟩:ByteArray).toList)=false) (h2:(a.toList == (⟨#[76,66]⟩:ByteArray).toList)=false) (h3:(a.toList == (⟨#[73,82,73,87]⟩:ByteArray).toList)=false) (h4:(a.toList == (⟨#[82]⟩:ByteArray).toList)=false) (h5:(a.toList == (⟨#[83]⟩:ByteArray).toList)=false) (h6:(a.toList == (⟨#[50,43,50,87]⟩:ByteArray).toList)=false) (h7:(a.toList == (⟨#[83,66,43,102,101,110,99,101]⟩:ByteArray).toList)=true):Calls Try.prog 34 #[.string a] w (RetN w 3 (clsTp (clL 7)) (fun b=>twO b (clL 7))):=by
 refine enter0 (A:=[]) (c:=ir34) (rs:=rs34) (nt:=nt34) [.c (.v (.string a))] #[.string a] Try.func34 rfl (by kernel_rfl) (by kernel_rfl) rfl (fun E'=>by simp [SV.den,SC.den]) (of_decide_eq_true rfl) ?_
 simp (maxSteps:=2000000) only [ir34,nt34,rs34,go_sem,↓reduceIte,Nat.reduceLT,Nat.reduceLeDiff,Nat.reduceAdd,Nat.reduceSub,Nat.reduceMul,Nat.reduceEqDiff,reduceCtorEq,Int.reduceToNat,Int.reduceEq,Int.reduceBEq,Int.reduceBNe,Int.reduceLT,Int.reduceLE,Int.reduceNeg,Int.reduceAdd,Int.reduceSub,Int.reduceMul,Int.reduceGE,Int.reduceGT,endO,h0,h1,h2,h3,h4,h5,h6,h7]
 refine draw_vc (by kernel_rfl) (mkTab_ok _ _) (of_decide_eq_true rfl) (of_decide_eq_true rfl) ?_
 repeat (first | simp (maxSteps:=2000000) only [go_sem,↓reduceIte,Nat.reduceLT,Nat.reduceLeDiff,Nat.reduceAdd,Nat.reduceSub,Nat.reduceMul,Nat.reduceEqDiff,reduceCtorEq,Int.reduceToNat,Int.reduceEq,Int.reduceBEq,Int.reduceBNe,Int.reduceLT,Int.reduceLE,Int.reduceNeg,Int.reduceAdd,Int.reduceSub,Int.reduceMul,Int.reduceGE,Int.reduceGT,endO] | rw [dr_cons])
 refine dcallV (.agg ((cSt 0 1).enc.map .v)) _ (fun E=>rfl) (fun E a w' hs=>pstore_calls w' 0 1) ?_
 repeat (first | simp (maxSteps:=2000000) only [go_sem,↓reduceIte,Nat.reduceLT,Nat.reduceLeDiff,Nat.reduceAdd,Nat.reduceSub,Nat.reduceMul,Nat.reduceEqDiff,reduceCtorEq,Int.reduceToNat,Int.reduceEq,Int.reduceBEq,Int.reduceBNe,Int.reduceLT,Int.reduceLE,Int.reduceNeg,Int.reduceAdd,Int.reduceSub,Int.reduceMul,Int.reduceGE,Int.reduceGT,endO,cSt,Ins.enc] | rw [dr_cons])
 refine dcallV (.agg ((cLd 0 1).enc.map .v)) _ (fun E=>rfl) (fun E a w' hs=>pload_calls w' 0 1) ?_
 repeat (first | simp (maxSteps:=2000000) only [go_sem,↓reduceIte,Nat.reduceLT,Nat.reduceLeDiff,Nat.reduceAdd,Nat.reduceSub,Nat.reduceMul,Nat.reduceEqDiff,reduceCtorEq,Int.reduceToNat,Int.reduceEq,Int.reduceBEq,Int.reduceBNe,Int.reduceLT,Int.reduceLE,Int.reduceNeg,Int.reduceAdd,Int.reduceSub,Int.reduceMul,Int.reduceGE,Int.reduceGT,endO,cLd,Ins.enc] | rw [dr_cons])
 refine And.intro (by decide) (And.intro (by decide) ?_)
 refine dcallV (.agg ((cSt 1 1).enc.map .v)) _ (fun E=>rfl) (fun E a w' hs=>pstore_calls w' 1 1) ?_
 repeat (first | simp (maxSteps:=2000000) only [go_sem,↓reduceIte,Nat.reduceLT,Nat.reduceLeDiff,Nat.reduceAdd,Nat.reduceSub,Nat.reduceMul,Nat.reduceEqDiff,reduceCtorEq,Int.reduceToNat,Int.reduceEq,Int.reduceBEq,Int.reduceBNe,Int.reduceLT,Int.reduceLE,Int.reduceNeg,Int.reduceAdd,Int.reduceSub,Int.reduceMul,Int.reduceGE,Int.reduceGT,endO,cSt,Ins.enc] | rw [dr_cons])
 refine dcallV (.agg ((cLd 0 0).enc.map .v)) _ (fun E=>rfl) (fun E a w' hs=>pload_calls w' 0 0) ?_
 repeat (first | simp (maxSteps:=2000000) only [go_sem,↓reduceIte,Nat.reduceLT,Nat.reduceLeDiff,Nat.reduceAdd,Nat.reduceSub,Nat.reduceMul,Nat.reduceEqDiff,reduceCtorEq,Int.reduceToNat,Int.reduceEq,Int.reduceBEq,Int.reduceBNe,Int.reduceLT,Int.reduceLE,Int.reduceNeg,Int.reduceAdd,Int.reduceSub,Int.reduceMul,Int.reduceGE,Int.reduceGT,endO,cLd,Ins.enc] | rw [dr_cons])
 refine And.intro (by decide) (And.intro (by decide) ?_)
 refine And.intro (by decide) (And.intro (by decide) ?_)
 refine And.intro fnok_of ?_
 refine dcall_intro (of_cr (t:=101) rfl) rfl (by simp [newOk,ofO,keysL]) (by simp [wrOk,ofO,keysL]) (fun k hk h=>by simp only [ofO,keysL,List.map_cons,List.map_nil,List.mem_singleton] at hk;subst hk;exact absurd h (Nat.lt_irrefl _)) ?_
 repeat (first | simp (maxSteps:=2000000) only [go_sem,↓reduceIte,Nat.reduceLT,Nat.reduceLeDiff,Nat.reduceAdd,Nat.reduceSub,Nat.reduceMul,Nat.reduceEqDiff,reduceCtorEq,Int.reduceToNat,Int.reduceEq,Int.reduceBEq,Int.reduceBNe,Int.reduceLT,Int.reduceLE,Int.reduceNeg,Int.reduceAdd,Int.reduceSub,Int.reduceMul,Int.reduceGE,Int.reduceGT,endO,ofO] | rw [dr_cons])
 refine And.intro (by decide) ?_
 exact ret_lt 5 4 [2,3] (fun b=>⟨by simp [clsTp,twS,clL,clT,SV.ren,ren1L,ren1,SC.renL,SC.ren,ltσ],by simp [clsTp,twS,SV.okN,ok1L,SC.okL,SC.okN,NewIds]⟩) rfl ⟨by decide,lt2 rfl rfl⟩ rfl ⟨by decide,lt2 rfl rfl⟩
  (lt2 ⟨3,_,rfl,by decide,lt3 rfl rfl rfl⟩ ⟨3,_,rfl,by decide,lt3 rfl rfl rfl⟩) ⟨by decide,by decide⟩
set_option maxRecDepth 100000 in
set_option maxHeartbeats 1000000 in
theorem pclassic_8 (w:World) (a:ByteArray) (h0:(a.toList == (⟨#[83,66]⟩:ByteArray).toList)=false) (h1:(a.toList == (⟨#[77,80]⟩:ByteArray).toList)=false) (h2:(a.toList == (⟨#[76,66]⟩:ByteArray).toList)=false) (h3:(a.toList == (⟨#[73,82,73,87]⟩:ByteArray).toList)=false) (h4:(a.toList == (⟨#[82]⟩:ByteArray).toList)=false) (h5:(a.toList == (⟨#[83]⟩:ByteArray).toList)=false) (h6:(a.toList == (⟨#[50,43,50,87]⟩:ByteArray).toList)=false) (h7:(a.toList == (⟨#[83,66,43,102,101,110,99,101]⟩:ByteArray).toList)=false) (h8:(a.toList == (⟨#[112,114,111,116,101,99,116]⟩:ByteArray).toList)=true):Calls Try.prog 34 #[.string a] w (RetN w 3 (clsTp (clL 8)) (fun b=>twO b (clL 8))):=by
 refine enter0 (A:=[]) (c:=ir34) (rs:=rs34) (nt:=nt34) [.c (.v (.string a))] #[.string a] Try.func34 rfl (by kernel_rfl) (by kernel_rfl) rfl (fun E'=>by simp [SV.den,SC.den]) (of_decide_eq_true rfl) ?_
 simp (maxSteps:=2000000) only [ir34,nt34,rs34,go_sem,↓reduceIte,Nat.reduceLT,Nat.reduceLeDiff,Nat.reduceAdd,Nat.reduceSub,Nat.reduceMul,Nat.reduceEqDiff,reduceCtorEq,Int.reduceToNat,Int.reduceEq,Int.reduceBEq,Int.reduceBNe,Int.reduceLT,Int.reduceLE,Int.reduceNeg,Int.reduceAdd,Int.reduceSub,Int.reduceMul,Int.reduceGE,Int.reduceGT,endO,h0,h1,h2,h3,h4,h5,h6,h7,h8]
 refine callV (.agg ((cSt 1 1).enc.map .v)) _ (fun E=>rfl) (fun E a w' hs=>pstore_calls w' 1 1) ?_
 simp (maxSteps:=2000000) only [go_sem,↓reduceIte,Nat.reduceLT,Nat.reduceLeDiff,Nat.reduceAdd,Nat.reduceSub,Nat.reduceMul,Nat.reduceEqDiff,reduceCtorEq,Int.reduceToNat,Int.reduceEq,Int.reduceBEq,Int.reduceBNe,Int.reduceLT,Int.reduceLE,Int.reduceNeg,Int.reduceAdd,Int.reduceSub,Int.reduceMul,Int.reduceGE,Int.reduceGT,endO,cSt,Ins.enc]
 refine And.intro (by decide) ?_
 refine And.intro fnok_pr ?_
 refine call_inline (c:=ir62) (rs:=rs62) (nt:=nt62) 1000 (mkTab_ok _ _) Try.func62 rfl (by kernel_rfl) (by kernel_rfl) rfl (by simp [okVs,SV.okN,SC.okL,SC.okN]) (of_decide_eq_true rfl) (fun E0 a0 ht0=>?_)
 simp (maxSteps:=2000000) only [ir62,nt62,rs62,go_sem,↓reduceIte,Nat.reduceLT,Nat.reduceLeDiff,Nat.reduceAdd,Nat.reduceSub,Nat.reduceMul,Nat.reduceEqDiff,reduceCtorEq,Int.reduceToNat,Int.reduceEq,Int.reduceBEq,Int.reduceBNe,Int.reduceLT,Int.reduceLE,Int.reduceNeg,Int.reduceAdd,Int.reduceSub,Int.reduceMul,Int.reduceGE,Int.reduceGT,endO]
 refine callV (.agg ((cLd 0 0).enc.map .v)) _ (fun E=>rfl) (fun E a w' hs=>pload_calls w' 0 0) ?_
 simp (maxSteps:=2000000) only [go_sem,↓reduceIte,Nat.reduceLT,Nat.reduceLeDiff,Nat.reduceAdd,Nat.reduceSub,Nat.reduceMul,Nat.reduceEqDiff,reduceCtorEq,Int.reduceToNat,Int.reduceEq,Int.reduceBEq,Int.reduceBNe,Int.reduceLT,Int.reduceLE,Int.reduceNeg,Int.reduceAdd,Int.reduceSub,Int.reduceMul,Int.reduceGE,Int.reduceGT,endO,cLd,Ins.enc]
 refine callV (.agg ((cSk 0 0).enc.map .v)) _ (fun E=>rfl) (fun E a w' hs=>pskip_calls w' 0 0) ?_
 simp (maxSteps:=2000000) only [go_sem,↓reduceIte,Nat.reduceLT,Nat.reduceLeDiff,Nat.reduceAdd,Nat.reduceSub,Nat.reduceMul,Nat.reduceEqDiff,reduceCtorEq,Int.reduceToNat,Int.reduceEq,Int.reduceBEq,Int.reduceBNe,Int.reduceLT,Int.reduceLE,Int.reduceNeg,Int.reduceAdd,Int.reduceSub,Int.reduceMul,Int.reduceGE,Int.reduceGT,endO,cSk,Ins.enc]
 refine callV (.agg ((cLd 1 2).enc.map .v)) _ (fun E=>rfl) (fun E a w' hs=>pload_calls w' 1 2) ?_
 simp (maxSteps:=2000000) only [go_sem,↓reduceIte,Nat.reduceLT,Nat.reduceLeDiff,Nat.reduceAdd,Nat.reduceSub,Nat.reduceMul,Nat.reduceEqDiff,reduceCtorEq,Int.reduceToNat,Int.reduceEq,Int.reduceBEq,Int.reduceBNe,Int.reduceLT,Int.reduceLE,Int.reduceNeg,Int.reduceAdd,Int.reduceSub,Int.reduceMul,Int.reduceGE,Int.reduceGT,endO,cLd,Ins.enc]
 refine And.intro (by decide) (And.intro (by decide) ?_)
 refine callV (.agg ((cLd 1 1).enc.map .v)) _ (fun E=>rfl) (fun E a w' hs=>pload_calls w' 1 1) ?_
 simp (maxSteps:=2000000) only [go_sem,↓reduceIte,Nat.reduceLT,Nat.reduceLeDiff,Nat.reduceAdd,Nat.reduceSub,Nat.reduceMul,Nat.reduceEqDiff,reduceCtorEq,Int.reduceToNat,Int.reduceEq,Int.reduceBEq,Int.reduceBNe,Int.reduceLT,Int.reduceLE,Int.reduceNeg,Int.reduceAdd,Int.reduceSub,Int.reduceMul,Int.reduceGE,Int.reduceGT,endO,cLd,Ins.enc]
 refine callV (.agg ((cSk 1 1).enc.map .v)) _ (fun E=>rfl) (fun E a w' hs=>pskip_calls w' 1 1) ?_
 simp (maxSteps:=2000000) only [go_sem,↓reduceIte,Nat.reduceLT,Nat.reduceLeDiff,Nat.reduceAdd,Nat.reduceSub,Nat.reduceMul,Nat.reduceEqDiff,reduceCtorEq,Int.reduceToNat,Int.reduceEq,Int.reduceBEq,Int.reduceBNe,Int.reduceLT,Int.reduceLE,Int.reduceNeg,Int.reduceAdd,Int.reduceSub,Int.reduceMul,Int.reduceGE,Int.reduceGT,endO,cSk,Ins.enc]
 refine callV (.agg ((cSt 2 (-1)).enc.map .v)) _ (fun E=>rfl) (fun E a w' hs=>pstore_calls w' 2 (-1)) ?_
 simp (maxSteps:=2000000) only [go_sem,↓reduceIte,Nat.reduceLT,Nat.reduceLeDiff,Nat.reduceAdd,Nat.reduceSub,Nat.reduceMul,Nat.reduceEqDiff,reduceCtorEq,Int.reduceToNat,Int.reduceEq,Int.reduceBEq,Int.reduceBNe,Int.reduceLT,Int.reduceLE,Int.reduceNeg,Int.reduceAdd,Int.reduceSub,Int.reduceMul,Int.reduceGE,Int.reduceGT,endO,cSt,Ins.enc]
 refine And.intro (by decide) (And.intro (by decide) (And.intro (by decide) ?_))
 refine retI ht0 _ rfl (of_decide_eq_true rfl) (by simp [SV.okN,SC.okL,SC.okN,ok1L]) ?_
 simp (maxSteps:=2000000) only [go_sem,↓reduceIte,Nat.reduceLT,Nat.reduceLeDiff,Nat.reduceAdd,Nat.reduceSub,Nat.reduceMul,Nat.reduceEqDiff,reduceCtorEq,Int.reduceToNat,Int.reduceEq,Int.reduceBEq,Int.reduceBNe,Int.reduceLT,Int.reduceLE,Int.reduceNeg,Int.reduceAdd,Int.reduceSub,Int.reduceMul,Int.reduceGE,Int.reduceGT,endO]
 exact ret_lt 7 8 [5,6] (fun b=>⟨by simp [clsTp,twS,clL,clT,SV.ren,ren1L,ren1,SC.renL,SC.ren,ltσ],by simp [clsTp,twS,SV.okN,ok1L,SC.okL,SC.okN,NewIds]⟩) rfl ⟨by decide,lt3 rfl rfl rfl⟩ rfl ⟨by decide,lt2 rfl rfl⟩
  (lt2 ⟨4,_,rfl,by decide,lt4 rfl rfl rfl rfl⟩ ⟨4,_,rfl,by decide,lt4 rfl rfl rfl rfl⟩) ⟨by decide,by decide⟩
set_option maxRecDepth 100000 in
set_option maxHeartbeats 1000000 in
theorem pclassic_9 (w:World) (a:ByteArray) (h0:(a.toList == (⟨#[83,66]⟩:ByteArray).toList)=false) (h1:(a.toList == (⟨#[77,80]⟩:ByteArray).toList)=false) (h2:(a.toList == (⟨#[76,66]⟩:ByteArray).toList)=false) (h3:(a.toList == (⟨#[73,82,73,87]⟩:ByteArray).toList)=false) (h4:(a.toList == (⟨#[82]⟩:ByteArray).toList)=false) (h5:(a.toList == (⟨#[83]⟩:ByteArray).toList)=false) (h6:(a.toList == (⟨#[50,43,50,87]⟩:ByteArray).toList)=false) (h7:(a.toList == (⟨#[83,66,43,102,101,110,99,101]⟩:ByteArray).toList)=false) (h8:(a.toList == (⟨#[112,114,111,116,101,99,116]⟩:ByteArray).toList)=false) (h9:(a.toList == (⟨#[112,114,111,116,101,99,116,43,102,101,110,99,101]⟩:ByteArray).toList)=true):Calls Try.prog 34 #[.string a] w (RetN w 3 (clsTp (clL 9)) (fun b=>twO b (clL 9))):=by
 refine enter0 (A:=[]) (c:=ir34) (rs:=rs34) (nt:=nt34) [.c (.v (.string a))] #[.string a] Try.func34 rfl (by kernel_rfl) (by kernel_rfl) rfl (fun E'=>by simp [SV.den,SC.den]) (of_decide_eq_true rfl) ?_
 simp (maxSteps:=2000000) only [ir34,nt34,rs34,go_sem,↓reduceIte,Nat.reduceLT,Nat.reduceLeDiff,Nat.reduceAdd,Nat.reduceSub,Nat.reduceMul,Nat.reduceEqDiff,reduceCtorEq,Int.reduceToNat,Int.reduceEq,Int.reduceBEq,Int.reduceBNe,Int.reduceLT,Int.reduceLE,Int.reduceNeg,Int.reduceAdd,Int.reduceSub,Int.reduceMul,Int.reduceGE,Int.reduceGT,endO,h0,h1,h2,h3,h4,h5,h6,h7,h8,h9]
 refine draw_vc (by kernel_rfl) (mkTab_ok _ _) (of_decide_eq_true rfl) (of_decide_eq_true rfl) ?_
 repeat (first | simp (maxSteps:=2000000) only [go_sem,↓reduceIte,Nat.reduceLT,Nat.reduceLeDiff,Nat.reduceAdd,Nat.reduceSub,Nat.reduceMul,Nat.reduceEqDiff,reduceCtorEq,Int.reduceToNat,Int.reduceEq,Int.reduceBEq,Int.reduceBNe,Int.reduceLT,Int.reduceLE,Int.reduceNeg,Int.reduceAdd,Int.reduceSub,Int.reduceMul,Int.reduceGE,Int.reduceGT,endO] | rw [dr_cons])
 refine dcallV (.agg ((cSt 1 1).enc.map .v)) _ (fun E=>rfl) (fun E a w' hs=>pstore_calls w' 1 1) ?_
 repeat (first | simp (maxSteps:=2000000) only [go_sem,↓reduceIte,Nat.reduceLT,Nat.reduceLeDiff,Nat.reduceAdd,Nat.reduceSub,Nat.reduceMul,Nat.reduceEqDiff,reduceCtorEq,Int.reduceToNat,Int.reduceEq,Int.reduceBEq,Int.reduceBNe,Int.reduceLT,Int.reduceLE,Int.reduceNeg,Int.reduceAdd,Int.reduceSub,Int.reduceMul,Int.reduceGE,Int.reduceGT,endO,cSt,Ins.enc] | rw [dr_cons])
 refine And.intro (by decide) (And.intro (by decide) ?_)
 refine And.intro fnok_pr ?_
 refine dcall_intro (protect_cr (t:=114) rfl rfl (lt2 rfl rfl) (by decide)) rfl trivial ⟨Or.inr ⟨by decide,rfl,trivial⟩,Or.inl ⟨by decide,by decide⟩,Or.inl ⟨by decide,by decide⟩,Or.inl ⟨by decide,by decide⟩,trivial⟩ (fun k hk h=>by simp only [twO,keysL,List.map_cons,List.map_nil,List.mem_cons,List.not_mem_nil,or_false] at hk;rcases hk with rfl | rfl | rfl | rfl <;> first | rfl | (simp only at h;omega)) ?_
 repeat (first | simp (maxSteps:=2000000) only [go_sem,↓reduceIte,Nat.reduceLT,Nat.reduceLeDiff,Nat.reduceAdd,Nat.reduceSub,Nat.reduceMul,Nat.reduceEqDiff,reduceCtorEq,Int.reduceToNat,Int.reduceEq,Int.reduceBEq,Int.reduceBNe,Int.reduceLT,Int.reduceLE,Int.reduceNeg,Int.reduceAdd,Int.reduceSub,Int.reduceMul,Int.reduceGE,Int.reduceGT,endO,twO,twS] | rw [dr_cons])
 refine And.intro (by decide) ?_
 refine retN (fun j=>j+3) (fun b=>⟨?_,?_⟩) (fun b=>?_) (fun b=>?_)
 ·simp [clsTp,twS,SV.ren,ren1L,ren1,SC.renL,SC.ren,fromσ]
 ·simp [clsTp,twS,SV.okN,ok1L,SC.okL,SC.okN,NewIds]
 ·refine ⟨⟨⟨by omega,by omega⟩,?_⟩,⟨⟨by omega,by omega⟩,?_⟩,⟨⟨by omega,by omega⟩,fun k hk=>?_⟩,trivial⟩
  ·simp only [fromσ,Nat.sub_self,Nat.zero_add,atN,look,Nat.reduceEqDiff,reduceIte,Fm.get,and_self];exact arLe_same
  ·simp only [fromσ,Nat.add_sub_cancel_left,Nat.reduceAdd,atN,look,Nat.reduceEqDiff,reduceIte,Fm.get,and_self]
   exact ⟨Nat.le_refl _,rfl,rfl,fun e he=>⟨by simp [thC,SC.renL,SC.ren,fromσ],by simp [thC,SC.okL,SC.okN,NewIds]⟩⟩
  ·simp only [fromσ,Nat.add_sub_cancel_left,Nat.reduceAdd,atN,look,Nat.reduceEqDiff,reduceIte,Fm.get,hk,and_self,thO];exact arLe_same
 ·exact injN_from fun x hx y hy e=>by
   simp [twO,keysL] at hx hy
   omega
set_option maxRecDepth 100000 in
set_option maxHeartbeats 1000000 in
theorem pclassic_no (w:World) (a:ByteArray) (h0:(a.toList == (⟨#[83,66]⟩:ByteArray).toList)=false) (h1:(a.toList == (⟨#[77,80]⟩:ByteArray).toList)=false) (h2:(a.toList == (⟨#[76,66]⟩:ByteArray).toList)=false) (h3:(a.toList == (⟨#[73,82,73,87]⟩:ByteArray).toList)=false) (h4:(a.toList == (⟨#[82]⟩:ByteArray).toList)=false) (h5:(a.toList == (⟨#[83]⟩:ByteArray).toList)=false) (h6:(a.toList == (⟨#[50,43,50,87]⟩:ByteArray).toList)=false) (h7:(a.toList == (⟨#[83,66,43,102,101,110,99,101]⟩:ByteArray).toList)=false) (h8:(a.toList == (⟨#[112,114,111,116,101,99,116]⟩:ByteArray).toList)=false) (h9:(a.toList == (⟨#[112,114,111,116,101,99,116,43,102,101,110,99,101]⟩:ByteArray).toList)=false):Calls Try.prog 34 #[.string a] w (RetV w (.tuple #[.agg #[.slice none 0 0,.slice none 0 0],.bool false])):=by
 refine enter0 (A:=[]) (c:=ir34) (rs:=rs34) (nt:=nt34) [.c (.v (.string a))] #[.string a] Try.func34 rfl (by kernel_rfl) (by kernel_rfl) rfl (fun E'=>by simp [SV.den,SC.den]) (of_decide_eq_true rfl) ?_
 simp (maxSteps:=2000000) only [ir34,nt34,rs34,go_sem,↓reduceIte,Nat.reduceLT,Nat.reduceLeDiff,Nat.reduceAdd,Nat.reduceSub,Nat.reduceMul,Nat.reduceEqDiff,reduceCtorEq,Int.reduceToNat,Int.reduceEq,Int.reduceBEq,Int.reduceBNe,Int.reduceLT,Int.reduceLE,Int.reduceNeg,Int.reduceAdd,Int.reduceSub,Int.reduceMul,Int.reduceGE,Int.reduceGT,endO,h0,h1,h2,h3,h4,h5,h6,h7,h8,h9]
 exact retV fun E=>by simp [SV.den,SC.den,den1]
end Go.Proofs.Ytmcpdafmkkjlcaa.Z
