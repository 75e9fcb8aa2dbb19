/- WitnessLeastSaid: what its proof is made of. No condition. -/
import Derived.Test.YtkjeedlkkpgopaaPkWitnessLeastAR
set_option linter.unusedSimpArgs false
set_option linter.unusedVariables false
namespace Go.Proofs.Ytkjeedlkkpgopaa.Z
open Go Go.RowKit
def nil5:List SC:=[.v (.slice none 0 0),.v (.slice none 0 0),.v (.slice none 0 0),.v (.slice none 0 0),.v (.slice none 0 0)]
theorem atN_mcA0 {i l:Nat} {r:List (Nat×Fm ArrF)} {x:Nm} {A:ArrF} (h:atN (mcA i mc0 l++r) x=some A):(i≤x.1∧x.1<i+5∧A.len=0)∨atN r x=some A:=by
 simp only [mcA,List.cons_append,List.nil_append] at h
 rcases atN_one h with ⟨rfl,rfl⟩ | h
 ·exact Or.inl ⟨by simp,by simp,rfl⟩
 rcases atN_one h with ⟨rfl,rfl⟩ | h
 ·exact Or.inl ⟨by simp,by simp,rfl⟩
 rcases atN_one h with ⟨rfl,rfl⟩ | h
 ·exact Or.inl ⟨by simp,by simp,rfl⟩
 rcases atN_one h with ⟨rfl,rfl⟩ | h
 ·exact Or.inl ⟨by simp,by simp,rfl⟩
 rcases atN_one h with ⟨rfl,rfl⟩ | h
 ·exact Or.inl ⟨by simp,by simp,rfl⟩
 exact Or.inr h
theorem le_nilmc {C:Ctx} {nt:Nat} {tmps:List (Nat×SV)} {own:Own} {arrs:List (Nat×Fm ArrF)} {facts:List (Env→World→Prop)} {nid:Nat} (j ty l:Nat) (hj:look own j=some (.one (.bk nil5 ty))) :
  Le C ⟨nt,tmps,own,arrs,facts,nid⟩ ⟨nt,tmps,setL own j (.one (.bk (mcS nid) ty)),mcA nid mc0 l++arrs,facts,nid+5⟩:=by
 intro E a w hs
 refine ⟨⟨E.ρ,E.κ,E.ν,fun x=>if nid≤x.1 then .slice none 0 0 else E.χ x⟩,fun x=>?_,fun E2 hE2 ho2=>?_⟩
 ·simp only
  split
  ·rfl
  ·exact hs.1 x
 have hs2:=hs.2 E2 (fun x hx=>by
  have hx:x.1<nid:=hx
  obtain ⟨h1,h2,h3,h4⟩:=hE2 x (show x.1<nid+5 by omega)
  exact ⟨h1,h2,h3,by rw [h4];simp only;rw [if_neg (by omega)]⟩) ho2
 have hnil:∀ x:Nm,nid≤x.1→x.1<nid+5→E2.χ x = .slice none 0 0:=fun x h1 h2=>by
  obtain ⟨_,_,_,h4⟩:=hE2 x (show x.1<nid+5 from h2)
  rw [h4]
  simp only
  rw [if_pos h1]
 obtain ⟨H,hH,hF⟩:=hs2.mem
 have hold:∀ x b,atN (setL own j (.one (.bk (mcS nid) ty))) x=some b→(x=(j,0,0)∧b = .bk (mcS nid) ty)∨(x.1≠j∧atN own x=some b):=by
  rintro ⟨k,p,q⟩ b hx
  simp only [atN,look_setL] at hx
  by_cases e:j=k
  ·subst e
   rw [if_pos rfl] at hx
   simp only [Fm.get] at hx
   split at hx
   ·next e=>obtain ⟨rfl,rfl⟩:=e;cases hx;exact Or.inl ⟨rfl,rfl⟩
   ·cases hx
  ·rw [if_neg e] at hx
   exact Or.inr ⟨fun e2=>e e2.symm,hx⟩
 have hat:atN own (j,0,0)=some (.bk nil5 ty):=by simp [atN,hj,Fm.get]
 have hwas:∀ x b,atN (setL own j (.one (.bk (mcS nid) ty))) x=some b→∃ c,atN own x=some c:=fun x b hx=>by
  rcases hold x b hx with ⟨rfl,rfl⟩ | ⟨_,hx⟩
  ·exact ⟨_,hat⟩
  ·exact ⟨_,hx⟩
 refine ⟨hs2.size,hs2.defers,ho2,hs2.tmps,hs2.frame,H,⟨?_,?_,?_⟩,?_⟩
 ·intro x b hx
  rcases hold x b hx with ⟨rfl,rfl⟩ | ⟨_,hx⟩
  ·have:=hH.den _ _ hat
   simp only [Blk.den,nil5,mcS,List.map_cons,List.map_nil,SC.den] at this ⊢
   rw [this,hnil (nid,0,0) (by simp) (by simp),hnil (nid+1,0,0) (by simp) (by simp),hnil (nid+2,0,0) (by simp) (by simp),hnil (nid+3,0,0) (by simp) (by simp),hnil (nid+4,0,0) (by simp) (by simp)]
  ·exact hH.den _ _ hx
 ·intro x y b c hx hy hne n
  obtain ⟨b',hx⟩:=hwas x b hx
  obtain ⟨c',hy⟩:=hwas y c hy
  exact hH.disj x y b' c' hx hy hne n
 ·intro x b hx n o hn
  obtain ⟨b',hx⟩:=hwas x b hx
  exact hH.sub x b' hx n o hn
 ·intro w' hw'
  have h0:=hF w' fun n hn hfr=>hw' n hn fun x b hx=>by
   obtain ⟨b',hx⟩:=hwas x b hx
   exact hfr x b' hx
  refine ⟨fun x A hA=>?_,h0.2⟩
  rcases atN_mcA0 hA with ⟨h1,h2,h3⟩ | hA
  ·exact ⟨none,0,by rw [hnil x h1 h2,h3],by omega,by simp [maxLen],Or.inl h3⟩
  ·exact h0.1 x A hA
theorem line_at {xs:List Cl} {o:List Int} {k:Nat} (h:k<o.length):(lineO xs o).getD k cl0=cAt xs (o.getD k 0):=by
 simp [lineO,List.getD_eq_getElem?_getD,List.getElem?_eq_getElem h]
theorem line_len {xs:List Cl} {o:List Int}:(lineO xs o).length=o.length:=by simp [lineO]
def plOk (p:MC×Int):Bool:=decide (p.2 = -1)
def plM (p:MC×Int):MC:=if p.2 = -1 then p.1 else mc0
def pokT (p:MC×Int) (b:Nat):SV:=.tup [(true,mcS b),(false,[.v (.bool (plOk p))])]
theorem pokT_ok (c0 c1 c2 c3 c4:SC) (p:MC×Int) (q:Bool) (hq:plOk p=q):∀ b (E E2:Env),E2.χ (b,0,0)=c0.den E→E2.χ (b+1,0,0)=c1.den E→E2.χ (b+2,0,0)=c2.den E→E2.χ (b+3,0,0)=c3.den E→E2.χ (b+4,0,0)=c4.den E →
  (SV.tup [(true,[c0,c1,c2,c3,c4]),(false,[.v (.bool q)])]).den E=(pokT p b).den E2:=fun b E E2 e0 e1 e2 e3 e4=>by
 simp [pokT,mcS,SV.den,den1,SC.den,e0,e1,e2,e3,e4,hq]
def ir47:IR:=(.seq (.ops [⟨(some 4),(.new 70 [(.v (.slice none 0 0)),(.v (.slice none 0 0)),(.v (.slice none 0 0)),(.v (.slice none 0 0)),(.v (.slice none 0 0))]),none⟩,⟨(some 5),(.mv (.k (.c (.v (.bool false))))),none⟩]) (.kill [2,3,5,6,7,8,9,10,11] (.seq (.ops [⟨(some 6),(.new 70 [(.v (.slice none 0 0)),(.v (.slice none 0 0)),(.v (.slice none 0 0)),(.v (.slice none 0 0)),(.v (.slice none 0 0))]),none⟩]) (.seq (.seq (.ops [⟨(some 7),(.mv (.k (.c (.v (.int .i64 0))))),none⟩]) (.blk 0 (.loop (.seq (.seq (.ops [⟨(some 10),(.mv (.t 7)),none⟩,⟨(some 11),(.mv (.t 1)),none⟩,⟨(some 12),(.len (.t 11)),none⟩,⟨(some 13),(.bin .lss (.t 10) (.t 12)),none⟩]) (.kill [5,8,9,10,11,12,14,15,16,17,18,19,20,21,22,23,24,25,26,27,28,29,30,31] (.cond (.t 13) .skip (.exit 0)))) (.kill [13] (.seq (.blk 1 (.seq (.draw [(⟨(some 17),(.ld true 5 (.t 6)),none⟩,([],[18,19,20,21,22,23,24,8])),(⟨(some 18),(.mv (.t 0)),none⟩,([0],[17,19,20,21,22,8])),(⟨(some 19),(.mv (.t 1)),none⟩,([0,1],[17,18,20,8])),(⟨(some 20),(.mv (.t 7)),none⟩,([0,1,2],[17,18,19,8])),(⟨(some 21),(.ia 1 (.t 19) (.t 20)),none⟩,([0,1],[17,18,8])),(⟨(some 22),(.ld false 1 (.t 21)),none⟩,([0,1],[17,18,8])),(⟨(some 23),(.ia 9 (.t 18) (.t 22)),none⟩,([0],[17,8])),(⟨(some 24),(.ld true 9 (.t 23)),none⟩,([0],[17,8])),(⟨(some 25),(.call 63 [(.t 17),(.t 24)]),none⟩,([],[8])),(⟨(some 16),(.mv (.t 25)),none⟩,([],[8])),(⟨(some 26),(.ext 0 (.t 16)),none⟩,([],[27,8])),(⟨(some 27),(.ext 1 (.t 16)),none⟩,([10],[26,8])),(⟨(some 8),(.new 70 [(.v (.slice none 0 0)),(.v (.slice none 0 0)),(.v (.slice none 0 0)),(.v (.slice none 0 0)),(.v (.slice none 0 0))]),none⟩,([0,1,2,3,4,5,6,7,8,9,10,11],[17,18,19,20,21,22,23,24,25,16,26,27])),(⟨none,(.st 5 (.t 8) (.t 26)),none⟩,([11],[27])),(⟨(some 9),(.mv (.t 27)),none⟩,([],[]))]) (.kill [16,17,18,19,20,21,22,23,24,25,26,27] (.seq (.seq (.ops [⟨(some 28),(.mv (.t 9)),none⟩,⟨(some 29),(.un .not (.t 28)),none⟩]) (.kill [9,28] (.cond (.t 29) (.seq (.ops [⟨(some 30),(.build [(.v (.slice none 0 0)),(.v (.slice none 0 0)),(.v (.slice none 0 0)),(.v (.slice none 0 0)),(.v (.slice none 0 0))] []),none⟩,⟨none,(.st 5 (.t 4) (.t 30)),none⟩,⟨(some 5),(.mv (.k (.c (.v (.bool false))))),none⟩]) (.kill [0,1,6,7,8,29,30] .ret)) .skip))) (.kill [5,29] (.ops [⟨(some 31),(.ld true 5 (.t 8)),none⟩,⟨none,(.st 5 (.t 6) (.t 31)),none⟩])))))) (.kill [5,8,9,16,17,18,19,20,21,22,23,24,25,26,27,28,29,30,31] (.ops [⟨(some 14),(.mv (.t 7)),none⟩,⟨(some 15),(.bin .add (.t 14) (.k (.c (.v (.int .i64 1))))),none⟩,⟨(some 7),(.mv (.t 15)),none⟩])))))))) (.kill [0,1,5,7,8,9,10,11,12,13,14,15,16,17,18,19,20,21,22,23,24,25,26,27,28,29,30,31] (.seq (.ops [⟨(some 32),(.ld true 5 (.t 6)),none⟩,⟨none,(.st 5 (.t 4) (.t 32)),none⟩,⟨(some 5),(.mv (.k (.c (.v (.bool true))))),none⟩]) (.kill [6,32] .ret)))))))
def rs47:List RS:=[(.cell 4 true 5),(.t 5)]
def nt47:Nat:=33
set_option maxRecDepth 100000 in
set_option maxHeartbeats 400000 in
theorem rplayO {w:World} {v v' : Value} {xs:List Cl} {o:List Int} {N:Nat} (hN:N≤2000000000000) (h:Arr w Cl.enc 9 v xs) (h' : Arr w eI 1 v' o) (hx:o.length≤N) (ho:∀ n∈o,0≤n∧n<xs.length∧cntB (cAt xs n)=true) :
  Calls Try.prog 47 #[v,v'] w (RetB w (fun _=>True) 5 (pokT (playM mc0 0 (lineO xs o))) (mcR (plM (playM mc0 0 (lineO xs o))))):=by
 refine enter2 (A:=[]) (c:=ir47) (rs:=rs47) (nt:=nt47) cl0 cl_ok h 0 eI_ok h' [.c (.xv (0,0,0)),.c (.xv (1,0,0))] _ Try.func47 rfl (by kernel_rfl) (by kernel_rfl) rfl (fun E' h0 h1=>by simp [SV.den,SC.den,h0,h1]) (of_decide_eq_true rfl) ?_
 simp (maxSteps:=2000000) only [ir47,nt47,rs47,go_sem,↓reduceIte,Nat.reduceLT,Nat.reduceLeDiff,Nat.reduceAdd,Nat.reduceSub,Nat.reduceMul,Nat.reduceEqDiff,reduceCtorEq,Int.reduceToNat,Int.reduceEq,Int.reduceBEq,Int.reduceBNe,Int.reduceLT,Int.reduceLE,Int.reduceNeg,Int.reduceAdd,Int.reduceSub,Int.reduceMul,Int.reduceGE,Int.reduceGT,Cl.enc,iv,endO]
 refine loopI (ι:=Plg mc0 (lineO xs o) N) (fun g=>⟨33,[(0,.c (.xv (0,0,0))),(1,.c (.xv (1,0,0))),(4,.c (.ptr (2,0,0) 0)),(6,.c (.ptr (3,0,0) 0)),(7,.c (.v (.int .i64 (g.k:Nat))))],
  [(2,.one (.bk nil5 70)),(3,.one (.bk (mcS 4) 70))],mcA 4 g.m w.heap.size++[(0,.one (arrOf Cl.enc 9 xs cl0)),(1,.one (arrOf eI 1 o 0))],[],9⟩)
  (fun g=>o.length - g.k) ⟨0,mc0,by omega,mc0_may,by simp [MC.upto,mc0],rfl⟩ ?_ ?_
 ·refine le_tr (le_nilmc 3 70 w.heap.size rfl) ?_
  simp only [mcS,mcA,nil5,setL,List.cons_append,List.nil_append]
  exact (le_ren (id) rfl rfl (by simp [TmpsLe,look,SV.ren,SC.ren,SC.renL,ren1L,ren1,idσ,SV.okN,SC.okN,SC.okL,ok1L]) (by simp [OwnLe,BlkLeO,BlkLe,atN,look,Fm.get,idσ,SC.renL,SC.ren,SC.okL,SC.okN,renL_v,okL_v]) (by simp [ArrsLe,ArrLeO,atN,look,Fm.get,idσ,arrLe_of,arrLe_0]) rfl)
 rintro ⟨k,m',hk,may,up,eq⟩
 rw [line_len] at hk
 simp (maxSteps:=2000000) only [go_sem,↓reduceIte,Nat.reduceLT,Nat.reduceLeDiff,Nat.reduceAdd,Nat.reduceSub,Nat.reduceMul,Nat.reduceEqDiff,reduceCtorEq,Int.reduceToNat,Int.reduceEq,Int.reduceBEq,Int.reduceBNe,Int.reduceLT,Int.reduceLE,Int.reduceNeg,Int.reduceAdd,Int.reduceSub,Int.reduceMul,Int.reduceGE,Int.reduceGT,Cl.enc,iv,endO,mcS,mcA,nil5,eI,List.cons_append,List.nil_append]
 have hdr:k<o.length→(lineO xs o).drop k=cAt xs (o.getD k 0) :: (lineO xs o).drop (k+1):=fun hlt=>by rw [List.drop_eq_getElem_cons (by rw [line_len];exact hlt),← line_at hlt,List.getD_eq_getElem?_getD,List.getElem?_eq_getElem (by rw [line_len];exact hlt)];rfl
 refine both (fun hlt=>?_) (fun hge=>?_)
 ·rw [decide_eq_true_eq] at hlt
  have hlt:k<o.length:=by omega
  have hok' : MC.okR m':=up.okR (by omega)
  obtain ⟨q1,q2,q3⟩:=ho _ (getD_mem (d:=0) hlt)
  have q3:objOf (cAt xs (o.getD k 0)).op≠0:=by simpa [cntB] using q3
  refine draw_vc (by kernel_rfl) (mkTab_ok _ _) (of_decide_eq_true rfl) (of_decide_eq_true rfl) ?_
  repeat (first | simp (maxSteps:=2000000) only [go_sem,↓reduceIte,Nat.reduceLT,Nat.reduceLeDiff,Nat.reduceAdd,Nat.reduceSub,Nat.reduceMul,Nat.reduceEqDiff,reduceCtorEq,Int.reduceToNat,Int.reduceEq,Int.reduceBEq,Int.reduceBNe,Int.reduceLT,Int.reduceLE,Int.reduceNeg,Int.reduceAdd,Int.reduceSub,Int.reduceMul,Int.reduceGE,Int.reduceGT,Cl.enc,iv,endO,eI] | rw [dr_cons])
  repeat (with_reducible refine And.intro (by first | (simp only [maxLen];omega) | omega | decide | (simp;done) | (simp [maxLen];omega)) ?_)
  refine dcallL 5 (ralT (allowM m' (cAt xs (o.getD k 0)))) (mcR (allowM m' (cAt xs (o.getD k 0))).1) (mcR_sz _) (fun E a w' hs=>ral_Z (cAt xs (o.getD k 0)) (cont_at hs 4 rfl rfl rfl rfl rfl) hok' may q3) ?_ ?_
  ·simp [newOk,keysL,low_mcR,mcA]
  repeat (first | simp (maxSteps:=2000000) only [go_sem,↓reduceIte,Nat.reduceLT,Nat.reduceLeDiff,Nat.reduceAdd,Nat.reduceSub,Nat.reduceMul,Nat.reduceEqDiff,reduceCtorEq,Int.reduceToNat,Int.reduceEq,Int.reduceBEq,Int.reduceBNe,Int.reduceLT,Int.reduceLE,Int.reduceNeg,Int.reduceAdd,Int.reduceSub,Int.reduceMul,Int.reduceGE,Int.reduceGT,Cl.enc,iv,endO,ralT,mcS,low_mcR,mcA,mkC_B] | rw [dr_cons])
  repeat (with_reducible refine And.intro (by first | (simp only [maxLen];omega) | omega | decide | with_reducible exact Or.inl trivial | with_reducible exact Or.inr trivial | with_reducible exact ⟨Or.inl trivial,Or.inr trivial⟩) ?_)
  rw [hdr hlt] at eq
  have hup:=allowM_upto (c:=cAt xs (o.getD k 0)) up
  have hmy:=allowM_may (c:=cAt xs (o.getD k 0)) may
  simp only [playM] at eq
  generalize allowM m' (cAt xs (o.getD k 0))=p at eq hup hmy ⊢
  obtain ⟨m2,b⟩:=p
  simp only at eq hup hmy
  refine both (fun hb=>?_) (fun hb=>?_)
  ·have hb:b=false:=by simpa using hb
   rw [hb,if_neg (by simp)] at eq
   have heq:playM mc0 0 (lineO xs o)=(m',(k:Int)):=by rw [eq]
   have hk1:¬ (k:Int) = -1:=by omega
   rw [heq]
   simp only [plM,if_neg hk1]
   exact retB5 _ _ _ _ _ rdN_nil rdN_nil rdN_nil rdN_nil rdN_nil (pokT_ok _ _ _ _ _ (m',(k:Int)) false (by simp [plOk,hk1]))
  ·have hb:b=true:=by simpa using hb
   rw [hb,if_pos rfl] at eq
   rw [wr_succ (by omega)]
   refine backI ⟨k+1,m2,by rw [line_len];exact hlt,hmy,by rw [show N+(k+1)=N+k+1 by omega];exact hup,by rw [eq]⟩ (by simp only;omega) ?_
   simp only [mcS,mcA,nil5,List.cons_append,List.nil_append]
   exact (le_ren (fun i=>if 4≤i then i+5 else i) rfl rfl (by simp [TmpsLe,look,SV.ren,SC.ren,SC.renL,ren1L,ren1,idσ,SV.okN,SC.okN,SC.okL,ok1L]) (by simp [OwnLe,BlkLeO,BlkLe,atN,look,Fm.get,idσ,SC.renL,SC.ren,SC.okL,SC.okN,renL_v,okL_v]) (by simp [ArrsLe,ArrLeO,atN,look,Fm.get,idσ,arrLe_of,arrLe_0]) rfl)
 ·rw [decide_eq_false_iff_not] at hge
  have hk' : k=(lineO xs o).length:=by rw [line_len];omega
  subst hk'
  rw [List.drop_length] at eq
  have heq:playM mc0 0 (lineO xs o)=(m',-1):=by rw [eq];rfl
  rw [heq]
  simp only [plM,if_true]
  exact retB5 _ _ _ _ _ (rdN_lo 4 rfl (Nat.le_refl _)) (rdN_lo 5 rfl (Nat.le_refl _)) (rdN_lo 6 rfl (Nat.le_refl _)) (rdN_lo 7 rfl (Nat.le_refl _)) (rdN_lo 8 rfl (Nat.le_refl _)) (pokT_ok _ _ _ _ _ (m',-1) true rfl)
end Go.Proofs.Ytkjeedlkkpgopaa.Z
namespace Go.Proofs.Ytkjeedlkkpgopaa.Z
open Go Go.RowKit
theorem chkE_may {xs:List Cl} {o:List Int} (h:mayQ xs=false):chkE xs o=120:=by
 unfold chkE;rw [← mayQ_pB,h];simp
theorem chkE_ord {xs:List Cl} {o:List Int} (h:mayQ xs=true) (h2:pB (IsO xs o)=false):chkE xs o=121:=by
 unfold chkE;rw [← mayQ_pB,h,h2];simp
theorem chkE_tim {xs:List Cl} {o:List Int} (h:mayQ xs=true) (h2:pB (IsO xs o)=true) (h3:pB (InT xs o)=false):chkE xs o=122:=by
 unfold chkE;rw [← mayQ_pB,h,h2,h3];simp
theorem chkE_pl {xs:List Cl} {o:List Int} (h:mayQ xs=true) (h2:pB (IsO xs o)=true) (h3:pB (InT xs o)=true):chkE xs o=if (playM mc0 0 (lineO xs o)).2 = -1 then 0 else 123:=by
 unfold chkE;rw [← mayQ_pB,h,h2,h3];simp
theorem chkM_0 {xs:List Cl} {o:List Int} (h:chkE xs o≠0):chkM xs o=mc0:=by unfold chkM;rw [if_neg h]
theorem chkM_pl {xs:List Cl} {o:List Int} (h:mayQ xs=true) (h2:pB (IsO xs o)=true) (h3:pB (InT xs o)=true):chkM xs o=plM (playM mc0 0 (lineO xs o)):=by
 unfold chkM plM
 rw [chkE_pl h h2 h3]
 by_cases e:(playM mc0 0 (lineO xs o)).2 = -1 <;> simp [e]
def lkT (e:Int) (b:Nat):SV:=.tup [(true,mcS b),(false,[.v (.int .i64 e)])]
theorem lkT_ok (c0 c1 c2 c3 c4:SC) (e:Int):∀ b (E E2:Env),E2.χ (b,0,0)=c0.den E→E2.χ (b+1,0,0)=c1.den E→E2.χ (b+2,0,0)=c2.den E→E2.χ (b+3,0,0)=c3.den E→E2.χ (b+4,0,0)=c4.den E →
  (SV.tup [(true,[c0,c1,c2,c3,c4]),(false,[.v (.int .i64 e)])]).den E=(lkT e b).den E2:=fun b E E2 e0 e1 e2 e3 e4=>by
 simp [lkT,mcS,SV.den,den1,SC.den,e0,e1,e2,e3,e4]
def ir36:IR:=(.seq (.ops [⟨(some 4),(.mv (.k (.c (.v (.int .i64 0))))),none⟩]) (.kill [2,3,4,5,6,7,8,9,10,11] (.seq (.seq (.ops [⟨(some 7),(.mv (.t 0)),none⟩,⟨(some 8),(.call 16 [(.t 7)]),none⟩,⟨(some 9),(.un .not (.t 8)),none⟩]) (.kill [7,8] (.cond (.t 9) (.seq (.ops [⟨(some 4),(.mv (.k (.c (.v (.int .i64 120))))),none⟩]) (.kill [0,1,9] .ret)) .skip))) (.kill [4,9] (.seq (.seq (.ops [⟨(some 10),(.mv (.t 0)),none⟩,⟨(some 11),(.mv (.t 1)),none⟩,⟨(some 12),(.call 55 [(.t 10),(.t 11)]),none⟩,⟨(some 13),(.un .not (.t 12)),none⟩]) (.kill [10,11,12] (.cond (.t 13) (.seq (.ops [⟨(some 4),(.mv (.k (.c (.v (.int .i64 121))))),none⟩]) (.kill [0,1,13] .ret)) .skip))) (.kill [4,13] (.seq (.seq (.ops [⟨(some 14),(.mv (.t 0)),none⟩,⟨(some 15),(.mv (.t 1)),none⟩,⟨(some 16),(.call 56 [(.t 14),(.t 15)]),none⟩,⟨(some 17),(.un .not (.t 16)),none⟩]) (.kill [14,15,16] (.cond (.t 17) (.seq (.ops [⟨(some 4),(.mv (.k (.c (.v (.int .i64 122))))),none⟩]) (.kill [0,1,17] .ret)) .skip))) (.kill [4,17] (.seq (.ops [⟨(some 19),(.mv (.t 0)),none⟩,⟨(some 20),(.mv (.t 1)),none⟩,⟨(some 21),(.call 47 [(.t 19),(.t 20)]),none⟩,⟨(some 18),(.mv (.t 21)),none⟩,⟨(some 22),(.ext 0 (.t 18)),none⟩,⟨(some 23),(.ext 1 (.t 18)),none⟩,⟨(some 5),(.new 70 [(.v (.slice none 0 0)),(.v (.slice none 0 0)),(.v (.slice none 0 0)),(.v (.slice none 0 0)),(.v (.slice none 0 0))]),none⟩,⟨none,(.st 5 (.t 5) (.t 22)),none⟩,⟨(some 6),(.mv (.t 23)),none⟩]) (.kill [0,1,5,18,19,20,21,22,23] (.seq (.seq (.ops [⟨(some 24),(.mv (.t 6)),none⟩,⟨(some 25),(.un .not (.t 24)),none⟩]) (.kill [6,24] (.cond (.t 25) (.seq (.ops [⟨(some 4),(.mv (.k (.c (.v (.int .i64 123))))),none⟩]) (.kill [25] .ret)) .skip))) (.kill [4,25] (.seq (.ops [⟨(some 4),(.mv (.k (.c (.v (.int .i64 0))))),none⟩]) .ret)))))))))))))
def rs36:List RS:=[(.t 4)]
def nt36:Nat:=26
def ir54:IR:=(.seq (.ops [⟨(some 4),(.new 70 [(.v (.slice none 0 0)),(.v (.slice none 0 0)),(.v (.slice none 0 0)),(.v (.slice none 0 0)),(.v (.slice none 0 0))]),none⟩,⟨(some 5),(.mv (.k (.c (.v (.int .i64 0))))),none⟩]) (.kill [2,3,5,6,7,8,9,10,11] (.seq (.seq (.ops [⟨(some 19),(.mv (.t 0)),none⟩,⟨(some 20),(.call 15 [(.t 19)]),none⟩,⟨(some 21),(.un .not (.t 20)),none⟩]) (.kill [19,20] (.cond (.t 21) (.seq (.ops [⟨(some 22),(.build [(.v (.slice none 0 0)),(.v (.slice none 0 0)),(.v (.slice none 0 0)),(.v (.slice none 0 0)),(.v (.slice none 0 0))] []),none⟩,⟨none,(.st 5 (.t 4) (.t 22)),none⟩,⟨(some 5),(.mv (.k (.c (.v (.int .i64 120))))),none⟩]) (.kill [0,1,21,22] .ret)) .skip))) (.kill [5,21] (.seq (.ops [⟨(some 23),(.mv (.t 0)),none⟩,⟨(some 24),(.len (.t 23)),none⟩,⟨(some 25),(.mks 3 1 8 [(.v (.int .i64 0))] (.t 24) (.t 24)),none⟩,⟨(some 6),(.mv (.t 25)),none⟩]) (.kill [23,24,25] (.seq (.seq (.ops [⟨(some 26),(.mv (.t 1)),none⟩,⟨(some 27),(.len (.t 26)),none⟩,⟨(some 28),(.mv (.k (.c (.v (.int .i64 0))))),none⟩]) (.blk 0 (.loop (.seq (.ops [⟨(some 29),(.bin .lss (.t 28) (.t 27)),none⟩]) (.kill [5,8,30,31,32,33,34,35,36,37,38,39,40,41,42,43,44,45,46,47,48,49,50,51,52,53,54,55,56,57,58,59,60,61,62] (.seq (.cond (.t 29) .skip (.exit 0)) (.kill [29] (.seq (.blk 1 (.seq (.ops [⟨(some 30),(.ia 1 (.t 26) (.t 28)),none⟩,⟨(some 31),(.ld false 1 (.t 30)),none⟩,⟨(some 8),(.mv (.t 31)),none⟩]) (.kill [30,31] (.seq (.seq (.ops [⟨(some 32),(.mv (.t 8)),none⟩,⟨(some 33),(.bin .lss (.t 32) (.k (.c (.v (.int .i64 0))))),none⟩,⟨(some 34),(.mv (.t 33)),none⟩,⟨(some 35),(.mv (.t 8)),(some (34,false))⟩,⟨(some 36),(.mv (.t 0)),(some (34,false))⟩,⟨(some 37),(.len (.t 36)),(some (34,false))⟩,⟨(some 38),(.bin .geq (.t 35) (.t 37)),(some (34,false))⟩,⟨(some 39),(.pick (.t 34) (.k (.c (.v (.bool true)))) (.t 38)),none⟩,⟨(some 40),(.mv (.t 39)),none⟩,⟨(some 41),(.mv (.t 0)),(some (40,false))⟩,⟨(some 42),(.mv (.t 8)),(some (40,false))⟩,⟨(some 43),(.ia 9 (.t 41) (.t 42)),(some (40,false))⟩,⟨(some 44),(.ld true 9 (.t 43)),(some (40,false))⟩,⟨(some 45),(.call 42 [(.t 44)]),(some (40,false))⟩,⟨(some 46),(.un .not (.t 45)),(some (40,false))⟩,⟨(some 47),(.pick (.t 40) (.k (.c (.v (.bool true)))) (.t 46)),none⟩,⟨(some 48),(.mv (.t 47)),none⟩,⟨(some 49),(.mv (.t 6)),(some (48,false))⟩,⟨(some 50),(.mv (.t 8)),(some (48,false))⟩,⟨(some 51),(.ia 1 (.t 49) (.t 50)),(some (48,false))⟩,⟨(some 52),(.ld false 1 (.t 51)),(some (48,false))⟩,⟨(some 53),(.bin .gtr (.t 52) (.k (.c (.v (.int .i64 0))))),(some (48,false))⟩,⟨(some 54),(.pick (.t 48) (.k (.c (.v (.bool true)))) (.t 53)),none⟩]) (.kill [32,33,34,35,36,37,38,39,40,41,42,43,44,45,46,47,48,49,50,51,52,53] (.cond (.t 54) (.seq (.ops [⟨(some 55),(.build [(.v (.slice none 0 0)),(.v (.slice none 0 0)),(.v (.slice none 0 0)),(.v (.slice none 0 0)),(.v (.slice none 0 0))] []),none⟩,⟨none,(.st 5 (.t 4) (.t 55)),none⟩,⟨(some 5),(.mv (.k (.c (.v (.int .i64 121))))),none⟩]) (.kill [0,1,6,8,26,27,28,54,55] .ret)) .skip))) (.kill [5,54] (.ops [⟨(some 56),(.mv (.t 6)),none⟩,⟨(some 57),(.mv (.t 8)),none⟩,⟨(some 58),(.ia 1 (.t 56) (.t 57)),none⟩,⟨(some 59),(.ld false 1 (.t 58)),none⟩,⟨(some 60),(.bin .add (.t 59) (.k (.c (.v (.int .i64 1))))),none⟩,⟨(some 61),(.ia 1 (.t 56) (.t 57)),none⟩,⟨none,(.st 1 (.t 61) (.t 60)),none⟩])))))) (.kill [5,8,30,31,32,33,34,35,36,37,38,39,40,41,42,43,44,45,46,47,48,49,50,51,52,53,54,55,56,57,58,59,60,61] (.ops [⟨(some 62),(.bin .add (.t 28) (.k (.c (.v (.int .i64 1))))),none⟩,⟨(some 28),(.mv (.t 62)),none⟩])))))))))) (.kill [5,8,26,27,28,29,30,31,32,33,34,35,36,37,38,39,40,41,42,43,44,45,46,47,48,49,50,51,52,53,54,55,56,57,58,59,60,61,62] (.seq (.seq (.ops [⟨(some 63),(.mv (.t 0)),none⟩,⟨(some 64),(.len (.t 63)),none⟩,⟨(some 65),(.mv (.k (.c (.v (.int .i64 0))))),none⟩]) (.blk 2 (.loop (.seq (.ops [⟨(some 66),(.bin .lss (.t 65) (.t 64)),none⟩]) (.kill [5,9,10,67,68,69,70,71,72,73,74,75,76,77,78,79,80,81,82,83,84,85] (.seq (.cond (.t 66) .skip (.exit 2)) (.kill [66] (.seq (.blk 3 (.seq (.ops [⟨(some 67),(.mv (.t 65)),none⟩,⟨(some 68),(.ia 9 (.t 63) (.t 65)),none⟩,⟨(some 69),(.ld true 9 (.t 68)),none⟩,⟨(some 10),(.new 53 [(.v (.int .i64 0)),(.v (.int .i64 0)),(.v (.int .i64 0)),(.v (.int .i64 0)),(.v (.int .i64 0)),(.v (.int .i64 0)),(.v (.int .i64 0)),(.v (.int .i64 0)),(.v (.int .i64 0))]),none⟩,⟨(some 9),(.mv (.t 67)),none⟩,⟨none,(.st 9 (.t 10) (.t 69)),none⟩]) (.kill [67,68,69] (.seq (.ops [⟨(some 70),(.ld true 9 (.t 10)),none⟩,⟨(some 71),(.call 42 [(.t 70)]),none⟩,⟨(some 72),(.mv (.t 71)),none⟩,⟨(some 73),(.fa 5 (.t 10)),(some (72,true))⟩,⟨(some 74),(.ld false 1 (.t 73)),(some (72,true))⟩,⟨(some 75),(.bin .neq (.t 74) (.k (.c (.v (.int .i64 (-1)))))),(some (72,true))⟩,⟨(some 76),(.pick (.t 72) (.t 75) (.k (.c (.v (.bool false))))),none⟩,⟨(some 77),(.mv (.t 76)),none⟩,⟨(some 78),(.mv (.t 6)),(some (77,true))⟩,⟨(some 79),(.mv (.t 9)),(some (77,true))⟩,⟨(some 80),(.ia 1 (.t 78) (.t 79)),(some (77,true))⟩,⟨(some 81),(.ld false 1 (.t 80)),(some (77,true))⟩,⟨(some 82),(.bin .eql (.t 81) (.k (.c (.v (.int .i64 0))))),(some (77,true))⟩,⟨(some 83),(.pick (.t 77) (.t 82) (.k (.c (.v (.bool false))))),none⟩]) (.kill [9,10,70,71,72,73,74,75,76,77,78,79,80,81,82] (.cond (.t 83) (.seq (.ops [⟨(some 84),(.build [(.v (.slice none 0 0)),(.v (.slice none 0 0)),(.v (.slice none 0 0)),(.v (.slice none 0 0)),(.v (.slice none 0 0))] []),none⟩,⟨none,(.st 5 (.t 4) (.t 84)),none⟩,⟨(some 5),(.mv (.k (.c (.v (.int .i64 121))))),none⟩]) (.kill [0,1,6,63,64,65,83,84] .ret)) .skip)))))) (.kill [5,9,10,67,68,69,70,71,72,73,74,75,76,77,78,79,80,81,82,83,84] (.ops [⟨(some 85),(.bin .add (.t 65) (.k (.c (.v (.int .i64 1))))),none⟩,⟨(some 65),(.mv (.t 85)),none⟩])))))))))) (.kill [5,6,9,10,63,64,65,66,67,68,69,70,71,72,73,74,75,76,77,78,79,80,81,82,83,84,85] (.seq (.ops [⟨(some 11),(.mv (.k (.c (.v (.slice none 0 0))))),none⟩]) (.seq (.ops [⟨(some 12),(.mv (.k (.c (.v (.int .i64 (-1)))))),none⟩]) (.seq (.seq (.ops [⟨(some 86),(.mv (.t 1)),none⟩,⟨(some 87),(.len (.t 86)),none⟩,⟨(some 88),(.mv (.k (.c (.v (.int .i64 0))))),none⟩]) (.kill [1] (.blk 4 (.loop (.seq (.ops [⟨(some 89),(.bin .lss (.t 88) (.t 87)),none⟩]) (.kill [5,14,15,90,91,92,93,94,95,96,97,98,99,100,101,102,103,104,105,106,107,108,109,110,111,112,113,114,115,116,117,118,119,120] (.seq (.cond (.t 89) .skip (.exit 4)) (.kill [89] (.seq (.blk 5 (.seq (.ops [⟨(some 90),(.ia 1 (.t 86) (.t 88)),none⟩,⟨(some 91),(.ld false 1 (.t 90)),none⟩,⟨(some 14),(.mv (.t 91)),none⟩]) (.kill [90,91] (.seq (.seq (.ops [⟨(some 92),(.mv (.t 0)),none⟩,⟨(some 93),(.mv (.t 14)),none⟩,⟨(some 94),(.ia 9 (.t 92) (.t 93)),none⟩,⟨(some 95),(.ld true 9 (.t 94)),none⟩,⟨(some 15),(.new 53 [(.v (.int .i64 0)),(.v (.int .i64 0)),(.v (.int .i64 0)),(.v (.int .i64 0)),(.v (.int .i64 0)),(.v (.int .i64 0)),(.v (.int .i64 0)),(.v (.int .i64 0)),(.v (.int .i64 0))]),none⟩,⟨none,(.st 9 (.t 15) (.t 95)),none⟩]) (.kill [92,93,94,95] (.seq (.ops [⟨(some 96),(.fa 5 (.t 15)),none⟩,⟨(some 97),(.ld false 1 (.t 96)),none⟩,⟨(some 98),(.bin .neq (.t 97) (.k (.c (.v (.int .i64 (-1)))))),none⟩,⟨(some 99),(.mv (.t 98)),none⟩,⟨(some 100),(.fa 5 (.t 15)),(some (99,true))⟩,⟨(some 101),(.ld false 1 (.t 100)),(some (99,true))⟩,⟨(some 102),(.mv (.t 12)),(some (99,true))⟩,⟨(some 103),(.bin .lss (.t 101) (.t 102)),(some (99,true))⟩,⟨(some 104),(.pick (.t 99) (.t 103) (.k (.c (.v (.bool false))))),none⟩]) (.kill [15,96,97,98,99,100,101,102,103] (.cond (.t 104) (.seq (.ops [⟨(some 105),(.build [(.v (.slice none 0 0)),(.v (.slice none 0 0)),(.v (.slice none 0 0)),(.v (.slice none 0 0)),(.v (.slice none 0 0))] []),none⟩,⟨none,(.st 5 (.t 4) (.t 105)),none⟩,⟨(some 5),(.mv (.k (.c (.v (.int .i64 122))))),none⟩]) (.kill [0,11,12,14,86,87,88,104,105] .ret)) .skip))))) (.kill [5,104] (.seq (.ops [⟨(some 106),(.mv (.t 12)),none⟩,⟨(some 107),(.mv (.t 0)),none⟩,⟨(some 108),(.mv (.t 14)),none⟩,⟨(some 109),(.ia 9 (.t 107) (.t 108)),none⟩,⟨(some 110),(.fa 4 (.t 109)),none⟩,⟨(some 111),(.ld false 1 (.t 110)),none⟩,⟨(some 112),(.mm true (.t 106) (.t 111)),none⟩,⟨(some 12),(.mv (.t 112)),none⟩]) (.kill [106,107,108,109,110,111,112] (.ops [⟨(some 113),(.mv (.t 11)),none⟩,⟨(some 114),(.mv (.t 0)),none⟩,⟨(some 115),(.mv (.t 14)),none⟩,⟨(some 116),(.ia 9 (.t 114) (.t 115)),none⟩,⟨(some 117),(.ld true 9 (.t 116)),none⟩,⟨(some 118),(.mkSl 53 1 9 [(.v (.int .i64 0)),(.v (.int .i64 0)),(.v (.int .i64 0)),(.v (.int .i64 0)),(.v (.int .i64 0)),(.v (.int .i64 0)),(.v (.int .i64 0)),(.v (.int .i64 0)),(.v (.int .i64 0))] [(0,(9,(.t 117)))]),none⟩,⟨(some 119),(.app 53 9 72 [(.v (.int .i64 0)),(.v (.int .i64 0)),(.v (.int .i64 0)),(.v (.int .i64 0)),(.v (.int .i64 0)),(.v (.int .i64 0)),(.v (.int .i64 0)),(.v (.int .i64 0)),(.v (.int .i64 0))] (.t 113) (.t 118)),none⟩,⟨(some 11),(.mv (.t 119)),none⟩])))))))) (.kill [5,14,15,90,91,92,93,94,95,96,97,98,99,100,101,102,103,104,105,106,107,108,109,110,111,112,113,114,115,116,117,118,119] (.ops [⟨(some 120),(.bin .add (.t 88) (.k (.c (.v (.int .i64 1))))),none⟩,⟨(some 88),(.mv (.t 120)),none⟩]))))))))))) (.kill [0,5,12,14,15,86,87,88,89,90,91,92,93,94,95,96,97,98,99,100,101,102,103,104,105,106,107,108,109,110,111,112,113,114,115,116,117,118,119,120] (.seq (.ops [⟨(some 122),(.build [(.v (.slice none 0 0)),(.v (.slice none 0 0)),(.v (.slice none 0 0)),(.v (.slice none 0 0)),(.v (.slice none 0 0))] []),none⟩,⟨(some 123),(.mv (.t 11)),none⟩,⟨(some 124),(.call 71 [(.t 122),(.t 123)]),none⟩,⟨(some 121),(.mv (.t 124)),none⟩,⟨(some 125),(.ext 0 (.t 121)),none⟩,⟨(some 126),(.ext 1 (.t 121)),none⟩,⟨(some 127),(.ext 2 (.t 121)),none⟩,⟨(some 16),(.new 70 [(.v (.slice none 0 0)),(.v (.slice none 0 0)),(.v (.slice none 0 0)),(.v (.slice none 0 0)),(.v (.slice none 0 0))]),none⟩,⟨none,(.st 5 (.t 16) (.t 125)),none⟩,⟨(some 17),(.mv (.t 126)),none⟩,⟨(some 18),(.mv (.t 127)),none⟩]) (.kill [11,121,122,123,124,125,126,127] (.seq (.seq (.ops [⟨(some 128),(.mv (.t 18)),none⟩,⟨(some 129),(.bin .neq (.t 128) (.k (.c (.v (.int .i64 0))))),none⟩,⟨(some 130),(.mv (.t 129)),none⟩,⟨(some 131),(.mv (.t 17)),(some (130,false))⟩,⟨(some 132),(.bin .geq (.t 131) (.k (.c (.v (.int .i64 0))))),(some (130,false))⟩,⟨(some 133),(.pick (.t 130) (.k (.c (.v (.bool true)))) (.t 132)),none⟩]) (.kill [17,18,128,129,130,131,132] (.cond (.t 133) (.seq (.ops [⟨(some 134),(.build [(.v (.slice none 0 0)),(.v (.slice none 0 0)),(.v (.slice none 0 0)),(.v (.slice none 0 0)),(.v (.slice none 0 0))] []),none⟩,⟨none,(.st 5 (.t 4) (.t 134)),none⟩,⟨(some 5),(.mv (.k (.c (.v (.int .i64 123))))),none⟩]) (.kill [16,133,134] .ret)) .skip))) (.kill [5,133] (.seq (.ops [⟨(some 135),(.ld true 5 (.t 16)),none⟩,⟨none,(.st 5 (.t 4) (.t 135)),none⟩,⟨(some 5),(.mv (.k (.c (.v (.int .i64 0))))),none⟩]) (.kill [16,135] .ret))))))))))))))))))))
def rs54:List RS:=[(.cell 4 true 5),(.t 5)]
def nt54:Nat:=136
def ir35:IR:=(.seq (.ops [⟨(some 4),(.mv (.k (.c (.v (.int .i64 0))))),none⟩]) (.kill [2,3,4,5,6,7,8,9,10,11] (.seq (.ops [⟨(some 8),(.mv (.t 0)),none⟩,⟨(some 9),(.mv (.t 1)),none⟩,⟨(some 10),(.call 54 [(.t 8),(.t 9)]),none⟩,⟨(some 7),(.mv (.t 10)),none⟩,⟨(some 11),(.ext 0 (.t 7)),none⟩,⟨(some 12),(.ext 1 (.t 7)),none⟩,⟨(some 5),(.new 70 [(.v (.slice none 0 0)),(.v (.slice none 0 0)),(.v (.slice none 0 0)),(.v (.slice none 0 0)),(.v (.slice none 0 0))]),none⟩,⟨none,(.st 5 (.t 5) (.t 11)),none⟩,⟨(some 6),(.mv (.t 12)),none⟩]) (.kill [0,1,5,7,8,9,10,11,12] (.seq (.ops [⟨(some 13),(.mv (.t 6)),none⟩,⟨(some 4),(.mv (.t 13)),none⟩]) (.kill [6,13] .ret))))))
def rs35:List RS:=[(.t 4)]
def nt35:Nat:=14
set_option maxRecDepth 100000 in
set_option maxHeartbeats 400000 in
theorem rcheck_calls (w:World) (v v' : Value) (xs:List Cl) (o:List Int) (hsz:xs.length * 72≤140737488355328) (h:Arr w Cl.enc 9 v xs) (h' : Arr w eI 1 v' o):Calls Try.prog 36 #[v,v'] w (RetV w (.int .i64 (chkE xs o))):=by
 refine enter2 (A:=[]) (c:=ir36) (rs:=rs36) (nt:=nt36) cl0 cl_ok h 0 eI_ok h' [.c (.xv (0,0,0)),.c (.xv (1,0,0))] _ Try.func36 rfl (by kernel_rfl) (by kernel_rfl) rfl (fun E' h0 h1=>by simp [SV.den,SC.den,h0,h1]) (of_decide_eq_true rfl) ?_
 simp (maxSteps:=2000000) only [ir36,nt36,rs36,go_sem,↓reduceIte,Nat.reduceLT,Nat.reduceLeDiff,Nat.reduceAdd,Nat.reduceSub,Nat.reduceMul,Nat.reduceEqDiff,reduceCtorEq,Int.reduceToNat,Int.reduceEq,Int.reduceBEq,Int.reduceBNe,Int.reduceLT,Int.reduceLE,Int.reduceNeg,Int.reduceAdd,Int.reduceSub,Int.reduceMul,Int.reduceGE,Int.reduceGT,Cl.enc,iv,endO]
 refine callV (.c (.bo (mayQ xs))) _ (fun E=>rfl) (fun E a w' hs=>mayR w' _ xs hsz (arr_at (d:=cl0) hs 0 rfl)) ?_
 simp (maxSteps:=2000000) only [go_sem,↓reduceIte,Nat.reduceLT,Nat.reduceLeDiff,Nat.reduceAdd,Nat.reduceSub,Nat.reduceMul,Nat.reduceEqDiff,reduceCtorEq,Int.reduceToNat,Int.reduceEq,Int.reduceBEq,Int.reduceBNe,Int.reduceLT,Int.reduceLE,Int.reduceNeg,Int.reduceAdd,Int.reduceSub,Int.reduceMul,Int.reduceGE,Int.reduceGT,Cl.enc,iv,endO]
 refine both (fun hm=>?_) (fun hm=>?_)
 ·rw [Bool.not_eq_true'] at hm
  exact retV fun E=>by rw [den_c,den_v,chkE_may hm]
 rw [Bool.not_eq_false'] at hm
 refine callV (.c (.bo (pB (IsO xs o)))) _ (fun E=>rfl) (fun E a w' hs=>isorder_calls w' _ _ xs o (arr_at (d:=cl0) hs 0 rfl) (arr_at (d:=0) hs 1 rfl)) ?_
 simp (maxSteps:=2000000) only [go_sem,↓reduceIte,Nat.reduceLT,Nat.reduceLeDiff,Nat.reduceAdd,Nat.reduceSub,Nat.reduceMul,Nat.reduceEqDiff,reduceCtorEq,Int.reduceToNat,Int.reduceEq,Int.reduceBEq,Int.reduceBNe,Int.reduceLT,Int.reduceLE,Int.reduceNeg,Int.reduceAdd,Int.reduceSub,Int.reduceMul,Int.reduceGE,Int.reduceGT,Cl.enc,iv,endO]
 refine both (fun ho=>?_) (fun ho=>?_)
 ·rw [Bool.not_eq_true'] at ho
  exact retV fun E=>by rw [den_c,den_v,chkE_ord hm ho]
 rw [Bool.not_eq_false'] at ho
 have hO:=pB_t.1 ho
 refine callV (.c (.bo (pB (InT xs o)))) _ (fun E=>rfl) (fun E a w' hs=>intime_calls w' _ _ xs o (arr_at (d:=cl0) hs 0 rfl) (arr_at (d:=0) hs 1 rfl) (fun n hn=>⟨(hO.ok n hn).1,(hO.ok n hn).2.1⟩)) ?_
 simp (maxSteps:=2000000) only [go_sem,↓reduceIte,Nat.reduceLT,Nat.reduceLeDiff,Nat.reduceAdd,Nat.reduceSub,Nat.reduceMul,Nat.reduceEqDiff,reduceCtorEq,Int.reduceToNat,Int.reduceEq,Int.reduceBEq,Int.reduceBNe,Int.reduceLT,Int.reduceLE,Int.reduceNeg,Int.reduceAdd,Int.reduceSub,Int.reduceMul,Int.reduceGE,Int.reduceGT,Cl.enc,iv,endO]
 refine both (fun ht=>?_) (fun ht=>?_)
 ·rw [Bool.not_eq_true'] at ht
  exact retV fun E=>by rw [den_c,den_v,chkE_tim hm ho ht]
 rw [Bool.not_eq_false'] at ht
 have hl:=hO.len
 refine callB 5 (pokT (playM mc0 0 (lineO xs o))) (mcR (plM (playM mc0 0 (lineO xs o)))) (fun E a w' hs=>rplayO (N:=xs.length) (by omega) (arr_at (d:=cl0) hs 0 rfl) (arr_at (d:=0) hs 1 rfl) hl hO.ok) ?_
 simp (maxSteps:=2000000) only [go_sem,↓reduceIte,Nat.reduceLT,Nat.reduceLeDiff,Nat.reduceAdd,Nat.reduceSub,Nat.reduceMul,Nat.reduceEqDiff,reduceCtorEq,Int.reduceToNat,Int.reduceEq,Int.reduceBEq,Int.reduceBNe,Int.reduceLT,Int.reduceLE,Int.reduceNeg,Int.reduceAdd,Int.reduceSub,Int.reduceMul,Int.reduceGE,Int.reduceGT,Cl.enc,iv,endO,pokT,mcS,mcR,mcA]
 have hp:plOk (playM mc0 0 (lineO xs o))=decide ((playM mc0 0 (lineO xs o)).2 = -1):=rfl
 rw [chkE_pl hm ho ht,hp]
 by_cases e:(playM mc0 0 (lineO xs o)).2 = -1
 ·simp only [e,decide_true,if_true]
  exact retV fun E=>by rw [den_c,den_v]
 ·simp only [e,decide_false,if_false]
  exact retV fun E=>by rw [den_c,den_v]
def latK (xs:List Cl) (o:List Int):Nat→Int
 | 0=>-1
 | k+1=>if (cAt xs (o.getD k 0)).beg>latK xs o k then (cAt xs (o.getD k 0)).beg else latK xs o k
theorem latK_ge {xs:List Cl} {o:List Int}:∀ {k a:Nat},a<k→(cAt xs (o.getD a 0)).beg≤latK xs o k
 | 0,a,h=>by omega
 | k+1,a,h=>by
  simp only [latK]
  by_cases e:a=k
  ·subst e;split <;> omega
  ·have:=latK_ge (xs:=xs) (o:=o) (show a<k by omega)
   split <;> omega
theorem latK_ex {xs:List Cl} {o:List Int}:∀ {k:Nat},latK xs o k = -1∨∃ a,a<k∧latK xs o k=(cAt xs (o.getD a 0)).beg
 | 0=>Or.inl rfl
 | k+1=>by
  simp only [latK]
  split
  ·exact Or.inr ⟨k,by omega,rfl⟩
  ·rcases latK_ex (xs:=xs) (o:=o) (k:=k) with h | ⟨a,h1,h2⟩
   ·exact Or.inl h
   ·exact Or.inr ⟨a,by omega,h2⟩
theorem line_succ {xs:List Cl} {o:List Int} {k:Nat} (h:k<o.length):lineO xs (o.take (k+1))=lineO xs (o.take k)++[cAt xs (o.getD k 0)]:=by
 rw [take_succ' h];simp [lineO]
theorem fin_pos {xs:List Cl} (hm:mayP xs) {n:Int} (h:0≤n∧n<xs.length):(cAt xs n).fin = -1∨0≤(cAt xs n).fin:=by
 have h1:=hm.1.shaped n.toNat (by omega)
 simp only [shapedB,decide_eq_true_eq] at h1
 simp only [cAt]
 by_cases e:(xs.getD n.toNat cl0).fin = -1
 ·exact Or.inl e
 ·have:=h1.1.2.2.2 e
  exact Or.inr (by omega)
theorem playM_sgn:∀ (cs:List Cl) (m:MC) (i:Nat),(playM m i cs).2 = -1∨0≤(playM m i cs).2
 | [],m,i=>Or.inl rfl
 | c :: r,m,i=>by
  simp only [playM]
  split
  ·exact playM_sgn r _ _
  ·exact Or.inr (by simp)
def stN (l:List Int) (e:Int):Int:=if e∈l then 1 else 0
def stF (l:List Int) (e:Nat):List SC:=[.v (.int .i64 (stN l e))]
set_option maxRecDepth 100000 in
set_option maxHeartbeats 400000 in
theorem look_calls (w:World) (v v' : Value) (xs:List Cl) (o:List Int) (hsz:xs.length * 72≤140737488355328) (h:Arr w Cl.enc 9 v xs) (h' : Arr w eI 1 v' o):Calls Try.prog 54 #[v,v'] w (RetB w (fun _=>True) 5 (lkT (chkE xs o)) (mcR (chkM xs o))):=by
 have hlen':=Z.Arr.lenM h'
 simp only [maxLen] at hlen'
 refine enter2 (A:=[]) (c:=ir54) (rs:=rs54) (nt:=nt54) cl0 cl_ok h 0 eI_ok h' [.c (.xv (0,0,0)),.c (.xv (1,0,0))] _ Try.func54 rfl (by kernel_rfl) (by kernel_rfl) rfl (fun E' h0 h1=>by simp [SV.den,SC.den,h0,h1]) (of_decide_eq_true rfl) ?_
 simp (maxSteps:=2000000) only [ir54,nt54,rs54,go_sem,↓reduceIte,Nat.reduceLT,Nat.reduceLeDiff,Nat.reduceAdd,Nat.reduceSub,Nat.reduceMul,Nat.reduceEqDiff,reduceCtorEq,Int.reduceToNat,Int.reduceEq,Int.reduceBEq,Int.reduceBNe,Int.reduceLT,Int.reduceLE,Int.reduceNeg,Int.reduceAdd,Int.reduceSub,Int.reduceMul,Int.reduceGE,Int.reduceGT,Cl.enc,iv,endO]
 refine callV (.c (.bo (mayQ xs))) _ (fun E=>rfl) (fun E a w' hs=>mayW w' _ xs (arr_at (d:=cl0) hs 0 rfl)) ?_
 simp (maxSteps:=2000000) only [go_sem,↓reduceIte,Nat.reduceLT,Nat.reduceLeDiff,Nat.reduceAdd,Nat.reduceSub,Nat.reduceMul,Nat.reduceEqDiff,reduceCtorEq,Int.reduceToNat,Int.reduceEq,Int.reduceBEq,Int.reduceBNe,Int.reduceLT,Int.reduceLE,Int.reduceNeg,Int.reduceAdd,Int.reduceSub,Int.reduceMul,Int.reduceGE,Int.reduceGT,Cl.enc,iv,endO]
 refine both (fun hm=>?_) (fun hm=>?_)
 ·rw [Bool.not_eq_true'] at hm
  have e1:=chkE_may (o:=o) hm
  rw [e1,chkM_0 (by rw [e1];decide)]
  exact retB5 _ _ _ _ _ rdN_nil rdN_nil rdN_nil rdN_nil rdN_nil (lkT_ok _ _ _ _ _ 120)
 rw [Bool.not_eq_false'] at hm
 repeat (with_reducible refine And.intro (by first | (simp only [maxLen];omega) | omega | decide | (simp;done) | (simp [maxLen];omega)) ?_)
 refine loopI (ι:={ i:Nat // i≤o.length∧IsO1 xs o i }) (fun i=>⟨136,[(0,.c (.xv (0,0,0))),(1,.c (.xv (1,0,0))),(4,.c (.ptr (2,0,0) 0)),(6,.c (.sl (3,0,0) 1 0 xs.length none)),(26,.c (.xv (1,0,0))),(27,.c (.v (.int .i64 o.length))),(28,.c (.v (.int .i64 (i.1:Nat))))],
  [(2,.one (.bk nil5 70)),(3,.one (.ar xs.length 1 (stF (o.take i.1)) 3))],[(0,.one (arrOf Cl.enc 9 xs cl0)),(1,.one (arrOf eI 1 o 0))],[],4⟩)
  (fun i=>o.length - i.1) ⟨0,by omega,by simp [IsO1]⟩ ?_ ?_
 ·simp only [nil5]
  exact le_ren id rfl rfl (by simp [TmpsLe,look,SV.ren,SC.ren,SC.renL,ren1L,ren1,idσ,SV.okN,SC.okN,SC.okL,ok1L]) (by simp [OwnLe,BlkLeO,BlkLe,atN,look,Fm.get,idσ,SC.renL,SC.ren,SC.okL,SC.okN,stF,stN]) (by simp [ArrsLe,ArrLeO,atN,look,Fm.get,idσ,arrLe_of,arrLe_0]) rfl
 rintro ⟨i,hi,hg⟩
 simp (maxSteps:=2000000) only [go_sem,↓reduceIte,Nat.reduceLT,Nat.reduceLeDiff,Nat.reduceAdd,Nat.reduceSub,Nat.reduceMul,Nat.reduceEqDiff,reduceCtorEq,Int.reduceToNat,Int.reduceEq,Int.reduceBEq,Int.reduceBNe,Int.reduceLT,Int.reduceLE,Int.reduceNeg,Int.reduceAdd,Int.reduceSub,Int.reduceMul,Int.reduceGE,Int.reduceGT,Cl.enc,iv,endO,eI,nil5]
 refine both (fun hlt=>?_) (fun hge=>?_)
 ·rw [decide_eq_true_eq] at hlt
  have hlt:i<o.length:=by omega
  have hfst:=fun h:IsO xs o=>h.fst hlt
  have hstep:=IsO1.step hg hlt
  have htk:=take_succ' hlt
  generalize hn:o.getD i 0=n at hfst hstep htk ⊢
  refine ⟨hlt,hlt,fun h=>?_,fun h=>?_,?_⟩
  ·simp only [b_decR,b_decL,bt_ite,bf_ite,bt_dec,bf_dec,bt_int,bf_int,bt_nint,bf_nint,bt_bool,bf_bool,bt_nbool,bf_nbool,bt_not,bf_not,bt_and,bf_and,bt_or,bf_or,Bool.false_eq_true,Bool.true_eq_false,Bool.not_eq_true,Bool.not_eq_false,reduceCtorEq,false_iff,true_iff,iff_false,iff_true,and_true,true_and,and_false,false_and,or_true,true_or,or_false,false_or,not_true_eq_false,not_false_eq_true,ne_eq] at h;omega
  ·simp only [b_decR,b_decL,bt_ite,bf_ite,bt_dec,bf_dec,bt_int,bf_int,bt_nint,bf_nint,bt_bool,bf_bool,bt_nbool,bf_nbool,bt_not,bf_not,bt_and,bf_and,bt_or,bf_or,Bool.false_eq_true,Bool.true_eq_false,Bool.not_eq_true,Bool.not_eq_false,reduceCtorEq,false_iff,true_iff,iff_false,iff_true,and_true,true_and,and_false,false_and,or_true,true_or,or_false,false_or,not_true_eq_false,not_false_eq_true,ne_eq] at h;omega
  refine guardW (.c (.bo (cntB (cAt xs n)))) _ (fun E=>rfl) (fun E a w' _=>counts_calls w' (cAt xs n)) ?_
  simp (maxSteps:=2000000) only [go_sem,↓reduceIte,Nat.reduceLT,Nat.reduceLeDiff,Nat.reduceAdd,Nat.reduceSub,Nat.reduceMul,Nat.reduceEqDiff,reduceCtorEq,Int.reduceToNat,Int.reduceEq,Int.reduceBEq,Int.reduceBNe,Int.reduceLT,Int.reduceLE,Int.reduceNeg,Int.reduceAdd,Int.reduceSub,Int.reduceMul,Int.reduceGE,Int.reduceGT,Cl.enc,iv,endO,stF]
  refine ⟨fun h=>?_,fun h=>?_,fun hb=>?_,fun hb=>?_⟩
  ·cases hc:cntB (cAt xs n) <;> simp only [b_decR,b_decL,bt_ite,bf_ite,bt_dec,bf_dec,bt_int,bf_int,bt_nint,bf_nint,bt_bool,bf_bool,bt_nbool,bf_nbool,bt_not,bf_not,bt_and,bf_and,bt_or,bf_or,Bool.false_eq_true,Bool.true_eq_false,Bool.not_eq_true,Bool.not_eq_false,reduceCtorEq,false_iff,true_iff,iff_false,iff_true,and_true,true_and,and_false,false_and,or_true,true_or,or_false,false_or,not_true_eq_false,not_false_eq_true,ne_eq,hc] at h <;> omega
  ·cases hc:cntB (cAt xs n) <;> simp only [b_decR,b_decL,bt_ite,bf_ite,bt_dec,bf_dec,bt_int,bf_int,bt_nint,bf_nint,bt_bool,bf_bool,bt_nbool,bf_nbool,bt_not,bf_not,bt_and,bf_and,bt_or,bf_or,Bool.false_eq_true,Bool.true_eq_false,Bool.not_eq_true,Bool.not_eq_false,reduceCtorEq,false_iff,true_iff,iff_false,iff_true,and_true,true_and,and_false,false_and,or_true,true_or,or_false,false_or,not_true_eq_false,not_false_eq_true,ne_eq,hc] at h <;> omega
  ·have e1:chkE xs o=121:=chkE_ord hm (pB_f.2 fun ho=>by
    obtain ⟨⟨h1,h2,h3⟩,h4⟩:=hfst ho
    rw [Int.toNat_of_nonneg h1] at hb
    simp only [b_decR,b_decL,bt_ite,bf_ite,bt_dec,bf_dec,bt_int,bf_int,bt_nint,bf_nint,bt_bool,bf_bool,bt_nbool,bf_nbool,bt_not,bf_not,bt_and,bf_and,bt_or,bf_or,Bool.false_eq_true,Bool.true_eq_false,Bool.not_eq_true,Bool.not_eq_false,reduceCtorEq,false_iff,true_iff,iff_false,iff_true,and_true,true_and,and_false,false_and,or_true,true_or,or_false,false_or,not_true_eq_false,not_false_eq_true,ne_eq,h3,stN,if_neg h4] at hb
    omega)
   rw [e1,chkM_0 (by rw [e1];decide)]
   exact retB5 _ _ _ _ _ rdN_nil rdN_nil rdN_nil rdN_nil rdN_nil (lkT_ok _ _ _ _ _ 121)
  ·have h0:0≤n∧n<xs.length∧cntB (cAt xs n)=true:=by
    cases hc:cntB (cAt xs n) with
    | true=>simp only [b_decR,b_decL,bt_ite,bf_ite,bt_dec,bf_dec,bt_int,bf_int,bt_nint,bf_nint,bt_bool,bf_bool,bt_nbool,bf_nbool,bt_not,bf_not,bt_and,bf_and,bt_or,bf_or,Bool.false_eq_true,Bool.true_eq_false,Bool.not_eq_true,Bool.not_eq_false,reduceCtorEq,false_iff,true_iff,iff_false,iff_true,and_true,true_and,and_false,false_and,or_true,true_or,or_false,false_or,not_true_eq_false,not_false_eq_true,ne_eq,hc] at hb;exact ⟨by omega,by omega,rfl⟩
    | false=>simp [hc] at hb
   have h4:n ∉ o.take i:=fun hin=>by
    rw [Int.toNat_of_nonneg h0.1] at hb
    simp only [b_decR,b_decL,bt_ite,bf_ite,bt_dec,bf_dec,bt_int,bf_int,bt_nint,bf_nint,bt_bool,bf_bool,bt_nbool,bf_nbool,bt_not,bf_not,bt_and,bf_and,bt_or,bf_or,Bool.false_eq_true,Bool.true_eq_false,Bool.not_eq_true,Bool.not_eq_false,reduceCtorEq,false_iff,true_iff,iff_false,iff_true,and_true,true_and,and_false,false_and,or_true,true_or,or_false,false_or,not_true_eq_false,not_false_eq_true,ne_eq,h0.2.2,stN,if_pos hin] at hb
    omega
   repeat (with_reducible refine And.intro (by first | (simp only [maxLen];omega) | omega | decide | (simp;done) | (simp [maxLen];omega)) ?_)
   rw [wr_succ (by omega)]
   refine backI ⟨i+1,by omega,hstep h0 h4⟩ (by simp only;omega) (le_ren id rfl rfl (by simp [TmpsLe,look,SV.ren,SC.ren,SC.renL,ren1L,ren1,idσ,SV.okN,SC.okN,SC.okL,ok1L]) ⟨⟨of_decide_eq_true rfl,by simp [BlkLeO,BlkLe,atN,look,Fm.get,idσ,nil5,SC.renL,SC.ren,SC.okL,SC.okN]⟩,⟨of_decide_eq_true rfl,Nat.le_refl _,rfl,rfl,fun e he=>?_⟩,trivial⟩ (by simp [ArrsLe,ArrLeO,atN,look,Fm.get,idσ,arrLe_of,arrLe_0]) rfl)
   simp only [htk,setAt,stF,SC.renL,SC.ren,SC.okL,SC.okN,and_true,drop',take',List.nil_append]
   by_cases e1:e=n.toNat
   ·subst e1
    rw [Int.toNat_of_nonneg h0.1,if_pos rfl]
    simp [stN,h4]
    decide
   ·have e2:¬ (e:Int)=n:=by omega
    rw [if_neg e1]
    simp [stN,e2]
 ·rw [decide_eq_false_iff_not] at hge
  have hin:i=o.length:=by omega
  subst hin
  rw [List.take_length]
  refine loopI (ι:={ i:Nat // i≤xs.length∧IsO2 xs o i }) (fun i=>⟨136,[(0,.c (.xv (0,0,0))),(1,.c (.xv (1,0,0))),(4,.c (.ptr (2,0,0) 0)),(6,.c (.sl (3,0,0) 1 0 xs.length none)),(63,.c (.xv (0,0,0))),(64,.c (.v (.int .i64 xs.length))),(65,.c (.v (.int .i64 (i.1:Nat))))],
   [(2,.one (.bk nil5 70)),(3,.one (.ar xs.length 1 (stF o) 3))],[(0,.one (arrOf Cl.enc 9 xs cl0)),(1,.one (arrOf eI 1 o 0))],[],4⟩)
   (fun i=>xs.length - i.1) ⟨0,by omega,fun k hk=>by omega⟩ ?_ ?_
  ·simp only [nil5]
   exact le_ren id rfl rfl (by simp [TmpsLe,look,SV.ren,SC.ren,SC.renL,ren1L,ren1,idσ,SV.okN,SC.okN,SC.okL,ok1L]) (by simp [OwnLe,BlkLeO,BlkLe,atN,look,Fm.get,idσ,SC.renL,SC.ren,SC.okL,SC.okN,stF]) (by simp [ArrsLe,ArrLeO,atN,look,Fm.get,idσ,arrLe_of,arrLe_0]) rfl
  rintro ⟨k,hk,hg2⟩
  simp (maxSteps:=2000000) only [go_sem,↓reduceIte,Nat.reduceLT,Nat.reduceLeDiff,Nat.reduceAdd,Nat.reduceSub,Nat.reduceMul,Nat.reduceEqDiff,reduceCtorEq,Int.reduceToNat,Int.reduceEq,Int.reduceBEq,Int.reduceBNe,Int.reduceLT,Int.reduceLE,Int.reduceNeg,Int.reduceAdd,Int.reduceSub,Int.reduceMul,Int.reduceGE,Int.reduceGT,Cl.enc,iv,endO,nil5]
  refine both (fun hlt=>?_) (fun hge=>?_)
  ·rw [decide_eq_true_eq] at hlt
   have hlt:k<xs.length:=by omega
   generalize hck:xs.getD k cl0=ck
   repeat (with_reducible refine And.intro (by first | (simp only [maxLen];omega) | omega | decide | (simp;done) | (simp [maxLen];omega)) ?_)
   refine callV (.c (.bo (cntB ck))) _ (fun E=>rfl) (fun E a w' _=>counts_calls w' ck) ?_
   simp (maxSteps:=2000000) only [go_sem,↓reduceIte,Nat.reduceLT,Nat.reduceLeDiff,Nat.reduceAdd,Nat.reduceSub,Nat.reduceMul,Nat.reduceEqDiff,reduceCtorEq,Int.reduceToNat,Int.reduceEq,Int.reduceBEq,Int.reduceBNe,Int.reduceLT,Int.reduceLE,Int.reduceNeg,Int.reduceAdd,Int.reduceSub,Int.reduceMul,Int.reduceGE,Int.reduceGT,Cl.enc,iv,endO,stF]
   rw [wr_succ (by omega)]
   refine ⟨fun _=>⟨hlt,Nat.le_refl _⟩,fun _=>hlt,fun hb=>?_,fun hb=>?_⟩
   ·have hb:(cntB ck=true∧ck.fin≠-1)∧stN o k=0:=by simpa using hb
    have e1:chkE xs o=121:=chkE_ord hm (pB_f.2 fun ho=>by
     have:=ho.all k hlt (by rw [hck];exact hb.1.1) (by rw [hck];exact hb.1.2)
     have h2:=hb.2
     simp [stN,this] at h2)
    rw [e1,chkM_0 (by rw [e1];decide)]
    exact retB5 _ _ _ _ _ rdN_nil rdN_nil rdN_nil rdN_nil rdN_nil (lkT_ok _ _ _ _ _ 121)
   ·refine backI ⟨k+1,by omega,fun j hj h1 h2=>?_⟩ (by simp only;omega) (le_ren id rfl rfl (by simp [TmpsLe,look,SV.ren,SC.ren,SC.renL,ren1L,ren1,idσ,SV.okN,SC.okN,SC.okL,ok1L]) (by simp [OwnLe,BlkLeO,BlkLe,atN,look,Fm.get,idσ,nil5,SC.renL,SC.ren,SC.okL,SC.okN,stF]) (by simp [ArrsLe,ArrLeO,atN,look,Fm.get,idσ,arrLe_of,arrLe_0]) rfl)
    by_cases e:j=k
    ·subst e
     rw [hck] at h1 h2
     by_cases hin:(j:Int)∈o
     ·exact hin
     ·simp [h1,h2,stN,hin] at hb
    ·exact hg2 j (by omega) h1 h2
  ·rw [decide_eq_false_iff_not] at hge
   have hkn:k=xs.length:=by omega
   subst hkn
   have hO:IsO xs o:=by
    have hg1:=hg
    unfold IsO1 at hg1
    rw [List.take_length] at hg1
    exact ⟨hg1.1,hg1.2,hg2⟩
   have ho:=pB_t.2 hO
   have hl:=hO.len
   refine loopI (ι:={ i:Nat // i≤o.length∧InT1 xs o i }) (fun i=>⟨136,[(0,.c (.xv (0,0,0))),(4,.c (.ptr (2,0,0) 0)),(11,.c (.sl (3,0,0) 9 0 (lineO xs (o.take i.1)).length none)),(12,.c (.v (.int .i64 (latK xs o i.1)))),(86,.c (.xv (1,0,0))),(87,.c (.v (.int .i64 o.length))),(88,.c (.v (.int .i64 (i.1:Nat))))],
    [(2,.one (.bk nil5 70)),(3,.one (.ar (lineO xs (o.take i.1)).length 9 (ats Cl.enc (lineO xs (o.take i.1)) cl0) 53))],[(0,.one (arrOf Cl.enc 9 xs cl0)),(1,.one (arrOf eI 1 o 0))],[],4⟩)
    (fun i=>o.length - i.1) ⟨0,by omega,fun a b _ hb=>by omega⟩ ?_ ?_
   ·refine le_tr (le_nilown (tmps':=[(0,.c (.xv (0,0,0))),(4,.c (.ptr (2,0,0) 0)),(11,.c (.sl (4,0,0) 9 0 0 none)),(12,.c (.v (.int .i64 (-1)))),(86,.c (.xv (1,0,0))),(87,.c (.v (.int .i64 o.length))),(88,.c (.v (.int .i64 0)))]) 9 53 (ats Cl.enc [] cl0) (by simp [TmpsNil,look]) rfl) ?_
    exact le_ren (fun i=>if i=3 then 4 else i) rfl rfl (by simp [TmpsLe,look,SV.ren,SC.ren,idσ,SV.okN,SC.okN,lineO,latK]) (by simp [OwnLe,BlkLeO,BlkLe,atN,look,Fm.get,idσ,nil5,SC.renL,SC.ren,SC.okL,SC.okN,lineO]) (by simp [ArrsLe,ArrLeO,atN,look,Fm.get,idσ,arrLe_of,arrLe_0]) rfl
   rintro ⟨i,hi,hgi⟩
   have hll:(lineO xs (o.take i)).length=i:=by rw [line_len,List.length_take];omega
   simp (maxSteps:=2000000) only [go_sem,↓reduceIte,Nat.reduceLT,Nat.reduceLeDiff,Nat.reduceAdd,Nat.reduceSub,Nat.reduceMul,Nat.reduceEqDiff,reduceCtorEq,Int.reduceToNat,Int.reduceEq,Int.reduceBEq,Int.reduceBNe,Int.reduceLT,Int.reduceLE,Int.reduceNeg,Int.reduceAdd,Int.reduceSub,Int.reduceMul,Int.reduceGE,Int.reduceGT,Cl.enc,iv,endO,nil5,eI]
   refine both (fun hlt=>?_) (fun hge=>?_)
   ·rw [decide_eq_true_eq] at hlt
    have hlt:i<o.length:=by omega
    have hon:=hO.ok _ (getD_mem (d:=0) hlt)
    have hfp:=fin_pos (mayQ_iff.1 hm) ⟨hon.1,hon.2.1⟩
    have hls:=line_succ (xs:=xs) hlt
    repeat (with_reducible refine And.intro (by first | (simp only [maxLen];omega) | omega | decide | (simp;done) | (simp [maxLen];omega)) ?_)
    change ((if ((cAt xs (o.getD i 0)).fin != -1)=true then decide ((cAt xs (o.getD i 0)).fin<latK xs o i) else false)=true→_)∧((if ((cAt xs (o.getD i 0)).fin != -1)=true then decide ((cAt xs (o.getD i 0)).fin<latK xs o i) else false)=false→_)
    refine both (fun hb=>?_) (fun hb=>?_)
    ·have hb:(cAt xs (o.getD i 0)).fin≠-1∧(cAt xs (o.getD i 0)).fin<latK xs o i:=by simpa using hb
     have e1:chkE xs o=122:=chkE_tim hm ho (pB_f.2 fun ht=>by
      rw [inT_iff] at ht
      rcases latK_ex (xs:=xs) (o:=o) (k:=i) with e | ⟨a,h1,h2⟩
      ·have:=hfp;omega
      ·have:=ht a i h1 hlt
       simp only [aheadB] at this
       rw [if_pos (by simpa using hb.1)] at this
       simp only [decide_eq_false_iff_not] at this
       omega)
     rw [e1,chkM_0 (by rw [e1];decide)]
     exact retB5 _ _ _ _ _ rdN_nil rdN_nil rdN_nil rdN_nil rdN_nil (lkT_ok _ _ _ _ _ 122)
    ·have hf:=fit_app ((lineO xs (o.take i)).length+1) (by rw [hll];omega)
     have hml:(lineO xs (o.take i)).length+1≤maxLen:=by rw [hll];simp only [maxLen];omega
     refine And.intro ⟨hon.1,hon.2.1⟩ (And.intro (by omega) (And.intro (by omega) (And.intro ⟨hon.1,hon.2.1⟩ (And.intro (by omega) (And.intro (by decide) (And.intro ⟨Nat.le_refl _,hf,hml⟩ ?_))))))
     clear hf hml
     rw [wr_succ (by omega)]
     have hlat:latK xs o (i+1)=if (cAt xs (o.getD i 0)).beg>latK xs o i then (cAt xs (o.getD i 0)).beg else latK xs o i:=rfl
     refine backI ⟨i+1,by omega,fun a b hab hbi=>?_⟩ (by simp only;omega) (le_ren (fun i=>if i=3 then 6 else i) rfl rfl (by simp [TmpsLe,look,SV.ren,SC.ren,SC.renL,idσ,SV.okN,SC.okN,hlat,hls,cAt]) ⟨⟨of_decide_eq_true rfl,by simp [BlkLeO,BlkLe,atN,look,Fm.get,idσ,nil5,SC.renL,SC.ren,SC.okL,SC.okN]⟩,⟨of_decide_eq_true rfl,arLe_of (by simp [hls]) (ats_push hls rfl (fun e he=>rfl) rfl)⟩,trivial⟩ (by simp [ArrsLe,ArrLeO,atN,look,Fm.get,idσ,arrLe_of,arrLe_0]) rfl)
     by_cases e:b=i
     ·subst e
      simp only [aheadB]
      split
      ·next hne =>
       rw [if_pos (by simpa using hne),decide_eq_false_iff_not] at hb
       have:=latK_ge (xs:=xs) (o:=o) hab
       simp only [decide_eq_false_iff_not]
       omega
      ·rfl
     ·exact hgi a b hab (by omega)
   ·rw [decide_eq_false_iff_not] at hge
    have hin:i=o.length:=by omega
    subst hin
    rw [List.take_length]
    have ht:=pB_t.2 (inT_iff.2 hgi)
    have hops:∀ k,k<(lineO xs o).length→objOf ((lineO xs o).getD k cl0).op≠0:=fun k hk=>by
     rw [line_len] at hk
     rw [line_at hk]
     have:=(hO.ok _ (getD_mem (d:=0) hk)).2.2
     simpa [cntB] using this
    have hpl:∀ {E:Env} {S:St} {a:Act} {w' : World} {C:Ctx},Sat C.B C.W C.w0 E S a w'→look S.own 3=some (.one (.ar (lineO xs o).length 9 (ats Cl.enc (lineO xs o) cl0) 53)) →
     Calls Try.prog 71 #[.agg #[.slice none 0 0,.slice none 0 0,.slice none 0 0,.slice none 0 0,.slice none 0 0],(SC.sl (3,0,0) 9 0 (lineO xs o).length none).den E] w' (RetB w' (fun _=>True) 5 (plT (playM mc0 0 (lineO xs o))) (mcR (playM mc0 0 (lineO xs o)).1)):=fun {E S a w' C} hs h5 =>
     play_Z (w:=w') (N:=xs.length) (cont_0 w') (by simp [MC.upto,mc0]) (by omega) mc0_may (own_at (d:=cl0) hs 3 (lineO xs o).length h5 rfl) (by rw [line_len];exact hl) hops
    have e1:=chkE_pl hm ho ht
    have e2:=chkM_pl hm ho ht
    have hsg:=playM_sgn (lineO xs o) mc0 0
    rw [e1,e2]
    generalize playM mc0 0 (lineO xs o)=p at hpl hsg ⊢
    obtain ⟨m',q⟩:=p
    simp only at hsg
    refine callL 5 (plT (m',q)) (mcR m') (mcR_sz m') (fun E a w' hs=>by
     have:=hpl hs rfl
     show Calls Try.prog _ _ _ _
     simpa [SV.den,SC.den] using this) ?_
    simp (maxSteps:=2000000) only [go_sem,↓reduceIte,Nat.reduceLT,Nat.reduceLeDiff,Nat.reduceAdd,Nat.reduceSub,Nat.reduceMul,Nat.reduceEqDiff,reduceCtorEq,Int.reduceToNat,Int.reduceEq,Int.reduceBEq,Int.reduceBNe,Int.reduceLT,Int.reduceLE,Int.reduceNeg,Int.reduceAdd,Int.reduceSub,Int.reduceMul,Int.reduceGE,Int.reduceGT,Cl.enc,iv,endO,plT,mcS,low_mcR,mcA,mkC_B]
    by_cases hq:q = -1
    ·subst hq
     refine both (fun hb=>?_) (fun hb=>?_)
     ·simp at hb
     simp only [plM,if_true]
     exact retB5 _ _ _ _ _ (rdN_lo 4 rfl (Nat.le_refl _)) (rdN_lo 5 rfl (Nat.le_refl _)) (rdN_lo 6 rfl (Nat.le_refl _)) (rdN_lo 7 rfl (Nat.le_refl _)) (rdN_lo 8 rfl (Nat.le_refl _)) (lkT_ok _ _ _ _ _ 0)
    ·refine both (fun hb=>?_) (fun hb=>?_)
     ·simp only [plM,if_neg hq]
      exact retB5 _ _ _ _ _ rdN_nil rdN_nil rdN_nil rdN_nil rdN_nil (lkT_ok _ _ _ _ _ 123)
     ·simp at hb
      omega
def E3 (v0 v1 v2:Value):Env:=⟨fun _=>0,fun _=>0,fun _=>false,fun x=>if x.1=2 then v2 else if x.1=1 then v1 else v0⟩
set_option maxRecDepth 100000 in
set_option maxHeartbeats 400000 in
theorem check_calls (w:World) (v v' : Value) (xs:List Cl) (o:List Int) (hsz:xs.length * 72≤140737488355328) (h:Arr w Cl.enc 9 v xs) (h' : Arr w eI 1 v' o):Calls Try.prog 35 #[v,v'] w (RetV w (.int .i64 (chkE xs o))):=by
 refine enter2 (A:=[]) (c:=ir35) (rs:=rs35) (nt:=nt35) cl0 cl_ok h 0 eI_ok h' [.c (.xv (0,0,0)),.c (.xv (1,0,0))] _ Try.func35 rfl (by kernel_rfl) (by kernel_rfl) rfl (fun E' h0 h1=>by simp [SV.den,SC.den,h0,h1]) (of_decide_eq_true rfl) ?_
 simp (maxSteps:=2000000) only [ir35,nt35,rs35,go_sem,↓reduceIte,Nat.reduceLT,Nat.reduceLeDiff,Nat.reduceAdd,Nat.reduceSub,Nat.reduceMul,Nat.reduceEqDiff,reduceCtorEq,Int.reduceToNat,Int.reduceEq,Int.reduceBEq,Int.reduceBNe,Int.reduceLT,Int.reduceLE,Int.reduceNeg,Int.reduceAdd,Int.reduceSub,Int.reduceMul,Int.reduceGE,Int.reduceGT,Cl.enc,iv,endO]
 refine callB 5 (lkT (chkE xs o)) (mcR (chkM xs o)) (fun E a w' hs=>look_calls w' _ _ xs o hsz (arr_at (d:=cl0) hs 0 rfl) (arr_at (d:=0) hs 1 rfl)) ?_
 simp (maxSteps:=2000000) only [go_sem,↓reduceIte,Nat.reduceLT,Nat.reduceLeDiff,Nat.reduceAdd,Nat.reduceSub,Nat.reduceMul,Nat.reduceEqDiff,reduceCtorEq,Int.reduceToNat,Int.reduceEq,Int.reduceBEq,Int.reduceBNe,Int.reduceLT,Int.reduceLE,Int.reduceNeg,Int.reduceAdd,Int.reduceSub,Int.reduceMul,Int.reduceGE,Int.reduceGT,Cl.enc,iv,endO,lkT,mcS,mcR,mcA]
 exact retV fun E=>by rw [den_c,den_v]
end Go.Proofs.Ytkjeedlkkpgopaa.Z
namespace Go.Proofs.Ytkjeedlkkpgopaa.Z
open Go Go.RowKit
theorem objL (op:Int) (w:World):Calls Try.prog 33 #[.int .i64 op] w (RetV w (.int .i64 (objOf op))):=(lObject op w).mono fun e w' h=>⟨h.1,h.2 ▸ Below.refl _ _⟩
def ir31:IR:=(.seq (.ops [⟨(some 2),(.mv (.k (.c (.v (.bool false))))),none⟩]) (.kill [1,2,3,4,5,6,7,8,9,10,11] (.seq (.ops [⟨(some 3),(.mv (.k (.c (.v (.int .i64 0))))),none⟩]) (.seq (.seq (.ops [⟨(some 4),(.mv (.k (.c (.v (.int .i64 0))))),none⟩]) (.blk 0 (.loop (.seq (.seq (.ops [⟨(some 5),(.mv (.t 4)),none⟩,⟨(some 6),(.mv (.t 0)),none⟩,⟨(some 7),(.len (.t 6)),none⟩,⟨(some 8),(.bin .lss (.t 5) (.t 7)),none⟩]) (.kill [5,6,7,9,10,11,12,13,14,15,16,17,18,19] (.cond (.t 8) .skip (.exit 0)))) (.kill [8] (.seq (.blk 1 (.seq (.ops [⟨(some 11),(.mv (.t 0)),none⟩,⟨(some 12),(.mv (.t 4)),none⟩,⟨(some 13),(.ia 9 (.t 11) (.t 12)),none⟩,⟨(some 14),(.fa 1 (.t 13)),none⟩,⟨(some 15),(.ld false 1 (.t 14)),none⟩,⟨(some 16),(.call 33 [(.t 15)]),none⟩,⟨(some 17),(.bin .neq (.t 16) (.k (.c (.v (.int .i64 0))))),none⟩]) (.kill [11,12,13,14,15,16] (.cond (.t 17) (.ops [⟨(some 18),(.mv (.t 3)),none⟩,⟨(some 19),(.bin .add (.t 18) (.k (.c (.v (.int .i64 1))))),none⟩,⟨(some 3),(.mv (.t 19)),none⟩]) .skip)))) (.kill [11,12,13,14,15,16,17,18,19] (.ops [⟨(some 9),(.mv (.t 4)),none⟩,⟨(some 10),(.bin .add (.t 9) (.k (.c (.v (.int .i64 1))))),none⟩,⟨(some 4),(.mv (.t 10)),none⟩])))))))) (.kill [4,5,6,7,8,9,10,11,12,13,14,15,16,17,18,19] (.seq (.ops [⟨(some 20),(.mv (.t 3)),none⟩,⟨(some 21),(.bin .leq (.t 20) (.k (.c (.v (.int .i64 8))))),none⟩,⟨(some 22),(.mv (.t 21)),none⟩,⟨(some 23),(.mv (.t 0)),(some (22,true))⟩,⟨(some 24),(.call 16 [(.t 23)]),(some (22,true))⟩,⟨(some 25),(.pick (.t 22) (.t 24) (.k (.c (.v (.bool false))))),none⟩,⟨(some 2),(.mv (.t 25)),none⟩]) (.kill [0,3,20,21,22,23,24,25] .ret)))))))
def rs31:List RS:=[(.t 2)]
def nt31:Nat:=26
set_option maxRecDepth 100000 in
set_option maxHeartbeats 400000 in
theorem searched_calls (w:World) (v:Value) (xs:List Cl) (hsz:xs.length * 72≤140737488355328) (h:Arr w Cl.enc 9 v xs):Calls Try.prog 31 #[v] w (RetV w (.bool (decide (nsE xs=0)))):=by
 refine enter1 (A:=[]) (c:=ir31) (rs:=rs31) (nt:=nt31) cl0 cl_ok h [.c (.xv (0,0,0))] _ Try.func31 rfl (by kernel_rfl) (by kernel_rfl) rfl (fun E' h0=>by simp [SV.den,SC.den,h0]) (of_decide_eq_true rfl) ?_
 simp (maxSteps:=2000000) only [ir31,nt31,rs31,go_sem,↓reduceIte,Nat.reduceLT,Nat.reduceLeDiff,Nat.reduceAdd,Nat.reduceSub,Nat.reduceMul,Nat.reduceEqDiff,reduceCtorEq,Int.reduceToNat,Int.reduceEq,Int.reduceBEq,Int.reduceBNe,Int.reduceLT,Int.reduceLE,Int.reduceNeg,Int.reduceAdd,Int.reduceSub,Int.reduceMul,Int.reduceGE,Int.reduceGT,Cl.enc,iv,endO]
 refine loopI (ι:={ i:Nat // i≤xs.length }) (fun i=>⟨26,[(0,.c (.xv (0,0,0))),(3,.c (.v (.int .i64 (cidx xs i.1).length))),(4,.c (.v (.int .i64 (i.1:Nat))))],[],[(0,.one (arrOf Cl.enc 9 xs cl0))],[],1⟩)
  (fun i=>xs.length - i.1) ⟨0,by omega⟩ (le_ren id rfl rfl (by simp [TmpsLe,look,SV.ren,SC.ren,idσ,SV.okN,SC.okN,cidx]) (by simp [OwnLe]) (by simp [ArrsLe,ArrLeO,atN,look,Fm.get,idσ,arrLe_of,arrLe_0]) rfl) ?_
 rintro ⟨i,hi⟩
 simp (maxSteps:=2000000) only [go_sem,↓reduceIte,Nat.reduceLT,Nat.reduceLeDiff,Nat.reduceAdd,Nat.reduceSub,Nat.reduceMul,Nat.reduceEqDiff,reduceCtorEq,Int.reduceToNat,Int.reduceEq,Int.reduceBEq,Int.reduceBNe,Int.reduceLT,Int.reduceLE,Int.reduceNeg,Int.reduceAdd,Int.reduceSub,Int.reduceMul,Int.reduceGE,Int.reduceGT,Cl.enc,iv,endO]
 refine both (fun hlt=>?_) (fun hge=>?_)
 ·rw [decide_eq_true_eq] at hlt
  have hlt:i<xs.length:=by omega
  have hcl:=cidx_len xs i
  have hcs:=cidx_succ xs i
  generalize hci:xs.getD i cl0=ci at hcs
  refine And.intro (by omega) (And.intro (by omega) (And.intro (by omega) ?_))
  refine callV (.c (.v (.int .i64 (objOf ci.op)))) _ (fun E=>rfl) (fun E a w' hs=>objL ci.op w') ?_
  simp (maxSteps:=2000000) only [go_sem,↓reduceIte,Nat.reduceLT,Nat.reduceLeDiff,Nat.reduceAdd,Nat.reduceSub,Nat.reduceMul,Nat.reduceEqDiff,reduceCtorEq,Int.reduceToNat,Int.reduceEq,Int.reduceBEq,Int.reduceBNe,Int.reduceLT,Int.reduceLE,Int.reduceNeg,Int.reduceAdd,Int.reduceSub,Int.reduceMul,Int.reduceGE,Int.reduceGT,Cl.enc,iv,endO]
  rw [wr_succ (by omega),wr_succ (by omega)]
  refine both (fun hb=>?_) (fun hb=>?_)
  ·have e:(cidx xs (i+1)).length=(cidx xs i).length+1:=by rw [hcs,if_pos (show cntB ci=true from hb)];simp
   exact backI ⟨i+1,by omega⟩ (by simp only;omega) (le_ren id rfl rfl (by simp [TmpsLe,look,SV.ren,SC.ren,idσ,SV.okN,SC.okN,e]) (by simp [OwnLe]) (by simp [ArrsLe,ArrLeO,atN,look,Fm.get,idσ,arrLe_of,arrLe_0]) rfl)
  ·have e:(cidx xs (i+1)).length=(cidx xs i).length:=by rw [hcs,if_neg (by rw [show cntB ci=false from hb];simp)]
   exact backI ⟨i+1,by omega⟩ (by simp only;omega) (le_ren id rfl rfl (by simp [TmpsLe,look,SV.ren,SC.ren,idσ,SV.okN,SC.okN,e]) (by simp [OwnLe]) (by simp [ArrsLe,ArrLeO,atN,look,Fm.get,idσ,arrLe_of,arrLe_0]) rfl)
 ·rw [decide_eq_false_iff_not] at hge
  have hin:i=xs.length:=by omega
  subst hin
  refine guardW (.c (.bo (mayQ xs))) _ (fun E=>rfl) (fun E a w' hs=>mayR w' _ xs hsz (arr_at (d:=cl0) hs 0 rfl)) ?_
  simp (maxSteps:=2000000) only [go_sem,↓reduceIte,Nat.reduceLT,Nat.reduceLeDiff,Nat.reduceAdd,Nat.reduceSub,Nat.reduceMul,Nat.reduceEqDiff,reduceCtorEq,Int.reduceToNat,Int.reduceEq,Int.reduceBEq,Int.reduceBNe,Int.reduceLT,Int.reduceLE,Int.reduceNeg,Int.reduceAdd,Int.reduceSub,Int.reduceMul,Int.reduceGE,Int.reduceGT,Cl.enc,iv,endO]
  refine retV fun E=>?_
  simp only [SV.den,SC.den]
  congr 1
  unfold nsE
  by_cases e:mayQ xs=true
  ·rw [if_pos e]
   by_cases e2:(cidx xs xs.length).length≤8
   ·rw [if_pos e2];simp [e];omega
   ·rw [if_neg e2];simp [e];omega
  ·rw [if_neg e];simp [e]
end Go.Proofs.Ytkjeedlkkpgopaa.Z
namespace Go.Proofs.Ytkjeedlkkpgopaa.Z
open Go Go.RowKit
def L3:List Cl:=[⟨0,30,1,0,0,9,8,1,0⟩,⟨1,31,0,0,1,3,2,3,0⟩,⟨1,31,0,0,10,14,12,2,1⟩]
theorem l3_lt {P:Nat→Prop} (h0:P 0) (h1:P 1) (h2:P 2):∀ k,k<3→P k
 | 0,_=>h0
 | 1,_=>h1
 | 2,_=>h2
theorem l3_may:mayP L3:=by
 refine ⟨⟨?_,?_,?_⟩,?_⟩
 ·exact l3_lt (by decide) (by decide) (by decide)
 ·intro k hk
  have hk:k+1<3:=hk
  match k,hk with
  | 0,_=>decide
  | 1,_=>decide
 ·intro j k hj hk
  have hk:k<3:=hk
  have:(j=0∧k=1)∨(j=0∧k=2)∨(j=1∧k=2):=by omega
  rcases this with ⟨rfl,rfl⟩ | ⟨rfl,rfl⟩ | ⟨rfl,rfl⟩ <;> decide
 ·intro j k hj hk t ht
  have hk:k<3:=hk
  have:(j=0∧k=1)∨(j=0∧k=2)∨(j=1∧k=2):=by omega
  rcases this with ⟨rfl,rfl⟩ | ⟨rfl,rfl⟩ | ⟨rfl,rfl⟩ <;> simp [L3,Cl.moves] <;> omega
theorem l3_nm:nmA L3=[0,1,2]:=by decide
theorem l3_cy:cyA L3=L3:=by decide
theorem l3_ns:nsE L3=0:=by
 unfold nsE
 rw [if_pos (mayQ_iff.2 l3_may),show cidx L3 L3.length=[0,1,2] from l3_nm]
 rfl
theorem l3_all:allY L3=[[1,0,2]]:=by
 unfold allY
 rw [l3_cy]
 decide
theorem l3_find:findE L3=0∧findL L3=[1,0,2]∧cntW L3=1:=by
 unfold findE findL cntW nmL
 rw [if_pos l3_ns,if_pos l3_ns,if_pos l3_ns,l3_all,l3_nm]
 exact ⟨rfl,rfl,rfl⟩
theorem l3_chk:chkE L3 [1,0,2]=0:=by
 have:=(find_chk l3_ns l3_find.1).1
 rwa [l3_find.2.1] at this
theorem l3_no:chkE L3 [0,1,2]=123:=by
 unfold chkE
 have h1:IsO L3 [0,1,2]:=⟨by decide,by decide,fun i hi _ _=>l3_lt (P:=fun i=>(i:Int)∈[0,1,2]) (by decide) (by decide) (by decide) i hi⟩
 have h2:InT L3 [0,1,2]:=by unfold InT;decide
 rw [if_pos (pB_t.2 l3_may),if_pos (pB_t.2 h1),if_pos (pB_t.2 h2),if_neg (by decide)]
end Go.Proofs.Ytkjeedlkkpgopaa.Z
namespace Go.Proofs.Ytkjeedlkkpgopaa.Z
open Go Go.RowKit
def ir30:IR:=(.seq (.ops [⟨(some 0),(.mv (.k (.c (.v (.bool false))))),none⟩]) (.kill [0,1,2,3,4,5,6,7,8,9,10,11] (.seq (.ops [⟨(some 6),(.build [(.v (.int .i64 0)),(.v (.int .i64 0))] [(0,(1,(.k (.c (.v (.int .i64 1))))))]),none⟩,⟨(some 7),(.build [(.v (.int .i64 0)),(.v (.int .i64 0)),(.v (.int .i64 0)),(.v (.int .i64 0)),(.v (.int .i64 0)),(.v (.int .i64 0)),(.v (.int .i64 0)),(.v (.int .i64 0)),(.v (.int .i64 0))] [(0,(1,(.k (.c (.v (.int .i64 0)))))),(1,(1,(.k (.c (.v (.int .i64 30)))))),(2,(1,(.k (.c (.v (.int .i64 1)))))),(4,(1,(.k (.c (.v (.int .i64 0)))))),(5,(1,(.k (.c (.v (.int .i64 9)))))),(6,(1,(.k (.c (.v (.int .i64 8)))))),(7,(2,(.t 6)))]),none⟩,⟨(some 8),(.build [(.v (.int .i64 0)),(.v (.int .i64 0))] [(0,(1,(.k (.c (.v (.int .i64 3))))))]),none⟩,⟨(some 9),(.build [(.v (.int .i64 0)),(.v (.int .i64 0)),(.v (.int .i64 0)),(.v (.int .i64 0)),(.v (.int .i64 0)),(.v (.int .i64 0)),(.v (.int .i64 0)),(.v (.int .i64 0)),(.v (.int .i64 0))] [(0,(1,(.k (.c (.v (.int .i64 1)))))),(1,(1,(.k (.c (.v (.int .i64 31)))))),(4,(1,(.k (.c (.v (.int .i64 1)))))),(5,(1,(.k (.c (.v (.int .i64 3)))))),(6,(1,(.k (.c (.v (.int .i64 2)))))),(7,(2,(.t 8)))]),none⟩,⟨(some 10),(.build [(.v (.int .i64 0)),(.v (.int .i64 0))] [(0,(1,(.k (.c (.v (.int .i64 2)))))),(1,(1,(.k (.c (.v (.int .i64 1))))))]),none⟩,⟨(some 11),(.build [(.v (.int .i64 0)),(.v (.int .i64 0)),(.v (.int .i64 0)),(.v (.int .i64 0)),(.v (.int .i64 0)),(.v (.int .i64 0)),(.v (.int .i64 0)),(.v (.int .i64 0)),(.v (.int .i64 0))] [(0,(1,(.k (.c (.v (.int .i64 1)))))),(1,(1,(.k (.c (.v (.int .i64 31)))))),(4,(1,(.k (.c (.v (.int .i64 10)))))),(5,(1,(.k (.c (.v (.int .i64 14)))))),(6,(1,(.k (.c (.v (.int .i64 12)))))),(7,(2,(.t 10)))]),none⟩,⟨(some 12),(.mkSl 53 3 9 [(.v (.int .i64 0)),(.v (.int .i64 0)),(.v (.int .i64 0)),(.v (.int .i64 0)),(.v (.int .i64 0)),(.v (.int .i64 0)),(.v (.int .i64 0)),(.v (.int .i64 0)),(.v (.int .i64 0)),(.v (.int .i64 0)),(.v (.int .i64 0)),(.v (.int .i64 0)),(.v (.int .i64 0)),(.v (.int .i64 0)),(.v (.int .i64 0)),(.v (.int .i64 0)),(.v (.int .i64 0)),(.v (.int .i64 0)),(.v (.int .i64 0)),(.v (.int .i64 0)),(.v (.int .i64 0)),(.v (.int .i64 0)),(.v (.int .i64 0)),(.v (.int .i64 0)),(.v (.int .i64 0)),(.v (.int .i64 0)),(.v (.int .i64 0))] [(0,(9,(.t 7))),(9,(9,(.t 9))),(18,(9,(.t 11)))]),none⟩,⟨(some 1),(.mv (.t 12)),none⟩]) (.kill [6,7,8,9,10,11,12] (.seq (.ops [⟨(some 14),(.mv (.t 1)),none⟩,⟨(some 15),(.call 26 [(.t 14)]),none⟩,⟨(some 13),(.mv (.t 15)),none⟩,⟨(some 16),(.ext 0 (.t 13)),none⟩,⟨(some 17),(.ext 1 (.t 13)),none⟩,⟨(some 2),(.mv (.t 16)),none⟩,⟨(some 3),(.mv (.t 17)),none⟩]) (.kill [13,14,15,16,17] (.seq (.ops [⟨(some 19),(.mv (.t 1)),none⟩,⟨(some 20),(.call 28 [(.t 19)]),none⟩,⟨(some 18),(.mv (.t 20)),none⟩,⟨(some 21),(.ext 0 (.t 18)),none⟩,⟨(some 22),(.ext 1 (.t 18)),none⟩,⟨(some 4),(.mv (.t 21)),none⟩,⟨(some 5),(.mv (.t 22)),none⟩]) (.kill [18,19,20,21,22] (.seq (.ops [⟨(some 23),(.mv (.t 3)),none⟩,⟨(some 24),(.call 21 [(.t 23)]),none⟩,⟨(some 25),(.bin .eql (.t 24) (.k (.c (.v (.int .i64 0))))),none⟩,⟨(some 26),(.mv (.t 25)),none⟩,⟨(some 27),(.mv (.t 5)),(some (26,true))⟩,⟨(some 28),(.call 21 [(.t 27)]),(some (26,true))⟩,⟨(some 29),(.bin .eql (.t 28) (.k (.c (.v (.int .i64 0))))),(some (26,true))⟩,⟨(some 30),(.pick (.t 26) (.t 29) (.k (.c (.v (.bool false))))),none⟩,⟨(some 31),(.mv (.t 30)),none⟩,⟨(some 32),(.mv (.t 4)),(some (31,true))⟩,⟨(some 33),(.bin .eql (.t 32) (.k (.c (.v (.int .i64 1))))),(some (31,true))⟩,⟨(some 34),(.pick (.t 31) (.t 33) (.k (.c (.v (.bool false))))),none⟩,⟨(some 35),(.mv (.t 34)),none⟩,⟨(some 36),(.mv (.t 2)),(some (35,true))⟩,⟨(some 37),(.mkSl 3 3 1 [(.v (.int .i64 0)),(.v (.int .i64 0)),(.v (.int .i64 0))] [(0,(1,(.k (.c (.v (.int .i64 1)))))),(1,(1,(.k (.c (.v (.int .i64 0)))))),(2,(1,(.k (.c (.v (.int .i64 2))))))]),(some (35,true))⟩,⟨(some 38),(.call 23 [(.t 36),(.t 37)]),(some (35,true))⟩,⟨(some 39),(.pick (.t 35) (.t 38) (.k (.c (.v (.bool false))))),none⟩,⟨(some 40),(.mv (.t 39)),none⟩,⟨(some 41),(.mv (.t 1)),(some (40,true))⟩,⟨(some 42),(.mkSl 3 3 1 [(.v (.int .i64 0)),(.v (.int .i64 0)),(.v (.int .i64 0))] [(0,(1,(.k (.c (.v (.int .i64 0)))))),(1,(1,(.k (.c (.v (.int .i64 1)))))),(2,(1,(.k (.c (.v (.int .i64 2))))))]),(some (40,true))⟩,⟨(some 43),(.call 35 [(.t 41),(.t 42)]),(some (40,true))⟩,⟨(some 44),(.call 21 [(.t 43)]),(some (40,true))⟩,⟨(some 45),(.bin .eql (.t 44) (.k (.c (.v (.int .i64 123))))),(some (40,true))⟩,⟨(some 46),(.pick (.t 40) (.t 45) (.k (.c (.v (.bool false))))),none⟩,⟨(some 47),(.mv (.t 46)),none⟩,⟨(some 48),(.mv (.t 1)),(some (47,true))⟩,⟨(some 49),(.mv (.t 2)),(some (47,true))⟩,⟨(some 50),(.call 35 [(.t 48),(.t 49)]),(some (47,true))⟩,⟨(some 51),(.call 21 [(.t 50)]),(some (47,true))⟩,⟨(some 52),(.bin .eql (.t 51) (.k (.c (.v (.int .i64 0))))),(some (47,true))⟩,⟨(some 53),(.pick (.t 47) (.t 52) (.k (.c (.v (.bool false))))),none⟩,⟨(some 0),(.mv (.t 53)),none⟩]) (.kill [1,2,3,4,5,23,24,25,26,27,28,29,30,31,32,33,34,35,36,37,38,39,40,41,42,43,44,45,46,47,48,49,50,51,52,53] .ret))))))))))
def rs30:List RS:=[(.t 0)]
def nt30:Nat:=54
set_option maxRecDepth 100000 in
set_option maxHeartbeats 400000 in
theorem awake_calls (w:World):Calls Try.prog 30 #[] w (RetV w (.bool true)):=by
 refine enter0 (A:=[]) (c:=ir30) (rs:=rs30) (nt:=nt30) [] _ Try.func30 rfl (by kernel_rfl) (by kernel_rfl) rfl (fun E'=>rfl) (of_decide_eq_true rfl) ?_
 simp (maxSteps:=2000000) only [ir30,nt30,rs30,go_sem,↓reduceIte,Nat.reduceLT,Nat.reduceLeDiff,Nat.reduceAdd,Nat.reduceSub,Nat.reduceMul,Nat.reduceEqDiff,reduceCtorEq,Int.reduceToNat,Int.reduceEq,Int.reduceBEq,Int.reduceBNe,Int.reduceLT,Int.reduceLE,Int.reduceNeg,Int.reduceAdd,Int.reduceSub,Int.reduceMul,Int.reduceGE,Int.reduceGT,Cl.enc,iv,endO]
 have hL:∀ {C:Ctx} {E:Env} {S:St} {a:Act} {w' : World},Sat C.B C.W C.w0 E S a w'→look S.own 0=some (.one (.ar 3 9 (segs 9 (Cl.sc ⟨0,30,1,0,0,9,8,1,0⟩++Cl.sc ⟨1,31,0,0,1,3,2,3,0⟩++Cl.sc ⟨1,31,0,0,10,14,12,2,1⟩)) 53))→Arr w' Cl.enc 9 ((SC.sl (0,0,0) 9 0 3 none).den E) L3:=fun hs h0 =>
  arr_own (d:=cl0) hs 0 3 3 _ h0 rfl (Nat.le_refl _) (l3_lt rfl rfl rfl)
 obtain ⟨f1,f2,f3⟩:=l3_find
 refine And.intro (by decide) ?_
 refine callN 1 (leT 1 (findL L3).length (findE L3)) (lsO 3 1 eI (findL L3) 0) (fun E a w' hs=>find_calls w' _ L3 (by decide) (hL hs rfl)) ?_
 rw [f1,f2]
 simp (maxSteps:=2000000) only [go_sem,↓reduceIte,Nat.reduceLT,Nat.reduceLeDiff,Nat.reduceAdd,Nat.reduceSub,Nat.reduceMul,Nat.reduceEqDiff,reduceCtorEq,Int.reduceToNat,Int.reduceEq,Int.reduceBEq,Int.reduceBNe,Int.reduceLT,Int.reduceLE,Int.reduceNeg,Int.reduceAdd,Int.reduceSub,Int.reduceMul,Int.reduceGE,Int.reduceGT,Cl.enc,iv,endO,leT,lsO]
 refine callV (.tup [(false,[.v (.int .i64 1)]),(false,[.v (.int .i64 0)])]) (.tuple #[.int .i64 1,.int .i64 0]) (fun E=>rfl) (fun E a w' hs=>by
  have:=countW_calls w' _ L3 (by decide) (hL hs rfl)
  rw [f3,l3_ns] at this
  exact this) ?_
 simp (maxSteps:=2000000) only [go_sem,↓reduceIte,Nat.reduceLT,Nat.reduceLeDiff,Nat.reduceAdd,Nat.reduceSub,Nat.reduceMul,Nat.reduceEqDiff,reduceCtorEq,Int.reduceToNat,Int.reduceEq,Int.reduceBEq,Int.reduceBNe,Int.reduceLT,Int.reduceLE,Int.reduceNeg,Int.reduceAdd,Int.reduceSub,Int.reduceMul,Int.reduceGE,Int.reduceGT,Cl.enc,iv,endO]
 refine callV (.c (.v (.int .i64 0))) _ (fun E=>rfl) (fun E a w' hs=>num_calls w' _) ?_
 simp (maxSteps:=2000000) only [go_sem,↓reduceIte,Nat.reduceLT,Nat.reduceLeDiff,Nat.reduceAdd,Nat.reduceSub,Nat.reduceMul,Nat.reduceEqDiff,reduceCtorEq,Int.reduceToNat,Int.reduceEq,Int.reduceBEq,Int.reduceBNe,Int.reduceLT,Int.reduceLE,Int.reduceNeg,Int.reduceAdd,Int.reduceSub,Int.reduceMul,Int.reduceGE,Int.reduceGT,Cl.enc,iv,endO]
 refine guardW (.c (.v (.int .i64 0))) _ (fun E=>rfl) (fun E a w' hs=>num_calls w' _) ?_
 simp (maxSteps:=2000000) only [go_sem,↓reduceIte,Nat.reduceLT,Nat.reduceLeDiff,Nat.reduceAdd,Nat.reduceSub,Nat.reduceMul,Nat.reduceEqDiff,reduceCtorEq,Int.reduceToNat,Int.reduceEq,Int.reduceBEq,Int.reduceBNe,Int.reduceLT,Int.reduceLE,Int.reduceNeg,Int.reduceAdd,Int.reduceSub,Int.reduceMul,Int.reduceGE,Int.reduceGT,Cl.enc,iv,endO]
 simp (maxSteps:=2000000) only [forkS,go_sem,↓reduceIte,Nat.reduceLT,Nat.reduceLeDiff,Nat.reduceAdd,Nat.reduceSub,Nat.reduceMul,Nat.reduceEqDiff,reduceCtorEq,Int.reduceToNat,Int.reduceEq,Int.reduceBEq,Int.reduceBNe,Int.reduceLT,Int.reduceLE,Int.reduceNeg,Int.reduceAdd,Int.reduceSub,Int.reduceMul,Int.reduceGE,Int.reduceGT,Cl.enc,iv,endO]
 refine And.intro (by decide) ?_
 refine callV (.c (.v (.bool true))) (.bool true) (fun E=>rfl) (fun E a w' hs=>same_calls w' _ _ [1,0,2] [1,0,2] (own_at (d:=0) hs 1 3 rfl rfl) (arr_own (d:=0) hs 2 3 3 _ rfl rfl (Nat.le_refl _) (l3_lt rfl rfl rfl))) ?_
 simp (maxSteps:=2000000) only [forkS,go_sem,↓reduceIte,Nat.reduceLT,Nat.reduceLeDiff,Nat.reduceAdd,Nat.reduceSub,Nat.reduceMul,Nat.reduceEqDiff,reduceCtorEq,Int.reduceToNat,Int.reduceEq,Int.reduceBEq,Int.reduceBNe,Int.reduceLT,Int.reduceLE,Int.reduceNeg,Int.reduceAdd,Int.reduceSub,Int.reduceMul,Int.reduceGE,Int.reduceGT,Cl.enc,iv,endO]
 refine And.intro (by decide) ?_
 refine callV (.c (.v (.int .i64 123))) (.int .i64 123) (fun E=>rfl) (fun E a w' hs=>by
  have:=check_calls w' _ _ L3 [0,1,2] (by decide) (hL hs rfl) (arr_own (d:=0) hs 3 3 3 _ rfl rfl (Nat.le_refl _) (l3_lt rfl rfl rfl))
  rw [l3_no] at this
  exact this) ?_
 simp (maxSteps:=2000000) only [forkS,go_sem,↓reduceIte,Nat.reduceLT,Nat.reduceLeDiff,Nat.reduceAdd,Nat.reduceSub,Nat.reduceMul,Nat.reduceEqDiff,reduceCtorEq,Int.reduceToNat,Int.reduceEq,Int.reduceBEq,Int.reduceBNe,Int.reduceLT,Int.reduceLE,Int.reduceNeg,Int.reduceAdd,Int.reduceSub,Int.reduceMul,Int.reduceGE,Int.reduceGT,Cl.enc,iv,endO]
 refine callV (.c (.v (.int .i64 123))) _ (fun E=>rfl) (fun E a w' hs=>num_calls w' _) ?_
 simp (maxSteps:=2000000) only [forkS,go_sem,↓reduceIte,Nat.reduceLT,Nat.reduceLeDiff,Nat.reduceAdd,Nat.reduceSub,Nat.reduceMul,Nat.reduceEqDiff,reduceCtorEq,Int.reduceToNat,Int.reduceEq,Int.reduceBEq,Int.reduceBNe,Int.reduceLT,Int.reduceLE,Int.reduceNeg,Int.reduceAdd,Int.reduceSub,Int.reduceMul,Int.reduceGE,Int.reduceGT,Cl.enc,iv,endO]
 refine guardW (.c (.v (.int .i64 0))) (.int .i64 0) (fun E=>rfl) (fun E a w' hs=>by
  have:=check_calls w' _ _ L3 [1,0,2] (by decide) (hL hs rfl) (own_at (d:=0) hs 1 3 rfl rfl)
  rw [l3_chk] at this
  exact this) ?_
 simp (maxSteps:=2000000) only [forkS,go_sem,↓reduceIte,Nat.reduceLT,Nat.reduceLeDiff,Nat.reduceAdd,Nat.reduceSub,Nat.reduceMul,Nat.reduceEqDiff,reduceCtorEq,Int.reduceToNat,Int.reduceEq,Int.reduceBEq,Int.reduceBNe,Int.reduceLT,Int.reduceLE,Int.reduceNeg,Int.reduceAdd,Int.reduceSub,Int.reduceMul,Int.reduceGE,Int.reduceGT,Cl.enc,iv,endO]
 refine guardW (.c (.v (.int .i64 0))) _ (fun E=>rfl) (fun E a w' hs=>num_calls w' _) ?_
 simp (maxSteps:=2000000) only [forkS,go_sem,↓reduceIte,Nat.reduceLT,Nat.reduceLeDiff,Nat.reduceAdd,Nat.reduceSub,Nat.reduceMul,Nat.reduceEqDiff,reduceCtorEq,Int.reduceToNat,Int.reduceEq,Int.reduceBEq,Int.reduceBNe,Int.reduceLT,Int.reduceLE,Int.reduceNeg,Int.reduceAdd,Int.reduceSub,Int.reduceMul,Int.reduceGE,Int.reduceGT,Cl.enc,iv,endO]
 exact retV fun E=>by simp [SV.den,SC.den]
end Go.Proofs.Ytkjeedlkkpgopaa.Z
namespace Go.Proofs.Ytkjeedlkkpgopaa.Z
open Go Go.RowKit
theorem lexLe_at:∀ {x y:List Nat},lexLe x y=true→∀ i,(∀ j,j<i→x.getD j 0=y.getD j 0)→i<x.length→i<y.length→x.getD i 0≤y.getD i 0
 | [],y,_,i,_,h,_=>absurd h (Nat.not_lt_zero _)
 | a :: r,[],_,i,_,_,h=>absurd h (Nat.not_lt_zero _)
 | a :: r,b :: t,hl,0,_,_,_=>by
  simp [lexLe] at hl
  simp
  omega
 | a :: r,b :: t,hl,i+1,hj,h1,h2=>by
  have h0:a=b:=by simpa using hj 0 (by omega)
  simp [lexLe,h0] at hl
  have:=lexLe_at hl i (fun j h=>by simpa using hj (j+1) (by omega)) (by simpa using h1) (by simpa using h2)
  simpa using this
theorem lexLe_len:∀ {x y:List Nat},lexLe x y=true→(∀ j,j<y.length→x.getD j 0=y.getD j 0)→x.length≤y.length
 | [],y,_,_=>Nat.zero_le _
 | a :: r,[],h,_=>by simp [lexLe] at h
 | a :: r,b :: t,hl,hj=>by
  have h0:a=b:=by simpa using hj 0 (by simp)
  simp [lexLe,h0] at hl
  have:=lexLe_len hl (fun j h=>by simpa using hj (j+1) (by simpa using h))
  simpa using this
theorem nmA_lt {xs:List Cl} {i j:Nat} (hij:i<j) (hj:j<(nmA xs).length):(nmA xs).getD i 0<(nmA xs).getD j 0:=by
 have hp:(nmA xs).Pairwise (· < ·):=(List.pairwise_lt_range).sublist (List.filter_sublist)
 have:=List.pairwise_iff_getElem.1 hp i j (by omega) hj hij
 rw [List.getD_eq_getElem?_getD,List.getElem?_eq_getElem (by omega),List.getD_eq_getElem?_getD,List.getElem?_eq_getElem hj]
 exact this
theorem nmL_len (xs:List Cl) (x:List Nat):(nmL xs x).length=x.length:=by rw [nmL_eq,List.length_map]
theorem nmL_at (xs:List Cl) {x:List Nat} {j:Nat} (h:j<x.length):(nmL xs x).getD j 0=(((nmA xs).getD (x.getD j 0) 0:Nat):Int):=by
 rw [nmL_eq,List.getD_eq_getElem?_getD,List.getElem?_map,List.getElem?_eq_getElem h,List.getD_eq_getElem?_getD (l:=x),List.getElem?_eq_getElem h]
 rfl
theorem least_law {xs:List Cl} {o:List Int} (he:nsE xs=0) (hk:chkE xs o=0):findE xs=0 ∧
  (∀ i,(∀ j,j<i→(findL xs).getD j 0=o.getD j 0)→i<(findL xs).length→i<o.length→(findL xs).getD i 0≠o.getD i 0→(findL xs).getD i 0<o.getD i 0) ∧
  ((∀ j,j<(findL xs).length→j<o.length→(findL xs).getD j 0=o.getD j 0)→(findL xs).length≤o.length):=by
 have hf:=(found_iff he).2 ⟨o,hk⟩
 refine ⟨hf,?_⟩
 have h8:=nsE_0 he
 obtain ⟨hm,hO⟩:=chk_isO hk
 obtain ⟨y,hy,rfl⟩:=ord_nm hO.ok
 have hyM:=(all_expl h8).2 ((chk_iff hm hy).1 hk)
 have hp:=srch_lex (h:=hY (cyA xs)) (cand:=cY (cyA xs)) ((hY (cyA xs)).mayW (cY (cyA xs))) (by unfold cY;exact List.pairwise_lt_range) 9 [] mc0
 change (allY xs).Pairwise _ at hp
 unfold findE at hf
 rw [if_pos he] at hf
 split at hf
 ·next h1 =>
  obtain ⟨x,hx⟩:=Option.isSome_iff_exists.1 h1
  have e1:findL xs=nmL xs x:=by unfold findL;rw [if_pos he,hx]
  have hE:=(all_expl h8).1 (head_mem hx)
  have hxs:∀ i∈x,i<(nmA xs).length:=fun i hi=>by
   have:=hE.sub i hi
   rw [← cyA_len];simpa [cY] using this
  have hle:lexLe x y=true:=by
   cases hl:allY xs with
   | nil=>rw [hl] at hyM;cases hyM
   | cons a l =>
    rw [hl] at hx hyM hp
    simp at hx
    subst hx
    rcases List.mem_cons.1 hyM with h | h
    ·subst h;have:=lex_pre y [];simpa using this
    ·exact ((List.pairwise_cons.1 hp).1 y h).1
  rw [e1]
  have mx:∀ j,j<x.length→x.getD j 0<(nmA xs).length:=fun j hj=>hxs _ (getD_mem hj)
  have my:∀ j,j<y.length→y.getD j 0<(nmA xs).length:=fun j hj=>hy _ (getD_mem hj)
  simp only [nmL_len]
  have inj:∀ j,j<x.length→j<y.length→(nmL xs x).getD j 0=(nmL xs y).getD j 0→x.getD j 0=y.getD j 0:=fun j h1 h2 h=>by
   rw [nmL_at xs h1,nmL_at xs h2] at h
   exact nmA_inj (mx j h1) (my j h2) (by omega)
  refine ⟨fun i hj h1 h2 hne=>?_,fun hj=>?_⟩
  ·have:=lexLe_at hle i (fun j h=>inj j (by omega) (by omega) (hj j h)) h1 h2
   rw [nmL_at xs h1,nmL_at xs h2] at hne ⊢
   have hne2:x.getD i 0≠y.getD i 0:=fun e=>hne (by rw [e])
   have:=nmA_lt (xs:=xs) (show x.getD i 0<y.getD i 0 by omega) (my i h2)
   omega
  ·by_cases hq:x.length≤y.length
   ·exact hq
   ·exact lexLe_len hle fun j h=>inj j (by omega) h (hj j (by omega) h)
 ·cases hf
end Go.Proofs.Ytkjeedlkkpgopaa.Z
namespace Go.Proofs.Ytkjeedlkkpgopaa.Z
open Go Go.RowKit
def ir11:IR:=(.seq (.ops [⟨(some 4),(.mv (.k (.c (.v (.bool false))))),none⟩]) (.kill [2,3,4,5,6,7,8,9,10,11] (.seq (.seq (.ops [⟨(some 8),(.call 30 []),none⟩,⟨(some 9),(.un .not (.t 8)),none⟩]) (.kill [8] (.cond (.t 9) (.seq (.ops [⟨(some 4),(.mv (.k (.c (.v (.bool false))))),none⟩]) (.kill [0,1,9] .ret)) .skip))) (.kill [4,9] (.seq (.seq (.ops [⟨(some 10),(.mv (.t 0)),none⟩,⟨(some 11),(.call 31 [(.t 10)]),none⟩,⟨(some 12),(.un .not (.t 11)),none⟩,⟨(some 13),(.mv (.t 12)),none⟩,⟨(some 14),(.mv (.t 0)),(some (13,false))⟩,⟨(some 15),(.mv (.t 1)),(some (13,false))⟩,⟨(some 16),(.call 36 [(.t 14),(.t 15)]),(some (13,false))⟩,⟨(some 17),(.bin .neq (.t 16) (.k (.c (.v (.int .i64 0))))),(some (13,false))⟩,⟨(some 18),(.pick (.t 13) (.k (.c (.v (.bool true)))) (.t 17)),none⟩]) (.kill [10,11,12,13,14,15,16,17] (.cond (.t 18) (.seq (.ops [⟨(some 4),(.mv (.k (.c (.v (.bool true))))),none⟩]) (.kill [0,1,18] .ret)) .skip))) (.kill [4,18] (.seq (.ops [⟨(some 20),(.mv (.t 0)),none⟩,⟨(some 21),(.call 26 [(.t 20)]),none⟩,⟨(some 19),(.mv (.t 21)),none⟩,⟨(some 22),(.ext 0 (.t 19)),none⟩,⟨(some 23),(.ext 1 (.t 19)),none⟩,⟨(some 5),(.mv (.t 22)),none⟩,⟨(some 6),(.mv (.t 23)),none⟩]) (.kill [0,19,20,21,22,23] (.seq (.seq (.ops [⟨(some 24),(.mv (.t 6)),none⟩,⟨(some 25),(.call 21 [(.t 24)]),none⟩,⟨(some 26),(.bin .neq (.t 25) (.k (.c (.v (.int .i64 0))))),none⟩]) (.kill [6,24,25] (.cond (.t 26) (.seq (.ops [⟨(some 4),(.mv (.k (.c (.v (.bool false))))),none⟩]) (.kill [1,5,26] .ret)) .skip))) (.kill [4,26] (.seq (.seq (.ops [⟨(some 7),(.mv (.k (.c (.v (.int .i64 0))))),none⟩]) (.blk 0 (.loop (.seq (.seq (.ops [⟨(some 27),(.mv (.t 7)),none⟩,⟨(some 28),(.mv (.t 5)),none⟩,⟨(some 29),(.len (.t 28)),none⟩,⟨(some 30),(.bin .lss (.t 27) (.t 29)),none⟩,⟨(some 31),(.mv (.t 30)),none⟩,⟨(some 32),(.mv (.t 7)),(some (31,true))⟩,⟨(some 33),(.mv (.t 1)),(some (31,true))⟩,⟨(some 34),(.len (.t 33)),(some (31,true))⟩,⟨(some 35),(.bin .lss (.t 32) (.t 34)),(some (31,true))⟩,⟨(some 36),(.pick (.t 31) (.t 35) (.k (.c (.v (.bool false))))),none⟩]) (.kill [4,27,28,29,30,31,32,33,34,35,37,38,39,40,41,42,43,44,45,46,47,48,49,50,51,52,53,54,55,56] (.cond (.t 36) .skip (.exit 0)))) (.kill [36] (.seq (.blk 1 (.seq (.draw [(⟨(some 39),(.mv (.t 5)),none⟩,([],[40,43,44,45,46])),(⟨(some 40),(.mv (.t 7)),none⟩,([0],[39,43,44,45,46])),(⟨(some 41),(.ia 1 (.t 39) (.t 40)),none⟩,([],[43,44,45,46])),(⟨(some 42),(.ld false 1 (.t 41)),none⟩,([],[43,44,45,46])),(⟨(some 43),(.mv (.t 1)),none⟩,([0,1,2,3],[39,40,41,42,44])),(⟨(some 44),(.mv (.t 7)),none⟩,([0,1,2,3,4],[39,40,41,42,43])),(⟨(some 45),(.ia 1 (.t 43) (.t 44)),none⟩,([0,1,2,3],[39,40,41,42])),(⟨(some 46),(.ld false 1 (.t 45)),none⟩,([0,1,2,3],[39,40,41,42])),(⟨(some 47),(.bin .neq (.t 42) (.t 46)),none⟩,([],[]))]) (.kill [39,40,41,42,43,44,45,46] (.cond (.t 47) (.seq (.draw [(⟨(some 48),(.mv (.t 5)),none⟩,([],[49,52,53,54,55])),(⟨(some 49),(.mv (.t 7)),none⟩,([0],[48,52,53,54,55])),(⟨(some 50),(.ia 1 (.t 48) (.t 49)),none⟩,([],[52,53,54,55])),(⟨(some 51),(.ld false 1 (.t 50)),none⟩,([],[52,53,54,55])),(⟨(some 52),(.mv (.t 1)),none⟩,([0,1,2,3],[48,49,50,51,53])),(⟨(some 53),(.mv (.t 7)),none⟩,([0,1,2,3,4],[48,49,50,51,52])),(⟨(some 54),(.ia 1 (.t 52) (.t 53)),none⟩,([0,1,2,3],[48,49,50,51])),(⟨(some 55),(.ld false 1 (.t 54)),none⟩,([0,1,2,3],[48,49,50,51])),(⟨(some 56),(.bin .lss (.t 51) (.t 55)),none⟩,([],[])),(⟨(some 4),(.mv (.t 56)),none⟩,([],[]))]) (.kill [1,5,7,47,48,49,50,51,52,53,54,55,56] .ret)) .skip)))) (.kill [4,39,40,41,42,43,44,45,46,47,48,49,50,51,52,53,54,55,56] (.ops [⟨(some 37),(.mv (.t 7)),none⟩,⟨(some 38),(.bin .add (.t 37) (.k (.c (.v (.int .i64 1))))),none⟩,⟨(some 7),(.mv (.t 38)),none⟩])))))))) (.kill [4,7,27,28,29,30,31,32,33,34,35,36,37,38,39,40,41,42,43,44,45,46,47,48,49,50,51,52,53,54,55,56] (.seq (.ops [⟨(some 57),(.mv (.t 5)),none⟩,⟨(some 58),(.len (.t 57)),none⟩,⟨(some 59),(.mv (.t 1)),none⟩,⟨(some 60),(.len (.t 59)),none⟩,⟨(some 61),(.bin .leq (.t 58) (.t 60)),none⟩,⟨(some 4),(.mv (.t 61)),none⟩]) (.kill [1,5,57,58,59,60,61] .ret))))))))))))))
def rs11:List RS:=[(.t 4)]
def nt11:Nat:=62
set_option maxRecDepth 100000 in
set_option maxHeartbeats 400000 in
theorem leastW_walk (w:World) (v v' : Value) (xs:List Cl) (o:List Int) (hsz:(xs.length+1) * 72≤140737488355328) (hso:o.length * 8≤140737488355328) (h:Arr w Cl.enc 9 v xs) (h' : Arr w eI 1 v' o):Calls Try.prog 11 #[v,v'] w (RetV w (.bool true)):=by
 refine enter2 (A:=[]) (c:=ir11) (rs:=rs11) (nt:=nt11) cl0 cl_ok h 0 eI_ok h' [.c (.xv (0,0,0)),.c (.xv (1,0,0))] _ Try.func11 rfl (by kernel_rfl) (by kernel_rfl) rfl (fun E' h0 h1=>by simp [SV.den,SC.den,h0,h1]) (of_decide_eq_true rfl) ?_
 simp (maxSteps:=2000000) only [ir11,nt11,rs11,go_sem,↓reduceIte,Nat.reduceLT,Nat.reduceLeDiff,Nat.reduceAdd,Nat.reduceSub,Nat.reduceMul,Nat.reduceEqDiff,reduceCtorEq,Int.reduceToNat,Int.reduceEq,Int.reduceBEq,Int.reduceBNe,Int.reduceLT,Int.reduceLE,Int.reduceNeg,Int.reduceAdd,Int.reduceSub,Int.reduceMul,Int.reduceGE,Int.reduceGT,Cl.enc,iv,endO]
 refine callV (.c (.v (.bool true))) (.bool true) (fun E=>rfl) (fun E a w' hs=>awake_calls w') ?_
 simp (maxSteps:=2000000) only [go_sem,↓reduceIte,Nat.reduceLT,Nat.reduceLeDiff,Nat.reduceAdd,Nat.reduceSub,Nat.reduceMul,Nat.reduceEqDiff,reduceCtorEq,Int.reduceToNat,Int.reduceEq,Int.reduceBEq,Int.reduceBNe,Int.reduceLT,Int.reduceLE,Int.reduceNeg,Int.reduceAdd,Int.reduceSub,Int.reduceMul,Int.reduceGE,Int.reduceGT,Cl.enc,iv,endO]
 by_cases he:nsE xs=0
 ·refine callV (.c (.v (.bool true))) (.bool true) (fun E=>rfl) (fun E a w' hs=>by
   have:=searched_calls w' _ xs (by omega) (arr_at (d:=cl0) hs 0 rfl)
   rw [decide_eq_true he] at this
   exact this) ?_
  simp (maxSteps:=2000000) only [go_sem,↓reduceIte,Nat.reduceLT,Nat.reduceLeDiff,Nat.reduceAdd,Nat.reduceSub,Nat.reduceMul,Nat.reduceEqDiff,reduceCtorEq,Int.reduceToNat,Int.reduceEq,Int.reduceBEq,Int.reduceBNe,Int.reduceLT,Int.reduceLE,Int.reduceNeg,Int.reduceAdd,Int.reduceSub,Int.reduceMul,Int.reduceGE,Int.reduceGT,Cl.enc,iv,endO]
  by_cases hk:chkE xs o=0
  ·refine callV (.c (.v (.int .i64 0))) _ (fun E=>rfl) (fun E a w' hs=>by
    have:=rcheck_calls w' _ _ xs o (by omega) (arr_at (d:=cl0) hs 0 rfl) (arr_at (d:=0) hs 1 rfl)
    rw [hk] at this
    exact this) ?_
   simp (maxSteps:=2000000) only [go_sem,↓reduceIte,Nat.reduceLT,Nat.reduceLeDiff,Nat.reduceAdd,Nat.reduceSub,Nat.reduceMul,Nat.reduceEqDiff,reduceCtorEq,Int.reduceToNat,Int.reduceEq,Int.reduceBEq,Int.reduceBNe,Int.reduceLT,Int.reduceLE,Int.reduceNeg,Int.reduceAdd,Int.reduceSub,Int.reduceMul,Int.reduceGE,Int.reduceGT,Cl.enc,iv,endO]
   obtain ⟨hf,hl1,hl2⟩:=least_law he hk
   refine callN 1 (leT 1 (findL xs).length (findE xs)) (lsO 3 1 eI (findL xs) 0) (fun E a w' hs=>find_calls w' _ xs (by omega) (arr_at (d:=cl0) hs 0 rfl)) ?_
   simp (maxSteps:=2000000) only [go_sem,↓reduceIte,Nat.reduceLT,Nat.reduceLeDiff,Nat.reduceAdd,Nat.reduceSub,Nat.reduceMul,Nat.reduceEqDiff,reduceCtorEq,Int.reduceToNat,Int.reduceEq,Int.reduceBEq,Int.reduceBNe,Int.reduceLT,Int.reduceLE,Int.reduceNeg,Int.reduceAdd,Int.reduceSub,Int.reduceMul,Int.reduceGE,Int.reduceGT,Cl.enc,iv,endO,leT,lsO,hf]
   refine callV (.c (.v (.int .i64 0))) _ (fun E=>rfl) (fun E a w' hs=>num_calls w' _) ?_
   simp (maxSteps:=2000000) only [go_sem,↓reduceIte,Nat.reduceLT,Nat.reduceLeDiff,Nat.reduceAdd,Nat.reduceSub,Nat.reduceMul,Nat.reduceEqDiff,reduceCtorEq,Int.reduceToNat,Int.reduceEq,Int.reduceBEq,Int.reduceBNe,Int.reduceLT,Int.reduceLE,Int.reduceNeg,Int.reduceAdd,Int.reduceSub,Int.reduceMul,Int.reduceGE,Int.reduceGT,Cl.enc,iv,endO]
   refine loopI (ι:={ i:Nat // i≤(findL xs).length∧i≤o.length∧∀ j,j<i→(findL xs).getD j 0=o.getD j 0 }) (fun i=>⟨62,[(1,.c (.xv (1,0,0))),(5,.c (.sl (2,0,0) 1 0 (findL xs).length none)),(7,.c (.v (.int .i64 (i.1:Nat))))],[(2,.one (.ar (findL xs).length 1 (ats eI (findL xs) 0) 3))],[(0,.one (arrOf Cl.enc 9 xs cl0)),(1,.one (arrOf eI 1 o 0))],[],3⟩)
    (fun i=>o.length - i.1) ⟨0,by omega,by omega,fun j h=>by omega⟩ ?_ ?_
   ·exact le_ren id rfl rfl (by simp [TmpsLe,look,SV.ren,SC.ren,SC.renL,ren1L,ren1,idσ,SV.okN,SC.okN,SC.okL,ok1L]) (by simp [OwnLe,BlkLeO,BlkLe,atN,look,Fm.get,idσ,SC.renL,SC.ren,SC.okL,SC.okN,ren_ats,ok_ats,renL_v,okL_v]) (by simp [ArrsLe,ArrLeO,atN,look,Fm.get,idσ,arrLe_of,arrLe_0]) rfl
   rintro ⟨i,hi1,hi2,hij⟩
   simp (maxSteps:=2000000) only [go_sem,↓reduceIte,Nat.reduceLT,Nat.reduceLeDiff,Nat.reduceAdd,Nat.reduceSub,Nat.reduceMul,Nat.reduceEqDiff,reduceCtorEq,Int.reduceToNat,Int.reduceEq,Int.reduceBEq,Int.reduceBNe,Int.reduceLT,Int.reduceLE,Int.reduceNeg,Int.reduceAdd,Int.reduceSub,Int.reduceMul,Int.reduceGE,Int.reduceGT,Cl.enc,iv,endO]
   refine both (fun hlt=>?_) (fun hge=>?_)
   ·have hlt:i<(findL xs).length∧i<o.length:=by simpa using hlt
    refine draw_vc (by kernel_rfl) (mkTab_ok _ _) (of_decide_eq_true rfl) (of_decide_eq_true rfl) ?_
    repeat (first | simp (maxSteps:=2000000) only [go_sem,↓reduceIte,Nat.reduceLT,Nat.reduceLeDiff,Nat.reduceAdd,Nat.reduceSub,Nat.reduceMul,Nat.reduceEqDiff,reduceCtorEq,Int.reduceToNat,Int.reduceEq,Int.reduceBEq,Int.reduceBNe,Int.reduceLT,Int.reduceLE,Int.reduceNeg,Int.reduceAdd,Int.reduceSub,Int.reduceMul,Int.reduceGE,Int.reduceGT,Cl.enc,iv,endO,eI,ats] | rw [dr_cons])
    refine And.intro ⟨hlt.1,Nat.le_refl _⟩ (And.intro hlt.1 (And.intro hlt.2 (And.intro hlt.2 (both (fun hne=>?_) (fun heq=>?_)))))
    ·have hne:(findL xs).getD i 0≠o.getD i 0:=by simpa using hne
     refine draw_vc (by kernel_rfl) (mkTab_ok _ _) (of_decide_eq_true rfl) (of_decide_eq_true rfl) ?_
     repeat (first | simp (maxSteps:=2000000) only [go_sem,↓reduceIte,Nat.reduceLT,Nat.reduceLeDiff,Nat.reduceAdd,Nat.reduceSub,Nat.reduceMul,Nat.reduceEqDiff,reduceCtorEq,Int.reduceToNat,Int.reduceEq,Int.reduceBEq,Int.reduceBNe,Int.reduceLT,Int.reduceLE,Int.reduceNeg,Int.reduceAdd,Int.reduceSub,Int.reduceMul,Int.reduceGE,Int.reduceGT,Cl.enc,iv,endO,eI,ats] | rw [dr_cons])
     refine And.intro ⟨hlt.1,Nat.le_refl _⟩ (And.intro hlt.1 (And.intro hlt.2 (And.intro hlt.2 ?_)))
     have:=hl1 i hij hlt.1 hlt.2 hne
     exact retV fun E=>by simp only [SV.den,SC.den,decide_eq_true this]
    ·have heq:(findL xs).getD i 0=o.getD i 0:=by simpa using heq
     have hml:=hlt.2
     rw [wr_succ (by omega)]
     refine backI ⟨i+1,by omega,by omega,fun j hj=>?_⟩ (by simp only;omega) (le_ren id rfl rfl (by simp [TmpsLe,look,SV.ren,SC.ren,SC.renL,ren1L,ren1,idσ,SV.okN,SC.okN,SC.okL,ok1L]) (by simp [OwnLe,BlkLeO,BlkLe,atN,look,Fm.get,idσ,SC.renL,SC.ren,SC.okL,SC.okN,ren_ats,ok_ats,renL_v,okL_v]) (by simp [ArrsLe,ArrLeO,atN,look,Fm.get,idσ,arrLe_of,arrLe_0]) rfl)
     by_cases e:j=i
     ·subst e;exact heq
     ·exact hij j (by omega)
   ·have hge:¬ (i<(findL xs).length∧i<o.length):=by simpa using hge
    exact retV fun E=>by
     have:=hl2 fun j h1 h2=>hij j (by omega)
     simp [SV.den,SC.den,this]
  ·refine callV (.c (.v (.int .i64 (chkE xs o)))) _ (fun E=>rfl) (fun E a w' hs=>rcheck_calls w' _ _ xs o (by omega) (arr_at (d:=cl0) hs 0 rfl) (arr_at (d:=0) hs 1 rfl)) ?_
   have d1:(chkE xs o != 0)=true:=by simpa using hk
   simp (maxSteps:=2000000) only [go_sem,↓reduceIte,Nat.reduceLT,Nat.reduceLeDiff,Nat.reduceAdd,Nat.reduceSub,Nat.reduceMul,Nat.reduceEqDiff,reduceCtorEq,Int.reduceToNat,Int.reduceEq,Int.reduceBEq,Int.reduceBNe,Int.reduceLT,Int.reduceLE,Int.reduceNeg,Int.reduceAdd,Int.reduceSub,Int.reduceMul,Int.reduceGE,Int.reduceGT,Cl.enc,iv,endO,d1]
   exact retV fun E=>by simp [SV.den,SC.den]
 ·refine callV (.c (.v (.bool false))) (.bool false) (fun E=>rfl) (fun E a w' hs=>by
   have:=searched_calls w' _ xs (by omega) (arr_at (d:=cl0) hs 0 rfl)
   rw [decide_eq_false he] at this
   exact this) ?_
  simp (maxSteps:=2000000) only [go_sem,↓reduceIte,Nat.reduceLT,Nat.reduceLeDiff,Nat.reduceAdd,Nat.reduceSub,Nat.reduceMul,Nat.reduceEqDiff,reduceCtorEq,Int.reduceToNat,Int.reduceEq,Int.reduceBEq,Int.reduceBNe,Int.reduceLT,Int.reduceLE,Int.reduceNeg,Int.reduceAdd,Int.reduceSub,Int.reduceMul,Int.reduceGE,Int.reduceGT,Cl.enc,iv,endO]
  exact retV fun E=>by simp [SV.den,SC.den]
end Go.Proofs.Ytkjeedlkkpgopaa.Z
