/- TsoFreshSaid: what its proof is made of. No condition. -/
import Derived.Test.YtmcpdafmkkjlcaaPkTTsoFreshAI
set_option linter.unusedSimpArgs false
set_option linter.unusedVariables false
namespace Go.Proofs.Ytmcpdafmkkjlcaa.Z
open Go Go.RowKit
theorem enterSt {P:Program} {A:List Nat} {f nt:Nat} {fn:Func} {x:Code} {c:IR} {w:World} {rs:List RS} {R:Ending→World→Prop} {v:Value} {s:LS} (h:StR w v s)
  (hf:P.funcs[f]? = some fn) (hb:fn.body=some x) (hc:compC (mkTab P A) x=some c.strip) (hrs:compR (mkTab P A).T fn.results.toList=some rs) (hn:fn.ntmps=nt) (hnt:1≤nt)
  (hex:exec (mkC P A w rs R) 1000 [.code c] ⟨nt,enumT 0 [.agg (stS 0)],[],stA 0 s,[],5⟩):Calls P f #[v] w R:=by
 obtain ⟨vw,vr,vp,vb,rfl,h1,h2,h3,us,h4,h5,h6⟩:=h
 refine enterL [fun _=>vw,fun _=>vr,fun _=>vp,fun _=>vb,fun k=>us.getD k nest0] ⟨fun _=>arr_one h1,fun _=>arr_one h2,fun _=>arr_one h3,fun _=>arr_one h4,nest_one h5 h6,trivial⟩
  (rd_one 0 0 eI_ok h1 (by simp) rfl (rd_one 1 r40 r4_ok h2 (by simp) rfl (rd_one 2 0 eI_ok h3 (by simp) rfl (rd_nest 3 4 pd0 pd_ok h4 h5 h6 (by simp) (by simp) rfl (fun _=>rfl) rd_nil))))
  [.agg (stS 0)] _ hf hb hc hrs hn (fun E' hE'=>?_) hnt hex
 have e:=fun i hi=>hE' i 0 0 hi
 simp only [List.map_cons,List.map_nil,SV.den,stS,SC.den,e 0 (by simp),e 1 (by simp),e 2 (by simp),e 3 (by simp),Nat.reduceAdd]
 rfl
def cpσ (l f i a b:Nat) (x:Nm):Nm:=if x.1=l then (a,x.2) else if x.1=f then (if x.2.1=i then (b,0,0) else x) else x
theorem cpσ_inj {l f i a b n:Nat} {F:Nat→Blk} {own:Own} (hk:∀ k∈keysL own,k≤f) (hf:look own f=some (.fam n F)) (hlf:l<f) (ha:f<a) (hb:f<b) (hab:a≠b):InjN (cpσ l f i a b) own:=by
 have hx2:∀ z c,atN own z=some c→z.1≤f∧(z.1=f→z.2.2=0):=fun z c hz=>by
  obtain ⟨G,hG,hg⟩:=atN_some hz
  refine ⟨hk _ (look_keysL hG),fun e=>?_⟩
  rw [e,hf] at hG
  cases hG
  simp only [Fm.get] at hg
  split at hg
  ·next h=>exact h.2
  ·cases hg
 intro x y c d hx hy e
 obtain ⟨hx1,hx2'⟩:=hx2 x c hx
 obtain ⟨hy1,hy2'⟩:=hx2 y d hy
 obtain ⟨x1,x2,x3⟩:=x
 obtain ⟨y1,y2,y3⟩:=y
 simp only at hx1 hx2' hy1 hy2'
 have key:∀ z1 z2 z3:Nat,z1≤f→(z1=f→z3=0)→(cpσ l f i a b (z1,z2,z3)=(a,z2,z3)∧z1=l)∨(cpσ l f i a b (z1,z2,z3)=(b,0,0)∧z1=f∧z2=i∧z3=0)∨(cpσ l f i a b (z1,z2,z3)=(z1,z2,z3)∧z1≠l∧¬ (z1=f∧z2=i)):=fun z1 z2 z3 h1 h2=>by
  unfold cpσ
  simp only
  by_cases g1:z1=l
  ·rw [if_pos g1];exact Or.inl ⟨rfl,g1⟩
  ·rw [if_neg g1]
   by_cases g2:z1=f
   ·rw [if_pos g2]
    by_cases g3:z2=i
    ·rw [if_pos g3];exact Or.inr (Or.inl ⟨rfl,g2,g3,h2 g2⟩)
    ·rw [if_neg g3];exact Or.inr (Or.inr ⟨rfl,g1,fun h=>g3 h.2⟩)
   ·rw [if_neg g2];exact Or.inr (Or.inr ⟨rfl,g1,fun h=>g2 h.1⟩)
 clear hk hf hx hy
 have k1:=key x1 x2 x3 hx1 hx2'
 have k2:=key y1 y2 y3 hy1 hy2'
 rw [e] at k1
 generalize cpσ l f i a b (y1,y2,y3)=q at k1 k2
 obtain ⟨q1,q2,q3⟩:=q
 simp only [Prod.mk.injEq] at k1 k2 ⊢
 omega
theorem fit8 (n:Nat) (h:n * 8≤140737488351232):(n+n / 4+192) * 8≤281474976710656∧n≤9223372036854775807:=by omega
theorem fit32 (n:Nat) (h:n * 32≤140737488351232):(n+n / 4+192) * 32≤281474976710656∧n≤9223372036854775807:=by omega
theorem fit16 (n:Nat) (h:n * 16≤140737488351232):(n+n / 4+192) * 16≤281474976710656∧n≤9223372036854775807:=by omega
def LsSz (s:LS):Prop:=s.words.length * 8≤140737488351232∧s.regs.length * 32≤140737488351232∧s.places.length * 8≤140737488351232∧s.bufs.length * 24≤140737488351232∧∀ k,k<s.bufs.length→(s.bufs.getD k []).length * 16≤140737488351232
def ir21:IR:=(.seq (.ops [⟨(some 1),(.box 32 (.t 0)),none⟩,⟨(some 2),(.new 32 [(.v (.slice none 0 0)),(.v (.slice none 0 0)),(.v (.slice none 0 0)),(.v (.slice none 0 0))]),none⟩]) (.kill [0,3,4,5,6,7,8,9,10,11] (.seq (.ops [⟨(some 3),(.new 32 [(.v (.slice none 0 0)),(.v (.slice none 0 0)),(.v (.slice none 0 0)),(.v (.slice none 0 0))]),none⟩]) (.seq (.ops [⟨(some 6),(.fa 0 (.t 3)),none⟩,⟨(some 7),(.ld false 1 (.t 6)),none⟩,⟨(some 8),(.fa 0 (.t 1)),none⟩,⟨(some 9),(.ld false 1 (.t 8)),none⟩,⟨(some 10),(.app 3 1 8 [(.v (.int .i64 0))] (.t 7) (.t 9)),none⟩,⟨(some 11),(.fa 0 (.t 3)),none⟩,⟨none,(.st 1 (.t 11) (.t 10)),none⟩]) (.kill [6,7,8,9,10,11] (.seq (.ops [⟨(some 12),(.fa 1 (.t 3)),none⟩,⟨(some 13),(.ld false 1 (.t 12)),none⟩,⟨(some 14),(.fa 1 (.t 1)),none⟩,⟨(some 15),(.ld false 1 (.t 14)),none⟩,⟨(some 16),(.app 68 4 32 [(.v (.int .i64 0)),(.v (.int .i64 0)),(.v (.int .i64 0)),(.v (.int .i64 0))] (.t 13) (.t 15)),none⟩,⟨(some 17),(.fa 1 (.t 3)),none⟩,⟨none,(.st 1 (.t 17) (.t 16)),none⟩]) (.kill [12,13,14,15,16,17] (.seq (.ops [⟨(some 18),(.fa 2 (.t 3)),none⟩,⟨(some 19),(.ld false 1 (.t 18)),none⟩,⟨(some 20),(.fa 2 (.t 1)),none⟩,⟨(some 21),(.ld false 1 (.t 20)),none⟩,⟨(some 22),(.app 3 1 8 [(.v (.int .i64 0))] (.t 19) (.t 21)),none⟩,⟨(some 23),(.fa 2 (.t 3)),none⟩,⟨none,(.st 1 (.t 23) (.t 22)),none⟩]) (.kill [18,19,20,21,22,23] (.seq (.seq (.ops [⟨(some 4),(.mv (.k (.c (.v (.int .i64 0))))),none⟩]) (.blk 0 (.loop (.seq (.seq (.ops [⟨(some 24),(.mv (.t 4)),none⟩,⟨(some 25),(.fa 3 (.t 1)),none⟩,⟨(some 26),(.ld false 1 (.t 25)),none⟩,⟨(some 27),(.len (.t 26)),none⟩,⟨(some 28),(.bin .lss (.t 24) (.t 27)),none⟩]) (.kill [5,24,25,26,27,29,30,31,32,33,34,35,36,37,38,39,40,41,42,43] (.cond (.t 28) .skip (.exit 0)))) (.kill [28] (.seq (.blk 1 (.seq (.ops [⟨(some 5),(.mv (.k (.c (.v (.slice none 0 0))))),none⟩]) (.seq (.ops [⟨(some 31),(.mv (.t 5)),none⟩,⟨(some 32),(.fa 3 (.t 1)),none⟩,⟨(some 33),(.ld false 1 (.t 32)),none⟩,⟨(some 34),(.mv (.t 4)),none⟩,⟨(some 35),(.ia 1 (.t 33) (.t 34)),none⟩,⟨(some 36),(.ld false 1 (.t 35)),none⟩,⟨(some 37),(.app 88 2 16 [(.v (.int .i64 0)),(.v (.int .i64 0))] (.t 31) (.t 36)),none⟩,⟨(some 5),(.mv (.t 37)),none⟩]) (.kill [31,32,33,34,35,36,37] (.ops [⟨(some 38),(.fa 3 (.t 3)),none⟩,⟨(some 39),(.ld false 1 (.t 38)),none⟩,⟨(some 40),(.mv (.t 5)),none⟩,⟨(some 41),(.mkSl 86 1 1 [(.v (.slice none 0 0))] [(0,(1,(.t 40)))]),none⟩,⟨(some 42),(.app 86 1 24 [(.v (.slice none 0 0))] (.t 39) (.t 41)),none⟩,⟨(some 43),(.fa 3 (.t 3)),none⟩,⟨none,(.st 1 (.t 43) (.t 42)),none⟩]))))) (.kill [5,31,32,33,34,35,36,37,38,39,40,41,42,43] (.ops [⟨(some 29),(.mv (.t 4)),none⟩,⟨(some 30),(.bin .add (.t 29) (.k (.c (.v (.int .i64 1))))),none⟩,⟨(some 4),(.mv (.t 30)),none⟩])))))))) (.kill [1,4,5,24,25,26,27,28,29,30,31,32,33,34,35,36,37,38,39,40,41,42,43] (.seq (.ops [⟨(some 44),(.ld true 4 (.t 3)),none⟩,⟨none,(.st 4 (.t 2) (.t 44)),none⟩]) (.kill [3,44] .ret)))))))))))))
def rs21:List RS:=[(.cell 2 true 4)]
def nt21:Nat:=45
def ir46:IR:=(.seq (.ops [⟨(some 1),(.box 32 (.t 0)),none⟩,⟨(some 2),(.new 32 [(.v (.slice none 0 0)),(.v (.slice none 0 0)),(.v (.slice none 0 0)),(.v (.slice none 0 0))]),none⟩]) (.kill [0,3,4,5,6,7,8,9,10,11] (.seq (.draw [(⟨(some 6),(.fa 0 (.t 1)),none⟩,([],[9,10,12,13,3])),(⟨(some 7),(.ld false 1 (.t 6)),none⟩,([],[9,10,12,13,3])),(⟨(some 8),(.call 44 [(.t 7)]),none⟩,([],[9,10,12,13,3])),(⟨(some 9),(.fa 1 (.t 1)),none⟩,([0,1,2],[6,7,8,12,13,3])),(⟨(some 10),(.ld false 1 (.t 9)),none⟩,([0,1,2],[6,7,8,12,13,3])),(⟨(some 11),(.call 81 [(.t 10)]),none⟩,([],[12,13,3])),(⟨(some 12),(.fa 2 (.t 1)),none⟩,([0,1,2,3,4,5],[6,7,8,9,10,11,3])),(⟨(some 13),(.ld false 1 (.t 12)),none⟩,([0,1,2,3,4,5],[6,7,8,9,10,11,3])),(⟨(some 14),(.call 44 [(.t 13)]),none⟩,([],[3])),(⟨(some 15),(.build [(.v (.slice none 0 0)),(.v (.slice none 0 0)),(.v (.slice none 0 0)),(.v (.slice none 0 0))] [(0,(1,(.t 8))),(1,(1,(.t 11))),(2,(1,(.t 14)))]),none⟩,([],[3])),(⟨(some 3),(.new 32 [(.v (.slice none 0 0)),(.v (.slice none 0 0)),(.v (.slice none 0 0)),(.v (.slice none 0 0))]),none⟩,([0,1,2,3,4,5,6,7,8,9],[6,7,8,9,10,11,12,13,14,15])),(⟨none,(.st 4 (.t 3) (.t 15)),none⟩,([],[]))]) (.kill [6,7,8,9,10,11,12,13,14,15] (.seq (.seq (.ops [⟨(some 16),(.fa 3 (.t 1)),none⟩,⟨(some 17),(.ld false 1 (.t 16)),none⟩,⟨(some 18),(.len (.t 17)),none⟩,⟨(some 19),(.mv (.k (.c (.v (.int .i64 0))))),none⟩]) (.kill [1,16] (.blk 0 (.loop (.seq (.ops [⟨(some 20),(.bin .lss (.t 19) (.t 18)),none⟩]) (.kill [5,21,22,23,24,25,26,27,28,29,30] (.seq (.cond (.t 20) .skip (.exit 0)) (.kill [20] (.seq (.blk 1 (.seq (.ops [⟨(some 21),(.ia 1 (.t 17) (.t 19)),none⟩,⟨(some 22),(.ld false 1 (.t 21)),none⟩,⟨(some 5),(.mv (.t 22)),none⟩]) (.kill [21,22] (.draw [(⟨(some 23),(.fa 3 (.t 3)),none⟩,([],[25,26,27])),(⟨(some 24),(.ld false 1 (.t 23)),none⟩,([],[25,26,27])),(⟨(some 25),(.mv (.t 5)),none⟩,([0,1],[23,24])),(⟨(some 26),(.call 82 [(.t 25)]),none⟩,([0,1],[23,24])),(⟨(some 27),(.mkSl 86 1 1 [(.v (.slice none 0 0))] [(0,(1,(.t 26)))]),none⟩,([0,1],[23,24])),(⟨(some 28),(.app 86 1 24 [(.v (.slice none 0 0))] (.t 24) (.t 27)),none⟩,([],[])),(⟨(some 29),(.fa 3 (.t 3)),none⟩,([],[])),(⟨none,(.st 1 (.t 29) (.t 28)),none⟩,([],[]))])))) (.kill [5,21,22,23,24,25,26,27,28,29] (.ops [⟨(some 30),(.bin .add (.t 19) (.k (.c (.v (.int .i64 1))))),none⟩,⟨(some 19),(.mv (.t 30)),none⟩]))))))))))) (.kill [5,17,18,19,20,21,22,23,24,25,26,27,28,29,30] (.seq (.ops [⟨(some 31),(.ld true 4 (.t 3)),none⟩,⟨none,(.st 4 (.t 2) (.t 31)),none⟩]) (.kill [3,31] .ret))))))))
def rs46:List RS:=[(.cell 2 true 4)]
def nt46:Nat:=32
set_option maxRecDepth 100000 in
set_option maxHeartbeats 1000000 in
theorem rcopy_calls (w:World) (v:Value) (s:LS) (hsz:LsSz s) (h:StR w v s):Calls Try.prog 21 #[v] w (RetN w 5 (fun b=>.agg (stC b s)) (fun b=>stO b s)):=by
 refine enterSt (A:=[]) (c:=ir21) (rs:=rs21) (nt:=nt21) h Try.func21 rfl (by kernel_rfl) (by kernel_rfl) rfl (of_decide_eq_true rfl) ?_
 obtain ⟨z1,z2,z3,z4,z5⟩:=hsz
 have y1:=fit8 _ z1
 have y2:=fit32 _ z2
 have y3:=fit8 _ z3
 simp (maxSteps:=2000000) only [ir21,nt21,rs21,go_sem,↓runOp,↓reduceIte,Nat.reduceLT,Nat.reduceLeDiff,Nat.reduceAdd,Nat.reduceEqDiff,reduceCtorEq,stA,stS]
 refine And.intro ⟨by omega,y1.2⟩ (And.intro ⟨by omega,y2.2⟩ (And.intro ⟨by omega,y3.2⟩ ?_))
 refine loopI (ι:={ i:Nat // i≤s.bufs.length }) (fun i=>⟨45,[(1,.c (.ptr (5,0,0) 0)),(2,.c (.ptr (6,0,0) 0)),(3,.c (.ptr (7,0,0) 0)),(4,.c (.v (.int .i64 (i.1:Nat))))],
  [(5,.one (.bk [.xv (0,0,0),.xv (1,0,0),.xv (2,0,0),.xv (3,0,0)] 32)),(6,.one (.bk [.v (.slice none 0 0),.v (.slice none 0 0),.v (.slice none 0 0),.v (.slice none 0 0)] 32)),(7,.one (.bk [.sl (8,0,0) 1 0 s.words.length none,.sl (9,0,0) 4 0 s.regs.length none,.sl (10,0,0) 1 0 s.places.length none,.sl (11,0,0) 1 0 i.1 none] 32)),(8,.one (.ar s.words.length 1 (ats eI s.words 0) 3)),(9,.one (.ar s.regs.length 4 (ats R4.enc s.regs r40) 68)),(10,.one (.ar s.places.length 1 (ats eI s.places 0) 3)),(11,.one (.ar i.1 1 (bfC 12 s) 86)),(12,.fam i.1 (bfO s))],stA 0 s,[],13⟩)
  (fun i=>s.bufs.length - i.1) ⟨0,by omega⟩ ?_ ?_
 ·refine le_tr (le_nilcell 7 1 86 32 _ [.sl (8,0,0) 1 0 s.words.length none,.sl (9,0,0) 4 0 s.regs.length none,.sl (10,0,0) 1 0 s.places.length none,.sl (11,0,0) 1 0 0 none] (bfC 12 s) rfl rfl (fun E h1 h2=>by simp [SC.den,h1,h2])) ?_
  refine le_ren id rfl rfl (by simp [TmpsLe,look,SV.ren,SC.ren,idσ,SV.okN,SC.okN]) ?_ (by simp +contextual [stA,ArrsLe,ArrLeO,atN,look,Fm.get,idσ,arrLe_of,arrLe_nest]) rfl
  simp [OwnLe,BlkLeO,BlkLe,atN,look,setL,Fm.get,idσ,SC.renL,SC.ren,SC.okL,SC.okN,ren_ats,ok_ats,arrOf_ats]
 rintro ⟨i,hi⟩
 simp (maxSteps:=2000000) only [go_sem,↓condS,↓exitS,↓runOp,↓reduceIte,Nat.reduceLT,Nat.reduceLeDiff,Nat.reduceAdd,Nat.reduceMul,Nat.reduceEqDiff,reduceCtorEq,stA]
 refine both (fun hlt=>?_) (fun hge=>?_)
 ·rw [decide_eq_true_eq] at hlt
  have hlt:i<s.bufs.length:=by omega
  have y4:=fit16 _ (z5 i hlt)
  have y5:(i+1+(i+1) / 4+192) * 24≤281474976710656:=fit24 (i+1) (Nat.le_trans (Nat.mul_le_mul_right 24 hlt) (Nat.le_trans z4 (by decide)))
  have y6:i+1≤maxLen:=Nat.le_trans hlt (by simp only [maxLen];omega)
  refine And.intro hlt (And.intro hlt (And.intro ⟨hlt,by omega,y4.2⟩ (And.intro (by decide) (And.intro ⟨Nat.le_refl _,y5,y6⟩ ?_))))
  rw [wr_succ (by omega)]
  refine backI ⟨i+1,by omega⟩ (by simp only;omega) (le_nm (cpσ 11 12 i 15 13) ⟨rfl,rfl,by simp [TmpsLe,look,SV.ren,SC.ren,cpσ,SV.okN,SC.okN],?_,?_,?_⟩)
  ·refine ⟨⟨of_decide_eq_true rfl,by simp [BlkLeO,BlkLe,atN,look,Fm.get,cpσ,SC.renL,SC.ren,SC.okL,SC.okN]⟩,⟨of_decide_eq_true rfl,by simp [BlkLeO,BlkLe,atN,look,Fm.get,cpσ,SC.renL,SC.ren,SC.okL,SC.okN]⟩,⟨of_decide_eq_true rfl,by simp [BlkLeO,BlkLe,atN,look,Fm.get,cpσ,SC.renL,SC.ren,SC.okL,SC.okN]⟩,⟨of_decide_eq_true rfl,arLe_same⟩,⟨of_decide_eq_true rfl,arLe_same⟩,⟨of_decide_eq_true rfl,arLe_same⟩,⟨of_decide_eq_true rfl,?_⟩,⟨of_decide_eq_true rfl,fun k hk=>?_⟩,trivial⟩
   ·refine ⟨Nat.le_refl _,rfl,rfl,fun e he=>⟨?_,by simp [bfC,SC.okL,SC.okN]⟩⟩
    by_cases h:e=i
    ·subst h;simp [appAt,bfC,SC.renL,SC.ren,cpσ,take',drop']
    ·have:e<i:=by have he' : e<i+1:=he;omega
     simp [appAt,this,bfC,SC.renL,SC.ren,cpσ,h]
   ·by_cases h:k=i
    ·subst h
     simp only [cpσ,atN,look,Nat.reduceEqDiff,reduceIte,Fm.get,and_self,bfO]
     exact arLe_of (Nat.le_refl _) fun e he=>by simp [arrOf_ats]
    ·have:k<i:=by have hk' : k<i+1:=hk;omega
     simp only [cpσ,atN,look,Nat.reduceEqDiff,reduceIte,Fm.get,h,this,and_self,bfO]
     exact arLe_same
  ·refine ⟨⟨of_decide_eq_true rfl,arrLe_of⟩,⟨of_decide_eq_true rfl,arrLe_of⟩,⟨of_decide_eq_true rfl,arrLe_of⟩,⟨of_decide_eq_true rfl,⟨rfl,rfl,fun e _=>⟨by simp [nestF,SC.renL,SC.ren,cpσ],by simp [nestF,SC.okL,SC.okN]⟩,Nat.le_refl _⟩⟩,⟨of_decide_eq_true rfl,fun k hk=>?_⟩,trivial⟩
   simp only [cpσ,atN,look,Nat.reduceEqDiff,reduceIte,Fm.get,hk,and_self]
   exact arrLe_of
  ·exact cpσ_inj (fun k hk=>by simp [keysL] at hk;omega) rfl (by decide) (by decide) (by decide) (by decide)
 ·rw [decide_eq_false_iff_not] at hge
  have hin:i=s.bufs.length:=by omega
  subst hin
  refine retN (fun j=>j+8) (fun b=>⟨?_,?_⟩) (fun b=>?_) (fun b=>?_)
  ·simp [stC,SV.ren,SC.renL,SC.ren,fromσ]
  ·simp [stC,SV.okN,SC.okL,SC.okN,NewIds]
  ·refine ⟨⟨⟨by omega,by omega⟩,?_⟩,⟨⟨by omega,by omega⟩,?_⟩,⟨⟨by omega,by omega⟩,?_⟩,⟨⟨by omega,by omega⟩,?_⟩,⟨⟨by omega,by omega⟩,fun k hk=>?_⟩,trivial⟩
   ·simp only [fromσ,Nat.sub_self,Nat.zero_add,atN,look,Nat.reduceEqDiff,reduceIte,Fm.get,and_self];exact arLe_same
   ·simp only [fromσ,Nat.add_sub_cancel_left,Nat.reduceAdd,atN,look,Nat.reduceEqDiff,reduceIte,Fm.get,and_self];exact arLe_same
   ·simp only [fromσ,Nat.add_sub_cancel_left,Nat.reduceAdd,atN,look,Nat.reduceEqDiff,reduceIte,Fm.get,and_self];exact arLe_same
   ·simp only [fromσ,Nat.add_sub_cancel_left,Nat.reduceAdd,atN,look,Nat.reduceEqDiff,reduceIte,Fm.get,and_self]
    exact ⟨Nat.le_refl _,rfl,rfl,fun e he=>⟨by simp [bfC,SC.renL,SC.ren,fromσ],by simp [bfC,SC.okL,SC.okN,NewIds]⟩⟩
   ·simp only [fromσ,Nat.add_sub_cancel_left,Nat.reduceAdd,atN,look,Nat.reduceEqDiff,reduceIte,Fm.get,hk,and_self,bfO];exact arLe_same
  ·exact injN_from fun x hx y hy e=>by
    simp [stO,keysL] at hx hy
    (try simp only at e);(try split at e <;> try split at e);all_goals omega
set_option maxRecDepth 100000 in
set_option maxHeartbeats 1000000 in
theorem icopy_calls (w:World) (v:Value) (s:LS) (hsz:LsSz s) (h:StR w v s):Calls Try.prog 46 #[v] w (RetN w 5 (fun b=>.agg (stC b s)) (fun b=>stO b s)):=by
 refine enterSt (A:=[]) (c:=ir46) (rs:=rs46) (nt:=nt46) h Try.func46 rfl (by kernel_rfl) (by kernel_rfl) rfl (of_decide_eq_true rfl) ?_
 obtain ⟨z1,z2,z3,z4,z5⟩:=hsz
 simp (maxSteps:=2000000) only [ir46,nt46,rs46,go_sem,↓runOp,↓reduceIte,Nat.reduceLT,Nat.reduceAdd,Nat.reduceEqDiff,reduceCtorEq,stA,stS]
 refine draw_vc (by kernel_rfl) (mkTab_ok _ _) (of_decide_eq_true rfl) (of_decide_eq_true rfl) ?_
 repeat (first | simp (maxSteps:=2000000) only [go_sem,↓gateD,↓runD,↓reduceIte,Nat.reduceLT,Nat.reduceEqDiff] | rw [dr_cons])
 refine dcallN 1 (lsT 1 s.words.length) (lsO 3 1 eI s.words 0) (fun E a w' hs=>(clone_ints (arr_at (d:=0) hs 0 rfl) (Nat.le_trans z1 (by decide))).mono fun e w2 he=>retN_of (d:=0) eI_ok he) ?_ ?_
 ·simp [newOk,keysL,lsO]
 repeat (first | simp (maxSteps:=2000000) only [go_sem,↓gateD,↓runD,↓reduceIte,Nat.reduceLT,Nat.reduceAdd,Nat.reduceEqDiff,lsT,lsO] | rw [dr_cons])
 refine dcallN 1 (lsT 4 s.regs.length) (lsO 68 4 R4.enc s.regs r40) (fun E a w' hs=>(clone_regs (arr_at (d:=r40) hs 1 rfl) (Nat.le_trans z2 (by decide))).mono fun e w2 he=>retN_of (d:=r40) r4_ok he) ?_ ?_
 ·simp [newOk,keysL,lsO]
 repeat (first | simp (maxSteps:=2000000) only [go_sem,↓gateD,↓runD,↓reduceIte,Nat.reduceLT,Nat.reduceAdd,Nat.reduceEqDiff,lsT,lsO] | rw [dr_cons])
 refine dcallN 1 (lsT 1 s.places.length) (lsO 3 1 eI s.places 0) (fun E a w' hs=>(clone_ints (arr_at (d:=0) hs 2 rfl) (Nat.le_trans z3 (by decide))).mono fun e w2 he=>retN_of (d:=0) eI_ok he) ?_ ?_
 ·simp [newOk,keysL,lsO]
 repeat (first | simp (maxSteps:=2000000) only [go_sem,↓runOp,↓gateD,↓runD,↓reduceIte,Nat.reduceLT,Nat.reduceLeDiff,Nat.reduceAdd,Nat.reduceEqDiff,reduceCtorEq,lsT,lsO] | rw [dr_cons])
 refine And.intro (Or.inl trivial) (And.intro (Or.inr trivial) ?_)
 refine loopI (ι:={ i:Nat // i≤s.bufs.length }) (fun i=>⟨32,[(2,.c (.ptr (6,0,0) 0)),(3,.c (.ptr (10,0,0) 0)),(17,.c (.xv (3,0,0))),(18,.c (.v (.int .i64 s.bufs.length))),(19,.c (.v (.int .i64 (i.1:Nat))))],
  [(5,.one (.bk [.xv (0,0,0),.xv (1,0,0),.xv (2,0,0),.xv (3,0,0)] 32)),(6,.one (.bk [.v (.slice none 0 0),.v (.slice none 0 0),.v (.slice none 0 0),.v (.slice none 0 0)] 32)),(7,.one (.ar s.words.length 1 (ats eI s.words 0) 3)),(8,.one (.ar s.regs.length 4 (ats R4.enc s.regs r40) 68)),(9,.one (.ar s.places.length 1 (ats eI s.places 0) 3)),(10,.one (.bk [.sl (7,0,0) 1 0 s.words.length none,.sl (8,0,0) 4 0 s.regs.length none,.sl (9,0,0) 1 0 s.places.length none,.sl (11,0,0) 1 0 i.1 none] 32)),(11,.one (.ar i.1 1 (bfC 12 s) 86)),(12,.fam i.1 (bfO s))],stA 0 s,[],13⟩)
  (fun i=>s.bufs.length - i.1) ⟨0,by omega⟩ ?_ ?_
 ·refine le_tr (le_nilcell 10 1 86 32 _ [.sl (7,0,0) 1 0 s.words.length none,.sl (8,0,0) 4 0 s.regs.length none,.sl (9,0,0) 1 0 s.places.length none,.sl (11,0,0) 1 0 0 none] (bfC 12 s) rfl rfl (fun E h1 h2=>by simp [SC.den,h1,h2])) ?_
  refine le_ren id rfl rfl (by simp [TmpsLe,look,SV.ren,SC.ren,idσ,SV.okN,SC.okN]) ?_ (by simp +contextual [stA,ArrsLe,ArrLeO,atN,look,Fm.get,idσ,arrLe_of,arrLe_nest]) rfl
  simp [OwnLe,BlkLeO,BlkLe,atN,look,setL,Fm.get,idσ,SC.renL,SC.ren,SC.okL,SC.okN,ren_ats,ok_ats]
 rintro ⟨i,hi⟩
 simp (maxSteps:=2000000) only [go_sem,↓condS,↓exitS,↓runOp,↓reduceIte,Nat.reduceLT,Nat.reduceLeDiff,Nat.reduceAdd,Nat.reduceEqDiff,reduceCtorEq,stA]
 refine both (fun hlt=>?_) (fun hge=>?_)
 ·rw [decide_eq_true_eq] at hlt
  have hlt:i<s.bufs.length:=by omega
  have y4:=fit16 _ (z5 i hlt)
  have y5:(i+1+(i+1) / 4+192) * 24≤281474976710656:=fit24 (i+1) (Nat.le_trans (Nat.mul_le_mul_right 24 hlt) (Nat.le_trans z4 (by decide)))
  have y6:i+1≤maxLen:=Nat.le_trans hlt (by simp only [maxLen];omega)
  have z6:=z5 i hlt
  refine And.intro hlt (And.intro hlt ?_)
  refine draw_vc (by kernel_rfl) (mkTab_ok _ _) (of_decide_eq_true rfl) (of_decide_eq_true rfl) ?_
  repeat (first | simp (maxSteps:=2000000) only [go_sem,↓gateD,↓runD,↓reduceIte,Nat.reduceLT,Nat.reduceEqDiff] | rw [dr_cons])
  refine dcallN 1 (lsT 2 (s.bufs.getD i []).length) (lsO 88 2 Pd.enc (s.bufs.getD i []) pd0) (fun E a w' hs=>(clone_pend (arr_of (d:=pd0) ((holds_of hs).1 (4,i,0) _ (by simp [atN,look,Fm.get,hlt];rfl))) (Nat.le_trans z6 (by decide))).mono fun e w2 he=>retN_of (d:=pd0) pd_ok he) ?_ ?_
  ·simp [newOk,keysL,lsO]
  repeat (first | simp (maxSteps:=2000000) only [go_sem,↓runOp,↓gateD,↓runD,↓reduceIte,Nat.reduceLT,Nat.reduceLeDiff,Nat.reduceAdd,Nat.reduceMul,Nat.reduceEqDiff,lsT,lsO] | rw [dr_cons])
  refine And.intro (by decide) (And.intro (Or.inl trivial) (And.intro ⟨Nat.le_refl _,y5,y6⟩ (And.intro ⟨Or.inl trivial,Or.inr trivial⟩ (And.intro (Or.inr trivial) ?_))))
  rw [wr_succ (by omega)]
  refine backI ⟨i+1,by omega⟩ (by simp only;omega) (le_nm (cpσ 11 12 i 15 13) ⟨rfl,rfl,by simp [TmpsLe,look,SV.ren,SC.ren,cpσ,SV.okN,SC.okN],?_,?_,?_⟩)
  ·refine ⟨⟨of_decide_eq_true rfl,by simp [BlkLeO,BlkLe,atN,look,Fm.get,cpσ,SC.renL,SC.ren,SC.okL,SC.okN]⟩,⟨of_decide_eq_true rfl,by simp [BlkLeO,BlkLe,atN,look,Fm.get,cpσ,SC.renL,SC.ren,SC.okL,SC.okN]⟩,⟨of_decide_eq_true rfl,arLe_same⟩,⟨of_decide_eq_true rfl,arLe_same⟩,⟨of_decide_eq_true rfl,arLe_same⟩,⟨of_decide_eq_true rfl,by simp [BlkLeO,BlkLe,atN,look,Fm.get,cpσ,SC.renL,SC.ren,SC.okL,SC.okN]⟩,⟨of_decide_eq_true rfl,?_⟩,⟨of_decide_eq_true rfl,fun k hk=>?_⟩,trivial⟩
   ·refine ⟨Nat.le_refl _,rfl,rfl,fun e he=>⟨?_,by simp [bfC,SC.okL,SC.okN]⟩⟩
    by_cases h:e=i
    ·subst h;simp [appAt,bfC,SC.renL,SC.ren,cpσ,take',drop']
    ·have:e<i:=by have he' : e<i+1:=he;omega
     simp [appAt,this,bfC,SC.renL,SC.ren,cpσ,h]
   ·by_cases h:k=i
    ·subst h
     simp only [cpσ,atN,look,Nat.reduceEqDiff,reduceIte,Fm.get,and_self,bfO]
     exact arLe_of (Nat.le_refl _) fun e he=>by simp [appAt]
    ·have:k<i:=by have hk' : k<i+1:=hk;omega
     simp only [cpσ,atN,look,Nat.reduceEqDiff,reduceIte,Fm.get,h,this,and_self,bfO]
     exact arLe_same
  ·refine ⟨⟨of_decide_eq_true rfl,arrLe_of⟩,⟨of_decide_eq_true rfl,arrLe_of⟩,⟨of_decide_eq_true rfl,arrLe_of⟩,⟨of_decide_eq_true rfl,⟨rfl,rfl,fun e _=>⟨by simp [nestF,SC.renL,SC.ren,cpσ],by simp [nestF,SC.okL,SC.okN]⟩,Nat.le_refl _⟩⟩,⟨of_decide_eq_true rfl,fun k hk=>?_⟩,trivial⟩
   simp only [cpσ,atN,look,Nat.reduceEqDiff,reduceIte,Fm.get,hk,and_self]
   exact arrLe_of
  ·exact cpσ_inj (fun k hk=>by simp [keysL] at hk;omega) rfl (by decide) (by decide) (by decide) (by decide)
 ·rw [decide_eq_false_iff_not] at hge
  have hin:i=s.bufs.length:=by omega
  subst hin
  refine retN (fun j=>if j<3 then j+7 else j+8) (fun b=>⟨?_,?_⟩) (fun b=>?_) (fun b=>?_)
  ·simp [stC,SV.ren,SC.renL,SC.ren,fromσ]
  ·simp [stC,SV.okN,SC.okL,SC.okN,NewIds]
  ·refine ⟨⟨⟨by omega,by omega⟩,?_⟩,⟨⟨by omega,by omega⟩,?_⟩,⟨⟨by omega,by omega⟩,?_⟩,⟨⟨by omega,by omega⟩,?_⟩,⟨⟨by omega,by omega⟩,fun k hk=>?_⟩,trivial⟩
   ·simp only [fromσ,Nat.sub_self,Nat.zero_add,atN,look,Nat.reduceEqDiff,reduceIte,Fm.get,and_self,Nat.reduceLT];exact arLe_same
   ·simp only [fromσ,Nat.add_sub_cancel_left,Nat.reduceAdd,atN,look,Nat.reduceEqDiff,reduceIte,Fm.get,and_self,Nat.reduceLT];exact arLe_same
   ·simp only [fromσ,Nat.add_sub_cancel_left,Nat.reduceAdd,atN,look,Nat.reduceEqDiff,reduceIte,Fm.get,and_self,Nat.reduceLT];exact arLe_same
   ·simp only [fromσ,Nat.add_sub_cancel_left,Nat.reduceAdd,atN,look,Nat.reduceEqDiff,reduceIte,Fm.get,and_self,Nat.reduceLT]
    exact ⟨Nat.le_refl _,rfl,rfl,fun e he=>⟨by simp [bfC,SC.renL,SC.ren,fromσ],by simp [bfC,SC.okL,SC.okN,NewIds]⟩⟩
   ·simp only [fromσ,Nat.add_sub_cancel_left,Nat.reduceAdd,atN,look,Nat.reduceEqDiff,reduceIte,Fm.get,hk,and_self,bfO,Nat.reduceLT];exact arLe_same
  ·exact injN_from fun x hx y hy e=>by
    simp [stO,keysL] at hx hy
    (try simp only at e);(try split at e <;> try split at e);all_goals omega
end Go.Proofs.Ytmcpdafmkkjlcaa.Z
namespace Go.Proofs.Ytmcpdafmkkjlcaa.Z
open Go Go.RowKit
def pdL:List Pd→List Int
 | []=>[]
 | p :: l=>p.addr :: p.val :: pdL l
theorem pdL_app:∀ (l m:List Pd),pdL (l++m)=pdL l++pdL m
 | [],m=>rfl
 | p :: l,m=>by simp [pdL,pdL_app l m]
theorem pdL_len:∀ (l:List Pd),(pdL l).length=2 * l.length
 | []=>rfl
 | p :: l=>by simp only [pdL,List.length_cons,pdL_len l];omega
def thF (s:LS) (t:Nat):List Int :=
 [(s.regs.getD t r40).a,(s.regs.getD t r40).b,(s.regs.getD t r40).c,(s.regs.getD t r40).d,s.places.getD t 0,((s.bufs.getD t []).length:Int)]++pdL (s.bufs.getD t [])
def flatT (s:LS):Nat→List Int
 | 0=>s.words
 | n+1=>flatT s n++thF s n
def flatS (s:LS):List Int:=flatT s s.regs.length
def padN (N:Nat) (l:List Int):List Int:=l++List.replicate (N - l.length) 0
theorem padN_len {N:Nat} {l:List Int} (h:l.length≤N):(padN N l).length=N:=by simp [padN];omega
theorem padN_set {N:Nat} {l:List Int} (h:l.length<N) (x:Int):(padN N l).set l.length x=padN N (l++[x]):=by
 simp only [padN,List.length_append,List.length_cons,List.length_nil]
 rw [List.set_append_right _ _ (Nat.le_refl _),Nat.sub_self,show N - l.length=(N - (l.length+1))+1 by omega,List.replicate_succ,List.set_cons_zero]
 simp
def picS (s:LS):List Int:=padN 110 (flatS s)
theorem take_split {α:Type} {a b c d:List α} (hl:a.length=c.length) (h:a++b=c++d):a=c∧b=d:=List.append_inj h hl
theorem pdL_inj:∀ {l m:List Pd},l.length=m.length→pdL l=pdL m→l=m
 | [],[],_,_=>rfl
 | [],_ :: _,h,_=>by cases h
 | _ :: _,[],h,_=>by cases h
 | p :: l,q :: m,h,e=>by
  simp only [pdL,List.cons.injEq] at e
  obtain ⟨e1,e2,e3⟩:=e
  obtain ⟨pa,pv⟩:=p
  obtain ⟨qa,qv⟩:=q
  simp only at e1 e2
  subst e1;subst e2
  rw [pdL_inj (by simpa using h) e3]
theorem thF_inj {s s' : LS} {t:Nat} {r r' : List Int} (h:thF s t++r=thF s' t++r'):s.regs.getD t r40=s'.regs.getD t r40∧s.places.getD t 0=s'.places.getD t 0∧s.bufs.getD t []=s'.bufs.getD t []∧r=r':=by
 simp only [thF,List.cons_append,List.nil_append,List.cons.injEq] at h
 obtain ⟨h1,h2,h3,h4,h5,h6,h7⟩:=h
 have hl:(s.bufs.getD t []).length=(s'.bufs.getD t []).length:=by omega
 obtain ⟨h8,h9⟩:=take_split (by rw [pdL_len,pdL_len,hl]) h7
 refine ⟨?_,h5,pdL_inj hl h8,h9⟩
 cases e:s.regs.getD t r40
 cases e' : s'.regs.getD t r40
 rw [e,e'] at h1 h2 h3 h4
 simp only at h1 h2 h3 h4
 subst h1;subst h2;subst h3;subst h4
 rfl
def flatFrom (s:LS):Nat→Nat→List Int
 | 0,_=>[]
 | n+1,t=>thF s t++flatFrom s n (t+1)
theorem flatT_from (s:LS) (k:Nat):∀ n,flatT s (k+n)=flatT s k++flatFrom s n k:=by
 have snoc:∀ n t,flatFrom s (n+1) t=flatFrom s n t++thF s (t+n):=by
  intro n
  induction n with
  | zero=>intro t;simp [flatFrom]
  | succ n ih =>
   intro t
   rw [flatFrom,ih (t+1),show t+1+n=t+(n+1) by omega]
   simp only [flatFrom,List.append_assoc]
 intro n
 induction n with
 | zero=>simp [flatFrom]
 | succ n ih=>rw [show k+(n+1)=(k+n)+1 by omega,flatT,ih,snoc];simp
theorem flatFrom_inj {s s' : LS}:∀ {n t:Nat} {r r' : List Int},flatFrom s n t++r=flatFrom s' n t++r'→∀ k,t≤k→k<t+n→s.regs.getD k r40=s'.regs.getD k r40∧s.places.getD k 0=s'.places.getD k 0∧s.bufs.getD k []=s'.bufs.getD k []
 | 0,t,r,r',_,k,h1,h2=>by omega
 | n+1,t,r,r',h,k,h1,h2=>by
  simp only [flatFrom,List.append_assoc] at h
  obtain ⟨g1,g2,g3,g4⟩:=thF_inj h
  by_cases e:k=t
  ·subst e;exact ⟨g1,g2,g3⟩
  ·exact flatFrom_inj g4 k (by omega) (by omega)
theorem ext_getD {α:Type} {l m:List α} {d:α} (hl:l.length=m.length) (h:∀ k,k<l.length→l.getD k d=m.getD k d):l=m:=by
 refine List.ext_getElem hl fun k h1 h2=>?_
 have:=h k h1
 rwa [List.getD_eq_getElem?_getD,List.getElem?_eq_getElem h1,List.getD_eq_getElem?_getD,List.getElem?_eq_getElem h2] at this
structure Shp (n m:Nat) (s:LS):Prop where
 w:s.words.length=n
 r:s.regs.length=m
 p:s.places.length=m
 b:s.bufs.length=m
theorem flat_inj {n m:Nat} {s s' : LS} {r r' : List Int} (hs:Shp n m s) (hs' : Shp n m s') (h:flatS s++r=flatS s'++r'):s=s':=by
 unfold flatS at h
 rw [hs.r,hs'.r] at h
 have e:=fun x:LS=>flatT_from x 0 m
 simp only [Nat.zero_add] at e
 rw [e s,e s',List.append_assoc,List.append_assoc] at h
 obtain ⟨hw,h⟩:=take_split (show (flatT s 0).length=(flatT s' 0).length by simp only [flatT,hs.w,hs'.w]) h
 have hk:=fun k hk=>flatFrom_inj h k (Nat.zero_le _) (by omega)
 obtain ⟨w,rg,p,b⟩:=s
 obtain ⟨w',rg',p',b'⟩:=s'
 simp only [flatT] at hw
 have h1:=hs.r;have h2:=hs.p;have h3:=hs.b
 have g1:=hs'.r;have g2:=hs'.p;have g3:=hs'.b
 simp only at h1 h2 h3 g1 g2 g3 hk
 rw [hw,ext_getD (l:=rg) (m:=rg') (d:=r40) (by omega) (fun k hk'=>(hk k (by omega)).1),ext_getD (l:=p) (m:=p') (d:=0) (by omega) (fun k hk'=>(hk k (by omega)).2.1),ext_getD (l:=b) (m:=b') (d:=[]) (by omega) (fun k hk'=>(hk k (by omega)).2.2)]
theorem pic_inj {n m:Nat} {s s' : LS} (hs:Shp n m s) (hs' : Shp n m s') (h:picS s=picS s'):s=s':=flat_inj hs hs' h
theorem flatS_inj {n m:Nat} {s s' : LS} (hs:Shp n m s) (hs' : Shp n m s') (h:flatS s=flatS s'):s=s':=flat_inj (r:=[]) (r':=[]) hs hs' (by rw [h])
structure WfT (L:Lt) (o:Int) (s:LS):Prop where
 wf:WfS L o 10 s
 bp:∀ t,t<L.thr.length→((s.bufs.getD t []).length:Int)≤s.places.getD t 0
theorem WfT.shp {L:Lt} {o:Int} {s:LS} (h:WfT L o s):Shp L.words.length L.thr.length s:=⟨h.wf.w,h.wf.r,h.wf.p,h.wf.b⟩
theorem begin_wfT {L:Lt} (o:Int):WfT L o (beginS L):=by
 refine ⟨(begin_wf o).mono (Nat.zero_le _),fun t ht=>?_⟩
 have:=(begin_wf (L:=L) o).thr t ht
 have h1:=this.b
 have h2:=this.p0
 omega
theorem turn_wfT {L:Lt} {o:Int} {s:LS} (hL:checkB L=true) (h:WfT L o s) (t:Tn):WfT L o (turnS L o s t).1:=by
  have hwf:=turn_wf hL h.wf t
  have key:∀ k,k<L.thr.length→(((turnS L o s t).1.bufs.getD k []).length:Int)≤(turnS L o s t).1.places.getD k 0:=by
    intro k hk
    have hb:=h.bp k hk
    unfold turnS
    split
    · next ht =>
      have hk2:t.thr.toNat<L.thr.length:=by omega
      split
      · unfold outS
        split
        · exact hb
        · split
          · exact hb
          · simp only
            rw [getD_setE]
            split
            · next e =>
              rw [← e.1] at hb ⊢
              have:=List.length_eraseIdx_le (s.bufs.getD t.thr.toNat []) ‹Nat›
              omega
            · exact hb
      · split
        · exact hb
        · next hp =>
          split
          · exact hb
          · next s' f hs =>
            have g:=h.wf.thr _ hk2
            have hpl:(s.places.getD t.thr.toNat 0).toNat<(L.thr.getD t.thr.toNat []).length:=by have:=g.p0;have:=g.p1;omega
            have hc:=(fits_at hL hk2).2 _ (show (L.thr.getD t.thr.toNat []).getD (s.places.getD t.thr.toNat 0).toNat in0∈_ by rw [List.getD_eq_getElem?_getD (l:=L.thr.getD t.thr.toNat []),List.getElem?_eq_getElem hpl];exact List.getElem_mem hpl)
            obtain ⟨e1,f1,f2,hw⟩:=step_wf h.wf hk2 hc hs
            have hbk : (s'.bufs.getD k []).length≤(s.bufs.getD k []).length+(if k=t.thr.toNat then 1 else 0):=by
              unfold stepS at hs
              repeat' split at hs
              all_goals first
                | (cases hs;exact Nat.le_add_right _ _)
                | (cases hs;simp only;rw [getD_setE];by_cases e:k=t.thr.toNat
                   · rw [if_pos e];split
                     · next e2=>rw [e2.1,List.length_append];simp
                     · omega
                   · rw [if_neg (fun q=>e q.1.symm)];omega)
                | cases hs
            simp only
            rw [getD_setE,e1]
            have hlp:=h.wf.p
            split
            · next e =>
              obtain ⟨e,_⟩:=e
              rw [if_pos e.symm] at hbk
              rw [← e] at hb hbk ⊢
              have:=g.p1
              split <;> omega
            · next e =>
              have e:¬ k=t.thr.toNat:=fun q=>e ⟨q.symm,by omega⟩
              rw [if_neg e] at hbk
              omega
    · exact hb
  refine ⟨⟨hwf.w,hwf.r,hwf.p,hwf.b,fun k hk=>?_⟩,key⟩
  have g:=hwf.thr k hk
  refine ⟨g.p0,g.p1,?_,g.sc,g.pend⟩
  have h1:=key k hk
  have h2:=g.p1
  have h3:=(fits_at hL hk).1
  omega
theorem flat_le {L:Lt} {o:Int} {s:LS} (hL:checkB L=true) (h:WfT L o s) {n:Nat} (hn:n≤L.thr.length):(flatT s n).length≤6+26 * n:=by
 induction n with
 | zero=>have:=(sz_at hL).2.2.2;simp only [flatT,h.wf.w];omega
 | succ n ih =>
  have:=ih (by omega)
  have hb:=(h.wf.thr n (by omega)).b
  simp only [flatT,thF,List.length_append,List.length_cons,List.length_nil,pdL_len]
  omega
end Go.Proofs.Ytmcpdafmkkjlcaa.Z
namespace Go.Proofs.Ytmcpdafmkkjlcaa.Z
open Go Go.RowKit
def ir83:IR:=(.seq (.ops [⟨(some 1),(.box 32 (.t 0)),none⟩,⟨(some 2),(.newA 132 110 1 [(.v (.int .i64 0))]),none⟩]) (.kill [0,3,4,5,6,7,8,9,10,11] (.seq (.ops [⟨(some 3),(.newA 132 110 1 [(.v (.int .i64 0))]),none⟩]) (.seq (.draw [(⟨(some 11),(.sla 110 (.t 3)),none⟩,([],[12,13,4])),(⟨(some 12),(.fa 0 (.t 1)),none⟩,([0],[11,4])),(⟨(some 13),(.ld false 1 (.t 12)),none⟩,([0],[11,4])),(⟨(some 14),(.cpy 1 (.t 11) (.t 13)),none⟩,([],[4])),(⟨(some 4),(.new 3 [(.v (.int .i64 0))]),none⟩,([0,1,2,3],[11,12,13,14])),(⟨none,(.st 1 (.t 4) (.t 14)),none⟩,([],[]))]) (.kill [11,12,13,14] (.seq (.ops [⟨(some 15),(.mfn (.func 96) [] [(.t 3),(.t 4)]),none⟩,⟨(some 5),(.mv (.t 15)),none⟩]) (.kill [4,15] (.seq (.seq (.ops [⟨(some 16),(.fa 1 (.t 1)),none⟩,⟨(some 17),(.ld false 1 (.t 16)),none⟩,⟨(some 18),(.len (.t 17)),none⟩,⟨(some 19),(.mv (.k (.c (.v (.int .i64 0))))),none⟩]) (.kill [16,17] (.blk 0 (.loop (.seq (.ops [⟨(some 20),(.bin .lss (.t 19) (.t 18)),none⟩]) (.kill [6,8,10,21,22,23,24,25,26,27,28,29,30,31,32,33,34,35,36,37,38,39,40,41,42,43,44,45,46,47,48,49,50,51,52,53,54,55,56,57,58,59,60,61,62,63,64,65,66,67,68] (.seq (.cond (.t 20) .skip (.exit 0)) (.kill [20] (.seq (.blk 1 (.seq (.ops [⟨(some 21),(.mv (.t 19)),none⟩,⟨(some 6),(.mv (.t 21)),none⟩]) (.kill [21] (.seq (.seq (.ops [⟨(some 22),(.fa 1 (.t 1)),none⟩,⟨(some 23),(.ld false 1 (.t 22)),none⟩,⟨(some 24),(.mv (.t 6)),none⟩,⟨(some 25),(.ia 4 (.t 23) (.t 24)),none⟩,⟨(some 26),(.ld true 4 (.t 25)),none⟩,⟨(some 27),(.mv (.k (.c (.v (.int .i64 0))))),none⟩]) (.kill [22,23,24,25] (.blk 2 (.loop (.seq (.ops [⟨(some 28),(.bin .lss (.t 27) (.k (.c (.v (.int .i64 4))))),none⟩]) (.kill [8,29,30,31,32,33] (.seq (.cond (.t 28) .skip (.exit 2)) (.kill [28] (.seq (.blk 3 (.seq (.ops [⟨(some 29),(.idx false 4 1 (.t 26) (.t 27)),none⟩,⟨(some 8),(.mv (.t 29)),none⟩]) (.kill [29] (.ops [⟨(some 30),(.mv (.t 5)),none⟩,⟨(some 31),(.mv (.t 8)),none⟩,⟨(some 32),(.callv (.t 30) [(.t 31)]),none⟩])))) (.kill [8,29,30,31,32] (.ops [⟨(some 33),(.bin .add (.t 27) (.k (.c (.v (.int .i64 1))))),none⟩,⟨(some 27),(.mv (.t 33)),none⟩]))))))))))) (.kill [8,26,27,28,29,30,31,32,33] (.seq (.ops [⟨(some 34),(.mv (.t 5)),none⟩,⟨(some 35),(.fa 2 (.t 1)),none⟩,⟨(some 36),(.ld false 1 (.t 35)),none⟩,⟨(some 37),(.mv (.t 6)),none⟩,⟨(some 38),(.ia 1 (.t 36) (.t 37)),none⟩,⟨(some 39),(.ld false 1 (.t 38)),none⟩,⟨(some 40),(.callv (.t 34) [(.t 39)]),none⟩]) (.kill [34,35,36,37,38,39,40] (.seq (.ops [⟨(some 41),(.mv (.t 5)),none⟩,⟨(some 42),(.fa 3 (.t 1)),none⟩,⟨(some 43),(.ld false 1 (.t 42)),none⟩,⟨(some 44),(.mv (.t 6)),none⟩,⟨(some 45),(.ia 1 (.t 43) (.t 44)),none⟩,⟨(some 46),(.ld false 1 (.t 45)),none⟩,⟨(some 47),(.len (.t 46)),none⟩,⟨(some 48),(.callv (.t 41) [(.t 47)]),none⟩]) (.kill [41,42,43,44,45,46,47,48] (.seq (.ops [⟨(some 49),(.fa 3 (.t 1)),none⟩,⟨(some 50),(.ld false 1 (.t 49)),none⟩,⟨(some 51),(.mv (.t 6)),none⟩,⟨(some 52),(.ia 1 (.t 50) (.t 51)),none⟩,⟨(some 53),(.ld false 1 (.t 52)),none⟩,⟨(some 54),(.len (.t 53)),none⟩,⟨(some 55),(.mv (.k (.c (.v (.int .i64 0))))),none⟩]) (.kill [6,49,50,51,52] (.blk 4 (.loop (.seq (.ops [⟨(some 56),(.bin .lss (.t 55) (.t 54)),none⟩]) (.kill [10,57,58,59,60,61,62,63,64,65,66,67] (.seq (.cond (.t 56) .skip (.exit 4)) (.kill [56] (.seq (.blk 5 (.seq (.ops [⟨(some 57),(.ia 2 (.t 53) (.t 55)),none⟩,⟨(some 58),(.ld true 2 (.t 57)),none⟩,⟨(some 10),(.new 88 [(.v (.int .i64 0)),(.v (.int .i64 0))]),none⟩,⟨none,(.st 2 (.t 10) (.t 58)),none⟩]) (.kill [57,58] (.seq (.ops [⟨(some 59),(.mv (.t 5)),none⟩,⟨(some 60),(.fa 0 (.t 10)),none⟩,⟨(some 61),(.ld false 1 (.t 60)),none⟩,⟨(some 62),(.callv (.t 59) [(.t 61)]),none⟩]) (.kill [59,60,61,62] (.ops [⟨(some 63),(.mv (.t 5)),none⟩,⟨(some 64),(.fa 1 (.t 10)),none⟩,⟨(some 65),(.ld false 1 (.t 64)),none⟩,⟨(some 66),(.callv (.t 63) [(.t 65)]),none⟩])))))) (.kill [10,57,58,59,60,61,62,63,64,65,66] (.ops [⟨(some 67),(.bin .add (.t 55) (.k (.c (.v (.int .i64 1))))),none⟩,⟨(some 55),(.mv (.t 67)),none⟩])))))))))))))))))))) (.kill [6,8,10,21,22,23,24,25,26,27,28,29,30,31,32,33,34,35,36,37,38,39,40,41,42,43,44,45,46,47,48,49,50,51,52,53,54,55,56,57,58,59,60,61,62,63,64,65,66,67] (.ops [⟨(some 68),(.bin .add (.t 19) (.k (.c (.v (.int .i64 1))))),none⟩,⟨(some 19),(.mv (.t 68)),none⟩]))))))))))) (.kill [1,5,6,8,10,18,19,20,21,22,23,24,25,26,27,28,29,30,31,32,33,34,35,36,37,38,39,40,41,42,43,44,45,46,47,48,49,50,51,52,53,54,55,56,57,58,59,60,61,62,63,64,65,66,67,68] (.seq (.ops [⟨(some 69),(.ld true 110 (.t 3)),none⟩,⟨none,(.st 110 (.t 2) (.t 69)),none⟩]) (.kill [3,69] .ret)))))))))))
def rs83:List RS:=[(.cell 2 true 110)]
def nt83:Nat:=70
def ir96:IR:=(.seq (.ops [⟨(some 4),(.ld false 1 (.t 2)),none⟩,⟨(some 5),(.mv (.t 0)),none⟩,⟨(some 6),(.iar 110 1 (.t 1) (.t 4)),none⟩,⟨none,(.st 1 (.t 6) (.t 5)),none⟩]) (.kill [0,1,3,4,5,6,7,8,9,10,11] (.ops [⟨(some 7),(.ld false 1 (.t 2)),none⟩,⟨(some 8),(.bin .add (.t 7) (.k (.c (.v (.int .i64 1))))),none⟩,⟨none,(.st 1 (.t 2) (.t 8)),none⟩])))
def rs96:List RS:=[]
def nt96:Nat:=9
theorem put_pic {pre:List Int} {x:Int} (h:pre.length<110):setAt pre.length (ats eI (padN 110 pre) 0) [.v (.int .i64 x)]=ats eI (padN 110 (pre++[x])) 0:=by
 rw [← padN_set h]
 exact set_atsT (enc:=eI) (by rw [padN_len (by omega)];exact h)
theorem wr_len {pre:List Int} {x:Int} (h:pre.length<110):IntKind.i64.wrap ((pre.length:Int)+1)=((pre++[x]).length:Int):=by
 rw [wr_succ (by omega)];simp
theorem rowC_ats:∀ (n k:Nat) (xs:List Int),k+n=xs.length→rowC n k (ats eI xs 0)=(xs.drop k).map fun x=>.v (.int .i64 x)
 | 0,k,xs,h=>by rw [List.drop_eq_nil_of_le (by omega)];rfl
 | n+1,k,xs,h=>by
  rw [rowC,rowC_ats n (k+1) xs (by omega),List.drop_eq_getElem_cons (show k<xs.length by omega),List.map_cons]
  have:ats eI xs 0 k=[.v (.int .i64 xs[k])]:=by simp [ats,eI,List.getD_eq_getElem?_getD,show k<xs.length by omega]
  rw [this];rfl
theorem allOne_ints:∀ (l:List Int),allOne (l.map fun x=>SC.v (.int .i64 x))=true
 | []=>rfl
 | x :: l=>by simp only [List.map_cons,allOne];rw [allOne_ints l];rfl
theorem rowC_segs:∀ (n k:Nat) (cs:List SC),k+n=cs.length→rowC n k (segs 1 cs)=cs.drop k
 | 0,k,cs,h=>by rw [List.drop_eq_nil_of_le (by omega)];rfl
 | n+1,k,cs,h=>by
  rw [rowC,rowC_segs n (k+1) cs (by omega),List.drop_eq_getElem_cons (show k<cs.length by omega)]
  have:segs 1 cs k=[cs[k]]:=by
   unfold segs
   rw [take'_eq,drop'_eq,Nat.mul_one,List.drop_eq_getElem_cons (by omega)]
   rfl
  rw [this];rfl
theorem take_pd2 {l:List Pd} {i:Nat} (h:i<l.length):l.take (i+1)=l.take i++[l.getD i pd0]:=by
 rw [List.take_succ_eq_append_getElem h,List.getD_eq_getElem?_getD,List.getElem?_eq_getElem h];rfl
theorem cpy_pic {xs:List Int} (h:xs.length≤6):cpyAt 0 (xs.length.min 110) (fun _=>[SC.v (.int .i64 0)]) (arrOf eI 1 xs 0).at_=ats eI (padN 110 xs) 0:=by
 funext e
 have hm:xs.length.min 110=xs.length:=Nat.min_eq_left (by omega)
 simp only [cpyAt,arrOf_ats,hm,ats,eI,padN]
 by_cases h1:e<xs.length
 ·rw [if_pos ⟨Nat.zero_le _,by omega⟩,List.getD_eq_getElem?_getD,List.getD_eq_getElem?_getD,List.getElem?_append_left h1,Nat.sub_zero]
 ·rw [if_neg (by omega),List.getD_eq_getElem?_getD,List.getElem?_append_right (by omega)]
  simp only [List.getElem?_replicate]
  split <;> rfl
set_option maxRecDepth 100000 in
set_option maxHeartbeats 2000000 in
theorem pic_calls (w:World) (v:Value) (L:Lt) (o:Int) (s:LS) (hL:checkB L=true) (hwf:WfT L o s) (h:StR w v s):Calls Try.prog 83 #[v] w (RetV w (.agg ((picS s).map (Value.int .i64)).toArray)):=by
 refine enterSt (A:=[132]) (c:=ir83) (rs:=rs83) (nt:=nt83) h Try.func83 rfl (by kernel_rfl) (by kernel_rfl) rfl (of_decide_eq_true rfl) ?_
 have hz:=sz_at hL
 have hw6:s.words.length≤6:=by rw [hwf.wf.w];exact hz.2.2.2
 have hr4:s.regs.length≤4:=by rw [hwf.wf.r];exact hz.2.1
 have hrb:=hwf.wf.r
 have hpb:=hwf.wf.p
 have hbb:=hwf.wf.b
 have hfl:∀ n,n≤L.thr.length→(flatT s n).length≤6+26 * n:=fun n hn=>flat_le hL hwf hn
 have hb10:∀ n,n<L.thr.length→(s.bufs.getD n []).length≤10:=fun n hn=>(hwf.wf.thr n hn).b
 generalize hR:RetV w (.agg ((picS s).map (Value.int .i64)).toArray)=R
 simp (maxSteps:=2000000) only [ir83,nt83,rs83,go_sem,↓runOp,↓reduceIte,Nat.reduceLT,Nat.reduceAdd,Nat.reduceEqDiff,reduceCtorEq,stA,stS]
 refine And.intro (by decide) (And.intro (by decide) ?_)
 refine draw_vc (by kernel_rfl) (mkTab_ok _ _) (of_decide_eq_true rfl) (of_decide_eq_true rfl) ?_
 repeat (first | simp (maxSteps:=2000000) only [go_sem,↓runOp,↓gateD,↓runD,↓reduceIte,Nat.reduceLT,Nat.reduceLeDiff,Nat.reduceAdd,Nat.reduceMul,Nat.reduceEqDiff,reduceCtorEq] | rw [dr_cons])
 rw [cpy_pic hw6,show s.words.length.min 110=s.words.length from Nat.min_eq_left (by omega)]
 refine And.intro (Or.inr trivial) (And.intro (Or.inl trivial) (And.intro (Or.inr trivial) ?_))
 refine loopI (ι:={ t:Nat // t≤s.regs.length }) (fun t=>⟨70,[(1,.c (.ptr (5,0,0) 0)),(2,.c (.pe (6,0,0) 1 0 0)),(3,.c (.pe (7,0,0) 1 0 0)),(5,.c (.fn (.func 96) [] [.pe (7,0,0) 1 0 0,.ptr (8,0,0) 0])),(18,.c (.v (.int .i64 s.regs.length))),(19,.c (.v (.int .i64 (t.1:Nat))))],[(5,.one (.bk [.xv (0,0,0),.xv (1,0,0),.xv (2,0,0),.xv (3,0,0)] 32)),(6,.one (.ar 110 1 (fun _=>[.v (.int .i64 0)]) 132)),(7,.one (.ar 110 1 (ats eI (padN 110 (flatT s t.1)) 0) 132)),(8,.one (.bk [.v (.int .i64 (flatT s t.1).length)] 3))],stA 0 s,[],9⟩)
  (fun t=>s.regs.length - t.1) ⟨0,by omega⟩ (le_ren id rfl rfl (by simp [TmpsLe,look,SV.ren,SC.ren,SC.renL,idσ,SV.okN,SC.okN,SC.okL]) (by simp [OwnLe,BlkLeO,BlkLe,atN,look,Fm.get,idσ,SC.renL,SC.ren,SC.okL,SC.okN,ren_ats,ok_ats,flatT]) (by simp +contextual [stA,ArrsLe,ArrLeO,atN,look,Fm.get,idσ,arrLe_of,arrLe_nest]) rfl) ?_
 rintro ⟨t,ht⟩
 simp (maxSteps:=2000000) only [go_sem,↓condS,↓exitS,↓runOp,↓reduceIte,Nat.reduceLT,Nat.reduceLeDiff,Nat.reduceEqDiff,reduceCtorEq,stA]
 refine both (fun hlt=>?_) (fun hge=>?_)
 ·rw [decide_eq_true_eq] at hlt
  have hlt:t<s.regs.length:=by omega
  have hltp:t<s.places.length:=by omega
  have hltb:t<s.bufs.length:=by omega
  have hf:=hfl t (by omega)
  have hb:=hb10 t (by omega)
  refine And.intro hlt (And.intro hlt ?_)
  refine loop_unr 5 ?_
  generalize hpre:flatT s t=pre at hf
  intro ι I μ i hbk
  simp (maxSteps:=2000000) only [go_sem,↓condS,↓runOp,↓imp_tf,↓imp_tt,↓reduceIte,Nat.reduceLT,Nat.reduceMul,Nat.reduceEqDiff,Int.reduceToNat,Int.reduceLT,Int.reduceLE,R4.enc]
  refine And.intro ⟨_,Try.func96,by kernel_rfl,by kernel_rfl⟩ ?_
  refine call_inline (c:=ir96) (rs:=rs96) (nt:=nt96) 1000 (mkTab_ok _ _) Try.func96 rfl (by kernel_rfl) (by kernel_rfl) rfl (by simp [okVs,SV.okN,SC.okN]) (of_decide_eq_true rfl) (fun E0 a0 ht0=>?_)
  simp (maxSteps:=2000000) only [ir96,nt96,rs96,go_sem,↓runOp,↓reduceIte,Nat.reduceLT,Nat.reduceLeDiff,Nat.reduceAdd,Nat.reduceEqDiff,reduceCtorEq,mkI_rs]
  refine And.intro (by omega) (And.intro (by omega) ?_)
  rw [put_pic (pre:=pre) (x:=(s.regs.getD t r40).a) (by omega),wr_len (pre:=pre) (x:=(s.regs.getD t r40).a) (by omega)]
  have hl1:(pre++[(s.regs.getD t r40).a]).length=pre.length+1:=by simp
  generalize hq1:pre++[(s.regs.getD t r40).a]=q1 at hl1 ⊢
  refine retI ht0 _ rfl (of_decide_eq_true rfl) (by simp [SV.okN,ok1L]) ?_
  simp (maxSteps:=2000000) only [go_sem,↓runOp,↓reduceIte,Nat.reduceLT,Nat.reduceLeDiff,Nat.reduceEqDiff,Int.reduceAdd]
  refine hbk _ ?_
  intro ι I μ i hbk
  simp (maxSteps:=2000000) only [go_sem,↓condS,↓runOp,↓imp_tf,↓imp_tt,↓reduceIte,Nat.reduceLT,Nat.reduceMul,Nat.reduceEqDiff,Int.reduceToNat,Int.reduceLT,Int.reduceLE]
  refine And.intro ⟨_,Try.func96,by kernel_rfl,by kernel_rfl⟩ ?_
  refine call_inline (c:=ir96) (rs:=rs96) (nt:=nt96) 1000 (mkTab_ok _ _) Try.func96 rfl (by kernel_rfl) (by kernel_rfl) rfl (by simp [okVs,SV.okN,SC.okN]) (of_decide_eq_true rfl) (fun E0 a0 ht0=>?_)
  simp (maxSteps:=2000000) only [ir96,nt96,rs96,go_sem,↓runOp,↓reduceIte,Nat.reduceLT,Nat.reduceLeDiff,Nat.reduceAdd,Nat.reduceEqDiff,reduceCtorEq,mkI_rs]
  refine And.intro (by omega) (And.intro (by omega) ?_)
  rw [put_pic (pre:=q1) (x:=(s.regs.getD t r40).b) (by omega),wr_len (pre:=q1) (x:=(s.regs.getD t r40).b) (by omega)]
  have hl2:(q1++[(s.regs.getD t r40).b]).length=q1.length+1:=by simp
  generalize hq2:q1++[(s.regs.getD t r40).b]=q2 at hl2 ⊢
  refine retI ht0 _ rfl (of_decide_eq_true rfl) (by simp [SV.okN,ok1L]) ?_
  simp (maxSteps:=2000000) only [go_sem,↓runOp,↓reduceIte,Nat.reduceLT,Nat.reduceLeDiff,Nat.reduceEqDiff,Int.reduceAdd]
  refine hbk _ ?_
  intro ι I μ i hbk
  simp (maxSteps:=2000000) only [go_sem,↓condS,↓runOp,↓imp_tf,↓imp_tt,↓reduceIte,Nat.reduceLT,Nat.reduceMul,Nat.reduceEqDiff,Int.reduceToNat,Int.reduceLT,Int.reduceLE]
  refine And.intro ⟨_,Try.func96,by kernel_rfl,by kernel_rfl⟩ ?_
  refine call_inline (c:=ir96) (rs:=rs96) (nt:=nt96) 1000 (mkTab_ok _ _) Try.func96 rfl (by kernel_rfl) (by kernel_rfl) rfl (by simp [okVs,SV.okN,SC.okN]) (of_decide_eq_true rfl) (fun E0 a0 ht0=>?_)
  simp (maxSteps:=2000000) only [ir96,nt96,rs96,go_sem,↓runOp,↓reduceIte,Nat.reduceLT,Nat.reduceLeDiff,Nat.reduceAdd,Nat.reduceEqDiff,reduceCtorEq,mkI_rs]
  refine And.intro (by omega) (And.intro (by omega) ?_)
  rw [put_pic (pre:=q2) (x:=(s.regs.getD t r40).c) (by omega),wr_len (pre:=q2) (x:=(s.regs.getD t r40).c) (by omega)]
  have hl3:(q2++[(s.regs.getD t r40).c]).length=q2.length+1:=by simp
  generalize hq3:q2++[(s.regs.getD t r40).c]=q3 at hl3 ⊢
  refine retI ht0 _ rfl (of_decide_eq_true rfl) (by simp [SV.okN,ok1L]) ?_
  simp (maxSteps:=2000000) only [go_sem,↓runOp,↓reduceIte,Nat.reduceLT,Nat.reduceLeDiff,Nat.reduceEqDiff,Int.reduceAdd]
  refine hbk _ ?_
  intro ι I μ i hbk
  simp (maxSteps:=2000000) only [go_sem,↓condS,↓runOp,↓imp_tf,↓imp_tt,↓reduceIte,Nat.reduceLT,Nat.reduceMul,Nat.reduceEqDiff,Int.reduceToNat,Int.reduceLT,Int.reduceLE]
  refine And.intro ⟨_,Try.func96,by kernel_rfl,by kernel_rfl⟩ ?_
  refine call_inline (c:=ir96) (rs:=rs96) (nt:=nt96) 1000 (mkTab_ok _ _) Try.func96 rfl (by kernel_rfl) (by kernel_rfl) rfl (by simp [okVs,SV.okN,SC.okN]) (of_decide_eq_true rfl) (fun E0 a0 ht0=>?_)
  simp (maxSteps:=2000000) only [ir96,nt96,rs96,go_sem,↓runOp,↓reduceIte,Nat.reduceLT,Nat.reduceLeDiff,Nat.reduceAdd,Nat.reduceEqDiff,reduceCtorEq,mkI_rs]
  refine And.intro (by omega) (And.intro (by omega) ?_)
  rw [put_pic (pre:=q3) (x:=(s.regs.getD t r40).d) (by omega),wr_len (pre:=q3) (x:=(s.regs.getD t r40).d) (by omega)]
  have hl4:(q3++[(s.regs.getD t r40).d]).length=q3.length+1:=by simp
  generalize hq4:q3++[(s.regs.getD t r40).d]=q4 at hl4 ⊢
  refine retI ht0 _ rfl (of_decide_eq_true rfl) (by simp [SV.okN,ok1L]) ?_
  simp (maxSteps:=2000000) only [go_sem,↓runOp,↓reduceIte,Nat.reduceLT,Nat.reduceLeDiff,Nat.reduceEqDiff,Int.reduceAdd]
  refine hbk _ ?_
  intro ι I μ i hbk
  simp (maxSteps:=2000000) only [go_sem,↓condS,↓exitS,↓runOp,↓imp_ft,↓imp_ff,↓reduceIte,Nat.reduceLT,Nat.reduceEqDiff,reduceCtorEq,Int.reduceLT,eI]
  refine And.intro hltp (And.intro hltp ?_)
  refine And.intro ⟨_,Try.func96,by kernel_rfl,by kernel_rfl⟩ ?_
  refine call_inline (c:=ir96) (rs:=rs96) (nt:=nt96) 1000 (mkTab_ok _ _) Try.func96 rfl (by kernel_rfl) (by kernel_rfl) rfl (by simp [okVs,SV.okN,SC.okN]) (of_decide_eq_true rfl) (fun E0 a0 ht0=>?_)
  simp (maxSteps:=2000000) only [ir96,nt96,rs96,go_sem,↓runOp,↓reduceIte,Nat.reduceLT,Nat.reduceLeDiff,Nat.reduceAdd,Nat.reduceEqDiff,reduceCtorEq,mkI_rs]
  refine And.intro (by omega) (And.intro (by omega) ?_)
  rw [put_pic (pre:=q4) (x:=(s.places.getD t 0)) (by omega),wr_len (pre:=q4) (x:=(s.places.getD t 0)) (by omega)]
  have hl5:(q4++[(s.places.getD t 0)]).length=q4.length+1:=by simp
  generalize hq5:q4++[(s.places.getD t 0)]=q5 at hl5 ⊢
  refine retI ht0 _ rfl (of_decide_eq_true rfl) (by simp [SV.okN,ok1L]) ?_
  simp (maxSteps:=2000000) only [go_sem,↓runOp,↓reduceIte,Nat.reduceLT,Nat.reduceEqDiff,reduceCtorEq]
  refine And.intro hltb (And.intro hltb (And.intro hltb ?_))
  refine And.intro ⟨_,Try.func96,by kernel_rfl,by kernel_rfl⟩ ?_
  refine call_inline (c:=ir96) (rs:=rs96) (nt:=nt96) 1000 (mkTab_ok _ _) Try.func96 rfl (by kernel_rfl) (by kernel_rfl) rfl (by simp [okVs,SV.okN,SC.okN]) (of_decide_eq_true rfl) (fun E0 a0 ht0=>?_)
  simp (maxSteps:=2000000) only [ir96,nt96,rs96,go_sem,↓runOp,↓reduceIte,Nat.reduceLT,Nat.reduceLeDiff,Nat.reduceAdd,Nat.reduceEqDiff,reduceCtorEq,mkI_rs]
  refine And.intro (by omega) (And.intro (by omega) ?_)
  rw [put_pic (pre:=q5) (x:=(((s.bufs.getD t []).length:Nat):Int)) (by omega),wr_len (pre:=q5) (x:=(((s.bufs.getD t []).length:Nat):Int)) (by omega)]
  have hl6:(q5++[(((s.bufs.getD t []).length:Nat):Int)]).length=q5.length+1:=by simp
  generalize hq6:q5++[(((s.bufs.getD t []).length:Nat):Int)]=q6 at hl6 ⊢
  refine retI ht0 _ rfl (of_decide_eq_true rfl) (by simp [SV.okN,ok1L]) ?_
  simp (maxSteps:=2000000) only [go_sem,↓runOp,↓reduceIte,Nat.reduceLT,Nat.reduceEqDiff,reduceCtorEq]
  refine And.intro hltb (And.intro hltb (And.intro hltb ?_))
  refine loopI (ι:={ i:Nat // i≤(s.bufs.getD t []).length }) (fun i=>⟨70,[(1,.c (.ptr (5,0,0) 0)),(2,.c (.pe (6,0,0) 1 0 0)),(3,.c (.pe (7,0,0) 1 0 0)),(5,.c (.fn (.func 96) [] [.pe (7,0,0) 1 0 0,.ptr (8,0,0) 0])),(18,.c (.v (.int .i64 s.regs.length))),(19,.c (.v (.int .i64 t))),(53,.c (.xv (4,t,0))),(54,.c (.v (.int .i64 (s.bufs.getD t []).length))),(55,.c (.v (.int .i64 (i.1:Nat))))],[(5,.one (.bk [.xv (0,0,0),.xv (1,0,0),.xv (2,0,0),.xv (3,0,0)] 32)),(6,.one (.ar 110 1 (fun _=>[.v (.int .i64 0)]) 132)),(7,.one (.ar 110 1 (ats eI (padN 110 (q6++pdL ((s.bufs.getD t []).take i.1))) 0) 132)),(8,.one (.bk [.v (.int .i64 (q6++pdL ((s.bufs.getD t []).take i.1)).length)] 3))],stA 0 s,[],9⟩)
   (fun i=>(s.bufs.getD t []).length - i.1) ⟨0,by omega⟩ (le_ren id rfl rfl (by simp [TmpsLe,look,SV.ren,SC.ren,SC.renL,idσ,SV.okN,SC.okN,SC.okL]) (by simp [OwnLe,BlkLeO,BlkLe,atN,look,Fm.get,idσ,SC.renL,SC.ren,SC.okL,SC.okN,ren_ats,ok_ats,pdL]) (by simp +contextual [stA,ArrsLe,ArrLeO,atN,look,Fm.get,idσ,arrLe_of,arrLe_nest]) rfl) ?_
  rintro ⟨i,hi⟩
  simp (maxSteps:=2000000) only [go_sem,↓condS,↓exitS,↓runOp,↓reduceIte,Nat.reduceLT,Nat.reduceLeDiff,Nat.reduceAdd,Nat.reduceEqDiff,reduceCtorEq,stA,Pd.enc]
  refine both (fun hlti=>?_) (fun hgei=>?_)
  ·rw [decide_eq_true_eq] at hlti
   have hlti:i<(s.bufs.getD t []).length:=by omega
   have hpl:(pdL ((s.bufs.getD t []).take i)).length=2 * i:=by rw [pdL_len,List.length_take];omega
   have htk:(s.bufs.getD t []).take (i+1)=(s.bufs.getD t []).take i++[(s.bufs.getD t []).getD i pd0]:=take_pd2 hlti
   have hp0:(q6++pdL ((s.bufs.getD t []).take i)).length=q6.length+2 * i:=by rw [List.length_append,hpl]
   generalize hp:q6++pdL ((s.bufs.getD t []).take i)=p0 at hp0 ⊢
   refine And.intro ⟨hltb,hlti⟩ (And.intro ⟨hltb,hlti⟩ ?_)
   refine And.intro ⟨_,Try.func96,by kernel_rfl,by kernel_rfl⟩ ?_
   refine call_inline (c:=ir96) (rs:=rs96) (nt:=nt96) 1000 (mkTab_ok _ _) Try.func96 rfl (by kernel_rfl) (by kernel_rfl) rfl (by simp [okVs,SV.okN,SC.okN]) (of_decide_eq_true rfl) (fun E0 a0 ht0=>?_)
   simp (maxSteps:=2000000) only [ir96,nt96,rs96,go_sem,↓runOp,↓reduceIte,Nat.reduceLT,Nat.reduceLeDiff,Nat.reduceAdd,Nat.reduceEqDiff,reduceCtorEq,mkI_rs]
   refine And.intro (by omega) (And.intro (by omega) ?_)
   rw [put_pic (pre:=p0) (x:=((s.bufs.getD t []).getD i pd0).addr) (by omega),wr_len (pre:=p0) (x:=((s.bufs.getD t []).getD i pd0).addr) (by omega)]
   have hl7:(p0++[((s.bufs.getD t []).getD i pd0).addr]).length=p0.length+1:=by simp
   generalize hq7:p0++[((s.bufs.getD t []).getD i pd0).addr]=q7 at hl7 ⊢
   refine retI ht0 _ rfl (of_decide_eq_true rfl) (by simp [SV.okN,ok1L]) ?_
   simp (maxSteps:=2000000) only [go_sem,↓runOp,↓reduceIte,Nat.reduceLT,Nat.reduceEqDiff]
   refine And.intro ⟨_,Try.func96,by kernel_rfl,by kernel_rfl⟩ ?_
   refine call_inline (c:=ir96) (rs:=rs96) (nt:=nt96) 1000 (mkTab_ok _ _) Try.func96 rfl (by kernel_rfl) (by kernel_rfl) rfl (by simp [okVs,SV.okN,SC.okN]) (of_decide_eq_true rfl) (fun E0 a0 ht0=>?_)
   simp (maxSteps:=2000000) only [ir96,nt96,rs96,go_sem,↓runOp,↓reduceIte,Nat.reduceLT,Nat.reduceLeDiff,Nat.reduceAdd,Nat.reduceEqDiff,reduceCtorEq,mkI_rs]
   refine And.intro (by omega) (And.intro (by omega) ?_)
   rw [put_pic (pre:=q7) (x:=((s.bufs.getD t []).getD i pd0).val) (by omega),wr_len (pre:=q7) (x:=((s.bufs.getD t []).getD i pd0).val) (by omega)]
   have hl8:(q7++[((s.bufs.getD t []).getD i pd0).val]).length=q7.length+1:=by simp
   generalize hq8:q7++[((s.bufs.getD t []).getD i pd0).val]=q8 at hl8 ⊢
   refine retI ht0 _ rfl (of_decide_eq_true rfl) (by simp [SV.okN,ok1L]) ?_
   simp (maxSteps:=2000000) only [go_sem,↓runOp,↓reduceIte,Nat.reduceLT,Nat.reduceEqDiff]
   have hfin:q8=q6++pdL ((s.bufs.getD t []).take (i+1)):=by rw [← hq8,← hq7,← hp,htk,pdL_app];simp [pdL]
   rw [hfin,wr_succ (by omega)]
   exact backI ⟨i+1,hlti⟩ (by simp only;omega) (le_ren id rfl rfl (by simp [TmpsLe,look,SV.ren,SC.ren,SC.renL,idσ,SV.okN,SC.okN,SC.okL]) (by simp [OwnLe,BlkLeO,BlkLe,atN,look,Fm.get,idσ,SC.renL,SC.ren,SC.okL,SC.okN,ren_ats,ok_ats]) (by simp +contextual [ArrsLe,ArrLeO,atN,look,Fm.get,idσ,arrLe_of,arrLe_nest]) rfl)
  ·rw [decide_eq_false_iff_not] at hgei
   have hin:i=(s.bufs.getD t []).length:=by omega
   subst hin
   have hfin:q6++pdL ((s.bufs.getD t []).take (s.bufs.getD t []).length)=flatT s (t+1):=by rw [List.take_length,← hq6,← hq5,← hq4,← hq3,← hq2,← hq1,← hpre];simp [flatT,thF]
   rw [hfin,wr_succ (by omega)]
   exact backI ⟨t+1,hlt⟩ (by simp only;omega) (le_ren id rfl rfl (by simp [TmpsLe,look,SV.ren,SC.ren,SC.renL,idσ,SV.okN,SC.okN,SC.okL]) (by simp [OwnLe,BlkLeO,BlkLe,atN,look,Fm.get,idσ,SC.renL,SC.ren,SC.okL,SC.okN,ren_ats,ok_ats]) (by simp +contextual [ArrsLe,ArrLeO,atN,look,Fm.get,idσ,arrLe_of,arrLe_nest]) rfl)
 ·rw [decide_eq_false_iff_not] at hge
  have hin:t=s.regs.length:=by omega
  subst hin
  have hf:=hfl s.regs.length (by omega)
  have hpl:(padN 110 (flatT s s.regs.length)).length=110:=padN_len (by omega)
  rw [rowC_ats 110 0 _ (by rw [hpl]),List.drop_zero]
  generalize hM:(padN 110 (flatT s s.regs.length)).map (fun x=>SC.v (.int .i64 x))=M
  have h1:allOne M=true:=by rw [← hM];exact allOne_ints _
  have h2:len' M=110:=by rw [len'_eq,← hM,List.length_map,hpl]
  have h3:rowC 110 0 (segs 1 M)=M:=by rw [rowC_segs 110 0 M (by rw [← len'_eq,h2]),List.drop_zero]
  simp (maxSteps:=2000000) only [go_sem,↓reduceIte,Nat.reduceLeDiff,Nat.reduceEqDiff,h1,h2,h3]
  rw [← hR]
  exact retV fun E=>by rw [← hM];simp [SV.den,SC.den,picS,flatS,Function.comp_def]
end Go.Proofs.Ytmcpdafmkkjlcaa.Z
namespace Go.Proofs.Ytmcpdafmkkjlcaa.Z
open Go Go.RowKit
def outsL (t:Nat):Nat→List Tn
 | 0=>[]
 | n+1=>outsL t n++[⟨t,true,n⟩]
def thrL (L:Lt) (o:Int) (t:Nat):List Tn:=[⟨t,false,0⟩]++(if o=2 then [⟨t,true,0⟩] else if o=3 then outsL t L.words.length else [])
def turnsT (L:Lt) (o:Int):Nat→List Tn
 | 0=>[]
 | n+1=>turnsT L o n++thrL L o n
def turnsL (L:Lt) (o:Int):List Tn:=turnsT L o L.thr.length
theorem outsL_len (t:Nat):∀ n,(outsL t n).length=n
 | 0=>rfl
 | n+1=>by simp [outsL,outsL_len t n]
theorem thrL_len {L:Lt} {o:Int} {t:Nat} (hL:checkB L=true):(thrL L o t).length≤7:=by
 have:=(sz_at hL).2.2.2
 unfold thrL
 rw [List.length_append]
 split
 ·simp
 ·split
  ·rw [outsL_len];simp;omega
  ·simp
theorem turnsT_len {L:Lt} {o:Int} (hL:checkB L=true):∀ n,(turnsT L o n).length≤7 * n
 | 0=>by simp [turnsT]
 | n+1=>by
  have:=turnsT_len (o:=o) hL n
  have:=thrL_len (o:=o) (t:=n) hL
  simp only [turnsT,List.length_append];omega
theorem push_tn {xs:List Tn} {n:Nat} {x:Tn} {g:Nat→List SC} (hn:n=xs.length) (hg:g 0=x.enc.map .v):∀ e,e<(xs++[x]).length→appAt n (ats Tn.enc xs tn0) g e=ats Tn.enc (xs++[x]) tn0 e:=ats_push (d:=tn0) rfl hn (fun _ _=>rfl) hg
def ir84:IR:=(.seq (.ops [⟨(some 2),(.box 25 (.t 0)),none⟩,⟨(some 4),(.mv (.k (.c (.v (.slice none 0 0))))),none⟩]) (.kill [0,3,4,5,6,7,8,9,10,11] (.seq (.ops [⟨(some 5),(.mv (.k (.c (.v (.slice none 0 0))))),none⟩]) (.seq (.seq (.ops [⟨(some 8),(.fa 1 (.t 2)),none⟩,⟨(some 9),(.ld false 1 (.t 8)),none⟩,⟨(some 10),(.len (.t 9)),none⟩,⟨(some 11),(.mv (.k (.c (.v (.int .i64 0))))),none⟩]) (.kill [8,9] (.blk 0 (.loop (.seq (.ops [⟨(some 12),(.bin .lss (.t 11) (.t 10)),none⟩]) (.kill [6,7,13,14,15,16,17,18,19,20,21,22,23,24,25,26,27,28,29,30,31,32,33,34,35,36,37,38,39,40,41,42] (.seq (.cond (.t 12) .skip (.exit 0)) (.kill [12] (.seq (.blk 1 (.seq (.ops [⟨(some 13),(.mv (.t 11)),none⟩,⟨(some 6),(.mv (.t 13)),none⟩]) (.kill [13] (.seq (.ops [⟨(some 14),(.mv (.t 5)),none⟩,⟨(some 15),(.mv (.t 6)),none⟩,⟨(some 16),(.build [(.v (.int .i64 0)),(.v (.bool false)),(.v (.int .i64 0))] [(0,(1,(.t 15)))]),none⟩,⟨(some 17),(.mkSl 44 1 3 [(.v (.int .i64 0)),(.v (.bool false)),(.v (.int .i64 0))] [(0,(3,(.t 16)))]),none⟩,⟨(some 18),(.app 44 3 24 [(.v (.int .i64 0)),(.v (.bool false)),(.v (.int .i64 0))] (.t 14) (.t 17)),none⟩,⟨(some 5),(.mv (.t 18)),none⟩]) (.kill [14,15,16,17,18] (.seq (.ops [⟨(some 19),(.mv (.t 1)),none⟩]) (.blk 2 (.seq (.ops [⟨(some 21),(.bin .eql (.t 19) (.k (.c (.v (.int .i64 2))))),none⟩,⟨(some 20),(.mv (.t 21)),none⟩]) (.kill [21] (.cond (.t 20) (.ops [⟨(some 22),(.mv (.t 5)),none⟩,⟨(some 23),(.mv (.t 6)),none⟩,⟨(some 24),(.build [(.v (.int .i64 0)),(.v (.bool false)),(.v (.int .i64 0))] [(0,(1,(.t 23))),(1,(1,(.k (.c (.v (.bool true))))))]),none⟩,⟨(some 25),(.mkSl 44 1 3 [(.v (.int .i64 0)),(.v (.bool false)),(.v (.int .i64 0))] [(0,(3,(.t 24)))]),none⟩,⟨(some 26),(.app 44 3 24 [(.v (.int .i64 0)),(.v (.bool false)),(.v (.int .i64 0))] (.t 22) (.t 25)),none⟩,⟨(some 5),(.mv (.t 26)),none⟩]) (.seq (.ops [⟨(some 28),(.bin .eql (.t 19) (.k (.c (.v (.int .i64 3))))),none⟩,⟨(some 27),(.mv (.t 28)),none⟩]) (.kill [19,20,28] (.cond (.t 27) (.seq (.ops [⟨(some 29),(.fa 0 (.t 2)),none⟩,⟨(some 30),(.ld false 1 (.t 29)),none⟩,⟨(some 31),(.len (.t 30)),none⟩,⟨(some 32),(.mv (.k (.c (.v (.int .i64 0))))),none⟩]) (.kill [27,29,30] (.blk 3 (.loop (.seq (.ops [⟨(some 33),(.bin .lss (.t 32) (.t 31)),none⟩]) (.kill [7,34,35,36,37,38,39,40,41] (.seq (.cond (.t 33) .skip (.exit 3)) (.kill [33] (.seq (.blk 4 (.seq (.ops [⟨(some 34),(.mv (.t 32)),none⟩,⟨(some 7),(.mv (.t 34)),none⟩]) (.kill [34] (.ops [⟨(some 35),(.mv (.t 5)),none⟩,⟨(some 36),(.mv (.t 6)),none⟩,⟨(some 37),(.mv (.t 7)),none⟩,⟨(some 38),(.build [(.v (.int .i64 0)),(.v (.bool false)),(.v (.int .i64 0))] [(0,(1,(.t 36))),(1,(1,(.k (.c (.v (.bool true)))))),(2,(1,(.t 37)))]),none⟩,⟨(some 39),(.mkSl 44 1 3 [(.v (.int .i64 0)),(.v (.bool false)),(.v (.int .i64 0))] [(0,(3,(.t 38)))]),none⟩,⟨(some 40),(.app 44 3 24 [(.v (.int .i64 0)),(.v (.bool false)),(.v (.int .i64 0))] (.t 35) (.t 39)),none⟩,⟨(some 5),(.mv (.t 40)),none⟩])))) (.kill [7,34,35,36,37,38,39,40] (.ops [⟨(some 41),(.bin .add (.t 32) (.k (.c (.v (.int .i64 1))))),none⟩,⟨(some 32),(.mv (.t 41)),none⟩]))))))))))) .skip))))))))))))) (.kill [6,7,13,14,15,16,17,18,19,20,21,22,23,24,25,26,27,28,29,30,31,32,33,34,35,36,37,38,39,40,41] (.ops [⟨(some 42),(.bin .add (.t 11) (.k (.c (.v (.int .i64 1))))),none⟩,⟨(some 11),(.mv (.t 42)),none⟩]))))))))))) (.kill [1,2,6,7,10,11,12,13,14,15,16,17,18,19,20,21,22,23,24,25,26,27,28,29,30,31,32,33,34,35,36,37,38,39,40,41,42] (.seq (.ops [⟨(some 43),(.mv (.t 5)),none⟩,⟨(some 4),(.mv (.t 43)),none⟩]) (.kill [5,43] .ret)))))))
def rs84:List RS:=[(.t 4)]
def nt84:Nat:=44
def ir90:IR:=(.seq (.ops [⟨(some 2),(.box 25 (.t 0)),none⟩,⟨(some 4),(.mv (.k (.c (.v (.slice none 0 0))))),none⟩]) (.kill [0,3,4,5,6,7,8,9,10,11] (.seq (.ops [⟨(some 5),(.mv (.k (.c (.v (.slice none 0 0))))),none⟩]) (.seq (.seq (.ops [⟨(some 6),(.mv (.k (.c (.v (.int .i64 0))))),none⟩]) (.blk 0 (.loop (.seq (.seq (.ops [⟨(some 8),(.mv (.t 6)),none⟩,⟨(some 9),(.fa 1 (.t 2)),none⟩,⟨(some 10),(.ld false 1 (.t 9)),none⟩,⟨(some 11),(.len (.t 10)),none⟩,⟨(some 12),(.bin .lss (.t 8) (.t 11)),none⟩]) (.kill [7,8,9,10,11,13,14,15,16,17,18,19,20,21,22,23,24,25,26,27,28,29,30,31,32,33,34,35,36,37,38,39,40,41,42,43] (.cond (.t 12) .skip (.exit 0)))) (.kill [12] (.seq (.blk 1 (.seq (.ops [⟨(some 15),(.mv (.t 5)),none⟩,⟨(some 16),(.mv (.t 6)),none⟩,⟨(some 17),(.build [(.v (.int .i64 0)),(.v (.bool false)),(.v (.int .i64 0))] [(0,(1,(.t 16)))]),none⟩,⟨(some 18),(.mkSl 44 1 3 [(.v (.int .i64 0)),(.v (.bool false)),(.v (.int .i64 0))] [(0,(3,(.t 17)))]),none⟩,⟨(some 19),(.app 44 3 24 [(.v (.int .i64 0)),(.v (.bool false)),(.v (.int .i64 0))] (.t 15) (.t 18)),none⟩,⟨(some 5),(.mv (.t 19)),none⟩]) (.kill [15,16,17,18,19] (.seq (.seq (.ops [⟨(some 20),(.mv (.t 1)),none⟩,⟨(some 21),(.bin .eql (.t 20) (.k (.c (.v (.int .i64 2))))),none⟩]) (.kill [20] (.cond (.t 21) (.ops [⟨(some 22),(.mv (.t 5)),none⟩,⟨(some 23),(.mv (.t 6)),none⟩,⟨(some 24),(.build [(.v (.int .i64 0)),(.v (.bool false)),(.v (.int .i64 0))] [(0,(1,(.t 23))),(1,(1,(.k (.c (.v (.bool true))))))]),none⟩,⟨(some 25),(.mkSl 44 1 3 [(.v (.int .i64 0)),(.v (.bool false)),(.v (.int .i64 0))] [(0,(3,(.t 24)))]),none⟩,⟨(some 26),(.app 44 3 24 [(.v (.int .i64 0)),(.v (.bool false)),(.v (.int .i64 0))] (.t 22) (.t 25)),none⟩,⟨(some 5),(.mv (.t 26)),none⟩]) .skip))) (.kill [21,22,23,24,25,26] (.seq (.ops [⟨(some 7),(.mv (.k (.c (.v (.int .i64 0))))),none⟩]) (.blk 2 (.loop (.seq (.seq (.ops [⟨(some 27),(.mv (.t 7)),none⟩,⟨(some 28),(.fa 0 (.t 2)),none⟩,⟨(some 29),(.ld false 1 (.t 28)),none⟩,⟨(some 30),(.len (.t 29)),none⟩,⟨(some 31),(.bin .lss (.t 27) (.t 30)),none⟩,⟨(some 32),(.mv (.t 31)),none⟩,⟨(some 33),(.mv (.t 1)),(some (32,true))⟩,⟨(some 34),(.bin .eql (.t 33) (.k (.c (.v (.int .i64 3))))),(some (32,true))⟩,⟨(some 35),(.pick (.t 32) (.t 34) (.k (.c (.v (.bool false))))),none⟩]) (.kill [27,28,29,30,31,32,33,34,36,37,38,39,40,41,42,43] (.cond (.t 35) .skip (.exit 2)))) (.kill [35] (.seq (.blk 3 (.ops [⟨(some 38),(.mv (.t 5)),none⟩,⟨(some 39),(.mv (.t 6)),none⟩,⟨(some 40),(.mv (.t 7)),none⟩,⟨(some 41),(.build [(.v (.int .i64 0)),(.v (.bool false)),(.v (.int .i64 0))] [(0,(1,(.t 39))),(1,(1,(.k (.c (.v (.bool true)))))),(2,(1,(.t 40)))]),none⟩,⟨(some 42),(.mkSl 44 1 3 [(.v (.int .i64 0)),(.v (.bool false)),(.v (.int .i64 0))] [(0,(3,(.t 41)))]),none⟩,⟨(some 43),(.app 44 3 24 [(.v (.int .i64 0)),(.v (.bool false)),(.v (.int .i64 0))] (.t 38) (.t 42)),none⟩,⟨(some 5),(.mv (.t 43)),none⟩])) (.kill [38,39,40,41,42,43] (.ops [⟨(some 36),(.mv (.t 7)),none⟩,⟨(some 37),(.bin .add (.t 36) (.k (.c (.v (.int .i64 1))))),none⟩,⟨(some 7),(.mv (.t 37)),none⟩]))))))))))))) (.kill [7,15,16,17,18,19,20,21,22,23,24,25,26,27,28,29,30,31,32,33,34,35,36,37,38,39,40,41,42,43] (.ops [⟨(some 13),(.mv (.t 6)),none⟩,⟨(some 14),(.bin .add (.t 13) (.k (.c (.v (.int .i64 1))))),none⟩,⟨(some 6),(.mv (.t 14)),none⟩])))))))) (.kill [1,2,6,7,8,9,10,11,12,13,14,15,16,17,18,19,20,21,22,23,24,25,26,27,28,29,30,31,32,33,34,35,36,37,38,39,40,41,42,43] (.seq (.ops [⟨(some 44),(.mv (.t 5)),none⟩,⟨(some 4),(.mv (.t 44)),none⟩]) (.kill [5,44] .ret)))))))
def rs90:List RS:=[(.t 4)]
def nt90:Nat:=45
def tuS (l:List Tn):Own:=[(3,.one (.bk [.xv (0,0,0),.xv (1,0,0)] 25)),(4,.one (.ar l.length 3 (ats Tn.enc l tn0) 44))]
theorem fitT {n:Nat} (h:n≤1000):(n+n / 4+192) * 24≤281474976710656∧n≤maxLen:=⟨by omega,by simp only [maxLen];omega⟩
theorem tu_grow {own:Own} {l' : List Tn} {m j:Nat} {at_:Nat→List SC} (hj:4≤j) (hm:m=l'.length) (h3:look own 3=some (.one (.bk [.xv (0,0,0),.xv (1,0,0)] 25))) (h4:look own j=some (.one (.ar m 3 at_ 44))) (ha:∀ e,e<l'.length→at_ e=ats Tn.enc l' tn0 e) :
  OwnLe (· < 5) (idσ fun i=>if i=4 then j else i) own (tuS l'):=by
 subst hm
 refine ⟨⟨of_decide_eq_true rfl,?_⟩,⟨of_decide_eq_true rfl,?_⟩,trivial⟩
 ·simp [BlkLeO,BlkLe,atN,idσ,h3,Fm.get,SC.renL,SC.ren,SC.okL,SC.okN]
 ·simp only [idσ,reduceIte,atN,h4,Fm.get,and_self]
  exact arLe_of (Nat.le_refl _) ha
set_option maxRecDepth 100000 in
set_option maxHeartbeats 1000000 in
theorem turns_calls (w:World) (v:Value) (L:Lt) (o:Int) (hL:checkB L=true) (h:LtR w v L):Calls Try.prog 84 #[v,.int .i64 o] w (RetN w 1 (lsT 3 (turnsL L o).length) (lsO 44 3 Tn.enc (turnsL L o) tn0)):=by
 refine enterLt (A:=[]) (c:=ir84) (rs:=rs84) (nt:=nt84) h [.agg (ltS 0),.c (.v (.int .i64 o))] _ Try.func84 rfl (by kernel_rfl) (by kernel_rfl) rfl (fun E' h0=>by simp only [List.map_cons,List.map_nil,h0];rfl) (of_decide_eq_true rfl) ?_
 obtain ⟨z1,z2,z3,z4⟩:=sz_at hL
 simp (maxSteps:=2000000) only [ir84,nt84,rs84,go_sem,↓runOp,↓reduceIte,Nat.reduceLT,Nat.reduceAdd,Nat.reduceEqDiff,reduceCtorEq,ltA,ltS]
 refine loopI (ι:={ i:Nat // i≤L.thr.length }) (fun i=>⟨44,[(1,.c (.v (.int .i64 o))),(2,.c (.ptr (3,0,0) 0)),(5,.c (.sl (4,0,0) 3 0 (turnsT L o i.1).length none)),(10,.c (.v (.int .i64 L.thr.length))),(11,.c (.v (.int .i64 (i.1:Nat))))],tuS (turnsT L o i.1),ltA 0 L,[],5⟩)
  (fun i=>L.thr.length - i.1) ⟨0,by omega⟩ ?_ ?_
 ·refine le_tr (le_nilown (tmps':=[(1,.c (.v (.int .i64 o))),(2,.c (.ptr (3,0,0) 0)),(5,.c (.sl (4,0,0) 3 0 0 none)),(10,.c (.v (.int .i64 L.thr.length))),(11,.c (.v (.int .i64 0)))]) 3 44 (ats Tn.enc [] tn0) (by simp [TmpsNil,look]) rfl) ?_
  exact le_ren id rfl rfl (by simp [TmpsLe,look,SV.ren,SC.ren,idσ,SV.okN,SC.okN,turnsT]) (by simp [tuS,turnsT,OwnLe,BlkLeO,BlkLe,atN,look,Fm.get,idσ,SC.renL,SC.ren,SC.okL,SC.okN,ren_ats,ok_ats]) (by simp +contextual [ltA,ArrsLe,ArrLeO,atN,look,Fm.get,idσ,arrLe_of,arrLe_nest]) rfl
 rintro ⟨i,hi⟩
 simp (maxSteps:=2000000) only [go_sem,↓condS,↓exitS,↓runOp,↓reduceIte,Nat.reduceLT,Nat.reduceLeDiff,Nat.reduceAdd,Nat.reduceMul,Nat.reduceEqDiff,tuS,ltA]
 refine both (fun hlt=>?_) (fun hge=>?_)
 ·rw [decide_eq_true_eq] at hlt
  have hlt:i<L.thr.length:=by omega
  have hl:=turnsT_len (o:=o) hL i
  have e0:((i:Nat):Int)=((i:Nat):Int):=rfl
  by_cases o2:o=2
  ·have dl:turnsT L o (i+1)=turnsT L o i++[(⟨i,false,0⟩:Tn)]++[⟨i,true,0⟩]:=by simp [turnsT,thrL,o2]
   have d2:(o == 2)=true:=by simpa using o2
   simp (maxSteps:=2000000) only [d2,go_sem]
   refine And.intro (by decide) (And.intro ⟨Nat.le_refl _,fitT (by omega)⟩ (And.intro (by decide) (And.intro ⟨Nat.le_refl _,fitT (by omega)⟩ ?_)))
   rw [wr_succ (by omega)]
   refine backI ⟨i+1,by omega⟩ (by simp only;omega) (le_ren (fun j=>if j=4 then 8 else j) rfl rfl ?_ ?_ (by simp +contextual [ArrsLe,ArrLeO,atN,look,Fm.get,idσ,arrLe_of,arrLe_nest]) rfl)
   ·simp [TmpsLe,look,SV.ren,SC.ren,idσ,SV.okN,SC.okN,dl]
   ·show OwnLe _ _ _ (tuS (turnsT L o (i+1)))
    rw [dl]
    exact tu_grow (j:=8) (by decide) (by simp) rfl rfl (ats_push (d:=tn0) rfl (by simp) (push_tn rfl rfl) rfl)
  have d2:(o == 2)=false:=by simpa using o2
  by_cases o3:o=3
  ·have dl:turnsT L o (i+1)=turnsT L o i++[(⟨i,false,0⟩:Tn)]++outsL i L.words.length:=by simp [turnsT,thrL,o3]
   have d3:(o == 3)=true:=by simpa using o3
   simp (maxSteps:=2000000) only [d2,d3,go_sem]
   refine And.intro (by decide) (And.intro ⟨Nat.le_refl _,fitT (by omega)⟩ ?_)
   refine loopI (ι:={ a:Nat // a≤L.words.length }) (fun a=>⟨44,[(1,.c (.v (.int .i64 o))),(2,.c (.ptr (3,0,0) 0)),(5,.c (.sl (4,0,0) 3 0 (turnsT L o i++[(⟨i,false,0⟩:Tn)]++outsL i a.1).length none)),(10,.c (.v (.int .i64 L.thr.length))),(11,.c (.v (.int .i64 i))),(6,.c (.v (.int .i64 i))),(31,.c (.v (.int .i64 L.words.length))),(32,.c (.v (.int .i64 (a.1:Nat))))],tuS (turnsT L o i++[(⟨i,false,0⟩:Tn)]++outsL i a.1),ltA 0 L,[],5⟩)
    (fun a=>L.words.length - a.1) ⟨0,by omega⟩ (le_ren (fun j=>if j=4 then 6 else j) rfl rfl ?_ ?_ (by simp +contextual [ltA,ArrsLe,ArrLeO,atN,look,Fm.get,idσ,arrLe_of,arrLe_nest]) rfl) ?_
   ·simp [TmpsLe,look,SV.ren,SC.ren,idσ,SV.okN,SC.okN,outsL]
   ·simp only [outsL,List.append_nil]
    exact tu_grow (j:=6) (by decide) (by simp) rfl rfl (push_tn rfl rfl)
   rintro ⟨a,ha⟩
   have hol:=outsL_len i a
   simp (maxSteps:=2000000) only [go_sem,↓condS,↓exitS,↓runOp,↓reduceIte,Nat.reduceLT,Nat.reduceLeDiff,Nat.reduceAdd,Nat.reduceMul,Nat.reduceEqDiff,tuS,ltA]
   refine both (fun hlta=>?_) (fun hgea=>?_)
   ·rw [decide_eq_true_eq] at hlta
    have hlta:a<L.words.length:=by omega
    have hll:(turnsT L o i++[(⟨i,false,0⟩:Tn)]++outsL i a).length=(turnsT L o i).length+1+a:=by simp [hol];omega
    generalize hX:turnsT L o i++[(⟨i,false,0⟩:Tn)]++outsL i a=X at hll ⊢
    have hX2:turnsT L o i++[(⟨i,false,0⟩:Tn)]++outsL i (a+1)=X++[⟨i,true,a⟩]:=by rw [← hX];simp [outsL]
    refine And.intro (by decide) (And.intro ⟨Nat.le_refl _,fitT (by omega)⟩ ?_)
    rw [wr_succ (by omega)]
    refine backI ⟨a+1,by omega⟩ (by simp only;omega) (le_ren (fun j=>if j=4 then 6 else j) rfl rfl ?_ ?_ (by simp +contextual [ArrsLe,ArrLeO,atN,look,Fm.get,idσ,arrLe_of,arrLe_nest]) rfl)
    ·simp [TmpsLe,look,SV.ren,SC.ren,idσ,SV.okN,SC.okN,hX2]
    ·show OwnLe _ _ _ (tuS (turnsT L o i++[(⟨i,false,0⟩:Tn)]++outsL i (a+1)))
     rw [hX2]
     exact tu_grow (j:=6) (by decide) (by simp) rfl rfl (push_tn rfl rfl)
   ·rw [decide_eq_false_iff_not] at hgea
    have hin:a=L.words.length:=by omega
    subst hin
    rw [← dl,wr_succ (by omega)]
    exact backI ⟨i+1,by omega⟩ (by simp only;omega) (le_ren id rfl rfl (by simp [TmpsLe,look,SV.ren,SC.ren,idσ,SV.okN,SC.okN]) (by simp [OwnLe,BlkLeO,BlkLe,atN,look,Fm.get,idσ,SC.renL,SC.ren,SC.okL,SC.okN,ren_ats,ok_ats]) (by simp +contextual [ArrsLe,ArrLeO,atN,look,Fm.get,idσ,arrLe_of,arrLe_nest]) rfl)
  have d3:(o == 3)=false:=by simpa using o3
  have dl:turnsT L o (i+1)=turnsT L o i++[(⟨i,false,0⟩:Tn)]:=by simp [turnsT,thrL,o2,o3]
  simp (maxSteps:=2000000) only [d2,d3,go_sem]
  refine And.intro (by decide) (And.intro ⟨Nat.le_refl _,fitT (by omega)⟩ ?_)
  rw [wr_succ (by omega)]
  refine backI ⟨i+1,by omega⟩ (by simp only;omega) (le_ren (fun j=>if j=4 then 6 else j) rfl rfl ?_ ?_ (by simp +contextual [ArrsLe,ArrLeO,atN,look,Fm.get,idσ,arrLe_of,arrLe_nest]) rfl)
  ·simp [TmpsLe,look,SV.ren,SC.ren,idσ,SV.okN,SC.okN,dl]
  ·show OwnLe _ _ _ (tuS (turnsT L o (i+1)))
   rw [dl]
   exact tu_grow (j:=6) (by decide) (by simp) rfl rfl (push_tn rfl rfl)
 ·rw [decide_eq_false_iff_not] at hge
  have hin:i=L.thr.length:=by omega
  subst hin
  exact retList' 4 _ _ rfl rfl (Nat.le_refl _) fun _ _=>rfl
set_option maxRecDepth 100000 in
set_option maxHeartbeats 1000000 in
theorem rturns_calls (w:World) (v:Value) (L:Lt) (o:Int) (hL:checkB L=true) (h:LtR w v L):Calls Try.prog 90 #[v,.int .i64 o] w (RetN w 1 (lsT 3 (turnsL L o).length) (lsO 44 3 Tn.enc (turnsL L o) tn0)):=by
 refine enterLt (A:=[]) (c:=ir90) (rs:=rs90) (nt:=nt90) h [.agg (ltS 0),.c (.v (.int .i64 o))] _ Try.func90 rfl (by kernel_rfl) (by kernel_rfl) rfl (fun E' h0=>by simp only [List.map_cons,List.map_nil,h0];rfl) (of_decide_eq_true rfl) ?_
 obtain ⟨z1,z2,z3,z4⟩:=sz_at hL
 simp (maxSteps:=2000000) only [ir90,nt90,rs90,go_sem,↓runOp,↓reduceIte,Nat.reduceLT,Nat.reduceAdd,Nat.reduceEqDiff,reduceCtorEq,ltA,ltS]
 refine loopI (ι:={ i:Nat // i≤L.thr.length }) (fun i=>⟨45,[(1,.c (.v (.int .i64 o))),(2,.c (.ptr (3,0,0) 0)),(5,.c (.sl (4,0,0) 3 0 (turnsT L o i.1).length none)),(6,.c (.v (.int .i64 (i.1:Nat))))],tuS (turnsT L o i.1),ltA 0 L,[],5⟩)
  (fun i=>L.thr.length - i.1) ⟨0,by omega⟩ ?_ ?_
 ·refine le_tr (le_nilown (tmps':=[(1,.c (.v (.int .i64 o))),(2,.c (.ptr (3,0,0) 0)),(5,.c (.sl (4,0,0) 3 0 0 none)),(6,.c (.v (.int .i64 0)))]) 3 44 (ats Tn.enc [] tn0) (by simp [TmpsNil,look]) rfl) ?_
  exact le_ren id rfl rfl (by simp [TmpsLe,look,SV.ren,SC.ren,idσ,SV.okN,SC.okN,turnsT]) (by simp [tuS,turnsT,OwnLe,BlkLeO,BlkLe,atN,look,Fm.get,idσ,SC.renL,SC.ren,SC.okL,SC.okN,ren_ats,ok_ats]) (by simp +contextual [ltA,ArrsLe,ArrLeO,atN,look,Fm.get,idσ,arrLe_of,arrLe_nest]) rfl
 rintro ⟨i,hi⟩
 simp (maxSteps:=2000000) only [go_sem,↓condS,↓exitS,↓runOp,↓reduceIte,Nat.reduceLT,Nat.reduceLeDiff,Nat.reduceAdd,Nat.reduceMul,Nat.reduceEqDiff,reduceCtorEq,tuS,ltA]
 refine both (fun hlt=>?_) (fun hge=>?_)
 ·rw [decide_eq_true_eq] at hlt
  have hlt:i<L.thr.length:=by omega
  have hl:=turnsT_len (o:=o) hL i
  have e0:((i:Nat):Int)=((i:Nat):Int):=rfl
  by_cases o2:o=2
  ·have dl:turnsT L o (i+1)=turnsT L o i++[(⟨i,false,0⟩:Tn)]++[⟨i,true,0⟩]:=by simp [turnsT,thrL,o2]
   have d2:(o == 2)=true:=by simpa using o2
   have d3:(o == 3)=false:=by simp [o2]
   refine And.intro (by decide) (And.intro ⟨Nat.le_refl _,fitT (by omega)⟩ ?_)
   simp (maxSteps:=2000000) only [d2,go_sem]
   refine And.intro (by decide) (And.intro ⟨Nat.le_refl _,fitT (by omega)⟩ ?_)
   refine loopI (ι:=Unit) (fun _=>⟨45,[(1,.c (.v (.int .i64 o))),(2,.c (.ptr (3,0,0) 0)),(5,.c (.sl (4,0,0) 3 0 (turnsT L o (i+1)).length none)),(6,.c (.v (.int .i64 i))),(7,.c (.v (.int .i64 (0:Nat))))],tuS (turnsT L o (i+1)),ltA 0 L,[],5⟩) (fun _=>0) () (le_ren (fun j=>if j=4 then 8 else j) rfl rfl ?_ ?_ (by simp +contextual [ltA,ArrsLe,ArrLeO,atN,look,Fm.get,idσ,arrLe_of,arrLe_nest]) rfl) ?_
   ·simp [TmpsLe,look,SV.ren,SC.ren,idσ,SV.okN,SC.okN,dl]
   ·rw [dl]
    exact tu_grow (j:=8) (by decide) (by simp) rfl rfl (ats_push (d:=tn0) rfl (by simp) (push_tn rfl rfl) rfl)
   rintro ⟨⟩
   simp (maxSteps:=2000000) only [go_sem,↓condS,↓exitS,↓gateS,↓runOp,↓imp_ft,↓imp_ff,↓reduceIte,Nat.reduceLT,Nat.reduceEqDiff,tuS,ltA,d3,ite_self]
   rw [wr_succ (by omega)]
   exact backI ⟨i+1,by omega⟩ (by simp only;omega) (le_ren id rfl rfl (by simp [TmpsLe,look,SV.ren,SC.ren,idσ,SV.okN,SC.okN]) (by simp [OwnLe,BlkLeO,BlkLe,atN,look,Fm.get,idσ,SC.renL,SC.ren,SC.okL,SC.okN,ren_ats,ok_ats]) (by simp +contextual [ArrsLe,ArrLeO,atN,look,Fm.get,idσ,arrLe_of,arrLe_nest]) rfl)
  have d2:(o == 2)=false:=by simpa using o2
  refine And.intro (by decide) (And.intro ⟨Nat.le_refl _,fitT (by omega)⟩ ?_)
  by_cases o3:o=3
  ·have dl:turnsT L o (i+1)=turnsT L o i++[(⟨i,false,0⟩:Tn)]++outsL i L.words.length:=by simp [turnsT,thrL,o3]
   have d3:(o == 3)=true:=by simpa using o3
   simp (maxSteps:=2000000) only [d2,go_sem]
   refine loopI (ι:={ a:Nat // a≤L.words.length }) (fun a=>⟨45,[(1,.c (.v (.int .i64 o))),(2,.c (.ptr (3,0,0) 0)),(5,.c (.sl (4,0,0) 3 0 (turnsT L o i++[(⟨i,false,0⟩:Tn)]++outsL i a.1).length none)),(6,.c (.v (.int .i64 i))),(7,.c (.v (.int .i64 (a.1:Nat))))],tuS (turnsT L o i++[(⟨i,false,0⟩:Tn)]++outsL i a.1),ltA 0 L,[],5⟩) (fun a=>L.words.length - a.1) ⟨0,by omega⟩ (le_ren (fun j=>if j=4 then 6 else j) rfl rfl ?_ ?_ (by simp +contextual [ltA,ArrsLe,ArrLeO,atN,look,Fm.get,idσ,arrLe_of,arrLe_nest]) rfl) ?_
   ·simp [TmpsLe,look,SV.ren,SC.ren,idσ,SV.okN,SC.okN,outsL]
   ·simp only [outsL,List.append_nil]
    exact tu_grow (j:=6) (by decide) (by simp) rfl rfl (push_tn rfl rfl)
   rintro ⟨a,ha⟩
   have hol:=outsL_len i a
   simp (maxSteps:=2000000) only [go_sem,↓condS,↓exitS,↓gateS,↓runOp,↓reduceIte,Nat.reduceLT,Nat.reduceLeDiff,Nat.reduceAdd,Nat.reduceMul,Nat.reduceEqDiff,tuS,ltA,d3]
   refine both (fun hb=>?_) (fun hb=>?_)
   ·have hlta:a<L.words.length:=by simp at hb;omega
    have hll:(turnsT L o i++[(⟨i,false,0⟩:Tn)]++outsL i a).length=(turnsT L o i).length+1+a:=by simp [hol];omega
    generalize hX:turnsT L o i++[(⟨i,false,0⟩:Tn)]++outsL i a=X at hll ⊢
    have hX2:turnsT L o i++[(⟨i,false,0⟩:Tn)]++outsL i (a+1)=X++[⟨i,true,a⟩]:=by rw [← hX];simp [outsL]
    refine And.intro (by decide) (And.intro ⟨Nat.le_refl _,fitT (by omega)⟩ ?_)
    rw [wr_succ (by omega)]
    refine backI ⟨a+1,by omega⟩ (by simp only;omega) (le_ren (fun j=>if j=4 then 6 else j) rfl rfl ?_ ?_ (by simp +contextual [ArrsLe,ArrLeO,atN,look,Fm.get,idσ,arrLe_of,arrLe_nest]) rfl)
    ·simp [TmpsLe,look,SV.ren,SC.ren,idσ,SV.okN,SC.okN,hX2]
    ·show OwnLe _ _ _ (tuS (turnsT L o i++[(⟨i,false,0⟩:Tn)]++outsL i (a+1)))
     rw [hX2]
     exact tu_grow (j:=6) (by decide) (by simp) rfl rfl (push_tn rfl rfl)
   ·have hin:a=L.words.length:=by simp at hb;omega
    subst hin
    rw [← dl,wr_succ (by omega)]
    exact backI ⟨i+1,by omega⟩ (by simp only;omega) (le_ren id rfl rfl (by simp [TmpsLe,look,SV.ren,SC.ren,idσ,SV.okN,SC.okN]) (by simp [OwnLe,BlkLeO,BlkLe,atN,look,Fm.get,idσ,SC.renL,SC.ren,SC.okL,SC.okN,ren_ats,ok_ats]) (by simp +contextual [ArrsLe,ArrLeO,atN,look,Fm.get,idσ,arrLe_of,arrLe_nest]) rfl)
  have d3:(o == 3)=false:=by simpa using o3
  have dl:turnsT L o (i+1)=turnsT L o i++[(⟨i,false,0⟩:Tn)]:=by simp [turnsT,thrL,o2,o3]
  simp (maxSteps:=2000000) only [d2,go_sem]
  refine loopI (ι:=Unit) (fun _=>⟨45,[(1,.c (.v (.int .i64 o))),(2,.c (.ptr (3,0,0) 0)),(5,.c (.sl (4,0,0) 3 0 (turnsT L o (i+1)).length none)),(6,.c (.v (.int .i64 i))),(7,.c (.v (.int .i64 (0:Nat))))],tuS (turnsT L o (i+1)),ltA 0 L,[],5⟩) (fun _=>0) () (le_ren (fun j=>if j=4 then 6 else j) rfl rfl ?_ ?_ (by simp +contextual [ltA,ArrsLe,ArrLeO,atN,look,Fm.get,idσ,arrLe_of,arrLe_nest]) rfl) ?_
  ·simp [TmpsLe,look,SV.ren,SC.ren,idσ,SV.okN,SC.okN,dl]
  ·rw [dl]
   exact tu_grow (j:=6) (by decide) (by simp) rfl rfl (push_tn rfl rfl)
  rintro ⟨⟩
  simp (maxSteps:=2000000) only [go_sem,↓condS,↓exitS,↓gateS,↓runOp,↓imp_ft,↓imp_ff,↓reduceIte,Nat.reduceLT,Nat.reduceEqDiff,tuS,ltA,d3,ite_self]
  rw [wr_succ (by omega)]
  exact backI ⟨i+1,by omega⟩ (by simp only;omega) (le_ren id rfl rfl (by simp [TmpsLe,look,SV.ren,SC.ren,idσ,SV.okN,SC.okN]) (by simp [OwnLe,BlkLeO,BlkLe,atN,look,Fm.get,idσ,SC.renL,SC.ren,SC.okL,SC.okN,ren_ats,ok_ats]) (by simp +contextual [ArrsLe,ArrLeO,atN,look,Fm.get,idσ,arrLe_of,arrLe_nest]) rfl)
 ·rw [decide_eq_false_iff_not] at hge
  have hin:i=L.thr.length:=by omega
  subst hin
  exact retList' 4 _ _ rfl rfl (Nat.le_refl _) fun _ _=>rfl
end Go.Proofs.Ytmcpdafmkkjlcaa.Z
namespace Go.Proofs.Ytmcpdafmkkjlcaa.Z
open Go Go.RowKit
instance:DecidableEq Pd:=fun a b=>decidable_of_iff (a.addr=b.addr∧a.val=b.val) ⟨fun h=>by cases a;cases b;simp_all,fun h=>by subst h;exact ⟨rfl,rfl⟩⟩
instance:DecidableEq R4:=fun a b=>decidable_of_iff (a.a=b.a∧a.b=b.b∧a.c=b.c∧a.d=b.d) ⟨fun h=>by cases a;cases b;simp_all,fun h=>by subst h;exact ⟨rfl,rfl,rfl,rfl⟩⟩
instance:DecidableEq LS:=fun a b=>decidable_of_iff (a.words=b.words∧a.regs=b.regs∧a.places=b.places∧a.bufs=b.bufs) ⟨fun h=>by cases a;cases b;simp_all,fun h=>by subst h;exact ⟨rfl,rfl,rfl,rfl⟩⟩
structure Sp where
 s:LS
 frm:Int
 tn:Tn
def ls0:LS:=⟨[],[],[],[]⟩
def sp0:Sp:=⟨ls0,0,tn0⟩
def bfsI (L:Lt) (o:Int) (i:Nat):List Tn→List Sp→Option (List Sp)
 | [],l=>some l
 | t :: ts,l =>
  if (turnS L o (l.getD i sp0).s t).2=true∧(turnS L o (l.getD i sp0).s t).1 ∉ l.map (·.s) then
   (if l.length=30000 then none else bfsI L o i ts (l++[⟨(turnS L o (l.getD i sp0).s t).1,i,t⟩]))
  else bfsI L o i ts l
def bfsO (L:Lt) (o:Int):Nat→Nat→List Sp→Option (List Sp)
 | 0,_,l=>some l
 | n+1,i,l=>if i<l.length then (bfsI L o i (turnsL L o) l).bind (bfsO L o n (i+1)) else some l
def sp1 (L:Lt):Sp:=⟨beginS L,-1,tn0⟩
def bfs (L:Lt) (o:Int):Option (List Sp):=bfsO L o 30001 0 [sp1 L]
structure WkOk (L:Lt) (o:Int) (l:List Sp):Prop where
 len:1≤l.length∧l.length≤30000
 wf:∀ x∈l,WfT L o x.s
theorem WkOk.at {L:Lt} {o:Int} {l:List Sp} (h:WkOk L o l) {i:Nat} (hi:i<l.length):WfT L o (l.getD i sp0).s:=h.wf _ (by rw [List.getD_eq_getElem?_getD,List.getElem?_eq_getElem hi];exact List.getElem_mem hi)
theorem wkOk_begin {L:Lt} {o:Int}:WkOk L o [sp1 L]:=⟨by simp,fun x hx=>by rw [List.mem_singleton] at hx;subst hx;exact begin_wfT o⟩
theorem wkOk_push {L:Lt} {o:Int} {l:List Sp} {x:Sp} (h:WkOk L o l) (hl:l.length≠30000) (hx:WfT L o x.s):WkOk L o (l++[x]) :=
 ⟨by have:=h.len;simp;omega,fun y hy=>by
  rcases List.mem_append.1 hy with hy | hy
  ·exact h.wf y hy
  ·rw [List.mem_singleton] at hy;subst hy;exact hx⟩
def seenF (l:List Sp) (a:List Int):Option Int:=if a∈l.map (fun x=>picS x.s) then some 1 else none
theorem seen_iff {L:Lt} {o:Int} {l:List Sp} {s:LS} (h:WkOk L o l) (hs:WfT L o s):picS s∈l.map (fun x=>picS x.s)↔s∈l.map (·.s):=by
 simp only [List.mem_map]
 constructor
 ·rintro ⟨x,hx,e⟩
  exact ⟨x,hx,pic_inj (h.wf x hx).shp hs.shp e⟩
 ·rintro ⟨x,hx,e⟩
  exact ⟨x,hx,by rw [e]⟩
theorem seen_push {l:List Sp} {x:Sp} (a:List Int):seenF (l++[x]) a=if a=picS x.s then some 1 else seenF l a:=by
 unfold seenF
 rw [List.map_append,List.map_cons,List.map_nil]
 by_cases h:a=picS x.s
 ·rw [if_pos h,if_pos (by simp [h])]
 ·rw [if_neg h]
  by_cases h2:a∈l.map fun x=>picS x.s
  ·rw [if_pos (List.mem_append_left _ h2),if_pos h2]
  ·rw [if_neg (by simp only [List.mem_append,List.mem_singleton];rintro (q | q);exact h2 q;exact h q),if_neg h2]
end Go.Proofs.Ytmcpdafmkkjlcaa.Z
