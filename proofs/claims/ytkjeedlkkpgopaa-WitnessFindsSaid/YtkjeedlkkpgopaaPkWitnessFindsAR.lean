/- WitnessFindsSaid: what its proof is made of. No condition. -/
import Derived.Test.YtkjeedlkkpgopaaPkWitnessFindsAQ
set_option linter.unusedSimpArgs false
set_option linter.unusedVariables false
namespace Go.Proofs.Ytkjeedlkkpgopaa.Z
open Go Go.RowKit
theorem le_nil2 {C:Ctx} {nt:Nat} {tmps:List (Nat×SV)} {own:Own} {arrs:List (Nat×Fm ArrF)} {facts:List (Env→World→Prop)} {nid:Nat} (j ty s1 t1 s2 t2:Nat) (f1 f2:Nat→List SC) (x:Nm) (hx:x.1<nid) (hj:look own j=some (.one (.bk [.v (.slice none 0 0),.v (.slice none 0 0),.mp x] ty))) (h1:look own nid=none) (h2:look own (nid+1)=none) :
  Le C ⟨nt,tmps,own,arrs,facts,nid⟩ ⟨nt,tmps,(nid,.one (.ar 0 s1 f1 t1)) :: (nid+1,.one (.ar 0 s2 f2 t2)) :: setL own j (.one (.bk [.sl (nid,0,0) s1 0 0 none,.sl (nid+1,0,0) s2 0 0 none,.mp x] ty)),arrs,facts,nid+2⟩:=by
 intro E a w hs
 refine ⟨⟨E.ρ,fun x=>if nid≤x.1 then 0 else E.κ x,fun x=>if nid≤x.1 then true else E.ν x,E.χ⟩,hs.1,fun E2 hE2 ho2=>?_⟩
 have hs2:=hs.2 E2 (fun x hx=>by
  have hx:x.1<nid:=hx
  obtain ⟨h1,h2,h3,h4⟩:=hE2 x (show x.1<nid+2 by omega)
  exact ⟨h1,by rw [h2];simp only;rw [if_neg (by omega)],by rw [h3];simp only;rw [if_neg (by omega)],h4⟩) ho2
 have hnil:∀ x:Nm,nid≤x.1→x.1<nid+2→E2.κ x=0∧E2.ν x=true:=fun x h1 h2=>by
  obtain ⟨_,h3,h4,_⟩:=hE2 x (show x.1<nid+2 from h2)
  rw [h3,h4]
  simp only
  rw [if_pos h1,if_pos h1]
  exact ⟨rfl,rfl⟩
 have hjn:j≠nid∧j≠nid+1:=⟨fun e=>(by rw [e,h1] at hj;cases hj),fun e=>(by rw [e,h2] at hj;cases hj)⟩
 obtain ⟨H,hH,hF⟩:=hs2.mem
 have hat:atN own (j,0,0)=some (.bk [.v (.slice none 0 0),.v (.slice none 0 0),.mp x] ty):=by simp [atN,hj,Fm.get]
 have hold:∀ y b,atN ((nid,.one (.ar 0 s1 f1 t1)) :: (nid+1,.one (.ar 0 s2 f2 t2)) :: setL own j (.one (.bk [.sl (nid,0,0) s1 0 0 none,.sl (nid+1,0,0) s2 0 0 none,.mp x] ty)):Own) y=some b →
   (y=(nid,0,0)∧b = .ar 0 s1 f1 t1)∨(y=(nid+1,0,0)∧b = .ar 0 s2 f2 t2)∨(y=(j,0,0)∧b = .bk [.sl (nid,0,0) s1 0 0 none,.sl (nid+1,0,0) s2 0 0 none,.mp x] ty)∨(y.1≠j∧y.1≠nid∧y.1≠nid+1∧atN own y=some b):=by
  rintro ⟨k,p,q⟩ b hy0
  rcases atN_one hy0 with hy1 | hy1
  ·exact Or.inl hy1
  rcases atN_one hy1 with hy | hy
  ·exact Or.inr (Or.inl hy)
  right;right
  clear hy0 hy1
  simp only [atN,look_setL] at hy
  by_cases e:j=k
  ·subst e
   rw [if_pos rfl] at hy
   simp only [Fm.get] at hy
   split at hy
   ·next e=>obtain ⟨rfl,rfl⟩:=e;cases hy;exact Or.inl ⟨rfl,rfl⟩
   ·cases hy
  ·rw [if_neg e] at hy
   refine Or.inr ⟨fun e2=>e e2.symm,fun e2=>?_,fun e2=>?_,hy⟩
   ·simp only at e2;rw [e2,h1] at hy;cases hy
   ·simp only at e2;rw [e2,h2] at hy;cases hy
 have hw:∀ y:Nm,y.1≠nid→y.1≠nid+1→(if y.1=nid∨y.1=nid+1 then emp else H y)=H y:=fun y g1 g2=>by rw [if_neg (by omega)]
 refine ⟨hs2.size,hs2.defers,ho2,hs2.tmps,hs2.frame,fun y=>if y.1=nid∨y.1=nid+1 then emp else H y,⟨?_,?_,?_⟩,?_⟩
 ·intro y b hy
  rcases hold y b hy with ⟨rfl,rfl⟩ | ⟨rfl,rfl⟩ | ⟨rfl,rfl⟩ | ⟨_,g1,g2,hy⟩
  ·obtain ⟨k1,k2⟩:=hnil (nid,0,0) (by simp) (by simp)
   exact Or.inl ⟨trivial,k1,rfl,by simp⟩
  ·obtain ⟨k1,k2⟩:=hnil (nid+1,0,0) (by simp) (by simp)
   exact Or.inl ⟨trivial,k1,rfl,by simp⟩
  ·have:=hH.den _ _ hat
   obtain ⟨k1,k2⟩:=hnil (nid,0,0) (by simp) (by simp)
   obtain ⟨k3,k4⟩:=hnil (nid+1,0,0) (by simp) (by simp)
   show Blk.den E2 (j,0,0) _ (if (j,0,0).1=nid∨(j,0,0).1=nid+1 then emp else H (j,0,0))
   rw [hw (j,0,0) hjn.1 hjn.2]
   simp only [Blk.den,List.map_cons,List.map_nil,SC.den] at this ⊢
   rw [this,k1,k2,k3,k4]
   simp
  ·show Blk.den E2 y _ (if y.1=nid∨y.1=nid+1 then emp else H y)
   rw [hw _ g1 g2]
   exact hH.den _ _ hy
 ·intro y z b c hy hz hne n
  have key:∀ y b,atN ((nid,.one (.ar 0 s1 f1 t1)) :: (nid+1,.one (.ar 0 s2 f2 t2)) :: setL own j (.one (.bk [.sl (nid,0,0) s1 0 0 none,.sl (nid+1,0,0) s2 0 0 none,.mp x] ty)):Own) y=some b→(if y.1=nid∨y.1=nid+1 then emp else H y)=emp∨(y.1≠nid∧y.1≠nid+1∧∃ b',atN own y=some b'):=fun y b hy=>by
   rcases hold y b hy with ⟨rfl,rfl⟩ | ⟨rfl,rfl⟩ | ⟨rfl,rfl⟩ | ⟨_,g1,g2,hy⟩
   ·exact Or.inl (by simp)
   ·exact Or.inl (by simp)
   ·exact Or.inr ⟨hjn.1,hjn.2,_,hat⟩
   ·exact Or.inr ⟨g1,g2,_,hy⟩
  rcases key y b hy with g | ⟨g1,g2,b',g3⟩
  ·left;show (if y.1=nid∨y.1=nid+1 then emp else H y) n=none;rw [g];rfl
  rcases key z c hz with k | ⟨k1,k2,c',k3⟩
  ·right;show (if z.1=nid∨z.1=nid+1 then emp else H z) n=none;rw [k];rfl
  ·show (if y.1=nid∨y.1=nid+1 then emp else H y) n=none∨(if z.1=nid∨z.1=nid+1 then emp else H z) n=none
   rw [hw _ g1 g2,hw _ k1 k2]
   exact hH.disj y z b' c' g3 k3 hne n
 ·intro y b hy n o hn
  rcases hold y b hy with ⟨rfl,rfl⟩ | ⟨rfl,rfl⟩ | ⟨rfl,rfl⟩ | ⟨_,g1,g2,hy⟩
  ·simp [emp] at hn
  ·simp [emp] at hn
  ·have hn:(if (j,0,0).1=nid∨(j,0,0).1=nid+1 then emp else H (j,0,0)) n=some o:=hn
   rw [hw (j,0,0) hjn.1 hjn.2] at hn
   exact hH.sub _ _ hat n o hn
  ·have hn:(if y.1=nid∨y.1=nid+1 then emp else H y) n=some o:=hn
   rw [hw _ g1 g2] at hn
   exact hH.sub _ _ hy n o hn
 ·intro w' hw'
  have h0:=hF w' fun n hn hfr=>hw' n hn fun y b hy=>by
   rcases hold y b hy with ⟨rfl,rfl⟩ | ⟨rfl,rfl⟩ | ⟨rfl,rfl⟩ | ⟨_,g1,g2,hy⟩
   ·simp [emp]
   ·simp [emp]
   ·show (if (j,0,0).1=nid∨(j,0,0).1=nid+1 then emp else H (j,0,0)) n=none
    rw [hw (j,0,0) hjn.1 hjn.2];exact hfr _ _ hat
   ·show (if y.1=nid∨y.1=nid+1 then emp else H y) n=none
    rw [hw _ g1 g2];exact hfr _ _ hy
  exact ⟨h0.1,h0.2⟩
def cidx (xs:List Cl) (n:Nat):List Nat:=(List.range n).filter fun i=>cntB (xs.getD i cl0)
def cys (xs:List Cl) (n:Nat):List Cl:=(cidx xs n).map fun i=>xs.getD i cl0
theorem cidx_succ (xs:List Cl) (n:Nat):cidx xs (n+1)=if cntB (xs.getD n cl0)=true then cidx xs n++[n] else cidx xs n:=by
 unfold cidx
 rw [List.range_succ,List.filter_append]
 by_cases h:cntB (xs.getD n cl0)=true
 ·rw [if_pos h,List.filter_cons_of_pos (p:=fun i=>cntB (xs.getD i cl0)) h];rfl
 ·rw [if_neg h,List.filter_cons_of_neg (p:=fun i=>cntB (xs.getD i cl0)) h];simp
theorem cidx_len (xs:List Cl) (n:Nat):(cidx xs n).length≤n:=by
 have:=List.length_filter_le (fun i=>cntB (xs.getD i cl0)) (List.range n)
 simpa [cidx] using this
theorem cys_len (xs:List Cl) (n:Nat):(cys xs n).length=(cidx xs n).length:=by simp [cys]
noncomputable def nsE (xs:List Cl):Int:=if mayQ xs=true then (if (cidx xs xs.length).length≤8 then 0 else 3) else 120
def nsT (n:Nat) (b:Nat):SV:=.tup [(false,[.ptr (b,0,0) 0]),(false,[.v (.int .i64 0)])]
def nsO (xs:List Cl) (b:Nat):Own:=[(b,.one (.bk [.sl (b+1,0,0) 9 0 (cys xs xs.length).length none,.sl (b+2,0,0) 1 0 (cys xs xs.length).length none,.mp (b+3,0,0)] 83)),(b+1,.one (.ar (cys xs xs.length).length 9 (ats Cl.enc (cys xs xs.length) cl0) 53)),(b+2,.one (.ar (cys xs xs.length).length 1 (ats eI (oI (cidx xs xs.length)) 0) 3)),(b+3,.one (.mp (.arr 8 .i8) .i64 fun _=>none))]
def ir49:IR:=(.seq (.ops [⟨(some 2),(.mv (.k (.c (.v (.pointer none))))),none⟩,⟨(some 3),(.mv (.k (.c (.v (.int .i64 0))))),none⟩]) (.kill [1,2,3,4,5,6,7,8,9,10,11] (.seq (.seq (.ops [⟨(some 7),(.mv (.t 0)),none⟩,⟨(some 8),(.call 15 [(.t 7)]),none⟩,⟨(some 9),(.un .not (.t 8)),none⟩]) (.kill [7,8] (.cond (.t 9) (.seq (.ops [⟨(some 2),(.mv (.k (.c (.v (.pointer none))))),none⟩,⟨(some 3),(.mv (.k (.c (.v (.int .i64 120))))),none⟩]) (.kill [0,9] .ret)) .skip))) (.kill [2,3,9] (.seq (.ops [⟨(some 10),(.mkm (.arr 8 .i8) .i64),none⟩,⟨(some 11),(.build [(.v (.slice none 0 0)),(.v (.slice none 0 0)),(.v (.map none))] [(2,(1,(.t 10)))]),none⟩,⟨(some 12),(.box 83 (.t 11)),none⟩,⟨(some 4),(.mv (.t 12)),none⟩]) (.kill [10,11,12] (.seq (.seq (.ops [⟨(some 13),(.mv (.t 0)),none⟩,⟨(some 14),(.len (.t 13)),none⟩,⟨(some 15),(.mv (.k (.c (.v (.int .i64 0))))),none⟩]) (.kill [0] (.blk 0 (.loop (.seq (.ops [⟨(some 16),(.bin .lss (.t 15) (.t 14)),none⟩]) (.kill [5,6,17,18,19,20,21,22,23,24,25,26,27,28,29,30,31,32,33,34,35,36,37,38,39,40,41,42] (.seq (.cond (.t 16) .skip (.exit 0)) (.kill [16] (.seq (.blk 1 (.seq (.ops [⟨(some 17),(.mv (.t 15)),none⟩,⟨(some 18),(.ia 9 (.t 13) (.t 15)),none⟩,⟨(some 19),(.ld true 9 (.t 18)),none⟩,⟨(some 6),(.new 53 [(.v (.int .i64 0)),(.v (.int .i64 0)),(.v (.int .i64 0)),(.v (.int .i64 0)),(.v (.int .i64 0)),(.v (.int .i64 0)),(.v (.int .i64 0)),(.v (.int .i64 0)),(.v (.int .i64 0))]),none⟩,⟨(some 5),(.mv (.t 17)),none⟩,⟨none,(.st 9 (.t 6) (.t 19)),none⟩]) (.kill [17,18,19] (.seq (.ops [⟨(some 20),(.ld true 9 (.t 6)),none⟩,⟨(some 21),(.call 42 [(.t 20)]),none⟩]) (.kill [20] (.cond (.t 21) (.seq (.draw [(⟨(some 22),(.mv (.t 4)),none⟩,([],[23,24,25,26,27,28,29])),(⟨(some 23),(.mv (.t 4)),none⟩,([0],[22,27,28])),(⟨(some 24),(.nilck (.t 23)),none⟩,([0],[22,27,28])),(⟨(some 25),(.fa 0 (.t 24)),none⟩,([0],[22,27,28])),(⟨(some 26),(.ld false 1 (.t 25)),none⟩,([0],[22,27,28])),(⟨(some 27),(.ld true 9 (.t 6)),none⟩,([0,1,2,3,4],[22,23,24,25,26])),(⟨(some 28),(.mkSl 53 1 9 [(.v (.int .i64 0)),(.v (.int .i64 0)),(.v (.int .i64 0)),(.v (.int .i64 0)),(.v (.int .i64 0)),(.v (.int .i64 0)),(.v (.int .i64 0)),(.v (.int .i64 0)),(.v (.int .i64 0))] [(0,(9,(.t 27)))]),none⟩,([0,1,2,3,4],[22,23,24,25,26])),(⟨(some 29),(.app 53 9 72 [(.v (.int .i64 0)),(.v (.int .i64 0)),(.v (.int .i64 0)),(.v (.int .i64 0)),(.v (.int .i64 0)),(.v (.int .i64 0)),(.v (.int .i64 0)),(.v (.int .i64 0)),(.v (.int .i64 0))] (.t 26) (.t 28)),none⟩,([0],[22])),(⟨(some 30),(.nilck (.t 22)),none⟩,([],[])),(⟨(some 31),(.fa 0 (.t 30)),none⟩,([],[])),(⟨none,(.st 1 (.t 31) (.t 29)),none⟩,([],[]))]) (.kill [6,21,22,23,24,25,26,27,28,29,30,31] (.ops [⟨(some 32),(.mv (.t 4)),none⟩,⟨(some 33),(.mv (.t 4)),none⟩,⟨(some 34),(.nilck (.t 33)),none⟩,⟨(some 35),(.fa 1 (.t 34)),none⟩,⟨(some 36),(.ld false 1 (.t 35)),none⟩,⟨(some 37),(.mv (.t 5)),none⟩,⟨(some 38),(.mkSl 3 1 1 [(.v (.int .i64 0))] [(0,(1,(.t 37)))]),none⟩,⟨(some 39),(.app 3 1 8 [(.v (.int .i64 0))] (.t 36) (.t 38)),none⟩,⟨(some 40),(.nilck (.t 32)),none⟩,⟨(some 41),(.fa 1 (.t 40)),none⟩,⟨none,(.st 1 (.t 41) (.t 39)),none⟩]))) .skip)))))) (.kill [5,6,17,18,19,20,21,22,23,24,25,26,27,28,29,30,31,32,33,34,35,36,37,38,39,40,41] (.ops [⟨(some 42),(.bin .add (.t 15) (.k (.c (.v (.int .i64 1))))),none⟩,⟨(some 15),(.mv (.t 42)),none⟩]))))))))))) (.kill [5,6,13,14,15,16,17,18,19,20,21,22,23,24,25,26,27,28,29,30,31,32,33,34,35,36,37,38,39,40,41,42] (.seq (.seq (.ops [⟨(some 43),(.mv (.t 4)),none⟩,⟨(some 44),(.nilck (.t 43)),none⟩,⟨(some 45),(.fa 0 (.t 44)),none⟩,⟨(some 46),(.ld false 1 (.t 45)),none⟩,⟨(some 47),(.len (.t 46)),none⟩,⟨(some 48),(.bin .gtr (.t 47) (.k (.c (.v (.int .i64 8))))),none⟩]) (.kill [43,44,45,46,47] (.cond (.t 48) (.seq (.ops [⟨(some 2),(.mv (.k (.c (.v (.pointer none))))),none⟩,⟨(some 3),(.mv (.k (.c (.v (.int .i64 3))))),none⟩]) (.kill [4,48] .ret)) .skip))) (.kill [2,3,48] (.seq (.ops [⟨(some 49),(.mv (.t 4)),none⟩,⟨(some 2),(.mv (.t 49)),none⟩,⟨(some 3),(.mv (.k (.c (.v (.int .i64 0))))),none⟩]) (.kill [4,49] .ret))))))))))))
def rs49:List RS:=[(.t 2),(.t 3)]
def nt49:Nat:=50
def nsEnd (xs:List Cl) (u:SV) (e:Int):St:=⟨50,[(2,u),(3,.c (.v (.int .i64 e)))],[(1,.one (.bk [.sl (2,0,0) 9 0 (cys xs xs.length).length none,.sl (3,0,0) 1 0 (cys xs xs.length).length none,.mp (4,0,0)] 83)),(2,.one (.ar (cys xs xs.length).length 9 (ats Cl.enc (cys xs xs.length) cl0) 53)),(3,.one (.ar (cys xs xs.length).length 1 (ats eI (oI (cidx xs xs.length)) 0) 3)),(4,.one (.mp (.arr 8 .i8) .i64 fun _=>none))],[(0,.one (arrOf Cl.enc 9 xs cl0))],[],5⟩
set_option maxRecDepth 100000 in
set_option maxHeartbeats 400000 in
theorem newSearch_gen {R:Ending→World→Prop} (w:World) (v:Value) (xs:List Cl) (hsz:xs.length * 72≤140737488355328) (hm:mayQ xs=true) (h:Arr w Cl.enc 9 v xs)
  (h1:8<(cys xs xs.length).length→RetVC (mkC Try.prog [] w rs49 R) (.tup [(false,[.v (.pointer none)]),(false,[.v (.int .i64 3)])]) (nsEnd xs (.c (.v (.pointer none))) 3))
  (h2:(cys xs xs.length).length≤8→RetVC (mkC Try.prog [] w rs49 R) (.tup [(false,[.ptr (1,0,0) 0]),(false,[.v (.int .i64 0)])]) (nsEnd xs (.c (.ptr (1,0,0) 0)) 0)):Calls Try.prog 49 #[v] w R:=by
 refine enter1 (A:=[]) (c:=ir49) (rs:=rs49) (nt:=nt49) cl0 cl_ok h [.c (.xv (0,0,0))] _ Try.func49 rfl (by kernel_rfl) (by kernel_rfl) rfl (fun E' h0=>by simp [SV.den,SC.den,h0]) (of_decide_eq_true rfl) ?_
 simp (maxSteps:=2000000) only [ir49,nt49,rs49,go_sem,↓reduceIte,Nat.reduceLT,Nat.reduceLeDiff,Nat.reduceAdd,Nat.reduceSub,Nat.reduceMul,Nat.reduceEqDiff,reduceCtorEq,Int.reduceToNat,Int.reduceEq,Int.reduceBEq,Int.reduceBNe,Int.reduceLT,Int.reduceLE,Int.reduceNeg,Int.reduceAdd,Int.reduceSub,Int.reduceMul,Int.reduceGE,Int.reduceGT,Cl.enc,iv,endO]
 refine callV (.c (.v (.bool true))) (.bool true) (fun E=>rfl) (fun E a w' hs=>by
  have:=mayW w' _ xs (arr_at (d:=cl0) hs 0 rfl)
  rw [hm] at this
  exact this) ?_
 simp (maxSteps:=2000000) only [go_sem,↓reduceIte,Nat.reduceLT,Nat.reduceLeDiff,Nat.reduceAdd,Nat.reduceSub,Nat.reduceMul,Nat.reduceEqDiff,reduceCtorEq,Int.reduceToNat,Int.reduceEq,Int.reduceBEq,Int.reduceBNe,Int.reduceLT,Int.reduceLE,Int.reduceNeg,Int.reduceAdd,Int.reduceSub,Int.reduceMul,Int.reduceGE,Int.reduceGT,Cl.enc,iv,endO]
 refine loopI (ι:={ i:Nat // i≤xs.length }) (fun i=>⟨50,[(4,.c (.ptr (1,0,0) 0)),(13,.c (.xv (0,0,0))),(14,.c (.v (.int .i64 xs.length))),(15,.c (.v (.int .i64 (i.1:Nat))))],
  [(1,.one (.bk [.sl (2,0,0) 9 0 (cys xs i.1).length none,.sl (3,0,0) 1 0 (cys xs i.1).length none,.mp (4,0,0)] 83)),(2,.one (.ar (cys xs i.1).length 9 (ats Cl.enc (cys xs i.1) cl0) 53)),(3,.one (.ar (cys xs i.1).length 1 (ats eI (oI (cidx xs i.1)) 0) 3)),(4,.one (.mp (.arr 8 .i8) .i64 fun _=>none))],[(0,.one (arrOf Cl.enc 9 xs cl0))],[],5⟩)
  (fun i=>xs.length - i.1) ⟨0,by omega⟩ ?_ ?_
 ·refine le_tr (le_nil2 2 83 9 53 1 3 (ats Cl.enc [] cl0) (ats eI [] 0) (1,0,0) (by decide) rfl rfl rfl) ?_
  simp only [setL]
  exact le_ren (fun i=>if i=1 then 2 else if i=2 then 3 else if i=3 then 4 else if i=4 then 1 else i) rfl rfl (by simp [TmpsLe,look,SV.ren,SC.ren,SC.renL,ren1L,ren1,idσ,SV.okN,SC.okN,SC.okL,ok1L]) (by simp [OwnLe,BlkLeO,BlkLe,atN,look,Fm.get,idσ,SC.renL,SC.ren,SC.okL,SC.okN,cys,cidx,oI]) (by simp [ArrsLe,ArrLeO,atN,look,Fm.get,idσ,arrLe_of,arrLe_0]) rfl
 rintro ⟨i,hi⟩
 simp (maxSteps:=2000000) only [go_sem,↓reduceIte,Nat.reduceLT,Nat.reduceLeDiff,Nat.reduceAdd,Nat.reduceSub,Nat.reduceMul,Nat.reduceEqDiff,reduceCtorEq,Int.reduceToNat,Int.reduceEq,Int.reduceBEq,Int.reduceBNe,Int.reduceLT,Int.reduceLE,Int.reduceNeg,Int.reduceAdd,Int.reduceSub,Int.reduceMul,Int.reduceGE,Int.reduceGT,Cl.enc,iv,endO]
 refine both (fun hlt=>?_) (fun hge=>?_)
 ·rw [decide_eq_true_eq] at hlt
  have hlt:i<xs.length:=by omega
  have hcl:=cidx_len xs i
  have hyl:=cys_len xs i
  have hcs:=cidx_succ xs i
  generalize hci:xs.getD i cl0=ci at hcs
  repeat (with_reducible refine And.intro (by first | (simp only [maxLen];omega) | omega | decide | (simp;done) | (simp [maxLen];omega)) ?_)
  refine callV (.c (.bo (cntB ci))) _ (fun E=>rfl) (fun E a w' _=>counts_calls w' ci) ?_
  simp (maxSteps:=2000000) only [go_sem,↓reduceIte,Nat.reduceLT,Nat.reduceLeDiff,Nat.reduceAdd,Nat.reduceSub,Nat.reduceMul,Nat.reduceEqDiff,reduceCtorEq,Int.reduceToNat,Int.reduceEq,Int.reduceBEq,Int.reduceBNe,Int.reduceLT,Int.reduceLE,Int.reduceNeg,Int.reduceAdd,Int.reduceSub,Int.reduceMul,Int.reduceGE,Int.reduceGT,Cl.enc,iv,endO]
  refine both (fun hb=>?_) (fun hb=>?_)
  ·rw [if_pos hb] at hcs
   have hys:cys xs (i+1)=cys xs i++[ci]:=by simp [cys,hcs,← hci]
   have hoi:oI (cidx xs (i+1))=oI (cidx xs i)++[(i:Int)]:=by rw [hcs,oI_push]
   refine draw_vc (by kernel_rfl) (mkTab_ok _ _) (of_decide_eq_true rfl) (of_decide_eq_true rfl) ?_
   repeat (first | simp (maxSteps:=2000000) only [go_sem,↓reduceIte,Nat.reduceLT,Nat.reduceLeDiff,Nat.reduceAdd,Nat.reduceSub,Nat.reduceMul,Nat.reduceEqDiff,reduceCtorEq,Int.reduceToNat,Int.reduceEq,Int.reduceBEq,Int.reduceBNe,Int.reduceLT,Int.reduceLE,Int.reduceNeg,Int.reduceAdd,Int.reduceSub,Int.reduceMul,Int.reduceGE,Int.reduceGT,Cl.enc,iv,endO] | rw [dr_cons])
   have hcl':=cidx_len xs i
   have hf9:=fit_app ((cys xs i).length+1) (by omega)
   have hf8:=fit_app8 ((cys xs i).length+1) (by omega)
   have hml:(cys xs i).length+1≤maxLen:=by simp only [maxLen];omega
   have hone:1≤maxLen:=by decide
   refine And.intro hone (And.intro (Or.inl trivial) (And.intro ⟨Nat.le_refl _,hf9,hml⟩ (And.intro ⟨Or.inl trivial,Or.inr trivial⟩ (And.intro (Or.inr trivial) (And.intro hone (And.intro ⟨Nat.le_refl _,hf8,hml⟩ ?_))))))
   clear hf9 hf8 hml hone
   rw [wr_succ (by omega)]
   refine backI ⟨i+1,by omega⟩ (by simp only;omega) (le_ren (fun k=>if k=2 then 7 else if k=3 then 9 else k) rfl rfl (by simp [TmpsLe,look,SV.ren,SC.ren,SC.renL,ren1L,ren1,idσ,SV.okN,SC.okN,SC.okL,ok1L]) ⟨⟨of_decide_eq_true rfl,by simp [BlkLeO,BlkLe,atN,look,Fm.get,idσ,SC.renL,SC.ren,SC.okL,SC.okN,hys]⟩,⟨of_decide_eq_true rfl,arLe_of (by simp [hys]) (ats_push hys rfl (fun e he=>rfl) rfl)⟩,
    ⟨of_decide_eq_true rfl,?_⟩,⟨of_decide_eq_true rfl,by simp [BlkLeO,BlkLe,atN,look,Fm.get,idσ]⟩,trivial⟩ (by simp [ArrsLe,ArrLeO,atN,look,Fm.get,idσ,arrLe_of,arrLe_0]) rfl)
   have hlo:(cys xs (i+1)).length=(oI (cidx xs (i+1))).length:=by rw [oI_len,cys_len]
   refine ⟨by simp [hys],rfl,rfl,fun e he=>?_⟩
   have he:e<(cys xs (i+1)).length:=he
   have:=ats_push (d:=0) (enc:=eI) hoi (show (cys xs i).length=(oI (cidx xs i)).length by rw [oI_len,cys_len]) (f:=ats eI (oI (cidx xs i)) 0) (g:=fun e=>take' 1 (drop' (e * 1) [.v (.int .i64 i)])) (fun e he=>rfl) rfl e (by omega)
   rw [this]
   exact ⟨(renL_v _ _).symm,okL_v _ _⟩
  ·rw [if_neg (by simp [hb])] at hcs
   have hys:cys xs (i+1)=cys xs i:=by simp [cys,hcs]
   rw [wr_succ (by omega)]
   exact backI ⟨i+1,by omega⟩ (by simp only;omega) (le_ren id rfl rfl (by simp [TmpsLe,look,SV.ren,SC.ren,SC.renL,ren1L,ren1,idσ,SV.okN,SC.okN,SC.okL,ok1L]) (by simp [OwnLe,BlkLeO,BlkLe,atN,look,Fm.get,idσ,SC.renL,SC.ren,SC.okL,SC.okN,ren_ats,ok_ats,hys,hcs]) (by simp [ArrsLe,ArrLeO,atN,look,Fm.get,idσ,arrLe_of,arrLe_0]) rfl)
 ·rw [decide_eq_false_iff_not] at hge
  have hin:i=xs.length:=by omega
  subst hin
  refine both (fun hb=>?_) (fun hb=>?_)
  ·rw [decide_eq_true_eq] at hb
   exact h1 (by omega)
  ·rw [decide_eq_false_iff_not] at hb
   exact h2 (by omega)
theorem newSearch_ok (w:World) (v:Value) (xs:List Cl) (hsz:xs.length * 72≤140737488355328) (he:nsE xs=0) (h:Arr w Cl.enc 9 v xs):Calls Try.prog 49 #[v] w (RetN w 4 (nsT 0) (nsO xs)):=by
 have hm:mayQ xs=true:=by
  unfold nsE at he
  by_cases e:mayQ xs=true
  ·exact e
  ·rw [if_neg e] at he;cases he
 have h8:(cidx xs xs.length).length≤8:=by
  unfold nsE at he
  rw [if_pos hm] at he
  split at he
  ·assumption
  ·cases he
 have hyl:=cys_len xs xs.length
 refine newSearch_gen w v xs hsz hm h (fun hb=>by omega) fun _=>?_
 refine retN (fun i=>i+1) (fun b=>?_) (fun b=>?_) (fun b=>?_)
 ·simp [nsT,SV.ren,ren1L,ren1,SC.renL,SC.ren,fromσ,SV.okN,ok1L,SC.okL,SC.okN,NewIds]
 ·simp [nsEnd,OwnLe,nsO,BlkLeO,BlkLe,fromσ,atN,look,Fm.get,SC.renL,SC.ren,SC.okL,SC.okN,NewIds,ren_ats,ok_ats]
 ·exact injN_from fun i hi j hj h=>by simp [nsO,keysL] at hi hj;omega
set_option maxRecDepth 100000 in
set_option maxHeartbeats 400000 in
theorem newSearch_no (w:World) (v:Value) (xs:List Cl) (hsz:xs.length * 72≤140737488355328) (he:nsE xs≠0) (h:Arr w Cl.enc 9 v xs):Calls Try.prog 49 #[v] w (RetV w (.tuple #[.pointer none,.int .i64 (nsE xs)])):=by
 have hyl:=cys_len xs xs.length
 by_cases hm:mayQ xs=true
 ·refine newSearch_gen w v xs hsz hm h (fun hb=>?_) (fun hb=>?_)
  ·refine retV fun E=>?_
   have:nsE xs=3:=by unfold nsE;rw [if_pos hm,if_neg (by omega)]
   rw [this]
   simp [SV.den,den1,SC.den]
  ·exact absurd (by unfold nsE;rw [if_pos hm,if_pos (by omega)]) he
 ·have hm:mayQ xs=false:=by simpa using hm
  have:nsE xs=120:=by unfold nsE;rw [if_neg (by simp [hm])]
  rw [this]
  refine enter1 (A:=[]) (c:=ir49) (rs:=rs49) (nt:=nt49) cl0 cl_ok h [.c (.xv (0,0,0))] _ Try.func49 rfl (by kernel_rfl) (by kernel_rfl) rfl (fun E' h0=>by simp [SV.den,SC.den,h0]) (of_decide_eq_true rfl) ?_
  simp (maxSteps:=2000000) only [ir49,nt49,rs49,go_sem,↓reduceIte,Nat.reduceLT,Nat.reduceLeDiff,Nat.reduceAdd,Nat.reduceSub,Nat.reduceMul,Nat.reduceEqDiff,reduceCtorEq,Int.reduceToNat,Int.reduceEq,Int.reduceBEq,Int.reduceBNe,Int.reduceLT,Int.reduceLE,Int.reduceNeg,Int.reduceAdd,Int.reduceSub,Int.reduceMul,Int.reduceGE,Int.reduceGT,Cl.enc,iv,endO]
  refine callV (.c (.v (.bool false))) (.bool false) (fun E=>rfl) (fun E a w' hs=>by
   have:=mayW w' _ xs (arr_at (d:=cl0) hs 0 rfl)
   rw [hm] at this
   exact this) ?_
  simp (maxSteps:=2000000) only [go_sem,↓reduceIte,Nat.reduceLT,Nat.reduceLeDiff,Nat.reduceAdd,Nat.reduceSub,Nat.reduceMul,Nat.reduceEqDiff,reduceCtorEq,Int.reduceToNat,Int.reduceEq,Int.reduceBEq,Int.reduceBNe,Int.reduceLT,Int.reduceLE,Int.reduceNeg,Int.reduceAdd,Int.reduceSub,Int.reduceMul,Int.reduceGE,Int.reduceGT,Cl.enc,iv,endO]
  exact retV fun E=>by simp [SV.den,den1,SC.den]
end Go.Proofs.Ytkjeedlkkpgopaa.Z
namespace Go.Proofs.Ytkjeedlkkpgopaa.Z
open Go Go.RowKit
def cyA (xs:List Cl):List Cl:=cys xs xs.length
def nmA (xs:List Cl):List Nat:=cidx xs xs.length
theorem cyA_len (xs:List Cl):(cyA xs).length=(nmA xs).length:=cys_len xs xs.length
theorem cyA_at (xs:List Cl) {i:Nat} (h:i<(nmA xs).length):(cyA xs).getD i cl0=xs.getD ((nmA xs).getD i 0) cl0:=by
 simp only [cyA,cys,nmA] at h ⊢
 rw [List.getD_eq_getElem?_getD,List.getElem?_map,List.getElem?_eq_getElem h,List.getD_eq_getElem?_getD (l:=cidx xs xs.length),List.getElem?_eq_getElem h]
 rfl
theorem nmA_mem {xs:List Cl} {j:Nat} (h:j∈nmA xs):j<xs.length∧cntB (xs.getD j cl0)=true:=by
 have:=List.mem_filter.1 h
 exact ⟨List.mem_range.1 this.1,this.2⟩
theorem cyA_op (xs:List Cl):∀ i,i<(cyA xs).length→objOf ((cyA xs).getD i cl0).op≠0:=fun i hi=>by
 rw [cyA_len] at hi
 rw [cyA_at xs hi]
 have:=(nmA_mem (getD_mem (d:=0) hi)).2
 simpa [cntB] using this
theorem nsE_0 {xs:List Cl} (h:nsE xs=0):(cyA xs).length≤8:=by
 unfold nsE at h
 split at h
 ·split at h
  ·rw [cyA_len];assumption
  ·cases h
 ·cases h
def allY (xs:List Cl):List (List Nat):=(hY (cyA xs)).srch (cY (cyA xs)) ((hY (cyA xs)).mayW (cY (cyA xs))) 9 [] mc0
noncomputable def cntW (xs:List Cl):Int:=if nsE xs=0 then ((allY xs).length:Nat) else 0
noncomputable def findE (xs:List Cl):Int:=if nsE xs=0 then (if (allY xs).head?.isSome=true then 0 else 124) else nsE xs
def nmL (xs:List Cl) (x:List Nat):List Int:=oI (x.map fun i=>(nmA xs).getD i 0)
noncomputable def findL (xs:List Cl):List Int:=if nsE xs=0 then (match (allY xs).head? with | some x=>nmL xs x | none=>[]) else []
theorem call_nid {C:Ctx} {f:Nat} {vs:List SV} {dst:Option Nat} {K:St→Prop} {nt:Nat} {tmps:List (Nat×SV)} {own:Own} {arrs:List (Nat×Fm ArrF)} {facts:List (Env→World→Prop)} {nid:Nat} (nid' : Nat) (h:nid≤nid') (hk:CallVC C f vs dst ⟨nt,tmps,own,arrs,facts,nid'⟩ K):CallVC C f vs dst ⟨nt,tmps,own,arrs,facts,nid⟩ K:=fun E a w hs =>
 hk E a w ⟨hs.1,fun E' hE' ho'=>by
  have q:=hs.2 E' (fun x hx=>hE' x (Nat.lt_of_lt_of_le hx h)) ho'
  exact ⟨q.size,q.defers,q.one,q.tmps,q.frame,q.mem⟩⟩
theorem sr_own {C:Ctx} {S:St} {E:Env} {a:Act} {w:World} {ys:List Cl} {nms:List Int} {ty n i:Nat} (hs:Sat C.B C.W C.w0 E S a w) (h0:look S.own i=some (.one (.bk [.sl (i+1,0,0) 9 0 n none,.sl (i+2,0,0) 1 0 n none,.mp (i+3,0,0)] ty))) (t1 t2:Nat) (h1:look S.own (i+1)=some (.one (.ar n 9 (ats Cl.enc ys cl0) t1))) (h2:look S.own (i+2)=some (.one (.ar n 1 (ats eI nms 0) t2)))
  (hy:ys.length=n) (hn:nms.length=n):Sr w ((SC.ptr (i,0,0) 0).den E) ys nms (E.ρ (i+3,0,0)):=by
 obtain ⟨H,hH,_⟩:=hs.mem
 have hat:atN S.own (i,0,0)=some (.bk [.sl (i+1,0,0) 9 0 n none,.sl (i+2,0,0) 1 0 n none,.mp (i+3,0,0)] ty):=by simp [atN,h0,Fm.get]
 have hc:=bk_cell hH hat
 refine ⟨⟨E.ρ (i,0,0),0,(SC.sl (i+1,0,0) 9 0 n none).den E,(SC.sl (i+2,0,0) 1 0 n none).den E,by simp [SC.den],?_,?_,?_,?_,?_⟩⟩
 ·rw [hc];rfl
 ·rw [hc];rfl
 ·rw [hc];simp [SC.den]
 ·exact arr_own (d:=cl0) hs (i+1) n n _ h1 hy.symm (by omega) fun e he=>rfl
 ·exact arr_own (d:=0) hs (i+2) n n _ h2 hn.symm (by omega) fun e he=>rfl
def ir28:IR:=(.seq (.ops [⟨(some 2),(.mv (.k (.c (.v (.int .i64 0))))),none⟩,⟨(some 3),(.mv (.k (.c (.v (.int .i64 0))))),none⟩]) (.kill [1,2,3,4,5,6,7,8,9,10,11] (.seq (.ops [⟨(some 7),(.mv (.t 0)),none⟩,⟨(some 8),(.call 49 [(.t 7)]),none⟩,⟨(some 6),(.mv (.t 8)),none⟩,⟨(some 9),(.ext 0 (.t 6)),none⟩,⟨(some 10),(.ext 1 (.t 6)),none⟩,⟨(some 4),(.mv (.t 9)),none⟩,⟨(some 5),(.mv (.t 10)),none⟩]) (.kill [0,6,7,8,9,10] (.seq (.seq (.ops [⟨(some 11),(.mv (.t 5)),none⟩,⟨(some 12),(.bin .neq (.t 11) (.k (.c (.v (.int .i64 0))))),none⟩]) (.kill [11] (.cond (.t 12) (.seq (.ops [⟨(some 13),(.mv (.t 5)),none⟩,⟨(some 2),(.mv (.k (.c (.v (.int .i64 0))))),none⟩,⟨(some 3),(.mv (.t 13)),none⟩]) (.kill [4,5,12,13] .ret)) .skip))) (.kill [2,3,5,12] (.seq (.ops [⟨(some 14),(.mv (.t 4)),none⟩,⟨(some 15),(.build [(.v (.slice none 0 0)),(.v (.slice none 0 0)),(.v (.slice none 0 0)),(.v (.slice none 0 0)),(.v (.slice none 0 0))] []),none⟩,⟨(some 16),(.call 53 [(.t 14),(.k (.c (.v (.slice none 0 0)))),(.t 15)]),none⟩,⟨(some 2),(.mv (.t 16)),none⟩,⟨(some 3),(.mv (.k (.c (.v (.int .i64 0))))),none⟩]) (.kill [4,14,15,16] .ret))))))))
def rs28:List RS:=[(.t 2),(.t 3)]
def nt28:Nat:=17
def ir26:IR:=(.seq (.ops [⟨(some 2),(.mv (.k (.c (.v (.slice none 0 0))))),none⟩,⟨(some 3),(.mv (.k (.c (.v (.int .i64 0))))),none⟩]) (.kill [1,2,3,4,5,6,7,8,9,10,11] (.seq (.ops [⟨(some 12),(.mv (.t 0)),none⟩,⟨(some 13),(.call 49 [(.t 12)]),none⟩,⟨(some 11),(.mv (.t 13)),none⟩,⟨(some 14),(.ext 0 (.t 11)),none⟩,⟨(some 15),(.ext 1 (.t 11)),none⟩,⟨(some 4),(.mv (.t 14)),none⟩,⟨(some 5),(.mv (.t 15)),none⟩]) (.kill [0,11,12,13,14,15] (.seq (.seq (.ops [⟨(some 16),(.mv (.t 5)),none⟩,⟨(some 17),(.bin .neq (.t 16) (.k (.c (.v (.int .i64 0))))),none⟩]) (.kill [16] (.cond (.t 17) (.seq (.ops [⟨(some 18),(.mv (.t 5)),none⟩,⟨(some 2),(.mv (.k (.c (.v (.slice none 0 0))))),none⟩,⟨(some 3),(.mv (.t 18)),none⟩]) (.kill [4,5,17,18] .ret)) .skip))) (.kill [2,3,5,17] (.seq (.ops [⟨(some 20),(.mv (.t 4)),none⟩,⟨(some 21),(.build [(.v (.slice none 0 0)),(.v (.slice none 0 0)),(.v (.slice none 0 0)),(.v (.slice none 0 0)),(.v (.slice none 0 0))] []),none⟩,⟨(some 22),(.call 50 [(.t 20),(.k (.c (.v (.slice none 0 0)))),(.t 21)]),none⟩,⟨(some 19),(.mv (.t 22)),none⟩,⟨(some 23),(.ext 0 (.t 19)),none⟩,⟨(some 24),(.ext 1 (.t 19)),none⟩,⟨(some 6),(.mv (.t 23)),none⟩,⟨(some 7),(.mv (.t 24)),none⟩]) (.kill [19,20,21,22,23,24] (.seq (.seq (.ops [⟨(some 25),(.mv (.t 7)),none⟩,⟨(some 26),(.un .not (.t 25)),none⟩]) (.kill [7,25] (.cond (.t 26) (.seq (.ops [⟨(some 2),(.mv (.k (.c (.v (.slice none 0 0))))),none⟩,⟨(some 3),(.mv (.k (.c (.v (.int .i64 124))))),none⟩]) (.kill [4,6,26] .ret)) .skip))) (.kill [2,3,26] (.seq (.ops [⟨(some 8),(.mv (.k (.c (.v (.slice none 0 0))))),none⟩]) (.seq (.seq (.ops [⟨(some 27),(.mv (.t 6)),none⟩,⟨(some 28),(.len (.t 27)),none⟩,⟨(some 29),(.mv (.k (.c (.v (.int .i64 0))))),none⟩]) (.kill [6] (.blk 0 (.loop (.seq (.ops [⟨(some 30),(.bin .lss (.t 29) (.t 28)),none⟩]) (.kill [10,31,32,33,34,35,36,37,38,39,40,41,42,43] (.seq (.cond (.t 30) .skip (.exit 0)) (.kill [30] (.seq (.blk 1 (.seq (.ops [⟨(some 31),(.ia 1 (.t 27) (.t 29)),none⟩,⟨(some 32),(.ld false 1 (.t 31)),none⟩,⟨(some 10),(.mv (.t 32)),none⟩]) (.kill [31,32] (.ops [⟨(some 33),(.mv (.t 8)),none⟩,⟨(some 34),(.mv (.t 4)),none⟩,⟨(some 35),(.nilck (.t 34)),none⟩,⟨(some 36),(.fa 1 (.t 35)),none⟩,⟨(some 37),(.ld false 1 (.t 36)),none⟩,⟨(some 38),(.mv (.t 10)),none⟩,⟨(some 39),(.ia 1 (.t 37) (.t 38)),none⟩,⟨(some 40),(.ld false 1 (.t 39)),none⟩,⟨(some 41),(.mkSl 3 1 1 [(.v (.int .i64 0))] [(0,(1,(.t 40)))]),none⟩,⟨(some 42),(.app 3 1 8 [(.v (.int .i64 0))] (.t 33) (.t 41)),none⟩,⟨(some 8),(.mv (.t 42)),none⟩])))) (.kill [10,31,32,33,34,35,36,37,38,39,40,41,42] (.ops [⟨(some 43),(.bin .add (.t 29) (.k (.c (.v (.int .i64 1))))),none⟩,⟨(some 29),(.mv (.t 43)),none⟩]))))))))))) (.kill [4,10,27,28,29,30,31,32,33,34,35,36,37,38,39,40,41,42,43] (.seq (.ops [⟨(some 44),(.mv (.t 8)),none⟩,⟨(some 2),(.mv (.t 44)),none⟩,⟨(some 3),(.mv (.k (.c (.v (.int .i64 0))))),none⟩]) (.kill [8,44] .ret)))))))))))))))
def rs26:List RS:=[(.t 2),(.t 3)]
def nt26:Nat:=45
set_option maxRecDepth 100000 in
set_option maxHeartbeats 400000 in
theorem countW_calls (w:World) (v:Value) (xs:List Cl) (hsz:xs.length * 72≤140737488355328) (h:Arr w Cl.enc 9 v xs):Calls Try.prog 28 #[v] w (RetV w (.tuple #[.int .i64 (cntW xs),.int .i64 (nsE xs)])):=by
 refine enter1 (A:=[]) (c:=ir28) (rs:=rs28) (nt:=nt28) cl0 cl_ok h [.c (.xv (0,0,0))] _ Try.func28 rfl (by kernel_rfl) (by kernel_rfl) rfl (fun E' h0=>by simp [SV.den,SC.den,h0]) (of_decide_eq_true rfl) ?_
 simp (maxSteps:=2000000) only [ir28,nt28,rs28,go_sem,↓reduceIte,Nat.reduceLT,Nat.reduceLeDiff,Nat.reduceAdd,Nat.reduceSub,Nat.reduceMul,Nat.reduceEqDiff,reduceCtorEq,Int.reduceToNat,Int.reduceEq,Int.reduceBEq,Int.reduceBNe,Int.reduceLT,Int.reduceLE,Int.reduceNeg,Int.reduceAdd,Int.reduceSub,Int.reduceMul,Int.reduceGE,Int.reduceGT,Cl.enc,iv,endO]
 by_cases he:nsE xs=0
 ·refine callN 4 (nsT 0) (nsO xs) (fun E a w' hs=>newSearch_ok w' _ xs hsz he (arr_at (d:=cl0) hs 0 rfl)) ?_
  simp (maxSteps:=2000000) only [go_sem,↓reduceIte,Nat.reduceLT,Nat.reduceLeDiff,Nat.reduceAdd,Nat.reduceSub,Nat.reduceMul,Nat.reduceEqDiff,reduceCtorEq,Int.reduceToNat,Int.reduceEq,Int.reduceBEq,Int.reduceBNe,Int.reduceLT,Int.reduceLE,Int.reduceNeg,Int.reduceAdd,Int.reduceSub,Int.reduceMul,Int.reduceGE,Int.reduceGT,Cl.enc,iv,endO,nsT,nsO]
  have h8:=nsE_0 he
  refine callV (.c (.v (.int .i64 ((allY xs).length:Nat)))) _ (fun E=>rfl) (fun E a w' hs=>by
   have hsr:=sr_own (ys:=cyA xs) (nms:=oI (nmA xs)) hs (i:=1) rfl _ _ rfl rfl rfl (by rw [oI_len];exact (cyA_len xs).symm)
   have:=count_calls 9 w' _ (.slice none 0 0) _ (cyA xs) (oI (nmA xs)) _ [] mc0 (by omega) h8 (cyA_op xs) hsr (Arr.nil _ _ _) (cont_0 w') mc0_may (by simp [MC.upto,mc0]) (by simp;omega) List.nodup_nil (fun i hi=>by cases hi)
   show Calls Try.prog _ _ _ _
   simpa [SV.den,SC.den,allY] using this) ?_
  simp (maxSteps:=2000000) only [go_sem,↓reduceIte,Nat.reduceLT,Nat.reduceLeDiff,Nat.reduceAdd,Nat.reduceSub,Nat.reduceMul,Nat.reduceEqDiff,reduceCtorEq,Int.reduceToNat,Int.reduceEq,Int.reduceBEq,Int.reduceBNe,Int.reduceLT,Int.reduceLE,Int.reduceNeg,Int.reduceAdd,Int.reduceSub,Int.reduceMul,Int.reduceGE,Int.reduceGT,Cl.enc,iv,endO]
  exact retV fun E=>by simp [SV.den,den1,SC.den,cntW,he]
 ·refine callV (.tup [(false,[.v (.pointer none)]),(false,[.v (.int .i64 (nsE xs))])]) _ (fun E=>rfl) (fun E a w' hs=>newSearch_no w' _ xs hsz he (arr_at (d:=cl0) hs 0 rfl)) ?_
  simp (maxSteps:=2000000) only [go_sem,↓reduceIte,Nat.reduceLT,Nat.reduceLeDiff,Nat.reduceAdd,Nat.reduceSub,Nat.reduceMul,Nat.reduceEqDiff,reduceCtorEq,Int.reduceToNat,Int.reduceEq,Int.reduceBEq,Int.reduceBNe,Int.reduceLT,Int.reduceLE,Int.reduceNeg,Int.reduceAdd,Int.reduceSub,Int.reduceMul,Int.reduceGE,Int.reduceGT,Cl.enc,iv,endO]
  refine both (fun hb=>?_) (fun hb=>?_)
  ·exact retV fun E=>by simp [SV.den,den1,SC.den,cntW,he]
  ·simp at hb;exact absurd hb he
theorem cr_lsC {C:Ctx} {S:St} {f:Nat} {vs:List SV} {u:Value} {r:Option (List Nat)} {g g' : Mem} (h9:look S.own 9=some (.one (.mp (.arr 8 .i8) .i64 g))) (hr:r.isSome=true)
  (hc:∀ E a w,Sat C.B C.W C.w0 E S a w→Calls C.P f (vs.map (SV.den E)).toArray w (LsP w (E.ρ (9,0,0)) u true r g')):CR C f vs S [9] (.tup [(false,[.v u]),(false,[.v (.bool true)])]) 0 [(9,.one (.mp (.arr 8 .i8) .i64 g'))] []:=by
 intro E a w hs
 refine (hc E a w hs).mono ?_
 rintro e w' ⟨v,rfl,hb,hm,hv,_⟩
 refine ⟨_,rfl,E,hs.one,fun E2 hs2 hk _=>⟨?_,?_⟩⟩
 ·rw [hv rfl,hr]
  simp only [SV.den,den1,List.map_cons,List.map_nil,SC.den]
 ·have e9:=(hk (9,0,0) (by simp)).1
  exact fits_map h9 (by rw [e9];exact hb) (by rw [e9];exact hm) fun w'' _ x A hA=>(atN_nil hA).elim
theorem hY_ended (ys:List Cl):∀ i j,(hY ys).ah i j=true→(hY ys).ended i=true:=fun i j h=>by
 simp only [hY,aheadB] at h ⊢
 split at h
 ·assumption
 ·cases h
theorem closed_nil {σ:Type} {h:Hist σ} {cand:List Nat}:h.Closed cand []:=fun i hi=>by cases hi
theorem lst_all {xs:List Cl} (h8:(cyA xs).length≤8):((hY (cyA xs)).lstF (cY (cyA xs)) wrM 9 [] mc0 fun _=>none).1=(allY xs).head? :=
 (lstF_ok wrM (by simpa [cY] using h8) (hY_ended _) 9 [] mc0 _ (Hist.Pre.nil mc0) closed_nil (by simp [cY];omega) (inv_nil (s0:=mc0))).1
theorem all_expl {xs:List Cl} (h8:(cyA xs).length≤8) {x:List Nat}:x∈allY xs↔(hY (cyA xs)).Expl (cY (cyA xs)) mc0 x:=by
 unfold allY
 rw [srch_eq (hY_ended _) 9 [] mc0 (Hist.Pre.nil mc0) closed_nil (by simp [cY];omega),mem_srchR 9 [] mc0 (Hist.Pre.nil mc0) (by simp [cY];omega)]
 exact ⟨fun h=>h.1,fun h=>⟨h,List.nil_prefix⟩⟩
theorem head_mem {α:Type} {l:List α} {x:α} (h:l.head? = some x):x∈l:=by
 cases l with
 | nil=>cases h
 | cons a l=>simp at h;simp [h]
set_option maxRecDepth 100000 in
set_option maxHeartbeats 400000 in
theorem find_calls (w:World) (v:Value) (xs:List Cl) (hsz:xs.length * 72≤140737488355328) (h:Arr w Cl.enc 9 v xs):Calls Try.prog 26 #[v] w (RetN w 1 (leT 1 (findL xs).length (findE xs)) (lsO 3 1 eI (findL xs) 0)):=by
 refine enter1 (A:=[]) (c:=ir26) (rs:=rs26) (nt:=nt26) cl0 cl_ok h [.c (.xv (0,0,0))] _ Try.func26 rfl (by kernel_rfl) (by kernel_rfl) rfl (fun E' h0=>by simp [SV.den,SC.den,h0]) (of_decide_eq_true rfl) ?_
 simp (maxSteps:=2000000) only [ir26,nt26,rs26,go_sem,↓reduceIte,Nat.reduceLT,Nat.reduceLeDiff,Nat.reduceAdd,Nat.reduceSub,Nat.reduceMul,Nat.reduceEqDiff,reduceCtorEq,Int.reduceToNat,Int.reduceEq,Int.reduceBEq,Int.reduceBNe,Int.reduceLT,Int.reduceLE,Int.reduceNeg,Int.reduceAdd,Int.reduceSub,Int.reduceMul,Int.reduceGE,Int.reduceGT,Cl.enc,iv,endO]
 by_cases he:nsE xs=0
 ·refine call_nid 6 (by decide) ?_
  refine callN 4 (nsT 0) (nsO xs) (fun E a w' hs=>newSearch_ok w' _ xs hsz he (arr_at (d:=cl0) hs 0 rfl)) ?_
  simp (maxSteps:=2000000) only [go_sem,↓reduceIte,Nat.reduceLT,Nat.reduceLeDiff,Nat.reduceAdd,Nat.reduceSub,Nat.reduceMul,Nat.reduceEqDiff,reduceCtorEq,Int.reduceToNat,Int.reduceEq,Int.reduceBEq,Int.reduceBNe,Int.reduceLT,Int.reduceLE,Int.reduceNeg,Int.reduceAdd,Int.reduceSub,Int.reduceMul,Int.reduceGE,Int.reduceGT,Cl.enc,iv,endO,nsT,nsO]
  have h8:=nsE_0 he
  have hl9:=cyA_len xs
  have hls:=lst_all h8
  have hex:=fun x=>all_expl (x:=x) h8
  have hlc:∀ {C:Ctx} {E:Env} {S:St} {a:Act} {w' : World},Sat C.B C.W C.w0 E S a w'→look S.own 6=some (.one (.bk [.sl (7,0,0) 9 0 (cys xs xs.length).length none,.sl (8,0,0) 1 0 (cys xs xs.length).length none,.mp (9,0,0)] 83))→look S.own 7=some (.one (.ar (cys xs xs.length).length 9 (ats Cl.enc (cys xs xs.length) cl0) 53))→look S.own 8=some (.one (.ar (cys xs xs.length).length 1 (ats eI (oI (cidx xs xs.length)) 0) 3))→look S.own 9=some (.one (.mp (.arr 8 .i8) .i64 fun _=>none)) →
    Calls Try.prog 50 #[(SC.ptr (6,0,0) 0).den E,.slice none 0 0,.agg #[.slice none 0 0,.slice none 0 0,.slice none 0 0,.slice none 0 0,.slice none 0 0]] w' (LsP w' (E.ρ (9,0,0)) (.slice none 0 0) ((hY (cyA xs)).whole (cY (cyA xs)) []) ((hY (cyA xs)).lstF (cY (cyA xs)) wrM 9 [] mc0 fun _=>none).1 ((hY (cyA xs)).lstF (cY (cyA xs)) wrM 9 [] mc0 fun _=>none).2):=fun {C E S a w'} hs l6 l7 l8 l9=>by
   have hsr:=sr_own (ys:=cyA xs) (nms:=oI (nmA xs)) hs (i:=6) l6 _ _ l7 l8 rfl (by rw [oI_len];exact (cyA_len xs).symm)
   exact least_calls 9 w' _ (.slice none 0 0) _ (cyA xs) (oI (nmA xs)) _ [] mc0 _ (by omega) h8 (cyA_op xs) hsr (map_at hs l9).1 (Arr.nil _ _ _) (cont_0 w') mc0_may (by simp [MC.upto,mc0]) (by simp;omega) List.nodup_nil (fun i hi=>by cases hi)
  by_cases hw:(hY (cyA xs)).whole (cY (cyA xs)) []=true
  ·have hlk:(hY (cyA xs)).lstF (cY (cyA xs)) wrM 9 [] mc0 (fun _=>none)=(some [],fun _=>none):=by rw [lstY_succ,if_pos hw]
   rw [hlk] at hls hlc
   rw [hw] at hlc
   refine call_intro (cr_lsC (u:=.slice none 0 0) (r:=some []) (g':=fun _=>none) rfl rfl (fun E a w' hs=>by
    have:=hlc hs rfl rfl rfl rfl
    show Calls Try.prog _ _ _ _
    simpa [SV.den,SC.den] using this)) (fun k hk=>by rw [List.mem_singleton] at hk;subst hk;exact Nat.lt_succ_self 9) ?_
   simp (maxSteps:=2000000) only [go_sem,↓reduceIte,Nat.reduceLT,Nat.reduceLeDiff,Nat.reduceAdd,Nat.reduceSub,Nat.reduceMul,Nat.reduceEqDiff,reduceCtorEq,Int.reduceToNat,Int.reduceEq,Int.reduceBEq,Int.reduceBNe,Int.reduceLT,Int.reduceLE,Int.reduceNeg,Int.reduceAdd,Int.reduceSub,Int.reduceMul,Int.reduceGE,Int.reduceGT,Cl.enc,iv,endO]
   refine loop_unr 1 ?_
   intro ι I μ i hb
   simp (maxSteps:=2000000) only [go_sem,↓reduceIte,Nat.reduceLT,Nat.reduceLeDiff,Nat.reduceAdd,Nat.reduceSub,Nat.reduceMul,Nat.reduceEqDiff,reduceCtorEq,Int.reduceToNat,Int.reduceEq,Int.reduceBEq,Int.reduceBNe,Int.reduceLT,Int.reduceLE,Int.reduceNeg,Int.reduceAdd,Int.reduceSub,Int.reduceMul,Int.reduceGE,Int.reduceGT,Cl.enc,iv,endO]
   have e1:findL xs=[]:=by unfold findL;rw [if_pos he,← hls];rfl
   have e2:findE xs=0:=by unfold findE;rw [if_pos he,← hls];rfl
   rw [e1,e2]
   exact retNE
  ·have hw:(hY (cyA xs)).whole (cY (cyA xs)) []=false:=by simpa using hw
   rw [hw] at hlc
   generalize (hY (cyA xs)).lstF (cY (cyA xs)) wrM 9 [] mc0 (fun _=>none)=p at hls hlc
   obtain ⟨r,f2⟩:=p
   simp only at hls hlc
   refine call_intro (cr_lsF (r:=r) (g':=f2) (vo:=fun _=>.slice none 0 0) rfl (fun E a w' hs=>by
    have:=hlc hs rfl rfl rfl rfl
    show Calls Try.prog _ _ _ _
    simpa [SV.den,SC.den] using this)) (fun k hk=>by rw [List.mem_singleton] at hk;subst hk;exact Nat.lt_succ_self 9) ?_
   cases r with
   | none =>
    simp (maxSteps:=2000000) only [go_sem,↓reduceIte,Nat.reduceLT,Nat.reduceLeDiff,Nat.reduceAdd,Nat.reduceSub,Nat.reduceMul,Nat.reduceEqDiff,reduceCtorEq,Int.reduceToNat,Int.reduceEq,Int.reduceBEq,Int.reduceBNe,Int.reduceLT,Int.reduceLE,Int.reduceNeg,Int.reduceAdd,Int.reduceSub,Int.reduceMul,Int.reduceGE,Int.reduceGT,Cl.enc,iv,endO,mkC_B,Option.isSome_none,Option.getD_none]
    have e1:findL xs=[]:=by unfold findL;rw [if_pos he,← hls]
    have e2:findE xs=124:=by unfold findE;rw [if_pos he,← hls];rfl
    rw [e1,e2]
    exact retNE
   | some x =>
    simp (maxSteps:=2000000) only [go_sem,↓reduceIte,Nat.reduceLT,Nat.reduceLeDiff,Nat.reduceAdd,Nat.reduceSub,Nat.reduceMul,Nat.reduceEqDiff,reduceCtorEq,Int.reduceToNat,Int.reduceEq,Int.reduceBEq,Int.reduceBNe,Int.reduceLT,Int.reduceLE,Int.reduceNeg,Int.reduceAdd,Int.reduceSub,Int.reduceMul,Int.reduceGE,Int.reduceGT,Cl.enc,iv,endO,mkC_B,Option.isSome_some,Option.getD_some]
    have e1:findL xs=nmL xs x:=by unfold findL;rw [if_pos he,← hls]
    have e2:findE xs=0:=by unfold findE;rw [if_pos he,← hls];rfl
    rw [e1,e2]
    have hx:=(hex x).1 (head_mem hls.symm)
    have hxn:∀ i∈x,i<(nmA xs).length:=fun i hi=>by
     have:=hx.sub i hi
     rw [← hl9]
     simpa [cY] using this
    have hx8:x.length≤(nmA xs).length:=o_len hx.nodup hxn
    have hol:=oI_len x
    have hcl:(cys xs xs.length).length=(nmA xs).length:=cys_len xs xs.length
    refine loopI (ι:={ i:Nat // i≤x.length }) (fun i=>⟨45,[(4,.c (.ptr (6,0,0) 0)),(8,.c (.sl (11,0,0) 1 0 i.1 none)),(27,.c (.xv (10,0,0))),(28,.c (.v (.int .i64 (oI x).length))),(29,.c (.v (.int .i64 (i.1:Nat))))],
     [(6,.one (.bk [.sl (7,0,0) 9 0 (cys xs xs.length).length none,.sl (8,0,0) 1 0 (cys xs xs.length).length none,.mp (9,0,0)] 83)),(8,.one (.ar (cys xs xs.length).length 1 (ats eI (oI (cidx xs xs.length)) 0) 3)),(11,.one (.ar i.1 1 (ats eI (nmL xs (x.take i.1)) 0) 3))],[(10,.one (arrOf eI 1 (oI x) 0))],[],12⟩)
     (fun i=>x.length - i.1) ⟨0,by omega⟩ ?_ ?_
    ·refine le_tr (le_nilown (tmps':=[(4,.c (.ptr (6,0,0) 0)),(8,.c (.sl (11,0,0) 1 0 0 none)),(27,.c (.xv (10,0,0))),(28,.c (.v (.int .i64 (oI x).length))),(29,.c (.v (.int .i64 0)))]) 1 3 (ats eI [] 0) (by simp [TmpsNil,look]) rfl) ?_
     exact le_ren id rfl rfl (by simp [TmpsLe,look,SV.ren,SC.ren,SC.renL,ren1L,ren1,idσ,SV.okN,SC.okN,SC.okL,ok1L]) (by simp [OwnLe,BlkLeO,BlkLe,atN,look,Fm.get,idσ,SC.renL,SC.ren,SC.okL,SC.okN,ren_ats,ok_ats,renL_v,okL_v]) (by simp [ArrsLe,ArrLeO,atN,look,Fm.get,idσ,arrLe_of,arrLe_0]) rfl
    rintro ⟨i,hi⟩
    simp (maxSteps:=2000000) only [go_sem,↓reduceIte,Nat.reduceLT,Nat.reduceLeDiff,Nat.reduceAdd,Nat.reduceSub,Nat.reduceMul,Nat.reduceEqDiff,reduceCtorEq,Int.reduceToNat,Int.reduceEq,Int.reduceBEq,Int.reduceBNe,Int.reduceLT,Int.reduceLE,Int.reduceNeg,Int.reduceAdd,Int.reduceSub,Int.reduceMul,Int.reduceGE,Int.reduceGT,Cl.enc,iv,endO,eI,ats]
    refine both (fun hlt=>?_) (fun hge=>?_)
    ·rw [decide_eq_true_eq] at hlt
     have hlt:i<x.length:=by omega
     have hxi:(oI x).getD i 0=((x.getD i 0:Nat):Int):=by simp [oI,List.getD_eq_getElem?_getD,List.getElem?_eq_getElem hlt]
     have hxm:=hxn _ (getD_mem (d:=0) hlt)
     simp (maxSteps:=2000000) only [hxi,Int.toNat_natCast]
     have hf8:=fit_app8 (i+1) (by omega)
     have hml:i+1≤maxLen:=by simp only [maxLen];omega
     have hone:1≤maxLen:=by decide
     refine And.intro (by omega) (And.intro (by omega) (And.intro ⟨by omega,by omega,Nat.le_refl _⟩ (And.intro (by omega) (And.intro hone (And.intro ⟨Nat.le_refl _,hf8,hml⟩ ?_)))))
     clear hf8 hml hone
     have hnx:(oI (cidx xs xs.length)).getD (x.getD i 0) 0=(((nmA xs).getD (x.getD i 0) 0:Nat):Int):=by
      simp only [nmA] at hxm ⊢
      generalize x.getD i 0=q at hxm ⊢
      rw [List.getD_eq_getElem?_getD,List.getD_eq_getElem?_getD,oI,List.getElem?_map,List.getElem?_eq_getElem hxm]
      rfl
     have hpush:nmL xs (x.take (i+1))=nmL xs (x.take i)++[(((nmA xs).getD (x.getD i 0) 0:Nat):Int)]:=by
      rw [List.take_succ_eq_append_getElem hlt,nmL,List.map_append,oI,List.map_append]
      simp [nmL,oI,List.getD_eq_getElem?_getD,List.getElem?_eq_getElem hlt]
     have hli:i=(nmL xs (x.take i)).length:=by simp [nmL,oI];omega
     rw [wr_succ (by omega)]
     refine backI ⟨i+1,by omega⟩ (by simp only;omega) (le_ren (fun k=>if k=11 then 13 else k) rfl rfl (by simp [TmpsLe,look,SV.ren,SC.ren,SC.renL,ren1L,ren1,idσ,SV.okN,SC.okN,SC.okL,ok1L]) ⟨⟨of_decide_eq_true rfl,by simp [BlkLeO,BlkLe,atN,look,Fm.get,idσ,SC.renL,SC.ren,SC.okL,SC.okN]⟩,⟨of_decide_eq_true rfl,by simp [BlkLeO,BlkLe,atN,look,Fm.get,idσ,ren_ats,ok_ats,ats,renL_v,okL_v]⟩,
      ⟨of_decide_eq_true rfl,?_⟩,trivial⟩ (by simp [ArrsLe,ArrLeO,atN,look,Fm.get,idσ,arrLe_of,arrLe_0]) rfl)
     refine ⟨Nat.le_refl _,rfl,rfl,fun e he=>?_⟩
     have he:e<i+1:=he
     have:=ats_push (d:=0) (enc:=eI) hpush hli (f:=ats eI (nmL xs (x.take i)) 0) (g:=fun e=>take' 1 (drop' (e * 1) [.v (.int .i64 ((oI (cidx xs xs.length)).getD (x.getD i 0) 0))])) (fun e he=>rfl) (by rw [hnx];rfl) e (by rw [hpush];simp;omega)
     refine ⟨?_,okL_v _ _⟩
     show _=SC.renL _ ((eI ((nmL xs (x.take (i+1))).getD e 0)).map .v)
     rw [renL_v]
     exact this
    ·rw [decide_eq_false_iff_not] at hge
     have hin:i=x.length:=by omega
     subst hin
     rw [List.take_length]
     have hli:x.length=(nmL xs x).length:=by simp [nmL,oI]
     exact retLE 11 _ _ rfl hli (by omega) (fun e he=>rfl)
 ·refine callV (.tup [(false,[.v (.pointer none)]),(false,[.v (.int .i64 (nsE xs))])]) _ (fun E=>rfl) (fun E a w' hs=>newSearch_no w' _ xs hsz he (arr_at (d:=cl0) hs 0 rfl)) ?_
  simp (maxSteps:=2000000) only [go_sem,↓reduceIte,Nat.reduceLT,Nat.reduceLeDiff,Nat.reduceAdd,Nat.reduceSub,Nat.reduceMul,Nat.reduceEqDiff,reduceCtorEq,Int.reduceToNat,Int.reduceEq,Int.reduceBEq,Int.reduceBNe,Int.reduceLT,Int.reduceLE,Int.reduceNeg,Int.reduceAdd,Int.reduceSub,Int.reduceMul,Int.reduceGE,Int.reduceGT,Cl.enc,iv,endO]
  have e1:findL xs=[]:=by unfold findL;rw [if_neg he]
  have e2:findE xs=nsE xs:=by unfold findE;rw [if_neg he]
  rw [e1,e2]
  refine both (fun hb=>?_) (fun hb=>?_)
  ·exact retNE
  ·simp at hb;exact absurd hb he
end Go.Proofs.Ytkjeedlkkpgopaa.Z
namespace Go.Proofs.Ytkjeedlkkpgopaa.Z
open Go Go.RowKit
theorem nmA_nodup (xs:List Cl):(nmA xs).Nodup:=(List.nodup_range).sublist (List.filter_sublist)
theorem nodup_map {α β:Type} {f:α→β}:∀ {l:List α},(∀ a∈l,∀ b∈l,f a=f b→a=b)→l.Nodup→(l.map f).Nodup
 | [],_,_=>List.nodup_nil
 | a :: l,hi,hn=>by
  rw [List.nodup_cons] at hn
  rw [List.map_cons,List.nodup_cons]
  refine ⟨fun hm=>?_,nodup_map (fun a ha b hb=>hi a (by simp [ha]) b (by simp [hb])) hn.2⟩
  obtain ⟨b,hb,h⟩:=List.mem_map.1 hm
  exact hn.1 ((hi b (by simp [hb]) a (by simp) h) ▸ hb)
end Go.Proofs.Ytkjeedlkkpgopaa.Z
namespace Go.Proofs.Ytkjeedlkkpgopaa.Z
open Go Go.RowKit
theorem getD_lt {xs:List Cl} {i:Nat} (h:i<xs.length):xs.getD i cl0=xs[i]:=by rw [List.getD_eq_getElem?_getD,List.getElem?_eq_getElem h];rfl
theorem range_getD (xs:List Cl):(List.range xs.length).map (fun i=>xs.getD i cl0)=xs:=by
 apply List.ext_getElem
 ·simp
 ·intro i h1 h2
  rw [List.getElem_map,List.getElem_range,getD_lt h2]
def idxP (xs:List Cl) (p:Cl→Bool):List Nat:=(List.range xs.length).filter fun i=>p (xs.getD i cl0)
theorem idxP_map (xs:List Cl) (p:Cl→Bool):(idxP xs p).map (fun i=>xs.getD i cl0)=xs.filter p:=by
 have:=List.filter_map (f:=fun i=>xs.getD i cl0) (p:=p) (l:=List.range xs.length)
 rw [range_getD] at this
 rw [this];rfl
theorem cyA_eq (xs:List Cl):cyA xs=xs.filter cntB:=idxP_map xs cntB
end Go.Proofs.Ytkjeedlkkpgopaa.Z
namespace Go.Proofs.Ytkjeedlkkpgopaa.Z
open Go Go.RowKit
def srX (xs:List Cl) (k:Nat) (o:List Nat) (m:MC):List (List Nat):=(hY xs).srch (nmA xs) (hY xs).nextR k o m
theorem idx_nm (xs:List Cl):idxP xs cntB=nmA xs:=rfl
theorem srX_all {xs:List Cl} (h8:(nmA xs).length≤8):srX xs 9 [] mc0=(allY xs).map (List.map fun i=>(nmA xs).getD i 0):=by
 have hl:(cyA xs).length=(nmA xs).length:=cyA_len xs
 have hg:∀ i,(cyA xs).getD i cl0=xs.getD ((nmA xs).getD i xs.length) cl0:=fun i=>by
  rw [cyA_eq,← idxP_map,idx_nm,List.getD_eq_getElem?_getD,List.getElem?_map]
  by_cases hi:i<(nmA xs).length
  ·rw [List.getElem?_eq_getElem hi,List.getD_eq_getElem?_getD (l:=nmA xs),List.getElem?_eq_getElem hi];rfl
  ·rw [List.getElem?_eq_none (by omega),List.getD_eq_getElem?_getD (l:=nmA xs),List.getElem?_eq_none (by omega),List.getD_eq_getElem?_getD,List.getElem?_eq_none (by simp)];rfl
 have hv:hY (cyA xs)=(hY xs).via fun i=>(nmA xs).getD i xs.length:=by
  simp only [hY,Hist.via,hg]
 have hc:(cY (cyA xs)).map (fun i=>(nmA xs).getD i xs.length)=nmA xs:=by
  apply List.ext_getElem
  ·simp [cY,hl]
  ·intro i h1 h2
   rw [List.getElem_map]
   simp only [cY,List.getElem_range]
   rw [List.getD_eq_getElem?_getD,List.getElem?_eq_getElem h2];rfl
 have hlt:∀ a∈cY (cyA xs),a<(nmA xs).length:=fun a ha=>by simpa [cY,hl] using ha
 have hinj:∀ a∈cY (cyA xs),∀ b∈cY (cyA xs),(nmA xs).getD a xs.length=(nmA xs).getD b xs.length→a=b:=fun a ha b hb hab=>by
  have ha:=hlt a ha
  have hb:=hlt b hb
  rw [List.getD_eq_getElem?_getD,List.getD_eq_getElem?_getD,List.getElem?_eq_getElem ha,List.getElem?_eq_getElem hb] at hab
  exact (List.getElem_inj (nmA_nodup xs)).1 hab
 unfold srX
 rw [← srch_eq (s0:=mc0) (hY_ended xs) 9 [] mc0 (Hist.Pre.nil mc0) closed_nil (by simp;omega)]
 have e2:=srch_via (hY xs) _ (cY (cyA xs)) hinj 9 [] mc0 (fun i hi=>by cases hi)
 rw [hc,List.map_nil,← hv] at e2
 rw [e2]
 refine List.map_congr_left fun x hx=>List.map_congr_left fun i hi=>?_
 have h2:=hlt i (((all_expl (xs:=xs) (by omega)).1 hx).sub i hi)
 rw [List.getD_eq_getElem?_getD,List.getD_eq_getElem?_getD,List.getElem?_eq_getElem h2];rfl
theorem flat_filter {α β:Type} (p:α→Bool) (f:α→List β):∀ l:List α,(l.filter p).flatMap f=l.flatMap fun i=>if p i=true then f i else []
 | []=>rfl
 | a :: l=>by
  rw [List.filter_cons,List.flatMap_cons,← flat_filter p f l]
  split
  ·rw [List.flatMap_cons]
  ·rfl
def sgX (xs:List Cl) (k:Nat) (o:List Nat) (m:MC) (n:Nat):List (List Nat):=(List.range n).flatMap fun i=>if (cntB (xs.getD i cl0) && (hY xs).nextR o i)=true then (if ((hY xs).al m i).2=true then srX xs k (o++[i]) ((hY xs).al m i).1 else []) else []
theorem sgX_succ (xs:List Cl) (k:Nat) (o:List Nat) (m:MC) (n:Nat):sgX xs k o m (n+1)=sgX xs k o m n++if (cntB (xs.getD n cl0) && (hY xs).nextR o n)=true then (if ((hY xs).al m n).2=true then srX xs k (o++[n]) ((hY xs).al m n).1 else []) else []:=by
 simp [sgX,List.range_succ,List.flatMap_append]
theorem srX_succ (xs:List Cl) (k:Nat) (o:List Nat) (m:MC):srX xs (k+1) o m=(if (hY xs).whole (nmA xs) o=true then [o] else [])++sgX xs k o m xs.length:=by
 unfold srX sgX
 simp only [Hist.srch]
 congr 1
 show ((List.range xs.length).filter fun i=>cntB (xs.getD i cl0)).flatMap _=_
 rw [flat_filter]
 refine congrArg List.flatten (List.map_congr_left fun i _=>?_)
 cases cntB (xs.getD i cl0) <;> cases (hY xs).nextR o i <;> cases ((hY xs).al m i).2 <;> rfl
theorem sgX_mono (xs:List Cl) (k:Nat) (o:List Nat) (m:MC) {n n' : Nat} (h:n≤n'):(sgX xs k o m n).length≤(sgX xs k o m n').length:=by
 induction h with
 | refl=>exact Nat.le_refl _
 | step _ ih=>rw [sgX_succ,List.length_append];omega
theorem srX_len (xs:List Cl) (h8:(nmA xs).length≤8) (k:Nat) (o:List Nat) (m:MC):(srX xs k o m).length≤bnd k:=srch_len (hY xs) _ h8 k o m
theorem sgX_len (xs:List Cl) (h8:(nmA xs).length≤8) (k:Nat) (o:List Nat) (m:MC) {n:Nat} (hn:n≤xs.length):(sgX xs k o m n).length≤bnd (k+1):=by
 have h1:=sgX_mono xs k o m hn
 have h2:=srX_len xs h8 (k+1) o m
 rw [srX_succ,List.length_append] at h2
 omega
theorem iso_whole {xs:List Cl} {o:List Nat} (hn:o.Nodup) (hs:∀ i∈o,i∈nmA xs):pB (IsO xs (oI o))=(hY xs).whole (nmA xs) o:=by
 have key:IsO xs (oI o)↔(hY xs).whole (nmA xs) o=true:=by
  rw [whole_iff]
  constructor
  ·intro h i hi he
   obtain ⟨h1,h2⟩:=nmA_mem hi
   exact mem_oI.1 (h.all i h1 h2 (by simpa [hY] using he))
  ·intro h
   refine ⟨fun n hn'=>?_,nodup_map (fun a _ b _ e=>by omega) hn,fun i hi hc he=>mem_oI.2 (h i (List.mem_filter.2 ⟨List.mem_range.2 hi,hc⟩) (by simpa [hY] using he))⟩
   simp only [oI,List.mem_map] at hn'
   obtain ⟨a,ha,rfl⟩:=hn'
   obtain ⟨h1,h2⟩:=nmA_mem (hs a ha)
   exact ⟨by omega,by omega,by rw [cAt,Int.toNat_natCast];exact h2⟩
 cases hw:(hY xs).whole (nmA xs) o with
 | true=>exact pB_t.2 (key.2 hw)
 | false=>exact pB_f.2 (fun h=>by rw [key.1 h] at hw;cases hw)
def ir70:IR:=(.seq (.ops [⟨(some 6),(.mv (.k (.c (.v (.bool false))))),none⟩]) (.kill [3,4,5,6,7,8,9,10,11] (.seq (.seq (.ops [⟨(some 8),(.mv (.t 0)),none⟩,⟨(some 9),(.mv (.t 2)),none⟩,⟨(some 10),(.ia 9 (.t 8) (.t 9)),none⟩,⟨(some 11),(.ld true 9 (.t 10)),none⟩,⟨(some 12),(.call 45 [(.t 11)]),none⟩,⟨(some 13),(.un .not (.t 12)),none⟩,⟨(some 14),(.mv (.t 13)),none⟩,⟨(some 15),(.mv (.t 1)),(some (14,false))⟩,⟨(some 16),(.mv (.t 2)),(some (14,false))⟩,⟨(some 17),(.call 72 [(.t 15),(.t 16)]),(some (14,false))⟩,⟨(some 18),(.pick (.t 14) (.k (.c (.v (.bool true)))) (.t 17)),none⟩]) (.kill [8,9,10,11,12,13,14,15,16,17] (.cond (.t 18) (.seq (.ops [⟨(some 6),(.mv (.k (.c (.v (.bool false))))),none⟩]) (.kill [0,1,2,18] .ret)) .skip))) (.kill [6,18] (.seq (.seq (.ops [⟨(some 7),(.mv (.k (.c (.v (.int .i64 0))))),none⟩]) (.blk 0 (.loop (.seq (.seq (.ops [⟨(some 19),(.mv (.t 7)),none⟩,⟨(some 20),(.mv (.t 1)),none⟩,⟨(some 21),(.len (.t 20)),none⟩,⟨(some 22),(.bin .lss (.t 19) (.t 21)),none⟩]) (.kill [6,19,20,21,23,24,25,26,27,28,29,30,31] (.cond (.t 22) .skip (.exit 0)))) (.kill [22] (.seq (.blk 1 (.seq (.ops [⟨(some 25),(.mv (.t 0)),none⟩,⟨(some 26),(.mv (.t 2)),none⟩,⟨(some 27),(.mv (.t 1)),none⟩,⟨(some 28),(.mv (.t 7)),none⟩,⟨(some 29),(.ia 1 (.t 27) (.t 28)),none⟩,⟨(some 30),(.ld false 1 (.t 29)),none⟩,⟨(some 31),(.call 41 [(.t 25),(.t 26),(.t 30)]),none⟩]) (.kill [25,26,27,28,29,30] (.cond (.t 31) (.seq (.ops [⟨(some 6),(.mv (.k (.c (.v (.bool false))))),none⟩]) (.kill [0,1,2,7,31] .ret)) .skip)))) (.kill [6,25,26,27,28,29,30,31] (.ops [⟨(some 23),(.mv (.t 7)),none⟩,⟨(some 24),(.bin .add (.t 23) (.k (.c (.v (.int .i64 1))))),none⟩,⟨(some 7),(.mv (.t 24)),none⟩])))))))) (.kill [0,1,2,6,7,19,20,21,22,23,24,25,26,27,28,29,30,31] (.seq (.ops [⟨(some 6),(.mv (.k (.c (.v (.bool true))))),none⟩]) .ret)))))))
def rs70:List RS:=[(.t 6)]
def nt70:Nat:=32
def ir51:IR:=(.seq (.ops [⟨(some 2),(.mv (.k (.c (.v (.bool false))))),none⟩]) (.kill [1,2,3,4,5,6,7,8,9,10,11] (.seq (.ops [⟨(some 3),(.mv (.k (.c (.v (.int .i64 0))))),none⟩]) (.seq (.seq (.ops [⟨(some 4),(.mv (.k (.c (.v (.int .i64 0))))),none⟩]) (.blk 0 (.loop (.seq (.seq (.ops [⟨(some 5),(.mv (.t 4)),none⟩,⟨(some 6),(.mv (.t 0)),none⟩,⟨(some 7),(.len (.t 6)),none⟩,⟨(some 8),(.bin .lss (.t 5) (.t 7)),none⟩]) (.kill [5,6,7,9,10,11,12,13,14,15,16,17] (.cond (.t 8) .skip (.exit 0)))) (.kill [8] (.seq (.blk 1 (.seq (.ops [⟨(some 11),(.mv (.t 0)),none⟩,⟨(some 12),(.mv (.t 4)),none⟩,⟨(some 13),(.ia 9 (.t 11) (.t 12)),none⟩,⟨(some 14),(.ld true 9 (.t 13)),none⟩,⟨(some 15),(.call 45 [(.t 14)]),none⟩]) (.kill [11,12,13,14] (.cond (.t 15) (.ops [⟨(some 16),(.mv (.t 3)),none⟩,⟨(some 17),(.bin .add (.t 16) (.k (.c (.v (.int .i64 1))))),none⟩,⟨(some 3),(.mv (.t 17)),none⟩]) .skip)))) (.kill [11,12,13,14,15,16,17] (.ops [⟨(some 9),(.mv (.t 4)),none⟩,⟨(some 10),(.bin .add (.t 9) (.k (.c (.v (.int .i64 1))))),none⟩,⟨(some 4),(.mv (.t 10)),none⟩])))))))) (.kill [0,4,5,6,7,8,9,10,11,12,13,14,15,16,17] (.seq (.ops [⟨(some 18),(.mv (.t 3)),none⟩,⟨(some 19),(.bin .gtr (.t 18) (.k (.c (.v (.int .i64 8))))),none⟩,⟨(some 2),(.mv (.t 19)),none⟩]) (.kill [3,18,19] .ret)))))))
def rs51:List RS:=[(.t 2)]
def nt51:Nat:=20
set_option maxRecDepth 100000 in
set_option maxHeartbeats 400000 in
theorem rnext_calls (w:World) (v vo:Value) (xs:List Cl) (o:List Nat) (n:Nat) (hn:n<xs.length) (hs:∀ i∈o,i<xs.length) (h:Arr w Cl.enc 9 v xs) (h' : Arr w eI 1 vo (oI o)):Calls Try.prog 70 #[v,vo,.int .i64 (n:Nat)] w (RetV w (.bool (cntB (xs.getD n cl0) && (hY xs).nextR o n))):=by
 have hlen:=Z.Arr.lenM h
 have hlen':=Z.Arr.lenM h'
 simp only [maxLen,oI_len] at hlen hlen'
 have hnx:(hY xs).nextR o n=(!o.contains n && o.all fun x=>!aheadB (xs.getD n cl0) (xs.getD x cl0)):=rfl
 refine enter2 (A:=[]) (c:=ir70) (rs:=rs70) (nt:=nt70) cl0 cl_ok h 0 eI_ok h' [.c (.xv (0,0,0)),.c (.xv (1,0,0)),.c (.v (.int .i64 (n:Nat)))] _ Try.func70 rfl (by kernel_rfl) (by kernel_rfl) rfl (fun E' h0 h1=>by simp [SV.den,SC.den,h0,h1]) (of_decide_eq_true rfl) ?_
 simp (maxSteps:=2000000) only [ir70,nt70,rs70,go_sem,↓reduceIte,Nat.reduceLT,Nat.reduceLeDiff,Nat.reduceAdd,Nat.reduceSub,Nat.reduceMul,Nat.reduceEqDiff,reduceCtorEq,Int.reduceToNat,Int.reduceEq,Int.reduceBEq,Int.reduceBNe,Int.reduceLT,Int.reduceLE,Int.reduceNeg,Int.reduceAdd,Int.reduceSub,Int.reduceMul,Int.reduceGE,Int.reduceGT,Cl.enc,iv,endO]
 refine And.intro (by omega) (And.intro hn ?_)
 refine callV (.c (.bo (cntB (xs.getD n cl0)))) _ (fun E=>rfl) (fun E a w' _=>rcounts_calls w' _) ?_
 simp (maxSteps:=2000000) only [go_sem,↓reduceIte,Nat.reduceLT,Nat.reduceLeDiff,Nat.reduceAdd,Nat.reduceSub,Nat.reduceMul,Nat.reduceEqDiff,reduceCtorEq,Int.reduceToNat,Int.reduceEq,Int.reduceBEq,Int.reduceBNe,Int.reduceLT,Int.reduceLE,Int.reduceNeg,Int.reduceAdd,Int.reduceSub,Int.reduceMul,Int.reduceGE,Int.reduceGT,Cl.enc,iv,endO]
 refine guardW (.c (.bo (o.contains n))) _ (fun E=>rfl) (fun E a w' hs=>by
  have:=has_calls w' _ (oI o) (n:Nat) (arr_at (d:=0) hs 1 rfl)
  rw [dec_oI] at this
  exact this) ?_
 simp (maxSteps:=2000000) only [forkS,go_sem,↓reduceIte,Nat.reduceLT,Nat.reduceLeDiff,Nat.reduceAdd,Nat.reduceSub,Nat.reduceMul,Nat.reduceEqDiff,reduceCtorEq,Int.reduceToNat,Int.reduceEq,Int.reduceBEq,Int.reduceBNe,Int.reduceLT,Int.reduceLE,Int.reduceNeg,Int.reduceAdd,Int.reduceSub,Int.reduceMul,Int.reduceGE,Int.reduceGT,Cl.enc,iv,endO]
 refine both (fun hb=>?_) (fun hb=>?_)
 ·refine retV fun E=>?_
  rw [den_c,den_v,hnx]
  revert hb
  cases cntB (xs.getD n cl0) <;> cases o.contains n <;> intro hb <;> first | rfl | (simp at hb)
 have hb:cntB (xs.getD n cl0)=true∧o.contains n=false:=by
  cases h1:cntB (xs.getD n cl0) <;> cases h2:o.contains n <;> rw [h1,h2] at hb <;> first | exact ⟨rfl,rfl⟩ | (simp at hb)
 rw [hnx,hb.1,hb.2]
 refine loopI (ι:={ i:Nat // i≤o.length∧∀ q,q<i→aheadB (xs.getD n cl0) (xs.getD (o.getD q 0) cl0)=false }) (fun i=>⟨32,[(0,.c (.xv (0,0,0))),(1,.c (.xv (1,0,0))),(2,.c (.v (.int .i64 (n:Nat)))),(7,.c (.v (.int .i64 (i.1:Nat))))],[],[(0,.one (arrOf Cl.enc 9 xs cl0)),(1,.one (arrOf eI 1 (oI o) 0))],[],2⟩)
  (fun i=>o.length - i.1) ⟨0,by omega,fun q hq=>absurd hq (Nat.not_lt_zero q)⟩ (le_tmps (by simp [TmpsSub,look])) ?_
 rintro ⟨i,hi,hg⟩
 simp (maxSteps:=2000000) only [go_sem,↓reduceIte,Nat.reduceLT,Nat.reduceLeDiff,Nat.reduceAdd,Nat.reduceSub,Nat.reduceMul,Nat.reduceEqDiff,reduceCtorEq,Int.reduceToNat,Int.reduceEq,Int.reduceBEq,Int.reduceBNe,Int.reduceLT,Int.reduceLE,Int.reduceNeg,Int.reduceAdd,Int.reduceSub,Int.reduceMul,Int.reduceGE,Int.reduceGT,Cl.enc,iv,endO,eI,oI_len]
 refine both (fun hlt=>?_) (fun hge=>?_)
 ·rw [decide_eq_true_eq] at hlt
  have hlt:i<o.length:=by omega
  have hgo:(oI o).getD i 0=((o.getD i 0:Nat):Int):=by
   rw [List.getD_eq_getElem?_getD,oI,List.getElem?_map,List.getElem?_eq_getElem hlt,List.getD_eq_getElem?_getD,List.getElem?_eq_getElem hlt];rfl
  have hoi:o.getD i 0<xs.length:=hs _ (getD_mem (d:=0) hlt)
  rw [hgo]
  refine And.intro (by omega) (And.intro (by omega) ?_)
  refine callV (.c (.bo (aheadB (xs.getD n cl0) (xs.getD (o.getD i 0) cl0)))) _ (fun E=>rfl) (fun E a w' hs=>by
   have:=rahead_calls w' _ xs (n:Nat) ((o.getD i 0:Nat):Int) (arr_at (d:=cl0) hs 0 rfl) (by omega) (by omega)
   rw [Int.toNat_natCast,Int.toNat_natCast] at this
   exact this) ?_
  simp (maxSteps:=2000000) only [go_sem,↓reduceIte,Nat.reduceLT,Nat.reduceLeDiff,Nat.reduceAdd,Nat.reduceSub,Nat.reduceMul,Nat.reduceEqDiff,reduceCtorEq,Int.reduceToNat,Int.reduceEq,Int.reduceBEq,Int.reduceBNe,Int.reduceLT,Int.reduceLE,Int.reduceNeg,Int.reduceAdd,Int.reduceSub,Int.reduceMul,Int.reduceGE,Int.reduceGT,Cl.enc,iv,endO]
  rw [wr_succ (by omega)]
  refine both (fun ha=>?_) (fun ha=>?_)
  ·refine retV fun E=>?_
   rw [den_c,den_v,Value.bool.injEq,eq_comm]
   rw [List.all_eq_false]
   exact ⟨o.getD i 0,getD_mem (d:=0) hlt,by rw [ha];simp⟩
  ·exact backI ⟨i+1,by omega,fun q hq=>by
    by_cases e:q=i
    ·subst e;exact ha
    ·exact hg q (by omega)⟩ (by simp only;omega) (le_tmps (by simp [TmpsSub,look]))
 ·rw [decide_eq_false_iff_not] at hge
  refine retV fun E=>?_
  rw [den_c,den_v,Value.bool.injEq,eq_comm]
  rw [List.all_eq_true]
  intro x hx
  obtain ⟨q,hq,rfl⟩:=List.mem_iff_getElem.1 hx
  have:=hg q (by omega)
  rw [List.getD_eq_getElem?_getD (l:=o),List.getElem?_eq_getElem hq] at this
  simpa using this
set_option maxRecDepth 100000 in
set_option maxHeartbeats 400000 in
theorem long_calls (w:World) (v:Value) (xs:List Cl) (h:Arr w Cl.enc 9 v xs):Calls Try.prog 51 #[v] w (RetV w (.bool (decide (8<(nmA xs).length)))):=by
 have hlen:=Z.Arr.lenM h
 simp only [maxLen] at hlen
 refine enter1 (A:=[]) (c:=ir51) (rs:=rs51) (nt:=nt51) cl0 cl_ok h [.c (.xv (0,0,0))] _ Try.func51 rfl (by kernel_rfl) (by kernel_rfl) rfl (fun E' h0=>by simp [SV.den,SC.den,h0]) (of_decide_eq_true rfl) ?_
 simp (maxSteps:=2000000) only [ir51,nt51,rs51,go_sem,↓reduceIte,Nat.reduceLT,Nat.reduceLeDiff,Nat.reduceAdd,Nat.reduceSub,Nat.reduceMul,Nat.reduceEqDiff,reduceCtorEq,Int.reduceToNat,Int.reduceEq,Int.reduceBEq,Int.reduceBNe,Int.reduceLT,Int.reduceLE,Int.reduceNeg,Int.reduceAdd,Int.reduceSub,Int.reduceMul,Int.reduceGE,Int.reduceGT,Cl.enc,iv,endO]
 refine loopI (ι:={ i:Nat // i≤xs.length }) (fun i=>⟨20,[(0,.c (.xv (0,0,0))),(3,.c (.v (.int .i64 ((cidx xs i.1).length:Nat)))),(4,.c (.v (.int .i64 (i.1:Nat))))],[],[(0,.one (arrOf Cl.enc 9 xs cl0))],[],1⟩)
  (fun i=>xs.length - i.1) ⟨0,by omega⟩ (le_tmps (by simp [TmpsSub,look,cidx])) ?_
 rintro ⟨i,hi⟩
 simp (maxSteps:=2000000) only [go_sem,↓reduceIte,Nat.reduceLT,Nat.reduceLeDiff,Nat.reduceAdd,Nat.reduceSub,Nat.reduceMul,Nat.reduceEqDiff,reduceCtorEq,Int.reduceToNat,Int.reduceEq,Int.reduceBEq,Int.reduceBNe,Int.reduceLT,Int.reduceLE,Int.reduceNeg,Int.reduceAdd,Int.reduceSub,Int.reduceMul,Int.reduceGE,Int.reduceGT,Cl.enc,iv,endO]
 refine both (fun hlt=>?_) (fun hge=>?_)
 ·rw [decide_eq_true_eq] at hlt
  have hlt:i<xs.length:=by omega
  have hcl:=cidx_len xs i
  have hcs:=cidx_succ xs i
  refine And.intro (by omega) (And.intro hlt ?_)
  refine callV (.c (.bo (cntB (xs.getD i cl0)))) _ (fun E=>rfl) (fun E a w' _=>rcounts_calls w' _) ?_
  simp (maxSteps:=2000000) only [go_sem,↓reduceIte,Nat.reduceLT,Nat.reduceLeDiff,Nat.reduceAdd,Nat.reduceSub,Nat.reduceMul,Nat.reduceEqDiff,reduceCtorEq,Int.reduceToNat,Int.reduceEq,Int.reduceBEq,Int.reduceBNe,Int.reduceLT,Int.reduceLE,Int.reduceNeg,Int.reduceAdd,Int.reduceSub,Int.reduceMul,Int.reduceGE,Int.reduceGT,Cl.enc,iv,endO]
  rw [wr_succ (n:=i) (by omega)]
  refine both (fun ha=>?_) (fun ha=>?_)
  ·rw [if_pos ha] at hcs
   have hl:(cidx xs (i+1)).length=(cidx xs i).length+1:=by rw [hcs];simp
   rw [wr_succ (by omega)]
   exact backI ⟨i+1,hlt⟩ (by simp only;omega) (le_tmps (by simp [TmpsSub,look,hl]))
  ·rw [if_neg (by rw [ha];simp)] at hcs
   exact backI ⟨i+1,hlt⟩ (by simp only;omega) (le_tmps (by simp [TmpsSub,look,hcs]))
 ·rw [decide_eq_false_iff_not] at hge
  have hin:i=xs.length:=by omega
  subst hin
  refine retV fun E=>?_
  rw [den_c]
  simp only [SC.den,Value.bool.injEq,nmA]
  exact decide_eq_decide.2 (by omega)
end Go.Proofs.Ytkjeedlkkpgopaa.Z
namespace Go.Proofs.Ytkjeedlkkpgopaa.Z
open Go Go.RowKit
def wkN (first:Bool) (l:List (List Nat)):Int:=if first=true then (if l=[] then 0 else 1) else (l.length:Nat)
def wkL (l:List (List Nat)):List Nat:=l.head?.getD []
theorem enterOC {P:Program} {A:List Nat} {f nt:Nat} {fn:Func} {x:Code} {c:IR} {w:World} {rs:List RS} {R:Ending→World→Prop} {v vo vm:Value} {xs:List Cl} {o:List Int} {m:MC} (first:Bool) (h0:Arr w Cl.enc 9 v xs) (h:Arr w eI 1 vo o) (hc5:Cont w vm m)
  (hf:P.funcs[f]? = some fn) (hb:fn.body=some x) (hc:compC (mkTab P A) x=some c.strip) (hr:compR (mkTab P A).T fn.results.toList=some rs) (hn:fn.ntmps=nt) (hnt:4≤nt)
  (hex:exec (mkC P A w rs R) 1000 [.code c] ⟨nt,enumT 0 [.c (.xv (0,0,0)),.agg (mcS 2),.c (.xv (1,0,0)),.c (.v (.bool first))],[],(0,.one (arrOf Cl.enc 9 xs cl0)) :: (1,.one (arrOf eI 1 o 0)) :: mcA 2 m,[],7⟩):Calls P f #[v,vm,vo,.bool first] w R:=by
 obtain ⟨v0,v1,v2,v3,v4,rfl,m0,m1,m2,m3,m4⟩:=hc5
 have hone:OneC (⟨fun _=>0,fun _=>0,fun _=>false,fun x=>if x.1=0 then v else if x.1=1 then vo else fiv v0 v1 v2 v3 v4 (x.1 - 2)⟩:Env):=fun x=>by
  simp only
  split
  ·exact arr_one h0
  split
  ·exact arr_one h
  ·simp only [fiv]
   split <;> first | exact arr_one m0 | exact arr_one m1 | exact arr_one m2 | exact arr_one m3 | exact arr_one m4
 have g:∀ E' : Env,AgreeD (· < 7) (⟨fun _=>0,fun _=>0,fun _=>false,fun x=>if x.1=0 then v else if x.1=1 then vo else fiv v0 v1 v2 v3 v4 (x.1 - 2)⟩:Env) E'→E'.χ (0,0,0)=v∧E'.χ (1,0,0)=vo∧E'.χ (2,0,0)=v0∧E'.χ (3,0,0)=v1∧E'.χ (4,0,0)=v2∧E'.χ (5,0,0)=v3∧E'.χ (6,0,0)=v4:=fun E' hE'=>by
  have q:∀ i,i<7→E'.χ (i,0,0)=(if i=0 then v else if i=1 then vo else fiv v0 v1 v2 v3 v4 (i - 2)):=fun i hi=>(hE' (i,0,0) hi).2.2.2
  exact ⟨q 0 (by decide),q 1 (by decide),q 2 (by decide),q 3 (by decide),q 4 (by decide),q 5 (by decide),q 6 (by decide)⟩
 refine calls_sym (c:=c) (C:=mkC P A w rs R) 1000 [.c (.xv (0,0,0)),.agg (mcS 2),.c (.xv (1,0,0)),.c (.v (.bool first))] _ [] _ [] 7 nt _ (mkTab_ok _ _) hf hb hc hr hn rfl rfl hone (fun E' hE'=>?_) hnt (fun E' hE'=>inOk_arrs fun w' hw' x A hA=>?_) hex
 ·obtain ⟨g0,g1,g2,g3,g4,g5,g6⟩:=g E' hE'
  simp [SV.den,SC.den,mcS,g0,g1,g2,g3,g4,g5,g6]
 obtain ⟨g0,g1,g2,g3,g4,g5,g6⟩:=g E' hE'
 rcases atN_one hA with ⟨rfl,rfl⟩ | hA
 ·exact arr1 cl_ok g0 h0 hw'
 rcases atN_one hA with ⟨rfl,rfl⟩ | hA
 ·exact arr1 eI_ok g1 h hw'
 simp only [mcA] at hA
 rcases atN_one hA with ⟨rfl,rfl⟩ | hA
 ·exact arr1 eI_ok g2 m0 hw'
 rcases atN_one hA with ⟨rfl,rfl⟩ | hA
 ·exact arr1 eI_ok g3 m1 hw'
 rcases atN_one hA with ⟨rfl,rfl⟩ | hA
 ·exact arr1 eI_ok g4 m2 hw'
 rcases atN_one hA with ⟨rfl,rfl⟩ | hA
 ·exact arr1 eI_ok g5 m3 hw'
 rcases atN_one hA with ⟨rfl,rfl⟩ | hA
 ·exact arr1 eP_ok g6 m4 hw'
 exact (atN_nil hA).elim
def wkU (z:Int) (n b:Nat):SV:=.tup [(false,[.v (.int .i64 z)]),(false,[.sl (b,0,0) 1 0 n none])]
theorem wk_ret {P:Program} {A:List Nat} {w:World} {rs:List RS} {S:St} {n:Nat} {z:Int} (i m:Nat) (l:List Nat) (at_:Nat→List SC) (h:look S.own i=some (.one (.ar m 1 at_ 3))) (hm:(oI l).length≤m) (ha:∀ e,e<(oI l).length→at_ e=ats eI (oI l) 0 e) (hn:n=(oI l).length) :
  RetVC (mkC P A w rs (RetN w 1 (wkU z l.length) (lsO 3 1 eI (oI l) 0))) (.tup [(false,[.v (.int .i64 z)]),(false,[.sl (i,0,0) 1 0 n none])]) S:=by
 rw [oI_len] at hn
 subst hn
 refine retN (fun j=>j+i) (fun b=>⟨by simp [wkU,SV.ren,ren1L,ren1,SC.renL,SC.ren,fromσ],by simp [wkU,SV.okN,ok1L,SC.okL,SC.okN,NewIds]⟩) (fun b=>?_) (fun b=>?_)
 ·refine ⟨⟨⟨by omega,by omega⟩,?_⟩,trivial⟩
  simp only [fromσ,Nat.sub_self,Nat.zero_add,atN,h,Fm.get,and_self,if_true]
  exact arLe_of hm ha
 ·exact injN_from fun x hx y hy e=>by
   simp [lsO,keysL] at hx hy
   omega
theorem wk_nil {P:Program} {A:List Nat} {w:World} {rs:List RS} {S:St} {z:Int}:RetVC (mkC P A w rs (RetN w 1 (wkU z 0) (lsO 3 1 eI (oI []) 0))) (.tup [(false,[.v (.int .i64 z)]),(false,[.v (.slice none 0 0)])]) S:=by
 intro E a w' hs
 refine ⟨_,rfl,below_of hs.sat,fun b=>⟨⟨fun _=>0,fun _=>0,fun _=>true,fun _=>.bool true⟩,fun _=>rfl,fun E2 hE2=>?_⟩⟩
 have hb:NewIds b 1 b:=⟨Nat.le_refl _,Nat.lt_succ_self _⟩
 obtain ⟨_,h2,h3,_⟩:=hE2 (b,0,0) hb
 have hat:∀ x c,atN (lsO 3 1 eI (oI []) 0 b) x=some c→x=(b,0,0)∧c = .ar 0 1 (ats eI (oI []) 0) 3:=fun x c hx=>by
  rcases atN_one hx with ⟨rfl,rfl⟩ | hx
  ·exact ⟨rfl,rfl⟩
  ·exact (atN_nil hx).elim
 refine ⟨by simp [wkU,SV.den,den1,SC.den,h2,h3],fun _=>emp,fun x c hx=>?_,fun _ _ _ _ _ _ _ n=>Or.inl rfl,fun x c hx n o hn=>(emp_some hn).elim⟩
 obtain ⟨rfl,rfl⟩:=hat x c hx
 simp only [Blk.den]
 exact Or.inl ⟨trivial,h2,trivial,trivial⟩
theorem sgX_pre (xs:List Cl) (k:Nat) (o:List Nat) (m:MC) {n n' : Nat} (h:n≤n'):∃ t,sgX xs k o m n' = sgX xs k o m n++t:=by
 induction h with
 | refl=>exact ⟨[],by simp⟩
 | step _ ih =>
  obtain ⟨t,ht⟩:=ih
  rw [sgX_succ,ht,List.append_assoc]
  exact ⟨_,rfl⟩
def ir52:IR:=(.seq (.ops [⟨(some 5),(.box 70 (.t 1)),none⟩,⟨(some 8),(.mv (.k (.c (.v (.int .i64 0))))),none⟩,⟨(some 9),(.mv (.k (.c (.v (.slice none 0 0))))),none⟩]) (.kill [1,4,6,7,8,9,10,11] (.seq (.ops [⟨(some 10),(.mv (.k (.c (.v (.int .i64 0))))),none⟩]) (.seq (.ops [⟨(some 11),(.mv (.k (.c (.v (.slice none 0 0))))),none⟩]) (.seq (.seq (.ops [⟨(some 18),(.mv (.t 0)),none⟩,⟨(some 19),(.mv (.t 2)),none⟩,⟨(some 20),(.call 55 [(.t 18),(.t 19)]),none⟩]) (.kill [18,19] (.cond (.t 20) (.seq (.ops [⟨(some 10),(.mv (.k (.c (.v (.int .i64 1))))),none⟩]) (.kill [20] (.seq (.ops [⟨(some 21),(.mv (.t 11)),none⟩,⟨(some 22),(.mv (.t 2)),none⟩,⟨(some 23),(.app 3 1 8 [(.v (.int .i64 0))] (.t 21) (.t 22)),none⟩,⟨(some 11),(.mv (.t 23)),none⟩]) (.kill [21,22,23] (.seq (.ops [⟨(some 24),(.mv (.t 3)),none⟩]) (.cond (.t 24) (.seq (.ops [⟨(some 25),(.mv (.t 10)),none⟩,⟨(some 26),(.mv (.t 11)),none⟩,⟨(some 8),(.mv (.t 25)),none⟩,⟨(some 9),(.mv (.t 26)),none⟩]) (.kill [0,2,3,5,10,11,24,25,26] .ret)) .skip)))))) .skip))) (.kill [8,9,20,24] (.seq (.seq (.ops [⟨(some 12),(.mv (.k (.c (.v (.int .i64 0))))),none⟩]) (.blk 0 (.loop (.seq (.seq (.ops [⟨(some 27),(.mv (.t 12)),none⟩,⟨(some 28),(.mv (.t 0)),none⟩,⟨(some 29),(.len (.t 28)),none⟩,⟨(some 30),(.bin .lss (.t 27) (.t 29)),none⟩]) (.kill [8,9,13,14,15,16,17,27,28,29,31,32,33,34,35,36,37,38,39,40,41,42,43,44,45,46,47,48,49,50,51,52,53,54,55,56,57,58,59,60,61,62,63,64,65,66,67,68,69,70,71,72,73,74,75,76,77,78,79,80] (.cond (.t 30) .skip (.exit 0)))) (.kill [30] (.seq (.blk 1 (.seq (.seq (.ops [⟨(some 33),(.mv (.t 0)),none⟩,⟨(some 34),(.mv (.t 2)),none⟩,⟨(some 35),(.mv (.t 12)),none⟩,⟨(some 36),(.call 70 [(.t 33),(.t 34),(.t 35)]),none⟩,⟨(some 37),(.un .not (.t 36)),none⟩]) (.kill [33,34,35,36] (.cond (.t 37) (.exit 1) .skip))) (.kill [37] (.seq (.draw [(⟨(some 39),(.ld true 5 (.t 5)),none⟩,([],[40,41,42,43,13])),(⟨(some 40),(.mv (.t 0)),none⟩,([0],[39,41,13])),(⟨(some 41),(.mv (.t 12)),none⟩,([0,1],[39,40,13])),(⟨(some 42),(.ia 9 (.t 40) (.t 41)),none⟩,([0],[39,13])),(⟨(some 43),(.ld true 9 (.t 42)),none⟩,([0],[39,13])),(⟨(some 44),(.call 63 [(.t 39),(.t 43)]),none⟩,([],[13])),(⟨(some 38),(.mv (.t 44)),none⟩,([],[13])),(⟨(some 45),(.ext 0 (.t 38)),none⟩,([],[46,13])),(⟨(some 46),(.ext 1 (.t 38)),none⟩,([7],[45,13])),(⟨(some 13),(.new 70 [(.v (.slice none 0 0)),(.v (.slice none 0 0)),(.v (.slice none 0 0)),(.v (.slice none 0 0)),(.v (.slice none 0 0))]),none⟩,([0,1,2,3,4,5,6,7,8],[39,40,41,42,43,44,38,45,46])),(⟨none,(.st 5 (.t 13) (.t 45)),none⟩,([8],[46])),(⟨(some 14),(.mv (.t 46)),none⟩,([],[]))]) (.kill [38,39,40,41,42,43,44,45,46] (.seq (.seq (.ops [⟨(some 47),(.mv (.t 14)),none⟩,⟨(some 48),(.un .not (.t 47)),none⟩]) (.kill [14,47] (.cond (.t 48) (.exit 1) .skip))) (.kill [48] (.seq (.ops [⟨(some 15),(.mv (.k (.c (.v (.slice none 0 0))))),none⟩]) (.seq (.ops [⟨(some 49),(.mv (.t 15)),none⟩,⟨(some 50),(.mv (.t 2)),none⟩,⟨(some 51),(.app 3 1 8 [(.v (.int .i64 0))] (.t 49) (.t 50)),none⟩,⟨(some 15),(.mv (.t 51)),none⟩]) (.kill [49,50,51] (.seq (.ops [⟨(some 52),(.mv (.t 15)),none⟩,⟨(some 53),(.mv (.t 12)),none⟩,⟨(some 54),(.mkSl 3 1 1 [(.v (.int .i64 0))] [(0,(1,(.t 53)))]),none⟩,⟨(some 55),(.app 3 1 8 [(.v (.int .i64 0))] (.t 52) (.t 54)),none⟩,⟨(some 15),(.mv (.t 55)),none⟩]) (.kill [52,53,54,55] (.seq (.ops [⟨(some 57),(.mv (.t 0)),none⟩,⟨(some 58),(.ld true 5 (.t 13)),none⟩,⟨(some 59),(.mv (.t 15)),none⟩,⟨(some 60),(.mv (.t 3)),none⟩,⟨(some 61),(.call 52 [(.t 57),(.t 58),(.t 59),(.t 60)]),none⟩,⟨(some 56),(.mv (.t 61)),none⟩,⟨(some 62),(.ext 0 (.t 56)),none⟩,⟨(some 63),(.ext 1 (.t 56)),none⟩,⟨(some 16),(.mv (.t 62)),none⟩,⟨(some 17),(.mv (.t 63)),none⟩]) (.kill [13,15,56,57,58,59,60,61,62,63] (.seq (.seq (.ops [⟨(some 64),(.mv (.t 10)),none⟩,⟨(some 65),(.bin .eql (.t 64) (.k (.c (.v (.int .i64 0))))),none⟩,⟨(some 66),(.mv (.t 65)),none⟩,⟨(some 67),(.mv (.t 16)),(some (66,true))⟩,⟨(some 68),(.bin .gtr (.t 67) (.k (.c (.v (.int .i64 0))))),(some (66,true))⟩,⟨(some 69),(.pick (.t 66) (.t 68) (.k (.c (.v (.bool false))))),none⟩]) (.kill [64,65,66,67,68] (.cond (.t 69) (.ops [⟨(some 70),(.mv (.t 17)),none⟩,⟨(some 11),(.mv (.t 70)),none⟩]) .skip))) (.kill [17,69,70] (.seq (.ops [⟨(some 71),(.mv (.t 10)),none⟩,⟨(some 72),(.mv (.t 16)),none⟩,⟨(some 73),(.bin .add (.t 71) (.t 72)),none⟩,⟨(some 10),(.mv (.t 73)),none⟩]) (.kill [16,71,72,73] (.seq (.ops [⟨(some 74),(.mv (.t 3)),none⟩,⟨(some 75),(.mv (.t 74)),none⟩,⟨(some 76),(.mv (.t 10)),(some (75,true))⟩,⟨(some 77),(.bin .gtr (.t 76) (.k (.c (.v (.int .i64 0))))),(some (75,true))⟩,⟨(some 78),(.pick (.t 75) (.t 77) (.k (.c (.v (.bool false))))),none⟩]) (.kill [74,75,76,77] (.cond (.t 78) (.seq (.ops [⟨(some 79),(.mv (.t 10)),none⟩,⟨(some 80),(.mv (.t 11)),none⟩,⟨(some 8),(.mv (.t 79)),none⟩,⟨(some 9),(.mv (.t 80)),none⟩]) (.kill [0,2,3,5,10,11,12,78,79,80] .ret)) .skip))))))))))))))))))))) (.kill [8,9,13,14,15,16,17,33,34,35,36,37,38,39,40,41,42,43,44,45,46,47,48,49,50,51,52,53,54,55,56,57,58,59,60,61,62,63,64,65,66,67,68,69,70,71,72,73,74,75,76,77,78,79,80] (.ops [⟨(some 31),(.mv (.t 12)),none⟩,⟨(some 32),(.bin .add (.t 31) (.k (.c (.v (.int .i64 1))))),none⟩,⟨(some 12),(.mv (.t 32)),none⟩])))))))) (.kill [0,2,3,5,8,9,12,13,14,15,16,17,27,28,29,30,31,32,33,34,35,36,37,38,39,40,41,42,43,44,45,46,47,48,49,50,51,52,53,54,55,56,57,58,59,60,61,62,63,64,65,66,67,68,69,70,71,72,73,74,75,76,77,78,79,80] (.seq (.ops [⟨(some 81),(.mv (.t 10)),none⟩,⟨(some 82),(.mv (.t 11)),none⟩,⟨(some 8),(.mv (.t 81)),none⟩,⟨(some 9),(.mv (.t 82)),none⟩]) (.kill [10,11,81,82] .ret))))))))))
def rs52:List RS:=[(.t 8),(.t 9)]
def nt52:Nat:=83
set_option maxRecDepth 100000 in
set_option maxHeartbeats 2000000 in
theorem walkT_calls:∀ (k:Nat) (w:World) (v vo vm:Value) (xs:List Cl) (o:List Nat) (m:MC) (hk:k≤9) (h8:(nmA xs).length≤8) (h0:Arr w Cl.enc 9 v xs) (h:Arr w eI 1 vo (oI o)) (hc:Cont w vm m)
  (hm:mayB m=true) (hu:m.upto o.length) (hf:(nmA xs).length+1≤k+o.length) (hn:o.Nodup) (hs:∀ i∈o,i∈nmA xs),Calls Try.prog 52 #[v,vm,vo,.bool true] w (RetN w 1 (wkU (wkN true (srX xs k o m)) (wkL (srX xs k o m)).length) (lsO 3 1 eI (oI (wkL (srX xs k o m))) 0)):=by
 intro k
 induction k with
 | zero =>
  intro w v vo vm xs o m hk h8 h0 h hc hm hu hf hn hs
  have:=len_sub hn hs
  omega
 | succ k ih =>
  intro w v vo vm xs o m hk h8 h0 h hc hm hu hf hn hs
  have hol:=len_sub hn hs
  have hok:MC.okR m:=hu.okR (by omega)
  have hlb:bnd (k+1)≤153391689:=Nat.le_trans (bnd_mono (show k+1≤9 by omega)) (by decide)
  have hlen:=Z.Arr.lenM h0
  simp only [maxLen] at hlen
  have hoil:=oI_len o
  have hlt:∀ i∈o,i<xs.length:=fun i hi=>(nmA_mem (hs i hi)).1
  refine enterOC (A:=[]) (c:=ir52) (rs:=rs52) (nt:=nt52) true h0 h hc Try.func52 rfl (by kernel_rfl) (by kernel_rfl) rfl (of_decide_eq_true rfl) ?_
  rw [srX_succ]
  generalize hR:RetN w 1 _ _=R
  simp (maxSteps:=2000000) only [ir52,nt52,rs52,go_sem,↓reduceIte,Nat.reduceLT,Nat.reduceLeDiff,Nat.reduceAdd,Nat.reduceSub,Nat.reduceMul,Nat.reduceEqDiff,reduceCtorEq,Int.reduceToNat,Int.reduceEq,Int.reduceBEq,Int.reduceBNe,Int.reduceLT,Int.reduceLE,Int.reduceNeg,Int.reduceAdd,Int.reduceSub,Int.reduceMul,Int.reduceGE,Int.reduceGT,Cl.enc,iv,endO,mcS,mcA]
  refine callV (.c (.bo ((hY xs).whole (nmA xs) o))) _ (fun E=>rfl) (fun E a w' hs2=>by
   have:=isorder_calls w' _ _ xs (oI o) (arr_at (d:=cl0) hs2 0 rfl) (arr_at (d:=0) hs2 1 rfl)
   rw [iso_whole hn hs] at this
   exact this) ?_
  simp (maxSteps:=2000000) only [go_sem,↓reduceIte,Nat.reduceLT,Nat.reduceLeDiff,Nat.reduceAdd,Nat.reduceSub,Nat.reduceMul,Nat.reduceEqDiff,reduceCtorEq,Int.reduceToNat,Int.reduceEq,Int.reduceBEq,Int.reduceBNe,Int.reduceLT,Int.reduceLE,Int.reduceNeg,Int.reduceAdd,Int.reduceSub,Int.reduceMul,Int.reduceGE,Int.reduceGT,Cl.enc,iv,endO]
  refine both (fun hw=>?_) (fun hw=>?_)
  ·refine And.intro (by simp only [maxLen];omega) ?_
   rw [← hR,hw,if_pos rfl]
   exact wk_ret (z:=1) 8 _ o _ rfl (Nat.le_refl _) (fun e he=>rfl) rfl
  ·rw [hw,if_neg (by simp),List.nil_append] at hR
   refine loopI (ι:={ n:Nat // n≤xs.length∧sgX xs k o m n=[] }) (fun n=>⟨83,[(0,.c (.xv (0,0,0))),(2,.c (.xv (1,0,0))),(3,.c (.v (.bool true))),(5,.c (.ptr (7,0,0) 0)),(10,.c (.v (.int .i64 0))),(11,.c (.v (.slice none 0 0))),(12,.c (.v (.int .i64 (n.1:Nat))))],[(7,.one (.bk (mcS 2) 70))],
     (0,.one (arrOf Cl.enc 9 xs cl0)) :: (1,.one (arrOf eI 1 (oI o) 0)) :: mcA 2 m,[],8⟩) (fun n=>xs.length - n.1) ⟨0,by omega,rfl⟩ ?_ ?_
   ·simp only [mcS,mcA,List.cons_append,List.nil_append]
    exact le_ren id rfl rfl (by simp [TmpsLe,look,SV.ren,SC.ren,SC.renL,ren1L,ren1,idσ,SV.okN,SC.okN,SC.okL,ok1L]) (by simp [OwnLe,BlkLeO,BlkLe,atN,look,Fm.get,idσ,SC.renL,SC.ren,SC.okL,SC.okN,renL_v,okL_v]) (by simp [ArrsLe,ArrLeO,atN,look,Fm.get,idσ,arrLe_of,arrLe_0]) rfl
   rintro ⟨n,hnx,hnil⟩
   simp (maxSteps:=2000000) only [go_sem,↓reduceIte,Nat.reduceLT,Nat.reduceLeDiff,Nat.reduceAdd,Nat.reduceSub,Nat.reduceMul,Nat.reduceEqDiff,reduceCtorEq,Int.reduceToNat,Int.reduceEq,Int.reduceBEq,Int.reduceBNe,Int.reduceLT,Int.reduceLE,Int.reduceNeg,Int.reduceAdd,Int.reduceSub,Int.reduceMul,Int.reduceGE,Int.reduceGT,Cl.enc,iv,endO,mcS,mcA,List.cons_append,List.nil_append]
   refine both (fun hlt2=>?_) (fun hge=>?_)
   ·rw [decide_eq_true_eq] at hlt2
    have hlt2:n<xs.length:=by omega
    have hsc:=sgX_succ xs k o m n
    rw [hnil,List.nil_append] at hsc
    have hal:(hY xs).al m n=allowM m (xs.getD n cl0):=rfl
    rw [hal] at hsc
    refine callV (.c (.bo (cntB (xs.getD n cl0) && (hY xs).nextR o n))) _ (fun E=>rfl) (fun E a w' hs2=>rnext_calls w' _ _ xs o n hlt2 hlt (arr_at (d:=cl0) hs2 0 rfl) (arr_at (d:=0) hs2 1 rfl)) ?_
    simp (maxSteps:=2000000) only [go_sem,↓reduceIte,Nat.reduceLT,Nat.reduceLeDiff,Nat.reduceAdd,Nat.reduceSub,Nat.reduceMul,Nat.reduceEqDiff,reduceCtorEq,Int.reduceToNat,Int.reduceEq,Int.reduceBEq,Int.reduceBNe,Int.reduceLT,Int.reduceLE,Int.reduceNeg,Int.reduceAdd,Int.reduceSub,Int.reduceMul,Int.reduceGE,Int.reduceGT,Cl.enc,iv,endO,mcS,mcA,List.cons_append,List.nil_append]
    have back:sgX xs k o m (n+1)=[]→True:=fun _=>trivial
    refine both (fun hb=>?_) (fun hb=>?_)
    ·have hb:(cntB (xs.getD n cl0) && (hY xs).nextR o n)=false:=by revert hb;cases (cntB (xs.getD n cl0) && (hY xs).nextR o n) <;> simp
     rw [hb,if_neg (by simp)] at hsc
     rw [wr_succ (by omega)]
     exact backI ⟨n+1,hlt2,hsc⟩ (by simp only;omega) (by simp only [mcS,mcA,List.cons_append,List.nil_append];exact le_ren id rfl rfl (by simp [TmpsLe,look,SV.ren,SC.ren,SC.renL,ren1L,ren1,idσ,SV.okN,SC.okN,SC.okL,ok1L]) (by simp [OwnLe,BlkLeO,BlkLe,atN,look,Fm.get,idσ,SC.renL,SC.ren,SC.okL,SC.okN,renL_v,okL_v]) (by simp [ArrsLe,ArrLeO,atN,look,Fm.get,idσ,arrLe_of,arrLe_0]) rfl)
    ·have hb:(cntB (xs.getD n cl0) && (hY xs).nextR o n)=true:=by revert hb;cases (cntB (xs.getD n cl0) && (hY xs).nextR o n) <;> simp
     rw [if_pos hb] at hsc
     have hcn:cntB (xs.getD n cl0)=true:=(Bool.and_eq_true _ _ ▸ hb).1
     have hio:=(nextR_iff.1 (Bool.and_eq_true _ _ ▸ hb).2).1
     have hob:objOf (xs.getD n cl0).op≠0:=by simpa [cntB] using hcn
     refine draw_vc (by kernel_rfl) (mkTab_ok _ _) (of_decide_eq_true rfl) (of_decide_eq_true rfl) ?_
     repeat (first | simp (maxSteps:=2000000) only [go_sem,↓reduceIte,Nat.reduceLT,Nat.reduceLeDiff,Nat.reduceAdd,Nat.reduceSub,Nat.reduceMul,Nat.reduceEqDiff,reduceCtorEq,Int.reduceToNat,Int.reduceEq,Int.reduceBEq,Int.reduceBNe,Int.reduceLT,Int.reduceLE,Int.reduceNeg,Int.reduceAdd,Int.reduceSub,Int.reduceMul,Int.reduceGE,Int.reduceGT,Cl.enc,iv,endO,mcS,mcA] | rw [dr_cons])
     refine And.intro hlt2 (And.intro hlt2 ?_)
     refine dcallL 5 (ralT (allowM m (xs.getD n cl0))) (mcR (allowM m (xs.getD n cl0)).1) (mcR_sz _) (fun E a w' hs=>ral_Z (xs.getD n cl0) (cont_at hs 2 rfl rfl rfl rfl rfl) hok hm hob) ?_ ?_
     ·simp [newOk,keysL,low_mcR,mcA]
     repeat (first | simp (maxSteps:=2000000) only [go_sem,↓reduceIte,Nat.reduceLT,Nat.reduceLeDiff,Nat.reduceAdd,Nat.reduceSub,Nat.reduceMul,Nat.reduceEqDiff,reduceCtorEq,Int.reduceToNat,Int.reduceEq,Int.reduceBEq,Int.reduceBNe,Int.reduceLT,Int.reduceLE,Int.reduceNeg,Int.reduceAdd,Int.reduceSub,Int.reduceMul,Int.reduceGE,Int.reduceGT,Cl.enc,iv,endO,ralT,mcS,low_mcR,mcA,mkC_B] | rw [dr_cons])
     refine And.intro (Or.inl trivial) (And.intro (Or.inr trivial) ?_)
     have hup:=allowM_upto (c:=xs.getD n cl0) hu
     have hmy:=allowM_may (c:=xs.getD n cl0) hm
     generalize allowM m (xs.getD n cl0)=p at hsc hup hmy ⊢
     obtain ⟨m2,b⟩:=p
     simp only at hsc hup hmy
     refine both (fun hbb=>?_) (fun hbb=>?_)
     ·have hbb:b=false:=by simpa using hbb
      rw [hbb,if_neg (by simp)] at hsc
      rw [wr_succ (by omega)]
      exact backI ⟨n+1,hlt2,hsc⟩ (by simp only;omega) (by simp only [mcS,mcA,List.cons_append,List.nil_append];exact le_ren id rfl rfl (by simp [TmpsLe,look,SV.ren,SC.ren,SC.renL,ren1L,ren1,idσ,SV.okN,SC.okN,SC.okL,ok1L]) (by simp [OwnLe,BlkLeO,BlkLe,atN,look,Fm.get,idσ,SC.renL,SC.ren,SC.okL,SC.okN,renL_v,okL_v]) (by simp [ArrsLe,ArrLeO,atN,look,Fm.get,idσ,arrLe_of,arrLe_0]) rfl)
     ·have hbb:b=true:=by simpa using hbb
      rw [if_pos hbb] at hsc
      have hf8:((oI o).length+1+((oI o).length+1) / 4+192) * 8≤281474976710656:=fit_app8 _ (by omega)
      have hml:(oI o).length+1≤maxLen:=by simp only [maxLen];omega
      have hml0:(oI o).length * 8≤281474976710656∧(oI o).length≤maxLen:=by simp only [maxLen];omega
      have hnn:(o++[n]).Nodup:=by
       rw [List.nodup_append]
       exact ⟨hn,by simp,fun a ha b hb=>by rw [List.mem_singleton] at hb;exact fun e=>hio (by rw [← hb,← e];exact ha)⟩
      have hss:∀ j∈o++[n],j∈nmA xs:=fun j hj=>by
       rcases List.mem_append.1 hj with hj | hj
       ·exact hs j hj
       ·rw [List.mem_singleton] at hj;exact hj ▸ List.mem_filter.2 ⟨List.mem_range.2 hlt2,hcn⟩
      have hll:(o++[n]).length=o.length+1:=by simp
      refine And.intro hml0 (And.intro (by decide) (And.intro (And.intro (Nat.le_refl _) (And.intro hf8 hml)) ?_))
      clear hf8 hml hml0
      refine callN 1 (wkU (wkN true (srX xs k (o++[n]) m2)) (wkL (srX xs k (o++[n]) m2)).length) (lsO 3 1 eI (oI (wkL (srX xs k (o++[n]) m2))) 0) (fun E a w' hs2=>ih w' _ _ _ xs (o++[n]) m2 (by omega) h8 (arr_at (d:=cl0) hs2 0 rfl)
       (arr_own (d:=0) hs2 16 ((oI o).length+1) _ _ rfl (by rw [oI_push];simp) (by rw [oI_push];simp) (fun e he=>ats_push (oI_push o n) rfl (fun e he=>rfl) rfl e he)) (cont_at hs2 8 rfl rfl rfl rfl rfl) hmy (by rw [hll];exact hup) (by rw [hll];omega) hnn hss) ?_
      cases hS:srX xs k (o++[n]) m2 with
      | nil =>
       rw [hS] at hsc
       simp (maxSteps:=2000000) only [go_sem,↓reduceIte,Nat.reduceLT,Nat.reduceLeDiff,Nat.reduceAdd,Nat.reduceSub,Nat.reduceMul,Nat.reduceEqDiff,reduceCtorEq,Int.reduceToNat,Int.reduceEq,Int.reduceBEq,Int.reduceBNe,Int.reduceLT,Int.reduceLE,Int.reduceNeg,Int.reduceAdd,Int.reduceSub,Int.reduceMul,Int.reduceGE,Int.reduceGT,Cl.enc,iv,endO,wkU,wkN,wkL,lsO]
       rw [wr_succ (by omega)]
       exact backI ⟨n+1,hlt2,hsc⟩ (by simp only;omega) (by simp only [mcS,mcA,List.cons_append,List.nil_append];exact le_ren id rfl rfl (by simp [TmpsLe,look,SV.ren,SC.ren,SC.renL,ren1L,ren1,idσ,SV.okN,SC.okN,SC.okL,ok1L]) (by simp [OwnLe,BlkLeO,BlkLe,atN,look,Fm.get,idσ,SC.renL,SC.ren,SC.okL,SC.okN,renL_v,okL_v]) (by simp [ArrsLe,ArrLeO,atN,look,Fm.get,idσ,arrLe_of,arrLe_0]) rfl)
      | cons y l =>
       rw [hS] at hsc
       have hwl:wkN true (sgX xs k o m xs.length)=1∧wkL (sgX xs k o m xs.length)=y:=by
        obtain ⟨t,ht⟩:=sgX_pre xs k o m (show n+1≤xs.length from hlt2)
        rw [ht,hsc]
        simp [wkN,wkL]
       rw [hwl.1,hwl.2] at hR
       simp (maxSteps:=2000000) only [go_sem,↓reduceIte,Nat.reduceLT,Nat.reduceLeDiff,Nat.reduceAdd,Nat.reduceSub,Nat.reduceMul,Nat.reduceEqDiff,reduceCtorEq,Int.reduceToNat,Int.reduceEq,Int.reduceBEq,Int.reduceBNe,Int.reduceLT,Int.reduceLE,Int.reduceNeg,Int.reduceAdd,Int.reduceSub,Int.reduceMul,Int.reduceGE,Int.reduceGT,Cl.enc,iv,endO,wkU,wkN,wkL,lsO]
       rw [← hR]
       exact wk_ret (z:=1) 17 _ y _ rfl (Nat.le_refl _) (fun e he=>rfl) (by rw [oI_len];rfl)
   ·rw [decide_eq_false_iff_not] at hge
    have hin:n=xs.length:=by omega
    subst hin
    rw [← hR,hnil]
    exact wk_nil (z:=0)
end Go.Proofs.Ytkjeedlkkpgopaa.Z
