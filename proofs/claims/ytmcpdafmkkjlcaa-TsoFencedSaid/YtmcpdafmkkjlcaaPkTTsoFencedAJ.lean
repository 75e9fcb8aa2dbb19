/- TsoFencedSaid: what its proof is made of. No condition. -/
import Derived.Test.YtmcpdafmkkjlcaaPkTTsoFencedAI
set_option linter.unusedSimpArgs false
set_option linter.unusedVariables false
namespace Go.Proofs.Ytmcpdafmkkjlcaa.Z
open Go Go.RowKit
def outsL (t:Nat):Nat→List Tn
 | 0=>[]
 | n+1=>outsL t n++[⟨t,true,n⟩]
def thrL (L:Lt) (o:Int) (t:Nat):List Tn:=[⟨t,false,0⟩]++(if o=2 then [⟨t,true,0⟩] else if o=3 then outsL t L.words.length else [])
def turnsT (L:Lt) (o:Int):Nat→List Tn
 | 0=>[]
 | n+1=>turnsT L o n++thrL L o n
def turnsL (L:Lt) (o:Int):List Tn:=turnsT L o L.thr.length
theorem outsL_len (t:Nat):∀ n,(outsL t n).length=n
 | 0=>rfl
 | n+1=>by simp [outsL,outsL_len t n]
theorem thrL_len {L:Lt} {o:Int} {t:Nat} (hL:checkB L=true):(thrL L o t).length≤7:=by
 have:=(sz_at hL).2.2.2
 unfold thrL
 rw [List.length_append]
 split
 ·simp
 ·split
  ·rw [outsL_len];simp;omega
  ·simp
theorem turnsT_len {L:Lt} {o:Int} (hL:checkB L=true):∀ n,(turnsT L o n).length≤7 * n
 | 0=>by simp [turnsT]
 | n+1=>by
  have:=turnsT_len (o:=o) hL n
  have:=thrL_len (o:=o) (t:=n) hL
  simp only [turnsT,List.length_append];omega
theorem push_tn {xs:List Tn} {n:Nat} {x:Tn} {g:Nat→List SC} (hn:n=xs.length) (hg:g 0=x.enc.map .v):∀ e,e<(xs++[x]).length→appAt n (ats Tn.enc xs tn0) g e=ats Tn.enc (xs++[x]) tn0 e:=ats_push (d:=tn0) rfl hn (fun _ _=>rfl) hg
def ir84:IR:=(.seq (.ops [⟨(some 2),(.box 25 (.t 0)),none⟩,⟨(some 4),(.mv (.k (.c (.v (.slice none 0 0))))),none⟩]) (.kill [0,3,4,5,6,7,8,9,10,11] (.seq (.ops [⟨(some 5),(.mv (.k (.c (.v (.slice none 0 0))))),none⟩]) (.seq (.seq (.ops [⟨(some 8),(.fa 1 (.t 2)),none⟩,⟨(some 9),(.ld false 1 (.t 8)),none⟩,⟨(some 10),(.len (.t 9)),none⟩,⟨(some 11),(.mv (.k (.c (.v (.int .i64 0))))),none⟩]) (.kill [8,9] (.blk 0 (.loop (.seq (.ops [⟨(some 12),(.bin .lss (.t 11) (.t 10)),none⟩]) (.kill [6,7,13,14,15,16,17,18,19,20,21,22,23,24,25,26,27,28,29,30,31,32,33,34,35,36,37,38,39,40,41,42] (.seq (.cond (.t 12) .skip (.exit 0)) (.kill [12] (.seq (.blk 1 (.seq (.ops [⟨(some 13),(.mv (.t 11)),none⟩,⟨(some 6),(.mv (.t 13)),none⟩]) (.kill [13] (.seq (.ops [⟨(some 14),(.mv (.t 5)),none⟩,⟨(some 15),(.mv (.t 6)),none⟩,⟨(some 16),(.build [(.v (.int .i64 0)),(.v (.bool false)),(.v (.int .i64 0))] [(0,(1,(.t 15)))]),none⟩,⟨(some 17),(.mkSl 44 1 3 [(.v (.int .i64 0)),(.v (.bool false)),(.v (.int .i64 0))] [(0,(3,(.t 16)))]),none⟩,⟨(some 18),(.app 44 3 24 [(.v (.int .i64 0)),(.v (.bool false)),(.v (.int .i64 0))] (.t 14) (.t 17)),none⟩,⟨(some 5),(.mv (.t 18)),none⟩]) (.kill [14,15,16,17,18] (.seq (.ops [⟨(some 19),(.mv (.t 1)),none⟩]) (.blk 2 (.seq (.ops [⟨(some 21),(.bin .eql (.t 19) (.k (.c (.v (.int .i64 2))))),none⟩,⟨(some 20),(.mv (.t 21)),none⟩]) (.kill [21] (.cond (.t 20) (.ops [⟨(some 22),(.mv (.t 5)),none⟩,⟨(some 23),(.mv (.t 6)),none⟩,⟨(some 24),(.build [(.v (.int .i64 0)),(.v (.bool false)),(.v (.int .i64 0))] [(0,(1,(.t 23))),(1,(1,(.k (.c (.v (.bool true))))))]),none⟩,⟨(some 25),(.mkSl 44 1 3 [(.v (.int .i64 0)),(.v (.bool false)),(.v (.int .i64 0))] [(0,(3,(.t 24)))]),none⟩,⟨(some 26),(.app 44 3 24 [(.v (.int .i64 0)),(.v (.bool false)),(.v (.int .i64 0))] (.t 22) (.t 25)),none⟩,⟨(some 5),(.mv (.t 26)),none⟩]) (.seq (.ops [⟨(some 28),(.bin .eql (.t 19) (.k (.c (.v (.int .i64 3))))),none⟩,⟨(some 27),(.mv (.t 28)),none⟩]) (.kill [19,20,28] (.cond (.t 27) (.seq (.ops [⟨(some 29),(.fa 0 (.t 2)),none⟩,⟨(some 30),(.ld false 1 (.t 29)),none⟩,⟨(some 31),(.len (.t 30)),none⟩,⟨(some 32),(.mv (.k (.c (.v (.int .i64 0))))),none⟩]) (.kill [27,29,30] (.blk 3 (.loop (.seq (.ops [⟨(some 33),(.bin .lss (.t 32) (.t 31)),none⟩]) (.kill [7,34,35,36,37,38,39,40,41] (.seq (.cond (.t 33) .skip (.exit 3)) (.kill [33] (.seq (.blk 4 (.seq (.ops [⟨(some 34),(.mv (.t 32)),none⟩,⟨(some 7),(.mv (.t 34)),none⟩]) (.kill [34] (.ops [⟨(some 35),(.mv (.t 5)),none⟩,⟨(some 36),(.mv (.t 6)),none⟩,⟨(some 37),(.mv (.t 7)),none⟩,⟨(some 38),(.build [(.v (.int .i64 0)),(.v (.bool false)),(.v (.int .i64 0))] [(0,(1,(.t 36))),(1,(1,(.k (.c (.v (.bool true)))))),(2,(1,(.t 37)))]),none⟩,⟨(some 39),(.mkSl 44 1 3 [(.v (.int .i64 0)),(.v (.bool false)),(.v (.int .i64 0))] [(0,(3,(.t 38)))]),none⟩,⟨(some 40),(.app 44 3 24 [(.v (.int .i64 0)),(.v (.bool false)),(.v (.int .i64 0))] (.t 35) (.t 39)),none⟩,⟨(some 5),(.mv (.t 40)),none⟩])))) (.kill [7,34,35,36,37,38,39,40] (.ops [⟨(some 41),(.bin .add (.t 32) (.k (.c (.v (.int .i64 1))))),none⟩,⟨(some 32),(.mv (.t 41)),none⟩]))))))))))) .skip))))))))))))) (.kill [6,7,13,14,15,16,17,18,19,20,21,22,23,24,25,26,27,28,29,30,31,32,33,34,35,36,37,38,39,40,41] (.ops [⟨(some 42),(.bin .add (.t 11) (.k (.c (.v (.int .i64 1))))),none⟩,⟨(some 11),(.mv (.t 42)),none⟩]))))))))))) (.kill [1,2,6,7,10,11,12,13,14,15,16,17,18,19,20,21,22,23,24,25,26,27,28,29,30,31,32,33,34,35,36,37,38,39,40,41,42] (.seq (.ops [⟨(some 43),(.mv (.t 5)),none⟩,⟨(some 4),(.mv (.t 43)),none⟩]) (.kill [5,43] .ret)))))))
def rs84:List RS:=[(.t 4)]
def nt84:Nat:=44
def tuS (l:List Tn):Own:=[(3,.one (.bk [.xv (0,0,0),.xv (1,0,0)] 25)),(4,.one (.ar l.length 3 (ats Tn.enc l tn0) 44))]
theorem fitT {n:Nat} (h:n≤1000):(n+n / 4+192) * 24≤281474976710656∧n≤maxLen:=⟨by omega,by simp only [maxLen];omega⟩
theorem tu_grow {own:Own} {l' : List Tn} {m j:Nat} {at_:Nat→List SC} (hj:4≤j) (hm:m=l'.length) (h3:look own 3=some (.one (.bk [.xv (0,0,0),.xv (1,0,0)] 25))) (h4:look own j=some (.one (.ar m 3 at_ 44))) (ha:∀ e,e<l'.length→at_ e=ats Tn.enc l' tn0 e) :
  OwnLe (· < 5) (idσ fun i=>if i=4 then j else i) own (tuS l'):=by
 subst hm
 refine ⟨⟨of_decide_eq_true rfl,?_⟩,⟨of_decide_eq_true rfl,?_⟩,trivial⟩
 ·simp [BlkLeO,BlkLe,atN,idσ,h3,Fm.get,SC.renL,SC.ren,SC.okL,SC.okN]
 ·simp only [idσ,reduceIte,atN,h4,Fm.get,and_self]
  exact arLe_of (Nat.le_refl _) ha
set_option maxRecDepth 100000 in
set_option maxHeartbeats 1000000 in
theorem turns_calls (w:World) (v:Value) (L:Lt) (o:Int) (hL:checkB L=true) (h:LtR w v L):Calls Try.prog 84 #[v,.int .i64 o] w (RetN w 1 (lsT 3 (turnsL L o).length) (lsO 44 3 Tn.enc (turnsL L o) tn0)):=by
 refine enterLt (A:=[]) (c:=ir84) (rs:=rs84) (nt:=nt84) h [.agg (ltS 0),.c (.v (.int .i64 o))] _ Try.func84 rfl (by kernel_rfl) (by kernel_rfl) rfl (fun E' h0=>by simp only [List.map_cons,List.map_nil,h0];rfl) (of_decide_eq_true rfl) ?_
 obtain ⟨z1,z2,z3,z4⟩:=sz_at hL
 simp (maxSteps:=2000000) only [ir84,nt84,rs84,go_sem,↓reduceIte,Nat.reduceLT,Nat.reduceLeDiff,Nat.reduceAdd,Nat.reduceSub,Nat.reduceMul,Nat.reduceEqDiff,reduceCtorEq,Int.reduceToNat,Int.reduceEq,Int.reduceBEq,Int.reduceBNe,Int.reduceLT,Int.reduceLE,Int.reduceNeg,Int.reduceAdd,Int.reduceSub,Int.reduceMul,Int.reduceGE,Int.reduceGT,endO,ltA,ltS]
 refine loopI (ι:={ i:Nat // i≤L.thr.length }) (fun i=>⟨44,[(1,.c (.v (.int .i64 o))),(2,.c (.ptr (3,0,0) 0)),(5,.c (.sl (4,0,0) 3 0 (turnsT L o i.1).length none)),(10,.c (.v (.int .i64 L.thr.length))),(11,.c (.v (.int .i64 (i.1:Nat))))],tuS (turnsT L o i.1),ltA 0 L,[],5⟩)
  (fun i=>L.thr.length - i.1) ⟨0,by omega⟩ ?_ ?_
 ·refine le_tr (le_nilown (tmps':=[(1,.c (.v (.int .i64 o))),(2,.c (.ptr (3,0,0) 0)),(5,.c (.sl (4,0,0) 3 0 0 none)),(10,.c (.v (.int .i64 L.thr.length))),(11,.c (.v (.int .i64 0)))]) 3 44 (ats Tn.enc [] tn0) (by simp [TmpsNil,look]) rfl) ?_
  exact le_ren id rfl rfl (by simp [TmpsLe,look,SV.ren,SC.ren,idσ,SV.okN,SC.okN,turnsT]) (by simp [tuS,turnsT,OwnLe,BlkLeO,BlkLe,atN,look,Fm.get,idσ,SC.renL,SC.ren,SC.okL,SC.okN,renL_v,okL_v,ren_ats,ok_ats]) (by simp +contextual [ltA,ArrsLe,ArrLeO,atN,look,Fm.get,idσ,arrLe_of,arrLe_0,arrLe_nest]) rfl
 rintro ⟨i,hi⟩
 simp (maxSteps:=2000000) only [go_sem,↓reduceIte,Nat.reduceLT,Nat.reduceLeDiff,Nat.reduceAdd,Nat.reduceSub,Nat.reduceMul,Nat.reduceEqDiff,reduceCtorEq,Int.reduceToNat,Int.reduceEq,Int.reduceBEq,Int.reduceBNe,Int.reduceLT,Int.reduceLE,Int.reduceNeg,Int.reduceAdd,Int.reduceSub,Int.reduceMul,Int.reduceGE,Int.reduceGT,endO,tuS,ltA]
 refine both (fun hlt=>?_) (fun hge=>?_)
 ·rw [decide_eq_true_eq] at hlt
  have hlt:i<L.thr.length:=by omega
  have hl:=turnsT_len (o:=o) hL i
  have e0:((i:Nat):Int)=((i:Nat):Int):=rfl
  by_cases o2:o=2
  ·have dl:turnsT L o (i+1)=turnsT L o i++[(⟨i,false,0⟩:Tn)]++[⟨i,true,0⟩]:=by simp [turnsT,thrL,o2]
   have d2:(o == 2)=true:=by simpa using o2
   simp (maxSteps:=2000000) only [d2,go_sem,↓reduceIte,Nat.reduceLT,Nat.reduceLeDiff,Nat.reduceAdd,Nat.reduceSub,Nat.reduceMul,Nat.reduceEqDiff,reduceCtorEq,Int.reduceToNat,Int.reduceEq,Int.reduceBEq,Int.reduceBNe,Int.reduceLT,Int.reduceLE,Int.reduceNeg,Int.reduceAdd,Int.reduceSub,Int.reduceMul,Int.reduceGE,Int.reduceGT,endO]
   refine And.intro (by decide) (And.intro ⟨Nat.le_refl _,fitT (by omega)⟩ (And.intro (by decide) (And.intro ⟨Nat.le_refl _,fitT (by omega)⟩ ?_)))
   rw [wr_succ (by omega)]
   refine backI ⟨i+1,by omega⟩ (by simp only;omega) (le_ren (fun j=>if j=4 then 8 else j) rfl rfl ?_ ?_ (by simp +contextual [ltA,ArrsLe,ArrLeO,atN,look,Fm.get,idσ,arrLe_of,arrLe_0,arrLe_nest]) rfl)
   ·simp [TmpsLe,look,SV.ren,SC.ren,idσ,SV.okN,SC.okN,dl]
   ·show OwnLe _ _ _ (tuS (turnsT L o (i+1)))
    rw [dl]
    exact tu_grow (j:=8) (by decide) (by simp) rfl rfl (ats_push (d:=tn0) rfl (by simp) (push_tn rfl rfl) rfl)
  have d2:(o == 2)=false:=by simpa using o2
  by_cases o3:o=3
  ·have dl:turnsT L o (i+1)=turnsT L o i++[(⟨i,false,0⟩:Tn)]++outsL i L.words.length:=by simp [turnsT,thrL,o3]
   have d3:(o == 3)=true:=by simpa using o3
   simp (maxSteps:=2000000) only [d2,d3,go_sem,↓reduceIte,Nat.reduceLT,Nat.reduceLeDiff,Nat.reduceAdd,Nat.reduceSub,Nat.reduceMul,Nat.reduceEqDiff,reduceCtorEq,Int.reduceToNat,Int.reduceEq,Int.reduceBEq,Int.reduceBNe,Int.reduceLT,Int.reduceLE,Int.reduceNeg,Int.reduceAdd,Int.reduceSub,Int.reduceMul,Int.reduceGE,Int.reduceGT,endO]
   refine And.intro (by decide) (And.intro ⟨Nat.le_refl _,fitT (by omega)⟩ ?_)
   refine loopI (ι:={ a:Nat // a≤L.words.length }) (fun a=>⟨44,[(1,.c (.v (.int .i64 o))),(2,.c (.ptr (3,0,0) 0)),(5,.c (.sl (4,0,0) 3 0 (turnsT L o i++[(⟨i,false,0⟩:Tn)]++outsL i a.1).length none)),(10,.c (.v (.int .i64 L.thr.length))),(11,.c (.v (.int .i64 i))),(6,.c (.v (.int .i64 i))),(31,.c (.v (.int .i64 L.words.length))),(32,.c (.v (.int .i64 (a.1:Nat))))],tuS (turnsT L o i++[(⟨i,false,0⟩:Tn)]++outsL i a.1),ltA 0 L,[],5⟩)
    (fun a=>L.words.length - a.1) ⟨0,by omega⟩ (le_ren (fun j=>if j=4 then 6 else j) rfl rfl ?_ ?_ (by simp +contextual [ltA,ArrsLe,ArrLeO,atN,look,Fm.get,idσ,arrLe_of,arrLe_0,arrLe_nest]) rfl) ?_
   ·simp [TmpsLe,look,SV.ren,SC.ren,idσ,SV.okN,SC.okN,outsL]
   ·simp only [outsL,List.append_nil]
    exact tu_grow (j:=6) (by decide) (by simp) rfl rfl (push_tn rfl rfl)
   rintro ⟨a,ha⟩
   have hol:=outsL_len i a
   simp (maxSteps:=2000000) only [go_sem,↓reduceIte,Nat.reduceLT,Nat.reduceLeDiff,Nat.reduceAdd,Nat.reduceSub,Nat.reduceMul,Nat.reduceEqDiff,reduceCtorEq,Int.reduceToNat,Int.reduceEq,Int.reduceBEq,Int.reduceBNe,Int.reduceLT,Int.reduceLE,Int.reduceNeg,Int.reduceAdd,Int.reduceSub,Int.reduceMul,Int.reduceGE,Int.reduceGT,endO,tuS,ltA]
   refine both (fun hlta=>?_) (fun hgea=>?_)
   ·rw [decide_eq_true_eq] at hlta
    have hlta:a<L.words.length:=by omega
    have hll:(turnsT L o i++[(⟨i,false,0⟩:Tn)]++outsL i a).length=(turnsT L o i).length+1+a:=by simp [hol];omega
    generalize hX:turnsT L o i++[(⟨i,false,0⟩:Tn)]++outsL i a=X at hll ⊢
    have hX2:turnsT L o i++[(⟨i,false,0⟩:Tn)]++outsL i (a+1)=X++[⟨i,true,a⟩]:=by rw [← hX];simp [outsL]
    refine And.intro (by decide) (And.intro ⟨Nat.le_refl _,fitT (by omega)⟩ ?_)
    rw [wr_succ (by omega)]
    refine backI ⟨a+1,by omega⟩ (by simp only;omega) (le_ren (fun j=>if j=4 then 6 else j) rfl rfl ?_ ?_ (by simp +contextual [ltA,ArrsLe,ArrLeO,atN,look,Fm.get,idσ,arrLe_of,arrLe_0,arrLe_nest]) rfl)
    ·simp [TmpsLe,look,SV.ren,SC.ren,idσ,SV.okN,SC.okN,hX2]
    ·show OwnLe _ _ _ (tuS (turnsT L o i++[(⟨i,false,0⟩:Tn)]++outsL i (a+1)))
     rw [hX2]
     exact tu_grow (j:=6) (by decide) (by simp) rfl rfl (push_tn rfl rfl)
   ·rw [decide_eq_false_iff_not] at hgea
    have hin:a=L.words.length:=by omega
    subst hin
    rw [← dl,wr_succ (by omega)]
    exact backI ⟨i+1,by omega⟩ (by simp only;omega) (le_ren id rfl rfl (by simp [TmpsLe,look,SV.ren,SC.ren,SC.renL,ren1L,ren1,idσ,SV.okN,SC.okN,SC.okL,ok1L]) (by simp [tuS,OwnLe,BlkLeO,BlkLe,atN,look,Fm.get,idσ,SC.renL,SC.ren,SC.okL,SC.okN,renL_v,okL_v,ren_ats,ok_ats]) (by simp +contextual [ltA,ArrsLe,ArrLeO,atN,look,Fm.get,idσ,arrLe_of,arrLe_0,arrLe_nest]) rfl)
  have d3:(o == 3)=false:=by simpa using o3
  have dl:turnsT L o (i+1)=turnsT L o i++[(⟨i,false,0⟩:Tn)]:=by simp [turnsT,thrL,o2,o3]
  simp (maxSteps:=2000000) only [d2,d3,go_sem,↓reduceIte,Nat.reduceLT,Nat.reduceLeDiff,Nat.reduceAdd,Nat.reduceSub,Nat.reduceMul,Nat.reduceEqDiff,reduceCtorEq,Int.reduceToNat,Int.reduceEq,Int.reduceBEq,Int.reduceBNe,Int.reduceLT,Int.reduceLE,Int.reduceNeg,Int.reduceAdd,Int.reduceSub,Int.reduceMul,Int.reduceGE,Int.reduceGT,endO]
  refine And.intro (by decide) (And.intro ⟨Nat.le_refl _,fitT (by omega)⟩ ?_)
  rw [wr_succ (by omega)]
  refine backI ⟨i+1,by omega⟩ (by simp only;omega) (le_ren (fun j=>if j=4 then 6 else j) rfl rfl ?_ ?_ (by simp +contextual [ltA,ArrsLe,ArrLeO,atN,look,Fm.get,idσ,arrLe_of,arrLe_0,arrLe_nest]) rfl)
  ·simp [TmpsLe,look,SV.ren,SC.ren,idσ,SV.okN,SC.okN,dl]
  ·show OwnLe _ _ _ (tuS (turnsT L o (i+1)))
   rw [dl]
   exact tu_grow (j:=6) (by decide) (by simp) rfl rfl (push_tn rfl rfl)
 ·rw [decide_eq_false_iff_not] at hge
  have hin:i=L.thr.length:=by omega
  subst hin
  exact retList' 4 _ _ rfl rfl (Nat.le_refl _) fun _ _=>rfl
end Go.Proofs.Ytmcpdafmkkjlcaa.Z
namespace Go.Proofs.Ytmcpdafmkkjlcaa.Z
open Go Go.RowKit
instance:DecidableEq Pd:=fun a b=>decidable_of_iff (a.addr=b.addr∧a.val=b.val) ⟨fun h=>by cases a;cases b;simp_all,fun h=>by subst h;exact ⟨rfl,rfl⟩⟩
instance:DecidableEq R4:=fun a b=>decidable_of_iff (a.a=b.a∧a.b=b.b∧a.c=b.c∧a.d=b.d) ⟨fun h=>by cases a;cases b;simp_all,fun h=>by subst h;exact ⟨rfl,rfl,rfl,rfl⟩⟩
instance:DecidableEq LS:=fun a b=>decidable_of_iff (a.words=b.words∧a.regs=b.regs∧a.places=b.places∧a.bufs=b.bufs) ⟨fun h=>by cases a;cases b;simp_all,fun h=>by subst h;exact ⟨rfl,rfl,rfl,rfl⟩⟩
structure Sp where
 s:LS
 frm:Int
 tn:Tn
def ls0:LS:=⟨[],[],[],[]⟩
def sp0:Sp:=⟨ls0,0,tn0⟩
def bfsI (L:Lt) (o:Int) (i:Nat):List Tn→List Sp→Option (List Sp)
 | [],l=>some l
 | t :: ts,l =>
  if (turnS L o (l.getD i sp0).s t).2=true∧(turnS L o (l.getD i sp0).s t).1 ∉ l.map (·.s) then
   (if l.length=30000 then none else bfsI L o i ts (l++[⟨(turnS L o (l.getD i sp0).s t).1,i,t⟩]))
  else bfsI L o i ts l
def bfsO (L:Lt) (o:Int):Nat→Nat→List Sp→Option (List Sp)
 | 0,_,l=>some l
 | n+1,i,l=>if i<l.length then (bfsI L o i (turnsL L o) l).bind (bfsO L o n (i+1)) else some l
def sp1 (L:Lt):Sp:=⟨beginS L,-1,tn0⟩
def bfs (L:Lt) (o:Int):Option (List Sp):=bfsO L o 30001 0 [sp1 L]
structure WkOk (L:Lt) (o:Int) (l:List Sp):Prop where
 len:1≤l.length∧l.length≤30000
 wf:∀ x∈l,WfT L o x.s
theorem WkOk.at {L:Lt} {o:Int} {l:List Sp} (h:WkOk L o l) {i:Nat} (hi:i<l.length):WfT L o (l.getD i sp0).s:=h.wf _ (by rw [List.getD_eq_getElem?_getD,List.getElem?_eq_getElem hi];exact List.getElem_mem hi)
theorem wkOk_begin {L:Lt} {o:Int}:WkOk L o [sp1 L]:=⟨by simp,fun x hx=>by rw [List.mem_singleton] at hx;subst hx;exact begin_wfT o⟩
theorem wkOk_push {L:Lt} {o:Int} {l:List Sp} {x:Sp} (h:WkOk L o l) (hl:l.length≠30000) (hx:WfT L o x.s):WkOk L o (l++[x]) :=
 ⟨by have:=h.len;simp;omega,fun y hy=>by
  rcases List.mem_append.1 hy with hy | hy
  ·exact h.wf y hy
  ·rw [List.mem_singleton] at hy;subst hy;exact hx⟩
def seenF (l:List Sp) (a:List Int):Option Int:=if a∈l.map (fun x=>picS x.s) then some 1 else none
theorem seen_iff {L:Lt} {o:Int} {l:List Sp} {s:LS} (h:WkOk L o l) (hs:WfT L o s):picS s∈l.map (fun x=>picS x.s)↔s∈l.map (·.s):=by
 simp only [List.mem_map]
 constructor
 ·rintro ⟨x,hx,e⟩
  exact ⟨x,hx,pic_inj (h.wf x hx).shp hs.shp e⟩
 ·rintro ⟨x,hx,e⟩
  exact ⟨x,hx,by rw [e]⟩
theorem seen_push {l:List Sp} {x:Sp} (a:List Int):seenF (l++[x]) a=if a=picS x.s then some 1 else seenF l a:=by
 unfold seenF
 rw [List.map_append,List.map_cons,List.map_nil]
 by_cases h:a=picS x.s
 ·rw [if_pos h,if_pos (by simp [h])]
 ·rw [if_neg h]
  by_cases h2:a∈l.map fun x=>picS x.s
  ·rw [if_pos (List.mem_append_left _ h2),if_pos h2]
  ·rw [if_neg (by simp only [List.mem_append,List.mem_singleton];rintro (q | q);exact h2 q;exact h q),if_neg h2]
end Go.Proofs.Ytmcpdafmkkjlcaa.Z
namespace Go.Proofs.Ytmcpdafmkkjlcaa.Z
open Go Go.RowKit
theorem less_irr:∀ l,lessL l l=false
 | []=>rfl
 | a :: l=>by simp [lessL,less_irr l]
theorem less_eq:∀ {l m:List Int},lessL l m=false→lessL m l=false→l=m
 | [],[],_,_=>rfl
 | [],_ :: _,h,_=>by simp [lessL] at h
 | _ :: _,[],_,h=>by simp [lessL] at h
 | a :: l,b :: m,h1,h2=>by
  by_cases e:a=b
  ·subst e
   simp [lessL] at h1 h2
   rw [less_eq h1 h2]
  ·simp only [lessL] at h1 h2
   rw [if_pos e] at h1
   rw [if_pos (fun q=>e q.symm)] at h2
   simp only [decide_eq_false_iff_not] at h1 h2
   omega
end Go.Proofs.Ytmcpdafmkkjlcaa.Z
namespace Go.Proofs.Ytmcpdafmkkjlcaa.Z
open Go Go.RowKit
structure WkNd (L:Lt) (o:Int) (l:List Sp):Prop extends WkOk L o l where
 nd:(l.map (·.s)).Nodup
theorem bfsI_ok {L:Lt} {o:Int} (hL:checkB L=true) {i:Nat}:∀ {ts:List Tn} {l l' : List Sp},WkNd L o l→i<l.length→bfsI L o i ts l=some l'→WkNd L o l'∧i<l'.length
 | [],l,l',h,hi,e=>by
  simp only [bfsI,Option.some.injEq] at e
  subst e;exact ⟨h,hi⟩
 | t :: ts,l,l',h,hi,e=>by
  simp only [bfsI] at e
  split at e
  ·next hc =>
   split at e
   ·cases e
   ·next hl =>
    refine bfsI_ok hL ⟨wkOk_push h.toWkOk hl (turn_wfT hL (h.toWkOk.at hi) t),?_⟩ (by simp;omega) e
    rw [List.map_append,List.map_cons,List.map_nil,List.nodup_append]
    exact ⟨h.nd,by simp,fun a ha b hb q=>by
     rw [List.mem_singleton] at hb
     subst hb
     subst q
     exact hc.2 ha⟩
  ·exact bfsI_ok hL h hi e
theorem bfsO_ok {L:Lt} {o:Int} (hL:checkB L=true):∀ {n i:Nat} {l l' : List Sp},WkNd L o l→bfsO L o n i l=some l'→WkNd L o l'
 | 0,i,l,l',h,e=>by
  simp only [bfsO,Option.some.injEq] at e
  subst e;exact h
 | n+1,i,l,l',h,e=>by
  simp only [bfsO] at e
  split at e
  ·next hi =>
   cases hb:bfsI L o i (turnsL L o) l with
   | none=>rw [hb] at e;cases e
   | some l2 =>
    rw [hb] at e
    exact bfsO_ok hL (bfsI_ok hL h hi hb).1 e
  ·simp only [Option.some.injEq] at e
   subst e;exact h
theorem bfs_ok {L:Lt} {o:Int} (hL:checkB L=true) {l:List Sp} (h:bfs L o=some l):WkNd L o l :=
 bfsO_ok hL ⟨wkOk_begin,by simp⟩ h
theorem fin_inj {L:Lt} {o:Int} {s s' : LS} (h:WfT L o s) (h' : WfT L o s') (hf:finB L s=true) (hf' : finB L s' = true) (e:endF s=endF s'):s=s':=by
 have g:=finB_iff.1 hf
 have g':=finB_iff.1 hf'
 have hw:=h.wf;have hw':=h'.wf
 cases s with | mk w r p b =>
 cases s' with | mk w' r' p' b' =>
 simp only [endF,Fn.mk.injEq] at e
 obtain ⟨rfl,rfl⟩:=e
 have ep:p=p':=by
  refine List.ext_getElem (by have:=hw.p;have:=hw'.p;simp only at *;omega) fun i h1 h2=>?_
  have hi:i<L.thr.length:=by have:=hw.p;simp only at this;omega
  have k1:=(g i hi).1;have k2:=(g' i hi).1
  simp only [List.getD_eq_getElem?_getD,List.getElem?_eq_getElem h1,List.getElem?_eq_getElem h2,Option.getD_some] at k1 k2
  rw [k1,k2]
 have eb:b=b':=by
  refine List.ext_getElem (by have:=hw.b;have:=hw'.b;simp only at *;omega) fun i h1 h2=>?_
  have hi:i<L.thr.length:=by have:=hw.b;simp only at this;omega
  have k1:=(g i hi).2;have k2:=(g' i hi).2
  simp only [List.getD_eq_getElem?_getD,List.getElem?_eq_getElem h1,List.getElem?_eq_getElem h2,Option.getD_some] at k1 k2
  rw [List.eq_nil_of_length_eq_zero k1,List.eq_nil_of_length_eq_zero k2]
 rw [ep,eb]
def catR:List R4→List Int
 | []=>[]
 | r :: l=>r4L r++catR l
theorem catR_app:∀ l m:List R4,catR (l++m)=catR l++catR m
 | [],m=>rfl
 | r :: l,m=>by simp [catR,catR_app l m]
theorem numT_take (f:Fn):∀ n,n≤f.regs.length→numT f n=f.words++catR (f.regs.take n)
 | 0,_=>by simp [numT,catR]
 | n+1,h=>by
  rw [numT,numT_take f n (by omega),List.take_succ_eq_append_getElem (by omega),catR_app,List.append_assoc]
  simp [catR,List.getD_eq_getElem?_getD,List.getElem?_eq_getElem (show n<f.regs.length by omega)]
theorem numF_eq (f:Fn):numF f=f.words++catR f.regs:=by rw [numF,numT_take f _ (Nat.le_refl _),List.take_length]
theorem ordR_eq:∀ {l m:List R4},l.length=m.length→ordR l m=cmpL (catR l) (catR m)
 | [],[],_=>by simp [ordR,catR,cmpL]
 | [],_ :: _,h=>by simp at h
 | _ :: _,[],h=>by simp at h
 | x :: l,y :: m,h=>by
  simp only [ordR,catR]
  rw [cmp_app (by simp [r4L]),ordR_eq (by simpa using h)]
theorem ordF_eq {a b:Fn} (h1:a.words.length=b.words.length) (h2:a.regs.length=b.regs.length):ordF a b=cmpL (numF a) (numF b):=by
 rw [ordF,numF_eq,numF_eq,cmp_app h1,ordR_eq h2]
theorem r4L_inj {x y:R4} (h:r4L x=r4L y):x=y:=by
 cases x;cases y;simp [r4L] at h;obtain ⟨rfl,rfl,rfl,rfl⟩:=h;rfl
theorem catR_inj:∀ {l m:List R4},l.length=m.length→catR l=catR m→l=m
 | [],[],_,_=>rfl
 | [],_ :: _,h,_=>by simp at h
 | _ :: _,[],h,_=>by simp at h
 | x :: l,y :: m,h,e=>by
  simp only [catR] at e
  obtain ⟨e1,e2⟩:=List.append_inj e (by simp [r4L])
  rw [r4L_inj e1,catR_inj (by simpa using h) e2]
theorem numF_inj {a b:Fn} (h1:a.words.length=b.words.length) (h2:a.regs.length=b.regs.length) (e:numF a=numF b):a=b:=by
 rw [numF_eq,numF_eq] at e
 obtain ⟨e1,e2⟩:=List.append_inj e h1
 cases a;cases b
 simp only at *
 rw [e1,catR_inj h2 e2]
def SameSh (l:List Fn):Prop:=∀ a∈l,∀ b∈l,a.words.length=b.words.length∧a.regs.length=b.regs.length
def SrtF (l:List Fn):Prop:=l.Pairwise fun a b=>lessL (numF a) (numF b)=true
theorem same_iff {a b:Fn} (h:a.words.length=b.words.length∧a.regs.length=b.regs.length):sameF a b=true↔a=b:=by
 unfold sameF
 rw [decide_eq_true h,Bool.true_and]
 constructor
 ·intro e
  simp only [Bool.and_eq_true,Bool.not_eq_true'] at e
  exact numF_inj h.1 h.2 (less_eq e.1 e.2)
 ·rintro rfl
  simp [less_irr]
theorem insF_perm {x:Fn}:∀ {l:List Fn},x ∉ l→(∀ y∈l,y.words.length=x.words.length∧y.regs.length=x.regs.length)→(insF x l).Perm (x :: l)
 | [],_,_=>List.Perm.refl _
 | y :: l,h,hs=>by
  simp only [insF]
  split
  ·exact ((insF_perm (fun q=>h (List.mem_cons_of_mem _ q)) fun z hz=>hs z (List.mem_cons_of_mem _ hz)).cons y).trans (List.Perm.swap x y l)
  ·split
   ·next e =>
    rw [same_iff (hs y List.mem_cons_self)] at e
    subst e
    exact absurd List.mem_cons_self h
   ·exact List.Perm.refl _
theorem insF_srt {x:Fn}:∀ {l:List Fn},x ∉ l→(∀ y∈l,y.words.length=x.words.length∧y.regs.length=x.regs.length)→SrtF l→SrtF (insF x l)
 | [],_,_,_=>List.pairwise_singleton _ _
 | y :: l,h,hs,hl=>by
  have hl2:=List.pairwise_cons.1 hl
  simp only [insF]
  split
  ·next h1 =>
   refine List.pairwise_cons.2 ⟨fun z hz=>?_,insF_srt (fun q=>h (List.mem_cons_of_mem _ q)) (fun z hz=>hs z (List.mem_cons_of_mem _ hz)) hl2.2⟩
   have hp:=(insF_perm (fun q=>h (List.mem_cons_of_mem _ q)) fun z hz=>hs z (List.mem_cons_of_mem _ hz)).mem_iff.1 hz
   rcases List.mem_cons.1 hp with rfl | hz
   ·exact h1
   ·exact hl2.1 z hz
  ·next h1 =>
   split
   ·exact hl
   ·next h2 =>
    have hxy:lessL (numF x) (numF y)=true:=by
     cases e:lessL (numF x) (numF y) with
     | true=>rfl
     | false =>
      have hh:=hs y List.mem_cons_self
      have:=numF_inj hh.1.symm hh.2.symm (less_eq e (by simpa using h1))
      subst this
      exact absurd List.mem_cons_self h
    refine List.pairwise_cons.2 ⟨fun z hz=>?_,hl⟩
    rcases List.mem_cons.1 hz with rfl | hz
    ·exact hxy
    ·exact less_trans hxy (hl2.1 z hz)
theorem insF_fold:∀ {ys acc:List Fn},(ys++acc).Nodup→SameSh (ys++acc)→SrtF acc→(ys.foldl (fun out x=>insF x out) acc).Perm (ys++acc)∧SrtF (ys.foldl (fun out x=>insF x out) acc)
 | [],acc,_,_,h=>⟨List.Perm.refl _,h⟩
 | y :: ys,acc,hn,hs,h=>by
  simp only [List.foldl_cons]
  have hn2:=hn
  rw [List.cons_append,List.nodup_cons] at hn2
  have hy:y ∉ acc:=fun q=>hn2.1 (List.mem_append_right _ q)
  have hs1:∀ z∈acc,z.words.length=y.words.length∧z.regs.length=y.regs.length:=fun z hz=>hs z (List.mem_append_right _ hz) y (List.mem_append_left _ List.mem_cons_self)
  have hp:=insF_perm hy hs1
  have hpp:(ys++insF y acc).Perm (y :: ys++acc):=(List.Perm.append_left ys hp).trans List.perm_middle
  obtain ⟨h1,h2⟩:=insF_fold (hpp.nodup_iff.2 hn) (fun a ha b hb=>hs a (hpp.mem_iff.1 ha) b (hpp.mem_iff.1 hb)) (insF_srt hy hs1 h)
  exact ⟨h1.trans hpp,h2⟩
theorem srt_unique {l m:List Fn} (hp:l.Perm m) (hl:SrtF l) (hm:SrtF m):l=m :=
 List.Perm.eq_of_pairwise (le:=fun a b=>lessL (numF a) (numF b)=true) (fun a b _ _ h1 h2=>by
  have:=less_trans h1 h2
  rw [less_irr] at this
  cases this) hl hm hp
theorem finsL_eq (L:Lt) (l:List LS):finsL L l=((l.filter (finB L)).map endF).foldl (fun out x=>insF x out) []:=by
 rw [List.foldl_map];rfl
theorem ends_ok {L:Lt} {o:Int} {l:List LS} (hw:∀ s∈l,WfT L o s) (hn:l.Nodup):((l.filter (finB L)).map endF).Nodup∧SameSh ((l.filter (finB L)).map endF):=by
 refine ⟨?_,fun a ha b hb=>?_⟩
 ·rw [List.nodup_iff_pairwise_ne,List.pairwise_map]
  refine List.Pairwise.imp_of_mem ?_ (hn.filter (finB L))
  intro a b ha hb hne e
  rw [List.mem_filter] at ha hb
  exact hne (fin_inj (hw a ha.1) (hw b hb.1) ha.2 hb.2 e)
 ·rw [List.mem_map] at ha hb
  obtain ⟨s,hs,rfl⟩:=ha
  obtain ⟨t,ht,rfl⟩:=hb
  rw [List.mem_filter] at hs ht
  have h1:=(hw s hs.1).wf;have h2:=(hw t ht.1).wf
  exact ⟨h1.w.trans h2.w.symm,h1.r.trans h2.r.symm⟩
theorem finsL_ok {L:Lt} {o:Int} {l:List LS} (hw:∀ s∈l,WfT L o s) (hn:l.Nodup):(finsL L l).Perm ((l.filter (finB L)).map endF)∧SrtF (finsL L l):=by
 rw [finsL_eq]
 obtain ⟨h1,h2⟩:=ends_ok hw hn
 obtain ⟨h3,h4⟩:=insF_fold (ys:=(l.filter (finB L)).map endF) (acc:=[]) (by rw [List.append_nil];exact h1) (by rw [List.append_nil];exact h2) List.Pairwise.nil
 rw [List.append_nil] at h3
 exact ⟨h3,h4⟩
def idxL (L:Lt) (l:List Sp):List Nat:=(List.range l.length).filter fun k=>finB L (l.getD k sp0).s
def ordI (l:List Sp) (a b:Nat):Int:=ordF (endF (l.getD a sp0).s) (endF (l.getD b sp0).s)
theorem idx_map (L:Lt) (l:List Sp):(idxL L l).map (fun k=>endF (l.getD k sp0).s)=((l.map (·.s)).filter (finB L)).map endF:=by
 have e:l.map (·.s)=(List.range l.length).map fun k=>(l.getD k sp0).s:=by
  refine List.ext_getElem (by simp) fun i h1 h2=>?_
  simp at h1
  simp [List.getD_eq_getElem?_getD,h1]
 rw [e,List.filter_map,List.map_map]
 rfl
theorem idx_lt {L:Lt} {l:List Sp} {k:Nat} (h:k∈idxL L l):k<l.length∧finB L (l.getD k sp0).s=true:=by
 rw [idxL,List.mem_filter,List.mem_range] at h;exact h
theorem idx_inj {L:Lt} {o:Int} {l:List Sp} (h:WkNd L o l) {a b:Nat} (ha:a∈idxL L l) (hb:b∈idxL L l) (e:endF (l.getD a sp0).s=endF (l.getD b sp0).s):a=b:=by
 obtain ⟨h1,h2⟩:=idx_lt ha
 obtain ⟨g1,g2⟩:=idx_lt hb
 have:=fin_inj (h.toWkOk.at h1) (h.toWkOk.at g1) h2 g2 e
 have hn:=h.nd
 rw [List.nodup_iff_pairwise_ne,List.pairwise_iff_getElem] at hn
 have key:∀ i j (hi:i<l.length) (hj:j<l.length),(l.getD i sp0).s=(l.getD j sp0).s→¬ i<j:=fun i j hi hj q hij=>by
  refine hn i j (by simpa using hi) (by simpa using hj) hij ?_
  simp only [List.getElem_map]
  simpa only [List.getD_eq_getElem?_getD,List.getElem?_eq_getElem hi,List.getElem?_eq_getElem hj,Option.getD_some] using q
 rcases Nat.lt_trichotomy a b with q | q | q
 ·exact absurd q (key a b h1 g1 this)
 ·exact q
 ·exact absurd q (key b a g1 h1 this.symm)
theorem shp_idx {L:Lt} {o:Int} {l:List Sp} (h:WkNd L o l) {a b:Nat} (ha:a<l.length) (hb:b<l.length):(endF (l.getD a sp0).s).words.length=(endF (l.getD b sp0).s).words.length∧(endF (l.getD a sp0).s).regs.length=(endF (l.getD b sp0).s).regs.length:=by
 have h1:=(h.toWkOk.at ha).wf;have h2:=(h.toWkOk.at hb).wf
 exact ⟨h1.w.trans h2.w.symm,h1.r.trans h2.r.symm⟩
theorem ordI_eq {L:Lt} {o:Int} {l:List Sp} (h:WkNd L o l) {a b:Nat} (ha:a<l.length) (hb:b<l.length):ordI l a b=cmpL (numF (endF (l.getD a sp0).s)) (numF (endF (l.getD b sp0).s)):=by
 obtain ⟨h1,h2⟩:=shp_idx h ha hb
 exact ordF_eq h1 h2
theorem srt_idx {L:Lt} {o:Int} {l:List Sp} (h:WkNd L o l) {m:List Nat} (hp:m.Perm (idxL L l)) (hs:m.Pairwise fun a b=>ordI l a b≤0):m.map (fun k=>endF (l.getD k sp0).s)=finsL L (l.map (·.s)):=by
 have hw:∀ s∈l.map (·.s),WfT L o s:=fun s hs=>by
  rw [List.mem_map] at hs
  obtain ⟨x,hx,rfl⟩:=hs
  exact h.wf x hx
 obtain ⟨h1,h2⟩:=finsL_ok hw h.nd
 refine srt_unique ?_ ?_ h2
 ·refine (hp.map _).trans ?_
  rw [idx_map]
  exact h1.symm
 ·unfold SrtF
  rw [List.pairwise_map]
  have hnd:m.Nodup:=hp.nodup_iff.2 (List.nodup_range.filter _)
  refine List.Pairwise.imp_of_mem ?_ (hs.and hnd)
  intro a b ha hb hab
  obtain ⟨hab,hne⟩:=hab
  have ha':=hp.mem_iff.1 ha;have hb':=hp.mem_iff.1 hb
  rw [ordI_eq h (idx_lt ha').1 (idx_lt hb').1] at hab
  rw [← cmp_less]
  have:cmpL (numF (endF (l.getD a sp0).s)) (numF (endF (l.getD b sp0).s))≠0:=fun q=>by
   rw [cmp_zero] at q
   obtain ⟨k1,k2⟩:=shp_idx h (idx_lt ha').1 (idx_lt hb').1
   exact hne (idx_inj h ha' hb' (numF_inj k1 k2 q))
  omega
end Go.Proofs.Ytmcpdafmkkjlcaa.Z
namespace Go.Proofs.Ytmcpdafmkkjlcaa.Z
open Go Go.RowKit
inductive Rch (L:Lt) (o:Int):LS→Prop
 | beg:Rch L o (beginS L)
 | step {s:LS} (t:Tn):Rch L o s→t∈turnsL L o→(turnS L o s t).2=true→Rch L o (turnS L o s t).1
theorem getD_pre {α:Type} {l l' : List α} {d:α} (h:l <+: l') {i:Nat} (hi:i<l.length):l'.getD i d=l.getD i d:=by
 obtain ⟨r,rfl⟩:=h
 rw [List.getD_eq_getElem?_getD,List.getElem?_append_left hi,List.getD_eq_getElem?_getD]
theorem bfsI_spec {L:Lt} {o:Int} {i:Nat}:∀ {ts:List Tn} {l l' : List Sp},i<l.length→bfsI L o i ts l=some l'→l <+: l'∧(∀ t∈ts,(turnS L o (l.getD i sp0).s t).2=true→(turnS L o (l.getD i sp0).s t).1∈l'.map (·.s))∧∀ x∈l',x∈l∨∃ t∈ts,(turnS L o (l.getD i sp0).s t).2=true∧x.s=(turnS L o (l.getD i sp0).s t).1
 | [],l,l',hi,e=>by
  simp only [bfsI,Option.some.injEq] at e
  subst e
  exact ⟨List.prefix_rfl,fun t ht=>(by cases ht),fun x hx=>Or.inl hx⟩
 | t :: ts,l,l',hi,e=>by
  simp only [bfsI] at e
  split at e
  ·next hc =>
   split at e
   ·cases e
   ·have hp:l <+: l++[(⟨(turnS L o (l.getD i sp0).s t).1,i,t⟩:Sp)]:=List.prefix_append _ _
    obtain ⟨h1,h2,h3⟩:=bfsI_spec (by simp;omega) e
    rw [getD_pre hp hi] at h2 h3
    refine ⟨hp.trans h1,fun t' ht' hd=>?_,fun x hx=>?_⟩
    ·rcases List.mem_cons.1 ht' with rfl | ht'
     ·rw [List.mem_map]
      exact ⟨⟨(turnS L o (l.getD i sp0).s t').1,i,t'⟩,h1.subset (by simp),rfl⟩
     ·exact h2 t' ht' hd
    ·rcases h3 x hx with h | ⟨t',ht',h⟩
     ·rcases List.mem_append.1 h with h | h
      ·exact Or.inl h
      ·rw [List.mem_singleton] at h
       subst h
       exact Or.inr ⟨t,List.mem_cons_self,hc.1,rfl⟩
     ·exact Or.inr ⟨t',List.mem_cons_of_mem _ ht',h⟩
  ·next hc =>
   obtain ⟨h1,h2,h3⟩:=bfsI_spec hi e
   refine ⟨h1,fun t' ht' hd=>?_,fun x hx=>?_⟩
   ·rcases List.mem_cons.1 ht' with rfl | ht'
    ·have hm:(turnS L o (l.getD i sp0).s t').1∈l.map (·.s):=Decidable.of_not_not fun q=>hc ⟨hd,q⟩
     rw [List.mem_map] at hm ⊢
     obtain ⟨x,hx,ex⟩:=hm
     exact ⟨x,h1.subset hx,ex⟩
    ·exact h2 t' ht' hd
   ·rcases h3 x hx with h | ⟨t',ht',h⟩
    ·exact Or.inl h
    ·exact Or.inr ⟨t',List.mem_cons_of_mem _ ht',h⟩
def ClosedT (L:Lt) (o:Int) (l:List Sp) (i:Nat):Prop:=∀ j,j<i→∀ t∈turnsL L o,(turnS L o (l.getD j sp0).s t).2=true→(turnS L o (l.getD j sp0).s t).1∈l.map (·.s)
theorem bfsO_spec {L:Lt} {o:Int} (hL:checkB L=true):∀ {n i:Nat} {l l' : List Sp},WkNd L o l→30001≤n+i→i≤l.length→ClosedT L o l i→(∀ x∈l,Rch L o x.s)→bfsO L o n i l=some l'→l <+: l'∧ClosedT L o l' l'.length∧∀ x∈l',Rch L o x.s
 | 0,i,l,l',hw,hn,hi,hc,hr,e=>by
  have:=hw.toWkOk.len
  omega
 | n + 1,i,l,l',hw,hn,hi,hc,hr,e=>by
  simp only [bfsO] at e
  split at e
  ·next hlt =>
   cases hb:bfsI L o i (turnsL L o) l with
   | none=>rw [hb] at e;cases e
   | some l2 =>
    rw [hb] at e
    simp only [Option.bind_some] at e
    obtain ⟨h1,h2,h3⟩:=bfsI_spec hlt hb
    have hlen:l.length≤l2.length:=h1.length_le
    have hcl:ClosedT L o l2 (i+1):=by
     intro j hj t ht hd
     have e1:l2.getD j sp0=l.getD j sp0:=getD_pre h1 (by omega)
     rw [e1] at hd ⊢
     rcases Nat.lt_or_ge j i with hji | hji
     ·have:=hc j hji t ht hd
      rw [List.mem_map] at this ⊢
      obtain ⟨x,hx,ex⟩:=this
      exact ⟨x,h1.subset hx,ex⟩
     ·have:j=i:=by omega
      subst this
      exact h2 t ht hd
    have hrr:∀ x∈l2,Rch L o x.s:=by
     intro x hx
     rcases h3 x hx with h | ⟨t,ht,hd,ex⟩
     ·exact hr x h
     ·rw [ex]
      refine Rch.step t (hr _ ?_) ht hd
      rw [List.getD_eq_getElem?_getD,List.getElem?_eq_getElem hlt]
      exact List.getElem_mem hlt
    obtain ⟨g1,g2,g3⟩:=bfsO_spec hL (bfsI_ok hL hw hlt hb).1 (by omega) (by omega) hcl hrr e
    exact ⟨h1.trans g1,g2,g3⟩
  ·next hlt =>
   simp only [Option.some.injEq] at e
   subst e
   have:i=l.length:=by omega
   subst this
   exact ⟨List.prefix_rfl,hc,hr⟩
theorem bfs_mem {L:Lt} {o:Int} (hL:checkB L=true) {l:List Sp} (h:bfs L o=some l) {s:LS}:s∈l.map (·.s)↔Rch L o s:=by
 obtain ⟨h1,h2,h3⟩:=bfsO_spec hL (n:=30001) (i:=0) ⟨wkOk_begin,by simp⟩ (by omega) (by simp) (fun j hj=>absurd hj (Nat.not_lt_zero _)) (fun x hx=>by rw [List.mem_singleton] at hx;subst hx;exact Rch.beg) h
 constructor
 ·intro hs
  rw [List.mem_map] at hs
  obtain ⟨x,hx,rfl⟩:=hs
  exact h3 x hx
 ·intro hs
  induction hs with
  | beg=>rw [List.mem_map];exact ⟨sp1 L,h1.subset (by simp),rfl⟩
  | step t _ ht hd ih =>
   rw [List.mem_map] at ih
   obtain ⟨x,hx,rfl⟩:=ih
   obtain ⟨j,hj,rfl⟩:=List.getElem_of_mem hx
   have:=h2 j hj t ht
   rw [List.getD_eq_getElem?_getD,List.getElem?_eq_getElem hj] at this
   exact this hd
theorem fins_mem {L:Lt} {o:Int} (hL:checkB L=true) {l:List Sp} (h:bfs L o=some l) {f:Fn}:f∈finsL L (l.map (·.s))↔∃ s,Rch L o s∧finB L s=true∧endF s=f:=by
 have hnd:=bfs_ok hL h
 have hw:∀ s∈l.map (·.s),WfT L o s:=fun s hs=>by
  rw [List.mem_map] at hs
  obtain ⟨x,hx,rfl⟩:=hs
  exact hnd.wf x hx
 rw [(finsL_ok hw hnd.nd).1.mem_iff,List.mem_map]
 constructor
 ·rintro ⟨s,hs,rfl⟩
  rw [List.mem_filter] at hs
  exact ⟨s,(bfs_mem hL h).1 hs.1,hs.2,rfl⟩
 ·rintro ⟨s,hs,hf,rfl⟩
  exact ⟨s,List.mem_filter.2 ⟨(bfs_mem hL h).2 hs,hf⟩,rfl⟩
theorem fins_eq {L L' : Lt} {o o' : Int} (hL:checkB L=true) (hL' : checkB L' = true) {l l' : List Sp} (h:bfs L o=some l) (h' : bfs L' o' = some l') (hm:∀ f,(∃ s,Rch L o s∧finB L s=true∧endF s=f)↔∃ s,Rch L' o' s∧finB L' s=true∧endF s=f):finsL L (l.map (·.s))=finsL L' (l'.map (·.s)):=by
 have hnd:=bfs_ok hL h
 have hnd':=bfs_ok hL' h'
 have hw:∀ s∈l.map (·.s),WfT L o s:=fun s hs=>by
  rw [List.mem_map] at hs
  obtain ⟨x,hx,rfl⟩:=hs
  exact hnd.wf x hx
 have hw' : ∀ s∈l'.map (·.s),WfT L' o' s:=fun s hs=>by
  rw [List.mem_map] at hs
  obtain ⟨x,hx,rfl⟩:=hs
  exact hnd'.wf x hx
 obtain ⟨h1,h2⟩:=finsL_ok hw hnd.nd
 obtain ⟨h1',h2'⟩:=finsL_ok hw' hnd'.nd
 have nd:∀ {m:List Fn},SrtF m→m.Nodup:=fun {m} hs=>by
  rw [List.nodup_iff_pairwise_ne]
  exact List.Pairwise.imp (fun {a b} hab q=>by rw [q,less_irr] at hab;cases hab) hs
 refine srt_unique ?_ h2 h2'
 refine (List.perm_ext_iff_of_nodup (nd h2) (nd h2')).2 fun f=>?_
 rw [fins_mem hL h,fins_mem hL' h']
 exact hm f
end Go.Proofs.Ytmcpdafmkkjlcaa.Z
namespace Go.Proofs.Ytmcpdafmkkjlcaa.Z
open Go Go.RowKit
def fenI:Ins:=⟨4,0,0,0,0,0,0⟩
def stN:List Ins→Nat
 | []=>0
 | c :: r=>(if c.kind=2 then 1 else 0)+stN r
def adjI (c:Ins) (r:List Ins):Ins:=if c.kind=7 then { c with cnt:=if c.cnt+stN (r.take c.cnt.toNat)≤10 then c.cnt+stN (r.take c.cnt.toNat) else 10 } else c
def fenT:List Ins→List Ins
 | []=>[]
 | c :: r=>if c.kind=2 then c :: fenI :: fenT r else adjI c r :: fenT r
def fenL (L:Lt):Lt:=⟨L.words,L.thr.map fenT⟩
theorem fenT_nil {r:List Ins}:fenT r=[]↔r=[]:=by
 cases r with
 | nil=>simp [fenT]
 | cons c r=>simp only [fenT];split <;> simp
theorem fenT_drop:∀ (k:Nat) (r:List Ins),(fenT r).drop (k+stN (r.take k))=fenT (r.drop k)
 | 0,r=>by simp [stN]
 | k+1,[]=>by simp [fenT]
 | k+1,c :: r=>by
  have ih:=fenT_drop k r
  simp only [List.take_succ_cons,stN,List.drop_succ_cons,fenT]
  by_cases h:c.kind=2
  ·rw [if_pos h,if_pos h,show k+1+(1+stN (r.take k))=(k+stN (r.take k))+1+1 by omega]
   simpa only [List.drop_succ_cons] using ih
  ·rw [if_neg h,if_neg h,show k+1+(0+stN (r.take k))=(k+stN (r.take k))+1 by omega]
   simpa only [List.drop_succ_cons] using ih
theorem fenT_skip {r:List Ins} {n:Int} (h0:0≤n) (hl:(fenT r).length≤10):(fenT r).drop (if n+stN (r.take n.toNat)≤10 then n+stN (r.take n.toNat) else 10).toNat=fenT (r.drop n.toNat):=by
 have h:=fenT_drop n.toNat r
 split
 ·next h1 =>
  rw [← h]
  congr 1
  omega
 ·next h1 =>
  rw [← h,List.drop_eq_nil_of_le (by simpa using hl),List.drop_eq_nil_of_le (by omega)]
theorem drop_cons {l:List Ins} {p:Nat} {c:Ins} {r:List Ins} (h:l.drop p=c :: r):p<l.length∧l.getD p in0=c∧l.drop (p+1)=r:=by
 have hp:p<l.length:=by
  rcases Nat.lt_or_ge p l.length with h1 | h1
  ·exact h1
  ·rw [List.drop_eq_nil_of_le h1] at h;cases h
 rw [List.drop_eq_getElem_cons hp] at h
 simp only [List.cons.injEq] at h
 refine ⟨hp,?_,h.2⟩
 rw [List.getD_eq_getElem?_getD,List.getElem?_eq_getElem hp]
 exact h.1
def plc (len:Nat) (p f:Int):Int:=if (len:Int)<p+f then (len:Int) else p+f
theorem plc_ok {l:List Ins} {p:Nat} {f:Int} (hp:p<l.length) (hf:1≤f):∃ q:Nat,plc l.length p f=q∧q≤l.length∧l.drop q=(l.drop (p+1)).drop (f - 1).toNat:=by
 unfold plc
 split
 ·next h =>
  refine ⟨l.length,rfl,Nat.le_refl _,?_⟩
  rw [List.drop_drop,List.drop_length,List.drop_eq_nil_of_le (by omega)]
 ·next h =>
  refine ⟨(p+f).toNat,by omega,by omega,?_⟩
  rw [List.drop_drop]
  congr 1
  omega
theorem turn_run {L:Lt} {o:Int} {s:LS} {t:Tn} {p:Nat} (h0:0≤t.thr∧t.thr<L.thr.length) (ho:t.out=false) (hp:s.places.getD t.thr.toNat 0=p) {c:Ins} {r:List Ins} (hd:(L.thr.getD t.thr.toNat []).drop p=c :: r) :
  turnS L o s t=match stepS o s t.thr.toNat c with
   | none=>(s,false)
   | some (s',f)=>({ s' with places:=s.places.set t.thr.toNat (plc (L.thr.getD t.thr.toNat []).length p f) },true):=by
 obtain ⟨h1,h2,h3⟩:=drop_cons hd
 unfold turnS
 rw [if_pos h0,if_neg (by simp [ho]),if_neg (by rw [hp];omega),hp,Int.toNat_natCast,h2]
 cases e:stepS o s t.thr.toNat c with
 | none=>rfl
 | some x =>
  obtain ⟨s',f⟩:=x
  have hpl:=places_set e
  simp only [hpl,hp]
  rfl
theorem turn_end {L:Lt} {o:Int} {s:LS} {t:Tn} {p:Nat} (ho:t.out=false) (hp:s.places.getD t.thr.toNat 0=p) (hle:p≤(L.thr.getD t.thr.toNat []).length) (hd:(L.thr.getD t.thr.toNat []).drop p=[]):turnS L o s t=(s,false):=by
 have:p=(L.thr.getD t.thr.toNat []).length:=by
  have:=congrArg List.length hd
  rw [List.length_drop,List.length_nil] at this
  omega
 unfold turnS
 split
 ·rw [if_neg (by simp [ho]),if_pos (by rw [hp,this])]
 ·rfl
theorem step_sim {o o' : Int} {s s' : LS} {k:Nat} {c c' : Ins} (hw:s'.words=s.words) (hr:s'.regs=s.regs) (hb:s.bufs.getD k []=[]) (hb' : s'.bufs.getD k []=[]) (hk:c.kind≠2) (hc:{ c' with cnt:=c.cnt }=c) :
  ∃ W R b,stepS o s k c=some ({ s with words:=W,regs:=R },if b=true then 1+c.cnt else 1)∧stepS o' s' k c' = some ({ s' with words:=W,regs:=R },if b=true then 1+c'.cnt else 1)∧(b=true→c.kind≠1∧c.kind≠3∧c.kind≠4∧c.kind≠5∧c.kind≠6)∧(∀ t,t≠k→R.getD t r40=s.regs.getD t r40):=by
 obtain ⟨kd,rg,ad,vl,fr,ol,cn⟩:=c
 obtain ⟨kd',rg',ad',vl',fr',ol',cn'⟩:=c'
 simp only [Ins.mk.injEq] at hc
 obtain ⟨rfl,rfl,rfl,rfl,rfl,rfl,_⟩:=hc
 simp only at hk ⊢
 have hset:∀ (x:R4) t,t≠k→(s.regs.set k x).getD t r40=s.regs.getD t r40:=fun x t ht=>by
  rw [List.getD_eq_getElem?_getD,List.getElem?_set_ne (Ne.symm ht),List.getD_eq_getElem?_getD]
 have hsee:seeS s' k ad' = seeS s k ad':=by unfold seeS;rw [hw,hb,hb']
 unfold stepS
 simp only [hw,hr,hb,hb',hsee,if_neg hk,List.length_nil,Nat.lt_irrefl,if_false,gt_iff_lt]
 by_cases h1:kd' = 1
 ·simp only [if_pos h1]
  exact ⟨s.words,_,false,rfl,by simp [← hw],by simp,hset _⟩
 simp only [if_neg h1]
 by_cases h3:kd' = 3
 ·simp only [if_pos h3]
  by_cases hold:s.words.getD ad'.toNat 0=ol'
  ·simp only [if_pos hold]
   exact ⟨_,_,false,rfl,by simp,by simp,hset _⟩
  ·simp only [if_neg hold]
   exact ⟨s.words,_,false,rfl,by simp [← hw],by simp,hset _⟩
 simp only [if_neg h3]
 by_cases h4:kd' = 4
 ·simp only [if_pos h4]
  exact ⟨s.words,s.regs,false,rfl,by simp [← hw,← hr],by simp,fun _ _=>rfl⟩
 simp only [if_neg h4]
 by_cases h5:kd' = 5
 ·simp only [if_pos h5]
  exact ⟨s.words,_,false,rfl,by simp [← hw],by simp,hset _⟩
 simp only [if_neg h5]
 by_cases h6:kd' = 6
 ·simp only [if_pos h6]
  exact ⟨s.words,_,false,rfl,by simp [← hw],by simp,hset _⟩
 simp only [if_neg h6]
 by_cases he:(s.regs.getD k r40).get rg' = vl'
 ·simp only [if_pos he]
  exact ⟨s.words,s.regs,true,rfl,by simp [← hw,← hr],fun _=>⟨h1,h3,h4,h5,h6⟩,fun _ _=>rfl⟩
 ·simp only [if_neg he]
  exact ⟨s.words,s.regs,false,rfl,by simp [← hw,← hr],by simp,fun _ _=>rfl⟩
def valI (c:Ins) (r:R4):Int:=if c.frm≥0 then r.get c.frm else c.val
inductive TR (o:Int) (code:List Ins):Nat→Nat→List Pd→R4→Prop
 | a {p q:Nat} {rg:R4}:(fenT code).drop q=fenT (code.drop p)→TR o code p q [] rg
 | b {p q:Nat} {rg:R4}:(fenT code).drop q=fenI :: fenT (code.drop p)→TR o code p q [] rg
 | c {p q:Nat} {rg:R4} {c:Ins} {r:List Ins}:o≠1→code.drop p=c :: r→c.kind=2→(fenT code).drop q=fenI :: fenT r→TR o code p q [⟨c.addr,valI c rg⟩] rg
structure Sim (L:Lt) (o:Int) (sp sf:LS):Prop where
 w:sf.words=sp.words
 r:sf.regs=sp.regs
 th:∀ t,t<L.thr.length→∃ p q:Nat,sp.places.getD t 0=p∧sf.places.getD t 0=q∧p≤(L.thr.getD t []).length∧q≤(fenT (L.thr.getD t [])).length∧TR o (L.thr.getD t []) p q (sf.bufs.getD t []) (sp.regs.getD t r40)
theorem rch_wf {L:Lt} {o:Int} (hL:checkB L=true) {s:LS} (h:Rch L o s):WfT L o s:=by
 induction h with
 | beg=>exact begin_wfT o
 | step t _ _ _ ih=>exact turn_wfT hL ih t
theorem fenL_thr (L:Lt) (t:Nat):(fenL L).thr.getD t []=fenT (L.thr.getD t []):=by
 simp only [fenL,List.getD_eq_getElem?_getD,List.getElem?_map]
 cases L.thr[t]? with
 | none=>rfl
 | some x=>rfl
theorem fenL_len (L:Lt):(fenL L).thr.length=L.thr.length:=by simp [fenL]
theorem pl_set {ps:List Int} {k t:Nat} {v:Int} (hk:k<ps.length):(ps.set k v).getD t 0=if t=k then v else ps.getD t 0:=by
 rw [getD_setE]
 by_cases e:t=k
 ·subst e;simp [hk]
 ·rw [if_neg (by omega),if_neg e]
theorem bf_set {bs:List (List Pd)} {k t:Nat} {v:List Pd} (hk:k<bs.length):(bs.set k v).getD t []=if t=k then v else bs.getD t []:=by
 rw [getD_setE]
 by_cases e:t=k
 ·subst e;simp [hk]
 ·rw [if_neg (by omega),if_neg e]
theorem plain_buf {L:Lt} {s:LS} (h:WfT L 1 s) (t:Nat):s.bufs.getD t []=[]:=by
 rcases Nat.lt_or_ge t L.thr.length with h1 | h1
 ·exact (h.wf.thr t h1).sc rfl
 ·rw [List.getD_eq_getElem?_getD,List.getElem?_eq_none (by rw [h.wf.b];exact h1)];rfl
theorem mem_turnsT {L:Lt} {o:Int} {x:Tn}:∀ {n k:Nat},k<n→x∈thrL L o k→x∈turnsT L o n
 | n+1,k,hk,hx=>by
  rw [turnsT]
  rcases Nat.lt_or_ge k n with h | h
  ·exact List.mem_append_left _ (mem_turnsT h hx)
  ·have:k=n:=by omega
   subst this
   exact List.mem_append_right _ hx
theorem mem_run {L:Lt} {o:Int} {k:Nat} (hk:k<L.thr.length):(⟨k,false,0⟩:Tn)∈turnsL L o:=mem_turnsT hk (by simp [thrL])
theorem mem_outs {t:Nat}:∀ {n a:Nat},a<n→(⟨t,true,a⟩:Tn)∈outsL t n
 | n+1,a,h=>by
  rw [outsL]
  rcases Nat.lt_or_ge a n with h1 | h1
  ·exact List.mem_append_left _ (mem_outs h1)
  ·have:a=n:=by omega
   subst this
   exact List.mem_append_right _ (by simp)
theorem sim_upd {L:Lt} {o:Int} {sp sf sp' sf' : LS} (S:Sim L o sp sf) {k:Nat} (hw:sf'.words=sp'.words) (hr:sf'.regs=sp'.regs) (h1:∀ t,t≠k→sp'.places.getD t 0=sp.places.getD t 0) (h2:∀ t,t≠k→sf'.places.getD t 0=sf.places.getD t 0) (h3:∀ t,t≠k→sf'.bufs.getD t []=sf.bufs.getD t []) (h4:∀ t,t≠k→sp'.regs.getD t r40=sp.regs.getD t r40)
  (hk:∃ p q:Nat,sp'.places.getD k 0=p∧sf'.places.getD k 0=q∧p≤(L.thr.getD k []).length∧q≤(fenT (L.thr.getD k [])).length∧TR o (L.thr.getD k []) p q (sf'.bufs.getD k []) (sp'.regs.getD k r40)):Sim L o sp' sf':=by
 refine ⟨hw,hr,fun t ht=>?_⟩
 by_cases e:t=k
 ·subst e;exact hk
 ·obtain ⟨p,q,g1,g2,g3,g4,g5⟩:=S.th t ht
  exact ⟨p,q,(h1 t e).trans g1,(h2 t e).trans g2,g3,g4,by rw [h3 t e,h4 t e];exact g5⟩
theorem fits_cnt {L:Lt} (hL:checkB L=true) {k:Nat} (hk:k<L.thr.length) {p:Nat} {c:Ins} {r:List Ins} (h:(L.thr.getD k []).drop p=c :: r):fitsB c L.words.length=true :=
 (fits_at hL hk).2 c (List.mem_of_mem_drop (by rw [h];exact List.mem_cons_self))
theorem adj_same (c:Ins) (r:List Ins):{ adjI c r with cnt:=c.cnt }=c:=by
 unfold adjI;split <;> rfl
theorem plain_store {L:Lt} {s:LS} {k p:Nat} (hk:k<L.thr.length) (hp:s.places.getD k 0=p) {c:Ins} {r:List Ins} (hd:(L.thr.getD k []).drop p=c :: r) (hc:c.kind=2) :
  turnS L 1 s ⟨k,false,0⟩=({ s with words:=s.words.set c.addr.toNat (valI c (s.regs.getD k r40)),places:=s.places.set k ((p+1:Nat):Int) },true):=by
 have hr:=turn_run (L:=L) (o:=1) (s:=s) (t:=⟨k,false,0⟩) (p:=p) ⟨by simp,by simp;exact hk⟩ rfl (by simpa using hp) (by simpa using hd)
 have hlt:=(drop_cons hd).1
 rw [hr]
 have h2:¬ c.kind=1:=by omega
 simp only [stepS,if_neg h2,if_pos hc,if_true,Int.toNat_natCast,valI]
 have:plc (L.thr.getD k []).length p 1=((p+1:Nat):Int):=by unfold plc;rw [if_neg (by omega)];omega
 rw [this]
theorem both_far {code r:List Ins} {c:Ins} {p q n:Nat} {bb:Bool} (hlp:p<code.length) (hlq:q<(fenT code).length) (hdp1:code.drop (p+1)=r) (hdq1:(fenT code).drop (q+1)=fenT r) (hr10:(fenT r).length≤10) (hfit:fitsB c n=true) (s3:bb=true→c.kind≠1∧c.kind≠3∧c.kind≠4∧c.kind≠5∧c.kind≠6) (hc2:c.kind≠2:=by assumption) :
  ∃ p' q' : Nat,plc code.length p (if bb=true then 1+c.cnt else 1)=p'∧plc (fenT code).length q (if bb=true then 1+(adjI c r).cnt else 1)=q'∧p'≤code.length∧q'≤(fenT code).length∧(fenT code).drop q' = fenT (code.drop p'):=by
 cases bb with
 | false =>
  obtain ⟨p',a1,a2,a3⟩:=plc_ok hlp (Int.le_refl 1)
  obtain ⟨q',b1,b2,b3⟩:=plc_ok hlq (Int.le_refl 1)
  exact ⟨p',q',a1,b1,a2,b2,by rw [a3,b3,hdp1,hdq1];rfl⟩
 | true =>
  obtain ⟨n1,n3,n4,n5,n6⟩:=s3 rfl
  have hk7:c.kind=7∧0≤c.cnt:=by
   simp only [fitsB,decide_eq_true_eq] at hfit
   omega
  have hadj:(adjI c r).cnt=if c.cnt+stN (r.take c.cnt.toNat)≤10 then c.cnt+stN (r.take c.cnt.toNat) else 10:=by unfold adjI;rw [if_pos hk7.1]
  have hsk:=fenT_skip (r:=r) hk7.2 hr10
  rw [← hadj] at hsk
  have hadj0:0≤(adjI c r).cnt:=by rw [hadj];split <;> omega
  obtain ⟨p',a1,a2,a3⟩:=plc_ok hlp (f:=1+c.cnt) (by omega)
  obtain ⟨q',b1,b2,b3⟩:=plc_ok hlq (f:=1+(adjI c r).cnt) (by omega)
  refine ⟨p',q',by simpa using a1,by simpa using b1,a2,b2,?_⟩
  rw [a3,b3,hdp1,hdq1,show (1+c.cnt - 1).toNat=c.cnt.toNat by omega,show (1+(adjI c r).cnt - 1).toNat=(adjI c r).cnt.toNat by omega]
  exact hsk
theorem sim_step {L:Lt} {o:Int} (hL:checkB L=true) (hF:checkB (fenL L)=true) {sp sf:LS} (hp:Rch L 1 sp) (hf:Rch (fenL L) o sf) (S:Sim L o sp sf) (t:Tn) (hd:(turnS (fenL L) o sf t).2=true):∃ sp',Rch L 1 sp'∧Sim L o sp' (turnS (fenL L) o sf t).1:=by
 have wp:=rch_wf hL hp
 have wf:=rch_wf hF hf
 have lp:sp.places.length=L.thr.length:=wp.wf.p
 have lf:sf.places.length=L.thr.length:=by rw [wf.wf.p,fenL_len]
 have lb:sf.bufs.length=L.thr.length:=by rw [wf.wf.b,fenL_len]
 have lr:sp.regs.length=L.thr.length:=wp.wf.r
 by_cases hv:0≤t.thr∧t.thr<L.thr.length
 case neg =>
  unfold turnS at hd
  rw [fenL_len,if_neg hv] at hd
  cases hd
 obtain ⟨k,hk⟩:∃ k:Nat,t.thr=k:=⟨t.thr.toNat,by omega⟩
 have hkn:k<L.thr.length:=by omega
 have hkt:t.thr.toNat=k:=by omega
 obtain ⟨p,q,e1,e2,e3,e4,hT⟩:=S.th k hkn
 have hv' : 0≤t.thr∧t.thr<(fenL L).thr.length:=by rw [fenL_len];exact hv
 have hpl:∀ (ps:List Int) (v:Int) x,ps.length=L.thr.length→x≠k→(ps.set k v).getD x 0=ps.getD x 0:=fun ps v x h hx=>by rw [pl_set (by omega),if_neg hx]
 have hbl:∀ (v:List Pd) x,x≠k→(sf.bufs.set k v).getD x []=sf.bufs.getD x []:=fun v x hx=>by rw [bf_set (by omega),if_neg hx]
 have hpk:∀ (ps:List Int) (v:Int),ps.length=L.thr.length→(ps.set k v).getD k 0=v:=fun ps v h=>by rw [pl_set (by omega),if_pos rfl]
 have hbk:∀ (v:List Pd),(sf.bufs.set k v).getD k []=v:=fun v=>by rw [bf_set (by omega),if_pos rfl]
 cases hto:t.out with
 | true =>
  have ht:turnS (fenL L) o sf t=outS o sf k t.addr:=by
   unfold turnS
   rw [if_pos hv',if_pos hto,hkt]
  rw [ht] at hd ⊢
  unfold outS at hd ⊢
  by_cases ho:o=1
  ·rw [if_pos ho] at hd;cases hd
  rw [if_neg ho] at hd ⊢
  generalize hbf:sf.bufs.getD k []=bf at hT hd ⊢
  cases hT with
  | a _=>simp at hd
  | b _=>simp at hd
  | @c _ c r _ hdp hc2 hdq =>
   by_cases hh:hitB o t.addr ⟨c.addr,valI c (sp.regs.getD k r40)⟩=true
   ·have hfi:List.findIdx? (hitB o t.addr) [(⟨c.addr,valI c (sp.regs.getD k r40)⟩:Pd)]=some 0:=by rw [List.findIdx?_cons,if_pos hh]
    rw [hfi] at hd ⊢
    simp only [List.getD_cons_zero,List.eraseIdx_cons_zero]
    have hps:=plain_store (s:=sp) hkn e1 hdp hc2
    have hrs:Rch L 1 (turnS L 1 sp ⟨k,false,0⟩).1:=Rch.step _ hp (mem_run hkn) (by rw [hps])
    rw [hps] at hrs
    refine ⟨_,hrs,sim_upd S (k:=k) ?_ S.r (fun x hx=>hpl _ _ x lp hx) (fun _ _=>rfl) (fun x hx=>hbl _ x hx) (fun _ _=>rfl) ⟨p+1,q,hpk _ _ lp,e2,(drop_cons hdp).1,e4,?_⟩⟩
    ·simp only [S.w]
    ·simp only [hbk]
     exact TR.b (by rw [hdq,(drop_cons hdp).2.2])
   ·have hfi:List.findIdx? (hitB o t.addr) [(⟨c.addr,valI c (sp.regs.getD k r40)⟩:Pd)]=none:=by rw [List.findIdx?_cons,if_neg hh];rfl
    rw [hfi] at hd
    cases hd
 | false =>
  have hdrop:∀ {c:Ins} {r:List Ins},(fenT (L.thr.getD k [])).drop q=c :: r→((fenL L).thr.getD t.thr.toNat []).drop q=c :: r:=fun h=>by rw [hkt,fenL_thr];exact h
  have e2' : sf.places.getD t.thr.toNat 0=q:=by rw [hkt];exact e2
  generalize hbf:sf.bufs.getD k []=bf at hT
  cases hT with
  | c ho hdp hc2 hdq =>
   have ht:=turn_run (o:=o) hv' hto e2' (hdrop hdq)
   rw [ht] at hd
   have:stepS o sf t.thr.toNat fenI=none:=by
    rw [hkt]
    unfold stepS
    rw [hbf]
    rfl
   rw [this] at hd
   cases hd
  | b hdq =>
   have ht:=turn_run (o:=o) hv' hto e2' (hdrop hdq)
   have hst:stepS o sf t.thr.toNat fenI=some (sf,1):=by
    rw [hkt]
    unfold stepS
    rw [hbf]
    rfl
   rw [hst] at ht
   rw [ht]
   have hlt:=(drop_cons hdq).1
   obtain ⟨q',g1,g2,g3⟩:=plc_ok hlt (Int.le_refl 1)
   have hq:plc ((fenL L).thr.getD t.thr.toNat []).length q 1=(q' : Int):=by rw [hkt,fenL_thr];exact g1
   refine ⟨sp,hp,sim_upd S (k:=k) S.w S.r (fun _ _=>rfl) (fun x hx=>by simp only [hkt];exact hpl _ _ x lf hx) (fun _ _=>rfl) (fun _ _=>rfl) ⟨p,q',e1,?_,e3,g2,?_⟩⟩
   ·simp only [hkt];rw [hpk _ _ lf,← hkt];exact hq
   ·simp only [hbf]
    exact TR.a (by rw [g3,(drop_cons hdq).2.2];rfl)
  | a hdq =>
   cases hcp:(L.thr.getD k []).drop p with
   | nil =>
    rw [hcp] at hdq
    have ht:=turn_end (L:=fenL L) (o:=o) (s:=sf) hto e2' (by rw [hkt,fenL_thr];exact e4) (by rw [hkt,fenL_thr];exact hdq)
    rw [ht] at hd
    cases hd
   | cons c r =>
    rw [hcp] at hdq
    by_cases hc2:c.kind=2
    ·simp only [fenT,if_pos hc2] at hdq
     have ht:=turn_run (o:=o) hv' hto e2' (hdrop hdq)
     have hlt:=(drop_cons hdq).1
     have h1:¬ c.kind=1:=by omega
     have hq:plc ((fenL L).thr.getD k []).length q 1=((q+1:Nat):Int):=by
      rw [fenL_thr];unfold plc;rw [if_neg (by omega)];omega
     have hdq1:=(drop_cons hdq).2.2
     by_cases ho:o=1
     ·have hst:stepS o sf t.thr.toNat c=some ({ sf with words:=sf.words.set c.addr.toNat (valI c (sf.regs.getD k r40)) },1):=by
       rw [hkt];simp only [stepS,if_neg h1,if_pos hc2,if_pos ho,valI]
      rw [hst] at ht
      simp only [hkt,hq] at ht
      rw [ht]
      have hps:=plain_store (s:=sp) hkn e1 hcp hc2
      have hrs:Rch L 1 (turnS L 1 sp ⟨k,false,0⟩).1:=Rch.step _ hp (mem_run hkn) (by rw [hps])
      rw [hps] at hrs
      refine ⟨_,hrs,sim_upd S (k:=k) (by simp only [S.w,S.r]) S.r (fun x hx=>hpl _ _ x lp hx) (fun x hx=>hpl _ _ x lf hx) (fun _ _=>rfl) (fun _ _=>rfl) ⟨p+1,q+1,hpk _ _ lp,hpk _ _ lf,(drop_cons hcp).1,hlt,?_⟩⟩
      simp only [hbf]
      exact TR.b (by rw [hdq1,(drop_cons hcp).2.2])
     ·have hst:stepS o sf t.thr.toNat c=some ({ sf with bufs:=sf.bufs.set k [⟨c.addr,valI c (sf.regs.getD k r40)⟩] },1):=by
       rw [hkt];simp only [stepS,if_neg h1,if_pos hc2,if_neg ho,valI,hbf,List.nil_append]
      rw [hst] at ht
      simp only [hkt,hq] at ht
      rw [ht]
      refine ⟨sp,hp,sim_upd S (k:=k) S.w S.r (fun _ _=>rfl) (fun x hx=>hpl _ _ x lf hx) (fun x hx=>hbl _ x hx) (fun _ _=>rfl) ⟨p,q+1,e1,hpk _ _ lf,e3,hlt,?_⟩⟩
      simp only [hbk,S.r]
      exact TR.c ho hcp hc2 hdq1
    ·simp only [fenT,if_neg hc2] at hdq
     have ht:=turn_run (o:=o) hv' hto e2' (hdrop hdq)
     have hfit:=fits_cnt hL hkn hcp
     obtain ⟨W,R,bb,s1,s2,s3,s4⟩:=step_sim (o:=1) (o':=o) (k:=k) S.w S.r (plain_buf wp k) hbf hc2 (adj_same c r)
     rw [hkt,s2] at ht
     have hrn:=turn_run (L:=L) (o:=1) (s:=sp) (t:=⟨k,false,0⟩) (p:=p) ⟨by simp,by simp;exact hkn⟩ rfl (by simpa using e1) (by simpa using hcp)
     simp only [Int.toNat_natCast,s1] at hrn
     have hrs:Rch L 1 (turnS L 1 sp ⟨k,false,0⟩).1:=Rch.step _ hp (mem_run hkn) (by rw [hrn])
     rw [hrn] at hrs
     have hlp:=(drop_cons hcp).1
     have hlq:=(drop_cons hdq).1
     have hdp1:=(drop_cons hcp).2.2
     have hdq1:=(drop_cons hdq).2.2
     have hl10:(fenT (L.thr.getD k [])).length≤10:=by
      have:=(fits_at hF (t:=k) (by rw [fenL_len];exact hkn)).1
      rw [fenL_thr] at this
      exact this
     have hr10:(fenT r).length≤10:=by
      have:=congrArg List.length hdq1
      rw [List.length_drop] at this
      omega
     obtain ⟨p',q',f1,f2,f3,f4,f5⟩:=both_far hlp hlq hdp1 hdq1 hr10 hfit (fun h=>s3 h)
     rw [ht]
     refine ⟨_,hrs,sim_upd S (k:=k) rfl rfl (fun x hx=>hpl _ _ x lp hx) (fun x hx=>hpl _ _ x lf hx) (fun _ _=>rfl) s4 ⟨p',q',?_,?_,f3,f4,?_⟩⟩
     ·simp only [hpk _ _ lp];exact f1
     ·simp only [hpk _ _ lf,fenL_thr];exact f2
     ·simp only [hbf]
      exact TR.a f5
theorem rep_getD {α:Type} {n t:Nat} {x d:α} (h:t<n):(List.replicate n x).getD t d=x:=by
 rw [List.getD_eq_getElem?_getD,List.getElem?_replicate,if_pos h];rfl
theorem sim_begin {L:Lt} {o:Int}:Sim L o (beginS L) (beginS (fenL L)):=by
 refine ⟨rfl,by simp only [beginS,fenL_len],fun t ht=>⟨0,0,?_,?_,Nat.zero_le _,Nat.zero_le _,?_⟩⟩
 ·simp only [beginS,rep_getD ht];rfl
 ·simp only [beginS,fenL_len,rep_getD ht];rfl
 ·simp only [beginS,fenL_len,rep_getD ht]
  exact TR.a (by simp)
theorem sim_fwd {L:Lt} {o:Int} (hL:checkB L=true) (hF:checkB (fenL L)=true) {sf:LS} (h:Rch (fenL L) o sf):∃ sp,Rch L 1 sp∧Sim L o sp sf:=by
 induction h with
 | beg=>exact ⟨_,Rch.beg,sim_begin⟩
 | step t hs ht hd ih =>
  obtain ⟨sp,h1,h2⟩:=ih
  exact sim_step hL hF h1 hs h2 t hd
structure SimA (L:Lt) (sp sf:LS):Prop where
 w:sf.words=sp.words
 r:sf.regs=sp.regs
 th:∀ t,t<L.thr.length→∃ p q:Nat,sp.places.getD t 0=p∧sf.places.getD t 0=q∧p≤(L.thr.getD t []).length∧q≤(fenT (L.thr.getD t [])).length∧sf.bufs.getD t []=[]∧(fenT (L.thr.getD t [])).drop q=fenT ((L.thr.getD t []).drop p)
theorem simA_begin {L:Lt}:SimA L (beginS L) (beginS (fenL L)):=by
 refine ⟨rfl,by simp only [beginS,fenL_len],fun t ht=>⟨0,0,?_,?_,Nat.zero_le _,Nat.zero_le _,?_,by simp⟩⟩
 ·simp only [beginS,rep_getD ht];rfl
 ·simp only [beginS,fenL_len,rep_getD ht];rfl
 ·simp only [beginS,fenL_len,rep_getD ht]
theorem fen_fence {L:Lt} {o:Int} (hF:checkB (fenL L)=true) {sf:LS} (h:Rch (fenL L) o sf) {k q:Nat} (hk:k<L.thr.length) (hq:sf.places.getD k 0=q) (hb:sf.bufs.getD k []=[]) {r:List Ins} (hd:(fenT (L.thr.getD k [])).drop q=fenI :: r) :
  Rch (fenL L) o { sf with places:=sf.places.set k ((q+1:Nat):Int) }:=by
 have ht:=turn_run (L:=fenL L) (o:=o) (s:=sf) (t:=⟨k,false,0⟩) (p:=q) ⟨by simp,by simp only [fenL_len];omega⟩ rfl (by simpa using hq) (by simp only [Int.toNat_natCast,fenL_thr];exact hd)
 have hst:stepS o sf k fenI=some (sf,1):=by
  unfold stepS
  rw [hb]
  rfl
 simp only [Int.toNat_natCast,hst] at ht
 have hlt:=(drop_cons hd).1
 have hpl:plc ((fenL L).thr.getD k []).length q 1=((q+1:Nat):Int):=by
  rw [fenL_thr];unfold plc;rw [if_neg (by omega)];omega
 rw [hpl] at ht
 have:=Rch.step _ h (mem_run (L:=fenL L) (o:=o) (by rw [fenL_len];exact hk)) (by rw [ht])
 rw [ht] at this
 exact this
theorem fen_store {L:Lt} {o:Int} (hF:checkB (fenL L)=true) (ho:1≤o∧o≤3) {sf:LS} (h:Rch (fenL L) o sf) {k q:Nat} (hk:k<L.thr.length) (hq:sf.places.getD k 0=q) (hb:sf.bufs.getD k []=[]) {c:Ins} {r:List Ins} (hc:c.kind=2) (ha:0≤c.addr∧c.addr<L.words.length) (hd:(fenT (L.thr.getD k [])).drop q=c :: fenI :: r) :
  ∃ sf',Rch (fenL L) o sf'∧sf'.words=sf.words.set c.addr.toNat (valI c (sf.regs.getD k r40))∧sf'.regs=sf.regs∧(∀ x,sf'.places.getD x 0=if x=k then ((q+2:Nat):Int) else sf.places.getD x 0)∧∀ x,sf'.bufs.getD x []=sf.bufs.getD x []:=by
 have wf:=rch_wf hF h
 have lf:sf.places.length=L.thr.length:=by rw [wf.wf.p,fenL_len]
 have lb:sf.bufs.length=L.thr.length:=by rw [wf.wf.b,fenL_len]
 have ht:=turn_run (L:=fenL L) (o:=o) (s:=sf) (t:=⟨k,false,0⟩) (p:=q) ⟨by simp,by simp only [fenL_len];omega⟩ rfl (by simpa using hq) (by simp only [Int.toNat_natCast,fenL_thr];exact hd)
 have hlt:=(drop_cons hd).1
 have hd1:=(drop_cons hd).2.2
 have h1:¬ c.kind=1:=by omega
 have hpl:plc ((fenL L).thr.getD k []).length q 1=((q+1:Nat):Int):=by
  rw [fenL_thr];unfold plc;rw [if_neg (by omega)];omega
 have hpk:∀ (v:Int) x,(sf.places.set k v).getD x 0=if x=k then v else sf.places.getD x 0:=fun v x=>pl_set (by omega)
 by_cases ho1:o=1
 ·have hst:stepS o sf k c=some ({ sf with words:=sf.words.set c.addr.toNat (valI c (sf.regs.getD k r40)) },1):=by
   simp only [stepS,if_neg h1,if_pos hc,if_pos ho1,valI]
  simp only [Int.toNat_natCast,hst,hpl] at ht
  have r1:=Rch.step _ h (mem_run (L:=fenL L) (o:=o) (by rw [fenL_len];exact hk)) (by rw [ht])
  rw [ht] at r1
  refine ⟨_,fen_fence hF r1 hk (q:=q+1) ?_ hb hd1,rfl,rfl,fun x=>?_,fun _=>rfl⟩
  ·simp only [hpk,if_true]
  ·simp only
   rw [pl_set (by simp;omega)]
   split
   ·rfl
   ·next e=>rw [hpk,if_neg e]
 ·have hst:stepS o sf k c=some ({ sf with bufs:=sf.bufs.set k [⟨c.addr,valI c (sf.regs.getD k r40)⟩] },1):=by
   simp only [stepS,if_neg h1,if_pos hc,if_neg ho1,valI,hb,List.nil_append]
  simp only [Int.toNat_natCast,hst,hpl] at ht
  have r1:=Rch.step _ h (mem_run (L:=fenL L) (o:=o) (by rw [fenL_len];exact hk)) (by rw [ht])
  rw [ht] at r1
  -- the store comes out
  have hbk:∀ (v:List Pd) x,(sf.bufs.set k v).getD x []=if x=k then v else sf.bufs.getD x []:=fun v x=>bf_set (by omega)
  obtain ⟨ad,hmem,hhit⟩:∃ ad:Nat,(⟨k,true,ad⟩:Tn)∈turnsL (fenL L) o∧hitB o ad ⟨c.addr,valI c (sf.regs.getD k r40)⟩=true:=by
   by_cases ho2:o=2
   ·exact ⟨0,mem_turnsT (by rw [fenL_len];exact hk) (by simp [thrL,ho2]),by simp [hitB,ho2]⟩
   ·have ho3:o=3:=by omega
    refine ⟨c.addr.toNat,mem_turnsT (by rw [fenL_len];exact hk) ?_,?_⟩
    ·simp only [thrL,if_neg ho2,if_pos ho3]
     exact List.mem_append_right _ (mem_outs (show c.addr.toNat<(fenL L).words.length by simp only [fenL];omega))
    ·simp only [hitB,Bool.or_eq_true,decide_eq_true_eq]
     exact Or.inr (by omega)
  have ht2:turnS (fenL L) o { sf with places:=sf.places.set k ((q+1:Nat):Int),bufs:=sf.bufs.set k [⟨c.addr,valI c (sf.regs.getD k r40)⟩] } ⟨k,true,ad⟩=({ sf with words:=sf.words.set c.addr.toNat (valI c (sf.regs.getD k r40)),places:=sf.places.set k ((q+1:Nat):Int),bufs:=(sf.bufs.set k [⟨c.addr,valI c (sf.regs.getD k r40)⟩]).set k [] },true):=by
   unfold turnS
   rw [if_pos ⟨by simp,by simp only [fenL_len];omega⟩,if_pos rfl]
   unfold outS
   rw [if_neg ho1]
   simp only [Int.toNat_natCast,hbk,if_true]
   have hfi:List.findIdx? (hitB o ad) [(⟨c.addr,valI c (sf.regs.getD k r40)⟩:Pd)]=some 0:=by rw [List.findIdx?_cons,if_pos hhit]
   rw [hfi]
   rfl
  have r2:=Rch.step _ r1 hmem (by rw [ht2])
  rw [ht2] at r2
  refine ⟨_,fen_fence hF r2 hk (q:=q+1) ?_ ?_ hd1,rfl,rfl,fun x=>?_,fun x=>?_⟩
  ·simp only [hpk,if_true]
  ·simp only
   rw [bf_set (by simp;omega),if_pos rfl]
  ·simp only
   rw [pl_set (by simp;omega)]
   split
   ·rfl
   ·next e=>rw [hpk,if_neg e]
  ·simp only
   rw [bf_set (by simp;omega)]
   split
   ·next e=>subst e;exact hb.symm
   ·next e=>rw [hbk,if_neg e]
theorem turnsL_1 {L:Lt} {t:Tn} (h:t∈turnsL L 1):∃ k:Nat,k<L.thr.length∧t=⟨k,false,0⟩:=by
 have key:∀ n,t∈turnsT L 1 n→∃ k:Nat,k<n∧t=⟨k,false,0⟩:=by
  intro n
  induction n with
  | zero=>intro h;simp [turnsT] at h
  | succ n ih =>
   intro h
   rw [turnsT] at h
   rcases List.mem_append.1 h with h | h
   ·obtain ⟨k,h1,h2⟩:=ih h
    exact ⟨k,by omega,h2⟩
   ·simp [thrL] at h
    exact ⟨n,by omega,h⟩
 exact key _ h
theorem simA_upd {L:Lt} {sp sf sp' sf' : LS} (S:SimA L sp sf) {k:Nat} (hw:sf'.words=sp'.words) (hr:sf'.regs=sp'.regs) (h1:∀ t,t≠k→sp'.places.getD t 0=sp.places.getD t 0) (h2:∀ t,t≠k→sf'.places.getD t 0=sf.places.getD t 0) (h3:∀ t,sf'.bufs.getD t []=sf.bufs.getD t [])
  (hk:∃ p q:Nat,sp'.places.getD k 0=p∧sf'.places.getD k 0=q∧p≤(L.thr.getD k []).length∧q≤(fenT (L.thr.getD k [])).length∧(fenT (L.thr.getD k [])).drop q=fenT ((L.thr.getD k []).drop p)):SimA L sp' sf':=by
 refine ⟨hw,hr,fun t ht=>?_⟩
 obtain ⟨p,q,g1,g2,g3,g4,g5,g6⟩:=S.th t ht
 by_cases e:t=k
 ·subst e
  obtain ⟨p',q',k1,k2,k3,k4,k5⟩:=hk
  exact ⟨p',q',k1,k2,k3,k4,by rw [h3];exact g5,k5⟩
 ·exact ⟨p,q,(h1 t e).trans g1,(h2 t e).trans g2,g3,g4,by rw [h3];exact g5,g6⟩
theorem sim_back {L:Lt} {o:Int} (ho:1≤o∧o≤3) (hL:checkB L=true) (hF:checkB (fenL L)=true) {sp:LS} (h:Rch L 1 sp):∃ sf,Rch (fenL L) o sf∧SimA L sp sf:=by
 induction h with
 | beg=>exact ⟨_,Rch.beg,simA_begin⟩
 | @step sp t hs ht hd ih =>
  obtain ⟨sf,hf,S⟩:=ih
  obtain ⟨k,hkn,rfl⟩:=turnsL_1 ht
  have wp:=rch_wf hL hs
  have wf:=rch_wf hF hf
  have lp:sp.places.length=L.thr.length:=wp.wf.p
  have lf:sf.places.length=L.thr.length:=by rw [wf.wf.p,fenL_len]
  have hpl:∀ (ps:List Int) (v:Int) x,ps.length=L.thr.length→x≠k→(ps.set k v).getD x 0=ps.getD x 0:=fun ps v x h hx=>by rw [pl_set (by omega),if_neg hx]
  have hpk:∀ (ps:List Int) (v:Int),ps.length=L.thr.length→(ps.set k v).getD k 0=v:=fun ps v h=>by rw [pl_set (by omega),if_pos rfl]
  obtain ⟨p,q,e1,e2,e3,e4,hbf,hdq⟩:=S.th k hkn
  cases hcp:(L.thr.getD k []).drop p with
  | nil =>
   have:=turn_end (L:=L) (o:=1) (s:=sp) (t:=⟨k,false,0⟩) (p:=p) rfl (by simpa using e1) (by simpa using e3) (by simpa using hcp)
   rw [this] at hd
   cases hd
  | cons c r =>
   rw [hcp] at hdq
   have hlp:=(drop_cons hcp).1
   have hdp1:=(drop_cons hcp).2.2
   have hfit:=fits_cnt hL hkn hcp
   by_cases hc2:c.kind=2
   ·simp only [fenT,if_pos hc2] at hdq
    have hps:=plain_store (s:=sp) hkn e1 hcp hc2
    have had:0≤c.addr∧c.addr<L.words.length:=by
     simp only [fitsB,decide_eq_true_eq] at hfit
     exact hfit.2.2.2.1 (by omega)
    obtain ⟨sf',f1,f2,f3,f4,f5⟩:=fen_store hF ho hf hkn e2 hbf hc2 had hdq
    rw [hps]
    have hl2:q+2≤(fenT (L.thr.getD k [])).length:=by
     have:=congrArg List.length hdq
     simp only [List.length_drop,List.length_cons] at this
     omega
    have hd2:(fenT (L.thr.getD k [])).drop (q+2)=fenT r:=by
     have h1:=(drop_cons hdq).2.2
     exact (drop_cons h1).2.2
    refine ⟨sf',f1,simA_upd S (k:=k) (by rw [f2,S.w,S.r]) (by rw [f3];exact S.r) (fun x hx=>hpl _ _ x lp hx) (fun x hx=>by rw [f4,if_neg hx]) f5 ⟨p+1,q+2,hpk _ _ lp,by rw [f4,if_pos rfl],hlp,hl2,by rw [hd2,hdp1]⟩⟩
   ·simp only [fenT,if_neg hc2] at hdq
    obtain ⟨W,R,bb,s1,s2,s3,s4⟩:=step_sim (o:=1) (o':=o) (k:=k) S.w S.r (plain_buf wp k) hbf hc2 (adj_same c r)
    have hrn:=turn_run (L:=L) (o:=1) (s:=sp) (t:=⟨k,false,0⟩) (p:=p) ⟨by simp,by simp;exact hkn⟩ rfl (by simpa using e1) (by simpa using hcp)
    simp only [Int.toNat_natCast,s1] at hrn
    have hfn:=turn_run (L:=fenL L) (o:=o) (s:=sf) (t:=⟨k,false,0⟩) (p:=q) ⟨by simp,by simp only [fenL_len];omega⟩ rfl (by simpa using e2) (by simp only [Int.toNat_natCast,fenL_thr];exact hdq)
    simp only [Int.toNat_natCast,s2] at hfn
    have hrs:=Rch.step _ hf (mem_run (L:=fenL L) (o:=o) (by rw [fenL_len];exact hkn)) (by rw [hfn])
    rw [hfn] at hrs
    rw [hrn]
    have hlq:=(drop_cons hdq).1
    have hdq1:=(drop_cons hdq).2.2
    have hl10:(fenT (L.thr.getD k [])).length≤10:=by
     have:=(fits_at hF (t:=k) (by rw [fenL_len];exact hkn)).1
     rw [fenL_thr] at this
     exact this
    have hr10:(fenT r).length≤10:=by
     have:=congrArg List.length hdq1
     rw [List.length_drop] at this
     omega
    obtain ⟨p',q',f1,f2,f3,f4,f5⟩:=both_far hlp hlq hdp1 hdq1 hr10 hfit (fun h=>s3 h)
    refine ⟨_,hrs,simA_upd S (k:=k) rfl rfl (fun x hx=>hpl _ _ x lp hx) (fun x hx=>hpl _ _ x lf hx) (fun _=>rfl) ⟨p',q',?_,?_,f3,f4,f5⟩⟩
    ·simp only [hpk _ _ lp];exact f1
    ·simp only [hpk _ _ lf,fenL_thr];exact f2
theorem fens_mem {L:Lt} {o:Int} (ho:1≤o∧o≤3) (hL:checkB L=true) (hF:checkB (fenL L)=true) (f:Fn):(∃ s,Rch (fenL L) o s∧finB (fenL L) s=true∧endF s=f)↔∃ s,Rch L 1 s∧finB L s=true∧endF s=f:=by
 constructor
 ·rintro ⟨sf,hf,hfin,rfl⟩
  obtain ⟨sp,hp,S⟩:=sim_fwd hL hF hf
  refine ⟨sp,hp,finB_iff.2 fun t ht=>?_,by simp only [endF,S.w,S.r]⟩
  obtain ⟨g1,g2⟩:=finB_iff.1 hfin t (by rw [fenL_len];exact ht)
  rw [fenL_thr] at g1
  obtain ⟨p,q,e1,e2,e3,e4,hT⟩:=S.th t ht
  have hq:q=(fenT (L.thr.getD t [])).length:=by omega
  have hz:(fenT (L.thr.getD t [])).drop q=[]:=by rw [hq,List.drop_length]
  have hbn:sf.bufs.getD t []=[]:=List.eq_nil_of_length_eq_zero g2
  rw [hbn] at hT
  refine ⟨?_,by rw [plain_buf (rch_wf hL hp) t];rfl⟩
  have hpd:(L.thr.getD t []).drop p=[]:=by
   cases hT with
   | a h=>rw [hz] at h;exact fenT_nil.1 h.symm
   | b h=>rw [hz] at h;cases h
  have:=congrArg List.length hpd
  rw [List.length_drop,List.length_nil] at this
  rw [e1]
  omega
 ·rintro ⟨sp,hp,hfin,rfl⟩
  obtain ⟨sf,hf,S⟩:=sim_back ho hL hF hp
  refine ⟨sf,hf,finB_iff.2 fun t ht=>?_,by simp only [endF,S.w,S.r]⟩
  rw [fenL_len] at ht
  obtain ⟨g1,_⟩:=finB_iff.1 hfin t ht
  obtain ⟨p,q,e1,e2,e3,e4,hb,hd⟩:=S.th t ht
  have hp0:(L.thr.getD t []).drop p=[]:=List.drop_eq_nil_of_le (by omega)
  rw [hp0] at hd
  refine ⟨?_,by rw [hb];rfl⟩
  rw [fenL_thr,e2]
  have:=congrArg List.length hd
  rw [List.length_drop] at this
  simp only [fenT,List.length_nil] at this
  omega
end Go.Proofs.Ytmcpdafmkkjlcaa.Z
