/- TsoFinalsSaid: what its proof is made of. No condition. -/
import Derived.Test.YtmcpdafmkkjlcaaPkTTsoFinalsAS
set_option linter.unusedSimpArgs false
set_option linter.unusedVariables false
namespace Go.Proofs.Ytmcpdafmkkjlcaa.Z
open Go Go.RowKit
theorem fn_eq_iff {a b:Fn}:a=b↔a.words=b.words∧a.regs=b.regs:=by
 cases a;cases b;simp
instance:DecidableEq Fn:=fun a b=>decidable_of_iff _ fn_eq_iff.symm
theorem r4_eq_iff {a b:R4}:a=b↔a.a=b.a∧a.b=b.b∧a.c=b.c∧a.d=b.d:=by
 cases a;cases b;simp
set_option maxRecDepth 100000 in
set_option maxHeartbeats 1000000 in
theorem sfinalD_calls (w:World) (v v' : Value) (a b:Fn) (h:FnR w v a) (h' : FnR w v' b):Calls Try.prog 60 #[v,v'] w (RetV w (.bool (decide (a=b)))):=by
 have hm1:a.regs.length≤9223372036854775807:=by obtain ⟨_,_,_,_,h2⟩:=h;have:=Z.Arr.lenM h2;simp only [maxLen] at this;exact this
 refine enterFn2 (A:=[]) (c:=ir60) (rs:=rs60) (nt:=nt60) h h' Try.func60 rfl (by kernel_rfl) (by kernel_rfl) rfl (of_decide_eq_true rfl) ?_
 simp (maxSteps:=2000000) only [ir60,nt60,rs60,go_sem,↓reduceIte,Nat.reduceLT,Nat.reduceLeDiff,Nat.reduceAdd,Nat.reduceSub,Nat.reduceMul,Nat.reduceEqDiff,reduceCtorEq,Int.reduceToNat,Int.reduceEq,Int.reduceBEq,Int.reduceBNe,Int.reduceLT,Int.reduceLE,Int.reduceNeg,Int.reduceAdd,Int.reduceSub,Int.reduceMul,Int.reduceGE,Int.reduceGT,endO]
 refine callV (.c (.v (.bool (decide (a.words=b.words))))) _ (fun E=>rfl) (fun E a' w' hs=>sintsD_calls w' _ _ a.words b.words (arr_at (d:=0) hs 0 rfl) (arr_at (d:=0) hs 2 rfl)) ?_
 by_cases hw:a.words=b.words
 ·have dw:decide (a.words=b.words)=true:=decide_eq_true hw
  rw [dw]
  simp (maxSteps:=2000000) only [go_sem,↓reduceIte,Nat.reduceLT,Nat.reduceLeDiff,Nat.reduceAdd,Nat.reduceSub,Nat.reduceMul,Nat.reduceEqDiff,reduceCtorEq,Int.reduceToNat,Int.reduceEq,Int.reduceBEq,Int.reduceBNe,Int.reduceLT,Int.reduceLE,Int.reduceNeg,Int.reduceAdd,Int.reduceSub,Int.reduceMul,Int.reduceGE,Int.reduceGT,endO]
  refine both (fun hne=>?_) (fun heq=>?_)
  ·have hne:a≠b:=fun q=>by subst q;simp at hne
   exact retV fun E=>by simp [SV.den,SC.den,hne]
  have hle:a.regs.length=b.regs.length:=by
   have q:(a.regs.length:Int)=b.regs.length:=by simpa using heq
   omega
  refine loopI (ι:={ i:Nat // i≤a.regs.length∧a.regs.take i=b.regs.take i }) (fun i=>⟨39,[(2,.c (.ptr (4,0,0) 0)),(3,.c (.ptr (5,0,0) 0)),(5,.c (.v (.int .i64 (i.1:Nat))))],[(4,.one (.bk [.xv (0,0,0),.xv (1,0,0)] 67)),(5,.one (.bk [.xv (2,0,0),.xv (3,0,0)] 67))],[(0,.one (arrOf eI 1 a.words 0)),(1,.one (arrOf R4.enc 4 a.regs r40)),(2,.one (arrOf eI 1 b.words 0)),(3,.one (arrOf R4.enc 4 b.regs r40))],[],6⟩)
   (fun i=>a.regs.length - i.1) ⟨0,by omega,by simp⟩ (le_ren id rfl rfl (by simp [TmpsLe,look,SV.ren,SC.ren,SC.renL,ren1L,ren1,idσ,SV.okN,SC.okN,SC.okL,ok1L]) (by simp [OwnLe,BlkLeO,BlkLe,atN,look,Fm.get,idσ,SC.renL,SC.ren,SC.okL,SC.okN,renL_v,okL_v]) (by simp [ArrsLe,ArrLeO,atN,look,Fm.get,idσ,arrLe_of,arrLe_0]) rfl) ?_
  rintro ⟨i,hi,htk⟩
  simp (maxSteps:=2000000) only [go_sem,↓reduceIte,Nat.reduceLT,Nat.reduceLeDiff,Nat.reduceAdd,Nat.reduceSub,Nat.reduceMul,Nat.reduceEqDiff,reduceCtorEq,Int.reduceToNat,Int.reduceEq,Int.reduceBEq,Int.reduceBNe,Int.reduceLT,Int.reduceLE,Int.reduceNeg,Int.reduceAdd,Int.reduceSub,Int.reduceMul,Int.reduceGE,Int.reduceGT,endO]
  refine both (fun hlt=>?_) (fun hge=>?_)
  ·rw [decide_eq_true_eq] at hlt
   have hlt:i<a.regs.length:=by omega
   have hlt2:i<b.regs.length:=by omega
   refine draw_vc (by kernel_rfl) (mkTab_ok _ _) (of_decide_eq_true rfl) (of_decide_eq_true rfl) ?_
   repeat (first | simp (maxSteps:=2000000) only [go_sem,↓reduceIte,Nat.reduceLT,Nat.reduceLeDiff,Nat.reduceAdd,Nat.reduceSub,Nat.reduceMul,Nat.reduceEqDiff,reduceCtorEq,Int.reduceToNat,Int.reduceEq,Int.reduceBEq,Int.reduceBNe,Int.reduceLT,Int.reduceLE,Int.reduceNeg,Int.reduceAdd,Int.reduceSub,Int.reduceMul,Int.reduceGE,Int.reduceGT,endO,R4.enc] | rw [dr_cons])
   refine And.intro hlt (And.intro hlt (And.intro hlt2 (And.intro hlt2 (both (fun hne=>?_) (fun heq=>?_)))))
   ·have hne:a≠b:=fun q=>by subst q;simp at hne
    exact retV fun E=>by simp [SV.den,SC.den,hne]
   ·rw [wr_succ (by omega)]
    refine backI ⟨i+1,by omega,take_eqS (d:=r40) hlt hlt2 htk (r4_eq_iff.2 ?_)⟩ (by simp only;omega) (le_ren id rfl rfl (by simp [TmpsLe,look,SV.ren,SC.ren,SC.renL,ren1L,ren1,idσ,SV.okN,SC.okN,SC.okL,ok1L]) (by simp [OwnLe,BlkLeO,BlkLe,atN,look,Fm.get,idσ,SC.renL,SC.ren,SC.okL,SC.okN,renL_v,okL_v]) (by simp [ArrsLe,ArrLeO,atN,look,Fm.get,idσ,arrLe_of,arrLe_0]) rfl)
    simpa only [Bool.not_eq_false',Bool.and_eq_true,beq_iff_eq] using heq
  ·rw [decide_eq_false_iff_not] at hge
   have hin:i=a.regs.length:=by omega
   subst hin
   have he:a=b:=fn_eq_iff.2 ⟨hw,by rw [List.take_length,hle,List.take_length] at htk;exact htk⟩
   exact retV fun E=>by simp [SV.den,SC.den,he]
 ·have dw:decide (a.words=b.words)=false:=decide_eq_false hw
  rw [dw]
  simp (maxSteps:=2000000) only [go_sem,↓reduceIte,Nat.reduceLT,Nat.reduceLeDiff,Nat.reduceAdd,Nat.reduceSub,Nat.reduceMul,Nat.reduceEqDiff,reduceCtorEq,Int.reduceToNat,Int.reduceEq,Int.reduceBEq,Int.reduceBNe,Int.reduceLT,Int.reduceLE,Int.reduceNeg,Int.reduceAdd,Int.reduceSub,Int.reduceMul,Int.reduceGE,Int.reduceGT,endO]
  have hne:a≠b:=fun q=>hw (by rw [q])
  exact retV fun E=>by simp [SV.den,SC.den,hne]
set_option maxRecDepth 100000 in
set_option maxHeartbeats 1000000 in
theorem sfinalsD_calls (w:World) (v v' : Value) (xs ys:List Fn) (h:FnsR w v xs) (h' : FnsR w v' ys):Calls Try.prog 28 #[v,v'] w (RetV w (.bool (decide (xs=ys)))):=by
 have hml:=fns_len h
 refine enterFns2 (A:=[]) (c:=ir28) (rs:=rs28) (nt:=nt28) h h' Try.func28 rfl (by kernel_rfl) (by kernel_rfl) rfl (of_decide_eq_true rfl) ?_
 simp (maxSteps:=2000000) only [ir28,nt28,rs28,go_sem,↓reduceIte,Nat.reduceLT,Nat.reduceLeDiff,Nat.reduceAdd,Nat.reduceSub,Nat.reduceMul,Nat.reduceEqDiff,reduceCtorEq,Int.reduceToNat,Int.reduceEq,Int.reduceBEq,Int.reduceBNe,Int.reduceLT,Int.reduceLE,Int.reduceNeg,Int.reduceAdd,Int.reduceSub,Int.reduceMul,Int.reduceGE,Int.reduceGT,endO,fsA,fsF_len,fsF_size,fsF_at,List.cons_append,List.nil_append]
 refine both (fun hne=>?_) (fun heq=>?_)
 ·have hne:xs≠ys:=fun q=>by subst q;simp at hne
  exact retV fun E=>by simp [SV.den,SC.den,hne]
 have hle:xs.length=ys.length:=by
  have q:(xs.length:Int)=ys.length:=by simpa using heq
  omega
 refine loopI (ι:={ i:Nat // i≤xs.length∧xs.take i=ys.take i }) (fun i=>⟨27,[(0,.c (.xv (0,0,0))),(1,.c (.xv (3,0,0))),(5,.c (.v (.int .i64 (i.1:Nat))))],[],fsA 0 xs++fsA 3 ys,[],6⟩)
  (fun i=>xs.length - i.1) ⟨0,by omega,by simp⟩ (le_ren id rfl rfl (by simp [TmpsLe,look,SV.ren,SC.ren,SC.renL,ren1L,ren1,idσ,SV.okN,SC.okN,SC.okL,ok1L]) trivial (by simp +contextual [fsA,ArrsLe,ArrLeO,atN,look,Fm.get,idσ,arrLe_of,arrLe_0,arrLe_fs]) rfl) ?_
 rintro ⟨i,hi,htk⟩
 simp (maxSteps:=2000000) only [go_sem,↓reduceIte,Nat.reduceLT,Nat.reduceLeDiff,Nat.reduceAdd,Nat.reduceSub,Nat.reduceMul,Nat.reduceEqDiff,reduceCtorEq,Int.reduceToNat,Int.reduceEq,Int.reduceBEq,Int.reduceBNe,Int.reduceLT,Int.reduceLE,Int.reduceNeg,Int.reduceAdd,Int.reduceSub,Int.reduceMul,Int.reduceGE,Int.reduceGT,endO,fsA,fsF_len,fsF_size,fsF_at,List.cons_append,List.nil_append]
 refine both (fun hlt=>?_) (fun hge=>?_)
 ·rw [decide_eq_true_eq] at hlt
  have hlt:i<xs.length:=by omega
  have hlt2:i<ys.length:=by omega
  refine draw_vc (by kernel_rfl) (mkTab_ok _ _) (of_decide_eq_true rfl) (of_decide_eq_true rfl) ?_
  repeat (first | simp (maxSteps:=2000000) only [go_sem,↓reduceIte,Nat.reduceLT,Nat.reduceLeDiff,Nat.reduceAdd,Nat.reduceSub,Nat.reduceMul,Nat.reduceEqDiff,reduceCtorEq,Int.reduceToNat,Int.reduceEq,Int.reduceBEq,Int.reduceBNe,Int.reduceLT,Int.reduceLE,Int.reduceNeg,Int.reduceAdd,Int.reduceSub,Int.reduceMul,Int.reduceGE,Int.reduceGT,endO,fsF_len,fsF_size,fsF_at] | rw [dr_cons])
  refine And.intro hlt (And.intro hlt (And.intro hlt2 (And.intro hlt2 ?_)))
  refine dcallV (.c (.v (.bool (decide (xs.getD i fn0=ys.getD i fn0))))) _ (fun E=>rfl) (fun E a' w' hs=>sfinalD_calls w' _ _ _ _ (fn_fs hs 1 i hlt rfl rfl) (fn_fs hs 4 i hlt2 rfl rfl)) ?_
  by_cases he:xs.getD i fn0=ys.getD i fn0
  ·have de:decide (xs.getD i fn0=ys.getD i fn0)=true:=decide_eq_true he
   rw [de]
   repeat (first | simp (maxSteps:=2000000) only [go_sem,↓reduceIte,Nat.reduceLT,Nat.reduceLeDiff,Nat.reduceAdd,Nat.reduceSub,Nat.reduceMul,Nat.reduceEqDiff,reduceCtorEq,Int.reduceToNat,Int.reduceEq,Int.reduceBEq,Int.reduceBNe,Int.reduceLT,Int.reduceLE,Int.reduceNeg,Int.reduceAdd,Int.reduceSub,Int.reduceMul,Int.reduceGE,Int.reduceGT,endO] | rw [dr_cons])
   rw [wr_succ (by omega)]
   exact backI ⟨i+1,by omega,take_eqS (d:=fn0) hlt hlt2 htk he⟩ (by simp only;omega) (le_ren id rfl rfl (by simp [TmpsLe,look,SV.ren,SC.ren,SC.renL,ren1L,ren1,idσ,SV.okN,SC.okN,SC.okL,ok1L]) trivial (by simp +contextual [fsA,ArrsLe,ArrLeO,atN,look,Fm.get,idσ,arrLe_of,arrLe_0,arrLe_fs]) rfl)
  ·have de:decide (xs.getD i fn0=ys.getD i fn0)=false:=decide_eq_false he
   rw [de]
   repeat (first | simp (maxSteps:=2000000) only [go_sem,↓reduceIte,Nat.reduceLT,Nat.reduceLeDiff,Nat.reduceAdd,Nat.reduceSub,Nat.reduceMul,Nat.reduceEqDiff,reduceCtorEq,Int.reduceToNat,Int.reduceEq,Int.reduceBEq,Int.reduceBNe,Int.reduceLT,Int.reduceLE,Int.reduceNeg,Int.reduceAdd,Int.reduceSub,Int.reduceMul,Int.reduceGE,Int.reduceGT,endO] | rw [dr_cons])
   have hne:xs≠ys:=ne_at (d:=fn0) (i:=i) he
   exact retV fun E=>by simp [SV.den,SC.den,hne]
 ·rw [decide_eq_false_iff_not] at hge
  have hin:i=xs.length:=by omega
  subst hin
  have he:xs=ys:=by rw [List.take_length,hle,List.take_length] at htk;exact htk
  exact retV fun E=>by simp [SV.den,SC.den,he]
def nilF (e:Int):SV:=.tup [(false,[.v (.slice none 0 0)]),(false,[.v (.int .i64 e)])]
theorem nilF_den (e:Int) (E:Env):(nilF e).den E = .tuple #[.slice none 0 0,.int .i64 e]:=by simp [nilF,SV.den,SC.den,den1]
theorem rfin_err (w:World) (v:Value) (L:Lt) (o:Int) (he:refE L o≠0) (h:LtR w v L):Calls Try.prog 27 #[v,.int .i64 o] w (RetV w (.tuple #[.slice none 0 0,.int .i64 (refE L o)])):=by
 refine enterLt (A:=[]) (c:=ir27) (rs:=rs27) (nt:=nt27) h [.agg (ltS 0),.c (.v (.int .i64 o))] _ Try.func27 rfl (by kernel_rfl) (by kernel_rfl) rfl (fun E' h0=>by simp only [List.map_cons,List.map_nil,h0];rfl) (of_decide_eq_true rfl) ?_
 simp (maxSteps:=2000000) only [ir27,nt27,rs27,go_sem,↓reduceIte,Nat.reduceLT,Nat.reduceLeDiff,Nat.reduceAdd,Nat.reduceSub,Nat.reduceMul,Nat.reduceEqDiff,reduceCtorEq,Int.reduceToNat,Int.reduceEq,Int.reduceBEq,Int.reduceBNe,Int.reduceLT,Int.reduceLE,Int.reduceNeg,Int.reduceAdd,Int.reduceSub,Int.reduceMul,Int.reduceGE,Int.reduceGT,endO,ltA,ltS]
 refine callV (.c (.v (.int .i64 (refE L o)))) _ (fun E=>rfl) (fun E a w' hs=>refused_calls w' _ L o (ltL_at hs rfl rfl rfl)) ?_
 have d1:(refE L o == 0)=false:=by simpa using he
 simp (maxSteps:=2000000) only [go_sem,↓reduceIte,Nat.reduceLT,Nat.reduceLeDiff,Nat.reduceAdd,Nat.reduceSub,Nat.reduceMul,Nat.reduceEqDiff,reduceCtorEq,Int.reduceToNat,Int.reduceEq,Int.reduceBEq,Int.reduceBNe,Int.reduceLT,Int.reduceLE,Int.reduceNeg,Int.reduceAdd,Int.reduceSub,Int.reduceMul,Int.reduceGE,Int.reduceGT,endO,d1,bne,Bool.not_false]
 exact retV fun E=>nilF_den _ E
theorem walk_err (w:World) (v:Value) (L:Lt) (o:Int) (hok:LtOk L) (he:refE L o≠0) (h:LtR w v L):Calls Try.prog 49 #[v,.int .i64 o] w (RetV w (.tuple #[.slice none 0 0,.int .i64 (refE L o)])):=by
 refine enterLt (A:=[]) (c:=ir49) (rs:=rs49) (nt:=nt49) h [.agg (ltS 0),.c (.v (.int .i64 o))] _ Try.func49 rfl (by kernel_rfl) (by kernel_rfl) rfl (fun E' h0=>by simp only [List.map_cons,List.map_nil,h0];rfl) (of_decide_eq_true rfl) ?_
 simp (maxSteps:=2000000) only [ir49,nt49,rs49,go_sem,↓reduceIte,Nat.reduceLT,Nat.reduceLeDiff,Nat.reduceAdd,Nat.reduceSub,Nat.reduceMul,Nat.reduceEqDiff,reduceCtorEq,Int.reduceToNat,Int.reduceEq,Int.reduceBEq,Int.reduceBNe,Int.reduceLT,Int.reduceLE,Int.reduceNeg,Int.reduceAdd,Int.reduceSub,Int.reduceMul,Int.reduceGE,Int.reduceGT,endO,ltA,ltS]
 refine callV (.c (.v (.int .i64 (refE L o)))) _ (fun E=>rfl) (fun E a w' hs=>look_calls w' _ L o hok (ltL_at hs rfl rfl rfl)) ?_
 have d1:(refE L o == 0)=false:=by simpa using he
 simp (maxSteps:=2000000) only [go_sem,↓reduceIte,Nat.reduceLT,Nat.reduceLeDiff,Nat.reduceAdd,Nat.reduceSub,Nat.reduceMul,Nat.reduceEqDiff,reduceCtorEq,Int.reduceToNat,Int.reduceEq,Int.reduceBEq,Int.reduceBNe,Int.reduceLT,Int.reduceLE,Int.reduceNeg,Int.reduceAdd,Int.reduceSub,Int.reduceMul,Int.reduceGE,Int.reduceGT,endO,d1,bne,Bool.not_false]
 exact retV fun E=>nilF_den _ E
theorem ifin_err (w:World) (v:Value) (L:Lt) (o:Int) (hok:LtOk L) (he:refE L o≠0) (h:LtR w v L):Calls Try.prog 26 #[v,.int .i64 o] w (RetV w (.tuple #[.slice none 0 0,.int .i64 (refE L o)])):=by
 refine enterLt (A:=[]) (c:=ir26) (rs:=rs26) (nt:=nt26) h [.agg (ltS 0),.c (.v (.int .i64 o))] _ Try.func26 rfl (by kernel_rfl) (by kernel_rfl) rfl (fun E' h0=>by simp only [List.map_cons,List.map_nil,h0];rfl) (of_decide_eq_true rfl) ?_
 simp (maxSteps:=2000000) only [ir26,nt26,rs26,go_sem,↓reduceIte,Nat.reduceLT,Nat.reduceLeDiff,Nat.reduceAdd,Nat.reduceSub,Nat.reduceMul,Nat.reduceEqDiff,reduceCtorEq,Int.reduceToNat,Int.reduceEq,Int.reduceBEq,Int.reduceBNe,Int.reduceLT,Int.reduceLE,Int.reduceNeg,Int.reduceAdd,Int.reduceSub,Int.reduceMul,Int.reduceGE,Int.reduceGT,endO,ltA,ltS]
 refine callV (nilF (refE L o)) _ (nilF_den _) (fun E a w' hs=>walk_err w' _ L o hok he (ltL_at hs rfl rfl rfl)) ?_
 have d1:(refE L o == 0)=false:=by simpa using he
 simp (maxSteps:=2000000) only [go_sem,↓reduceIte,Nat.reduceLT,Nat.reduceLeDiff,Nat.reduceAdd,Nat.reduceSub,Nat.reduceMul,Nat.reduceEqDiff,reduceCtorEq,Int.reduceToNat,Int.reduceEq,Int.reduceBEq,Int.reduceBNe,Int.reduceLT,Int.reduceLE,Int.reduceNeg,Int.reduceAdd,Int.reduceSub,Int.reduceMul,Int.reduceGE,Int.reduceGT,endO,nilF,d1,bne,Bool.not_false]
 exact retV fun E=>nilF_den _ E
theorem lt_ownG {C:Ctx} {E:Env} {S:St} {a:Act} {w:World} (hs:Sat C.B C.W C.w0 E S a w) {L:Lt} (b:Nat) (h5:look S.own b=some (.one (.ar L.words.length 1 (ats eI L.words 0) 3))) (h6:look S.own (b+1)=some (.one (.ar L.thr.length 1 (thC (b+2) L) 80))) (h7:look S.own (b+2)=some (.fam L.thr.length (thO L))):LtR w ((SV.agg (twS b L)).den E) L :=
 ⟨(SC.sl (b,0,0) 1 0 L.words.length none).den E,(SC.sl (b+1,0,0) 1 0 L.thr.length none).den E,by simp [SV.den,twS],own_at (d:=0) hs b _ h5 rfl,nest_own (d:=in0) hs (b+1,0,0) (b+2) _ rfl (thC (b+2) L) (by simp [atN,h6,Fm.get];rfl) (fun _ _=>rfl) (fun k hk=>by simp [atN,h7,Fm.get,hk,thO];rfl)⟩
def ir5:IR:=(.seq (.ops [⟨(some 2),(.box 25 (.t 0)),none⟩,⟨(some 4),(.mv (.k (.c (.v (.bool false))))),none⟩]) (.kill [0,3,4,5,6,7,8,9,10,11] (.seq (.ops [⟨(some 10),(.ld true 2 (.t 2)),none⟩,⟨(some 11),(.call 10 [(.t 10)]),none⟩,⟨(some 5),(.new 25 [(.v (.slice none 0 0)),(.v (.slice none 0 0))]),none⟩,⟨none,(.st 2 (.t 5) (.t 11)),none⟩]) (.kill [10,11] (.seq (.ops [⟨(some 13),(.ld true 2 (.t 5)),none⟩,⟨(some 14),(.mv (.t 1)),none⟩,⟨(some 15),(.call 26 [(.t 13),(.t 14)]),none⟩,⟨(some 12),(.mv (.t 15)),none⟩,⟨(some 16),(.ext 0 (.t 12)),none⟩,⟨(some 17),(.ext 1 (.t 12)),none⟩,⟨(some 6),(.mv (.t 16)),none⟩,⟨(some 7),(.mv (.t 17)),none⟩]) (.kill [12,13,14,15,16,17] (.seq (.ops [⟨(some 19),(.ld true 2 (.t 2)),none⟩,⟨(some 20),(.mv (.t 1)),none⟩,⟨(some 21),(.call 27 [(.t 19),(.t 20)]),none⟩,⟨(some 18),(.mv (.t 21)),none⟩,⟨(some 22),(.ext 0 (.t 18)),none⟩,⟨(some 23),(.ext 1 (.t 18)),none⟩,⟨(some 8),(.mv (.t 22)),none⟩,⟨(some 9),(.mv (.t 23)),none⟩]) (.kill [1,18,19,20,21,22,23] (.seq (.ops [⟨(some 24),(.mv (.t 6)),none⟩,⟨(some 25),(.mv (.t 8)),none⟩,⟨(some 26),(.call 28 [(.t 24),(.t 25)]),none⟩,⟨(some 27),(.mv (.t 26)),none⟩,⟨(some 28),(.mv (.t 7)),(some (27,true))⟩,⟨(some 29),(.call 14 [(.t 28)]),(some (27,true))⟩,⟨(some 30),(.mv (.t 9)),(some (27,true))⟩,⟨(some 31),(.bin .eql (.t 29) (.t 30)),(some (27,true))⟩,⟨(some 32),(.pick (.t 27) (.t 31) (.k (.c (.v (.bool false))))),none⟩,⟨(some 33),(.mv (.t 32)),none⟩,⟨(some 34),(.ld true 2 (.t 5)),(some (33,true))⟩,⟨(some 35),(.ld true 2 (.t 2)),(some (33,true))⟩,⟨(some 36),(.call 15 [(.t 34),(.t 35)]),(some (33,true))⟩,⟨(some 37),(.pick (.t 33) (.t 36) (.k (.c (.v (.bool false))))),none⟩,⟨(some 4),(.mv (.t 37)),none⟩]) (.kill [2,5,6,7,8,9,24,25,26,27,28,29,30,31,32,33,34,35,36,37] .ret))))))))))
def rs5:List RS:=[(.t 4)]
def nt5:Nat:=38
set_option maxRecDepth 100000 in
set_option maxHeartbeats 1000000 in
theorem finals_walk (w:World) (v:Value) (L:Lt) (o:Int) (hok:LtOk L) (hsz:LtSz L) (h:LtR w v L):Calls Try.prog 5 #[v,.int .i64 o] w (RetV w (.bool true)):=by
 refine enterLt (A:=[]) (c:=ir5) (rs:=rs5) (nt:=nt5) h [.agg (ltS 0),.c (.v (.int .i64 o))] _ Try.func5 rfl (by kernel_rfl) (by kernel_rfl) rfl (fun E' h0=>by simp only [List.map_cons,List.map_nil,h0];rfl) (of_decide_eq_true rfl) ?_
 simp (maxSteps:=2000000) only [ir5,nt5,rs5,go_sem,↓reduceIte,Nat.reduceLT,Nat.reduceLeDiff,Nat.reduceAdd,Nat.reduceSub,Nat.reduceMul,Nat.reduceEqDiff,reduceCtorEq,Int.reduceToNat,Int.reduceEq,Int.reduceBEq,Int.reduceBNe,Int.reduceLT,Int.reduceLE,Int.reduceNeg,Int.reduceAdd,Int.reduceSub,Int.reduceMul,Int.reduceGE,Int.reduceGT,endO,ltA,ltS]
 refine callN 3 (fun b=>.agg (twS b L)) (fun b=>twO b L) (fun E a w' hs=>twin_calls w' _ L hsz (ltL_at hs rfl rfl rfl)) ?_
 simp (maxSteps:=2000000) only [go_sem,↓reduceIte,Nat.reduceLT,Nat.reduceLeDiff,Nat.reduceAdd,Nat.reduceSub,Nat.reduceMul,Nat.reduceEqDiff,reduceCtorEq,Int.reduceToNat,Int.reduceEq,Int.reduceBEq,Int.reduceBNe,Int.reduceLT,Int.reduceLE,Int.reduceNeg,Int.reduceAdd,Int.reduceSub,Int.reduceMul,Int.reduceGE,Int.reduceGT,endO,twS,twO]
 by_cases he:refE L o=0
 ·have hc:checkB L=true∧1≤o∧o≤3:=by
   unfold refE at he
   split at he
   ·next h1 =>
    split at he
    ·next h2=>exact ⟨h1,h2⟩
    ·cases he
   ·cases he
  obtain ⟨hL,ho⟩:=hc
  cases hb:bfs L o with
  | none =>
   refine callV (nilF 192) _ (nilF_den _) (fun E a w' hs=>by
    have:=ifin_calls w' _ L o hL ho hok (lt_ownG hs 4 rfl rfl rfl)
    unfold FinR at this
    rw [hb] at this
    exact this) ?_
   simp (maxSteps:=2000000) only [go_sem,↓reduceIte,Nat.reduceLT,Nat.reduceLeDiff,Nat.reduceAdd,Nat.reduceSub,Nat.reduceMul,Nat.reduceEqDiff,reduceCtorEq,Int.reduceToNat,Int.reduceEq,Int.reduceBEq,Int.reduceBNe,Int.reduceLT,Int.reduceLE,Int.reduceNeg,Int.reduceAdd,Int.reduceSub,Int.reduceMul,Int.reduceGE,Int.reduceGT,endO,nilF]
   refine callV (nilF 192) _ (nilF_den _) (fun E a w' hs=>by
    have:=rfin_calls w' _ L o hL ho (ltL_at hs rfl rfl rfl)
    unfold FinR at this
    rw [hb] at this
    exact this) ?_
   simp (maxSteps:=2000000) only [go_sem,↓reduceIte,Nat.reduceLT,Nat.reduceLeDiff,Nat.reduceAdd,Nat.reduceSub,Nat.reduceMul,Nat.reduceEqDiff,reduceCtorEq,Int.reduceToNat,Int.reduceEq,Int.reduceBEq,Int.reduceBNe,Int.reduceLT,Int.reduceLE,Int.reduceNeg,Int.reduceAdd,Int.reduceSub,Int.reduceMul,Int.reduceGE,Int.reduceGT,endO,nilF]
   refine callV (.c (.v (.bool true))) _ (fun E=>rfl) (fun E a w' hs=>sfinalsD_calls w' _ _ [] [] (fns_nil w') (fns_nil w')) ?_
   simp (maxSteps:=2000000) only [go_sem,↓reduceIte,Nat.reduceLT,Nat.reduceLeDiff,Nat.reduceAdd,Nat.reduceSub,Nat.reduceMul,Nat.reduceEqDiff,reduceCtorEq,Int.reduceToNat,Int.reduceEq,Int.reduceBEq,Int.reduceBNe,Int.reduceLT,Int.reduceLE,Int.reduceNeg,Int.reduceAdd,Int.reduceSub,Int.reduceMul,Int.reduceGE,Int.reduceGT,endO]
   refine callV (.c (.v (.int .i64 192))) _ (fun E=>rfl) (fun E a w' hs=>num_calls w' _) ?_
   simp (maxSteps:=2000000) only [go_sem,↓reduceIte,Nat.reduceLT,Nat.reduceLeDiff,Nat.reduceAdd,Nat.reduceSub,Nat.reduceMul,Nat.reduceEqDiff,reduceCtorEq,Int.reduceToNat,Int.reduceEq,Int.reduceBEq,Int.reduceBNe,Int.reduceLT,Int.reduceLE,Int.reduceNeg,Int.reduceAdd,Int.reduceSub,Int.reduceMul,Int.reduceGE,Int.reduceGT,endO]
   refine guardW (.c (.v (.bool true))) _ (fun E=>rfl) (fun E a w' hs=>slitmus_calls w' _ _ L (lt_ownG hs 4 rfl rfl rfl) (ltL_at hs rfl rfl rfl)) ?_
   simp (maxSteps:=2000000) only [go_sem,↓reduceIte,Nat.reduceLT,Nat.reduceLeDiff,Nat.reduceAdd,Nat.reduceSub,Nat.reduceMul,Nat.reduceEqDiff,reduceCtorEq,Int.reduceToNat,Int.reduceEq,Int.reduceBEq,Int.reduceBNe,Int.reduceLT,Int.reduceLE,Int.reduceNeg,Int.reduceAdd,Int.reduceSub,Int.reduceMul,Int.reduceGE,Int.reduceGT,endO]
   exact retV fun E=>by simp [SV.den,SC.den]
  | some l =>
   generalize hfl:finsL L (l.map (·.s))=fl
   refine callN 3 (leT 2 fl.length 0) (fun b=>foO b fl) (fun E a w' hs=>by
    have:=ifin_calls w' _ L o hL ho hok (lt_ownG hs 4 rfl rfl rfl)
    unfold FinR at this
    rw [hb] at this
    rw [← hfl]
    exact this) ?_
   simp (maxSteps:=2000000) only [go_sem,↓reduceIte,Nat.reduceLT,Nat.reduceLeDiff,Nat.reduceAdd,Nat.reduceSub,Nat.reduceMul,Nat.reduceEqDiff,reduceCtorEq,Int.reduceToNat,Int.reduceEq,Int.reduceBEq,Int.reduceBNe,Int.reduceLT,Int.reduceLE,Int.reduceNeg,Int.reduceAdd,Int.reduceSub,Int.reduceMul,Int.reduceGE,Int.reduceGT,endO,leT,foO]
   refine callN 3 (leT 2 fl.length 0) (fun b=>foO b fl) (fun E a w' hs=>by
    have:=rfin_calls w' _ L o hL ho (ltL_at hs rfl rfl rfl)
    unfold FinR at this
    rw [hb] at this
    rw [← hfl]
    exact this) ?_
   simp (maxSteps:=2000000) only [go_sem,↓reduceIte,Nat.reduceLT,Nat.reduceLeDiff,Nat.reduceAdd,Nat.reduceSub,Nat.reduceMul,Nat.reduceEqDiff,reduceCtorEq,Int.reduceToNat,Int.reduceEq,Int.reduceBEq,Int.reduceBNe,Int.reduceLT,Int.reduceLE,Int.reduceNeg,Int.reduceAdd,Int.reduceSub,Int.reduceMul,Int.reduceGE,Int.reduceGT,endO,leT,foO]
   refine callV (.c (.v (.bool true))) _ (fun E=>rfl) (fun E a w' hs=>by
    have:=sfinalsD_calls w' _ _ fl fl (fns_own hs 8 rfl rfl rfl) (fns_own hs 11 rfl rfl rfl)
    rw [decide_eq_true rfl] at this
    exact this) ?_
   simp (maxSteps:=2000000) only [go_sem,↓reduceIte,Nat.reduceLT,Nat.reduceLeDiff,Nat.reduceAdd,Nat.reduceSub,Nat.reduceMul,Nat.reduceEqDiff,reduceCtorEq,Int.reduceToNat,Int.reduceEq,Int.reduceBEq,Int.reduceBNe,Int.reduceLT,Int.reduceLE,Int.reduceNeg,Int.reduceAdd,Int.reduceSub,Int.reduceMul,Int.reduceGE,Int.reduceGT,endO]
   refine callV (.c (.v (.int .i64 0))) _ (fun E=>rfl) (fun E a w' hs=>num_calls w' _) ?_
   simp (maxSteps:=2000000) only [go_sem,↓reduceIte,Nat.reduceLT,Nat.reduceLeDiff,Nat.reduceAdd,Nat.reduceSub,Nat.reduceMul,Nat.reduceEqDiff,reduceCtorEq,Int.reduceToNat,Int.reduceEq,Int.reduceBEq,Int.reduceBNe,Int.reduceLT,Int.reduceLE,Int.reduceNeg,Int.reduceAdd,Int.reduceSub,Int.reduceMul,Int.reduceGE,Int.reduceGT,endO]
   refine guardW (.c (.v (.bool true))) _ (fun E=>rfl) (fun E a w' hs=>slitmus_calls w' _ _ L (lt_ownG hs 4 rfl rfl rfl) (ltL_at hs rfl rfl rfl)) ?_
   simp (maxSteps:=2000000) only [go_sem,↓reduceIte,Nat.reduceLT,Nat.reduceLeDiff,Nat.reduceAdd,Nat.reduceSub,Nat.reduceMul,Nat.reduceEqDiff,reduceCtorEq,Int.reduceToNat,Int.reduceEq,Int.reduceBEq,Int.reduceBNe,Int.reduceLT,Int.reduceLE,Int.reduceNeg,Int.reduceAdd,Int.reduceSub,Int.reduceMul,Int.reduceGE,Int.reduceGT,endO]
   exact retV fun E=>by simp [SV.den,SC.den]
 ·refine callV (nilF (refE L o)) _ (nilF_den _) (fun E a w' hs=>ifin_err w' _ L o hok he (lt_ownG hs 4 rfl rfl rfl)) ?_
  simp (maxSteps:=2000000) only [go_sem,↓reduceIte,Nat.reduceLT,Nat.reduceLeDiff,Nat.reduceAdd,Nat.reduceSub,Nat.reduceMul,Nat.reduceEqDiff,reduceCtorEq,Int.reduceToNat,Int.reduceEq,Int.reduceBEq,Int.reduceBNe,Int.reduceLT,Int.reduceLE,Int.reduceNeg,Int.reduceAdd,Int.reduceSub,Int.reduceMul,Int.reduceGE,Int.reduceGT,endO,nilF]
  refine callV (nilF (refE L o)) _ (nilF_den _) (fun E a w' hs=>rfin_err w' _ L o he (ltL_at hs rfl rfl rfl)) ?_
  simp (maxSteps:=2000000) only [go_sem,↓reduceIte,Nat.reduceLT,Nat.reduceLeDiff,Nat.reduceAdd,Nat.reduceSub,Nat.reduceMul,Nat.reduceEqDiff,reduceCtorEq,Int.reduceToNat,Int.reduceEq,Int.reduceBEq,Int.reduceBNe,Int.reduceLT,Int.reduceLE,Int.reduceNeg,Int.reduceAdd,Int.reduceSub,Int.reduceMul,Int.reduceGE,Int.reduceGT,endO,nilF]
  refine callV (.c (.v (.bool true))) _ (fun E=>rfl) (fun E a w' hs=>sfinalsD_calls w' _ _ [] [] (fns_nil w') (fns_nil w')) ?_
  simp (maxSteps:=2000000) only [go_sem,↓reduceIte,Nat.reduceLT,Nat.reduceLeDiff,Nat.reduceAdd,Nat.reduceSub,Nat.reduceMul,Nat.reduceEqDiff,reduceCtorEq,Int.reduceToNat,Int.reduceEq,Int.reduceBEq,Int.reduceBNe,Int.reduceLT,Int.reduceLE,Int.reduceNeg,Int.reduceAdd,Int.reduceSub,Int.reduceMul,Int.reduceGE,Int.reduceGT,endO]
  refine callV (.c (.v (.int .i64 (refE L o)))) _ (fun E=>rfl) (fun E a w' hs=>num_calls w' _) ?_
  simp (maxSteps:=2000000) only [go_sem,↓reduceIte,Nat.reduceLT,Nat.reduceLeDiff,Nat.reduceAdd,Nat.reduceSub,Nat.reduceMul,Nat.reduceEqDiff,reduceCtorEq,Int.reduceToNat,Int.reduceEq,Int.reduceBEq,Int.reduceBNe,Int.reduceLT,Int.reduceLE,Int.reduceNeg,Int.reduceAdd,Int.reduceSub,Int.reduceMul,Int.reduceGE,Int.reduceGT,endO]
  refine guardW (.c (.v (.bool true))) _ (fun E=>rfl) (fun E a w' hs=>slitmus_calls w' _ _ L (lt_ownG hs 4 rfl rfl rfl) (ltL_at hs rfl rfl rfl)) ?_
  simp (maxSteps:=2000000) only [go_sem,↓reduceIte,Nat.reduceLT,Nat.reduceLeDiff,Nat.reduceAdd,Nat.reduceSub,Nat.reduceMul,Nat.reduceEqDiff,reduceCtorEq,Int.reduceToNat,Int.reduceEq,Int.reduceBEq,Int.reduceBNe,Int.reduceLT,Int.reduceLE,Int.reduceNeg,Int.reduceAdd,Int.reduceSub,Int.reduceMul,Int.reduceGE,Int.reduceGT,endO]
  exact retV fun E=>by simp [SV.den,SC.den]
end Go.Proofs.Ytmcpdafmkkjlcaa.Z
namespace Go.Proofs.Ytmcpdafmkkjlcaa.Z
open Go Go.RowKit Go.ChangeShapes Go.WideShapes Go.ChangeAt
theorem own:ownKnob Try.prog.godebug=none:=by kernel_rfl
theorem laidOut:laidOutB Try.prog=true:=by kernel_rfl
section
variable {H:Type} {enc:TypeId×Value→H} {P:Program} {w:World} {base:Nat} {spare:Nat→Bool} {held:Bool}
theorem leaf_sliceW {α:Type} {b:Nat} {ws:List Nat} {u e:TypeId} {c:Value} (hu:P.underlying u=some (.slice e)) {s:Nat} (hpos:0<s) (hc:P.cellsOf e=s) (encA:α→List Value) (Q:α→Prop)
  (helem:∀ (m:Nat) (cs:List Value) (y:DataW H×List MemPlace),cs.length=s→DataW.trod enc P w base spare held m e cs=some y→(∀ k∈y.1.weights P e,k∈ws)→∃ x:α,cs=encA x∧Q x)
  (h:LeafAt enc P w base spare held b ws u c):∃ xs:List α,Arr w encA s c xs∧(∀ x∈xs,Q x)∧xs.length+1≤b∧(xs=[]∨∃ k∈ws,xs.length * P.bytesOf e≤k):=by
 obtain ⟨m,y,h1,hb,hw⟩:=h
 rcases DataW.trod_slice hu h1 with ⟨hcs,rfl⟩ | ⟨a,len,cap,elems,rest,n,_,hcs,rfl,hba,hl,hm,hlen,hel,hsp,hns⟩
 ·simp only [List.cons.injEq,and_true] at hcs
  subst hcs
  refine ⟨[],Arr.nil _ _ _,by simp,?_,Or.inl rfl⟩
  simp only [Rows.uptoBulk] at hb
  simpa using hb
 ·simp only [List.cons.injEq,and_true] at hcs
  subst hcs
  have each:∀ i,i<len→∃ x:α,(∃ cs,w.cells? base (a.add (i * s)) s=some cs∧cs=encA x)∧Q x:=by
   intro i hi
   have h2:=hel i hi
   rw [List.getElem?_eq_getElem (by omega),hc] at h2
   obtain ⟨cs,h3,h4⟩:=Option.bind_eq_some_iff.1 h2
   obtain ⟨x,h5,h6⟩:=helem n cs _ (World.cells?_some h3).2.1 h4 (fun k hk=>hw k (by
    simp only [DataW.weights,hu]
    exact List.mem_cons_of_mem _ (List.mem_append_left _ (weightsAll_mem (List.mem_map.2 ⟨_,List.getElem_mem (by omega),rfl⟩) k hk))))
   exact ⟨x,⟨cs,h3,h5⟩,h6⟩
  obtain ⟨xs,hxl,hx⟩:=choose_list len each
  refine ⟨xs,?_,?_,?_,?_⟩
  ·refine ⟨some a,cap,by rw [hxl],by omega,hm,?_⟩
   by_cases h0:xs=[]
   ·exact Or.inl h0
   ·right
    by_cases hspot:a.spot=none
    ·obtain ⟨ab,ao,sp⟩:=a
     simp only at hspot
     subst hspot
     refine ⟨ab,ao,rfl,fun k x hk j u hj=>?_⟩
     obtain ⟨⟨cs,h3,rfl⟩,_⟩:=hx k x hk
     obtain ⟨_,hlc,hcell⟩:=World.cells?_some h3
     have hjs:j<s:=by rw [← hlc];exact (List.getElem?_eq_some_iff.1 hj).1
     have h4:=hcell j hjs
     rw [hj] at h4
     rw [← h4]
     congr 1
     unfold Addr.add
     split <;> split <;> simp_all
    ·exfalso
     obtain ⟨x0,hx0⟩:∃ x0,xs[0]? = some x0:=by cases xs with | nil=>exact absurd rfl h0 | cons y _=>exact ⟨y,rfl⟩
     obtain ⟨⟨cs,h3,_⟩,_⟩:=hx 0 x0 hx0
     obtain ⟨_,hlc,hcell⟩:=World.cells?_some h3
     have h4:=hcell 0 hpos
     rw [Nat.zero_mul] at h4
     have e:(a.add 0).add 0=a:=by simp [Addr.add]
     rw [e,List.getElem?_eq_getElem (by omega)] at h4
     unfold World.cell? at h4
     split at h4
     ·cases hs:a.spot with
      | none=>exact hspot hs
      | some q=>rw [hs] at h4;simp at h4
     ·cases h4
  ·intro x hx'
   obtain ⟨i,hi⟩:=List.getElem?_of_mem hx'
   exact (hx i x hi).2
  ·have h2:=length_le_bulk (elems.map (·.1))
   simp only [Rows.uptoBulk,List.length_map] at hb h2
   omega
  ·right
   refine ⟨_,hw (((elems.map (·.1)).length+(rest.map (·.1)).length) * P.bytesOf e) ?_,?_⟩
   ·simp only [DataW.weights,hu]
    exact List.mem_cons_self
   ·rw [hxl,List.length_map,hlen]
    exact Nat.mul_le_mul_right _ (by omega)
end
section
variable {H:Type} {enc:TypeId×Value→H} {w:World}
theorem reach_len {α:Type} {x:List α} {s:Nat} {ws:List Nat} (hr:∀ k∈ws,k≤reachBytes) (h:x=[]∨∃ k∈ws,x.length * s≤k):x.length * s≤140737488351232:=by
 rcases h with rfl | ⟨k,hk,h⟩
 ·simp
 ·have:=hr k hk
  unfold reachBytes at this
  omega
theorem lit_rng {n:Int} (h:(Lit.int .i64 n).wf=true) : -9223372036854775808≤n∧n≤9223372036854775807:=by
 simp [Lit.wf,IntKind.min,IntKind.max,IntKind.signed,IntKind.bits] at h
 omega
theorem leavesIs:leavesIn Try.prog 9 83=some [81,3,3,3,3,3,3]:=by kernel_rfl
theorem cellsIs:Try.prog.cellsOf 83=7:=by kernel_rfl
theorem bytesIs:Try.prog.bytesOf 83=56:=by kernel_rfl
theorem leavesLt:leavesIn Try.prog 9 25=some [22,23]:=by kernel_rfl
theorem cellsLt:Try.prog.cellsOf 25=2:=by kernel_rfl
theorem cellsI1:Try.prog.cellsOf 3=1:=by kernel_rfl
theorem bytesI1:Try.prog.bytesOf 3=8:=by kernel_rfl
theorem cellsIl:Try.prog.cellsOf 80=1:=by kernel_rfl
theorem bytesIl:Try.prog.bytesOf 80=24:=by kernel_rfl
theorem leavesIl:leavesIn Try.prog 9 80=some [80]:=by kernel_rfl
theorem leaf_ints {b:Nat} {ws:List Nat} {c:Value} (h:LeafAt enc Try.prog w 0 (fun _=>true) true b ws 22 c) :
  ∃ xs:List Int,Arr w eI 1 c xs∧(xs=[]∨∃ k∈ws,xs.length * 8≤k):=by
 obtain ⟨xs,h1,h4,h2,h3⟩:=h.slice (α:=Int) Try.underlying22 (by decide) cellsI1 eI (fun x=>True) (fun m cs y hl ht=>by
  match cs,hl with
  | [c0],_ =>
   have L:=leaf_of 9 _ _ (show leavesIn Try.prog 9 3=some [3] by kernel_rfl) m _ _ ht
   obtain ⟨x0,rfl,r0⟩:=(L 0 _ c0 rfl rfl).int Try.underlying3
   exact ⟨x0,rfl,trivial⟩)
 rw [bytesI1] at h3
 exact ⟨xs,h1,h3⟩
theorem leaf_code {b:Nat} {ws:List Nat} {c:Value} (h:LeafAt enc Try.prog w 0 (fun _=>true) true b ws 80 c) :
  ∃ xs:List Ins,Arr w Ins.enc 7 c xs∧(∀ c∈xs,InR c)∧(xs=[]∨∃ k∈ws,xs.length * 56≤k):=by
 obtain ⟨xs,h1,h4,h2,h3⟩:=h.slice (α:=Ins) Try.underlying80 (by decide) cellsIs Ins.enc InR (fun m cs y hl ht=>by
  match cs,hl with
  | [c0,c1,c2,c3,c4,c5,c6],_ =>
   have L:=leaf_of 9 _ _ leavesIs m _ _ ht
   obtain ⟨x0,rfl,_⟩:=(L 0 _ c0 rfl rfl).int Try.underlying81
   obtain ⟨x1,rfl,_⟩:=(L 1 _ c1 rfl rfl).int Try.underlying3
   obtain ⟨x2,rfl,_⟩:=(L 2 _ c2 rfl rfl).int Try.underlying3
   obtain ⟨x3,rfl,_⟩:=(L 3 _ c3 rfl rfl).int Try.underlying3
   obtain ⟨x4,rfl,r4⟩:=(L 4 _ c4 rfl rfl).int Try.underlying3
   obtain ⟨x5,rfl,_⟩:=(L 5 _ c5 rfl rfl).int Try.underlying3
   obtain ⟨x6,rfl,_⟩:=(L 6 _ c6 rfl rfl).int Try.underlying3
   exact ⟨⟨x0,x1,x2,x3,x4,x5,x6⟩,rfl,lit_rng r4⟩)
 rw [bytesIs] at h3
 exact ⟨xs,h1,h4,h3⟩
theorem leaf_codes {b:Nat} {ws:List Nat} {c:Value} (h:LeafAt enc Try.prog w 0 (fun _=>true) true b ws 23 c) :
  ∃ ls:List (List Ins),Nest w Ins.enc 7 c ls∧(∀ code∈ls,∀ c∈code,InR c)∧(ls=[]∨∃ k∈ws,ls.length * 24≤k)∧(∀ code∈ls,code=[]∨∃ k∈ws,code.length * 56≤k):=by
 obtain ⟨vs,h1,h4,_,h3⟩:=leaf_sliceW (h:=h) (α:=Value) Try.underlying23 (by decide) cellsIl one1' (fun v=>∃ is:List Ins,Arr w Ins.enc 7 v is∧(∀ c∈is,InR c)∧(is=[]∨∃ k∈ws,is.length * 56≤k)) (fun m cs y hl ht hw=>by
  match cs,hl with
  | [c0],_ =>
   have L:=leaf_of 9 _ _ leavesIl m _ _ ht
   obtain ⟨is,g1,g2,g3⟩:=leaf_code (L 0 _ c0 rfl rfl)
   exact ⟨c0,rfl,is,g1,g2,g3.imp id fun ⟨k,hk,h⟩=>⟨k,hw k hk,h⟩⟩)
 rw [bytesIl] at h3
 obtain ⟨ls,hl,hls⟩:=choose_list (R:=fun i is=>Arr w Ins.enc 7 (vs.getD i nest0) is∧(∀ c∈is,InR c)∧(is=[]∨∃ k∈ws,is.length * 56≤k)) vs.length (fun i hi=>by
  obtain ⟨is,g⟩:=h4 (vs.getD i nest0) (by rw [List.getD_eq_getElem?_getD,List.getElem?_eq_getElem hi];exact List.getElem_mem hi)
  exact ⟨is,g⟩)
 refine ⟨ls,⟨vs,h1,hl.symm,fun k hk=>?_⟩,fun code hc=>?_,?_,fun code hc=>?_⟩
 ·rw [List.getD_eq_getElem?_getD (l:=ls),List.getElem?_eq_getElem hk]
  exact (hls k _ (List.getElem?_eq_getElem hk)).1
 ·obtain ⟨i,hi⟩:=List.getElem?_of_mem hc
  exact (hls i _ hi).2.1
 ·rw [hl]
  refine h3.imp (fun e=>?_) id
  subst e
  exact List.eq_nil_of_length_eq_zero hl
 ·obtain ⟨i,hi⟩:=List.getElem?_of_mem hc
  exact (hls i _ hi).2.2
set_option maxRecDepth 100000 in
theorem open_litmus {base:Nat} {v:Value} {d:DataW H} {p:List MemPlace} (hv:Value.okWide Try.prog w .any base 25 v) (h:DataW.Trod enc Try.prog w 0 (fun _=>true) true 25 v d p) :
  ∃ L,LtR w v L∧LtOk L∧((∀ k∈d.weights Try.prog 25,k≤reachBytes)→LtSz L):=by
 obtain ⟨cs,rfl,hsz⟩:=okWide_struct Try.underlying25 hv
 obtain ⟨l⟩:=cs
 obtain ⟨fuel,hf⟩:=h
 match l,hsz.trans cellsLt with
 | [c0,c1],_ =>
  have L:=leaf_of 9 _ _ leavesLt fuel _ _ hf
  obtain ⟨xs,h1,h2⟩:=leaf_ints (L 0 22 c0 rfl rfl)
  obtain ⟨ls,g1,g2,g3,g4⟩:=leaf_codes (L 1 23 c1 rfl rfl)
  refine ⟨⟨xs,ls⟩,⟨c0,c1,rfl,h1,g1⟩,g2,fun hr=>⟨reach_len hr h2,reach_len hr g3,fun k hk=>?_⟩⟩
  have hm:ls.getD k []∈ls:=by rw [List.getD_eq_getElem?_getD,List.getElem?_eq_getElem hk];exact List.getElem_mem hk
  exact reach_len hr (g4 _ hm)
end
end Go.Proofs.Ytmcpdafmkkjlcaa.Z
