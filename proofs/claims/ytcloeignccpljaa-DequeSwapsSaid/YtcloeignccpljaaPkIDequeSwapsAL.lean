/- DequeSwapsSaid: what its proof is made of. No condition. -/
import Derived.Test.YtcloeignccpljaaPkIDequeSwapsAK
set_option linter.unusedSimpArgs false
set_option linter.unusedVariables false
namespace Go.Proofs.Ytcloeignccpljaa.Z
open Go Go.RowKit
def ir119:IR:=(.seq (.ops [⟨(some 4),(.mv (.k (.c (.v (.bool false))))),none⟩]) (.kill [2,3,4,5,6,7,8,9,10,11] (.seq (.ops [⟨(some 5),(.mv (.t 0)),none⟩,⟨(some 6),(.mv (.t 1)),none⟩,⟨(some 7),(.call 91 [(.t 6),(.k (.c (.v (.int .i64 0))))]),none⟩,⟨(some 8),(.call 32 [(.t 7)]),none⟩,⟨(some 9),(.nilck (.t 5)),none⟩,⟨(some 10),(.fa 0 (.t 9)),none⟩,⟨(some 11),(.fa 3 (.t 10)),none⟩,⟨none,(.st 1 (.t 11) (.t 8)),none⟩]) (.kill [1,5,6,7,8,9,10,11] (.seq (.ops [⟨(some 12),(.mv (.t 0)),none⟩,⟨(some 13),(.mv (.t 0)),none⟩,⟨(some 14),(.mfn (.func 120) [(.t 13)] []),none⟩,⟨(some 15),(.nilck (.t 12)),none⟩,⟨(some 16),(.fa 0 (.t 15)),none⟩,⟨(some 17),(.fa 1 (.t 16)),none⟩,⟨none,(.st 1 (.t 17) (.t 14)),none⟩]) (.kill [0,12,13,14,15,16,17] (.seq (.ops [⟨(some 4),(.mv (.k (.c (.v (.bool false))))),none⟩]) .ret)))))))
def rs119:List RS:=[(.t 4)]
def nt119:Nat:=18
def ir120:IR:=(.seq (.ops [⟨(some 4),(.mv (.k (.c (.v (.bool false))))),none⟩]) (.kill [2,3,4,5,6,7,8,9,10,11] (.seq (.seq (.draw [(⟨(some 5),(.mv (.t 1)),none⟩,([],[8,9,10,11,12])),(⟨(some 6),(.call 91 [(.t 5),(.k (.c (.v (.int .i64 1))))]),none⟩,([],[8,9,10,11,12])),(⟨(some 7),(.call 32 [(.t 6)]),none⟩,([],[8,9,10,11,12])),(⟨(some 8),(.mv (.t 0)),none⟩,([0,1,2],[5,6,7])),(⟨(some 9),(.nilck (.t 8)),none⟩,([0,1,2],[5,6,7])),(⟨(some 10),(.fa 0 (.t 9)),none⟩,([0,1,2],[5,6,7])),(⟨(some 11),(.fa 3 (.t 10)),none⟩,([0,1,2],[5,6,7])),(⟨(some 12),(.ld false 1 (.t 11)),none⟩,([0,1,2],[5,6,7])),(⟨(some 13),(.bin .leq (.t 7) (.t 12)),none⟩,([],[]))]) (.kill [5,6,7,8,9,10,11,12] (.cond (.t 13) (.seq (.ops [⟨(some 14),(.mv (.t 1)),none⟩,⟨(some 15),(.mv (.t 1)),none⟩,⟨(some 16),(.call 96 [(.t 15)]),none⟩,⟨(some 17),(.call 95 [(.t 14),(.t 16)]),none⟩]) (.kill [0,13,14,15,16,17] (.seq (.ops [⟨(some 18),(.mv (.t 1)),none⟩,⟨(some 19),(.call 97 [(.t 18),(.k (.c (.v (.int .i64 3)))),(.k (.c (.v (.int .i64 0))))]),none⟩,⟨(some 4),(.mv (.t 19)),none⟩]) (.kill [1,18,19] .ret)))) .skip))) (.kill [1,4,13] (.seq (.ops [⟨(some 20),(.mv (.t 0)),none⟩,⟨(some 21),(.mv (.t 0)),none⟩,⟨(some 22),(.mfn (.func 121) [(.t 21)] []),none⟩,⟨(some 23),(.nilck (.t 20)),none⟩,⟨(some 24),(.fa 0 (.t 23)),none⟩,⟨(some 25),(.fa 1 (.t 24)),none⟩,⟨none,(.st 1 (.t 25) (.t 22)),none⟩]) (.kill [0,20,21,22,23,24,25] (.seq (.ops [⟨(some 4),(.mv (.k (.c (.v (.bool false))))),none⟩]) .ret)))))))
def rs120:List RS:=[(.t 4)]
def nt120:Nat:=26
def ir121:IR:=(.seq (.ops [⟨(some 4),(.mv (.k (.c (.v (.bool false))))),none⟩]) (.kill [2,3,4,5,6,7,8,9,10,11] (.seq (.draw [(⟨(some 5),(.mv (.t 0)),none⟩,([],[6,7,8,9,10,11,12,13,14,15,16,17])),(⟨(some 6),(.mv (.t 1)),none⟩,([0],[5,7,8,9,10,11,12,13,14,15])),(⟨(some 7),(.mv (.t 0)),none⟩,([0,1],[5,6,10,11,12,13,14])),(⟨(some 8),(.nilck (.t 7)),none⟩,([0,1],[5,6,10,11,12,13,14])),(⟨(some 9),(.fa 0 (.t 8)),none⟩,([0,1],[5,6,10,11,12,13,14])),(⟨(some 10),(.mv (.t 0)),none⟩,([0,1,2,3,4],[5,6,7,8,9])),(⟨(some 11),(.nilck (.t 10)),none⟩,([0,1,2,3,4],[5,6,7,8,9])),(⟨(some 12),(.fa 0 (.t 11)),none⟩,([0,1,2,3,4],[5,6,7,8,9])),(⟨(some 13),(.fa 3 (.t 12)),none⟩,([0,1,2,3,4],[5,6,7,8,9])),(⟨(some 14),(.ld false 1 (.t 13)),none⟩,([0,1,2,3,4],[5,6,7,8,9])),(⟨(some 15),(.call 89 [(.t 9),(.t 14)]),none⟩,([0,1],[5,6])),(⟨(some 16),(.call 91 [(.t 6),(.t 15)]),none⟩,([0],[5])),(⟨(some 17),(.call 32 [(.t 16)]),none⟩,([0],[5])),(⟨(some 18),(.nilck (.t 5)),none⟩,([],[])),(⟨(some 19),(.fa 0 (.t 18)),none⟩,([],[])),(⟨(some 20),(.fa 4 (.t 19)),none⟩,([],[])),(⟨none,(.st 1 (.t 20) (.t 17)),none⟩,([],[]))]) (.kill [1,5,6,7,8,9,10,11,12,13,14,15,16,17,18,19,20] (.seq (.ops [⟨(some 21),(.mv (.t 0)),none⟩,⟨(some 22),(.mv (.t 0)),none⟩,⟨(some 23),(.mfn (.func 122) [(.t 22)] []),none⟩,⟨(some 24),(.nilck (.t 21)),none⟩,⟨(some 25),(.fa 0 (.t 24)),none⟩,⟨(some 26),(.fa 1 (.t 25)),none⟩,⟨none,(.st 1 (.t 26) (.t 23)),none⟩]) (.kill [0,21,22,23,24,25,26] (.seq (.ops [⟨(some 4),(.mv (.k (.c (.v (.bool false))))),none⟩]) .ret)))))))
def rs121:List RS:=[(.t 4)]
def nt121:Nat:=27
set_option maxRecDepth 100000 in
set_option maxHeartbeats 2000000 in
theorem steal1_own (w:World) (E:Env) (m:D.Pm) (i c:Nat) (b t v:Int) (got:Bool) (ht:AtT m i c ⟨2,1,b,t,v,got⟩) (h:Handed w E 11 (dO nz0 i c m) []) :
  Calls Try.prog 88 (([.c (.ptr (7,i,0) 0),.c (.ptr (10,0,0) 0)]:List SV).map (SV.den E)).toArray w (EffR w E 11 (takesO E (dO nz0 i c m)) (.c (.v (.bool (D.taskT m i ⟨2,1,b,t,v,got⟩).2.2))) 2 fun b'=>killO [3,4]++dO ⟨b',b' + 1,6,7⟩ i c (tskM m i (D.taskT m i ⟨2,1,b,t,v,got⟩))):=by
 have hwl:=ht.wl
 refine enterO (c:=ir88) (rs:=rs88) (nt:=nt88) h _ Try.func88 rfl (by kernel_rfl) (by kernel_rfl) rfl (by simp [okVs,SV.okN,SC.okN]) (of_decide_eq_true rfl) ?_
 have heq:D.taskT m i ⟨2,1,b,t,v,got⟩=(logd { m with us:=true } ⟨m.mm,m.th,1,0,0,0,D.wd m (0)⟩ (D.wd m (0)),⟨2,2,b,D.i64 (D.wd m 0),v,got⟩,false):=by
  simp only [D.taskT,D.stealT,if_false,Nat.reduceEqDiff]
  rw [D.ld_ok ht.us (Int.le_refl 0) (by omega)]
  rfl
 rw [heq]
 generalize hR:EffR w E 11 (takesO E (dO nz0 i c m)) _ 2 _=R
 generalize hW:takesO E (dO nz0 i c m)=W
 have hf:=ht.f
 simp only [tkC,nextC,tkTy,iI] at hf
 have hi:=ht.hi
 simp (maxSteps:=2000000) only [ir88,nt88,rs88,go_sem,↓runOp,↓reduceIte,Nat.reduceLT,Nat.reduceEqDiff,reduceCtorEq,dO,mO,nz0,bkM,bkY,hubC,iI,hf]
 refine And.intro hi (And.intro ⟨_,Try.func119,by kernel_rfl,by kernel_rfl⟩ ?_)
 refine call_inline (c:=ir119) (rs:=rs119) (nt:=nt119) 1000 (mkTab_ok _ _) Try.func119 rfl (by kernel_rfl) (by kernel_rfl) rfl (by simp [okVs,SV.okN,SC.okN]) (of_decide_eq_true rfl) (fun E0 a0 ht0=>?_)
 simp (maxSteps:=2000000) only [ir119,nt119,rs119,go_sem,↓runOp,↓reduceIte,Nat.reduceLT,Nat.reduceEqDiff,reduceCtorEq]
 repeat (with_reducible refine And.intro (by first | exact hi | exact Or.inr trivial | exact Or.inl trivial) ?_)
 refine call_intro (crA (i:=i) (c:=c) (m:=m) (m':=logd { m with us:=true } ⟨m.mm,m.th,1,0,0,0,D.wd m (0)⟩ (D.wd m (0))) (Nat.le_refl _) (ain0 rfl rfl rfl rfl rfl rfl) (fun E w h=>dload_at ht (a:=0) (by decide) (by omega) h)) (lt11 (Nat.le_refl _)) ?_
 simp (maxSteps:=2000000) only [go_sem,↓runOp,↓reduceIte,Nat.reduceLT,Nat.reduceAdd,Nat.reduceEqDiff,reduceCtorEq,killO,aO,bkM,bkY,iI,logd]
 refine callV (.c (.v (.int .i64 (D.i64 (D.wd m 0))))) _ (fun E=>rfl) (fun E a w' hs=>value_calls w' _) ?_
 simp (maxSteps:=2000000) only [go_sem,↓runOp,↓reduceIte,Nat.reduceLT,Nat.reduceLeDiff,Nat.reduceAdd,Nat.reduceEqDiff,reduceCtorEq,hf]
 repeat (with_reducible refine And.intro (by first | exact hi | exact Or.inr trivial | exact Or.inl trivial) ?_)
 refine retI ht0 _ rfl (of_decide_eq_true rfl) (by simp [SV.okN,SC.okN]) ?_
 simp (maxSteps:=2000000) only [go_sem,↓runOp,↓reduceIte,Nat.reduceLT,Nat.reduceEqDiff,reduceCtorEq,mkO_rs]
 rw [← hR,← hW]
 exact retT (p:=11) (q:=12) ht rfl rfl rfl (by simp) (fun E=>rfl) rfl rfl ⟨_,_,rfl,Nat.le_refl _,fun _ _=>rfl⟩ rfl rfl rfl ⟨_,_,rfl,Nat.le_refl _,fun _ _=>rfl⟩ ⟨_,rfl,fun x=>by by_cases q:x=i <;> simp [q,tkC,nextC,tkTy,iI,D.i64]⟩ rfl rfl
set_option maxRecDepth 100000 in
set_option maxHeartbeats 2000000 in
theorem steal2y_own (w:World) (E:Env) (m:D.Pm) (i c:Nat) (b t v:Int) (got:Bool) (ht:AtT m i c ⟨2,2,b,t,v,got⟩) (hq:D.i64 (D.wd m 1)≤t) (h:Handed w E 11 (dO nz0 i c m) []) :
  Calls Try.prog 88 (([.c (.ptr (7,i,0) 0),.c (.ptr (10,0,0) 0)]:List SV).map (SV.den E)).toArray w (EffR w E 11 (takesO E (dO nz0 i c m)) (.c (.v (.bool (D.taskT m i ⟨2,2,b,t,v,got⟩).2.2))) 2 fun b'=>killO [3,4]++dO ⟨b',b' + 1,6,7⟩ i c (tskM m i (D.taskT m i ⟨2,2,b,t,v,got⟩))):=by
 have hwl:=ht.wl
 refine enterO (c:=ir88) (rs:=rs88) (nt:=nt88) h _ Try.func88 rfl (by kernel_rfl) (by kernel_rfl) rfl (by simp [okVs,SV.okN,SC.okN]) (of_decide_eq_true rfl) ?_
 have heq:D.taskT m i ⟨2,2,b,t,v,got⟩=(D.ans ({ logd { m with us:=true } ⟨m.mm,m.th,1,1,0,0,D.wd m (1)⟩ (D.wd m (1)) with C:=m.C.set c { m.C.getD c D.ca0 with pt:=m.nw } }) i 3 0,⟨2,2,b,t,v,got⟩,true):=by
  simp only [D.taskT,D.stealT,if_false,Nat.reduceEqDiff]
  rw [D.ld_ok ht.us (by decide) (by omega)]
  simp only [if_pos hq]
  exact congrArg (fun x=>(D.ans x i 3 0,(⟨2,2,b,t,v,got⟩:D.Tk),true)) (pt_at (r:=logd { m with us:=true } ⟨m.mm,m.th,1,1,0,0,D.wd m (1)⟩ (D.wd m (1))) ht rfl rfl _)
 rw [heq]
 generalize hR:EffR w E 11 (takesO E (dO nz0 i c m)) _ 2 _=R
 generalize hW:takesO E (dO nz0 i c m)=W
 have hf:=ht.f
 simp only [tkC,nextC,tkTy,iI] at hf
 have hi:=ht.hi
 simp (maxSteps:=2000000) only [ir88,nt88,rs88,go_sem,↓runOp,↓reduceIte,Nat.reduceLT,Nat.reduceEqDiff,reduceCtorEq,dO,mO,nz0,bkM,bkY,hubC,iI,hf]
 refine And.intro hi (And.intro ⟨_,Try.func120,by kernel_rfl,by kernel_rfl⟩ ?_)
 refine call_inline (c:=ir120) (rs:=rs120) (nt:=nt120) 1000 (mkTab_ok _ _) Try.func120 rfl (by kernel_rfl) (by kernel_rfl) rfl (by simp [okVs,SV.okN,SC.okN]) (of_decide_eq_true rfl) (fun E0 a0 ht0=>?_)
 simp (maxSteps:=2000000) only [ir120,nt120,rs120,go_sem,↓runOp,↓reduceIte,Nat.reduceLT,Nat.reduceEqDiff,reduceCtorEq]
 have hd:decide (D.i64 (D.wd m 1)≤t)=true:=decide_eq_true hq
 refine draw_vc (by kernel_rfl) (mkTab_ok _ _) (of_decide_eq_true rfl) (of_decide_eq_true rfl) ?_
 repeat (first | simp (maxSteps:=2000000) only [go_sem,↓gateD,↓runD,↓reduceIte,Nat.reduceLT,Nat.reduceEqDiff,reduceCtorEq] | rw [dr_cons])
 repeat (with_reducible refine And.intro (by first | exact hi | exact Or.inr trivial | exact Or.inl trivial) ?_)
 refine dcall_intro (crA (i:=i) (c:=c) (m:=m) (m':=logd { m with us:=true } ⟨m.mm,m.th,1,1,0,0,D.wd m (1)⟩ (D.wd m (1))) (Nat.le_refl _) (ain0 rfl rfl rfl rfl rfl rfl) (fun E w h=>dload_at ht (a:=1) (by decide) (by omega) h)) rfl trivial ?_ ?_ ?_
 ·simp [wrOk,killO,aO,wrFree,wkImp]
 ·intro k hk hlt
  simp only [killO,aO,keysL,List.map_cons,List.map_nil,List.cons_append,List.nil_append,List.mem_cons,List.not_mem_nil,or_false] at hk
  have hlt:k<11:=hlt
  rcases hk with rfl | rfl | rfl | rfl | rfl | rfl | rfl | rfl <;> first | rfl | omega
 repeat (first | simp (maxSteps:=2000000) only [go_sem,↓gateD,↓runD,↓reduceIte,Nat.reduceLT,Nat.reduceAdd,Nat.reduceEqDiff,reduceCtorEq,killO,aO,bkM,bkY,iI,logd] | rw [dr_cons])
 refine dcallV (.c (.v (.int .i64 (D.i64 (D.wd m 1))))) _ (fun E=>rfl) (fun E a w' hs=>value_calls w' _) ?_
 repeat (first | simp (maxSteps:=2000000) only [go_sem,↓condS,↓runOp,↓gateD,↓runD,↓imp_tf,↓imp_tt,↓reduceIte,Nat.reduceLT,Nat.reduceEqDiff,reduceCtorEq,hf,hd] | rw [dr_cons])
 repeat (with_reducible refine And.intro (by first | exact hi | exact Or.inr trivial | exact Or.inl trivial) ?_)
 refine call_inline (c:=ir96) (rs:=rs96) (nt:=nt96) 1000 (mkTab_ok _ _) Try.func96 rfl (by kernel_rfl) (by kernel_rfl) rfl (by simp [okVs,SV.okN,SC.okN]) (of_decide_eq_true rfl) (fun E1 a1 ht1=>?_)
 simp (maxSteps:=2000000) only [ir96,nt96,rs96,go_sem,↓condS,↓gateS,↓runOp,↓reduceIte,Nat.reduceLT,Nat.reduceEqDiff,reduceCtorEq]
 refine retI ht1 _ rfl (of_decide_eq_true rfl) (by simp [SV.okN,SC.okN]) ?_
 simp (maxSteps:=2000000) only [go_sem,↓runOp,↓reduceIte,Nat.reduceLT,Nat.reduceEqDiff,reduceCtorEq]
 refine call_inline (c:=ir95) (rs:=rs95) (nt:=nt95) 1000 (mkTab_ok _ _) Try.func95 rfl (by kernel_rfl) (by kernel_rfl) rfl (by simp [okVs,SV.okN,SC.okN]) (of_decide_eq_true rfl) (fun E1 a1 ht1=>?_)
 simp (maxSteps:=2000000) only [ir95,nt95,rs95,go_sem,↓condS,↓gateS,↓runOp,↓reduceIte,Nat.reduceLT,Nat.reduceLeDiff,Nat.reduceAdd,Nat.reduceEqDiff,reduceCtorEq,ats_C,iI]
 refine And.intro ht.hc ?_
 refine retI ht1 _ rfl (of_decide_eq_true rfl) (by simp [SV.okN,ok1L]) ?_
 simp (maxSteps:=2000000) only [go_sem,↓runOp,↓reduceIte,Nat.reduceLT,Nat.reduceEqDiff,reduceCtorEq]
 refine call_inline (c:=ir97) (rs:=rs97) (nt:=nt97) 1000 (mkTab_ok _ _) Try.func97 rfl (by kernel_rfl) (by kernel_rfl) rfl (by simp [okVs,SV.okN,SC.okN]) (of_decide_eq_true rfl) (fun E1 a1 ht1=>?_)
 simp (maxSteps:=2000000) only [ir97,nt97,rs97,go_sem,↓runOp,↓reduceIte,Nat.reduceLT,Nat.reduceLeDiff,Nat.reduceAdd,Nat.reduceEqDiff,reduceCtorEq]
 refine call_inline (c:=ir102) (rs:=rs102) (nt:=nt102) 1000 (mkTab_ok _ _) Try.func102 rfl (by kernel_rfl) (by kernel_rfl) rfl (by simp [okVs,SV.okN,SC.okL,SC.okN]) (of_decide_eq_true rfl) (fun E2 a2 ht2=>?_)
 simp (maxSteps:=2000000) only [ir102,nt102,rs102,go_sem,↓condS,↓gateS,↓runOp,↓reduceIte,Nat.reduceLT,Nat.reduceAdd,Nat.reduceEqDiff,reduceCtorEq]
 refine draw_vc (by kernel_rfl) (mkTab_ok _ _) (of_decide_eq_true rfl) (of_decide_eq_true rfl) ?_
 repeat (first | simp (maxSteps:=2000000) only [go_sem,↓gateD,↓runD,↓reduceIte,Nat.reduceLT,Nat.reduceLeDiff,Nat.reduceAdd,Nat.reduceEqDiff,reduceCtorEq,seC] | rw [dr_cons])
 repeat (with_reducible refine And.intro (by first | exact hi | exact Or.inr trivial | exact Or.inl trivial) ?_)
 refine retI ht2 _ rfl (of_decide_eq_true rfl) (by simp [SV.okN,ok1L]) ?_
 simp (maxSteps:=2000000) only [go_sem,↓runOp,↓reduceIte,Nat.reduceLT,Nat.reduceEqDiff,reduceCtorEq]
 refine retI ht1 _ rfl (of_decide_eq_true rfl) (by simp [SV.okN,SC.okN]) ?_
 simp (maxSteps:=2000000) only [go_sem,↓runOp,↓reduceIte,Nat.reduceLT,Nat.reduceEqDiff]
 refine retI ht0 _ rfl (of_decide_eq_true rfl) (by simp [SV.okN,SC.okN]) ?_
 simp (maxSteps:=2000000) only [go_sem,↓runOp,↓reduceIte,Nat.reduceLT,Nat.reduceEqDiff,reduceCtorEq,mkO_rs]
 rw [← hR,← hW]
 exact retTA (p:=11) (q:=12) ht rfl rfl rfl (by simp) (fun E=>rfl) (by simp [look,bkM,iI,logd]) rfl ⟨_,_,rfl,Nat.le_refl _,fun _ _=>rfl⟩ rfl rfl ⟨_,rfl,_,rfl,by simp [iI]⟩ ⟨_,_,rfl,by simp,ats_set ht.hc (by simp [D.Ca.enc])⟩ ⟨_,rfl,fun x=>by by_cases q:x=i <;> simp [q,tkC,nextC,tkTy,iI,hf]⟩ rfl rfl
set_option maxRecDepth 100000 in
set_option maxHeartbeats 2000000 in
theorem steal2n_own (w:World) (E:Env) (m:D.Pm) (i c:Nat) (b t v:Int) (got:Bool) (ht:AtT m i c ⟨2,2,b,t,v,got⟩) (hq:¬ D.i64 (D.wd m 1)≤t) (h:Handed w E 11 (dO nz0 i c m) []) :
  Calls Try.prog 88 (([.c (.ptr (7,i,0) 0),.c (.ptr (10,0,0) 0)]:List SV).map (SV.den E)).toArray w (EffR w E 11 (takesO E (dO nz0 i c m)) (.c (.v (.bool (D.taskT m i ⟨2,2,b,t,v,got⟩).2.2))) 2 fun b'=>killO [3,4]++dO ⟨b',b' + 1,6,7⟩ i c (tskM m i (D.taskT m i ⟨2,2,b,t,v,got⟩))):=by
 have hwl:=ht.wl
 refine enterO (c:=ir88) (rs:=rs88) (nt:=nt88) h _ Try.func88 rfl (by kernel_rfl) (by kernel_rfl) rfl (by simp [okVs,SV.okN,SC.okN]) (of_decide_eq_true rfl) ?_
 have heq:D.taskT m i ⟨2,2,b,t,v,got⟩=(logd { m with us:=true } ⟨m.mm,m.th,1,1,0,0,D.wd m (1)⟩ (D.wd m (1)),⟨2,3,b,t,v,got⟩,false):=by
  simp only [D.taskT,D.stealT,if_false,Nat.reduceEqDiff]
  rw [D.ld_ok ht.us (by decide) (by omega)]
  simp only [if_neg hq]
  rfl
 rw [heq]
 generalize hR:EffR w E 11 (takesO E (dO nz0 i c m)) _ 2 _=R
 generalize hW:takesO E (dO nz0 i c m)=W
 have hf:=ht.f
 simp only [tkC,nextC,tkTy,iI] at hf
 have hi:=ht.hi
 simp (maxSteps:=2000000) only [ir88,nt88,rs88,go_sem,↓runOp,↓reduceIte,Nat.reduceLT,Nat.reduceEqDiff,reduceCtorEq,dO,mO,nz0,bkM,bkY,hubC,iI,hf]
 refine And.intro hi (And.intro ⟨_,Try.func120,by kernel_rfl,by kernel_rfl⟩ ?_)
 refine call_inline (c:=ir120) (rs:=rs120) (nt:=nt120) 1000 (mkTab_ok _ _) Try.func120 rfl (by kernel_rfl) (by kernel_rfl) rfl (by simp [okVs,SV.okN,SC.okN]) (of_decide_eq_true rfl) (fun E0 a0 ht0=>?_)
 simp (maxSteps:=2000000) only [ir120,nt120,rs120,go_sem,↓runOp,↓reduceIte,Nat.reduceLT,Nat.reduceEqDiff,reduceCtorEq]
 have hd:decide (D.i64 (D.wd m 1)≤t)=false:=decide_eq_false hq
 refine draw_vc (by kernel_rfl) (mkTab_ok _ _) (of_decide_eq_true rfl) (of_decide_eq_true rfl) ?_
 repeat (first | simp (maxSteps:=2000000) only [go_sem,↓gateD,↓runD,↓reduceIte,Nat.reduceLT,Nat.reduceEqDiff,reduceCtorEq] | rw [dr_cons])
 repeat (with_reducible refine And.intro (by first | exact hi | exact Or.inr trivial | exact Or.inl trivial) ?_)
 refine dcall_intro (crA (i:=i) (c:=c) (m:=m) (m':=logd { m with us:=true } ⟨m.mm,m.th,1,1,0,0,D.wd m (1)⟩ (D.wd m (1))) (Nat.le_refl _) (ain0 rfl rfl rfl rfl rfl rfl) (fun E w h=>dload_at ht (a:=1) (by decide) (by omega) h)) rfl trivial ?_ ?_ ?_
 ·simp [wrOk,killO,aO,wrFree,wkImp]
 ·intro k hk hlt
  simp only [killO,aO,keysL,List.map_cons,List.map_nil,List.cons_append,List.nil_append,List.mem_cons,List.not_mem_nil,or_false] at hk
  have hlt:k<11:=hlt
  rcases hk with rfl | rfl | rfl | rfl | rfl | rfl | rfl | rfl <;> first | rfl | omega
 repeat (first | simp (maxSteps:=2000000) only [go_sem,↓gateD,↓runD,↓reduceIte,Nat.reduceLT,Nat.reduceAdd,Nat.reduceEqDiff,reduceCtorEq,killO,aO,bkM,bkY,iI,logd] | rw [dr_cons])
 refine dcallV (.c (.v (.int .i64 (D.i64 (D.wd m 1))))) _ (fun E=>rfl) (fun E a w' hs=>value_calls w' _) ?_
 repeat (first | simp (maxSteps:=2000000) only [go_sem,↓condS,↓runOp,↓gateD,↓runD,↓imp_ft,↓imp_ff,↓reduceIte,Nat.reduceLT,Nat.reduceLeDiff,Nat.reduceAdd,Nat.reduceEqDiff,reduceCtorEq,hf,hd] | rw [dr_cons])
 repeat (with_reducible refine And.intro (by first | exact hi | exact Or.inr trivial | exact Or.inl trivial) ?_)
 refine retI ht0 _ rfl (of_decide_eq_true rfl) (by simp [SV.okN,SC.okN]) ?_
 simp (maxSteps:=2000000) only [go_sem,↓runOp,↓reduceIte,Nat.reduceLT,Nat.reduceEqDiff,reduceCtorEq,mkO_rs]
 rw [← hR,← hW]
 exact retT (p:=11) (q:=12) ht rfl rfl rfl (by simp) (fun E=>rfl) rfl rfl ⟨_,_,rfl,Nat.le_refl _,fun _ _=>rfl⟩ rfl rfl rfl ⟨_,_,rfl,Nat.le_refl _,fun _ _=>rfl⟩ ⟨_,rfl,fun x=>by by_cases q:x=i <;> simp [q,tkC,nextC,tkTy,iI]⟩ rfl rfl
set_option maxRecDepth 100000 in
set_option maxHeartbeats 2000000 in
theorem steal3_own (w:World) (E:Env) (m:D.Pm) (i c:Nat) (b t v:Int) (got:Bool) (ht:AtT m i c ⟨2,3,b,t,v,got⟩) (h0:0≤D.cellA m t) (h1:D.cellA m t<m.W.length) (hr:m.room≠0) (h:Handed w E 11 (dO nz0 i c m) []) :
  Calls Try.prog 88 (([.c (.ptr (7,i,0) 0),.c (.ptr (10,0,0) 0)]:List SV).map (SV.den E)).toArray w (EffR w E 11 (takesO E (dO nz0 i c m)) (.c (.v (.bool (D.taskT m i ⟨2,3,b,t,v,got⟩).2.2))) 2 fun b'=>killO [3,4]++dO ⟨b',b' + 1,6,7⟩ i c (tskM m i (D.taskT m i ⟨2,3,b,t,v,got⟩))):=by
 have hwl:=ht.wl
 refine enterO (c:=ir88) (rs:=rs88) (nt:=nt88) h _ Try.func88 rfl (by kernel_rfl) (by kernel_rfl) rfl (by simp [okVs,SV.okN,SC.okN]) (of_decide_eq_true rfl) ?_
 have heq:D.taskT m i ⟨2,3,b,t,v,got⟩=(logd { m with us:=true } ⟨m.mm,m.th,1,D.cellA m t,0,0,D.wd m (D.cellA m t)⟩ (D.wd m (D.cellA m t)),⟨2,4,b,t,D.i64 (D.wd m (D.cellA m t)),got⟩,false):=by
  simp only [D.taskT,D.stealT,if_false,Nat.reduceEqDiff]
  rw [D.ld_ok ht.us h0 h1]
  rfl
 rw [heq]
 generalize hR:EffR w E 11 (takesO E (dO nz0 i c m)) _ 2 _=R
 generalize hW:takesO E (dO nz0 i c m)=W
 have hf:=ht.f
 simp only [tkC,nextC,tkTy,iI] at hf
 have hi:=ht.hi
 simp (maxSteps:=2000000) only [ir88,nt88,rs88,go_sem,↓runOp,↓reduceIte,Nat.reduceLT,Nat.reduceEqDiff,reduceCtorEq,dO,mO,nz0,bkM,bkY,hubC,iI,hf]
 refine And.intro hi (And.intro ⟨_,Try.func121,by kernel_rfl,by kernel_rfl⟩ ?_)
 refine call_inline (c:=ir121) (rs:=rs121) (nt:=nt121) 1000 (mkTab_ok _ _) Try.func121 rfl (by kernel_rfl) (by kernel_rfl) rfl (by simp [okVs,SV.okN,SC.okN]) (of_decide_eq_true rfl) (fun E0 a0 ht0=>?_)
 simp (maxSteps:=2000000) only [ir121,nt121,rs121,go_sem,↓runOp,↓reduceIte,Nat.reduceLT,Nat.reduceEqDiff,reduceCtorEq]
 refine draw_vc (by kernel_rfl) (mkTab_ok _ _) (of_decide_eq_true rfl) (of_decide_eq_true rfl) ?_
 repeat (first | simp (maxSteps:=2000000) only [go_sem,↓gateD,↓runD,↓reduceIte,Nat.reduceLT,Nat.reduceEqDiff,reduceCtorEq,hf] | rw [dr_cons])
 repeat (with_reducible refine And.intro (by first | exact hi | exact Or.inr trivial | exact Or.inl trivial) ?_)
 refine dcallV (.c (.v (.int .i64 (D.cellA m (t))))) _ (fun E=>rfl) (fun E a w' hs=>cell_at hs (x:=(7,i,0)) (p:=i<m.S.length∧True) (by simp only [pkN,look,Fm.pk,Nat.reduceEqDiff,if_true,if_false,hf];rfl) ⟨hi,trivial⟩ rfl hr (t) (fun E u hu=>by simp only [List.mem_cons,List.not_mem_nil,or_false] at hu;first | (rcases hu with rfl | rfl | rfl | rfl | rfl <;> simp [SC.den,Value.oneCell'];done) | (rcases hu with rfl | rfl | rfl | rfl <;> simp [SC.den,Value.oneCell',iI])) (fun E u hu=>by simp only [List.mem_cons,List.not_mem_nil,or_false] at hu;rcases hu with rfl | rfl | rfl | rfl <;> simp [SC.den,Value.oneCell'])) ?_
 repeat (first | simp (maxSteps:=2000000) only [go_sem,↓gateD,↓runD,↓reduceIte,Nat.reduceLT,Nat.reduceEqDiff,reduceCtorEq] | rw [dr_cons])
 repeat (with_reducible refine And.intro (by first | exact hi | exact Or.inr trivial | exact Or.inl trivial) ?_)
 refine dcall_intro (crA (i:=i) (c:=c) (m:=m) (m':=logd { m with us:=true } ⟨m.mm,m.th,1,D.cellA m t,0,0,D.wd m (D.cellA m t)⟩ (D.wd m (D.cellA m t))) (Nat.le_refl _) (ain0 rfl rfl rfl rfl rfl rfl) (fun E w h=>dload_at ht (a:=D.cellA m t) h0 h1 h)) rfl trivial ?_ ?_ ?_
 ·simp [wrOk,killO,aO,wrFree,wkImp,nth,memB,look]
 ·intro k hk hlt
  simp only [killO,aO,keysL,List.map_cons,List.map_nil,List.cons_append,List.nil_append,List.mem_cons,List.not_mem_nil,or_false] at hk
  have hlt:k<11:=hlt
  rcases hk with rfl | rfl | rfl | rfl | rfl | rfl | rfl | rfl <;> first | rfl | omega
 repeat (first | simp (maxSteps:=2000000) only [go_sem,↓gateD,↓runD,↓reduceIte,Nat.reduceLT,Nat.reduceAdd,Nat.reduceEqDiff,reduceCtorEq,killO,aO,bkM,bkY,iI,logd] | rw [dr_cons])
 refine dcallV (.c (.v (.int .i64 (D.i64 (D.wd m (D.cellA m t)))))) _ (fun E=>rfl) (fun E a w' hs=>value_calls w' _) ?_
 repeat (first | simp (maxSteps:=2000000) only [go_sem,↓runOp,↓gateD,↓runD,↓reduceIte,Nat.reduceLT,Nat.reduceLeDiff,Nat.reduceAdd,Nat.reduceEqDiff,reduceCtorEq,hf] | rw [dr_cons])
 repeat (with_reducible refine And.intro (by first | exact hi | exact Or.inr trivial | exact Or.inl trivial) ?_)
 refine retI ht0 _ rfl (of_decide_eq_true rfl) (by simp [SV.okN,SC.okN]) ?_
 simp (maxSteps:=2000000) only [go_sem,↓runOp,↓reduceIte,Nat.reduceLT,Nat.reduceEqDiff,reduceCtorEq,mkO_rs]
 rw [← hR,← hW]
 exact retT (p:=11) (q:=12) ht rfl rfl rfl (by simp) (fun E=>rfl) rfl rfl ⟨_,_,rfl,Nat.le_refl _,fun _ _=>rfl⟩ rfl rfl rfl ⟨_,_,rfl,Nat.le_refl _,fun _ _=>rfl⟩ ⟨_,rfl,fun x=>by by_cases q:x=i <;> simp [q,tkC,nextC,tkTy,iI,D.i64]⟩ rfl rfl
end Go.Proofs.Ytcloeignccpljaa.Z
namespace Go.Proofs.Ytcloeignccpljaa.Z
open Go Go.RowKit
def ir109:IR:=(.seq (.ops [⟨(some 4),(.mv (.k (.c (.v (.bool false))))),none⟩]) (.kill [2,3,4,5,6,7,8,9,10,11] (.seq (.ops [⟨(some 5),(.mv (.t 1)),none⟩,⟨(some 6),(.mv (.t 0)),none⟩,⟨(some 7),(.nilck (.t 6)),none⟩,⟨(some 8),(.fa 0 (.t 7)),none⟩,⟨(some 9),(.fa 2 (.t 8)),none⟩,⟨(some 10),(.ld false 1 (.t 9)),none⟩,⟨(some 11),(.call 104 [(.t 10)]),none⟩,⟨(some 12),(.call 103 [(.t 5),(.k (.c (.v (.int .i64 1)))),(.t 11)]),none⟩]) (.kill [5,6,7,8,9,10,11,12] (.seq (.ops [⟨(some 13),(.mv (.t 1)),none⟩,⟨(some 14),(.mv (.t 1)),none⟩,⟨(some 15),(.call 96 [(.t 14)]),none⟩,⟨(some 16),(.call 95 [(.t 13),(.t 15)]),none⟩]) (.kill [13,14,15,16] (.seq (.draw [(⟨(some 17),(.mv (.t 0)),none⟩,([],[22,23,24,25,26,27,28,29,30,31,32,33,34,35,36,37,38,39,40,41,42,43,44,45,46,47,48,49,50,51,52])),(⟨(some 18),(.nilck (.t 17)),none⟩,([],[22,23,24,25,26,27,28,29,30,31,32,33,34,35,36,37,38,39,40,41,42,43,44,45,46,47,48,49,50,51,52])),(⟨(some 19),(.fa 0 (.t 18)),none⟩,([],[22,23,24,25,26,27,28,29,30,31,32,33,34,35,36,37,38,39,40,41,42,43,44,45,46,47,48,49,50,51,52])),(⟨(some 20),(.fa 0 (.t 19)),none⟩,([],[22,23,24,25,26,27,28,29,30,31,32,33,34,35,36,37,38,39,40,41,42,43,44,45,46,47,48,49,50,51,52])),(⟨(some 21),(.ld false 1 (.t 20)),none⟩,([],[22,23,24,25,26,27,28,29,30,31,32,33,34,35,36,37,38,39,40,41,42,43,44,45,46,47,48,49,50,51,52])),(⟨(some 22),(.mv (.t 0)),none⟩,([0,1,2,3,4],[17,18,19,20,21,27,28,29,30,31,32,33,34,35,36,37,38,39,40,41,42,43,44,45,46,47,48,49,50,51,52])),(⟨(some 23),(.nilck (.t 22)),none⟩,([0,1,2,3,4],[17,18,19,20,21,27,28,29,30,31,32,33,34,35,36,37,38,39,40,41,42,43,44,45,46,47,48,49,50,51,52])),(⟨(some 24),(.fa 0 (.t 23)),none⟩,([0,1,2,3,4],[17,18,19,20,21,27,28,29,30,31,32,33,34,35,36,37,38,39,40,41,42,43,44,45,46,47,48,49,50,51,52])),(⟨(some 25),(.fa 0 (.t 24)),none⟩,([0,1,2,3,4],[17,18,19,20,21,27,28,29,30,31,32,33,34,35,36,37,38,39,40,41,42,43,44,45,46,47,48,49,50,51,52])),(⟨(some 26),(.ld false 1 (.t 25)),none⟩,([0,1,2,3,4],[17,18,19,20,21,27,28,29,30,31,32,33,34,35,36,37,38,39,40,41,42,43,44,45,46,47,48,49,50,51,52])),(⟨(some 27),(.mv (.t 0)),none⟩,([0,1,2,3,4,5,6,7,8,9],[17,18,19,20,21,22,23,24,25,26,32,33,34,35,36,37,38,39,40,41,42,43,44,45,46,47,48,49,50,51,52])),(⟨(some 28),(.nilck (.t 27)),none⟩,([0,1,2,3,4,5,6,7,8,9],[17,18,19,20,21,22,23,24,25,26,32,33,34,35,36,37,38,39,40,41,42,43,44,45,46,47,48,49,50,51,52])),(⟨(some 29),(.fa 0 (.t 28)),none⟩,([0,1,2,3,4,5,6,7,8,9],[17,18,19,20,21,22,23,24,25,26,32,33,34,35,36,37,38,39,40,41,42,43,44,45,46,47,48,49,50,51,52])),(⟨(some 30),(.fa 0 (.t 29)),none⟩,([0,1,2,3,4,5,6,7,8,9],[17,18,19,20,21,22,23,24,25,26,32,33,34,35,36,37,38,39,40,41,42,43,44,45,46,47,48,49,50,51,52])),(⟨(some 31),(.ld false 1 (.t 30)),none⟩,([0,1,2,3,4,5,6,7,8,9],[17,18,19,20,21,22,23,24,25,26,32,33,34,35,36,37,38,39,40,41,42,43,44,45,46,47,48,49,50,51,52])),(⟨(some 32),(.mv (.t 0)),none⟩,([0,1,2,3,4,5,6,7,8,9,10,11,12,13,14],[17,18,19,20,21,22,23,24,25,26,27,28,29,30,31,40,41,42,43,44,46,47,48,49,50,51,52])),(⟨(some 33),(.nilck (.t 32)),none⟩,([0,1,2,3,4,5,6,7,8,9,10,11,12,13,14],[17,18,19,20,21,22,23,24,25,26,27,28,29,30,31,40,41,42,43,44,46,47,48,49,50,51,52])),(⟨(some 34),(.fa 0 (.t 33)),none⟩,([0,1,2,3,4,5,6,7,8,9,10,11,12,13,14],[17,18,19,20,21,22,23,24,25,26,27,28,29,30,31,40,41,42,43,44,46,47,48,49,50,51,52])),(⟨(some 35),(.fa 0 (.t 34)),none⟩,([0,1,2,3,4,5,6,7,8,9,10,11,12,13,14],[17,18,19,20,21,22,23,24,25,26,27,28,29,30,31,40,41,42,43,44,46,47,48,49,50,51,52])),(⟨(some 36),(.ld false 1 (.t 35)),none⟩,([0,1,2,3,4,5,6,7,8,9,10,11,12,13,14],[17,18,19,20,21,22,23,24,25,26,27,28,29,30,31,40,41,42,43,44,46,47,48,49,50,51,52])),(⟨(some 37),(.nilck (.t 36)),none⟩,([0,1,2,3,4,5,6,7,8,9,10,11,12,13,14],[17,18,19,20,21,22,23,24,25,26,27,28,29,30,31,40,41,42,43,44,46,47,48,49,50,51,52])),(⟨(some 38),(.fa 1 (.t 37)),none⟩,([0,1,2,3,4,5,6,7,8,9,10,11,12,13,14],[17,18,19,20,21,22,23,24,25,26,27,28,29,30,31,40,41,42,43,44,46,47,48,49,50,51,52])),(⟨(some 39),(.ld false 1 (.t 38)),none⟩,([0,1,2,3,4,5,6,7,8,9,10,11,12,13,14],[17,18,19,20,21,22,23,24,25,26,27,28,29,30,31,40,41,42,43,44,46,47,48,49,50,51,52])),(⟨(some 40),(.mv (.t 0)),none⟩,([0,1,2,3,4,5,6,7,8,9,10,11,12,13,14,15,16,17,18,19,20,21,22],[17,18,19,20,21,22,23,24,25,26,27,28,29,30,31,32,33,34,35,36,37,38,39,46,47,48,49,50,51,52])),(⟨(some 41),(.nilck (.t 40)),none⟩,([0,1,2,3,4,5,6,7,8,9,10,11,12,13,14,15,16,17,18,19,20,21,22],[17,18,19,20,21,22,23,24,25,26,27,28,29,30,31,32,33,34,35,36,37,38,39,46,47,48,49,50,51,52])),(⟨(some 42),(.fa 0 (.t 41)),none⟩,([0,1,2,3,4,5,6,7,8,9,10,11,12,13,14,15,16,17,18,19,20,21,22],[17,18,19,20,21,22,23,24,25,26,27,28,29,30,31,32,33,34,35,36,37,38,39,46,47,48,49,50,51,52])),(⟨(some 43),(.fa 2 (.t 42)),none⟩,([0,1,2,3,4,5,6,7,8,9,10,11,12,13,14,15,16,17,18,19,20,21,22],[17,18,19,20,21,22,23,24,25,26,27,28,29,30,31,32,33,34,35,36,37,38,39,46,47,48,49,50,51,52])),(⟨(some 44),(.ld false 1 (.t 43)),none⟩,([0,1,2,3,4,5,6,7,8,9,10,11,12,13,14,15,16,17,18,19,20,21,22],[17,18,19,20,21,22,23,24,25,26,27,28,29,30,31,32,33,34,35,36,37,38,39,46,47,48,49,50,51,52])),(⟨(some 45),(.bin .eql (.t 39) (.t 44)),none⟩,([0,1,2,3,4,5,6,7,8,9,10,11,12,13,14],[17,18,19,20,21,22,23,24,25,26,27,28,29,30,31,46,47,48,49,50,51,52])),(⟨(some 46),(.mv (.t 0)),none⟩,([0,1,2,3,4,5,6,7,8,9,10,11,12,13,14,15,16,17,18,19,20,21,22,23,24,25,26,27,28],[17,18,19,20,21,22,23,24,25,26,27,28,29,30,31,32,33,34,35,36,37,38,39,40,41,42,43,44,45,51,52])),(⟨(some 47),(.nilck (.t 46)),none⟩,([0,1,2,3,4,5,6,7,8,9,10,11,12,13,14,15,16,17,18,19,20,21,22,23,24,25,26,27,28],[17,18,19,20,21,22,23,24,25,26,27,28,29,30,31,32,33,34,35,36,37,38,39,40,41,42,43,44,45,51,52])),(⟨(some 48),(.fa 0 (.t 47)),none⟩,([0,1,2,3,4,5,6,7,8,9,10,11,12,13,14,15,16,17,18,19,20,21,22,23,24,25,26,27,28],[17,18,19,20,21,22,23,24,25,26,27,28,29,30,31,32,33,34,35,36,37,38,39,40,41,42,43,44,45,51,52])),(⟨(some 49),(.fa 2 (.t 48)),none⟩,([0,1,2,3,4,5,6,7,8,9,10,11,12,13,14,15,16,17,18,19,20,21,22,23,24,25,26,27,28],[17,18,19,20,21,22,23,24,25,26,27,28,29,30,31,32,33,34,35,36,37,38,39,40,41,42,43,44,45,51,52])),(⟨(some 50),(.ld false 1 (.t 49)),none⟩,([0,1,2,3,4,5,6,7,8,9,10,11,12,13,14,15,16,17,18,19,20,21,22,23,24,25,26,27,28],[17,18,19,20,21,22,23,24,25,26,27,28,29,30,31,32,33,34,35,36,37,38,39,40,41,42,43,44,45,51,52])),(⟨(some 51),(.mv (.t 1)),none⟩,([0,1,2,3,4,5,6,7,8,9,10,11,12,13,14,15,16,17,18,19,20,21,22,23,24,25,26,27,28,29,30,31,32,33],[17,18,19,20,21,22,23,24,25,26,27,28,29,30,31,32,33,34,35,36,37,38,39,40,41,42,43,44,45,46,47,48,49,50])),(⟨(some 52),(.call 96 [(.t 51)]),none⟩,([0,1,2,3,4,5,6,7,8,9,10,11,12,13,14,15,16,17,18,19,20,21,22,23,24,25,26,27,28,29,30,31,32,33],[17,18,19,20,21,22,23,24,25,26,27,28,29,30,31,32,33,34,35,36,37,38,39,40,41,42,43,44,45,46,47,48,49,50])),(⟨(some 53),(.nilck (.t 21)),none⟩,([],[])),(⟨(some 54),(.fa 2 (.t 53)),none⟩,([],[])),(⟨none,(.st 1 (.t 54) (.t 45)),none⟩,([],[])),(⟨(some 55),(.nilck (.t 26)),none⟩,([],[])),(⟨(some 56),(.fa 3 (.t 55)),none⟩,([],[])),(⟨none,(.st 1 (.t 56) (.t 50)),none⟩,([],[])),(⟨(some 57),(.nilck (.t 31)),none⟩,([],[])),(⟨(some 58),(.fa 4 (.t 57)),none⟩,([],[])),(⟨none,(.st 1 (.t 58) (.t 52)),none⟩,([],[]))]) (.kill [1,17,18,19,20,21,22,23,24,25,26,27,28,29,30,31,32,33,34,35,36,37,38,39,40,41,42,43,44,45,46,47,48,49,50,51,52,53,54,55,56,57,58] (.seq (.ops [⟨(some 59),(.mv (.t 0)),none⟩,⟨(some 60),(.mv (.t 0)),none⟩,⟨(some 61),(.mfn (.func 110) [(.t 60)] []),none⟩,⟨(some 62),(.nilck (.t 59)),none⟩,⟨(some 63),(.fa 0 (.t 62)),none⟩,⟨(some 64),(.fa 1 (.t 63)),none⟩,⟨none,(.st 1 (.t 64) (.t 61)),none⟩]) (.kill [0,59,60,61,62,63,64] (.seq (.ops [⟨(some 4),(.mv (.k (.c (.v (.bool false))))),none⟩]) .ret)))))))))))
def rs109:List RS:=[(.t 4)]
def nt109:Nat:=65
def ir113:IR:=(.seq (.ops [⟨(some 4),(.mv (.k (.c (.v (.bool false))))),none⟩]) (.kill [2,3,4,5,6,7,8,9,10,11] (.seq (.ops [⟨(some 5),(.mv (.t 0)),none⟩,⟨(some 6),(.mv (.t 0)),none⟩,⟨(some 7),(.nilck (.t 6)),none⟩,⟨(some 8),(.fa 0 (.t 7)),none⟩,⟨(some 9),(.mv (.t 1)),none⟩,⟨(some 10),(.call 114 [(.t 8),(.t 9)]),none⟩,⟨(some 11),(.nilck (.t 5)),none⟩,⟨(some 12),(.fa 5 (.t 11)),none⟩,⟨none,(.st 1 (.t 12) (.t 10)),none⟩]) (.kill [5,6,7,8,9,10,11,12] (.seq (.seq (.ops [⟨(some 13),(.mv (.t 0)),none⟩,⟨(some 14),(.nilck (.t 13)),none⟩,⟨(some 15),(.fa 5 (.t 14)),none⟩,⟨(some 16),(.ld false 1 (.t 15)),none⟩,⟨(some 17),(.un .not (.t 16)),none⟩]) (.kill [13,14,15,16] (.cond (.t 17) (.ops [⟨(some 18),(.mv (.t 1)),none⟩,⟨(some 19),(.mv (.t 1)),none⟩,⟨(some 20),(.call 96 [(.t 19)]),none⟩,⟨(some 21),(.call 95 [(.t 18),(.t 20)]),none⟩]) .skip))) (.kill [1,17,18,19,20,21] (.seq (.ops [⟨(some 22),(.mv (.t 0)),none⟩,⟨(some 23),(.mv (.t 0)),none⟩,⟨(some 24),(.mfn (.func 115) [(.t 23)] []),none⟩,⟨(some 25),(.nilck (.t 22)),none⟩,⟨(some 26),(.fa 0 (.t 25)),none⟩,⟨(some 27),(.fa 1 (.t 26)),none⟩,⟨none,(.st 1 (.t 27) (.t 24)),none⟩]) (.kill [0,22,23,24,25,26,27] (.seq (.ops [⟨(some 4),(.mv (.k (.c (.v (.bool false))))),none⟩]) .ret)))))))))
def rs113:List RS:=[(.t 4)]
def nt113:Nat:=28
def ir114:IR:=(.seq (.ops [⟨(some 4),(.mv (.k (.c (.v (.bool false))))),none⟩]) (.kill [2,3,4,5,6,7,8,9,10,11] (.seq (.seq (.draw [(⟨(some 5),(.mv (.t 1)),none⟩,([],[6,7,8,9,10,11,12,13,14,15,16])),(⟨(some 6),(.mv (.t 0)),none⟩,([0],[5,11,12,13,14,15])),(⟨(some 7),(.nilck (.t 6)),none⟩,([0],[5,11,12,13,14,15])),(⟨(some 8),(.fa 3 (.t 7)),none⟩,([0],[5,11,12,13,14,15])),(⟨(some 9),(.ld false 1 (.t 8)),none⟩,([0],[5,11,12,13,14,15])),(⟨(some 10),(.call 104 [(.t 9)]),none⟩,([0],[5,11,12,13,14,15])),(⟨(some 11),(.mv (.t 0)),none⟩,([0,1,2,3,4,5],[5,6,7,8,9,10])),(⟨(some 12),(.nilck (.t 11)),none⟩,([0,1,2,3,4,5],[5,6,7,8,9,10])),(⟨(some 13),(.fa 3 (.t 12)),none⟩,([0,1,2,3,4,5],[5,6,7,8,9,10])),(⟨(some 14),(.ld false 1 (.t 13)),none⟩,([0,1,2,3,4,5],[5,6,7,8,9,10])),(⟨(some 15),(.bin .add (.t 14) (.k (.c (.v (.int .i64 1))))),none⟩,([0,1,2,3,4,5],[5,6,7,8,9,10])),(⟨(some 16),(.call 104 [(.t 15)]),none⟩,([0],[5])),(⟨(some 17),(.call 116 [(.t 5),(.k (.c (.v (.int .i64 0)))),(.t 10),(.t 16)]),none⟩,([],[])),(⟨(some 18),(.un .not (.t 17)),none⟩,([],[]))]) (.kill [1,5,6,7,8,9,10,11,12,13,14,15,16,17] (.cond (.t 18) (.seq (.ops [⟨(some 4),(.mv (.k (.c (.v (.bool false))))),none⟩]) (.kill [0,18] .ret)) .skip))) (.kill [4,18] (.seq (.draw [(⟨(some 19),(.mv (.t 0)),none⟩,([],[23,24,25,26,27])),(⟨(some 20),(.nilck (.t 19)),none⟩,([],[23,24,25,26,27])),(⟨(some 21),(.fa 0 (.t 20)),none⟩,([],[23,24,25,26,27])),(⟨(some 22),(.ld false 1 (.t 21)),none⟩,([],[23,24,25,26,27])),(⟨(some 23),(.mv (.t 0)),none⟩,([0,1,2,3],[19,20,21,22])),(⟨(some 24),(.nilck (.t 23)),none⟩,([0,1,2,3],[19,20,21,22])),(⟨(some 25),(.fa 3 (.t 24)),none⟩,([0,1,2,3],[19,20,21,22])),(⟨(some 26),(.ld false 1 (.t 25)),none⟩,([0,1,2,3],[19,20,21,22])),(⟨(some 27),(.bin .add (.t 26) (.k (.c (.v (.int .i64 1))))),none⟩,([0,1,2,3],[19,20,21,22])),(⟨(some 28),(.nilck (.t 22)),none⟩,([],[])),(⟨(some 29),(.fa 1 (.t 28)),none⟩,([],[])),(⟨none,(.st 1 (.t 29) (.t 27)),none⟩,([],[]))]) (.kill [0,19,20,21,22,23,24,25,26,27,28,29] (.seq (.ops [⟨(some 4),(.mv (.k (.c (.v (.bool true))))),none⟩]) .ret)))))))
def rs114:List RS:=[(.t 4)]
def nt114:Nat:=30
def ir122:IR:=(.seq (.ops [⟨(some 4),(.mv (.k (.c (.v (.bool false))))),none⟩]) (.kill [2,3,4,5,6,7,8,9,10,11] (.seq (.seq (.ops [⟨(some 6),(.mv (.t 0)),none⟩,⟨(some 7),(.nilck (.t 6)),none⟩,⟨(some 8),(.fa 0 (.t 7)),none⟩,⟨(some 9),(.mv (.t 1)),none⟩,⟨(some 10),(.call 114 [(.t 8),(.t 9)]),none⟩,⟨(some 11),(.un .not (.t 10)),none⟩]) (.kill [6,7,8,9,10] (.cond (.t 11) (.seq (.ops [⟨(some 12),(.mv (.t 0)),none⟩,⟨(some 13),(.mv (.t 0)),none⟩,⟨(some 14),(.mfn (.func 119) [(.t 13)] []),none⟩,⟨(some 15),(.nilck (.t 12)),none⟩,⟨(some 16),(.fa 0 (.t 15)),none⟩,⟨(some 17),(.fa 1 (.t 16)),none⟩,⟨none,(.st 1 (.t 17) (.t 14)),none⟩]) (.kill [0,1,11,12,13,14,15,16,17] (.seq (.ops [⟨(some 4),(.mv (.k (.c (.v (.bool false))))),none⟩]) .ret))) .skip))) (.kill [4,11] (.seq (.ops [⟨(some 18),(.mv (.t 1)),none⟩,⟨(some 19),(.call 96 [(.t 18)]),none⟩,⟨(some 5),(.mv (.t 19)),none⟩]) (.kill [18,19] (.seq (.seq (.draw [(⟨(some 20),(.mv (.t 0)),none⟩,([],[])),(⟨(some 21),(.nilck (.t 20)),none⟩,([],[])),(⟨(some 22),(.fa 0 (.t 21)),none⟩,([],[])),(⟨(some 23),(.fa 0 (.t 22)),none⟩,([],[])),(⟨(some 24),(.ld false 1 (.t 23)),none⟩,([],[])),(⟨(some 25),(.nilck (.t 24)),none⟩,([],[])),(⟨(some 26),(.fa 2 (.t 25)),none⟩,([],[])),(⟨(some 27),(.ld false 1 (.t 26)),none⟩,([],[])),(⟨(some 28),(.mv (.t 27)),none⟩,([],[])),(⟨(some 29),(.mv (.t 0)),(some (28,true))⟩,([],[34,35,36,37,38,39,40,41])),(⟨(some 30),(.nilck (.t 29)),(some (28,true))⟩,([],[34,35,36,37,38,39,40,41])),(⟨(some 31),(.fa 0 (.t 30)),(some (28,true))⟩,([],[34,35,36,37,38,39,40,41])),(⟨(some 32),(.fa 3 (.t 31)),(some (28,true))⟩,([],[34,35,36,37,38,39,40,41])),(⟨(some 33),(.ld false 1 (.t 32)),(some (28,true))⟩,([],[34,35,36,37,38,39,40,41])),(⟨(some 34),(.mv (.t 0)),(some (28,true))⟩,([9,10,11,12,13],[29,30,31,32,33])),(⟨(some 35),(.nilck (.t 34)),(some (28,true))⟩,([9,10,11,12,13],[29,30,31,32,33])),(⟨(some 36),(.fa 0 (.t 35)),(some (28,true))⟩,([9,10,11,12,13],[29,30,31,32,33])),(⟨(some 37),(.fa 0 (.t 36)),(some (28,true))⟩,([9,10,11,12,13],[29,30,31,32,33])),(⟨(some 38),(.ld false 1 (.t 37)),(some (28,true))⟩,([9,10,11,12,13],[29,30,31,32,33])),(⟨(some 39),(.nilck (.t 38)),(some (28,true))⟩,([9,10,11,12,13],[29,30,31,32,33])),(⟨(some 40),(.fa 3 (.t 39)),(some (28,true))⟩,([9,10,11,12,13],[29,30,31,32,33])),(⟨(some 41),(.ld false 1 (.t 40)),(some (28,true))⟩,([9,10,11,12,13],[29,30,31,32,33])),(⟨(some 42),(.bin .eql (.t 33) (.t 41)),(some (28,true))⟩,([],[])),(⟨(some 43),(.pick (.t 28) (.t 42) (.k (.c (.v (.bool false))))),none⟩,([],[]))]) (.kill [20,21,22,23,24,25,26,27,28,29,30,31,32,33,34,35,36,37,38,39,40,41,42] (.cond (.t 43) (.ops [⟨(some 44),(.mv (.t 0)),none⟩,⟨(some 45),(.nilck (.t 44)),none⟩,⟨(some 46),(.fa 0 (.t 45)),none⟩,⟨(some 47),(.fa 0 (.t 46)),none⟩,⟨(some 48),(.ld false 1 (.t 47)),none⟩,⟨(some 49),(.nilck (.t 48)),none⟩,⟨(some 50),(.fa 4 (.t 49)),none⟩,⟨(some 51),(.ld false 1 (.t 50)),none⟩,⟨(some 5),(.mv (.t 51)),none⟩]) .skip))) (.kill [43,44,45,46,47,48,49,50,51] (.seq (.ops [⟨(some 52),(.mv (.t 1)),none⟩,⟨(some 53),(.mv (.t 5)),none⟩,⟨(some 54),(.call 95 [(.t 52),(.t 53)]),none⟩]) (.kill [5,52,53,54] (.seq (.ops [⟨(some 55),(.mv (.t 1)),none⟩,⟨(some 56),(.mv (.t 0)),none⟩,⟨(some 57),(.nilck (.t 56)),none⟩,⟨(some 58),(.fa 0 (.t 57)),none⟩,⟨(some 59),(.fa 4 (.t 58)),none⟩,⟨(some 60),(.ld false 1 (.t 59)),none⟩,⟨(some 61),(.call 97 [(.t 55),(.k (.c (.v (.int .i64 2)))),(.t 60)]),none⟩,⟨(some 4),(.mv (.t 61)),none⟩]) (.kill [0,1,55,56,57,58,59,60,61] .ret))))))))))))
def rs122:List RS:=[(.t 4)]
def nt122:Nat:=62
theorem dswap_y {w:World} {E:Env} {m:D.Pm} {i c:Nat} {k:D.Tk} (ht:AtT m i c k) {o v:Int} (ho:D.wd m 0=o) (h:Handed w E 11 (aO nz0 i c m) []) :
  Calls Try.prog 116 (([.c (.ptr (10,0,0) 0),.c (iI 0),.c (.v (.int .u64 o)),.c (.v (.int .u64 v))]:List SV).map (SV.den E)).toArray w (EffR w E 11 (takesO E (aO nz0 i c m)) (.c (.v (.bool true))) 2 fun b=>killO [3,4]++aO ⟨b,b+1,6,7⟩ i c { logd { m with us:=true } ⟨m.mm,m.th,3,0,o,v,D.wd m 0⟩ (D.wd m 0) with W:=m.W.set (0:Int).toNat v }):=by
 have hwl:=ht.wl
 have:=dswap_yes w E m i c 0 o v ho ht.us (Int.le_refl 0) (by omega) ht.hL ht.hA h
 rw [D.sw_ok ht.us (Int.le_refl 0) (by omega),if_pos ho] at this
 exact this
theorem dswap_n {w:World} {E:Env} {m:D.Pm} {i c:Nat} {k:D.Tk} (ht:AtT m i c k) {o v:Int} (ho:D.wd m 0≠o) (h:Handed w E 11 (aO nz0 i c m) []) :
  Calls Try.prog 116 (([.c (.ptr (10,0,0) 0),.c (iI 0),.c (.v (.int .u64 o)),.c (.v (.int .u64 v))]:List SV).map (SV.den E)).toArray w (EffR w E 11 (takesO E (aO nz0 i c m)) (.c (.v (.bool false))) 2 fun b=>killO [3,4]++aO ⟨b,b+1,6,7⟩ i c (logd { m with us:=true } ⟨m.mm,m.th,3,0,o,v,D.wd m 0⟩ (D.wd m 0))):=by
 have hwl:=ht.wl
 have:=dswap_no w E m i c 0 o v ho ht.us (Int.le_refl 0) (by omega) ht.hL ht.hA h
 rw [D.sw_ok ht.us (Int.le_refl 0) (by omega),if_neg ho] at this
 exact this
theorem le_bkden {C:Ctx} {S:St} {i ty:Nat} {cs ds:List SC} (h:look S.own i=some (.one (.bk cs ty))) (hd:∀ E,cs.map (SC.den E)=ds.map (SC.den E)):Le C S ⟨S.nt,S.tmps,mergeL (setN S.own (i,0,0) (.bk ds ty)) S.own,S.arrs,S.facts,S.nid⟩:=by
 have hy:pkN S.own (i,0,0)=some (0=0∧0=0,.bk cs ty):=by unfold pkN;rw [h];rfl
 intro E a w hs
 have haft:After C.B C.W C.w0 E [] S a w (.c (.v undef)) 0 (setN S.own (i,0,0) (.bk ds ty)) [] undef w:=by
  refine ⟨⟨fun _=>0,fun _=>0,fun _=>false,fun _=>.bool true⟩,fun _=>rfl,fun E2 hs2 _ hag=>⟨by rw [den_c,den_v],(fits_put hy ⟨rfl,rfl⟩ ⟨rfl,rfl,rfl⟩ (Nat.le_refl _) fun H hH=>?_).G⟩⟩
  have hd':=hH.den _ _ (pkN_at hy ⟨rfl,rfl⟩)
  have hsub:=hH.sub _ _ (pkN_at hy ⟨rfl,rfl⟩)
  refine ⟨H (i,0,0),?_,fun n _ _=>rfl,fun n o hn=>⟨(hsub n o hn).1,Or.inr (by rw [hn];simp)⟩⟩
  simp only [Blk.den] at hd' ⊢
  rw [hd',hd E2]
 obtain ⟨E',h'⟩:=satA_after hs (fun i hi=>by cases hi) haft none
 exact ⟨E',h'⟩
theorem ret_le {C:Ctx} {S S' : St} {v:SV} (hle:Le C S S') (hv:∀ E E',v.den E=v.den E') (h:RetVC C v S'):RetVC C v S:=fun E a w hs=>by
 obtain ⟨E',h'⟩:=hle E a w hs
 have:=h E' a w h'
 rwa [hv E E']
def nO (m:D.Pm) (i c:Nat):Own:=[(0,.one (.bk (bkM nz0 (.pe (6,0,0) 9 c 0) (.pe (5,0,0) 5 i 3) m) 113)),(10,.one (.bk [.ptr (0,0,0) 0] 137))]
set_option maxRecDepth 100000 in
theorem now_own (w:World) (E:Env) (m:D.Pm) (i c:Nat) (h:Handed w E 11 (nO m i c) []):Calls Try.prog 96 (([.c (.ptr (10,0,0) 0)]:List SV).map (SV.den E)).toArray w (EffR w E 11 (takesO E (nO m i c)) (.c (iI m.nw)) 0 fun _=>nO m i c):=by
 refine enterO (c:=ir96) (rs:=rs96) (nt:=nt96) h _ Try.func96 rfl (by kernel_rfl) (by kernel_rfl) rfl (by simp [okVs,SV.okN,SC.okN]) (of_decide_eq_true rfl) ?_
 generalize hR:EffR w E 11 (takesO E (nO m i c)) _ 0 _=R
 generalize hW:takesO E (nO m i c)=W
 simp (maxSteps:=2000000) only [ir96,nt96,rs96,go_sem,↓condS,↓gateS,↓runOp,↓reduceIte,Nat.reduceLT,Nat.reduceEqDiff,reduceCtorEq,mkO_rs,nO,nz0,bkM,iI]
 rw [← hR,← hW]
 refine retEff (fun _=>idσ id) [] (fun _=>nO m i c) (by simp) (fun E E'=>by simp [SV.den,SC.den,iI]) (fun _ _ _ _=>rfl) (fun b _=>?_) (fun b _=>injN_id rfl)
 simp [nO,bkM,nz0,iI,OwnLe,BlkLeO,BlkLe,atN,look,Fm.get,idσ,SC.renL,SC.ren,SC.okL,SC.okN]
set_option maxRecDepth 100000 in
set_option maxHeartbeats 2000000 in
theorem take6y_own (w:World) (E:Env) (m:D.Pm) (i c:Nat) (b t v:Int) (got:Bool) (ht:AtT m i c ⟨1,6,b,t,v,got⟩) (ho:D.wd m 0=D.u64 t) (h:Handed w E 11 (dO nz0 i c m) []) :
  Calls Try.prog 88 (([.c (.ptr (7,i,0) 0),.c (.ptr (10,0,0) 0)]:List SV).map (SV.den E)).toArray w (EffR w E 11 (takesO E (dO nz0 i c m)) (.c (.v (.bool (D.taskT m i ⟨1,6,b,t,v,got⟩).2.2))) 2 fun b'=>killO [3,4]++dO ⟨b',b' + 1,6,7⟩ i c (tskM m i (D.taskT m i ⟨1,6,b,t,v,got⟩))):=by
 have hwl:=ht.wl
 refine enterO (c:=ir88) (rs:=rs88) (nt:=nt88) h _ Try.func88 rfl (by kernel_rfl) (by kernel_rfl) rfl (by simp [okVs,SV.okN,SC.okN]) (of_decide_eq_true rfl) ?_
 have heq:D.taskT m i ⟨1,6,b,t,v,got⟩=({ { logd { m with us:=true } ⟨m.mm,m.th,3,0,D.u64 t,D.u64 (D.i64 (t+1)),D.wd m 0⟩ (D.wd m 0) with W:=m.W.set (0:Int).toNat (D.u64 (D.i64 (t+1))) } with top:=D.i64 (t+1) },⟨1,7,b,t,v,true⟩,false):=by
  simp only [D.taskT,D.takeT,if_true,if_false,Nat.one_ne_zero]
  rw [D.sw_ok ht.us (Int.le_refl 0) (by omega),if_pos ho]
  rfl
 rw [heq]
 generalize hR:EffR w E 11 (takesO E (dO nz0 i c m)) _ 2 _=R
 generalize hW:takesO E (dO nz0 i c m)=W
 have hf:=ht.f
 simp only [tkC,nextC,tkTy,iI] at hf
 have hi:=ht.hi
 simp (maxSteps:=2000000) only [ir88,nt88,rs88,go_sem,↓runOp,↓reduceIte,Nat.reduceLT,Nat.reduceEqDiff,reduceCtorEq,dO,mO,nz0,bkM,bkY,hubC,iI,hf]
 refine And.intro hi (And.intro ⟨_,Try.func113,by kernel_rfl,by kernel_rfl⟩ ?_)
 refine call_inline (c:=ir113) (rs:=rs113) (nt:=nt113) 1000 (mkTab_ok _ _) Try.func113 rfl (by kernel_rfl) (by kernel_rfl) rfl (by simp [okVs,SV.okN,SC.okN]) (of_decide_eq_true rfl) (fun E0 a0 ht0=>?_)
 simp (maxSteps:=2000000) only [ir113,nt113,rs113,go_sem,↓runOp,↓reduceIte,Nat.reduceLT,Nat.reduceEqDiff,reduceCtorEq]
 repeat (with_reducible refine And.intro (by first | exact hi | exact Or.inr trivial | exact Or.inl trivial) ?_)
 refine call_inline (c:=ir114) (rs:=rs114) (nt:=nt114) 1000 (mkTab_ok _ _) Try.func114 rfl (by kernel_rfl) (by kernel_rfl) rfl (by simp [okVs,SV.okN,SC.okN]) (of_decide_eq_true rfl) (fun E1 a1 ht1=>?_)
 simp (maxSteps:=2000000) only [ir114,nt114,rs114,go_sem,↓runOp,↓reduceIte,Nat.reduceLT,Nat.reduceEqDiff,reduceCtorEq]
 refine draw_vc (by kernel_rfl) (mkTab_ok _ _) (of_decide_eq_true rfl) (of_decide_eq_true rfl) ?_
 repeat (first | simp (maxSteps:=2000000) only [go_sem,↓gateD,↓runD,↓reduceIte,Nat.reduceLT,Nat.reduceEqDiff,reduceCtorEq,hf] | rw [dr_cons])
 repeat (with_reducible refine And.intro (by first | exact hi | exact Or.inr trivial | exact Or.inl trivial) ?_)
 refine dcallV (.c (.v (.int .u64 (D.u64 (t))))) _ (fun E=>rfl) (fun E a w' hs=>number_calls w' _) ?_
 repeat (first | simp (maxSteps:=2000000) only [go_sem,↓gateD,↓runD,↓reduceIte,Nat.reduceLT,Nat.reduceEqDiff,reduceCtorEq,hf] | rw [dr_cons])
 repeat (with_reducible refine And.intro (by first | exact hi | exact Or.inr trivial | exact Or.inl trivial) ?_)
 refine dcallV (.c (.v (.int .u64 (D.u64 (D.i64 (t+1)))))) _ (fun E=>rfl) (fun E a w' hs=>number_calls w' _) ?_
 repeat (first | simp (maxSteps:=2000000) only [go_sem,↓gateD,↓runD,↓reduceIte,Nat.reduceLT,Nat.reduceEqDiff,reduceCtorEq] | rw [dr_cons])
 repeat (with_reducible refine And.intro (by first | exact hi | exact Or.inr trivial | exact Or.inl trivial) ?_)
 refine dcall_intro (crA (i:=i) (c:=c) (m:=m) (m':={ logd { m with us:=true } ⟨m.mm,m.th,3,0,D.u64 t,D.u64 (D.i64 (t+1)),D.wd m 0⟩ (D.wd m 0) with W:=m.W.set (0:Int).toNat (D.u64 (D.i64 (t+1))) }) (Nat.le_refl _) (ain0 rfl rfl rfl rfl rfl rfl) (fun E w h=>dswap_y ht ho h)) rfl trivial ?_ ?_ ?_
 ·simp [wrOk,killO,aO,wrFree,wkImp]
 ·intro k hk hlt
  simp only [killO,aO,keysL,List.map_cons,List.map_nil,List.cons_append,List.nil_append,List.mem_cons,List.not_mem_nil,or_false] at hk
  have hlt:k<11:=hlt
  rcases hk with rfl | rfl | rfl | rfl | rfl | rfl | rfl | rfl <;> first | rfl | omega
 repeat (first | simp (maxSteps:=2000000) only [go_sem,↓condS,↓gateD,↓runD,↓reduceIte,Nat.reduceLT,Nat.reduceAdd,Nat.reduceEqDiff,reduceCtorEq,Int.reduceToNat,killO,aO,bkM,bkY,iI,logd] | rw [dr_cons])
 repeat (with_reducible refine And.intro (by first | exact hi | exact Or.inr trivial | exact Or.inl trivial) ?_)
 refine draw_vc (by kernel_rfl) (mkTab_ok _ _) (of_decide_eq_true rfl) (of_decide_eq_true rfl) ?_
 repeat (first | simp (maxSteps:=2000000) only [go_sem,↓runOp,↓gateD,↓runD,↓reduceIte,Nat.reduceLT,Nat.reduceLeDiff,Nat.reduceAdd,Nat.reduceEqDiff,reduceCtorEq,hf] | rw [dr_cons])
 repeat (with_reducible refine And.intro (by first | exact hi | exact Or.inr trivial | exact Or.inl trivial) ?_)
 refine retI ht1 _ rfl (of_decide_eq_true rfl) (by simp [SV.okN,SC.okN]) ?_
 simp (maxSteps:=2000000) only [go_sem,↓condS,↓runOp,↓reduceIte,Nat.reduceLT,Nat.reduceLeDiff,Nat.reduceAdd,Nat.reduceEqDiff,reduceCtorEq,hf]
 repeat (with_reducible refine And.intro (by first | exact hi | exact Or.inr trivial | exact Or.inl trivial) ?_)
 repeat (with_reducible refine And.intro (by first | exact hi | exact Or.inr trivial | exact Or.inl trivial) ?_)
 refine retI ht0 _ rfl (of_decide_eq_true rfl) (by simp [SV.okN,SC.okN]) ?_
 simp (maxSteps:=2000000) only [go_sem,↓runOp,↓reduceIte,Nat.reduceLT,Nat.reduceEqDiff,reduceCtorEq,mkO_rs]
 rw [← hR,← hW]
 exact retT (p:=11) (q:=12) ht rfl rfl rfl (by simp) (fun E=>rfl) rfl rfl ⟨_,_,rfl,Nat.le_refl _,fun _ _=>rfl⟩ rfl rfl rfl ⟨_,_,rfl,Nat.le_refl _,fun _ _=>rfl⟩ ⟨_,rfl,fun x=>by by_cases q:x=i <;> simp [q,tkC,nextC,tkTy,iI]⟩ rfl rfl
set_option maxRecDepth 100000 in
set_option maxHeartbeats 2000000 in
theorem take6n_own (w:World) (E:Env) (m:D.Pm) (i c:Nat) (b t v:Int) (got:Bool) (ht:AtT m i c ⟨1,6,b,t,v,got⟩) (ho:D.wd m 0≠D.u64 t) (h:Handed w E 11 (dO nz0 i c m) []) :
  Calls Try.prog 88 (([.c (.ptr (7,i,0) 0),.c (.ptr (10,0,0) 0)]:List SV).map (SV.den E)).toArray w (EffR w E 11 (takesO E (dO nz0 i c m)) (.c (.v (.bool (D.taskT m i ⟨1,6,b,t,v,got⟩).2.2))) 2 fun b'=>killO [3,4]++dO ⟨b',b' + 1,6,7⟩ i c (tskM m i (D.taskT m i ⟨1,6,b,t,v,got⟩))):=by
 have hwl:=ht.wl
 refine enterO (c:=ir88) (rs:=rs88) (nt:=nt88) h _ Try.func88 rfl (by kernel_rfl) (by kernel_rfl) rfl (by simp [okVs,SV.okN,SC.okN]) (of_decide_eq_true rfl) ?_
 have heq:D.taskT m i ⟨1,6,b,t,v,got⟩=({ logd { m with us:=true } ⟨m.mm,m.th,3,0,D.u64 t,D.u64 (D.i64 (t+1)),D.wd m 0⟩ (D.wd m 0) with C:=m.C.set c { m.C.getD c D.ca0 with pt:=m.nw } },⟨1,7,b,t,v,false⟩,false):=by
  simp only [D.taskT,D.takeT,if_true,if_false,Nat.one_ne_zero]
  rw [D.sw_ok ht.us (Int.le_refl 0) (by omega),if_neg ho]
  exact congrArg (fun x=>(x,(⟨1,7,b,t,v,false⟩:D.Tk),false)) (pt_at (r:=logd { m with us:=true } ⟨m.mm,m.th,3,0,D.u64 t,D.u64 (D.i64 (t+1)),D.wd m 0⟩ (D.wd m 0)) ht rfl rfl _)
 rw [heq]
 generalize hR:EffR w E 11 (takesO E (dO nz0 i c m)) _ 2 _=R
 generalize hW:takesO E (dO nz0 i c m)=W
 have hf:=ht.f
 simp only [tkC,nextC,tkTy,iI] at hf
 have hi:=ht.hi
 simp (maxSteps:=2000000) only [ir88,nt88,rs88,go_sem,↓runOp,↓reduceIte,Nat.reduceLT,Nat.reduceEqDiff,reduceCtorEq,dO,mO,nz0,bkM,bkY,hubC,iI,hf]
 refine And.intro hi (And.intro ⟨_,Try.func113,by kernel_rfl,by kernel_rfl⟩ ?_)
 refine call_inline (c:=ir113) (rs:=rs113) (nt:=nt113) 1000 (mkTab_ok _ _) Try.func113 rfl (by kernel_rfl) (by kernel_rfl) rfl (by simp [okVs,SV.okN,SC.okN]) (of_decide_eq_true rfl) (fun E0 a0 ht0=>?_)
 simp (maxSteps:=2000000) only [ir113,nt113,rs113,go_sem,↓runOp,↓reduceIte,Nat.reduceLT,Nat.reduceEqDiff,reduceCtorEq]
 repeat (with_reducible refine And.intro (by first | exact hi | exact Or.inr trivial | exact Or.inl trivial) ?_)
 refine call_inline (c:=ir114) (rs:=rs114) (nt:=nt114) 1000 (mkTab_ok _ _) Try.func114 rfl (by kernel_rfl) (by kernel_rfl) rfl (by simp [okVs,SV.okN,SC.okN]) (of_decide_eq_true rfl) (fun E1 a1 ht1=>?_)
 simp (maxSteps:=2000000) only [ir114,nt114,rs114,go_sem,↓runOp,↓reduceIte,Nat.reduceLT,Nat.reduceEqDiff,reduceCtorEq]
 refine draw_vc (by kernel_rfl) (mkTab_ok _ _) (of_decide_eq_true rfl) (of_decide_eq_true rfl) ?_
 repeat (first | simp (maxSteps:=2000000) only [go_sem,↓gateD,↓runD,↓reduceIte,Nat.reduceLT,Nat.reduceEqDiff,reduceCtorEq,hf] | rw [dr_cons])
 repeat (with_reducible refine And.intro (by first | exact hi | exact Or.inr trivial | exact Or.inl trivial) ?_)
 refine dcallV (.c (.v (.int .u64 (D.u64 (t))))) _ (fun E=>rfl) (fun E a w' hs=>number_calls w' _) ?_
 repeat (first | simp (maxSteps:=2000000) only [go_sem,↓gateD,↓runD,↓reduceIte,Nat.reduceLT,Nat.reduceEqDiff,reduceCtorEq,hf] | rw [dr_cons])
 repeat (with_reducible refine And.intro (by first | exact hi | exact Or.inr trivial | exact Or.inl trivial) ?_)
 refine dcallV (.c (.v (.int .u64 (D.u64 (D.i64 (t+1)))))) _ (fun E=>rfl) (fun E a w' hs=>number_calls w' _) ?_
 repeat (first | simp (maxSteps:=2000000) only [go_sem,↓gateD,↓runD,↓reduceIte,Nat.reduceLT,Nat.reduceEqDiff,reduceCtorEq] | rw [dr_cons])
 repeat (with_reducible refine And.intro (by first | exact hi | exact Or.inr trivial | exact Or.inl trivial) ?_)
 refine dcall_intro (crA (i:=i) (c:=c) (m:=m) (m':=logd { m with us:=true } ⟨m.mm,m.th,3,0,D.u64 t,D.u64 (D.i64 (t+1)),D.wd m 0⟩ (D.wd m 0)) (Nat.le_refl _) (ain0 rfl rfl rfl rfl rfl rfl) (fun E w h=>dswap_n ht ho h)) rfl trivial ?_ ?_ ?_
 ·simp [wrOk,killO,aO,wrFree,wkImp]
 ·intro k hk hlt
  simp only [killO,aO,keysL,List.map_cons,List.map_nil,List.cons_append,List.nil_append,List.mem_cons,List.not_mem_nil,or_false] at hk
  have hlt:k<11:=hlt
  rcases hk with rfl | rfl | rfl | rfl | rfl | rfl | rfl | rfl <;> first | rfl | omega
 repeat (first | simp (maxSteps:=2000000) only [go_sem,↓condS,↓runOp,↓gateD,↓runD,↓reduceIte,Nat.reduceLT,Nat.reduceAdd,Nat.reduceEqDiff,reduceCtorEq,killO,aO,bkM,bkY,iI,logd] | rw [dr_cons])
 repeat (with_reducible refine And.intro (by first | exact hi | exact Or.inr trivial | exact Or.inl trivial) ?_)
 refine retI ht1 _ rfl (of_decide_eq_true rfl) (by simp [SV.okN,SC.okN]) ?_
 simp (maxSteps:=2000000) only [go_sem,↓condS,↓runOp,↓reduceIte,Nat.reduceLT,Nat.reduceLeDiff,Nat.reduceAdd,Nat.reduceEqDiff,reduceCtorEq,hf]
 repeat (with_reducible refine And.intro (by first | exact hi | exact Or.inr trivial | exact Or.inl trivial) ?_)
 refine call_inline (c:=ir96) (rs:=rs96) (nt:=nt96) 1000 (mkTab_ok _ _) Try.func96 rfl (by kernel_rfl) (by kernel_rfl) rfl (by simp [okVs,SV.okN,SC.okN]) (of_decide_eq_true rfl) (fun E1 a1 ht1=>?_)
 simp (maxSteps:=2000000) only [ir96,nt96,rs96,go_sem,↓condS,↓gateS,↓runOp,↓reduceIte,Nat.reduceLT,Nat.reduceEqDiff,reduceCtorEq]
 refine retI ht1 _ rfl (of_decide_eq_true rfl) (by simp [SV.okN,SC.okN]) ?_
 simp (maxSteps:=2000000) only [go_sem,↓runOp,↓reduceIte,Nat.reduceLT,Nat.reduceEqDiff,reduceCtorEq]
 refine call_inline (c:=ir95) (rs:=rs95) (nt:=nt95) 1000 (mkTab_ok _ _) Try.func95 rfl (by kernel_rfl) (by kernel_rfl) rfl (by simp [okVs,SV.okN,SC.okN]) (of_decide_eq_true rfl) (fun E1 a1 ht1=>?_)
 simp (maxSteps:=2000000) only [ir95,nt95,rs95,go_sem,↓condS,↓gateS,↓runOp,↓reduceIte,Nat.reduceLT,Nat.reduceLeDiff,Nat.reduceAdd,Nat.reduceEqDiff,reduceCtorEq,ats_C,iI]
 refine And.intro ht.hc ?_
 refine retI ht1 _ rfl (of_decide_eq_true rfl) (by simp [SV.okN,ok1L]) ?_
 simp (maxSteps:=2000000) only [go_sem,↓runOp,↓reduceIte,Nat.reduceLT,Nat.reduceLeDiff,Nat.reduceAdd,Nat.reduceEqDiff,reduceCtorEq]
 repeat (with_reducible refine And.intro (by first | exact hi | exact Or.inr trivial | exact Or.inl trivial) ?_)
 refine retI ht0 _ rfl (of_decide_eq_true rfl) (by simp [SV.okN,SC.okN]) ?_
 simp (maxSteps:=2000000) only [go_sem,↓runOp,↓reduceIte,Nat.reduceLT,Nat.reduceEqDiff,reduceCtorEq,mkO_rs]
 rw [← hR,← hW]
 exact retT (p:=11) (q:=12) ht rfl rfl rfl (by simp) (fun E=>rfl) (by simp [look,bkM,iI,logd]) rfl ⟨_,_,rfl,Nat.le_refl _,fun _ _=>rfl⟩ rfl rfl rfl ⟨_,_,rfl,by simp,ats_set ht.hc (by simp [D.Ca.enc])⟩ ⟨_,rfl,fun x=>by by_cases q:x=i <;> simp [q,tkC,nextC,tkTy,iI]⟩ rfl rfl
set_option maxRecDepth 100000 in
set_option maxHeartbeats 2000000 in
theorem steal4n_own (w:World) (E:Env) (m:D.Pm) (i c:Nat) (b t v:Int) (got:Bool) (ht:AtT m i c ⟨2,4,b,t,v,got⟩) (ho:D.wd m 0≠D.u64 t) (h:Handed w E 11 (dO nz0 i c m) []) :
  Calls Try.prog 88 (([.c (.ptr (7,i,0) 0),.c (.ptr (10,0,0) 0)]:List SV).map (SV.den E)).toArray w (EffR w E 11 (takesO E (dO nz0 i c m)) (.c (.v (.bool (D.taskT m i ⟨2,4,b,t,v,got⟩).2.2))) 2 fun b'=>killO [3,4]++dO ⟨b',b' + 1,6,7⟩ i c (tskM m i (D.taskT m i ⟨2,4,b,t,v,got⟩))):=by
 have hwl:=ht.wl
 refine enterO (c:=ir88) (rs:=rs88) (nt:=nt88) h _ Try.func88 rfl (by kernel_rfl) (by kernel_rfl) rfl (by simp [okVs,SV.okN,SC.okN]) (of_decide_eq_true rfl) ?_
 have heq:D.taskT m i ⟨2,4,b,t,v,got⟩=(logd { m with us:=true } ⟨m.mm,m.th,3,0,D.u64 t,D.u64 (D.i64 (t+1)),D.wd m 0⟩ (D.wd m 0),⟨2,1,b,t,v,got⟩,false):=by
  simp only [D.taskT,D.stealT,if_false,Nat.reduceEqDiff]
  rw [D.sw_ok ht.us (Int.le_refl 0) (by omega),if_neg ho]
  rfl
 rw [heq]
 generalize hR:EffR w E 11 (takesO E (dO nz0 i c m)) _ 2 _=R
 generalize hW:takesO E (dO nz0 i c m)=W
 have hf:=ht.f
 simp only [tkC,nextC,tkTy,iI] at hf
 have hi:=ht.hi
 simp (maxSteps:=2000000) only [ir88,nt88,rs88,go_sem,↓runOp,↓reduceIte,Nat.reduceLT,Nat.reduceEqDiff,reduceCtorEq,dO,mO,nz0,bkM,bkY,hubC,iI,hf]
 refine And.intro hi (And.intro ⟨_,Try.func122,by kernel_rfl,by kernel_rfl⟩ ?_)
 refine call_inline (c:=ir122) (rs:=rs122) (nt:=nt122) 1000 (mkTab_ok _ _) Try.func122 rfl (by kernel_rfl) (by kernel_rfl) rfl (by simp [okVs,SV.okN,SC.okN]) (of_decide_eq_true rfl) (fun E0 a0 ht0=>?_)
 simp (maxSteps:=2000000) only [ir122,nt122,rs122,go_sem,↓runOp,↓reduceIte,Nat.reduceLT,Nat.reduceEqDiff,reduceCtorEq]
 repeat (with_reducible refine And.intro (by first | exact hi | exact Or.inr trivial | exact Or.inl trivial) ?_)
 refine call_inline (c:=ir114) (rs:=rs114) (nt:=nt114) 1000 (mkTab_ok _ _) Try.func114 rfl (by kernel_rfl) (by kernel_rfl) rfl (by simp [okVs,SV.okN,SC.okN]) (of_decide_eq_true rfl) (fun E1 a1 ht1=>?_)
 simp (maxSteps:=2000000) only [ir114,nt114,rs114,go_sem,↓runOp,↓reduceIte,Nat.reduceLT,Nat.reduceEqDiff,reduceCtorEq]
 refine draw_vc (by kernel_rfl) (mkTab_ok _ _) (of_decide_eq_true rfl) (of_decide_eq_true rfl) ?_
 repeat (first | simp (maxSteps:=2000000) only [go_sem,↓gateD,↓runD,↓reduceIte,Nat.reduceLT,Nat.reduceEqDiff,reduceCtorEq,hf] | rw [dr_cons])
 repeat (with_reducible refine And.intro (by first | exact hi | exact Or.inr trivial | exact Or.inl trivial) ?_)
 refine dcallV (.c (.v (.int .u64 (D.u64 (t))))) _ (fun E=>rfl) (fun E a w' hs=>number_calls w' _) ?_
 repeat (first | simp (maxSteps:=2000000) only [go_sem,↓gateD,↓runD,↓reduceIte,Nat.reduceLT,Nat.reduceEqDiff,reduceCtorEq,hf] | rw [dr_cons])
 repeat (with_reducible refine And.intro (by first | exact hi | exact Or.inr trivial | exact Or.inl trivial) ?_)
 refine dcallV (.c (.v (.int .u64 (D.u64 (D.i64 (t+1)))))) _ (fun E=>rfl) (fun E a w' hs=>number_calls w' _) ?_
 repeat (first | simp (maxSteps:=2000000) only [go_sem,↓gateD,↓runD,↓reduceIte,Nat.reduceLT,Nat.reduceEqDiff,reduceCtorEq] | rw [dr_cons])
 repeat (with_reducible refine And.intro (by first | exact hi | exact Or.inr trivial | exact Or.inl trivial) ?_)
 refine dcall_intro (crA (i:=i) (c:=c) (m:=m) (m':=logd { m with us:=true } ⟨m.mm,m.th,3,0,D.u64 t,D.u64 (D.i64 (t+1)),D.wd m 0⟩ (D.wd m 0)) (Nat.le_refl _) (ain0 rfl rfl rfl rfl rfl rfl) (fun E w h=>dswap_n ht ho h)) rfl trivial ?_ ?_ ?_
 ·simp [wrOk,killO,aO,wrFree,wkImp]
 ·intro k hk hlt
  simp only [killO,aO,keysL,List.map_cons,List.map_nil,List.cons_append,List.nil_append,List.mem_cons,List.not_mem_nil,or_false] at hk
  have hlt:k<11:=hlt
  rcases hk with rfl | rfl | rfl | rfl | rfl | rfl | rfl | rfl <;> first | rfl | omega
 repeat (first | simp (maxSteps:=2000000) only [go_sem,↓condS,↓runOp,↓gateD,↓runD,↓reduceIte,Nat.reduceLT,Nat.reduceAdd,Nat.reduceEqDiff,reduceCtorEq,killO,aO,bkM,bkY,iI,logd] | rw [dr_cons])
 repeat (with_reducible refine And.intro (by first | exact hi | exact Or.inr trivial | exact Or.inl trivial) ?_)
 refine retI ht1 _ rfl (of_decide_eq_true rfl) (by simp [SV.okN,SC.okN]) ?_
 simp (maxSteps:=2000000) only [go_sem,↓condS,↓runOp,↓reduceIte,Nat.reduceLT,Nat.reduceLeDiff,Nat.reduceAdd,Nat.reduceEqDiff,reduceCtorEq,hf]
 repeat (with_reducible refine And.intro (by first | exact hi | exact Or.inr trivial | exact Or.inl trivial) ?_)
 repeat (with_reducible refine And.intro (by first | exact hi | exact Or.inr trivial | exact Or.inl trivial) ?_)
 refine retI ht0 _ rfl (of_decide_eq_true rfl) (by simp [SV.okN,SC.okN]) ?_
 simp (maxSteps:=2000000) only [go_sem,↓runOp,↓reduceIte,Nat.reduceLT,Nat.reduceEqDiff,reduceCtorEq,mkO_rs]
 rw [← hR,← hW]
 exact retT (p:=11) (q:=12) ht rfl rfl rfl (by simp) (fun E=>rfl) rfl rfl ⟨_,_,rfl,Nat.le_refl _,fun _ _=>rfl⟩ rfl rfl rfl ⟨_,_,rfl,Nat.le_refl _,fun _ _=>rfl⟩ ⟨_,rfl,fun x=>by by_cases q:x=i <;> simp [q,tkC,nextC,tkTy,iI]⟩ rfl rfl
end Go.Proofs.Ytcloeignccpljaa.Z
