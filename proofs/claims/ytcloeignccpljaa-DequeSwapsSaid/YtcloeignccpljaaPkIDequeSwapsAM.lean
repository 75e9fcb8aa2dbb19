/- DequeSwapsSaid: what its proof is made of. No condition. -/
import Derived.Test.YtcloeignccpljaaPkIDequeSwapsAL
set_option linter.unusedSimpArgs false
set_option linter.unusedVariables false
namespace Go.Proofs.Ytcloeignccpljaa.Z
open Go Go.RowKit
set_option maxRecDepth 100000 in
set_option maxHeartbeats 2000000 in
theorem take2_own (w:World) (E:Env) (m:D.Pm) (i c:Nat) (b t v:Int) (got:Bool) (ht:AtT m i c ⟨1,2,b,t,v,got⟩) (h:Handed w E 11 (dO nz0 i c m) []) :
  Calls Try.prog 88 (([.c (.ptr (7,i,0) 0),.c (.ptr (10,0,0) 0)]:List SV).map (SV.den E)).toArray w (EffR w E 11 (takesO E (dO nz0 i c m)) (.c (.v (.bool (D.taskT m i ⟨1,2,b,t,v,got⟩).2.2))) 2 fun b'=>killO [3,4]++dO ⟨b',b' + 1,6,7⟩ i c (tskM m i (D.taskT m i ⟨1,2,b,t,v,got⟩))):=by
 have hwl:=ht.wl
 refine enterO (c:=ir88) (rs:=rs88) (nt:=nt88) h _ Try.func88 rfl (by kernel_rfl) (by kernel_rfl) rfl (by simp [okVs,SV.okN,SC.okN]) (of_decide_eq_true rfl) ?_
 have heq:D.taskT m i ⟨1,2,b,t,v,got⟩=({ { logd { m with us:=true } ⟨m.mm,m.th,2,1,0,D.u64 b,0⟩ (D.wd m (1)) with W:=m.W.set (1:Int).toNat (D.u64 b) } with C:=m.C.set c { m.C.getD c D.ca0 with pt:=m.nw },last:=decide (m.top=b),rk:=b,at_:=m.nw },⟨1,3,b,t,v,got⟩,false):=by
  simp only [D.taskT,D.takeT,if_true,if_false,Nat.one_ne_zero]
  rw [D.st_ok ht.us (by decide) (by omega)]
  exact congrArg (fun x:D.Pm=>(({ x with last:=decide (m.top=b),rk:=b,at_:=m.nw }:D.Pm),(⟨1,3,b,t,v,got⟩:D.Tk),false)) (pt_at (r:={ logd { m with us:=true } ⟨m.mm,m.th,2,1,0,D.u64 b,0⟩ (D.wd m (1)) with W:=m.W.set (1:Int).toNat (D.u64 b) }) ht rfl rfl _)
 rw [heq]
 generalize hR:EffR w E 11 (takesO E (dO nz0 i c m)) _ 2 _=R
 generalize hW:takesO E (dO nz0 i c m)=W
 have hf:=ht.f
 simp only [tkC,nextC,tkTy,iI] at hf
 have hi:=ht.hi
 simp (maxSteps:=2000000) only [ir88,nt88,rs88,go_sem,↓runOp,↓reduceIte,Nat.reduceLT,Nat.reduceEqDiff,reduceCtorEq,dO,mO,nz0,bkM,bkY,hubC,iI,hf]
 refine And.intro hi (And.intro ⟨_,Try.func109,by kernel_rfl,by kernel_rfl⟩ ?_)
 refine call_inline (c:=ir109) (rs:=rs109) (nt:=nt109) 1000 (mkTab_ok _ _) Try.func109 rfl (by kernel_rfl) (by kernel_rfl) rfl (by simp [okVs,SV.okN,SC.okN]) (of_decide_eq_true rfl) (fun E0 a0 ht0=>?_)
 simp (maxSteps:=2000000) only [ir109,nt109,rs109,go_sem,↓runOp,↓reduceIte,Nat.reduceLT,Nat.reduceEqDiff,reduceCtorEq,hf]
 repeat (with_reducible refine And.intro (by first | exact hi | exact Or.inr trivial | exact Or.inl trivial) ?_)
 refine callV (.c (.v (.int .u64 (D.u64 (b))))) _ (fun E=>rfl) (fun E a w' hs=>number_calls w' _) ?_
 simp (maxSteps:=2000000) only [go_sem,↓runOp,↓reduceIte,Nat.reduceLT,Nat.reduceEqDiff,reduceCtorEq]
 refine call_intro (crA (i:=i) (c:=c) (m:=m) (m':={ logd { m with us:=true } ⟨m.mm,m.th,2,1,0,D.u64 b,0⟩ (D.wd m (1)) with W:=m.W.set (1:Int).toNat (D.u64 b) }) (Nat.le_refl _) (ain0 rfl rfl rfl rfl rfl rfl) (fun E w h=>dstore_at ht (a:=1) (v:=D.u64 b) (by decide) (by omega) h)) (lt11 (Nat.le_refl _)) ?_
 simp (maxSteps:=2000000) only [go_sem,↓runOp,↓reduceIte,Nat.reduceLT,Nat.reduceAdd,Nat.reduceEqDiff,reduceCtorEq,Int.reduceToNat,killO,aO,bkM,bkY,iI,logd]
 refine call_inline (c:=ir96) (rs:=rs96) (nt:=nt96) 1000 (mkTab_ok _ _) Try.func96 rfl (by kernel_rfl) (by kernel_rfl) rfl (by simp [okVs,SV.okN,SC.okN]) (of_decide_eq_true rfl) (fun E1 a1 ht1=>?_)
 simp (maxSteps:=2000000) only [ir96,nt96,rs96,go_sem,↓condS,↓gateS,↓runOp,↓reduceIte,Nat.reduceLT,Nat.reduceEqDiff,reduceCtorEq]
 refine retI ht1 _ rfl (of_decide_eq_true rfl) (by simp [SV.okN,SC.okN]) ?_
 simp (maxSteps:=2000000) only [go_sem,↓runOp,↓reduceIte,Nat.reduceLT,Nat.reduceEqDiff,reduceCtorEq]
 refine call_inline (c:=ir95) (rs:=rs95) (nt:=nt95) 1000 (mkTab_ok _ _) Try.func95 rfl (by kernel_rfl) (by kernel_rfl) rfl (by simp [okVs,SV.okN,SC.okN]) (of_decide_eq_true rfl) (fun E1 a1 ht1=>?_)
 simp (maxSteps:=2000000) only [ir95,nt95,rs95,go_sem,↓condS,↓gateS,↓runOp,↓reduceIte,Nat.reduceLT,Nat.reduceLeDiff,Nat.reduceAdd,Nat.reduceEqDiff,reduceCtorEq,ats_C,iI]
 refine And.intro ht.hc ?_
 refine retI ht1 _ rfl (of_decide_eq_true rfl) (by simp [SV.okN,ok1L]) ?_
 simp (maxSteps:=2000000) only [go_sem,↓reduceIte,Nat.reduceLT,Nat.reduceEqDiff,reduceCtorEq]
 refine draw_vc (by kernel_rfl) (mkTab_ok _ _) (of_decide_eq_true rfl) (of_decide_eq_true rfl) ?_
 repeat (first | simp (maxSteps:=2000000) only [go_sem,↓gateD,↓runD,↓reduceIte,Nat.reduceLT,Nat.reduceEqDiff,reduceCtorEq,hf] | rw [dr_cons])
 repeat (with_reducible refine And.intro (by first | exact hi | exact Or.inr trivial | exact Or.inl trivial) ?_)
 refine dcall_intro (cr_own (eff:=fun _=>nO ({ m with us:=true }) i c) 11 (nO ({ m with us:=true }) i c) [] (show 11≤13 by decide) (plain_of ⟨trivial,trivial,trivial⟩) ?_ trivial (fun x B hx=>?_) (fun E w h=>now_own w E _ i c h)) rfl trivial ?_ ?_ ?_
 ·simp [nO,bkM,nz0,iI,OwnLe,BlkLeO,BlkLe,atN,look,Fm.get,idσ,SC.renL,SC.ren,SC.okL,SC.okN]
 ·obtain ⟨F,hF,_⟩:=atN_some hx
  have hk:=look_keysL hF
  simp only [nO,keysL,List.mem_cons,List.not_mem_nil,or_false] at hk
  rcases hk with e | e <;> rw [e] <;> rfl
 ·simp [wrOk,nO,wrFree,wkImp,nth,memB,look]
 ·intro k hk hlt
  simp only [nO,keysL,List.mem_cons,List.not_mem_nil,or_false] at hk
  rcases hk with rfl | rfl <;> rfl
 repeat (first | simp (maxSteps:=2000000) only [go_sem,↓runOp,↓gateD,↓runD,↓reduceIte,Nat.reduceLT,Nat.reduceLeDiff,Nat.reduceAdd,Nat.reduceEqDiff,reduceCtorEq,nO,bkM,nz0,iI,hf] | rw [dr_cons])
 repeat (with_reducible refine And.intro (by first | exact hi | exact Or.inr trivial | exact Or.inl trivial) ?_)
 refine retI ht0 _ rfl (of_decide_eq_true rfl) (by simp [SV.okN,SC.okN]) ?_
 simp (maxSteps:=2000000) only [go_sem,↓runOp,↓reduceIte,Nat.reduceLT,Nat.reduceEqDiff,reduceCtorEq,mkO_rs]
 rw [← hR,← hW]
 refine ret_le (le_bkden (i:=9) (ty:=88) (ds:=[iI m.room,iI m.top,.v (.bool (decide (m.top=b))),iI b,iI m.nw]) rfl (fun E=>by simp [SC.den,iI];rfl)) (fun E E'=>rfl) ?_
 simp (maxSteps:=2000000) only [go_sem,↓reduceIte,Nat.reduceEqDiff,reduceCtorEq,Int.reduceToNat]
 exact retT (p:=11) (q:=12) ht rfl rfl rfl (by simp) (fun E=>rfl) (by simp [look,bkM,iI,logd]) rfl ⟨_,_,rfl,Nat.le_refl _,fun _ _=>rfl⟩ rfl rfl rfl ⟨_,_,rfl,by simp,ats_set ht.hc (by simp [D.Ca.enc])⟩ ⟨_,rfl,fun x=>by by_cases q:x=i <;> simp [q,tkC,nextC,tkTy,iI]⟩ rfl rfl
set_option maxRecDepth 100000 in
set_option maxHeartbeats 2000000 in
theorem steal4a_own (w:World) (E:Env) (m:D.Pm) (i c:Nat) (b t v:Int) (got:Bool) (ht:AtT m i c ⟨2,4,b,t,v,got⟩) (ho:D.wd m 0=D.u64 t) (hl:m.last=true) (hq:t=m.rk) (h:Handed w E 11 (dO nz0 i c m) []) :
  Calls Try.prog 88 (([.c (.ptr (7,i,0) 0),.c (.ptr (10,0,0) 0)]:List SV).map (SV.den E)).toArray w (EffR w E 11 (takesO E (dO nz0 i c m)) (.c (.v (.bool (D.taskT m i ⟨2,4,b,t,v,got⟩).2.2))) 2 fun b'=>killO [3,4]++dO ⟨b',b' + 1,6,7⟩ i c (tskM m i (D.taskT m i ⟨2,4,b,t,v,got⟩))):=by
 have hwl:=ht.wl
 refine enterO (c:=ir88) (rs:=rs88) (nt:=nt88) h _ Try.func88 rfl (by kernel_rfl) (by kernel_rfl) rfl (by simp [okVs,SV.okN,SC.okN]) (of_decide_eq_true rfl) ?_
 have heq:D.taskT m i ⟨2,4,b,t,v,got⟩=(D.ans ({ { { logd { m with us:=true } ⟨m.mm,m.th,3,0,D.u64 t,D.u64 (D.i64 (t+1)),D.wd m 0⟩ (D.wd m 0) with W:=m.W.set (0:Int).toNat (D.u64 (D.i64 (t+1))) } with top:=D.i64 (t+1) } with C:=m.C.set c { m.C.getD c D.ca0 with pt:=m.at_ } }) i 2 v,⟨2,4,b,t,v,got⟩,true):=by
  simp only [D.taskT,D.stealT,if_false,Nat.reduceEqDiff]
  rw [D.sw_ok ht.us (Int.le_refl 0) (by omega),if_pos ho]
  have hx:(if m.last=true∧t=m.rk then m.at_ else m.nw)=m.at_:=if_pos ⟨hl,hq⟩
  exact (congrArg (fun p=>(D.ans (D.point ({ { logd { m with us:=true } ⟨m.mm,m.th,3,0,D.u64 t,D.u64 (D.i64 (t+1)),D.wd m 0⟩ (D.wd m 0) with W:=m.W.set (0:Int).toNat (D.u64 (D.i64 (t+1))) } with top:=D.i64 (t+1) }) i p) i 2 v,(⟨2,4,b,t,v,got⟩:D.Tk),true)) hx).trans (congrArg (fun x=>(D.ans x i 2 v,(⟨2,4,b,t,v,got⟩:D.Tk),true)) (pt_at (r:={ { logd { m with us:=true } ⟨m.mm,m.th,3,0,D.u64 t,D.u64 (D.i64 (t+1)),D.wd m 0⟩ (D.wd m 0) with W:=m.W.set (0:Int).toNat (D.u64 (D.i64 (t+1))) } with top:=D.i64 (t+1) }) ht rfl rfl _))
 rw [heq]
 generalize hR:EffR w E 11 (takesO E (dO nz0 i c m)) _ 2 _=R
 generalize hW:takesO E (dO nz0 i c m)=W
 have hf:=ht.f
 simp only [tkC,nextC,tkTy,iI] at hf
 have hi:=ht.hi
 simp (maxSteps:=2000000) only [ir88,nt88,rs88,go_sem,↓runOp,↓reduceIte,Nat.reduceLT,Nat.reduceEqDiff,reduceCtorEq,dO,mO,nz0,bkM,bkY,hubC,iI,hf,hl]
 refine And.intro hi (And.intro ⟨_,Try.func122,by kernel_rfl,by kernel_rfl⟩ ?_)
 refine call_inline (c:=ir122) (rs:=rs122) (nt:=nt122) 1000 (mkTab_ok _ _) Try.func122 rfl (by kernel_rfl) (by kernel_rfl) rfl (by simp [okVs,SV.okN,SC.okN]) (of_decide_eq_true rfl) (fun E0 a0 ht0=>?_)
 simp (maxSteps:=2000000) only [ir122,nt122,rs122,go_sem,↓runOp,↓reduceIte,Nat.reduceLT,Nat.reduceEqDiff,reduceCtorEq]
 repeat (with_reducible refine And.intro (by first | exact hi | exact Or.inr trivial | exact Or.inl trivial) ?_)
 refine call_inline (c:=ir114) (rs:=rs114) (nt:=nt114) 1000 (mkTab_ok _ _) Try.func114 rfl (by kernel_rfl) (by kernel_rfl) rfl (by simp [okVs,SV.okN,SC.okN]) (of_decide_eq_true rfl) (fun E1 a1 ht1=>?_)
 simp (maxSteps:=2000000) only [ir114,nt114,rs114,go_sem,↓runOp,↓reduceIte,Nat.reduceLT,Nat.reduceEqDiff,reduceCtorEq]
 refine draw_vc (by kernel_rfl) (mkTab_ok _ _) (of_decide_eq_true rfl) (of_decide_eq_true rfl) ?_
 repeat (first | simp (maxSteps:=2000000) only [go_sem,↓gateD,↓runD,↓reduceIte,Nat.reduceLT,Nat.reduceEqDiff,reduceCtorEq,hf] | rw [dr_cons])
 repeat (with_reducible refine And.intro (by first | exact hi | exact Or.inr trivial | exact Or.inl trivial) ?_)
 refine dcallV (.c (.v (.int .u64 (D.u64 (t))))) _ (fun E=>rfl) (fun E a w' hs=>number_calls w' _) ?_
 repeat (first | simp (maxSteps:=2000000) only [go_sem,↓gateD,↓runD,↓reduceIte,Nat.reduceLT,Nat.reduceEqDiff,reduceCtorEq,hf] | rw [dr_cons])
 repeat (with_reducible refine And.intro (by first | exact hi | exact Or.inr trivial | exact Or.inl trivial) ?_)
 refine dcallV (.c (.v (.int .u64 (D.u64 (D.i64 (t+1)))))) _ (fun E=>rfl) (fun E a w' hs=>number_calls w' _) ?_
 repeat (first | simp (maxSteps:=2000000) only [go_sem,↓gateD,↓runD,↓reduceIte,Nat.reduceLT,Nat.reduceEqDiff,reduceCtorEq] | rw [dr_cons])
 repeat (with_reducible refine And.intro (by first | exact hi | exact Or.inr trivial | exact Or.inl trivial) ?_)
 refine dcall_intro (crA (i:=i) (c:=c) (m:=m) (m':={ logd { m with us:=true } ⟨m.mm,m.th,3,0,D.u64 t,D.u64 (D.i64 (t+1)),D.wd m 0⟩ (D.wd m 0) with W:=m.W.set (0:Int).toNat (D.u64 (D.i64 (t+1))) }) (Nat.le_refl _) (ain0 rfl rfl rfl rfl rfl rfl) (fun E w h=>dswap_y ht ho h)) rfl trivial ?_ ?_ ?_
 ·simp [wrOk,killO,aO,wrFree,wkImp]
 ·intro k hk hlt
  simp only [killO,aO,keysL,List.map_cons,List.map_nil,List.cons_append,List.nil_append,List.mem_cons,List.not_mem_nil,or_false] at hk
  have hlt:k<11:=hlt
  rcases hk with rfl | rfl | rfl | rfl | rfl | rfl | rfl | rfl <;> first | rfl | omega
 repeat (first | simp (maxSteps:=2000000) only [go_sem,↓condS,↓gateD,↓runD,↓reduceIte,Nat.reduceLT,Nat.reduceAdd,Nat.reduceEqDiff,reduceCtorEq,Int.reduceToNat,killO,aO,bkM,bkY,iI,logd] | rw [dr_cons])
 repeat (with_reducible refine And.intro (by first | exact hi | exact Or.inr trivial | exact Or.inl trivial) ?_)
 refine draw_vc (by kernel_rfl) (mkTab_ok _ _) (of_decide_eq_true rfl) (of_decide_eq_true rfl) ?_
 repeat (first | simp (maxSteps:=2000000) only [go_sem,↓runOp,↓gateD,↓runD,↓reduceIte,Nat.reduceLT,Nat.reduceLeDiff,Nat.reduceAdd,Nat.reduceEqDiff,reduceCtorEq,hf] | rw [dr_cons])
 repeat (with_reducible refine And.intro (by first | exact hi | exact Or.inr trivial | exact Or.inl trivial) ?_)
 refine retI ht1 _ rfl (of_decide_eq_true rfl) (by simp [SV.okN,SC.okN]) ?_
 simp (maxSteps:=2000000) only [go_sem,↓condS,↓runOp,↓reduceIte,Nat.reduceLT,Nat.reduceEqDiff,reduceCtorEq]
 repeat (with_reducible refine And.intro (by first | exact hi | exact Or.inr trivial | exact Or.inl trivial) ?_)
 refine call_inline (c:=ir96) (rs:=rs96) (nt:=nt96) 1000 (mkTab_ok _ _) Try.func96 rfl (by kernel_rfl) (by kernel_rfl) rfl (by simp [okVs,SV.okN,SC.okN]) (of_decide_eq_true rfl) (fun E1 a1 ht1=>?_)
 simp (maxSteps:=2000000) only [ir96,nt96,rs96,go_sem,↓condS,↓gateS,↓runOp,↓reduceIte,Nat.reduceLT,Nat.reduceEqDiff,reduceCtorEq]
 refine retI ht1 _ rfl (of_decide_eq_true rfl) (by simp [SV.okN,SC.okN]) ?_
 simp (maxSteps:=2000000) only [go_sem,↓runOp,↓reduceIte,Nat.reduceLT,Nat.reduceEqDiff,reduceCtorEq]
 have hd:(t == m.rk)=true:=by simpa using hq
 refine draw_vc (by kernel_rfl) (mkTab_ok _ _) (of_decide_eq_true rfl) (of_decide_eq_true rfl) ?_
 repeat (first | simp (maxSteps:=2000000) only [go_sem,↓condS,↓runOp,↓gateD,↓runD,↓imp_tf,↓imp_tt,↓reduceIte,Nat.reduceLT,Nat.reduceEqDiff,reduceCtorEq,hf,hd] | rw [dr_cons])
 repeat (with_reducible refine And.intro (by first | exact hi | exact Or.inr trivial | exact Or.inl trivial) ?_)
 refine call_inline (c:=ir95) (rs:=rs95) (nt:=nt95) 1000 (mkTab_ok _ _) Try.func95 rfl (by kernel_rfl) (by kernel_rfl) rfl (by simp [okVs,SV.okN,SC.okN]) (of_decide_eq_true rfl) (fun E1 a1 ht1=>?_)
 simp (maxSteps:=2000000) only [ir95,nt95,rs95,go_sem,↓condS,↓gateS,↓runOp,↓reduceIte,Nat.reduceLT,Nat.reduceLeDiff,Nat.reduceAdd,Nat.reduceEqDiff,reduceCtorEq,ats_C,iI]
 refine And.intro ht.hc ?_
 refine retI ht1 _ rfl (of_decide_eq_true rfl) (by simp [SV.okN,ok1L]) ?_
 simp (maxSteps:=2000000) only [go_sem,↓runOp,↓reduceIte,Nat.reduceLT,Nat.reduceEqDiff,reduceCtorEq]
 try simp (maxSteps:=2000000) only [go_sem,hf]
 repeat (with_reducible refine And.intro (by first | exact hi | exact Or.inr trivial | exact Or.inl trivial) ?_)
 refine call_inline (c:=ir97) (rs:=rs97) (nt:=nt97) 1000 (mkTab_ok _ _) Try.func97 rfl (by kernel_rfl) (by kernel_rfl) rfl (by simp [okVs,SV.okN,SC.okN]) (of_decide_eq_true rfl) (fun E1 a1 ht1=>?_)
 simp (maxSteps:=2000000) only [ir97,nt97,rs97,go_sem,↓runOp,↓reduceIte,Nat.reduceLT,Nat.reduceLeDiff,Nat.reduceAdd,Nat.reduceEqDiff,reduceCtorEq]
 refine call_inline (c:=ir102) (rs:=rs102) (nt:=nt102) 1000 (mkTab_ok _ _) Try.func102 rfl (by kernel_rfl) (by kernel_rfl) rfl (by simp [okVs,SV.okN,SC.okL,SC.okN]) (of_decide_eq_true rfl) (fun E2 a2 ht2=>?_)
 simp (maxSteps:=2000000) only [ir102,nt102,rs102,go_sem,↓condS,↓gateS,↓runOp,↓reduceIte,Nat.reduceLT,Nat.reduceAdd,Nat.reduceEqDiff,reduceCtorEq]
 refine draw_vc (by kernel_rfl) (mkTab_ok _ _) (of_decide_eq_true rfl) (of_decide_eq_true rfl) ?_
 repeat (first | simp (maxSteps:=2000000) only [go_sem,↓gateD,↓runD,↓reduceIte,Nat.reduceLT,Nat.reduceLeDiff,Nat.reduceAdd,Nat.reduceEqDiff,reduceCtorEq,seC] | rw [dr_cons])
 repeat (with_reducible refine And.intro (by first | exact hi | exact Or.inr trivial | exact Or.inl trivial) ?_)
 refine retI ht2 _ rfl (of_decide_eq_true rfl) (by simp [SV.okN,ok1L]) ?_
 simp (maxSteps:=2000000) only [go_sem,↓runOp,↓reduceIte,Nat.reduceLT,Nat.reduceEqDiff,reduceCtorEq]
 refine retI ht1 _ rfl (of_decide_eq_true rfl) (by simp [SV.okN,SC.okN]) ?_
 simp (maxSteps:=2000000) only [go_sem,↓runOp,↓reduceIte,Nat.reduceLT,Nat.reduceEqDiff,reduceCtorEq]
 refine retI ht0 _ rfl (of_decide_eq_true rfl) (by simp [SV.okN,SC.okN]) ?_
 simp (maxSteps:=2000000) only [go_sem,↓runOp,↓reduceIte,Nat.reduceLT,Nat.reduceEqDiff,reduceCtorEq,mkO_rs]
 rw [← hR,← hW]
 exact retTA (p:=11) (q:=12) ht rfl rfl rfl (by simp) (fun E=>rfl) (by simp [look,bkM,iI,logd]) rfl ⟨_,_,rfl,Nat.le_refl _,fun _ _=>rfl⟩ rfl rfl ⟨_,rfl,_,rfl,by simp [iI]⟩ ⟨_,_,rfl,by simp,ats_set ht.hc (by simp [D.Ca.enc])⟩ ⟨_,rfl,fun x=>by by_cases q:x=i <;> simp [q,tkC,nextC,tkTy,iI,hf]⟩ (by simp [look,hubC,iI,hl,logd]) rfl
set_option maxRecDepth 100000 in
set_option maxHeartbeats 2000000 in
theorem steal4b_own (w:World) (E:Env) (m:D.Pm) (i c:Nat) (b t v:Int) (got:Bool) (ht:AtT m i c ⟨2,4,b,t,v,got⟩) (ho:D.wd m 0=D.u64 t) (hl:m.last=true) (hq:¬ t=m.rk) (h:Handed w E 11 (dO nz0 i c m) []) :
  Calls Try.prog 88 (([.c (.ptr (7,i,0) 0),.c (.ptr (10,0,0) 0)]:List SV).map (SV.den E)).toArray w (EffR w E 11 (takesO E (dO nz0 i c m)) (.c (.v (.bool (D.taskT m i ⟨2,4,b,t,v,got⟩).2.2))) 2 fun b'=>killO [3,4]++dO ⟨b',b' + 1,6,7⟩ i c (tskM m i (D.taskT m i ⟨2,4,b,t,v,got⟩))):=by
 have hwl:=ht.wl
 refine enterO (c:=ir88) (rs:=rs88) (nt:=nt88) h _ Try.func88 rfl (by kernel_rfl) (by kernel_rfl) rfl (by simp [okVs,SV.okN,SC.okN]) (of_decide_eq_true rfl) ?_
 have heq:D.taskT m i ⟨2,4,b,t,v,got⟩=(D.ans ({ { { logd { m with us:=true } ⟨m.mm,m.th,3,0,D.u64 t,D.u64 (D.i64 (t+1)),D.wd m 0⟩ (D.wd m 0) with W:=m.W.set (0:Int).toNat (D.u64 (D.i64 (t+1))) } with top:=D.i64 (t+1) } with C:=m.C.set c { m.C.getD c D.ca0 with pt:=m.nw } }) i 2 v,⟨2,4,b,t,v,got⟩,true):=by
  simp only [D.taskT,D.stealT,if_false,Nat.reduceEqDiff]
  rw [D.sw_ok ht.us (Int.le_refl 0) (by omega),if_pos ho]
  have hx:(if m.last=true∧t=m.rk then m.at_ else m.nw)=m.nw:=if_neg (fun g=>hq g.2)
  exact (congrArg (fun p=>(D.ans (D.point ({ { logd { m with us:=true } ⟨m.mm,m.th,3,0,D.u64 t,D.u64 (D.i64 (t+1)),D.wd m 0⟩ (D.wd m 0) with W:=m.W.set (0:Int).toNat (D.u64 (D.i64 (t+1))) } with top:=D.i64 (t+1) }) i p) i 2 v,(⟨2,4,b,t,v,got⟩:D.Tk),true)) hx).trans (congrArg (fun x=>(D.ans x i 2 v,(⟨2,4,b,t,v,got⟩:D.Tk),true)) (pt_at (r:={ { logd { m with us:=true } ⟨m.mm,m.th,3,0,D.u64 t,D.u64 (D.i64 (t+1)),D.wd m 0⟩ (D.wd m 0) with W:=m.W.set (0:Int).toNat (D.u64 (D.i64 (t+1))) } with top:=D.i64 (t+1) }) ht rfl rfl _))
 rw [heq]
 generalize hR:EffR w E 11 (takesO E (dO nz0 i c m)) _ 2 _=R
 generalize hW:takesO E (dO nz0 i c m)=W
 have hf:=ht.f
 simp only [tkC,nextC,tkTy,iI] at hf
 have hi:=ht.hi
 simp (maxSteps:=2000000) only [ir88,nt88,rs88,go_sem,↓runOp,↓reduceIte,Nat.reduceLT,Nat.reduceEqDiff,reduceCtorEq,dO,mO,nz0,bkM,bkY,hubC,iI,hf,hl]
 refine And.intro hi (And.intro ⟨_,Try.func122,by kernel_rfl,by kernel_rfl⟩ ?_)
 refine call_inline (c:=ir122) (rs:=rs122) (nt:=nt122) 1000 (mkTab_ok _ _) Try.func122 rfl (by kernel_rfl) (by kernel_rfl) rfl (by simp [okVs,SV.okN,SC.okN]) (of_decide_eq_true rfl) (fun E0 a0 ht0=>?_)
 simp (maxSteps:=2000000) only [ir122,nt122,rs122,go_sem,↓runOp,↓reduceIte,Nat.reduceLT,Nat.reduceEqDiff,reduceCtorEq]
 repeat (with_reducible refine And.intro (by first | exact hi | exact Or.inr trivial | exact Or.inl trivial) ?_)
 refine call_inline (c:=ir114) (rs:=rs114) (nt:=nt114) 1000 (mkTab_ok _ _) Try.func114 rfl (by kernel_rfl) (by kernel_rfl) rfl (by simp [okVs,SV.okN,SC.okN]) (of_decide_eq_true rfl) (fun E1 a1 ht1=>?_)
 simp (maxSteps:=2000000) only [ir114,nt114,rs114,go_sem,↓runOp,↓reduceIte,Nat.reduceLT,Nat.reduceEqDiff,reduceCtorEq]
 refine draw_vc (by kernel_rfl) (mkTab_ok _ _) (of_decide_eq_true rfl) (of_decide_eq_true rfl) ?_
 repeat (first | simp (maxSteps:=2000000) only [go_sem,↓gateD,↓runD,↓reduceIte,Nat.reduceLT,Nat.reduceEqDiff,reduceCtorEq,hf] | rw [dr_cons])
 repeat (with_reducible refine And.intro (by first | exact hi | exact Or.inr trivial | exact Or.inl trivial) ?_)
 refine dcallV (.c (.v (.int .u64 (D.u64 (t))))) _ (fun E=>rfl) (fun E a w' hs=>number_calls w' _) ?_
 repeat (first | simp (maxSteps:=2000000) only [go_sem,↓gateD,↓runD,↓reduceIte,Nat.reduceLT,Nat.reduceEqDiff,reduceCtorEq,hf] | rw [dr_cons])
 repeat (with_reducible refine And.intro (by first | exact hi | exact Or.inr trivial | exact Or.inl trivial) ?_)
 refine dcallV (.c (.v (.int .u64 (D.u64 (D.i64 (t+1)))))) _ (fun E=>rfl) (fun E a w' hs=>number_calls w' _) ?_
 repeat (first | simp (maxSteps:=2000000) only [go_sem,↓gateD,↓runD,↓reduceIte,Nat.reduceLT,Nat.reduceEqDiff,reduceCtorEq] | rw [dr_cons])
 repeat (with_reducible refine And.intro (by first | exact hi | exact Or.inr trivial | exact Or.inl trivial) ?_)
 refine dcall_intro (crA (i:=i) (c:=c) (m:=m) (m':={ logd { m with us:=true } ⟨m.mm,m.th,3,0,D.u64 t,D.u64 (D.i64 (t+1)),D.wd m 0⟩ (D.wd m 0) with W:=m.W.set (0:Int).toNat (D.u64 (D.i64 (t+1))) }) (Nat.le_refl _) (ain0 rfl rfl rfl rfl rfl rfl) (fun E w h=>dswap_y ht ho h)) rfl trivial ?_ ?_ ?_
 ·simp [wrOk,killO,aO,wrFree,wkImp]
 ·intro k hk hlt
  simp only [killO,aO,keysL,List.map_cons,List.map_nil,List.cons_append,List.nil_append,List.mem_cons,List.not_mem_nil,or_false] at hk
  have hlt:k<11:=hlt
  rcases hk with rfl | rfl | rfl | rfl | rfl | rfl | rfl | rfl <;> first | rfl | omega
 repeat (first | simp (maxSteps:=2000000) only [go_sem,↓condS,↓gateD,↓runD,↓reduceIte,Nat.reduceLT,Nat.reduceAdd,Nat.reduceEqDiff,reduceCtorEq,Int.reduceToNat,killO,aO,bkM,bkY,iI,logd] | rw [dr_cons])
 repeat (with_reducible refine And.intro (by first | exact hi | exact Or.inr trivial | exact Or.inl trivial) ?_)
 refine draw_vc (by kernel_rfl) (mkTab_ok _ _) (of_decide_eq_true rfl) (of_decide_eq_true rfl) ?_
 repeat (first | simp (maxSteps:=2000000) only [go_sem,↓runOp,↓gateD,↓runD,↓reduceIte,Nat.reduceLT,Nat.reduceLeDiff,Nat.reduceAdd,Nat.reduceEqDiff,reduceCtorEq,hf] | rw [dr_cons])
 repeat (with_reducible refine And.intro (by first | exact hi | exact Or.inr trivial | exact Or.inl trivial) ?_)
 refine retI ht1 _ rfl (of_decide_eq_true rfl) (by simp [SV.okN,SC.okN]) ?_
 simp (maxSteps:=2000000) only [go_sem,↓condS,↓runOp,↓reduceIte,Nat.reduceLT,Nat.reduceEqDiff,reduceCtorEq]
 repeat (with_reducible refine And.intro (by first | exact hi | exact Or.inr trivial | exact Or.inl trivial) ?_)
 refine call_inline (c:=ir96) (rs:=rs96) (nt:=nt96) 1000 (mkTab_ok _ _) Try.func96 rfl (by kernel_rfl) (by kernel_rfl) rfl (by simp [okVs,SV.okN,SC.okN]) (of_decide_eq_true rfl) (fun E1 a1 ht1=>?_)
 simp (maxSteps:=2000000) only [ir96,nt96,rs96,go_sem,↓condS,↓gateS,↓runOp,↓reduceIte,Nat.reduceLT,Nat.reduceEqDiff,reduceCtorEq]
 refine retI ht1 _ rfl (of_decide_eq_true rfl) (by simp [SV.okN,SC.okN]) ?_
 simp (maxSteps:=2000000) only [go_sem,↓runOp,↓reduceIte,Nat.reduceLT,Nat.reduceEqDiff,reduceCtorEq]
 have hd:(t == m.rk)=false:=by simpa using hq
 refine draw_vc (by kernel_rfl) (mkTab_ok _ _) (of_decide_eq_true rfl) (of_decide_eq_true rfl) ?_
 repeat (first | simp (maxSteps:=2000000) only [go_sem,↓condS,↓runOp,↓gateD,↓runD,↓imp_ft,↓imp_ff,↓reduceIte,Nat.reduceLT,Nat.reduceEqDiff,reduceCtorEq,hf,hd] | rw [dr_cons])
 repeat (with_reducible refine And.intro (by first | exact hi | exact Or.inr trivial | exact Or.inl trivial) ?_)
 refine call_inline (c:=ir95) (rs:=rs95) (nt:=nt95) 1000 (mkTab_ok _ _) Try.func95 rfl (by kernel_rfl) (by kernel_rfl) rfl (by simp [okVs,SV.okN,SC.okN]) (of_decide_eq_true rfl) (fun E1 a1 ht1=>?_)
 simp (maxSteps:=2000000) only [ir95,nt95,rs95,go_sem,↓condS,↓gateS,↓runOp,↓reduceIte,Nat.reduceLT,Nat.reduceLeDiff,Nat.reduceAdd,Nat.reduceEqDiff,reduceCtorEq,ats_C,iI]
 refine And.intro ht.hc ?_
 refine retI ht1 _ rfl (of_decide_eq_true rfl) (by simp [SV.okN,ok1L]) ?_
 simp (maxSteps:=2000000) only [go_sem,↓runOp,↓reduceIte,Nat.reduceLT,Nat.reduceEqDiff,reduceCtorEq]
 try simp (maxSteps:=2000000) only [go_sem,hf]
 repeat (with_reducible refine And.intro (by first | exact hi | exact Or.inr trivial | exact Or.inl trivial) ?_)
 refine call_inline (c:=ir97) (rs:=rs97) (nt:=nt97) 1000 (mkTab_ok _ _) Try.func97 rfl (by kernel_rfl) (by kernel_rfl) rfl (by simp [okVs,SV.okN,SC.okN]) (of_decide_eq_true rfl) (fun E1 a1 ht1=>?_)
 simp (maxSteps:=2000000) only [ir97,nt97,rs97,go_sem,↓runOp,↓reduceIte,Nat.reduceLT,Nat.reduceLeDiff,Nat.reduceAdd,Nat.reduceEqDiff,reduceCtorEq]
 refine call_inline (c:=ir102) (rs:=rs102) (nt:=nt102) 1000 (mkTab_ok _ _) Try.func102 rfl (by kernel_rfl) (by kernel_rfl) rfl (by simp [okVs,SV.okN,SC.okL,SC.okN]) (of_decide_eq_true rfl) (fun E2 a2 ht2=>?_)
 simp (maxSteps:=2000000) only [ir102,nt102,rs102,go_sem,↓condS,↓gateS,↓runOp,↓reduceIte,Nat.reduceLT,Nat.reduceAdd,Nat.reduceEqDiff,reduceCtorEq]
 refine draw_vc (by kernel_rfl) (mkTab_ok _ _) (of_decide_eq_true rfl) (of_decide_eq_true rfl) ?_
 repeat (first | simp (maxSteps:=2000000) only [go_sem,↓gateD,↓runD,↓reduceIte,Nat.reduceLT,Nat.reduceLeDiff,Nat.reduceAdd,Nat.reduceEqDiff,reduceCtorEq,seC] | rw [dr_cons])
 repeat (with_reducible refine And.intro (by first | exact hi | exact Or.inr trivial | exact Or.inl trivial) ?_)
 refine retI ht2 _ rfl (of_decide_eq_true rfl) (by simp [SV.okN,ok1L]) ?_
 simp (maxSteps:=2000000) only [go_sem,↓runOp,↓reduceIte,Nat.reduceLT,Nat.reduceEqDiff,reduceCtorEq]
 refine retI ht1 _ rfl (of_decide_eq_true rfl) (by simp [SV.okN,SC.okN]) ?_
 simp (maxSteps:=2000000) only [go_sem,↓runOp,↓reduceIte,Nat.reduceLT,Nat.reduceEqDiff,reduceCtorEq]
 refine retI ht0 _ rfl (of_decide_eq_true rfl) (by simp [SV.okN,SC.okN]) ?_
 simp (maxSteps:=2000000) only [go_sem,↓runOp,↓reduceIte,Nat.reduceLT,Nat.reduceEqDiff,reduceCtorEq,mkO_rs]
 rw [← hR,← hW]
 exact retTA (p:=11) (q:=12) ht rfl rfl rfl (by simp) (fun E=>rfl) (by simp [look,bkM,iI,logd]) rfl ⟨_,_,rfl,Nat.le_refl _,fun _ _=>rfl⟩ rfl rfl ⟨_,rfl,_,rfl,by simp [iI]⟩ ⟨_,_,rfl,by simp,ats_set ht.hc (by simp [D.Ca.enc])⟩ ⟨_,rfl,fun x=>by by_cases q:x=i <;> simp [q,tkC,nextC,tkTy,iI,hf]⟩ (by simp [look,hubC,iI,hl,logd]) rfl
set_option maxRecDepth 100000 in
set_option maxHeartbeats 2000000 in
theorem steal4c_own (w:World) (E:Env) (m:D.Pm) (i c:Nat) (b t v:Int) (got:Bool) (ht:AtT m i c ⟨2,4,b,t,v,got⟩) (ho:D.wd m 0=D.u64 t) (hl:m.last=false) (h:Handed w E 11 (dO nz0 i c m) []) :
  Calls Try.prog 88 (([.c (.ptr (7,i,0) 0),.c (.ptr (10,0,0) 0)]:List SV).map (SV.den E)).toArray w (EffR w E 11 (takesO E (dO nz0 i c m)) (.c (.v (.bool (D.taskT m i ⟨2,4,b,t,v,got⟩).2.2))) 2 fun b'=>killO [3,4]++dO ⟨b',b' + 1,6,7⟩ i c (tskM m i (D.taskT m i ⟨2,4,b,t,v,got⟩))):=by
 have hwl:=ht.wl
 refine enterO (c:=ir88) (rs:=rs88) (nt:=nt88) h _ Try.func88 rfl (by kernel_rfl) (by kernel_rfl) rfl (by simp [okVs,SV.okN,SC.okN]) (of_decide_eq_true rfl) ?_
 have heq:D.taskT m i ⟨2,4,b,t,v,got⟩=(D.ans ({ { { logd { m with us:=true } ⟨m.mm,m.th,3,0,D.u64 t,D.u64 (D.i64 (t+1)),D.wd m 0⟩ (D.wd m 0) with W:=m.W.set (0:Int).toNat (D.u64 (D.i64 (t+1))) } with top:=D.i64 (t+1) } with C:=m.C.set c { m.C.getD c D.ca0 with pt:=m.nw } }) i 2 v,⟨2,4,b,t,v,got⟩,true):=by
  simp only [D.taskT,D.stealT,if_false,Nat.reduceEqDiff]
  rw [D.sw_ok ht.us (Int.le_refl 0) (by omega),if_pos ho]
  have hx:(if m.last=true∧t=m.rk then m.at_ else m.nw)=m.nw:=if_neg (fun g=>by rw [hl] at g;cases g.1)
  exact (congrArg (fun p=>(D.ans (D.point ({ { logd { m with us:=true } ⟨m.mm,m.th,3,0,D.u64 t,D.u64 (D.i64 (t+1)),D.wd m 0⟩ (D.wd m 0) with W:=m.W.set (0:Int).toNat (D.u64 (D.i64 (t+1))) } with top:=D.i64 (t+1) }) i p) i 2 v,(⟨2,4,b,t,v,got⟩:D.Tk),true)) hx).trans (congrArg (fun x=>(D.ans x i 2 v,(⟨2,4,b,t,v,got⟩:D.Tk),true)) (pt_at (r:={ { logd { m with us:=true } ⟨m.mm,m.th,3,0,D.u64 t,D.u64 (D.i64 (t+1)),D.wd m 0⟩ (D.wd m 0) with W:=m.W.set (0:Int).toNat (D.u64 (D.i64 (t+1))) } with top:=D.i64 (t+1) }) ht rfl rfl _))
 rw [heq]
 generalize hR:EffR w E 11 (takesO E (dO nz0 i c m)) _ 2 _=R
 generalize hW:takesO E (dO nz0 i c m)=W
 have hf:=ht.f
 simp only [tkC,nextC,tkTy,iI] at hf
 have hi:=ht.hi
 simp (maxSteps:=2000000) only [ir88,nt88,rs88,go_sem,↓runOp,↓reduceIte,Nat.reduceLT,Nat.reduceEqDiff,reduceCtorEq,dO,mO,nz0,bkM,bkY,hubC,iI,hf,hl]
 refine And.intro hi (And.intro ⟨_,Try.func122,by kernel_rfl,by kernel_rfl⟩ ?_)
 refine call_inline (c:=ir122) (rs:=rs122) (nt:=nt122) 1000 (mkTab_ok _ _) Try.func122 rfl (by kernel_rfl) (by kernel_rfl) rfl (by simp [okVs,SV.okN,SC.okN]) (of_decide_eq_true rfl) (fun E0 a0 ht0=>?_)
 simp (maxSteps:=2000000) only [ir122,nt122,rs122,go_sem,↓runOp,↓reduceIte,Nat.reduceLT,Nat.reduceEqDiff,reduceCtorEq]
 repeat (with_reducible refine And.intro (by first | exact hi | exact Or.inr trivial | exact Or.inl trivial) ?_)
 refine call_inline (c:=ir114) (rs:=rs114) (nt:=nt114) 1000 (mkTab_ok _ _) Try.func114 rfl (by kernel_rfl) (by kernel_rfl) rfl (by simp [okVs,SV.okN,SC.okN]) (of_decide_eq_true rfl) (fun E1 a1 ht1=>?_)
 simp (maxSteps:=2000000) only [ir114,nt114,rs114,go_sem,↓runOp,↓reduceIte,Nat.reduceLT,Nat.reduceEqDiff,reduceCtorEq]
 refine draw_vc (by kernel_rfl) (mkTab_ok _ _) (of_decide_eq_true rfl) (of_decide_eq_true rfl) ?_
 repeat (first | simp (maxSteps:=2000000) only [go_sem,↓gateD,↓runD,↓reduceIte,Nat.reduceLT,Nat.reduceEqDiff,reduceCtorEq,hf] | rw [dr_cons])
 repeat (with_reducible refine And.intro (by first | exact hi | exact Or.inr trivial | exact Or.inl trivial) ?_)
 refine dcallV (.c (.v (.int .u64 (D.u64 (t))))) _ (fun E=>rfl) (fun E a w' hs=>number_calls w' _) ?_
 repeat (first | simp (maxSteps:=2000000) only [go_sem,↓gateD,↓runD,↓reduceIte,Nat.reduceLT,Nat.reduceEqDiff,reduceCtorEq,hf] | rw [dr_cons])
 repeat (with_reducible refine And.intro (by first | exact hi | exact Or.inr trivial | exact Or.inl trivial) ?_)
 refine dcallV (.c (.v (.int .u64 (D.u64 (D.i64 (t+1)))))) _ (fun E=>rfl) (fun E a w' hs=>number_calls w' _) ?_
 repeat (first | simp (maxSteps:=2000000) only [go_sem,↓gateD,↓runD,↓reduceIte,Nat.reduceLT,Nat.reduceEqDiff,reduceCtorEq] | rw [dr_cons])
 repeat (with_reducible refine And.intro (by first | exact hi | exact Or.inr trivial | exact Or.inl trivial) ?_)
 refine dcall_intro (crA (i:=i) (c:=c) (m:=m) (m':={ logd { m with us:=true } ⟨m.mm,m.th,3,0,D.u64 t,D.u64 (D.i64 (t+1)),D.wd m 0⟩ (D.wd m 0) with W:=m.W.set (0:Int).toNat (D.u64 (D.i64 (t+1))) }) (Nat.le_refl _) (ain0 rfl rfl rfl rfl rfl rfl) (fun E w h=>dswap_y ht ho h)) rfl trivial ?_ ?_ ?_
 ·simp [wrOk,killO,aO,wrFree,wkImp]
 ·intro k hk hlt
  simp only [killO,aO,keysL,List.map_cons,List.map_nil,List.cons_append,List.nil_append,List.mem_cons,List.not_mem_nil,or_false] at hk
  have hlt:k<11:=hlt
  rcases hk with rfl | rfl | rfl | rfl | rfl | rfl | rfl | rfl <;> first | rfl | omega
 repeat (first | simp (maxSteps:=2000000) only [go_sem,↓condS,↓gateD,↓runD,↓reduceIte,Nat.reduceLT,Nat.reduceAdd,Nat.reduceEqDiff,reduceCtorEq,Int.reduceToNat,killO,aO,bkM,bkY,iI,logd] | rw [dr_cons])
 repeat (with_reducible refine And.intro (by first | exact hi | exact Or.inr trivial | exact Or.inl trivial) ?_)
 refine draw_vc (by kernel_rfl) (mkTab_ok _ _) (of_decide_eq_true rfl) (of_decide_eq_true rfl) ?_
 repeat (first | simp (maxSteps:=2000000) only [go_sem,↓runOp,↓gateD,↓runD,↓reduceIte,Nat.reduceLT,Nat.reduceLeDiff,Nat.reduceAdd,Nat.reduceEqDiff,reduceCtorEq,hf] | rw [dr_cons])
 repeat (with_reducible refine And.intro (by first | exact hi | exact Or.inr trivial | exact Or.inl trivial) ?_)
 refine retI ht1 _ rfl (of_decide_eq_true rfl) (by simp [SV.okN,SC.okN]) ?_
 simp (maxSteps:=2000000) only [go_sem,↓condS,↓runOp,↓reduceIte,Nat.reduceLT,Nat.reduceEqDiff,reduceCtorEq]
 repeat (with_reducible refine And.intro (by first | exact hi | exact Or.inr trivial | exact Or.inl trivial) ?_)
 refine call_inline (c:=ir96) (rs:=rs96) (nt:=nt96) 1000 (mkTab_ok _ _) Try.func96 rfl (by kernel_rfl) (by kernel_rfl) rfl (by simp [okVs,SV.okN,SC.okN]) (of_decide_eq_true rfl) (fun E1 a1 ht1=>?_)
 simp (maxSteps:=2000000) only [ir96,nt96,rs96,go_sem,↓condS,↓gateS,↓runOp,↓reduceIte,Nat.reduceLT,Nat.reduceEqDiff,reduceCtorEq]
 refine retI ht1 _ rfl (of_decide_eq_true rfl) (by simp [SV.okN,SC.okN]) ?_
 simp (maxSteps:=2000000) only [go_sem,↓runOp,↓reduceIte,Nat.reduceLT,Nat.reduceEqDiff,reduceCtorEq]
 refine draw_vc (by kernel_rfl) (mkTab_ok _ _) (of_decide_eq_true rfl) (of_decide_eq_true rfl) ?_
 repeat (first | simp (maxSteps:=2000000) only [go_sem,↓condS,↓runOp,↓gateD,↓runD,↓reduceIte,Nat.reduceLT,Nat.reduceEqDiff,reduceCtorEq,hf] | rw [dr_cons])
 repeat (with_reducible refine And.intro (by first | exact hi | exact Or.inr trivial | exact Or.inl trivial) ?_)
 refine call_inline (c:=ir95) (rs:=rs95) (nt:=nt95) 1000 (mkTab_ok _ _) Try.func95 rfl (by kernel_rfl) (by kernel_rfl) rfl (by simp [okVs,SV.okN,SC.okN]) (of_decide_eq_true rfl) (fun E1 a1 ht1=>?_)
 simp (maxSteps:=2000000) only [ir95,nt95,rs95,go_sem,↓condS,↓gateS,↓runOp,↓reduceIte,Nat.reduceLT,Nat.reduceLeDiff,Nat.reduceAdd,Nat.reduceEqDiff,reduceCtorEq,ats_C,iI]
 refine And.intro ht.hc ?_
 refine retI ht1 _ rfl (of_decide_eq_true rfl) (by simp [SV.okN,ok1L]) ?_
 simp (maxSteps:=2000000) only [go_sem,↓runOp,↓reduceIte,Nat.reduceLT,Nat.reduceEqDiff,reduceCtorEq]
 try simp (maxSteps:=2000000) only [go_sem,hf]
 repeat (with_reducible refine And.intro (by first | exact hi | exact Or.inr trivial | exact Or.inl trivial) ?_)
 refine call_inline (c:=ir97) (rs:=rs97) (nt:=nt97) 1000 (mkTab_ok _ _) Try.func97 rfl (by kernel_rfl) (by kernel_rfl) rfl (by simp [okVs,SV.okN,SC.okN]) (of_decide_eq_true rfl) (fun E1 a1 ht1=>?_)
 simp (maxSteps:=2000000) only [ir97,nt97,rs97,go_sem,↓runOp,↓reduceIte,Nat.reduceLT,Nat.reduceLeDiff,Nat.reduceAdd,Nat.reduceEqDiff,reduceCtorEq]
 refine call_inline (c:=ir102) (rs:=rs102) (nt:=nt102) 1000 (mkTab_ok _ _) Try.func102 rfl (by kernel_rfl) (by kernel_rfl) rfl (by simp [okVs,SV.okN,SC.okL,SC.okN]) (of_decide_eq_true rfl) (fun E2 a2 ht2=>?_)
 simp (maxSteps:=2000000) only [ir102,nt102,rs102,go_sem,↓condS,↓gateS,↓runOp,↓reduceIte,Nat.reduceLT,Nat.reduceAdd,Nat.reduceEqDiff,reduceCtorEq]
 refine draw_vc (by kernel_rfl) (mkTab_ok _ _) (of_decide_eq_true rfl) (of_decide_eq_true rfl) ?_
 repeat (first | simp (maxSteps:=2000000) only [go_sem,↓gateD,↓runD,↓reduceIte,Nat.reduceLT,Nat.reduceLeDiff,Nat.reduceAdd,Nat.reduceEqDiff,reduceCtorEq,seC] | rw [dr_cons])
 repeat (with_reducible refine And.intro (by first | exact hi | exact Or.inr trivial | exact Or.inl trivial) ?_)
 refine retI ht2 _ rfl (of_decide_eq_true rfl) (by simp [SV.okN,ok1L]) ?_
 simp (maxSteps:=2000000) only [go_sem,↓runOp,↓reduceIte,Nat.reduceLT,Nat.reduceEqDiff,reduceCtorEq]
 refine retI ht1 _ rfl (of_decide_eq_true rfl) (by simp [SV.okN,SC.okN]) ?_
 simp (maxSteps:=2000000) only [go_sem,↓runOp,↓reduceIte,Nat.reduceLT,Nat.reduceEqDiff,reduceCtorEq]
 refine retI ht0 _ rfl (of_decide_eq_true rfl) (by simp [SV.okN,SC.okN]) ?_
 simp (maxSteps:=2000000) only [go_sem,↓runOp,↓reduceIte,Nat.reduceLT,Nat.reduceEqDiff,reduceCtorEq,mkO_rs]
 rw [← hR,← hW]
 exact retTA (p:=11) (q:=12) ht rfl rfl rfl (by simp) (fun E=>rfl) (by simp [look,bkM,iI,logd]) rfl ⟨_,_,rfl,Nat.le_refl _,fun _ _=>rfl⟩ rfl rfl ⟨_,rfl,_,rfl,by simp [iI]⟩ ⟨_,_,rfl,by simp,ats_set ht.hc (by simp [D.Ca.enc])⟩ ⟨_,rfl,fun x=>by by_cases q:x=i <;> simp [q,tkC,nextC,tkTy,iI,hf]⟩ (by simp [look,hubC,iI,hl,logd]) rfl
end Go.Proofs.Ytcloeignccpljaa.Z
namespace Go.Proofs.Ytcloeignccpljaa.Z
open Go Go.RowKit
structure CellOk (m:D.Pm) (k:D.Tk):Prop where
 push:k.kd=0→k.ln=3→0≤D.cellA m k.b∧D.cellA m k.b<m.W.length
 take:k.kd=1→k.ln=5→0≤D.cellA m k.b∧D.cellA m k.b<m.W.length
 steal:k.kd=2→k.ln=3→0≤D.cellA m k.t∧D.cellA m k.t<m.W.length
theorem task_own (w:World) (E:Env) (m:D.Pm) (i c:Nat) (k:D.Tk) (ht:AtT m i c k) (hl:D.LnOk k) (h1:1≤k.ln) (hr:m.room≠0) (hc:CellOk m k) (h:Handed w E 11 (dO nz0 i c m) []) :
  Calls Try.prog 88 (([.c (.ptr (7,i,0) 0),.c (.ptr (10,0,0) 0)]:List SV).map (SV.den E)).toArray w (EffR w E 11 (takesO E (dO nz0 i c m)) (.c (.v (.bool (D.taskT m i k).2.2))) 2 fun b'=>killO [3,4]++dO ⟨b',b' + 1,6,7⟩ i c (tskM m i (D.taskT m i k))):=by
 obtain ⟨kd,ln,b,t,v,got⟩:=k
 obtain ⟨hk,hln⟩:=hl
 simp only at hk hln h1
 rcases (show kd=0∨kd=1∨kd=2 by omega) with rfl | rfl | rfl
 ·have h4:ln≤4:=by simpa using hln
  rcases (show ln=1∨ln=2∨ln=3∨ln=4 by omega) with rfl | rfl | rfl | rfl
  ·exact push1_own w E m i c b t v got ht h
  ·by_cases hq:D.i64 (b - D.i64 (D.wd m 0))≥m.room
   ·exact push2y_own w E m i c b t v got ht hq h
   ·exact push2n_own w E m i c b t v got ht hq h
  ·obtain ⟨c1,c2⟩:=hc.push rfl rfl
   exact push3_own w E m i c b t v got ht c1 c2 hr h
  ·exact push4_own w E m i c b t v got ht h
 ·have h4:ln≤7:=by simpa using hln
  rcases (show ln=1∨ln=2∨ln=3∨ln=4∨ln=5∨ln=6∨ln=7 by omega) with rfl | rfl | rfl | rfl | rfl | rfl | rfl
  ·exact take1_own w E m i c b t v got ht h
  ·exact take2_own w E m i c b t v got ht h
  ·by_cases hq:b<D.i64 (D.wd m 0)
   ·exact take3y_own w E m i c b t v got ht hq h
   ·exact take3n_own w E m i c b t v got ht hq h
  ·exact take4_own w E m i c b t v got ht h
  ·obtain ⟨c1,c2⟩:=hc.take rfl rfl
   by_cases hq:t<b
   ·exact take5y_own w E m i c b t v got ht c1 c2 hr hq h
   ·exact take5n_own w E m i c b t v got ht c1 c2 hr hq h
  ·by_cases ho:D.wd m 0=D.u64 t
   ·exact take6y_own w E m i c b t v got ht ho h
   ·exact take6n_own w E m i c b t v got ht ho h
  ·cases got with
   | true=>exact take7y_own w E m i c b t v ht h
   | false=>exact take7n_own w E m i c b t v ht h
 ·have h4:ln≤4:=by simpa using hln
  rcases (show ln=1∨ln=2∨ln=3∨ln=4 by omega) with rfl | rfl | rfl | rfl
  ·exact steal1_own w E m i c b t v got ht h
  ·by_cases hq:D.i64 (D.wd m 1)≤t
   ·exact steal2y_own w E m i c b t v got ht hq h
   ·exact steal2n_own w E m i c b t v got ht hq h
  ·obtain ⟨c1,c2⟩:=hc.steal rfl rfl
   exact steal3_own w E m i c b t v got ht c1 c2 hr h
  ·by_cases ho:D.wd m 0=D.u64 t
   ·cases hl:m.last with
    | false=>exact steal4c_own w E m i c b t v got ht ho hl h
    | true =>
     by_cases hq:t=m.rk
     ·exact steal4a_own w E m i c b t v got ht ho hl hq h
     ·exact steal4b_own w E m i c b t v got ht ho hl hq h
   ·exact steal4n_own w E m i c b t v got ht ho h
theorem dO_plain (z:Nz) (i c:Nat) (m:D.Pm):PlainO (dO z i c m) :=
 plain_of ⟨trivial,trivial,trivial,trivial,trivial,trivial,trivial,fun k=>plain_tk _ _ k,trivial,trivial,trivial⟩
theorem dO_id {own:Own} {i c:Nat} {m:D.Pm} (h:MIn own nz0 i c m):OwnLe (· < 11) (idσ id) own (dO nz0 i c m):=by
 have e:∀ j k e,idσ id (j,k,e)=(j,k,e):=fun j k e=>rfl
 have at1:∀ j B,look own j=some (.one B)→atN own (j,0,0)=some B:=fun j B hB=>by simp [atN,hB,Fm.get]
 obtain ⟨n2,g2,a2,b2,c2⟩:=h.h2
 obtain ⟨n3,g3,a3,b3,c3⟩:=h.hl
 obtain ⟨n4,g4,a4,b4,c4⟩:=h.ha
 obtain ⟨n5,g5,a5,b5,c5⟩:=h.h5
 obtain ⟨n6,g6,a6,b6,c6⟩:=h.hc
 obtain ⟨n7,g7,a7,b7,c7⟩:=h.ht
 simp only [nz0] at a3 a4 a6 a7 c5 c7
 have l:∀ j,j<11→j<11:=fun j hj=>hj
 unfold dO mO
 refine ⟨⟨l 0 (by omega),?_⟩,⟨l 1 (by omega),?_⟩,⟨l 2 (by omega),?_⟩,⟨l 3 (by omega),?_⟩,⟨l 4 (by omega),?_⟩,⟨l 5 (by omega),?_⟩,⟨l 6 (by omega),?_⟩,⟨l 7 (by omega),fun k hk=>?_⟩,⟨l 9 (by omega),?_⟩,⟨l 10 (by omega),?_⟩,trivial⟩
 ·show BlkLeO _ _ (atN own (0,0,0)) _
  rw [at1 _ _ h.h0]
  exact ⟨by simp [bkM,SC.renL,SC.ren,iI,e],rfl,by simp [bkM,SC.okL,SC.okN,iI,nz0]⟩
 ·show BlkLeO _ _ (atN own (1,0,0)) _
  rw [at1 _ _ h.h1]
  exact ⟨by simp [bkY,SC.renL,SC.ren,iI,e],rfl,by simp [bkY,SC.okL,SC.okN,iI,nz0]⟩
 ·show BlkLeO _ _ (atN own (2,0,0)) _
  rw [at1 _ _ a2];exact blk_av b2 c2
 ·show BlkLeO _ _ (atN own (3,0,0)) _
  rw [at1 _ _ a3];exact blk_av b3 c3
 ·show BlkLeO _ _ (atN own (4,0,0)) _
  rw [at1 _ _ a4];exact blk_av b4 c4
 ·show BlkLeO _ _ (atN own (5,0,0)) _
  rw [at1 _ _ a5]
  exact ⟨b5,rfl,rfl,fun k hk=>⟨by rw [c5 k hk];exact seC_ren (e 7 k 0),seC_ok (p:=(· < 11)) (t:=7) (by decide) _ _⟩⟩
 ·show BlkLeO _ _ (atN own (6,0,0)) _
  rw [at1 _ _ a6];exact blk_av b6 c6
 ·show BlkLeO _ _ (atN own (7,k,0)) _
  rw [show atN own (7,k,0)=some (g7 k) by simp only [atN,a7,Fm.get];rw [if_pos ⟨by omega,trivial⟩],c7 k hk]
  exact tkF_le (e 9 0 0) (l 9 (by omega)) (l 7 (by omega)) (e 7 k 0)
 ·show BlkLeO _ _ (atN own (9,0,0)) _
  rw [at1 _ _ h.h9]
  exact ⟨by simp [hubC,SC.renL,SC.ren,iI],rfl,by simp [hubC,SC.okL,SC.okN,iI]⟩
 ·show BlkLeO _ _ (atN own (10,0,0)) _
  rw [at1 _ _ h.h10]
  exact ⟨by simp [SC.renL,SC.ren,e 0 0 0],rfl,by simp [SC.okL,SC.okN]⟩
theorem dO_key {i c i' c' b:Nat} {m m' : D.Pm}:∀ x B,atN (dO nz0 i c m) x=some B→(look (killO [3,4]++dO ⟨b,b+1,6,7⟩ i' c' m') x.1).isSome=true:=by
 intro x B hx
 obtain ⟨F,hF,_⟩:=atN_some hx
 have hk:=look_keysL hF
 simp only [dO,mO,nz0,keysL,List.cons_append,List.nil_append,List.mem_cons,List.not_mem_nil,or_false] at hk
 rw [look_app,look_kill]
 rcases hk with e | e | e | e | e | e | e | e | e | e <;> rw [e]
 ·rfl
 ·rfl
 ·rfl
 ·rfl
 ·rfl
 all_goals
  simp only [List.mem_cons,List.not_mem_nil,Nat.reduceEqDiff,or_self,if_false,dO,mO,List.cons_append,look]
  repeat' split
  all_goals first | rfl | (exfalso;exact ‹¬True› trivial)
theorem crD {C:Ctx} {S:St} {f:Nat} {vs:List SV} {u:SV} {i c:Nat} {m m' : D.Pm} (hn:11≤S.nid) (h:MIn S.own nz0 i c m)
  (hc:∀ E w,Handed w E 11 (dO nz0 i c m) []→Calls C.P f (vs.map (SV.den E)).toArray w (EffR w E 11 (takesO E (dO nz0 i c m)) u 2 fun b=>killO [3,4]++dO ⟨b,b+1,6,7⟩ i c m')) :
  CR C f vs S (List.range 11) u 2 (killO [3,4]++dO ⟨S.nid,S.nid+1,6,7⟩ i c m') [] :=
 cr_own (eff:=fun b=>killO [3,4]++dO ⟨b,b+1,6,7⟩ i c m') 11 (dO nz0 i c m) [] hn (dO_plain _ _ _ _) (dO_id h) trivial dO_key hc
end Go.Proofs.Ytcloeignccpljaa.Z
namespace Go.Proofs.Ytcloeignccpljaa.Z
open Go Go.RowKit
def nilP:SC:=.v (.pointer none)
def rO (z:Nz) (m:D.Pm):Own:=mO z nilP nilP m
structure RIn (own:Own) (z:Nz) (m:D.Pm):Prop where
 h0:look own 0=some (.one (.bk (bkM z nilP nilP m) 113))
 h1:look own 1=some (.one (.bk (bkY z m) 140))
 h2:∃ n g,look own 2=some (.one (.ar n 1 g 44))∧m.W.length≤n∧∀ e,e<m.W.length→g e=ats eU m.W 0 e
 hl:∃ n g,look own z.l=some (.one (.ar n 7 g 47))∧m.L.length≤n∧∀ e,e<m.L.length→g e=ats D.Ac.enc m.L D.ac0 e
 ha:∃ n g,look own z.a=some (.one (.ar n 1 g 44))∧m.A.length≤n∧∀ e,e<m.A.length→g e=ats eU m.A 0 e
 h5:∃ n g,look own 5=some (.one (.ar n 5 g 116))∧m.S.length≤n∧∀ e,e<m.S.length→g e=seC z.t m.S e
 hc:∃ n g,look own z.c=some (.one (.ar n 9 g 77))∧m.C.length≤n∧∀ e,e<m.C.length→g e=ats D.Ca.enc m.C D.ca0 e
 ht:∃ n g,look own z.t=some (.fam n g)∧m.S.length≤n∧∀ k,k<m.S.length→g k=tkF z.t m.S k
 h9:look own 9=some (.one (.bk (hubC m) 88))
theorem rO_le {own:Own} {b p q:Nat} {m:D.Pm} (hb:10≤b) (h:RIn own ⟨p,q,6,7⟩ m):OwnLe (fun j=>j<10∨NewIds b 2 j) (idσ (tau2 b p q)) own (rO ⟨b,b+1,6,7⟩ m):=by
 have e:∀ j k e,j<b→idσ (tau2 b p q) (j,k,e)=(j,k,e):=fun j k e hj=>by rw [ids_nm,tau2_lt hj]
 have at1:∀ j B,look own j=some (.one B)→atN own (j,0,0)=some B:=fun j B hB=>by simp [atN,hB,Fm.get]
 obtain ⟨n2,g2,a2,b2,c2⟩:=h.h2
 obtain ⟨n3,g3,a3,b3,c3⟩:=h.hl
 obtain ⟨n4,g4,a4,b4,c4⟩:=h.ha
 obtain ⟨n5,g5,a5,b5,c5⟩:=h.h5
 obtain ⟨n6,g6,a6,b6,c6⟩:=h.hc
 obtain ⟨n7,g7,a7,b7,c7⟩:=h.ht
 have l:∀ j,j<10→(j<10∨NewIds b 2 j):=fun j hj=>Or.inl hj
 have lb:(b<10∨NewIds b 2 b):=Or.inr ⟨Nat.le_refl _,by omega⟩
 have lb1:(b+1<10∨NewIds b 2 (b+1)):=Or.inr ⟨by omega,by omega⟩
 unfold rO mO
 refine ⟨⟨l 0 (by omega),?_⟩,⟨l 1 (by omega),?_⟩,⟨l 2 (by omega),?_⟩,⟨lb,?_⟩,⟨lb1,?_⟩,⟨l 5 (by omega),?_⟩,⟨l 6 (by omega),?_⟩,⟨l 7 (by omega),fun k hk=>?_⟩,⟨l 9 (by omega),?_⟩,trivial⟩
 ·show BlkLeO _ _ (atN own (idσ (tau2 b p q) (0,0,0))) _
  rw [e 0 0 0 (by omega),at1 _ _ h.h0]
  refine ⟨?_,rfl,?_⟩
  ·simp [bkM,nilP,SC.renL,SC.ren,iI,e 1 0 0 (by omega),e 5 0 0 (by omega),e 6 0 0 (by omega),e 8 0 0 (by omega)]
  ·simp [bkM,nilP,SC.okL,SC.okN,iI]
 ·show BlkLeO _ _ (atN own (idσ (tau2 b p q) (1,0,0))) _
  rw [e 1 0 0 (by omega),at1 _ _ h.h1]
  refine ⟨?_,rfl,?_⟩
  ·simp [bkY,SC.renL,SC.ren,iI,e 2 0 0 (by omega),ids_nm,tau2_b,tau2_b1]
  ·simp only [bkY,SC.okL,SC.okN,iI,and_true]
   exact ⟨l 2 (by omega),lb,lb1⟩
 ·show BlkLeO _ _ (atN own (idσ (tau2 b p q) (2,0,0))) _
  rw [e 2 0 0 (by omega),at1 _ _ a2]
  exact blk_av b2 c2
 ·show BlkLeO _ _ (atN own (idσ (tau2 b p q) (b,0,0))) _
  rw [ids_nm,tau2_b,at1 _ _ a3]
  exact blk_av b3 c3
 ·show BlkLeO _ _ (atN own (idσ (tau2 b p q) (b+1,0,0))) _
  rw [ids_nm,tau2_b1,at1 _ _ a4]
  exact blk_av b4 c4
 ·show BlkLeO _ _ (atN own (idσ (tau2 b p q) (5,0,0))) _
  rw [e 5 0 0 (by omega),at1 _ _ a5]
  exact ⟨b5,rfl,rfl,fun k hk=>⟨by rw [c5 k hk];exact seC_ren (e 7 k 0 (by omega)),seC_ok (l 7 (by omega)) _ _⟩⟩
 ·show BlkLeO _ _ (atN own (idσ (tau2 b p q) (6,0,0))) _
  rw [e 6 0 0 (by omega),at1 _ _ a6]
  exact blk_av b6 c6
 ·show BlkLeO _ _ (atN own (idσ (tau2 b p q) (7,k,0))) _
  rw [e 7 k 0 (by omega),show atN own (7,k,0)=some (g7 k) by simp only [atN,a7,Fm.get];rw [if_pos ⟨by omega,trivial⟩],c7 k hk]
  exact tkF_le (e 9 0 0 (by omega)) (l 9 (by omega)) (l 7 (by omega)) (e 7 k 0 (by omega))
 ·show BlkLeO _ _ (atN own (idσ (tau2 b p q) (9,0,0))) _
  rw [e 9 0 0 (by omega),at1 _ _ h.h9]
  exact ⟨by simp [hubC,SC.renL,SC.ren,iI],rfl,by simp [hubC,SC.okL,SC.okN,iI]⟩
theorem retR {P:Program} {w:World} {E:Env} {W:Nat→Prop} {rs:List RS} {u v:SV} {S2:St} {p q:Nat} {m:D.Pm} (hpq:pqOk p q=true) (hf:AgF 10 E∈S2.facts) (hu:∀ E E',v.den E=u.den E') (h:RIn S2.own ⟨p,q,6,7⟩ m) :
  RetVC (mkO P w W rs (EffR w E 10 W u 2 fun b=>killO [3,4]++rO ⟨b,b+1,6,7⟩ m)) v S2:=by
 refine retEff (fun b=>idσ (tau2 b p q)) [3,4] (fun b=>rO ⟨b,b+1,6,7⟩ m) hf hu (fun b hb x hx=>?_) (fun b hb=>rO_le hb h) (fun b hb x y B B' hx hy e=>?_)
 ·obtain ⟨a,k,l⟩:=x
  rw [ids_nm,tau2_lt (show a<b from Nat.lt_of_lt_of_le hx hb)]
 ·obtain ⟨F,hF,_⟩:=atN_some hx
  obtain ⟨F',hF',_⟩:=atN_some hy
  have hx2:=look_keysL hF
  have hy2:=look_keysL hF'
  obtain ⟨a,k,l⟩:=x
  obtain ⟨a',k',l'⟩:=y
  simp only [ids_nm,Prod.mk.injEq] at e
  simp only [rO,mO,keysL,List.mem_cons,List.not_mem_nil,or_false] at hx2 hy2
  simp only [pqOk,List.all_cons,List.all_nil,Bool.and_true,Bool.and_eq_true,bne_iff_ne,ne_eq,Bool.or_eq_true,beq_iff_eq,Nat.ble_eq] at hpq
  have ea:a=a':=by
   have e1:=e.1
   unfold tau2 at e1
   split at e1 <;> split at e1 <;> (try split at e1) <;> (try split at e1) <;> omega
  subst ea
  rw [e.2.1,e.2.2]
theorem le_no {C:Ctx} {S:St} {x:Nm} {cs:List SC} {ty:Nat} {p:Prop} (hy:pkN S.own x=some (p,.bk cs ty)) (hp:p):Le C S ⟨S.nt,S.tmps,mergeL (setN S.own x .no) S.own,S.arrs,S.facts,S.nid⟩:=by
 intro E a w hs
 have haft:After C.B C.W C.w0 E [] S a w (.c (.v undef)) 0 (setN S.own x .no) [] undef w:=by
  refine ⟨⟨fun _=>0,fun _=>0,fun _=>false,fun _=>.bool true⟩,fun _=>rfl,fun E2 hs2 _ hag=>⟨by rw [den_c,den_v],(fits_put hy hp ⟨rfl,rfl,rfl⟩ (Nat.le_refl _) fun H hH=>?_).G⟩⟩
  exact ⟨emp,rfl,fun n _ _=>rfl,fun n o hn=>by cases hn⟩
 obtain ⟨E',h'⟩:=satA_after hs (fun i hi=>by cases hi) haft none
 exact ⟨E',h'⟩
def inM (m:D.Pm) (i:Nat) (now:Int) (k0:D.Tk):D.Pm:={ D.begS m i now with S:=m.S.set i { m.S.getD i D.se0 with rd:=true,tk:=some k0 } }
def outM (m:D.Pm) (i:Nat) (now:Int) (k0:D.Tk):D.Pm:=tskM (inM m i now k0) i (D.taskT (inM m i now k0) i k0)
def stM (m:D.Pm) (i:Nat) (now:Int) (k0:D.Tk):D.Pm:=if (D.taskT (inM m i now k0) i k0).2.2=true then D.endS (outM m i now k0) i now else outM m i now k0
theorem outM_S {m:D.Pm} {i:Nat} {now:Int} {k0:D.Tk} (hi:i<m.S.length):(outM m i now k0).S.length=m.S.length∧((outM m i now k0).S.getD i D.se0).rd=true∧((outM m i now k0).S.getD i D.se0).la=(m.S.getD i D.se0).la∧((outM m i now k0).S.getD i D.se0).tk=some (D.taskT (inM m i now k0) i k0).2.1:=by
 obtain ⟨h1,h2⟩:=D.task_S (inM m i now k0) i k0
 have hl:(inM m i now k0).S.length=m.S.length:=by simp [inM]
 have h0:(inM m i now k0).S.getD i D.se0={ m.S.getD i D.se0 with rd:=true,tk:=some k0 }:=by unfold inM;simp only;rw [D.set_getD _ _ _ _ _ hi,if_pos rfl]
 have hi' : i<(D.taskT (inM m i now k0) i k0).1.S.length:=by omega
 unfold outM tskM D.setTk
 simp only [List.length_set]
 rw [D.set_getD _ _ _ _ _ hi',if_pos rfl]
 simp only
 rw [(h2 i).1,(h2 i).2.2,h0]
 refine ⟨by omega,?_,?_,?_⟩ <;> first | rfl | trivial
theorem atT_in {m:D.Pm} {i c:Nat} {now:Int} {k0:D.Tk} (hi:i<m.S.length) (hla:(m.S.getD i D.se0).la=c) (hc:c<m.C.length) (hwl:2≤m.W.length) (hL:m.L.length≤65536) (hA:m.A.length≤65536):AtT (inM m i now k0) i c k0:=by
 have h0:(inM m i now k0).S.getD i D.se0={ m.S.getD i D.se0 with rd:=true,tk:=some k0 }:=by unfold inM;simp only;rw [D.set_getD _ _ _ _ _ hi,if_pos rfl]
 exact ⟨rfl,by simp [inM];exact hi,by rw [h0],by rw [h0];exact hla,hc,hwl,hL,hA⟩
end Go.Proofs.Ytcloeignccpljaa.Z
