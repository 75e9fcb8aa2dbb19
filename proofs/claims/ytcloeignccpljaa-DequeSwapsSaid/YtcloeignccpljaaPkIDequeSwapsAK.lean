/- DequeSwapsSaid: what its proof is made of. No condition. -/
import Derived.Test.YtcloeignccpljaaPkIDequeSwapsAJ
set_option linter.unusedSimpArgs false
set_option linter.unusedVariables false
namespace Go.Proofs.Ytcloeignccpljaa.Z
open Go Go.RowKit
def ir92:IR:=(.seq (.ops [⟨(some 4),(.mv (.k (.c (.v (.bool false))))),none⟩]) (.kill [2,3,4,5,6,7,8,9,10,11] (.seq (.seq (.draw [(⟨(some 5),(.mv (.t 0)),none⟩,([],[10,11,12,14,15,16,17,18,19,20,21])),(⟨(some 6),(.nilck (.t 5)),none⟩,([],[10,11,12,14,15,16,17,18,19,20,21])),(⟨(some 7),(.fa 0 (.t 6)),none⟩,([],[10,11,12,14,15,16,17,18,19,20,21])),(⟨(some 8),(.fa 2 (.t 7)),none⟩,([],[10,11,12,14,15,16,17,18,19,20,21])),(⟨(some 9),(.ld false 1 (.t 8)),none⟩,([],[10,11,12,14,15,16,17,18,19,20,21])),(⟨(some 10),(.mv (.t 1)),none⟩,([0,1,2,3,4],[5,6,7,8,9,14,15,16,17,18,19,20,21])),(⟨(some 11),(.call 91 [(.t 10),(.k (.c (.v (.int .i64 0))))]),none⟩,([0,1,2,3,4],[5,6,7,8,9,14,15,16,17,18,19,20,21])),(⟨(some 12),(.call 32 [(.t 11)]),none⟩,([0,1,2,3,4],[5,6,7,8,9,14,15,16,17,18,19,20,21])),(⟨(some 13),(.bin .sub (.t 9) (.t 12)),none⟩,([],[14,15,16,17,18,19,20,21])),(⟨(some 14),(.mv (.t 0)),none⟩,([0,1,2,3,4,5,6,7,8],[5,6,7,8,9,10,11,12,13])),(⟨(some 15),(.nilck (.t 14)),none⟩,([0,1,2,3,4,5,6,7,8],[5,6,7,8,9,10,11,12,13])),(⟨(some 16),(.fa 0 (.t 15)),none⟩,([0,1,2,3,4,5,6,7,8],[5,6,7,8,9,10,11,12,13])),(⟨(some 17),(.fa 0 (.t 16)),none⟩,([0,1,2,3,4,5,6,7,8],[5,6,7,8,9,10,11,12,13])),(⟨(some 18),(.ld false 1 (.t 17)),none⟩,([0,1,2,3,4,5,6,7,8],[5,6,7,8,9,10,11,12,13])),(⟨(some 19),(.nilck (.t 18)),none⟩,([0,1,2,3,4,5,6,7,8],[5,6,7,8,9,10,11,12,13])),(⟨(some 20),(.fa 0 (.t 19)),none⟩,([0,1,2,3,4,5,6,7,8],[5,6,7,8,9,10,11,12,13])),(⟨(some 21),(.ld false 1 (.t 20)),none⟩,([0,1,2,3,4,5,6,7,8],[5,6,7,8,9,10,11,12,13])),(⟨(some 22),(.bin .geq (.t 13) (.t 21)),none⟩,([],[]))]) (.kill [5,6,7,8,9,10,11,12,13,14,15,16,17,18,19,20,21] (.cond (.t 22) (.seq (.ops [⟨(some 23),(.mv (.t 1)),none⟩,⟨(some 24),(.mv (.t 1)),none⟩,⟨(some 25),(.call 96 [(.t 24)]),none⟩,⟨(some 26),(.call 95 [(.t 23),(.t 25)]),none⟩]) (.kill [0,22,23,24,25,26] (.seq (.ops [⟨(some 27),(.mv (.t 1)),none⟩,⟨(some 28),(.call 97 [(.t 27),(.k (.c (.v (.int .i64 4)))),(.k (.c (.v (.int .i64 0))))]),none⟩,⟨(some 4),(.mv (.t 28)),none⟩]) (.kill [1,27,28] .ret)))) .skip))) (.kill [1,4,22] (.seq (.ops [⟨(some 29),(.mv (.t 0)),none⟩,⟨(some 30),(.mv (.t 0)),none⟩,⟨(some 31),(.mfn (.func 98) [(.t 30)] []),none⟩,⟨(some 32),(.nilck (.t 29)),none⟩,⟨(some 33),(.fa 0 (.t 32)),none⟩,⟨(some 34),(.fa 1 (.t 33)),none⟩,⟨none,(.st 1 (.t 34) (.t 31)),none⟩]) (.kill [0,29,30,31,32,33,34] (.seq (.ops [⟨(some 4),(.mv (.k (.c (.v (.bool false))))),none⟩]) .ret)))))))
def rs92:List RS:=[(.t 4)]
def nt92:Nat:=35
def ir98:IR:=(.seq (.ops [⟨(some 4),(.mv (.k (.c (.v (.bool false))))),none⟩]) (.kill [2,3,4,5,6,7,8,9,10,11] (.seq (.draw [(⟨(some 5),(.mv (.t 1)),none⟩,([],[6,7,8,9,10,11,12,13,14,15,16,17,18,19,20])),(⟨(some 6),(.mv (.t 0)),none⟩,([0],[5,9,10,11,12,13,15,16,17,18,19])),(⟨(some 7),(.nilck (.t 6)),none⟩,([0],[5,9,10,11,12,13,15,16,17,18,19])),(⟨(some 8),(.fa 0 (.t 7)),none⟩,([0],[5,9,10,11,12,13,15,16,17,18,19])),(⟨(some 9),(.mv (.t 0)),none⟩,([0,1,2,3],[5,6,7,8,15,16,17,18,19])),(⟨(some 10),(.nilck (.t 9)),none⟩,([0,1,2,3],[5,6,7,8,15,16,17,18,19])),(⟨(some 11),(.fa 0 (.t 10)),none⟩,([0,1,2,3],[5,6,7,8,15,16,17,18,19])),(⟨(some 12),(.fa 2 (.t 11)),none⟩,([0,1,2,3],[5,6,7,8,15,16,17,18,19])),(⟨(some 13),(.ld false 1 (.t 12)),none⟩,([0,1,2,3],[5,6,7,8,15,16,17,18,19])),(⟨(some 14),(.call 89 [(.t 8),(.t 13)]),none⟩,([0],[5,15,16,17,18,19])),(⟨(some 15),(.mv (.t 0)),none⟩,([0,1,2,3,4,5,6,7,8,9],[5,6,7,8,9,10,11,12,13,14])),(⟨(some 16),(.nilck (.t 15)),none⟩,([0,1,2,3,4,5,6,7,8,9],[5,6,7,8,9,10,11,12,13,14])),(⟨(some 17),(.fa 0 (.t 16)),none⟩,([0,1,2,3,4,5,6,7,8,9],[5,6,7,8,9,10,11,12,13,14])),(⟨(some 18),(.fa 4 (.t 17)),none⟩,([0,1,2,3,4,5,6,7,8,9],[5,6,7,8,9,10,11,12,13,14])),(⟨(some 19),(.ld false 1 (.t 18)),none⟩,([0,1,2,3,4,5,6,7,8,9],[5,6,7,8,9,10,11,12,13,14])),(⟨(some 20),(.call 104 [(.t 19)]),none⟩,([0],[5])),(⟨(some 21),(.call 103 [(.t 5),(.t 14),(.t 20)]),none⟩,([],[]))]) (.kill [1,5,6,7,8,9,10,11,12,13,14,15,16,17,18,19,20,21] (.seq (.ops [⟨(some 22),(.mv (.t 0)),none⟩,⟨(some 23),(.mv (.t 0)),none⟩,⟨(some 24),(.mfn (.func 105) [(.t 23)] []),none⟩,⟨(some 25),(.nilck (.t 22)),none⟩,⟨(some 26),(.fa 0 (.t 25)),none⟩,⟨(some 27),(.fa 1 (.t 26)),none⟩,⟨none,(.st 1 (.t 27) (.t 24)),none⟩]) (.kill [0,22,23,24,25,26,27] (.seq (.ops [⟨(some 4),(.mv (.k (.c (.v (.bool false))))),none⟩]) .ret)))))))
def rs98:List RS:=[(.t 4)]
def nt98:Nat:=28
def ir105:IR:=(.seq (.ops [⟨(some 4),(.mv (.k (.c (.v (.bool false))))),none⟩]) (.kill [2,3,4,5,6,7,8,9,10,11] (.seq (.ops [⟨(some 5),(.mv (.t 1)),none⟩,⟨(some 6),(.mv (.t 0)),none⟩,⟨(some 7),(.nilck (.t 6)),none⟩,⟨(some 8),(.fa 0 (.t 7)),none⟩,⟨(some 9),(.fa 2 (.t 8)),none⟩,⟨(some 10),(.ld false 1 (.t 9)),none⟩,⟨(some 11),(.bin .add (.t 10) (.k (.c (.v (.int .i64 1))))),none⟩,⟨(some 12),(.call 104 [(.t 11)]),none⟩,⟨(some 13),(.call 103 [(.t 5),(.k (.c (.v (.int .i64 1)))),(.t 12)]),none⟩]) (.kill [0,5,6,7,8,9,10,11,12,13] (.seq (.ops [⟨(some 14),(.mv (.t 1)),none⟩,⟨(some 15),(.mv (.t 1)),none⟩,⟨(some 16),(.call 96 [(.t 15)]),none⟩,⟨(some 17),(.call 95 [(.t 14),(.t 16)]),none⟩]) (.kill [14,15,16,17] (.seq (.ops [⟨(some 18),(.mv (.t 1)),none⟩,⟨(some 19),(.call 97 [(.t 18),(.k (.c (.v (.int .i64 1)))),(.k (.c (.v (.int .i64 0))))]),none⟩,⟨(some 4),(.mv (.t 19)),none⟩]) (.kill [1,18,19] .ret))))))))
def rs105:List RS:=[(.t 4)]
def nt105:Nat:=20
def ir96:IR:=(.seq (.ops [⟨(some 2),(.mv (.k (.c (.v (.int .i64 0))))),none⟩]) (.kill [1,2,3,4,5,6,7,8,9,10,11] (.seq (.seq (.ops [⟨(some 3),(.mv (.t 0)),none⟩,⟨(some 4),(.eqn 0 false (.t 3) (.k (.c (.v (.pointer none))))),none⟩,⟨(some 5),(.mv (.t 4)),none⟩,⟨(some 6),(.mv (.t 0)),(some (5,false))⟩,⟨(some 7),(.nilck (.t 6)),(some (5,false))⟩,⟨(some 8),(.fa 0 (.t 7)),(some (5,false))⟩,⟨(some 9),(.ld false 1 (.t 8)),(some (5,false))⟩,⟨(some 10),(.eqn 0 false (.t 9) (.k (.c (.v (.pointer none))))),(some (5,false))⟩,⟨(some 11),(.pick (.t 5) (.k (.c (.v (.bool true)))) (.t 10)),none⟩]) (.kill [3,4,5,6,7,8,9,10] (.cond (.t 11) (.seq (.ops [⟨(some 2),(.mv (.k (.c (.v (.int .i64 0))))),none⟩]) (.kill [0,11] .ret)) .skip))) (.kill [2,11] (.seq (.ops [⟨(some 12),(.mv (.t 0)),none⟩,⟨(some 13),(.nilck (.t 12)),none⟩,⟨(some 14),(.fa 0 (.t 13)),none⟩,⟨(some 15),(.ld false 1 (.t 14)),none⟩,⟨(some 16),(.nilck (.t 15)),none⟩,⟨(some 17),(.fa 2 (.t 16)),none⟩,⟨(some 18),(.ld false 1 (.t 17)),none⟩,⟨(some 2),(.mv (.t 18)),none⟩]) (.kill [0,12,13,14,15,16,17,18] .ret))))))
def rs96:List RS:=[(.t 2)]
def nt96:Nat:=19
def ir95:IR:=(.seq (.ops [⟨(some 4),(.mv (.t 0)),none⟩,⟨(some 5),(.eqn 0 true (.t 4) (.k (.c (.v (.pointer none))))),none⟩,⟨(some 6),(.mv (.t 5)),none⟩,⟨(some 7),(.mv (.t 0)),(some (6,true))⟩,⟨(some 8),(.nilck (.t 7)),(some (6,true))⟩,⟨(some 9),(.fa 0 (.t 8)),(some (6,true))⟩,⟨(some 10),(.ld false 1 (.t 9)),(some (6,true))⟩,⟨(some 11),(.eqn 0 true (.t 10) (.k (.c (.v (.pointer none))))),(some (6,true))⟩,⟨(some 12),(.pick (.t 6) (.t 11) (.k (.c (.v (.bool false))))),none⟩,⟨(some 13),(.mv (.t 12)),none⟩,⟨(some 14),(.mv (.t 0)),(some (13,true))⟩,⟨(some 15),(.nilck (.t 14)),(some (13,true))⟩,⟨(some 16),(.fa 0 (.t 15)),(some (13,true))⟩,⟨(some 17),(.ld false 1 (.t 16)),(some (13,true))⟩,⟨(some 18),(.nilck (.t 17)),(some (13,true))⟩,⟨(some 19),(.fa 3 (.t 18)),(some (13,true))⟩,⟨(some 20),(.ld false 1 (.t 19)),(some (13,true))⟩,⟨(some 21),(.eqn 0 true (.t 20) (.k (.c (.v (.pointer none))))),(some (13,true))⟩,⟨(some 22),(.pick (.t 13) (.t 21) (.k (.c (.v (.bool false))))),none⟩]) (.kill [2,3,4,5,6,7,8,9,10,11,12,13,14,15,16,17,18,19,20,21] (.cond (.t 22) (.ops [⟨(some 23),(.mv (.t 0)),none⟩,⟨(some 24),(.nilck (.t 23)),none⟩,⟨(some 25),(.fa 0 (.t 24)),none⟩,⟨(some 26),(.ld false 1 (.t 25)),none⟩,⟨(some 27),(.nilck (.t 26)),none⟩,⟨(some 28),(.fa 3 (.t 27)),none⟩,⟨(some 29),(.ld false 1 (.t 28)),none⟩,⟨(some 30),(.mv (.t 1)),none⟩,⟨(some 31),(.nilck (.t 29)),none⟩,⟨(some 32),(.fa 6 (.t 31)),none⟩,⟨none,(.st 1 (.t 32) (.t 30)),none⟩]) .skip)))
def rs95:List RS:=[]
def nt95:Nat:=33
def ir102:IR:=(.seq (.ops [⟨(some 3),(.box 75 (.t 1)),none⟩]) (.kill [1,2,4,5,6,7,8,9,10,11] (.seq (.ops [⟨(some 4),(.mv (.t 0)),none⟩,⟨(some 5),(.eqn 0 true (.t 4) (.k (.c (.v (.pointer none))))),none⟩,⟨(some 6),(.mv (.t 5)),none⟩,⟨(some 7),(.mv (.t 0)),(some (6,true))⟩,⟨(some 8),(.nilck (.t 7)),(some (6,true))⟩,⟨(some 9),(.fa 0 (.t 8)),(some (6,true))⟩,⟨(some 10),(.ld false 1 (.t 9)),(some (6,true))⟩,⟨(some 11),(.eqn 0 true (.t 10) (.k (.c (.v (.pointer none))))),(some (6,true))⟩,⟨(some 12),(.pick (.t 6) (.t 11) (.k (.c (.v (.bool false))))),none⟩,⟨(some 13),(.mv (.t 12)),none⟩,⟨(some 14),(.mv (.t 0)),(some (13,true))⟩,⟨(some 15),(.nilck (.t 14)),(some (13,true))⟩,⟨(some 16),(.fa 0 (.t 15)),(some (13,true))⟩,⟨(some 17),(.ld false 1 (.t 16)),(some (13,true))⟩,⟨(some 18),(.nilck (.t 17)),(some (13,true))⟩,⟨(some 19),(.fa 4 (.t 18)),(some (13,true))⟩,⟨(some 20),(.ld false 1 (.t 19)),(some (13,true))⟩,⟨(some 21),(.eqn 0 true (.t 20) (.k (.c (.v (.pointer none))))),(some (13,true))⟩,⟨(some 22),(.pick (.t 13) (.t 21) (.k (.c (.v (.bool false))))),none⟩]) (.kill [4,5,6,7,8,9,10,11,12,13,14,15,16,17,18,19,20,21] (.cond (.t 22) (.draw [(⟨(some 23),(.mv (.t 0)),none⟩,([],[30])),(⟨(some 24),(.nilck (.t 23)),none⟩,([],[30])),(⟨(some 25),(.fa 0 (.t 24)),none⟩,([],[30])),(⟨(some 26),(.ld false 1 (.t 25)),none⟩,([],[30])),(⟨(some 27),(.nilck (.t 26)),none⟩,([],[30])),(⟨(some 28),(.fa 4 (.t 27)),none⟩,([],[30])),(⟨(some 29),(.ld false 1 (.t 28)),none⟩,([],[30])),(⟨(some 30),(.ld true 2 (.t 3)),none⟩,([0,1,2,3,4,5,6],[23,24,25,26,27,28,29])),(⟨(some 31),(.nilck (.t 29)),none⟩,([],[])),(⟨none,(.st 2 (.t 31) (.t 30)),none⟩,([],[]))]) .skip)))))
def rs102:List RS:=[]
def nt102:Nat:=32
def ir97:IR:=(.seq (.ops [⟨(some 6),(.mv (.k (.c (.v (.bool false))))),none⟩]) (.kill [3,4,5,6,7,8,9,10,11] (.seq (.ops [⟨(some 7),(.mv (.t 0)),none⟩,⟨(some 8),(.mv (.t 1)),none⟩,⟨(some 9),(.mv (.t 2)),none⟩,⟨(some 10),(.build [(.v (.int .i64 0)),(.v (.int .i64 0))] [(0,(1,(.t 8))),(1,(1,(.t 9)))]),none⟩,⟨(some 11),(.call 102 [(.t 7),(.t 10)]),none⟩]) (.kill [0,1,2,7,8,9,10,11] (.seq (.ops [⟨(some 6),(.mv (.k (.c (.v (.bool true))))),none⟩]) .ret)))))
def rs97:List RS:=[(.t 6)]
def nt97:Nat:=12
theorem dstore_at {w:World} {E:Env} {m:D.Pm} {i c:Nat} {k:D.Tk} (ht:AtT m i c k) {a v:Int} (h0:0≤a) (h1:a<m.W.length) (h:Handed w E 11 (aO nz0 i c m) []) :
  Calls Try.prog 103 (([.c (.ptr (10,0,0) 0),.c (iI a),.c (.v (.int .u64 v))]:List SV).map (SV.den E)).toArray w (EffR w E 11 (takesO E (aO nz0 i c m)) (.tup []) 2 fun b=>killO [3,4]++aO ⟨b,b+1,6,7⟩ i c { logd { m with us:=true } ⟨m.mm,m.th,2,a,0,v,0⟩ (D.wd m a) with W:=m.W.set a.toNat v }):=by
 have:=dstore_own w E m i c a v ht.us h0 h1 ht.hL ht.hA h
 rw [D.st_ok ht.us h0 h1] at this
 exact this
theorem pt_at {m r:D.Pm} {i c:Nat} {k:D.Tk} (ht:AtT m i c k) (hS:r.S=m.S) (hC:r.C=m.C) (p:Int):D.point r i p={ r with C:=m.C.set c { m.C.getD c D.ca0 with pt:=p } }:=by
 unfold D.point;rw [hS,hC,ht.la];rfl
set_option maxRecDepth 100000 in
set_option maxHeartbeats 2000000 in
theorem push2y_own (w:World) (E:Env) (m:D.Pm) (i c:Nat) (b t v:Int) (got:Bool) (ht:AtT m i c ⟨0,2,b,t,v,got⟩) (hq:D.i64 (b - D.i64 (D.wd m 0))≥m.room) (h:Handed w E 11 (dO nz0 i c m) []) :
  Calls Try.prog 88 (([.c (.ptr (7,i,0) 0),.c (.ptr (10,0,0) 0)]:List SV).map (SV.den E)).toArray w (EffR w E 11 (takesO E (dO nz0 i c m)) (.c (.v (.bool (D.taskT m i ⟨0,2,b,t,v,got⟩).2.2))) 2 fun b'=>killO [3,4]++dO ⟨b',b' + 1,6,7⟩ i c (tskM m i (D.taskT m i ⟨0,2,b,t,v,got⟩))):=by
 have hwl:=ht.wl
 refine enterO (c:=ir88) (rs:=rs88) (nt:=nt88) h _ Try.func88 rfl (by kernel_rfl) (by kernel_rfl) rfl (by simp [okVs,SV.okN,SC.okN]) (of_decide_eq_true rfl) ?_
 have heq:D.taskT m i ⟨0,2,b,t,v,got⟩=(D.ans ({ logd { m with us:=true } ⟨m.mm,m.th,1,0,0,0,D.wd m (0)⟩ (D.wd m (0)) with C:=m.C.set c { m.C.getD c D.ca0 with pt:=m.nw } }) i 4 0,⟨0,2,b,t,v,got⟩,true):=by
  simp only [D.taskT,D.pushT,if_true,if_false,Nat.reduceEqDiff]
  rw [D.ld_ok ht.us (Int.le_refl 0) (by omega)]
  simp only [if_pos hq]
  exact congrArg (fun x=>(D.ans x i 4 0,(⟨0,2,b,t,v,got⟩:D.Tk),true)) (pt_at (r:=logd { m with us:=true } ⟨m.mm,m.th,1,0,0,0,D.wd m (0)⟩ (D.wd m (0))) ht rfl rfl _)
 rw [heq]
 generalize hR:EffR w E 11 (takesO E (dO nz0 i c m)) _ 2 _=R
 generalize hW:takesO E (dO nz0 i c m)=W
 have hf:=ht.f
 simp only [tkC,nextC,tkTy,iI] at hf
 have hi:=ht.hi
 simp (maxSteps:=2000000) only [ir88,nt88,rs88,go_sem,↓runOp,↓reduceIte,Nat.reduceLT,Nat.reduceEqDiff,reduceCtorEq,dO,mO,nz0,bkM,bkY,hubC,iI,hf]
 refine And.intro hi (And.intro ⟨_,Try.func92,by kernel_rfl,by kernel_rfl⟩ ?_)
 refine call_inline (c:=ir92) (rs:=rs92) (nt:=nt92) 1000 (mkTab_ok _ _) Try.func92 rfl (by kernel_rfl) (by kernel_rfl) rfl (by simp [okVs,SV.okN,SC.okN]) (of_decide_eq_true rfl) (fun E0 a0 ht0=>?_)
 simp (maxSteps:=2000000) only [ir92,nt92,rs92,go_sem,↓runOp,↓reduceIte,Nat.reduceLT,Nat.reduceEqDiff,reduceCtorEq]
 have hd:decide (D.i64 (b - D.i64 (D.wd m 0))≥m.room)=true:=decide_eq_true hq
 refine draw_vc (by kernel_rfl) (mkTab_ok _ _) (of_decide_eq_true rfl) (of_decide_eq_true rfl) ?_
 repeat (first | simp (maxSteps:=2000000) only [go_sem,↓gateD,↓runD,↓reduceIte,Nat.reduceLT,Nat.reduceEqDiff,reduceCtorEq,hf] | rw [dr_cons])
 repeat (with_reducible refine And.intro (by first | exact hi | exact Or.inr trivial | exact Or.inl trivial) ?_)
 refine dcall_intro (crA (i:=i) (c:=c) (m:=m) (m':=logd { m with us:=true } ⟨m.mm,m.th,1,0,0,0,D.wd m (0)⟩ (D.wd m (0))) (Nat.le_refl _) (ain0 rfl rfl rfl rfl rfl rfl) (fun E w h=>dload_at ht (a:=0) (by decide) (by omega) h)) rfl trivial ?_ ?_ ?_
 ·simp [wrOk,killO,aO,wrFree,wkImp,nth,memB,look]
 ·intro k hk hlt
  simp only [killO,aO,keysL,List.map_cons,List.map_nil,List.cons_append,List.nil_append,List.mem_cons,List.not_mem_nil,or_false] at hk
  have hlt:k<11:=hlt
  rcases hk with rfl | rfl | rfl | rfl | rfl | rfl | rfl | rfl <;> first | rfl | omega
 repeat (first | simp (maxSteps:=2000000) only [go_sem,↓gateD,↓runD,↓reduceIte,Nat.reduceLT,Nat.reduceAdd,Nat.reduceEqDiff,reduceCtorEq,killO,aO,bkM,bkY,iI,logd] | rw [dr_cons])
 refine dcallV (.c (.v (.int .i64 (D.i64 (D.wd m 0))))) _ (fun E=>rfl) (fun E a w' hs=>value_calls w' _) ?_
 repeat (first | simp (maxSteps:=2000000) only [go_sem,↓condS,↓runOp,↓gateD,↓runD,↓imp_tf,↓imp_tt,↓reduceIte,Nat.reduceLT,Nat.reduceEqDiff,reduceCtorEq,hf,hd] | rw [dr_cons])
 repeat (with_reducible refine And.intro (by first | exact hi | exact Or.inr trivial | exact Or.inl trivial) ?_)
 refine call_inline (c:=ir96) (rs:=rs96) (nt:=nt96) 1000 (mkTab_ok _ _) Try.func96 rfl (by kernel_rfl) (by kernel_rfl) rfl (by simp [okVs,SV.okN,SC.okN]) (of_decide_eq_true rfl) (fun E1 a1 ht1=>?_)
 simp (maxSteps:=2000000) only [ir96,nt96,rs96,go_sem,↓condS,↓gateS,↓runOp,↓reduceIte,Nat.reduceLT,Nat.reduceEqDiff,reduceCtorEq]
 refine retI ht1 _ rfl (of_decide_eq_true rfl) (by simp [SV.okN,SC.okN]) ?_
 simp (maxSteps:=2000000) only [go_sem,↓runOp,↓reduceIte,Nat.reduceLT,Nat.reduceEqDiff,reduceCtorEq]
 refine call_inline (c:=ir95) (rs:=rs95) (nt:=nt95) 1000 (mkTab_ok _ _) Try.func95 rfl (by kernel_rfl) (by kernel_rfl) rfl (by simp [okVs,SV.okN,SC.okN]) (of_decide_eq_true rfl) (fun E1 a1 ht1=>?_)
 simp (maxSteps:=2000000) only [ir95,nt95,rs95,go_sem,↓condS,↓gateS,↓runOp,↓reduceIte,Nat.reduceLT,Nat.reduceLeDiff,Nat.reduceAdd,Nat.reduceEqDiff,reduceCtorEq,ats_C,iI]
 refine And.intro ht.hc ?_
 refine retI ht1 _ rfl (of_decide_eq_true rfl) (by simp [SV.okN,ok1L]) ?_
 simp (maxSteps:=2000000) only [go_sem,↓runOp,↓reduceIte,Nat.reduceLT,Nat.reduceEqDiff,reduceCtorEq]
 refine call_inline (c:=ir97) (rs:=rs97) (nt:=nt97) 1000 (mkTab_ok _ _) Try.func97 rfl (by kernel_rfl) (by kernel_rfl) rfl (by simp [okVs,SV.okN,SC.okN]) (of_decide_eq_true rfl) (fun E1 a1 ht1=>?_)
 simp (maxSteps:=2000000) only [ir97,nt97,rs97,go_sem,↓runOp,↓reduceIte,Nat.reduceLT,Nat.reduceLeDiff,Nat.reduceAdd,Nat.reduceEqDiff,reduceCtorEq]
 refine call_inline (c:=ir102) (rs:=rs102) (nt:=nt102) 1000 (mkTab_ok _ _) Try.func102 rfl (by kernel_rfl) (by kernel_rfl) rfl (by simp [okVs,SV.okN,SC.okL,SC.okN]) (of_decide_eq_true rfl) (fun E2 a2 ht2=>?_)
 simp (maxSteps:=2000000) only [ir102,nt102,rs102,go_sem,↓condS,↓gateS,↓runOp,↓reduceIte,Nat.reduceLT,Nat.reduceAdd,Nat.reduceEqDiff,reduceCtorEq]
 refine draw_vc (by kernel_rfl) (mkTab_ok _ _) (of_decide_eq_true rfl) (of_decide_eq_true rfl) ?_
 repeat (first | simp (maxSteps:=2000000) only [go_sem,↓gateD,↓runD,↓reduceIte,Nat.reduceLT,Nat.reduceLeDiff,Nat.reduceAdd,Nat.reduceEqDiff,reduceCtorEq,seC] | rw [dr_cons])
 repeat (with_reducible refine And.intro (by first | exact hi | exact Or.inr trivial | exact Or.inl trivial) ?_)
 refine retI ht2 _ rfl (of_decide_eq_true rfl) (by simp [SV.okN,ok1L]) ?_
 simp (maxSteps:=2000000) only [go_sem,↓runOp,↓reduceIte,Nat.reduceLT,Nat.reduceEqDiff,reduceCtorEq]
 refine retI ht1 _ rfl (of_decide_eq_true rfl) (by simp [SV.okN,SC.okN]) ?_
 simp (maxSteps:=2000000) only [go_sem,↓runOp,↓reduceIte,Nat.reduceLT,Nat.reduceEqDiff]
 refine retI ht0 _ rfl (of_decide_eq_true rfl) (by simp [SV.okN,SC.okN]) ?_
 simp (maxSteps:=2000000) only [go_sem,↓runOp,↓reduceIte,Nat.reduceLT,Nat.reduceEqDiff,reduceCtorEq,mkO_rs]
 rw [← hR,← hW]
 exact retTA (p:=11) (q:=12) ht rfl rfl rfl (by simp) (fun E=>rfl) (by simp [look,bkM,iI,logd]) rfl ⟨_,_,rfl,Nat.le_refl _,fun _ _=>rfl⟩ rfl rfl ⟨_,rfl,_,rfl,by simp [iI]⟩ ⟨_,_,rfl,by simp,ats_set ht.hc (by simp [D.Ca.enc])⟩ ⟨_,rfl,fun x=>by by_cases q:x=i <;> simp [q,tkC,nextC,tkTy,iI,hf]⟩ rfl rfl
set_option maxRecDepth 100000 in
set_option maxHeartbeats 2000000 in
theorem push2n_own (w:World) (E:Env) (m:D.Pm) (i c:Nat) (b t v:Int) (got:Bool) (ht:AtT m i c ⟨0,2,b,t,v,got⟩) (hq:¬ D.i64 (b - D.i64 (D.wd m 0))≥m.room) (h:Handed w E 11 (dO nz0 i c m) []) :
  Calls Try.prog 88 (([.c (.ptr (7,i,0) 0),.c (.ptr (10,0,0) 0)]:List SV).map (SV.den E)).toArray w (EffR w E 11 (takesO E (dO nz0 i c m)) (.c (.v (.bool (D.taskT m i ⟨0,2,b,t,v,got⟩).2.2))) 2 fun b'=>killO [3,4]++dO ⟨b',b' + 1,6,7⟩ i c (tskM m i (D.taskT m i ⟨0,2,b,t,v,got⟩))):=by
 have hwl:=ht.wl
 refine enterO (c:=ir88) (rs:=rs88) (nt:=nt88) h _ Try.func88 rfl (by kernel_rfl) (by kernel_rfl) rfl (by simp [okVs,SV.okN,SC.okN]) (of_decide_eq_true rfl) ?_
 have heq:D.taskT m i ⟨0,2,b,t,v,got⟩=(logd { m with us:=true } ⟨m.mm,m.th,1,0,0,0,D.wd m (0)⟩ (D.wd m (0)),⟨0,3,b,t,v,got⟩,false):=by
  simp only [D.taskT,D.pushT,if_true,if_false,Nat.reduceEqDiff]
  rw [D.ld_ok ht.us (Int.le_refl 0) (by omega)]
  simp only [if_neg hq]
  rfl
 rw [heq]
 generalize hR:EffR w E 11 (takesO E (dO nz0 i c m)) _ 2 _=R
 generalize hW:takesO E (dO nz0 i c m)=W
 have hf:=ht.f
 simp only [tkC,nextC,tkTy,iI] at hf
 have hi:=ht.hi
 simp (maxSteps:=2000000) only [ir88,nt88,rs88,go_sem,↓runOp,↓reduceIte,Nat.reduceLT,Nat.reduceEqDiff,reduceCtorEq,dO,mO,nz0,bkM,bkY,hubC,iI,hf]
 refine And.intro hi (And.intro ⟨_,Try.func92,by kernel_rfl,by kernel_rfl⟩ ?_)
 refine call_inline (c:=ir92) (rs:=rs92) (nt:=nt92) 1000 (mkTab_ok _ _) Try.func92 rfl (by kernel_rfl) (by kernel_rfl) rfl (by simp [okVs,SV.okN,SC.okN]) (of_decide_eq_true rfl) (fun E0 a0 ht0=>?_)
 simp (maxSteps:=2000000) only [ir92,nt92,rs92,go_sem,↓runOp,↓reduceIte,Nat.reduceLT,Nat.reduceEqDiff,reduceCtorEq]
 have hd:decide (D.i64 (b - D.i64 (D.wd m 0))≥m.room)=false:=decide_eq_false hq
 refine draw_vc (by kernel_rfl) (mkTab_ok _ _) (of_decide_eq_true rfl) (of_decide_eq_true rfl) ?_
 repeat (first | simp (maxSteps:=2000000) only [go_sem,↓gateD,↓runD,↓reduceIte,Nat.reduceLT,Nat.reduceEqDiff,reduceCtorEq,hf] | rw [dr_cons])
 repeat (with_reducible refine And.intro (by first | exact hi | exact Or.inr trivial | exact Or.inl trivial) ?_)
 refine dcall_intro (crA (i:=i) (c:=c) (m:=m) (m':=logd { m with us:=true } ⟨m.mm,m.th,1,0,0,0,D.wd m (0)⟩ (D.wd m (0))) (Nat.le_refl _) (ain0 rfl rfl rfl rfl rfl rfl) (fun E w h=>dload_at ht (a:=0) (by decide) (by omega) h)) rfl trivial ?_ ?_ ?_
 ·simp [wrOk,killO,aO,wrFree,wkImp,nth,memB,look]
 ·intro k hk hlt
  simp only [killO,aO,keysL,List.map_cons,List.map_nil,List.cons_append,List.nil_append,List.mem_cons,List.not_mem_nil,or_false] at hk
  have hlt:k<11:=hlt
  rcases hk with rfl | rfl | rfl | rfl | rfl | rfl | rfl | rfl <;> first | rfl | omega
 repeat (first | simp (maxSteps:=2000000) only [go_sem,↓gateD,↓runD,↓reduceIte,Nat.reduceLT,Nat.reduceAdd,Nat.reduceEqDiff,reduceCtorEq,killO,aO,bkM,bkY,iI,logd] | rw [dr_cons])
 refine dcallV (.c (.v (.int .i64 (D.i64 (D.wd m 0))))) _ (fun E=>rfl) (fun E a w' hs=>value_calls w' _) ?_
 repeat (first | simp (maxSteps:=2000000) only [go_sem,↓condS,↓runOp,↓gateD,↓runD,↓imp_ft,↓imp_ff,↓reduceIte,Nat.reduceLT,Nat.reduceLeDiff,Nat.reduceAdd,Nat.reduceEqDiff,reduceCtorEq,hf,hd] | rw [dr_cons])
 repeat (with_reducible refine And.intro (by first | exact hi | exact Or.inr trivial | exact Or.inl trivial) ?_)
 refine retI ht0 _ rfl (of_decide_eq_true rfl) (by simp [SV.okN,SC.okN]) ?_
 simp (maxSteps:=2000000) only [go_sem,↓runOp,↓reduceIte,Nat.reduceLT,Nat.reduceEqDiff,reduceCtorEq,mkO_rs]
 rw [← hR,← hW]
 exact retT (p:=11) (q:=12) ht rfl rfl rfl (by simp) (fun E=>rfl) rfl rfl ⟨_,_,rfl,Nat.le_refl _,fun _ _=>rfl⟩ rfl rfl rfl ⟨_,_,rfl,Nat.le_refl _,fun _ _=>rfl⟩ ⟨_,rfl,fun x=>by by_cases q:x=i <;> simp [q,tkC,nextC,tkTy,iI]⟩ rfl rfl
set_option maxRecDepth 100000 in
set_option maxHeartbeats 2000000 in
theorem push3_own (w:World) (E:Env) (m:D.Pm) (i c:Nat) (b t v:Int) (got:Bool) (ht:AtT m i c ⟨0,3,b,t,v,got⟩) (h0:0≤D.cellA m b) (h1:D.cellA m b<m.W.length) (hr:m.room≠0) (h:Handed w E 11 (dO nz0 i c m) []) :
  Calls Try.prog 88 (([.c (.ptr (7,i,0) 0),.c (.ptr (10,0,0) 0)]:List SV).map (SV.den E)).toArray w (EffR w E 11 (takesO E (dO nz0 i c m)) (.c (.v (.bool (D.taskT m i ⟨0,3,b,t,v,got⟩).2.2))) 2 fun b'=>killO [3,4]++dO ⟨b',b' + 1,6,7⟩ i c (tskM m i (D.taskT m i ⟨0,3,b,t,v,got⟩))):=by
 have hwl:=ht.wl
 refine enterO (c:=ir88) (rs:=rs88) (nt:=nt88) h _ Try.func88 rfl (by kernel_rfl) (by kernel_rfl) rfl (by simp [okVs,SV.okN,SC.okN]) (of_decide_eq_true rfl) ?_
 have heq:D.taskT m i ⟨0,3,b,t,v,got⟩=({ logd { m with us:=true } ⟨m.mm,m.th,2,D.cellA m b,0,D.u64 v,0⟩ (D.wd m (D.cellA m b)) with W:=m.W.set (D.cellA m b:Int).toNat (D.u64 v) },⟨0,4,b,t,v,got⟩,false):=by
  simp only [D.taskT,D.pushT,if_true,if_false,Nat.reduceEqDiff]
  rw [D.st_ok ht.us h0 h1]
  rfl
 rw [heq]
 generalize hR:EffR w E 11 (takesO E (dO nz0 i c m)) _ 2 _=R
 generalize hW:takesO E (dO nz0 i c m)=W
 have hf:=ht.f
 simp only [tkC,nextC,tkTy,iI] at hf
 have hi:=ht.hi
 simp (maxSteps:=2000000) only [ir88,nt88,rs88,go_sem,↓runOp,↓reduceIte,Nat.reduceLT,Nat.reduceEqDiff,reduceCtorEq,dO,mO,nz0,bkM,bkY,hubC,iI,hf]
 refine And.intro hi (And.intro ⟨_,Try.func98,by kernel_rfl,by kernel_rfl⟩ ?_)
 refine call_inline (c:=ir98) (rs:=rs98) (nt:=nt98) 1000 (mkTab_ok _ _) Try.func98 rfl (by kernel_rfl) (by kernel_rfl) rfl (by simp [okVs,SV.okN,SC.okN]) (of_decide_eq_true rfl) (fun E0 a0 ht0=>?_)
 simp (maxSteps:=2000000) only [ir98,nt98,rs98,go_sem,↓runOp,↓reduceIte,Nat.reduceLT,Nat.reduceEqDiff,reduceCtorEq]
 refine draw_vc (by kernel_rfl) (mkTab_ok _ _) (of_decide_eq_true rfl) (of_decide_eq_true rfl) ?_
 repeat (first | simp (maxSteps:=2000000) only [go_sem,↓gateD,↓runD,↓reduceIte,Nat.reduceLT,Nat.reduceEqDiff,reduceCtorEq,hf] | rw [dr_cons])
 repeat (with_reducible refine And.intro (by first | exact hi | exact Or.inr trivial | exact Or.inl trivial) ?_)
 refine dcallV (.c (.v (.int .i64 (D.cellA m (b))))) _ (fun E=>rfl) (fun E a w' hs=>cell_at hs (x:=(7,i,0)) (p:=i<m.S.length∧True) (by simp only [pkN,look,Fm.pk,Nat.reduceEqDiff,if_true,if_false,hf];rfl) ⟨hi,trivial⟩ rfl hr (b) (fun E u hu=>by simp only [List.mem_cons,List.not_mem_nil,or_false] at hu;first | (rcases hu with rfl | rfl | rfl | rfl | rfl <;> simp [SC.den,Value.oneCell'];done) | (rcases hu with rfl | rfl | rfl | rfl <;> simp [SC.den,Value.oneCell',iI])) (fun E u hu=>by simp only [List.mem_cons,List.not_mem_nil,or_false] at hu;rcases hu with rfl | rfl | rfl | rfl <;> simp [SC.den,Value.oneCell'])) ?_
 repeat (first | simp (maxSteps:=2000000) only [go_sem,↓gateD,↓runD,↓reduceIte,Nat.reduceLT,Nat.reduceEqDiff,reduceCtorEq,hf] | rw [dr_cons])
 repeat (with_reducible refine And.intro (by first | exact hi | exact Or.inr trivial | exact Or.inl trivial) ?_)
 refine dcallV (.c (.v (.int .u64 (D.u64 (v))))) _ (fun E=>rfl) (fun E a w' hs=>number_calls w' _) ?_
 repeat (first | simp (maxSteps:=2000000) only [go_sem,↓gateD,↓runD,↓reduceIte,Nat.reduceLT,Nat.reduceEqDiff,reduceCtorEq] | rw [dr_cons])
 refine dcall_intro (crA (i:=i) (c:=c) (m:=m) (m':={ logd { m with us:=true } ⟨m.mm,m.th,2,D.cellA m b,0,D.u64 v,0⟩ (D.wd m (D.cellA m b)) with W:=m.W.set (D.cellA m b:Int).toNat (D.u64 v) }) (Nat.le_refl _) (ain0 rfl rfl rfl rfl rfl rfl) (fun E w h=>dstore_at ht (a:=D.cellA m b) (v:=D.u64 v) h0 h1 h)) rfl trivial ?_ ?_ ?_
 ·simp [wrOk,killO,aO,wrFree,wkImp]
 ·intro k hk hlt
  simp only [killO,aO,keysL,List.map_cons,List.map_nil,List.cons_append,List.nil_append,List.mem_cons,List.not_mem_nil,or_false] at hk
  have hlt:k<11:=hlt
  rcases hk with rfl | rfl | rfl | rfl | rfl | rfl | rfl | rfl <;> first | rfl | omega
 repeat (first | simp (maxSteps:=2000000) only [go_sem,↓runOp,↓reduceIte,Nat.reduceLT,Nat.reduceLeDiff,Nat.reduceAdd,Nat.reduceEqDiff,reduceCtorEq,killO,aO,bkM,bkY,iI,logd,hf] | rw [dr_cons])
 repeat (with_reducible refine And.intro (by first | exact hi | exact Or.inr trivial | exact Or.inl trivial) ?_)
 refine retI ht0 _ rfl (of_decide_eq_true rfl) (by simp [SV.okN,SC.okN]) ?_
 simp (maxSteps:=2000000) only [go_sem,↓runOp,↓reduceIte,Nat.reduceLT,Nat.reduceEqDiff,reduceCtorEq,mkO_rs]
 rw [← hR,← hW]
 exact retT (p:=11) (q:=12) ht rfl rfl rfl (by simp) (fun E=>rfl) rfl rfl ⟨_,_,rfl,Nat.le_refl _,fun _ _=>rfl⟩ rfl rfl rfl ⟨_,_,rfl,Nat.le_refl _,fun _ _=>rfl⟩ ⟨_,rfl,fun x=>by by_cases q:x=i <;> simp [q,tkC,nextC,tkTy,iI]⟩ rfl rfl
set_option maxRecDepth 100000 in
set_option maxHeartbeats 2000000 in
theorem push4_own (w:World) (E:Env) (m:D.Pm) (i c:Nat) (b t v:Int) (got:Bool) (ht:AtT m i c ⟨0,4,b,t,v,got⟩) (h:Handed w E 11 (dO nz0 i c m) []) :
  Calls Try.prog 88 (([.c (.ptr (7,i,0) 0),.c (.ptr (10,0,0) 0)]:List SV).map (SV.den E)).toArray w (EffR w E 11 (takesO E (dO nz0 i c m)) (.c (.v (.bool (D.taskT m i ⟨0,4,b,t,v,got⟩).2.2))) 2 fun b'=>killO [3,4]++dO ⟨b',b' + 1,6,7⟩ i c (tskM m i (D.taskT m i ⟨0,4,b,t,v,got⟩))):=by
 have hwl:=ht.wl
 refine enterO (c:=ir88) (rs:=rs88) (nt:=nt88) h _ Try.func88 rfl (by kernel_rfl) (by kernel_rfl) rfl (by simp [okVs,SV.okN,SC.okN]) (of_decide_eq_true rfl) ?_
 have heq:D.taskT m i ⟨0,4,b,t,v,got⟩=(D.ans ({ { logd { m with us:=true } ⟨m.mm,m.th,2,1,0,D.u64 (D.i64 (b+1)),0⟩ (D.wd m (1)) with W:=m.W.set (1:Int).toNat (D.u64 (D.i64 (b+1))) } with C:=m.C.set c { m.C.getD c D.ca0 with pt:=m.nw } }) i 1 0,⟨0,4,b,t,v,got⟩,true):=by
  simp only [D.taskT,D.pushT,if_true,if_false,Nat.reduceEqDiff]
  rw [D.st_ok ht.us (by decide) (by omega)]
  exact congrArg (fun x=>(D.ans x i 1 0,(⟨0,4,b,t,v,got⟩:D.Tk),true)) (pt_at (r:={ logd { m with us:=true } ⟨m.mm,m.th,2,1,0,D.u64 (D.i64 (b+1)),0⟩ (D.wd m (1)) with W:=m.W.set (1:Int).toNat (D.u64 (D.i64 (b+1))) }) ht rfl rfl _)
 rw [heq]
 generalize hR:EffR w E 11 (takesO E (dO nz0 i c m)) _ 2 _=R
 generalize hW:takesO E (dO nz0 i c m)=W
 have hf:=ht.f
 simp only [tkC,nextC,tkTy,iI] at hf
 have hi:=ht.hi
 simp (maxSteps:=2000000) only [ir88,nt88,rs88,go_sem,↓runOp,↓reduceIte,Nat.reduceLT,Nat.reduceEqDiff,reduceCtorEq,dO,mO,nz0,bkM,bkY,hubC,iI,hf]
 refine And.intro hi (And.intro ⟨_,Try.func105,by kernel_rfl,by kernel_rfl⟩ ?_)
 refine call_inline (c:=ir105) (rs:=rs105) (nt:=nt105) 1000 (mkTab_ok _ _) Try.func105 rfl (by kernel_rfl) (by kernel_rfl) rfl (by simp [okVs,SV.okN,SC.okN]) (of_decide_eq_true rfl) (fun E0 a0 ht0=>?_)
 simp (maxSteps:=2000000) only [ir105,nt105,rs105,go_sem,↓runOp,↓reduceIte,Nat.reduceLT,Nat.reduceEqDiff,reduceCtorEq,hf]
 repeat (with_reducible refine And.intro (by first | exact hi | exact Or.inr trivial | exact Or.inl trivial) ?_)
 refine callV (.c (.v (.int .u64 (D.u64 (D.i64 (b+1)))))) _ (fun E=>rfl) (fun E a w' hs=>number_calls w' _) ?_
 simp (maxSteps:=2000000) only [go_sem,↓runOp,↓reduceIte,Nat.reduceLT,Nat.reduceEqDiff,reduceCtorEq]
 refine call_intro (crA (i:=i) (c:=c) (m:=m) (m':={ logd { m with us:=true } ⟨m.mm,m.th,2,1,0,D.u64 (D.i64 (b+1)),0⟩ (D.wd m (1)) with W:=m.W.set (1:Int).toNat (D.u64 (D.i64 (b+1))) }) (Nat.le_refl _) (ain0 rfl rfl rfl rfl rfl rfl) (fun E w h=>dstore_at ht (a:=1) (v:=D.u64 (D.i64 (b+1))) (by decide) (by omega) h)) (lt11 (Nat.le_refl _)) ?_
 simp (maxSteps:=2000000) only [go_sem,↓runOp,↓reduceIte,Nat.reduceLT,Nat.reduceAdd,Nat.reduceEqDiff,reduceCtorEq,Int.reduceToNat,killO,aO,bkM,bkY,iI,logd]
 refine call_inline (c:=ir96) (rs:=rs96) (nt:=nt96) 1000 (mkTab_ok _ _) Try.func96 rfl (by kernel_rfl) (by kernel_rfl) rfl (by simp [okVs,SV.okN,SC.okN]) (of_decide_eq_true rfl) (fun E1 a1 ht1=>?_)
 simp (maxSteps:=2000000) only [ir96,nt96,rs96,go_sem,↓condS,↓gateS,↓runOp,↓reduceIte,Nat.reduceLT,Nat.reduceEqDiff,reduceCtorEq]
 refine retI ht1 _ rfl (of_decide_eq_true rfl) (by simp [SV.okN,SC.okN]) ?_
 simp (maxSteps:=2000000) only [go_sem,↓runOp,↓reduceIte,Nat.reduceLT,Nat.reduceEqDiff]
 refine call_inline (c:=ir95) (rs:=rs95) (nt:=nt95) 1000 (mkTab_ok _ _) Try.func95 rfl (by kernel_rfl) (by kernel_rfl) rfl (by simp [okVs,SV.okN,SC.okN]) (of_decide_eq_true rfl) (fun E1 a1 ht1=>?_)
 simp (maxSteps:=2000000) only [ir95,nt95,rs95,go_sem,↓condS,↓gateS,↓runOp,↓reduceIte,Nat.reduceLT,Nat.reduceLeDiff,Nat.reduceAdd,Nat.reduceEqDiff,reduceCtorEq,ats_C,iI]
 refine And.intro ht.hc ?_
 refine retI ht1 _ rfl (of_decide_eq_true rfl) (by simp [SV.okN,ok1L]) ?_
 simp (maxSteps:=2000000) only [go_sem,↓runOp,↓reduceIte,Nat.reduceLT,Nat.reduceEqDiff]
 refine call_inline (c:=ir97) (rs:=rs97) (nt:=nt97) 1000 (mkTab_ok _ _) Try.func97 rfl (by kernel_rfl) (by kernel_rfl) rfl (by simp [okVs,SV.okN,SC.okN]) (of_decide_eq_true rfl) (fun E1 a1 ht1=>?_)
 simp (maxSteps:=2000000) only [ir97,nt97,rs97,go_sem,↓runOp,↓reduceIte,Nat.reduceLT,Nat.reduceLeDiff,Nat.reduceAdd,Nat.reduceEqDiff,reduceCtorEq]
 refine call_inline (c:=ir102) (rs:=rs102) (nt:=nt102) 1000 (mkTab_ok _ _) Try.func102 rfl (by kernel_rfl) (by kernel_rfl) rfl (by simp [okVs,SV.okN,SC.okL,SC.okN]) (of_decide_eq_true rfl) (fun E2 a2 ht2=>?_)
 simp (maxSteps:=2000000) only [ir102,nt102,rs102,go_sem,↓condS,↓gateS,↓runOp,↓reduceIte,Nat.reduceLT,Nat.reduceAdd,Nat.reduceEqDiff,reduceCtorEq]
 refine draw_vc (by kernel_rfl) (mkTab_ok _ _) (of_decide_eq_true rfl) (of_decide_eq_true rfl) ?_
 repeat (first | simp (maxSteps:=2000000) only [go_sem,↓gateD,↓runD,↓reduceIte,Nat.reduceLT,Nat.reduceLeDiff,Nat.reduceAdd,Nat.reduceEqDiff,reduceCtorEq,seC] | rw [dr_cons])
 repeat (with_reducible refine And.intro (by first | exact hi | exact Or.inr trivial | exact Or.inl trivial) ?_)
 refine retI ht2 _ rfl (of_decide_eq_true rfl) (by simp [SV.okN,ok1L]) ?_
 simp (maxSteps:=2000000) only [go_sem,↓runOp,↓reduceIte,Nat.reduceLT,Nat.reduceEqDiff,reduceCtorEq]
 refine retI ht1 _ rfl (of_decide_eq_true rfl) (by simp [SV.okN,SC.okN]) ?_
 simp (maxSteps:=2000000) only [go_sem,↓runOp,↓reduceIte,Nat.reduceLT,Nat.reduceEqDiff]
 refine retI ht0 _ rfl (of_decide_eq_true rfl) (by simp [SV.okN,SC.okN]) ?_
 simp (maxSteps:=2000000) only [go_sem,↓runOp,↓reduceIte,Nat.reduceLT,Nat.reduceEqDiff,reduceCtorEq,mkO_rs]
 rw [← hR,← hW]
 exact retTA (p:=11) (q:=12) ht rfl rfl rfl (by simp) (fun E=>rfl) (by simp [look,bkM,iI,logd]) rfl ⟨_,_,rfl,Nat.le_refl _,fun _ _=>rfl⟩ rfl rfl ⟨_,rfl,_,rfl,by simp [iI]⟩ ⟨_,_,rfl,by simp,ats_set ht.hc (by simp [D.Ca.enc])⟩ ⟨_,rfl,fun x=>by by_cases q:x=i <;> simp [q,tkC,nextC,tkTy,iI,hf]⟩ rfl rfl
end Go.Proofs.Ytcloeignccpljaa.Z
namespace Go.Proofs.Ytcloeignccpljaa.Z
open Go Go.RowKit
def ir108:IR:=(.seq (.ops [⟨(some 4),(.mv (.k (.c (.v (.bool false))))),none⟩]) (.kill [2,3,4,5,6,7,8,9,10,11] (.seq (.ops [⟨(some 5),(.mv (.t 0)),none⟩,⟨(some 6),(.mv (.t 1)),none⟩,⟨(some 7),(.call 91 [(.t 6),(.k (.c (.v (.int .i64 1))))]),none⟩,⟨(some 8),(.call 32 [(.t 7)]),none⟩,⟨(some 9),(.bin .sub (.t 8) (.k (.c (.v (.int .i64 1))))),none⟩,⟨(some 10),(.nilck (.t 5)),none⟩,⟨(some 11),(.fa 0 (.t 10)),none⟩,⟨(some 12),(.fa 2 (.t 11)),none⟩,⟨none,(.st 1 (.t 12) (.t 9)),none⟩]) (.kill [1,5,6,7,8,9,10,11,12] (.seq (.ops [⟨(some 13),(.mv (.t 0)),none⟩,⟨(some 14),(.mv (.t 0)),none⟩,⟨(some 15),(.mfn (.func 109) [(.t 14)] []),none⟩,⟨(some 16),(.nilck (.t 13)),none⟩,⟨(some 17),(.fa 0 (.t 16)),none⟩,⟨(some 18),(.fa 1 (.t 17)),none⟩,⟨none,(.st 1 (.t 18) (.t 15)),none⟩]) (.kill [0,13,14,15,16,17,18] (.seq (.ops [⟨(some 4),(.mv (.k (.c (.v (.bool false))))),none⟩]) .ret)))))))
def rs108:List RS:=[(.t 4)]
def nt108:Nat:=19
def ir110:IR:=(.seq (.ops [⟨(some 4),(.mv (.k (.c (.v (.bool false))))),none⟩]) (.kill [2,3,4,5,6,7,8,9,10,11] (.seq (.ops [⟨(some 5),(.mv (.t 0)),none⟩,⟨(some 6),(.mv (.t 1)),none⟩,⟨(some 7),(.call 91 [(.t 6),(.k (.c (.v (.int .i64 0))))]),none⟩,⟨(some 8),(.call 32 [(.t 7)]),none⟩,⟨(some 9),(.nilck (.t 5)),none⟩,⟨(some 10),(.fa 0 (.t 9)),none⟩,⟨(some 11),(.fa 3 (.t 10)),none⟩,⟨none,(.st 1 (.t 11) (.t 8)),none⟩]) (.kill [5,6,7,8,9,10,11] (.seq (.ops [⟨(some 12),(.mv (.t 0)),none⟩,⟨(some 13),(.mv (.t 0)),none⟩,⟨(some 14),(.mfn (.func 111) [(.t 13)] []),none⟩,⟨(some 15),(.nilck (.t 12)),none⟩,⟨(some 16),(.fa 0 (.t 15)),none⟩,⟨(some 17),(.fa 1 (.t 16)),none⟩,⟨none,(.st 1 (.t 17) (.t 14)),none⟩]) (.kill [12,13,14,15,16,17] (.seq (.seq (.draw [(⟨(some 18),(.mv (.t 0)),none⟩,([],[23,24,25,26,27])),(⟨(some 19),(.nilck (.t 18)),none⟩,([],[23,24,25,26,27])),(⟨(some 20),(.fa 0 (.t 19)),none⟩,([],[23,24,25,26,27])),(⟨(some 21),(.fa 2 (.t 20)),none⟩,([],[23,24,25,26,27])),(⟨(some 22),(.ld false 1 (.t 21)),none⟩,([],[23,24,25,26,27])),(⟨(some 23),(.mv (.t 0)),none⟩,([0,1,2,3,4],[18,19,20,21,22])),(⟨(some 24),(.nilck (.t 23)),none⟩,([0,1,2,3,4],[18,19,20,21,22])),(⟨(some 25),(.fa 0 (.t 24)),none⟩,([0,1,2,3,4],[18,19,20,21,22])),(⟨(some 26),(.fa 3 (.t 25)),none⟩,([0,1,2,3,4],[18,19,20,21,22])),(⟨(some 27),(.ld false 1 (.t 26)),none⟩,([0,1,2,3,4],[18,19,20,21,22])),(⟨(some 28),(.bin .lss (.t 22) (.t 27)),none⟩,([],[]))]) (.kill [18,19,20,21,22,23,24,25,26,27] (.cond (.t 28) (.seq (.ops [⟨(some 29),(.mv (.t 1)),none⟩,⟨(some 30),(.mv (.t 1)),none⟩,⟨(some 31),(.call 96 [(.t 30)]),none⟩,⟨(some 32),(.call 95 [(.t 29),(.t 31)]),none⟩]) (.kill [1,28,29,30,31,32] (.ops [⟨(some 33),(.mv (.t 0)),none⟩,⟨(some 34),(.mv (.t 0)),none⟩,⟨(some 35),(.mfn (.func 112) [(.t 34)] []),none⟩,⟨(some 36),(.nilck (.t 33)),none⟩,⟨(some 37),(.fa 0 (.t 36)),none⟩,⟨(some 38),(.fa 1 (.t 37)),none⟩,⟨none,(.st 1 (.t 38) (.t 35)),none⟩]))) .skip))) (.kill [0,1,28,33,34,35,36,37,38] (.seq (.ops [⟨(some 4),(.mv (.k (.c (.v (.bool false))))),none⟩]) .ret)))))))))
def rs110:List RS:=[(.t 4)]
def nt110:Nat:=39
def ir112:IR:=(.seq (.ops [⟨(some 4),(.mv (.k (.c (.v (.bool false))))),none⟩]) (.kill [2,3,4,5,6,7,8,9,10,11] (.seq (.ops [⟨(some 5),(.mv (.t 1)),none⟩,⟨(some 6),(.mv (.t 0)),none⟩,⟨(some 7),(.nilck (.t 6)),none⟩,⟨(some 8),(.fa 0 (.t 7)),none⟩,⟨(some 9),(.fa 3 (.t 8)),none⟩,⟨(some 10),(.ld false 1 (.t 9)),none⟩,⟨(some 11),(.call 104 [(.t 10)]),none⟩,⟨(some 12),(.call 103 [(.t 5),(.k (.c (.v (.int .i64 1)))),(.t 11)]),none⟩]) (.kill [5,6,7,8,9,10,11,12] (.seq (.ops [⟨(some 13),(.mv (.t 0)),none⟩,⟨(some 14),(.nilck (.t 13)),none⟩,⟨(some 15),(.fa 0 (.t 14)),none⟩,⟨(some 16),(.fa 0 (.t 15)),none⟩,⟨(some 17),(.ld false 1 (.t 16)),none⟩,⟨(some 18),(.nilck (.t 17)),none⟩,⟨(some 19),(.fa 2 (.t 18)),none⟩,⟨none,(.st 1 (.t 19) (.k (.c (.v (.bool false))))),none⟩]) (.kill [0,13,14,15,16,17,18,19] (.seq (.ops [⟨(some 20),(.mv (.t 1)),none⟩,⟨(some 21),(.call 97 [(.t 20),(.k (.c (.v (.int .i64 3)))),(.k (.c (.v (.int .i64 0))))]),none⟩,⟨(some 4),(.mv (.t 21)),none⟩]) (.kill [1,20,21] .ret))))))))
def rs112:List RS:=[(.t 4)]
def nt112:Nat:=22
def ir111:IR:=(.seq (.ops [⟨(some 4),(.mv (.k (.c (.v (.bool false))))),none⟩]) (.kill [2,3,4,5,6,7,8,9,10,11] (.seq (.draw [(⟨(some 5),(.mv (.t 0)),none⟩,([],[6,7,8,9,10,11,12,13,14,15,16,17])),(⟨(some 6),(.mv (.t 1)),none⟩,([0],[5,7,8,9,10,11,12,13,14,15])),(⟨(some 7),(.mv (.t 0)),none⟩,([0,1],[5,6,10,11,12,13,14])),(⟨(some 8),(.nilck (.t 7)),none⟩,([0,1],[5,6,10,11,12,13,14])),(⟨(some 9),(.fa 0 (.t 8)),none⟩,([0,1],[5,6,10,11,12,13,14])),(⟨(some 10),(.mv (.t 0)),none⟩,([0,1,2,3,4],[5,6,7,8,9])),(⟨(some 11),(.nilck (.t 10)),none⟩,([0,1,2,3,4],[5,6,7,8,9])),(⟨(some 12),(.fa 0 (.t 11)),none⟩,([0,1,2,3,4],[5,6,7,8,9])),(⟨(some 13),(.fa 2 (.t 12)),none⟩,([0,1,2,3,4],[5,6,7,8,9])),(⟨(some 14),(.ld false 1 (.t 13)),none⟩,([0,1,2,3,4],[5,6,7,8,9])),(⟨(some 15),(.call 89 [(.t 9),(.t 14)]),none⟩,([0,1],[5,6])),(⟨(some 16),(.call 91 [(.t 6),(.t 15)]),none⟩,([0],[5])),(⟨(some 17),(.call 32 [(.t 16)]),none⟩,([0],[5])),(⟨(some 18),(.nilck (.t 5)),none⟩,([],[])),(⟨(some 19),(.fa 0 (.t 18)),none⟩,([],[])),(⟨(some 20),(.fa 4 (.t 19)),none⟩,([],[])),(⟨none,(.st 1 (.t 20) (.t 17)),none⟩,([],[]))]) (.kill [5,6,7,8,9,10,11,12,13,14,15,16,17,18,19,20] (.seq (.seq (.draw [(⟨(some 21),(.mv (.t 0)),none⟩,([],[26,27,28,29,30])),(⟨(some 22),(.nilck (.t 21)),none⟩,([],[26,27,28,29,30])),(⟨(some 23),(.fa 0 (.t 22)),none⟩,([],[26,27,28,29,30])),(⟨(some 24),(.fa 3 (.t 23)),none⟩,([],[26,27,28,29,30])),(⟨(some 25),(.ld false 1 (.t 24)),none⟩,([],[26,27,28,29,30])),(⟨(some 26),(.mv (.t 0)),none⟩,([0,1,2,3,4],[21,22,23,24,25])),(⟨(some 27),(.nilck (.t 26)),none⟩,([0,1,2,3,4],[21,22,23,24,25])),(⟨(some 28),(.fa 0 (.t 27)),none⟩,([0,1,2,3,4],[21,22,23,24,25])),(⟨(some 29),(.fa 2 (.t 28)),none⟩,([0,1,2,3,4],[21,22,23,24,25])),(⟨(some 30),(.ld false 1 (.t 29)),none⟩,([0,1,2,3,4],[21,22,23,24,25])),(⟨(some 31),(.bin .lss (.t 25) (.t 30)),none⟩,([],[]))]) (.kill [21,22,23,24,25,26,27,28,29,30] (.cond (.t 31) (.seq (.ops [⟨(some 32),(.mv (.t 0)),none⟩,⟨(some 33),(.nilck (.t 32)),none⟩,⟨(some 34),(.fa 0 (.t 33)),none⟩,⟨(some 35),(.fa 0 (.t 34)),none⟩,⟨(some 36),(.ld false 1 (.t 35)),none⟩,⟨(some 37),(.nilck (.t 36)),none⟩,⟨(some 38),(.fa 2 (.t 37)),none⟩,⟨none,(.st 1 (.t 38) (.k (.c (.v (.bool false))))),none⟩]) (.kill [31,32,33,34,35,36,37,38] (.seq (.ops [⟨(some 39),(.mv (.t 1)),none⟩,⟨(some 40),(.mv (.t 0)),none⟩,⟨(some 41),(.nilck (.t 40)),none⟩,⟨(some 42),(.fa 0 (.t 41)),none⟩,⟨(some 43),(.fa 4 (.t 42)),none⟩,⟨(some 44),(.ld false 1 (.t 43)),none⟩,⟨(some 45),(.call 97 [(.t 39),(.k (.c (.v (.int .i64 2)))),(.t 44)]),none⟩,⟨(some 4),(.mv (.t 45)),none⟩]) (.kill [0,1,39,40,41,42,43,44,45] .ret)))) .skip))) (.kill [1,4,31] (.seq (.ops [⟨(some 46),(.mv (.t 0)),none⟩,⟨(some 47),(.mv (.t 0)),none⟩,⟨(some 48),(.mfn (.func 113) [(.t 47)] []),none⟩,⟨(some 49),(.nilck (.t 46)),none⟩,⟨(some 50),(.fa 0 (.t 49)),none⟩,⟨(some 51),(.fa 1 (.t 50)),none⟩,⟨none,(.st 1 (.t 51) (.t 48)),none⟩]) (.kill [0,46,47,48,49,50,51] (.seq (.ops [⟨(some 4),(.mv (.k (.c (.v (.bool false))))),none⟩]) .ret)))))))))
def rs111:List RS:=[(.t 4)]
def nt111:Nat:=52
def ir115:IR:=(.seq (.ops [⟨(some 4),(.mv (.k (.c (.v (.bool false))))),none⟩]) (.kill [2,3,4,5,6,7,8,9,10,11] (.seq (.ops [⟨(some 5),(.mv (.t 1)),none⟩,⟨(some 6),(.mv (.t 0)),none⟩,⟨(some 7),(.nilck (.t 6)),none⟩,⟨(some 8),(.fa 0 (.t 7)),none⟩,⟨(some 9),(.fa 3 (.t 8)),none⟩,⟨(some 10),(.ld false 1 (.t 9)),none⟩,⟨(some 11),(.bin .add (.t 10) (.k (.c (.v (.int .i64 1))))),none⟩,⟨(some 12),(.call 104 [(.t 11)]),none⟩,⟨(some 13),(.call 103 [(.t 5),(.k (.c (.v (.int .i64 1)))),(.t 12)]),none⟩]) (.kill [5,6,7,8,9,10,11,12,13] (.seq (.ops [⟨(some 14),(.mv (.t 0)),none⟩,⟨(some 15),(.nilck (.t 14)),none⟩,⟨(some 16),(.fa 0 (.t 15)),none⟩,⟨(some 17),(.fa 0 (.t 16)),none⟩,⟨(some 18),(.ld false 1 (.t 17)),none⟩,⟨(some 19),(.nilck (.t 18)),none⟩,⟨(some 20),(.fa 2 (.t 19)),none⟩,⟨none,(.st 1 (.t 20) (.k (.c (.v (.bool false))))),none⟩]) (.kill [14,15,16,17,18,19,20] (.seq (.seq (.ops [⟨(some 21),(.mv (.t 0)),none⟩,⟨(some 22),(.nilck (.t 21)),none⟩,⟨(some 23),(.fa 5 (.t 22)),none⟩,⟨(some 24),(.ld false 1 (.t 23)),none⟩]) (.kill [21,22,23] (.cond (.t 24) (.seq (.ops [⟨(some 25),(.mv (.t 1)),none⟩,⟨(some 26),(.mv (.t 0)),none⟩,⟨(some 27),(.nilck (.t 26)),none⟩,⟨(some 28),(.fa 0 (.t 27)),none⟩,⟨(some 29),(.fa 4 (.t 28)),none⟩,⟨(some 30),(.ld false 1 (.t 29)),none⟩,⟨(some 31),(.call 97 [(.t 25),(.k (.c (.v (.int .i64 2)))),(.t 30)]),none⟩,⟨(some 4),(.mv (.t 31)),none⟩]) (.kill [0,1,24,25,26,27,28,29,30,31] .ret)) .skip))) (.kill [0,4,24] (.seq (.ops [⟨(some 32),(.mv (.t 1)),none⟩,⟨(some 33),(.call 97 [(.t 32),(.k (.c (.v (.int .i64 3)))),(.k (.c (.v (.int .i64 0))))]),none⟩,⟨(some 4),(.mv (.t 33)),none⟩]) (.kill [1,32,33] .ret))))))))))
def rs115:List RS:=[(.t 4)]
def nt115:Nat:=34
set_option maxRecDepth 100000 in
set_option maxHeartbeats 2000000 in
theorem take1_own (w:World) (E:Env) (m:D.Pm) (i c:Nat) (b t v:Int) (got:Bool) (ht:AtT m i c ⟨1,1,b,t,v,got⟩) (h:Handed w E 11 (dO nz0 i c m) []) :
  Calls Try.prog 88 (([.c (.ptr (7,i,0) 0),.c (.ptr (10,0,0) 0)]:List SV).map (SV.den E)).toArray w (EffR w E 11 (takesO E (dO nz0 i c m)) (.c (.v (.bool (D.taskT m i ⟨1,1,b,t,v,got⟩).2.2))) 2 fun b'=>killO [3,4]++dO ⟨b',b' + 1,6,7⟩ i c (tskM m i (D.taskT m i ⟨1,1,b,t,v,got⟩))):=by
 have hwl:=ht.wl
 refine enterO (c:=ir88) (rs:=rs88) (nt:=nt88) h _ Try.func88 rfl (by kernel_rfl) (by kernel_rfl) rfl (by simp [okVs,SV.okN,SC.okN]) (of_decide_eq_true rfl) ?_
 have heq:D.taskT m i ⟨1,1,b,t,v,got⟩=(logd { m with us:=true } ⟨m.mm,m.th,1,1,0,0,D.wd m (1)⟩ (D.wd m (1)),⟨1,2,D.i64 (D.i64 (D.wd m 1) - 1),t,v,got⟩,false):=by
  simp only [D.taskT,D.takeT,if_true,if_false,Nat.one_ne_zero]
  rw [D.ld_ok ht.us (by decide) (by omega)]
  rfl
 rw [heq]
 generalize hR:EffR w E 11 (takesO E (dO nz0 i c m)) _ 2 _=R
 generalize hW:takesO E (dO nz0 i c m)=W
 have hf:=ht.f
 simp only [tkC,nextC,tkTy,iI] at hf
 have hi:=ht.hi
 simp (maxSteps:=2000000) only [ir88,nt88,rs88,go_sem,↓runOp,↓reduceIte,Nat.reduceLT,Nat.reduceEqDiff,reduceCtorEq,dO,mO,nz0,bkM,bkY,hubC,iI,hf]
 refine And.intro hi (And.intro ⟨_,Try.func108,by kernel_rfl,by kernel_rfl⟩ ?_)
 refine call_inline (c:=ir108) (rs:=rs108) (nt:=nt108) 1000 (mkTab_ok _ _) Try.func108 rfl (by kernel_rfl) (by kernel_rfl) rfl (by simp [okVs,SV.okN,SC.okN]) (of_decide_eq_true rfl) (fun E0 a0 ht0=>?_)
 simp (maxSteps:=2000000) only [ir108,nt108,rs108,go_sem,↓runOp,↓reduceIte,Nat.reduceLT,Nat.reduceEqDiff,reduceCtorEq]
 repeat (with_reducible refine And.intro (by first | exact hi | exact Or.inr trivial | exact Or.inl trivial) ?_)
 refine call_intro (crA (i:=i) (c:=c) (m:=m) (m':=logd { m with us:=true } ⟨m.mm,m.th,1,1,0,0,D.wd m (1)⟩ (D.wd m (1))) (Nat.le_refl _) (ain0 rfl rfl rfl rfl rfl rfl) (fun E w h=>dload_at ht (a:=1) (by decide) (by omega) h)) (lt11 (Nat.le_refl _)) ?_
 simp (maxSteps:=2000000) only [go_sem,↓runOp,↓reduceIte,Nat.reduceLT,Nat.reduceAdd,Nat.reduceEqDiff,reduceCtorEq,killO,aO,bkM,bkY,iI,logd]
 refine callV (.c (.v (.int .i64 (D.i64 (D.wd m 1))))) _ (fun E=>rfl) (fun E a w' hs=>value_calls w' _) ?_
 simp (maxSteps:=2000000) only [go_sem,↓runOp,↓reduceIte,Nat.reduceLT,Nat.reduceLeDiff,Nat.reduceAdd,Nat.reduceEqDiff,reduceCtorEq,hf]
 repeat (with_reducible refine And.intro (by first | exact hi | exact Or.inr trivial | exact Or.inl trivial) ?_)
 refine retI ht0 _ rfl (of_decide_eq_true rfl) (by simp [SV.okN,SC.okN]) ?_
 simp (maxSteps:=2000000) only [go_sem,↓runOp,↓reduceIte,Nat.reduceLT,Nat.reduceEqDiff,reduceCtorEq,mkO_rs]
 rw [← hR,← hW]
 exact retT (p:=11) (q:=12) ht rfl rfl rfl (by simp) (fun E=>rfl) rfl rfl ⟨_,_,rfl,Nat.le_refl _,fun _ _=>rfl⟩ rfl rfl rfl ⟨_,_,rfl,Nat.le_refl _,fun _ _=>rfl⟩ ⟨_,rfl,fun x=>by by_cases q:x=i <;> simp [q,tkC,nextC,tkTy,iI,D.i64]⟩ rfl rfl
set_option maxRecDepth 100000 in
set_option maxHeartbeats 2000000 in
theorem take3y_own (w:World) (E:Env) (m:D.Pm) (i c:Nat) (b t v:Int) (got:Bool) (ht:AtT m i c ⟨1,3,b,t,v,got⟩) (hq:b<D.i64 (D.wd m 0)) (h:Handed w E 11 (dO nz0 i c m) []) :
  Calls Try.prog 88 (([.c (.ptr (7,i,0) 0),.c (.ptr (10,0,0) 0)]:List SV).map (SV.den E)).toArray w (EffR w E 11 (takesO E (dO nz0 i c m)) (.c (.v (.bool (D.taskT m i ⟨1,3,b,t,v,got⟩).2.2))) 2 fun b'=>killO [3,4]++dO ⟨b',b' + 1,6,7⟩ i c (tskM m i (D.taskT m i ⟨1,3,b,t,v,got⟩))):=by
 have hwl:=ht.wl
 refine enterO (c:=ir88) (rs:=rs88) (nt:=nt88) h _ Try.func88 rfl (by kernel_rfl) (by kernel_rfl) rfl (by simp [okVs,SV.okN,SC.okN]) (of_decide_eq_true rfl) ?_
 have heq:D.taskT m i ⟨1,3,b,t,v,got⟩=({ logd { m with us:=true } ⟨m.mm,m.th,1,0,0,0,D.wd m (0)⟩ (D.wd m (0)) with C:=m.C.set c { m.C.getD c D.ca0 with pt:=m.nw } },⟨1,4,b,D.i64 (D.wd m 0),v,got⟩,false):=by
  simp only [D.taskT,D.takeT,if_true,if_false,Nat.one_ne_zero]
  rw [D.ld_ok ht.us (Int.le_refl 0) (by omega)]
  simp only [if_pos hq]
  exact congrArg (fun x=>(x,(⟨1,4,b,D.i64 (D.wd m 0),v,got⟩:D.Tk),false)) (pt_at (r:=logd { m with us:=true } ⟨m.mm,m.th,1,0,0,0,D.wd m (0)⟩ (D.wd m (0))) ht rfl rfl _)
 rw [heq]
 generalize hR:EffR w E 11 (takesO E (dO nz0 i c m)) _ 2 _=R
 generalize hW:takesO E (dO nz0 i c m)=W
 have hf:=ht.f
 simp only [tkC,nextC,tkTy,iI] at hf
 have hi:=ht.hi
 simp (maxSteps:=2000000) only [ir88,nt88,rs88,go_sem,↓runOp,↓reduceIte,Nat.reduceLT,Nat.reduceEqDiff,reduceCtorEq,dO,mO,nz0,bkM,bkY,hubC,iI,hf]
 refine And.intro hi (And.intro ⟨_,Try.func110,by kernel_rfl,by kernel_rfl⟩ ?_)
 refine call_inline (c:=ir110) (rs:=rs110) (nt:=nt110) 1000 (mkTab_ok _ _) Try.func110 rfl (by kernel_rfl) (by kernel_rfl) rfl (by simp [okVs,SV.okN,SC.okN]) (of_decide_eq_true rfl) (fun E0 a0 ht0=>?_)
 simp (maxSteps:=2000000) only [ir110,nt110,rs110,go_sem,↓runOp,↓reduceIte,Nat.reduceLT,Nat.reduceEqDiff,reduceCtorEq]
 have hd:decide (b<D.i64 (D.wd m 0))=true:=decide_eq_true hq
 repeat (with_reducible refine And.intro (by first | exact hi | exact Or.inr trivial | exact Or.inl trivial) ?_)
 refine call_intro (crA (i:=i) (c:=c) (m:=m) (m':=logd { m with us:=true } ⟨m.mm,m.th,1,0,0,0,D.wd m (0)⟩ (D.wd m (0))) (Nat.le_refl _) (ain0 rfl rfl rfl rfl rfl rfl) (fun E w h=>dload_at ht (a:=0) (by decide) (by omega) h)) (lt11 (Nat.le_refl _)) ?_
 simp (maxSteps:=2000000) only [go_sem,↓runOp,↓reduceIte,Nat.reduceLT,Nat.reduceAdd,Nat.reduceEqDiff,reduceCtorEq,killO,aO,bkM,bkY,iI,logd]
 refine callV (.c (.v (.int .i64 (D.i64 (D.wd m 0))))) _ (fun E=>rfl) (fun E a w' hs=>value_calls w' _) ?_
 simp (maxSteps:=2000000) only [go_sem,↓runOp,↓reduceIte,Nat.reduceLT,Nat.reduceLeDiff,Nat.reduceAdd,Nat.reduceEqDiff,reduceCtorEq,hf]
 repeat (with_reducible refine And.intro (by first | exact hi | exact Or.inr trivial | exact Or.inl trivial) ?_)
 refine draw_vc (by kernel_rfl) (mkTab_ok _ _) (of_decide_eq_true rfl) (of_decide_eq_true rfl) ?_
 repeat (first | simp (maxSteps:=2000000) only [go_sem,↓condS,↓runOp,↓gateD,↓runD,↓imp_tf,↓imp_tt,↓reduceIte,Nat.reduceLT,Nat.reduceEqDiff,reduceCtorEq,hd] | rw [dr_cons])
 repeat (with_reducible refine And.intro (by first | exact hi | exact Or.inr trivial | exact Or.inl trivial) ?_)
 refine call_inline (c:=ir96) (rs:=rs96) (nt:=nt96) 1000 (mkTab_ok _ _) Try.func96 rfl (by kernel_rfl) (by kernel_rfl) rfl (by simp [okVs,SV.okN,SC.okN]) (of_decide_eq_true rfl) (fun E1 a1 ht1=>?_)
 simp (maxSteps:=2000000) only [ir96,nt96,rs96,go_sem,↓condS,↓gateS,↓runOp,↓reduceIte,Nat.reduceLT,Nat.reduceEqDiff,reduceCtorEq]
 refine retI ht1 _ rfl (of_decide_eq_true rfl) (by simp [SV.okN,SC.okN]) ?_
 simp (maxSteps:=2000000) only [go_sem,↓runOp,↓reduceIte,Nat.reduceLT,Nat.reduceEqDiff,reduceCtorEq]
 refine call_inline (c:=ir95) (rs:=rs95) (nt:=nt95) 1000 (mkTab_ok _ _) Try.func95 rfl (by kernel_rfl) (by kernel_rfl) rfl (by simp [okVs,SV.okN,SC.okN]) (of_decide_eq_true rfl) (fun E1 a1 ht1=>?_)
 simp (maxSteps:=2000000) only [ir95,nt95,rs95,go_sem,↓condS,↓gateS,↓runOp,↓reduceIte,Nat.reduceLT,Nat.reduceLeDiff,Nat.reduceAdd,Nat.reduceEqDiff,reduceCtorEq,ats_C,iI]
 refine And.intro ht.hc ?_
 refine retI ht1 _ rfl (of_decide_eq_true rfl) (by simp [SV.okN,ok1L]) ?_
 simp (maxSteps:=2000000) only [go_sem,↓runOp,↓reduceIte,Nat.reduceLT,Nat.reduceLeDiff,Nat.reduceAdd,Nat.reduceEqDiff,reduceCtorEq]
 repeat (with_reducible refine And.intro (by first | exact hi | exact Or.inr trivial | exact Or.inl trivial) ?_)
 refine retI ht0 _ rfl (of_decide_eq_true rfl) (by simp [SV.okN,SC.okN]) ?_
 simp (maxSteps:=2000000) only [go_sem,↓runOp,↓reduceIte,Nat.reduceLT,Nat.reduceEqDiff,reduceCtorEq,mkO_rs]
 rw [← hR,← hW]
 exact retT (p:=11) (q:=12) ht rfl rfl rfl (by simp) (fun E=>rfl) (by simp [look,bkM,iI,logd]) rfl ⟨_,_,rfl,Nat.le_refl _,fun _ _=>rfl⟩ rfl rfl rfl ⟨_,_,rfl,by simp,ats_set ht.hc (by simp [D.Ca.enc])⟩ ⟨_,rfl,fun x=>by by_cases q:x=i <;> simp [q,tkC,nextC,tkTy,iI,D.i64]⟩ rfl rfl
set_option maxRecDepth 100000 in
set_option maxHeartbeats 2000000 in
theorem take3n_own (w:World) (E:Env) (m:D.Pm) (i c:Nat) (b t v:Int) (got:Bool) (ht:AtT m i c ⟨1,3,b,t,v,got⟩) (hq:¬ b<D.i64 (D.wd m 0)) (h:Handed w E 11 (dO nz0 i c m) []) :
  Calls Try.prog 88 (([.c (.ptr (7,i,0) 0),.c (.ptr (10,0,0) 0)]:List SV).map (SV.den E)).toArray w (EffR w E 11 (takesO E (dO nz0 i c m)) (.c (.v (.bool (D.taskT m i ⟨1,3,b,t,v,got⟩).2.2))) 2 fun b'=>killO [3,4]++dO ⟨b',b' + 1,6,7⟩ i c (tskM m i (D.taskT m i ⟨1,3,b,t,v,got⟩))):=by
 have hwl:=ht.wl
 refine enterO (c:=ir88) (rs:=rs88) (nt:=nt88) h _ Try.func88 rfl (by kernel_rfl) (by kernel_rfl) rfl (by simp [okVs,SV.okN,SC.okN]) (of_decide_eq_true rfl) ?_
 have heq:D.taskT m i ⟨1,3,b,t,v,got⟩=(logd { m with us:=true } ⟨m.mm,m.th,1,0,0,0,D.wd m (0)⟩ (D.wd m (0)),⟨1,5,b,D.i64 (D.wd m 0),v,got⟩,false):=by
  simp only [D.taskT,D.takeT,if_true,if_false,Nat.one_ne_zero]
  rw [D.ld_ok ht.us (Int.le_refl 0) (by omega)]
  simp only [if_neg hq]
  rfl
 rw [heq]
 generalize hR:EffR w E 11 (takesO E (dO nz0 i c m)) _ 2 _=R
 generalize hW:takesO E (dO nz0 i c m)=W
 have hf:=ht.f
 simp only [tkC,nextC,tkTy,iI] at hf
 have hi:=ht.hi
 simp (maxSteps:=2000000) only [ir88,nt88,rs88,go_sem,↓runOp,↓reduceIte,Nat.reduceLT,Nat.reduceEqDiff,reduceCtorEq,dO,mO,nz0,bkM,bkY,hubC,iI,hf]
 refine And.intro hi (And.intro ⟨_,Try.func110,by kernel_rfl,by kernel_rfl⟩ ?_)
 refine call_inline (c:=ir110) (rs:=rs110) (nt:=nt110) 1000 (mkTab_ok _ _) Try.func110 rfl (by kernel_rfl) (by kernel_rfl) rfl (by simp [okVs,SV.okN,SC.okN]) (of_decide_eq_true rfl) (fun E0 a0 ht0=>?_)
 simp (maxSteps:=2000000) only [ir110,nt110,rs110,go_sem,↓runOp,↓reduceIte,Nat.reduceLT,Nat.reduceEqDiff,reduceCtorEq]
 have hd:decide (b<D.i64 (D.wd m 0))=false:=decide_eq_false hq
 repeat (with_reducible refine And.intro (by first | exact hi | exact Or.inr trivial | exact Or.inl trivial) ?_)
 refine call_intro (crA (i:=i) (c:=c) (m:=m) (m':=logd { m with us:=true } ⟨m.mm,m.th,1,0,0,0,D.wd m (0)⟩ (D.wd m (0))) (Nat.le_refl _) (ain0 rfl rfl rfl rfl rfl rfl) (fun E w h=>dload_at ht (a:=0) (by decide) (by omega) h)) (lt11 (Nat.le_refl _)) ?_
 simp (maxSteps:=2000000) only [go_sem,↓runOp,↓reduceIte,Nat.reduceLT,Nat.reduceAdd,Nat.reduceEqDiff,reduceCtorEq,killO,aO,bkM,bkY,iI,logd]
 refine callV (.c (.v (.int .i64 (D.i64 (D.wd m 0))))) _ (fun E=>rfl) (fun E a w' hs=>value_calls w' _) ?_
 simp (maxSteps:=2000000) only [go_sem,↓runOp,↓reduceIte,Nat.reduceLT,Nat.reduceLeDiff,Nat.reduceAdd,Nat.reduceEqDiff,reduceCtorEq,hf]
 repeat (with_reducible refine And.intro (by first | exact hi | exact Or.inr trivial | exact Or.inl trivial) ?_)
 refine draw_vc (by kernel_rfl) (mkTab_ok _ _) (of_decide_eq_true rfl) (of_decide_eq_true rfl) ?_
 repeat (first | simp (maxSteps:=2000000) only [go_sem,↓condS,↓runOp,↓gateD,↓runD,↓imp_ft,↓imp_ff,↓reduceIte,Nat.reduceLT,Nat.reduceEqDiff,reduceCtorEq,hd] | rw [dr_cons])
 repeat (with_reducible refine And.intro (by first | exact hi | exact Or.inr trivial | exact Or.inl trivial) ?_)
 refine retI ht0 _ rfl (of_decide_eq_true rfl) (by simp [SV.okN,SC.okN]) ?_
 simp (maxSteps:=2000000) only [go_sem,↓runOp,↓reduceIte,Nat.reduceLT,Nat.reduceEqDiff,reduceCtorEq,mkO_rs]
 rw [← hR,← hW]
 exact retT (p:=11) (q:=12) ht rfl rfl rfl (by simp) (fun E=>rfl) rfl rfl ⟨_,_,rfl,Nat.le_refl _,fun _ _=>rfl⟩ rfl rfl rfl ⟨_,_,rfl,Nat.le_refl _,fun _ _=>rfl⟩ ⟨_,rfl,fun x=>by by_cases q:x=i <;> simp [q,tkC,nextC,tkTy,iI,D.i64]⟩ rfl rfl
set_option maxRecDepth 100000 in
set_option maxHeartbeats 2000000 in
theorem take4_own (w:World) (E:Env) (m:D.Pm) (i c:Nat) (b t v:Int) (got:Bool) (ht:AtT m i c ⟨1,4,b,t,v,got⟩) (h:Handed w E 11 (dO nz0 i c m) []) :
  Calls Try.prog 88 (([.c (.ptr (7,i,0) 0),.c (.ptr (10,0,0) 0)]:List SV).map (SV.den E)).toArray w (EffR w E 11 (takesO E (dO nz0 i c m)) (.c (.v (.bool (D.taskT m i ⟨1,4,b,t,v,got⟩).2.2))) 2 fun b'=>killO [3,4]++dO ⟨b',b' + 1,6,7⟩ i c (tskM m i (D.taskT m i ⟨1,4,b,t,v,got⟩))):=by
 have hwl:=ht.wl
 refine enterO (c:=ir88) (rs:=rs88) (nt:=nt88) h _ Try.func88 rfl (by kernel_rfl) (by kernel_rfl) rfl (by simp [okVs,SV.okN,SC.okN]) (of_decide_eq_true rfl) ?_
 have heq:D.taskT m i ⟨1,4,b,t,v,got⟩=(D.ans ({ { logd { m with us:=true } ⟨m.mm,m.th,2,1,0,D.u64 t,0⟩ (D.wd m (1)) with W:=m.W.set (1:Int).toNat (D.u64 t) } with last:=false }) i 3 0,⟨1,4,b,t,v,got⟩,true):=by
  simp only [D.taskT,D.takeT,if_true,if_false,Nat.one_ne_zero]
  rw [D.st_ok ht.us (by decide) (by omega)]
  rfl
 rw [heq]
 generalize hR:EffR w E 11 (takesO E (dO nz0 i c m)) _ 2 _=R
 generalize hW:takesO E (dO nz0 i c m)=W
 have hf:=ht.f
 simp only [tkC,nextC,tkTy,iI] at hf
 have hi:=ht.hi
 simp (maxSteps:=2000000) only [ir88,nt88,rs88,go_sem,↓runOp,↓reduceIte,Nat.reduceLT,Nat.reduceEqDiff,reduceCtorEq,dO,mO,nz0,bkM,bkY,hubC,iI,hf]
 refine And.intro hi (And.intro ⟨_,Try.func112,by kernel_rfl,by kernel_rfl⟩ ?_)
 refine call_inline (c:=ir112) (rs:=rs112) (nt:=nt112) 1000 (mkTab_ok _ _) Try.func112 rfl (by kernel_rfl) (by kernel_rfl) rfl (by simp [okVs,SV.okN,SC.okN]) (of_decide_eq_true rfl) (fun E0 a0 ht0=>?_)
 simp (maxSteps:=2000000) only [ir112,nt112,rs112,go_sem,↓runOp,↓reduceIte,Nat.reduceLT,Nat.reduceEqDiff,reduceCtorEq,hf]
 repeat (with_reducible refine And.intro (by first | exact hi | exact Or.inr trivial | exact Or.inl trivial) ?_)
 refine callV (.c (.v (.int .u64 (D.u64 (t))))) _ (fun E=>rfl) (fun E a w' hs=>number_calls w' _) ?_
 simp (maxSteps:=2000000) only [go_sem,↓runOp,↓reduceIte,Nat.reduceLT,Nat.reduceEqDiff,reduceCtorEq]
 refine call_intro (crA (i:=i) (c:=c) (m:=m) (m':={ logd { m with us:=true } ⟨m.mm,m.th,2,1,0,D.u64 t,0⟩ (D.wd m (1)) with W:=m.W.set (1:Int).toNat (D.u64 t) }) (Nat.le_refl _) (ain0 rfl rfl rfl rfl rfl rfl) (fun E w h=>dstore_at ht (a:=1) (v:=D.u64 t) (by decide) (by omega) h)) (lt11 (Nat.le_refl _)) ?_
 simp (maxSteps:=2000000) only [go_sem,↓runOp,↓reduceIte,Nat.reduceLT,Nat.reduceLeDiff,Nat.reduceAdd,Nat.reduceEqDiff,reduceCtorEq,Int.reduceToNat,killO,aO,bkM,bkY,iI,logd,hf]
 repeat (with_reducible refine And.intro (by first | exact hi | exact Or.inr trivial | exact Or.inl trivial) ?_)
 refine call_inline (c:=ir97) (rs:=rs97) (nt:=nt97) 1000 (mkTab_ok _ _) Try.func97 rfl (by kernel_rfl) (by kernel_rfl) rfl (by simp [okVs,SV.okN,SC.okN]) (of_decide_eq_true rfl) (fun E1 a1 ht1=>?_)
 simp (maxSteps:=2000000) only [ir97,nt97,rs97,go_sem,↓runOp,↓reduceIte,Nat.reduceLT,Nat.reduceLeDiff,Nat.reduceAdd,Nat.reduceEqDiff,reduceCtorEq]
 refine call_inline (c:=ir102) (rs:=rs102) (nt:=nt102) 1000 (mkTab_ok _ _) Try.func102 rfl (by kernel_rfl) (by kernel_rfl) rfl (by simp [okVs,SV.okN,SC.okL,SC.okN]) (of_decide_eq_true rfl) (fun E2 a2 ht2=>?_)
 simp (maxSteps:=2000000) only [ir102,nt102,rs102,go_sem,↓condS,↓gateS,↓runOp,↓reduceIte,Nat.reduceLT,Nat.reduceAdd,Nat.reduceEqDiff,reduceCtorEq]
 refine draw_vc (by kernel_rfl) (mkTab_ok _ _) (of_decide_eq_true rfl) (of_decide_eq_true rfl) ?_
 repeat (first | simp (maxSteps:=2000000) only [go_sem,↓gateD,↓runD,↓reduceIte,Nat.reduceLT,Nat.reduceLeDiff,Nat.reduceAdd,Nat.reduceEqDiff,reduceCtorEq,seC] | rw [dr_cons])
 repeat (with_reducible refine And.intro (by first | exact hi | exact Or.inr trivial | exact Or.inl trivial) ?_)
 refine retI ht2 _ rfl (of_decide_eq_true rfl) (by simp [SV.okN,ok1L]) ?_
 simp (maxSteps:=2000000) only [go_sem,↓runOp,↓reduceIte,Nat.reduceLT,Nat.reduceEqDiff,reduceCtorEq]
 refine retI ht1 _ rfl (of_decide_eq_true rfl) (by simp [SV.okN,SC.okN]) ?_
 simp (maxSteps:=2000000) only [go_sem,↓runOp,↓reduceIte,Nat.reduceLT,Nat.reduceEqDiff]
 refine retI ht0 _ rfl (of_decide_eq_true rfl) (by simp [SV.okN,SC.okN]) ?_
 simp (maxSteps:=2000000) only [go_sem,↓runOp,↓reduceIte,Nat.reduceLT,Nat.reduceEqDiff,reduceCtorEq,mkO_rs]
 rw [← hR,← hW]
 exact retTA (p:=11) (q:=12) ht rfl rfl rfl (by simp) (fun E=>rfl) rfl rfl ⟨_,_,rfl,Nat.le_refl _,fun _ _=>rfl⟩ rfl rfl ⟨_,rfl,_,rfl,by simp [iI]⟩ ⟨_,_,rfl,Nat.le_refl _,fun _ _=>rfl⟩ ⟨_,rfl,fun x=>by by_cases q:x=i <;> simp [q,tkC,nextC,tkTy,iI,hf]⟩ rfl rfl
set_option maxRecDepth 100000 in
set_option maxHeartbeats 2000000 in
theorem take5y_own (w:World) (E:Env) (m:D.Pm) (i c:Nat) (b t v:Int) (got:Bool) (ht:AtT m i c ⟨1,5,b,t,v,got⟩) (h0:0≤D.cellA m b) (h1:D.cellA m b<m.W.length) (hr:m.room≠0) (hq:t<b) (h:Handed w E 11 (dO nz0 i c m) []) :
  Calls Try.prog 88 (([.c (.ptr (7,i,0) 0),.c (.ptr (10,0,0) 0)]:List SV).map (SV.den E)).toArray w (EffR w E 11 (takesO E (dO nz0 i c m)) (.c (.v (.bool (D.taskT m i ⟨1,5,b,t,v,got⟩).2.2))) 2 fun b'=>killO [3,4]++dO ⟨b',b' + 1,6,7⟩ i c (tskM m i (D.taskT m i ⟨1,5,b,t,v,got⟩))):=by
 have hwl:=ht.wl
 refine enterO (c:=ir88) (rs:=rs88) (nt:=nt88) h _ Try.func88 rfl (by kernel_rfl) (by kernel_rfl) rfl (by simp [okVs,SV.okN,SC.okN]) (of_decide_eq_true rfl) ?_
 have heq:D.taskT m i ⟨1,5,b,t,v,got⟩=(D.ans ({ logd { m with us:=true } ⟨m.mm,m.th,1,D.cellA m b,0,0,D.wd m (D.cellA m b)⟩ (D.wd m (D.cellA m b)) with last:=false }) i 2 (D.i64 (D.wd m (D.cellA m b))),⟨1,5,b,t,D.i64 (D.wd m (D.cellA m b)),got⟩,true):=by
  simp only [D.taskT,D.takeT,if_true,if_false,Nat.one_ne_zero]
  rw [D.ld_ok ht.us h0 h1]
  simp only [if_pos hq]
  rfl
 rw [heq]
 generalize hR:EffR w E 11 (takesO E (dO nz0 i c m)) _ 2 _=R
 generalize hW:takesO E (dO nz0 i c m)=W
 have hf:=ht.f
 simp only [tkC,nextC,tkTy,iI] at hf
 have hi:=ht.hi
 simp (maxSteps:=2000000) only [ir88,nt88,rs88,go_sem,↓runOp,↓reduceIte,Nat.reduceLT,Nat.reduceEqDiff,reduceCtorEq,dO,mO,nz0,bkM,bkY,hubC,iI,hf]
 refine And.intro hi (And.intro ⟨_,Try.func111,by kernel_rfl,by kernel_rfl⟩ ?_)
 refine call_inline (c:=ir111) (rs:=rs111) (nt:=nt111) 1000 (mkTab_ok _ _) Try.func111 rfl (by kernel_rfl) (by kernel_rfl) rfl (by simp [okVs,SV.okN,SC.okN]) (of_decide_eq_true rfl) (fun E0 a0 ht0=>?_)
 simp (maxSteps:=2000000) only [ir111,nt111,rs111,go_sem,↓runOp,↓reduceIte,Nat.reduceLT,Nat.reduceEqDiff,reduceCtorEq]
 have hd:decide (t<b)=true:=decide_eq_true hq
 refine draw_vc (by kernel_rfl) (mkTab_ok _ _) (of_decide_eq_true rfl) (of_decide_eq_true rfl) ?_
 repeat (first | simp (maxSteps:=2000000) only [go_sem,↓gateD,↓runD,↓reduceIte,Nat.reduceLT,Nat.reduceEqDiff,reduceCtorEq,hf] | rw [dr_cons])
 repeat (with_reducible refine And.intro (by first | exact hi | exact Or.inr trivial | exact Or.inl trivial) ?_)
 refine dcallV (.c (.v (.int .i64 (D.cellA m (b))))) _ (fun E=>rfl) (fun E a w' hs=>cell_at hs (x:=(7,i,0)) (p:=i<m.S.length∧True) (by simp only [pkN,look,Fm.pk,Nat.reduceEqDiff,if_true,if_false,hf];rfl) ⟨hi,trivial⟩ rfl hr (b) (fun E u hu=>by simp only [List.mem_cons,List.not_mem_nil,or_false] at hu;first | (rcases hu with rfl | rfl | rfl | rfl | rfl <;> simp [SC.den,Value.oneCell'];done) | (rcases hu with rfl | rfl | rfl | rfl <;> simp [SC.den,Value.oneCell',iI])) (fun E u hu=>by simp only [List.mem_cons,List.not_mem_nil,or_false] at hu;rcases hu with rfl | rfl | rfl | rfl <;> simp [SC.den,Value.oneCell'])) ?_
 repeat (first | simp (maxSteps:=2000000) only [go_sem,↓gateD,↓runD,↓reduceIte,Nat.reduceLT,Nat.reduceEqDiff,reduceCtorEq] | rw [dr_cons])
 repeat (with_reducible refine And.intro (by first | exact hi | exact Or.inr trivial | exact Or.inl trivial) ?_)
 refine dcall_intro (crA (i:=i) (c:=c) (m:=m) (m':=logd { m with us:=true } ⟨m.mm,m.th,1,D.cellA m b,0,0,D.wd m (D.cellA m b)⟩ (D.wd m (D.cellA m b))) (Nat.le_refl _) (ain0 rfl rfl rfl rfl rfl rfl) (fun E w h=>dload_at ht (a:=D.cellA m b) h0 h1 h)) rfl trivial ?_ ?_ ?_
 ·simp [wrOk,killO,aO,wrFree,wkImp,nth,memB,look]
 ·intro k hk hlt
  simp only [killO,aO,keysL,List.map_cons,List.map_nil,List.cons_append,List.nil_append,List.mem_cons,List.not_mem_nil,or_false] at hk
  have hlt:k<11:=hlt
  rcases hk with rfl | rfl | rfl | rfl | rfl | rfl | rfl | rfl <;> first | rfl | omega
 repeat (first | simp (maxSteps:=2000000) only [go_sem,↓gateD,↓runD,↓reduceIte,Nat.reduceLT,Nat.reduceAdd,Nat.reduceEqDiff,reduceCtorEq,killO,aO,bkM,bkY,iI,logd] | rw [dr_cons])
 refine dcallV (.c (.v (.int .i64 (D.i64 (D.wd m (D.cellA m b)))))) _ (fun E=>rfl) (fun E a w' hs=>value_calls w' _) ?_
 repeat (first | simp (maxSteps:=2000000) only [go_sem,↓gateD,↓runD,↓reduceIte,Nat.reduceLT,Nat.reduceLeDiff,Nat.reduceAdd,Nat.reduceEqDiff,reduceCtorEq,hf] | rw [dr_cons])
 repeat (with_reducible refine And.intro (by first | exact hi | exact Or.inr trivial | exact Or.inl trivial) ?_)
 refine draw_vc (by kernel_rfl) (mkTab_ok _ _) (of_decide_eq_true rfl) (of_decide_eq_true rfl) ?_
 repeat (first | simp (maxSteps:=2000000) only [go_sem,↓condS,↓runOp,↓gateD,↓runD,↓imp_tf,↓imp_tt,↓reduceIte,Nat.reduceLT,Nat.reduceLeDiff,Nat.reduceAdd,Nat.reduceEqDiff,reduceCtorEq,hd] | rw [dr_cons])
 repeat (with_reducible refine And.intro (by first | exact hi | exact Or.inr trivial | exact Or.inl trivial) ?_)
 refine call_inline (c:=ir97) (rs:=rs97) (nt:=nt97) 1000 (mkTab_ok _ _) Try.func97 rfl (by kernel_rfl) (by kernel_rfl) rfl (by simp [okVs,SV.okN,SC.okN]) (of_decide_eq_true rfl) (fun E1 a1 ht1=>?_)
 simp (maxSteps:=2000000) only [ir97,nt97,rs97,go_sem,↓runOp,↓reduceIte,Nat.reduceLT,Nat.reduceLeDiff,Nat.reduceAdd,Nat.reduceEqDiff,reduceCtorEq]
 refine call_inline (c:=ir102) (rs:=rs102) (nt:=nt102) 1000 (mkTab_ok _ _) Try.func102 rfl (by kernel_rfl) (by kernel_rfl) rfl (by simp [okVs,SV.okN,SC.okL,SC.okN]) (of_decide_eq_true rfl) (fun E2 a2 ht2=>?_)
 simp (maxSteps:=2000000) only [ir102,nt102,rs102,go_sem,↓condS,↓gateS,↓runOp,↓reduceIte,Nat.reduceLT,Nat.reduceAdd,Nat.reduceEqDiff,reduceCtorEq]
 refine draw_vc (by kernel_rfl) (mkTab_ok _ _) (of_decide_eq_true rfl) (of_decide_eq_true rfl) ?_
 repeat (first | simp (maxSteps:=2000000) only [go_sem,↓gateD,↓runD,↓reduceIte,Nat.reduceLT,Nat.reduceLeDiff,Nat.reduceAdd,Nat.reduceEqDiff,reduceCtorEq,seC] | rw [dr_cons])
 repeat (with_reducible refine And.intro (by first | exact hi | exact Or.inr trivial | exact Or.inl trivial) ?_)
 refine retI ht2 _ rfl (of_decide_eq_true rfl) (by simp [SV.okN,ok1L]) ?_
 simp (maxSteps:=2000000) only [go_sem,↓runOp,↓reduceIte,Nat.reduceLT,Nat.reduceEqDiff,reduceCtorEq]
 refine retI ht1 _ rfl (of_decide_eq_true rfl) (by simp [SV.okN,SC.okN]) ?_
 simp (maxSteps:=2000000) only [go_sem,↓runOp,↓reduceIte,Nat.reduceLT,Nat.reduceEqDiff,reduceCtorEq]
 refine retI ht0 _ rfl (of_decide_eq_true rfl) (by simp [SV.okN,SC.okN]) ?_
 simp (maxSteps:=2000000) only [go_sem,↓runOp,↓reduceIte,Nat.reduceLT,Nat.reduceEqDiff,reduceCtorEq,mkO_rs]
 rw [← hR,← hW]
 exact retTA (p:=11) (q:=12) ht rfl rfl rfl (by simp) (fun E=>rfl) rfl rfl ⟨_,_,rfl,Nat.le_refl _,fun _ _=>rfl⟩ rfl rfl ⟨_,rfl,_,rfl,by simp [iI]⟩ ⟨_,_,rfl,Nat.le_refl _,fun _ _=>rfl⟩ ⟨_,rfl,fun x=>by by_cases q:x=i <;> simp [q,tkC,nextC,tkTy,iI,D.i64]⟩ rfl rfl
set_option maxRecDepth 100000 in
set_option maxHeartbeats 2000000 in
theorem take5n_own (w:World) (E:Env) (m:D.Pm) (i c:Nat) (b t v:Int) (got:Bool) (ht:AtT m i c ⟨1,5,b,t,v,got⟩) (h0:0≤D.cellA m b) (h1:D.cellA m b<m.W.length) (hr:m.room≠0) (hq:¬ t<b) (h:Handed w E 11 (dO nz0 i c m) []) :
  Calls Try.prog 88 (([.c (.ptr (7,i,0) 0),.c (.ptr (10,0,0) 0)]:List SV).map (SV.den E)).toArray w (EffR w E 11 (takesO E (dO nz0 i c m)) (.c (.v (.bool (D.taskT m i ⟨1,5,b,t,v,got⟩).2.2))) 2 fun b'=>killO [3,4]++dO ⟨b',b' + 1,6,7⟩ i c (tskM m i (D.taskT m i ⟨1,5,b,t,v,got⟩))):=by
 have hwl:=ht.wl
 refine enterO (c:=ir88) (rs:=rs88) (nt:=nt88) h _ Try.func88 rfl (by kernel_rfl) (by kernel_rfl) rfl (by simp [okVs,SV.okN,SC.okN]) (of_decide_eq_true rfl) ?_
 have heq:D.taskT m i ⟨1,5,b,t,v,got⟩=(logd { m with us:=true } ⟨m.mm,m.th,1,D.cellA m b,0,0,D.wd m (D.cellA m b)⟩ (D.wd m (D.cellA m b)),⟨1,6,b,t,D.i64 (D.wd m (D.cellA m b)),got⟩,false):=by
  simp only [D.taskT,D.takeT,if_true,if_false,Nat.one_ne_zero]
  rw [D.ld_ok ht.us h0 h1]
  simp only [if_neg hq]
  rfl
 rw [heq]
 generalize hR:EffR w E 11 (takesO E (dO nz0 i c m)) _ 2 _=R
 generalize hW:takesO E (dO nz0 i c m)=W
 have hf:=ht.f
 simp only [tkC,nextC,tkTy,iI] at hf
 have hi:=ht.hi
 simp (maxSteps:=2000000) only [ir88,nt88,rs88,go_sem,↓runOp,↓reduceIte,Nat.reduceLT,Nat.reduceEqDiff,reduceCtorEq,dO,mO,nz0,bkM,bkY,hubC,iI,hf]
 refine And.intro hi (And.intro ⟨_,Try.func111,by kernel_rfl,by kernel_rfl⟩ ?_)
 refine call_inline (c:=ir111) (rs:=rs111) (nt:=nt111) 1000 (mkTab_ok _ _) Try.func111 rfl (by kernel_rfl) (by kernel_rfl) rfl (by simp [okVs,SV.okN,SC.okN]) (of_decide_eq_true rfl) (fun E0 a0 ht0=>?_)
 simp (maxSteps:=2000000) only [ir111,nt111,rs111,go_sem,↓runOp,↓reduceIte,Nat.reduceLT,Nat.reduceEqDiff,reduceCtorEq]
 have hd:decide (t<b)=false:=decide_eq_false hq
 refine draw_vc (by kernel_rfl) (mkTab_ok _ _) (of_decide_eq_true rfl) (of_decide_eq_true rfl) ?_
 repeat (first | simp (maxSteps:=2000000) only [go_sem,↓gateD,↓runD,↓reduceIte,Nat.reduceLT,Nat.reduceEqDiff,reduceCtorEq,hf] | rw [dr_cons])
 repeat (with_reducible refine And.intro (by first | exact hi | exact Or.inr trivial | exact Or.inl trivial) ?_)
 refine dcallV (.c (.v (.int .i64 (D.cellA m (b))))) _ (fun E=>rfl) (fun E a w' hs=>cell_at hs (x:=(7,i,0)) (p:=i<m.S.length∧True) (by simp only [pkN,look,Fm.pk,Nat.reduceEqDiff,if_true,if_false,hf];rfl) ⟨hi,trivial⟩ rfl hr (b) (fun E u hu=>by simp only [List.mem_cons,List.not_mem_nil,or_false] at hu;first | (rcases hu with rfl | rfl | rfl | rfl | rfl <;> simp [SC.den,Value.oneCell'];done) | (rcases hu with rfl | rfl | rfl | rfl <;> simp [SC.den,Value.oneCell',iI])) (fun E u hu=>by simp only [List.mem_cons,List.not_mem_nil,or_false] at hu;rcases hu with rfl | rfl | rfl | rfl <;> simp [SC.den,Value.oneCell'])) ?_
 repeat (first | simp (maxSteps:=2000000) only [go_sem,↓gateD,↓runD,↓reduceIte,Nat.reduceLT,Nat.reduceEqDiff,reduceCtorEq] | rw [dr_cons])
 repeat (with_reducible refine And.intro (by first | exact hi | exact Or.inr trivial | exact Or.inl trivial) ?_)
 refine dcall_intro (crA (i:=i) (c:=c) (m:=m) (m':=logd { m with us:=true } ⟨m.mm,m.th,1,D.cellA m b,0,0,D.wd m (D.cellA m b)⟩ (D.wd m (D.cellA m b))) (Nat.le_refl _) (ain0 rfl rfl rfl rfl rfl rfl) (fun E w h=>dload_at ht (a:=D.cellA m b) h0 h1 h)) rfl trivial ?_ ?_ ?_
 ·simp [wrOk,killO,aO,wrFree,wkImp,nth,memB,look]
 ·intro k hk hlt
  simp only [killO,aO,keysL,List.map_cons,List.map_nil,List.cons_append,List.nil_append,List.mem_cons,List.not_mem_nil,or_false] at hk
  have hlt:k<11:=hlt
  rcases hk with rfl | rfl | rfl | rfl | rfl | rfl | rfl | rfl <;> first | rfl | omega
 repeat (first | simp (maxSteps:=2000000) only [go_sem,↓gateD,↓runD,↓reduceIte,Nat.reduceLT,Nat.reduceAdd,Nat.reduceEqDiff,reduceCtorEq,killO,aO,bkM,bkY,iI,logd] | rw [dr_cons])
 refine dcallV (.c (.v (.int .i64 (D.i64 (D.wd m (D.cellA m b)))))) _ (fun E=>rfl) (fun E a w' hs=>value_calls w' _) ?_
 repeat (first | simp (maxSteps:=2000000) only [go_sem,↓gateD,↓runD,↓reduceIte,Nat.reduceLT,Nat.reduceLeDiff,Nat.reduceAdd,Nat.reduceEqDiff,reduceCtorEq,hf] | rw [dr_cons])
 repeat (with_reducible refine And.intro (by first | exact hi | exact Or.inr trivial | exact Or.inl trivial) ?_)
 refine draw_vc (by kernel_rfl) (mkTab_ok _ _) (of_decide_eq_true rfl) (of_decide_eq_true rfl) ?_
 repeat (first | simp (maxSteps:=2000000) only [go_sem,↓condS,↓runOp,↓gateD,↓runD,↓imp_ft,↓imp_ff,↓reduceIte,Nat.reduceLT,Nat.reduceLeDiff,Nat.reduceAdd,Nat.reduceEqDiff,reduceCtorEq,hd] | rw [dr_cons])
 repeat (with_reducible refine And.intro (by first | exact hi | exact Or.inr trivial | exact Or.inl trivial) ?_)
 refine retI ht0 _ rfl (of_decide_eq_true rfl) (by simp [SV.okN,SC.okN]) ?_
 simp (maxSteps:=2000000) only [go_sem,↓runOp,↓reduceIte,Nat.reduceLT,Nat.reduceEqDiff,reduceCtorEq,mkO_rs]
 rw [← hR,← hW]
 exact retT (p:=11) (q:=12) ht rfl rfl rfl (by simp) (fun E=>rfl) rfl rfl ⟨_,_,rfl,Nat.le_refl _,fun _ _=>rfl⟩ rfl rfl rfl ⟨_,_,rfl,Nat.le_refl _,fun _ _=>rfl⟩ ⟨_,rfl,fun x=>by by_cases q:x=i <;> simp [q,tkC,nextC,tkTy,iI,D.i64]⟩ rfl rfl
set_option maxRecDepth 100000 in
set_option maxHeartbeats 2000000 in
theorem take7y_own (w:World) (E:Env) (m:D.Pm) (i c:Nat) (b t v:Int) (ht:AtT m i c ⟨1,7,b,t,v,true⟩) (h:Handed w E 11 (dO nz0 i c m) []) :
  Calls Try.prog 88 (([.c (.ptr (7,i,0) 0),.c (.ptr (10,0,0) 0)]:List SV).map (SV.den E)).toArray w (EffR w E 11 (takesO E (dO nz0 i c m)) (.c (.v (.bool (D.taskT m i ⟨1,7,b,t,v,true⟩).2.2))) 2 fun b'=>killO [3,4]++dO ⟨b',b' + 1,6,7⟩ i c (tskM m i (D.taskT m i ⟨1,7,b,t,v,true⟩))):=by
 have hwl:=ht.wl
 refine enterO (c:=ir88) (rs:=rs88) (nt:=nt88) h _ Try.func88 rfl (by kernel_rfl) (by kernel_rfl) rfl (by simp [okVs,SV.okN,SC.okN]) (of_decide_eq_true rfl) ?_
 have heq:D.taskT m i ⟨1,7,b,t,v,true⟩=(D.ans ({ { logd { m with us:=true } ⟨m.mm,m.th,2,1,0,D.u64 (D.i64 (t+1)),0⟩ (D.wd m (1)) with W:=m.W.set (1:Int).toNat (D.u64 (D.i64 (t+1))) } with last:=false }) i 2 v,⟨1,7,b,t,v,true⟩,true):=by
  simp only [D.taskT,D.takeT,if_true,if_false,Nat.one_ne_zero]
  rw [D.st_ok ht.us (by decide) (by omega)]
  rfl
 rw [heq]
 generalize hR:EffR w E 11 (takesO E (dO nz0 i c m)) _ 2 _=R
 generalize hW:takesO E (dO nz0 i c m)=W
 have hf:=ht.f
 simp only [tkC,nextC,tkTy,iI] at hf
 have hi:=ht.hi
 simp (maxSteps:=2000000) only [ir88,nt88,rs88,go_sem,↓runOp,↓reduceIte,Nat.reduceLT,Nat.reduceEqDiff,reduceCtorEq,dO,mO,nz0,bkM,bkY,hubC,iI,hf]
 refine And.intro hi (And.intro ⟨_,Try.func115,by kernel_rfl,by kernel_rfl⟩ ?_)
 refine call_inline (c:=ir115) (rs:=rs115) (nt:=nt115) 1000 (mkTab_ok _ _) Try.func115 rfl (by kernel_rfl) (by kernel_rfl) rfl (by simp [okVs,SV.okN,SC.okN]) (of_decide_eq_true rfl) (fun E0 a0 ht0=>?_)
 simp (maxSteps:=2000000) only [ir115,nt115,rs115,go_sem,↓runOp,↓reduceIte,Nat.reduceLT,Nat.reduceEqDiff,reduceCtorEq,hf]
 repeat (with_reducible refine And.intro (by first | exact hi | exact Or.inr trivial | exact Or.inl trivial) ?_)
 refine callV (.c (.v (.int .u64 (D.u64 (D.i64 (t+1)))))) _ (fun E=>rfl) (fun E a w' hs=>number_calls w' _) ?_
 simp (maxSteps:=2000000) only [go_sem,↓runOp,↓reduceIte,Nat.reduceLT,Nat.reduceEqDiff,reduceCtorEq]
 refine call_intro (crA (i:=i) (c:=c) (m:=m) (m':={ logd { m with us:=true } ⟨m.mm,m.th,2,1,0,D.u64 (D.i64 (t+1)),0⟩ (D.wd m (1)) with W:=m.W.set (1:Int).toNat (D.u64 (D.i64 (t+1))) }) (Nat.le_refl _) (ain0 rfl rfl rfl rfl rfl rfl) (fun E w h=>dstore_at ht (a:=1) (v:=D.u64 (D.i64 (t+1))) (by decide) (by omega) h)) (lt11 (Nat.le_refl _)) ?_
 simp (maxSteps:=2000000) only [go_sem,↓condS,↓runOp,↓reduceIte,Nat.reduceLT,Nat.reduceLeDiff,Nat.reduceAdd,Nat.reduceEqDiff,reduceCtorEq,Int.reduceToNat,killO,aO,bkM,bkY,iI,logd,hf]
 repeat (with_reducible refine And.intro (by first | exact hi | exact Or.inr trivial | exact Or.inl trivial) ?_)
 refine call_inline (c:=ir97) (rs:=rs97) (nt:=nt97) 1000 (mkTab_ok _ _) Try.func97 rfl (by kernel_rfl) (by kernel_rfl) rfl (by simp [okVs,SV.okN,SC.okN]) (of_decide_eq_true rfl) (fun E1 a1 ht1=>?_)
 simp (maxSteps:=2000000) only [ir97,nt97,rs97,go_sem,↓runOp,↓reduceIte,Nat.reduceLT,Nat.reduceLeDiff,Nat.reduceAdd,Nat.reduceEqDiff,reduceCtorEq]
 refine call_inline (c:=ir102) (rs:=rs102) (nt:=nt102) 1000 (mkTab_ok _ _) Try.func102 rfl (by kernel_rfl) (by kernel_rfl) rfl (by simp [okVs,SV.okN,SC.okL,SC.okN]) (of_decide_eq_true rfl) (fun E2 a2 ht2=>?_)
 simp (maxSteps:=2000000) only [ir102,nt102,rs102,go_sem,↓condS,↓gateS,↓runOp,↓reduceIte,Nat.reduceLT,Nat.reduceAdd,Nat.reduceEqDiff,reduceCtorEq]
 refine draw_vc (by kernel_rfl) (mkTab_ok _ _) (of_decide_eq_true rfl) (of_decide_eq_true rfl) ?_
 repeat (first | simp (maxSteps:=2000000) only [go_sem,↓gateD,↓runD,↓reduceIte,Nat.reduceLT,Nat.reduceLeDiff,Nat.reduceAdd,Nat.reduceEqDiff,reduceCtorEq,seC] | rw [dr_cons])
 repeat (with_reducible refine And.intro (by first | exact hi | exact Or.inr trivial | exact Or.inl trivial) ?_)
 refine retI ht2 _ rfl (of_decide_eq_true rfl) (by simp [SV.okN,ok1L]) ?_
 simp (maxSteps:=2000000) only [go_sem,↓runOp,↓reduceIte,Nat.reduceLT,Nat.reduceEqDiff,reduceCtorEq]
 refine retI ht1 _ rfl (of_decide_eq_true rfl) (by simp [SV.okN,SC.okN]) ?_
 simp (maxSteps:=2000000) only [go_sem,↓runOp,↓reduceIte,Nat.reduceLT,Nat.reduceEqDiff,reduceCtorEq]
 refine retI ht0 _ rfl (of_decide_eq_true rfl) (by simp [SV.okN,SC.okN]) ?_
 simp (maxSteps:=2000000) only [go_sem,↓runOp,↓reduceIte,Nat.reduceLT,Nat.reduceEqDiff,reduceCtorEq,mkO_rs]
 rw [← hR,← hW]
 exact retTA (p:=11) (q:=12) ht rfl rfl rfl (by simp) (fun E=>rfl) rfl rfl ⟨_,_,rfl,Nat.le_refl _,fun _ _=>rfl⟩ rfl rfl ⟨_,rfl,_,rfl,by simp [iI]⟩ ⟨_,_,rfl,Nat.le_refl _,fun _ _=>rfl⟩ ⟨_,rfl,fun x=>by by_cases q:x=i <;> simp [q,tkC,nextC,tkTy,iI,hf]⟩ rfl rfl
set_option maxRecDepth 100000 in
set_option maxHeartbeats 2000000 in
theorem take7n_own (w:World) (E:Env) (m:D.Pm) (i c:Nat) (b t v:Int) (ht:AtT m i c ⟨1,7,b,t,v,false⟩) (h:Handed w E 11 (dO nz0 i c m) []) :
  Calls Try.prog 88 (([.c (.ptr (7,i,0) 0),.c (.ptr (10,0,0) 0)]:List SV).map (SV.den E)).toArray w (EffR w E 11 (takesO E (dO nz0 i c m)) (.c (.v (.bool (D.taskT m i ⟨1,7,b,t,v,false⟩).2.2))) 2 fun b'=>killO [3,4]++dO ⟨b',b' + 1,6,7⟩ i c (tskM m i (D.taskT m i ⟨1,7,b,t,v,false⟩))):=by
 have hwl:=ht.wl
 refine enterO (c:=ir88) (rs:=rs88) (nt:=nt88) h _ Try.func88 rfl (by kernel_rfl) (by kernel_rfl) rfl (by simp [okVs,SV.okN,SC.okN]) (of_decide_eq_true rfl) ?_
 have heq:D.taskT m i ⟨1,7,b,t,v,false⟩=(D.ans ({ { logd { m with us:=true } ⟨m.mm,m.th,2,1,0,D.u64 (D.i64 (t+1)),0⟩ (D.wd m (1)) with W:=m.W.set (1:Int).toNat (D.u64 (D.i64 (t+1))) } with last:=false }) i 3 0,⟨1,7,b,t,v,false⟩,true):=by
  simp only [D.taskT,D.takeT,if_true,if_false,Bool.false_eq_true,Nat.one_ne_zero]
  rw [D.st_ok ht.us (by decide) (by omega)]
  rfl
 rw [heq]
 generalize hR:EffR w E 11 (takesO E (dO nz0 i c m)) _ 2 _=R
 generalize hW:takesO E (dO nz0 i c m)=W
 have hf:=ht.f
 simp only [tkC,nextC,tkTy,iI] at hf
 have hi:=ht.hi
 simp (maxSteps:=2000000) only [ir88,nt88,rs88,go_sem,↓runOp,↓reduceIte,Nat.reduceLT,Nat.reduceEqDiff,reduceCtorEq,dO,mO,nz0,bkM,bkY,hubC,iI,hf]
 refine And.intro hi (And.intro ⟨_,Try.func115,by kernel_rfl,by kernel_rfl⟩ ?_)
 refine call_inline (c:=ir115) (rs:=rs115) (nt:=nt115) 1000 (mkTab_ok _ _) Try.func115 rfl (by kernel_rfl) (by kernel_rfl) rfl (by simp [okVs,SV.okN,SC.okN]) (of_decide_eq_true rfl) (fun E0 a0 ht0=>?_)
 simp (maxSteps:=2000000) only [ir115,nt115,rs115,go_sem,↓runOp,↓reduceIte,Nat.reduceLT,Nat.reduceEqDiff,reduceCtorEq,hf]
 repeat (with_reducible refine And.intro (by first | exact hi | exact Or.inr trivial | exact Or.inl trivial) ?_)
 refine callV (.c (.v (.int .u64 (D.u64 (D.i64 (t+1)))))) _ (fun E=>rfl) (fun E a w' hs=>number_calls w' _) ?_
 simp (maxSteps:=2000000) only [go_sem,↓runOp,↓reduceIte,Nat.reduceLT,Nat.reduceEqDiff,reduceCtorEq]
 refine call_intro (crA (i:=i) (c:=c) (m:=m) (m':={ logd { m with us:=true } ⟨m.mm,m.th,2,1,0,D.u64 (D.i64 (t+1)),0⟩ (D.wd m (1)) with W:=m.W.set (1:Int).toNat (D.u64 (D.i64 (t+1))) }) (Nat.le_refl _) (ain0 rfl rfl rfl rfl rfl rfl) (fun E w h=>dstore_at ht (a:=1) (v:=D.u64 (D.i64 (t+1))) (by decide) (by omega) h)) (lt11 (Nat.le_refl _)) ?_
 simp (maxSteps:=2000000) only [go_sem,↓condS,↓runOp,↓reduceIte,Nat.reduceLT,Nat.reduceLeDiff,Nat.reduceAdd,Nat.reduceEqDiff,reduceCtorEq,Int.reduceToNat,killO,aO,bkM,bkY,iI,logd,hf]
 repeat (with_reducible refine And.intro (by first | exact hi | exact Or.inr trivial | exact Or.inl trivial) ?_)
 refine call_inline (c:=ir97) (rs:=rs97) (nt:=nt97) 1000 (mkTab_ok _ _) Try.func97 rfl (by kernel_rfl) (by kernel_rfl) rfl (by simp [okVs,SV.okN,SC.okN]) (of_decide_eq_true rfl) (fun E1 a1 ht1=>?_)
 simp (maxSteps:=2000000) only [ir97,nt97,rs97,go_sem,↓runOp,↓reduceIte,Nat.reduceLT,Nat.reduceLeDiff,Nat.reduceAdd,Nat.reduceEqDiff,reduceCtorEq]
 refine call_inline (c:=ir102) (rs:=rs102) (nt:=nt102) 1000 (mkTab_ok _ _) Try.func102 rfl (by kernel_rfl) (by kernel_rfl) rfl (by simp [okVs,SV.okN,SC.okL,SC.okN]) (of_decide_eq_true rfl) (fun E2 a2 ht2=>?_)
 simp (maxSteps:=2000000) only [ir102,nt102,rs102,go_sem,↓condS,↓gateS,↓runOp,↓reduceIte,Nat.reduceLT,Nat.reduceAdd,Nat.reduceEqDiff,reduceCtorEq]
 refine draw_vc (by kernel_rfl) (mkTab_ok _ _) (of_decide_eq_true rfl) (of_decide_eq_true rfl) ?_
 repeat (first | simp (maxSteps:=2000000) only [go_sem,↓gateD,↓runD,↓reduceIte,Nat.reduceLT,Nat.reduceLeDiff,Nat.reduceAdd,Nat.reduceEqDiff,reduceCtorEq,seC] | rw [dr_cons])
 repeat (with_reducible refine And.intro (by first | exact hi | exact Or.inr trivial | exact Or.inl trivial) ?_)
 refine retI ht2 _ rfl (of_decide_eq_true rfl) (by simp [SV.okN,ok1L]) ?_
 simp (maxSteps:=2000000) only [go_sem,↓runOp,↓reduceIte,Nat.reduceLT,Nat.reduceEqDiff,reduceCtorEq]
 refine retI ht1 _ rfl (of_decide_eq_true rfl) (by simp [SV.okN,SC.okN]) ?_
 simp (maxSteps:=2000000) only [go_sem,↓runOp,↓reduceIte,Nat.reduceLT,Nat.reduceEqDiff]
 refine retI ht0 _ rfl (of_decide_eq_true rfl) (by simp [SV.okN,SC.okN]) ?_
 simp (maxSteps:=2000000) only [go_sem,↓runOp,↓reduceIte,Nat.reduceLT,Nat.reduceEqDiff,reduceCtorEq,mkO_rs]
 rw [← hR,← hW]
 exact retTA (p:=11) (q:=12) ht rfl rfl rfl (by simp) (fun E=>rfl) rfl rfl ⟨_,_,rfl,Nat.le_refl _,fun _ _=>rfl⟩ rfl rfl ⟨_,rfl,_,rfl,by simp [iI]⟩ ⟨_,_,rfl,Nat.le_refl _,fun _ _=>rfl⟩ ⟨_,rfl,fun x=>by by_cases q:x=i <;> simp [q,tkC,nextC,tkTy,iI,hf]⟩ rfl rfl
end Go.Proofs.Ytcloeignccpljaa.Z
