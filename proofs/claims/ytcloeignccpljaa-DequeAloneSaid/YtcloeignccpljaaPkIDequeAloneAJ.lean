/- DequeAloneSaid: what its proof is made of. No condition. -/
import Derived.Test.YtcloeignccpljaaPkIDequeAloneAI
set_option linter.unusedSimpArgs false
set_option linter.unusedVariables false
namespace Go.Proofs.Ytcloeignccpljaa.Z
open Go Go.RowKit
def ir103:IR:=(.seq (.ops [⟨(some 6),(.mv (.t 0)),none⟩,⟨(some 7),(.mv (.t 1)),none⟩,⟨(some 8),(.call 93 [(.t 6),(.t 7)]),none⟩]) (.kill [3,4,5,6,7,9,10,11] (.cond (.t 8) (.draw [(⟨(some 9),(.mv (.t 0)),none⟩,([],[16,17,18,19,20,21,22,23,24])),(⟨(some 10),(.nilck (.t 9)),none⟩,([],[16,17,18,19,20,21,22,23,24])),(⟨(some 11),(.fa 0 (.t 10)),none⟩,([],[16,17,18,19,20,21,22,23,24])),(⟨(some 12),(.ld false 1 (.t 11)),none⟩,([],[16,17,18,19,20,21,22,23,24])),(⟨(some 13),(.nilck (.t 12)),none⟩,([],[16,17,18,19,20,21,22,23,24])),(⟨(some 14),(.fa 0 (.t 13)),none⟩,([],[16,17,18,19,20,21,22,23,24])),(⟨(some 15),(.ld false 1 (.t 14)),none⟩,([],[16,17,18,19,20,21,22,23,24])),(⟨(some 16),(.mv (.t 0)),none⟩,([0,1,2,3,4,5,6],[9,10,11,12,13,14,15,23,24])),(⟨(some 17),(.nilck (.t 16)),none⟩,([0,1,2,3,4,5,6],[9,10,11,12,13,14,15,23,24])),(⟨(some 18),(.fa 0 (.t 17)),none⟩,([0,1,2,3,4,5,6],[9,10,11,12,13,14,15,23,24])),(⟨(some 19),(.ld false 1 (.t 18)),none⟩,([0,1,2,3,4,5,6],[9,10,11,12,13,14,15,23,24])),(⟨(some 20),(.nilck (.t 19)),none⟩,([0,1,2,3,4,5,6],[9,10,11,12,13,14,15,23,24])),(⟨(some 21),(.fa 1 (.t 20)),none⟩,([0,1,2,3,4,5,6],[9,10,11,12,13,14,15,23,24])),(⟨(some 22),(.ld false 1 (.t 21)),none⟩,([0,1,2,3,4,5,6],[9,10,11,12,13,14,15,23,24])),(⟨(some 23),(.mv (.t 1)),none⟩,([0,1,2,3,4,5,6,7,8,9,10,11,12,13],[9,10,11,12,13,14,15,16,17,18,19,20,21,22,24])),(⟨(some 24),(.mv (.t 2)),none⟩,([0,1,2,3,4,5,6,7,8,9,10,11,12,13,14],[9,10,11,12,13,14,15,16,17,18,19,20,21,22,23])),(⟨(some 25),(.call 106 [(.t 15),(.t 22),(.t 23),(.t 24)]),none⟩,([],[]))]) .skip)))
def rs103:List RS:=[]
def nt103:Nat:=26
set_option maxRecDepth 100000 in
set_option maxHeartbeats 1000000 in
theorem dstore_own (w:World) (E:Env) (m:D.Pm) (i c:Nat) (a v:Int) (hu:m.us=false) (h0:0≤a) (h1:a<m.W.length) (hL:m.L.length≤65536) (hA:m.A.length≤65536) (h:Handed w E 11 (aO nz0 i c m) []) :
  Calls Try.prog 103 (([.c (.ptr (10,0,0) 0),.c (iI a),.c (.v (.int .u64 v))]:List SV).map (SV.den E)).toArray w (EffR w E 11 (takesO E (aO nz0 i c m)) (.tup []) 2 fun b=>killO [3,4]++aO ⟨b,b+1,6,7⟩ i c (D.store m a v)):=by
 refine enterO (c:=ir103) (rs:=rs103) (nt:=nt103) h _ Try.func103 rfl (by kernel_rfl) (by kernel_rfl) rfl (by simp [okVs,SV.okN,SC.okN,iI]) (of_decide_eq_true rfl) ?_
 rw [D.st_ok hu h0 h1]
 generalize hR:EffR w E 11 (takesO E (aO nz0 i c m)) _ 2 _=R
 generalize hW:takesO E (aO nz0 i c m)=W
 have hlt0:decide (a<0)=false:=decide_eq_false (by omega)
 have hge:decide (a≥(m.W.length:Int))=false:=decide_eq_false (by omega)
 simp (maxSteps:=2000000) only [ir103,nt103,rs103,go_sem,↓runOp,↓reduceIte,Nat.reduceLT,Nat.reduceAdd,Nat.reduceEqDiff,reduceCtorEq,aO,nz0,bkM,bkY,iI,hu]
 refine call_inline (c:=ir93) (rs:=rs93) (nt:=nt93) 1000 (mkTab_ok _ _) Try.func93 rfl (by kernel_rfl) (by kernel_rfl) rfl (by simp [okVs,SV.okN,SC.okN]) (of_decide_eq_true rfl) (fun E0 a0 ht0=>?_)
 simp (maxSteps:=2000000) only [ir93,nt93,rs93,go_sem,↓gateS,↓runOp,↓imp_tt,↓reduceIte,Nat.reduceLT,Nat.reduceEqDiff,reduceCtorEq,hlt0]
 refine fork_in rfl (by simp [resAP,resA1,gB]) ?_
 simp (maxSteps:=2000000) only [go_sem,↓runOp,↓reduceIte,Nat.reduceEqDiff,reduceCtorEq]
 refine call_inline (c:=ir99) (rs:=rs99) (nt:=nt99) 1000 (mkTab_ok _ _) Try.func99 rfl (by kernel_rfl) (by kernel_rfl) rfl (by simp [okVs,SV.okN,SC.okN]) (of_decide_eq_true rfl) (fun E1 a1 ht1=>?_)
 simp (maxSteps:=2000000) only [ir99,nt99,rs99,go_sem,↓condS,↓runOp,↓reduceIte,Nat.reduceLT,Nat.reduceEqDiff,reduceCtorEq]
 refine retI ht1 _ rfl (of_decide_eq_true rfl) (by simp [SV.okN,SC.okN]) ?_
 simp (maxSteps:=2000000) only [go_sem,↓condS,↓gateS,↓runOp,↓imp_ft,↓imp_ff,↓reduceIte,Nat.reduceLT,Nat.reduceLeDiff,Nat.reduceAdd,Nat.reduceEqDiff,reduceCtorEq,hge]
 refine retI ht0 _ rfl (of_decide_eq_true rfl) (by simp [SV.okN,SC.okN]) ?_
 simp (maxSteps:=2000000) only [go_sem,↓condS,↓reduceIte,Nat.reduceLT,Nat.reduceEqDiff,reduceCtorEq]
 refine draw_vc (by kernel_rfl) (mkTab_ok _ _) (of_decide_eq_true rfl) (of_decide_eq_true rfl) ?_
 repeat (first | simp (maxSteps:=2000000) only [go_sem,↓gateD,↓runD,↓reduceIte,Nat.reduceLT,Nat.reduceEqDiff,reduceCtorEq] | rw [dr_cons])
 refine dcall_intro (crA (i:=i) (c:=c) (m:={ m with us:=true }) (m':={ logd { m with us:=true } ⟨m.mm,m.th,2,a,0,v,0⟩ (D.wd m a) with W:=m.W.set a.toNat v }) (Nat.le_refl _) ⟨rfl,rfl,⟨_,_,rfl,Nat.le_refl _,fun _ _=>rfl⟩,⟨_,_,rfl,Nat.le_refl _,fun _ _=>rfl⟩,⟨_,_,rfl,Nat.le_refl _,fun _ _=>rfl⟩,rfl⟩ (fun E w h=>mstore_own w E { m with us:=true } i c m.th a v h0 h1 hL hA h)) rfl trivial ?_ ?_ ?_
 ·simp [wrOk,killO,aO,wrFree,wkImp]
 ·intro k hk hlt
  simp only [killO,aO,keysL,List.map_cons,List.map_nil,List.cons_append,List.nil_append,List.mem_cons,List.not_mem_nil,or_false] at hk
  have hlt:k<11:=hlt
  rcases hk with rfl | rfl | rfl | rfl | rfl | rfl | rfl | rfl <;> first | rfl | omega
 repeat (first | simp (maxSteps:=2000000) only [go_sem,↓reduceIte,Nat.reduceLT,Nat.reduceAdd,Nat.reduceEqDiff,reduceCtorEq,killO,aO,bkM,bkY,iI,logd,mkO_rs] | rw [dr_cons])
 rw [← hR,← hW]
 exact retA (p:=11) (q:=12) (m:={ logd { m with us:=true } ⟨m.mm,m.th,2,a,0,v,0⟩ (D.wd m a) with W:=m.W.set a.toNat v }) rfl (by simp) (fun E E'=>by simp [SV.den]) ⟨rfl,rfl,⟨_,_,rfl,Nat.le_refl _,fun _ _=>rfl⟩,⟨_,_,rfl,Nat.le_refl _,fun _ _=>rfl⟩,⟨_,_,rfl,Nat.le_refl _,fun _ _=>rfl⟩,rfl⟩
def ir116:IR:=(.seq (.ops [⟨(some 8),(.mv (.k (.c (.v (.bool false))))),none⟩]) (.kill [4,5,6,7,8,9,10,11] (.seq (.seq (.ops [⟨(some 12),(.mv (.t 0)),none⟩,⟨(some 13),(.mv (.t 1)),none⟩,⟨(some 14),(.call 93 [(.t 12),(.t 13)]),none⟩,⟨(some 15),(.un .not (.t 14)),none⟩]) (.kill [12,13,14] (.cond (.t 15) (.seq (.ops [⟨(some 8),(.mv (.k (.c (.v (.bool false))))),none⟩]) (.kill [0,1,2,3,15] .ret)) .skip))) (.kill [8,15] (.seq (.draw [(⟨(some 17),(.mv (.t 0)),none⟩,([],[24,25,26,27,28,29,30,31,32,33])),(⟨(some 18),(.nilck (.t 17)),none⟩,([],[24,25,26,27,28,29,30,31,32,33])),(⟨(some 19),(.fa 0 (.t 18)),none⟩,([],[24,25,26,27,28,29,30,31,32,33])),(⟨(some 20),(.ld false 1 (.t 19)),none⟩,([],[24,25,26,27,28,29,30,31,32,33])),(⟨(some 21),(.nilck (.t 20)),none⟩,([],[24,25,26,27,28,29,30,31,32,33])),(⟨(some 22),(.fa 0 (.t 21)),none⟩,([],[24,25,26,27,28,29,30,31,32,33])),(⟨(some 23),(.ld false 1 (.t 22)),none⟩,([],[24,25,26,27,28,29,30,31,32,33])),(⟨(some 24),(.mv (.t 0)),none⟩,([0,1,2,3,4,5,6],[17,18,19,20,21,22,23,31,32,33])),(⟨(some 25),(.nilck (.t 24)),none⟩,([0,1,2,3,4,5,6],[17,18,19,20,21,22,23,31,32,33])),(⟨(some 26),(.fa 0 (.t 25)),none⟩,([0,1,2,3,4,5,6],[17,18,19,20,21,22,23,31,32,33])),(⟨(some 27),(.ld false 1 (.t 26)),none⟩,([0,1,2,3,4,5,6],[17,18,19,20,21,22,23,31,32,33])),(⟨(some 28),(.nilck (.t 27)),none⟩,([0,1,2,3,4,5,6],[17,18,19,20,21,22,23,31,32,33])),(⟨(some 29),(.fa 1 (.t 28)),none⟩,([0,1,2,3,4,5,6],[17,18,19,20,21,22,23,31,32,33])),(⟨(some 30),(.ld false 1 (.t 29)),none⟩,([0,1,2,3,4,5,6],[17,18,19,20,21,22,23,31,32,33])),(⟨(some 31),(.mv (.t 1)),none⟩,([0,1,2,3,4,5,6,7,8,9,10,11,12,13],[17,18,19,20,21,22,23,24,25,26,27,28,29,30,32,33])),(⟨(some 32),(.mv (.t 2)),none⟩,([0,1,2,3,4,5,6,7,8,9,10,11,12,13,14],[17,18,19,20,21,22,23,24,25,26,27,28,29,30,31,33])),(⟨(some 33),(.mv (.t 3)),none⟩,([0,1,2,3,4,5,6,7,8,9,10,11,12,13,14,15],[17,18,19,20,21,22,23,24,25,26,27,28,29,30,31,32])),(⟨(some 34),(.call 117 [(.t 23),(.t 30),(.t 31),(.t 32),(.t 33)]),none⟩,([],[])),(⟨(some 16),(.mv (.t 34)),none⟩,([],[])),(⟨(some 35),(.ext 0 (.t 16)),none⟩,([],[36,37])),(⟨(some 36),(.ext 1 (.t 16)),none⟩,([19],[35,37,9])),(⟨(some 37),(.ext 2 (.t 16)),none⟩,([19,20],[35,36,9,10])),(⟨(some 9),(.mv (.t 35)),none⟩,([20,21],[36,37])),(⟨(some 10),(.mv (.t 36)),none⟩,([21],[37])),(⟨(some 11),(.mv (.t 37)),none⟩,([],[]))]) (.kill [0,1,2,3,9,11,16,17,18,19,20,21,22,23,24,25,26,27,28,29,30,31,32,33,34,35,36,37] (.seq (.ops [⟨(some 38),(.mv (.t 10)),none⟩,⟨(some 8),(.mv (.t 38)),none⟩]) (.kill [10,38] .ret))))))))
def rs116:List RS:=[(.t 8)]
def nt116:Nat:=39
set_option maxRecDepth 100000 in
set_option maxHeartbeats 1000000 in
theorem dswap_yes (w:World) (E:Env) (m:D.Pm) (i c:Nat) (a o v:Int) (ho:D.wd m a=o) (hu:m.us=false) (h0:0≤a) (h1:a<m.W.length) (hL:m.L.length≤65536) (hA:m.A.length≤65536) (h:Handed w E 11 (aO nz0 i c m) []) :
  Calls Try.prog 116 (([.c (.ptr (10,0,0) 0),.c (iI a),.c (.v (.int .u64 o)),.c (.v (.int .u64 v))]:List SV).map (SV.den E)).toArray w (EffR w E 11 (takesO E (aO nz0 i c m)) (.c (.v (.bool (D.swap m a o v).2))) 2 fun b=>killO [3,4]++aO ⟨b,b+1,6,7⟩ i c (D.swap m a o v).1):=by
 refine enterO (c:=ir116) (rs:=rs116) (nt:=nt116) h _ Try.func116 rfl (by kernel_rfl) (by kernel_rfl) rfl (by simp [okVs,SV.okN,SC.okN,iI]) (of_decide_eq_true rfl) ?_
 rw [D.sw_ok hu h0 h1,if_pos ho]
 generalize hR:EffR w E 11 (takesO E (aO nz0 i c m)) _ 2 _=R
 generalize hW:takesO E (aO nz0 i c m)=W
 have hlt0:decide (a<0)=false:=decide_eq_false (by omega)
 have hge:decide (a≥(m.W.length:Int))=false:=decide_eq_false (by omega)
 simp (maxSteps:=2000000) only [ir116,nt116,rs116,go_sem,↓runOp,↓reduceIte,Nat.reduceLT,Nat.reduceAdd,Nat.reduceEqDiff,reduceCtorEq,aO,nz0,bkM,bkY,iI,hu]
 refine call_inline (c:=ir93) (rs:=rs93) (nt:=nt93) 1000 (mkTab_ok _ _) Try.func93 rfl (by kernel_rfl) (by kernel_rfl) rfl (by simp [okVs,SV.okN,SC.okN]) (of_decide_eq_true rfl) (fun E0 a0 ht0=>?_)
 simp (maxSteps:=2000000) only [ir93,nt93,rs93,go_sem,↓gateS,↓runOp,↓imp_tt,↓reduceIte,Nat.reduceLT,Nat.reduceEqDiff,reduceCtorEq,hlt0]
 refine fork_in rfl (by simp [resAP,resA1,gB]) ?_
 simp (maxSteps:=2000000) only [go_sem,↓runOp,↓reduceIte,Nat.reduceEqDiff,reduceCtorEq]
 refine call_inline (c:=ir99) (rs:=rs99) (nt:=nt99) 1000 (mkTab_ok _ _) Try.func99 rfl (by kernel_rfl) (by kernel_rfl) rfl (by simp [okVs,SV.okN,SC.okN]) (of_decide_eq_true rfl) (fun E1 a1 ht1=>?_)
 simp (maxSteps:=2000000) only [ir99,nt99,rs99,go_sem,↓condS,↓runOp,↓reduceIte,Nat.reduceLT,Nat.reduceEqDiff,reduceCtorEq]
 refine retI ht1 _ rfl (of_decide_eq_true rfl) (by simp [SV.okN,SC.okN]) ?_
 simp (maxSteps:=2000000) only [go_sem,↓condS,↓gateS,↓runOp,↓imp_ft,↓imp_ff,↓reduceIte,Nat.reduceLT,Nat.reduceLeDiff,Nat.reduceAdd,Nat.reduceEqDiff,reduceCtorEq,hge]
 refine retI ht0 _ rfl (of_decide_eq_true rfl) (by simp [SV.okN,SC.okN]) ?_
 simp (maxSteps:=2000000) only [go_sem,↓condS,↓runOp,↓reduceIte,Nat.reduceLT,Nat.reduceEqDiff,reduceCtorEq]
 refine draw_vc (by kernel_rfl) (mkTab_ok _ _) (of_decide_eq_true rfl) (of_decide_eq_true rfl) ?_
 repeat (first | simp (maxSteps:=2000000) only [go_sem,↓gateD,↓runD,↓reduceIte,Nat.reduceLT,Nat.reduceEqDiff,reduceCtorEq] | rw [dr_cons])
 refine dcall_intro (crA (i:=i) (c:=c) (m:={ m with us:=true }) (m':={ logd { m with us:=true } ⟨m.mm,m.th,3,a,o,v,D.wd m a⟩ (D.wd m a) with W:=m.W.set a.toNat v }) (Nat.le_refl _) ⟨rfl,rfl,⟨_,_,rfl,Nat.le_refl _,fun _ _=>rfl⟩,⟨_,_,rfl,Nat.le_refl _,fun _ _=>rfl⟩,⟨_,_,rfl,Nat.le_refl _,fun _ _=>rfl⟩,rfl⟩ (fun E w h=>mswap_yes w E { m with us:=true } i c m.th a o v ho h0 h1 hL hA h)) rfl trivial ?_ ?_ ?_
 ·simp [wrOk,killO,aO,wrFree,wkImp]
 ·intro k hk hlt
  simp only [killO,aO,keysL,List.map_cons,List.map_nil,List.cons_append,List.nil_append,List.mem_cons,List.not_mem_nil,or_false] at hk
  have hlt:k<11:=hlt
  rcases hk with rfl | rfl | rfl | rfl | rfl | rfl | rfl | rfl <;> first | rfl | omega
 repeat (first | simp (maxSteps:=2000000) only [go_sem,↓runOp,↓gateD,↓runD,↓reduceIte,Nat.reduceLT,Nat.reduceAdd,Nat.reduceEqDiff,reduceCtorEq,killO,aO,bkM,bkY,iI,logd,mkO_rs] | rw [dr_cons])
 rw [← hR,← hW]
 exact retA (p:=11) (q:=12) (m:={ logd { m with us:=true } ⟨m.mm,m.th,3,a,o,v,D.wd m a⟩ (D.wd m a) with W:=m.W.set a.toNat v }) rfl (by simp) (fun E E'=>by simp [SV.den,SC.den]) ⟨rfl,rfl,⟨_,_,rfl,Nat.le_refl _,fun _ _=>rfl⟩,⟨_,_,rfl,Nat.le_refl _,fun _ _=>rfl⟩,⟨_,_,rfl,Nat.le_refl _,fun _ _=>rfl⟩,rfl⟩
set_option maxRecDepth 100000 in
set_option maxHeartbeats 1000000 in
theorem dswap_no (w:World) (E:Env) (m:D.Pm) (i c:Nat) (a o v:Int) (ho:D.wd m a≠o) (hu:m.us=false) (h0:0≤a) (h1:a<m.W.length) (hL:m.L.length≤65536) (hA:m.A.length≤65536) (h:Handed w E 11 (aO nz0 i c m) []) :
  Calls Try.prog 116 (([.c (.ptr (10,0,0) 0),.c (iI a),.c (.v (.int .u64 o)),.c (.v (.int .u64 v))]:List SV).map (SV.den E)).toArray w (EffR w E 11 (takesO E (aO nz0 i c m)) (.c (.v (.bool (D.swap m a o v).2))) 2 fun b=>killO [3,4]++aO ⟨b,b+1,6,7⟩ i c (D.swap m a o v).1):=by
 refine enterO (c:=ir116) (rs:=rs116) (nt:=nt116) h _ Try.func116 rfl (by kernel_rfl) (by kernel_rfl) rfl (by simp [okVs,SV.okN,SC.okN,iI]) (of_decide_eq_true rfl) ?_
 rw [D.sw_ok hu h0 h1,if_neg ho]
 generalize hR:EffR w E 11 (takesO E (aO nz0 i c m)) _ 2 _=R
 generalize hW:takesO E (aO nz0 i c m)=W
 have hlt0:decide (a<0)=false:=decide_eq_false (by omega)
 have hge:decide (a≥(m.W.length:Int))=false:=decide_eq_false (by omega)
 simp (maxSteps:=2000000) only [ir116,nt116,rs116,go_sem,↓runOp,↓reduceIte,Nat.reduceLT,Nat.reduceAdd,Nat.reduceEqDiff,reduceCtorEq,aO,nz0,bkM,bkY,iI,hu]
 refine call_inline (c:=ir93) (rs:=rs93) (nt:=nt93) 1000 (mkTab_ok _ _) Try.func93 rfl (by kernel_rfl) (by kernel_rfl) rfl (by simp [okVs,SV.okN,SC.okN]) (of_decide_eq_true rfl) (fun E0 a0 ht0=>?_)
 simp (maxSteps:=2000000) only [ir93,nt93,rs93,go_sem,↓gateS,↓runOp,↓imp_tt,↓reduceIte,Nat.reduceLT,Nat.reduceEqDiff,reduceCtorEq,hlt0]
 refine fork_in rfl (by simp [resAP,resA1,gB]) ?_
 simp (maxSteps:=2000000) only [go_sem,↓runOp,↓reduceIte,Nat.reduceEqDiff,reduceCtorEq]
 refine call_inline (c:=ir99) (rs:=rs99) (nt:=nt99) 1000 (mkTab_ok _ _) Try.func99 rfl (by kernel_rfl) (by kernel_rfl) rfl (by simp [okVs,SV.okN,SC.okN]) (of_decide_eq_true rfl) (fun E1 a1 ht1=>?_)
 simp (maxSteps:=2000000) only [ir99,nt99,rs99,go_sem,↓condS,↓runOp,↓reduceIte,Nat.reduceLT,Nat.reduceEqDiff,reduceCtorEq]
 refine retI ht1 _ rfl (of_decide_eq_true rfl) (by simp [SV.okN,SC.okN]) ?_
 simp (maxSteps:=2000000) only [go_sem,↓condS,↓gateS,↓runOp,↓imp_ft,↓imp_ff,↓reduceIte,Nat.reduceLT,Nat.reduceLeDiff,Nat.reduceAdd,Nat.reduceEqDiff,reduceCtorEq,hge]
 refine retI ht0 _ rfl (of_decide_eq_true rfl) (by simp [SV.okN,SC.okN]) ?_
 simp (maxSteps:=2000000) only [go_sem,↓condS,↓runOp,↓reduceIte,Nat.reduceLT,Nat.reduceEqDiff,reduceCtorEq]
 refine draw_vc (by kernel_rfl) (mkTab_ok _ _) (of_decide_eq_true rfl) (of_decide_eq_true rfl) ?_
 repeat (first | simp (maxSteps:=2000000) only [go_sem,↓gateD,↓runD,↓reduceIte,Nat.reduceLT,Nat.reduceEqDiff,reduceCtorEq] | rw [dr_cons])
 refine dcall_intro (crA (i:=i) (c:=c) (m:={ m with us:=true }) (m':=logd { m with us:=true } ⟨m.mm,m.th,3,a,o,v,D.wd m a⟩ (D.wd m a)) (Nat.le_refl _) ⟨rfl,rfl,⟨_,_,rfl,Nat.le_refl _,fun _ _=>rfl⟩,⟨_,_,rfl,Nat.le_refl _,fun _ _=>rfl⟩,⟨_,_,rfl,Nat.le_refl _,fun _ _=>rfl⟩,rfl⟩ (fun E w h=>mswap_no w E { m with us:=true } i c m.th a o v ho h0 h1 hL hA h)) rfl trivial ?_ ?_ ?_
 ·simp [wrOk,killO,aO,wrFree,wkImp]
 ·intro k hk hlt
  simp only [killO,aO,keysL,List.map_cons,List.map_nil,List.cons_append,List.nil_append,List.mem_cons,List.not_mem_nil,or_false] at hk
  have hlt:k<11:=hlt
  rcases hk with rfl | rfl | rfl | rfl | rfl | rfl | rfl | rfl <;> first | rfl | omega
 repeat (first | simp (maxSteps:=2000000) only [go_sem,↓runOp,↓gateD,↓runD,↓reduceIte,Nat.reduceLT,Nat.reduceAdd,Nat.reduceEqDiff,reduceCtorEq,killO,aO,bkM,bkY,iI,logd,mkO_rs] | rw [dr_cons])
 rw [← hR,← hW]
 exact retA (p:=11) (q:=12) (m:=logd { m with us:=true } ⟨m.mm,m.th,3,a,o,v,D.wd m a⟩ (D.wd m a)) rfl (by simp) (fun E E'=>by simp [SV.den,SC.den]) ⟨rfl,rfl,⟨_,_,rfl,Nat.le_refl _,fun _ _=>rfl⟩,⟨_,_,rfl,Nat.le_refl _,fun _ _=>rfl⟩,⟨_,_,rfl,Nat.le_refl _,fun _ _=>rfl⟩,rfl⟩
end Go.Proofs.Ytcloeignccpljaa.Z
namespace Go.Proofs.Ytcloeignccpljaa.Z
open Go Go.RowKit
def tskM (m:D.Pm) (i:Nat) (r:D.Pm×D.Tk×Bool):D.Pm:=D.setTk r.1 i (some r.2.1)
structure AtT (m:D.Pm) (i c:Nat) (k:D.Tk):Prop where
 us:m.us=false
 hi:i<m.S.length
 tk:(m.S.getD i D.se0).tk=some k
 la:(m.S.getD i D.se0).la=c
 hc:c<m.C.length
 wl:2≤m.W.length
 hL:m.L.length≤65536
 hA:m.A.length≤65536
theorem AtT.f {m:D.Pm} {i c:Nat} {k:D.Tk} (h:AtT m i c k):tkF 7 m.S i = .bk (tkC (.ptr (7,i,0) 0) k) (tkTy k.kd):=by
 unfold tkF;rw [h.tk];rfl
theorem seC_tk {t i:Nat} {S:List D.Se} {k k' : D.Tk} (hi:i<S.length) (hk:(S.getD i D.se0).tk=some k) (hkd:k'.kd=k.kd) (e:Nat):seC t S e=seC t (S.set i { S.getD i D.se0 with tk:=some k' }) e:=by
 unfold seC
 rw [D.set_getD _ _ _ _ _ hi]
 by_cases q:i=e
 ·subst q
  rw [if_pos rfl,hk]
  simp only [taskI,hkd]
 ·rw [if_neg q]
theorem tkF_tk {t i:Nat} {S:List D.Se} {k' : D.Tk} (hi:i<S.length) (e:Nat):(if e=i then .bk (tkC (.ptr (t,i,0) 0) k') (tkTy k'.kd) else tkF t S e)=tkF t (S.set i { S.getD i D.se0 with tk:=some k' }) e:=by
 unfold tkF
 rw [D.set_getD _ _ _ _ _ hi]
 by_cases q:i=e
 ·subst q
  rw [if_pos rfl,if_pos rfl];rfl
 ·rw [if_neg q,if_neg (fun h=>q h.symm)]
theorem lt11 {n:Nat} (h:11≤n):∀ i∈List.range 11,i<n:=fun i hi=>Nat.lt_of_lt_of_le (List.mem_range.1 hi) h
theorem dload_at {w:World} {E:Env} {m:D.Pm} {i c:Nat} {k:D.Tk} (ht:AtT m i c k) {a:Int} (h0:0≤a) (h1:a<m.W.length) (h:Handed w E 11 (aO nz0 i c m) []) :
  Calls Try.prog 91 (([.c (.ptr (10,0,0) 0),.c (iI a)]:List SV).map (SV.den E)).toArray w (EffR w E 11 (takesO E (aO nz0 i c m)) (.c (.v (.int .u64 (D.wd m a)))) 2 fun b=>killO [3,4]++aO ⟨b,b+1,6,7⟩ i c (logd { m with us:=true } ⟨m.mm,m.th,1,a,0,0,D.wd m a⟩ (D.wd m a))):=by
 have:=dload_own w E m i c a ht.us h0 h1 ht.hL ht.hA h
 rw [D.ld_ok ht.us h0 h1] at this
 exact this
theorem ain0 {own:Own} {i c:Nat} {m:D.Pm} (h0:look own 0=some (.one (.bk (bkM nz0 (.pe (6,0,0) 9 c 0) (.pe (5,0,0) 5 i 3) m) 113))) (h1:look own 1=some (.one (.bk (bkY nz0 m) 140))) (h2:look own 2=some (.one (.ar m.W.length 1 (ats eU m.W 0) 44))) (h3:look own 3=some (.one (.ar m.L.length 7 (ats D.Ac.enc m.L D.ac0) 47))) (h4:look own 4=some (.one (.ar m.A.length 1 (ats eU m.A 0) 44)))
  (h10:look own 10=some (.one (.bk [.ptr (0,0,0) 0] 137))):AIn own nz0 i c m :=
 ⟨h0,h1,⟨_,_,h2,Nat.le_refl _,fun _ _=>rfl⟩,⟨_,_,h3,Nat.le_refl _,fun _ _=>rfl⟩,⟨_,_,h4,Nat.le_refl _,fun _ _=>rfl⟩,h10⟩
theorem retT {P:Program} {w:World} {E:Env} {W:Nat→Prop} {rs:List RS} {v:SV} {S2:St} {i c p q:Nat} {m r:D.Pm} {k k' : D.Tk} {over:Bool} (ht:AtT m i c k) (hkd:k'.kd=k.kd) (hS:r.S=m.S) (hpq:pqOk p q=true) (hf:AgF 11 E∈S2.facts) (hu:∀ E,v.den E = .bool over)
  (h0:look S2.own 0=some (.one (.bk (bkM ⟨p,q,6,7⟩ (.pe (6,0,0) 9 c 0) (.pe (5,0,0) 5 i 3) r) 113))) (h1:look S2.own 1=some (.one (.bk (bkY ⟨p,q,6,7⟩ r) 140)))
  (h2:∃ n g,look S2.own 2=some (.one (.ar n 1 g 44))∧r.W.length≤n∧∀ e,e<r.W.length→g e=ats eU r.W 0 e) (h3:look S2.own p=some (.one (.ar r.L.length 7 (ats D.Ac.enc r.L D.ac0) 47))) (h4:look S2.own q=some (.one (.ar r.A.length 1 (ats eU r.A 0) 44)))
  (h5:look S2.own 5=some (.one (.ar m.S.length 5 (seC 7 m.S) 116))) (h6:∃ n g,look S2.own 6=some (.one (.ar n 9 g 77))∧r.C.length≤n∧∀ e,e<r.C.length→g e=ats D.Ca.enc r.C D.ca0 e)
  (h7:∃ g,look S2.own 7=some (.fam m.S.length g)∧∀ x,g x=if x=i then .bk (tkC (.ptr (7,i,0) 0) k') (tkTy k'.kd) else tkF 7 m.S x) (h9:look S2.own 9=some (.one (.bk (hubC r) 88))) (h10:look S2.own 10=some (.one (.bk [.ptr (0,0,0) 0] 137))) :
  RetVC (mkO P w W rs (EffR w E 11 W (.c (.v (.bool over))) 2 fun b=>killO [3,4]++dO ⟨b,b+1,6,7⟩ i c (tskM m i (r,k',over)))) v S2:=by
 have eS:(tskM m i (r,k',over)).S=m.S.set i { m.S.getD i D.se0 with tk:=some k' }:=by simp only [tskM,D.setTk,hS]
 have eL:(tskM m i (r,k',over)).S.length=r.S.length:=by rw [eS,List.length_set,hS]
 obtain ⟨g,g1,g2⟩:=h7
 refine retD hpq hf (fun E E'=>(hu E).trans rfl) ⟨?_,h1,h2,⟨_,_,h3,Nat.le_refl _,fun _ _=>rfl⟩,⟨_,_,h4,Nat.le_refl _,fun _ _=>rfl⟩,⟨_,_,h5,?_,fun e _=>?_⟩,h6,⟨_,_,g1,?_,fun x _=>?_⟩,h9,h10⟩
 ·rw [h0]
  simp only [bkM,eL]
  rfl
 ·rw [eS,List.length_set];exact Nat.le_refl _
 ·rw [eS];exact seC_tk ht.hi ht.tk hkd e
 ·rw [eS,List.length_set];exact Nat.le_refl _
 ·rw [g2,eS];exact tkF_tk ht.hi x
def ir88:IR:=(.seq (.ops [⟨(some 4),(.mv (.k (.c (.v (.bool false))))),none⟩]) (.kill [2,3,4,5,6,7,8,9,10,11] (.seq (.ops [⟨(some 5),(.mv (.t 0)),none⟩,⟨(some 6),(.nilck (.t 5)),none⟩,⟨(some 7),(.fa 1 (.t 6)),none⟩,⟨(some 8),(.ld false 1 (.t 7)),none⟩,⟨(some 9),(.mv (.t 1)),none⟩,⟨(some 10),(.callv (.t 8) [(.t 9)]),none⟩,⟨(some 4),(.mv (.t 10)),none⟩]) (.kill [0,1,5,6,7,8,9,10] .ret))))
def rs88:List RS:=[(.t 4)]
def nt88:Nat:=11
def ir90:IR:=(.seq (.ops [⟨(some 4),(.mv (.k (.c (.v (.bool false))))),none⟩]) (.kill [2,3,4,5,6,7,8,9,10,11] (.seq (.ops [⟨(some 5),(.mv (.t 0)),none⟩,⟨(some 6),(.mv (.t 1)),none⟩,⟨(some 7),(.call 91 [(.t 6),(.k (.c (.v (.int .i64 1))))]),none⟩,⟨(some 8),(.call 32 [(.t 7)]),none⟩,⟨(some 9),(.nilck (.t 5)),none⟩,⟨(some 10),(.fa 0 (.t 9)),none⟩,⟨(some 11),(.fa 2 (.t 10)),none⟩,⟨none,(.st 1 (.t 11) (.t 8)),none⟩]) (.kill [1,5,6,7,8,9,10,11] (.seq (.ops [⟨(some 12),(.mv (.t 0)),none⟩,⟨(some 13),(.mv (.t 0)),none⟩,⟨(some 14),(.mfn (.func 92) [(.t 13)] []),none⟩,⟨(some 15),(.nilck (.t 12)),none⟩,⟨(some 16),(.fa 0 (.t 15)),none⟩,⟨(some 17),(.fa 1 (.t 16)),none⟩,⟨none,(.st 1 (.t 17) (.t 14)),none⟩]) (.kill [0,12,13,14,15,16,17] (.seq (.ops [⟨(some 4),(.mv (.k (.c (.v (.bool false))))),none⟩]) .ret)))))))
def rs90:List RS:=[(.t 4)]
def nt90:Nat:=18
def ir32:IR:=(.seq (.ops [⟨(some 2),(.mv (.k (.c (.v (.int .i64 0))))),none⟩]) (.kill [1,2,3,4,5,6,7,8,9,10,11] (.seq (.ops [⟨(some 3),(.mv (.t 0)),none⟩,⟨(some 4),(.conv .i64 (.t 3)),none⟩,⟨(some 2),(.mv (.t 4)),none⟩]) (.kill [0,3,4] .ret))))
def rs32:List RS:=[(.t 2)]
def nt32:Nat:=5
set_option maxRecDepth 100000 in
set_option maxHeartbeats 1000000 in
theorem push1_own (w:World) (E:Env) (m:D.Pm) (i c:Nat) (b t v:Int) (got:Bool) (ht:AtT m i c ⟨0,1,b,t,v,got⟩) (h:Handed w E 11 (dO nz0 i c m) []) :
  Calls Try.prog 88 (([.c (.ptr (7,i,0) 0),.c (.ptr (10,0,0) 0)]:List SV).map (SV.den E)).toArray w (EffR w E 11 (takesO E (dO nz0 i c m)) (.c (.v (.bool (D.taskT m i ⟨0,1,b,t,v,got⟩).2.2))) 2 fun b'=>killO [3,4]++dO ⟨b',b' + 1,6,7⟩ i c (tskM m i (D.taskT m i ⟨0,1,b,t,v,got⟩))):=by
 refine enterO (c:=ir88) (rs:=rs88) (nt:=nt88) h _ Try.func88 rfl (by kernel_rfl) (by kernel_rfl) rfl (by simp [okVs,SV.okN,SC.okN]) (of_decide_eq_true rfl) ?_
 have heq:D.taskT m i ⟨0,1,b,t,v,got⟩=(logd { m with us:=true } ⟨m.mm,m.th,1,1,0,0,D.wd m 1⟩ (D.wd m 1),⟨0,2,D.i64 (D.wd m 1),t,v,got⟩,false):=by
  have:=ht.wl
  simp only [D.taskT,D.pushT,if_true]
  rw [D.ld_ok ht.us (by decide) (by omega)];rfl
 rw [heq]
 generalize hR:EffR w E 11 (takesO E (dO nz0 i c m)) _ 2 _=R
 generalize hW:takesO E (dO nz0 i c m)=W
 have hf:=ht.f
 simp only [tkC,nextC,tkTy] at hf
 have hi:=ht.hi
 simp (maxSteps:=2000000) only [ir88,nt88,rs88,go_sem,↓runOp,↓reduceIte,Nat.reduceLT,Nat.reduceEqDiff,reduceCtorEq,dO,mO,nz0,bkM,bkY,hubC,iI,hf]
 refine And.intro hi (And.intro ⟨_,Try.func90,by kernel_rfl,by kernel_rfl⟩ ?_)
 refine call_inline (c:=ir90) (rs:=rs90) (nt:=nt90) 1000 (mkTab_ok _ _) Try.func90 rfl (by kernel_rfl) (by kernel_rfl) rfl (by simp [okVs,SV.okN,SC.okN]) (of_decide_eq_true rfl) (fun E0 a0 ht0=>?_)
 simp (maxSteps:=2000000) only [ir90,nt90,rs90,go_sem,↓runOp,↓reduceIte,Nat.reduceLT,Nat.reduceEqDiff,reduceCtorEq]
 refine call_intro (crA (i:=i) (c:=c) (m:=m) (m':=logd { m with us:=true } ⟨m.mm,m.th,1,1,0,0,D.wd m 1⟩ (D.wd m 1)) (Nat.le_refl _) (ain0 rfl rfl rfl rfl rfl rfl) (fun E w h=>dload_at ht (by decide) (by have:=ht.wl;omega) h)) (lt11 (Nat.le_refl _)) ?_
 simp (maxSteps:=2000000) only [go_sem,↓runOp,↓reduceIte,Nat.reduceLT,Nat.reduceAdd,Nat.reduceEqDiff,reduceCtorEq,killO,aO,bkM,bkY,iI,logd]
 refine call_inline (c:=ir32) (rs:=rs32) (nt:=nt32) 1000 (mkTab_ok _ _) Try.func32 rfl (by kernel_rfl) (by kernel_rfl) rfl (by simp [okVs,SV.okN,SC.okN]) (of_decide_eq_true rfl) (fun E1 a1 ht1=>?_)
 simp (maxSteps:=2000000) only [ir32,nt32,rs32,go_sem,↓runOp,↓reduceIte,Nat.reduceLT,Nat.reduceEqDiff,reduceCtorEq]
 refine retI ht1 _ rfl (of_decide_eq_true rfl) (by simp [SV.okN,SC.okN]) ?_
 simp (maxSteps:=2000000) only [go_sem,↓runOp,↓reduceIte,Nat.reduceLT,Nat.reduceLeDiff,Nat.reduceAdd,Nat.reduceEqDiff,reduceCtorEq,hf]
 refine And.intro hi (And.intro hi ?_)
 refine retI ht0 _ rfl (of_decide_eq_true rfl) (by simp [SV.okN,SC.okN]) ?_
 simp (maxSteps:=2000000) only [go_sem,↓runOp,↓reduceIte,Nat.reduceLT,Nat.reduceEqDiff,reduceCtorEq,mkO_rs]
 rw [← hR,← hW]
 exact retT (p:=11) (q:=12) ht rfl rfl rfl (by simp) (fun E=>rfl) rfl rfl ⟨_,_,rfl,Nat.le_refl _,fun _ _=>rfl⟩ rfl rfl rfl ⟨_,_,rfl,Nat.le_refl _,fun _ _=>rfl⟩ ⟨_,rfl,fun x=>by by_cases q:x=i <;> simp [q,tkC,nextC,tkTy,iI,D.i64]⟩ rfl rfl
end Go.Proofs.Ytcloeignccpljaa.Z
namespace Go.Proofs.Ytcloeignccpljaa.Z
open Go Go.RowKit
def ir89:IR:=(.seq (.ops [⟨(some 4),(.mv (.k (.c (.v (.int .i64 0))))),none⟩]) (.kill [2,3,4,5,6,7,8,9,10,11] (.seq (.ops [⟨(some 5),(.mv (.t 1)),none⟩,⟨(some 6),(.mv (.t 0)),none⟩,⟨(some 7),(.nilck (.t 6)),none⟩,⟨(some 8),(.fa 0 (.t 7)),none⟩,⟨(some 9),(.ld false 1 (.t 8)),none⟩,⟨(some 10),(.nilck (.t 9)),none⟩,⟨(some 11),(.fa 0 (.t 10)),none⟩,⟨(some 12),(.ld false 1 (.t 11)),none⟩,⟨(some 13),(.bin .rem (.t 5) (.t 12)),none⟩,⟨(some 14),(.bin .add (.k (.c (.v (.int .i64 2)))) (.t 13)),none⟩,⟨(some 4),(.mv (.t 14)),none⟩]) (.kill [0,1,5,6,7,8,9,10,11,12,13,14] .ret))))
def rs89:List RS:=[(.t 4)]
def nt89:Nat:=15
def ir104:IR:=(.seq (.ops [⟨(some 2),(.mv (.k (.c (.v (.int .u64 0))))),none⟩]) (.kill [1,2,3,4,5,6,7,8,9,10,11] (.seq (.ops [⟨(some 3),(.mv (.t 0)),none⟩,⟨(some 4),(.conv .u64 (.t 3)),none⟩,⟨(some 2),(.mv (.t 4)),none⟩]) (.kill [0,3,4] .ret))))
def rs104:List RS:=[(.t 2)]
def nt104:Nat:=5
set_option maxRecDepth 100000 in
theorem value_calls (w:World) (x:Int):Calls Try.prog 32 #[.int .u64 x] w (RetV w (.int .i64 (D.i64 x))):=by
 refine enter0 (A:=[]) (c:=ir32) (rs:=rs32) (nt:=nt32) [.c (.v (.int .u64 x))] _ Try.func32 rfl (by kernel_rfl) (by kernel_rfl) rfl (fun E=>by simp [SV.den,SC.den]) (of_decide_eq_true rfl) ?_
 simp (maxSteps:=2000000) only [ir32,nt32,rs32,go_sem,↓runOp,↓reduceIte,Nat.reduceLT,Nat.reduceEqDiff,reduceCtorEq]
 exact retV fun E=>rfl
set_option maxRecDepth 100000 in
theorem number_calls (w:World) (x:Int):Calls Try.prog 104 #[.int .i64 x] w (RetV w (.int .u64 (D.u64 x))):=by
 refine enter0 (A:=[]) (c:=ir104) (rs:=rs104) (nt:=nt104) [.c (.v (.int .i64 x))] _ Try.func104 rfl (by kernel_rfl) (by kernel_rfl) rfl (fun E=>by simp [SV.den,SC.den]) (of_decide_eq_true rfl) ?_
 simp (maxSteps:=2000000) only [ir104,nt104,rs104,go_sem,↓runOp,↓reduceIte,Nat.reduceLT,Nat.reduceEqDiff,reduceCtorEq]
 exact retV fun E=>rfl
def E2P (p q:Nat):Env:=⟨fun _=>0,fun _=>0,fun _=>false,fun x=>if x.1=0 then .slice (some ⟨p,0,none⟩) 1 1 else if x.1=1 then .slice (some ⟨q,0,none⟩) 1 1 else .bool true⟩
theorem arr_cellsB {w:World} {E:Env} {x:Nm} {p n ty:Nat} {cs:List SC} (hχ:E.χ x = .slice (some ⟨p,0,none⟩) 1 1) (hp:w.heap[p]? = some (.cells (cs.map (SC.den E)).toArray ty (0,0))) (hn:cs.length=n) (h1:∀ u∈cs,(u.den E).oneCell' = true):ArrAt E w x ⟨1,n,fun _=>cs,0⟩:=by
 refine ⟨_,1,hχ,Nat.le_refl _,by simp [maxLen],Or.inr ⟨p,0,rfl,Nat.zero_le _,fun k hk=>⟨hn,fun j u hu=>?_⟩⟩⟩
 have hk0:k=0:=by simp only at hk;omega
 subst hk0
 have hu:cs[j]? = some u:=hu
 refine ⟨?_,h1 _ (List.mem_of_getElem? hu)⟩
 unfold World.cell?
 simp [hp,hu]
set_option maxRecDepth 100000 in
set_option maxHeartbeats 1000000 in
theorem cell_calls (w:World) (p q:Nat) (rest hs:List Value) (room i:Int) (ty1 ty2:Nat) (hp:w.heap[p]? = some (.cells (.pointer (some ⟨q,0,none⟩) :: rest).toArray ty1 (0,0))) (hq:w.heap[q]? = some (.cells (.int .i64 room :: hs).toArray ty2 (0,0)))
  (hr:room≠0) (h1:∀ u∈rest,u.oneCell' = true) (h2:∀ u∈hs,u.oneCell' = true):Calls Try.prog 89 #[.pointer (some ⟨p,0,none⟩),.int .i64 i] w (RetV w (.int .i64 (D.i64 (2+i.tmod room)))):=by
 have hk:∀ E' : Env,AgreeD (· < 2) (E2P p q) E'→E'.χ (0,0,0) = .slice (some ⟨p,0,none⟩) 1 1∧E'.χ (1,0,0) = .slice (some ⟨q,0,none⟩) 1 1:=fun E' hE'=>by
  refine ⟨?_,?_⟩
  ·have:=(hE' (0,0,0) (show 0<2 by decide)).2.2.2;simpa [E2P] using this
  ·have:=(hE' (1,0,0) (show 1<2 by decide)).2.2.2;simpa [E2P] using this
 refine calls_sym (c:=ir89) (C:=mkC Try.prog [] w rs89 (RetV w (.int .i64 (D.i64 (2+i.tmod room))))) 1000 [.c (.ep (0,0,0) (rest.length+1) 0 0),.c (iI i)] (E2P p q) [] [(0,.one ⟨1,rest.length+1,fun _=>.ep (1,0,0) (hs.length+1) 0 0 :: rest.map .v,0⟩),(1,.one ⟨1,hs.length+1,fun _=>iI room :: hs.map .v,0⟩)] [] 2 nt89 _ (mkTab_ok _ _) Try.func89 rfl (by kernel_rfl) (by kernel_rfl) rfl rfl rfl (fun x=>?_) (fun E' hE'=>?_) (of_decide_eq_true rfl) (fun E' hE'=>inOk_arrs fun w' hw' x A' hA'=>?_) ?_
 ·simp only [E2P]
  split
  ·rfl
  ·split <;> rfl
 ·obtain ⟨k0,k1⟩:=hk E' hE'
  simp [SV.den,SC.den,iI,k0]
 ·obtain ⟨k0,k1⟩:=hk E' hE'
  rcases atN_one hA' with ⟨rfl,rfl⟩ | hA'
  ·refine arr_cellsB k0 (ty:=ty1) ?_ (by simp) ?_
   ·rw [hw' p (Array.getElem?_eq_some_iff.1 hp).1,hp]
    simp [SC.den,k1,List.map_map,Function.comp_def]
   ·intro u hu
    rcases List.mem_cons.1 hu with rfl | hu
    ·simp [SC.den,k1,Value.oneCell']
    ·obtain ⟨v,hv,rfl⟩:=List.mem_map.1 hu
     rw [den_v];exact h1 v hv
  rcases atN_one hA' with ⟨rfl,rfl⟩ | hA'
  ·refine arr_cellsB k1 (ty:=ty2) ?_ (by simp) ?_
   ·rw [hw' q (Array.getElem?_eq_some_iff.1 hq).1,hq]
    simp [SC.den,iI,List.map_map,Function.comp_def]
   ·intro u hu
    rcases List.mem_cons.1 hu with rfl | hu
    ·simp [SC.den,iI,Value.oneCell']
    ·obtain ⟨v,hv,rfl⟩:=List.mem_map.1 hu
     rw [den_v];exact h2 v hv
  exact (atN_nil hA').elim
 simp (maxSteps:=2000000) only [ir89,nt89,rs89,go_sem,↓runOp,↓reduceIte,Nat.reduceLT,Nat.reduceEqDiff,reduceCtorEq,iI]
 exact And.intro hr (retV fun E=>by simp [SV.den,SC.den,D.i64])
theorem heap_bk {C:Ctx} {E:Env} {S:St} {a:Act} {w:World} (hs:Sat C.B C.W C.w0 E S a w) {x:Nm} {cs:List SC} {ty:Nat} {p:Prop} (h:pkN S.own x=some (p,.bk cs ty)) (hp:p):w.heap[E.ρ x]? = some (.cells (cs.map (SC.den E)).toArray ty (0,0)):=by
 obtain ⟨H,hH,_⟩:=hs.mem
 have h1:=hH.den x _ (pkN_at h hp)
 simp only [Blk.den] at h1
 exact (hH.sub x _ (pkN_at h hp) (E.ρ x) _ (by rw [h1];simp [sing])).1
theorem cell_at {C:Ctx} {E:Env} {S:St} {a:Act} {w:World} (hs:Sat C.B C.W C.w0 E S a w) {x:Nm} {cs:List SC} {ty:Nat} {p:Prop} {room:Int} {l1 l2 l3 l4:SC} (h:pkN S.own x=some (p,.bk (.ptr (9,0,0) 0 :: cs) ty)) (hp:p) (h9:look S.own 9=some (.one (.bk [iI room,l1,l2,l3,l4] 88))) (hr:room≠0) (b:Int)
  (ho:∀ E:Env,∀ u∈cs,(u.den E).oneCell' = true) (ho2:∀ E:Env,∀ u∈[l1,l2,l3,l4],(u.den E).oneCell' = true):Calls Try.prog 89 (([.c (.ptr x 0),.c (iI b)]:List SV).map (SV.den E)).toArray w (RetV w (.int .i64 (D.i64 (2+b.tmod room)))):=by
 have h1:=heap_bk hs h hp
 have h2:=heap_bk hs (x:=(9,0,0)) (p:=True∧True) (by simp [pkN,h9,Fm.pk];exact ⟨rfl,rfl⟩) ⟨trivial,trivial⟩
 refine cell_calls w (E.ρ x) (E.ρ (9,0,0)) (cs.map (SC.den E)) ([l1,l2,l3,l4].map (SC.den E)) room b ty 88 ?_ ?_ hr ?_ ?_
 ·rw [h1];simp [SC.den]
 ·rw [h2];simp [SC.den,iI]
 ·intro u hu
  obtain ⟨v,hv,rfl⟩:=List.mem_map.1 hu
  exact ho E v hv
 ·intro u hu
  obtain ⟨v,hv,rfl⟩:=List.mem_map.1 hu
  exact ho2 E v hv
theorem ats_set {α:Type} {enc:α→List Value} {xs:List α} {d y:α} {k:Nat} {cs:List SC} (hk:k<xs.length) (hc:cs=(enc y).map .v):∀ e,e<(xs.set k y).length→setAt k (ats enc xs d) cs e=ats enc (xs.set k y) d e:=by
 intro e he
 unfold setAt ats
 rw [D.set_getD _ _ _ _ _ hk]
 by_cases h:e=k
 ·rw [if_pos h,if_pos h.symm,hc]
 ·rw [if_neg h,if_neg (fun q=>h q.symm)]
theorem ats_C (xs:List D.Ca) (d:D.Ca) (e:Nat):ats D.Ca.enc xs d e=[iI (xs.getD e d).th,iI (xs.getD e d).op,iI (xs.getD e d).arg,iI (xs.getD e d).data,iI (xs.getD e d).bg,iI (xs.getD e d).en,iI (xs.getD e d).pt,iI (xs.getD e d).ak,iI (xs.getD e d).av]:=rfl
theorem seC_ans {t i:Nat} {S:List D.Se} {k k' : D.Tk} {a v:Int} {cs:List SC} (hi:i<S.length) (hk:(S.getD i D.se0).tk=some k) (hkd:k'.kd=k.kd) (hc:cs=[taskI (.ptr (t,i,0) 0) (S.getD i D.se0).tk,.v (.bool (S.getD i D.se0).rd),iI (S.getD i D.se0).la,iI a,iI v]) (e:Nat) :
  setAt i (seC t S) cs e=seC t (S.set i { S.getD i D.se0 with tk:=some k',ak:=a,av:=v }) e:=by
 unfold setAt seC
 rw [D.set_getD _ _ _ _ _ hi]
 by_cases q:e=i
 ·subst q
  rw [if_pos rfl,if_pos rfl,hc,hk]
  simp only [taskI,hkd]
 ·rw [if_neg q,if_neg (fun h=>q h.symm)]
theorem tkF_ans {t i:Nat} {S:List D.Se} {k k' : D.Tk} {a v:Int} (hi:i<S.length) (hk:(S.getD i D.se0).tk=some k) (e:Nat):(if e=i then .bk (tkC (.ptr (t,i,0) 0) k') (tkTy k'.kd) else tkF t S e)=tkF t (S.set i { S.getD i D.se0 with tk:=some k',ak:=a,av:=v }) e:=by
 unfold tkF
 rw [D.set_getD _ _ _ _ _ hi]
 by_cases q:i=e
 ·subst q
  rw [if_pos rfl,if_pos rfl];rfl
 ·rw [if_neg q,if_neg (fun h=>q h.symm)]
theorem retTA {P:Program} {w:World} {E:Env} {W:Nat→Prop} {rs:List RS} {v:SV} {S2:St} {i c p q:Nat} {m r:D.Pm} {k k' : D.Tk} {ka va:Int} (ht:AtT m i c k) (hkd:k'.kd=k.kd) (hS:r.S=m.S) (hpq:pqOk p q=true) (hf:AgF 11 E∈S2.facts) (hu:∀ E,v.den E = .bool true)
  (h0:look S2.own 0=some (.one (.bk (bkM ⟨p,q,6,7⟩ (.pe (6,0,0) 9 c 0) (.pe (5,0,0) 5 i 3) r) 113))) (h1:look S2.own 1=some (.one (.bk (bkY ⟨p,q,6,7⟩ r) 140)))
  (h2:∃ n g,look S2.own 2=some (.one (.ar n 1 g 44))∧r.W.length≤n∧∀ e,e<r.W.length→g e=ats eU r.W 0 e) (h3:look S2.own p=some (.one (.ar r.L.length 7 (ats D.Ac.enc r.L D.ac0) 47))) (h4:look S2.own q=some (.one (.ar r.A.length 1 (ats eU r.A 0) 44)))
  (h5:∃ g,look S2.own 5=some (.one (.ar m.S.length 5 g 116))∧∃ cs,g=setAt i (seC 7 m.S) cs∧cs=[taskI (.ptr (7,i,0) 0) (m.S.getD i D.se0).tk,.v (.bool (m.S.getD i D.se0).rd),iI (m.S.getD i D.se0).la,iI ka,iI va]) (h6:∃ n g,look S2.own 6=some (.one (.ar n 9 g 77))∧r.C.length≤n∧∀ e,e<r.C.length→g e=ats D.Ca.enc r.C D.ca0 e)
  (h7:∃ g,look S2.own 7=some (.fam m.S.length g)∧∀ x,g x=if x=i then .bk (tkC (.ptr (7,i,0) 0) k') (tkTy k'.kd) else tkF 7 m.S x) (h9:look S2.own 9=some (.one (.bk (hubC r) 88))) (h10:look S2.own 10=some (.one (.bk [.ptr (0,0,0) 0] 137))) :
  RetVC (mkO P w W rs (EffR w E 11 W (.c (.v (.bool true))) 2 fun b=>killO [3,4]++dO ⟨b,b+1,6,7⟩ i c (tskM m i (D.ans r i ka va,k',true)))) v S2:=by
 have hi:=ht.hi
 have eS:(tskM m i (D.ans r i ka va,k',true)).S=m.S.set i { m.S.getD i D.se0 with tk:=some k',ak:=ka,av:=va }:=by
  simp only [tskM,D.setTk,D.ans,hS,D.set_getD _ _ _ _ _ hi,if_true,List.set_set]
 have eL:(tskM m i (D.ans r i ka va,k',true)).S.length=r.S.length:=by rw [eS,List.length_set,hS]
 obtain ⟨g,g1,g2⟩:=h7
 obtain ⟨g5,k5,cs,rfl,hcs⟩:=h5
 refine retD hpq hf (fun E E'=>(hu E).trans rfl) ⟨?_,h1,h2,⟨_,_,h3,Nat.le_refl _,fun _ _=>rfl⟩,⟨_,_,h4,Nat.le_refl _,fun _ _=>rfl⟩,⟨_,_,k5,?_,fun e _=>?_⟩,h6,⟨_,_,g1,?_,fun x _=>?_⟩,h9,h10⟩
 ·rw [h0]
  simp only [bkM,eL]
  rfl
 ·rw [eS,List.length_set];exact Nat.le_refl _
 ·rw [eS];exact seC_ans hi ht.tk hkd hcs e
 ·rw [eS,List.length_set];exact Nat.le_refl _
 ·rw [g2,eS];exact tkF_ans hi ht.tk x
end Go.Proofs.Ytcloeignccpljaa.Z
namespace Go.Proofs.Ytcloeignccpljaa.Z
open Go Go.RowKit
def ir92:IR:=(.seq (.ops [⟨(some 4),(.mv (.k (.c (.v (.bool false))))),none⟩]) (.kill [2,3,4,5,6,7,8,9,10,11] (.seq (.seq (.draw [(⟨(some 5),(.mv (.t 0)),none⟩,([],[10,11,12,14,15,16,17,18,19,20,21])),(⟨(some 6),(.nilck (.t 5)),none⟩,([],[10,11,12,14,15,16,17,18,19,20,21])),(⟨(some 7),(.fa 0 (.t 6)),none⟩,([],[10,11,12,14,15,16,17,18,19,20,21])),(⟨(some 8),(.fa 2 (.t 7)),none⟩,([],[10,11,12,14,15,16,17,18,19,20,21])),(⟨(some 9),(.ld false 1 (.t 8)),none⟩,([],[10,11,12,14,15,16,17,18,19,20,21])),(⟨(some 10),(.mv (.t 1)),none⟩,([0,1,2,3,4],[5,6,7,8,9,14,15,16,17,18,19,20,21])),(⟨(some 11),(.call 91 [(.t 10),(.k (.c (.v (.int .i64 0))))]),none⟩,([0,1,2,3,4],[5,6,7,8,9,14,15,16,17,18,19,20,21])),(⟨(some 12),(.call 32 [(.t 11)]),none⟩,([0,1,2,3,4],[5,6,7,8,9,14,15,16,17,18,19,20,21])),(⟨(some 13),(.bin .sub (.t 9) (.t 12)),none⟩,([],[14,15,16,17,18,19,20,21])),(⟨(some 14),(.mv (.t 0)),none⟩,([0,1,2,3,4,5,6,7,8],[5,6,7,8,9,10,11,12,13])),(⟨(some 15),(.nilck (.t 14)),none⟩,([0,1,2,3,4,5,6,7,8],[5,6,7,8,9,10,11,12,13])),(⟨(some 16),(.fa 0 (.t 15)),none⟩,([0,1,2,3,4,5,6,7,8],[5,6,7,8,9,10,11,12,13])),(⟨(some 17),(.fa 0 (.t 16)),none⟩,([0,1,2,3,4,5,6,7,8],[5,6,7,8,9,10,11,12,13])),(⟨(some 18),(.ld false 1 (.t 17)),none⟩,([0,1,2,3,4,5,6,7,8],[5,6,7,8,9,10,11,12,13])),(⟨(some 19),(.nilck (.t 18)),none⟩,([0,1,2,3,4,5,6,7,8],[5,6,7,8,9,10,11,12,13])),(⟨(some 20),(.fa 0 (.t 19)),none⟩,([0,1,2,3,4,5,6,7,8],[5,6,7,8,9,10,11,12,13])),(⟨(some 21),(.ld false 1 (.t 20)),none⟩,([0,1,2,3,4,5,6,7,8],[5,6,7,8,9,10,11,12,13])),(⟨(some 22),(.bin .geq (.t 13) (.t 21)),none⟩,([],[]))]) (.kill [5,6,7,8,9,10,11,12,13,14,15,16,17,18,19,20,21] (.cond (.t 22) (.seq (.ops [⟨(some 23),(.mv (.t 1)),none⟩,⟨(some 24),(.mv (.t 1)),none⟩,⟨(some 25),(.call 96 [(.t 24)]),none⟩,⟨(some 26),(.call 95 [(.t 23),(.t 25)]),none⟩]) (.kill [0,22,23,24,25,26] (.seq (.ops [⟨(some 27),(.mv (.t 1)),none⟩,⟨(some 28),(.call 97 [(.t 27),(.k (.c (.v (.int .i64 4)))),(.k (.c (.v (.int .i64 0))))]),none⟩,⟨(some 4),(.mv (.t 28)),none⟩]) (.kill [1,27,28] .ret)))) .skip))) (.kill [1,4,22] (.seq (.ops [⟨(some 29),(.mv (.t 0)),none⟩,⟨(some 30),(.mv (.t 0)),none⟩,⟨(some 31),(.mfn (.func 98) [(.t 30)] []),none⟩,⟨(some 32),(.nilck (.t 29)),none⟩,⟨(some 33),(.fa 0 (.t 32)),none⟩,⟨(some 34),(.fa 1 (.t 33)),none⟩,⟨none,(.st 1 (.t 34) (.t 31)),none⟩]) (.kill [0,29,30,31,32,33,34] (.seq (.ops [⟨(some 4),(.mv (.k (.c (.v (.bool false))))),none⟩]) .ret)))))))
def rs92:List RS:=[(.t 4)]
def nt92:Nat:=35
def ir98:IR:=(.seq (.ops [⟨(some 4),(.mv (.k (.c (.v (.bool false))))),none⟩]) (.kill [2,3,4,5,6,7,8,9,10,11] (.seq (.draw [(⟨(some 5),(.mv (.t 1)),none⟩,([],[6,7,8,9,10,11,12,13,14,15,16,17,18,19,20])),(⟨(some 6),(.mv (.t 0)),none⟩,([0],[5,9,10,11,12,13,15,16,17,18,19])),(⟨(some 7),(.nilck (.t 6)),none⟩,([0],[5,9,10,11,12,13,15,16,17,18,19])),(⟨(some 8),(.fa 0 (.t 7)),none⟩,([0],[5,9,10,11,12,13,15,16,17,18,19])),(⟨(some 9),(.mv (.t 0)),none⟩,([0,1,2,3],[5,6,7,8,15,16,17,18,19])),(⟨(some 10),(.nilck (.t 9)),none⟩,([0,1,2,3],[5,6,7,8,15,16,17,18,19])),(⟨(some 11),(.fa 0 (.t 10)),none⟩,([0,1,2,3],[5,6,7,8,15,16,17,18,19])),(⟨(some 12),(.fa 2 (.t 11)),none⟩,([0,1,2,3],[5,6,7,8,15,16,17,18,19])),(⟨(some 13),(.ld false 1 (.t 12)),none⟩,([0,1,2,3],[5,6,7,8,15,16,17,18,19])),(⟨(some 14),(.call 89 [(.t 8),(.t 13)]),none⟩,([0],[5,15,16,17,18,19])),(⟨(some 15),(.mv (.t 0)),none⟩,([0,1,2,3,4,5,6,7,8,9],[5,6,7,8,9,10,11,12,13,14])),(⟨(some 16),(.nilck (.t 15)),none⟩,([0,1,2,3,4,5,6,7,8,9],[5,6,7,8,9,10,11,12,13,14])),(⟨(some 17),(.fa 0 (.t 16)),none⟩,([0,1,2,3,4,5,6,7,8,9],[5,6,7,8,9,10,11,12,13,14])),(⟨(some 18),(.fa 4 (.t 17)),none⟩,([0,1,2,3,4,5,6,7,8,9],[5,6,7,8,9,10,11,12,13,14])),(⟨(some 19),(.ld false 1 (.t 18)),none⟩,([0,1,2,3,4,5,6,7,8,9],[5,6,7,8,9,10,11,12,13,14])),(⟨(some 20),(.call 104 [(.t 19)]),none⟩,([0],[5])),(⟨(some 21),(.call 103 [(.t 5),(.t 14),(.t 20)]),none⟩,([],[]))]) (.kill [1,5,6,7,8,9,10,11,12,13,14,15,16,17,18,19,20,21] (.seq (.ops [⟨(some 22),(.mv (.t 0)),none⟩,⟨(some 23),(.mv (.t 0)),none⟩,⟨(some 24),(.mfn (.func 105) [(.t 23)] []),none⟩,⟨(some 25),(.nilck (.t 22)),none⟩,⟨(some 26),(.fa 0 (.t 25)),none⟩,⟨(some 27),(.fa 1 (.t 26)),none⟩,⟨none,(.st 1 (.t 27) (.t 24)),none⟩]) (.kill [0,22,23,24,25,26,27] (.seq (.ops [⟨(some 4),(.mv (.k (.c (.v (.bool false))))),none⟩]) .ret)))))))
def rs98:List RS:=[(.t 4)]
def nt98:Nat:=28
def ir105:IR:=(.seq (.ops [⟨(some 4),(.mv (.k (.c (.v (.bool false))))),none⟩]) (.kill [2,3,4,5,6,7,8,9,10,11] (.seq (.ops [⟨(some 5),(.mv (.t 1)),none⟩,⟨(some 6),(.mv (.t 0)),none⟩,⟨(some 7),(.nilck (.t 6)),none⟩,⟨(some 8),(.fa 0 (.t 7)),none⟩,⟨(some 9),(.fa 2 (.t 8)),none⟩,⟨(some 10),(.ld false 1 (.t 9)),none⟩,⟨(some 11),(.bin .add (.t 10) (.k (.c (.v (.int .i64 1))))),none⟩,⟨(some 12),(.call 104 [(.t 11)]),none⟩,⟨(some 13),(.call 103 [(.t 5),(.k (.c (.v (.int .i64 1)))),(.t 12)]),none⟩]) (.kill [0,5,6,7,8,9,10,11,12,13] (.seq (.ops [⟨(some 14),(.mv (.t 1)),none⟩,⟨(some 15),(.mv (.t 1)),none⟩,⟨(some 16),(.call 96 [(.t 15)]),none⟩,⟨(some 17),(.call 95 [(.t 14),(.t 16)]),none⟩]) (.kill [14,15,16,17] (.seq (.ops [⟨(some 18),(.mv (.t 1)),none⟩,⟨(some 19),(.call 97 [(.t 18),(.k (.c (.v (.int .i64 1)))),(.k (.c (.v (.int .i64 0))))]),none⟩,⟨(some 4),(.mv (.t 19)),none⟩]) (.kill [1,18,19] .ret))))))))
def rs105:List RS:=[(.t 4)]
def nt105:Nat:=20
def ir96:IR:=(.seq (.ops [⟨(some 2),(.mv (.k (.c (.v (.int .i64 0))))),none⟩]) (.kill [1,2,3,4,5,6,7,8,9,10,11] (.seq (.seq (.ops [⟨(some 3),(.mv (.t 0)),none⟩,⟨(some 4),(.eqn 0 false (.t 3) (.k (.c (.v (.pointer none))))),none⟩,⟨(some 5),(.mv (.t 4)),none⟩,⟨(some 6),(.mv (.t 0)),(some (5,false))⟩,⟨(some 7),(.nilck (.t 6)),(some (5,false))⟩,⟨(some 8),(.fa 0 (.t 7)),(some (5,false))⟩,⟨(some 9),(.ld false 1 (.t 8)),(some (5,false))⟩,⟨(some 10),(.eqn 0 false (.t 9) (.k (.c (.v (.pointer none))))),(some (5,false))⟩,⟨(some 11),(.pick (.t 5) (.k (.c (.v (.bool true)))) (.t 10)),none⟩]) (.kill [3,4,5,6,7,8,9,10] (.cond (.t 11) (.seq (.ops [⟨(some 2),(.mv (.k (.c (.v (.int .i64 0))))),none⟩]) (.kill [0,11] .ret)) .skip))) (.kill [2,11] (.seq (.ops [⟨(some 12),(.mv (.t 0)),none⟩,⟨(some 13),(.nilck (.t 12)),none⟩,⟨(some 14),(.fa 0 (.t 13)),none⟩,⟨(some 15),(.ld false 1 (.t 14)),none⟩,⟨(some 16),(.nilck (.t 15)),none⟩,⟨(some 17),(.fa 2 (.t 16)),none⟩,⟨(some 18),(.ld false 1 (.t 17)),none⟩,⟨(some 2),(.mv (.t 18)),none⟩]) (.kill [0,12,13,14,15,16,17,18] .ret))))))
def rs96:List RS:=[(.t 2)]
def nt96:Nat:=19
def ir95:IR:=(.seq (.ops [⟨(some 4),(.mv (.t 0)),none⟩,⟨(some 5),(.eqn 0 true (.t 4) (.k (.c (.v (.pointer none))))),none⟩,⟨(some 6),(.mv (.t 5)),none⟩,⟨(some 7),(.mv (.t 0)),(some (6,true))⟩,⟨(some 8),(.nilck (.t 7)),(some (6,true))⟩,⟨(some 9),(.fa 0 (.t 8)),(some (6,true))⟩,⟨(some 10),(.ld false 1 (.t 9)),(some (6,true))⟩,⟨(some 11),(.eqn 0 true (.t 10) (.k (.c (.v (.pointer none))))),(some (6,true))⟩,⟨(some 12),(.pick (.t 6) (.t 11) (.k (.c (.v (.bool false))))),none⟩,⟨(some 13),(.mv (.t 12)),none⟩,⟨(some 14),(.mv (.t 0)),(some (13,true))⟩,⟨(some 15),(.nilck (.t 14)),(some (13,true))⟩,⟨(some 16),(.fa 0 (.t 15)),(some (13,true))⟩,⟨(some 17),(.ld false 1 (.t 16)),(some (13,true))⟩,⟨(some 18),(.nilck (.t 17)),(some (13,true))⟩,⟨(some 19),(.fa 3 (.t 18)),(some (13,true))⟩,⟨(some 20),(.ld false 1 (.t 19)),(some (13,true))⟩,⟨(some 21),(.eqn 0 true (.t 20) (.k (.c (.v (.pointer none))))),(some (13,true))⟩,⟨(some 22),(.pick (.t 13) (.t 21) (.k (.c (.v (.bool false))))),none⟩]) (.kill [2,3,4,5,6,7,8,9,10,11,12,13,14,15,16,17,18,19,20,21] (.cond (.t 22) (.ops [⟨(some 23),(.mv (.t 0)),none⟩,⟨(some 24),(.nilck (.t 23)),none⟩,⟨(some 25),(.fa 0 (.t 24)),none⟩,⟨(some 26),(.ld false 1 (.t 25)),none⟩,⟨(some 27),(.nilck (.t 26)),none⟩,⟨(some 28),(.fa 3 (.t 27)),none⟩,⟨(some 29),(.ld false 1 (.t 28)),none⟩,⟨(some 30),(.mv (.t 1)),none⟩,⟨(some 31),(.nilck (.t 29)),none⟩,⟨(some 32),(.fa 6 (.t 31)),none⟩,⟨none,(.st 1 (.t 32) (.t 30)),none⟩]) .skip)))
def rs95:List RS:=[]
def nt95:Nat:=33
def ir102:IR:=(.seq (.ops [⟨(some 3),(.box 75 (.t 1)),none⟩]) (.kill [1,2,4,5,6,7,8,9,10,11] (.seq (.ops [⟨(some 4),(.mv (.t 0)),none⟩,⟨(some 5),(.eqn 0 true (.t 4) (.k (.c (.v (.pointer none))))),none⟩,⟨(some 6),(.mv (.t 5)),none⟩,⟨(some 7),(.mv (.t 0)),(some (6,true))⟩,⟨(some 8),(.nilck (.t 7)),(some (6,true))⟩,⟨(some 9),(.fa 0 (.t 8)),(some (6,true))⟩,⟨(some 10),(.ld false 1 (.t 9)),(some (6,true))⟩,⟨(some 11),(.eqn 0 true (.t 10) (.k (.c (.v (.pointer none))))),(some (6,true))⟩,⟨(some 12),(.pick (.t 6) (.t 11) (.k (.c (.v (.bool false))))),none⟩,⟨(some 13),(.mv (.t 12)),none⟩,⟨(some 14),(.mv (.t 0)),(some (13,true))⟩,⟨(some 15),(.nilck (.t 14)),(some (13,true))⟩,⟨(some 16),(.fa 0 (.t 15)),(some (13,true))⟩,⟨(some 17),(.ld false 1 (.t 16)),(some (13,true))⟩,⟨(some 18),(.nilck (.t 17)),(some (13,true))⟩,⟨(some 19),(.fa 4 (.t 18)),(some (13,true))⟩,⟨(some 20),(.ld false 1 (.t 19)),(some (13,true))⟩,⟨(some 21),(.eqn 0 true (.t 20) (.k (.c (.v (.pointer none))))),(some (13,true))⟩,⟨(some 22),(.pick (.t 13) (.t 21) (.k (.c (.v (.bool false))))),none⟩]) (.kill [4,5,6,7,8,9,10,11,12,13,14,15,16,17,18,19,20,21] (.cond (.t 22) (.draw [(⟨(some 23),(.mv (.t 0)),none⟩,([],[30])),(⟨(some 24),(.nilck (.t 23)),none⟩,([],[30])),(⟨(some 25),(.fa 0 (.t 24)),none⟩,([],[30])),(⟨(some 26),(.ld false 1 (.t 25)),none⟩,([],[30])),(⟨(some 27),(.nilck (.t 26)),none⟩,([],[30])),(⟨(some 28),(.fa 4 (.t 27)),none⟩,([],[30])),(⟨(some 29),(.ld false 1 (.t 28)),none⟩,([],[30])),(⟨(some 30),(.ld true 2 (.t 3)),none⟩,([0,1,2,3,4,5,6],[23,24,25,26,27,28,29])),(⟨(some 31),(.nilck (.t 29)),none⟩,([],[])),(⟨none,(.st 2 (.t 31) (.t 30)),none⟩,([],[]))]) .skip)))))
def rs102:List RS:=[]
def nt102:Nat:=32
def ir97:IR:=(.seq (.ops [⟨(some 6),(.mv (.k (.c (.v (.bool false))))),none⟩]) (.kill [3,4,5,6,7,8,9,10,11] (.seq (.ops [⟨(some 7),(.mv (.t 0)),none⟩,⟨(some 8),(.mv (.t 1)),none⟩,⟨(some 9),(.mv (.t 2)),none⟩,⟨(some 10),(.build [(.v (.int .i64 0)),(.v (.int .i64 0))] [(0,(1,(.t 8))),(1,(1,(.t 9)))]),none⟩,⟨(some 11),(.call 102 [(.t 7),(.t 10)]),none⟩]) (.kill [0,1,2,7,8,9,10,11] (.seq (.ops [⟨(some 6),(.mv (.k (.c (.v (.bool true))))),none⟩]) .ret)))))
def rs97:List RS:=[(.t 6)]
def nt97:Nat:=12
theorem dstore_at {w:World} {E:Env} {m:D.Pm} {i c:Nat} {k:D.Tk} (ht:AtT m i c k) {a v:Int} (h0:0≤a) (h1:a<m.W.length) (h:Handed w E 11 (aO nz0 i c m) []) :
  Calls Try.prog 103 (([.c (.ptr (10,0,0) 0),.c (iI a),.c (.v (.int .u64 v))]:List SV).map (SV.den E)).toArray w (EffR w E 11 (takesO E (aO nz0 i c m)) (.tup []) 2 fun b=>killO [3,4]++aO ⟨b,b+1,6,7⟩ i c { logd { m with us:=true } ⟨m.mm,m.th,2,a,0,v,0⟩ (D.wd m a) with W:=m.W.set a.toNat v }):=by
 have:=dstore_own w E m i c a v ht.us h0 h1 ht.hL ht.hA h
 rw [D.st_ok ht.us h0 h1] at this
 exact this
theorem pt_at {m r:D.Pm} {i c:Nat} {k:D.Tk} (ht:AtT m i c k) (hS:r.S=m.S) (hC:r.C=m.C) (p:Int):D.point r i p={ r with C:=m.C.set c { m.C.getD c D.ca0 with pt:=p } }:=by
 unfold D.point;rw [hS,hC,ht.la];rfl
set_option maxRecDepth 100000 in
set_option maxHeartbeats 2000000 in
theorem push2y_own (w:World) (E:Env) (m:D.Pm) (i c:Nat) (b t v:Int) (got:Bool) (ht:AtT m i c ⟨0,2,b,t,v,got⟩) (hq:D.i64 (b - D.i64 (D.wd m 0))≥m.room) (h:Handed w E 11 (dO nz0 i c m) []) :
  Calls Try.prog 88 (([.c (.ptr (7,i,0) 0),.c (.ptr (10,0,0) 0)]:List SV).map (SV.den E)).toArray w (EffR w E 11 (takesO E (dO nz0 i c m)) (.c (.v (.bool (D.taskT m i ⟨0,2,b,t,v,got⟩).2.2))) 2 fun b'=>killO [3,4]++dO ⟨b',b' + 1,6,7⟩ i c (tskM m i (D.taskT m i ⟨0,2,b,t,v,got⟩))):=by
 have hwl:=ht.wl
 refine enterO (c:=ir88) (rs:=rs88) (nt:=nt88) h _ Try.func88 rfl (by kernel_rfl) (by kernel_rfl) rfl (by simp [okVs,SV.okN,SC.okN]) (of_decide_eq_true rfl) ?_
 have heq:D.taskT m i ⟨0,2,b,t,v,got⟩=(D.ans ({ logd { m with us:=true } ⟨m.mm,m.th,1,0,0,0,D.wd m (0)⟩ (D.wd m (0)) with C:=m.C.set c { m.C.getD c D.ca0 with pt:=m.nw } }) i 4 0,⟨0,2,b,t,v,got⟩,true):=by
  simp only [D.taskT,D.pushT,if_true,if_false,Nat.reduceEqDiff]
  rw [D.ld_ok ht.us (Int.le_refl 0) (by omega)]
  simp only [if_pos hq]
  exact congrArg (fun x=>(D.ans x i 4 0,(⟨0,2,b,t,v,got⟩:D.Tk),true)) (pt_at (r:=logd { m with us:=true } ⟨m.mm,m.th,1,0,0,0,D.wd m (0)⟩ (D.wd m (0))) ht rfl rfl _)
 rw [heq]
 generalize hR:EffR w E 11 (takesO E (dO nz0 i c m)) _ 2 _=R
 generalize hW:takesO E (dO nz0 i c m)=W
 have hf:=ht.f
 simp only [tkC,nextC,tkTy,iI] at hf
 have hi:=ht.hi
 simp (maxSteps:=2000000) only [ir88,nt88,rs88,go_sem,↓runOp,↓reduceIte,Nat.reduceLT,Nat.reduceEqDiff,reduceCtorEq,dO,mO,nz0,bkM,bkY,hubC,iI,hf]
 refine And.intro hi (And.intro ⟨_,Try.func92,by kernel_rfl,by kernel_rfl⟩ ?_)
 refine call_inline (c:=ir92) (rs:=rs92) (nt:=nt92) 1000 (mkTab_ok _ _) Try.func92 rfl (by kernel_rfl) (by kernel_rfl) rfl (by simp [okVs,SV.okN,SC.okN]) (of_decide_eq_true rfl) (fun E0 a0 ht0=>?_)
 simp (maxSteps:=2000000) only [ir92,nt92,rs92,go_sem,↓runOp,↓reduceIte,Nat.reduceLT,Nat.reduceEqDiff,reduceCtorEq]
 have hd:decide (D.i64 (b - D.i64 (D.wd m 0))≥m.room)=true:=decide_eq_true hq
 refine draw_vc (by kernel_rfl) (mkTab_ok _ _) (of_decide_eq_true rfl) (of_decide_eq_true rfl) ?_
 repeat (first | simp (maxSteps:=2000000) only [go_sem,↓gateD,↓runD,↓reduceIte,Nat.reduceLT,Nat.reduceEqDiff,reduceCtorEq,hf] | rw [dr_cons])
 repeat (with_reducible refine And.intro (by first | exact hi | exact Or.inr trivial | exact Or.inl trivial) ?_)
 refine dcall_intro (crA (i:=i) (c:=c) (m:=m) (m':=logd { m with us:=true } ⟨m.mm,m.th,1,0,0,0,D.wd m (0)⟩ (D.wd m (0))) (Nat.le_refl _) (ain0 rfl rfl rfl rfl rfl rfl) (fun E w h=>dload_at ht (a:=0) (by decide) (by omega) h)) rfl trivial ?_ ?_ ?_
 ·simp [wrOk,killO,aO,wrFree,wkImp,nth,memB,look]
 ·intro k hk hlt
  simp only [killO,aO,keysL,List.map_cons,List.map_nil,List.cons_append,List.nil_append,List.mem_cons,List.not_mem_nil,or_false] at hk
  have hlt:k<11:=hlt
  rcases hk with rfl | rfl | rfl | rfl | rfl | rfl | rfl | rfl <;> first | rfl | omega
 repeat (first | simp (maxSteps:=2000000) only [go_sem,↓gateD,↓runD,↓reduceIte,Nat.reduceLT,Nat.reduceAdd,Nat.reduceEqDiff,reduceCtorEq,killO,aO,bkM,bkY,iI,logd] | rw [dr_cons])
 refine dcallV (.c (.v (.int .i64 (D.i64 (D.wd m 0))))) _ (fun E=>rfl) (fun E a w' hs=>value_calls w' _) ?_
 repeat (first | simp (maxSteps:=2000000) only [go_sem,↓condS,↓runOp,↓gateD,↓runD,↓imp_tf,↓imp_tt,↓reduceIte,Nat.reduceLT,Nat.reduceEqDiff,reduceCtorEq,hf,hd] | rw [dr_cons])
 repeat (with_reducible refine And.intro (by first | exact hi | exact Or.inr trivial | exact Or.inl trivial) ?_)
 refine call_inline (c:=ir96) (rs:=rs96) (nt:=nt96) 1000 (mkTab_ok _ _) Try.func96 rfl (by kernel_rfl) (by kernel_rfl) rfl (by simp [okVs,SV.okN,SC.okN]) (of_decide_eq_true rfl) (fun E1 a1 ht1=>?_)
 simp (maxSteps:=2000000) only [ir96,nt96,rs96,go_sem,↓condS,↓gateS,↓runOp,↓reduceIte,Nat.reduceLT,Nat.reduceEqDiff,reduceCtorEq]
 refine retI ht1 _ rfl (of_decide_eq_true rfl) (by simp [SV.okN,SC.okN]) ?_
 simp (maxSteps:=2000000) only [go_sem,↓runOp,↓reduceIte,Nat.reduceLT,Nat.reduceEqDiff,reduceCtorEq]
 refine call_inline (c:=ir95) (rs:=rs95) (nt:=nt95) 1000 (mkTab_ok _ _) Try.func95 rfl (by kernel_rfl) (by kernel_rfl) rfl (by simp [okVs,SV.okN,SC.okN]) (of_decide_eq_true rfl) (fun E1 a1 ht1=>?_)
 simp (maxSteps:=2000000) only [ir95,nt95,rs95,go_sem,↓condS,↓gateS,↓runOp,↓reduceIte,Nat.reduceLT,Nat.reduceLeDiff,Nat.reduceAdd,Nat.reduceEqDiff,reduceCtorEq,ats_C,iI]
 refine And.intro ht.hc ?_
 refine retI ht1 _ rfl (of_decide_eq_true rfl) (by simp [SV.okN,ok1L]) ?_
 simp (maxSteps:=2000000) only [go_sem,↓runOp,↓reduceIte,Nat.reduceLT,Nat.reduceEqDiff,reduceCtorEq]
 refine call_inline (c:=ir97) (rs:=rs97) (nt:=nt97) 1000 (mkTab_ok _ _) Try.func97 rfl (by kernel_rfl) (by kernel_rfl) rfl (by simp [okVs,SV.okN,SC.okN]) (of_decide_eq_true rfl) (fun E1 a1 ht1=>?_)
 simp (maxSteps:=2000000) only [ir97,nt97,rs97,go_sem,↓runOp,↓reduceIte,Nat.reduceLT,Nat.reduceLeDiff,Nat.reduceAdd,Nat.reduceEqDiff,reduceCtorEq]
 refine call_inline (c:=ir102) (rs:=rs102) (nt:=nt102) 1000 (mkTab_ok _ _) Try.func102 rfl (by kernel_rfl) (by kernel_rfl) rfl (by simp [okVs,SV.okN,SC.okL,SC.okN]) (of_decide_eq_true rfl) (fun E2 a2 ht2=>?_)
 simp (maxSteps:=2000000) only [ir102,nt102,rs102,go_sem,↓condS,↓gateS,↓runOp,↓reduceIte,Nat.reduceLT,Nat.reduceAdd,Nat.reduceEqDiff,reduceCtorEq]
 refine draw_vc (by kernel_rfl) (mkTab_ok _ _) (of_decide_eq_true rfl) (of_decide_eq_true rfl) ?_
 repeat (first | simp (maxSteps:=2000000) only [go_sem,↓gateD,↓runD,↓reduceIte,Nat.reduceLT,Nat.reduceLeDiff,Nat.reduceAdd,Nat.reduceEqDiff,reduceCtorEq,seC] | rw [dr_cons])
 repeat (with_reducible refine And.intro (by first | exact hi | exact Or.inr trivial | exact Or.inl trivial) ?_)
 refine retI ht2 _ rfl (of_decide_eq_true rfl) (by simp [SV.okN,ok1L]) ?_
 simp (maxSteps:=2000000) only [go_sem,↓runOp,↓reduceIte,Nat.reduceLT,Nat.reduceEqDiff,reduceCtorEq]
 refine retI ht1 _ rfl (of_decide_eq_true rfl) (by simp [SV.okN,SC.okN]) ?_
 simp (maxSteps:=2000000) only [go_sem,↓runOp,↓reduceIte,Nat.reduceLT,Nat.reduceEqDiff]
 refine retI ht0 _ rfl (of_decide_eq_true rfl) (by simp [SV.okN,SC.okN]) ?_
 simp (maxSteps:=2000000) only [go_sem,↓runOp,↓reduceIte,Nat.reduceLT,Nat.reduceEqDiff,reduceCtorEq,mkO_rs]
 rw [← hR,← hW]
 exact retTA (p:=11) (q:=12) ht rfl rfl rfl (by simp) (fun E=>rfl) (by simp [look,bkM,iI,logd]) rfl ⟨_,_,rfl,Nat.le_refl _,fun _ _=>rfl⟩ rfl rfl ⟨_,rfl,_,rfl,by simp [iI]⟩ ⟨_,_,rfl,by simp,ats_set ht.hc (by simp [D.Ca.enc])⟩ ⟨_,rfl,fun x=>by by_cases q:x=i <;> simp [q,tkC,nextC,tkTy,iI,hf]⟩ rfl rfl
set_option maxRecDepth 100000 in
set_option maxHeartbeats 2000000 in
theorem push2n_own (w:World) (E:Env) (m:D.Pm) (i c:Nat) (b t v:Int) (got:Bool) (ht:AtT m i c ⟨0,2,b,t,v,got⟩) (hq:¬ D.i64 (b - D.i64 (D.wd m 0))≥m.room) (h:Handed w E 11 (dO nz0 i c m) []) :
  Calls Try.prog 88 (([.c (.ptr (7,i,0) 0),.c (.ptr (10,0,0) 0)]:List SV).map (SV.den E)).toArray w (EffR w E 11 (takesO E (dO nz0 i c m)) (.c (.v (.bool (D.taskT m i ⟨0,2,b,t,v,got⟩).2.2))) 2 fun b'=>killO [3,4]++dO ⟨b',b' + 1,6,7⟩ i c (tskM m i (D.taskT m i ⟨0,2,b,t,v,got⟩))):=by
 have hwl:=ht.wl
 refine enterO (c:=ir88) (rs:=rs88) (nt:=nt88) h _ Try.func88 rfl (by kernel_rfl) (by kernel_rfl) rfl (by simp [okVs,SV.okN,SC.okN]) (of_decide_eq_true rfl) ?_
 have heq:D.taskT m i ⟨0,2,b,t,v,got⟩=(logd { m with us:=true } ⟨m.mm,m.th,1,0,0,0,D.wd m (0)⟩ (D.wd m (0)),⟨0,3,b,t,v,got⟩,false):=by
  simp only [D.taskT,D.pushT,if_true,if_false,Nat.reduceEqDiff]
  rw [D.ld_ok ht.us (Int.le_refl 0) (by omega)]
  simp only [if_neg hq]
  rfl
 rw [heq]
 generalize hR:EffR w E 11 (takesO E (dO nz0 i c m)) _ 2 _=R
 generalize hW:takesO E (dO nz0 i c m)=W
 have hf:=ht.f
 simp only [tkC,nextC,tkTy,iI] at hf
 have hi:=ht.hi
 simp (maxSteps:=2000000) only [ir88,nt88,rs88,go_sem,↓runOp,↓reduceIte,Nat.reduceLT,Nat.reduceEqDiff,reduceCtorEq,dO,mO,nz0,bkM,bkY,hubC,iI,hf]
 refine And.intro hi (And.intro ⟨_,Try.func92,by kernel_rfl,by kernel_rfl⟩ ?_)
 refine call_inline (c:=ir92) (rs:=rs92) (nt:=nt92) 1000 (mkTab_ok _ _) Try.func92 rfl (by kernel_rfl) (by kernel_rfl) rfl (by simp [okVs,SV.okN,SC.okN]) (of_decide_eq_true rfl) (fun E0 a0 ht0=>?_)
 simp (maxSteps:=2000000) only [ir92,nt92,rs92,go_sem,↓runOp,↓reduceIte,Nat.reduceLT,Nat.reduceEqDiff,reduceCtorEq]
 have hd:decide (D.i64 (b - D.i64 (D.wd m 0))≥m.room)=false:=decide_eq_false hq
 refine draw_vc (by kernel_rfl) (mkTab_ok _ _) (of_decide_eq_true rfl) (of_decide_eq_true rfl) ?_
 repeat (first | simp (maxSteps:=2000000) only [go_sem,↓gateD,↓runD,↓reduceIte,Nat.reduceLT,Nat.reduceEqDiff,reduceCtorEq,hf] | rw [dr_cons])
 repeat (with_reducible refine And.intro (by first | exact hi | exact Or.inr trivial | exact Or.inl trivial) ?_)
 refine dcall_intro (crA (i:=i) (c:=c) (m:=m) (m':=logd { m with us:=true } ⟨m.mm,m.th,1,0,0,0,D.wd m (0)⟩ (D.wd m (0))) (Nat.le_refl _) (ain0 rfl rfl rfl rfl rfl rfl) (fun E w h=>dload_at ht (a:=0) (by decide) (by omega) h)) rfl trivial ?_ ?_ ?_
 ·simp [wrOk,killO,aO,wrFree,wkImp,nth,memB,look]
 ·intro k hk hlt
  simp only [killO,aO,keysL,List.map_cons,List.map_nil,List.cons_append,List.nil_append,List.mem_cons,List.not_mem_nil,or_false] at hk
  have hlt:k<11:=hlt
  rcases hk with rfl | rfl | rfl | rfl | rfl | rfl | rfl | rfl <;> first | rfl | omega
 repeat (first | simp (maxSteps:=2000000) only [go_sem,↓gateD,↓runD,↓reduceIte,Nat.reduceLT,Nat.reduceAdd,Nat.reduceEqDiff,reduceCtorEq,killO,aO,bkM,bkY,iI,logd] | rw [dr_cons])
 refine dcallV (.c (.v (.int .i64 (D.i64 (D.wd m 0))))) _ (fun E=>rfl) (fun E a w' hs=>value_calls w' _) ?_
 repeat (first | simp (maxSteps:=2000000) only [go_sem,↓condS,↓runOp,↓gateD,↓runD,↓imp_ft,↓imp_ff,↓reduceIte,Nat.reduceLT,Nat.reduceLeDiff,Nat.reduceAdd,Nat.reduceEqDiff,reduceCtorEq,hf,hd] | rw [dr_cons])
 repeat (with_reducible refine And.intro (by first | exact hi | exact Or.inr trivial | exact Or.inl trivial) ?_)
 refine retI ht0 _ rfl (of_decide_eq_true rfl) (by simp [SV.okN,SC.okN]) ?_
 simp (maxSteps:=2000000) only [go_sem,↓runOp,↓reduceIte,Nat.reduceLT,Nat.reduceEqDiff,reduceCtorEq,mkO_rs]
 rw [← hR,← hW]
 exact retT (p:=11) (q:=12) ht rfl rfl rfl (by simp) (fun E=>rfl) rfl rfl ⟨_,_,rfl,Nat.le_refl _,fun _ _=>rfl⟩ rfl rfl rfl ⟨_,_,rfl,Nat.le_refl _,fun _ _=>rfl⟩ ⟨_,rfl,fun x=>by by_cases q:x=i <;> simp [q,tkC,nextC,tkTy,iI]⟩ rfl rfl
set_option maxRecDepth 100000 in
set_option maxHeartbeats 2000000 in
theorem push3_own (w:World) (E:Env) (m:D.Pm) (i c:Nat) (b t v:Int) (got:Bool) (ht:AtT m i c ⟨0,3,b,t,v,got⟩) (h0:0≤D.cellA m b) (h1:D.cellA m b<m.W.length) (hr:m.room≠0) (h:Handed w E 11 (dO nz0 i c m) []) :
  Calls Try.prog 88 (([.c (.ptr (7,i,0) 0),.c (.ptr (10,0,0) 0)]:List SV).map (SV.den E)).toArray w (EffR w E 11 (takesO E (dO nz0 i c m)) (.c (.v (.bool (D.taskT m i ⟨0,3,b,t,v,got⟩).2.2))) 2 fun b'=>killO [3,4]++dO ⟨b',b' + 1,6,7⟩ i c (tskM m i (D.taskT m i ⟨0,3,b,t,v,got⟩))):=by
 have hwl:=ht.wl
 refine enterO (c:=ir88) (rs:=rs88) (nt:=nt88) h _ Try.func88 rfl (by kernel_rfl) (by kernel_rfl) rfl (by simp [okVs,SV.okN,SC.okN]) (of_decide_eq_true rfl) ?_
 have heq:D.taskT m i ⟨0,3,b,t,v,got⟩=({ logd { m with us:=true } ⟨m.mm,m.th,2,D.cellA m b,0,D.u64 v,0⟩ (D.wd m (D.cellA m b)) with W:=m.W.set (D.cellA m b:Int).toNat (D.u64 v) },⟨0,4,b,t,v,got⟩,false):=by
  simp only [D.taskT,D.pushT,if_true,if_false,Nat.reduceEqDiff]
  rw [D.st_ok ht.us h0 h1]
  rfl
 rw [heq]
 generalize hR:EffR w E 11 (takesO E (dO nz0 i c m)) _ 2 _=R
 generalize hW:takesO E (dO nz0 i c m)=W
 have hf:=ht.f
 simp only [tkC,nextC,tkTy,iI] at hf
 have hi:=ht.hi
 simp (maxSteps:=2000000) only [ir88,nt88,rs88,go_sem,↓runOp,↓reduceIte,Nat.reduceLT,Nat.reduceEqDiff,reduceCtorEq,dO,mO,nz0,bkM,bkY,hubC,iI,hf]
 refine And.intro hi (And.intro ⟨_,Try.func98,by kernel_rfl,by kernel_rfl⟩ ?_)
 refine call_inline (c:=ir98) (rs:=rs98) (nt:=nt98) 1000 (mkTab_ok _ _) Try.func98 rfl (by kernel_rfl) (by kernel_rfl) rfl (by simp [okVs,SV.okN,SC.okN]) (of_decide_eq_true rfl) (fun E0 a0 ht0=>?_)
 simp (maxSteps:=2000000) only [ir98,nt98,rs98,go_sem,↓runOp,↓reduceIte,Nat.reduceLT,Nat.reduceEqDiff,reduceCtorEq]
 refine draw_vc (by kernel_rfl) (mkTab_ok _ _) (of_decide_eq_true rfl) (of_decide_eq_true rfl) ?_
 repeat (first | simp (maxSteps:=2000000) only [go_sem,↓gateD,↓runD,↓reduceIte,Nat.reduceLT,Nat.reduceEqDiff,reduceCtorEq,hf] | rw [dr_cons])
 repeat (with_reducible refine And.intro (by first | exact hi | exact Or.inr trivial | exact Or.inl trivial) ?_)
 refine dcallV (.c (.v (.int .i64 (D.cellA m (b))))) _ (fun E=>rfl) (fun E a w' hs=>cell_at hs (x:=(7,i,0)) (p:=i<m.S.length∧True) (by simp only [pkN,look,Fm.pk,Nat.reduceEqDiff,if_true,if_false,hf];rfl) ⟨hi,trivial⟩ rfl hr (b) (fun E u hu=>by simp only [List.mem_cons,List.not_mem_nil,or_false] at hu;first | (rcases hu with rfl | rfl | rfl | rfl | rfl <;> simp [SC.den,Value.oneCell'];done) | (rcases hu with rfl | rfl | rfl | rfl <;> simp [SC.den,Value.oneCell',iI])) (fun E u hu=>by simp only [List.mem_cons,List.not_mem_nil,or_false] at hu;rcases hu with rfl | rfl | rfl | rfl <;> simp [SC.den,Value.oneCell'])) ?_
 repeat (first | simp (maxSteps:=2000000) only [go_sem,↓gateD,↓runD,↓reduceIte,Nat.reduceLT,Nat.reduceEqDiff,reduceCtorEq,hf] | rw [dr_cons])
 repeat (with_reducible refine And.intro (by first | exact hi | exact Or.inr trivial | exact Or.inl trivial) ?_)
 refine dcallV (.c (.v (.int .u64 (D.u64 (v))))) _ (fun E=>rfl) (fun E a w' hs=>number_calls w' _) ?_
 repeat (first | simp (maxSteps:=2000000) only [go_sem,↓gateD,↓runD,↓reduceIte,Nat.reduceLT,Nat.reduceEqDiff,reduceCtorEq] | rw [dr_cons])
 refine dcall_intro (crA (i:=i) (c:=c) (m:=m) (m':={ logd { m with us:=true } ⟨m.mm,m.th,2,D.cellA m b,0,D.u64 v,0⟩ (D.wd m (D.cellA m b)) with W:=m.W.set (D.cellA m b:Int).toNat (D.u64 v) }) (Nat.le_refl _) (ain0 rfl rfl rfl rfl rfl rfl) (fun E w h=>dstore_at ht (a:=D.cellA m b) (v:=D.u64 v) h0 h1 h)) rfl trivial ?_ ?_ ?_
 ·simp [wrOk,killO,aO,wrFree,wkImp]
 ·intro k hk hlt
  simp only [killO,aO,keysL,List.map_cons,List.map_nil,List.cons_append,List.nil_append,List.mem_cons,List.not_mem_nil,or_false] at hk
  have hlt:k<11:=hlt
  rcases hk with rfl | rfl | rfl | rfl | rfl | rfl | rfl | rfl <;> first | rfl | omega
 repeat (first | simp (maxSteps:=2000000) only [go_sem,↓runOp,↓reduceIte,Nat.reduceLT,Nat.reduceLeDiff,Nat.reduceAdd,Nat.reduceEqDiff,reduceCtorEq,killO,aO,bkM,bkY,iI,logd,hf] | rw [dr_cons])
 repeat (with_reducible refine And.intro (by first | exact hi | exact Or.inr trivial | exact Or.inl trivial) ?_)
 refine retI ht0 _ rfl (of_decide_eq_true rfl) (by simp [SV.okN,SC.okN]) ?_
 simp (maxSteps:=2000000) only [go_sem,↓runOp,↓reduceIte,Nat.reduceLT,Nat.reduceEqDiff,reduceCtorEq,mkO_rs]
 rw [← hR,← hW]
 exact retT (p:=11) (q:=12) ht rfl rfl rfl (by simp) (fun E=>rfl) rfl rfl ⟨_,_,rfl,Nat.le_refl _,fun _ _=>rfl⟩ rfl rfl rfl ⟨_,_,rfl,Nat.le_refl _,fun _ _=>rfl⟩ ⟨_,rfl,fun x=>by by_cases q:x=i <;> simp [q,tkC,nextC,tkTy,iI]⟩ rfl rfl
set_option maxRecDepth 100000 in
set_option maxHeartbeats 2000000 in
theorem push4_own (w:World) (E:Env) (m:D.Pm) (i c:Nat) (b t v:Int) (got:Bool) (ht:AtT m i c ⟨0,4,b,t,v,got⟩) (h:Handed w E 11 (dO nz0 i c m) []) :
  Calls Try.prog 88 (([.c (.ptr (7,i,0) 0),.c (.ptr (10,0,0) 0)]:List SV).map (SV.den E)).toArray w (EffR w E 11 (takesO E (dO nz0 i c m)) (.c (.v (.bool (D.taskT m i ⟨0,4,b,t,v,got⟩).2.2))) 2 fun b'=>killO [3,4]++dO ⟨b',b' + 1,6,7⟩ i c (tskM m i (D.taskT m i ⟨0,4,b,t,v,got⟩))):=by
 have hwl:=ht.wl
 refine enterO (c:=ir88) (rs:=rs88) (nt:=nt88) h _ Try.func88 rfl (by kernel_rfl) (by kernel_rfl) rfl (by simp [okVs,SV.okN,SC.okN]) (of_decide_eq_true rfl) ?_
 have heq:D.taskT m i ⟨0,4,b,t,v,got⟩=(D.ans ({ { logd { m with us:=true } ⟨m.mm,m.th,2,1,0,D.u64 (D.i64 (b+1)),0⟩ (D.wd m (1)) with W:=m.W.set (1:Int).toNat (D.u64 (D.i64 (b+1))) } with C:=m.C.set c { m.C.getD c D.ca0 with pt:=m.nw } }) i 1 0,⟨0,4,b,t,v,got⟩,true):=by
  simp only [D.taskT,D.pushT,if_true,if_false,Nat.reduceEqDiff]
  rw [D.st_ok ht.us (by decide) (by omega)]
  exact congrArg (fun x=>(D.ans x i 1 0,(⟨0,4,b,t,v,got⟩:D.Tk),true)) (pt_at (r:={ logd { m with us:=true } ⟨m.mm,m.th,2,1,0,D.u64 (D.i64 (b+1)),0⟩ (D.wd m (1)) with W:=m.W.set (1:Int).toNat (D.u64 (D.i64 (b+1))) }) ht rfl rfl _)
 rw [heq]
 generalize hR:EffR w E 11 (takesO E (dO nz0 i c m)) _ 2 _=R
 generalize hW:takesO E (dO nz0 i c m)=W
 have hf:=ht.f
 simp only [tkC,nextC,tkTy,iI] at hf
 have hi:=ht.hi
 simp (maxSteps:=2000000) only [ir88,nt88,rs88,go_sem,↓runOp,↓reduceIte,Nat.reduceLT,Nat.reduceEqDiff,reduceCtorEq,dO,mO,nz0,bkM,bkY,hubC,iI,hf]
 refine And.intro hi (And.intro ⟨_,Try.func105,by kernel_rfl,by kernel_rfl⟩ ?_)
 refine call_inline (c:=ir105) (rs:=rs105) (nt:=nt105) 1000 (mkTab_ok _ _) Try.func105 rfl (by kernel_rfl) (by kernel_rfl) rfl (by simp [okVs,SV.okN,SC.okN]) (of_decide_eq_true rfl) (fun E0 a0 ht0=>?_)
 simp (maxSteps:=2000000) only [ir105,nt105,rs105,go_sem,↓runOp,↓reduceIte,Nat.reduceLT,Nat.reduceEqDiff,reduceCtorEq,hf]
 repeat (with_reducible refine And.intro (by first | exact hi | exact Or.inr trivial | exact Or.inl trivial) ?_)
 refine callV (.c (.v (.int .u64 (D.u64 (D.i64 (b+1)))))) _ (fun E=>rfl) (fun E a w' hs=>number_calls w' _) ?_
 simp (maxSteps:=2000000) only [go_sem,↓runOp,↓reduceIte,Nat.reduceLT,Nat.reduceEqDiff,reduceCtorEq]
 refine call_intro (crA (i:=i) (c:=c) (m:=m) (m':={ logd { m with us:=true } ⟨m.mm,m.th,2,1,0,D.u64 (D.i64 (b+1)),0⟩ (D.wd m (1)) with W:=m.W.set (1:Int).toNat (D.u64 (D.i64 (b+1))) }) (Nat.le_refl _) (ain0 rfl rfl rfl rfl rfl rfl) (fun E w h=>dstore_at ht (a:=1) (v:=D.u64 (D.i64 (b+1))) (by decide) (by omega) h)) (lt11 (Nat.le_refl _)) ?_
 simp (maxSteps:=2000000) only [go_sem,↓runOp,↓reduceIte,Nat.reduceLT,Nat.reduceAdd,Nat.reduceEqDiff,reduceCtorEq,Int.reduceToNat,killO,aO,bkM,bkY,iI,logd]
 refine call_inline (c:=ir96) (rs:=rs96) (nt:=nt96) 1000 (mkTab_ok _ _) Try.func96 rfl (by kernel_rfl) (by kernel_rfl) rfl (by simp [okVs,SV.okN,SC.okN]) (of_decide_eq_true rfl) (fun E1 a1 ht1=>?_)
 simp (maxSteps:=2000000) only [ir96,nt96,rs96,go_sem,↓condS,↓gateS,↓runOp,↓reduceIte,Nat.reduceLT,Nat.reduceEqDiff,reduceCtorEq]
 refine retI ht1 _ rfl (of_decide_eq_true rfl) (by simp [SV.okN,SC.okN]) ?_
 simp (maxSteps:=2000000) only [go_sem,↓runOp,↓reduceIte,Nat.reduceLT,Nat.reduceEqDiff]
 refine call_inline (c:=ir95) (rs:=rs95) (nt:=nt95) 1000 (mkTab_ok _ _) Try.func95 rfl (by kernel_rfl) (by kernel_rfl) rfl (by simp [okVs,SV.okN,SC.okN]) (of_decide_eq_true rfl) (fun E1 a1 ht1=>?_)
 simp (maxSteps:=2000000) only [ir95,nt95,rs95,go_sem,↓condS,↓gateS,↓runOp,↓reduceIte,Nat.reduceLT,Nat.reduceLeDiff,Nat.reduceAdd,Nat.reduceEqDiff,reduceCtorEq,ats_C,iI]
 refine And.intro ht.hc ?_
 refine retI ht1 _ rfl (of_decide_eq_true rfl) (by simp [SV.okN,ok1L]) ?_
 simp (maxSteps:=2000000) only [go_sem,↓runOp,↓reduceIte,Nat.reduceLT,Nat.reduceEqDiff]
 refine call_inline (c:=ir97) (rs:=rs97) (nt:=nt97) 1000 (mkTab_ok _ _) Try.func97 rfl (by kernel_rfl) (by kernel_rfl) rfl (by simp [okVs,SV.okN,SC.okN]) (of_decide_eq_true rfl) (fun E1 a1 ht1=>?_)
 simp (maxSteps:=2000000) only [ir97,nt97,rs97,go_sem,↓runOp,↓reduceIte,Nat.reduceLT,Nat.reduceLeDiff,Nat.reduceAdd,Nat.reduceEqDiff,reduceCtorEq]
 refine call_inline (c:=ir102) (rs:=rs102) (nt:=nt102) 1000 (mkTab_ok _ _) Try.func102 rfl (by kernel_rfl) (by kernel_rfl) rfl (by simp [okVs,SV.okN,SC.okL,SC.okN]) (of_decide_eq_true rfl) (fun E2 a2 ht2=>?_)
 simp (maxSteps:=2000000) only [ir102,nt102,rs102,go_sem,↓condS,↓gateS,↓runOp,↓reduceIte,Nat.reduceLT,Nat.reduceAdd,Nat.reduceEqDiff,reduceCtorEq]
 refine draw_vc (by kernel_rfl) (mkTab_ok _ _) (of_decide_eq_true rfl) (of_decide_eq_true rfl) ?_
 repeat (first | simp (maxSteps:=2000000) only [go_sem,↓gateD,↓runD,↓reduceIte,Nat.reduceLT,Nat.reduceLeDiff,Nat.reduceAdd,Nat.reduceEqDiff,reduceCtorEq,seC] | rw [dr_cons])
 repeat (with_reducible refine And.intro (by first | exact hi | exact Or.inr trivial | exact Or.inl trivial) ?_)
 refine retI ht2 _ rfl (of_decide_eq_true rfl) (by simp [SV.okN,ok1L]) ?_
 simp (maxSteps:=2000000) only [go_sem,↓runOp,↓reduceIte,Nat.reduceLT,Nat.reduceEqDiff,reduceCtorEq]
 refine retI ht1 _ rfl (of_decide_eq_true rfl) (by simp [SV.okN,SC.okN]) ?_
 simp (maxSteps:=2000000) only [go_sem,↓runOp,↓reduceIte,Nat.reduceLT,Nat.reduceEqDiff]
 refine retI ht0 _ rfl (of_decide_eq_true rfl) (by simp [SV.okN,SC.okN]) ?_
 simp (maxSteps:=2000000) only [go_sem,↓runOp,↓reduceIte,Nat.reduceLT,Nat.reduceEqDiff,reduceCtorEq,mkO_rs]
 rw [← hR,← hW]
 exact retTA (p:=11) (q:=12) ht rfl rfl rfl (by simp) (fun E=>rfl) (by simp [look,bkM,iI,logd]) rfl ⟨_,_,rfl,Nat.le_refl _,fun _ _=>rfl⟩ rfl rfl ⟨_,rfl,_,rfl,by simp [iI]⟩ ⟨_,_,rfl,by simp,ats_set ht.hc (by simp [D.Ca.enc])⟩ ⟨_,rfl,fun x=>by by_cases q:x=i <;> simp [q,tkC,nextC,tkTy,iI,hf]⟩ rfl rfl
end Go.Proofs.Ytcloeignccpljaa.Z
