/- DequeSwapsSaid: what its proof is made of. No condition. -/
import Derived.Test.YtcloeignccpljaaPkIDequeSwapsAP
set_option linter.unusedSimpArgs false
set_option linter.unusedVariables false
namespace Go.Proofs.Ytcloeignccpljaa.Z
open Go Go.RowKit
def ir33:IR:=(.seq (.ops [⟨(some 4),(.box 51 (.t 1)),none⟩,⟨(some 5),(.mv (.k (.c (.v .nilIface)))),none⟩]) (.kill [1,3,5,6,7,8,9,10,11] (.seq (.seq (.ops [⟨(some 6),(.mv (.t 0)),none⟩,⟨(some 7),(.bin .neq (.t 6) (.k (.c (.v (.int .i64 0))))),none⟩]) (.kill [0,6] (.cond (.t 7) (.seq (.ops [⟨(some 5),(.mv (.k (.c (.v .nilIface)))),none⟩]) (.kill [2,4,7] .ret)) .skip))) (.kill [5,7] (.seq (.ops [⟨(some 8),(.ld false 1 (.t 2)),none⟩,⟨(some 9),(.fa 2 (.t 4)),none⟩,⟨(some 10),(.ld false 1 (.t 9)),none⟩,⟨(some 11),(.build [(.v (.pointer none)),(.v .nilFunc),(.v (.int .i64 0)),(.v (.int .i64 0)),(.v (.int .i64 0))] [(0,(1,(.t 8))),(4,(1,(.t 10)))]),none⟩,⟨(some 12),(.build [(.v (.pointer none)),(.v .nilFunc),(.v (.int .i64 0)),(.v (.int .i64 0)),(.v (.int .i64 0))] [(0,(5,(.t 11)))]),none⟩,⟨(some 13),(.box 96 (.t 12)),none⟩,⟨(some 14),(.mif 91 (.t 13)),none⟩,⟨(some 5),(.mv (.t 14)),none⟩]) (.kill [2,4,8,9,10,11,12,13,14] .ret))))))
def rs33:List RS:=[(.t 5)]
def nt33:Nat:=15
def ir34:IR:=(.seq (.ops [⟨(some 4),(.box 51 (.t 1)),none⟩,⟨(some 5),(.mv (.k (.c (.v .nilIface)))),none⟩]) (.kill [1,3,4,5,6,7,8,9,10,11] (.seq (.seq (.ops [⟨(some 6),(.mv (.t 0)),none⟩,⟨(some 7),(.bin .neq (.t 6) (.k (.c (.v (.int .i64 0))))),none⟩]) (.kill [0,6] (.cond (.t 7) (.seq (.ops [⟨(some 5),(.mv (.k (.c (.v .nilIface)))),none⟩]) (.kill [2,7] .ret)) .skip))) (.kill [5,7] (.seq (.ops [⟨(some 8),(.ld false 1 (.t 2)),none⟩,⟨(some 9),(.build [(.v (.pointer none)),(.v .nilFunc),(.v (.int .i64 0)),(.v (.int .i64 0)),(.v (.int .i64 0))] [(0,(1,(.t 8)))]),none⟩,⟨(some 10),(.build [(.v (.pointer none)),(.v .nilFunc),(.v (.int .i64 0)),(.v (.int .i64 0)),(.v (.int .i64 0)),(.v (.bool false))] [(0,(5,(.t 9)))]),none⟩,⟨(some 11),(.box 100 (.t 10)),none⟩,⟨(some 12),(.mif 98 (.t 11)),none⟩,⟨(some 5),(.mv (.t 12)),none⟩]) (.kill [2,8,9,10,11,12] .ret))))))
def rs34:List RS:=[(.t 5)]
def nt34:Nat:=13
def ir35:IR:=(.seq (.ops [⟨(some 4),(.box 51 (.t 1)),none⟩,⟨(some 5),(.mv (.k (.c (.v .nilIface)))),none⟩]) (.kill [0,1,3,4,5,6,7,8,9,10,11] (.seq (.ops [⟨(some 6),(.ld false 1 (.t 2)),none⟩,⟨(some 7),(.build [(.v (.pointer none)),(.v .nilFunc),(.v (.int .i64 0)),(.v (.int .i64 0)),(.v (.int .i64 0))] [(0,(1,(.t 6)))]),none⟩,⟨(some 8),(.build [(.v (.pointer none)),(.v .nilFunc),(.v (.int .i64 0)),(.v (.int .i64 0)),(.v (.int .i64 0))] [(0,(5,(.t 7)))]),none⟩,⟨(some 9),(.box 102 (.t 8)),none⟩,⟨(some 10),(.mif 101 (.t 9)),none⟩,⟨(some 5),(.mv (.t 10)),none⟩]) (.kill [2,6,7,8,9,10] .ret))))
def rs35:List RS:=[(.t 5)]
def nt35:Nat:=11
theorem app_ca {C:List D.Ca} {c:D.Ca} (e:Nat) (he:e<C.length+1):appAt C.length (ats D.Ca.enc C D.ca0) (fun e=>take' 9 (drop' (e * 9) ((D.Ca.enc c).map SC.v))) e=ats D.Ca.enc (C++[c]) D.ca0 e:=by
 unfold appAt
 by_cases h:e<C.length
 ·rw [if_pos h];unfold ats;rw [List.getD_eq_getElem?_getD,List.getD_eq_getElem?_getD,List.getElem?_append_left h]
 ·rw [if_neg h]
  have h0:e - C.length=0:=by omega
  have h1:e=C.length:=by omega
  rw [h0,h1]
  unfold ats
  rw [List.getD_eq_getElem?_getD,List.getElem?_append_right (Nat.le_refl _),Nat.sub_self]
  rfl
set_option maxRecDepth 100000 in
set_option maxHeartbeats 4000000 in
theorem mmove_r5 (w:World) (E:Env) (m:D.Pm) (i:Nat) (op:Int) (arg data:Int) (h0:0≤m.mv) (hM:m.mv<65536) (hi:i<m.S.length) (ho:op≠0) (hg:getV kitG op = .v .nilFunc) (htk:(m.S.getD i D.se0).tk=none) (hk:KitW w E (takesO E (mvO nz0 m))) (h:Handed w E 11 (mvO nz0 m) []) :
  Calls Try.prog 23 (([.c (.ptr (0,0,0) 0),.agg [iI (i:Nat),iI op,iI arg,iI data]]:List SV).map (SV.den E)).toArray w (EffR w E 11 (takesO E (mvO nz0 m)) (.c (.v (.bool false))) 4 fun b=>killO [3,4,6,7]++mvO ⟨b,b+1,b+2,b+3⟩ { m with mv:=m.mv+1 }):=by
 refine enterO (c:=ir23) (rs:=rs23) (nt:=nt23) h _ Try.func23 rfl (by kernel_rfl) (by kernel_rfl) rfl (by simp [okVs,SV.okN,SC.okN,SC.okL,iI]) (of_decide_eq_true rfl) ?_
 generalize hR:EffR w E 11 (takesO E (mvO nz0 m)) _ 4 _=R
 generalize hW:takesO E (mvO nz0 m)=W at hk ⊢
 have hl:m.S.length≠0:=by omega
 have hl0:(((m.S.length:Nat):Int) == 0)=false:=beq_eq_false_iff_ne.2 (by omega)
 have hm0:decide (m.mv≥65536)=false:=decide_eq_false (by omega)
 have hw1:IntKind.i64.wrap (m.mv+1)=m.mv+1:=D.i64_id (by omega) (by omega)
 have hse:seC 7 m.S i=[.v .nilIface,.v (.bool (m.S.getD i D.se0).rd),iI (m.S.getD i D.se0).la,iI (m.S.getD i D.se0).ak,iI (m.S.getD i D.se0).av]:=by
  unfold seC;rw [htk];simp only [taskI]
 have hi0:decide (((i:Nat):Int)<0)=false:=decide_eq_false (by omega)
 have hi1:decide (((i:Nat):Int)≥(m.S.length:Int))=false:=decide_eq_false (by omega)
 have hz:(op == 0)=false:=beq_eq_false_iff_ne.2 ho
 simp only [iI] at hse
 simp (maxSteps:=2000000) only [ir23,nt23,rs23,go_sem,↓condS,↓gateS,↓runOp,↓imp_ft,↓imp_tt,↓imp_ff,↓reduceIte,Nat.reduceLT,Nat.reduceLeDiff,Nat.reduceAdd,Nat.reduceEqDiff,reduceCtorEq,Int.reduceNeg,mvO,rO,mO,nz0,bkM,nilP,bkY,hubC,iI,hl0,hm0,List.cons_append,List.nil_append,hw1]
 refine draw_vc (by kernel_rfl) (mkTab_ok _ _) (of_decide_eq_true rfl) (of_decide_eq_true rfl) ?_
 repeat (first | simp (maxSteps:=2000000) only [go_sem,↓condS,↓gateD,altC,↓runD,↓imp_ft,↓imp_tt,↓imp_ff,↓reduceIte,Nat.reduceLT,Nat.reduceEqDiff,reduceCtorEq,Int.reduceNeg,hi0,hi1] | rw [dr_cons])
 repeat (with_reducible refine And.intro (by first | exact ⟨hi,Nat.le_refl _⟩ | exact hi | exact Or.inr trivial | exact Or.inl trivial | exact ⟨by omega,by omega,Nat.le_refl _⟩) ?_)
 refine draw_vc (by kernel_rfl) (mkTab_ok _ _) (of_decide_eq_true rfl) (of_decide_eq_true rfl) ?_
 repeat (first | simp (maxSteps:=2000000) only [go_sem,↓condS,↓runOp,↓gateD,↓runD,↓imp_ft,↓imp_ff,↓reduceIte,Nat.reduceLT,Nat.reduceEqDiff,reduceCtorEq,Int.reduceNeg,hse,hz,Int.toNat_natCast] | rw [dr_cons])
 repeat (with_reducible refine And.intro (by first | exact ⟨hi,Nat.le_refl _⟩ | exact hi | exact Or.inr trivial | exact Or.inl trivial | exact ⟨by omega,by omega,Nat.le_refl _⟩) ?_)
 refine draw_vc (by kernel_rfl) (mkTab_ok _ _) (of_decide_eq_true rfl) (of_decide_eq_true rfl) ?_
 repeat (first | simp (maxSteps:=2000000) only [go_sem,↓gateD,↓runD,↓reduceIte,Nat.reduceLT,Nat.reduceEqDiff,reduceCtorEq,Int.reduceNeg] | rw [dr_cons])
 refine xlk_dvc (kd:=.i64) (x:=(8,0,0)) (n:=op) (G:=kitG) (mkTab_ok _ _).1 (by kernel_rfl) rfl rfl (fun E' a w' hs=>kit_at hk hs (by simp)) ?_
 rw [show getV kitG op=_ from hg]
 repeat (first | simp (maxSteps:=2000000) only [go_sem,↓condS,↓runOp,↓gateD,↓runD,↓reduceIte,Nat.reduceLT,Nat.reduceEqDiff,reduceCtorEq,Int.reduceNeg] | rw [dr_cons])
 rw [← hR,← hW]
 exact retMv (p:=3) (q:=4) (r:=6) (tn:=fun k=>(7,k,0)) (m:={ m with mv:=m.mv+1 }) rfl (fun k=>by simp) (fun k k' e=>by simpa using e) (by simp) (fun E E'=>rfl) ⟨rfl,rfl,⟨_,_,rfl,Nat.le_refl _,fun _ _=>rfl⟩,⟨_,_,rfl,Nat.le_refl _,fun _ _=>rfl⟩,⟨_,_,rfl,Nat.le_refl _,fun _ _=>rfl⟩,⟨_,_,rfl,Nat.le_refl _,fun _ _=>rfl⟩,⟨_,_,rfl,Nat.le_refl _,fun _ _=>rfl⟩,fun k hk=>(by simp only [atN,look,Nat.reduceEqDiff,if_true,if_false,Fm.get];rw [if_pos ⟨hk,trivial⟩];rfl),rfl,rfl⟩
set_option maxRecDepth 100000 in
set_option maxHeartbeats 4000000 in
theorem mmove_r6 (w:World) (E:Env) (m:D.Pm) (i:Nat) (arg data:Int) (h0:0≤m.mv) (hM:m.mv<65536) (hi:i<m.S.length) (hi0:i≠0) (htk:(m.S.getD i D.se0).tk=none) (hk:KitW w E (takesO E (mvO nz0 m))) (h:Handed w E 11 (mvO nz0 m) []) :
  Calls Try.prog 23 (([.c (.ptr (0,0,0) 0),.agg [iI (i:Nat),iI 90,iI arg,iI data]]:List SV).map (SV.den E)).toArray w (EffR w E 11 (takesO E (mvO nz0 m)) (.c (.v (.bool false))) 4 fun b=>killO [3,4,6,7]++mvO ⟨b,b+1,b+2,b+3⟩ { m with mv:=m.mv+1 }):=by
 refine enterO (c:=ir23) (rs:=rs23) (nt:=nt23) h _ Try.func23 rfl (by kernel_rfl) (by kernel_rfl) rfl (by simp [okVs,SV.okN,SC.okN,SC.okL,iI]) (of_decide_eq_true rfl) ?_
 generalize hR:EffR w E 11 (takesO E (mvO nz0 m)) _ 4 _=R
 generalize hW:takesO E (mvO nz0 m)=W at hk ⊢
 have hl:m.S.length≠0:=by omega
 have hl0:(((m.S.length:Nat):Int) == 0)=false:=beq_eq_false_iff_ne.2 (by omega)
 have hm0:decide (m.mv≥65536)=false:=decide_eq_false (by omega)
 have hw1:IntKind.i64.wrap (m.mv+1)=m.mv+1:=D.i64_id (by omega) (by omega)
 have hse:seC 7 m.S i=[.v .nilIface,.v (.bool (m.S.getD i D.se0).rd),iI (m.S.getD i D.se0).la,iI (m.S.getD i D.se0).ak,iI (m.S.getD i D.se0).av]:=by
  unfold seC;rw [htk];simp only [taskI]
 have hi0:decide (((i:Nat):Int)<0)=false:=decide_eq_false (by omega)
 have hi1:decide (((i:Nat):Int)≥(m.S.length:Int))=false:=decide_eq_false (by omega)
 have hz:((90:Int) == 0)=false:=rfl
 have hg:getV kitG 90 = .fn (.func 33) [] [.ptr (10,0,0) 0]:=rfl
 have hn:((i:Int) != 0)=true:=by simp;omega
 simp only [iI] at hse
 simp (maxSteps:=2000000) only [ir23,nt23,rs23,go_sem,↓condS,↓gateS,↓runOp,↓imp_ft,↓imp_tt,↓imp_ff,↓reduceIte,Nat.reduceLT,Nat.reduceLeDiff,Nat.reduceAdd,Nat.reduceEqDiff,reduceCtorEq,Int.reduceNeg,mvO,rO,mO,nz0,bkM,nilP,bkY,hubC,iI,hl0,hm0,List.cons_append,List.nil_append,hw1]
 refine draw_vc (by kernel_rfl) (mkTab_ok _ _) (of_decide_eq_true rfl) (of_decide_eq_true rfl) ?_
 repeat (first | simp (maxSteps:=2000000) only [go_sem,↓condS,↓gateD,altC,↓runD,↓imp_ft,↓imp_tt,↓imp_ff,↓reduceIte,Nat.reduceLT,Nat.reduceEqDiff,reduceCtorEq,Int.reduceNeg,hi0,hi1] | rw [dr_cons])
 repeat (with_reducible refine And.intro (by first | exact ⟨hi,Nat.le_refl _⟩ | exact hi | exact Or.inr trivial | exact Or.inl trivial | exact ⟨by omega,by omega,Nat.le_refl _⟩) ?_)
 refine draw_vc (by kernel_rfl) (mkTab_ok _ _) (of_decide_eq_true rfl) (of_decide_eq_true rfl) ?_
 repeat (first | simp (maxSteps:=2000000) only [go_sem,↓condS,↓runOp,↓gateD,↓runD,↓imp_ft,↓imp_ff,↓reduceIte,Nat.reduceLT,Nat.reduceEqDiff,reduceCtorEq,Int.reduceNeg,hse,hz,Int.toNat_natCast] | rw [dr_cons])
 repeat (with_reducible refine And.intro (by first | exact ⟨hi,Nat.le_refl _⟩ | exact hi | exact Or.inr trivial | exact Or.inl trivial | exact ⟨by omega,by omega,Nat.le_refl _⟩) ?_)
 refine draw_vc (by kernel_rfl) (mkTab_ok _ _) (of_decide_eq_true rfl) (of_decide_eq_true rfl) ?_
 repeat (first | simp (maxSteps:=2000000) only [go_sem,↓gateD,↓runD,↓reduceIte,Nat.reduceLT,Nat.reduceEqDiff,reduceCtorEq,Int.reduceNeg] | rw [dr_cons])
 refine xlk_dvc (kd:=.i64) (x:=(8,0,0)) (n:=90) (G:=kitG) (mkTab_ok _ _).1 (by kernel_rfl) rfl rfl (fun E' a w' hs=>kit_at hk hs (by simp)) ?_
 rw [show getV kitG 90=_ from hg]
 repeat (first | simp (maxSteps:=2000000) only [go_sem,↓condS,↓runOp,↓gateD,↓runD,↓reduceIte,Nat.reduceLT,Nat.reduceLeDiff,Nat.reduceAdd,Nat.reduceEqDiff,reduceCtorEq,Int.reduceNeg] | rw [dr_cons])
 refine And.intro ⟨_,rfl,rfl,rfl⟩ ?_
 refine call_inline (c:=ir33) (rs:=rs33) (nt:=nt33) 1000 (mkTab_ok _ _) Try.func33 rfl (by kernel_rfl) (by kernel_rfl) rfl (by simp [okVs,SV.okN,SC.okL,SC.okN]) (of_decide_eq_true rfl) (fun E0 a0 ht0=>?_)
 simp (maxSteps:=2000000) only [ir33,nt33,rs33,go_sem,↓condS,↓runOp,↓imp_tf,↓imp_tt,↓reduceIte,Nat.reduceLT,Nat.reduceAdd,Nat.reduceEqDiff,reduceCtorEq,Int.reduceNeg,hn]
 refine retI ht0 _ rfl (of_decide_eq_true rfl) (by simp [SV.okN,SC.okN]) ?_
 simp (maxSteps:=2000000) only [go_sem,↓condS,↓runOp,↓reduceIte,Nat.reduceLT,Nat.reduceEqDiff,reduceCtorEq,Int.reduceNeg,mkO_rs]
 rw [← hR,← hW]
 exact retMv (p:=3) (q:=4) (r:=6) (tn:=fun k=>(7,k,0)) (m:={ m with mv:=m.mv+1 }) rfl (fun k=>by simp) (fun k k' e=>by simpa using e) (by simp) (fun E E'=>rfl) ⟨rfl,rfl,⟨_,_,rfl,Nat.le_refl _,fun _ _=>rfl⟩,⟨_,_,rfl,Nat.le_refl _,fun _ _=>rfl⟩,⟨_,_,rfl,Nat.le_refl _,fun _ _=>rfl⟩,⟨_,_,rfl,Nat.le_refl _,fun _ _=>rfl⟩,⟨_,_,rfl,Nat.le_refl _,fun _ _=>rfl⟩,fun k hk=>(by simp only [atN,look,Nat.reduceEqDiff,if_true,if_false,Fm.get];rw [if_pos ⟨hk,trivial⟩];rfl),rfl,rfl⟩
set_option maxRecDepth 100000 in
set_option maxHeartbeats 4000000 in
theorem mmove_r7 (w:World) (E:Env) (m:D.Pm) (i:Nat) (arg data:Int) (h0:0≤m.mv) (hM:m.mv<65536) (hi:i<m.S.length) (hi0:i≠0) (htk:(m.S.getD i D.se0).tk=none) (hk:KitW w E (takesO E (mvO nz0 m))) (h:Handed w E 11 (mvO nz0 m) []) :
  Calls Try.prog 23 (([.c (.ptr (0,0,0) 0),.agg [iI (i:Nat),iI 91,iI arg,iI data]]:List SV).map (SV.den E)).toArray w (EffR w E 11 (takesO E (mvO nz0 m)) (.c (.v (.bool false))) 4 fun b=>killO [3,4,6,7]++mvO ⟨b,b+1,b+2,b+3⟩ { m with mv:=m.mv+1 }):=by
 refine enterO (c:=ir23) (rs:=rs23) (nt:=nt23) h _ Try.func23 rfl (by kernel_rfl) (by kernel_rfl) rfl (by simp [okVs,SV.okN,SC.okN,SC.okL,iI]) (of_decide_eq_true rfl) ?_
 generalize hR:EffR w E 11 (takesO E (mvO nz0 m)) _ 4 _=R
 generalize hW:takesO E (mvO nz0 m)=W at hk ⊢
 have hl:m.S.length≠0:=by omega
 have hl0:(((m.S.length:Nat):Int) == 0)=false:=beq_eq_false_iff_ne.2 (by omega)
 have hm0:decide (m.mv≥65536)=false:=decide_eq_false (by omega)
 have hw1:IntKind.i64.wrap (m.mv+1)=m.mv+1:=D.i64_id (by omega) (by omega)
 have hse:seC 7 m.S i=[.v .nilIface,.v (.bool (m.S.getD i D.se0).rd),iI (m.S.getD i D.se0).la,iI (m.S.getD i D.se0).ak,iI (m.S.getD i D.se0).av]:=by
  unfold seC;rw [htk];simp only [taskI]
 have hi0:decide (((i:Nat):Int)<0)=false:=decide_eq_false (by omega)
 have hi1:decide (((i:Nat):Int)≥(m.S.length:Int))=false:=decide_eq_false (by omega)
 have hz:((91:Int) == 0)=false:=rfl
 have hg:getV kitG 91 = .fn (.func 34) [] [.ptr (10,0,0) 0]:=rfl
 have hn:((i:Int) != 0)=true:=by simp;omega
 simp only [iI] at hse
 simp (maxSteps:=2000000) only [ir23,nt23,rs23,go_sem,↓condS,↓gateS,↓runOp,↓imp_ft,↓imp_tt,↓imp_ff,↓reduceIte,Nat.reduceLT,Nat.reduceLeDiff,Nat.reduceAdd,Nat.reduceEqDiff,reduceCtorEq,Int.reduceNeg,mvO,rO,mO,nz0,bkM,nilP,bkY,hubC,iI,hl0,hm0,List.cons_append,List.nil_append,hw1]
 refine draw_vc (by kernel_rfl) (mkTab_ok _ _) (of_decide_eq_true rfl) (of_decide_eq_true rfl) ?_
 repeat (first | simp (maxSteps:=2000000) only [go_sem,↓condS,↓gateD,altC,↓runD,↓imp_ft,↓imp_tt,↓imp_ff,↓reduceIte,Nat.reduceLT,Nat.reduceEqDiff,reduceCtorEq,Int.reduceNeg,hi0,hi1] | rw [dr_cons])
 repeat (with_reducible refine And.intro (by first | exact ⟨hi,Nat.le_refl _⟩ | exact hi | exact Or.inr trivial | exact Or.inl trivial | exact ⟨by omega,by omega,Nat.le_refl _⟩) ?_)
 refine draw_vc (by kernel_rfl) (mkTab_ok _ _) (of_decide_eq_true rfl) (of_decide_eq_true rfl) ?_
 repeat (first | simp (maxSteps:=2000000) only [go_sem,↓condS,↓runOp,↓gateD,↓runD,↓imp_ft,↓imp_ff,↓reduceIte,Nat.reduceLT,Nat.reduceEqDiff,reduceCtorEq,Int.reduceNeg,hse,hz,Int.toNat_natCast] | rw [dr_cons])
 repeat (with_reducible refine And.intro (by first | exact ⟨hi,Nat.le_refl _⟩ | exact hi | exact Or.inr trivial | exact Or.inl trivial | exact ⟨by omega,by omega,Nat.le_refl _⟩) ?_)
 refine draw_vc (by kernel_rfl) (mkTab_ok _ _) (of_decide_eq_true rfl) (of_decide_eq_true rfl) ?_
 repeat (first | simp (maxSteps:=2000000) only [go_sem,↓gateD,↓runD,↓reduceIte,Nat.reduceLT,Nat.reduceEqDiff,reduceCtorEq,Int.reduceNeg] | rw [dr_cons])
 refine xlk_dvc (kd:=.i64) (x:=(8,0,0)) (n:=91) (G:=kitG) (mkTab_ok _ _).1 (by kernel_rfl) rfl rfl (fun E' a w' hs=>kit_at hk hs (by simp)) ?_
 rw [show getV kitG 91=_ from hg]
 repeat (first | simp (maxSteps:=2000000) only [go_sem,↓condS,↓runOp,↓gateD,↓runD,↓reduceIte,Nat.reduceLT,Nat.reduceLeDiff,Nat.reduceAdd,Nat.reduceEqDiff,reduceCtorEq,Int.reduceNeg] | rw [dr_cons])
 refine And.intro ⟨_,rfl,rfl,rfl⟩ ?_
 refine call_inline (c:=ir34) (rs:=rs34) (nt:=nt34) 1000 (mkTab_ok _ _) Try.func34 rfl (by kernel_rfl) (by kernel_rfl) rfl (by simp [okVs,SV.okN,SC.okL,SC.okN]) (of_decide_eq_true rfl) (fun E0 a0 ht0=>?_)
 simp (maxSteps:=2000000) only [ir34,nt34,rs34,go_sem,↓condS,↓runOp,↓imp_tf,↓imp_tt,↓reduceIte,Nat.reduceLT,Nat.reduceAdd,Nat.reduceEqDiff,reduceCtorEq,Int.reduceNeg,hn]
 refine retI ht0 _ rfl (of_decide_eq_true rfl) (by simp [SV.okN,SC.okN]) ?_
 simp (maxSteps:=2000000) only [go_sem,↓condS,↓runOp,↓reduceIte,Nat.reduceLT,Nat.reduceEqDiff,reduceCtorEq,Int.reduceNeg,mkO_rs]
 rw [← hR,← hW]
 exact retMv (p:=3) (q:=4) (r:=6) (tn:=fun k=>(7,k,0)) (m:={ m with mv:=m.mv+1 }) rfl (fun k=>by simp) (fun k k' e=>by simpa using e) (by simp) (fun E E'=>rfl) ⟨rfl,rfl,⟨_,_,rfl,Nat.le_refl _,fun _ _=>rfl⟩,⟨_,_,rfl,Nat.le_refl _,fun _ _=>rfl⟩,⟨_,_,rfl,Nat.le_refl _,fun _ _=>rfl⟩,⟨_,_,rfl,Nat.le_refl _,fun _ _=>rfl⟩,⟨_,_,rfl,Nat.le_refl _,fun _ _=>rfl⟩,fun k hk=>(by simp only [atN,look,Nat.reduceEqDiff,if_true,if_false,Fm.get];rw [if_pos ⟨hk,trivial⟩];rfl),rfl,rfl⟩
set_option maxRecDepth 100000 in
set_option maxHeartbeats 4000000 in
theorem mmove_b1 (w:World) (E:Env) (m:D.Pm) (i:Nat) (arg data:Int) (h0:0≤m.mv) (hM:m.mv<65536) (hi:i<m.S.length) (hC:m.C.length≤65536) (hi00:i=0) (htk:(m.S.getD i D.se0).tk=none) (hk:KitW w E (takesO E (mvO nz0 m))) (h:Handed w E 11 (mvO nz0 m) []) :
  Calls Try.prog 23 (([.c (.ptr (0,0,0) 0),.agg [iI (i:Nat),iI 90,iI arg,iI data]]:List SV).map (SV.den E)).toArray w (EffR w E 11 (takesO E (mvO nz0 m)) (.c (.v (.bool true))) 4 fun b=>killO [3,4,6,7]++mvO ⟨b,b+1,b+2,b+3⟩ (D.begM m ⟨(i:Nat),90,arg,data⟩ ⟨0,0,0,0,arg,false⟩)):=by
 refine enterO (c:=ir23) (rs:=rs23) (nt:=nt23) h _ Try.func23 rfl (by kernel_rfl) (by kernel_rfl) rfl (by simp [okVs,SV.okN,SC.okN,SC.okL,iI]) (of_decide_eq_true rfl) ?_
 generalize hR:EffR w E 11 (takesO E (mvO nz0 m)) _ 4 _=R
 generalize hW:takesO E (mvO nz0 m)=W at hk ⊢
 have hl:m.S.length≠0:=by omega
 have hl0:(((m.S.length:Nat):Int) == 0)=false:=beq_eq_false_iff_ne.2 (by omega)
 have hm0:decide (m.mv≥65536)=false:=decide_eq_false (by omega)
 have hw1:IntKind.i64.wrap (m.mv+1)=m.mv+1:=D.i64_id (by omega) (by omega)
 have hse:seC 7 m.S i=[.v .nilIface,.v (.bool (m.S.getD i D.se0).rd),iI (m.S.getD i D.se0).la,iI (m.S.getD i D.se0).ak,iI (m.S.getD i D.se0).av]:=by
  unfold seC;rw [htk];simp only [taskI]
 have hi0:decide (((i:Nat):Int)<0)=false:=decide_eq_false (by omega)
 have hi1:decide (((i:Nat):Int)≥(m.S.length:Int))=false:=decide_eq_false (by omega)
 have hz:((90:Int) == 0)=false:=rfl
 have hg:getV kitG 90 = .fn (.func 33) [] [.ptr (10,0,0) 0]:=rfl
 have hn:((i:Int) != 0)=false:=by rw [hi00];rfl
 simp only [iI] at hse
 simp (maxSteps:=2000000) only [ir23,nt23,rs23,go_sem,↓condS,↓gateS,↓runOp,↓imp_ft,↓imp_tt,↓imp_ff,↓reduceIte,Nat.reduceLT,Nat.reduceLeDiff,Nat.reduceAdd,Nat.reduceEqDiff,reduceCtorEq,Int.reduceNeg,mvO,rO,mO,nz0,bkM,nilP,bkY,hubC,iI,hl0,hm0,List.cons_append,List.nil_append,hw1]
 refine draw_vc (by kernel_rfl) (mkTab_ok _ _) (of_decide_eq_true rfl) (of_decide_eq_true rfl) ?_
 repeat (first | simp (maxSteps:=2000000) only [go_sem,↓condS,↓gateD,altC,↓runD,↓imp_ft,↓imp_tt,↓imp_ff,↓reduceIte,Nat.reduceLT,Nat.reduceEqDiff,reduceCtorEq,Int.reduceNeg,hi0,hi1] | rw [dr_cons])
 repeat (with_reducible refine And.intro (by first | exact ⟨hi,Nat.le_refl _⟩ | exact hi | exact Or.inr trivial | exact Or.inl trivial | exact ⟨by omega,by omega,Nat.le_refl _⟩) ?_)
 refine draw_vc (by kernel_rfl) (mkTab_ok _ _) (of_decide_eq_true rfl) (of_decide_eq_true rfl) ?_
 repeat (first | simp (maxSteps:=2000000) only [go_sem,↓condS,↓runOp,↓gateD,↓runD,↓imp_ft,↓imp_ff,↓reduceIte,Nat.reduceLT,Nat.reduceEqDiff,reduceCtorEq,Int.reduceNeg,hse,hz,Int.toNat_natCast] | rw [dr_cons])
 repeat (with_reducible refine And.intro (by first | exact ⟨hi,Nat.le_refl _⟩ | exact hi | exact Or.inr trivial | exact Or.inl trivial | exact ⟨by omega,by omega,Nat.le_refl _⟩) ?_)
 refine draw_vc (by kernel_rfl) (mkTab_ok _ _) (of_decide_eq_true rfl) (of_decide_eq_true rfl) ?_
 repeat (first | simp (maxSteps:=2000000) only [go_sem,↓gateD,↓runD,↓reduceIte,Nat.reduceLT,Nat.reduceEqDiff,reduceCtorEq,Int.reduceNeg] | rw [dr_cons])
 refine xlk_dvc (kd:=.i64) (x:=(8,0,0)) (n:=90) (G:=kitG) (mkTab_ok _ _).1 (by kernel_rfl) rfl rfl (fun E' a w' hs=>kit_at hk hs (by simp)) ?_
 rw [show getV kitG 90=_ from hg]
 repeat (first | simp (maxSteps:=2000000) only [go_sem,↓condS,↓runOp,↓gateD,↓runD,↓reduceIte,Nat.reduceLT,Nat.reduceLeDiff,Nat.reduceAdd,Nat.reduceEqDiff,reduceCtorEq,Int.reduceNeg] | rw [dr_cons])
 refine And.intro ⟨_,rfl,rfl,rfl⟩ ?_
 refine call_inline (c:=ir33) (rs:=rs33) (nt:=nt33) 1000 (mkTab_ok _ _) Try.func33 rfl (by kernel_rfl) (by kernel_rfl) rfl (by simp [okVs,SV.okN,SC.okL,SC.okN]) (of_decide_eq_true rfl) (fun E0 a0 ht0=>?_)
 simp (maxSteps:=2000000) only [ir33,nt33,rs33,go_sem,↓condS,↓runOp,↓imp_ft,↓imp_ff,↓reduceIte,Nat.reduceLT,Nat.reduceLeDiff,Nat.reduceAdd,Nat.reduceEqDiff,reduceCtorEq,Int.reduceNeg,hn]
 refine retI ht0 _ rfl (of_decide_eq_true rfl) (by simp [SV.okN,SC.okN]) ?_
 simp (maxSteps:=2000000) only [go_sem,↓condS,↓runOp,↓reduceIte,Nat.reduceLT,Nat.reduceLeDiff,Nat.reduceAdd,Nat.reduceEqDiff,reduceCtorEq,Int.reduceNeg]
 refine And.intro hi ?_
 refine draw_vc (by kernel_rfl) (mkTab_ok _ _) (of_decide_eq_true rfl) (of_decide_eq_true rfl) ?_
 repeat (first | simp (maxSteps:=2000000) only [go_sem,↓runOp,↓gateD,↓runD,↓reduceIte,Nat.reduceLT,Nat.reduceLeDiff,Nat.reduceAdd,Nat.reduceMul,Nat.reduceEqDiff,reduceCtorEq,Int.reduceNeg,hse,mkO_rs] | rw [dr_cons])
 repeat (with_reducible refine And.intro (by first | decide | exact ⟨Nat.le_refl _,by omega,by simp only [maxLen];omega⟩ | exact Or.inr trivial | exact Or.inl trivial | exact ⟨Or.inl trivial,Or.inr trivial⟩) ?_)
 rw [← hR,← hW]
 exact retBg (x:=13) (r:=15) (k:=⟨0,0,0,0,arg,false⟩) hi rfl (by simp) (fun E E'=>rfl) rfl rfl rfl rfl rfl rfl ⟨_,_,rfl,Nat.le_refl _,fun e he=>app_ca (c:=⟨i,90,arg,data,m.mv,-1,-1,0,0⟩) e he⟩ rfl rfl rfl rfl
set_option maxRecDepth 100000 in
set_option maxHeartbeats 4000000 in
theorem mmove_b2 (w:World) (E:Env) (m:D.Pm) (i:Nat) (arg data:Int) (h0:0≤m.mv) (hM:m.mv<65536) (hi:i<m.S.length) (hC:m.C.length≤65536) (hi00:i=0) (htk:(m.S.getD i D.se0).tk=none) (hk:KitW w E (takesO E (mvO nz0 m))) (h:Handed w E 11 (mvO nz0 m) []) :
  Calls Try.prog 23 (([.c (.ptr (0,0,0) 0),.agg [iI (i:Nat),iI 91,iI arg,iI data]]:List SV).map (SV.den E)).toArray w (EffR w E 11 (takesO E (mvO nz0 m)) (.c (.v (.bool true))) 4 fun b=>killO [3,4,6,7]++mvO ⟨b,b+1,b+2,b+3⟩ (D.begM m ⟨(i:Nat),91,arg,data⟩ ⟨1,0,0,0,0,false⟩)):=by
 refine enterO (c:=ir23) (rs:=rs23) (nt:=nt23) h _ Try.func23 rfl (by kernel_rfl) (by kernel_rfl) rfl (by simp [okVs,SV.okN,SC.okN,SC.okL,iI]) (of_decide_eq_true rfl) ?_
 generalize hR:EffR w E 11 (takesO E (mvO nz0 m)) _ 4 _=R
 generalize hW:takesO E (mvO nz0 m)=W at hk ⊢
 have hl:m.S.length≠0:=by omega
 have hl0:(((m.S.length:Nat):Int) == 0)=false:=beq_eq_false_iff_ne.2 (by omega)
 have hm0:decide (m.mv≥65536)=false:=decide_eq_false (by omega)
 have hw1:IntKind.i64.wrap (m.mv+1)=m.mv+1:=D.i64_id (by omega) (by omega)
 have hse:seC 7 m.S i=[.v .nilIface,.v (.bool (m.S.getD i D.se0).rd),iI (m.S.getD i D.se0).la,iI (m.S.getD i D.se0).ak,iI (m.S.getD i D.se0).av]:=by
  unfold seC;rw [htk];simp only [taskI]
 have hi0:decide (((i:Nat):Int)<0)=false:=decide_eq_false (by omega)
 have hi1:decide (((i:Nat):Int)≥(m.S.length:Int))=false:=decide_eq_false (by omega)
 have hz:((91:Int) == 0)=false:=rfl
 have hg:getV kitG 91 = .fn (.func 34) [] [.ptr (10,0,0) 0]:=rfl
 have hn:((i:Int) != 0)=false:=by rw [hi00];rfl
 simp only [iI] at hse
 simp (maxSteps:=2000000) only [ir23,nt23,rs23,go_sem,↓condS,↓gateS,↓runOp,↓imp_ft,↓imp_tt,↓imp_ff,↓reduceIte,Nat.reduceLT,Nat.reduceLeDiff,Nat.reduceAdd,Nat.reduceEqDiff,reduceCtorEq,Int.reduceNeg,mvO,rO,mO,nz0,bkM,nilP,bkY,hubC,iI,hl0,hm0,List.cons_append,List.nil_append,hw1]
 refine draw_vc (by kernel_rfl) (mkTab_ok _ _) (of_decide_eq_true rfl) (of_decide_eq_true rfl) ?_
 repeat (first | simp (maxSteps:=2000000) only [go_sem,↓condS,↓gateD,altC,↓runD,↓imp_ft,↓imp_tt,↓imp_ff,↓reduceIte,Nat.reduceLT,Nat.reduceEqDiff,reduceCtorEq,Int.reduceNeg,hi0,hi1] | rw [dr_cons])
 repeat (with_reducible refine And.intro (by first | exact ⟨hi,Nat.le_refl _⟩ | exact hi | exact Or.inr trivial | exact Or.inl trivial | exact ⟨by omega,by omega,Nat.le_refl _⟩) ?_)
 refine draw_vc (by kernel_rfl) (mkTab_ok _ _) (of_decide_eq_true rfl) (of_decide_eq_true rfl) ?_
 repeat (first | simp (maxSteps:=2000000) only [go_sem,↓condS,↓runOp,↓gateD,↓runD,↓imp_ft,↓imp_ff,↓reduceIte,Nat.reduceLT,Nat.reduceEqDiff,reduceCtorEq,Int.reduceNeg,hse,hz,Int.toNat_natCast] | rw [dr_cons])
 repeat (with_reducible refine And.intro (by first | exact ⟨hi,Nat.le_refl _⟩ | exact hi | exact Or.inr trivial | exact Or.inl trivial | exact ⟨by omega,by omega,Nat.le_refl _⟩) ?_)
 refine draw_vc (by kernel_rfl) (mkTab_ok _ _) (of_decide_eq_true rfl) (of_decide_eq_true rfl) ?_
 repeat (first | simp (maxSteps:=2000000) only [go_sem,↓gateD,↓runD,↓reduceIte,Nat.reduceLT,Nat.reduceEqDiff,reduceCtorEq,Int.reduceNeg] | rw [dr_cons])
 refine xlk_dvc (kd:=.i64) (x:=(8,0,0)) (n:=91) (G:=kitG) (mkTab_ok _ _).1 (by kernel_rfl) rfl rfl (fun E' a w' hs=>kit_at hk hs (by simp)) ?_
 rw [show getV kitG 91=_ from hg]
 repeat (first | simp (maxSteps:=2000000) only [go_sem,↓condS,↓runOp,↓gateD,↓runD,↓reduceIte,Nat.reduceLT,Nat.reduceLeDiff,Nat.reduceAdd,Nat.reduceEqDiff,reduceCtorEq,Int.reduceNeg] | rw [dr_cons])
 refine And.intro ⟨_,rfl,rfl,rfl⟩ ?_
 refine call_inline (c:=ir34) (rs:=rs34) (nt:=nt34) 1000 (mkTab_ok _ _) Try.func34 rfl (by kernel_rfl) (by kernel_rfl) rfl (by simp [okVs,SV.okN,SC.okL,SC.okN]) (of_decide_eq_true rfl) (fun E0 a0 ht0=>?_)
 simp (maxSteps:=2000000) only [ir34,nt34,rs34,go_sem,↓condS,↓runOp,↓imp_ft,↓imp_ff,↓reduceIte,Nat.reduceLT,Nat.reduceLeDiff,Nat.reduceAdd,Nat.reduceEqDiff,reduceCtorEq,Int.reduceNeg,hn]
 refine retI ht0 _ rfl (of_decide_eq_true rfl) (by simp [SV.okN,SC.okN]) ?_
 simp (maxSteps:=2000000) only [go_sem,↓condS,↓runOp,↓reduceIte,Nat.reduceLT,Nat.reduceLeDiff,Nat.reduceAdd,Nat.reduceEqDiff,reduceCtorEq,Int.reduceNeg]
 refine And.intro hi ?_
 refine draw_vc (by kernel_rfl) (mkTab_ok _ _) (of_decide_eq_true rfl) (of_decide_eq_true rfl) ?_
 repeat (first | simp (maxSteps:=2000000) only [go_sem,↓runOp,↓gateD,↓runD,↓reduceIte,Nat.reduceLT,Nat.reduceLeDiff,Nat.reduceAdd,Nat.reduceMul,Nat.reduceEqDiff,reduceCtorEq,Int.reduceNeg,hse,mkO_rs] | rw [dr_cons])
 repeat (with_reducible refine And.intro (by first | decide | exact ⟨Nat.le_refl _,by omega,by simp only [maxLen];omega⟩ | exact Or.inr trivial | exact Or.inl trivial | exact ⟨Or.inl trivial,Or.inr trivial⟩) ?_)
 rw [← hR,← hW]
 exact retBg (x:=13) (r:=15) (k:=⟨1,0,0,0,0,false⟩) hi rfl (by simp) (fun E E'=>rfl) rfl rfl rfl rfl rfl rfl ⟨_,_,rfl,Nat.le_refl _,fun e he=>app_ca (c:=⟨i,91,arg,data,m.mv,-1,-1,0,0⟩) e he⟩ rfl rfl rfl rfl
set_option maxRecDepth 100000 in
set_option maxHeartbeats 4000000 in
theorem mmove_b3 (w:World) (E:Env) (m:D.Pm) (i:Nat) (arg data:Int) (h0:0≤m.mv) (hM:m.mv<65536) (hi:i<m.S.length) (hC:m.C.length≤65536) (htk:(m.S.getD i D.se0).tk=none) (hk:KitW w E (takesO E (mvO nz0 m))) (h:Handed w E 11 (mvO nz0 m) []) :
  Calls Try.prog 23 (([.c (.ptr (0,0,0) 0),.agg [iI (i:Nat),iI 92,iI arg,iI data]]:List SV).map (SV.den E)).toArray w (EffR w E 11 (takesO E (mvO nz0 m)) (.c (.v (.bool true))) 4 fun b=>killO [3,4,6,7]++mvO ⟨b,b+1,b+2,b+3⟩ (D.begM m ⟨(i:Nat),92,arg,data⟩ ⟨2,0,0,0,0,false⟩)):=by
 refine enterO (c:=ir23) (rs:=rs23) (nt:=nt23) h _ Try.func23 rfl (by kernel_rfl) (by kernel_rfl) rfl (by simp [okVs,SV.okN,SC.okN,SC.okL,iI]) (of_decide_eq_true rfl) ?_
 generalize hR:EffR w E 11 (takesO E (mvO nz0 m)) _ 4 _=R
 generalize hW:takesO E (mvO nz0 m)=W at hk ⊢
 have hl:m.S.length≠0:=by omega
 have hl0:(((m.S.length:Nat):Int) == 0)=false:=beq_eq_false_iff_ne.2 (by omega)
 have hm0:decide (m.mv≥65536)=false:=decide_eq_false (by omega)
 have hw1:IntKind.i64.wrap (m.mv+1)=m.mv+1:=D.i64_id (by omega) (by omega)
 have hse:seC 7 m.S i=[.v .nilIface,.v (.bool (m.S.getD i D.se0).rd),iI (m.S.getD i D.se0).la,iI (m.S.getD i D.se0).ak,iI (m.S.getD i D.se0).av]:=by
  unfold seC;rw [htk];simp only [taskI]
 have hi0:decide (((i:Nat):Int)<0)=false:=decide_eq_false (by omega)
 have hi1:decide (((i:Nat):Int)≥(m.S.length:Int))=false:=decide_eq_false (by omega)
 have hz:((92:Int) == 0)=false:=rfl
 have hg:getV kitG 92 = .fn (.func 35) [] [.ptr (10,0,0) 0]:=rfl
 simp only [iI] at hse
 simp (maxSteps:=2000000) only [ir23,nt23,rs23,go_sem,↓condS,↓gateS,↓runOp,↓imp_ft,↓imp_tt,↓imp_ff,↓reduceIte,Nat.reduceLT,Nat.reduceLeDiff,Nat.reduceAdd,Nat.reduceEqDiff,reduceCtorEq,Int.reduceNeg,mvO,rO,mO,nz0,bkM,nilP,bkY,hubC,iI,hl0,hm0,List.cons_append,List.nil_append,hw1]
 refine draw_vc (by kernel_rfl) (mkTab_ok _ _) (of_decide_eq_true rfl) (of_decide_eq_true rfl) ?_
 repeat (first | simp (maxSteps:=2000000) only [go_sem,↓condS,↓gateD,altC,↓runD,↓imp_ft,↓imp_tt,↓imp_ff,↓reduceIte,Nat.reduceLT,Nat.reduceEqDiff,reduceCtorEq,Int.reduceNeg,hi0,hi1] | rw [dr_cons])
 repeat (with_reducible refine And.intro (by first | exact ⟨hi,Nat.le_refl _⟩ | exact hi | exact Or.inr trivial | exact Or.inl trivial | exact ⟨by omega,by omega,Nat.le_refl _⟩) ?_)
 refine draw_vc (by kernel_rfl) (mkTab_ok _ _) (of_decide_eq_true rfl) (of_decide_eq_true rfl) ?_
 repeat (first | simp (maxSteps:=2000000) only [go_sem,↓condS,↓runOp,↓gateD,↓runD,↓imp_ft,↓imp_ff,↓reduceIte,Nat.reduceLT,Nat.reduceEqDiff,reduceCtorEq,Int.reduceNeg,hse,hz,Int.toNat_natCast] | rw [dr_cons])
 repeat (with_reducible refine And.intro (by first | exact ⟨hi,Nat.le_refl _⟩ | exact hi | exact Or.inr trivial | exact Or.inl trivial | exact ⟨by omega,by omega,Nat.le_refl _⟩) ?_)
 refine draw_vc (by kernel_rfl) (mkTab_ok _ _) (of_decide_eq_true rfl) (of_decide_eq_true rfl) ?_
 repeat (first | simp (maxSteps:=2000000) only [go_sem,↓gateD,↓runD,↓reduceIte,Nat.reduceLT,Nat.reduceEqDiff,reduceCtorEq,Int.reduceNeg] | rw [dr_cons])
 refine xlk_dvc (kd:=.i64) (x:=(8,0,0)) (n:=92) (G:=kitG) (mkTab_ok _ _).1 (by kernel_rfl) rfl rfl (fun E' a w' hs=>kit_at hk hs (by simp)) ?_
 rw [show getV kitG 92=_ from hg]
 repeat (first | simp (maxSteps:=2000000) only [go_sem,↓condS,↓runOp,↓gateD,↓runD,↓reduceIte,Nat.reduceLT,Nat.reduceLeDiff,Nat.reduceAdd,Nat.reduceEqDiff,reduceCtorEq,Int.reduceNeg] | rw [dr_cons])
 refine And.intro ⟨_,rfl,rfl,rfl⟩ ?_
 refine call_inline (c:=ir35) (rs:=rs35) (nt:=nt35) 1000 (mkTab_ok _ _) Try.func35 rfl (by kernel_rfl) (by kernel_rfl) rfl (by simp [okVs,SV.okN,SC.okL,SC.okN]) (of_decide_eq_true rfl) (fun E0 a0 ht0=>?_)
 simp (maxSteps:=2000000) only [ir35,nt35,rs35,go_sem,↓runOp,↓reduceIte,Nat.reduceLT,Nat.reduceLeDiff,Nat.reduceAdd,Nat.reduceEqDiff,reduceCtorEq,Int.reduceNeg]
 refine retI ht0 _ rfl (of_decide_eq_true rfl) (by simp [SV.okN,SC.okN]) ?_
 simp (maxSteps:=2000000) only [go_sem,↓condS,↓runOp,↓reduceIte,Nat.reduceLT,Nat.reduceLeDiff,Nat.reduceAdd,Nat.reduceEqDiff,reduceCtorEq,Int.reduceNeg]
 refine And.intro hi ?_
 refine draw_vc (by kernel_rfl) (mkTab_ok _ _) (of_decide_eq_true rfl) (of_decide_eq_true rfl) ?_
 repeat (first | simp (maxSteps:=2000000) only [go_sem,↓runOp,↓gateD,↓runD,↓reduceIte,Nat.reduceLT,Nat.reduceLeDiff,Nat.reduceAdd,Nat.reduceMul,Nat.reduceEqDiff,reduceCtorEq,Int.reduceNeg,hse,mkO_rs] | rw [dr_cons])
 repeat (with_reducible refine And.intro (by first | decide | exact ⟨Nat.le_refl _,by omega,by simp only [maxLen];omega⟩ | exact Or.inr trivial | exact Or.inl trivial | exact ⟨Or.inl trivial,Or.inr trivial⟩) ?_)
 rw [← hR,← hW]
 exact retBg (x:=13) (r:=15) (k:=⟨2,0,0,0,0,false⟩) hi rfl (by simp) (fun E E'=>rfl) rfl rfl rfl rfl rfl rfl ⟨_,_,rfl,Nat.le_refl _,fun e he=>app_ca (c:=⟨i,92,arg,data,m.mv,-1,-1,0,0⟩) e he⟩ rfl rfl rfl rfl
end Go.Proofs.Ytcloeignccpljaa.Z
namespace Go.Proofs.Ytcloeignccpljaa.Z
open Go Go.RowKit
structure Good (m:D.Pm) (x:D.Rm):Prop where
 b:D.Both m x
 f:Fit m
 c:(m.C.length:Int)≤m.mv
 mv:0≤m.mv
theorem good_S {m:D.Pm} {x:D.Rm} (h:Good m x):m.S.length≠0:=by
 have:=h.b.thr
 have:=h.b.sim.thr
 omega
theorem task_C (m:D.Pm) (i:Nat) (k:D.Tk):(D.taskT m i k).1.C.length=m.C.length:=by
 have hl:∀ a,(D.load m a).1.C=m.C:=fun a=>by unfold D.load;split <;> rfl
 have hs:∀ a v,(D.store m a v).C=m.C:=fun a v=>by unfold D.store;split <;> rfl
 have hw:∀ a o v,(D.swap m a o v).1.C=m.C:=fun a o v=>by unfold D.swap;split <;> (try split) <;> rfl
 unfold D.taskT D.pushT D.takeT D.stealT
 repeat' split
 all_goals simp only [D.ans,D.point,List.length_set,hl,hs,hw]
theorem step_C {m:D.Pm} {i:Nat} {k:D.Tk} {now:Int}:(D.stepM m i k now).C.length=m.C.length∧(D.stepM m i k now).mv=m.mv:=by
 have:=task_C (D.begS m i now) i (D.begK m i k)
 have:=(step_fit (m:=m) (i:=i) (k:=k) (now:=now)).2.2
 refine ⟨?_,this⟩
 unfold D.stepM
 split <;> simp only [D.endS,D.setTk,List.length_set] <;> assumption
theorem good_move {m:D.Pm} {x:D.Rm} {y:D.Mo} (h:Good m x) (ha:D.i64 y.arg=y.arg):Good (D.moveM m y).1 (D.rMove x y).1∧(D.moveM m y).2=(D.rMove x y).2:=by
 obtain ⟨h1,h2⟩:=D.both_move h.b ha
 have hc:=h.c
 have hm:=h.mv
 have hk:((D.moveM m y).1.C.length:Int)≤(D.moveM m y).1.mv:=by
  unfold D.moveM
  split
  ·exact hc
  split
  ·simp only;omega
  split
  ·split
   ·obtain ⟨g1,g2⟩:=step_C (m:={ m with mv:=m.mv+1 }) (i:=y.th.toNat) (k:=‹D.Tk›) (now:=m.mv)
    simp only at g1 g2 ⊢
    omega
   ·simp only;omega
  ·split
   ·simp only;omega
   ·split
    ·simp only [D.begM,List.length_append,List.length_cons,List.length_nil];omega
    ·simp only;omega
 exact ⟨⟨h1,move_fit h.f,hk,by have:=(D.move_mv (m:=m) (x:=y)).2;omega⟩,h2⟩
theorem good_new {t r:Int} (h1:1≤t) (h2:1≤r) (h3:r≤256):Good (D.newM t r) (D.newR t r):=⟨D.both_new h1 h2 h3,⟨by simp [D.newM],by simp [D.newM]⟩,by simp [D.newM],by simp [D.newM]⟩
theorem good_run:∀ (l:List D.Mo) {m:D.Pm} {x:D.Rm},Good m x→(∀ y∈l,D.i64 y.arg=y.arg)→Good (D.runM m l) (D.runR x l)
 | [],m,x,h,_=>h
 | y :: l,m,x,h,ha=>good_run l (good_move h (ha y (by simp))).1 fun z hz=>ha z (by simp [hz])
theorem mmove_own (w:World) (E:Env) (m:D.Pm) (x:D.Rm) (y:D.Mo) (hg:Good m x) (hk:KitW w E (takesO E (mvO nz0 m))) (h:Handed w E 11 (mvO nz0 m) []) :
  Calls Try.prog 23 (([.c (.ptr (0,0,0) 0),.agg [iI y.th,iI y.op,iI y.arg,iI y.data]]:List SV).map (SV.den E)).toArray w (EffR w E 11 (takesO E (mvO nz0 m)) (.c (.v (.bool (D.moveM m y).2))) 4 fun b=>killO [3,4,6,7]++mvO ⟨b,b+1,b+2,b+3⟩ (D.moveM m y).1):=by
 obtain ⟨th,op,arg,data⟩:=y
 have hl:=good_S hg
 have hm0:=hg.mv
 have hC:=hg.c
 by_cases hM:m.mv≥65536
 ·have e:D.moveM m ⟨th,op,arg,data⟩=(m,false):=by unfold D.moveM;rw [if_pos (Or.inr hM)]
  rw [e]
  exact mmove_r1 w E m th op arg data hl hm0 hM h
 have hM' : m.mv<65536:=by omega
 by_cases h1:th<0
 ·have e:D.moveM m ⟨th,op,arg,data⟩=({ m with mv:=m.mv+1 },false):=by unfold D.moveM;rw [if_neg (by omega),if_pos (Or.inl h1)]
  rw [e]
  exact mmove_r2a w E m th op arg data hl hm0 hM' h1 h
 by_cases h2:th≥m.S.length
 ·have e:D.moveM m ⟨th,op,arg,data⟩=({ m with mv:=m.mv+1 },false):=by unfold D.moveM;rw [if_neg (by omega),if_pos (Or.inr h2)]
  rw [e]
  exact mmove_r2b w E m th op arg data hl hm0 hM' (by omega) h2 h
 obtain ⟨i,rfl⟩:∃ i:Nat,th=i:=⟨th.toNat,by omega⟩
 have hi:i<m.S.length:=by omega
 have e0:D.moveM m ⟨(i:Int),op,arg,data⟩=(match (m.S.getD i D.se0).tk with
  | some k=>if op=0 then (D.stepM { m with mv:=m.mv+1 } i k m.mv,true) else ({ m with mv:=m.mv+1 },false)
  | none=>if op=0 then ({ m with mv:=m.mv+1 },false) else match D.make i op arg with
   | some k=>(D.begM m ⟨i,op,arg,data⟩ k,true)
   | none=>({ m with mv:=m.mv+1 },false)):=by
  unfold D.moveM
  rw [if_neg (by omega),if_neg (by simp only;omega)]
  simp only [Int.toNat_natCast]
  rfl
 cases ht:(m.S.getD i D.se0).tk with
 | some k =>
  rw [ht] at e0
  simp only at e0
  by_cases ho:op=0
  ·rw [if_pos ho] at e0
   rw [e0,ho]
   obtain ⟨c,hs⟩:=stAt_of hg.b hg.f hM' hi ht
   exact mmove_step w E m i c k arg data hm0 hM' hs h
  ·rw [if_neg ho] at e0
   rw [e0]
   exact mmove_r4 w E m i k op arg data hl hm0 hM' hi ho ht h
 | none =>
  rw [ht] at e0
  simp only at e0
  by_cases ho:op=0
  ·rw [if_pos ho] at e0
   rw [e0,ho]
   exact mmove_r3 w E m i arg data hl hm0 hM' hi ht h
  rw [if_neg ho] at e0
  unfold D.make at e0
  by_cases o1:op=90
  ·subst o1
   rw [if_pos rfl] at e0
   by_cases hi0:(i:Int)=0
   ·rw [if_pos hi0] at e0
    rw [e0]
    exact mmove_b1 w E m i arg data hm0 hM' hi (by omega) (by omega) ht hk h
   ·rw [if_neg hi0] at e0
    rw [e0]
    exact mmove_r6 w E m i arg data hm0 hM' hi (by omega) ht hk h
  rw [if_neg o1] at e0
  by_cases o2:op=91
  ·subst o2
   rw [if_pos rfl] at e0
   by_cases hi0:(i:Int)=0
   ·rw [if_pos hi0] at e0
    rw [e0]
    exact mmove_b2 w E m i arg data hm0 hM' hi (by omega) (by omega) ht hk h
   ·rw [if_neg hi0] at e0
    rw [e0]
    exact mmove_r7 w E m i arg data hm0 hM' hi (by omega) ht hk h
  rw [if_neg o2] at e0
  by_cases o3:op=92
  ·subst o3
   rw [if_pos rfl] at e0
   rw [e0]
   exact mmove_b3 w E m i arg data hm0 hM' hi (by omega) ht hk h
  ·rw [if_neg o3] at e0
   rw [e0]
   exact mmove_r5 w E m i op arg data hm0 hM' hi ho (by simp only [kitG,getV];rw [if_neg (Ne.symm o1),if_neg (Ne.symm o2),if_neg (Ne.symm o3)]) ht hk h
end Go.Proofs.Ytcloeignccpljaa.Z
namespace Go.Proofs.Ytcloeignccpljaa.Z
open Go Go.RowKit
def plainK:List SI→Bool
 | []=>true
 | .code _ :: k=>plainK k
 | .back _ :: k=>plainK k
 | _=>false
theorem aft_no {P:Program} {fn:Func}:∀ {k:List SI} {e:Exit} {a:Act} {w:World},plainK k=true→e≠.normal→aft P fn (fun _ _=>False) k e a w→False
 | [],e,a,w,_,he,h=>by
  cases e with
  | normal=>exact he rfl
  | ret=>obtain ⟨_,v,_,h⟩:=h;exact h
  | panic c=>exact h.2
  | outgrown=>exact h
  | exit id=>exact h
  | goto l=>exact h
 | .code c :: k,e,a,w,hk,he,h=>by
  cases e with
  | normal=>exact he rfl
  | _=>exact aft_no (k:=k) hk (by simp) h
 | .back J :: k,e,a,w,hk,he,h=>by
  cases e with
  | normal=>exact he rfl
  | _=>exact aft_no (k:=k) hk (by simp) h
 | .blk _ :: k,e,a,w,hk,he,h=>by cases hk
 | .ops _ _ :: k,e,a,w,hk,he,h=>by cases hk
theorem cut_code {P:Program} {fn:Func} {Q:Exit→Act→World→Prop} {k:List SI} {c d rest:Code} {a:Act} {w:World} (hk:plainK k=true) (h:c.wp P (aft P fn (fun _ _=>False) (.code d :: k)) a w) (hn:∀ a w,d.wp P (aft P fn (fun _ _=>False) k) a w→rest.wp P Q a w):(Code.seq c rest).wp P Q a w :=
 wp_seq (wp_mono h fun e a w h=>by
  cases e with
  | normal=>exact hn a w h
  | _=>exact (aft_no (k:=.code d :: k) hk (by simp) h).elim)
theorem cut_back {P:Program} {fn:Func} {Q:Exit→Act→World→Prop} {J:Act→World→Prop} {c rest:Code} {a:Act} {w:World} (h:c.wp P (aft P fn (fun _ _=>False) [.back J]) a w) (hn:∀ a w,J a w→rest.wp P Q a w):(Code.seq c rest).wp P Q a w :=
 wp_seq (wp_mono h fun e a w h=>by
  cases e with
  | normal=>exact hn a w h
  | _=>exact (aft_no (k:=[.back J]) rfl (by simp) h).elim)
theorem cut_last {P:Program} {fn:Func} {Q:Exit→Act→World→Prop} {J:Act→World→Prop} {c:Code} {a:Act} {w:World} (h:c.wp P (aft P fn (fun _ _=>False) [.back J]) a w) (hn:∀ a w,J a w→Q .normal a w):c.wp P Q a w :=
 wp_mono h fun e a w h=>by
  cases e with
  | normal=>exact hn a w h
  | _=>exact (aft_no (k:=[.back J]) rfl (by simp) h).elim
def fin1 (S' : St):KI:=.back Bool (fun _=>S') (fun b=>if b then 1 else 0) true
def finJ (C:Ctx) (S' : St) (a:Act) (w:World):Prop:=∃ n,n<(if true=true then 1 else 0)∧Inv C Bool (fun _=>S') (fun b=>if b then 1 else 0) n a w
theorem finJ_sat {C:Ctx} {S' : St} {a:Act} {w:World} (h:finJ C S' a w):∃ E',SatA C.B C.W C.w0 E' S' a w:=by
 obtain ⟨n,_,j,E',_,h⟩:=h
 exact ⟨E',h⟩
theorem fin1_vc {C:Ctx} {n:Nat} {S S' : St} {k:List KI} (h:Le C S S'):exec C (n+1) (fin1 S' :: k) S:=⟨false,by decide,h⟩
theorem relK1 {C:Ctx} {c:IR} {x:Code} {S' : St} (hc:compC C.tab x=some c.strip):RelK C [.code c,fin1 S'] [.code x,.back (finJ C S')]:=.code (by rw [hc];rfl) (.back .nil)
theorem relK3 {C:Ctx} {c d e:IR} {x y z:Code} {S' : St} (hc:compC C.tab x=some c.strip) (hd:compC C.tab y=some d.strip) (he:compC C.tab z=some e.strip):RelK C [.code c,.code d,.code e,fin1 S'] [.code x,.code y,.code z,.back (finJ C S')]:=.code (by rw [hc];rfl) (.code (by rw [hd];rfl) (.code (by rw [he];rfl) (.back .nil)))
theorem relK4 {C:Ctx} {c d e f:IR} {x y z u:Code} {S' : St} (hc:compC C.tab x=some c.strip) (hd:compC C.tab y=some d.strip) (he:compC C.tab z=some e.strip) (hf:compC C.tab u=some f.strip):RelK C [.code c,.code d,.code e,.code f,fin1 S'] [.code x,.code y,.code z,.code u,.back (finJ C S')]:=.code (by rw [hc];rfl) (.code (by rw [hd];rfl) (.code (by rw [he];rfl) (.code (by rw [hf];rfl) (.back .nil))))
theorem op_in {C:Ctx} {F:Fence} {n:Nat} {o:Oper} {op:IOp} {S:St} {vc:Prop} {out:Out} {E:Env} {a:Act} {w:World} {next:Act→World→Prop} {Q:Exit→Act→World→Prop} (hF:∀ f,F.fn f) (hT:TOk C.P C.tab.T) (hop:compOp C.tab.T o.op=some op) (hst:stepOut op S = .ok vc out) (hvc:vc) (hs:SatA C.B C.W C.w0 E S ⟨a.tmps,[]⟩ w)
  (hn:∀ E' a' w',a'.defers=a.defers→SatA C.B C.W C.w0 E' (S.app o.dst out) ⟨a'.tmps,[]⟩ w'→next a' w'):o.wpIn F n C.P a w next Q:=by
 obtain ⟨v,w',hr,haft⟩:=step_ok hT hop (vc:=vc) (out:=out) (by rw [hst];exact ⟨rfl,rfl⟩) hvc hs.sat
 obtain ⟨E',h'⟩:=satA_after hs (ks:=[]) (fun i hi=>by cases hi) haft o.dst
 have hd:∀ c,o.op≠.defer c:=fun c e=>by rw [e] at hop;cases hop
 have e1:((⟨a.tmps,[]⟩:Act).put o.dst v)=⟨(a.put o.dst v).tmps,[]⟩:=by cases o.dst <;> rfl
 have e2:(a.put o.dst v).defers=a.defers:=by cases o.dst <;> rfl
 rw [e1] at h'
 refine ⟨fun f _=>hF f,?_⟩
 rw [Oper.semAt_eq _ _ _ hd]
 have e3:execOp a.eval o=execOp (⟨a.tmps,[]⟩:Act).eval o:=rfl
 rw [e3]
 rcases hr with hr | ⟨hr,rfl⟩
 ·rw [hr];exact hn E' _ _ e2 h'
 ·rw [hr];exact hn E' _ _ e2 h'
theorem ops_cons {F:Fence} {n:Nat} {P:Program} {ops:Array Oper} {Q:Exit→Act→World→Prop} {i:Nat} {l:List Nat} {o:Oper} {a:Act} {w:World} (ho:ops[i]? = some o) (hg:o.guard=none) (h:o.wpIn F n P a w (wpOpsIn F n P ops Q l) Q):wpOpsIn F n P ops Q (i :: l) a w:=by
 simp only [wpOpsIn,ho]
 rw [if_pos (by simp [Region.wanted,hg])]
 exact h
def ObjP (x:Nm) (l:Nat) (o:Obj):Env→PH→Prop:=fun E h=>E.ρ x=l∧h=sing l o
theorem sat_obj {C:Ctx} {E:Env} {S:St} {a:Act} {w:World} {x:Nm} {l:Nat} {o:Obj} (hs:SatA C.B C.W C.w0 E S a w) (h:atN S.own x=some (.pr (ObjP x l o))):w.heap[l]? = some o∧E.ρ x=l:=by
 obtain ⟨H,hH,_⟩:=hs.sat.mem
 have h1:=hH.den x _ h
 simp only [Blk.den,ObjP] at h1
 exact ⟨(hH.sub x _ h l o (by rw [h1.2];simp [sing])).1,h1.1⟩
theorem obj_lay {C:Ctx} {E:Env} {S:St} {a:Act} {w:World} (o:Obj) (hs:SatA C.B C.W C.w0 E S a w) :
  ∃ E',SatA C.B C.W C.w0 E' ⟨S.nt,S.tmps,mergeL [(S.nid,.one (.pr (ObjP (S.nid,0,0) w.heap.size o)))] S.own,S.arrs,S.facts,S.nid+1⟩ a (w.alloc o):=by
 have haft:After C.B C.W C.w0 E [] S a w (.c (.v undef)) 1 [(S.nid,.one (.pr (ObjP (S.nid,0,0) w.heap.size o)))] [] undef (w.alloc o):=by
  refine ⟨one1 w.heap.size 0 false,one1_one _ _ _,fun E2 hs2 _ hag=>⟨(den_v _ _).symm,Fits.G (fits_alloc (o:=o) ?_ _ (Or.inl rfl))⟩⟩
  have hE:=one1_at hag
  exact ⟨hE.1,rfl⟩
 exact satA_after hs (fun i hi=>by cases hi) haft none
theorem obj_put {C:Ctx} {E:Env} {S:St} {a:Act} {w:World} {x:Nm} {p:Prop} {l:Nat} {o:Obj} (o' : Obj) (hx:pkN S.own x=some (p,.pr (ObjP x l o))) (hp:p) (hs:SatA C.B C.W C.w0 E S a w) :
  ∃ E',SatA C.B C.W C.w0 E' ⟨S.nt,S.tmps,mergeL (setN S.own x (.pr (ObjP x l o'))) S.own,S.arrs,S.facts,S.nid⟩ a (w.putObj l o'):=by
 have hat:=pkN_at hx hp
 have hlt:l<w.heap.size:=(Array.getElem?_eq_some_iff.1 (sat_obj hs hat).1).1
 have haft:After C.B C.W C.w0 E [] S a w (.c (.v undef)) 0 (setN S.own x (.pr (ObjP x l o'))) [] undef (w.putObj l o'):=by
  refine ⟨E,hs.1,fun E2 hs2 _ hag=>⟨(den_v _ _).symm,Fits.G (fits_write (g:=l) (o:=o') hx hp hlt (fun H hH=>?_) ?_ _ ⟨rfl,rfl,rfl⟩ (fun j=>?_))⟩⟩
  ·have h1:=hH.den x _ hat
   simp only [Blk.den,ObjP] at h1
   have h2:=(hH.sub x _ hat l o (by rw [h1.2];simp [sing])).1
   rw [h1.2,h2];rfl
  ·obtain ⟨H,hH,_⟩:=hs2.mem
   have h1:=hH.den x _ hat
   simp only [Blk.den,ObjP] at h1
   exact ⟨h1.1,rfl⟩
  ·simp only [World.putObj,Array.getElem?_setIfInBounds]
   by_cases e:j=l
   ·subst e;simp [hlt]
   ·simp [e,Ne.symm e]
 exact satA_after hs (fun i hi=>by cases hi) haft none
end Go.Proofs.Ytcloeignccpljaa.Z
namespace Go.Proofs.Ytcloeignccpljaa.Z
open Go Go.RowKit
def ir41:IR:=(.seq (.ops [⟨(some 2),(.mv (.k (.c (.v (.slice none 0 0))))),none⟩]) (.kill [1,2,3,4,5,6,7,8,9,10,11] (.seq (.seq (.ops [⟨(some 3),(.mv (.t 0)),none⟩,⟨(some 4),(.eqn 0 false (.t 3) (.k (.c (.v (.pointer none))))),none⟩]) (.kill [3] (.cond (.t 4) (.seq (.ops [⟨(some 2),(.mv (.k (.c (.v (.slice none 0 0))))),none⟩]) (.kill [0,4] .ret)) .skip))) (.kill [2,4] (.seq (.ops [⟨(some 5),(.mv (.t 0)),none⟩,⟨(some 6),(.nilck (.t 5)),none⟩,⟨(some 7),(.fa 0 (.t 6)),none⟩,⟨(some 8),(.ld false 1 (.t 7)),none⟩,⟨(some 9),(.call 52 [(.t 8)]),none⟩,⟨(some 2),(.mv (.t 9)),none⟩]) (.kill [0,5,6,7,8,9] .ret))))))
def rs41:List RS:=[(.t 2)]
def nt41:Nat:=10
def ir42:IR:=(.seq (.ops [⟨(some 2),(.box 106 (.t 0)),none⟩,⟨(some 3),(.box 3 (.t 1)),none⟩,⟨(some 4),(.mv (.k (.c (.v .nilFunc)))),none⟩]) (.kill [0,1,4,5,6,7,8,9,10,11] (.seq (.ops [⟨(some 5),(.mfn (.func 53) [] [(.t 2),(.t 3)]),none⟩,⟨(some 4),(.mv (.t 5)),none⟩]) (.kill [2,3,5] .ret))))
def rs42:List RS:=[(.t 4)]
def nt42:Nat:=6
def rnA:IR:=(.ops [⟨(some 2),(.new 41 [(.v (.slice none 0 0)),(.v (.slice none 0 0)),(.v (.slice none 0 0)),(.v (.slice none 0 0))]),none⟩])
def rnB:IR:=(.seq (.ops [⟨(some 6),(.mv (.t 0)),none⟩,⟨(some 7),(.eqn 0 false (.t 6) (.k (.c (.v (.pointer none))))),none⟩,⟨(some 8),(.mv (.t 7)),none⟩,⟨(some 9),(.mv (.t 0)),(some (8,false))⟩,⟨(some 10),(.nilck (.t 9)),(some (8,false))⟩,⟨(some 11),(.fa 8 (.t 10)),(some (8,false))⟩,⟨(some 12),(.ld false 1 (.t 11)),(some (8,false))⟩,⟨(some 13),(.len (.t 12)),(some (8,false))⟩,⟨(some 14),(.bin .eql (.t 13) (.k (.c (.v (.int .i64 0))))),(some (8,false))⟩,⟨(some 15),(.pick (.t 8) (.k (.c (.v (.bool true)))) (.t 14)),none⟩]) (.cond (.t 15) (.seq (.ops [⟨(some 16),(.build [(.v (.slice none 0 0)),(.v (.slice none 0 0)),(.v (.slice none 0 0)),(.v (.slice none 0 0))] []),none⟩,⟨none,(.st 4 (.t 2) (.t 16)),none⟩]) .ret) .skip))
def rnC:IR:=(.draw [(⟨(some 17),(.mv (.t 0)),none⟩,([],[22,23,24,25,26,28,29,30,31,32,3])),(⟨(some 18),(.nilck (.t 17)),none⟩,([],[22,23,24,25,26,28,29,30,31,32,3])),(⟨(some 19),(.fa 10 (.t 18)),none⟩,([],[22,23,24,25,26,28,29,30,31,32,3])),(⟨(some 20),(.ld false 1 (.t 19)),none⟩,([],[22,23,24,25,26,28,29,30,31,32,3])),(⟨(some 21),(.call 39 [(.t 20)]),none⟩,([],[22,23,24,25,26,28,29,30,31,32,3])),(⟨(some 22),(.mv (.t 0)),none⟩,([0,1,2,3,4],[17,18,19,20,21,28,29,30,31,32,3])),(⟨(some 23),(.nilck (.t 22)),none⟩,([0,1,2,3,4],[17,18,19,20,21,28,29,30,31,32,3])),(⟨(some 24),(.fa 0 (.t 23)),none⟩,([0,1,2,3,4],[17,18,19,20,21,28,29,30,31,32,3])),(⟨(some 25),(.fa 6 (.t 24)),none⟩,([0,1,2,3,4],[17,18,19,20,21,28,29,30,31,32,3])),(⟨(some 26),(.ld false 1 (.t 25)),none⟩,([0,1,2,3,4],[17,18,19,20,21,28,29,30,31,32,3])),(⟨(some 27),(.call 40 [(.t 26)]),none⟩,([],[28,29,30,31,32,3])),(⟨(some 28),(.mv (.t 0)),none⟩,([0,1,2,3,4,5,6,7,8,9,10],[17,18,19,20,21,22,23,24,25,26,27,3])),(⟨(some 29),(.nilck (.t 28)),none⟩,([0,1,2,3,4,5,6,7,8,9,10],[17,18,19,20,21,22,23,24,25,26,27,3])),(⟨(some 30),(.fa 0 (.t 29)),none⟩,([0,1,2,3,4,5,6,7,8,9,10],[17,18,19,20,21,22,23,24,25,26,27,3])),(⟨(some 31),(.fa 0 (.t 30)),none⟩,([0,1,2,3,4,5,6,7,8,9,10],[17,18,19,20,21,22,23,24,25,26,27,3])),(⟨(some 32),(.ld false 1 (.t 31)),none⟩,([0,1,2,3,4,5,6,7,8,9,10],[17,18,19,20,21,22,23,24,25,26,27,3])),(⟨(some 33),(.call 41 [(.t 32)]),none⟩,([],[3])),(⟨(some 34),(.build [(.v (.slice none 0 0)),(.v (.slice none 0 0)),(.v (.slice none 0 0)),(.v (.slice none 0 0))] [(0,(1,(.t 21))),(2,(1,(.t 27))),(3,(1,(.t 33)))]),none⟩,([],[3])),(⟨(some 3),(.new 41 [(.v (.slice none 0 0)),(.v (.slice none 0 0)),(.v (.slice none 0 0)),(.v (.slice none 0 0))]),none⟩,([0,1,2,3,4,5,6,7,8,9,10,11,12,13,14,15,16,17],[17,18,19,20,21,22,23,24,25,26,27,28,29,30,31,32,33,34])),(⟨none,(.st 4 (.t 3) (.t 34)),none⟩,([],[]))])
def rnD:IR:=(.ops [⟨(some 35),(.mv (.t 0)),none⟩,⟨(some 36),(.nilck (.t 35)),none⟩,⟨(some 37),(.fa 0 (.t 36)),none⟩,⟨(some 38),(.fa 0 (.t 37)),none⟩,⟨(some 39),(.ld false 1 (.t 38)),none⟩,⟨(some 40),(.call 42 [(.t 39),(.k (.c (.v (.int .i64 0))))]),none⟩])
def logA:IR:=(.seq (.ops [⟨(some 6),(.ld false 1 (.t 1)),none⟩,⟨(some 7),(.eqn 0 false (.t 6) (.k (.c (.v (.pointer none))))),none⟩]) (.cond (.t 7) .ret .skip))
def logB:IR:=(.ops [⟨(some 8),(.ld false 1 (.t 1)),none⟩,⟨(some 9),(.nilck (.t 8)),none⟩,⟨(some 10),(.fa 1 (.t 9)),none⟩,⟨(some 11),(.ld false 1 (.t 10)),none⟩,⟨(some 12),(.call 54 [(.t 11)]),none⟩,⟨(some 4),(.mv (.t 12)),none⟩])
def logC:IR:=(.ops [⟨(some 13),(.ld false 1 (.t 2)),none⟩,⟨(some 14),(.mm true (.t 13) (.k (.c (.v (.int .i64 0))))),none⟩,⟨(some 5),(.mv (.t 14)),none⟩])
def logD0:IR:=(.ops [⟨(some 15),(.mv (.t 5)),none⟩,⟨(some 16),(.mv (.t 4)),none⟩,⟨(some 17),(.len (.t 16)),none⟩,⟨(some 18),(.bin .lss (.t 15) (.t 17)),none⟩])
def logF:IR:=(.ops [⟨(some 19),(.mv (.t 5)),none⟩,⟨(some 20),(.bin .add (.t 19) (.k (.c (.v (.int .i64 1))))),none⟩,⟨(some 5),(.mv (.t 20)),none⟩])
def wdO (m:D.Pm):Own:=[(1,.one (.bk (bkY nz0 m) 140)),(2,.one (.ar m.W.length 1 (ats eU m.W 0) 44))]
def idU (b i:Nat):Nat:=if i=b then 11 else i
set_option maxRecDepth 100000 in
set_option maxHeartbeats 400000 in
theorem words_own (w:World) (E:Env) (m:D.Pm) (hl:m.W.length≤8192) (h:Handed w E 11 (wdO m) []) :
  Calls Try.prog 41 (([.c (.ptr (1,0,0) 0)]:List SV).map (SV.den E)).toArray w (EffU w E (· < 11) 11 (takesO E (wdO m)) (lsT 1 m.W.length) 1 fun b=>wdO m++[(b,.one (.ar m.W.length 1 (ats eU m.W 0) 44))]):=by
 refine enterO (c:=ir41) (rs:=rs41) (nt:=nt41) h _ Try.func41 rfl (by kernel_rfl) (by kernel_rfl) rfl (by simp [okVs,SV.okN,SC.okN]) (of_decide_eq_true rfl) ?_
 generalize hR:EffU w E (· < 11) 11 (takesO E (wdO m)) _ 1 _=R
 generalize hW:takesO E (wdO m)=W
 simp (maxSteps:=2000000) only [ir41,nt41,rs41,go_sem,↓condS,↓runOp,↓reduceIte,Nat.reduceLT,Nat.reduceEqDiff,reduceCtorEq,wdO,bkY,nz0,iI]
 refine callN 1 (lsT 1 m.W.length) (lsO 44 1 eU m.W 0) (fun E a w' hs=>(clone_U (own_at (d:=0) hs 2 _ rfl rfl) (by omega)).mono fun e w2 he=>retN_of (d:=0) eU_ok he) ?_
 simp (maxSteps:=2000000) only [go_sem,↓runOp,↓reduceIte,Nat.reduceLT,Nat.reduceAdd,Nat.reduceEqDiff,reduceCtorEq,lsT,lsO,mkO_rs]
 rw [← hR,← hW]
 refine retEffU (fun b=>idσ (idU b)) _ ?_ ?_ ?_ ?_ ?_ ?_
 ·exact fun i hi=>hi
 ·simp
 ·exact fun b hb=>⟨by simp [lsT,SV.ren,SC.ren,idσ,idU],by simp [lsT,SV.okN,SC.okN,NewIds]⟩
 ·intro b hb x hx
  unfold idσ idU
  rw [if_neg (by omega)]
 ·intro b hb
  have e1:∀ i,i<11→idU b i=i:=fun i hi=>if_neg (by omega)
  exact own_bk (Or.inl (by decide)) (by rw [e1 1 (by decide)];rfl) (by simp [bkY,nz0,SC.renL,SC.ren,idσ,iI,e1]) (by simp [bkY,nz0,SC.okL,SC.okN,iI]) (own_av (Or.inl (by decide)) (by rw [e1 2 (by decide)];rfl) (Nat.le_refl _) (fun _ _=>rfl) (own_av (Or.inr ⟨Nat.le_refl _,Nat.lt_succ_self _⟩) (by rw [show idU b b=11 from if_pos rfl];rfl) (Nat.le_refl _) (fun _ _=>rfl) trivial))
 ·intro b hb
  refine injN_idσ fun i hi j hj e=>?_
  simp only [wdO,keysL,List.cons_append,List.nil_append,List.mem_cons,List.not_mem_nil,or_false] at hi hj
  unfold idU at e
  split at e <;> split at e <;> omega
end Go.Proofs.Ytcloeignccpljaa.Z
namespace Go.Proofs.Ytcloeignccpljaa.Z
open Go Go.RowKit
def rs26:List RS:=[(.cell 2 true 4)]
theorem satA_handed {P:Program} {nt:Nat} {w:World} {E:Env} {n0:Nat} {own:Own} {arrs:List (Nat×Fm ArrF)} (rs:List RS) (R:Ending→World→Prop) (h:Handed w E n0 own arrs) (sc:List SV) (hsc:okVs (· < n0) sc) (hnt:sc.length≤nt) :
  SatA (mkO P w (takesO E own) rs R).B (mkO P w (takesO E own) rs R).W (mkO P w (takesO E own) rs R).w0 E ⟨nt,enumT 0 sc,own,arrs,[AgF n0 E],n0⟩ ⟨(sc.map (SV.den E)).toArray++Array.replicate (nt - (sc.map (SV.den E)).toArray.size) undef,[]⟩ w:=by
 refine ⟨h.1,fun E' hE' ho'=>?_⟩
 obtain ⟨H,h1,h2,h3,h4⟩:=h.2 E' hE' ho'
 have hvv:sc.map (SV.den E')=sc.map (SV.den E):=dens_same (p:=(· < n0)) (fun x hx=>hE' x hx) hsc
 refine ⟨by simp;omega,rfl,ho',fun t v ht=>?_,⟨rfl,rfl,rfl,Nat.le_refl _,fun _ _ _=>rfl⟩,H,⟨h1,h2,fun x b hb n o hn=>⟨(h3 x b hb n o hn).1,Or.inr (h3 x b hb n o hn).2⟩⟩,h4⟩
 obtain ⟨j,rfl,hj⟩:=look_enumT sc 0 t v ht
 have hjl:j<sc.length:=(List.getElem?_eq_some_iff.1 hj).1
 refine ⟨by simp only;omega,?_⟩
 simp only [← hvv,Nat.zero_add,Array.getD_eq_getD_getElem?]
 rw [Array.getElem?_append_left (by simpa using hjl)]
 simp [hj]
def acZ:List SC:=[.v (.int .i64 0),.v (.int .i64 0),.v (.int .i64 0),.v (.int .i64 0),.v (.int .u64 0),.v (.int .u64 0),.v (.int .u64 0)]
def rn5:List IO1:=[⟨some 5,.new 47 acZ,none⟩,⟨none,.st 7 (.t 5) (.t 42),none⟩]
def rn6:List IO1:=[⟨some 43,.fa 1 (.t 3),none⟩,⟨some 44,.ld false 1 (.t 43),none⟩,⟨some 45,.ld true 7 (.t 5),none⟩,⟨some 46,.mkSl 47 1 7 acZ [(0,(7,.t 45))],none⟩,⟨some 47,.app 47 7 56 acZ (.t 44) (.t 46),none⟩,⟨some 48,.fa 1 (.t 3),none⟩,⟨none,.st 1 (.t 48) (.t 47),none⟩]
def rn7:List IO1:=[⟨some 49,.ld true 4 (.t 3),none⟩,⟨none,.st 4 (.t 2) (.t 49),none⟩]
theorem run_code:∃ x0 x1 x3 x4 i5 o5 i6 o6 i7 o7,Try.f26.body=some (.seq x0 (.seq x1 (.seq x3 (.seq (.seq x4 (.block 0 (.rangeFunc (.tmp 40) #[41,42] (.region i5 o5 false) (.block 1 (.region i6 o6 false))))) (.seq (.region i7 o7 false) .ret))))) ∧
  compC (mkTab Try.prog []) x0=some rnA.strip∧compC (mkTab Try.prog []) x1=some rnB.strip∧compC (mkTab Try.prog []) x3=some rnC.strip∧compC (mkTab Try.prog []) x4=some rnD.strip ∧
  compC (mkTab Try.prog []) (.region i5 o5 false)=some (.ops rn5)∧compC (mkTab Try.prog []) (.region i6 o6 false)=some (.ops rn6)∧compC (mkTab Try.prog []) (.region i7 o7 false)=some (.ops rn7) :=
 ⟨_,_,_,_,_,_,_,_,_,_,rfl,by kernel_rfl,by kernel_rfl,by kernel_rfl,by kernel_rfl,by kernel_rfl,by kernel_rfl,by kernel_rfl⟩
def runO (m:D.Pm):Own:=[(0,.one (.bk (bkM nz0 nilP nilP m) 113)),(1,.one (.bk (bkY nz0 m) 140)),(2,.one (.ar m.W.length 1 (ats eU m.W 0) 44)),(3,.one (.ar m.L.length 7 (ats D.Ac.enc m.L D.ac0) 47)),(6,.one (.ar m.C.length 9 (ats D.Ca.enc m.C D.ca0) 77))]
def rnS (m:D.Pm) (E:Env):St:=⟨50,[(2,.c (.ptr (11,0,0) 0)),(3,.c (.ptr (15,0,0) 0)),(40,.c (.fn (.func 53) [] [.ptr (16,0,0) 0,.ptr (17,0,0) 0]))],runO m++[(11,.one (.bk [.v (.slice none 0 0),.v (.slice none 0 0),.v (.slice none 0 0),.v (.slice none 0 0)] 41)),(12,.one (.ar m.C.length 9 (ats D.Ca.enc m.C D.ca0) 77)),(13,.one (.ar 0 5 (ats D.Sh.enc [] D.sh0) 85)),(14,.one (.ar m.W.length 1 (ats eU m.W 0) 44)),(15,.one (.bk [.sl (12,0,0) 9 0 m.C.length none,.v (.slice none 0 0),.sl (13,0,0) 5 0 0 none,.sl (14,0,0) 1 0 m.W.length none] 41)),(16,.one (.bk [.ptr (1,0,0) 0] 106)),(17,.one (.bk [iI 0] 3))],[],[AgF 11 E],18⟩
set_option maxRecDepth 100000 in
set_option maxHeartbeats 1000000 in
theorem run_exec (w:World) (E:Env) (m:D.Pm) (W:Nat→Prop) (hS:m.S.length≠0) (hl:m.W.length≤8192) (hC:m.C.length≤65536) :
  exec (mkO Try.prog w W rs26 fun _ _=>False) 1000 [.code rnA,.code rnB,.code rnC,.code rnD,fin1 (rnS m E)] ⟨50,enumT 0 [.c (.ptr (0,0,0) 0)],runO m,[],[AgF 11 E],11⟩:=by
 have hl0:(((m.S.length:Nat):Int) == 0)=false:=beq_eq_false_iff_ne.2 (by omega)
 simp (maxSteps:=2000000) only [rnA,rnB,go_sem,↓condS,↓gateS,↓runOp,↓imp_ft,↓imp_ff,↓reduceIte,Nat.reduceLT,Nat.reduceAdd,Nat.reduceEqDiff,reduceCtorEq,runO,bkM,bkY,nz0,nilP,iI,hl0]
 simp (maxSteps:=2000000) only [rnC,go_sem]
 refine draw_vc (by kernel_rfl) (mkTab_ok _ _) (of_decide_eq_true rfl) (of_decide_eq_true rfl) ?_
 repeat (first | simp (maxSteps:=2000000) only [go_sem,↓gateD,↓runD,↓reduceIte,Nat.reduceLT,Nat.reduceEqDiff,reduceCtorEq] | rw [dr_cons])
 refine dcallN 1 (lsT 9 m.C.length) (lsO 77 9 D.Ca.enc m.C D.ca0) (fun E a w' hs=>(clone_C (own_at (d:=D.ca0) hs 6 _ rfl rfl) (by omega)).mono fun e w2 he=>retN_of (d:=D.ca0) D.Ca.ok he) ?_ ?_
 ·simp [newOk,keysL,lsO]
 repeat (first | simp (maxSteps:=2000000) only [go_sem,↓gateD,↓runD,↓reduceIte,Nat.reduceLT,Nat.reduceAdd,Nat.reduceEqDiff,reduceCtorEq,lsT,lsO] | rw [dr_cons])
 refine dcallN 1 (lsT 5 0) (lsO 85 5 D.Sh.enc [] D.sh0) (fun E a w' hs=>(clone_S (arr_empty _ _ _ _) (by simp)).mono fun e w2 he=>retN_of (d:=D.sh0) D.Sh.ok he) ?_ ?_
 ·simp [newOk,keysL,lsO]
 repeat (first | simp (maxSteps:=2000000) only [go_sem,↓gateD,↓runD,↓reduceIte,Nat.reduceLT,Nat.reduceAdd,Nat.reduceEqDiff,reduceCtorEq,lsT,lsO] | rw [dr_cons])
 refine dcall_intro (cr_ownU (T:=lsT 1 m.W.length) (nx:=1) (eff:=fun b=>wdO m++[(b,Fm.one (Blk.ar m.W.length 1 (ats eU m.W 0) 44))]) 11 (wdO m) [] (show 11≤14 by decide) (plain_of ⟨trivial,trivial,trivial⟩) ?_ trivial ?_ (fun E a w' hs hh=>words_own w' E m hl hh)) rfl trivial ?_ ?_ ?_
 ·show OwnLe (· < 11) (idσ id) _ (wdO m)
  exact own_bk (by decide) rfl (by simp [bkY,nz0,SC.renL,SC.ren,idσ,iI]) (by simp [bkY,nz0,SC.okL,SC.okN,iI]) (own_av (by decide) rfl (Nat.le_refl _) (fun _ _=>rfl) trivial)
 ·intro x b hx
  obtain ⟨F,hF,_⟩:=atN_some hx
  have hk:=look_keysL hF
  simp only [wdO,keysL,List.mem_cons,List.not_mem_nil,or_false] at hk
  rcases hk with e | e <;> rw [e] <;> rfl
 ·exact ⟨Or.inr ⟨show 1<14 by decide,rfl,trivial⟩,Or.inr ⟨show 2<14 by decide,rfl,trivial⟩,Or.inl ⟨Nat.le_refl _,Nat.lt_succ_self _⟩,trivial⟩
 ·intro k hk hlt
  simp only [wdO,keysL,List.cons_append,List.nil_append,List.mem_cons,List.not_mem_nil,or_false] at hk
  rcases hk with e | e | e <;> rw [e] at hlt ⊢
  ·rfl
  ·rfl
  ·exact absurd hlt (Nat.lt_irrefl _)
 repeat (first | simp (maxSteps:=2000000) only [go_sem,↓gateD,↓runD,↓reduceIte,Nat.reduceLT,Nat.reduceLeDiff,Nat.reduceAdd,Nat.reduceEqDiff,reduceCtorEq,lsT,wdO,bkY,nz0,iI,List.cons_append,List.nil_append] | rw [dr_cons])
 simp (maxSteps:=2000000) only [rnD,go_sem,↓runOp,↓reduceIte,Nat.reduceLT,Nat.reduceEqDiff,reduceCtorEq]
 refine And.intro (Or.inl trivial) (And.intro (Or.inr trivial) ?_)
 refine call_inline (c:=ir42) (rs:=rs42) (nt:=nt42) 1000 (mkTab_ok _ _) Try.func42 rfl (by kernel_rfl) (by kernel_rfl) rfl (by simp [okVs,SV.okN,SC.okN]) (of_decide_eq_true rfl) (fun E0 a0 ht0=>?_)
 simp (maxSteps:=2000000) only [ir42,nt42,rs42,go_sem,↓runOp,↓reduceIte,Nat.reduceLT,Nat.reduceAdd,Nat.reduceEqDiff,reduceCtorEq]
 refine retI ht0 _ rfl (of_decide_eq_true rfl) (by simp [SV.okN,SC.okL,SC.okN]) ?_
 simp (maxSteps:=2000000) only [go_sem,↓reduceIte,Nat.reduceLT,Nat.reduceEqDiff,reduceCtorEq]
 exact fin1_vc (le_tmps (by simp [TmpsSub,look]))
end Go.Proofs.Ytcloeignccpljaa.Z
namespace Go.Proofs.Ytcloeignccpljaa.Z
open Go Go.RowKit
def seqX:List IO1→(St→Prop)→St→Prop
 | [],K,S=>K S
 | o :: r,K,S=>match stepOut o.op S with
  | .ok vc out=>vc∧seqX r K (S.app o.dst out)
  | _=>False
theorem comp_at {T:TT} {all:Array Oper}:∀ {rest:List Oper} {l:List IO1},compList T all rest=some l→rest.length=l.length∧∀ (j:Nat) (io:IO1),l[j]? = some io→io.guard=none→∃ o:Oper,rest[j]? = some o∧o.guard=none∧compOp T o.op=some io.op∧o.dst=io.dst
 | [],l,h=>by
  simp only [compList,Option.some.injEq] at h
  subst h
  exact ⟨rfl,fun j io h=>by simp at h⟩
 | o :: r,l,h=>by
  simp only [compList,Option.bind_eq_some_iff,Option.map_eq_some_iff] at h
  obtain ⟨i,hi,l',hl',rfl⟩:=h
  obtain ⟨h1,h2⟩:=comp_at hl'
  refine ⟨by simp [h1],fun j io hj hg=>?_⟩
  cases j with
  | zero =>
   simp only [List.getElem?_cons_zero,Option.some.injEq] at hj
   subst hj
   simp only [compIO,Option.bind_eq_some_iff] at hi
   obtain ⟨op,hop,hi⟩:=hi
   refine ⟨o,rfl,?_⟩
   cases hog:o.guard with
   | none =>
    rw [hog] at hi
    simp only [Option.some.injEq] at hi
    subst hi
    exact ⟨rfl,hop,rfl⟩
   | some jw =>
    rw [hog] at hi
    simp only [Option.map_eq_some_iff] at hi
    obtain ⟨g,_,rfl⟩:=hi
    cases hg
  | succ j=>exact h2 j io (by simpa using hj) hg
theorem reg_at {t:Tab} {i:Nat} {ops:Array Oper} {l:List IO1} (h:compC t (.region i ops false)=some (.ops l)):ops.size=l.length∧∀ (j:Nat) (io:IO1),l[j]? = some io→io.guard=none→∃ o:Oper,ops[j]? = some o∧o.guard=none∧compOp t.T o.op=some io.op∧o.dst=io.dst:=by
 simp only [compC,Option.bind_eq_some_iff] at h
 obtain ⟨l',hl,h⟩:=h
 split at h
 ·simp only [Option.some.injEq,IR.ops.injEq] at h
  subst h
  obtain ⟨h1,h2⟩:=comp_at hl
  exact ⟨by simpa using h1,fun j io hj hg=>by obtain ⟨o,h⟩:=h2 j io hj hg;exact ⟨o,by simpa using h⟩⟩
 ·cases h
theorem seqX_ok {C:Ctx} {F:Fence} {n:Nat} {ops:Array Oper} {Q:Exit→Act→World→Prop} (hF:∀ f,F.fn f) (hT:TOk C.P C.tab.T) (js:List Nat) (K:St→Prop):∀ (l:List IO1) (i:Nat) (S:St) (E:Env) (a:Act) (w:World),
  (∀ (j:Nat) (io:IO1),l[j]? = some io→∃ o:Oper,ops[i+j]? = some o∧o.guard=none∧compOp C.tab.T o.op=some io.op∧o.dst=io.dst)→SatA C.B C.W C.w0 E S ⟨a.tmps,[]⟩ w→seqX l K S →
  (∀ E' S' a' w',a'.defers=a.defers→SatA C.B C.W C.w0 E' S' ⟨a'.tmps,[]⟩ w'→K S'→wpOpsIn F n C.P ops Q js a' w')→wpOpsIn F n C.P ops Q (List.range' i l.length++js) a w
 | [],i,S,E,a,w,hl,hs,h,hk=>hk E S a w rfl hs h
 | io :: r,i,S,E,a,w,hl,hs,h,hk=>by
  obtain ⟨o,ho,hg,hop,hd⟩:=hl 0 io rfl
  simp only [seqX] at h
  split at h
  ·next vc out hst =>
   refine ops_cons (by simpa using ho) hg (op_in hF hT hop hst h.1 hs fun E' a' w' hd' hs'=>?_)
   refine seqX_ok hF hT js K r (i+1) _ E' a' w' (fun j io' hj=>?_) hs' (by rw [hd];exact h.2) fun E2 S2 a2 w2 h1 h2 h3=>hk E2 S2 a2 w2 (h1.trans hd') h2 h3
   obtain ⟨o',ho'⟩:=hl (j+1) io' (by simpa using hj)
   exact ⟨o',by rw [show i+1+j=i+(j+1) by omega];exact ho'⟩
  ·exact h.elim
theorem region_ok {C:Ctx} {F:Fence} {n id:Nat} {ops:Array Oper} {l:List IO1} {Q:Exit→Act→World→Prop} {S:St} {E:Env} {a:Act} {w:World} (hF:∀ f,F.fn f) (hT:TOk C.P C.tab.T) (hc:compC C.tab (.region id ops false)=some (.ops l)) (hg:l.all (fun io=>io.guard.isNone)=true) (K:St→Prop)
  (hs:SatA C.B C.W C.w0 E S ⟨a.tmps,[]⟩ w) (h:seqX l K S) (hk:∀ E' S' a' w',a'.defers=a.defers→SatA C.B C.W C.w0 E' S' ⟨a'.tmps,[]⟩ w'→K S'→Q .normal a' w'):(Code.region id ops false).wpIn F n C.P Q a w:=by
 obtain ⟨h1,h2⟩:=reg_at hc
 refine wpIn_region ?_
 have:=seqX_ok (C:=C) (F:=F) (n:=n) (ops:=ops) (Q:=Q) hF hT [] K l 0 S E a w (fun j io hj=>by
  obtain ⟨o,ho⟩:=h2 j io hj (by
   have:=List.all_eq_true.1 hg io (List.mem_of_getElem? hj)
   simpa using this)
  exact ⟨o,by simpa using ho⟩) hs h fun E' S' a' w' h1 h2 h3=>hk E' S' a' w' h1 h2 h3
 rw [List.append_nil] at this
 rw [List.range_eq_range',h1]
 exact this
structure TmpAt (n:Nat) (E0:Env) (b:Act) (nt:Nat) (tmps:List (Nat×SV)):Prop where
 size:b.tmps.size=nt
 defers:b.defers=[]
 at_:∀ t v,look tmps t=some v→t<nt∧b.tmps.getD t undef=v.den E0∧v.okN (· < n)
theorem facts_of {C:Ctx} {E:Env} {S:St} {a:Act} {w:World} (hs:Sat C.B C.W C.w0 E S a w) {n:Nat} {E0:Env} (hf:AgF n E0∈S.facts):AgreeD (· < n) E0 E:=(holds_of hs).2 _ hf
theorem satA_act {C:Ctx} {E:Env} {S:St} {a:Act} {w:World} (hs:SatA C.B C.W C.w0 E S a w) {n nt:Nat} {E0:Env} {b:Act} {tmps:List (Nat×SV)} (hf:AgF n E0∈S.facts) (hb:TmpAt n E0 b nt tmps):SatA C.B C.W C.w0 E ⟨nt,tmps,S.own,S.arrs,S.facts,S.nid⟩ b w:=by
 refine ⟨hs.1,fun E' hE' ho'=>?_⟩
 have h:=hs.2 E' hE' ho'
 refine ⟨hb.size,hb.defers,ho',fun t v ht=>?_,h.frame,h.mem⟩
 obtain ⟨h1,h2,h3⟩:=hb.at_ t v ht
 have:=dens_same (E:=E0) (E2:=E') (p:=(· < n)) (l:=[v]) (fun x hx=>facts_of h hf x hx) ⟨h3,trivial⟩
 simp only [List.map_cons,List.map_nil,List.cons.injEq,and_true] at this
 exact ⟨h1,by rw [h2,this]⟩
theorem satA_fact {C:Ctx} {E:Env} {S:St} {a:Act} {w:World} (n:Nat) (hn:n≤S.nid) (hs:SatA C.B C.W C.w0 E S a w):SatA C.B C.W C.w0 E ⟨S.nt,S.tmps,S.own,S.arrs,AgF n E :: S.facts,S.nid⟩ a w:=by
 refine ⟨hs.1,fun E' hE' ho'=>?_⟩
 have h:=hs.2 E' hE' ho'
 obtain ⟨H,hH,hF⟩:=h.mem
 refine ⟨h.size,h.defers,ho',h.tmps,h.frame,H,hH,fun w' hw'=>⟨(hF w' hw').1,fun φ hφ=>?_⟩⟩
 rcases List.mem_cons.1 hφ with rfl | hφ
 ·exact fun x hx=>hE' x (Nat.lt_of_lt_of_le hx hn)
 ·exact (hF w' hw').2 φ hφ
theorem run_yielded {C:Ctx} {S:St} {E:Env} {a:Act} {w:World} {o:Oper} {x:IX} {xs:List IX} {vs:List SV} {l:Nat} {r:Loop} (hs:Sat C.B C.W C.w0 E S a w) (hc:compOp C.tab.T o.op=some (.callv x xs)) (hx:S.ev x=some (.c (.v (.func (.yield l) #[] #[])))) (hv:evs S xs=some vs) (hr:w.heap[l]? = some (.loop r)) (hsz:vs.length=r.params.size) :
  (execOp a.eval o).run C.P w = .ok (.round l r.fn ((r.params.zip (vs.map (SV.den E)).toArray).foldl (fun tmps (t,a)=>tmps.setIfInBounds t a) r.tmps) r.assign r.body) w:=by
 obtain ⟨c,hop,⟨_,_,h,_⟩ | h | ⟨_,_,_,_,h,_⟩⟩:=compOp_isCall hc rfl
 ·cases h
 ·obtain ⟨t,xs',h,hcl,his⟩:=h
  cases h
  have hargs:=opds_den hs c.args.toList xs vs his hv
  have hargs' : c.args.map a.eval=(vs.map (SV.den E)).toArray:=by
   apply Array.ext'
   simpa using hargs
  have ht:a.eval (.tmp t) = .func (.yield l) #[] #[]:=by
   rw [opd_den (i:=.t t) hs rfl hx,den_c];simp [SC.den]
  unfold execOp
  rw [hop]
  simp only [resolve,hcl,ht,hargs',Sem.run_bind,Deferred.ofValue,Sem.run_pure,Result.andThen_ok,invoke]
  simpa using run_yield (P:=C.P) (args:=(vs.map (SV.den E)).toArray) hr (by simpa using hsz)
 ·cases h
end Go.Proofs.Ytcloeignccpljaa.Z
namespace Go.Proofs.Ytcloeignccpljaa.Z
open Go Go.RowKit
def rs53:List RS:=[]
def lg5a:List IO1:=[⟨some 21,.mv (.t 0),none⟩,⟨some 22,.mv (.t 5),none⟩,⟨some 23,.mv (.t 4),none⟩,⟨some 24,.mv (.t 5),none⟩,⟨some 25,.ia 7 (.t 23) (.t 24),none⟩,⟨some 26,.ld true 7 (.t 25),none⟩]
def lg5y:IO1:=⟨some 27,.callv (.t 21) [.t 22,.t 26],none⟩
def lg5z:IO1:=⟨some 28,.un .not (.t 27),none⟩
theorem log_code:∃ x0 x1 x2 x3 i5 o5 x4,Try.f53.body=some (.seq x0 (.seq x1 (.seq x2 (.block 0 (.loop (.seq (.seq x3 (.cond (.tmp 18) .skip (.exit 0))) (.seq (.block 1 (.seq (.region i5 o5 false) (.cond (.tmp 28) .ret .skip))) x4))))))) ∧
  compC (mkTab Try.prog []) x0=some logA.strip∧compC (mkTab Try.prog []) x1=some logB.strip∧compC (mkTab Try.prog []) x2=some logC.strip∧compC (mkTab Try.prog []) x3=some logD0.strip ∧
  compC (mkTab Try.prog []) (.region i5 o5 false)=some (.ops (lg5a++[lg5y,lg5z]))∧compC (mkTab Try.prog []) x4=some logF.strip :=
 ⟨_,_,_,_,_,_,_,rfl,by kernel_rfl,by kernel_rfl,by kernel_rfl,by kernel_rfl,by kernel_rfl,by kernel_rfl⟩
def nilS:SC:=.v (.slice none 0 0)
theorem own_obj {p:Nat→Prop} {τ:Nat→Nat} {own r:Own} {i j l:Nat} {o:Obj} (hp:p i) (h:look own (τ i)=some (.one (.pr (ObjP (j,0,0) l o)))) (hj:τ i=j) (hr' : OwnLe p (idσ τ) own r):OwnLe p (idσ τ) own ((i,.one (.pr (ObjP (i,0,0) l o))) :: r):=by
 refine ⟨⟨hp,?_⟩,hr'⟩
 simp only [idσ,atN,h,Fm.get,and_self,if_true]
 intro E E2 hR h hm
 refine ⟨?_,hm.2⟩
 have:=(hR (i,0,0) hp).1
 rw [this,show idσ τ (i,0,0)=(j,0,0) from by unfold idσ;rw [hj]]
 exact hm.1
def lgO (m:D.Pm) (l dd:Nat) (rc:Loop) (k:Nat):Own:=[(11,.one (.bk [nilS,nilS,nilS,nilS] 41)),(12,.one (.ar m.C.length 9 (ats D.Ca.enc m.C D.ca0) 77)),(13,.one (.ar 0 5 (ats D.Sh.enc [] D.sh0) 85)),(14,.one (.ar m.W.length 1 (ats eU m.W 0) 44)),(15,.one (.bk [.sl (12,0,0) 9 0 m.C.length none,.sl (21,0,0) 7 0 k none,.sl (13,0,0) 5 0 0 none,.sl (14,0,0) 1 0 m.W.length none] 41)),
 (18,.one (.pr (ObjP (18,0,0) dd (.deferred (some []))))),(19,.one (.pr (ObjP (19,0,0) l (.loop rc)))),(20,.one (.ar m.L.length 7 (ats D.Ac.enc m.L D.ac0) 47)),(21,.one (.ar k 7 (ats D.Ac.enc m.L D.ac0) 47))]
def yvS (l:Nat):SV:=.c (.v (.func (.yield l) #[] #[]))
def lgT (m:D.Pm) (l k:Nat):List (Nat×SV):=[(0,yvS l),(4,.c (.sl (20,0,0) 7 0 m.L.length none)),(5,.c (iI k))]
def LS (m:D.Pm) (E E3:Env) (l dd:Nat) (rc:Loop) (k:Nat):St:=⟨29,lgT m l k,lgO m l dd rc k,[],[AgF 20 E3,AgF 11 E],22⟩
def LA (m:D.Pm) (E E3:Env) (l dd:Nat) (rc:Loop) (k:Nat):St:=⟨29,lgT m l k++[(28,.c (.v (.bool false)))],lgO m l dd rc (k+1),[],[AgF 20 E3,AgF 11 E],22⟩
theorem app_ac {L:List D.Ac} {k:Nat} (e:Nat) (he:e<k+1):appAt k (ats D.Ac.enc L D.ac0) (fun e=>take' 7 (drop' (e * 7) ((D.Ac.enc (L.getD k D.ac0)).map SC.v))) e=ats D.Ac.enc L D.ac0 e:=by
 unfold appAt
 by_cases h:e<k
 ·rw [if_pos h]
 ·rw [if_neg h]
  have h0:e - k=0:=by omega
  have h1:e=k:=by omega
  rw [h0,h1]
  rfl
def acS (x:D.Ac):List SC:=[.v (.int .i64 x.mv),.v (.int .i64 x.th),.v (.int .i64 x.kd),.v (.int .i64 x.ad),.v (.int .u64 x.old),.v (.int .u64 x.new),.v (.int .u64 x.saw)]
theorem ats_ac (L:List D.Ac) (k:Nat):ats D.Ac.enc L D.ac0 k=acS (L.getD k D.ac0):=rfl
def LY (m:D.Pm) (E E3:Env) (l dd:Nat) (rc:Loop) (k:Nat):St:=⟨29,lgT m l k++[(21,yvS l),(22,.c (iI k)),(23,.c (.sl (20,0,0) 7 0 m.L.length none)),(24,.c (iI k)),(25,.c (.pe (20,0,0) 7 k 0)),(26,.agg (acS (m.L.getD k D.ac0)))],lgO m l dd rc k,[],[AgF 20 E3,AgF 11 E],22⟩
theorem ly_run (m:D.Pm) (E E3:Env) (l dd:Nat) (rc:Loop) (k:Nat) (hk:k<m.L.length):seqX lg5a (fun S=>S=LY m E E3 l dd rc k) (LS m E E3 l dd rc k):=by
 simp (maxSteps:=2000000) only [seqX,lg5a,LS,LY,lgT,yvS,lgO,iI,go_sem,↓reduceIte,Nat.reduceLT,Nat.reduceLeDiff,Nat.reduceEqDiff,reduceCtorEq,List.cons_append,List.nil_append,ats_ac,acS]
 exact ⟨⟨hk,Nat.le_refl _⟩,hk⟩
def RT (m:D.Pm) (k:Nat):List (Nat×SV):=[(2,.c (.ptr (11,0,0) 0)),(3,.c (.ptr (15,0,0) 0)),(41,.c (iI k)),(42,.agg (acS (m.L.getD k D.ac0)))]
def RS0 (m:D.Pm) (E E3 E6:Env) (l dd:Nat) (rc:Loop) (k:Nat):St:=⟨50,RT m k,lgO m l dd rc k,[],[AgF 21 E6,AgF 20 E3,AgF 11 E],22⟩
def RS5 (m:D.Pm) (E E3 E6:Env) (l dd:Nat) (rc:Loop) (k:Nat):St:=⟨50,RT m k++[(5,.c (.ptr (22,0,0) 0))],lgO m l dd rc k++[(22,.one (.bk (acS (m.L.getD k D.ac0)) 47))],[],[AgF 21 E6,AgF 20 E3,AgF 11 E],23⟩
theorem rs5_run (m:D.Pm) (E E3 E6:Env) (l dd:Nat) (rc:Loop) (k:Nat):seqX rn5 (fun S=>S=RS5 m E E3 E6 l dd rc k) (RS0 m E E3 E6 l dd rc k):=by
 simp (maxSteps:=2000000) only [seqX,rn5,RS0,RS5,RT,acZ,lgO,iI,go_sem,↓reduceIte,Nat.reduceLT,Nat.reduceLeDiff,Nat.reduceAdd,Nat.reduceEqDiff,List.cons_append,List.nil_append,acS]
def RS6 (m:D.Pm) (E E3 E6:Env) (l dd:Nat) (rc:Loop) (k:Nat):St:=⟨50,[],lgO m l dd rc (k+1),[],[AgF 21 E6,AgF 20 E3,AgF 11 E],22⟩
theorem rs6_run {C:Ctx} (m:D.Pm) (E E3 E6:Env) (l dd:Nat) (rc:Loop) (k:Nat) (hk:k<m.L.length) (hL:m.L.length≤65536):seqX rn6 (fun S=>Le C S (RS6 m E E3 E6 l dd rc k)) (RS5 m E E3 E6 l dd rc k):=by
 simp (maxSteps:=2000000) only [seqX,rn6,RS5,RS6,RT,acZ,lgO,iI,go_sem,↓reduceIte,Nat.reduceLT,Nat.reduceLeDiff,Nat.reduceAdd,Nat.reduceMul,Nat.reduceEqDiff,List.cons_append,List.nil_append,acS]
 refine ⟨by decide,⟨Nat.le_refl _,by omega,by simp only [maxLen];omega⟩,?_⟩
 exact le_renF (fun i=>if i=21 then 24 else i) rfl ⟨factA (by simp) (show 21≤22 by decide) (fun i hi=>if_neg (by omega)),factA (by simp) (show 20≤22 by decide) (fun i hi=>if_neg (by omega)),factA (by simp) (show 11≤22 by decide) (fun i hi=>if_neg (by omega)),trivial⟩ (by simp [TmpsLe]) (own_bk (show 11<22 by decide) rfl (by simp [nilS,SC.renL,SC.ren]) (by simp [nilS,SC.okL,SC.okN]) (own_av (show 12<22 by decide) rfl (Nat.le_refl _) (fun _ _=>rfl) (own_av (show 13<22 by decide) rfl (Nat.le_refl _) (fun _ _=>rfl) (own_av (show 14<22 by decide) rfl (Nat.le_refl _) (fun _ _=>rfl) (own_bk (show 15<22 by decide) rfl (by simp [SC.renL,SC.ren,idσ]) (by simp [SC.okL,SC.okN]) (own_obj (show 18<22 by decide) rfl rfl (own_obj (show 19<22 by decide) rfl rfl (own_av (show 20<22 by decide) rfl (Nat.le_refl _) (fun _ _=>rfl) (own_av (show 21<22 by decide) rfl (Nat.le_refl _) (fun e he=>app_ac e he) trivial))))))))) trivial rfl
theorem ts_two {b:Array Value} {v1 v2:Value}:(Array.zip #[41,42] #[v1,v2]).foldl (fun tmps (t,a)=>tmps.setIfInBounds t a) b=(b.setIfInBounds 41 v1).setIfInBounds 42 v2:=by simp
theorem round_tmps {m:D.Pm} {E3 E6:Env} {b0:Act} {k:Nat} (hb:TmpAt 20 E3 b0 50 [(2,.c (.ptr (11,0,0) 0)),(3,.c (.ptr (15,0,0) 0))]) (hE:AgreeD (· < 20) E3 E6) :
  TmpAt 21 E6 ⟨(b0.tmps.setIfInBounds 41 ((SV.c (iI k)).den E6)).setIfInBounds 42 ((SV.agg (acS (m.L.getD k D.ac0))).den E6),[]⟩ 50 (RT m k):=by
 have h50:=hb.size
 refine ⟨by simp [h50],rfl,fun t v ht=>?_⟩
 have get:∀ j:Nat,((b0.tmps.setIfInBounds 41 ((SV.c (iI k)).den E6)).setIfInBounds 42 ((SV.agg (acS (m.L.getD k D.ac0))).den E6)).getD j undef=if j=42 then (SV.agg (acS (m.L.getD k D.ac0))).den E6 else if j=41 then (SV.c (iI k)).den E6 else b0.tmps.getD j undef:=fun j=>by
  simp only [Array.getD_eq_getD_getElem?,Array.getElem?_setIfInBounds,Array.size_setIfInBounds,h50]
  by_cases e:j=42
  ·subst e;simp
  ·by_cases e1:j=41
   ·subst e1;simp
   ·simp [e,e1,Ne.symm e,Ne.symm e1]
 simp only [RT,look] at ht
 have old:∀ (j:Nat) (c:SC),(j=2∧c = .ptr (11,0,0) 0)∨(j=3∧c = .ptr (15,0,0) 0)→b0.tmps.getD j undef=(SV.c c).den E6:=fun j c hj=>by
  have h1:look [(2,SV.c (.ptr (11,0,0) 0)),(3,.c (.ptr (15,0,0) 0))] j=some (.c c):=by rcases hj with ⟨rfl,rfl⟩ | ⟨rfl,rfl⟩ <;> rfl
  obtain ⟨_,g2,g3⟩:=hb.at_ j _ h1
  have:=dens_same (E:=E3) (E2:=E6) (p:=(· < 20)) (l:=[SV.c c]) (fun x hx=>hE x hx) ⟨g3,trivial⟩
  simp only [List.map_cons,List.map_nil,List.cons.injEq,and_true] at this
  rw [g2,this]
 split at ht
 ·next e =>
  subst e;cases ht
  exact ⟨by decide,by rw [get];simp only [Nat.reduceEqDiff,if_false];exact old 2 _ (Or.inl ⟨rfl,rfl⟩),by simp [SV.okN,SC.okN]⟩
 split at ht
 ·next e =>
  subst e;cases ht
  exact ⟨by decide,by rw [get];simp only [Nat.reduceEqDiff,if_false];exact old 3 _ (Or.inr ⟨rfl,rfl⟩),by simp [SV.okN,SC.okN]⟩
 split at ht
 ·next e =>
  subst e;cases ht
  exact ⟨by decide,by rw [get];simp only [Nat.reduceEqDiff,if_false,if_true],by simp [SV.okN,SC.okN,iI]⟩
 split at ht
 ·next e =>
  subst e;cases ht
  exact ⟨by decide,by rw [get];simp only [if_true],by simp [SV.okN,SC.okL,SC.okN,acS]⟩
 ·cases ht
end Go.Proofs.Ytcloeignccpljaa.Z
namespace Go.Proofs.Ytcloeignccpljaa.Z
open Go Go.RowKit
theorem tmpAt_put {n:Nat} {E0:Env} {a:Act} {nt:Nat} {tmps:List (Nat×SV)} (h:TmpAt n E0 a nt tmps) {d:Nat} {v:Value} {sv:SV} (hd:d<nt) (hv:v=sv.den E0) (hok:sv.okN (· < n)):TmpAt n E0 (a.put (some d) v) nt ((d,sv) :: tmps):=by
 have hsz:=h.size
 refine ⟨by simp [Act.put,hsz],h.defers,fun t u ht=>?_⟩
 simp only [Act.put,Array.getD_eq_getD_getElem?,Array.getElem?_setIfInBounds,hsz]
 rw [look_cons] at ht
 split at ht
 ·next e =>
  subst e
  cases ht
  exact ⟨hd,by simp [hd,hv],hok⟩
 ·next e =>
  obtain ⟨h1,h2,h3⟩:=h.at_ t u ht
  refine ⟨h1,?_,h3⟩
  rw [if_neg e,← h2,Array.getD_eq_getD_getElem?]
theorem le_sub {C:Ctx} {S S' : St} (h:Sub S' S) (hn:S'.nid=S.nid):Le C S S':=fun E a w hs=>⟨E,hs.1,fun E' hE' ho'=>sat_sub h (hs.2 E' (by rw [hn] at hE';exact hE') ho')⟩
theorem act_eta {a:Act} (h:a.defers=[]):(⟨a.tmps,[]⟩:Act)=a:=by
 cases a with
 | mk t d=>simp only at h;rw [h]
def rcOf (fn:Nat) (b0:Act) (i5:Nat) (o5:Array Oper) (i6:Nat) (o6:Array Oper) (dd:Nat) (st:LoopState):Loop:={ state:=st,pending:=none,fn:=fn,tmps:=b0.tmps,params:=#[41,42],assign:=.region i5 o5 false,body:=.block 1 (.region i6 o6 false),defers:=dd }
theorem guardless {l:List IO1} (h:l.all (fun io=>io.guard.isNone)=true) {j:Nat} {io:IO1} (hj:l[j]? = some io):io.guard=none:=by
 have:=List.all_eq_true.1 h io (List.mem_of_getElem? hj)
 simpa using this
set_option maxHeartbeats 1000000 in
theorem log_round (w:World) (E E3:Env) (m:D.Pm) (W:Nat→Prop) (rs:List RS) (R:Ending→World→Prop) {fn:Nat} {b0:Act} {i5:Nat} {o5:Array Oper} {i6:Nat} {o6:Array Oper} {ig:Nat} {og:Array Oper} (l dd k:Nat) (hk:k<m.L.length) (hL:m.L.length≤65536)
  (h5:compC (mkTab Try.prog []) (.region i5 o5 false)=some (.ops rn5)) (h6:compC (mkTab Try.prog []) (.region i6 o6 false)=some (.ops rn6)) (hg:compC (mkTab Try.prog []) (.region ig og false)=some (.ops (lg5a++[lg5y,lg5z])))
  (hb:TmpAt 20 E3 b0 50 [(2,.c (.ptr (11,0,0) 0)),(3,.c (.ptr (15,0,0) 0))]) {E1:Env} {a1:Act} {w1:World} {Q:Exit→Act→World→Prop}
  (hs:SatA (mkO Try.prog w W rs R).B (mkO Try.prog w W rs R).W (mkO Try.prog w W rs R).w0 E1 (LS m E E3 l dd (rcOf fn b0 i5 o5 i6 o6 dd .ready) k) a1 w1)
  (hQ:∀ E' a' w',SatA (mkO Try.prog w W rs R).B (mkO Try.prog w W rs R).W (mkO Try.prog w W rs R).w0 E' (LA m E E3 l dd (rcOf fn b0 i5 o5 i6 o6 dd .ready) k) a' w'→Q .normal a' w') :
  (Code.region ig og false).wpIn Fence.wide 5 Try.prog Q a1 w1:=by
 have hF:∀ f,Fence.wide.fn f:=fun f=>trivial
 have hT:TOk (mkO Try.prog w W rs R).P (mkO Try.prog w W rs R).tab.T:=(mkTab_ok _ _).1
 obtain ⟨z1,z2⟩:=reg_at hg
 refine wpIn_region ?_
 rw [show List.range og.size=List.range' 0 lg5a.length++[6,7] from by rw [z1];rfl]
 refine seqX_ok (C:=mkO Try.prog w W rs R) (F:=Fence.wide) (n:=5) hF hT [6,7] (fun S=>S=LY m E E3 l dd (rcOf fn b0 i5 o5 i6 o6 dd .ready) k) lg5a 0 _ E1 a1 w1 (fun j io hj=>?_) (by rw [act_eta hs.sat.defers];exact hs) (ly_run m E E3 l dd _ k hk) fun E6 S6 a6 w6 hd6 hs6 hS6=>?_
 ·have hlt:j<lg5a.length:=(List.getElem?_eq_some_iff.1 hj).1
  obtain ⟨o,ho⟩:=z2 j io (by rw [List.getElem?_append_left hlt];exact hj) (guardless rfl hj)
  exact ⟨o,by rw [Nat.zero_add];exact ho⟩
 subst hS6
 have ha6:=act_eta (a:=a6) (hd6.trans hs.sat.defers)
 obtain ⟨oy,hoy,hgy,hopy,hdy⟩:=z2 6 lg5y rfl rfl
 have hrec:=(sat_obj (C:=mkO Try.prog w W rs R) hs6 (x:=(19,0,0)) (l:=l) (o:=.loop (rcOf fn b0 i5 o5 i6 o6 dd .ready)) rfl).1
 have hrun:=run_yielded (C:=mkO Try.prog w W rs R) (vs:=[.c (iI k),.agg (acS (m.L.getD k D.ac0))]) (l:=l) hs6.sat hopy rfl rfl hrec rfl
 refine ops_cons hoy hgy ⟨fun f _=>hF f,?_⟩
 have e6:(oy.semAt Fence.wide.round a6.eval).run (mkO Try.prog w W rs R).P w6=_:=hrun
 rw [e6]
 refine ⟨(fun h=>by cases h),roundIn_of_wpIn (hF _) ?_⟩
 have hag:AgreeD (· < 20) E3 E6:=facts_of hs6.sat (by simp [LY])
 have hf:=satA_fact (C:=mkO Try.prog w W rs R) 21 (show 21≤22 by decide) hs6
 have hr0:SatA (mkO Try.prog w W rs R).B (mkO Try.prog w W rs R).W (mkO Try.prog w W rs R).w0 E6 (RS0 m E E3 E6 l dd (rcOf fn b0 i5 o5 i6 o6 dd .ready) k) _ w6:=satA_act (C:=mkO Try.prog w W rs R) hf (n:=21) (E0:=E6) (by simp) (round_tmps (m:=m) (k:=k) hb hag)
 rw [← ts_two] at hr0
 refine region_ok (C:=mkO Try.prog w W rs R) (F:=Fence.wide.inRound l) (fun f=>trivial) hT h5 rfl (fun S=>S=RS5 m E E3 E6 l dd (rcOf fn b0 i5 o5 i6 o6 dd .ready) k) hr0 (rs5_run m E E3 E6 l dd _ k) fun E7 S7 a7 w7 hd7 hs7 hS7=>?_
 subst hS7
 have q7:=(sat_obj (C:=mkO Try.prog w W rs R) hs7 (x:=(19,0,0)) (l:=l) (o:=.loop (rcOf fn b0 i5 o5 i6 o6 dd .ready)) rfl).1
 refine ⟨_,run_beginRound q7 rfl,?_⟩
 obtain ⟨E8,hs8⟩:=obj_put (C:=mkO Try.prog w W rs R) (x:=(19,0,0)) (l:=l) (o:=.loop (rcOf fn b0 i5 o5 i6 o6 dd .ready)) (.loop (rcOf fn b0 i5 o5 i6 o6 dd .busy)) rfl ⟨rfl,rfl⟩ hs7
 have hs8:SatA (mkO Try.prog w W rs R).B (mkO Try.prog w W rs R).W (mkO Try.prog w W rs R).w0 E8 (RS5 m E E3 E6 l dd (rcOf fn b0 i5 o5 i6 o6 dd .busy) k) ⟨a7.tmps,[]⟩ (w7.putObj l (.loop (rcOf fn b0 i5 o5 i6 o6 dd .busy))):=hs8
 refine wpIn_block (region_ok (C:=mkO Try.prog w W rs R) (F:=Fence.wide.inRound l) (fun f=>trivial) hT h6 rfl (fun S=>Le (mkO Try.prog w W rs R) S (RS6 m E E3 E6 l dd (rcOf fn b0 i5 o5 i6 o6 dd .busy) k)) hs8 (rs6_run m E E3 E6 l dd _ k hk hL) fun E9 S9 a9 w9 hd9 hs9 hle=>?_)
 obtain ⟨E10,hs10⟩:=hle E9 _ w9 hs9
 have q10:=(sat_obj (C:=mkO Try.prog w W rs R) hs10 (x:=(19,0,0)) (l:=l) (o:=.loop (rcOf fn b0 i5 o5 i6 o6 dd .busy)) rfl).1
 refine ⟨_,_,run_endRound none q10,?_⟩
 obtain ⟨E11,hs11⟩:=obj_put (C:=mkO Try.prog w W rs R) (x:=(19,0,0)) (l:=l) (o:=.loop (rcOf fn b0 i5 o5 i6 o6 dd .busy)) (.loop (rcOf fn b0 i5 o5 i6 o6 dd .ready)) rfl ⟨rfl,rfl⟩ hs10
 have hs11:SatA (mkO Try.prog w W rs R).B (mkO Try.prog w W rs R).W (mkO Try.prog w W rs R).w0 E11 (RS6 m E E3 E6 l dd (rcOf fn b0 i5 o5 i6 o6 dd .ready) k) ⟨a9.tmps,[]⟩ (w9.putObj l (.loop (rcOf fn b0 i5 o5 i6 o6 dd .ready))):=hs11
 -- back in the iterator
 have ht6:TmpAt 21 E6 a6 29 (lgT m l k):=by
  have h:=hs6.sat
  rw [ha6] at h
  exact ⟨h.size,h.defers,fun t v ht=>by
   have h2:look (LY m E E3 l dd (rcOf fn b0 i5 o5 i6 o6 dd .ready) k).tmps t=some v:=by
    simp only [lgT,look] at ht
    simp only [LY,lgT,List.cons_append,List.nil_append,look]
    split at ht
    ·next e=>rw [if_pos e];exact ht
    ·next e =>
     rw [if_neg e]
     split at ht
     ·next e=>rw [if_pos e];exact ht
     ·next e =>
      rw [if_neg e]
      split at ht
      ·next e=>rw [if_pos e];exact ht
      ·cases ht
   obtain ⟨g1,g2⟩:=h.tmps t v h2
   refine ⟨g1,g2,?_⟩
   simp only [lgT,look] at ht
   split at ht
   ·cases ht;simp [yvS,SV.okN,SC.okN]
   split at ht
   ·cases ht;simp [SV.okN,SC.okN]
   split at ht
   ·cases ht;simp [SV.okN,SC.okN,iI]
   ·cases ht⟩
 have hback:=satA_act (C:=mkO Try.prog w W rs R) hs11 (n:=21) (E0:=E6) (by simp [RS6]) (tmpAt_put (d:=27) (v:=.bool true) (sv:=.c (.v (.bool true))) ht6 (by decide) (by simp [SV.den,SC.den]) (by simp [SV.okN,SC.okN]))
 rw [hdy]
 refine seqX_ok (C:=mkO Try.prog w W rs R) (F:=Fence.wide) (n:=5) hF hT [] (fun S=>Le (mkO Try.prog w W rs R) S (LA m E E3 l dd (rcOf fn b0 i5 o5 i6 o6 dd .ready) k)) [lg5z] 7 _ E11 _ _ (fun j io hj=>?_) (by rw [act_eta (by exact ht6.defers)];exact hback) ?_ fun E12 S12 a12 w12 hd12 hs12 hle=>?_
 ·have hj0:j=0:=by
   have:=(List.getElem?_eq_some_iff.1 hj).1
   simpa using this
  subst hj0
  obtain ⟨o,ho⟩:=z2 7 io (by simp at hj;rw [← hj];rfl) (by simp at hj;rw [← hj];rfl)
  exact ⟨o,ho⟩
 ·simp (maxSteps:=2000000) only [seqX,lg5z,LA,RS6,lgT,yvS,iI,go_sem,↓reduceIte,Nat.reduceLT,Nat.reduceEqDiff,reduceCtorEq,List.cons_append,List.nil_append]
  exact le_tr (le_tmps (by simp [TmpsSub,look])) (le_sub ⟨rfl,fun t v h=>h,fun t v h=>h,fun t v h=>h,fun φ h=>List.mem_cons_of_mem _ h⟩ rfl)
 ·obtain ⟨E13,hs13⟩:=hle E12 _ w12 hs12
  rw [act_eta (hd12.trans ht6.defers)] at hs13
  exact hQ E13 a12 w12 hs13
end Go.Proofs.Ytcloeignccpljaa.Z
