/- DequeSwapsSaid: what its proof is made of. No condition. -/
import Derived.Test.YtcloeignccpljaaPkIDequeSwapsAO
set_option linter.unusedSimpArgs false
set_option linter.unusedVariables false
namespace Go.Proofs.Ytcloeignccpljaa.Z
open Go Go.RowKit
set_option maxRecDepth 100000 in
set_option maxHeartbeats 4000000 in
theorem mmove_r1 (w:World) (E:Env) (m:D.Pm) (th op arg data:Int) (hl:m.S.length≠0) (h0:0≤m.mv) (hM:m.mv≥65536) (h:Handed w E 11 (mvO nz0 m) []) :
  Calls Try.prog 23 (([.c (.ptr (0,0,0) 0),.agg [iI th,iI op,iI arg,iI data]]:List SV).map (SV.den E)).toArray w (EffR w E 11 (takesO E (mvO nz0 m)) (.c (.v (.bool false))) 4 fun b=>killO [3,4,6,7]++mvO ⟨b,b+1,b+2,b+3⟩ m):=by
 refine enterO (c:=ir23) (rs:=rs23) (nt:=nt23) h _ Try.func23 rfl (by kernel_rfl) (by kernel_rfl) rfl (by simp [okVs,SV.okN,SC.okN,SC.okL,iI]) (of_decide_eq_true rfl) ?_
 generalize hR:EffR w E 11 (takesO E (mvO nz0 m)) _ 4 _=R
 generalize hW:takesO E (mvO nz0 m)=W
 have hl0:(((m.S.length:Nat):Int) == 0)=false:=beq_eq_false_iff_ne.2 (by omega)
 have hm0:decide (m.mv≥65536)=true:=decide_eq_true hM
 simp (maxSteps:=2000000) only [ir23,nt23,rs23,go_sem,↓condS,↓gateS,↓runOp,↓imp_tf,↓imp_tt,↓reduceIte,Nat.reduceLT,Nat.reduceAdd,Nat.reduceEqDiff,reduceCtorEq,Int.reduceNeg,mkO_rs,mvO,rO,mO,nz0,bkM,nilP,bkY,hubC,iI,hl0,hm0,List.cons_append,List.nil_append]
 rw [← hR,← hW]
 exact retMv (p:=3) (q:=4) (r:=6) (tn:=fun k=>(7,k,0)) (m:=m) rfl (fun k=>by simp) (fun k k' e=>by simpa using e) (by simp) (fun E E'=>rfl) ⟨rfl,rfl,⟨_,_,rfl,Nat.le_refl _,fun _ _=>rfl⟩,⟨_,_,rfl,Nat.le_refl _,fun _ _=>rfl⟩,⟨_,_,rfl,Nat.le_refl _,fun _ _=>rfl⟩,⟨_,_,rfl,Nat.le_refl _,fun _ _=>rfl⟩,⟨_,_,rfl,Nat.le_refl _,fun _ _=>rfl⟩,fun k hk=>(by simp only [atN,look,Nat.reduceEqDiff,if_true,if_false,Fm.get];rw [if_pos ⟨hk,trivial⟩];rfl),rfl,rfl⟩
set_option maxRecDepth 100000 in
set_option maxHeartbeats 4000000 in
theorem mmove_r2a (w:World) (E:Env) (m:D.Pm) (th op arg data:Int) (hl:m.S.length≠0) (h0:0≤m.mv) (hM:m.mv<65536) (hx:th<0) (h:Handed w E 11 (mvO nz0 m) []) :
  Calls Try.prog 23 (([.c (.ptr (0,0,0) 0),.agg [iI th,iI op,iI arg,iI data]]:List SV).map (SV.den E)).toArray w (EffR w E 11 (takesO E (mvO nz0 m)) (.c (.v (.bool false))) 4 fun b=>killO [3,4,6,7]++mvO ⟨b,b+1,b+2,b+3⟩ { m with mv:=m.mv+1 }):=by
 refine enterO (c:=ir23) (rs:=rs23) (nt:=nt23) h _ Try.func23 rfl (by kernel_rfl) (by kernel_rfl) rfl (by simp [okVs,SV.okN,SC.okN,SC.okL,iI]) (of_decide_eq_true rfl) ?_
 generalize hR:EffR w E 11 (takesO E (mvO nz0 m)) _ 4 _=R
 generalize hW:takesO E (mvO nz0 m)=W
 have hl0:(((m.S.length:Nat):Int) == 0)=false:=beq_eq_false_iff_ne.2 (by omega)
 have hm0:decide (m.mv≥65536)=false:=decide_eq_false (by omega)
 have hw1:IntKind.i64.wrap (m.mv+1)=m.mv+1:=D.i64_id (by omega) (by omega)
 have hi0:decide (th<0)=true:=decide_eq_true hx
 simp (maxSteps:=2000000) only [ir23,nt23,rs23,go_sem,↓condS,↓gateS,↓runOp,↓imp_ft,↓imp_tt,↓imp_ff,↓reduceIte,Nat.reduceLT,Nat.reduceLeDiff,Nat.reduceAdd,Nat.reduceEqDiff,reduceCtorEq,Int.reduceNeg,mvO,rO,mO,nz0,bkM,nilP,bkY,hubC,iI,hl0,hm0,List.cons_append,List.nil_append,hw1]
 refine draw_vc (by kernel_rfl) (mkTab_ok _ _) (of_decide_eq_true rfl) (of_decide_eq_true rfl) ?_
 repeat (first | simp (maxSteps:=2000000) only [go_sem,↓condS,↓runOp,↓gateD,altC,↓runD,↓imp_ft,↓imp_tf,↓imp_tt,↓reduceIte,Nat.reduceLT,Nat.reduceEqDiff,reduceCtorEq,Int.reduceNeg,hi0,mkO_rs] | rw [dr_cons])
 rw [← hR,← hW]
 exact retMv (p:=3) (q:=4) (r:=6) (tn:=fun k=>(7,k,0)) (m:={ m with mv:=m.mv+1 }) rfl (fun k=>by simp) (fun k k' e=>by simpa using e) (by simp) (fun E E'=>rfl) ⟨rfl,rfl,⟨_,_,rfl,Nat.le_refl _,fun _ _=>rfl⟩,⟨_,_,rfl,Nat.le_refl _,fun _ _=>rfl⟩,⟨_,_,rfl,Nat.le_refl _,fun _ _=>rfl⟩,⟨_,_,rfl,Nat.le_refl _,fun _ _=>rfl⟩,⟨_,_,rfl,Nat.le_refl _,fun _ _=>rfl⟩,fun k hk=>(by simp only [atN,look,Nat.reduceEqDiff,if_true,if_false,Fm.get];rw [if_pos ⟨hk,trivial⟩];rfl),rfl,rfl⟩
set_option maxRecDepth 100000 in
set_option maxHeartbeats 4000000 in
theorem mmove_r2b (w:World) (E:Env) (m:D.Pm) (th op arg data:Int) (hl:m.S.length≠0) (h0:0≤m.mv) (hM:m.mv<65536) (hx:0≤th) (hx2:th≥m.S.length) (h:Handed w E 11 (mvO nz0 m) []) :
  Calls Try.prog 23 (([.c (.ptr (0,0,0) 0),.agg [iI th,iI op,iI arg,iI data]]:List SV).map (SV.den E)).toArray w (EffR w E 11 (takesO E (mvO nz0 m)) (.c (.v (.bool false))) 4 fun b=>killO [3,4,6,7]++mvO ⟨b,b+1,b+2,b+3⟩ { m with mv:=m.mv+1 }):=by
 refine enterO (c:=ir23) (rs:=rs23) (nt:=nt23) h _ Try.func23 rfl (by kernel_rfl) (by kernel_rfl) rfl (by simp [okVs,SV.okN,SC.okN,SC.okL,iI]) (of_decide_eq_true rfl) ?_
 generalize hR:EffR w E 11 (takesO E (mvO nz0 m)) _ 4 _=R
 generalize hW:takesO E (mvO nz0 m)=W
 have hl0:(((m.S.length:Nat):Int) == 0)=false:=beq_eq_false_iff_ne.2 (by omega)
 have hm0:decide (m.mv≥65536)=false:=decide_eq_false (by omega)
 have hw1:IntKind.i64.wrap (m.mv+1)=m.mv+1:=D.i64_id (by omega) (by omega)
 have hi0:decide (th<0)=false:=decide_eq_false (by omega)
 have hi1:decide (th≥(m.S.length:Int))=true:=decide_eq_true hx2
 simp (maxSteps:=2000000) only [ir23,nt23,rs23,go_sem,↓condS,↓gateS,↓runOp,↓imp_ft,↓imp_tt,↓imp_ff,↓reduceIte,Nat.reduceLT,Nat.reduceLeDiff,Nat.reduceAdd,Nat.reduceEqDiff,reduceCtorEq,Int.reduceNeg,mvO,rO,mO,nz0,bkM,nilP,bkY,hubC,iI,hl0,hm0,List.cons_append,List.nil_append,hw1]
 refine draw_vc (by kernel_rfl) (mkTab_ok _ _) (of_decide_eq_true rfl) (of_decide_eq_true rfl) ?_
 repeat (first | simp (maxSteps:=2000000) only [go_sem,↓condS,↓runOp,↓gateD,altC,↓runD,↓imp_tf,↓imp_tt,↓reduceIte,Nat.reduceLT,Nat.reduceEqDiff,reduceCtorEq,Int.reduceNeg,hi0,hi1,mkO_rs] | rw [dr_cons])
 rw [← hR,← hW]
 exact retMv (p:=3) (q:=4) (r:=6) (tn:=fun k=>(7,k,0)) (m:={ m with mv:=m.mv+1 }) rfl (fun k=>by simp) (fun k k' e=>by simpa using e) (by simp) (fun E E'=>rfl) ⟨rfl,rfl,⟨_,_,rfl,Nat.le_refl _,fun _ _=>rfl⟩,⟨_,_,rfl,Nat.le_refl _,fun _ _=>rfl⟩,⟨_,_,rfl,Nat.le_refl _,fun _ _=>rfl⟩,⟨_,_,rfl,Nat.le_refl _,fun _ _=>rfl⟩,⟨_,_,rfl,Nat.le_refl _,fun _ _=>rfl⟩,fun k hk=>(by simp only [atN,look,Nat.reduceEqDiff,if_true,if_false,Fm.get];rw [if_pos ⟨hk,trivial⟩];rfl),rfl,rfl⟩
set_option maxRecDepth 100000 in
set_option maxHeartbeats 4000000 in
theorem mmove_r3 (w:World) (E:Env) (m:D.Pm) (i:Nat) (arg data:Int) (hl:m.S.length≠0) (h0:0≤m.mv) (hM:m.mv<65536) (hi:i<m.S.length) (htk:(m.S.getD i D.se0).tk=none) (h:Handed w E 11 (mvO nz0 m) []) :
  Calls Try.prog 23 (([.c (.ptr (0,0,0) 0),.agg [iI i,iI 0,iI arg,iI data]]:List SV).map (SV.den E)).toArray w (EffR w E 11 (takesO E (mvO nz0 m)) (.c (.v (.bool false))) 4 fun b=>killO [3,4,6,7]++mvO ⟨b,b+1,b+2,b+3⟩ { m with mv:=m.mv+1 }):=by
 refine enterO (c:=ir23) (rs:=rs23) (nt:=nt23) h _ Try.func23 rfl (by kernel_rfl) (by kernel_rfl) rfl (by simp [okVs,SV.okN,SC.okN,SC.okL,iI]) (of_decide_eq_true rfl) ?_
 generalize hR:EffR w E 11 (takesO E (mvO nz0 m)) _ 4 _=R
 generalize hW:takesO E (mvO nz0 m)=W
 have hl0:(((m.S.length:Nat):Int) == 0)=false:=beq_eq_false_iff_ne.2 (by omega)
 have hm0:decide (m.mv≥65536)=false:=decide_eq_false (by omega)
 have hw1:IntKind.i64.wrap (m.mv+1)=m.mv+1:=D.i64_id (by omega) (by omega)
 have hse:seC 7 m.S i=[.v .nilIface,.v (.bool (m.S.getD i D.se0).rd),iI (m.S.getD i D.se0).la,iI (m.S.getD i D.se0).ak,iI (m.S.getD i D.se0).av]:=by
  unfold seC;rw [htk];simp only [taskI]
 have hi0:decide ((i:Int)<0)=false:=decide_eq_false (by omega)
 have hi1:decide ((i:Int)≥(m.S.length:Int))=false:=decide_eq_false (by omega)
 have hz:((0:Int) == 0)=true:=rfl
 simp only [iI] at hse
 simp (maxSteps:=2000000) only [ir23,nt23,rs23,go_sem,↓condS,↓gateS,↓runOp,↓imp_ft,↓imp_tt,↓imp_ff,↓reduceIte,Nat.reduceLT,Nat.reduceLeDiff,Nat.reduceAdd,Nat.reduceEqDiff,reduceCtorEq,Int.reduceNeg,mvO,rO,mO,nz0,bkM,nilP,bkY,hubC,iI,hl0,hm0,List.cons_append,List.nil_append,hw1]
 refine draw_vc (by kernel_rfl) (mkTab_ok _ _) (of_decide_eq_true rfl) (of_decide_eq_true rfl) ?_
 repeat (first | simp (maxSteps:=2000000) only [go_sem,↓condS,↓gateD,altC,↓runD,↓imp_ft,↓imp_tt,↓imp_ff,↓reduceIte,Nat.reduceLT,Nat.reduceEqDiff,reduceCtorEq,Int.reduceNeg,hi0,hi1] | rw [dr_cons])
 repeat (with_reducible refine And.intro (by first | exact ⟨hi,Nat.le_refl _⟩ | exact hi | exact Or.inr trivial | exact Or.inl trivial | exact ⟨by omega,by omega,Nat.le_refl _⟩) ?_)
 refine draw_vc (by kernel_rfl) (mkTab_ok _ _) (of_decide_eq_true rfl) (of_decide_eq_true rfl) ?_
 repeat (first | simp (maxSteps:=2000000) only [go_sem,↓condS,↓runOp,↓gateD,↓runD,↓imp_tf,↓imp_tt,↓reduceIte,Nat.reduceLT,Nat.reduceEqDiff,reduceCtorEq,Int.reduceNeg,hse,hz,Int.toNat_natCast,mkO_rs] | rw [dr_cons])
 repeat (with_reducible refine And.intro (by first | exact ⟨hi,Nat.le_refl _⟩ | exact hi | exact Or.inr trivial | exact Or.inl trivial | exact ⟨by omega,by omega,Nat.le_refl _⟩) ?_)
 rw [← hR,← hW]
 exact retMv (p:=3) (q:=4) (r:=6) (tn:=fun k=>(7,k,0)) (m:={ m with mv:=m.mv+1 }) rfl (fun k=>by simp) (fun k k' e=>by simpa using e) (by simp) (fun E E'=>rfl) ⟨rfl,rfl,⟨_,_,rfl,Nat.le_refl _,fun _ _=>rfl⟩,⟨_,_,rfl,Nat.le_refl _,fun _ _=>rfl⟩,⟨_,_,rfl,Nat.le_refl _,fun _ _=>rfl⟩,⟨_,_,rfl,Nat.le_refl _,fun _ _=>rfl⟩,⟨_,_,rfl,Nat.le_refl _,fun _ _=>rfl⟩,fun k hk=>(by simp only [atN,look,Nat.reduceEqDiff,if_true,if_false,Fm.get];rw [if_pos ⟨hk,trivial⟩];rfl),rfl,rfl⟩
set_option maxRecDepth 100000 in
set_option maxHeartbeats 4000000 in
theorem mmove_r4 (w:World) (E:Env) (m:D.Pm) (i:Nat) (k:D.Tk) (op arg data:Int) (hl:m.S.length≠0) (h0:0≤m.mv) (hM:m.mv<65536) (hi:i<m.S.length) (ho:op≠0) (htk:(m.S.getD i D.se0).tk=some k) (h:Handed w E 11 (mvO nz0 m) []) :
  Calls Try.prog 23 (([.c (.ptr (0,0,0) 0),.agg [iI i,iI op,iI arg,iI data]]:List SV).map (SV.den E)).toArray w (EffR w E 11 (takesO E (mvO nz0 m)) (.c (.v (.bool false))) 4 fun b=>killO [3,4,6,7]++mvO ⟨b,b+1,b+2,b+3⟩ { m with mv:=m.mv+1 }):=by
 refine enterO (c:=ir23) (rs:=rs23) (nt:=nt23) h _ Try.func23 rfl (by kernel_rfl) (by kernel_rfl) rfl (by simp [okVs,SV.okN,SC.okN,SC.okL,iI]) (of_decide_eq_true rfl) ?_
 generalize hR:EffR w E 11 (takesO E (mvO nz0 m)) _ 4 _=R
 generalize hW:takesO E (mvO nz0 m)=W
 have hl0:(((m.S.length:Nat):Int) == 0)=false:=beq_eq_false_iff_ne.2 (by omega)
 have hm0:decide (m.mv≥65536)=false:=decide_eq_false (by omega)
 have hw1:IntKind.i64.wrap (m.mv+1)=m.mv+1:=D.i64_id (by omega) (by omega)
 have hse:seC 7 m.S i=[.ifc (tkIf k.kd) (.ptr (7,i,0) 0),.v (.bool (m.S.getD i D.se0).rd),iI (m.S.getD i D.se0).la,iI (m.S.getD i D.se0).ak,iI (m.S.getD i D.se0).av]:=by
  unfold seC;rw [htk];simp only [taskI]
 have hi0:decide ((i:Int)<0)=false:=decide_eq_false (by omega)
 have hi1:decide ((i:Int)≥(m.S.length:Int))=false:=decide_eq_false (by omega)
 have hz:(op == 0)=false:=beq_eq_false_iff_ne.2 ho
 simp only [iI] at hse
 simp (maxSteps:=2000000) only [ir23,nt23,rs23,go_sem,↓condS,↓gateS,↓runOp,↓imp_ft,↓imp_tt,↓imp_ff,↓reduceIte,Nat.reduceLT,Nat.reduceLeDiff,Nat.reduceAdd,Nat.reduceEqDiff,reduceCtorEq,Int.reduceNeg,mvO,rO,mO,nz0,bkM,nilP,bkY,hubC,iI,hl0,hm0,List.cons_append,List.nil_append,hw1]
 refine draw_vc (by kernel_rfl) (mkTab_ok _ _) (of_decide_eq_true rfl) (of_decide_eq_true rfl) ?_
 repeat (first | simp (maxSteps:=2000000) only [go_sem,↓condS,↓gateD,altC,↓runD,↓imp_ft,↓imp_tt,↓imp_ff,↓reduceIte,Nat.reduceLT,Nat.reduceEqDiff,reduceCtorEq,Int.reduceNeg,hi0,hi1] | rw [dr_cons])
 repeat (with_reducible refine And.intro (by first | exact ⟨hi,Nat.le_refl _⟩ | exact hi | exact Or.inr trivial | exact Or.inl trivial | exact ⟨by omega,by omega,Nat.le_refl _⟩) ?_)
 refine draw_vc (by kernel_rfl) (mkTab_ok _ _) (of_decide_eq_true rfl) (of_decide_eq_true rfl) ?_
 repeat (first | simp (maxSteps:=2000000) only [go_sem,↓condS,↓runOp,↓gateD,↓runD,↓imp_ft,↓imp_ff,↓reduceIte,Nat.reduceLT,Nat.reduceEqDiff,reduceCtorEq,Int.reduceNeg,hse,hz,Int.toNat_natCast,mkO_rs] | rw [dr_cons])
 repeat (with_reducible refine And.intro (by first | exact ⟨hi,Nat.le_refl _⟩ | exact hi | exact Or.inr trivial | exact Or.inl trivial | exact ⟨by omega,by omega,Nat.le_refl _⟩) ?_)
 rw [← hR,← hW]
 exact retMv (p:=3) (q:=4) (r:=6) (tn:=fun k=>(7,k,0)) (m:={ m with mv:=m.mv+1 }) rfl (fun k=>by simp) (fun k k' e=>by simpa using e) (by simp) (fun E E'=>rfl) ⟨rfl,rfl,⟨_,_,rfl,Nat.le_refl _,fun _ _=>rfl⟩,⟨_,_,rfl,Nat.le_refl _,fun _ _=>rfl⟩,⟨_,_,rfl,Nat.le_refl _,fun _ _=>rfl⟩,⟨_,_,rfl,Nat.le_refl _,fun _ _=>rfl⟩,⟨_,_,rfl,Nat.le_refl _,fun _ _=>rfl⟩,fun k hk=>(by simp only [atN,look,Nat.reduceEqDiff,if_true,if_false,Fm.get];rw [if_pos ⟨hk,trivial⟩];rfl),rfl,rfl⟩
end Go.Proofs.Ytcloeignccpljaa.Z
namespace Go.Proofs.Ytcloeignccpljaa.Z
open Go Go.RowKit
def kitG:List (Int×SC):=[(90,.fn (.func 33) [] [.ptr (10,0,0) 0]),(91,.fn (.func 34) [] [.ptr (10,0,0) 0]),(92,.fn (.func 35) [] [.ptr (10,0,0) 0])]
def KitW (w:World) (E:Env) (W:Nat→Prop):Prop:=∃ (L:List VEnt) (clock:Nat),w.heap[E.ρ (8,0,0)]? = some (.map (L.map (VEnt.den .i64 E)).toArray clock)∧L.map (fun e=>(e.1,e.2.1))=kitG∧¬ W (E.ρ (8,0,0))
theorem kit_at {P:Program} {w w' : World} {E E' : Env} {W:Nat→Prop} {rs:List RS} {R:Ending→World→Prop} {S:St} {a:Act} (hk:KitW w E W) (hs:Sat (mkO P w W rs R).B (mkO P w W rs R).W (mkO P w W rs R).w0 E' S a w') (hf:AgF 11 E∈S.facts) :
  ∃ (L:List VEnt) (clock:Nat),w'.heap[E'.ρ (8,0,0)]? = some (.map (L.map (VEnt.den .i64 E')).toArray clock)∧L.map (fun e=>(e.1,e.2.1))=kitG:=by
 obtain ⟨L,clock,h1,h2,h3⟩:=hk
 obtain ⟨H,hH,hF⟩:=hs.mem
 have hag:AgreeD (· < 11) E E':=(hF w' fun _ _ _=>rfl).2 (AgF 11 E) hf
 have e8:E'.ρ (8,0,0)=E.ρ (8,0,0):=(hag (8,0,0) (show 8<11 by decide)).1
 have e10:E'.ρ (10,0,0)=E.ρ (10,0,0):=(hag (10,0,0) (show 10<11 by decide)).1
 have hlt:E.ρ (8,0,0)<w.heap.size:=(Array.getElem?_eq_some_iff.1 h1).1
 have hden:L.map (VEnt.den .i64 E')=L.map (VEnt.den .i64 E):=by
  refine List.map_congr_left fun e he=>?_
  have hm:(e.1,e.2.1)∈kitG:=by rw [← h2];exact List.mem_map.2 ⟨e,he,rfl⟩
  have:e.2.1.den E' = e.2.1.den E:=by
   simp only [kitG,List.mem_cons,List.not_mem_nil,or_false,Prod.mk.injEq] at hm
   rcases hm with ⟨_,hm⟩ | ⟨_,hm⟩ | ⟨_,hm⟩ <;> rw [hm] <;> simp [SC.den,SC.denL,e10]
  unfold VEnt.den
  rw [this]
 refine ⟨L,clock,?_,h2⟩
 rw [e8,hden,← h1]
 exact hs.frame.keep _ hlt h3
end Go.Proofs.Ytcloeignccpljaa.Z
namespace Go.Proofs.Ytcloeignccpljaa.Z
open Go Go.RowKit
def bgN (i x k:Nat):Nm:=if k=i then (x,0,0) else (7,k,0)
theorem bgN_inj {i x:Nat} (hx:11≤x) (k k' : Nat) (h:bgN i x k=bgN i x k'):k=k':=by
 unfold bgN at h
 split at h <;> split at h
 ·omega
 ·simp only [Prod.mk.injEq] at h;omega
 ·simp only [Prod.mk.injEq] at h;omega
 ·simpa using h
theorem retBg {P:Program} {w:World} {E:Env} {W:Nat→Prop} {rs:List RS} {v:SV} {S2:St} {x r i:Nat} {k:D.Tk} {m:D.Pm} {op arg data:Int} (hi:i<m.S.length) (hxr:(Nat.ble 11 x && Nat.ble 11 r && (x != r))=true) (hf:AgF 11 E∈S2.facts) (hu:∀ E E' : Env,v.den E=(SV.c (.v (.bool true))).den E')
  (h0:look S2.own 0=some (.one (.bk [.ptr (1,0,0) 0,iI m.th,iI m.nw,nilP,nilP,.v (.bool m.us),.v (.slice none 0 0),.mp (8,0,0),.sl (5,0,0) 5 0 m.S.length none,iI (m.mv+1),.sl (r,0,0) 9 0 (m.C.length+1) none] 113)))
  (h1:look S2.own 1=some (.one (.bk (bkY ⟨3,4,0,0⟩ m) 140)))
  (h2:look S2.own 2=some (.one (.ar m.W.length 1 (ats eU m.W 0) 44))) (h3:look S2.own 3=some (.one (.ar m.L.length 7 (ats D.Ac.enc m.L D.ac0) 47))) (h4:look S2.own 4=some (.one (.ar m.A.length 1 (ats eU m.A 0) 44)))
  (h5:look S2.own 5=some (.one (.ar m.S.length 5 (setAt i (seC 7 m.S) [.ifc (tkIf k.kd) (.ptr (x,0,0) 0),.v (.bool false),iI m.C.length,iI 1,iI 0]) 116)))
  (h6:∃ n g,look S2.own r=some (.one (.ar n 9 g 77))∧m.C.length+1≤n∧∀ e,e<m.C.length+1→g e=ats D.Ca.enc (m.C++[⟨i,op,arg,data,m.mv,-1,-1,0,0⟩]) D.ca0 e)
  (h7:look S2.own 7=some (.fam m.S.length (tkF 7 m.S))) (hx:look S2.own x=some (.one (.bk (tkC (.ptr (x,0,0) 0) k) (tkTy k.kd))))
  (h9:look S2.own 9=some (.one (.bk (hubC m) 88))) (h10:look S2.own 10=some (.one (.bk [.ptr (9,0,0) 0] 86))) :
  RetVC (mkO P w W rs (EffR w E 11 W (.c (.v (.bool true))) 4 fun b=>killO [3,4,6,7]++mvO ⟨b,b+1,b+2,b+3⟩ (D.begM m ⟨i,op,arg,data⟩ k))) v S2:=by
 simp only [Bool.and_eq_true,Nat.ble_eq,bne_iff_ne,ne_eq] at hxr
 obtain ⟨⟨hx11,hr11⟩,hne⟩:=hxr
 have eS:(D.begM m ⟨i,op,arg,data⟩ k).S=m.S.set i ⟨some k,false,m.C.length,1,0⟩:=by simp [D.begM]
 have eC:(D.begM m ⟨i,op,arg,data⟩ k).C=m.C++[⟨i,op,arg,data,m.mv,-1,-1,0,0⟩]:=rfl
 have lS:(D.begM m ⟨i,op,arg,data⟩ k).S.length=m.S.length:=by rw [eS,List.length_set]
 have lC:(D.begM m ⟨i,op,arg,data⟩ k).C.length=m.C.length+1:=by rw [eC];simp
 have gS:∀ e,(D.begM m ⟨i,op,arg,data⟩ k).S.getD e D.se0=if i=e then ⟨some k,false,m.C.length,1,0⟩ else m.S.getD e D.se0:=fun e=>by
  rw [eS,D.set_getD _ _ _ _ _ hi]
 obtain ⟨n6,g6,a6,b6,c6⟩:=h6
 refine retMv (p:=3) (q:=4) (r:=r) (tn:=bgN i x) (by simp [okN4];omega) (fun j=>?_) (bgN_inj hx11) hf hu ⟨?_,h1,⟨_,_,h2,Nat.le_refl _,fun _ _=>rfl⟩,⟨_,_,h3,Nat.le_refl _,fun _ _=>rfl⟩,⟨_,_,h4,Nat.le_refl _,fun _ _=>rfl⟩,⟨_,_,h5,by rw [lS];exact Nat.le_refl _,fun e he=>?_⟩,⟨_,_,a6,by rw [lC];exact b6,fun e he=>by rw [lC] at he;rw [c6 e he,eC]⟩,fun j hj=>?_,h9,h10⟩
 ·unfold bgN;split <;> simp <;> omega
 ·rw [h0];simp only [bkM,lS,lC];rfl
 ·unfold setAt seN
  rw [gS]
  by_cases q:e=i
  ·subst q;rw [if_pos rfl,if_pos rfl];simp only [taskI,bgN,if_true]
  ·rw [if_neg q,if_neg (fun h=>q h.symm)];simp only [bgN,if_neg q];rfl
 ·rw [lS] at hj
  rw [gS]
  by_cases q:j=i
  ·subst q;simp only [bgN,if_true,atN,hx,Fm.get,and_self,if_true,tkB]
  ·rw [if_neg (fun h=>q h.symm)]
   simp only [bgN,if_neg q,atN,h7,Fm.get]
   rw [if_pos ⟨hj,trivial⟩];rfl
end Go.Proofs.Ytcloeignccpljaa.Z
namespace Go.Proofs.Ytcloeignccpljaa
open Go.RowKit
namespace D
structure Sh where
 a:Int
 b:Int
 c:Int
 d:Int
 e:Int
def Sh.enc (x:Sh):List Value:=[.int .i64 x.a,.int .i64 x.b,.int .i64 x.c,.int .i64 x.d,.int .i64 x.e]
def sh0:Sh:=⟨0,0,0,0,0⟩
end D
theorem D.Sh.ok:EncT D.Sh.enc 5:=⟨fun _=>rfl,fun x u hu=>by simp [D.Sh.enc] at hu;rcases hu with rfl | rfl | rfl | rfl | rfl <;> rfl⟩
theorem D.Ca.ok:EncT D.Ca.enc 9:=⟨fun _=>rfl,fun x u hu=>by simp [D.Ca.enc] at hu;rcases hu with rfl | rfl | rfl | rfl | rfl | rfl | rfl | rfl | rfl <;> rfl⟩
theorem D.Ac.ok:EncT D.Ac.enc 7:=⟨fun _=>rfl,fun x u hu=>by simp [D.Ac.enc] at hu;rcases hu with rfl | rfl | rfl | rfl | rfl | rfl | rfl <;> rfl⟩
theorem Z.eU_ok:EncT Z.eU 1:=⟨fun _=>rfl,fun x u hu=>by simp [Z.eU] at hu;subst hu;rfl⟩
def RetCl {α:Type} (W:World) (e:TypeId) (enc:α→List Value) (s:Nat) (l:List α) (r:Ending) (w' : World):Prop :=
 ∃ v',r = .returned v'∧((l=[]∧∃ ba,v' = .slice ba 0 0∧(ba=none∨∃ b,ba=some ⟨b,0,none⟩))∨(l≠[]∧w'.ownsRow W.heap.size e s v' l.length (l.flatMap enc)))∧Below W.heap.size W w'
theorem wpList_append_emptyT {P:Program} {w:World} {ops:Array Oper} {rest:List Oper} {o:Oper} {a:Act} {Q:Exit→Act→World→Prop} (hgd:o.guard=none) (s x:Operand) {t e:TypeId} {size bytes:Nat}
  (ho:o.op = .call { callee:=.builtin .append,args:=#[s,x],argTypes:=#[t,t] }) (T:ElemT P t e size bytes)
  {α:Type} {enc:α→List Value} (E:EncT enc size) {ba:Option Addr} {xs:List α} (hs:a.eval s = .slice ba 0 0)
  {v2:Value} (hx:a.eval x=v2) (hxs:Arr w enc size v2 xs)
  (hbytes:xs.length * bytes≤140737488355328) (h63:xs.length≤maxLen)
  (h:∀ v' w',Below w.heap.size w w'→((xs=[]∧v' = .slice ba 0 0)∨(xs≠[]∧w'.ownsRow w.heap.size e size v' xs.length (xs.flatMap enc)))→wpList P ops Q rest (a.put o.dst v') w'):wpList P ops Q (o :: rest) a w :=
 wpList_plain hgd fun _ hK=>wp_append_full s x ho T E hs (arr_empty _ _ _ _) hx hxs (by simpa using hbytes) (by simpa using h63) fun v' w' hb h2=>hK _ _ (h v' w' hb (by
  rcases h2 with ⟨h1,h2,_⟩ | ⟨h1,h2⟩
  ·exact Or.inl ⟨h1,h2⟩
  ·simp only [Nat.zero_add,List.nil_append] at h2
   exact Or.inr ⟨h1,h2⟩))
theorem ownsRow_base {w:World} {base base' : Nat} {e:TypeId} {size n:Nat} {v:Value} {l:List Value} (h:w.ownsRow base e size v n l) (hb:base'≤base):w.ownsRow base' e size v n l:=by
 obtain ⟨h1,h⟩:=h
 refine ⟨h1,?_⟩
 rcases h with h | ⟨g,cap,cur,r1,r2,r3⟩
 ·exact Or.inl h
 ·exact Or.inr ⟨g,cap,cur,r1,Nat.le_trans hb r2,r3⟩
theorem tU:ElemT Try.prog 24 44 1 8:=by
 refine ⟨Try.underlying24,?_,by decide⟩
 obtain ⟨i0,hi,hz0,hz1,hz2⟩:=info_parts (show (Try.prog.info? 44).map (fun i=>(i.zero,i.size,i.bytes))=some (some (.int .u64 0),1,8) by kernel_rfl)
 exact ⟨i0,_,hi,hz0,hz1,hz2,rfl⟩
set_option maxRecDepth 100000 in
set_option maxHeartbeats 400000 in
theorem clone_U {v:Value} {l:List Int} {w:World} (h:Arr w Z.eU 1 v l) (hl:l.length * 8≤140737488355328) :
  Calls Try.prog 52 #[v] w (RetCl w 44 Z.eU 1 l):=by
 have h0:=h
 obtain ⟨ba,cap,rfl,hlc,hcm,hc⟩:=h
 have H:=Lib.hid h0;clear h0
 have HC:=Lib.hid hc;clear hc
 have HL:=Lib.hid hl;clear hl
 have HM:=Lib.hid (Nat.le_trans hlc hcm);clear hlc hcm
 have hq:=fun wx=>Lib.run_eql_slice_nil (P:=Try.prog) wx 24 _ ba l.length cap 0 0 Try.underlying24
 rcases ba with _ | ba
 ·have hl0:l=[]:=by
   rcases HC.out with h | ⟨_,_,h,_⟩
   ·exact h
   ·cases h
  have HL0:=Lib.hid hl0;clear hl0
  go_enter Try.func52,Try.ntmps52
  go_wp2
  go_ret
  exact ⟨_,rfl,Or.inl ⟨HL0.out,none,rfl,Or.inl rfl⟩,Below.refl _ _⟩
 ·go_enter Try.func52,Try.ntmps52
  go_wp2_with (at_builtin;refine wpList_append_emptyT rfl (.tmp 5) (.tmp 6) rfl tU Z.eU_ok rfl rfl (H.out.below (below_box _ _)) HL.out HM.out ?_;intro v' w' hb ho)
  have HO:=Lib.hid ho;clear ho
  go_wp2
  go_ret
  refine ⟨v',rfl,?_,below_from (hb.mono (by simp))⟩
  rcases HO.out with ⟨h1,h2⟩ | ⟨h1,h2⟩
  ·exact Or.inl ⟨h1,_,h2,Or.inr ⟨_,rfl⟩⟩
  ·exact Or.inr ⟨h1,ownsRow_base h2 (by simp)⟩
theorem tC:ElemT Try.prog 37 77 9 72:=by
 refine ⟨Try.underlying37,?_,by decide⟩
 obtain ⟨i0,hi,hz0,hz1,hz2⟩:=info_parts (show (Try.prog.info? 77).map (fun i=>(i.zero,i.size,i.bytes))=some (some (.agg #[.int .i64 0,.int .i64 0,.int .i64 0,.int .i64 0,.int .i64 0,.int .i64 0,.int .i64 0,.int .i64 0,.int .i64 0]),9,72) by kernel_rfl)
 exact ⟨i0,_,hi,hz0,hz1,hz2,rfl⟩
set_option maxRecDepth 100000 in
set_option maxHeartbeats 400000 in
theorem clone_C {v:Value} {l:List D.Ca} {w:World} (h:Arr w D.Ca.enc 9 v l) (hl:l.length * 72≤140737488355328) :
  Calls Try.prog 39 #[v] w (RetCl w 77 D.Ca.enc 9 l):=by
 have h0:=h
 obtain ⟨ba,cap,rfl,hlc,hcm,hc⟩:=h
 have H:=Lib.hid h0;clear h0
 have HC:=Lib.hid hc;clear hc
 have HL:=Lib.hid hl;clear hl
 have HM:=Lib.hid (Nat.le_trans hlc hcm);clear hlc hcm
 have hq:=fun wx=>Lib.run_eql_slice_nil (P:=Try.prog) wx 37 _ ba l.length cap 0 0 Try.underlying37
 rcases ba with _ | ba
 ·have hl0:l=[]:=by
   rcases HC.out with h | ⟨_,_,h,_⟩
   ·exact h
   ·cases h
  have HL0:=Lib.hid hl0;clear hl0
  go_enter Try.func39,Try.ntmps39
  go_wp2
  go_ret
  exact ⟨_,rfl,Or.inl ⟨HL0.out,none,rfl,Or.inl rfl⟩,Below.refl _ _⟩
 ·go_enter Try.func39,Try.ntmps39
  go_wp2_with (at_builtin;refine wpList_append_emptyT rfl (.tmp 5) (.tmp 6) rfl tC D.Ca.ok rfl rfl (H.out.below (below_box _ _)) HL.out HM.out ?_;intro v' w' hb ho)
  have HO:=Lib.hid ho;clear ho
  go_wp2
  go_ret
  refine ⟨v',rfl,?_,below_from (hb.mono (by simp))⟩
  rcases HO.out with ⟨h1,h2⟩ | ⟨h1,h2⟩
  ·exact Or.inl ⟨h1,_,h2,Or.inr ⟨_,rfl⟩⟩
  ·exact Or.inr ⟨h1,ownsRow_base h2 (by simp)⟩
theorem tS:ElemT Try.prog 39 85 5 40:=by
 refine ⟨Try.underlying39,?_,by decide⟩
 obtain ⟨i0,hi,hz0,hz1,hz2⟩:=info_parts (show (Try.prog.info? 85).map (fun i=>(i.zero,i.size,i.bytes))=some (some (.agg #[.int .i64 0,.int .i64 0,.int .i64 0,.int .i64 0,.int .i64 0]),5,40) by kernel_rfl)
 exact ⟨i0,_,hi,hz0,hz1,hz2,rfl⟩
set_option maxRecDepth 100000 in
set_option maxHeartbeats 400000 in
theorem clone_S {v:Value} {l:List D.Sh} {w:World} (h:Arr w D.Sh.enc 5 v l) (hl:l.length * 40≤140737488355328) :
  Calls Try.prog 40 #[v] w (RetCl w 85 D.Sh.enc 5 l):=by
 have h0:=h
 obtain ⟨ba,cap,rfl,hlc,hcm,hc⟩:=h
 have H:=Lib.hid h0;clear h0
 have HC:=Lib.hid hc;clear hc
 have HL:=Lib.hid hl;clear hl
 have HM:=Lib.hid (Nat.le_trans hlc hcm);clear hlc hcm
 have hq:=fun wx=>Lib.run_eql_slice_nil (P:=Try.prog) wx 39 _ ba l.length cap 0 0 Try.underlying39
 rcases ba with _ | ba
 ·have hl0:l=[]:=by
   rcases HC.out with h | ⟨_,_,h,_⟩
   ·exact h
   ·cases h
  have HL0:=Lib.hid hl0;clear hl0
  go_enter Try.func40,Try.ntmps40
  go_wp2
  go_ret
  exact ⟨_,rfl,Or.inl ⟨HL0.out,none,rfl,Or.inl rfl⟩,Below.refl _ _⟩
 ·go_enter Try.func40,Try.ntmps40
  go_wp2_with (at_builtin;refine wpList_append_emptyT rfl (.tmp 5) (.tmp 6) rfl tS D.Sh.ok rfl rfl (H.out.below (below_box _ _)) HL.out HM.out ?_;intro v' w' hb ho)
  have HO:=Lib.hid ho;clear ho
  go_wp2
  go_ret
  refine ⟨v',rfl,?_,below_from (hb.mono (by simp))⟩
  rcases HO.out with ⟨h1,h2⟩ | ⟨h1,h2⟩
  ·exact Or.inl ⟨h1,_,h2,Or.inr ⟨_,rfl⟩⟩
  ·exact Or.inr ⟨h1,ownsRow_base h2 (by simp)⟩
theorem tA:ElemT Try.prog 38 47 7 56:=by
 refine ⟨Try.underlying38,?_,by decide⟩
 obtain ⟨i0,hi,hz0,hz1,hz2⟩:=info_parts (show (Try.prog.info? 47).map (fun i=>(i.zero,i.size,i.bytes))=some (some (.agg #[.int .i64 0,.int .i64 0,.int .i64 0,.int .i64 0,.int .u64 0,.int .u64 0,.int .u64 0]),7,56) by kernel_rfl)
 exact ⟨i0,_,hi,hz0,hz1,hz2,rfl⟩
set_option maxRecDepth 100000 in
set_option maxHeartbeats 400000 in
theorem clone_A {v:Value} {l:List D.Ac} {w:World} (h:Arr w D.Ac.enc 7 v l) (hl:l.length * 56≤140737488355328) :
  Calls Try.prog 54 #[v] w (RetCl w 47 D.Ac.enc 7 l):=by
 have h0:=h
 obtain ⟨ba,cap,rfl,hlc,hcm,hc⟩:=h
 have H:=Lib.hid h0;clear h0
 have HC:=Lib.hid hc;clear hc
 have HL:=Lib.hid hl;clear hl
 have HM:=Lib.hid (Nat.le_trans hlc hcm);clear hlc hcm
 have hq:=fun wx=>Lib.run_eql_slice_nil (P:=Try.prog) wx 38 _ ba l.length cap 0 0 Try.underlying38
 rcases ba with _ | ba
 ·have hl0:l=[]:=by
   rcases HC.out with h | ⟨_,_,h,_⟩
   ·exact h
   ·cases h
  have HL0:=Lib.hid hl0;clear hl0
  go_enter Try.func54,Try.ntmps54
  go_wp2
  go_ret
  exact ⟨_,rfl,Or.inl ⟨HL0.out,none,rfl,Or.inl rfl⟩,Below.refl _ _⟩
 ·go_enter Try.func54,Try.ntmps54
  go_wp2_with (at_builtin;refine wpList_append_emptyT rfl (.tmp 5) (.tmp 6) rfl tA D.Ac.ok rfl rfl (H.out.below (below_box _ _)) HL.out HM.out ?_;intro v' w' hb ho)
  have HO:=Lib.hid ho;clear ho
  go_wp2
  go_ret
  refine ⟨v',rfl,?_,below_from (hb.mono (by simp))⟩
  rcases HO.out with ⟨h1,h2⟩ | ⟨h1,h2⟩
  ·exact Or.inl ⟨h1,_,h2,Or.inr ⟨_,rfl⟩⟩
  ·exact Or.inr ⟨h1,ownsRow_base h2 (by simp)⟩
open Z in
theorem Z.retN_of {α:Type} {w:World} {e:TypeId} {enc:α→List Value} {s:Nat} {l:List α} {d:α} (T:EncT enc s) {r:Ending} {w' : World} (h:RetCl w e enc s l r w'):Z.RetN w 1 (Z.lsT s l.length) (Z.lsO e s enc l d) r w':=by
 obtain ⟨v',rfl,ho,hb⟩:=h
 have hnil:∀ ba,(ba=none∨∃ b,ba=some ⟨b,0,none⟩)→l=[]→v' = .slice ba 0 0→Z.RetN w 1 (Z.lsT s l.length) (Z.lsO e s enc l d) (.returned v') w':=by
  rintro ba hba rfl rfl
  refine ⟨_,rfl,hb,fun b=>⟨⟨fun _=>(ba.map (·.block)).getD 0,fun _=>0,fun _=>ba.isNone,fun _=>.bool true⟩,fun _=>rfl,fun E2 hE2=>?_⟩⟩
  obtain ⟨h1,h2,h3,h4⟩:=hE2 (b,0,0) ⟨Nat.le_refl _,Nat.lt_succ_self _⟩
  have h1:E2.ρ (b,0,0)=(ba.map (·.block)).getD 0:=h1
  have h2:E2.κ (b,0,0)=0:=h2
  have h3:E2.ν (b,0,0)=ba.isNone:=h3
  refine ⟨?_,fun _=>Z.emp,fun x c hx=>?_,fun _ _ _ _ _ _ _ n=>Or.inl rfl,fun x c _ n o hn=>by cases hn⟩
  ·rcases hba with rfl | ⟨q,rfl⟩ <;> simp [Z.lsT,Z.SV.den,Z.SC.den,h1,h2,h3]
  ·rcases Z.atN_one hx with ⟨rfl,rfl⟩ | hx
   ·exact Or.inl ⟨trivial,h2,rfl,rfl⟩
   ·exact (Z.atN_nil hx).elim
 rcases ho with ⟨h0,ba,hv1,hv2⟩ | ⟨hl,ho⟩
 ·exact hnil ba hv2 h0 hv1
 have hA:=OwnE.arr T (Or.inr ho)
 obtain ⟨hlen,⟨rfl,h0⟩ | ⟨g,cap,cur,rfl,hBg,hg,hnc,hcm,hcs,htk⟩⟩:=ho
 ·exact hnil none (Or.inl rfl) (List.eq_nil_of_length_eq_zero h0) rfl
 refine ⟨_,rfl,hb,fun b=>⟨⟨fun _=>g,fun _=>cap,fun _=>false,fun _=>.bool true⟩,fun _=>rfl,fun E2 hE2=>?_⟩⟩
 obtain ⟨h1,h2,h3,h4⟩:=hE2 (b,0,0) ⟨Nat.le_refl _,Nat.lt_succ_self _⟩
 have h1:E2.ρ (b,0,0)=g:=h1
 have h2:E2.κ (b,0,0)=cap:=h2
 have h3:E2.ν (b,0,0)=false:=h3
 have hpos:0<cap:=by have:=List.length_pos_iff.2 hl;omega
 refine ⟨by simp [Z.lsT,Z.SV.den,Z.SC.den,h1,h2,h3],fun x=>Z.sing g (.cells cur e (0,0)),fun x c hx=>?_,fun x y c d hx hy hne n=>?_,fun x c hx n o hn=>?_⟩
 ·rcases Z.atN_one hx with ⟨rfl,rfl⟩ | hx
  ·refine Or.inr ⟨h3,by rw [h2];exact ⟨hnc,hpos⟩,by rw [h2];exact hcm,cur,by rw [h1],by rw [h2];exact hcs,fun k hk=>⟨by simp [Z.ats,T.len],fun j u hu=>?_⟩⟩
   simp only [Z.ats,List.getElem?_map,Option.map_eq_some_iff] at hu
   obtain ⟨u',hu',rfl⟩:=hu
   obtain ⟨ba,cp,e1,_,_,hc⟩:=hA
   rcases hc with hc | ⟨b0,off,e2,hc⟩
   ·exact absurd hc hl
   ·cases e1
    cases e2
    have:=hc k (l.getD k d) (by rw [List.getD_eq_getElem?_getD,List.getElem?_eq_getElem hk];rfl) j u' hu'
    rw [cell_of_row w' _ _ _ e (0,0) hg,Nat.zero_add] at this
    exact ⟨by rw [Z.den_v];exact this,by rw [Z.den_v];exact T.one _ _ (List.mem_of_getElem? hu')⟩
  ·exact (Z.atN_nil hx).elim
 ·rcases Z.atN_one hx with ⟨rfl,rfl⟩ | hx
  ·rcases Z.atN_one hy with ⟨rfl,rfl⟩ | hy
   ·exact absurd rfl hne
   ·exact (Z.atN_nil hy).elim
  ·exact (Z.atN_nil hx).elim
 ·simp only [Z.sing] at hn
  by_cases e:n=g
  ·subst e
   simp at hn
   subst hn
   exact ⟨hg,hBg⟩
  ·simp [e] at hn
end Go.Proofs.Ytcloeignccpljaa
namespace Go.Proofs.Ytcloeignccpljaa.Z
open Go Go.RowKit
def EffU (w:World) (E:Env) (D:Nat→Prop) (n0:Nat) (W:Nat→Prop) (T:Nat→SV) (nx:Nat) (eff:Nat→Own) (e:Ending) (w' : World):Prop :=
 ∃ v,e = .returned v∧Frame0 w.heap.size W w w'∧∀ b,n0≤b→∃ N:Env,OneC N∧∀ E2,AgreeD D E E2→AgreeD (NewIds b nx) N E2→v=(T b).den E2 ∧
  ∃ H:Nm→PH,(∀ x c,atN (eff b) x=some c→c.den E2 x (H x))∧(∀ x y c d,atN (eff b) x=some c→atN (eff b) y=some d→x≠y→∀ n,H x n=none∨H y n=none) ∧
   ∀ x c,atN (eff b) x=some c→∀ n o,H x n=some o→w'.heap[n]? = some o∧(w.heap.size≤n∨W n)
theorem retEffU {P:Program} {w:World} {E:Env} {D:Nat→Prop} {n0:Nat} {W:Nat→Prop} {rs:List RS} {T:Nat→SV} {v:SV} {nx:Nat} {S2:St} (σ:Nat→Nm→Nm) (eff1:Nat→Own) (hD:∀ i,D i→i<n0)
  (hf:AgF n0 E∈S2.facts) (hv:∀ b,n0≤b→v=(T b).ren (σ b)∧(T b).okN (fun i=>D i∨NewIds b nx i)) (hσ0:∀ b,n0≤b→∀ x:Nm,D x.1→σ b x=x)
  (ho:∀ b,n0≤b→OwnLe (fun i=>D i∨NewIds b nx i) (σ b) S2.own (eff1 b)) (hi:∀ b,n0≤b→InjN (σ b) (eff1 b)):RetVC (mkO P w W rs (EffU w E D n0 W T nx eff1)) v S2:=by
 intro E1 a w' hs
 have hs:=hs.sat
 obtain ⟨H,hH,hF⟩:=hs.mem
 have hag:AgreeD (· < n0) E E1:=(hF w' fun _ _ _=>rfl).2 (AgF n0 E) hf
 refine ⟨_,rfl,hs.frame,fun b hb=>⟨E1.via (σ b),fun x=>hs.one _,fun E2 hE2 hN2=>?_⟩⟩
 have hR:∀ x:Nm,(D x.1∨NewIds b nx x.1)→SameR (σ b) E1 E2 x:=fun x hx=>by
  rcases hx with hx | hx
  ·have h1:=hag x (hD _ hx)
   have h2:=hE2 x hx
   unfold SameR
   rw [hσ0 b hb x hx]
   exact ⟨h2.1.trans h1.1.symm,h2.2.1.trans h1.2.1.symm,h2.2.2.1.trans h1.2.2.1.symm,h2.2.2.2.trans h1.2.2.2.symm⟩
  ·exact hN2 x hx
 have hat:∀ x c,atN (eff1 b) x=some c→(D x.1∨NewIds b nx x.1)∧∃ d,atN S2.own (σ b x)=some d∧BlkLe (fun i=>D i∨NewIds b nx i) (σ b) d c:=fun x c hx=>ownLe_at (ho b hb) hx
 refine ⟨by rw [sv_ren hR (T b) (hv b hb).2,← (hv b hb).1],fun x=>H (σ b x),fun x c hx=>?_,fun x y c d hx hy hne n=>?_,fun x c hx n o hn=>?_⟩
 ·obtain ⟨h1,d,h2,h3⟩:=hat x c hx
  exact blk_le hR h1 h3 (hH.den _ _ h2)
 ·obtain ⟨_,d1,g2,_⟩:=hat x c hx
  obtain ⟨_,d2,k2,_⟩:=hat y d hy
  exact hH.disj _ _ d1 d2 g2 k2 (fun e=>hne (hi b hb x y c d hx hy e)) n
 ·obtain ⟨_,d1,g2,_⟩:=hat x c hx
  exact hH.sub _ d1 g2 n o hn
def x1 (x:Nat) (y:Nm):Nm:=if y.1=1 then (x,y.2) else y
theorem cr_U1 {C:Ctx} {S:St} {f:Nat} {vs:List SV} {T:Nat→SV} {nx:Nat} {O:Nat→Own} {O' : Own} (x:Nat) (hx:x<S.nid) (h2:2≤S.nid) (hT:(T S.nid).ren id=T S.nid∧(T S.nid).okN (NewIds S.nid nx))
  (ho:OwnLe (fun i=>i=x∨NewIds S.nid nx i) (idσ fun i=>if i=x then 1 else i) (O S.nid) O') (hnew:∀ i∈keysL O',S.nid≤i)
  (hc:∀ E a w,Sat C.B C.W C.w0 E S a w→∃ (E0:Env) (W:Nat→Prop),(∀ n,¬ W n)∧(∀ y:Nm,y.1=1→SameR (x1 x) E E0 y)∧Calls C.P f (vs.map (SV.den E)).toArray w (EffU w E0 (· = 1) 2 W T nx O)):CR C f vs S [x] (T S.nid) nx O' []:=by
 intro E a w hs
 obtain ⟨E0,W,hW,hE0,hcall⟩:=hc E a w hs
 refine hcall.mono ?_
 rintro e w' ⟨v,rfl,hfr,hN⟩
 obtain ⟨N,hN1,hN2⟩:=hN S.nid h2
 refine ⟨v,rfl,N,hN1,fun E2 hs2 hks hag=>?_⟩
 obtain ⟨h1,H,h3,h4,h5⟩:=hN2 (E2.via (x1 x)) (fun y hy=>by
  have g1:=hE0 y hy
  have g2:=hks (x,y.2) (List.mem_singleton.2 rfl)
  have e:x1 x y=(x,y.2):=if_pos hy
  unfold SameR at g1
  rw [e] at g1
  simp only [Env.via,Same,e]
  exact ⟨g2.1.trans g1.1.symm,g2.2.1.trans g1.2.1.symm,g2.2.2.1.trans g1.2.2.1.symm,g2.2.2.2.trans g1.2.2.2.symm⟩) (fun y hy=>by
  have hne:y.1≠1:=by have:=hy.1;omega
  have e:x1 x y=y:=if_neg hne
  simp only [Env.via,Same,e]
  exact hag y hy)
 have hR0:∀ y:Nm,NewIds S.nid nx y.1→SameR id (E2.via (x1 x)) E2 y:=fun y hy=>by
  have hne:y.1≠1:=by have:=hy.1;omega
  have e:x1 x y=y:=if_neg hne
  simp only [SameR,Env.via,id,e,and_self]
 have hR:∀ y:Nm,(y.1=x∨NewIds S.nid nx y.1)→SameR (idσ fun i=>if i=x then 1 else i) (E2.via (x1 x)) E2 y:=fun y hy=>by
  by_cases hyx:y.1=x
  ·have e:x1 x (idσ (fun i=>if i=x then 1 else i) y)=y:=by
    simp only [idσ,x1,hyx,if_true]
    exact Prod.ext hyx.symm rfl
   simp only [SameR,Env.via,e,and_self]
  ·rcases hy with hy | hy
   ·exact absurd hy hyx
   have hne:y.1≠1:=by have:=hy.1;omega
   have e:x1 x (idσ (fun i=>if i=x then 1 else i) y)=y:=by
    simp only [idσ,x1,hyx,if_false,hne]
   simp only [SameR,Env.via,e,and_self]
 have hat:∀ y c,atN O' y=some c→S.nid≤y.1∧∃ d,atN (O S.nid) (idσ (fun i=>if i=x then 1 else i) y)=some d∧BlkLe (fun i=>i=x∨NewIds S.nid nx i) (idσ fun i=>if i=x then 1 else i) d c:=fun y c hy=>by
  obtain ⟨F,hF,_⟩:=atN_some hy
  exact ⟨hnew _ (look_keysL hF),(ownLe_at ho hy).2⟩
 have hid:∀ y:Nm,S.nid≤y.1→idσ (fun i=>if i=x then 1 else i) y=y:=fun y hy=>by
  have:y.1≠x:=by omega
  simp only [idσ,this,if_false]
 refine ⟨by rw [h1,sv_ren hR0 (T S.nid) hT.2,hT.1],Fits.G ⟨fun _ _=>⟨hfr.os,hfr.tape,hfr.output,hfr.size,fun n hn _=>hfr.keep n hn (hW n),fun y=>H y,fun y c hy=>?_,fun y z c d hy hz hne n=>?_,fun y c hy n o hn=>?_⟩,fun _ _ x A hA=>by simp [atN,look] at hA⟩⟩
 ·obtain ⟨g0,d,g1,g2⟩:=hat y c hy
  have:=h3 _ d g1
  rw [hid y g0] at this
  exact blk_le (x:=y) hR (ownLe_at ho hy).1 g2 (by rw [hid y g0];exact this)
 ·obtain ⟨g0,d1,g1,_⟩:=hat y c hy
  obtain ⟨k0,d2,k1,_⟩:=hat z d hz
  rw [hid y g0] at g1
  rw [hid z k0] at k1
  exact h4 _ _ d1 d2 g1 k1 hne n
 ·obtain ⟨g0,d1,g1,_⟩:=hat y c hy
  rw [hid y g0] at g1
  exact ⟨(h5 _ d1 g1 n o hn).1,Or.inl ((h5 _ d1 g1 n o hn).2.resolve_right (hW n))⟩
theorem cr_ownU {C:Ctx} {S:St} {f:Nat} {vs:List SV} {T:Nat→SV} {nx:Nat} {eff:Nat→Own} (n0:Nat) (own0:Own) (arrs0:List (Nat×Fm ArrF)) (hn0:n0≤S.nid) (hp:PlainO own0)
  (hown:OwnLe (· < n0) (idσ id) S.own own0) (harr:ArrsLe (· < n0) (idσ id) S.arrs arrs0) (hk:∀ x b,atN own0 x=some b→(look (eff S.nid) x.1).isSome=true)
  (hc:∀ E a w,Sat C.B C.W C.w0 E S a w→Handed w E n0 own0 arrs0→Calls C.P f (vs.map (SV.den E)).toArray w (EffU w E (· < n0) n0 (takesO E own0) T nx eff)):CR C f vs S (List.range n0) (T S.nid) nx (eff S.nid) []:=by
 intro E a w hs
 obtain ⟨H,hH,hF⟩:=hs.mem
 have hat:∀ x c,atN own0 x=some c→x.1<n0∧∃ d,atN S.own x=some d∧BlkLe (· < n0) (idσ id) d c:=fun x c hx=>ownLe_at hown hx
 have hand:Handed w E n0 own0 arrs0:=by
  refine ⟨hs.one,fun E' hE' ho'=>⟨H,fun x c hx=>?_,fun x y c d hx hy hne n=>?_,fun x c hx n o hn=>?_,fun w' hw'=>⟨fun x A hA=>?_,fun φ hφ=>?_⟩⟩⟩
  ·obtain ⟨h1,d,h2,h3⟩:=hat x c hx
   exact blk_le (σ:=idσ id) (fun y hy=>hE' y hy) h1 h3 (hH.den _ _ h2)
  ·obtain ⟨_,d1,g1,_⟩:=hat x c hx
   obtain ⟨_,d2,g2,_⟩:=hat y d hy
   exact hH.disj x y d1 d2 g1 g2 hne n
  ·obtain ⟨_,d1,g1,g3⟩:=hat x c hx
   refine ⟨(hH.sub x d1 g1 n o hn).1,x,c,hx,?_⟩
   obtain ⟨k1,k2⟩:=blkLe_plain g3 (hp x c hx)
   exact (k2 E x n).1 ((takes_iff k1 (hH.den x d1 g1)).1 (by rw [hn];simp))
  ·obtain ⟨h1,A0,h2,h3,h4,h5,h6⟩:=arrsLe_at harr hA
   have hold:=hF w' fun n hn hfr=>hw' n hn fun x c hx=>by
    obtain ⟨_,d1,g1,_⟩:=hat x c hx
    exact hfr x d1 g1
   obtain ⟨ba,cap,g1,g2,g3,g4⟩:=hold.1 x A0 h2
   have hR:∀ y:Nm,y.1<n0→SameR (idσ id) E E' y:=fun y hy=>hE' y hy
   refine ⟨ba,cap,by rw [(hR x h1).2.2.2];exact g1.trans (by rw [h3]),by omega,g3,?_⟩
   rcases g4 with g4 | ⟨b,off,rfl,gl,g4⟩
   ·exact Or.inl (by omega)
   ·refine Or.inr ⟨b,off,rfl,Nat.le_trans h6 gl,fun k hk=>?_⟩
    obtain ⟨f1,f2⟩:=g4 k (by omega)
    obtain ⟨e1,e2⟩:=h5 k hk
    rw [e1] at f1 f2
    refine ⟨by rw [renL_eq,List.length_map] at f1;omega,fun j q hq=>?_⟩
    have:=f2 j _ (mem_renL hq)
    rw [den_ren hR q (okL_mem e2 hq),← h4]
    exact this
  ·simp only [List.mem_singleton] at hφ
   subst hφ
   exact hE'
 refine (hc E a w hs hand).mono ?_
 rintro e w' ⟨v,rfl,hfr,hN⟩
 obtain ⟨N,hN1,hN2⟩:=hN S.nid hn0
 refine ⟨v,rfl,N,hN1,fun E2 hs2 hks hag=>?_⟩
 have hE2:AgreeD (· < n0) E E2:=fun x hx=>hks x (List.mem_range.2 hx)
 obtain ⟨h1,H',h2,h3,h4⟩:=hN2 E2 hE2 hag
 refine ⟨h1,Fits.G ⟨fun H2 hH2=>?_,fun _ _ x A hA=>by simp [atN,look] at hA⟩⟩
 have htk:∀ x c,atN own0 x=some c→∃ d,atN S.own x=some d∧∀ n,H2 x n≠none↔takes E x c n:=fun x c hx=>by
  obtain ⟨k0,d,g1,g3⟩:=hat x c hx
  obtain ⟨k1,k2⟩:=blkLe_plain g3 (hp x c hx)
  refine ⟨d,g1,fun n=>?_⟩
  rw [takes_iff k1 (hH2.den x d g1),k2 E2 x n,takes_same (hE2 x k0)]
 refine ⟨hfr.os,hfr.tape,hfr.output,hfr.size,fun n hn hfree=>hfr.keep n hn ?_,H',h2,h3,fun x c hx n o hn=>⟨(h4 x c hx n o hn).1,(h4 x c hx n o hn).2.imp id ?_⟩⟩
 ·rintro ⟨x,c,hx,ht⟩
  obtain ⟨d,g1,g2⟩:=htk x c hx
  exact (g2 n).2 ht (hfree x d (hk x c hx) g1)
 ·rintro ⟨y,c,hy,ht⟩
  obtain ⟨d,g1,g2⟩:=htk y c hy
  exact ⟨y,d,hk y c hy,g1,(g2 n).2 ht⟩
theorem le_fam0 {C:Ctx} {nt:Nat} {tmps:List (Nat×SV)} {own:Own} {arrs:List (Nat×Fm ArrF)} {facts:List (Env→World→Prop)} {nid:Nat} (n:Nat) (hn:look own nid=none) :
  Le C ⟨nt,tmps,own,arrs,facts,nid⟩ ⟨nt,tmps,(nid,.fam n fun _=>.no) :: own,arrs,facts,nid+1⟩:=by
 intro E a w hs
 refine ⟨E,hs.1,fun E2 hE2 ho2=>?_⟩
 have hs2:=hs.2 E2 (fun x hx=>hE2 x (Nat.lt_succ_of_lt hx)) ho2
 obtain ⟨H,hH,hF⟩:=hs2.mem
 have hat:∀ x b,atN own x=some b→x.1≠nid:=fun x b h e=>by
  obtain ⟨F,hF,_⟩:=atN_some h
  rw [e,hn] at hF
  cases hF
 have hone:∀ x b,atN ((nid,.fam n fun _=>Blk.no) :: own) x=some b→(x.1=nid∧b = .no)∨atN own x=some b:=fun x b h=>by
  obtain ⟨F,hF,hg⟩:=atN_some h
  rw [look_cons] at hF
  split at hF
  ·next e =>
   cases hF
   simp only [Fm.get] at hg
   split at hg
   ·cases hg;exact Or.inl ⟨e.symm,rfl⟩
   ·cases hg
  ·exact Or.inr (by unfold atN;rw [hF];exact hg)
 refine ⟨hs2.size,hs2.defers,ho2,hs2.tmps,hs2.frame,fun x=>if x.1=nid then emp else H x,⟨fun x b hb=>?_,fun x y b c hb hc hne n=>?_,fun x b hb n o hn=>?_⟩,fun w' hw'=>?_⟩
 ·rcases hone x b hb with ⟨e,rfl⟩ | hb
  ·simp only [e,if_true];rfl
  ·simp only [hat x b hb,if_false]
   exact hH.den x b hb
 ·rcases hone x b hb with ⟨e,rfl⟩ | hb
  ·simp [e,emp]
  ·rcases hone y c hc with ⟨e,rfl⟩ | hc
   ·simp [e,emp]
   ·simp only [hat x b hb,hat y c hc,if_false]
    exact hH.disj x y b c hb hc hne n
 ·rcases hone x b hb with ⟨e,rfl⟩ | hb
  ·simp [e,emp] at hn
  ·simp only [hat x b hb,if_false] at hn
   exact hH.sub x b hb n o hn
 ·exact hF w' fun n hn hfr=>hw' n hn fun x b hb=>by
   rcases hone x b hb with ⟨e,rfl⟩ | hb
   ·simp [e,emp]
   ·simp only [hat x b hb,if_false]
    exact hfr x b hb
end Go.Proofs.Ytcloeignccpljaa.Z
namespace Go.Proofs.Ytcloeignccpljaa.Z
open Go Go.RowKit
def ir49:IR:=(.seq (.ops [⟨(some 2),(.mv (.k (.c (.v (.pointer none))))),none⟩,⟨(some 3),(.mv (.k (.c (.v (.int .i64 0))))),none⟩]) (.kill [1,2,3,4,5,6,7,8,9,10,11] (.seq (.seq (.ops [⟨(some 4),(.mv (.t 0)),none⟩,⟨(some 5),(.len (.t 4)),none⟩,⟨(some 6),(.bin .gtr (.t 5) (.k (.c (.v (.int .i64 8192))))),none⟩]) (.kill [4,5] (.cond (.t 6) (.seq (.ops [⟨(some 2),(.mv (.k (.c (.v (.pointer none))))),none⟩,⟨(some 3),(.mv (.k (.c (.v (.int .i64 3))))),none⟩]) (.kill [0,6] .ret)) .skip))) (.kill [2,3,6] (.seq (.ops [⟨(some 7),(.mv (.t 0)),none⟩,⟨(some 8),(.call 52 [(.t 7)]),none⟩,⟨(some 9),(.build [(.v (.slice none 0 0)),(.v (.slice none 0 0)),(.v (.slice none 0 0)),(.v (.int .i64 0))] [(0,(1,(.t 8)))]),none⟩,⟨(some 10),(.box 140 (.t 9)),none⟩,⟨(some 2),(.mv (.t 10)),none⟩,⟨(some 3),(.mv (.k (.c (.v (.int .i64 0))))),none⟩]) (.kill [0,7,8,9,10] .ret))))))
def rs49:List RS:=[(.t 2),(.t 3)]
def nt49:Nat:=11
def ir36:IR:=(.seq (.ops [⟨(some 6),(.mv (.k (.c (.v (.pointer none))))),none⟩,⟨(some 7),(.mv (.k (.c (.v (.int .i64 0))))),none⟩]) (.kill [3,4,5,6,7,8,9,10,11] (.seq (.seq (.ops [⟨(some 11),(.mv (.t 0)),none⟩,⟨(some 12),(.bin .lss (.t 11) (.k (.c (.v (.int .i64 1))))),none⟩,⟨(some 13),(.mv (.t 12)),none⟩,⟨(some 14),(.mv (.t 0)),(some (13,false))⟩,⟨(some 15),(.bin .gtr (.t 14) (.k (.c (.v (.int .i64 16))))),(some (13,false))⟩,⟨(some 16),(.pick (.t 13) (.k (.c (.v (.bool true)))) (.t 15)),none⟩]) (.kill [11,12,13,14,15] (.cond (.t 16) (.seq (.ops [⟨(some 6),(.mv (.k (.c (.v (.pointer none))))),none⟩,⟨(some 7),(.mv (.k (.c (.v (.int .i64 1))))),none⟩]) (.kill [0,1,2,16] .ret)) .skip))) (.kill [6,7,16] (.seq (.ops [⟨(some 18),(.mv (.t 1)),none⟩,⟨(some 19),(.call 49 [(.t 18)]),none⟩,⟨(some 17),(.mv (.t 19)),none⟩,⟨(some 20),(.ext 0 (.t 17)),none⟩,⟨(some 21),(.ext 1 (.t 17)),none⟩,⟨(some 8),(.mv (.t 20)),none⟩,⟨(some 9),(.mv (.t 21)),none⟩]) (.kill [1,17,18,19,20,21] (.seq (.seq (.ops [⟨(some 22),(.mv (.t 9)),none⟩,⟨(some 23),(.bin .neq (.t 22) (.k (.c (.v (.int .i64 0))))),none⟩]) (.kill [22] (.cond (.t 23) (.seq (.ops [⟨(some 24),(.mv (.t 9)),none⟩,⟨(some 6),(.mv (.k (.c (.v (.pointer none))))),none⟩,⟨(some 7),(.mv (.t 24)),none⟩]) (.kill [0,2,8,9,23,24] .ret)) .skip))) (.kill [6,7,9,23] (.seq (.ops [⟨(some 25),(.mv (.t 8)),none⟩,⟨(some 26),(.build [(.v (.pointer none)),(.v (.int .i64 0)),(.v (.int .i64 0)),(.v (.pointer none)),(.v (.pointer none)),(.v (.bool false)),(.v (.slice none 0 0))] [(0,(1,(.t 25)))]),none⟩,⟨(some 27),(.mv (.t 2)),none⟩,⟨(some 28),(.build [(.v (.pointer none)),(.v (.int .i64 0)),(.v (.int .i64 0)),(.v (.pointer none)),(.v (.pointer none)),(.v (.bool false)),(.v (.slice none 0 0)),(.v (.map none)),(.v (.slice none 0 0)),(.v (.int .i64 0)),(.v (.slice none 0 0))] [(0,(7,(.t 26))),(7,(1,(.t 27)))]),none⟩,⟨(some 29),(.box 113 (.t 28)),none⟩,⟨(some 10),(.mv (.t 29)),none⟩]) (.kill [2,8,25,26,27,28,29] (.seq (.seq (.ops [⟨(some 30),(.mv (.t 0)),none⟩,⟨(some 31),(.mv (.k (.c (.v (.int .i64 0))))),none⟩]) (.kill [0] (.blk 0 (.loop (.seq (.ops [⟨(some 32),(.bin .lss (.t 31) (.t 30)),none⟩]) (.kill [33,34,35,36,37,38,39,40,41,42,43] (.seq (.cond (.t 32) .skip (.exit 0)) (.kill [32] (.seq (.blk 1 (.ops [⟨(some 33),(.mv (.t 10)),none⟩,⟨(some 34),(.mv (.t 10)),none⟩,⟨(some 35),(.nilck (.t 34)),none⟩,⟨(some 36),(.fa 8 (.t 35)),none⟩,⟨(some 37),(.ld false 1 (.t 36)),none⟩,⟨(some 38),(.build [(.v .nilIface),(.v (.bool false)),(.v (.int .i64 0)),(.v (.int .i64 0)),(.v (.int .i64 0))] [(2,(1,(.k (.c (.v (.int .i64 (-1)))))))]),none⟩,⟨(some 39),(.mkSl 116 1 5 [(.v .nilIface),(.v (.bool false)),(.v (.int .i64 0)),(.v (.int .i64 0)),(.v (.int .i64 0))] [(0,(5,(.t 38)))]),none⟩,⟨(some 40),(.app 116 5 48 [(.v .nilIface),(.v (.bool false)),(.v (.int .i64 0)),(.v (.int .i64 0)),(.v (.int .i64 0))] (.t 37) (.t 39)),none⟩,⟨(some 41),(.nilck (.t 33)),none⟩,⟨(some 42),(.fa 8 (.t 41)),none⟩,⟨none,(.st 1 (.t 42) (.t 40)),none⟩])) (.kill [33,34,35,36,37,38,39,40,41,42] (.ops [⟨(some 43),(.bin .add (.t 31) (.k (.c (.v (.int .i64 1))))),none⟩,⟨(some 31),(.mv (.t 43)),none⟩]))))))))))) (.kill [30,31,32,33,34,35,36,37,38,39,40,41,42,43] (.seq (.ops [⟨(some 44),(.mv (.t 10)),none⟩,⟨(some 6),(.mv (.t 44)),none⟩,⟨(some 7),(.mv (.k (.c (.v (.int .i64 0))))),none⟩]) (.kill [10,44] .ret))))))))))))))
def rs36:List RS:=[(.t 6),(.t 7)]
def nt36:Nat:=45
def memC (b n:Nat):List SC:=[.sl (b,0,0) 1 0 n none,.v (.slice none 0 0),.v (.slice none 0 0),iI 0]
def ptT (b:Nat):SV:=.tup [(false,[.ptr (b,0,0) 0]),(false,[iI 0])]
def mnO (n:Nat) (f:Nat→List SC) (b:Nat):Own:=[(b,.one (.bk (memC (b+1) n) 140)),(b+1,.one (.ar n 1 f 44))]
set_option maxRecDepth 100000 in
set_option maxHeartbeats 400000 in
theorem memnew_calls (w:World) (v:Value) (ws:List Int) (h:Arr w eU 1 v ws) (hl:ws.length≤8192):Calls Try.prog 49 #[v] w (RetN w 2 ptT (mnO ws.length (ats eU ws 0))):=by
 refine enter1 (A:=[]) (c:=ir49) (rs:=rs49) (nt:=nt49) 0 eU_ok h [.c (.xv (0,0,0))] _ Try.func49 rfl (by kernel_rfl) (by kernel_rfl) rfl (fun E' h0=>by simp [SV.den,SC.den,h0]) (of_decide_eq_true rfl) ?_
 have h1:decide ((ws.length:Int)>8192)=false:=decide_eq_false (by omega)
 simp (maxSteps:=2000000) only [ir49,nt49,rs49,go_sem,↓condS,↓runOp,↓imp_ft,↓imp_ff,↓reduceIte,Nat.reduceLT,Nat.reduceEqDiff,reduceCtorEq,h1]
 refine callN 1 (lsT 1 ws.length) (lsO 44 1 eU ws 0) (fun E a w' hs=>(clone_U (arr_at (d:=0) hs 0 rfl) (by omega)).mono fun e w2 he=>retN_of (d:=0) eU_ok he) ?_
 simp (maxSteps:=2000000) only [go_sem,↓runOp,↓reduceIte,Nat.reduceLT,Nat.reduceLeDiff,Nat.reduceAdd,Nat.reduceEqDiff,reduceCtorEq,lsT,lsO]
 refine retN (fun k=>2 - k) (fun b=>⟨by simp [ptT,SV.ren,SC.ren,SC.renL,ren1L,ren1,fromσ,iI],by simp [ptT,SV.okN,SC.okN,SC.okL,ok1L,NewIds,iI]⟩) (fun b=>?_) (fun b=>?_)
 ·refine ⟨⟨⟨by omega,by omega⟩,?_⟩,⟨⟨by omega,by omega⟩,?_⟩,trivial⟩
  ·simp [fromσ,atN,look,Fm.get,BlkLeO,BlkLe,memC,SC.renL,SC.ren,SC.okL,SC.okN,NewIds,iI]
  ·simp only [fromσ,Nat.add_sub_cancel_left,Nat.reduceSub,atN,look,Nat.reduceEqDiff,reduceIte,Fm.get,and_self];exact ⟨Nat.le_refl _,rfl,rfl,fun e he=>ats_rn e _ _⟩
 ·exact injN_from fun x hx y hy e=>by
   simp [mnO,keysL] at hx hy
   omega
def seat0 (_:Nat):List SC:=[.v .nilIface,.v (.bool false),iI (-1),iI 0,iI 0]
def nmC (b:Nat) (kit:SC) (n:Nat) (mv:Int):List SC:=[.ptr (b+1,0,0) 0,iI 0,iI 0,.v (.pointer none),.v (.pointer none),.v (.bool false),.v (.slice none 0 0),kit,.sl (b+3,0,0) 5 0 n none,iI mv,.v (.slice none 0 0)]
def nmO (kit:SC) (th n:Nat) (f:Nat→List SC) (b:Nat):Own:=[(b,.one (.bk (nmC b kit th 0) 113)),(b+1,.one (.bk (memC (b+2) n) 140)),(b+2,.one (.ar n 1 f 44)),(b+3,.one (.ar th 5 seat0 116))]
theorem app_seat {k:Nat} (e:Nat) (he:e<k+1):appAt k seat0 (fun e=>take' 5 (drop' (e * 5) [SC.v Value.nilIface,SC.v (Value.bool false),SC.v (Value.int IntKind.i64 (-1)),SC.v (Value.int IntKind.i64 0),SC.v (Value.int IntKind.i64 0)])) e=seat0 e:=by
 unfold appAt
 by_cases h:e<k
 ·rw [if_pos h]
 ·rw [if_neg h]
  have:e - k=0:=by omega
  rw [this];rfl
def nmσ (b i:Nat):Nat:=if i=b then 4 else if i=b+1 then 2 else if i=b+2 then 3 else if i=b+3 then 5 else i
theorem nmσ_0 {b:Nat}:nmσ b b=4:=if_pos rfl
theorem nmσ_1 {b:Nat}:nmσ b (b+1)=2:=by simp [nmσ]
theorem nmσ_2 {b:Nat}:nmσ b (b+2)=3:=by simp [nmσ]
theorem nmσ_3 {b:Nat}:nmσ b (b+3)=5:=by simp [nmσ]
theorem nmσ_lt {b i:Nat} (h:i<b):nmσ b i=i:=by unfold nmσ;rw [if_neg (by omega),if_neg (by omega),if_neg (by omega),if_neg (by omega)]
theorem injN_idσ {τ:Nat→Nat} {own:Own} (h:∀ i∈keysL own,∀ j∈keysL own,τ i=τ j→i=j):InjN (idσ τ) own:=by
 intro x y b c hx hy e
 obtain ⟨F,hF,_⟩:=atN_some hx
 obtain ⟨G,hG,_⟩:=atN_some hy
 unfold idσ at e
 simp only [Prod.mk.injEq] at e
 exact Prod.ext (h _ (look_keysL hF) _ (look_keysL hG) e.1) e.2
theorem handed_list {α:Type} {enc:α→List Value} {sz:Nat} {xs:List α} {d:α} {v:Value} {w:World} {E0:Env} (T:EncT enc sz) (ho:OneC E0) (hv:E0.χ (0,0,0)=v) (h:Arr w enc sz v xs):Handed w E0 2 [] [(0,.one (arrOf enc sz xs d))]:=by
 refine ⟨ho,fun E' hE' ho'=>⟨fun _=>emp,fun x c hx=>(atN_nil hx).elim,fun x y c d hx=>(atN_nil hx).elim,fun x c hx=>(atN_nil hx).elim,fun w' hw'=>⟨fun x A hA=>?_,fun φ hφ=>?_⟩⟩⟩
 ·rcases atN_one hA with ⟨rfl,rfl⟩ | hA
  ·exact arr1 T ((hE' (0,0,0) (show 0<2 by decide)).2.2.2.trans hv) h fun n hn=>hw' n hn fun x c hx=>(atN_nil hx).elim
  ·exact (atN_nil hA).elim
 ·simp only [List.mem_singleton] at hφ
  subst hφ
  exact hE'
set_option maxRecDepth 100000 in
set_option maxHeartbeats 400000 in
theorem machnew_own (w:World) (E:Env) (th:Nat) (ws:List Int) (h1:1≤th) (h2:th≤16) (hl:ws.length≤8192) (h:Handed w E 2 [] [(0,.one (arrOf eU 1 ws 0))]) :
  Calls Try.prog 36 (([.c (iI th),.c (.xv (0,0,0)),.c (.mp (1,0,0))]:List SV).map (SV.den E)).toArray w (EffU w E (· = 1) 2 (takesO E []) ptT 4 (nmO (.mp (1,0,0)) th ws.length (ats eU ws 0))):=by
 refine enterO (c:=ir36) (rs:=rs36) (nt:=nt36) h _ Try.func36 rfl (by kernel_rfl) (by kernel_rfl) rfl (by simp [okVs,SV.okN,SC.okN,iI]) (of_decide_eq_true rfl) ?_
 generalize hR:EffU w E _ 2 (takesO E []) _ 4 _=R
 generalize hW:takesO E []=W
 have d1:decide ((th:Int)<1)=false:=decide_eq_false (by omega)
 have d2:decide ((th:Int)>16)=false:=decide_eq_false (by omega)
 have hz:((0:Int) != 0)=false:=rfl
 simp (maxSteps:=2000000) only [ir36,nt36,rs36,go_sem,↓condS,↓gateS,↓runOp,↓imp_ft,↓imp_tt,↓imp_ff,↓reduceIte,Nat.reduceLT,Nat.reduceAdd,Nat.reduceEqDiff,reduceCtorEq,Int.reduceNeg,iI,d1,d2]
 refine callN 2 ptT (mnO ws.length (ats eU ws 0)) (fun E a w' hs=>memnew_calls w' _ ws (arr_at (d:=0) hs 0 rfl) hl) ?_
 simp (maxSteps:=2000000) only [go_sem,↓condS,↓runOp,↓imp_ft,↓imp_ff,↓reduceIte,Nat.reduceLT,Nat.reduceLeDiff,Nat.reduceAdd,Nat.reduceEqDiff,reduceCtorEq,Int.reduceNeg,ptT,mnO,memC,iI,hz]
 have hkl:∀ k:Nat,k<th→decide ((k:Int)<th)=true:=fun k hk=>decide_eq_true (by omega)
 refine loopI (ι:={ k:Nat // k≤th }) (fun k=>⟨45,[(10,.c (.ptr (4,0,0) 0)),(30,.c (iI th)),(31,.c (iI k.1))],
  [(2,.one (.bk (memC 3 ws.length) 140)),(3,.one (.ar ws.length 1 (ats eU ws 0) 44)),(4,.one (.bk [.ptr (2,0,0) 0,iI 0,iI 0,.v (.pointer none),.v (.pointer none),.v (.bool false),.v (.slice none 0 0),.mp (1,0,0),.sl (5,0,0) 5 0 k.1 none,iI 0,.v (.slice none 0 0)] 113)),(5,.one (.ar k.1 5 seat0 116))],[(0,.one (arrOf eU 1 ws 0))],[AgF 2 E],6⟩)
  (fun k=>th - k.1) ⟨0,by omega⟩ ?_ ?_
 ·refine le_tr (le_nilcell 4 5 116 113 _ [.ptr (2,0,0) 0,iI 0,iI 0,.v (.pointer none),.v (.pointer none),.v (.bool false),.v (.slice none 0 0),.mp (1,0,0),.sl (5,0,0) 5 0 0 none,iI 0,.v (.slice none 0 0)] seat0 rfl rfl (fun E h1 h2=>by simp [SC.den,h1,h2,iI])) ?_
  exact le_renF (id) rfl ⟨factA List.mem_cons_self (show 2≤6 by decide) (fun i hi=>rfl),trivial⟩ (by simp [TmpsLe,look,SV.ren,SC.ren,idσ,SV.okN,SC.okN,iI]) (own_bk (show 2<6 by decide) rfl (by simp [memC,SC.renL,SC.ren,idσ,iI]) (by simp [memC,SC.okL,SC.okN,iI]) (own_av (show 3<6 by decide) rfl (Nat.le_refl _) (fun _ _=>rfl) (own_bk (show 4<6 by decide) rfl (by simp [SC.renL,SC.ren,idσ,iI]) (by simp [SC.okL,SC.okN,iI]) (own_ar (show 5<6 by decide) rfl (Nat.le_refl _) (fun e he=>absurd he (Nat.not_lt_zero _)) trivial)))) ⟨⟨show 0<6 by decide,arrLe_of⟩,trivial⟩ rfl
 rintro ⟨k,hk⟩
 simp (maxSteps:=2000000) only [go_sem,↓condS,↓exitS,↓runOp,↓reduceIte,Nat.reduceLT,Nat.reduceLeDiff,Nat.reduceAdd,Nat.reduceMul,Nat.reduceEqDiff,Int.reduceNeg,mkO_rs,memC,iI]
 refine both (fun hlt=>?_) (fun hge=>?_)
 ·have hlt:k<th:=of_decide_eq_true hlt
  refine ⟨by decide,⟨Nat.le_refl _,by omega,by simp only [maxLen];omega⟩,?_⟩
  refine backI ⟨k+1,hlt⟩ (by simp only;omega) ?_
  exact le_renF (fun i=>if i=5 then 7 else i) rfl ⟨factA List.mem_cons_self (show 2≤6 by decide) (fun i hi=>if_neg (by omega)),trivial⟩ (by simp [TmpsLe,look,SV.ren,SC.ren,idσ,SV.okN,SC.okN,wrI (show -9223372036854775808≤(k:Int)+1∧(k:Int)+1≤9223372036854775807 by omega)]) (own_bk (show 2<6 by decide) rfl (by simp [SC.renL,SC.ren,idσ]) (by simp [SC.okL,SC.okN]) (own_av (show 3<6 by decide) rfl (Nat.le_refl _) (fun _ _=>rfl) (own_bk (show 4<6 by decide) rfl (by simp [SC.renL,SC.ren,idσ]) (by simp [SC.okL,SC.okN]) (own_ar (show 5<6 by decide) rfl (Nat.le_refl _) (fun e he=>⟨by rw [app_seat e he];rfl,by simp [seat0,SC.okL,SC.okN,iI]⟩) trivial)))) ⟨⟨show 0<6 by decide,arrLe_of⟩,trivial⟩ rfl
 have hge:k=th:=by have:=of_decide_eq_false hge;omega
 subst hge
 rw [← hR,← hW]
 refine retEffU (fun b=>idσ (nmσ b)) (nmO (.mp (1,0,0)) k ws.length (ats eU ws 0)) (fun i hi=>by omega) (by simp) (fun b hb=>⟨by simp [ptT,SV.ren,SC.ren,SC.renL,ren1L,ren1,idσ,nmσ_0,iI],by simp [ptT,SV.okN,SC.okN,SC.okL,ok1L,NewIds,iI]⟩) (fun b hb x hx=>by unfold idσ;rw [nmσ_lt (by omega)]) (fun b hb=>?_) (fun b hb=>?_)
 ·refine own_bk (Or.inr ⟨by omega,by omega⟩) (by rw [nmσ_0];rfl) (by simp [nmC,SC.renL,SC.ren,idσ,iI,nmσ_1,nmσ_3,nmσ_lt (show 1<b by omega)]) (by simp [nmC,SC.okL,SC.okN,NewIds,iI]) (own_bk (Or.inr ⟨by omega,by omega⟩) (by rw [nmσ_1];rfl) (by simp [memC,SC.renL,SC.ren,idσ,iI,nmσ_2]) (by simp [memC,SC.okL,SC.okN,NewIds,iI]) (own_av (Or.inr ⟨by omega,by omega⟩) (by rw [nmσ_2];rfl) (Nat.le_refl _) (fun _ _=>rfl) (own_ar (Or.inr ⟨by omega,by omega⟩) (by rw [nmσ_3];rfl) (Nat.le_refl _) (fun e he=>⟨rfl,by simp [seat0,SC.okL,SC.okN,iI]⟩) trivial)))
 ·refine injN_idσ fun i hi j hj e=>?_
  simp only [nmO,keysL,List.mem_cons,List.not_mem_nil,or_false] at hi hj
  unfold nmσ at e
  split at e <;> (try split at e) <;> (try split at e) <;> (try split at e) <;> (try split at e) <;> (try split at e) <;> (try split at e) <;> omega
end Go.Proofs.Ytcloeignccpljaa.Z
namespace Go.Proofs.Ytcloeignccpljaa.Z
open Go Go.RowKit
def ir12:IR:=(.seq (.ops [⟨(some 2),(.mv (.k (.c (.v (.int .i64 0))))),none⟩]) (.kill [1,2,3,4,5,6,7,8,9,10,11] (.seq (.ops [⟨(some 3),(.mv (.t 0)),none⟩,⟨(some 2),(.mv (.t 3)),none⟩]) (.kill [0,3] .ret))))
def rs12:List RS:=[(.t 2)]
def nt12:Nat:=4
def ir31:IR:=(.seq (.ops [⟨(some 1),(.box 23 (.t 0)),none⟩,⟨(some 2),(.mv (.k (.c (.v (.bool false))))),none⟩]) (.kill [0,2,3,4,5,6,7,8,9,10,11] (.seq (.ops [⟨(some 3),(.fa 0 (.t 1)),none⟩,⟨(some 4),(.ld false 1 (.t 3)),none⟩,⟨(some 5),(.bin .geq (.t 4) (.k (.c (.v (.int .i64 1))))),none⟩,⟨(some 6),(.mv (.t 5)),none⟩,⟨(some 7),(.fa 0 (.t 1)),(some (6,true))⟩,⟨(some 8),(.ld false 1 (.t 7)),(some (6,true))⟩,⟨(some 9),(.bin .leq (.t 8) (.k (.c (.v (.int .i64 16))))),(some (6,true))⟩,⟨(some 10),(.pick (.t 6) (.t 9) (.k (.c (.v (.bool false))))),none⟩,⟨(some 11),(.mv (.t 10)),none⟩,⟨(some 12),(.fa 1 (.t 1)),(some (11,true))⟩,⟨(some 13),(.ld false 1 (.t 12)),(some (11,true))⟩,⟨(some 14),(.bin .geq (.t 13) (.k (.c (.v (.int .i64 1))))),(some (11,true))⟩,⟨(some 15),(.pick (.t 11) (.t 14) (.k (.c (.v (.bool false))))),none⟩,⟨(some 16),(.mv (.t 15)),none⟩,⟨(some 17),(.fa 1 (.t 1)),(some (16,true))⟩,⟨(some 18),(.ld false 1 (.t 17)),(some (16,true))⟩,⟨(some 19),(.bin .leq (.t 18) (.k (.c (.v (.int .i64 256))))),(some (16,true))⟩,⟨(some 20),(.pick (.t 16) (.t 19) (.k (.c (.v (.bool false))))),none⟩,⟨(some 2),(.mv (.t 20)),none⟩]) (.kill [1,3,4,5,6,7,8,9,10,11,12,13,14,15,16,17,18,19,20] .ret))))
def rs31:List RS:=[(.t 2)]
def nt31:Nat:=21
def ir21:IR:=(.seq (.ops [⟨(some 1),(.box 23 (.t 0)),none⟩,⟨(some 2),(.mv (.k (.c (.v (.bool false))))),none⟩]) (.kill [0,2,3,4,5,6,7,8,9,10,11] (.seq (.ops [⟨(some 3),(.fa 0 (.t 1)),none⟩,⟨(some 4),(.ld false 1 (.t 3)),none⟩,⟨(some 5),(.bin .geq (.t 4) (.k (.c (.v (.int .i64 1))))),none⟩,⟨(some 6),(.mv (.t 5)),none⟩,⟨(some 7),(.fa 0 (.t 1)),(some (6,true))⟩,⟨(some 8),(.ld false 1 (.t 7)),(some (6,true))⟩,⟨(some 9),(.bin .leq (.t 8) (.k (.c (.v (.int .i64 16))))),(some (6,true))⟩,⟨(some 10),(.pick (.t 6) (.t 9) (.k (.c (.v (.bool false))))),none⟩,⟨(some 11),(.mv (.t 10)),none⟩,⟨(some 12),(.fa 1 (.t 1)),(some (11,true))⟩,⟨(some 13),(.ld false 1 (.t 12)),(some (11,true))⟩,⟨(some 14),(.bin .geq (.t 13) (.k (.c (.v (.int .i64 1))))),(some (11,true))⟩,⟨(some 15),(.pick (.t 11) (.t 14) (.k (.c (.v (.bool false))))),none⟩,⟨(some 16),(.mv (.t 15)),none⟩,⟨(some 17),(.fa 1 (.t 1)),(some (16,true))⟩,⟨(some 18),(.ld false 1 (.t 17)),(some (16,true))⟩,⟨(some 19),(.bin .leq (.t 18) (.k (.c (.v (.int .i64 256))))),(some (16,true))⟩,⟨(some 20),(.pick (.t 16) (.t 19) (.k (.c (.v (.bool false))))),none⟩,⟨(some 2),(.mv (.t 20)),none⟩]) (.kill [1,3,4,5,6,7,8,9,10,11,12,13,14,15,16,17,18,19,20] .ret))))
def rs21:List RS:=[(.t 2)]
def nt21:Nat:=21
def ir20:IR:=(.seq (.ops [⟨(some 1),(.box 23 (.t 0)),none⟩,⟨(some 2),(.mv (.k (.c (.v (.pointer none))))),none⟩,⟨(some 3),(.mv (.k (.c (.v (.int .i64 0))))),none⟩]) (.kill [0,2,3,4,5,6,7,8,9,10,11] (.seq (.seq (.ops [⟨(some 6),(.ld true 2 (.t 1)),none⟩,⟨(some 7),(.call 31 [(.t 6)]),none⟩,⟨(some 8),(.un .not (.t 7)),none⟩]) (.kill [6,7] (.cond (.t 8) (.seq (.ops [⟨(some 2),(.mv (.k (.c (.v (.pointer none))))),none⟩,⟨(some 3),(.mv (.k (.c (.v (.int .i64 210))))),none⟩]) (.kill [1,8] .ret)) .skip))) (.kill [2,3,8] (.seq (.ops [⟨(some 9),(.fa 1 (.t 1)),none⟩,⟨(some 10),(.ld false 1 (.t 9)),none⟩,⟨(some 11),(.build [(.v (.int .i64 0)),(.v (.int .i64 0)),(.v (.bool false)),(.v (.int .i64 0)),(.v (.int .i64 0))] [(0,(1,(.t 10)))]),none⟩,⟨(some 12),(.box 88 (.t 11)),none⟩,⟨(some 4),(.new 86 [(.v (.pointer none))]),none⟩,⟨none,(.st 1 (.t 4) (.t 12)),none⟩]) (.kill [9,10,11,12] (.seq (.ops [⟨(some 13),(.xmk 104),none⟩,⟨(some 14),(.mfn (.func 33) [] [(.t 4)]),none⟩,⟨none,(.xup 104 (.t 13) (.k (.c (.v (.int .i64 90)))) (.t 14)),none⟩,⟨(some 15),(.mfn (.func 34) [] [(.t 4)]),none⟩,⟨none,(.xup 104 (.t 13) (.k (.c (.v (.int .i64 91)))) (.t 15)),none⟩,⟨(some 16),(.mfn (.func 35) [] [(.t 4)]),none⟩,⟨none,(.xup 104 (.t 13) (.k (.c (.v (.int .i64 92)))) (.t 16)),none⟩,⟨(some 17),(.mv (.t 13)),none⟩,⟨(some 5),(.mv (.t 17)),none⟩]) (.kill [4,13,14,15,16,17] (.seq (.draw [(⟨(some 18),(.fa 0 (.t 1)),none⟩,([],[20,21,22,23,24])),(⟨(some 19),(.ld false 1 (.t 18)),none⟩,([],[20,21,22,23,24])),(⟨(some 20),(.fa 1 (.t 1)),none⟩,([0,1],[18,19,24])),(⟨(some 21),(.ld false 1 (.t 20)),none⟩,([0,1],[18,19,24])),(⟨(some 22),(.bin .add (.k (.c (.v (.int .i64 2)))) (.t 21)),none⟩,([0,1],[18,19,24])),(⟨(some 23),(.mks 44 1 8 [(.v (.int .u64 0))] (.t 22) (.t 22)),none⟩,([0,1],[18,19,24])),(⟨(some 24),(.mv (.t 5)),none⟩,([0,1,2,3,4,5],[18,19,20,21,22,23])),(⟨(some 25),(.call 36 [(.t 19),(.t 23),(.t 24)]),none⟩,([],[])),(⟨(some 26),(.ext 0 (.t 25)),none⟩,([],[27])),(⟨(some 27),(.ext 1 (.t 25)),none⟩,([8],[26])),(⟨(some 2),(.mv (.t 26)),none⟩,([],[])),(⟨(some 3),(.mv (.t 27)),none⟩,([],[]))]) (.kill [1,5,18,19,20,21,22,23,24,25,26,27] .ret))))))))))
def rs20:List RS:=[(.t 2),(.t 3)]
def nt20:Nat:=28
def iA (n:Int):SV:=.c (.v (.int .i64 n))
def dA (a b:Int):SV:=.agg [.v (.int .i64 a),.v (.int .i64 b)]
set_option maxRecDepth 100000 in
set_option maxHeartbeats 400000 in
theorem num_calls (w:World) (n:Int):Calls Try.prog 12 #[.int .i64 n] w (RetV w (.int .i64 n)):=by
 refine enter0 (A:=[]) (c:=ir12) (rs:=rs12) (nt:=nt12) [iA n] _ Try.func12 rfl (by kernel_rfl) (by kernel_rfl) rfl (fun E'=>by simp [iA,SV.den,SC.den]) (of_decide_eq_true rfl) ?_
 simp only [ir12,nt12,rs12,go_sem,↓runOp,↓reduceIte,Nat.reduceLT,Nat.reduceEqDiff,reduceCtorEq,iA]
 exact retV fun E=>by rw [den_c,den_v]
def mayD (t r:Int):Bool:=decide (1≤t∧t≤16∧1≤r∧r≤256)
set_option maxRecDepth 100000 in
set_option maxHeartbeats 400000 in
theorem may_calls (w:World) (t r:Int):Calls Try.prog 31 #[.agg #[.int .i64 t,.int .i64 r]] w (RetV w (.bool (mayD t r))):=by
 refine enter0 (A:=[]) (c:=ir31) (rs:=rs31) (nt:=nt31) [dA t r] _ Try.func31 rfl (by kernel_rfl) (by kernel_rfl) rfl (fun E'=>by simp [dA,SV.den,SC.den]) (of_decide_eq_true rfl) ?_
 simp only [ir31,nt31,rs31,go_sem,↓gateS,↓runOp,↓reduceIte,Nat.reduceLT,Nat.reduceEqDiff,reduceCtorEq,dA]
 refine retV fun E=>?_
 simp only [den_c,den_b,Value.bool.injEq,mayD]
 simp only [b_decR,b_decL,bt_ite,Bool.false_eq_true,iff_true,and_false,or_false] at *
 omega
set_option maxRecDepth 100000 in
set_option maxHeartbeats 400000 in
theorem check_calls (w:World) (t r:Int):Calls Try.prog 21 #[.agg #[.int .i64 t,.int .i64 r]] w (RetV w (.bool (mayD t r))):=by
 refine enter0 (A:=[]) (c:=ir21) (rs:=rs21) (nt:=nt21) [dA t r] _ Try.func21 rfl (by kernel_rfl) (by kernel_rfl) rfl (fun E'=>by simp [dA,SV.den,SC.den]) (of_decide_eq_true rfl) ?_
 simp only [ir21,nt21,rs21,go_sem,↓gateS,↓runOp,↓reduceIte,Nat.reduceLT,Nat.reduceEqDiff,reduceCtorEq,dA]
 refine retV fun E=>?_
 simp only [den_c,den_b,Value.bool.injEq,mayD]
 simp only [b_decR,b_decL,bt_ite,Bool.false_eq_true,iff_true,and_false,or_false] at *
 omega
def kitB (h:Nat):List (Int×SC):=[(90,.fn (.func 33) [] [.ptr (h,0,0) 0]),(91,.fn (.func 34) [] [.ptr (h,0,0) 0]),(92,.fn (.func 35) [] [.ptr (h,0,0) 0])]
def hub0 (r:Int):List SC:=[iI r,iI 0,.v (.bool false),iI 0,iI 0]
def newO (th:Nat) (r:Int) (b:Nat):Own:=nmO (.mp (b+6,0,0)) th (2+r).toNat (ats eU (List.replicate (2+r).toNat 0) 0) b++[(b+4,.one (.bk (hub0 r) 88)),(b+5,.one (.bk [.ptr (b+4,0,0) 0] 86)),(b+6,.one (.pr (MapV (b+6,0,0) .i64 (kitB (b+5)))))]
def envL (E:Env) (x:Nat) (v:Value):Env:=⟨fun y=>E.ρ (x1 x y),fun y=>E.κ (x1 x y),fun y=>E.ν (x1 x y),fun y=>if y=(0,0,0) then v else E.χ (x1 x y)⟩
theorem envL_one {E:Env} {x:Nat} {v:Value} (h:OneC E) (hv:v.oneCell' = true):OneC (envL E x v):=fun y=>by
 unfold envL
 simp only
 split
 ·exact hv
 ·exact h _
theorem envL_at (E:Env) (x:Nat) (v:Value):(envL E x v).χ (0,0,0)=v:=by unfold envL;simp
theorem ats_zero (n e:Nat):ats eU (List.replicate n 0) 0 e=[.v (.int .u64 0)]:=by
 have:(List.replicate n (0:Int)).getD e 0=0:=by
  rw [List.getD_eq_getElem?_getD,List.getElem?_replicate];split <;> rfl
 unfold ats;rw [this];rfl
theorem mapV_ents {p:Nat→Prop} {σ:Nm→Nm} {E E2:Env} {kd:IntKind} (hR:∀ x:Nm,p x.1→SameR σ E E2 x):∀ (G' : List (Int×SC)) (L:List VEnt),L.map (fun e=>(e.1,e.2.1))=G'.map (fun e=>(e.1,e.2.ren σ))→(∀ e∈G',e.2.okN p) →
  ∃ L' : List VEnt,L'.map (VEnt.den kd E2)=L.map (VEnt.den kd E)∧L'.map (fun e=>(e.1,e.2.1))=G'
 | [],L,h,_=>⟨[],by cases L with
  | nil=>rfl
  | cons e L=>simp at h,rfl⟩
 | g :: r,[],h,_=>by simp at h
 | g :: r,e :: L,h,hok=>by
  simp only [List.map_cons,List.cons.injEq,Prod.mk.injEq] at h
  obtain ⟨L',h1,h2⟩:=mapV_ents hR r L h.2 fun e he=>hok e (List.mem_cons_of_mem _ he)
  refine ⟨(g.1,g.2,e.2.2) :: L',?_,by simp [h2]⟩
  have e1:VEnt.den kd E2 (g.1,g.2,e.2.2)=VEnt.den kd E e:=by
   unfold VEnt.den
   simp only
   rw [den_ren hR g.2 (hok g List.mem_cons_self),← h.1.2,← h.1.1]
  rw [List.map_cons,List.map_cons,h1,e1]
theorem mapV_le {p:Nat→Prop} {σ:Nm→Nm} {x y:Nm} {kd:IntKind} {G G' : List (Int×SC)} (hp:p y.1) (hx:σ y=x) (hG:G=G'.map fun e=>(e.1,e.2.ren σ)) (hok:∀ e∈G',e.2.okN p):BlkLe p σ (.pr (MapV x kd G)) (.pr (MapV y kd G')):=by
 intro E E2 hR h hm
 obtain ⟨L,clock,rfl,hL⟩:=hm
 obtain ⟨L',h1,h2⟩:=mapV_ents (kd:=kd) hR G' L (hL.trans hG) hok
 refine ⟨L',clock,?_,h2⟩
 have e1:E2.ρ y=E.ρ x:=by rw [← hx];exact (hR y hp).1
 rw [e1,h1]
theorem own_mapV {p:Nat→Prop} {τ:Nat→Nat} {own r:Own} {i j:Nat} {kd:IntKind} {G G' : List (Int×SC)} (hp:p i) (h:look own (τ i)=some (.one (.pr (MapV (j,0,0) kd G)))) (hj:τ i=j) (hG:G=G'.map fun e=>(e.1,e.2.ren (idσ τ))) (hok:∀ e∈G',e.2.okN p) (hr' : OwnLe p (idσ τ) own r):OwnLe p (idσ τ) own ((i,.one (.pr (MapV (i,0,0) kd G'))) :: r):=by
 refine ⟨⟨hp,?_⟩,hr'⟩
 simp only [idσ,atN,h,Fm.get,and_self,if_true]
 exact mapV_le hp (by simp only [idσ,hj]) hG hok
def nwσ (b i:Nat):Nat:=if i - b<4 then i - b+5 else i - b - 3
set_option maxRecDepth 100000 in
set_option maxHeartbeats 400000 in
theorem new_calls (w:World) (t r:Int) (hm:mayD t r=true):Calls Try.prog 20 #[.agg #[.int .i64 t,.int .i64 r]] w (RetN w 7 ptT (newO t.toNat r)):=by
 refine enter0 (A:=[]) (c:=ir20) (rs:=rs20) (nt:=nt20) [dA t r] _ Try.func20 rfl (by kernel_rfl) (by kernel_rfl) rfl (fun E'=>by simp [dA,SV.den,SC.den]) (of_decide_eq_true rfl) ?_
 have hmm:1≤t∧t≤16∧1≤r∧r≤256:=of_decide_eq_true hm
 have hwr:IntKind.i64.wrap (2+r)=2+r:=wrI (by omega)
 simp (maxSteps:=2000000) only [ir20,nt20,rs20,go_sem,↓runOp,↓reduceIte,Nat.reduceLT,Nat.reduceLeDiff,Nat.reduceAdd,Nat.reduceEqDiff,reduceCtorEq,dA]
 refine callV (.c (.v (.bool true))) _ (fun E=>rfl) (fun E a w' hs=>by rw [← hm];exact may_calls w' _ _) ?_
 simp (maxSteps:=2000000) only [go_sem,↓condS,↓runOp,↓reduceIte,Nat.reduceLT,Nat.reduceLeDiff,Nat.reduceAdd,Nat.reduceEqDiff,reduceCtorEq]
 refine xmk_vc (kd:=.i64) ?_
 simp (maxSteps:=2000000) only [go_sem,↓runOp,↓reduceIte,Nat.reduceLT,Nat.reduceAdd,Nat.reduceEqDiff,reduceCtorEq]
 refine xup_vc (kd:=.i64) (x:=(3,0,0)) (n:=90) (G:=[]) (mkTab_ok _ _).1 (by kernel_rfl) rfl rfl rfl rfl ⟨rfl,rfl⟩ rfl ?_
 simp (maxSteps:=2000000) only [go_sem,↓runOp,↓reduceIte,Nat.reduceLT,Nat.reduceEqDiff,reduceCtorEq,setN]
 refine xup_vc (kd:=.i64) (x:=(3,0,0)) (n:=91) (mkTab_ok _ _).1 (by kernel_rfl) rfl rfl rfl rfl ⟨rfl,rfl⟩ rfl ?_
 simp (maxSteps:=2000000) only [go_sem,↓runOp,↓reduceIte,Nat.reduceLT,Nat.reduceEqDiff,reduceCtorEq,setN]
 refine xup_vc (kd:=.i64) (x:=(3,0,0)) (n:=92) (mkTab_ok _ _).1 (by kernel_rfl) rfl rfl rfl rfl ⟨rfl,rfl⟩ rfl ?_
 simp (maxSteps:=2000000) only [go_sem,↓runOp,↓reduceIte,Nat.reduceLT,Nat.reduceEqDiff,reduceCtorEq,setN]
 refine draw_vc (by kernel_rfl) (mkTab_ok _ _) (of_decide_eq_true rfl) (of_decide_eq_true rfl) ?_
 repeat (first | simp (maxSteps:=2000000) only [go_sem,↓gateD,↓runD,↓reduceIte,Nat.reduceLT,Nat.reduceLeDiff,Nat.reduceAdd,Nat.reduceEqDiff,reduceCtorEq,hwr] | rw [dr_cons])
 obtain ⟨th,rfl⟩:∃ th:Nat,t=th:=⟨t.toNat,by omega⟩
 have hn:(2+r).toNat=(List.replicate (2+r).toNat (0:Int)).length:=by simp
 refine ⟨⟨by omega,by omega,by omega,by simp only [maxLen];omega⟩,Or.inl trivial,?_⟩
 refine dcall_intro (cr_U1 (T:=ptT) (nx:=4) (O:=nmO (.mp (1,0,0)) th (2+r).toNat (ats eU (List.replicate (2+r).toNat 0) 0)) (O':=nmO (.mp (3,0,0)) th (2+r).toNat (ats eU (List.replicate (2+r).toNat 0) 0) 5) 3 (show 3<5 by decide) (show 2≤5 by decide) ⟨by simp [ptT,SV.ren,SC.ren,SC.renL,ren1L,ren1,iI],by simp [ptT,SV.okN,SC.okN,SC.okL,ok1L,NewIds,iI]⟩ ?_ (by simp [nmO,keysL]) (fun E a w' hs=>?_)) rfl trivial (by simp [nmO,wrOk]) (by simp [nmO,keysL]) ?_
 ·show OwnLe (fun i=>i=3∨NewIds 5 4 i) (idσ fun i=>if i=3 then 1 else i) (nmO (.mp (1,0,0)) th (2+r).toNat (ats eU (List.replicate (2+r).toNat 0) 0) 5) (nmO (.mp (3,0,0)) th (2+r).toNat (ats eU (List.replicate (2+r).toNat 0) 0) 5)
  exact own_bk (Or.inr ⟨by omega,by omega⟩) rfl (by simp [nmC,SC.renL,SC.ren,idσ,iI]) (by simp [nmC,SC.okL,SC.okN,NewIds,iI]) (own_bk (Or.inr ⟨by omega,by omega⟩) rfl (by simp [memC,SC.renL,SC.ren,idσ,iI]) (by simp [memC,SC.okL,SC.okN,NewIds,iI]) (own_av (Or.inr ⟨by omega,by omega⟩) rfl (Nat.le_refl _) (fun _ _=>rfl) (own_ar (Or.inr ⟨by omega,by omega⟩) rfl (Nat.le_refl _) (fun e he=>⟨rfl,by simp [seat0,SC.okL,SC.okN,iI]⟩) trivial)))
 ·refine ⟨envL E 3 ((SC.sl (4,0,0) 1 0 (2+r).toNat none).den E),takesO (envL E 3 ((SC.sl (4,0,0) 1 0 (2+r).toNat none).den E)) [],fun n h=>?_,fun y hy=>⟨rfl,rfl,rfl,if_neg fun e=>by rw [e] at hy;cases hy⟩,?_⟩
  ·obtain ⟨x,c,hx,_⟩:=h
   exact (atN_nil hx).elim
  have hA:Arr w' eU 1 ((SC.sl (4,0,0) 1 0 (2+r).toNat none).den E) (List.replicate (2+r).toNat 0):=arr_own (d:=0) hs 4 (2+r).toNat (2+r).toNat _ rfl hn (by rw [← hn];exact Nat.le_refl _) fun e he=>(ats_zero _ _).symm
  have:=machnew_own w' (envL E 3 ((SC.sl (4,0,0) 1 0 (2+r).toNat none).den E)) th (List.replicate (2+r).toNat 0) (by omega) (by omega) (by rw [← hn];omega) (handed_list eU_ok (envL_one hs.one (by simp only [SC.den];split <;> rfl)) (envL_at _ _ _) hA)
  rw [← hn] at this
  exact this
 repeat (first | simp (maxSteps:=2000000) only [go_sem,↓gateD,↓runD,↓reduceIte,Nat.reduceLT,Nat.reduceAdd,Nat.reduceEqDiff,reduceCtorEq,nmO,nmC,ptT] | rw [dr_cons])
 refine retN (fun k=>if k<4 then k+5 else k - 3) (fun b=>⟨by simp [ptT,SV.ren,SC.ren,SC.renL,ren1L,ren1,fromσ,iI],by simp [ptT,SV.okN,SC.okN,SC.okL,ok1L,NewIds,iI]⟩) (fun b=>?_) (fun b=>?_)
 ·show OwnLe _ (idσ (nwσ b)) _ _
  have e0:nwσ b b=5:=by simp [nwσ]
  have e1:nwσ b (b+1)=6:=by simp [nwσ]
  have e2:nwσ b (b+2)=7:=by simp [nwσ]
  have e3:nwσ b (b+3)=8:=by simp [nwσ]
  have e4:nwσ b (b+4)=1:=by simp [nwσ]
  have e5:nwσ b (b+5)=2:=by simp [nwσ]
  have e6:nwσ b (b+6)=3:=by simp [nwσ]
  exact own_bk ⟨by omega,by omega⟩ (by rw [e0];rfl) (by simp [nmC,SC.renL,SC.ren,idσ,iI,e1,e3,e6]) (by simp [nmC,SC.okL,SC.okN,NewIds,iI]) (own_bk ⟨by omega,by omega⟩ (by rw [e1];rfl) (by simp [memC,SC.renL,SC.ren,idσ,iI,e2]) (by simp [memC,SC.okL,SC.okN,NewIds,iI]) (own_av ⟨by omega,by omega⟩ (by rw [e2];rfl) (Nat.le_refl _) (fun _ _=>rfl) (own_ar ⟨by omega,by omega⟩ (by rw [e3];rfl) (by simp) (fun e he=>⟨rfl,by simp [seat0,SC.okL,SC.okN,iI]⟩) (own_bk ⟨by omega,by omega⟩ (by rw [e4];rfl) (by simp [hub0,SC.renL,SC.ren,iI]) (by simp [hub0,SC.okL,SC.okN,iI]) (own_bk ⟨by omega,by omega⟩ (by rw [e5];rfl) (by simp [SC.renL,SC.ren,idσ,e4]) (by simp [SC.okL,SC.okN,NewIds]) (own_mapV ⟨by omega,by omega⟩ (by rw [e6];rfl) e6 (by simp [kitB,SC.ren,SC.renL,idσ,e5]) (by simp [kitB,SC.okN,SC.okL,NewIds]) trivial))))))
 ·exact injN_from fun x hx y hy e=>by
   simp [newO,nmO,keysL] at hx hy
   split at e <;> split at e <;> omega
end Go.Proofs.Ytcloeignccpljaa.Z
