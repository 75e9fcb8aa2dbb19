/- DequeSwapsSaid: what its proof is made of. No condition. -/
import Derived.Test.YtcloeignccpljaaPkIDequeSwapsAN
set_option linter.unusedSimpArgs false
set_option linter.unusedVariables false
namespace Go.Proofs.Ytcloeignccpljaa.Z
open Go Go.RowKit
theorem seC_nil {t i:Nat} {S:List D.Se} {cs:List SC} (hi:i<S.length) (hc:cs=[.v .nilIface,.v (.bool (S.getD i D.se0).rd),iI (S.getD i D.se0).la,iI (S.getD i D.se0).ak,iI (S.getD i D.se0).av]) (e:Nat) :
  setAt i (seC t S) cs e=seC t (S.set i { S.getD i D.se0 with tk:=none }) e:=by
 unfold setAt seC
 rw [D.set_getD _ _ _ _ _ hi]
 by_cases q:e=i
 ·subst q
  rw [if_pos rfl,if_pos rfl,hc];rfl
 ·rw [if_neg q,if_neg (fun h=>q h.symm)]
theorem tkF_nil {t i:Nat} {S:List D.Se} (hi:i<S.length) (e:Nat):(if e=i then .no else tkF t S e)=tkF t (S.set i { S.getD i D.se0 with tk:=none }) e:=by
 unfold tkF
 rw [D.set_getD _ _ _ _ _ hi]
 by_cases q:i=e
 ·subst q
  rw [if_pos rfl,if_pos rfl];rfl
 ·rw [if_neg q,if_neg (fun h=>q h.symm)]
theorem setAt_two (k:Nat) (f:Nat→List SC) (l1 l2:List SC) (e:Nat):setAt k (setAt k f l1) l2 e=setAt k f l2 e:=by
 unfold setAt;split <;> rfl
set_option maxRecDepth 100000 in
set_option maxHeartbeats 4000000 in
theorem mstep_0tt (w:World) (E:Env) (m:D.Pm) (i c:Nat) (now:Int) (ln:Nat) (b t v:Int) (got:Bool) (ht:StAt m i c now ⟨0,ln,b,t,v,got⟩ ⟨0,ln,b,t,v,got⟩) (hrd:(m.S.getD i D.se0).rd=true) (ho:(D.taskT (inM m i now ⟨0,ln,b,t,v,got⟩) i ⟨0,ln,b,t,v,got⟩).2.2=true) (h:Handed w E 10 (rO nz0 m) []) :
  Calls Try.prog 37 (([.c (.ptr (0,0,0) 0),.c (iI i),.c (iI now)]:List SV).map (SV.den E)).toArray w (EffR w E 10 (takesO E (rO nz0 m)) (.tup []) 2 fun b'=>killO [3,4]++rO ⟨b',b' + 1,6,7⟩ (stM m i now ⟨0,ln,b,t,v,got⟩)):=by
 have hse:seC 7 m.S i=[.ifc (tkIf 0) (.ptr (7,i,0) 0),.v (.bool true),iI c,iI (m.S.getD i D.se0).ak,iI (m.S.getD i D.se0).av]:=by
  unfold seC;rw [ht.tk,hrd,ht.la];simp only [taskI]
 have hf:tkF 7 m.S i = .bk (tkC (.ptr (7,i,0) 0) ⟨0,ln,b,t,v,got⟩) (tkTy 0):=by unfold tkF;rw [ht.tk];rfl
 simp only [tkC,tkTy,iI] at hf
 refine enterO (c:=ir37) (rs:=rs37) (nt:=nt37) h _ Try.func37 rfl (by kernel_rfl) (by kernel_rfl) rfl (by simp [okVs,SV.okN,SC.okN,iI]) (of_decide_eq_true rfl) ?_
 rw [show stM m i now ⟨0,ln,b,t,v,got⟩=D.endS (outM m i now ⟨0,ln,b,t,v,got⟩) i now from if_pos ho]
 generalize hR:EffR w E 10 (takesO E (rO nz0 m)) _ 2 _=R
 generalize hW:takesO E (rO nz0 m)=W
 have hi:=ht.hi
 have hc:=ht.hc
 obtain ⟨x1,x2,x3,x4⟩:=outM_S (m:=m) (i:=i) (now:=now) (k0:=⟨0,ln,b,t,v,got⟩) hi
 have hxi:i<(outM m i now ⟨0,ln,b,t,v,got⟩).S.length:=by omega
 have hxc:c<(outM m i now ⟨0,ln,b,t,v,got⟩).C.length:=by rw [outM_C];exact hc
 simp only [iI] at hse
 simp (maxSteps:=2000000) only [ir37,nt37,rs37,go_sem,↓runOp,↓reduceIte,Nat.reduceLT,Nat.reduceLeDiff,Nat.reduceAdd,Nat.reduceEqDiff,reduceCtorEq,rO,mO,nz0,bkM,nilP,bkY,hubC,iI]
 repeat (with_reducible refine And.intro (by first | exact hi | exact hc | exact hxi | exact hxc | exact ⟨hi,Nat.le_refl _⟩ | exact ⟨hc,Nat.le_refl _⟩ | exact ⟨hxi,Nat.le_refl _⟩ | exact ⟨hxc,Nat.le_refl _⟩ | exact Or.inr trivial | exact Or.inl trivial | exact ⟨Or.inl trivial,Or.inr trivial⟩ | exact ⟨by omega,by omega,Nat.le_refl _⟩) ?_)
 refine draw_vc (by kernel_rfl) (mkTab_ok _ _) (of_decide_eq_true rfl) (of_decide_eq_true rfl) ?_
 repeat (first | simp (maxSteps:=2000000) only [go_sem,↓runOp,↓gateD,↓runD,↓reduceIte,Nat.reduceLT,Nat.reduceLeDiff,Nat.reduceAdd,Nat.reduceEqDiff,reduceCtorEq,hse,Int.toNat_natCast] | rw [dr_cons])
 repeat (with_reducible refine And.intro (by first | exact hi | exact hc | exact hxi | exact hxc | exact ⟨hi,Nat.le_refl _⟩ | exact ⟨hc,Nat.le_refl _⟩ | exact ⟨hxi,Nat.le_refl _⟩ | exact ⟨hxc,Nat.le_refl _⟩ | exact Or.inr trivial | exact Or.inl trivial | exact ⟨Or.inl trivial,Or.inr trivial⟩ | exact ⟨by omega,by omega,Nat.le_refl _⟩) ?_)
 refine call_inline (c:=ir50) (rs:=rs50) (nt:=nt50) 1000 (mkTab_ok _ _) Try.func50 rfl (by kernel_rfl) (by kernel_rfl) rfl (by simp [okVs,SV.okN,SC.okN]) (of_decide_eq_true rfl) (fun E0 a0 ht0=>?_)
 simp (maxSteps:=2000000) only [ir50,nt50,rs50,go_sem,↓condS,↓runOp,↓reduceIte,Nat.reduceLT,Nat.reduceLeDiff,Nat.reduceAdd,Nat.reduceEqDiff,reduceCtorEq]
 refine retI ht0 _ rfl (of_decide_eq_true rfl) (by simp [SV.okN,ok1L]) ?_
 simp (maxSteps:=2000000) only [go_sem,↓condS,↓runOp,↓reduceIte,Nat.reduceLT,Nat.reduceLeDiff,Nat.reduceAdd,Nat.reduceEqDiff,reduceCtorEq,hse]
 repeat (with_reducible refine And.intro (by first | exact hi | exact hc | exact hxi | exact hxc | exact ⟨hi,Nat.le_refl _⟩ | exact ⟨hc,Nat.le_refl _⟩ | exact ⟨hxi,Nat.le_refl _⟩ | exact ⟨hxc,Nat.le_refl _⟩ | exact Or.inr trivial | exact Or.inl trivial | exact ⟨Or.inl trivial,Or.inr trivial⟩ | exact ⟨by omega,by omega,Nat.le_refl _⟩) ?_)
 refine ⟨88,Or.inr ⟨by kernel_rfl,_,_,rfl⟩,⟨_,Try.func88,by kernel_rfl,by kernel_rfl⟩,?_⟩
 refine call_intro (crD (i:=i) (c:=c) (m:=inM m i now ⟨0,ln,b,t,v,got⟩) (m':=outM m i now ⟨0,ln,b,t,v,got⟩) (Nat.le_refl _) ⟨by simp [look,bkM,inM,D.begS,iI,nz0],rfl,⟨_,_,rfl,Nat.le_refl _,fun _ _=>rfl⟩,⟨_,_,rfl,Nat.le_refl _,fun _ _=>rfl⟩,⟨_,_,rfl,Nat.le_refl _,fun _ _=>rfl⟩,⟨_,_,rfl,by simp [inM],fun e _=>seC_in hi ht.tk rfl hrd e⟩,⟨_,_,rfl,Nat.le_refl _,fun _ _=>rfl⟩,⟨_,_,rfl,by simp [inM],fun x _=>tkF_in hi ht.tk x⟩,rfl,rfl⟩ (fun E w h=>task_own w E _ i c ⟨0,ln,b,t,v,got⟩ ht.at ht.ln ht.l1 ht.rm ht.cell h)) (lt11 (Nat.le_refl _)) ?_
 have hsx:seC 7 (outM m i now ⟨0,ln,b,t,v,got⟩).S i=[taskI (.ptr (7,i,0) 0) ((outM m i now ⟨0,ln,b,t,v,got⟩).S.getD i D.se0).tk,.v (.bool true),iI c,iI ((outM m i now ⟨0,ln,b,t,v,got⟩).S.getD i D.se0).ak,iI ((outM m i now ⟨0,ln,b,t,v,got⟩).S.getD i D.se0).av]:=by
  unfold seC;rw [x2,x3,ht.la]
 have hfx:tkF 7 (outM m i now ⟨0,ln,b,t,v,got⟩).S i = .bk (tkC (.ptr (7,i,0) 0) (D.taskT (inM m i now ⟨0,ln,b,t,v,got⟩) i ⟨0,ln,b,t,v,got⟩).2.1) (tkTy (D.taskT (inM m i now ⟨0,ln,b,t,v,got⟩) i ⟨0,ln,b,t,v,got⟩).2.1.kd):=by unfold tkF;rw [x4];rfl
 simp only [iI] at hsx
 simp (maxSteps:=2000000) only [go_sem,↓condS,↓runOp,↓reduceIte,Nat.reduceLT,Nat.reduceAdd,Nat.reduceEqDiff,reduceCtorEq,killO,dO,mO,bkM,bkY,hubC,iI,ho]
 generalize hX:outM m i now ⟨0,ln,b,t,v,got⟩=X at *
 repeat (with_reducible refine And.intro (by first | exact hi | exact hc | exact hxi | exact hxc | exact ⟨hi,Nat.le_refl _⟩ | exact ⟨hc,Nat.le_refl _⟩ | exact ⟨hxi,Nat.le_refl _⟩ | exact ⟨hxc,Nat.le_refl _⟩ | exact Or.inr trivial | exact Or.inl trivial | exact ⟨Or.inl trivial,Or.inr trivial⟩ | exact ⟨by omega,by omega,Nat.le_refl _⟩) ?_)
 refine draw_vc (by kernel_rfl) (mkTab_ok _ _) (of_decide_eq_true rfl) (of_decide_eq_true rfl) ?_
 repeat (first | simp (maxSteps:=2000000) only [go_sem,↓gateD,↓runD,↓reduceIte,Nat.reduceLT,Nat.reduceLeDiff,Nat.reduceAdd,Nat.reduceEqDiff,reduceCtorEq,hsx,Int.toNat_natCast,ats_C] | rw [dr_cons])
 repeat (with_reducible refine And.intro (by first | exact hi | exact hc | exact hxi | exact hxc | exact ⟨hi,Nat.le_refl _⟩ | exact ⟨hc,Nat.le_refl _⟩ | exact ⟨hxi,Nat.le_refl _⟩ | exact ⟨hxc,Nat.le_refl _⟩ | exact Or.inr trivial | exact Or.inl trivial | exact ⟨Or.inl trivial,Or.inr trivial⟩ | exact ⟨by omega,by omega,Nat.le_refl _⟩) ?_)
 refine draw_vc (by kernel_rfl) (mkTab_ok _ _) (of_decide_eq_true rfl) (of_decide_eq_true rfl) ?_
 repeat (first | simp (maxSteps:=2000000) only [go_sem,↓runOp,↓gateD,↓runD,↓reduceIte,Nat.reduceLT,Nat.reduceLeDiff,Nat.reduceAdd,Nat.reduceEqDiff,reduceCtorEq,hsx,Int.toNat_natCast,setAt,mkO_rs] | rw [dr_cons])
 repeat (with_reducible refine And.intro (by first | exact hi | exact hc | exact hxi | exact hxc | exact ⟨hi,Nat.le_refl _⟩ | exact ⟨hc,Nat.le_refl _⟩ | exact ⟨hxi,Nat.le_refl _⟩ | exact ⟨hxc,Nat.le_refl _⟩ | exact Or.inr trivial | exact Or.inl trivial | exact ⟨Or.inl trivial,Or.inr trivial⟩ | exact ⟨by omega,by omega,Nat.le_refl _⟩) ?_)
 rw [← hR,← hW]
 have hcl:(X.S.getD i D.se0).la.toNat=c:=by rw [x3,ht.la];rfl
 have hE:D.endS X i now={ X with C:=X.C.set c { X.C.getD c D.ca0 with en:=now,ak:=(X.S.getD i D.se0).ak,av:=(X.S.getD i D.se0).av },S:=X.S.set i { X.S.getD i D.se0 with tk:=none } }:=by unfold D.endS;rw [hcl]
 rw [hE]
 refine ret_le (le_no (x:=(7,i,0)) (p:=i<X.S.length∧True) (by simp only [pkN,look,Fm.pk,Nat.reduceEqDiff,if_true,if_false,hfx];rfl) ⟨hxi,trivial⟩) (fun E E'=>rfl) ?_
 simp (maxSteps:=2000000) only [go_sem,↓reduceIte,Nat.reduceEqDiff,reduceCtorEq]
 exact retR (p:=11) (q:=12) rfl (by simp) (fun E E'=>rfl) ⟨by simp [look,bkM,iI,nilP],rfl,⟨_,_,rfl,Nat.le_refl _,fun _ _=>rfl⟩,⟨_,_,rfl,Nat.le_refl _,fun _ _=>rfl⟩,⟨_,_,rfl,Nat.le_refl _,fun _ _=>rfl⟩,⟨_,_,rfl,by simp,fun e _=>seC_nil hxi (by rw [x2,x3,ht.la];rfl) e⟩,⟨_,_,rfl,by simp,fun e he=>by rw [setAt_two];exact ats_set hxc rfl e he⟩,⟨_,_,rfl,by simp,fun x _=>tkF_nil hxi x⟩,rfl⟩
set_option maxRecDepth 100000 in
set_option maxHeartbeats 4000000 in
theorem mstep_0ft (w:World) (E:Env) (m:D.Pm) (i c:Nat) (now:Int) (ln:Nat) (b t v:Int) (got:Bool) (ht:StAt m i c now ⟨0,ln,b,t,v,got⟩ ⟨0,1,b,t,v,got⟩) (hrd:(m.S.getD i D.se0).rd=false) (ho:(D.taskT (inM m i now ⟨0,1,b,t,v,got⟩) i ⟨0,1,b,t,v,got⟩).2.2=true) (h:Handed w E 10 (rO nz0 m) []) :
  Calls Try.prog 37 (([.c (.ptr (0,0,0) 0),.c (iI i),.c (iI now)]:List SV).map (SV.den E)).toArray w (EffR w E 10 (takesO E (rO nz0 m)) (.tup []) 2 fun b'=>killO [3,4]++rO ⟨b',b' + 1,6,7⟩ (stM m i now ⟨0,1,b,t,v,got⟩)):=by
 have hse:seC 7 m.S i=[.ifc (tkIf 0) (.ptr (7,i,0) 0),.v (.bool false),iI c,iI (m.S.getD i D.se0).ak,iI (m.S.getD i D.se0).av]:=by
  unfold seC;rw [ht.tk,hrd,ht.la];simp only [taskI]
 have hf:tkF 7 m.S i = .bk (tkC (.ptr (7,i,0) 0) ⟨0,ln,b,t,v,got⟩) (tkTy 0):=by unfold tkF;rw [ht.tk];rfl
 simp only [tkC,tkTy,iI] at hf
 refine enterO (c:=ir37) (rs:=rs37) (nt:=nt37) h _ Try.func37 rfl (by kernel_rfl) (by kernel_rfl) rfl (by simp [okVs,SV.okN,SC.okN,iI]) (of_decide_eq_true rfl) ?_
 rw [show stM m i now ⟨0,1,b,t,v,got⟩=D.endS (outM m i now ⟨0,1,b,t,v,got⟩) i now from if_pos ho]
 generalize hR:EffR w E 10 (takesO E (rO nz0 m)) _ 2 _=R
 generalize hW:takesO E (rO nz0 m)=W
 have hi:=ht.hi
 have hc:=ht.hc
 obtain ⟨x1,x2,x3,x4⟩:=outM_S (m:=m) (i:=i) (now:=now) (k0:=⟨0,1,b,t,v,got⟩) hi
 have hxi:i<(outM m i now ⟨0,1,b,t,v,got⟩).S.length:=by omega
 have hxc:c<(outM m i now ⟨0,1,b,t,v,got⟩).C.length:=by rw [outM_C];exact hc
 simp only [iI] at hse
 simp (maxSteps:=2000000) only [ir37,nt37,rs37,go_sem,↓runOp,↓reduceIte,Nat.reduceLT,Nat.reduceLeDiff,Nat.reduceAdd,Nat.reduceEqDiff,reduceCtorEq,rO,mO,nz0,bkM,nilP,bkY,hubC,iI]
 repeat (with_reducible refine And.intro (by first | exact hi | exact hc | exact hxi | exact hxc | exact ⟨hi,Nat.le_refl _⟩ | exact ⟨hc,Nat.le_refl _⟩ | exact ⟨hxi,Nat.le_refl _⟩ | exact ⟨hxc,Nat.le_refl _⟩ | exact Or.inr trivial | exact Or.inl trivial | exact ⟨Or.inl trivial,Or.inr trivial⟩ | exact ⟨by omega,by omega,Nat.le_refl _⟩) ?_)
 refine draw_vc (by kernel_rfl) (mkTab_ok _ _) (of_decide_eq_true rfl) (of_decide_eq_true rfl) ?_
 repeat (first | simp (maxSteps:=2000000) only [go_sem,↓runOp,↓gateD,↓runD,↓reduceIte,Nat.reduceLT,Nat.reduceLeDiff,Nat.reduceAdd,Nat.reduceEqDiff,reduceCtorEq,hse,Int.toNat_natCast] | rw [dr_cons])
 repeat (with_reducible refine And.intro (by first | exact hi | exact hc | exact hxi | exact hxc | exact ⟨hi,Nat.le_refl _⟩ | exact ⟨hc,Nat.le_refl _⟩ | exact ⟨hxi,Nat.le_refl _⟩ | exact ⟨hxc,Nat.le_refl _⟩ | exact Or.inr trivial | exact Or.inl trivial | exact ⟨Or.inl trivial,Or.inr trivial⟩ | exact ⟨by omega,by omega,Nat.le_refl _⟩) ?_)
 refine call_inline (c:=ir50) (rs:=rs50) (nt:=nt50) 1000 (mkTab_ok _ _) Try.func50 rfl (by kernel_rfl) (by kernel_rfl) rfl (by simp [okVs,SV.okN,SC.okN]) (of_decide_eq_true rfl) (fun E0 a0 ht0=>?_)
 simp (maxSteps:=2000000) only [ir50,nt50,rs50,go_sem,↓condS,↓runOp,↓reduceIte,Nat.reduceLT,Nat.reduceLeDiff,Nat.reduceAdd,Nat.reduceEqDiff,reduceCtorEq]
 refine retI ht0 _ rfl (of_decide_eq_true rfl) (by simp [SV.okN,ok1L]) ?_
 simp (maxSteps:=2000000) only [go_sem,↓condS,↓runOp,↓reduceIte,Nat.reduceLT,Nat.reduceLeDiff,Nat.reduceAdd,Nat.reduceEqDiff,reduceCtorEq,hse,setAt]
 repeat (with_reducible refine And.intro (by first | exact hi | exact hc | exact hxi | exact hxc | exact ⟨hi,Nat.le_refl _⟩ | exact ⟨hc,Nat.le_refl _⟩ | exact ⟨hxi,Nat.le_refl _⟩ | exact ⟨hxc,Nat.le_refl _⟩ | exact Or.inr trivial | exact Or.inl trivial | exact ⟨Or.inl trivial,Or.inr trivial⟩ | exact ⟨by omega,by omega,Nat.le_refl _⟩) ?_)
 refine ⟨87,Or.inl ⟨by kernel_rfl,und_ex (by kernel_rfl)⟩,⟨_,Try.func87,by kernel_rfl,by kernel_rfl⟩,?_⟩
 refine call_inline (c:=ir87) (rs:=rs87) (nt:=nt87) 1000 (mkTab_ok _ _) Try.func87 rfl (by kernel_rfl) (by kernel_rfl) rfl (by simp [okVs,SV.okN,SC.okN]) (of_decide_eq_true rfl) (fun E0 a0 ht0=>?_)
 simp (maxSteps:=2000000) only [ir87,nt87,rs87,go_sem,↓runOp,↓reduceIte,Nat.reduceLT,Nat.reduceLeDiff,Nat.reduceAdd,Nat.reduceEqDiff,reduceCtorEq,hf]
 repeat (with_reducible refine And.intro (by first | exact hi | exact hc | exact hxi | exact hxc | exact ⟨hi,Nat.le_refl _⟩ | exact ⟨hc,Nat.le_refl _⟩ | exact ⟨hxi,Nat.le_refl _⟩ | exact ⟨hxc,Nat.le_refl _⟩ | exact Or.inr trivial | exact Or.inl trivial | exact ⟨Or.inl trivial,Or.inr trivial⟩ | exact ⟨by omega,by omega,Nat.le_refl _⟩) ?_)
 refine retI ht0 _ rfl (of_decide_eq_true rfl) (by simp [SV.okN,SC.okN]) ?_
 simp (maxSteps:=2000000) only [go_sem,↓condS,↓runOp,↓reduceIte,Nat.reduceLT,Nat.reduceEqDiff,reduceCtorEq,setAt]
 repeat (with_reducible refine And.intro (by first | exact hi | exact hc | exact hxi | exact hxc | exact ⟨hi,Nat.le_refl _⟩ | exact ⟨hc,Nat.le_refl _⟩ | exact ⟨hxi,Nat.le_refl _⟩ | exact ⟨hxc,Nat.le_refl _⟩ | exact Or.inr trivial | exact Or.inl trivial | exact ⟨Or.inl trivial,Or.inr trivial⟩ | exact ⟨by omega,by omega,Nat.le_refl _⟩) ?_)
 refine ⟨88,Or.inr ⟨by kernel_rfl,_,_,rfl⟩,⟨_,Try.func88,by kernel_rfl,by kernel_rfl⟩,?_⟩
 refine call_intro (crD (i:=i) (c:=c) (m:=inM m i now ⟨0,1,b,t,v,got⟩) (m':=outM m i now ⟨0,1,b,t,v,got⟩) (Nat.le_refl _) ⟨by simp [look,bkM,inM,D.begS,iI,nz0],rfl,⟨_,_,rfl,Nat.le_refl _,fun _ _=>rfl⟩,⟨_,_,rfl,Nat.le_refl _,fun _ _=>rfl⟩,⟨_,_,rfl,Nat.le_refl _,fun _ _=>rfl⟩,⟨_,_,rfl,by simp [inM],fun e _=>seC_new (k0:=⟨0,1,b,t,v,got⟩) hi ht.tk rfl (by rw [ht.la];rfl) e⟩,⟨_,_,rfl,Nat.le_refl _,fun _ _=>rfl⟩,⟨_,_,rfl,by simp [inM],fun x _=>Eq.trans (ite_congr rfl (fun _=>rfl) (fun _=>rfl)) (tkF_new (t:=7) (k0:=⟨0,1,b,t,v,got⟩) hi x)⟩,rfl,rfl⟩ (fun E w h=>task_own w E _ i c ⟨0,1,b,t,v,got⟩ ht.at ht.ln ht.l1 ht.rm ht.cell h)) (lt11 (Nat.le_refl _)) ?_
 have hsx:seC 7 (outM m i now ⟨0,1,b,t,v,got⟩).S i=[taskI (.ptr (7,i,0) 0) ((outM m i now ⟨0,1,b,t,v,got⟩).S.getD i D.se0).tk,.v (.bool true),iI c,iI ((outM m i now ⟨0,1,b,t,v,got⟩).S.getD i D.se0).ak,iI ((outM m i now ⟨0,1,b,t,v,got⟩).S.getD i D.se0).av]:=by
  unfold seC;rw [x2,x3,ht.la]
 have hfx:tkF 7 (outM m i now ⟨0,1,b,t,v,got⟩).S i = .bk (tkC (.ptr (7,i,0) 0) (D.taskT (inM m i now ⟨0,1,b,t,v,got⟩) i ⟨0,1,b,t,v,got⟩).2.1) (tkTy (D.taskT (inM m i now ⟨0,1,b,t,v,got⟩) i ⟨0,1,b,t,v,got⟩).2.1.kd):=by unfold tkF;rw [x4];rfl
 simp only [iI] at hsx
 simp (maxSteps:=2000000) only [go_sem,↓condS,↓runOp,↓reduceIte,Nat.reduceLT,Nat.reduceAdd,Nat.reduceEqDiff,reduceCtorEq,killO,dO,mO,bkM,bkY,hubC,iI,ho]
 generalize hX:outM m i now ⟨0,1,b,t,v,got⟩=X at *
 repeat (with_reducible refine And.intro (by first | exact hi | exact hc | exact hxi | exact hxc | exact ⟨hi,Nat.le_refl _⟩ | exact ⟨hc,Nat.le_refl _⟩ | exact ⟨hxi,Nat.le_refl _⟩ | exact ⟨hxc,Nat.le_refl _⟩ | exact Or.inr trivial | exact Or.inl trivial | exact ⟨Or.inl trivial,Or.inr trivial⟩ | exact ⟨by omega,by omega,Nat.le_refl _⟩) ?_)
 refine draw_vc (by kernel_rfl) (mkTab_ok _ _) (of_decide_eq_true rfl) (of_decide_eq_true rfl) ?_
 repeat (first | simp (maxSteps:=2000000) only [go_sem,↓gateD,↓runD,↓reduceIte,Nat.reduceLT,Nat.reduceLeDiff,Nat.reduceAdd,Nat.reduceEqDiff,reduceCtorEq,hsx,Int.toNat_natCast,ats_C] | rw [dr_cons])
 repeat (with_reducible refine And.intro (by first | exact hi | exact hc | exact hxi | exact hxc | exact ⟨hi,Nat.le_refl _⟩ | exact ⟨hc,Nat.le_refl _⟩ | exact ⟨hxi,Nat.le_refl _⟩ | exact ⟨hxc,Nat.le_refl _⟩ | exact Or.inr trivial | exact Or.inl trivial | exact ⟨Or.inl trivial,Or.inr trivial⟩ | exact ⟨by omega,by omega,Nat.le_refl _⟩) ?_)
 refine draw_vc (by kernel_rfl) (mkTab_ok _ _) (of_decide_eq_true rfl) (of_decide_eq_true rfl) ?_
 repeat (first | simp (maxSteps:=2000000) only [go_sem,↓runOp,↓gateD,↓runD,↓reduceIte,Nat.reduceLT,Nat.reduceLeDiff,Nat.reduceAdd,Nat.reduceEqDiff,reduceCtorEq,hsx,Int.toNat_natCast,setAt,mkO_rs] | rw [dr_cons])
 repeat (with_reducible refine And.intro (by first | exact hi | exact hc | exact hxi | exact hxc | exact ⟨hi,Nat.le_refl _⟩ | exact ⟨hc,Nat.le_refl _⟩ | exact ⟨hxi,Nat.le_refl _⟩ | exact ⟨hxc,Nat.le_refl _⟩ | exact Or.inr trivial | exact Or.inl trivial | exact ⟨Or.inl trivial,Or.inr trivial⟩ | exact ⟨by omega,by omega,Nat.le_refl _⟩) ?_)
 rw [← hR,← hW]
 have hcl:(X.S.getD i D.se0).la.toNat=c:=by rw [x3,ht.la];rfl
 have hE:D.endS X i now={ X with C:=X.C.set c { X.C.getD c D.ca0 with en:=now,ak:=(X.S.getD i D.se0).ak,av:=(X.S.getD i D.se0).av },S:=X.S.set i { X.S.getD i D.se0 with tk:=none } }:=by unfold D.endS;rw [hcl]
 rw [hE]
 refine ret_le (le_no (x:=(7,i,0)) (p:=i<X.S.length∧True) (by simp only [pkN,look,Fm.pk,Nat.reduceEqDiff,if_true,if_false,hfx];rfl) ⟨hxi,trivial⟩) (fun E E'=>rfl) ?_
 simp (maxSteps:=2000000) only [go_sem,↓reduceIte,Nat.reduceEqDiff,reduceCtorEq]
 exact retR (p:=11) (q:=12) rfl (by simp) (fun E E'=>rfl) ⟨by simp [look,bkM,iI,nilP],rfl,⟨_,_,rfl,Nat.le_refl _,fun _ _=>rfl⟩,⟨_,_,rfl,Nat.le_refl _,fun _ _=>rfl⟩,⟨_,_,rfl,Nat.le_refl _,fun _ _=>rfl⟩,⟨_,_,rfl,by simp,fun e _=>seC_nil hxi (by rw [x2,x3,ht.la];rfl) e⟩,⟨_,_,rfl,by simp,fun e he=>by rw [setAt_two];exact ats_set hxc rfl e he⟩,⟨_,_,rfl,by simp,fun x _=>tkF_nil hxi x⟩,rfl⟩
set_option maxRecDepth 100000 in
set_option maxHeartbeats 4000000 in
theorem mstep_1tt (w:World) (E:Env) (m:D.Pm) (i c:Nat) (now:Int) (ln:Nat) (b t v:Int) (got:Bool) (ht:StAt m i c now ⟨1,ln,b,t,v,got⟩ ⟨1,ln,b,t,v,got⟩) (hrd:(m.S.getD i D.se0).rd=true) (ho:(D.taskT (inM m i now ⟨1,ln,b,t,v,got⟩) i ⟨1,ln,b,t,v,got⟩).2.2=true) (h:Handed w E 10 (rO nz0 m) []) :
  Calls Try.prog 37 (([.c (.ptr (0,0,0) 0),.c (iI i),.c (iI now)]:List SV).map (SV.den E)).toArray w (EffR w E 10 (takesO E (rO nz0 m)) (.tup []) 2 fun b'=>killO [3,4]++rO ⟨b',b' + 1,6,7⟩ (stM m i now ⟨1,ln,b,t,v,got⟩)):=by
 have hse:seC 7 m.S i=[.ifc (tkIf 1) (.ptr (7,i,0) 0),.v (.bool true),iI c,iI (m.S.getD i D.se0).ak,iI (m.S.getD i D.se0).av]:=by
  unfold seC;rw [ht.tk,hrd,ht.la];simp only [taskI]
 have hf:tkF 7 m.S i = .bk (tkC (.ptr (7,i,0) 0) ⟨1,ln,b,t,v,got⟩) (tkTy 1):=by unfold tkF;rw [ht.tk];rfl
 simp only [tkC,tkTy,iI] at hf
 refine enterO (c:=ir37) (rs:=rs37) (nt:=nt37) h _ Try.func37 rfl (by kernel_rfl) (by kernel_rfl) rfl (by simp [okVs,SV.okN,SC.okN,iI]) (of_decide_eq_true rfl) ?_
 rw [show stM m i now ⟨1,ln,b,t,v,got⟩=D.endS (outM m i now ⟨1,ln,b,t,v,got⟩) i now from if_pos ho]
 generalize hR:EffR w E 10 (takesO E (rO nz0 m)) _ 2 _=R
 generalize hW:takesO E (rO nz0 m)=W
 have hi:=ht.hi
 have hc:=ht.hc
 obtain ⟨x1,x2,x3,x4⟩:=outM_S (m:=m) (i:=i) (now:=now) (k0:=⟨1,ln,b,t,v,got⟩) hi
 have hxi:i<(outM m i now ⟨1,ln,b,t,v,got⟩).S.length:=by omega
 have hxc:c<(outM m i now ⟨1,ln,b,t,v,got⟩).C.length:=by rw [outM_C];exact hc
 simp only [iI] at hse
 simp (maxSteps:=2000000) only [ir37,nt37,rs37,go_sem,↓runOp,↓reduceIte,Nat.reduceLT,Nat.reduceLeDiff,Nat.reduceAdd,Nat.reduceEqDiff,reduceCtorEq,rO,mO,nz0,bkM,nilP,bkY,hubC,iI]
 repeat (with_reducible refine And.intro (by first | exact hi | exact hc | exact hxi | exact hxc | exact ⟨hi,Nat.le_refl _⟩ | exact ⟨hc,Nat.le_refl _⟩ | exact ⟨hxi,Nat.le_refl _⟩ | exact ⟨hxc,Nat.le_refl _⟩ | exact Or.inr trivial | exact Or.inl trivial | exact ⟨Or.inl trivial,Or.inr trivial⟩ | exact ⟨by omega,by omega,Nat.le_refl _⟩) ?_)
 refine draw_vc (by kernel_rfl) (mkTab_ok _ _) (of_decide_eq_true rfl) (of_decide_eq_true rfl) ?_
 repeat (first | simp (maxSteps:=2000000) only [go_sem,↓runOp,↓gateD,↓runD,↓reduceIte,Nat.reduceLT,Nat.reduceLeDiff,Nat.reduceAdd,Nat.reduceEqDiff,reduceCtorEq,hse,Int.toNat_natCast] | rw [dr_cons])
 repeat (with_reducible refine And.intro (by first | exact hi | exact hc | exact hxi | exact hxc | exact ⟨hi,Nat.le_refl _⟩ | exact ⟨hc,Nat.le_refl _⟩ | exact ⟨hxi,Nat.le_refl _⟩ | exact ⟨hxc,Nat.le_refl _⟩ | exact Or.inr trivial | exact Or.inl trivial | exact ⟨Or.inl trivial,Or.inr trivial⟩ | exact ⟨by omega,by omega,Nat.le_refl _⟩) ?_)
 refine call_inline (c:=ir50) (rs:=rs50) (nt:=nt50) 1000 (mkTab_ok _ _) Try.func50 rfl (by kernel_rfl) (by kernel_rfl) rfl (by simp [okVs,SV.okN,SC.okN]) (of_decide_eq_true rfl) (fun E0 a0 ht0=>?_)
 simp (maxSteps:=2000000) only [ir50,nt50,rs50,go_sem,↓condS,↓runOp,↓reduceIte,Nat.reduceLT,Nat.reduceLeDiff,Nat.reduceAdd,Nat.reduceEqDiff,reduceCtorEq]
 refine retI ht0 _ rfl (of_decide_eq_true rfl) (by simp [SV.okN,ok1L]) ?_
 simp (maxSteps:=2000000) only [go_sem,↓condS,↓runOp,↓reduceIte,Nat.reduceLT,Nat.reduceLeDiff,Nat.reduceAdd,Nat.reduceEqDiff,reduceCtorEq,hse]
 repeat (with_reducible refine And.intro (by first | exact hi | exact hc | exact hxi | exact hxc | exact ⟨hi,Nat.le_refl _⟩ | exact ⟨hc,Nat.le_refl _⟩ | exact ⟨hxi,Nat.le_refl _⟩ | exact ⟨hxc,Nat.le_refl _⟩ | exact Or.inr trivial | exact Or.inl trivial | exact ⟨Or.inl trivial,Or.inr trivial⟩ | exact ⟨by omega,by omega,Nat.le_refl _⟩) ?_)
 refine ⟨88,Or.inr ⟨by kernel_rfl,_,_,rfl⟩,⟨_,Try.func88,by kernel_rfl,by kernel_rfl⟩,?_⟩
 refine call_intro (crD (i:=i) (c:=c) (m:=inM m i now ⟨1,ln,b,t,v,got⟩) (m':=outM m i now ⟨1,ln,b,t,v,got⟩) (Nat.le_refl _) ⟨by simp [look,bkM,inM,D.begS,iI,nz0],rfl,⟨_,_,rfl,Nat.le_refl _,fun _ _=>rfl⟩,⟨_,_,rfl,Nat.le_refl _,fun _ _=>rfl⟩,⟨_,_,rfl,Nat.le_refl _,fun _ _=>rfl⟩,⟨_,_,rfl,by simp [inM],fun e _=>seC_in hi ht.tk rfl hrd e⟩,⟨_,_,rfl,Nat.le_refl _,fun _ _=>rfl⟩,⟨_,_,rfl,by simp [inM],fun x _=>tkF_in hi ht.tk x⟩,rfl,rfl⟩ (fun E w h=>task_own w E _ i c ⟨1,ln,b,t,v,got⟩ ht.at ht.ln ht.l1 ht.rm ht.cell h)) (lt11 (Nat.le_refl _)) ?_
 have hsx:seC 7 (outM m i now ⟨1,ln,b,t,v,got⟩).S i=[taskI (.ptr (7,i,0) 0) ((outM m i now ⟨1,ln,b,t,v,got⟩).S.getD i D.se0).tk,.v (.bool true),iI c,iI ((outM m i now ⟨1,ln,b,t,v,got⟩).S.getD i D.se0).ak,iI ((outM m i now ⟨1,ln,b,t,v,got⟩).S.getD i D.se0).av]:=by
  unfold seC;rw [x2,x3,ht.la]
 have hfx:tkF 7 (outM m i now ⟨1,ln,b,t,v,got⟩).S i = .bk (tkC (.ptr (7,i,0) 0) (D.taskT (inM m i now ⟨1,ln,b,t,v,got⟩) i ⟨1,ln,b,t,v,got⟩).2.1) (tkTy (D.taskT (inM m i now ⟨1,ln,b,t,v,got⟩) i ⟨1,ln,b,t,v,got⟩).2.1.kd):=by unfold tkF;rw [x4];rfl
 simp only [iI] at hsx
 simp (maxSteps:=2000000) only [go_sem,↓condS,↓runOp,↓reduceIte,Nat.reduceLT,Nat.reduceAdd,Nat.reduceEqDiff,reduceCtorEq,killO,dO,mO,bkM,bkY,hubC,iI,ho]
 generalize hX:outM m i now ⟨1,ln,b,t,v,got⟩=X at *
 repeat (with_reducible refine And.intro (by first | exact hi | exact hc | exact hxi | exact hxc | exact ⟨hi,Nat.le_refl _⟩ | exact ⟨hc,Nat.le_refl _⟩ | exact ⟨hxi,Nat.le_refl _⟩ | exact ⟨hxc,Nat.le_refl _⟩ | exact Or.inr trivial | exact Or.inl trivial | exact ⟨Or.inl trivial,Or.inr trivial⟩ | exact ⟨by omega,by omega,Nat.le_refl _⟩) ?_)
 refine draw_vc (by kernel_rfl) (mkTab_ok _ _) (of_decide_eq_true rfl) (of_decide_eq_true rfl) ?_
 repeat (first | simp (maxSteps:=2000000) only [go_sem,↓gateD,↓runD,↓reduceIte,Nat.reduceLT,Nat.reduceLeDiff,Nat.reduceAdd,Nat.reduceEqDiff,reduceCtorEq,hsx,Int.toNat_natCast,ats_C] | rw [dr_cons])
 repeat (with_reducible refine And.intro (by first | exact hi | exact hc | exact hxi | exact hxc | exact ⟨hi,Nat.le_refl _⟩ | exact ⟨hc,Nat.le_refl _⟩ | exact ⟨hxi,Nat.le_refl _⟩ | exact ⟨hxc,Nat.le_refl _⟩ | exact Or.inr trivial | exact Or.inl trivial | exact ⟨Or.inl trivial,Or.inr trivial⟩ | exact ⟨by omega,by omega,Nat.le_refl _⟩) ?_)
 refine draw_vc (by kernel_rfl) (mkTab_ok _ _) (of_decide_eq_true rfl) (of_decide_eq_true rfl) ?_
 repeat (first | simp (maxSteps:=2000000) only [go_sem,↓runOp,↓gateD,↓runD,↓reduceIte,Nat.reduceLT,Nat.reduceLeDiff,Nat.reduceAdd,Nat.reduceEqDiff,reduceCtorEq,hsx,Int.toNat_natCast,setAt,mkO_rs] | rw [dr_cons])
 repeat (with_reducible refine And.intro (by first | exact hi | exact hc | exact hxi | exact hxc | exact ⟨hi,Nat.le_refl _⟩ | exact ⟨hc,Nat.le_refl _⟩ | exact ⟨hxi,Nat.le_refl _⟩ | exact ⟨hxc,Nat.le_refl _⟩ | exact Or.inr trivial | exact Or.inl trivial | exact ⟨Or.inl trivial,Or.inr trivial⟩ | exact ⟨by omega,by omega,Nat.le_refl _⟩) ?_)
 rw [← hR,← hW]
 have hcl:(X.S.getD i D.se0).la.toNat=c:=by rw [x3,ht.la];rfl
 have hE:D.endS X i now={ X with C:=X.C.set c { X.C.getD c D.ca0 with en:=now,ak:=(X.S.getD i D.se0).ak,av:=(X.S.getD i D.se0).av },S:=X.S.set i { X.S.getD i D.se0 with tk:=none } }:=by unfold D.endS;rw [hcl]
 rw [hE]
 refine ret_le (le_no (x:=(7,i,0)) (p:=i<X.S.length∧True) (by simp only [pkN,look,Fm.pk,Nat.reduceEqDiff,if_true,if_false,hfx];rfl) ⟨hxi,trivial⟩) (fun E E'=>rfl) ?_
 simp (maxSteps:=2000000) only [go_sem,↓reduceIte,Nat.reduceEqDiff,reduceCtorEq]
 exact retR (p:=11) (q:=12) rfl (by simp) (fun E E'=>rfl) ⟨by simp [look,bkM,iI,nilP],rfl,⟨_,_,rfl,Nat.le_refl _,fun _ _=>rfl⟩,⟨_,_,rfl,Nat.le_refl _,fun _ _=>rfl⟩,⟨_,_,rfl,Nat.le_refl _,fun _ _=>rfl⟩,⟨_,_,rfl,by simp,fun e _=>seC_nil hxi (by rw [x2,x3,ht.la];rfl) e⟩,⟨_,_,rfl,by simp,fun e he=>by rw [setAt_two];exact ats_set hxc rfl e he⟩,⟨_,_,rfl,by simp,fun x _=>tkF_nil hxi x⟩,rfl⟩
set_option maxRecDepth 100000 in
set_option maxHeartbeats 4000000 in
theorem mstep_1ft (w:World) (E:Env) (m:D.Pm) (i c:Nat) (now:Int) (ln:Nat) (b t v:Int) (got:Bool) (ht:StAt m i c now ⟨1,ln,b,t,v,got⟩ ⟨1,1,b,t,v,got⟩) (hrd:(m.S.getD i D.se0).rd=false) (ho:(D.taskT (inM m i now ⟨1,1,b,t,v,got⟩) i ⟨1,1,b,t,v,got⟩).2.2=true) (h:Handed w E 10 (rO nz0 m) []) :
  Calls Try.prog 37 (([.c (.ptr (0,0,0) 0),.c (iI i),.c (iI now)]:List SV).map (SV.den E)).toArray w (EffR w E 10 (takesO E (rO nz0 m)) (.tup []) 2 fun b'=>killO [3,4]++rO ⟨b',b' + 1,6,7⟩ (stM m i now ⟨1,1,b,t,v,got⟩)):=by
 have hse:seC 7 m.S i=[.ifc (tkIf 1) (.ptr (7,i,0) 0),.v (.bool false),iI c,iI (m.S.getD i D.se0).ak,iI (m.S.getD i D.se0).av]:=by
  unfold seC;rw [ht.tk,hrd,ht.la];simp only [taskI]
 have hf:tkF 7 m.S i = .bk (tkC (.ptr (7,i,0) 0) ⟨1,ln,b,t,v,got⟩) (tkTy 1):=by unfold tkF;rw [ht.tk];rfl
 simp only [tkC,tkTy,iI] at hf
 refine enterO (c:=ir37) (rs:=rs37) (nt:=nt37) h _ Try.func37 rfl (by kernel_rfl) (by kernel_rfl) rfl (by simp [okVs,SV.okN,SC.okN,iI]) (of_decide_eq_true rfl) ?_
 rw [show stM m i now ⟨1,1,b,t,v,got⟩=D.endS (outM m i now ⟨1,1,b,t,v,got⟩) i now from if_pos ho]
 generalize hR:EffR w E 10 (takesO E (rO nz0 m)) _ 2 _=R
 generalize hW:takesO E (rO nz0 m)=W
 have hi:=ht.hi
 have hc:=ht.hc
 obtain ⟨x1,x2,x3,x4⟩:=outM_S (m:=m) (i:=i) (now:=now) (k0:=⟨1,1,b,t,v,got⟩) hi
 have hxi:i<(outM m i now ⟨1,1,b,t,v,got⟩).S.length:=by omega
 have hxc:c<(outM m i now ⟨1,1,b,t,v,got⟩).C.length:=by rw [outM_C];exact hc
 simp only [iI] at hse
 simp (maxSteps:=2000000) only [ir37,nt37,rs37,go_sem,↓runOp,↓reduceIte,Nat.reduceLT,Nat.reduceLeDiff,Nat.reduceAdd,Nat.reduceEqDiff,reduceCtorEq,rO,mO,nz0,bkM,nilP,bkY,hubC,iI]
 repeat (with_reducible refine And.intro (by first | exact hi | exact hc | exact hxi | exact hxc | exact ⟨hi,Nat.le_refl _⟩ | exact ⟨hc,Nat.le_refl _⟩ | exact ⟨hxi,Nat.le_refl _⟩ | exact ⟨hxc,Nat.le_refl _⟩ | exact Or.inr trivial | exact Or.inl trivial | exact ⟨Or.inl trivial,Or.inr trivial⟩ | exact ⟨by omega,by omega,Nat.le_refl _⟩) ?_)
 refine draw_vc (by kernel_rfl) (mkTab_ok _ _) (of_decide_eq_true rfl) (of_decide_eq_true rfl) ?_
 repeat (first | simp (maxSteps:=2000000) only [go_sem,↓runOp,↓gateD,↓runD,↓reduceIte,Nat.reduceLT,Nat.reduceLeDiff,Nat.reduceAdd,Nat.reduceEqDiff,reduceCtorEq,hse,Int.toNat_natCast] | rw [dr_cons])
 repeat (with_reducible refine And.intro (by first | exact hi | exact hc | exact hxi | exact hxc | exact ⟨hi,Nat.le_refl _⟩ | exact ⟨hc,Nat.le_refl _⟩ | exact ⟨hxi,Nat.le_refl _⟩ | exact ⟨hxc,Nat.le_refl _⟩ | exact Or.inr trivial | exact Or.inl trivial | exact ⟨Or.inl trivial,Or.inr trivial⟩ | exact ⟨by omega,by omega,Nat.le_refl _⟩) ?_)
 refine call_inline (c:=ir50) (rs:=rs50) (nt:=nt50) 1000 (mkTab_ok _ _) Try.func50 rfl (by kernel_rfl) (by kernel_rfl) rfl (by simp [okVs,SV.okN,SC.okN]) (of_decide_eq_true rfl) (fun E0 a0 ht0=>?_)
 simp (maxSteps:=2000000) only [ir50,nt50,rs50,go_sem,↓condS,↓runOp,↓reduceIte,Nat.reduceLT,Nat.reduceLeDiff,Nat.reduceAdd,Nat.reduceEqDiff,reduceCtorEq]
 refine retI ht0 _ rfl (of_decide_eq_true rfl) (by simp [SV.okN,ok1L]) ?_
 simp (maxSteps:=2000000) only [go_sem,↓condS,↓runOp,↓reduceIte,Nat.reduceLT,Nat.reduceLeDiff,Nat.reduceAdd,Nat.reduceEqDiff,reduceCtorEq,hse,setAt]
 repeat (with_reducible refine And.intro (by first | exact hi | exact hc | exact hxi | exact hxc | exact ⟨hi,Nat.le_refl _⟩ | exact ⟨hc,Nat.le_refl _⟩ | exact ⟨hxi,Nat.le_refl _⟩ | exact ⟨hxc,Nat.le_refl _⟩ | exact Or.inr trivial | exact Or.inl trivial | exact ⟨Or.inl trivial,Or.inr trivial⟩ | exact ⟨by omega,by omega,Nat.le_refl _⟩) ?_)
 refine ⟨107,Or.inl ⟨by kernel_rfl,und_ex (by kernel_rfl)⟩,⟨_,Try.func107,by kernel_rfl,by kernel_rfl⟩,?_⟩
 refine call_inline (c:=ir107) (rs:=rs107) (nt:=nt107) 1000 (mkTab_ok _ _) Try.func107 rfl (by kernel_rfl) (by kernel_rfl) rfl (by simp [okVs,SV.okN,SC.okN]) (of_decide_eq_true rfl) (fun E0 a0 ht0=>?_)
 simp (maxSteps:=2000000) only [ir107,nt107,rs107,go_sem,↓runOp,↓reduceIte,Nat.reduceLT,Nat.reduceLeDiff,Nat.reduceAdd,Nat.reduceEqDiff,reduceCtorEq,hf]
 repeat (with_reducible refine And.intro (by first | exact hi | exact hc | exact hxi | exact hxc | exact ⟨hi,Nat.le_refl _⟩ | exact ⟨hc,Nat.le_refl _⟩ | exact ⟨hxi,Nat.le_refl _⟩ | exact ⟨hxc,Nat.le_refl _⟩ | exact Or.inr trivial | exact Or.inl trivial | exact ⟨Or.inl trivial,Or.inr trivial⟩ | exact ⟨by omega,by omega,Nat.le_refl _⟩) ?_)
 refine retI ht0 _ rfl (of_decide_eq_true rfl) (by simp [SV.okN,SC.okN]) ?_
 simp (maxSteps:=2000000) only [go_sem,↓condS,↓runOp,↓reduceIte,Nat.reduceLT,Nat.reduceEqDiff,reduceCtorEq,setAt]
 repeat (with_reducible refine And.intro (by first | exact hi | exact hc | exact hxi | exact hxc | exact ⟨hi,Nat.le_refl _⟩ | exact ⟨hc,Nat.le_refl _⟩ | exact ⟨hxi,Nat.le_refl _⟩ | exact ⟨hxc,Nat.le_refl _⟩ | exact Or.inr trivial | exact Or.inl trivial | exact ⟨Or.inl trivial,Or.inr trivial⟩ | exact ⟨by omega,by omega,Nat.le_refl _⟩) ?_)
 refine ⟨88,Or.inr ⟨by kernel_rfl,_,_,rfl⟩,⟨_,Try.func88,by kernel_rfl,by kernel_rfl⟩,?_⟩
 refine call_intro (crD (i:=i) (c:=c) (m:=inM m i now ⟨1,1,b,t,v,got⟩) (m':=outM m i now ⟨1,1,b,t,v,got⟩) (Nat.le_refl _) ⟨by simp [look,bkM,inM,D.begS,iI,nz0],rfl,⟨_,_,rfl,Nat.le_refl _,fun _ _=>rfl⟩,⟨_,_,rfl,Nat.le_refl _,fun _ _=>rfl⟩,⟨_,_,rfl,Nat.le_refl _,fun _ _=>rfl⟩,⟨_,_,rfl,by simp [inM],fun e _=>seC_new (k0:=⟨1,1,b,t,v,got⟩) hi ht.tk rfl (by rw [ht.la];rfl) e⟩,⟨_,_,rfl,Nat.le_refl _,fun _ _=>rfl⟩,⟨_,_,rfl,by simp [inM],fun x _=>Eq.trans (ite_congr rfl (fun _=>rfl) (fun _=>rfl)) (tkF_new (t:=7) (k0:=⟨1,1,b,t,v,got⟩) hi x)⟩,rfl,rfl⟩ (fun E w h=>task_own w E _ i c ⟨1,1,b,t,v,got⟩ ht.at ht.ln ht.l1 ht.rm ht.cell h)) (lt11 (Nat.le_refl _)) ?_
 have hsx:seC 7 (outM m i now ⟨1,1,b,t,v,got⟩).S i=[taskI (.ptr (7,i,0) 0) ((outM m i now ⟨1,1,b,t,v,got⟩).S.getD i D.se0).tk,.v (.bool true),iI c,iI ((outM m i now ⟨1,1,b,t,v,got⟩).S.getD i D.se0).ak,iI ((outM m i now ⟨1,1,b,t,v,got⟩).S.getD i D.se0).av]:=by
  unfold seC;rw [x2,x3,ht.la]
 have hfx:tkF 7 (outM m i now ⟨1,1,b,t,v,got⟩).S i = .bk (tkC (.ptr (7,i,0) 0) (D.taskT (inM m i now ⟨1,1,b,t,v,got⟩) i ⟨1,1,b,t,v,got⟩).2.1) (tkTy (D.taskT (inM m i now ⟨1,1,b,t,v,got⟩) i ⟨1,1,b,t,v,got⟩).2.1.kd):=by unfold tkF;rw [x4];rfl
 simp only [iI] at hsx
 simp (maxSteps:=2000000) only [go_sem,↓condS,↓runOp,↓reduceIte,Nat.reduceLT,Nat.reduceAdd,Nat.reduceEqDiff,reduceCtorEq,killO,dO,mO,bkM,bkY,hubC,iI,ho]
 generalize hX:outM m i now ⟨1,1,b,t,v,got⟩=X at *
 repeat (with_reducible refine And.intro (by first | exact hi | exact hc | exact hxi | exact hxc | exact ⟨hi,Nat.le_refl _⟩ | exact ⟨hc,Nat.le_refl _⟩ | exact ⟨hxi,Nat.le_refl _⟩ | exact ⟨hxc,Nat.le_refl _⟩ | exact Or.inr trivial | exact Or.inl trivial | exact ⟨Or.inl trivial,Or.inr trivial⟩ | exact ⟨by omega,by omega,Nat.le_refl _⟩) ?_)
 refine draw_vc (by kernel_rfl) (mkTab_ok _ _) (of_decide_eq_true rfl) (of_decide_eq_true rfl) ?_
 repeat (first | simp (maxSteps:=2000000) only [go_sem,↓gateD,↓runD,↓reduceIte,Nat.reduceLT,Nat.reduceLeDiff,Nat.reduceAdd,Nat.reduceEqDiff,reduceCtorEq,hsx,Int.toNat_natCast,ats_C] | rw [dr_cons])
 repeat (with_reducible refine And.intro (by first | exact hi | exact hc | exact hxi | exact hxc | exact ⟨hi,Nat.le_refl _⟩ | exact ⟨hc,Nat.le_refl _⟩ | exact ⟨hxi,Nat.le_refl _⟩ | exact ⟨hxc,Nat.le_refl _⟩ | exact Or.inr trivial | exact Or.inl trivial | exact ⟨Or.inl trivial,Or.inr trivial⟩ | exact ⟨by omega,by omega,Nat.le_refl _⟩) ?_)
 refine draw_vc (by kernel_rfl) (mkTab_ok _ _) (of_decide_eq_true rfl) (of_decide_eq_true rfl) ?_
 repeat (first | simp (maxSteps:=2000000) only [go_sem,↓runOp,↓gateD,↓runD,↓reduceIte,Nat.reduceLT,Nat.reduceLeDiff,Nat.reduceAdd,Nat.reduceEqDiff,reduceCtorEq,hsx,Int.toNat_natCast,setAt,mkO_rs] | rw [dr_cons])
 repeat (with_reducible refine And.intro (by first | exact hi | exact hc | exact hxi | exact hxc | exact ⟨hi,Nat.le_refl _⟩ | exact ⟨hc,Nat.le_refl _⟩ | exact ⟨hxi,Nat.le_refl _⟩ | exact ⟨hxc,Nat.le_refl _⟩ | exact Or.inr trivial | exact Or.inl trivial | exact ⟨Or.inl trivial,Or.inr trivial⟩ | exact ⟨by omega,by omega,Nat.le_refl _⟩) ?_)
 rw [← hR,← hW]
 have hcl:(X.S.getD i D.se0).la.toNat=c:=by rw [x3,ht.la];rfl
 have hE:D.endS X i now={ X with C:=X.C.set c { X.C.getD c D.ca0 with en:=now,ak:=(X.S.getD i D.se0).ak,av:=(X.S.getD i D.se0).av },S:=X.S.set i { X.S.getD i D.se0 with tk:=none } }:=by unfold D.endS;rw [hcl]
 rw [hE]
 refine ret_le (le_no (x:=(7,i,0)) (p:=i<X.S.length∧True) (by simp only [pkN,look,Fm.pk,Nat.reduceEqDiff,if_true,if_false,hfx];rfl) ⟨hxi,trivial⟩) (fun E E'=>rfl) ?_
 simp (maxSteps:=2000000) only [go_sem,↓reduceIte,Nat.reduceEqDiff,reduceCtorEq]
 exact retR (p:=11) (q:=12) rfl (by simp) (fun E E'=>rfl) ⟨by simp [look,bkM,iI,nilP],rfl,⟨_,_,rfl,Nat.le_refl _,fun _ _=>rfl⟩,⟨_,_,rfl,Nat.le_refl _,fun _ _=>rfl⟩,⟨_,_,rfl,Nat.le_refl _,fun _ _=>rfl⟩,⟨_,_,rfl,by simp,fun e _=>seC_nil hxi (by rw [x2,x3,ht.la];rfl) e⟩,⟨_,_,rfl,by simp,fun e he=>by rw [setAt_two];exact ats_set hxc rfl e he⟩,⟨_,_,rfl,by simp,fun x _=>tkF_nil hxi x⟩,rfl⟩
set_option maxRecDepth 100000 in
set_option maxHeartbeats 4000000 in
theorem mstep_2tt (w:World) (E:Env) (m:D.Pm) (i c:Nat) (now:Int) (ln:Nat) (b t v:Int) (got:Bool) (ht:StAt m i c now ⟨2,ln,b,t,v,got⟩ ⟨2,ln,b,t,v,got⟩) (hrd:(m.S.getD i D.se0).rd=true) (ho:(D.taskT (inM m i now ⟨2,ln,b,t,v,got⟩) i ⟨2,ln,b,t,v,got⟩).2.2=true) (h:Handed w E 10 (rO nz0 m) []) :
  Calls Try.prog 37 (([.c (.ptr (0,0,0) 0),.c (iI i),.c (iI now)]:List SV).map (SV.den E)).toArray w (EffR w E 10 (takesO E (rO nz0 m)) (.tup []) 2 fun b'=>killO [3,4]++rO ⟨b',b' + 1,6,7⟩ (stM m i now ⟨2,ln,b,t,v,got⟩)):=by
 have hse:seC 7 m.S i=[.ifc (tkIf 2) (.ptr (7,i,0) 0),.v (.bool true),iI c,iI (m.S.getD i D.se0).ak,iI (m.S.getD i D.se0).av]:=by
  unfold seC;rw [ht.tk,hrd,ht.la];simp only [taskI]
 have hf:tkF 7 m.S i = .bk (tkC (.ptr (7,i,0) 0) ⟨2,ln,b,t,v,got⟩) (tkTy 2):=by unfold tkF;rw [ht.tk];rfl
 simp only [tkC,tkTy,iI] at hf
 refine enterO (c:=ir37) (rs:=rs37) (nt:=nt37) h _ Try.func37 rfl (by kernel_rfl) (by kernel_rfl) rfl (by simp [okVs,SV.okN,SC.okN,iI]) (of_decide_eq_true rfl) ?_
 rw [show stM m i now ⟨2,ln,b,t,v,got⟩=D.endS (outM m i now ⟨2,ln,b,t,v,got⟩) i now from if_pos ho]
 generalize hR:EffR w E 10 (takesO E (rO nz0 m)) _ 2 _=R
 generalize hW:takesO E (rO nz0 m)=W
 have hi:=ht.hi
 have hc:=ht.hc
 obtain ⟨x1,x2,x3,x4⟩:=outM_S (m:=m) (i:=i) (now:=now) (k0:=⟨2,ln,b,t,v,got⟩) hi
 have hxi:i<(outM m i now ⟨2,ln,b,t,v,got⟩).S.length:=by omega
 have hxc:c<(outM m i now ⟨2,ln,b,t,v,got⟩).C.length:=by rw [outM_C];exact hc
 simp only [iI] at hse
 simp (maxSteps:=2000000) only [ir37,nt37,rs37,go_sem,↓runOp,↓reduceIte,Nat.reduceLT,Nat.reduceLeDiff,Nat.reduceAdd,Nat.reduceEqDiff,reduceCtorEq,rO,mO,nz0,bkM,nilP,bkY,hubC,iI]
 repeat (with_reducible refine And.intro (by first | exact hi | exact hc | exact hxi | exact hxc | exact ⟨hi,Nat.le_refl _⟩ | exact ⟨hc,Nat.le_refl _⟩ | exact ⟨hxi,Nat.le_refl _⟩ | exact ⟨hxc,Nat.le_refl _⟩ | exact Or.inr trivial | exact Or.inl trivial | exact ⟨Or.inl trivial,Or.inr trivial⟩ | exact ⟨by omega,by omega,Nat.le_refl _⟩) ?_)
 refine draw_vc (by kernel_rfl) (mkTab_ok _ _) (of_decide_eq_true rfl) (of_decide_eq_true rfl) ?_
 repeat (first | simp (maxSteps:=2000000) only [go_sem,↓runOp,↓gateD,↓runD,↓reduceIte,Nat.reduceLT,Nat.reduceLeDiff,Nat.reduceAdd,Nat.reduceEqDiff,reduceCtorEq,hse,Int.toNat_natCast] | rw [dr_cons])
 repeat (with_reducible refine And.intro (by first | exact hi | exact hc | exact hxi | exact hxc | exact ⟨hi,Nat.le_refl _⟩ | exact ⟨hc,Nat.le_refl _⟩ | exact ⟨hxi,Nat.le_refl _⟩ | exact ⟨hxc,Nat.le_refl _⟩ | exact Or.inr trivial | exact Or.inl trivial | exact ⟨Or.inl trivial,Or.inr trivial⟩ | exact ⟨by omega,by omega,Nat.le_refl _⟩) ?_)
 refine call_inline (c:=ir50) (rs:=rs50) (nt:=nt50) 1000 (mkTab_ok _ _) Try.func50 rfl (by kernel_rfl) (by kernel_rfl) rfl (by simp [okVs,SV.okN,SC.okN]) (of_decide_eq_true rfl) (fun E0 a0 ht0=>?_)
 simp (maxSteps:=2000000) only [ir50,nt50,rs50,go_sem,↓condS,↓runOp,↓reduceIte,Nat.reduceLT,Nat.reduceLeDiff,Nat.reduceAdd,Nat.reduceEqDiff,reduceCtorEq]
 refine retI ht0 _ rfl (of_decide_eq_true rfl) (by simp [SV.okN,ok1L]) ?_
 simp (maxSteps:=2000000) only [go_sem,↓condS,↓runOp,↓reduceIte,Nat.reduceLT,Nat.reduceLeDiff,Nat.reduceAdd,Nat.reduceEqDiff,reduceCtorEq,hse]
 repeat (with_reducible refine And.intro (by first | exact hi | exact hc | exact hxi | exact hxc | exact ⟨hi,Nat.le_refl _⟩ | exact ⟨hc,Nat.le_refl _⟩ | exact ⟨hxi,Nat.le_refl _⟩ | exact ⟨hxc,Nat.le_refl _⟩ | exact Or.inr trivial | exact Or.inl trivial | exact ⟨Or.inl trivial,Or.inr trivial⟩ | exact ⟨by omega,by omega,Nat.le_refl _⟩) ?_)
 refine ⟨88,Or.inr ⟨by kernel_rfl,_,_,rfl⟩,⟨_,Try.func88,by kernel_rfl,by kernel_rfl⟩,?_⟩
 refine call_intro (crD (i:=i) (c:=c) (m:=inM m i now ⟨2,ln,b,t,v,got⟩) (m':=outM m i now ⟨2,ln,b,t,v,got⟩) (Nat.le_refl _) ⟨by simp [look,bkM,inM,D.begS,iI,nz0],rfl,⟨_,_,rfl,Nat.le_refl _,fun _ _=>rfl⟩,⟨_,_,rfl,Nat.le_refl _,fun _ _=>rfl⟩,⟨_,_,rfl,Nat.le_refl _,fun _ _=>rfl⟩,⟨_,_,rfl,by simp [inM],fun e _=>seC_in hi ht.tk rfl hrd e⟩,⟨_,_,rfl,Nat.le_refl _,fun _ _=>rfl⟩,⟨_,_,rfl,by simp [inM],fun x _=>tkF_in hi ht.tk x⟩,rfl,rfl⟩ (fun E w h=>task_own w E _ i c ⟨2,ln,b,t,v,got⟩ ht.at ht.ln ht.l1 ht.rm ht.cell h)) (lt11 (Nat.le_refl _)) ?_
 have hsx:seC 7 (outM m i now ⟨2,ln,b,t,v,got⟩).S i=[taskI (.ptr (7,i,0) 0) ((outM m i now ⟨2,ln,b,t,v,got⟩).S.getD i D.se0).tk,.v (.bool true),iI c,iI ((outM m i now ⟨2,ln,b,t,v,got⟩).S.getD i D.se0).ak,iI ((outM m i now ⟨2,ln,b,t,v,got⟩).S.getD i D.se0).av]:=by
  unfold seC;rw [x2,x3,ht.la]
 have hfx:tkF 7 (outM m i now ⟨2,ln,b,t,v,got⟩).S i = .bk (tkC (.ptr (7,i,0) 0) (D.taskT (inM m i now ⟨2,ln,b,t,v,got⟩) i ⟨2,ln,b,t,v,got⟩).2.1) (tkTy (D.taskT (inM m i now ⟨2,ln,b,t,v,got⟩) i ⟨2,ln,b,t,v,got⟩).2.1.kd):=by unfold tkF;rw [x4];rfl
 simp only [iI] at hsx
 simp (maxSteps:=2000000) only [go_sem,↓condS,↓runOp,↓reduceIte,Nat.reduceLT,Nat.reduceAdd,Nat.reduceEqDiff,reduceCtorEq,killO,dO,mO,bkM,bkY,hubC,iI,ho]
 generalize hX:outM m i now ⟨2,ln,b,t,v,got⟩=X at *
 repeat (with_reducible refine And.intro (by first | exact hi | exact hc | exact hxi | exact hxc | exact ⟨hi,Nat.le_refl _⟩ | exact ⟨hc,Nat.le_refl _⟩ | exact ⟨hxi,Nat.le_refl _⟩ | exact ⟨hxc,Nat.le_refl _⟩ | exact Or.inr trivial | exact Or.inl trivial | exact ⟨Or.inl trivial,Or.inr trivial⟩ | exact ⟨by omega,by omega,Nat.le_refl _⟩) ?_)
 refine draw_vc (by kernel_rfl) (mkTab_ok _ _) (of_decide_eq_true rfl) (of_decide_eq_true rfl) ?_
 repeat (first | simp (maxSteps:=2000000) only [go_sem,↓gateD,↓runD,↓reduceIte,Nat.reduceLT,Nat.reduceLeDiff,Nat.reduceAdd,Nat.reduceEqDiff,reduceCtorEq,hsx,Int.toNat_natCast,ats_C] | rw [dr_cons])
 repeat (with_reducible refine And.intro (by first | exact hi | exact hc | exact hxi | exact hxc | exact ⟨hi,Nat.le_refl _⟩ | exact ⟨hc,Nat.le_refl _⟩ | exact ⟨hxi,Nat.le_refl _⟩ | exact ⟨hxc,Nat.le_refl _⟩ | exact Or.inr trivial | exact Or.inl trivial | exact ⟨Or.inl trivial,Or.inr trivial⟩ | exact ⟨by omega,by omega,Nat.le_refl _⟩) ?_)
 refine draw_vc (by kernel_rfl) (mkTab_ok _ _) (of_decide_eq_true rfl) (of_decide_eq_true rfl) ?_
 repeat (first | simp (maxSteps:=2000000) only [go_sem,↓runOp,↓gateD,↓runD,↓reduceIte,Nat.reduceLT,Nat.reduceLeDiff,Nat.reduceAdd,Nat.reduceEqDiff,reduceCtorEq,hsx,Int.toNat_natCast,setAt,mkO_rs] | rw [dr_cons])
 repeat (with_reducible refine And.intro (by first | exact hi | exact hc | exact hxi | exact hxc | exact ⟨hi,Nat.le_refl _⟩ | exact ⟨hc,Nat.le_refl _⟩ | exact ⟨hxi,Nat.le_refl _⟩ | exact ⟨hxc,Nat.le_refl _⟩ | exact Or.inr trivial | exact Or.inl trivial | exact ⟨Or.inl trivial,Or.inr trivial⟩ | exact ⟨by omega,by omega,Nat.le_refl _⟩) ?_)
 rw [← hR,← hW]
 have hcl:(X.S.getD i D.se0).la.toNat=c:=by rw [x3,ht.la];rfl
 have hE:D.endS X i now={ X with C:=X.C.set c { X.C.getD c D.ca0 with en:=now,ak:=(X.S.getD i D.se0).ak,av:=(X.S.getD i D.se0).av },S:=X.S.set i { X.S.getD i D.se0 with tk:=none } }:=by unfold D.endS;rw [hcl]
 rw [hE]
 refine ret_le (le_no (x:=(7,i,0)) (p:=i<X.S.length∧True) (by simp only [pkN,look,Fm.pk,Nat.reduceEqDiff,if_true,if_false,hfx];rfl) ⟨hxi,trivial⟩) (fun E E'=>rfl) ?_
 simp (maxSteps:=2000000) only [go_sem,↓reduceIte,Nat.reduceEqDiff,reduceCtorEq]
 exact retR (p:=11) (q:=12) rfl (by simp) (fun E E'=>rfl) ⟨by simp [look,bkM,iI,nilP],rfl,⟨_,_,rfl,Nat.le_refl _,fun _ _=>rfl⟩,⟨_,_,rfl,Nat.le_refl _,fun _ _=>rfl⟩,⟨_,_,rfl,Nat.le_refl _,fun _ _=>rfl⟩,⟨_,_,rfl,by simp,fun e _=>seC_nil hxi (by rw [x2,x3,ht.la];rfl) e⟩,⟨_,_,rfl,by simp,fun e he=>by rw [setAt_two];exact ats_set hxc rfl e he⟩,⟨_,_,rfl,by simp,fun x _=>tkF_nil hxi x⟩,rfl⟩
set_option maxRecDepth 100000 in
set_option maxHeartbeats 4000000 in
theorem mstep_2ft (w:World) (E:Env) (m:D.Pm) (i c:Nat) (now:Int) (ln:Nat) (b t v:Int) (got:Bool) (ht:StAt m i c now ⟨2,ln,b,t,v,got⟩ ⟨2,1,b,t,v,got⟩) (hrd:(m.S.getD i D.se0).rd=false) (ho:(D.taskT (inM m i now ⟨2,1,b,t,v,got⟩) i ⟨2,1,b,t,v,got⟩).2.2=true) (h:Handed w E 10 (rO nz0 m) []) :
  Calls Try.prog 37 (([.c (.ptr (0,0,0) 0),.c (iI i),.c (iI now)]:List SV).map (SV.den E)).toArray w (EffR w E 10 (takesO E (rO nz0 m)) (.tup []) 2 fun b'=>killO [3,4]++rO ⟨b',b' + 1,6,7⟩ (stM m i now ⟨2,1,b,t,v,got⟩)):=by
 have hse:seC 7 m.S i=[.ifc (tkIf 2) (.ptr (7,i,0) 0),.v (.bool false),iI c,iI (m.S.getD i D.se0).ak,iI (m.S.getD i D.se0).av]:=by
  unfold seC;rw [ht.tk,hrd,ht.la];simp only [taskI]
 have hf:tkF 7 m.S i = .bk (tkC (.ptr (7,i,0) 0) ⟨2,ln,b,t,v,got⟩) (tkTy 2):=by unfold tkF;rw [ht.tk];rfl
 simp only [tkC,tkTy,iI] at hf
 refine enterO (c:=ir37) (rs:=rs37) (nt:=nt37) h _ Try.func37 rfl (by kernel_rfl) (by kernel_rfl) rfl (by simp [okVs,SV.okN,SC.okN,iI]) (of_decide_eq_true rfl) ?_
 rw [show stM m i now ⟨2,1,b,t,v,got⟩=D.endS (outM m i now ⟨2,1,b,t,v,got⟩) i now from if_pos ho]
 generalize hR:EffR w E 10 (takesO E (rO nz0 m)) _ 2 _=R
 generalize hW:takesO E (rO nz0 m)=W
 have hi:=ht.hi
 have hc:=ht.hc
 obtain ⟨x1,x2,x3,x4⟩:=outM_S (m:=m) (i:=i) (now:=now) (k0:=⟨2,1,b,t,v,got⟩) hi
 have hxi:i<(outM m i now ⟨2,1,b,t,v,got⟩).S.length:=by omega
 have hxc:c<(outM m i now ⟨2,1,b,t,v,got⟩).C.length:=by rw [outM_C];exact hc
 simp only [iI] at hse
 simp (maxSteps:=2000000) only [ir37,nt37,rs37,go_sem,↓runOp,↓reduceIte,Nat.reduceLT,Nat.reduceLeDiff,Nat.reduceAdd,Nat.reduceEqDiff,reduceCtorEq,rO,mO,nz0,bkM,nilP,bkY,hubC,iI]
 repeat (with_reducible refine And.intro (by first | exact hi | exact hc | exact hxi | exact hxc | exact ⟨hi,Nat.le_refl _⟩ | exact ⟨hc,Nat.le_refl _⟩ | exact ⟨hxi,Nat.le_refl _⟩ | exact ⟨hxc,Nat.le_refl _⟩ | exact Or.inr trivial | exact Or.inl trivial | exact ⟨Or.inl trivial,Or.inr trivial⟩ | exact ⟨by omega,by omega,Nat.le_refl _⟩) ?_)
 refine draw_vc (by kernel_rfl) (mkTab_ok _ _) (of_decide_eq_true rfl) (of_decide_eq_true rfl) ?_
 repeat (first | simp (maxSteps:=2000000) only [go_sem,↓runOp,↓gateD,↓runD,↓reduceIte,Nat.reduceLT,Nat.reduceLeDiff,Nat.reduceAdd,Nat.reduceEqDiff,reduceCtorEq,hse,Int.toNat_natCast] | rw [dr_cons])
 repeat (with_reducible refine And.intro (by first | exact hi | exact hc | exact hxi | exact hxc | exact ⟨hi,Nat.le_refl _⟩ | exact ⟨hc,Nat.le_refl _⟩ | exact ⟨hxi,Nat.le_refl _⟩ | exact ⟨hxc,Nat.le_refl _⟩ | exact Or.inr trivial | exact Or.inl trivial | exact ⟨Or.inl trivial,Or.inr trivial⟩ | exact ⟨by omega,by omega,Nat.le_refl _⟩) ?_)
 refine call_inline (c:=ir50) (rs:=rs50) (nt:=nt50) 1000 (mkTab_ok _ _) Try.func50 rfl (by kernel_rfl) (by kernel_rfl) rfl (by simp [okVs,SV.okN,SC.okN]) (of_decide_eq_true rfl) (fun E0 a0 ht0=>?_)
 simp (maxSteps:=2000000) only [ir50,nt50,rs50,go_sem,↓condS,↓runOp,↓reduceIte,Nat.reduceLT,Nat.reduceLeDiff,Nat.reduceAdd,Nat.reduceEqDiff,reduceCtorEq]
 refine retI ht0 _ rfl (of_decide_eq_true rfl) (by simp [SV.okN,ok1L]) ?_
 simp (maxSteps:=2000000) only [go_sem,↓condS,↓runOp,↓reduceIte,Nat.reduceLT,Nat.reduceLeDiff,Nat.reduceAdd,Nat.reduceEqDiff,reduceCtorEq,hse,setAt]
 repeat (with_reducible refine And.intro (by first | exact hi | exact hc | exact hxi | exact hxc | exact ⟨hi,Nat.le_refl _⟩ | exact ⟨hc,Nat.le_refl _⟩ | exact ⟨hxi,Nat.le_refl _⟩ | exact ⟨hxc,Nat.le_refl _⟩ | exact Or.inr trivial | exact Or.inl trivial | exact ⟨Or.inl trivial,Or.inr trivial⟩ | exact ⟨by omega,by omega,Nat.le_refl _⟩) ?_)
 refine ⟨118,Or.inl ⟨by kernel_rfl,und_ex (by kernel_rfl)⟩,⟨_,Try.func118,by kernel_rfl,by kernel_rfl⟩,?_⟩
 refine call_inline (c:=ir118) (rs:=rs118) (nt:=nt118) 1000 (mkTab_ok _ _) Try.func118 rfl (by kernel_rfl) (by kernel_rfl) rfl (by simp [okVs,SV.okN,SC.okN]) (of_decide_eq_true rfl) (fun E0 a0 ht0=>?_)
 simp (maxSteps:=2000000) only [ir118,nt118,rs118,go_sem,↓runOp,↓reduceIte,Nat.reduceLT,Nat.reduceLeDiff,Nat.reduceAdd,Nat.reduceEqDiff,reduceCtorEq,hf]
 repeat (with_reducible refine And.intro (by first | exact hi | exact hc | exact hxi | exact hxc | exact ⟨hi,Nat.le_refl _⟩ | exact ⟨hc,Nat.le_refl _⟩ | exact ⟨hxi,Nat.le_refl _⟩ | exact ⟨hxc,Nat.le_refl _⟩ | exact Or.inr trivial | exact Or.inl trivial | exact ⟨Or.inl trivial,Or.inr trivial⟩ | exact ⟨by omega,by omega,Nat.le_refl _⟩) ?_)
 refine retI ht0 _ rfl (of_decide_eq_true rfl) (by simp [SV.okN,SC.okN]) ?_
 simp (maxSteps:=2000000) only [go_sem,↓condS,↓runOp,↓reduceIte,Nat.reduceLT,Nat.reduceEqDiff,reduceCtorEq,setAt]
 repeat (with_reducible refine And.intro (by first | exact hi | exact hc | exact hxi | exact hxc | exact ⟨hi,Nat.le_refl _⟩ | exact ⟨hc,Nat.le_refl _⟩ | exact ⟨hxi,Nat.le_refl _⟩ | exact ⟨hxc,Nat.le_refl _⟩ | exact Or.inr trivial | exact Or.inl trivial | exact ⟨Or.inl trivial,Or.inr trivial⟩ | exact ⟨by omega,by omega,Nat.le_refl _⟩) ?_)
 refine ⟨88,Or.inr ⟨by kernel_rfl,_,_,rfl⟩,⟨_,Try.func88,by kernel_rfl,by kernel_rfl⟩,?_⟩
 refine call_intro (crD (i:=i) (c:=c) (m:=inM m i now ⟨2,1,b,t,v,got⟩) (m':=outM m i now ⟨2,1,b,t,v,got⟩) (Nat.le_refl _) ⟨by simp [look,bkM,inM,D.begS,iI,nz0],rfl,⟨_,_,rfl,Nat.le_refl _,fun _ _=>rfl⟩,⟨_,_,rfl,Nat.le_refl _,fun _ _=>rfl⟩,⟨_,_,rfl,Nat.le_refl _,fun _ _=>rfl⟩,⟨_,_,rfl,by simp [inM],fun e _=>seC_new (k0:=⟨2,1,b,t,v,got⟩) hi ht.tk rfl (by rw [ht.la];rfl) e⟩,⟨_,_,rfl,Nat.le_refl _,fun _ _=>rfl⟩,⟨_,_,rfl,by simp [inM],fun x _=>Eq.trans (ite_congr rfl (fun _=>rfl) (fun _=>rfl)) (tkF_new (t:=7) (k0:=⟨2,1,b,t,v,got⟩) hi x)⟩,rfl,rfl⟩ (fun E w h=>task_own w E _ i c ⟨2,1,b,t,v,got⟩ ht.at ht.ln ht.l1 ht.rm ht.cell h)) (lt11 (Nat.le_refl _)) ?_
 have hsx:seC 7 (outM m i now ⟨2,1,b,t,v,got⟩).S i=[taskI (.ptr (7,i,0) 0) ((outM m i now ⟨2,1,b,t,v,got⟩).S.getD i D.se0).tk,.v (.bool true),iI c,iI ((outM m i now ⟨2,1,b,t,v,got⟩).S.getD i D.se0).ak,iI ((outM m i now ⟨2,1,b,t,v,got⟩).S.getD i D.se0).av]:=by
  unfold seC;rw [x2,x3,ht.la]
 have hfx:tkF 7 (outM m i now ⟨2,1,b,t,v,got⟩).S i = .bk (tkC (.ptr (7,i,0) 0) (D.taskT (inM m i now ⟨2,1,b,t,v,got⟩) i ⟨2,1,b,t,v,got⟩).2.1) (tkTy (D.taskT (inM m i now ⟨2,1,b,t,v,got⟩) i ⟨2,1,b,t,v,got⟩).2.1.kd):=by unfold tkF;rw [x4];rfl
 simp only [iI] at hsx
 simp (maxSteps:=2000000) only [go_sem,↓condS,↓runOp,↓reduceIte,Nat.reduceLT,Nat.reduceAdd,Nat.reduceEqDiff,reduceCtorEq,killO,dO,mO,bkM,bkY,hubC,iI,ho]
 generalize hX:outM m i now ⟨2,1,b,t,v,got⟩=X at *
 repeat (with_reducible refine And.intro (by first | exact hi | exact hc | exact hxi | exact hxc | exact ⟨hi,Nat.le_refl _⟩ | exact ⟨hc,Nat.le_refl _⟩ | exact ⟨hxi,Nat.le_refl _⟩ | exact ⟨hxc,Nat.le_refl _⟩ | exact Or.inr trivial | exact Or.inl trivial | exact ⟨Or.inl trivial,Or.inr trivial⟩ | exact ⟨by omega,by omega,Nat.le_refl _⟩) ?_)
 refine draw_vc (by kernel_rfl) (mkTab_ok _ _) (of_decide_eq_true rfl) (of_decide_eq_true rfl) ?_
 repeat (first | simp (maxSteps:=2000000) only [go_sem,↓gateD,↓runD,↓reduceIte,Nat.reduceLT,Nat.reduceLeDiff,Nat.reduceAdd,Nat.reduceEqDiff,reduceCtorEq,hsx,Int.toNat_natCast,ats_C] | rw [dr_cons])
 repeat (with_reducible refine And.intro (by first | exact hi | exact hc | exact hxi | exact hxc | exact ⟨hi,Nat.le_refl _⟩ | exact ⟨hc,Nat.le_refl _⟩ | exact ⟨hxi,Nat.le_refl _⟩ | exact ⟨hxc,Nat.le_refl _⟩ | exact Or.inr trivial | exact Or.inl trivial | exact ⟨Or.inl trivial,Or.inr trivial⟩ | exact ⟨by omega,by omega,Nat.le_refl _⟩) ?_)
 refine draw_vc (by kernel_rfl) (mkTab_ok _ _) (of_decide_eq_true rfl) (of_decide_eq_true rfl) ?_
 repeat (first | simp (maxSteps:=2000000) only [go_sem,↓runOp,↓gateD,↓runD,↓reduceIte,Nat.reduceLT,Nat.reduceLeDiff,Nat.reduceAdd,Nat.reduceEqDiff,reduceCtorEq,hsx,Int.toNat_natCast,setAt,mkO_rs] | rw [dr_cons])
 repeat (with_reducible refine And.intro (by first | exact hi | exact hc | exact hxi | exact hxc | exact ⟨hi,Nat.le_refl _⟩ | exact ⟨hc,Nat.le_refl _⟩ | exact ⟨hxi,Nat.le_refl _⟩ | exact ⟨hxc,Nat.le_refl _⟩ | exact Or.inr trivial | exact Or.inl trivial | exact ⟨Or.inl trivial,Or.inr trivial⟩ | exact ⟨by omega,by omega,Nat.le_refl _⟩) ?_)
 rw [← hR,← hW]
 have hcl:(X.S.getD i D.se0).la.toNat=c:=by rw [x3,ht.la];rfl
 have hE:D.endS X i now={ X with C:=X.C.set c { X.C.getD c D.ca0 with en:=now,ak:=(X.S.getD i D.se0).ak,av:=(X.S.getD i D.se0).av },S:=X.S.set i { X.S.getD i D.se0 with tk:=none } }:=by unfold D.endS;rw [hcl]
 rw [hE]
 refine ret_le (le_no (x:=(7,i,0)) (p:=i<X.S.length∧True) (by simp only [pkN,look,Fm.pk,Nat.reduceEqDiff,if_true,if_false,hfx];rfl) ⟨hxi,trivial⟩) (fun E E'=>rfl) ?_
 simp (maxSteps:=2000000) only [go_sem,↓reduceIte,Nat.reduceEqDiff,reduceCtorEq]
 exact retR (p:=11) (q:=12) rfl (by simp) (fun E E'=>rfl) ⟨by simp [look,bkM,iI,nilP],rfl,⟨_,_,rfl,Nat.le_refl _,fun _ _=>rfl⟩,⟨_,_,rfl,Nat.le_refl _,fun _ _=>rfl⟩,⟨_,_,rfl,Nat.le_refl _,fun _ _=>rfl⟩,⟨_,_,rfl,by simp,fun e _=>seC_nil hxi (by rw [x2,x3,ht.la];rfl) e⟩,⟨_,_,rfl,by simp,fun e he=>by rw [setAt_two];exact ats_set hxc rfl e he⟩,⟨_,_,rfl,by simp,fun x _=>tkF_nil hxi x⟩,rfl⟩
end Go.Proofs.Ytcloeignccpljaa.Z
namespace Go.Proofs.Ytcloeignccpljaa.Z
open Go Go.RowKit
theorem taskT_tk (M:D.Pm) (i:Nat) (k:D.Tk) (x:Option D.Tk) (hi:i<M.S.length) :
  (D.taskT { M with S:=M.S.set i { M.S.getD i D.se0 with tk:=x } } i k).2=(D.taskT M i k).2 ∧
  (D.taskT { M with S:=M.S.set i { M.S.getD i D.se0 with tk:=x } } i k).1={ (D.taskT M i k).1 with S:=(D.taskT M i k).1.S.set i { (D.taskT M i k).1.S.getD i D.se0 with tk:=x } }:=by
 have hl:∀ a,D.load { M with S:=M.S.set i { M.S.getD i D.se0 with tk:=x } } a=({ (D.load M a).1 with S:=M.S.set i { M.S.getD i D.se0 with tk:=x } },(D.load M a).2):=fun a=>by
  unfold D.load D.opn D.wd;simp only;split <;> rfl
 have hs:∀ a v,D.store { M with S:=M.S.set i { M.S.getD i D.se0 with tk:=x } } a v={ D.store M a v with S:=M.S.set i { M.S.getD i D.se0 with tk:=x } }:=fun a v=>by
  unfold D.store D.opn D.wd;simp only;split <;> rfl
 have hw:∀ a o v,D.swap { M with S:=M.S.set i { M.S.getD i D.se0 with tk:=x } } a o v=({ (D.swap M a o v).1 with S:=M.S.set i { M.S.getD i D.se0 with tk:=x } },(D.swap M a o v).2):=fun a o v=>by
  unfold D.swap D.opn D.wd;simp only;split <;> (try split) <;> rfl
 have hc:∀ y,D.cellA { M with S:=M.S.set i { M.S.getD i D.se0 with tk:=x } } y=D.cellA M y:=fun y=>rfl
 have hg:∀ s,(M.S.set i s).getD i D.se0=s:=fun s=>by rw [D.set_getD _ _ _ _ _ hi,if_pos rfl]
 unfold D.taskT D.pushT D.takeT D.stealT
 simp only [hl,hs,hw,hc]
 repeat' split
 all_goals refine ⟨?_,?_⟩
 all_goals first
  | rfl
  | (simp only [D.load_S,D.store_S,D.swap_S];done)
  | (simp only [D.ans,D.point,D.load_S,D.store_S,D.swap_S,hg,List.set_set];done)
theorem stM_eq {m:D.Pm} {i:Nat} {now:Int} {k:D.Tk} (hi:i<m.S.length):stM m i now (D.begK m i k)=D.stepM m i k now:=by
 have hb:inM m i now (D.begK m i k)={ D.begS m i now with S:=(D.begS m i now).S.set i { (D.begS m i now).S.getD i D.se0 with tk:=some (D.begK m i k) } }:=by
  unfold inM
  rw [D.begS_S hi]
  simp only [D.begS,List.set_set]
 have hl:i<(D.begS m i now).S.length:=by simp [D.begS];exact hi
 obtain ⟨t1,t2⟩:=taskT_tk (D.begS m i now) i (D.begK m i k) (some (D.begK m i k)) hl
 have hl2:i<(D.taskT (D.begS m i now) i (D.begK m i k)).1.S.length:=by rw [(D.task_S _ _ _).1];exact hl
 have ho:outM m i now (D.begK m i k)=D.setTk (D.taskT (D.begS m i now) i (D.begK m i k)).1 i (some (D.taskT (D.begS m i now) i (D.begK m i k)).2.1):=by
  unfold outM tskM
  rw [hb,t1,t2]
  simp only [D.setTk,List.set_set]
  rw [D.set_getD _ _ _ _ _ hl2,if_pos rfl]
 unfold stM D.stepM
 rw [ho,hb,t1]
 split
 ·simp only [D.endS,D.setTk,List.set_set]
  rw [D.set_getD _ _ _ _ _ hl2,if_pos rfl]
 ·rfl
theorem mstep_own (w:World) (E:Env) (m:D.Pm) (i c:Nat) (now:Int) (k:D.Tk) (ht:StAt m i c now k (D.begK m i k)) (h:Handed w E 10 (rO nz0 m) []) :
  Calls Try.prog 37 (([.c (.ptr (0,0,0) 0),.c (iI i),.c (iI now)]:List SV).map (SV.den E)).toArray w (EffR w E 10 (takesO E (rO nz0 m)) (.tup []) 2 fun b'=>killO [3,4]++rO ⟨b',b' + 1,6,7⟩ (D.stepM m i k now)):=by
 rw [← stM_eq ht.hi]
 have hk2:=ht.ln.1
 cases hrd:(m.S.getD i D.se0).rd with
 | true =>
  have hb:D.begK m i k=k:=by unfold D.begK;rw [if_pos hrd]
  rw [hb] at ht hk2 ⊢
  obtain ⟨kd,ln,b,t,v,got⟩:=k
  simp only at hk2
  cases ho:(D.taskT (inM m i now ⟨kd,ln,b,t,v,got⟩) i ⟨kd,ln,b,t,v,got⟩).2.2 with
  | false =>
   rcases (show kd=0∨kd=1∨kd=2 by omega) with rfl | rfl | rfl
   ·exact mstep_0tf w E m i c now ln b t v got ht hrd ho h
   ·exact mstep_1tf w E m i c now ln b t v got ht hrd ho h
   ·exact mstep_2tf w E m i c now ln b t v got ht hrd ho h
  | true =>
   rcases (show kd=0∨kd=1∨kd=2 by omega) with rfl | rfl | rfl
   ·exact mstep_0tt w E m i c now ln b t v got ht hrd ho h
   ·exact mstep_1tt w E m i c now ln b t v got ht hrd ho h
   ·exact mstep_2tt w E m i c now ln b t v got ht hrd ho h
 | false =>
  have hb:D.begK m i k={ k with ln:=1 }:=by unfold D.begK;rw [hrd];rfl
  rw [hb] at ht hk2 ⊢
  obtain ⟨kd,ln,b,t,v,got⟩:=k
  simp only at hk2
  cases ho:(D.taskT (inM m i now ⟨kd,1,b,t,v,got⟩) i ⟨kd,1,b,t,v,got⟩).2.2 with
  | false =>
   rcases (show kd=0∨kd=1∨kd=2 by omega) with rfl | rfl | rfl
   ·exact mstep_0ff w E m i c now ln b t v got ht hrd ho h
   ·exact mstep_1ff w E m i c now ln b t v got ht hrd ho h
   ·exact mstep_2ff w E m i c now ln b t v got ht hrd ho h
  | true =>
   rcases (show kd=0∨kd=1∨kd=2 by omega) with rfl | rfl | rfl
   ·exact mstep_0ft w E m i c now ln b t v got ht hrd ho h
   ·exact mstep_1ft w E m i c now ln b t v got ht hrd ho h
   ·exact mstep_2ft w E m i c now ln b t v got ht hrd ho h
end Go.Proofs.Ytcloeignccpljaa.Z
namespace Go.Proofs.Ytcloeignccpljaa.Z
open Go Go.RowKit
theorem rO_plain (z:Nz) (m:D.Pm):PlainO (rO z m) :=
 plain_of ⟨trivial,trivial,trivial,trivial,trivial,trivial,trivial,fun k=>plain_tk _ _ k,trivial,trivial⟩
theorem rO_id {own:Own} {m:D.Pm} (h:RIn own nz0 m):OwnLe (· < 10) (idσ id) own (rO nz0 m):=by
 have e:∀ j k e,idσ id (j,k,e)=(j,k,e):=fun j k e=>rfl
 have at1:∀ j B,look own j=some (.one B)→atN own (j,0,0)=some B:=fun j B hB=>by simp [atN,hB,Fm.get]
 obtain ⟨n2,g2,a2,b2,c2⟩:=h.h2
 obtain ⟨n3,g3,a3,b3,c3⟩:=h.hl
 obtain ⟨n4,g4,a4,b4,c4⟩:=h.ha
 obtain ⟨n5,g5,a5,b5,c5⟩:=h.h5
 obtain ⟨n6,g6,a6,b6,c6⟩:=h.hc
 obtain ⟨n7,g7,a7,b7,c7⟩:=h.ht
 simp only [nz0] at a3 a4 a6 a7 c5 c7
 have l:∀ j,j<10→j<10:=fun j hj=>hj
 unfold rO mO
 refine ⟨⟨l 0 (by omega),?_⟩,⟨l 1 (by omega),?_⟩,⟨l 2 (by omega),?_⟩,⟨l 3 (by omega),?_⟩,⟨l 4 (by omega),?_⟩,⟨l 5 (by omega),?_⟩,⟨l 6 (by omega),?_⟩,⟨l 7 (by omega),fun k hk=>?_⟩,⟨l 9 (by omega),?_⟩,trivial⟩
 ·show BlkLeO _ _ (atN own (0,0,0)) _
  rw [at1 _ _ h.h0]
  exact ⟨by simp [bkM,nilP,SC.renL,SC.ren,iI,e],rfl,by simp [bkM,nilP,SC.okL,SC.okN,iI,nz0]⟩
 ·show BlkLeO _ _ (atN own (1,0,0)) _
  rw [at1 _ _ h.h1]
  exact ⟨by simp [bkY,SC.renL,SC.ren,iI,e],rfl,by simp [bkY,SC.okL,SC.okN,iI,nz0]⟩
 ·show BlkLeO _ _ (atN own (2,0,0)) _
  rw [at1 _ _ a2];exact blk_av b2 c2
 ·show BlkLeO _ _ (atN own (3,0,0)) _
  rw [at1 _ _ a3];exact blk_av b3 c3
 ·show BlkLeO _ _ (atN own (4,0,0)) _
  rw [at1 _ _ a4];exact blk_av b4 c4
 ·show BlkLeO _ _ (atN own (5,0,0)) _
  rw [at1 _ _ a5]
  exact ⟨b5,rfl,rfl,fun k hk=>⟨by rw [c5 k hk];exact seC_ren (e 7 k 0),seC_ok (p:=(· < 10)) (t:=7) (by decide) _ _⟩⟩
 ·show BlkLeO _ _ (atN own (6,0,0)) _
  rw [at1 _ _ a6];exact blk_av b6 c6
 ·show BlkLeO _ _ (atN own (7,k,0)) _
  rw [show atN own (7,k,0)=some (g7 k) by simp only [atN,a7,Fm.get];rw [if_pos ⟨by omega,trivial⟩],c7 k hk]
  exact tkF_le (e 9 0 0) (l 9 (by omega)) (l 7 (by omega)) (e 7 k 0)
 ·show BlkLeO _ _ (atN own (9,0,0)) _
  rw [at1 _ _ h.h9]
  exact ⟨by simp [hubC,SC.renL,SC.ren,iI],rfl,by simp [hubC,SC.okL,SC.okN,iI]⟩
theorem rO_key {b:Nat} {m m' : D.Pm}:∀ x B,atN (rO nz0 m) x=some B→(look (killO [3,4]++rO ⟨b,b+1,6,7⟩ m') x.1).isSome=true:=by
 intro x B hx
 obtain ⟨F,hF,_⟩:=atN_some hx
 have hk:=look_keysL hF
 simp only [rO,mO,nz0,keysL,List.mem_cons,List.not_mem_nil,or_false] at hk
 rw [look_app,look_kill]
 rcases hk with e | e | e | e | e | e | e | e | e <;> rw [e]
 ·rfl
 ·rfl
 ·rfl
 ·rfl
 ·rfl
 all_goals
  simp only [List.mem_cons,List.not_mem_nil,Nat.reduceEqDiff,or_self,if_false,rO,mO,look]
  repeat' split
  all_goals first | rfl | (exfalso;exact ‹¬True› trivial)
theorem crR {C:Ctx} {S:St} {f:Nat} {vs:List SV} {u:SV} {m m' : D.Pm} (hn:10≤S.nid) (h:RIn S.own nz0 m)
  (hc:∀ E w,Handed w E 10 (rO nz0 m) []→Calls C.P f (vs.map (SV.den E)).toArray w (EffR w E 10 (takesO E (rO nz0 m)) u 2 fun b=>killO [3,4]++rO ⟨b,b+1,6,7⟩ m')) :
  CR C f vs S (List.range 10) u 2 (killO [3,4]++rO ⟨S.nid,S.nid+1,6,7⟩ m') [] :=
 cr_own (eff:=fun b=>killO [3,4]++rO ⟨b,b+1,6,7⟩ m') 10 (rO nz0 m) [] hn (rO_plain _ _) (rO_id h) trivial rO_key hc
structure Fit (m:D.Pm):Prop where
 l:(m.L.length:Int)≤m.mv
 a:(m.A.length:Int)≤m.mv
theorem task_L (m:D.Pm) (i:Nat) (k:D.Tk):(D.taskT m i k).1.L.length≤m.L.length+1∧(D.taskT m i k).1.A.length≤m.A.length+1∧(D.taskT m i k).1.mv=m.mv:=by
 have hl:∀ a,(D.load m a).1.L.length≤m.L.length+1∧(D.load m a).1.A.length≤m.A.length+1:=fun a=>by
  unfold D.load;split <;> simp
 have hs:∀ a v,(D.store m a v).L.length≤m.L.length+1∧(D.store m a v).A.length≤m.A.length+1:=fun a v=>by
  unfold D.store;split <;> simp
 have hw:∀ a o v,(D.swap m a o v).1.L.length≤m.L.length+1∧(D.swap m a o v).1.A.length≤m.A.length+1:=fun a o v=>by
  unfold D.swap;split <;> (try split) <;> simp
 unfold D.taskT D.pushT D.takeT D.stealT
 repeat' split
 all_goals simp only [D.ans,D.point,D.load_mv,D.store_mv,D.swap_mv,and_true]
 all_goals first | exact hl _ | exact hs _ _ | exact hw _ _ _ | exact ⟨by omega,by omega⟩
theorem step_fit {m:D.Pm} {i:Nat} {k:D.Tk} {now:Int}:(D.stepM m i k now).L.length≤m.L.length+1∧(D.stepM m i k now).A.length≤m.A.length+1∧(D.stepM m i k now).mv=m.mv:=by
 have:=task_L (D.begS m i now) i (D.begK m i k)
 unfold D.stepM
 split <;> exact this
theorem move_fit {m:D.Pm} {x:D.Mo} (h:Fit m):Fit (D.moveM m x).1:=by
 have h1:=h.l
 have h2:=h.a
 unfold D.moveM
 split
 ·exact h
 split
 ·exact ⟨by simp only;omega,by simp only;omega⟩
 split
 ·split
  ·obtain ⟨g1,g2,g3⟩:=step_fit (m:={ m with mv:=m.mv+1 }) (i:=x.th.toNat) (k:=‹D.Tk›) (now:=m.mv)
   simp only at g1 g2 g3
   exact ⟨by simp only;omega,by simp only;omega⟩
  ·exact ⟨by simp only;omega,by simp only;omega⟩
 ·split
  ·exact ⟨by simp only;omega,by simp only;omega⟩
  ·split
   ·exact ⟨by simp only [D.begM];omega,by simp only [D.begM];omega⟩
   ·exact ⟨by simp only;omega,by simp only;omega⟩
end Go.Proofs.Ytcloeignccpljaa.Z
namespace Go.Proofs.Ytcloeignccpljaa.Z
open Go Go.RowKit
theorem stAt_of {m:D.Pm} {x:D.Rm} {i:Nat} {k:D.Tk} (hB:D.Both m x) (hf:Fit m) (hM:m.mv<65536) (hi:i<m.S.length) (ht:(m.S.getD i D.se0).tk=some k) :
  ∃ c:Nat,StAt { m with mv:=m.mv+1 } i c m.mv k (D.begK m i k):=by
 have hmv:=hB.sim.mv
 have hit:i<x.T.length:=by have:=hB.pr.tl;have:=hB.sim.thr;omega
 have hS:D.Stp m x i k:=⟨hB.sim,hB.pr,hi,hit,ht,hB.inv,by omega⟩
 obtain ⟨r1,r2,hr⟩:=hS.rel
 obtain ⟨b1,b2⟩:=D.begK_ok hB.inv ht
 obtain ⟨g1,g2,g3,g4,g5,g6⟩:=D.begK_ln hS
 have hcl:=hB.pr.cl i r1
 have hr1:=hB.pr.v.rm
 have hcell:∀ y,0≤y→0≤D.cellA m y∧D.cellA m y<m.W.length:=fun y hy=>by
  obtain ⟨c1,c2⟩:=D.rcell_rg hB.pr hy
  have e:D.cellA m y=D.rcell x y:=by unfold D.cellA D.rcell;rw [hB.sim.room]
  have e2:m.W.length=x.W.length:=by rw [hB.sim.W];simp
  rw [e,e2];omega
 have e0:=D.ext_busy r1
 have hops:=D.busy_ops hB.pr r1
 have hT0:=hB.pr.v.t0
 have htn:=hB.pr.tn
 have hnM:=hB.pr.nM
 have hr2:=hB.pr.rm
 refine ⟨((m.S.getD i D.se0).la).toNat,hi,ht,(Int.toNat_of_nonneg (by rw [← r2];exact r1)).symm,by rw [← r2,hB.sim.C];exact hcl,hB.inv.wl,by have:=hf.l;simp only;omega,by have:=hf.a;simp only;omega,b1,b2,by simp only [hB.sim.room];omega,⟨fun q1 q2=>?_,fun q1 q2=>?_,fun q1 q2=>?_⟩⟩
 ·refine hcell _ ?_
  rcases hr with hr | hr | hr
  ·have hop:(x.C.getD (D.thr x i).call.toNat D.ca0).op=90:=by rw [← hB.sim.C];exact hr.2.1
   have hi0:=hops.2.1 (by omega)
   subst hi0
   rw [hop] at e0
   have hb:(D.thr x 0).b=k.b:=hr.2.2.2.2 (by omega)
   have hl:(D.thr x 0).line=3:=by rw [hr.2.2.1,← g1,q2];rfl
   have h1:=(hB.pr.v.own.push (by rw [e0]) (by rw [e0])).1 (by rw [e0];simp only;omega)
   rw [e0] at h1
   simp only at h1
   have h2:=hB.pr.v.own.calm (by rw [e0];rfl)
   rw [g3];omega
  ·omega
  ·omega
 ·refine hcell _ ?_
  rcases hr with hr | hr | hr
  ·omega
  ·have hop:(x.C.getD (D.thr x i).call.toNat D.ca0).op=91:=by rw [← hB.sim.C];exact hr.2.1
   have hi0:=hops.2.1 (by omega)
   subst hi0
   rw [hop] at e0
   have hl:(D.thr x 0).line=5:=by rw [hr.2.2.1,← g1,q2];rfl
   have hb:=hr.2.2.2.1 (by omega)
   have hp:=hB.pr.v.own.take (by rw [e0];exact D.pv91 (by omega))
   rw [e0] at hp
   simp only at hp
   have h5:=hp.2.2.2.2.2.2.1 hl
   rw [g3,← hb,D.i64_id (by omega) (by omega)]
   omega
  ·omega
 ·refine hcell _ ?_
  rcases hr with hr | hr | hr
  ·omega
  ·omega
  ·have hop:(x.C.getD (D.thr x i).call.toNat D.ca0).op=92:=by rw [← hB.sim.C];exact hr.2.1
   rw [hop] at e0
   have hl:(D.thr x i).line=3:=by rw [hr.2.2.1,← g1,q2];rfl
   have hth:=hB.pr.v.thief i (by rw [e0]) (by rw [e0])
   rw [e0] at hth
   have:=(hth.lo (by simp only;omega)).1
   simp only at this
   have ht2:=hr.2.2.2.1 (by omega)
   rw [g4,← ht2];exact this
end Go.Proofs.Ytcloeignccpljaa.Z
namespace Go.Proofs.Ytcloeignccpljaa.Z
open Go Go.RowKit
def mvO (z:Nz) (m:D.Pm):Own:=rO z m++[(10,.one (.bk [.ptr (9,0,0) 0] 86))]
def sig4 (b p q r:Nat) (tn:Nat→Nm) (x:Nm):Nm :=
 if x.1=b then (p,x.2) else if x.1=b+1 then (q,x.2) else if x.1=b+2 then (r,x.2) else if x.1=b+3 then (if x.2.2=0 then tn x.2.1 else x) else x
section
variable {b p q r:Nat} {tn:Nat→Nm}
theorem sig4_lt {j k e:Nat} (h:j<b):sig4 b p q r tn (j,k,e)=(j,k,e):=by unfold sig4;simp only;rw [if_neg (by omega),if_neg (by omega),if_neg (by omega),if_neg (by omega)]
theorem sig4_0 {x:Nat×Nat}:sig4 b p q r tn (b,x)=(p,x):=by unfold sig4;rw [if_pos rfl]
theorem sig4_1 {x:Nat×Nat}:sig4 b p q r tn (b+1,x)=(q,x):=by unfold sig4;simp only;rw [if_neg (by omega),if_pos trivial]
theorem sig4_2 {x:Nat×Nat}:sig4 b p q r tn (b+2,x)=(r,x):=by unfold sig4;simp only;rw [if_neg (by omega),if_neg (by omega),if_pos trivial]
theorem sig4_3 {k:Nat}:sig4 b p q r tn (b+3,k,0)=tn k:=by unfold sig4;simp only;rw [if_neg (by omega),if_neg (by omega),if_neg (by omega),if_pos trivial,if_pos trivial]
end
def seN (tn:Nat→Nm) (S:List D.Se) (k:Nat):List SC:=[taskI (.ptr (tn k) 0) (S.getD k D.se0).tk,.v (.bool (S.getD k D.se0).rd),iI (S.getD k D.se0).la,iI (S.getD k D.se0).ak,iI (S.getD k D.se0).av]
structure VIn (own:Own) (p q r:Nat) (tn:Nat→Nm) (m:D.Pm):Prop where
 h0:look own 0=some (.one (.bk (bkM ⟨p,q,r,0⟩ nilP nilP m) 113))
 h1:look own 1=some (.one (.bk (bkY ⟨p,q,r,0⟩ m) 140))
 h2:∃ n g,look own 2=some (.one (.ar n 1 g 44))∧m.W.length≤n∧∀ e,e<m.W.length→g e=ats eU m.W 0 e
 hl:∃ n g,look own p=some (.one (.ar n 7 g 47))∧m.L.length≤n∧∀ e,e<m.L.length→g e=ats D.Ac.enc m.L D.ac0 e
 ha:∃ n g,look own q=some (.one (.ar n 1 g 44))∧m.A.length≤n∧∀ e,e<m.A.length→g e=ats eU m.A 0 e
 h5:∃ n g,look own 5=some (.one (.ar n 5 g 116))∧m.S.length≤n∧∀ e,e<m.S.length→g e=seN tn m.S e
 hc:∃ n g,look own r=some (.one (.ar n 9 g 77))∧m.C.length≤n∧∀ e,e<m.C.length→g e=ats D.Ca.enc m.C D.ca0 e
 ht:∀ k,k<m.S.length→atN own (tn k)=some (tkB (.ptr (tn k) 0) (m.S.getD k D.se0).tk)
 h9:look own 9=some (.one (.bk (hubC m) 88))
 h10:look own 10=some (.one (.bk [.ptr (9,0,0) 0] 86))
theorem seN_ren {σ:Nm→Nm} {t:Nat} {tn:Nat→Nm} {S:List D.Se} {k:Nat} (h:σ (t,k,0)=tn k):seN tn S k=SC.renL σ (seC t S k):=by
 have e:(SC.ptr (tn k) 0)=(SC.ptr (t,k,0) 0).ren σ:=by simp [SC.ren,h]
 unfold seN seC
 rw [e,taskI_ren]
 simp [SC.renL,SC.ren,iI]
theorem tkB_le {p:Nat→Prop} {σ:Nm→Nm} {t:Nat} {tn:Nat→Nm} {S:List D.Se} {k:Nat} (h9:σ (9,0,0)=(9,0,0)) (p9:p 9) (pt:p t) (h:σ (t,k,0)=tn k):BlkLe p σ (tkB (.ptr (tn k) 0) (S.getD k D.se0).tk) (tkF t S k):=by
 unfold tkF tkB
 cases (S.getD k D.se0).tk with
 | none=>exact trivial
 | some x =>
  have e:(SC.ptr (tn k) 0)=(SC.ptr (t,k,0) 0).ren σ:=by simp [SC.ren,h]
  simp only
  rw [e]
  exact ⟨tkC_ren σ h9 _ x,rfl,tkC_ok p9 (show (SC.ptr (t,k,0) 0).okN p from pt) x⟩
theorem mv_le {own:Own} {b p q r:Nat} {tn:Nat→Nm} {m:D.Pm} (hb:11≤b) (h:VIn own p q r tn m):OwnLe (fun j=>j<11∨NewIds b 4 j) (sig4 b p q r tn) own (mvO ⟨b,b+1,b+2,b+3⟩ m):=by
 have e:∀ j k e,j<b→sig4 b p q r tn (j,k,e)=(j,k,e):=fun j k e hj=>sig4_lt hj
 have at1:∀ j B,look own j=some (.one B)→atN own (j,0,0)=some B:=fun j B hB=>by simp [atN,hB,Fm.get]
 obtain ⟨n2,g2,a2,b2,c2⟩:=h.h2
 obtain ⟨n3,g3,a3,b3,c3⟩:=h.hl
 obtain ⟨n4,g4,a4,b4,c4⟩:=h.ha
 obtain ⟨n5,g5,a5,b5,c5⟩:=h.h5
 obtain ⟨n6,g6,a6,b6,c6⟩:=h.hc
 have l:∀ j,j<11→(j<11∨NewIds b 4 j):=fun j hj=>Or.inl hj
 have lb:∀ j,b≤j→j<b+4→(j<11∨NewIds b 4 j):=fun j h1 h2=>Or.inr ⟨h1,h2⟩
 unfold mvO rO mO
 refine ⟨⟨l 0 (by omega),?_⟩,⟨l 1 (by omega),?_⟩,⟨l 2 (by omega),?_⟩,⟨lb b (by omega) (by omega),?_⟩,⟨lb (b+1) (by omega) (by omega),?_⟩,⟨l 5 (by omega),?_⟩,⟨lb (b+2) (by omega) (by omega),?_⟩,⟨lb (b+3) (by omega) (by omega),fun k hk=>?_⟩,⟨l 9 (by omega),?_⟩,⟨l 10 (by omega),?_⟩,trivial⟩
 ·show BlkLeO _ _ (atN own (sig4 b p q r tn (0,0,0))) _
  rw [e 0 0 0 (by omega),at1 _ _ h.h0]
  refine ⟨?_,rfl,?_⟩
  ·simp [bkM,nilP,SC.renL,SC.ren,iI,e 1 0 0 (by omega),e 5 0 0 (by omega),e 8 0 0 (by omega),sig4_2]
  ·simp only [bkM,nilP,SC.okL,SC.okN,iI,and_true,true_and]
   exact ⟨l 1 (by omega),l 8 (by omega),l 5 (by omega),lb (b+2) (by omega) (by omega)⟩
 ·show BlkLeO _ _ (atN own (sig4 b p q r tn (1,0,0))) _
  rw [e 1 0 0 (by omega),at1 _ _ h.h1]
  refine ⟨?_,rfl,?_⟩
  ·simp [bkY,SC.renL,SC.ren,iI,e 2 0 0 (by omega),sig4_0,sig4_1]
  ·simp only [bkY,SC.okL,SC.okN,iI,and_true]
   exact ⟨l 2 (by omega),lb b (by omega) (by omega),lb (b+1) (by omega) (by omega)⟩
 ·show BlkLeO _ _ (atN own (sig4 b p q r tn (2,0,0))) _
  rw [e 2 0 0 (by omega),at1 _ _ a2]
  exact blk_av b2 c2
 ·show BlkLeO _ _ (atN own (sig4 b p q r tn (b,0,0))) _
  rw [sig4_0,at1 _ _ a3]
  exact blk_av b3 c3
 ·show BlkLeO _ _ (atN own (sig4 b p q r tn (b+1,0,0))) _
  rw [sig4_1,at1 _ _ a4]
  exact blk_av b4 c4
 ·show BlkLeO _ _ (atN own (sig4 b p q r tn (5,0,0))) _
  rw [e 5 0 0 (by omega),at1 _ _ a5]
  exact ⟨b5,rfl,rfl,fun k hk=>⟨by rw [c5 k hk];exact seN_ren sig4_3,seC_ok (lb (b+3) (by omega) (by omega)) _ _⟩⟩
 ·show BlkLeO _ _ (atN own (sig4 b p q r tn (b+2,0,0))) _
  rw [sig4_2,at1 _ _ a6]
  exact blk_av b6 c6
 ·show BlkLeO _ _ (atN own (sig4 b p q r tn (b+3,k,0))) _
  rw [sig4_3,h.ht k hk]
  exact tkB_le (e 9 0 0 (by omega)) (l 9 (by omega)) (lb (b+3) (by omega) (by omega)) sig4_3
 ·show BlkLeO _ _ (atN own (sig4 b p q r tn (9,0,0))) _
  rw [e 9 0 0 (by omega),at1 _ _ h.h9]
  exact ⟨by simp [hubC,SC.renL,SC.ren,iI],rfl,by simp [hubC,SC.okL,SC.okN,iI]⟩
 ·show BlkLeO _ _ (atN own (sig4 b p q r tn (10,0,0))) _
  rw [e 10 0 0 (by omega),at1 _ _ h.h10]
  exact ⟨by simp [SC.renL,SC.ren,e 9 0 0 (by omega)],rfl,by simp [SC.okL,SC.okN]⟩
theorem at_mv {b:Nat} {m:D.Pm} {x:Nm} {B:Blk} (h:atN (mvO ⟨b,b+1,b+2,b+3⟩ m) x=some B):(x.1=b+3∧x.2.2=0)∨(x.1≠b+3∧(x.1=0∨x.1=1∨x.1=2∨x.1=5∨x.1=9∨x.1=10∨x.1=b∨x.1=b+1∨x.1=b+2))∨x.1<11∧x.1=b+3:=by
 obtain ⟨F,hF,hg⟩:=atN_some h
 have hk:=look_keysL hF
 simp only [mvO,rO,mO,keysL,List.cons_append,List.nil_append,List.mem_cons,List.not_mem_nil,or_false] at hk
 by_cases e:x.1=b+3
 ·by_cases e11:x.1<11
  ·exact Or.inr (Or.inr ⟨e11,e⟩)
  ·left
   refine ⟨e,?_⟩
   simp only [mvO,rO,mO,List.cons_append,List.nil_append,look] at hF
   rw [if_neg (by omega),if_neg (by omega),if_neg (by omega),if_neg (by omega),if_neg (by omega),if_neg (by omega),if_neg (by omega),if_pos e.symm] at hF
   cases hF
   simp only [Fm.get] at hg
   split at hg
   ·next q=>exact q.2
   ·cases hg
 ·exact Or.inr (Or.inl ⟨e,by omega⟩)
def okN4 (p q r:Nat):Bool:=(p != q) && (p != r) && (q != r) && [p,q,r].all fun x=>x == 3 || x == 4 || x == 6 || Nat.ble 11 x
theorem mv_inj {b p q r:Nat} {tn:Nat→Nm} {m:D.Pm} (hb:11≤b) (hpq:okN4 p q r=true) (h1:∀ k,(tn k).1≠0∧(tn k).1≠1∧(tn k).1≠2∧(tn k).1≠5∧(tn k).1≠9∧(tn k).1≠10∧(tn k).1≠p∧(tn k).1≠q∧(tn k).1≠r) (h2:∀ k k',tn k=tn k'→k=k') :
  InjN (sig4 b p q r tn) (mvO ⟨b,b+1,b+2,b+3⟩ m):=by
 simp only [okN4,List.all_cons,List.all_nil,Bool.and_true,Bool.and_eq_true,bne_iff_ne,ne_eq,Bool.or_eq_true,beq_iff_eq,Nat.ble_eq] at hpq
 intro x y B B' hx hy e
 have hs:∀ z:Nm,z.1≠b+3→sig4 b p q r tn z=(if z.1=b then p else if z.1=b+1 then q else if z.1=b+2 then r else z.1,z.2):=fun z hz=>by
  unfold sig4
  split
  ·rfl
  split
  ·rfl
  split
  ·rfl
  first | rfl | (rw [if_neg hz])
 have hf:∀ z:Nm,z.1=b+3→z.2.2=0→sig4 b p q r tn z=tn z.2.1:=fun z h3 h0=>by
  obtain ⟨a,k,l⟩:=z
  simp only at h3 h0
  subst h3 h0
  exact sig4_3
 rcases at_mv hx with ⟨x1,x2⟩ | ⟨x1,x2⟩ | ⟨x1,x2⟩
 ·rcases at_mv hy with ⟨y1,y2⟩ | ⟨y1,y2⟩ | ⟨y1,y2⟩
  ·rw [hf x x1 x2,hf y y1 y2] at e
   have:=h2 _ _ e
   exact Prod.ext (x1.trans y1.symm) (Prod.ext this (x2.trans y2.symm))
  ·rw [hf x x1 x2,hs y y1] at e
   have e1:=congrArg Prod.fst e
   simp only at e1
   have:=h1 x.2.1
   exfalso
   split at e1 <;> (try split at e1) <;> (try split at e1) <;> omega
  ·omega
 ·rcases at_mv hy with ⟨y1,y2⟩ | ⟨y1,y2⟩ | ⟨y1,y2⟩
  ·rw [hf y y1 y2,hs x x1] at e
   have e1:=congrArg Prod.fst e
   simp only at e1
   have:=h1 y.2.1
   exfalso
   split at e1 <;> (try split at e1) <;> (try split at e1) <;> omega
  ·rw [hs x x1,hs y y1] at e
   have e1:=congrArg Prod.fst e
   have e2:=congrArg Prod.snd e
   simp only at e1 e2
   refine Prod.ext ?_ e2
   split at e1 <;> (try split at e1) <;> (try split at e1) <;> (try split at e1) <;> (try split at e1) <;> (try split at e1) <;> omega
  ·omega
 ·omega
theorem retMv {P:Program} {w:World} {E:Env} {W:Nat→Prop} {rs:List RS} {u v:SV} {S2:St} {p q r:Nat} {tn:Nat→Nm} {m:D.Pm} (hpq:okN4 p q r=true) (h1:∀ k,(tn k).1≠0∧(tn k).1≠1∧(tn k).1≠2∧(tn k).1≠5∧(tn k).1≠9∧(tn k).1≠10∧(tn k).1≠p∧(tn k).1≠q∧(tn k).1≠r) (h2:∀ k k',tn k=tn k'→k=k') (hf:AgF 11 E∈S2.facts) (hu:∀ E E',v.den E=u.den E') (h:VIn S2.own p q r tn m) :
  RetVC (mkO P w W rs (EffR w E 11 W u 4 fun b=>killO [3,4,6,7]++mvO ⟨b,b+1,b+2,b+3⟩ m)) v S2 :=
 retEff (fun b=>sig4 b p q r tn) [3,4,6,7] (fun b=>mvO ⟨b,b+1,b+2,b+3⟩ m) hf hu (fun b hb x hx=>by obtain ⟨j,k,e⟩:=x;exact sig4_lt (Nat.lt_of_lt_of_le hx hb)) (fun b hb=>mv_le hb h) (fun b hb=>mv_inj hb hpq h1 h2)
end Go.Proofs.Ytcloeignccpljaa.Z
namespace Go.Proofs.Ytcloeignccpljaa.Z
open Go Go.RowKit
def ir23:IR:=(.seq (.ops [⟨(some 3),(.box 51 (.t 1)),none⟩,⟨(some 4),(.mv (.k (.c (.v (.bool false))))),none⟩]) (.kill [1,2,4,5,6,7,8,9,10,11] (.seq (.seq (.ops [⟨(some 9),(.mv (.t 0)),none⟩,⟨(some 10),(.eqn 0 false (.t 9) (.k (.c (.v (.pointer none))))),none⟩,⟨(some 11),(.mv (.t 10)),none⟩,⟨(some 12),(.mv (.t 0)),(some (11,false))⟩,⟨(some 13),(.nilck (.t 12)),(some (11,false))⟩,⟨(some 14),(.fa 8 (.t 13)),(some (11,false))⟩,⟨(some 15),(.ld false 1 (.t 14)),(some (11,false))⟩,⟨(some 16),(.len (.t 15)),(some (11,false))⟩,⟨(some 17),(.bin .eql (.t 16) (.k (.c (.v (.int .i64 0))))),(some (11,false))⟩,⟨(some 18),(.pick (.t 11) (.k (.c (.v (.bool true)))) (.t 17)),none⟩,⟨(some 19),(.mv (.t 18)),none⟩,⟨(some 20),(.mv (.t 0)),(some (19,false))⟩,⟨(some 21),(.nilck (.t 20)),(some (19,false))⟩,⟨(some 22),(.fa 9 (.t 21)),(some (19,false))⟩,⟨(some 23),(.ld false 1 (.t 22)),(some (19,false))⟩,⟨(some 24),(.bin .geq (.t 23) (.k (.c (.v (.int .i64 65536))))),(some (19,false))⟩,⟨(some 25),(.pick (.t 19) (.k (.c (.v (.bool true)))) (.t 24)),none⟩]) (.kill [9,10,11,12,13,14,15,16,17,18,19,20,21,22,23,24] (.cond (.t 25) (.seq (.ops [⟨(some 4),(.mv (.k (.c (.v (.bool false))))),none⟩]) (.kill [0,3,25] .ret)) .skip))) (.kill [4,25] (.seq (.ops [⟨(some 26),(.mv (.t 0)),none⟩,⟨(some 27),(.nilck (.t 26)),none⟩,⟨(some 28),(.fa 9 (.t 27)),none⟩,⟨(some 29),(.ld false 1 (.t 28)),none⟩,⟨(some 5),(.mv (.t 29)),none⟩]) (.kill [26,27,28,29] (.seq (.ops [⟨(some 30),(.mv (.t 0)),none⟩,⟨(some 31),(.nilck (.t 30)),none⟩,⟨(some 32),(.fa 9 (.t 31)),none⟩,⟨(some 33),(.ld false 1 (.t 32)),none⟩,⟨(some 34),(.bin .add (.t 33) (.k (.c (.v (.int .i64 1))))),none⟩,⟨(some 35),(.nilck (.t 30)),none⟩,⟨(some 36),(.fa 9 (.t 35)),none⟩,⟨none,(.st 1 (.t 36) (.t 34)),none⟩]) (.kill [30,31,32,33,34,35,36] (.seq (.seq (.draw [(⟨(some 37),(.fa 0 (.t 3)),none⟩,([],[])),(⟨(some 38),(.ld false 1 (.t 37)),none⟩,([],[])),(⟨(some 39),(.bin .lss (.t 38) (.k (.c (.v (.int .i64 0))))),none⟩,([],[])),(⟨(some 40),(.mv (.t 39)),none⟩,([],[])),(⟨(some 41),(.fa 0 (.t 3)),(some (40,false))⟩,([],[43,44,45,46,47])),(⟨(some 42),(.ld false 1 (.t 41)),(some (40,false))⟩,([],[43,44,45,46,47])),(⟨(some 43),(.mv (.t 0)),(some (40,false))⟩,([4,5],[41,42])),(⟨(some 44),(.nilck (.t 43)),(some (40,false))⟩,([4,5],[41,42])),(⟨(some 45),(.fa 8 (.t 44)),(some (40,false))⟩,([4,5],[41,42])),(⟨(some 46),(.ld false 1 (.t 45)),(some (40,false))⟩,([4,5],[41,42])),(⟨(some 47),(.len (.t 46)),(some (40,false))⟩,([4,5],[41,42])),(⟨(some 48),(.bin .geq (.t 42) (.t 47)),(some (40,false))⟩,([],[])),(⟨(some 49),(.pick (.t 40) (.k (.c (.v (.bool true)))) (.t 48)),none⟩,([],[]))]) (.kill [37,38,39,40,41,42,43,44,45,46,47,48] (.cond (.t 49) (.seq (.ops [⟨(some 4),(.mv (.k (.c (.v (.bool false))))),none⟩]) (.kill [0,3,5,49] .ret)) .skip))) (.kill [4,49] (.seq (.draw [(⟨(some 50),(.mv (.t 0)),none⟩,([],[54,55])),(⟨(some 51),(.nilck (.t 50)),none⟩,([],[54,55])),(⟨(some 52),(.fa 8 (.t 51)),none⟩,([],[54,55])),(⟨(some 53),(.ld false 1 (.t 52)),none⟩,([],[54,55])),(⟨(some 54),(.fa 0 (.t 3)),none⟩,([0,1,2,3],[50,51,52,53])),(⟨(some 55),(.ld false 1 (.t 54)),none⟩,([0,1,2,3],[50,51,52,53])),(⟨(some 56),(.ia 5 (.t 53) (.t 55)),none⟩,([],[])),(⟨(some 6),(.mv (.t 56)),none⟩,([],[]))]) (.kill [50,51,52,53,54,55,56] (.seq (.blk 0 (.seq (.ops [⟨(some 58),(.fa 1 (.t 3)),none⟩,⟨(some 59),(.ld false 1 (.t 58)),none⟩,⟨(some 60),(.bin .eql (.t 59) (.k (.c (.v (.int .i64 0))))),none⟩,⟨(some 57),(.mv (.t 60)),none⟩]) (.kill [58,59,60] (.cond (.t 57) (.seq (.seq (.ops [⟨(some 61),(.mv (.t 6)),none⟩,⟨(some 62),(.nilck (.t 61)),none⟩,⟨(some 63),(.fa 0 (.t 62)),none⟩,⟨(some 64),(.ld false 1 (.t 63)),none⟩,⟨(some 65),(.eqn 4 false (.t 64) (.k (.c (.v .nilIface)))),none⟩]) (.kill [6,57,61,62,63,64] (.cond (.t 65) (.seq (.ops [⟨(some 4),(.mv (.k (.c (.v (.bool false))))),none⟩]) (.kill [0,3,5,65] .ret)) .skip))) (.kill [4,65] (.seq (.ops [⟨(some 66),(.mv (.t 0)),none⟩,⟨(some 67),(.fa 0 (.t 3)),none⟩,⟨(some 68),(.ld false 1 (.t 67)),none⟩,⟨(some 69),(.mv (.t 5)),none⟩,⟨(some 70),(.call 37 [(.t 66),(.t 68),(.t 69)]),none⟩]) (.kill [0,3,5,66,67,68,69,70] (.seq (.ops [⟨(some 4),(.mv (.k (.c (.v (.bool true))))),none⟩]) .ret))))) (.seq (.ops [⟨(some 72),(.mv (.t 6)),none⟩,⟨(some 73),(.nilck (.t 72)),none⟩,⟨(some 74),(.fa 0 (.t 73)),none⟩,⟨(some 75),(.ld false 1 (.t 74)),none⟩,⟨(some 76),(.eqn 4 true (.t 75) (.k (.c (.v .nilIface)))),none⟩,⟨(some 71),(.mv (.t 76)),none⟩]) (.kill [57,72,73,74,75,76] (.cond (.t 71) (.seq (.ops [⟨(some 4),(.mv (.k (.c (.v (.bool false))))),none⟩]) (.kill [0,3,5,6,71] .ret)) .skip))))))) (.kill [4,57,58,59,60,61,62,63,64,65,66,67,68,69,70,71,72,73,74,75,76] (.seq (.draw [(⟨(some 77),(.mv (.t 0)),none⟩,([],[81,82])),(⟨(some 78),(.nilck (.t 77)),none⟩,([],[81,82])),(⟨(some 79),(.fa 7 (.t 78)),none⟩,([],[81,82])),(⟨(some 80),(.ld false 1 (.t 79)),none⟩,([],[81,82])),(⟨(some 81),(.fa 1 (.t 3)),none⟩,([0,1,2,3],[77,78,79,80])),(⟨(some 82),(.ld false 1 (.t 81)),none⟩,([0,1,2,3],[77,78,79,80])),(⟨(some 83),(.xlk 104 false (.t 80) (.t 82)),none⟩,([],[])),(⟨(some 7),(.mv (.t 83)),none⟩,([],[]))]) (.kill [77,78,79,80,81,82,83] (.seq (.seq (.ops [⟨(some 84),(.mv (.t 7)),none⟩,⟨(some 85),(.eqn 3 false (.t 84) (.k (.c (.v .nilFunc)))),none⟩]) (.kill [84] (.cond (.t 85) (.seq (.ops [⟨(some 4),(.mv (.k (.c (.v (.bool false))))),none⟩]) (.kill [0,3,5,6,7,85] .ret)) .skip))) (.kill [4,85] (.seq (.ops [⟨(some 86),(.mv (.t 7)),none⟩,⟨(some 87),(.fa 0 (.t 3)),none⟩,⟨(some 88),(.ld false 1 (.t 87)),none⟩,⟨(some 89),(.ld true 4 (.t 3)),none⟩,⟨(some 90),(.callv (.t 86) [(.t 88),(.t 89)]),none⟩,⟨(some 8),(.mv (.t 90)),none⟩]) (.kill [7,86,87,88,89,90] (.seq (.seq (.ops [⟨(some 91),(.mv (.t 8)),none⟩,⟨(some 92),(.eqn 4 false (.t 91) (.k (.c (.v .nilIface)))),none⟩]) (.kill [91] (.cond (.t 92) (.seq (.ops [⟨(some 4),(.mv (.k (.c (.v (.bool false))))),none⟩]) (.kill [0,3,5,6,8,92] .ret)) .skip))) (.kill [4,92] (.seq (.ops [⟨(some 93),(.mv (.t 6)),none⟩,⟨(some 94),(.mv (.t 8)),none⟩,⟨(some 95),(.mv (.t 0)),none⟩,⟨(some 96),(.nilck (.t 95)),none⟩,⟨(some 97),(.fa 10 (.t 96)),none⟩,⟨(some 98),(.ld false 1 (.t 97)),none⟩,⟨(some 99),(.len (.t 98)),none⟩,⟨(some 100),(.build [(.v (.int .i64 0)),(.v (.int .i64 0))] [(0,(1,(.k (.c (.v (.int .i64 1))))))]),none⟩,⟨(some 101),(.build [(.v .nilIface),(.v (.bool false)),(.v (.int .i64 0)),(.v (.int .i64 0)),(.v (.int .i64 0))] [(0,(1,(.t 94))),(2,(1,(.t 99))),(3,(2,(.t 100)))]),none⟩,⟨(some 102),(.nilck (.t 93)),none⟩,⟨none,(.st 5 (.t 102) (.t 101)),none⟩]) (.kill [6,8,93,94,95,96,97,98,99,100,101,102] (.seq (.draw [(⟨(some 103),(.mv (.t 0)),none⟩,([],[104,105,106,107,108,109,110,111,112,113,114,115,116,117,118,119])),(⟨(some 104),(.mv (.t 0)),none⟩,([0],[103,108,109,110,111,112,113,114,115,116,117,118])),(⟨(some 105),(.nilck (.t 104)),none⟩,([0],[103,108,109,110,111,112,113,114,115,116,117,118])),(⟨(some 106),(.fa 10 (.t 105)),none⟩,([0],[103,108,109,110,111,112,113,114,115,116,117,118])),(⟨(some 107),(.ld false 1 (.t 106)),none⟩,([0],[103,108,109,110,111,112,113,114,115,116,117,118])),(⟨(some 108),(.fa 0 (.t 3)),none⟩,([0,1,2,3,4],[103,104,105,106,107,110,111,112,113,114,115,116])),(⟨(some 109),(.ld false 1 (.t 108)),none⟩,([0,1,2,3,4],[103,104,105,106,107,110,111,112,113,114,115,116])),(⟨(some 110),(.fa 1 (.t 3)),none⟩,([0,1,2,3,4,5,6],[103,104,105,106,107,108,109,112,113,114,115,116])),(⟨(some 111),(.ld false 1 (.t 110)),none⟩,([0,1,2,3,4,5,6],[103,104,105,106,107,108,109,112,113,114,115,116])),(⟨(some 112),(.fa 2 (.t 3)),none⟩,([0,1,2,3,4,5,6,7,8],[103,104,105,106,107,108,109,110,111,114,115,116])),(⟨(some 113),(.ld false 1 (.t 112)),none⟩,([0,1,2,3,4,5,6,7,8],[103,104,105,106,107,108,109,110,111,114,115,116])),(⟨(some 114),(.fa 3 (.t 3)),none⟩,([0,1,2,3,4,5,6,7,8,9,10],[103,104,105,106,107,108,109,110,111,112,113,116])),(⟨(some 115),(.ld false 1 (.t 114)),none⟩,([0,1,2,3,4,5,6,7,8,9,10],[103,104,105,106,107,108,109,110,111,112,113,116])),(⟨(some 116),(.mv (.t 5)),none⟩,([0,1,2,3,4,5,6,7,8,9,10,11,12],[103,104,105,106,107,108,109,110,111,112,113,114,115])),(⟨(some 117),(.build [(.v (.int .i64 0)),(.v (.int .i64 0)),(.v (.int .i64 0)),(.v (.int .i64 0)),(.v (.int .i64 0)),(.v (.int .i64 0)),(.v (.int .i64 0)),(.v (.int .i64 0)),(.v (.int .i64 0))] [(0,(1,(.t 109))),(1,(1,(.t 111))),(2,(1,(.t 113))),(3,(1,(.t 115))),(4,(1,(.t 116))),(5,(1,(.k (.c (.v (.int .i64 (-1))))))),(6,(1,(.k (.c (.v (.int .i64 (-1)))))))]),none⟩,([0,1,2,3,4],[103,104,105,106,107])),(⟨(some 118),(.mkSl 77 1 9 [(.v (.int .i64 0)),(.v (.int .i64 0)),(.v (.int .i64 0)),(.v (.int .i64 0)),(.v (.int .i64 0)),(.v (.int .i64 0)),(.v (.int .i64 0)),(.v (.int .i64 0)),(.v (.int .i64 0))] [(0,(9,(.t 117)))]),none⟩,([0,1,2,3,4],[103,104,105,106,107])),(⟨(some 119),(.app 77 9 72 [(.v (.int .i64 0)),(.v (.int .i64 0)),(.v (.int .i64 0)),(.v (.int .i64 0)),(.v (.int .i64 0)),(.v (.int .i64 0)),(.v (.int .i64 0)),(.v (.int .i64 0)),(.v (.int .i64 0))] (.t 107) (.t 118)),none⟩,([0],[103])),(⟨(some 120),(.nilck (.t 103)),none⟩,([],[])),(⟨(some 121),(.fa 10 (.t 120)),none⟩,([],[])),(⟨none,(.st 1 (.t 121) (.t 119)),none⟩,([],[]))]) (.kill [0,3,5,103,104,105,106,107,108,109,110,111,112,113,114,115,116,117,118,119,120,121] (.seq (.ops [⟨(some 4),(.mv (.k (.c (.v (.bool true))))),none⟩]) .ret)))))))))))))))))))))))))))
def rs23:List RS:=[(.t 4)]
def nt23:Nat:=122
set_option maxRecDepth 100000 in
set_option maxHeartbeats 4000000 in
theorem mmove_step (w:World) (E:Env) (m:D.Pm) (i c:Nat) (k:D.Tk) (arg data:Int) (h0:0≤m.mv) (hM:m.mv<65536) (ht:StAt { m with mv:=m.mv+1 } i c m.mv k (D.begK m i k)) (h:Handed w E 11 (mvO nz0 m) []) :
  Calls Try.prog 23 (([.c (.ptr (0,0,0) 0),.agg [iI i,iI 0,iI arg,iI data]]:List SV).map (SV.den E)).toArray w (EffR w E 11 (takesO E (mvO nz0 m)) (.c (.v (.bool true))) 4 fun b=>killO [3,4,6,7]++mvO ⟨b,b+1,b+2,b+3⟩ (D.stepM { m with mv:=m.mv+1 } i k m.mv)):=by
 have hi:i<m.S.length:=ht.hi
 have htk:(m.S.getD i D.se0).tk=some k:=ht.tk
 have hse:seC 7 m.S i=[.ifc (tkIf k.kd) (.ptr (7,i,0) 0),.v (.bool (m.S.getD i D.se0).rd),iI (m.S.getD i D.se0).la,iI (m.S.getD i D.se0).ak,iI (m.S.getD i D.se0).av]:=by
  unfold seC;rw [htk];simp only [taskI]
 refine enterO (c:=ir23) (rs:=rs23) (nt:=nt23) h _ Try.func23 rfl (by kernel_rfl) (by kernel_rfl) rfl (by simp [okVs,SV.okN,SC.okN,SC.okL,iI]) (of_decide_eq_true rfl) ?_
 generalize hR:EffR w E 11 (takesO E (mvO nz0 m)) _ 4 _=R
 generalize hW:takesO E (mvO nz0 m)=W
 have hl0:(((m.S.length:Nat):Int) == 0)=false:=beq_eq_false_iff_ne.2 (by omega)
 have hm0:decide (m.mv≥65536)=false:=decide_eq_false (by omega)
 have hw1:IntKind.i64.wrap (m.mv+1)=m.mv+1:=D.i64_id (by omega) (by omega)
 have hi0:decide ((i:Int)<0)=false:=decide_eq_false (by omega)
 have hi1:decide ((i:Int)≥(m.S.length:Int))=false:=decide_eq_false (by omega)
 have hz:((0:Int) == 0)=true:=rfl
 simp only [iI] at hse
 simp (maxSteps:=2000000) only [ir23,nt23,rs23,go_sem,↓condS,↓gateS,↓runOp,↓imp_ft,↓imp_tt,↓imp_ff,↓reduceIte,Nat.reduceLT,Nat.reduceLeDiff,Nat.reduceAdd,Nat.reduceEqDiff,reduceCtorEq,Int.reduceNeg,mvO,rO,mO,nz0,bkM,nilP,bkY,hubC,iI,hl0,hm0,hw1,List.cons_append,List.nil_append]
 refine draw_vc (by kernel_rfl) (mkTab_ok _ _) (of_decide_eq_true rfl) (of_decide_eq_true rfl) ?_
 repeat (first | simp (maxSteps:=2000000) only [go_sem,↓condS,↓gateD,altC,↓runD,↓imp_ft,↓imp_tt,↓imp_ff,↓reduceIte,Nat.reduceLT,Nat.reduceEqDiff,reduceCtorEq,Int.reduceNeg,hi0,hi1] | rw [dr_cons])
 repeat (with_reducible refine And.intro (by first | exact hi | exact ⟨hi,Nat.le_refl _⟩ | exact Or.inr trivial | exact Or.inl trivial | exact ⟨by omega,by omega,Nat.le_refl _⟩) ?_)
 refine draw_vc (by kernel_rfl) (mkTab_ok _ _) (of_decide_eq_true rfl) (of_decide_eq_true rfl) ?_
 repeat (first | simp (maxSteps:=2000000) only [go_sem,↓condS,↓runOp,↓gateD,↓runD,↓imp_tf,↓imp_tt,↓reduceIte,Nat.reduceLT,Nat.reduceEqDiff,reduceCtorEq,Int.reduceNeg,hse,hz,Int.toNat_natCast] | rw [dr_cons])
 repeat (with_reducible refine And.intro (by first | exact hi | exact ⟨hi,Nat.le_refl _⟩ | exact Or.inr trivial | exact Or.inl trivial | exact ⟨by omega,by omega,Nat.le_refl _⟩) ?_)
 refine call_intro (crR (m:={ m with mv:=m.mv+1 }) (m':=D.stepM { m with mv:=m.mv+1 } i k m.mv) (show 10≤12 by decide) ⟨rfl,rfl,⟨_,_,rfl,Nat.le_refl _,fun _ _=>rfl⟩,⟨_,_,rfl,Nat.le_refl _,fun _ _=>rfl⟩,⟨_,_,rfl,Nat.le_refl _,fun _ _=>rfl⟩,⟨_,_,rfl,Nat.le_refl _,fun _ _=>rfl⟩,⟨_,_,rfl,Nat.le_refl _,fun _ _=>rfl⟩,⟨_,_,rfl,Nat.le_refl _,fun _ _=>rfl⟩,rfl⟩ (fun E w h=>mstep_own w E _ i c m.mv k ht h)) (fun j hj=>Nat.lt_of_lt_of_le (List.mem_range.1 hj) (show 10≤12 by decide)) ?_
 generalize D.stepM { m with mv:=m.mv+1 } i k m.mv=X at *
 simp (maxSteps:=2000000) only [go_sem,↓runOp,↓reduceIte,Nat.reduceLT,Nat.reduceAdd,Nat.reduceEqDiff,reduceCtorEq,Int.reduceNeg,killO,rO,mO,bkM,bkY,hubC,iI,nilP,mkO_rs]
 rw [← hR,← hW]
 exact retMv (p:=12) (q:=13) (r:=6) (tn:=fun k=>(7,k,0)) rfl (fun k=>by simp) (fun k k' e=>by simpa using e) (by simp) (fun E E'=>rfl) ⟨rfl,rfl,⟨_,_,rfl,Nat.le_refl _,fun _ _=>rfl⟩,⟨_,_,rfl,Nat.le_refl _,fun _ _=>rfl⟩,⟨_,_,rfl,Nat.le_refl _,fun _ _=>rfl⟩,⟨_,_,rfl,Nat.le_refl _,fun _ _=>rfl⟩,⟨_,_,rfl,Nat.le_refl _,fun _ _=>rfl⟩,fun k hk=>(by simp only [atN,look,Nat.reduceEqDiff,if_true,if_false,Fm.get];rw [if_pos ⟨hk,trivial⟩];rfl),rfl,rfl⟩
end Go.Proofs.Ytcloeignccpljaa.Z
