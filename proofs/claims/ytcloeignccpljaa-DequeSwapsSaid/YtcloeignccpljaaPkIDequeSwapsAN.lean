/- DequeSwapsSaid: what its proof is made of. No condition. -/
import Derived.Test.YtcloeignccpljaaPkIDequeSwapsAM
set_option linter.unusedSimpArgs false
set_option linter.unusedVariables false
namespace Go.Proofs.Ytcloeignccpljaa.Z
open Go Go.RowKit
structure StAt (m:D.Pm) (i c:Nat) (now:Int) (k k0:D.Tk):Prop where
 hi:i<m.S.length
 tk:(m.S.getD i D.se0).tk=some k
 la:(m.S.getD i D.se0).la=c
 hc:c<m.C.length
 wl:2≤m.W.length
 hL:m.L.length≤65536
 hA:m.A.length≤65536
 ln:D.LnOk k0
 l1:1≤k0.ln
 rm:m.room≠0
 cell:CellOk (inM m i now k0) k0
theorem StAt.at {m:D.Pm} {i c:Nat} {now:Int} {k k0:D.Tk} (h:StAt m i c now k k0):AtT (inM m i now k0) i c k0:=atT_in h.hi h.la h.hc h.wl h.hL h.hA
theorem seC_in {t i:Nat} {S:List D.Se} {k k0:D.Tk} (hi:i<S.length) (hk:(S.getD i D.se0).tk=some k) (hkd:k0.kd=k.kd) (hrd:(S.getD i D.se0).rd=true) (e:Nat):seC t S e=seC t (S.set i { S.getD i D.se0 with rd:=true,tk:=some k0 }) e:=by
 unfold seC
 rw [D.set_getD _ _ _ _ _ hi]
 by_cases q:i=e
 ·subst q
  rw [if_pos rfl,hk,hrd]
  simp only [taskI,hkd]
 ·rw [if_neg q]
theorem tkF_in {t i:Nat} {S:List D.Se} {k:D.Tk} (hi:i<S.length) (hk:(S.getD i D.se0).tk=some k) (e:Nat):tkF t S e=tkF t (S.set i { S.getD i D.se0 with rd:=true,tk:=some k }) e:=by
 unfold tkF
 rw [D.set_getD _ _ _ _ _ hi]
 by_cases q:i=e
 ·subst q
  rw [if_pos rfl,hk]
 ·rw [if_neg q]
theorem seC_new {t i:Nat} {S:List D.Se} {k k0:D.Tk} {cs:List SC} (hi:i<S.length) (hk:(S.getD i D.se0).tk=some k) (hkd:k0.kd=k.kd) (hc:cs=[taskI (.ptr (t,i,0) 0) (some k),.v (.bool true),iI (S.getD i D.se0).la,iI (S.getD i D.se0).ak,iI (S.getD i D.se0).av]) (e:Nat) :
  setAt i (seC t S) cs e=seC t (S.set i { S.getD i D.se0 with rd:=true,tk:=some k0 }) e:=by
 unfold setAt seC
 rw [D.set_getD _ _ _ _ _ hi]
 by_cases q:e=i
 ·subst q
  rw [if_pos rfl,if_pos rfl,hc]
  simp only [taskI,hkd]
 ·rw [if_neg q,if_neg (fun h=>q h.symm)]
theorem tkF_new {t i:Nat} {S:List D.Se} {k0:D.Tk} (hi:i<S.length) (e:Nat):(if e=i then .bk (tkC (.ptr (t,i,0) 0) k0) (tkTy k0.kd) else tkF t S e)=tkF t (S.set i { S.getD i D.se0 with rd:=true,tk:=some k0 }) e:=by
 unfold tkF
 rw [D.set_getD _ _ _ _ _ hi]
 by_cases q:i=e
 ·subst q
  rw [if_pos rfl,if_pos rfl];rfl
 ·rw [if_neg q,if_neg (fun h=>q h.symm)]
theorem task_Cl (m:D.Pm) (i:Nat) (k:D.Tk):(D.taskT m i k).1.C.length=m.C.length:=by
 unfold D.taskT D.pushT D.takeT D.stealT
 repeat' split
 all_goals simp only [D.ans,D.point,List.length_set,D.load_C,D.store_C,D.swap_C]
theorem outM_C {m:D.Pm} {i:Nat} {now:Int} {k0:D.Tk}:(outM m i now k0).C.length=m.C.length:=task_Cl _ _ _
theorem und_ex {P:Program} {t:Nat} (h:(P.underlying t).isSome=true):∃ e,P.underlying t=some e:=Option.isSome_iff_exists.1 h
def ir37:IR:=(.seq (.ops [⟨(some 10),(.mv (.t 0)),none⟩,⟨(some 11),(.nilck (.t 10)),none⟩,⟨(some 12),(.fa 8 (.t 11)),none⟩,⟨(some 13),(.ld false 1 (.t 12)),none⟩,⟨(some 14),(.mv (.t 1)),none⟩,⟨(some 15),(.ia 5 (.t 13) (.t 14)),none⟩,⟨(some 6),(.mv (.t 15)),none⟩]) (.kill [3,4,5,7,8,9,10,11,12,13,14,15] (.seq (.ops [⟨(some 16),(.mv (.t 0)),none⟩,⟨(some 17),(.nilck (.t 16)),none⟩,⟨(some 18),(.fa 0 (.t 17)),none⟩,⟨(some 7),(.mv (.t 18)),none⟩]) (.kill [16,17,18] (.seq (.ops [⟨(some 19),(.mv (.t 7)),none⟩,⟨(some 20),(.mv (.t 7)),none⟩,⟨(some 21),(.mv (.t 7)),none⟩,⟨(some 22),(.mv (.t 1)),none⟩,⟨(some 23),(.mv (.t 2)),none⟩,⟨(some 24),(.nilck (.t 19)),none⟩,⟨(some 25),(.fa 1 (.t 24)),none⟩,⟨none,(.st 1 (.t 25) (.t 22)),none⟩,⟨(some 26),(.nilck (.t 20)),none⟩,⟨(some 27),(.fa 2 (.t 26)),none⟩,⟨none,(.st 1 (.t 27) (.t 23)),none⟩,⟨(some 28),(.nilck (.t 21)),none⟩,⟨(some 29),(.fa 5 (.t 28)),none⟩,⟨none,(.st 1 (.t 29) (.k (.c (.v (.bool false))))),none⟩]) (.kill [1,19,20,21,22,23,24,25,26,27,28,29] (.seq (.draw [(⟨(some 30),(.mv (.t 7)),none⟩,([],[31,32,33,34,35,36,37,38,39,40,41,42,43])),(⟨(some 31),(.mv (.t 7)),none⟩,([0],[30,32,33,34,35,36,37,38,39,40,41,42,43,44,45])),(⟨(some 32),(.mv (.t 0)),none⟩,([0,1],[30,31,36,37,38,39,41,42,43])),(⟨(some 33),(.nilck (.t 32)),none⟩,([0,1],[30,31,36,37,38,39,41,42,43])),(⟨(some 34),(.fa 10 (.t 33)),none⟩,([0,1],[30,31,36,37,38,39,41,42,43])),(⟨(some 35),(.ld false 1 (.t 34)),none⟩,([0,1],[30,31,36,37,38,39,41,42,43])),(⟨(some 36),(.mv (.t 6)),none⟩,([0,1,2,3,4,5],[30,31,32,33,34,35,41,42,43])),(⟨(some 37),(.nilck (.t 36)),none⟩,([0,1,2,3,4,5],[30,31,32,33,34,35,41,42,43])),(⟨(some 38),(.fa 2 (.t 37)),none⟩,([0,1,2,3,4,5],[30,31,32,33,34,35,41,42,43])),(⟨(some 39),(.ld false 1 (.t 38)),none⟩,([0,1,2,3,4,5],[30,31,32,33,34,35,41,42,43])),(⟨(some 40),(.ia 9 (.t 35) (.t 39)),none⟩,([0,1],[30,31,41,42,43])),(⟨(some 41),(.mv (.t 6)),none⟩,([0,1,2,3,4,5,6,7,8,9,10],[30,31,32,33,34,35,36,37,38,39,40,44,45])),(⟨(some 42),(.nilck (.t 41)),none⟩,([0,1,2,3,4,5,6,7,8,9,10],[30,31,32,33,34,35,36,37,38,39,40,44,45])),(⟨(some 43),(.fa 3 (.t 42)),none⟩,([0,1,2,3,4,5,6,7,8,9,10],[30,31,32,33,34,35,36,37,38,39,40,44,45])),(⟨(some 44),(.nilck (.t 30)),none⟩,([1,11,12,13],[31,41,42,43])),(⟨(some 45),(.fa 3 (.t 44)),none⟩,([1,11,12,13],[31,41,42,43])),(⟨none,(.st 1 (.t 45) (.t 40)),none⟩,([1,11,12,13],[31,41,42,43])),(⟨(some 46),(.nilck (.t 31)),none⟩,([],[])),(⟨(some 47),(.fa 4 (.t 46)),none⟩,([],[])),(⟨none,(.st 1 (.t 47) (.t 43)),none⟩,([],[]))]) (.kill [30,31,32,33,34,35,36,37,38,39,40,41,42,43,44,45,46,47] (.seq (.ops [⟨(some 48),(.mv (.t 7)),none⟩,⟨(some 49),(.nilck (.t 48)),none⟩,⟨(some 50),(.fa 0 (.t 49)),none⟩,⟨(some 51),(.ld false 1 (.t 50)),none⟩,⟨(some 52),(.mv (.t 2)),none⟩,⟨(some 53),(.call 50 [(.t 51),(.t 52)]),none⟩]) (.kill [48,49,50,51,52,53] (.seq (.ops [⟨(some 54),(.mv (.t 7)),none⟩,⟨(some 55),(.build [(.v (.pointer none))] [(0,(1,(.t 54)))]),none⟩,⟨(some 56),(.box 137 (.t 55)),none⟩,⟨(some 8),(.mv (.t 56)),none⟩]) (.kill [54,55,56] (.seq (.ops [⟨(some 9),(.mv (.k (.c (.v (.bool false))))),none⟩]) (.seq (.seq (.ops [⟨(some 57),(.mv (.t 6)),none⟩,⟨(some 58),(.nilck (.t 57)),none⟩,⟨(some 59),(.fa 1 (.t 58)),none⟩,⟨(some 60),(.ld false 1 (.t 59)),none⟩,⟨(some 61),(.un .not (.t 60)),none⟩]) (.kill [57,58,59,60] (.cond (.t 61) (.seq (.ops [⟨(some 62),(.mv (.t 6)),none⟩,⟨(some 63),(.nilck (.t 62)),none⟩,⟨(some 64),(.fa 1 (.t 63)),none⟩,⟨none,(.st 1 (.t 64) (.k (.c (.v (.bool true))))),none⟩]) (.kill [9,61,62,63,64] (.ops [⟨(some 65),(.mv (.t 6)),none⟩,⟨(some 66),(.nilck (.t 65)),none⟩,⟨(some 67),(.fa 0 (.t 66)),none⟩,⟨(some 68),(.ld false 1 (.t 67)),none⟩,⟨(some 69),(.mv (.t 8)),none⟩,⟨(some 70),(.calli "Ready" (.t 68) [(.t 69)]),none⟩,⟨(some 9),(.mv (.t 70)),none⟩]))) .skip))) (.kill [61,65,66,67,68,69,70] (.seq (.seq (.ops [⟨(some 71),(.mv (.t 9)),none⟩,⟨(some 72),(.un .not (.t 71)),none⟩]) (.kill [71] (.cond (.t 72) (.ops [⟨(some 73),(.mv (.t 6)),none⟩,⟨(some 74),(.nilck (.t 73)),none⟩,⟨(some 75),(.fa 0 (.t 74)),none⟩,⟨(some 76),(.ld false 1 (.t 75)),none⟩,⟨(some 77),(.mv (.t 8)),none⟩,⟨(some 78),(.calli "Step" (.t 76) [(.t 77)]),none⟩,⟨(some 9),(.mv (.t 78)),none⟩]) .skip))) (.kill [8,72,73,74,75,76,77,78] (.seq (.seq (.ops [⟨(some 79),(.mv (.t 9)),none⟩]) (.kill [9] (.cond (.t 79) (.seq (.draw [(⟨(some 80),(.mv (.t 0)),none⟩,([],[84,85,86,87,88])),(⟨(some 81),(.nilck (.t 80)),none⟩,([],[84,85,86,87,88])),(⟨(some 82),(.fa 10 (.t 81)),none⟩,([],[84,85,86,87,88])),(⟨(some 83),(.ld false 1 (.t 82)),none⟩,([],[84,85,86,87,88])),(⟨(some 84),(.mv (.t 6)),none⟩,([0,1,2,3],[80,81,82,83,88])),(⟨(some 85),(.nilck (.t 84)),none⟩,([0,1,2,3],[80,81,82,83,88])),(⟨(some 86),(.fa 2 (.t 85)),none⟩,([0,1,2,3],[80,81,82,83,88])),(⟨(some 87),(.ld false 1 (.t 86)),none⟩,([0,1,2,3],[80,81,82,83,88])),(⟨(some 88),(.mv (.t 2)),none⟩,([0,1,2,3,4,5,6,7],[80,81,82,83,84,85,86,87])),(⟨(some 89),(.ia 9 (.t 83) (.t 87)),none⟩,([],[])),(⟨(some 90),(.fa 5 (.t 89)),none⟩,([],[])),(⟨none,(.st 1 (.t 90) (.t 88)),none⟩,([],[]))]) (.kill [2,79,80,81,82,83,84,85,86,87,88,89,90] (.seq (.draw [(⟨(some 91),(.mv (.t 0)),none⟩,([],[95,96,97,98,99,100,101,102])),(⟨(some 92),(.nilck (.t 91)),none⟩,([],[95,96,97,98,99,100,101,102])),(⟨(some 93),(.fa 10 (.t 92)),none⟩,([],[95,96,97,98,99,100,101,102])),(⟨(some 94),(.ld false 1 (.t 93)),none⟩,([],[95,96,97,98,99,100,101,102])),(⟨(some 95),(.mv (.t 6)),none⟩,([0,1,2,3],[91,92,93,94,99,100,101,102])),(⟨(some 96),(.nilck (.t 95)),none⟩,([0,1,2,3],[91,92,93,94,99,100,101,102])),(⟨(some 97),(.fa 2 (.t 96)),none⟩,([0,1,2,3],[91,92,93,94,99,100,101,102])),(⟨(some 98),(.ld false 1 (.t 97)),none⟩,([0,1,2,3],[91,92,93,94,99,100,101,102])),(⟨(some 99),(.mv (.t 6)),none⟩,([0,1,2,3,4,5,6,7],[91,92,93,94,95,96,97,98])),(⟨(some 100),(.nilck (.t 99)),none⟩,([0,1,2,3,4,5,6,7],[91,92,93,94,95,96,97,98])),(⟨(some 101),(.fa 3 (.t 100)),none⟩,([0,1,2,3,4,5,6,7],[91,92,93,94,95,96,97,98])),(⟨(some 102),(.ld true 2 (.t 101)),none⟩,([0,1,2,3,4,5,6,7],[91,92,93,94,95,96,97,98])),(⟨(some 103),(.ia 9 (.t 94) (.t 98)),none⟩,([],[])),(⟨(some 104),(.fa 7 (.t 103)),none⟩,([],[])),(⟨none,(.st 2 (.t 104) (.t 102)),none⟩,([],[]))]) (.kill [0,91,92,93,94,95,96,97,98,99,100,101,102,103,104] (.ops [⟨(some 105),(.mv (.t 6)),none⟩,⟨(some 106),(.nilck (.t 105)),none⟩,⟨(some 107),(.fa 0 (.t 106)),none⟩,⟨none,(.st 1 (.t 107) (.k (.c (.v .nilIface)))),none⟩]))))) .skip))) (.kill [0,2,6,79,105,106,107] (.ops [⟨(some 108),(.mv (.t 7)),none⟩,⟨(some 109),(.mv (.t 7)),none⟩,⟨(some 110),(.nilck (.t 108)),none⟩,⟨(some 111),(.fa 3 (.t 110)),none⟩,⟨none,(.st 1 (.t 111) (.k (.c (.v (.pointer none))))),none⟩,⟨(some 112),(.nilck (.t 109)),none⟩,⟨(some 113),(.fa 4 (.t 112)),none⟩,⟨none,(.st 1 (.t 113) (.k (.c (.v (.pointer none))))),none⟩]))))))))))))))))))))
def rs37:List RS:=[]
def nt37:Nat:=114
def ir50:IR:=(.seq (.ops [⟨(some 4),(.mv (.t 0)),none⟩,⟨(some 5),(.eqn 0 true (.t 4) (.k (.c (.v (.pointer none))))),none⟩]) (.kill [2,3,4,6,7,8,9,10,11] (.cond (.t 5) (.ops [⟨(some 6),(.mv (.t 0)),none⟩,⟨(some 7),(.mv (.t 1)),none⟩,⟨(some 8),(.nilck (.t 6)),none⟩,⟨(some 9),(.fa 3 (.t 8)),none⟩,⟨none,(.st 1 (.t 9) (.t 7)),none⟩]) .skip)))
def rs50:List RS:=[]
def nt50:Nat:=10
def ir87:IR:=(.seq (.ops [⟨(some 4),(.mv (.k (.c (.v (.bool false))))),none⟩]) (.kill [1,2,3,4,5,6,7,8,9,10,11] (.seq (.ops [⟨(some 5),(.mv (.t 0)),none⟩,⟨(some 6),(.mv (.t 0)),none⟩,⟨(some 7),(.mfn (.func 90) [(.t 6)] []),none⟩,⟨(some 8),(.nilck (.t 5)),none⟩,⟨(some 9),(.fa 0 (.t 8)),none⟩,⟨(some 10),(.fa 1 (.t 9)),none⟩,⟨none,(.st 1 (.t 10) (.t 7)),none⟩]) (.kill [0,5,6,7,8,9,10] (.seq (.ops [⟨(some 4),(.mv (.k (.c (.v (.bool false))))),none⟩]) .ret)))))
def rs87:List RS:=[(.t 4)]
def nt87:Nat:=11
def ir107:IR:=(.seq (.ops [⟨(some 4),(.mv (.k (.c (.v (.bool false))))),none⟩]) (.kill [1,2,3,4,5,6,7,8,9,10,11] (.seq (.ops [⟨(some 5),(.mv (.t 0)),none⟩,⟨(some 6),(.mv (.t 0)),none⟩,⟨(some 7),(.mfn (.func 108) [(.t 6)] []),none⟩,⟨(some 8),(.nilck (.t 5)),none⟩,⟨(some 9),(.fa 0 (.t 8)),none⟩,⟨(some 10),(.fa 1 (.t 9)),none⟩,⟨none,(.st 1 (.t 10) (.t 7)),none⟩]) (.kill [0,5,6,7,8,9,10] (.seq (.ops [⟨(some 4),(.mv (.k (.c (.v (.bool false))))),none⟩]) .ret)))))
def rs107:List RS:=[(.t 4)]
def nt107:Nat:=11
def ir118:IR:=(.seq (.ops [⟨(some 4),(.mv (.k (.c (.v (.bool false))))),none⟩]) (.kill [1,2,3,4,5,6,7,8,9,10,11] (.seq (.ops [⟨(some 5),(.mv (.t 0)),none⟩,⟨(some 6),(.mv (.t 0)),none⟩,⟨(some 7),(.mfn (.func 119) [(.t 6)] []),none⟩,⟨(some 8),(.nilck (.t 5)),none⟩,⟨(some 9),(.fa 0 (.t 8)),none⟩,⟨(some 10),(.fa 1 (.t 9)),none⟩,⟨none,(.st 1 (.t 10) (.t 7)),none⟩]) (.kill [0,5,6,7,8,9,10] (.seq (.ops [⟨(some 4),(.mv (.k (.c (.v (.bool false))))),none⟩]) .ret)))))
def rs118:List RS:=[(.t 4)]
def nt118:Nat:=11
set_option maxRecDepth 100000 in
set_option maxHeartbeats 4000000 in
theorem mstep_0tf (w:World) (E:Env) (m:D.Pm) (i c:Nat) (now:Int) (ln:Nat) (b t v:Int) (got:Bool) (ht:StAt m i c now ⟨0,ln,b,t,v,got⟩ ⟨0,ln,b,t,v,got⟩) (hrd:(m.S.getD i D.se0).rd=true) (ho:(D.taskT (inM m i now ⟨0,ln,b,t,v,got⟩) i ⟨0,ln,b,t,v,got⟩).2.2=false) (h:Handed w E 10 (rO nz0 m) []) :
  Calls Try.prog 37 (([.c (.ptr (0,0,0) 0),.c (iI i),.c (iI now)]:List SV).map (SV.den E)).toArray w (EffR w E 10 (takesO E (rO nz0 m)) (.tup []) 2 fun b'=>killO [3,4]++rO ⟨b',b' + 1,6,7⟩ (stM m i now ⟨0,ln,b,t,v,got⟩)):=by
 have hse:seC 7 m.S i=[.ifc (tkIf 0) (.ptr (7,i,0) 0),.v (.bool true),iI c,iI (m.S.getD i D.se0).ak,iI (m.S.getD i D.se0).av]:=by
  unfold seC;rw [ht.tk,hrd,ht.la];simp only [taskI]
 have hf:tkF 7 m.S i = .bk (tkC (.ptr (7,i,0) 0) ⟨0,ln,b,t,v,got⟩) (tkTy 0):=by unfold tkF;rw [ht.tk];rfl
 simp only [tkC,tkTy,iI] at hf
 refine enterO (c:=ir37) (rs:=rs37) (nt:=nt37) h _ Try.func37 rfl (by kernel_rfl) (by kernel_rfl) rfl (by simp [okVs,SV.okN,SC.okN,iI]) (of_decide_eq_true rfl) ?_
 rw [show stM m i now ⟨0,ln,b,t,v,got⟩=outM m i now ⟨0,ln,b,t,v,got⟩ from if_neg (by rw [ho];simp)]
 generalize hR:EffR w E 10 (takesO E (rO nz0 m)) _ 2 _=R
 generalize hW:takesO E (rO nz0 m)=W
 have hi:=ht.hi
 have hc:=ht.hc
 obtain ⟨x1,x2,x3,x4⟩:=outM_S (m:=m) (i:=i) (now:=now) (k0:=⟨0,ln,b,t,v,got⟩) hi
 have hxi:i<(outM m i now ⟨0,ln,b,t,v,got⟩).S.length:=by omega
 have hxc:c<(outM m i now ⟨0,ln,b,t,v,got⟩).C.length:=by rw [outM_C];exact hc
 simp only [iI] at hse
 simp (maxSteps:=2000000) only [ir37,nt37,rs37,go_sem,↓runOp,↓reduceIte,Nat.reduceLT,Nat.reduceLeDiff,Nat.reduceAdd,Nat.reduceEqDiff,reduceCtorEq,rO,mO,nz0,bkM,nilP,bkY,hubC,iI]
 repeat (with_reducible refine And.intro (by first | exact hi | exact hc | exact hxi | exact hxc | exact ⟨hi,Nat.le_refl _⟩ | exact ⟨hc,Nat.le_refl _⟩ | exact ⟨hxi,Nat.le_refl _⟩ | exact ⟨hxc,Nat.le_refl _⟩ | exact Or.inr trivial | exact Or.inl trivial | exact ⟨Or.inl trivial,Or.inr trivial⟩ | exact ⟨by omega,by omega,Nat.le_refl _⟩) ?_)
 refine draw_vc (by kernel_rfl) (mkTab_ok _ _) (of_decide_eq_true rfl) (of_decide_eq_true rfl) ?_
 repeat (first | simp (maxSteps:=2000000) only [go_sem,↓runOp,↓gateD,↓runD,↓reduceIte,Nat.reduceLT,Nat.reduceLeDiff,Nat.reduceAdd,Nat.reduceEqDiff,reduceCtorEq,hse,Int.toNat_natCast] | rw [dr_cons])
 repeat (with_reducible refine And.intro (by first | exact hi | exact hc | exact hxi | exact hxc | exact ⟨hi,Nat.le_refl _⟩ | exact ⟨hc,Nat.le_refl _⟩ | exact ⟨hxi,Nat.le_refl _⟩ | exact ⟨hxc,Nat.le_refl _⟩ | exact Or.inr trivial | exact Or.inl trivial | exact ⟨Or.inl trivial,Or.inr trivial⟩ | exact ⟨by omega,by omega,Nat.le_refl _⟩) ?_)
 refine call_inline (c:=ir50) (rs:=rs50) (nt:=nt50) 1000 (mkTab_ok _ _) Try.func50 rfl (by kernel_rfl) (by kernel_rfl) rfl (by simp [okVs,SV.okN,SC.okN]) (of_decide_eq_true rfl) (fun E0 a0 ht0=>?_)
 simp (maxSteps:=2000000) only [ir50,nt50,rs50,go_sem,↓condS,↓runOp,↓reduceIte,Nat.reduceLT,Nat.reduceLeDiff,Nat.reduceAdd,Nat.reduceEqDiff,reduceCtorEq]
 refine retI ht0 _ rfl (of_decide_eq_true rfl) (by simp [SV.okN,ok1L]) ?_
 simp (maxSteps:=2000000) only [go_sem,↓condS,↓runOp,↓reduceIte,Nat.reduceLT,Nat.reduceLeDiff,Nat.reduceAdd,Nat.reduceEqDiff,reduceCtorEq,hse]
 repeat (with_reducible refine And.intro (by first | exact hi | exact hc | exact hxi | exact hxc | exact ⟨hi,Nat.le_refl _⟩ | exact ⟨hc,Nat.le_refl _⟩ | exact ⟨hxi,Nat.le_refl _⟩ | exact ⟨hxc,Nat.le_refl _⟩ | exact Or.inr trivial | exact Or.inl trivial | exact ⟨Or.inl trivial,Or.inr trivial⟩ | exact ⟨by omega,by omega,Nat.le_refl _⟩) ?_)
 refine ⟨88,Or.inr ⟨by kernel_rfl,_,_,rfl⟩,⟨_,Try.func88,by kernel_rfl,by kernel_rfl⟩,?_⟩
 refine call_intro (crD (i:=i) (c:=c) (m:=inM m i now ⟨0,ln,b,t,v,got⟩) (m':=outM m i now ⟨0,ln,b,t,v,got⟩) (Nat.le_refl _) ⟨by simp [look,bkM,inM,D.begS,iI,nz0],rfl,⟨_,_,rfl,Nat.le_refl _,fun _ _=>rfl⟩,⟨_,_,rfl,Nat.le_refl _,fun _ _=>rfl⟩,⟨_,_,rfl,Nat.le_refl _,fun _ _=>rfl⟩,⟨_,_,rfl,by simp [inM],fun e _=>seC_in hi ht.tk rfl hrd e⟩,⟨_,_,rfl,Nat.le_refl _,fun _ _=>rfl⟩,⟨_,_,rfl,by simp [inM],fun x _=>tkF_in hi ht.tk x⟩,rfl,rfl⟩ (fun E w h=>task_own w E _ i c ⟨0,ln,b,t,v,got⟩ ht.at ht.ln ht.l1 ht.rm ht.cell h)) (lt11 (Nat.le_refl _)) ?_
 simp (maxSteps:=2000000) only [go_sem,↓condS,↓runOp,↓reduceIte,Nat.reduceLT,Nat.reduceLeDiff,Nat.reduceAdd,Nat.reduceEqDiff,reduceCtorEq,killO,dO,mO,bkM,bkY,hubC,iI,ho,mkO_rs]
 rw [← hR,← hW]
 exact retR (p:=11) (q:=12) rfl (by simp) (fun E E'=>rfl) ⟨rfl,rfl,⟨_,_,rfl,Nat.le_refl _,fun _ _=>rfl⟩,⟨_,_,rfl,Nat.le_refl _,fun _ _=>rfl⟩,⟨_,_,rfl,Nat.le_refl _,fun _ _=>rfl⟩,⟨_,_,rfl,Nat.le_refl _,fun _ _=>rfl⟩,⟨_,_,rfl,Nat.le_refl _,fun _ _=>rfl⟩,⟨_,_,rfl,Nat.le_refl _,fun _ _=>rfl⟩,rfl⟩
set_option maxRecDepth 100000 in
set_option maxHeartbeats 4000000 in
theorem mstep_0ff (w:World) (E:Env) (m:D.Pm) (i c:Nat) (now:Int) (ln:Nat) (b t v:Int) (got:Bool) (ht:StAt m i c now ⟨0,ln,b,t,v,got⟩ ⟨0,1,b,t,v,got⟩) (hrd:(m.S.getD i D.se0).rd=false) (ho:(D.taskT (inM m i now ⟨0,1,b,t,v,got⟩) i ⟨0,1,b,t,v,got⟩).2.2=false) (h:Handed w E 10 (rO nz0 m) []) :
  Calls Try.prog 37 (([.c (.ptr (0,0,0) 0),.c (iI i),.c (iI now)]:List SV).map (SV.den E)).toArray w (EffR w E 10 (takesO E (rO nz0 m)) (.tup []) 2 fun b'=>killO [3,4]++rO ⟨b',b' + 1,6,7⟩ (stM m i now ⟨0,1,b,t,v,got⟩)):=by
 have hse:seC 7 m.S i=[.ifc (tkIf 0) (.ptr (7,i,0) 0),.v (.bool false),iI c,iI (m.S.getD i D.se0).ak,iI (m.S.getD i D.se0).av]:=by
  unfold seC;rw [ht.tk,hrd,ht.la];simp only [taskI]
 have hf:tkF 7 m.S i = .bk (tkC (.ptr (7,i,0) 0) ⟨0,ln,b,t,v,got⟩) (tkTy 0):=by unfold tkF;rw [ht.tk];rfl
 simp only [tkC,tkTy,iI] at hf
 refine enterO (c:=ir37) (rs:=rs37) (nt:=nt37) h _ Try.func37 rfl (by kernel_rfl) (by kernel_rfl) rfl (by simp [okVs,SV.okN,SC.okN,iI]) (of_decide_eq_true rfl) ?_
 rw [show stM m i now ⟨0,1,b,t,v,got⟩=outM m i now ⟨0,1,b,t,v,got⟩ from if_neg (by rw [ho];simp)]
 generalize hR:EffR w E 10 (takesO E (rO nz0 m)) _ 2 _=R
 generalize hW:takesO E (rO nz0 m)=W
 have hi:=ht.hi
 have hc:=ht.hc
 obtain ⟨x1,x2,x3,x4⟩:=outM_S (m:=m) (i:=i) (now:=now) (k0:=⟨0,1,b,t,v,got⟩) hi
 have hxi:i<(outM m i now ⟨0,1,b,t,v,got⟩).S.length:=by omega
 have hxc:c<(outM m i now ⟨0,1,b,t,v,got⟩).C.length:=by rw [outM_C];exact hc
 simp only [iI] at hse
 simp (maxSteps:=2000000) only [ir37,nt37,rs37,go_sem,↓runOp,↓reduceIte,Nat.reduceLT,Nat.reduceLeDiff,Nat.reduceAdd,Nat.reduceEqDiff,reduceCtorEq,rO,mO,nz0,bkM,nilP,bkY,hubC,iI]
 repeat (with_reducible refine And.intro (by first | exact hi | exact hc | exact hxi | exact hxc | exact ⟨hi,Nat.le_refl _⟩ | exact ⟨hc,Nat.le_refl _⟩ | exact ⟨hxi,Nat.le_refl _⟩ | exact ⟨hxc,Nat.le_refl _⟩ | exact Or.inr trivial | exact Or.inl trivial | exact ⟨Or.inl trivial,Or.inr trivial⟩ | exact ⟨by omega,by omega,Nat.le_refl _⟩) ?_)
 refine draw_vc (by kernel_rfl) (mkTab_ok _ _) (of_decide_eq_true rfl) (of_decide_eq_true rfl) ?_
 repeat (first | simp (maxSteps:=2000000) only [go_sem,↓runOp,↓gateD,↓runD,↓reduceIte,Nat.reduceLT,Nat.reduceLeDiff,Nat.reduceAdd,Nat.reduceEqDiff,reduceCtorEq,hse,Int.toNat_natCast] | rw [dr_cons])
 repeat (with_reducible refine And.intro (by first | exact hi | exact hc | exact hxi | exact hxc | exact ⟨hi,Nat.le_refl _⟩ | exact ⟨hc,Nat.le_refl _⟩ | exact ⟨hxi,Nat.le_refl _⟩ | exact ⟨hxc,Nat.le_refl _⟩ | exact Or.inr trivial | exact Or.inl trivial | exact ⟨Or.inl trivial,Or.inr trivial⟩ | exact ⟨by omega,by omega,Nat.le_refl _⟩) ?_)
 refine call_inline (c:=ir50) (rs:=rs50) (nt:=nt50) 1000 (mkTab_ok _ _) Try.func50 rfl (by kernel_rfl) (by kernel_rfl) rfl (by simp [okVs,SV.okN,SC.okN]) (of_decide_eq_true rfl) (fun E0 a0 ht0=>?_)
 simp (maxSteps:=2000000) only [ir50,nt50,rs50,go_sem,↓condS,↓runOp,↓reduceIte,Nat.reduceLT,Nat.reduceLeDiff,Nat.reduceAdd,Nat.reduceEqDiff,reduceCtorEq]
 refine retI ht0 _ rfl (of_decide_eq_true rfl) (by simp [SV.okN,ok1L]) ?_
 simp (maxSteps:=2000000) only [go_sem,↓condS,↓runOp,↓reduceIte,Nat.reduceLT,Nat.reduceLeDiff,Nat.reduceAdd,Nat.reduceEqDiff,reduceCtorEq,hse,setAt]
 repeat (with_reducible refine And.intro (by first | exact hi | exact hc | exact hxi | exact hxc | exact ⟨hi,Nat.le_refl _⟩ | exact ⟨hc,Nat.le_refl _⟩ | exact ⟨hxi,Nat.le_refl _⟩ | exact ⟨hxc,Nat.le_refl _⟩ | exact Or.inr trivial | exact Or.inl trivial | exact ⟨Or.inl trivial,Or.inr trivial⟩ | exact ⟨by omega,by omega,Nat.le_refl _⟩) ?_)
 refine ⟨87,Or.inl ⟨by kernel_rfl,und_ex (by kernel_rfl)⟩,⟨_,Try.func87,by kernel_rfl,by kernel_rfl⟩,?_⟩
 refine call_inline (c:=ir87) (rs:=rs87) (nt:=nt87) 1000 (mkTab_ok _ _) Try.func87 rfl (by kernel_rfl) (by kernel_rfl) rfl (by simp [okVs,SV.okN,SC.okN]) (of_decide_eq_true rfl) (fun E0 a0 ht0=>?_)
 simp (maxSteps:=2000000) only [ir87,nt87,rs87,go_sem,↓runOp,↓reduceIte,Nat.reduceLT,Nat.reduceLeDiff,Nat.reduceAdd,Nat.reduceEqDiff,reduceCtorEq,hf]
 repeat (with_reducible refine And.intro (by first | exact hi | exact hc | exact hxi | exact hxc | exact ⟨hi,Nat.le_refl _⟩ | exact ⟨hc,Nat.le_refl _⟩ | exact ⟨hxi,Nat.le_refl _⟩ | exact ⟨hxc,Nat.le_refl _⟩ | exact Or.inr trivial | exact Or.inl trivial | exact ⟨Or.inl trivial,Or.inr trivial⟩ | exact ⟨by omega,by omega,Nat.le_refl _⟩) ?_)
 refine retI ht0 _ rfl (of_decide_eq_true rfl) (by simp [SV.okN,SC.okN]) ?_
 simp (maxSteps:=2000000) only [go_sem,↓condS,↓runOp,↓reduceIte,Nat.reduceLT,Nat.reduceEqDiff,reduceCtorEq,setAt]
 repeat (with_reducible refine And.intro (by first | exact hi | exact hc | exact hxi | exact hxc | exact ⟨hi,Nat.le_refl _⟩ | exact ⟨hc,Nat.le_refl _⟩ | exact ⟨hxi,Nat.le_refl _⟩ | exact ⟨hxc,Nat.le_refl _⟩ | exact Or.inr trivial | exact Or.inl trivial | exact ⟨Or.inl trivial,Or.inr trivial⟩ | exact ⟨by omega,by omega,Nat.le_refl _⟩) ?_)
 refine ⟨88,Or.inr ⟨by kernel_rfl,_,_,rfl⟩,⟨_,Try.func88,by kernel_rfl,by kernel_rfl⟩,?_⟩
 refine call_intro (crD (i:=i) (c:=c) (m:=inM m i now ⟨0,1,b,t,v,got⟩) (m':=outM m i now ⟨0,1,b,t,v,got⟩) (Nat.le_refl _) ⟨by simp [look,bkM,inM,D.begS,iI,nz0],rfl,⟨_,_,rfl,Nat.le_refl _,fun _ _=>rfl⟩,⟨_,_,rfl,Nat.le_refl _,fun _ _=>rfl⟩,⟨_,_,rfl,Nat.le_refl _,fun _ _=>rfl⟩,⟨_,_,rfl,by simp [inM],fun e _=>seC_new (k0:=⟨0,1,b,t,v,got⟩) hi ht.tk rfl (by rw [ht.la];rfl) e⟩,⟨_,_,rfl,Nat.le_refl _,fun _ _=>rfl⟩,⟨_,_,rfl,by simp [inM],fun x _=>Eq.trans (ite_congr rfl (fun _=>rfl) (fun _=>rfl)) (tkF_new (t:=7) (k0:=⟨0,1,b,t,v,got⟩) hi x)⟩,rfl,rfl⟩ (fun E w h=>task_own w E _ i c ⟨0,1,b,t,v,got⟩ ht.at ht.ln ht.l1 ht.rm ht.cell h)) (lt11 (Nat.le_refl _)) ?_
 simp (maxSteps:=2000000) only [go_sem,↓condS,↓runOp,↓reduceIte,Nat.reduceLT,Nat.reduceLeDiff,Nat.reduceAdd,Nat.reduceEqDiff,reduceCtorEq,killO,dO,mO,bkM,bkY,hubC,iI,ho,mkO_rs]
 rw [← hR,← hW]
 exact retR (p:=11) (q:=12) rfl (by simp) (fun E E'=>rfl) ⟨rfl,rfl,⟨_,_,rfl,Nat.le_refl _,fun _ _=>rfl⟩,⟨_,_,rfl,Nat.le_refl _,fun _ _=>rfl⟩,⟨_,_,rfl,Nat.le_refl _,fun _ _=>rfl⟩,⟨_,_,rfl,Nat.le_refl _,fun _ _=>rfl⟩,⟨_,_,rfl,Nat.le_refl _,fun _ _=>rfl⟩,⟨_,_,rfl,Nat.le_refl _,fun _ _=>rfl⟩,rfl⟩
set_option maxRecDepth 100000 in
set_option maxHeartbeats 4000000 in
theorem mstep_1tf (w:World) (E:Env) (m:D.Pm) (i c:Nat) (now:Int) (ln:Nat) (b t v:Int) (got:Bool) (ht:StAt m i c now ⟨1,ln,b,t,v,got⟩ ⟨1,ln,b,t,v,got⟩) (hrd:(m.S.getD i D.se0).rd=true) (ho:(D.taskT (inM m i now ⟨1,ln,b,t,v,got⟩) i ⟨1,ln,b,t,v,got⟩).2.2=false) (h:Handed w E 10 (rO nz0 m) []) :
  Calls Try.prog 37 (([.c (.ptr (0,0,0) 0),.c (iI i),.c (iI now)]:List SV).map (SV.den E)).toArray w (EffR w E 10 (takesO E (rO nz0 m)) (.tup []) 2 fun b'=>killO [3,4]++rO ⟨b',b' + 1,6,7⟩ (stM m i now ⟨1,ln,b,t,v,got⟩)):=by
 have hse:seC 7 m.S i=[.ifc (tkIf 1) (.ptr (7,i,0) 0),.v (.bool true),iI c,iI (m.S.getD i D.se0).ak,iI (m.S.getD i D.se0).av]:=by
  unfold seC;rw [ht.tk,hrd,ht.la];simp only [taskI]
 have hf:tkF 7 m.S i = .bk (tkC (.ptr (7,i,0) 0) ⟨1,ln,b,t,v,got⟩) (tkTy 1):=by unfold tkF;rw [ht.tk];rfl
 simp only [tkC,tkTy,iI] at hf
 refine enterO (c:=ir37) (rs:=rs37) (nt:=nt37) h _ Try.func37 rfl (by kernel_rfl) (by kernel_rfl) rfl (by simp [okVs,SV.okN,SC.okN,iI]) (of_decide_eq_true rfl) ?_
 rw [show stM m i now ⟨1,ln,b,t,v,got⟩=outM m i now ⟨1,ln,b,t,v,got⟩ from if_neg (by rw [ho];simp)]
 generalize hR:EffR w E 10 (takesO E (rO nz0 m)) _ 2 _=R
 generalize hW:takesO E (rO nz0 m)=W
 have hi:=ht.hi
 have hc:=ht.hc
 obtain ⟨x1,x2,x3,x4⟩:=outM_S (m:=m) (i:=i) (now:=now) (k0:=⟨1,ln,b,t,v,got⟩) hi
 have hxi:i<(outM m i now ⟨1,ln,b,t,v,got⟩).S.length:=by omega
 have hxc:c<(outM m i now ⟨1,ln,b,t,v,got⟩).C.length:=by rw [outM_C];exact hc
 simp only [iI] at hse
 simp (maxSteps:=2000000) only [ir37,nt37,rs37,go_sem,↓runOp,↓reduceIte,Nat.reduceLT,Nat.reduceLeDiff,Nat.reduceAdd,Nat.reduceEqDiff,reduceCtorEq,rO,mO,nz0,bkM,nilP,bkY,hubC,iI]
 repeat (with_reducible refine And.intro (by first | exact hi | exact hc | exact hxi | exact hxc | exact ⟨hi,Nat.le_refl _⟩ | exact ⟨hc,Nat.le_refl _⟩ | exact ⟨hxi,Nat.le_refl _⟩ | exact ⟨hxc,Nat.le_refl _⟩ | exact Or.inr trivial | exact Or.inl trivial | exact ⟨Or.inl trivial,Or.inr trivial⟩ | exact ⟨by omega,by omega,Nat.le_refl _⟩) ?_)
 refine draw_vc (by kernel_rfl) (mkTab_ok _ _) (of_decide_eq_true rfl) (of_decide_eq_true rfl) ?_
 repeat (first | simp (maxSteps:=2000000) only [go_sem,↓runOp,↓gateD,↓runD,↓reduceIte,Nat.reduceLT,Nat.reduceLeDiff,Nat.reduceAdd,Nat.reduceEqDiff,reduceCtorEq,hse,Int.toNat_natCast] | rw [dr_cons])
 repeat (with_reducible refine And.intro (by first | exact hi | exact hc | exact hxi | exact hxc | exact ⟨hi,Nat.le_refl _⟩ | exact ⟨hc,Nat.le_refl _⟩ | exact ⟨hxi,Nat.le_refl _⟩ | exact ⟨hxc,Nat.le_refl _⟩ | exact Or.inr trivial | exact Or.inl trivial | exact ⟨Or.inl trivial,Or.inr trivial⟩ | exact ⟨by omega,by omega,Nat.le_refl _⟩) ?_)
 refine call_inline (c:=ir50) (rs:=rs50) (nt:=nt50) 1000 (mkTab_ok _ _) Try.func50 rfl (by kernel_rfl) (by kernel_rfl) rfl (by simp [okVs,SV.okN,SC.okN]) (of_decide_eq_true rfl) (fun E0 a0 ht0=>?_)
 simp (maxSteps:=2000000) only [ir50,nt50,rs50,go_sem,↓condS,↓runOp,↓reduceIte,Nat.reduceLT,Nat.reduceLeDiff,Nat.reduceAdd,Nat.reduceEqDiff,reduceCtorEq]
 refine retI ht0 _ rfl (of_decide_eq_true rfl) (by simp [SV.okN,ok1L]) ?_
 simp (maxSteps:=2000000) only [go_sem,↓condS,↓runOp,↓reduceIte,Nat.reduceLT,Nat.reduceLeDiff,Nat.reduceAdd,Nat.reduceEqDiff,reduceCtorEq,hse]
 repeat (with_reducible refine And.intro (by first | exact hi | exact hc | exact hxi | exact hxc | exact ⟨hi,Nat.le_refl _⟩ | exact ⟨hc,Nat.le_refl _⟩ | exact ⟨hxi,Nat.le_refl _⟩ | exact ⟨hxc,Nat.le_refl _⟩ | exact Or.inr trivial | exact Or.inl trivial | exact ⟨Or.inl trivial,Or.inr trivial⟩ | exact ⟨by omega,by omega,Nat.le_refl _⟩) ?_)
 refine ⟨88,Or.inr ⟨by kernel_rfl,_,_,rfl⟩,⟨_,Try.func88,by kernel_rfl,by kernel_rfl⟩,?_⟩
 refine call_intro (crD (i:=i) (c:=c) (m:=inM m i now ⟨1,ln,b,t,v,got⟩) (m':=outM m i now ⟨1,ln,b,t,v,got⟩) (Nat.le_refl _) ⟨by simp [look,bkM,inM,D.begS,iI,nz0],rfl,⟨_,_,rfl,Nat.le_refl _,fun _ _=>rfl⟩,⟨_,_,rfl,Nat.le_refl _,fun _ _=>rfl⟩,⟨_,_,rfl,Nat.le_refl _,fun _ _=>rfl⟩,⟨_,_,rfl,by simp [inM],fun e _=>seC_in hi ht.tk rfl hrd e⟩,⟨_,_,rfl,Nat.le_refl _,fun _ _=>rfl⟩,⟨_,_,rfl,by simp [inM],fun x _=>tkF_in hi ht.tk x⟩,rfl,rfl⟩ (fun E w h=>task_own w E _ i c ⟨1,ln,b,t,v,got⟩ ht.at ht.ln ht.l1 ht.rm ht.cell h)) (lt11 (Nat.le_refl _)) ?_
 simp (maxSteps:=2000000) only [go_sem,↓condS,↓runOp,↓reduceIte,Nat.reduceLT,Nat.reduceLeDiff,Nat.reduceAdd,Nat.reduceEqDiff,reduceCtorEq,killO,dO,mO,bkM,bkY,hubC,iI,ho,mkO_rs]
 rw [← hR,← hW]
 exact retR (p:=11) (q:=12) rfl (by simp) (fun E E'=>rfl) ⟨rfl,rfl,⟨_,_,rfl,Nat.le_refl _,fun _ _=>rfl⟩,⟨_,_,rfl,Nat.le_refl _,fun _ _=>rfl⟩,⟨_,_,rfl,Nat.le_refl _,fun _ _=>rfl⟩,⟨_,_,rfl,Nat.le_refl _,fun _ _=>rfl⟩,⟨_,_,rfl,Nat.le_refl _,fun _ _=>rfl⟩,⟨_,_,rfl,Nat.le_refl _,fun _ _=>rfl⟩,rfl⟩
set_option maxRecDepth 100000 in
set_option maxHeartbeats 4000000 in
theorem mstep_1ff (w:World) (E:Env) (m:D.Pm) (i c:Nat) (now:Int) (ln:Nat) (b t v:Int) (got:Bool) (ht:StAt m i c now ⟨1,ln,b,t,v,got⟩ ⟨1,1,b,t,v,got⟩) (hrd:(m.S.getD i D.se0).rd=false) (ho:(D.taskT (inM m i now ⟨1,1,b,t,v,got⟩) i ⟨1,1,b,t,v,got⟩).2.2=false) (h:Handed w E 10 (rO nz0 m) []) :
  Calls Try.prog 37 (([.c (.ptr (0,0,0) 0),.c (iI i),.c (iI now)]:List SV).map (SV.den E)).toArray w (EffR w E 10 (takesO E (rO nz0 m)) (.tup []) 2 fun b'=>killO [3,4]++rO ⟨b',b' + 1,6,7⟩ (stM m i now ⟨1,1,b,t,v,got⟩)):=by
 have hse:seC 7 m.S i=[.ifc (tkIf 1) (.ptr (7,i,0) 0),.v (.bool false),iI c,iI (m.S.getD i D.se0).ak,iI (m.S.getD i D.se0).av]:=by
  unfold seC;rw [ht.tk,hrd,ht.la];simp only [taskI]
 have hf:tkF 7 m.S i = .bk (tkC (.ptr (7,i,0) 0) ⟨1,ln,b,t,v,got⟩) (tkTy 1):=by unfold tkF;rw [ht.tk];rfl
 simp only [tkC,tkTy,iI] at hf
 refine enterO (c:=ir37) (rs:=rs37) (nt:=nt37) h _ Try.func37 rfl (by kernel_rfl) (by kernel_rfl) rfl (by simp [okVs,SV.okN,SC.okN,iI]) (of_decide_eq_true rfl) ?_
 rw [show stM m i now ⟨1,1,b,t,v,got⟩=outM m i now ⟨1,1,b,t,v,got⟩ from if_neg (by rw [ho];simp)]
 generalize hR:EffR w E 10 (takesO E (rO nz0 m)) _ 2 _=R
 generalize hW:takesO E (rO nz0 m)=W
 have hi:=ht.hi
 have hc:=ht.hc
 obtain ⟨x1,x2,x3,x4⟩:=outM_S (m:=m) (i:=i) (now:=now) (k0:=⟨1,1,b,t,v,got⟩) hi
 have hxi:i<(outM m i now ⟨1,1,b,t,v,got⟩).S.length:=by omega
 have hxc:c<(outM m i now ⟨1,1,b,t,v,got⟩).C.length:=by rw [outM_C];exact hc
 simp only [iI] at hse
 simp (maxSteps:=2000000) only [ir37,nt37,rs37,go_sem,↓runOp,↓reduceIte,Nat.reduceLT,Nat.reduceLeDiff,Nat.reduceAdd,Nat.reduceEqDiff,reduceCtorEq,rO,mO,nz0,bkM,nilP,bkY,hubC,iI]
 repeat (with_reducible refine And.intro (by first | exact hi | exact hc | exact hxi | exact hxc | exact ⟨hi,Nat.le_refl _⟩ | exact ⟨hc,Nat.le_refl _⟩ | exact ⟨hxi,Nat.le_refl _⟩ | exact ⟨hxc,Nat.le_refl _⟩ | exact Or.inr trivial | exact Or.inl trivial | exact ⟨Or.inl trivial,Or.inr trivial⟩ | exact ⟨by omega,by omega,Nat.le_refl _⟩) ?_)
 refine draw_vc (by kernel_rfl) (mkTab_ok _ _) (of_decide_eq_true rfl) (of_decide_eq_true rfl) ?_
 repeat (first | simp (maxSteps:=2000000) only [go_sem,↓runOp,↓gateD,↓runD,↓reduceIte,Nat.reduceLT,Nat.reduceLeDiff,Nat.reduceAdd,Nat.reduceEqDiff,reduceCtorEq,hse,Int.toNat_natCast] | rw [dr_cons])
 repeat (with_reducible refine And.intro (by first | exact hi | exact hc | exact hxi | exact hxc | exact ⟨hi,Nat.le_refl _⟩ | exact ⟨hc,Nat.le_refl _⟩ | exact ⟨hxi,Nat.le_refl _⟩ | exact ⟨hxc,Nat.le_refl _⟩ | exact Or.inr trivial | exact Or.inl trivial | exact ⟨Or.inl trivial,Or.inr trivial⟩ | exact ⟨by omega,by omega,Nat.le_refl _⟩) ?_)
 refine call_inline (c:=ir50) (rs:=rs50) (nt:=nt50) 1000 (mkTab_ok _ _) Try.func50 rfl (by kernel_rfl) (by kernel_rfl) rfl (by simp [okVs,SV.okN,SC.okN]) (of_decide_eq_true rfl) (fun E0 a0 ht0=>?_)
 simp (maxSteps:=2000000) only [ir50,nt50,rs50,go_sem,↓condS,↓runOp,↓reduceIte,Nat.reduceLT,Nat.reduceLeDiff,Nat.reduceAdd,Nat.reduceEqDiff,reduceCtorEq]
 refine retI ht0 _ rfl (of_decide_eq_true rfl) (by simp [SV.okN,ok1L]) ?_
 simp (maxSteps:=2000000) only [go_sem,↓condS,↓runOp,↓reduceIte,Nat.reduceLT,Nat.reduceLeDiff,Nat.reduceAdd,Nat.reduceEqDiff,reduceCtorEq,hse,setAt]
 repeat (with_reducible refine And.intro (by first | exact hi | exact hc | exact hxi | exact hxc | exact ⟨hi,Nat.le_refl _⟩ | exact ⟨hc,Nat.le_refl _⟩ | exact ⟨hxi,Nat.le_refl _⟩ | exact ⟨hxc,Nat.le_refl _⟩ | exact Or.inr trivial | exact Or.inl trivial | exact ⟨Or.inl trivial,Or.inr trivial⟩ | exact ⟨by omega,by omega,Nat.le_refl _⟩) ?_)
 refine ⟨107,Or.inl ⟨by kernel_rfl,und_ex (by kernel_rfl)⟩,⟨_,Try.func107,by kernel_rfl,by kernel_rfl⟩,?_⟩
 refine call_inline (c:=ir107) (rs:=rs107) (nt:=nt107) 1000 (mkTab_ok _ _) Try.func107 rfl (by kernel_rfl) (by kernel_rfl) rfl (by simp [okVs,SV.okN,SC.okN]) (of_decide_eq_true rfl) (fun E0 a0 ht0=>?_)
 simp (maxSteps:=2000000) only [ir107,nt107,rs107,go_sem,↓runOp,↓reduceIte,Nat.reduceLT,Nat.reduceLeDiff,Nat.reduceAdd,Nat.reduceEqDiff,reduceCtorEq,hf]
 repeat (with_reducible refine And.intro (by first | exact hi | exact hc | exact hxi | exact hxc | exact ⟨hi,Nat.le_refl _⟩ | exact ⟨hc,Nat.le_refl _⟩ | exact ⟨hxi,Nat.le_refl _⟩ | exact ⟨hxc,Nat.le_refl _⟩ | exact Or.inr trivial | exact Or.inl trivial | exact ⟨Or.inl trivial,Or.inr trivial⟩ | exact ⟨by omega,by omega,Nat.le_refl _⟩) ?_)
 refine retI ht0 _ rfl (of_decide_eq_true rfl) (by simp [SV.okN,SC.okN]) ?_
 simp (maxSteps:=2000000) only [go_sem,↓condS,↓runOp,↓reduceIte,Nat.reduceLT,Nat.reduceEqDiff,reduceCtorEq,setAt]
 repeat (with_reducible refine And.intro (by first | exact hi | exact hc | exact hxi | exact hxc | exact ⟨hi,Nat.le_refl _⟩ | exact ⟨hc,Nat.le_refl _⟩ | exact ⟨hxi,Nat.le_refl _⟩ | exact ⟨hxc,Nat.le_refl _⟩ | exact Or.inr trivial | exact Or.inl trivial | exact ⟨Or.inl trivial,Or.inr trivial⟩ | exact ⟨by omega,by omega,Nat.le_refl _⟩) ?_)
 refine ⟨88,Or.inr ⟨by kernel_rfl,_,_,rfl⟩,⟨_,Try.func88,by kernel_rfl,by kernel_rfl⟩,?_⟩
 refine call_intro (crD (i:=i) (c:=c) (m:=inM m i now ⟨1,1,b,t,v,got⟩) (m':=outM m i now ⟨1,1,b,t,v,got⟩) (Nat.le_refl _) ⟨by simp [look,bkM,inM,D.begS,iI,nz0],rfl,⟨_,_,rfl,Nat.le_refl _,fun _ _=>rfl⟩,⟨_,_,rfl,Nat.le_refl _,fun _ _=>rfl⟩,⟨_,_,rfl,Nat.le_refl _,fun _ _=>rfl⟩,⟨_,_,rfl,by simp [inM],fun e _=>seC_new (k0:=⟨1,1,b,t,v,got⟩) hi ht.tk rfl (by rw [ht.la];rfl) e⟩,⟨_,_,rfl,Nat.le_refl _,fun _ _=>rfl⟩,⟨_,_,rfl,by simp [inM],fun x _=>Eq.trans (ite_congr rfl (fun _=>rfl) (fun _=>rfl)) (tkF_new (t:=7) (k0:=⟨1,1,b,t,v,got⟩) hi x)⟩,rfl,rfl⟩ (fun E w h=>task_own w E _ i c ⟨1,1,b,t,v,got⟩ ht.at ht.ln ht.l1 ht.rm ht.cell h)) (lt11 (Nat.le_refl _)) ?_
 simp (maxSteps:=2000000) only [go_sem,↓condS,↓runOp,↓reduceIte,Nat.reduceLT,Nat.reduceLeDiff,Nat.reduceAdd,Nat.reduceEqDiff,reduceCtorEq,killO,dO,mO,bkM,bkY,hubC,iI,ho,mkO_rs]
 rw [← hR,← hW]
 exact retR (p:=11) (q:=12) rfl (by simp) (fun E E'=>rfl) ⟨rfl,rfl,⟨_,_,rfl,Nat.le_refl _,fun _ _=>rfl⟩,⟨_,_,rfl,Nat.le_refl _,fun _ _=>rfl⟩,⟨_,_,rfl,Nat.le_refl _,fun _ _=>rfl⟩,⟨_,_,rfl,Nat.le_refl _,fun _ _=>rfl⟩,⟨_,_,rfl,Nat.le_refl _,fun _ _=>rfl⟩,⟨_,_,rfl,Nat.le_refl _,fun _ _=>rfl⟩,rfl⟩
set_option maxRecDepth 100000 in
set_option maxHeartbeats 4000000 in
theorem mstep_2tf (w:World) (E:Env) (m:D.Pm) (i c:Nat) (now:Int) (ln:Nat) (b t v:Int) (got:Bool) (ht:StAt m i c now ⟨2,ln,b,t,v,got⟩ ⟨2,ln,b,t,v,got⟩) (hrd:(m.S.getD i D.se0).rd=true) (ho:(D.taskT (inM m i now ⟨2,ln,b,t,v,got⟩) i ⟨2,ln,b,t,v,got⟩).2.2=false) (h:Handed w E 10 (rO nz0 m) []) :
  Calls Try.prog 37 (([.c (.ptr (0,0,0) 0),.c (iI i),.c (iI now)]:List SV).map (SV.den E)).toArray w (EffR w E 10 (takesO E (rO nz0 m)) (.tup []) 2 fun b'=>killO [3,4]++rO ⟨b',b' + 1,6,7⟩ (stM m i now ⟨2,ln,b,t,v,got⟩)):=by
 have hse:seC 7 m.S i=[.ifc (tkIf 2) (.ptr (7,i,0) 0),.v (.bool true),iI c,iI (m.S.getD i D.se0).ak,iI (m.S.getD i D.se0).av]:=by
  unfold seC;rw [ht.tk,hrd,ht.la];simp only [taskI]
 have hf:tkF 7 m.S i = .bk (tkC (.ptr (7,i,0) 0) ⟨2,ln,b,t,v,got⟩) (tkTy 2):=by unfold tkF;rw [ht.tk];rfl
 simp only [tkC,tkTy,iI] at hf
 refine enterO (c:=ir37) (rs:=rs37) (nt:=nt37) h _ Try.func37 rfl (by kernel_rfl) (by kernel_rfl) rfl (by simp [okVs,SV.okN,SC.okN,iI]) (of_decide_eq_true rfl) ?_
 rw [show stM m i now ⟨2,ln,b,t,v,got⟩=outM m i now ⟨2,ln,b,t,v,got⟩ from if_neg (by rw [ho];simp)]
 generalize hR:EffR w E 10 (takesO E (rO nz0 m)) _ 2 _=R
 generalize hW:takesO E (rO nz0 m)=W
 have hi:=ht.hi
 have hc:=ht.hc
 obtain ⟨x1,x2,x3,x4⟩:=outM_S (m:=m) (i:=i) (now:=now) (k0:=⟨2,ln,b,t,v,got⟩) hi
 have hxi:i<(outM m i now ⟨2,ln,b,t,v,got⟩).S.length:=by omega
 have hxc:c<(outM m i now ⟨2,ln,b,t,v,got⟩).C.length:=by rw [outM_C];exact hc
 simp only [iI] at hse
 simp (maxSteps:=2000000) only [ir37,nt37,rs37,go_sem,↓runOp,↓reduceIte,Nat.reduceLT,Nat.reduceLeDiff,Nat.reduceAdd,Nat.reduceEqDiff,reduceCtorEq,rO,mO,nz0,bkM,nilP,bkY,hubC,iI]
 repeat (with_reducible refine And.intro (by first | exact hi | exact hc | exact hxi | exact hxc | exact ⟨hi,Nat.le_refl _⟩ | exact ⟨hc,Nat.le_refl _⟩ | exact ⟨hxi,Nat.le_refl _⟩ | exact ⟨hxc,Nat.le_refl _⟩ | exact Or.inr trivial | exact Or.inl trivial | exact ⟨Or.inl trivial,Or.inr trivial⟩ | exact ⟨by omega,by omega,Nat.le_refl _⟩) ?_)
 refine draw_vc (by kernel_rfl) (mkTab_ok _ _) (of_decide_eq_true rfl) (of_decide_eq_true rfl) ?_
 repeat (first | simp (maxSteps:=2000000) only [go_sem,↓runOp,↓gateD,↓runD,↓reduceIte,Nat.reduceLT,Nat.reduceLeDiff,Nat.reduceAdd,Nat.reduceEqDiff,reduceCtorEq,hse,Int.toNat_natCast] | rw [dr_cons])
 repeat (with_reducible refine And.intro (by first | exact hi | exact hc | exact hxi | exact hxc | exact ⟨hi,Nat.le_refl _⟩ | exact ⟨hc,Nat.le_refl _⟩ | exact ⟨hxi,Nat.le_refl _⟩ | exact ⟨hxc,Nat.le_refl _⟩ | exact Or.inr trivial | exact Or.inl trivial | exact ⟨Or.inl trivial,Or.inr trivial⟩ | exact ⟨by omega,by omega,Nat.le_refl _⟩) ?_)
 refine call_inline (c:=ir50) (rs:=rs50) (nt:=nt50) 1000 (mkTab_ok _ _) Try.func50 rfl (by kernel_rfl) (by kernel_rfl) rfl (by simp [okVs,SV.okN,SC.okN]) (of_decide_eq_true rfl) (fun E0 a0 ht0=>?_)
 simp (maxSteps:=2000000) only [ir50,nt50,rs50,go_sem,↓condS,↓runOp,↓reduceIte,Nat.reduceLT,Nat.reduceLeDiff,Nat.reduceAdd,Nat.reduceEqDiff,reduceCtorEq]
 refine retI ht0 _ rfl (of_decide_eq_true rfl) (by simp [SV.okN,ok1L]) ?_
 simp (maxSteps:=2000000) only [go_sem,↓condS,↓runOp,↓reduceIte,Nat.reduceLT,Nat.reduceLeDiff,Nat.reduceAdd,Nat.reduceEqDiff,reduceCtorEq,hse]
 repeat (with_reducible refine And.intro (by first | exact hi | exact hc | exact hxi | exact hxc | exact ⟨hi,Nat.le_refl _⟩ | exact ⟨hc,Nat.le_refl _⟩ | exact ⟨hxi,Nat.le_refl _⟩ | exact ⟨hxc,Nat.le_refl _⟩ | exact Or.inr trivial | exact Or.inl trivial | exact ⟨Or.inl trivial,Or.inr trivial⟩ | exact ⟨by omega,by omega,Nat.le_refl _⟩) ?_)
 refine ⟨88,Or.inr ⟨by kernel_rfl,_,_,rfl⟩,⟨_,Try.func88,by kernel_rfl,by kernel_rfl⟩,?_⟩
 refine call_intro (crD (i:=i) (c:=c) (m:=inM m i now ⟨2,ln,b,t,v,got⟩) (m':=outM m i now ⟨2,ln,b,t,v,got⟩) (Nat.le_refl _) ⟨by simp [look,bkM,inM,D.begS,iI,nz0],rfl,⟨_,_,rfl,Nat.le_refl _,fun _ _=>rfl⟩,⟨_,_,rfl,Nat.le_refl _,fun _ _=>rfl⟩,⟨_,_,rfl,Nat.le_refl _,fun _ _=>rfl⟩,⟨_,_,rfl,by simp [inM],fun e _=>seC_in hi ht.tk rfl hrd e⟩,⟨_,_,rfl,Nat.le_refl _,fun _ _=>rfl⟩,⟨_,_,rfl,by simp [inM],fun x _=>tkF_in hi ht.tk x⟩,rfl,rfl⟩ (fun E w h=>task_own w E _ i c ⟨2,ln,b,t,v,got⟩ ht.at ht.ln ht.l1 ht.rm ht.cell h)) (lt11 (Nat.le_refl _)) ?_
 simp (maxSteps:=2000000) only [go_sem,↓condS,↓runOp,↓reduceIte,Nat.reduceLT,Nat.reduceLeDiff,Nat.reduceAdd,Nat.reduceEqDiff,reduceCtorEq,killO,dO,mO,bkM,bkY,hubC,iI,ho,mkO_rs]
 rw [← hR,← hW]
 exact retR (p:=11) (q:=12) rfl (by simp) (fun E E'=>rfl) ⟨rfl,rfl,⟨_,_,rfl,Nat.le_refl _,fun _ _=>rfl⟩,⟨_,_,rfl,Nat.le_refl _,fun _ _=>rfl⟩,⟨_,_,rfl,Nat.le_refl _,fun _ _=>rfl⟩,⟨_,_,rfl,Nat.le_refl _,fun _ _=>rfl⟩,⟨_,_,rfl,Nat.le_refl _,fun _ _=>rfl⟩,⟨_,_,rfl,Nat.le_refl _,fun _ _=>rfl⟩,rfl⟩
set_option maxRecDepth 100000 in
set_option maxHeartbeats 4000000 in
theorem mstep_2ff (w:World) (E:Env) (m:D.Pm) (i c:Nat) (now:Int) (ln:Nat) (b t v:Int) (got:Bool) (ht:StAt m i c now ⟨2,ln,b,t,v,got⟩ ⟨2,1,b,t,v,got⟩) (hrd:(m.S.getD i D.se0).rd=false) (ho:(D.taskT (inM m i now ⟨2,1,b,t,v,got⟩) i ⟨2,1,b,t,v,got⟩).2.2=false) (h:Handed w E 10 (rO nz0 m) []) :
  Calls Try.prog 37 (([.c (.ptr (0,0,0) 0),.c (iI i),.c (iI now)]:List SV).map (SV.den E)).toArray w (EffR w E 10 (takesO E (rO nz0 m)) (.tup []) 2 fun b'=>killO [3,4]++rO ⟨b',b' + 1,6,7⟩ (stM m i now ⟨2,1,b,t,v,got⟩)):=by
 have hse:seC 7 m.S i=[.ifc (tkIf 2) (.ptr (7,i,0) 0),.v (.bool false),iI c,iI (m.S.getD i D.se0).ak,iI (m.S.getD i D.se0).av]:=by
  unfold seC;rw [ht.tk,hrd,ht.la];simp only [taskI]
 have hf:tkF 7 m.S i = .bk (tkC (.ptr (7,i,0) 0) ⟨2,ln,b,t,v,got⟩) (tkTy 2):=by unfold tkF;rw [ht.tk];rfl
 simp only [tkC,tkTy,iI] at hf
 refine enterO (c:=ir37) (rs:=rs37) (nt:=nt37) h _ Try.func37 rfl (by kernel_rfl) (by kernel_rfl) rfl (by simp [okVs,SV.okN,SC.okN,iI]) (of_decide_eq_true rfl) ?_
 rw [show stM m i now ⟨2,1,b,t,v,got⟩=outM m i now ⟨2,1,b,t,v,got⟩ from if_neg (by rw [ho];simp)]
 generalize hR:EffR w E 10 (takesO E (rO nz0 m)) _ 2 _=R
 generalize hW:takesO E (rO nz0 m)=W
 have hi:=ht.hi
 have hc:=ht.hc
 obtain ⟨x1,x2,x3,x4⟩:=outM_S (m:=m) (i:=i) (now:=now) (k0:=⟨2,1,b,t,v,got⟩) hi
 have hxi:i<(outM m i now ⟨2,1,b,t,v,got⟩).S.length:=by omega
 have hxc:c<(outM m i now ⟨2,1,b,t,v,got⟩).C.length:=by rw [outM_C];exact hc
 simp only [iI] at hse
 simp (maxSteps:=2000000) only [ir37,nt37,rs37,go_sem,↓runOp,↓reduceIte,Nat.reduceLT,Nat.reduceLeDiff,Nat.reduceAdd,Nat.reduceEqDiff,reduceCtorEq,rO,mO,nz0,bkM,nilP,bkY,hubC,iI]
 repeat (with_reducible refine And.intro (by first | exact hi | exact hc | exact hxi | exact hxc | exact ⟨hi,Nat.le_refl _⟩ | exact ⟨hc,Nat.le_refl _⟩ | exact ⟨hxi,Nat.le_refl _⟩ | exact ⟨hxc,Nat.le_refl _⟩ | exact Or.inr trivial | exact Or.inl trivial | exact ⟨Or.inl trivial,Or.inr trivial⟩ | exact ⟨by omega,by omega,Nat.le_refl _⟩) ?_)
 refine draw_vc (by kernel_rfl) (mkTab_ok _ _) (of_decide_eq_true rfl) (of_decide_eq_true rfl) ?_
 repeat (first | simp (maxSteps:=2000000) only [go_sem,↓runOp,↓gateD,↓runD,↓reduceIte,Nat.reduceLT,Nat.reduceLeDiff,Nat.reduceAdd,Nat.reduceEqDiff,reduceCtorEq,hse,Int.toNat_natCast] | rw [dr_cons])
 repeat (with_reducible refine And.intro (by first | exact hi | exact hc | exact hxi | exact hxc | exact ⟨hi,Nat.le_refl _⟩ | exact ⟨hc,Nat.le_refl _⟩ | exact ⟨hxi,Nat.le_refl _⟩ | exact ⟨hxc,Nat.le_refl _⟩ | exact Or.inr trivial | exact Or.inl trivial | exact ⟨Or.inl trivial,Or.inr trivial⟩ | exact ⟨by omega,by omega,Nat.le_refl _⟩) ?_)
 refine call_inline (c:=ir50) (rs:=rs50) (nt:=nt50) 1000 (mkTab_ok _ _) Try.func50 rfl (by kernel_rfl) (by kernel_rfl) rfl (by simp [okVs,SV.okN,SC.okN]) (of_decide_eq_true rfl) (fun E0 a0 ht0=>?_)
 simp (maxSteps:=2000000) only [ir50,nt50,rs50,go_sem,↓condS,↓runOp,↓reduceIte,Nat.reduceLT,Nat.reduceLeDiff,Nat.reduceAdd,Nat.reduceEqDiff,reduceCtorEq]
 refine retI ht0 _ rfl (of_decide_eq_true rfl) (by simp [SV.okN,ok1L]) ?_
 simp (maxSteps:=2000000) only [go_sem,↓condS,↓runOp,↓reduceIte,Nat.reduceLT,Nat.reduceLeDiff,Nat.reduceAdd,Nat.reduceEqDiff,reduceCtorEq,hse,setAt]
 repeat (with_reducible refine And.intro (by first | exact hi | exact hc | exact hxi | exact hxc | exact ⟨hi,Nat.le_refl _⟩ | exact ⟨hc,Nat.le_refl _⟩ | exact ⟨hxi,Nat.le_refl _⟩ | exact ⟨hxc,Nat.le_refl _⟩ | exact Or.inr trivial | exact Or.inl trivial | exact ⟨Or.inl trivial,Or.inr trivial⟩ | exact ⟨by omega,by omega,Nat.le_refl _⟩) ?_)
 refine ⟨118,Or.inl ⟨by kernel_rfl,und_ex (by kernel_rfl)⟩,⟨_,Try.func118,by kernel_rfl,by kernel_rfl⟩,?_⟩
 refine call_inline (c:=ir118) (rs:=rs118) (nt:=nt118) 1000 (mkTab_ok _ _) Try.func118 rfl (by kernel_rfl) (by kernel_rfl) rfl (by simp [okVs,SV.okN,SC.okN]) (of_decide_eq_true rfl) (fun E0 a0 ht0=>?_)
 simp (maxSteps:=2000000) only [ir118,nt118,rs118,go_sem,↓runOp,↓reduceIte,Nat.reduceLT,Nat.reduceLeDiff,Nat.reduceAdd,Nat.reduceEqDiff,reduceCtorEq,hf]
 repeat (with_reducible refine And.intro (by first | exact hi | exact hc | exact hxi | exact hxc | exact ⟨hi,Nat.le_refl _⟩ | exact ⟨hc,Nat.le_refl _⟩ | exact ⟨hxi,Nat.le_refl _⟩ | exact ⟨hxc,Nat.le_refl _⟩ | exact Or.inr trivial | exact Or.inl trivial | exact ⟨Or.inl trivial,Or.inr trivial⟩ | exact ⟨by omega,by omega,Nat.le_refl _⟩) ?_)
 refine retI ht0 _ rfl (of_decide_eq_true rfl) (by simp [SV.okN,SC.okN]) ?_
 simp (maxSteps:=2000000) only [go_sem,↓condS,↓runOp,↓reduceIte,Nat.reduceLT,Nat.reduceEqDiff,reduceCtorEq,setAt]
 repeat (with_reducible refine And.intro (by first | exact hi | exact hc | exact hxi | exact hxc | exact ⟨hi,Nat.le_refl _⟩ | exact ⟨hc,Nat.le_refl _⟩ | exact ⟨hxi,Nat.le_refl _⟩ | exact ⟨hxc,Nat.le_refl _⟩ | exact Or.inr trivial | exact Or.inl trivial | exact ⟨Or.inl trivial,Or.inr trivial⟩ | exact ⟨by omega,by omega,Nat.le_refl _⟩) ?_)
 refine ⟨88,Or.inr ⟨by kernel_rfl,_,_,rfl⟩,⟨_,Try.func88,by kernel_rfl,by kernel_rfl⟩,?_⟩
 refine call_intro (crD (i:=i) (c:=c) (m:=inM m i now ⟨2,1,b,t,v,got⟩) (m':=outM m i now ⟨2,1,b,t,v,got⟩) (Nat.le_refl _) ⟨by simp [look,bkM,inM,D.begS,iI,nz0],rfl,⟨_,_,rfl,Nat.le_refl _,fun _ _=>rfl⟩,⟨_,_,rfl,Nat.le_refl _,fun _ _=>rfl⟩,⟨_,_,rfl,Nat.le_refl _,fun _ _=>rfl⟩,⟨_,_,rfl,by simp [inM],fun e _=>seC_new (k0:=⟨2,1,b,t,v,got⟩) hi ht.tk rfl (by rw [ht.la];rfl) e⟩,⟨_,_,rfl,Nat.le_refl _,fun _ _=>rfl⟩,⟨_,_,rfl,by simp [inM],fun x _=>Eq.trans (ite_congr rfl (fun _=>rfl) (fun _=>rfl)) (tkF_new (t:=7) (k0:=⟨2,1,b,t,v,got⟩) hi x)⟩,rfl,rfl⟩ (fun E w h=>task_own w E _ i c ⟨2,1,b,t,v,got⟩ ht.at ht.ln ht.l1 ht.rm ht.cell h)) (lt11 (Nat.le_refl _)) ?_
 simp (maxSteps:=2000000) only [go_sem,↓condS,↓runOp,↓reduceIte,Nat.reduceLT,Nat.reduceLeDiff,Nat.reduceAdd,Nat.reduceEqDiff,reduceCtorEq,killO,dO,mO,bkM,bkY,hubC,iI,ho,mkO_rs]
 rw [← hR,← hW]
 exact retR (p:=11) (q:=12) rfl (by simp) (fun E E'=>rfl) ⟨rfl,rfl,⟨_,_,rfl,Nat.le_refl _,fun _ _=>rfl⟩,⟨_,_,rfl,Nat.le_refl _,fun _ _=>rfl⟩,⟨_,_,rfl,Nat.le_refl _,fun _ _=>rfl⟩,⟨_,_,rfl,Nat.le_refl _,fun _ _=>rfl⟩,⟨_,_,rfl,Nat.le_refl _,fun _ _=>rfl⟩,⟨_,_,rfl,Nat.le_refl _,fun _ _=>rfl⟩,rfl⟩
end Go.Proofs.Ytcloeignccpljaa.Z
